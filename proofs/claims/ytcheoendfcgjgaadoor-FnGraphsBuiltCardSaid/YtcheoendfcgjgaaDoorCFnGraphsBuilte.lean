/- Parts: contracts and plain lemmas for the law FnGraphsBuilt, part 5 of 7 (what the Go functions answer). -/
import Derived.Sort.OwnSortedInts
import Derived.ArgAppend
import Derived.Laws.CopyRow
import Derived.Shelf.SlGeneric
import Derived.Shelf.Slices.Turned
import Derived.Ground.NamesProg
import Derived.Test.YtcheoendfcgjgaaDoorProg
import Derived.Deep.AppendLies
import Derived.Deep.RegionHeld3
import Derived.Deep.DrawnRows
import Derived.Deep.RegionLaw
import Derived.Laws.BitsLemmas
import Derived.Test.YtcheoendfcgjgaaDoorCFnGraphsBuilta
import Derived.Test.YtcheoendfcgjgaaDoorCFnGraphsBuiltb
import Derived.Test.YtcheoendfcgjgaaDoorCFnGraphsBuiltc
import Derived.Test.YtcheoendfcgjgaaDoorCFnGraphsBuiltd
set_option linter.unusedVariables false
set_option linter.unusedSimpArgs false
namespace Go.Proofs.YtcheoendfcgjgaaDoor.P
open Go.RowKit Go.Proofs.YtcheoendfcgjgaaDoorW.PrintWords Go.Proofs.YtcheoendfcgjgaaDoorW.PrintLast Go.Proofs.YtcheoendfcgjgaaDoorW.PrintMore
attribute [local go_sem] max2_int min2_int max_two min_two max_three min_three max_four min_four
def spec_OppositeGraph.l0 : Nat → List Int → Int → Int → Int → List Int → Int → List Int → Option (Int × List Int × Bool)
 | 0, _, _, _, _, _, _, _ => none
 | k + 1, x15, x16, x17, x639000, x639001, x642000, x642001 => if x17 < x16 then (if 0 ≤ x17 then (if x17 < (x15.length : Int) then (if 0 ≤ x639000 then (if x642001.length < 17592186044416 then (spec_OppositeGraph.l0 k x15 x16 (wrap64 (x17 + 1)) x639000 x639001 x642000 (x642001 ++ [Go.bits .andNot .i64 (Go.bits .andNot .i64 (wrap64 ((shl .i64 1 x639000) - 1)) (rd x15 x17)) (shl .i64 1 x17)])) else (none)) else (none)) else (none)) else (none)) else (some (x642000, x642001, true))
def spec_OppositeGraph.f (k : Nat) (a0_0 : Int) (l0_1 : List Int) : Option (Int × List Int × Bool) := (spec_deGood.f k a0_0 l0_1).bind fun t640 => (if t640 = true then (spec_OppositeGraph.l0 k l0_1 (l0_1.length : Int) 0 a0_0 l0_1 a0_0 ([] : List Int)) else (some (0, ([] : List Int), false)))
theorem spec_OppositeGraph.mono_l : ∀ k, (∀ y0 y1 y2 y3 y4 y5 y6, LeO (spec_OppositeGraph.l0 k y0 y1 y2 y3 y4 y5 y6) (spec_OppositeGraph.l0 (k + 1) y0 y1 y2 y3 y4 y5 y6))
 | 0 => fun _ _ _ _ _ _ _ r h => by simp [spec_OppositeGraph.l0] at h
 | k + 1 => by
  have ih0 := spec_OppositeGraph.mono_l k
  ·
   intro y0 y1 y2 y3 y4 y5 y6
   unfold spec_OppositeGraph.l0
   repeat' first
   | (with_reducible exact ih0 _ _ _ _ _ _ _)
   | (with_reducible exact LeO.refl _)
   | (with_reducible refine LeO.ite ?_ ?_)
theorem spec_OppositeGraph.mono : ∀ a0 a1 k, LeO (spec_OppositeGraph.f k a0 a1) (spec_OppositeGraph.f (k + 1) a0 a1) := by
 intro a0 a1 k
 have ih0 := spec_OppositeGraph.mono_l k
 unfold spec_OppositeGraph.f
 repeat' first
   | (with_reducible exact ih0 _ _ _ _ _ _ _)
   | (with_reducible exact spec_deGood.mono _ _ _)
   | (with_reducible exact LeO.refl _)
   | (with_reducible refine LeO.ite ?_ ?_)
   | (with_reducible refine LeO.bind ?_ (fun _ => ?_))
def spec_OppositeGraph.T7 : Bool × List (List Nat × List Nat) := (true, [([], []), ([0], [0]), ([], []), ([2], [2]), ([3], [3]), ([4], [4]), ([], []), ([5, 6], [5, 6]), ([], []), ([8], [8]), ([7, 9], [7, 9]), ([10], [10]), ([1, 11], [1, 11]), ([0, 1, 2, 3, 4, 5, 6, 7, 8, 9, 10, 11, 12], []), ([13, 12, 12, 0, 1, 2, 3, 4, 5, 6, 7, 8, 9, 10, 11, 12], [12, 13])])
def spec_OppositeGraph.B7 : List Nat := [0, 1, 0, 4, 12, 28, 0, 124, 0, 256, 1020, 2044, 4095, 8191, 16383]
theorem spec_OppositeGraph.tab7 : rtab .any (opsOf Tryd.f32 7) = spec_OppositeGraph.T7 := by kernel_rfl
theorem spec_OppositeGraph.bits7 : waitsOk spec_OppositeGraph.T7.2 spec_OppositeGraph.B7 = true := by kernel_rfl
set_option maxHeartbeats 8000000 in
set_option maxRecDepth 100000 in
theorem spec_OppositeGraph.calls (k : Nat) (a0_0 : Int) (A0_1 : Option Addr) (c0_1 : Nat) (l0_1 : List Int) (r1 : Int) (r2 : List Int) (r3 : Bool) (w : World) (hr0_1 : Kd.C (Kd.int .i64) w A0_1 l0_1.length l0_1) (hc0_1 : l0_1.length ≤ c0_1) (h : spec_OppositeGraph.f k a0_0 l0_1 = some (r1, r2, r3)) :
  Calls Tryd.prog 32 #[.agg #[.int .i64 a0_0, .slice A0_1 l0_1.length c0_1]] w fun e w' => ∃ v1_ : Value, e = .returned (.tuple #[.agg #[.int .i64 r1, v1_], .bool r3]) ∧ Kd.R (Kd.int .i64) 3 w' w.heap.size (fun _ => True) v1_ r2 ∧ Below w.heap.size w w' := by
 have hu39 := Tryd.underlying39
 have HR0_1 := Aside0.mk hr0_1
 have HC0_1 := Aside0.mk hc0_1
 clear hr0_1 hc0_1
 have HB := Aside0.mk (Below.refl w.heap.size w)
 have H : ((spec_deGood.f k a0_0 l0_1).bind fun t640 => (if t640 = true then (spec_OppositeGraph.l0 k l0_1 (l0_1.length : Int) 0 a0_0 l0_1 a0_0 ([] : List Int)) else (some (0, ([] : List Int), false)))) = some (r1, r2, r3) := h
 clear h
 replace H := Option.bind_eq_some_iff.mp H
 obtain ⟨t640, A20, H⟩ := H
 replace H : (if t640 = true then (spec_OppositeGraph.l0 k l0_1 (l0_1.length : Int) 0 a0_0 l0_1 a0_0 ([] : List Int)) else (some (0, ([] : List Int), false))) = some (r1, r2, r3) := H
 have A2 := Aside0.mk A20
 clear A20
 by_cases c3 : t640 = true
 ·
  subst c3
  have H1 : (spec_OppositeGraph.l0 k l0_1 (l0_1.length : Int) 0 a0_0 l0_1 a0_0 ([] : List Int)) = some (r1, r2, r3) := by rw [if_pos rfl] at H; exact H
  clear H
  have H := H1
  clear H1
  have H' := Aside0.mk H
  clear H
  go_enter Tryd.func32, Tryd.ntmps32
  go_wp2_with (first | ((with_reducible refine gate_dst (N := 1) rfl ?_); refine box_event ?hg (N := 1) ?hd (cs := #[.int .i64 a0_0, .slice A0_1 l0_1.length c0_1]) (t := 39) ?hr ?_; (case hd => rfl); (case hg => rfl); (case hr => first | (go_simp; done) | (go_simp; rfl)); intro gb638 hg w4 hbox hb; have n0_ := Aside0.mk (below_step (by repeat ((with_reducible exact HB.out))) hb); have n1_ := Aside0.mk (hbox); have n2_ := Aside0.mk ((by rw [hg]; exact (below_size (by repeat ((with_reducible exact HB.out)))) : w.heap.size ≤ gb638)); have n3_ := Aside0.mk ((by rw [hg]; exact (below_size (by repeat ((with_reducible exact HB.out)))) : w.heap.size ≤ gb638)); clear HB; have HB := n0_; have BK638 := n1_; have GW638 := n2_; have GE638 := n3_; clear n0_ n1_ n2_ n3_; clear hb hbox hg) | ((with_reducible refine gate_dst (N := 2) rfl ?_); refine box_event ?hg (N := 2) ?hd (cs := #[.int .i64 0, .slice none 0 0]) (t := 39) ?hr ?_; (case hd => rfl); (case hg => rfl); (case hr => first | (go_simp; done) | (go_simp; rfl)); intro gb639 hg w5 hbox hb; have n0_ := Aside0.mk (blk_below (g := gb638) (o := .cells #[.int .i64 a0_0, .slice A0_1 l0_1.length c0_1] 39 (0, 0)) (by (with_reducible repeat (fail)); exact BK638.out) hb); have n1_ := Aside0.mk (below_step (by repeat ((with_reducible exact HB.out))) hb); have n2_ := Aside0.mk (hbox); have n3_ := Aside0.mk ((by rw [hg]; exact (below_size (by repeat ((with_reducible exact HB.out)))) : w.heap.size ≤ gb639)); have n4_ := Aside0.mk ((by rw [hg]; exact (below_size (by repeat ((with_reducible exact HB.out)))) : w.heap.size ≤ gb639)); have n5_ := Aside0.mk ((by rw [hg]; exact Nat.ne_of_lt (blk_lt (g := gb638) (o := .cells #[.int .i64 a0_0, .slice A0_1 l0_1.length c0_1] 39 (0, 0)) (by (with_reducible repeat (fail)); exact BK638.out)) : gb638 ≠ gb639)); have n6_ := Aside0.mk ((by rw [hg]; exact Nat.ne_of_gt (blk_lt (g := gb638) (o := .cells #[.int .i64 a0_0, .slice A0_1 l0_1.length c0_1] 39 (0, 0)) (by (with_reducible repeat (fail)); exact BK638.out)) : gb639 ≠ gb638)); clear BK638; clear HB; have BK638 := n0_; have HB := n1_; have BK639 := n2_; have GW639 := n3_; have GE639 := n4_; have NB638_639 := n5_; have NB639_638 := n6_; clear n0_ n1_ n2_ n3_ n4_ n5_ n6_; clear hb hbox hg; have hnb6 := NB638_639.out; have hnc6 := NB639_638.out; have hcz7_0 : w5.cell? ⟨gb638, 0, none⟩ = some (.int .i64 a0_0) := (blk_cell BK638.out 0).trans rfl; have hcz7_1 : w5.cell? ⟨gb638, 1, none⟩ = some (.slice A0_1 l0_1.length c0_1) := (blk_cell BK638.out 1).trans rfl; have hfz7_0 := blk_frozen BK638.out 0; have hfz7_1 := blk_frozen BK638.out 1) | ((with_reducible refine gate_callee (f := 63) rfl ?_); refine goesL_ (some 8) rfl rfl Tryd.func63 (by kernel_rfl) rfl #[.agg #[.int .i64 a0_0, .slice A0_1 l0_1.length c0_1]] rfl (by (try simp only [List.map_toArray, List.map_cons, List.map_nil]); first | done | rfl) ?_; (with_reducible refine (spec_deGood.calls k a0_0 _ _ l0_1 true _ ?side1 ?side2 A2.out).mono ?_); (case side1 => repeat (exact (Kd.C_below HR0_1.out HB.out))); (case side2 => exact HC0_1.out); rintro e w8 ⟨rfl, hb⟩; refine ⟨_, rfl, ?_⟩; have n0_ := Aside0.mk (blk_below (g := gb638) (o := .cells #[.int .i64 a0_0, .slice A0_1 l0_1.length c0_1] 39 (0, 0)) (by (with_reducible repeat (fail)); exact BK638.out) hb); have n1_ := Aside0.mk (blk_below (g := gb639) (o := .cells #[.int .i64 0, .slice none 0 0] 39 (0, 0)) (by (with_reducible repeat (fail)); exact BK639.out) hb); have n2_ := Aside0.mk (below_step (by repeat ((with_reducible exact HB.out))) hb); clear BK638; clear BK639; clear HB; have BK638 := n0_; have BK639 := n1_; have HB := n2_; clear n0_ n1_ n2_; (try clear hb); (try clear hb2); (try clear hk); (try clear hi); have hcz9_0 : w8.cell? ⟨gb638, 0, none⟩ = some (.int .i64 a0_0) := (blk_cell BK638.out 0).trans rfl; have hcz9_1 : w8.cell? ⟨gb638, 1, none⟩ = some (.slice A0_1 l0_1.length c0_1) := (blk_cell BK638.out 1).trans rfl; have hfz9_0 := blk_frozen BK638.out 0; have hfz9_1 := blk_frozen BK638.out 1) | ((with_reducible refine gate_dst (N := 4) rfl ?_); refine box_event ?hg (N := 4) ?hd (cs := #[.int .i64 0, .slice none 0 0]) (t := 39) ?hr ?_; (case hd => rfl); (case hg => rfl); (case hr => first | (go_simp; done) | (go_simp; rfl)); intro gb641 hg w10 hbox hb; have n0_ := Aside0.mk (blk_below (g := gb638) (o := .cells #[.int .i64 a0_0, .slice A0_1 l0_1.length c0_1] 39 (0, 0)) (by (with_reducible repeat (fail)); exact BK638.out) hb); have n1_ := Aside0.mk (blk_below (g := gb639) (o := .cells #[.int .i64 0, .slice none 0 0] 39 (0, 0)) (by (with_reducible repeat (fail)); exact BK639.out) hb); have n2_ := Aside0.mk (below_step (by repeat ((with_reducible exact HB.out))) hb); have n3_ := Aside0.mk (hbox); have n4_ := Aside0.mk ((by rw [hg]; exact (below_size (by repeat ((with_reducible exact HB.out)))) : w.heap.size ≤ gb641)); have n5_ := Aside0.mk ((by rw [hg]; exact (below_size (by repeat ((with_reducible exact HB.out)))) : w.heap.size ≤ gb641)); have n6_ := Aside0.mk ((by rw [hg]; exact Nat.ne_of_lt (blk_lt (g := gb638) (o := .cells #[.int .i64 a0_0, .slice A0_1 l0_1.length c0_1] 39 (0, 0)) (by (with_reducible repeat (fail)); exact BK638.out)) : gb638 ≠ gb641)); have n7_ := Aside0.mk ((by rw [hg]; exact Nat.ne_of_gt (blk_lt (g := gb638) (o := .cells #[.int .i64 a0_0, .slice A0_1 l0_1.length c0_1] 39 (0, 0)) (by (with_reducible repeat (fail)); exact BK638.out)) : gb641 ≠ gb638)); have n8_ := Aside0.mk ((by rw [hg]; exact Nat.ne_of_lt (blk_lt (g := gb639) (o := .cells #[.int .i64 0, .slice none 0 0] 39 (0, 0)) (by (with_reducible repeat (fail)); exact BK639.out)) : gb639 ≠ gb641)); have n9_ := Aside0.mk ((by rw [hg]; exact Nat.ne_of_gt (blk_lt (g := gb639) (o := .cells #[.int .i64 0, .slice none 0 0] 39 (0, 0)) (by (with_reducible repeat (fail)); exact BK639.out)) : gb641 ≠ gb639)); clear BK638; clear BK639; clear HB; have BK638 := n0_; have BK639 := n1_; have HB := n2_; have BK641 := n3_; have GW641 := n4_; have GE641 := n5_; have NB638_641 := n6_; have NB641_638 := n7_; have NB639_641 := n8_; have NB641_639 := n9_; clear n0_ n1_ n2_ n3_ n4_ n5_ n6_ n7_ n8_ n9_; clear hb hbox hg; have hnb11 := NB641_638.out; have hnc11 := NB638_641.out; have hnb12 := NB641_639.out; have hnc12 := NB639_641.out; have hcz13_0 : w10.cell? ⟨gb641, 0, none⟩ = some (.int .i64 0) := (blk_cell BK641.out 0).trans rfl; have hcz13_1 : w10.cell? ⟨gb641, 1, none⟩ = some (.slice none 0 0) := (blk_cell BK641.out 1).trans rfl; have hfz13_0 := blk_frozen BK641.out 0; have hfz13_1 := blk_frozen BK641.out 1; have hcz14_0 : w10.cell? ⟨gb638, 0, none⟩ = some (.int .i64 a0_0) := (blk_cell BK638.out 0).trans rfl; have hcz14_1 : w10.cell? ⟨gb638, 1, none⟩ = some (.slice A0_1 l0_1.length c0_1) := (blk_cell BK638.out 1).trans rfl; have hfz14_0 := blk_frozen BK638.out 0; have hfz14_1 := blk_frozen BK638.out 1))
  go_loopg [17] k (fun kq v17 w' => ∃ (x17_1 : Int) (x642001_1 : List Int) (u642001 : Value), v17 = .int .i64 x17_1 ∧ Aside0 (spec_OppositeGraph.l0 kq l0_1 (l0_1.length : Int) x17_1 a0_0 l0_1 a0_0 x642001_1 = some (r1, r2, r3)) ∧ Aside0 (kq ≤ k) ∧ Aside0 (Kd.R (Kd.int .i64) 3 w' w.heap.size (fun _ => True) u642001 x642001_1) ∧ Aside0 (w'.heap[gb638]? = some (.cells #[.int .i64 a0_0, (.slice A0_1 l0_1.length c0_1)] 39 (0, 0))) ∧ Aside0 (w'.heap[gb639]? = some (.cells #[.int .i64 0, (.slice none 0 0)] 39 (0, 0))) ∧ Aside0 (w'.heap[gb641]? = some (.cells #[.int .i64 a0_0, u642001] 39 (0, 0))) ∧ Aside0 (Below w.heap.size w w'))
  case atStart => exact ⟨(0), (([] : List Int)), (.slice none 0 0), (by first | rfl | (simp; done) | (simp [*]; done)), H', ⟨Nat.le_refl _⟩, ⟨by first | exact Kd.R_nil _ _ _ _ _ | exact Kd.N_nil _ _ _ _ _ | exact Kd.V_nil _ _ _ _ _ | exact Kd.Q_nil _ _ _ _ _ | exact Kd.S_nil _ _ _ _ _⟩, ⟨by (with_reducible repeat (fail)); refine blk_far ?_ NB638_641.out _; (with_reducible repeat (fail)); refine blk_far ?_ NB638_641.out _; (with_reducible repeat (fail)); exact BK638.out⟩, ⟨by (with_reducible repeat (fail)); refine blk_far ?_ NB639_641.out _; (with_reducible repeat (fail)); refine blk_far ?_ NB639_641.out _; (with_reducible repeat (fail)); exact BK639.out⟩, ⟨by (with_reducible repeat (fail)); refine blk_put (cs := #[.int .i64 a0_0, .slice none 0 0]) ?_ 1 _ rfl; (with_reducible repeat (fail)); refine blk_put (cs := #[.int .i64 0, .slice none 0 0]) ?_ 0 _ rfl; (with_reducible repeat (fail)); exact BK641.out⟩, ⟨by repeat ((with_reducible first | exact HB.out | refine below_set ?_ GE641.out))⟩⟩
  case round =>
   clear H'
   clear hcz13_0
   clear hcz13_1
   clear hcz14_0
   clear hcz14_1
   clear hcz7_0
   clear hcz7_1
   clear hcz9_0
   clear hcz9_1
   clear hfz13_0
   clear hfz13_1
   clear hfz14_0
   clear hfz14_1
   clear hfz7_0
   clear hfz7_1
   clear hfz9_0
   clear hfz9_1
   obtain ⟨x17_1, x642001_1, u642001, rfl, HA, HK1, HO_642001, BK638, BK639, BK641, HB⟩ := hrel
   cases gk with
   | zero => exact absurd HA.out (by simp [spec_OppositeGraph.l0])
   | succ k1 =>
    have H := HA.out
    clear HA
    simp only [spec_OppositeGraph.l0] at H
    by_cases c15 : x17_1 < (l0_1.length : Int)
    ·
     rw [if_pos c15] at H
     have c15b0 : decide (x17_1 < (l0_1.length : Int)) = true := decide_eq_true c15
     clear c15
     by_cases c16 : 0 ≤ x17_1
     ·
      rw [if_pos c16] at H
      have c16b0 : decide (0 ≤ x17_1) = true := decide_eq_true c16
      clear c16
      by_cases c17 : x17_1 < (l0_1.length : Int)
      ·
       rw [if_pos c17] at H
       have c17b0 : decide (x17_1 < (l0_1.length : Int)) = true := decide_eq_true c17
       clear c17
       by_cases c18 : 0 ≤ a0_0
       ·
        rw [if_pos c18] at H
        have c18b0 := eq_true c18
        have c18b1 : decide (0 ≤ a0_0) = true := decide_eq_true c18
        clear c18
        obtain ⟨ji19, hji19⟩ : ∃ j_ : Int, (shl .i64 1 a0_0) = j_ := ⟨_, rfl⟩
        replace H : (if x642001_1.length < 17592186044416 then (spec_OppositeGraph.l0 k1 l0_1 (l0_1.length : Int) (wrap64 (x17_1 + 1)) a0_0 l0_1 a0_0 (x642001_1 ++ [Go.bits .andNot .i64 (Go.bits .andNot .i64 (wrap64 ((ji19) - 1)) (rd l0_1 x17_1)) (shl .i64 1 x17_1)])) else (none)) = some (r1, r2, r3) := by first | (rw [hji19] at H; exact H) | (simp only [hji19] at H ⊢; exact H)
        have hji19_ : (IntKind.i64.wrap (1 * 2 ^ min a0_0.toNat 64)) = ji19 := hji19
        have hji19z : a0_0 ≤ 64 → (IntKind.i64.wrap (1 * 2 ^ a0_0.toNat)) = ji19 := shl_small hji19
        have hji19u : (IntKind.i64.wrap (2 ^ min a0_0.toNat 64)) = ji19 := by have h_ := hji19_; rw [Int.one_mul] at h_; exact h_
        have hji19v : a0_0 ≤ 64 → (IntKind.i64.wrap (2 ^ a0_0.toNat)) = ji19 := fun hle_ => by have h_ := hji19z hle_; rw [Int.one_mul] at h_; exact h_
        have hji19y : (wrap64 (1 * 2 ^ min a0_0.toNat 64)) = ji19 := (i64_w _).symm.trans hji19_
        have hji19x : a0_0 ≤ 64 → (wrap64 (1 * 2 ^ a0_0.toNat)) = ji19 := fun h_ => (i64_w _).symm.trans (hji19z h_)
        have c20b0 := eq_true (of_decide_eq_true (by first | (with_reducible assumption) | assumption) : 0 ≤ x17_1)
        obtain ⟨ji21, hji21⟩ : ∃ j_ : Int, (shl .i64 1 x17_1) = j_ := ⟨_, rfl⟩
        replace H : (if x642001_1.length < 17592186044416 then (spec_OppositeGraph.l0 k1 l0_1 (l0_1.length : Int) (wrap64 (x17_1 + 1)) a0_0 l0_1 a0_0 (x642001_1 ++ [Go.bits .andNot .i64 (Go.bits .andNot .i64 (wrap64 ((ji19) - 1)) (rd l0_1 x17_1)) (ji21)])) else (none)) = some (r1, r2, r3) := by first | (rw [hji21] at H; exact H) | (simp only [hji21] at H ⊢; exact H)
        have hji21_ : (IntKind.i64.wrap (1 * 2 ^ min x17_1.toNat 64)) = ji21 := hji21
        have hji21z : x17_1 ≤ 64 → (IntKind.i64.wrap (1 * 2 ^ x17_1.toNat)) = ji21 := shl_small hji21
        have hji21u : (IntKind.i64.wrap (2 ^ min x17_1.toNat 64)) = ji21 := by have h_ := hji21_; rw [Int.one_mul] at h_; exact h_
        have hji21v : x17_1 ≤ 64 → (IntKind.i64.wrap (2 ^ x17_1.toNat)) = ji21 := fun hle_ => by have h_ := hji21z hle_; rw [Int.one_mul] at h_; exact h_
        have hji21y : (wrap64 (1 * 2 ^ min x17_1.toNat 64)) = ji21 := (i64_w _).symm.trans hji21_
        have hji21x : x17_1 ≤ 64 → (wrap64 (1 * 2 ^ x17_1.toNat)) = ji21 := fun h_ => (i64_w _).symm.trans (hji21z h_)
        by_cases c22 : x642001_1.length < 17592186044416
        ·
         rw [if_pos c22] at H
         have LMc22 := Aside0.mk c22
         clear c22
         obtain ⟨y643, hy643⟩ : ∃ y_ : List Int, y_ = (x642001_1 ++ [Go.bits .andNot .i64 (Go.bits .andNot .i64 (wrap64 ((ji19) - 1)) (rd l0_1 x17_1)) (ji21)]) := ⟨_, rfl⟩
         replace H : (spec_OppositeGraph.l0 k1 l0_1 (l0_1.length : Int) (wrap64 (x17_1 + 1)) a0_0 l0_1 a0_0 y643) = some (r1, r2, r3) := by first | (rw [hy643]; with_reducible exact H) | (have H2_ := (Option.bind_some _ _).symm.trans H; rw [hy643]; with_reducible exact H2_) | (have H2_ := (Option.bind_some _ _).symm.trans H; with_reducible exact H2_) | with_reducible exact H | (rw [hy643]; exact H) | exact H
         have Ny643 := Aside0.mk hy643
         clear hy643
         have H' := Aside0.mk H
         clear H
         have p642 : 0 ≤ (x17_1 : Int) := of_decide_eq_true (by first | (with_reducible assumption) | assumption)
         have q642 : x17_1 < (l0_1.length : Int) := of_decide_eq_true (by first | (with_reducible assumption) | assumption)
         obtain ⟨ad642, e642, hx642_0⟩ := Kd.at_int HR0_1.out x17_1 p642 q642
         cases e642
         replace hx642_0 := (HB.out.cell (World.block_lt_of_cell? w _ hx642_0)).trans hx642_0
         replace p642 := eq_true p642
         replace q642 := eq_true q642
         try go_wp2
         have n0_ := Aside0.mk (Kd.R_drew HO_642001.out)
         have n1_ := Aside0.mk (blk_drew BK638.out)
         have n2_ := Aside0.mk (blk_drew BK639.out)
         have n3_ := Aside0.mk (blk_drew BK641.out)
         have n4_ := Aside0.mk (below_drew1 HB.out)
         clear HO_642001
         clear BK638
         clear BK639
         clear BK641
         clear HB
         have HO_642001 := n0_
         have BK638 := n1_
         have BK639 := n2_
         have BK641 := n3_
         have HB := n4_
         clear n0_ n1_ n2_ n3_ n4_
         refine start_ (n := 15) (S := fun w' => w'.cell? ⟨gb641, 0, none⟩ = some (.int .i64 a0_0) ∧ w'.cell? ⟨gb641, 1, none⟩ = some (u642001) ∧ w'.cell? ⟨gb638, 0, none⟩ = some (.int .i64 a0_0) ∧ w'.cell? ⟨gb638, 1, none⟩ = some (.slice (some ad642) l0_1.length c0_1)) (ds := [14]) #[Zz,Zz,Zz,Zz,Zz,Zz,Zz,Zz,Zz,Zz,Zz,Zz,Zz,Zz,Zz] (by kernel_rfl) rfl rfl ⟨(blk_cell BK641.out 0).trans rfl, (blk_cell BK641.out 1).trans rfl, (blk_cell BK638.out 0).trans rfl, (blk_cell BK638.out 1).trans rfl⟩ (fun hHeld => ?_); refine with_tabW spec_OppositeGraph.tab7 spec_OppositeGraph.bits7 (fun HT_ HW_ => ?_)
         generalize wr.drew = w23 at HO_642001 BK638 BK639 BK641 HB hHeld ⊢
         refine pure_ (i := 0) (N := some 22) (v := ?_) (a' := ?_) #[Yy,Zz,Zz,Zz,Zz,Zz,Zz,Zz,Zz,Zz,Zz,Zz,Zz,Zz,Zz] rfl rfl (any_of HT_.out (by kernel_rfl)) (fun _ _ _ h => h) (Or.inl ⟨by rfl, ?_⟩) ?_ ?_
         rotate_left
         ·
          intro w'
          go_simp
          with_reducible rfl
         rotate_left
         ·
          simp only [Act.put, List.setIfInBounds_toArray, List.set_cons_zero, List.set_cons_succ, i64_w, i32_w]
          rfl
         refine pure_ (i := 2) (N := some 24) (v := ?_) (a' := ?_) #[Yy,Zz,Yy,Zz,Zz,Zz,Zz,Zz,Zz,Zz,Zz,Zz,Zz,Zz,Zz] rfl rfl (any_of HT_.out (by kernel_rfl)) (fun _ _ _ h => h) (Or.inl ⟨by rfl, ?_⟩) ?_ ?_
         rotate_left
         ·
          intro w'
          go_simp
          with_reducible rfl
         rotate_left
         ·
          simp only [Act.put, List.setIfInBounds_toArray, List.set_cons_zero, List.set_cons_succ, i64_w, i32_w]
          rfl
         refine pure_ (i := 6) (N := some 28) (v := ?_) (a' := ?_) #[Yy,Zz,Yy,Zz,Zz,Zz,Yy,Zz,Zz,Zz,Zz,Zz,Zz,Zz,Zz] rfl rfl (any_of HT_.out (by kernel_rfl)) (fun _ _ _ h => h) (Or.inl ⟨by rfl, ?_⟩) ?_ ?_
         rotate_left
         ·
          intro w'
          go_simp
          with_reducible rfl
         rotate_left
         ·
          simp only [Act.put, List.setIfInBounds_toArray, List.set_cons_zero, List.set_cons_succ, i64_w, i32_w]
          rfl
         refine pure_ (i := 8) (N := some 30) (v := ?_) (a' := ?_) #[Yy,Zz,Yy,Zz,Zz,Zz,Yy,Zz,Yy,Zz,Zz,Zz,Zz,Zz,Zz] rfl rfl (any_of HT_.out (by kernel_rfl)) (fun _ _ _ h => h) (Or.inl ⟨by rfl, ?_⟩) ?_ ?_
         rotate_left
         ·
          intro w'
          go_simp
          with_reducible rfl
         rotate_left
         ·
          simp only [Act.put, List.setIfInBounds_toArray, List.set_cons_zero, List.set_cons_succ, i64_w, i32_w]
          rfl
         refine pure_ (i := 9) (N := some 31) (v := ?_) (a' := ?_) #[Yy,Zz,Yy,Zz,Zz,Zz,Yy,Zz,Yy,Yy,Zz,Zz,Zz,Zz,Zz] rfl rfl (any_of HT_.out (by kernel_rfl)) (fun _ _ _ h => h) (Or.inl ⟨by rfl, ?_⟩) ?_ ?_
         rotate_left
         ·
          intro w'
          go_simp
          with_reducible rfl
         rotate_left
         ·
          simp only [Act.put, List.setIfInBounds_toArray, List.set_cons_zero, List.set_cons_succ, i64_w, i32_w]
          rfl
         refine take_ (i := 1) (N := some 23) (v := ?_) (a' := ?_) #[Yy,Yy,Yy,Zz,Zz,Zz,Yy,Zz,Yy,Yy,Zz,Zz,Zz,Zz,Zz] rfl rfl (take_ofW HT_.out HW_.out (by kernel_rfl)) (fun _ _ _ h => h) (Or.inl ⟨by rfl, ?_⟩) hHeld ?_ ?_
         rotate_left
         ·
          rintro w' ⟨s0, s1, s2, s3⟩
          go_simp
          with_reducible rfl
         rotate_left
         ·
          simp only [Act.put, List.setIfInBounds_toArray, List.set_cons_zero, List.set_cons_succ, i64_w, i32_w]
          rfl
         refine take_ (i := 3) (N := some 25) (v := ?_) (a' := ?_) #[Yy,Yy,Yy,Yy,Zz,Zz,Yy,Zz,Yy,Yy,Zz,Zz,Zz,Zz,Zz] rfl rfl (take_ofW HT_.out HW_.out (by kernel_rfl)) (fun _ _ _ h => h) (Or.inl ⟨by rfl, ?_⟩) hHeld ?_ ?_
         rotate_left
         ·
          rintro w' ⟨s0, s1, s2, s3⟩
          go_simp
          with_reducible rfl
         rotate_left
         ·
          simp only [Act.put, List.setIfInBounds_toArray, List.set_cons_zero, List.set_cons_succ, i64_w, i32_w]
          rfl
         refine pure_ (i := 4) (N := some 26) (v := ?_) (a' := ?_) #[Yy,Yy,Yy,Yy,Yy,Zz,Yy,Zz,Yy,Yy,Zz,Zz,Zz,Zz,Zz] rfl rfl (any_of HT_.out (by kernel_rfl)) (fun _ _ _ h => h) (Or.inl ⟨by rfl, ?_⟩) ?_ ?_
         rotate_left
         ·
          intro w'
          go_simp
          with_reducible rfl
         rotate_left
         ·
          simp only [Act.put, List.setIfInBounds_toArray, List.set_cons_zero, List.set_cons_succ, i64_w, i32_w]
          rfl
         refine pure_ (i := 5) (N := some 27) (v := ?_) (a' := ?_) #[Yy,Yy,Yy,Yy,Yy,Yy,Yy,Zz,Yy,Yy,Zz,Zz,Zz,Zz,Zz] rfl rfl (any_of HT_.out (by kernel_rfl)) (fun _ _ _ h => h) (Or.inl ⟨by rfl, ?_⟩) ?_ ?_
         rotate_left
         ·
          intro w'
          go_simp
          with_reducible rfl
         rotate_left
         ·
          simp only [Act.put, List.setIfInBounds_toArray, List.set_cons_zero, List.set_cons_succ, i64_w, i32_w]
          rfl
         refine pure_ (i := 7) (N := some 29) (v := ?_) (a' := ?_) #[Yy,Yy,Yy,Yy,Yy,Yy,Yy,Yy,Yy,Yy,Zz,Zz,Zz,Zz,Zz] rfl rfl (any_of HT_.out (by kernel_rfl)) (fun _ _ _ h => h) (Or.inl ⟨by rfl, ?_⟩) ?_ ?_
         rotate_left
         ·
          intro w'
          go_simp
          with_reducible rfl
         rotate_left
         ·
          simp only [Act.put, List.setIfInBounds_toArray, List.set_cons_zero, List.set_cons_succ, i64_w, i32_w]
          rfl
         refine pure_ (i := 10) (N := some 32) (v := ?_) (a' := ?_) #[Yy,Yy,Yy,Yy,Yy,Yy,Yy,Yy,Yy,Yy,Yy,Zz,Zz,Zz,Zz] rfl rfl (any_of HT_.out (by kernel_rfl)) (fun _ _ _ h => h) (Or.inl ⟨by rfl, ?_⟩) ?_ ?_
         rotate_left
         ·
          intro w'
          go_simp
          with_reducible rfl
         rotate_left
         ·
          simp only [Act.put, List.setIfInBounds_toArray, List.set_cons_zero, List.set_cons_succ, i64_w, i32_w]
          rfl
         refine one_ (i := 11) (N := some 33) #[Yy,Yy,Yy,Yy,Yy,Yy,Yy,Yy,Yy,Yy,Yy,Yy,Zz,Zz,Zz] rfl rfl (one_of HT_.out (by kernel_rfl)) (by decide) (fun K hK => ?_)
         refine value_ (w1 := ?_) (v := ?_) (by rfl) rfl ?_ ?_
         rotate_left 2
         ·
          go_simp
          constructor
          ·
           rfl
          ·
           rfl
         refine hK.out _ _ ⟨(blk_cell (blk_alloc BK641.out _) 0).trans rfl, (blk_cell (blk_alloc BK641.out _) 1).trans rfl, (blk_cell (blk_alloc BK638.out _) 0).trans rfl, (blk_cell (blk_alloc BK638.out _) 1).trans rfl⟩ (fun hHeld => ?_)
         clear hK K
         refine norm_ (a' := ?_) ?_ ?_
         rotate_left
         ·
          show Act.put _ (some 33) _ = _
          simp only [Act.put, List.setIfInBounds_toArray, List.set_cons_zero, List.set_cons_succ, i64_w, i32_w]
          rfl
         refine one_ (i := 12) (N := some 34) #[Yy,Yy,Yy,Yy,Yy,Yy,Yy,Yy,Yy,Yy,Yy,Yy,Yy,Zz,Zz] rfl rfl (one_of HT_.out (by kernel_rfl)) (by decide) (fun K hK => ?_)
         refine Kd.R_append_step (Kd.int .i64) (w0 := w) w.heap.size (by rfl) (.tmp 23) (.tmp 33) 24 3 (.int .i64 0) 8 rfl Tryd.underlying24 info3 rfl (by decide) (by omega) u642001 x642001_1 (Go.bits .andNot .i64 (Go.bits .andNot .i64 (wrap64 ((ji19) - 1)) (rd l0_1 x17_1)) (ji21)) [.int .i64 (Go.bits .andNot .i64 (Go.bits .andNot .i64 (wrap64 ((ji19) - 1)) (rd l0_1 x17_1)) (ji21))] (fun _ => True) (fun _ => False) rfl rfl ?aP (fun _ hk => hk.elim) ?aF ?aO ?aB ?aS ?aL ?_
         (case aP => exact rfl)
         (case aB => exact (by repeat ((with_reducible exact HB.out))))
         (case aF => exact (fun _ _ => trivial))
         (case aO => exact (by (with_reducible repeat (fail)); exact HO_642001.out))
         (case aS => exact (below_size (by repeat ((with_reducible exact HB.out)))))
         (case aL => have := LMc22.out; omega)
         intro v644 w24 ho hb hg hat
         rw [← Ny643.out] at ho
         have n0_ := Aside0.mk (blk_grown (g := gb638) (o := .cells #[.int .i64 a0_0, .slice (some ad642) l0_1.length c0_1] 39 (0, 0)) (by (with_reducible repeat (fail)); exact BK638.out) hg (Kd.R_ne HO_642001.out BK638.out (by decide)))
         have n1_ := Aside0.mk (blk_grown (g := gb639) (o := .cells #[.int .i64 0, .slice none 0 0] 39 (0, 0)) (by (with_reducible repeat (fail)); exact BK639.out) hg (Kd.R_ne HO_642001.out BK639.out (by decide)))
         have n2_ := Aside0.mk (blk_grown (g := gb641) (o := .cells #[.int .i64 a0_0, u642001] 39 (0, 0)) (by (with_reducible repeat (fail)); exact BK641.out) hg (Kd.R_ne HO_642001.out BK641.out (by decide)))
         have n3_ := Aside0.mk (hb)
         have n4_ := Aside0.mk (ho)
         clear BK638
         clear BK639
         clear BK641
         clear HB
         clear HO_642001
         have BK638 := n0_
         have BK639 := n1_
         have BK641 := n2_
         have HB := n3_
         have HO645 := n4_
         clear n0_ n1_ n2_ n3_ n4_
         clear ho hb hg hat
         obtain ⟨Ao25, co25, eo25⟩ := Kd.R_slice HO645.out
         (subst eo25)
         refine hK.out _ _ ⟨(blk_cell BK641.out 0).trans rfl, (blk_cell BK641.out 1).trans rfl, (blk_cell BK638.out 0).trans rfl, (blk_cell BK638.out 1).trans rfl⟩ (fun hHeld => ?_)
         clear hK K
         refine norm_ (a' := ?_) ?_ ?_
         rotate_left
         ·
          show Act.put _ (some 34) _ = _
          simp only [Act.put, List.setIfInBounds_toArray, List.set_cons_zero, List.set_cons_succ, i64_w, i32_w]
          rfl
         refine pure_ (i := 13) (N := some 35) (v := ?_) (a' := ?_) #[Yy,Yy,Yy,Yy,Yy,Yy,Yy,Yy,Yy,Yy,Yy,Yy,Yy,Yy,Zz] rfl rfl (any_of HT_.out (by kernel_rfl)) (fun _ _ _ h => h) (Or.inl ⟨by rfl, ?_⟩) ?_ ?_
         rotate_left
         ·
          intro w'
          go_simp
          with_reducible rfl
         rotate_left
         ·
          simp only [Act.put, List.setIfInBounds_toArray, List.set_cons_zero, List.set_cons_succ, i64_w, i32_w]
          rfl
         refine last_ (i := 14) (N := none) #[Yy,Yy,Yy,Yy,Yy,Yy,Yy,Yy,Yy,Yy,Yy,Yy,Yy,Yy,Yy] rfl rfl (one_of HT_.out (by kernel_rfl)) (by decide) (fun K hK => ?_)
         have hs26 : w24.cell? ⟨gb641, 1, none⟩ = some (u642001) := (blk_cell BK641.out 1).trans rfl
         have hfs26 := blk_frozen BK641.out 1
         have hns26_0 := NB638_641.out
         have hns26_1 := NB639_641.out
         have hms26_0 := NB641_638.out
         have hms26_1 := NB641_639.out
         refine skip_ (w1 := ?_) (by rfl) rfl ?_ ?_
         rotate_left
         ·
          go_simp
          rfl
         refine hK.out _ _ ?_
         clear hK K
         refine done_ (done_of HT_.out (by kernel_rfl)) ?_
         try go_wp2
         go_roundg k1
         case measure => have := HK1.out; omega
         case rel => exact ⟨(wrap64 (x17_1 + 1)), (y643), (.slice Ao25 y643.length co25), (by first | rfl | (simp; done) | (simp [*]; done)), H', ⟨by have := HK1.out; omega⟩, ⟨by (with_reducible repeat (fail)); exact Kd.R_mono (Kd.R_far (p := ⟨gb641, 1, none⟩) (Kd.R_types HO645.out BK641.out (by decide)) (fun _ hk => hk.2) (.slice Ao25 y643.length co25)) (fun _ hk => trivial)⟩, ⟨by (with_reducible repeat (fail)); refine blk_far ?_ NB638_641.out _; (with_reducible repeat (fail)); exact BK638.out⟩, ⟨by (with_reducible repeat (fail)); refine blk_far ?_ NB639_641.out _; (with_reducible repeat (fail)); exact BK639.out⟩, ⟨by (with_reducible repeat (fail)); refine blk_put (cs := #[.int .i64 a0_0, u642001]) ?_ 1 _ rfl; (with_reducible repeat (fail)); exact BK641.out⟩, ⟨by repeat ((with_reducible first | exact HB.out | refine below_set ?_ GE641.out))⟩⟩
        ·
         rw [if_neg c22] at H
         exact absurd H (by simp)
       ·
        rw [if_neg c18] at H
        exact absurd H (by simp)
      ·
       rw [if_neg c17] at H
       exact absurd H (by simp)
     ·
      rw [if_neg c16] at H
      exact absurd H (by simp)
    ·
     rw [if_neg c15] at H
     have c15b0 : decide (x17_1 < (l0_1.length : Int)) = false := decide_eq_false c15
     clear c15
     simp only [Option.some.injEq, Prod.mk.injEq] at H
     obtain ⟨rfl, rfl, rfl⟩ := H
     have hnb27 := NB641_638.out
     have hnc27 := NB638_641.out
     have hnb28 := NB641_639.out
     have hnc28 := NB639_641.out
     have hcz29_0 : wr.cell? ⟨gb641, 0, none⟩ = some (.int .i64 a0_0) := (blk_cell BK641.out 0).trans rfl
     have hcz29_1 : wr.cell? ⟨gb641, 1, none⟩ = some (u642001) := (blk_cell BK641.out 1).trans rfl
     have hfz29_0 := blk_frozen BK641.out 0
     have hfz29_1 := blk_frozen BK641.out 1
     have hnb30 := NB639_638.out
     have hnc30 := NB638_639.out
     have hcz31_0 : wr.cell? ⟨gb639, 0, none⟩ = some (.int .i64 0) := (blk_cell BK639.out 0).trans rfl
     have hcz31_1 : wr.cell? ⟨gb639, 1, none⟩ = some (.slice none 0 0) := (blk_cell BK639.out 1).trans rfl
     have hfz31_0 := blk_frozen BK639.out 0
     have hfz31_1 := blk_frozen BK639.out 1
     obtain ⟨Ao32, co32, eo32⟩ := Kd.R_slice HO_642001.out
     subst eo32
     go_wp2
     refine bodyPost_ret (results_ct rfl _ _ gb639 39 #[.int .i64 a0_0, .slice Ao32 x642001_1.length co32] (0, 0) _ rfl (by (with_reducible repeat (fail)); refine blk_put (cs := #[.int .i64 a0_0, .slice none 0 0]) ?_ 1 _ rfl; (with_reducible repeat (fail)); refine blk_put (cs := #[.int .i64 0, .slice none 0 0]) ?_ 0 _ rfl; (with_reducible repeat (fail)); exact BK639.out) Tryd.underlying39 rfl (by kernel_rfl)) rfl ?_
     exact ⟨_, by first | rfl | (simp [errW_none, errW_some] <;> rfl) | (simp [*, errW_none, errW_some] <;> rfl), by (with_reducible repeat (fail)); exact Kd.R_mono (Kd.R_far (p := ⟨gb639, 1, none⟩) (Kd.R_far (p := ⟨gb639, 0, none⟩) (Kd.R_types HO_642001.out BK639.out (by decide)) (fun _ hk => hk.2) (.int .i64 a0_0)) (fun _ hk => hk.2) (.slice Ao32 x642001_1.length co32)) (fun _ hk => trivial), by repeat ((with_reducible first | exact HB.out | refine below_set ?_ GE639.out))⟩
 ·
  replace c3 := Bool.eq_false_iff.mpr c3
  subst c3
  have H1 : (some (0, ([] : List Int), false)) = some (r1, r2, r3) := by rw [if_neg (show ¬ (false = true) by decide)] at H; exact H
  clear H
  have H := H1
  clear H1
  simp only [Option.some.injEq, Prod.mk.injEq] at H
  obtain ⟨rfl, rfl, rfl⟩ := H
  go_enter Tryd.func32, Tryd.ntmps32
  go_wp2_with (first | ((with_reducible refine gate_dst (N := 1) rfl ?_); refine box_event ?hg (N := 1) ?hd (cs := #[.int .i64 a0_0, .slice A0_1 l0_1.length c0_1]) (t := 39) ?hr ?_; (case hd => rfl); (case hg => rfl); (case hr => first | (go_simp; done) | (go_simp; rfl)); intro gb638 hg w33 hbox hb; have n0_ := Aside0.mk (below_step (by repeat ((with_reducible exact HB.out))) hb); have n1_ := Aside0.mk (hbox); have n2_ := Aside0.mk ((by rw [hg]; exact (below_size (by repeat ((with_reducible exact HB.out)))) : w.heap.size ≤ gb638)); have n3_ := Aside0.mk ((by rw [hg]; exact (below_size (by repeat ((with_reducible exact HB.out)))) : w.heap.size ≤ gb638)); clear HB; have HB := n0_; have BK638 := n1_; have GW638 := n2_; have GE638 := n3_; clear n0_ n1_ n2_ n3_; clear hb hbox hg) | ((with_reducible refine gate_dst (N := 2) rfl ?_); refine box_event ?hg (N := 2) ?hd (cs := #[.int .i64 0, .slice none 0 0]) (t := 39) ?hr ?_; (case hd => rfl); (case hg => rfl); (case hr => first | (go_simp; done) | (go_simp; rfl)); intro gb639 hg w34 hbox hb; have n0_ := Aside0.mk (blk_below (g := gb638) (o := .cells #[.int .i64 a0_0, .slice A0_1 l0_1.length c0_1] 39 (0, 0)) (by (with_reducible repeat (fail)); exact BK638.out) hb); have n1_ := Aside0.mk (below_step (by repeat ((with_reducible exact HB.out))) hb); have n2_ := Aside0.mk (hbox); have n3_ := Aside0.mk ((by rw [hg]; exact (below_size (by repeat ((with_reducible exact HB.out)))) : w.heap.size ≤ gb639)); have n4_ := Aside0.mk ((by rw [hg]; exact (below_size (by repeat ((with_reducible exact HB.out)))) : w.heap.size ≤ gb639)); have n5_ := Aside0.mk ((by rw [hg]; exact Nat.ne_of_lt (blk_lt (g := gb638) (o := .cells #[.int .i64 a0_0, .slice A0_1 l0_1.length c0_1] 39 (0, 0)) (by (with_reducible repeat (fail)); exact BK638.out)) : gb638 ≠ gb639)); have n6_ := Aside0.mk ((by rw [hg]; exact Nat.ne_of_gt (blk_lt (g := gb638) (o := .cells #[.int .i64 a0_0, .slice A0_1 l0_1.length c0_1] 39 (0, 0)) (by (with_reducible repeat (fail)); exact BK638.out)) : gb639 ≠ gb638)); clear BK638; clear HB; have BK638 := n0_; have HB := n1_; have BK639 := n2_; have GW639 := n3_; have GE639 := n4_; have NB638_639 := n5_; have NB639_638 := n6_; clear n0_ n1_ n2_ n3_ n4_ n5_ n6_; clear hb hbox hg; have hnb35 := NB638_639.out; have hnc35 := NB639_638.out; have hcz36_0 : w34.cell? ⟨gb638, 0, none⟩ = some (.int .i64 a0_0) := (blk_cell BK638.out 0).trans rfl; have hcz36_1 : w34.cell? ⟨gb638, 1, none⟩ = some (.slice A0_1 l0_1.length c0_1) := (blk_cell BK638.out 1).trans rfl; have hfz36_0 := blk_frozen BK638.out 0; have hfz36_1 := blk_frozen BK638.out 1) | ((with_reducible refine gate_callee (f := 63) rfl ?_); refine goesL_ (some 8) rfl rfl Tryd.func63 (by kernel_rfl) rfl #[.agg #[.int .i64 a0_0, .slice A0_1 l0_1.length c0_1]] rfl (by (try simp only [List.map_toArray, List.map_cons, List.map_nil]); first | done | rfl) ?_; (with_reducible refine (spec_deGood.calls k a0_0 _ _ l0_1 false _ ?side1 ?side2 A2.out).mono ?_); (case side1 => repeat (exact (Kd.C_below HR0_1.out HB.out))); (case side2 => exact HC0_1.out); rintro e w37 ⟨rfl, hb⟩; refine ⟨_, rfl, ?_⟩; have n0_ := Aside0.mk (blk_below (g := gb638) (o := .cells #[.int .i64 a0_0, .slice A0_1 l0_1.length c0_1] 39 (0, 0)) (by (with_reducible repeat (fail)); exact BK638.out) hb); have n1_ := Aside0.mk (blk_below (g := gb639) (o := .cells #[.int .i64 0, .slice none 0 0] 39 (0, 0)) (by (with_reducible repeat (fail)); exact BK639.out) hb); have n2_ := Aside0.mk (below_step (by repeat ((with_reducible exact HB.out))) hb); clear BK638; clear BK639; clear HB; have BK638 := n0_; have BK639 := n1_; have HB := n2_; clear n0_ n1_ n2_; (try clear hb); (try clear hb2); (try clear hk); (try clear hi); have hcz38_0 : w37.cell? ⟨gb639, 0, none⟩ = some (.int .i64 0) := (blk_cell BK639.out 0).trans rfl; have hcz38_1 : w37.cell? ⟨gb639, 1, none⟩ = some (.slice none 0 0) := (blk_cell BK639.out 1).trans rfl; have hfz38_0 := blk_frozen BK639.out 0; have hfz38_1 := blk_frozen BK639.out 1))
  refine bodyPost_ret (results_ct rfl _ _ gb639 39 #[.int .i64 0, .slice none 0 0] (0, 0) _ rfl (by (with_reducible repeat (fail)); refine blk_put (cs := #[.int .i64 0, .slice none 0 0]) ?_ 1 _ rfl; (with_reducible repeat (fail)); refine blk_put (cs := #[.int .i64 0, .slice none 0 0]) ?_ 0 _ rfl; (with_reducible repeat (fail)); exact BK639.out) Tryd.underlying39 rfl (by kernel_rfl)) rfl ?_
  exact ⟨_, by first | rfl | (simp [errW_none, errW_some] <;> rfl) | (simp [*, errW_none, errW_some] <;> rfl), by first | exact Kd.R_nil _ _ _ _ _ | exact Kd.N_nil _ _ _ _ _ | exact Kd.V_nil _ _ _ _ _ | exact Kd.Q_nil _ _ _ _ _ | exact Kd.S_nil _ _ _ _ _, by repeat ((with_reducible first | exact HB.out | refine below_set ?_ GE639.out))⟩
def laws_big.f (l0 : List Int) (l1 : List Int) : Option (Bool) := if (l0.length : Int) > 1048576 then (some true) else (some (decide ((l1.length : Int) > (wrap64 (1048576 - (l0.length : Int))))))
set_option maxHeartbeats 8000000 in
set_option maxRecDepth 100000 in
theorem laws_big.calls (A0 : Option Addr) (c0 : Nat) (l0 : List Int) (A1 : Option Addr) (c1 : Nat) (l1 : List Int) (r : Bool) (w : World) (hr0 : Kd.C (Kd.int .u8) w A0 l0.length l0) (hc0 : l0.length ≤ c0) (hr1 : Kd.C (Kd.int .u8) w A1 l1.length l1) (hc1 : l1.length ≤ c1) (h : laws_big.f l0 l1 = some r) :
  Calls Tryd.prog 5 #[.slice A0 l0.length c0, .slice A1 l1.length c1] w fun e w' => e = .returned (.bool r) ∧ Drawn0 w w' := by
 have HR0 := Aside0.mk hr0
 have HC0 := Aside0.mk hc0
 clear hr0 hc0
 have HR1 := Aside0.mk hr1
 have HC1 := Aside0.mk hc1
 clear hr1 hc1
 have H : (if (l0.length : Int) > 1048576 then (some true) else (some (decide ((l1.length : Int) > (wrap64 (1048576 - (l0.length : Int))))))) = some r := h
 clear h
 by_cases c3 : (l0.length : Int) > 1048576
 ·
  rw [if_pos c3] at H
  have c3b0 : decide (1048576 < (l0.length : Int)) = true := decide_eq_true c3
  have c3b1 : decide (1048576 < l0.length) = true := decide_eq_true (by omega)
  clear c3
  obtain rfl := Option.some.inj H
  go_enter Tryd.func5, Tryd.ntmps5
  go_wp2
  go_ret
  exact ⟨by first | rfl | (simp; done) | (simp [*]; done), by repeat (first | exact Drawn0.refl _ | apply Drawn0.step)⟩
 ·
  rw [if_neg c3] at H
  have c3b0 : decide (1048576 < (l0.length : Int)) = false := decide_eq_false c3
  have c3b1 : decide (1048576 < l0.length) = false := decide_eq_false (by omega)
  clear c3
  obtain rfl := Option.some.inj H
  go_enter Tryd.func5, Tryd.ntmps5
  go_wp2
  go_ret
  exact ⟨by first | rfl | (simp; done) | (simp [*]; done), by repeat (first | exact Drawn0.refl _ | apply Drawn0.step)⟩
end Go.Proofs.YtcheoendfcgjgaaDoor.P
namespace Go.Proofs.YtcheoendfcgjgaaDoor.K
open Go Go.RowKit Go.Proofs.YtcheoendfcgjgaaDoorW.PrintWords Go.Proofs.YtcheoendfcgjgaaDoorW.PrintLast Go.Proofs.YtcheoendfcgjgaaDoorW.PrintMore Go.Proofs.YtcheoendfcgjgaaDoor.P
structure IRow (W : World) (base g cap : Nat) (xs : List Int) : Prop where
  base : base ≤ g
  blk : ∃ (cur : Array Value), W.heap[g]? = some (.cells cur 3 (0, 0)) ∧ cur.size = cap ∧ cur.toList.take xs.length = xs.map (Value.int .i64)
  le : xs.length ≤ cap
  max : cap ≤ maxLen
theorem IRow.lt {W : World} {base g cap : Nat} {xs : List Int} (h : IRow W base g cap xs) : g < W.heap.size := by
  obtain ⟨cur, h1, _⟩ := h.blk
  exact (Array.getElem?_eq_some_iff.1 h1).1
theorem IRow.keep {W W2 : World} {base g cap : Nat} {xs : List Int} (h : IRow W base g cap xs) (hk : W2.heap[g]? = W.heap[g]?) : IRow W2 base g cap xs := by
  obtain ⟨cur, h1, h2⟩ := h.blk
  exact ⟨h.base, ⟨cur, hk.trans h1, h2⟩, h.le, h.max⟩
theorem IRow.ofR {W : World} {base : Nat} {ok : Nat → Prop} {v : Value} {xs : List Int} (h : (Kd.int .i64).R 3 W base ok v xs) (hp : 0 < xs.length) : ∃ g cap, v = .slice (some ⟨g, 0, none⟩) xs.length cap ∧ IRow W base g cap xs ∧ ok g := by
  have hok := h.1
  obtain ⟨hn, hh⟩ := Kd.own_of_R h
  rcases hh with ⟨h0, h1⟩ | ⟨g, cap, cur, hv, hbase, hbk, h1, h2, h3, h4⟩
  · simp at h1; simp [h1] at hp
  · subst hv
    rw [Nat.mul_one] at h4
    exact ⟨g, cap, rfl, ⟨hbase, ⟨cur, hbk, by simpa using h3, h4⟩, h1, h2⟩, hok g rfl⟩
theorem IRow.toR {W : World} {base g cap : Nat} {xs : List Int} (h : IRow W base g cap xs) : (Kd.int .i64).R 3 W base (fun k => k = g) (.slice (some ⟨g, 0, none⟩) xs.length cap) xs := by
  obtain ⟨cur, h1, h2, h3⟩ := h.blk
  refine Kd.R_of_own (enc := Value.int .i64) ⟨by simp [encs], .inr ⟨g, cap, cur, rfl, h.base, h1, h.le, h.max, by simpa using h2, by rw [Nat.mul_one]; exact h3⟩⟩ (fun k hk => ?_)
  have : g = k := by simpa [Value.ownBlock] using hk
  exact this.symm
theorem IRow.at {W : World} {base g cap : Nat} {xs : List Int} (h : IRow W base g cap xs) (j : Nat) (hj : j < xs.length) : W.cell? ⟨g, j, none⟩ = some (.int .i64 (xs.getD j 0)) := by
  obtain ⟨cur, h1, h2, h4⟩ := h.blk
  rw [cell_of_row W g j cur _ (0, 0) h1]
  have h5 : (cur.toList.take xs.length)[j]? = (xs.map (Value.int .i64))[j]? := by rw [h4]
  rw [List.getElem?_take_of_lt hj, Array.getElem?_toList] at h5
  rw [h5, List.getElem?_map, List.getElem?_eq_getElem hj, List.getD_eq_getElem?_getD, List.getElem?_eq_getElem hj]
  rfl
theorem IRow.free {W : World} {base g cap : Nat} {xs : List Int} (h : IRow W base g cap xs) (j : Nat) : W.frozen? ⟨g, j, none⟩ = false := by
  obtain ⟨cur, h1, _⟩ := h.blk
  simp [World.frozen?, h1]
theorem IRow.set {W : World} {base g cap : Nat} {xs : List Int} (h : IRow W base g cap xs) (j : Nat) (hj : j < xs.length) (v : Int) : IRow (W.setCell ⟨g, j, none⟩ (.int .i64 v)) base g cap (xs.set j v) := by
  obtain ⟨cur, h1, h2, h4⟩ := h.blk
  have hle := h.le
  refine ⟨h.base, ⟨cur.setIfInBounds j (.int .i64 v), ?_, by simp [h2], ?_⟩, by rw [List.length_set]; exact h.le, h.max⟩
  · rw [setCell_eq_setRow W g _ cur _ (0, 0) _ h1]
    exact setRow_heap W g cur _ _ _ h1
  · rw [List.length_set, Array.toList_setIfInBounds, List.take_set, h4, List.map_set]
theorem set_heap {W : World} {g j k : Nat} {v : Value} (h : k ≠ g) : (W.setCell ⟨g, j, none⟩ v).heap[k]? = W.heap[k]? := Below.heap_setCell _ _ _ k (fun e => h e)
theorem iInfo : (Tryd.prog.info? 3).map (fun i => (i.zero, i.size, i.bytes)) = some (some (.int .i64 0), 1, 8) := by kernel_rfl
theorem IRow.append {w : World} {base g cap : Nat} {xs : List Int} (h : IRow w base g cap xs) {ops : Array Oper} {rest : List Oper} {o : Oper} {a : Act} {Q : Exit → Act → World → Prop} (hg : o.guard = none) (s x : Operand) (hop : o.op = Op.call { callee := Callee.builtin Builtin.append, args := #[s, x], argTypes := #[24, 24] })
    (hs : a.eval s = .slice (some ⟨g, 0, none⟩) xs.length cap) (ad : Addr) (c : Nat) (b : Int) (hx : a.eval x = .slice (some ad) 1 c) (hc : w.cell? ad = some (Value.int .i64 b)) (hl : xs.length ≤ 1000) (hbase : base ≤ w.heap.size)
    (hK : ∀ g' cap' w', IRow w' base g' cap' (xs ++ [b]) → w.grownBy w' (some g) → (g' = g ∨ w.heap.size ≤ g') → wpList Tryd.prog ops Q rest (a.put o.dst (.slice (some ⟨g', 0, none⟩) (xs ++ [b]).length cap')) w') :
    wpList Tryd.prog ops Q (o :: rest) a w := by
  obtain ⟨i0, hi0, hz0, hz1, hz2⟩ := info_parts iInfo
  obtain ⟨cur, h1, h2, h4⟩ := h.blk
  have h3 : (((0, 0) : Nat × Nat).2 = 0 ∨ cap ≤ ((0, 0) : Nat × Nat).1) := .inl rfl
  have hle := h.le
  refine wpList_append_arg w hg s x 24 hop 3 i0 (.int .i64 0) 1 8 Tryd.underlying24 hi0 hz0 hz1 hz2 rfl (by decide) g 0 xs.length cap (xs.map (Value.int .i64)) hs (by simp)
    (fun j u hj => ?_) ad 1 c [Value.int .i64 b] hx rfl (fun j u hj => ?_) (by simp [Value.oneCell']) (fun hr j hj => ?_) (by unfold maxLen; omega) (by omega) (fun hr => ?_) (fun hr v' w' ho hg' => ?_)
  · rw [Nat.zero_add]
    have hj' : j < xs.length := by have := (List.getElem?_eq_some_iff.1 hj).1; simpa using this
    rw [h.at j hj']
    rw [List.getElem?_map, List.getElem?_eq_getElem hj'] at hj
    rw [List.getD_eq_getElem?_getD, List.getElem?_eq_getElem hj']
    simpa using hj
  · cases j with
    | zero => rw [List.getElem?_cons_zero] at hj; obtain rfl := Option.some.inj hj; rw [Addr.add_zero']; exact hc
    | succ j => simp at hj
  · have hj0 : j = 0 := by simpa using hj
    subst hj0
    have e : 0 + xs.length * 1 + 0 = xs.length := by omega
    rw [e]
    refine ⟨by rw [cell_of_row w g _ cur _ (0, 0) h1]; simp; omega, ?_⟩
    simp only [World.frozen?, h1, Bool.and_eq_false_iff, decide_eq_false_iff_not]
    omega
  · have e : (xs ++ [b]).length = xs.length + 1 := by simp
    have hcell : w.setCells g (0 + xs.length * 1) [Value.int .i64 b] = w.setRow g (cur.setIfInBounds xs.length (Value.int .i64 b)) := by
      have e2 : 0 + xs.length * 1 = xs.length := by omega
      rw [e2, World.setCells, World.setCells, setCell_eq_setRow w g _ cur _ (0, 0) _ h1]
    have := hK g cap (w.setCells g (0 + xs.length * 1) [Value.int .i64 b]) ⟨h.base, ⟨cur.setIfInBounds xs.length (Value.int .i64 b), by rw [hcell]; exact setRow_heap w g cur _ _ _ h1, by simp [h2], ?_⟩, by omega, h.max⟩ ?_
    · rw [e] at this; exact this (.inl rfl)
    · rw [e, Array.toList_setIfInBounds, List.take_set, List.map_append]
      have h5 : cur.toList.take (xs.length + 1) = xs.map (Value.int .i64) ++ [cur.toList.getD xs.length undef] := by
        rw [List.take_add_one, h4]
        have : xs.length < cur.toList.length := by simp; omega
        rw [List.getD_eq_getElem?_getD, List.getElem?_eq_getElem this]; rfl
      rw [h5, List.set_append_right _ _ (by simp)]
      simp
    · obtain ⟨s1, s2, s3⟩ := setCells_same g [Value.int .i64 b] (0 + xs.length * 1) w
      exact ⟨s1, s2, s3.1, by rw [s3.2]; exact Nat.le_refl _, fun k hk hne => setCells_far _ _ k (fun e => hne (by rw [e]))⟩
  · rcases ho.2 with ⟨_, h0⟩ | ⟨g', cap', cur', rfl, hb', hg2, r1, r2, r3, r4⟩
    · omega
    · have e : (xs ++ [b]).length = xs.length + 1 := by simp
      have := hK g' cap' w' ⟨Nat.le_trans hbase hb', ⟨cur', hg2, by omega, ?_⟩, by omega, r2⟩ ⟨hg'.os, hg'.tape, hg'.output, hg'.size, fun k hk _ => hg'.block k hk (by simp)⟩
      · rw [e] at this; exact this (.inr hb')
      · rw [e, List.map_append]
        rw [Nat.mul_one] at r4
        exact r4
end Go.Proofs.YtcheoendfcgjgaaDoor.K
namespace Go.Proofs.YtcheoendfcgjgaaDoor.K
open Go.RowKit Go.Proofs.YtcheoendfcgjgaaDoorW.PrintWords
abbrev BM : Nat := 17592186044416
theorem wrap_id {x : Int} (h1 : -9223372036854775808 ≤ x) (h2 : x < 9223372036854775808) : wrap64 x = x := by unfold wrap64; omega
theorem mid (x : Int) (done rest : List Int) (h : (done ++ x :: rest).length ≤ BM) :
    ((done.length : Int) < ((done ++ x :: rest).length : Int)) ∧ 0 ≤ (done.length : Int) ∧ rd (done ++ x :: rest) (done.length : Int) = x ∧ wrap64 ((done.length : Int) + 1) = ((done ++ [x]).length : Int) ∧ done ++ [x] ++ rest = done ++ x :: rest := by
  simp only [BM] at h
  refine ⟨by simp; omega, by omega, by simp [rd], ?_, by simp⟩
  simp at h ⊢
  unfold wrap64; omega
theorem Ev.ite {α : Type} {c : Prop} [Decidable c] {f g : Nat → Option α} {r : α} (h1 : c → Ev f r) (h2 : ¬ c → Ev g r) : Ev (fun k => if c then f k else g k) r := by
  by_cases h : c
  · simpa [h] using h1 h
  · simpa [h] using h2 h
theorem Ev.some {α : Type} {r r' : α} (h : r = r') : Ev (fun _ => Option.some r) r' := h ▸ Ev.now r
theorem Ev.pair {α : Type} {f : Nat → Option α} {r r' : α} (h : Ev f r) (e : r = r') : Ev f r' := e ▸ h
def EvB (g : Nat → Option Bool) (P : Prop) : Prop := (P → Ev g true) ∧ (¬ P → Ev g false)
theorem EvB.congr {g : Nat → Option Bool} {P Q : Prop} (h : EvB g P) (e : P ↔ Q) : EvB g Q := ⟨fun q => h.1 (e.2 q), fun q => h.2 (fun p => q (e.1 p))⟩
theorem EvB.ev {g : Nat → Option Bool} {P : Prop} (h : EvB g P) : ∃ b : Bool, Ev g b ∧ (b = true ↔ P) := by
  by_cases p : P
  · exact ⟨true, h.1 p, by simp [p]⟩
  · exact ⟨false, h.2 p, by simp [p]⟩
theorem EvB.of {g : Nat → Option Bool} {P : Prop} {b : Bool} (h : Ev g b) (e : b = true ↔ P) : EvB g P := by
  cases b with
  | true => exact ⟨fun _ => h, fun p => absurd (e.1 rfl) p⟩
  | false => exact ⟨fun p => absurd (e.2 p) (by simp), fun _ => h⟩
theorem EvB.true_ : EvB (fun _ => some true) True := ⟨fun _ => Ev.now _, fun h => absurd trivial h⟩
theorem EvB.false_ : EvB (fun _ => some false) False := ⟨fun h => h.elim, fun _ => Ev.now _⟩
theorem EvB.now (b : Bool) : EvB (fun _ => some b) (b = true) := EvB.of (Ev.now b) Iff.rfl
theorem EvB.fn {g f : Nat → Option Bool} {P : Prop} (h : ∀ k, g k = f k) (k : EvB f P) : EvB g P := ⟨fun p => Ev.congr h (k.1 p), fun p => Ev.congr h (k.2 p)⟩
theorem EvB.step {g f : Nat → Option Bool} {P : Prop} (h : ∀ k, g (k + 1) = f k) (k : EvB f P) : EvB g P := ⟨fun p => Ev.step h (k.1 p), fun p => Ev.step h (k.2 p)⟩
theorem EvB.ite {c : Prop} [Decidable c] {f g : Nat → Option Bool} {P Q : Prop} (h1 : c → EvB f P) (h2 : ¬ c → EvB g Q) : EvB (fun k => if c then f k else g k) ((c ∧ P) ∨ (¬ c ∧ Q)) := by
  by_cases h : c
  · simpa [h] using h1 h
  · simpa [h] using h2 h
theorem EvB.and {c : Prop} [Decidable c] {f : Nat → Option Bool} {P : Prop} (h1 : c → EvB f P) : EvB (fun k => if c then f k else some false) (c ∧ P) := by
  by_cases h : c
  · simpa [h] using h1 h
  · simpa [h] using EvB.false_
theorem EvB.bind {α : Type} {g : Nat → Option α} {f : Nat → α → Option Bool} {a : α} {P : Prop} (h : Ev g a) (k : EvB (fun n => f n a) P) : EvB (fun n => (g n).bind (f n)) P :=
  ⟨fun p => Ev.bind h (k.1 p), fun p => Ev.bind h (k.2 p)⟩
theorem allLoop (g : Nat → Nat → Option Bool) (n : Nat) (P : Nat → Prop) (Q : Prop) (hend : EvB (g n) Q)
    (hs : ∀ j, j < n → ∀ R, EvB (g (j + 1)) R → EvB (g j) (P j ∧ R)) : ∀ d j, j + d = n → EvB (g j) ((∀ i, j ≤ i → i < n → P i) ∧ Q) := by
  intro d
  induction d with
  | zero =>
    intro j hj
    obtain rfl : j = n := by omega
    exact hend.congr ⟨fun q => ⟨fun i h1 h2 => by omega, q⟩, fun h => h.2⟩
  | succ d ih =>
    intro j hj
    refine (hs j (by omega) _ (ih (j + 1) (by omega))).congr ⟨?_, ?_⟩
    · rintro ⟨h1, h2, h3⟩
      refine ⟨fun i h4 h5 => ?_, h3⟩
      by_cases e : i = j
      · subst e; exact h1
      · exact h2 i (by omega) h5
    · rintro ⟨h1, h2⟩
      exact ⟨h1 j (Nat.le_refl _) (by omega), fun i h4 h5 => h1 i (by omega) h5, h2⟩
theorem allLoop0 (g : Nat → Nat → Option Bool) (n : Nat) (P : Nat → Prop) (Q : Prop) (hend : EvB (g n) Q)
    (hs : ∀ j, j < n → ∀ R, EvB (g (j + 1)) R → EvB (g j) (P j ∧ R)) : EvB (g 0) ((∀ i, i < n → P i) ∧ Q) :=
  (allLoop g n P Q hend hs n 0 (by omega)).congr ⟨fun h => ⟨fun i hi => h.1 i (Nat.zero_le _) hi, h.2⟩, fun h => ⟨fun i _ hi => h.1 i hi, h.2⟩⟩
theorem wrap_nat (i : Nat) (h : i < 9223372036854775807) : wrap64 ((i : Int) + 1) = ((i + 1 : Nat) : Int) := by unfold wrap64; omega
def ints (ns : List Nat) : List Int := ns.map (fun n : Nat => (n : Int))
theorem ints_length (ns : List Nat) : (ints ns).length = ns.length := by simp [ints]
theorem rd_ints (ns : List Nat) (i : Nat) : rd (ints ns) (i : Int) = ((ns.getD i 0 : Nat) : Int) := by
  simp only [rd, ints, Int.toNat_natCast, List.getD_eq_getElem?_getD, List.getElem?_map]
  cases ns[i]? <;> simp
theorem ints_of (l : List Int) (h : ∀ x ∈ l, 0 ≤ x) : ∃ ns, l = ints ns := by
  refine ⟨l.map Int.toNat, ?_⟩
  simp only [ints, List.map_map]
  rw [List.map_congr_left (g := id) (fun x hx => by have := h x hx; simp; omega)]
  simp
theorem ints_set (ns : List Nat) (i v : Nat) : (ints ns).set (i : Int).toNat (v : Int) = ints (ns.set i v) := by simp [ints, List.map_set]
end Go.Proofs.YtcheoendfcgjgaaDoor.K
namespace Go.Proofs.YtcheoendfcgjgaaDoor.P
open Go.RowKit Go.Proofs.YtcheoendfcgjgaaDoorW.PrintWords Go.Proofs.YtcheoendfcgjgaaDoorW.PrintLast Go.Proofs.YtcheoendfcgjgaaDoorW.PrintMore Go.Proofs.YtcheoendfcgjgaaDoor.K
open Go.Sort Go.Shelf
set_option linter.unusedSectionVars false
abbrev Rg (n : Nat) := {x : Int // 0 ≤ x ∧ x < (n : Int)}
def rgE {n : Nat} (x : Rg n) : Value := .int .i64 x.1
section
variable {n : Nat} [Inhabited (Rg n)]
theorem to_rg {l : List Int} (h : ∀ x ∈ l, 0 ≤ x ∧ x < (n : Int)) : ∃ ls : List (Rg n), l = ls.map Subtype.val := by
 induction l with
 | nil => exact ⟨[], rfl⟩
 | cons x l ih =>
  obtain ⟨ls, rfl⟩ := ih (fun y hy => h y (by simp [hy]))
  exact ⟨⟨x, h x (by simp)⟩ :: ls, rfl⟩
theorem putRow_rg (w : World) (g : Nat) (d : Array (Rg n)) : putRow rgE w g 0 d = putRow (Value.int .i64) w g 0 (d.map Subtype.val) := by
 unfold putRow
 congr 1
 funext c
 unfold putCells
 congr 1
 funext k x
 simp only [Array.size_map, Nat.sub_zero, Nat.zero_add, Nat.zero_le, true_and]
 by_cases hk : k < d.size
 ·
  rw [if_pos hk, if_pos hk, getElem!_pos d k hk, getElem!_pos (d.map Subtype.val) k (by simpa using hk)]
  simp [rgE]
 ·
  rw [if_neg hk, if_neg hk]
theorem sortWorld_rg (w : World) (g m : Nat) (dk : Array (Rg n)) (os : Array Obj) : sortWorld rgE w g 0 m dk os = grow (putRow (Value.int .i64) (Sort.ahead w m) g 0 (dk.map Subtype.val)) os := by
 unfold sortWorld
 rw [putRow_rg]
set_option maxRecDepth 10000 in
theorem sortRange_c (cf : Int → Int → Int) (fid : FuncId) (fn : Func) (caps : Array Value) (hf : Tryd.prog.funcs[fid]? = some fn) (hname : (fn.name == "runtime.NumGoroutine") = false) (hbody : fn.body.isSome = true)
  (hS : SWO (fun (x y : Rg n) => decide (cf x.1 y.1 < 0))) (g cap base : Nat) (ok : Nat → Prop) (l : List Int) (w : World) (hl : l.length ≤ 12) (hpos : 0 < l.length) (hb : ∀ x ∈ l, 0 ≤ x ∧ x < (n : Int))
  (HO : (Kd.int .i64).R 3 w base ok (.slice (some ⟨g, 0, none⟩) l.length cap) l)
  (hcmp : ∀ W : World, w.grownBy W (some g) → ∀ x y : Rg n, Calls Tryd.prog fid (#[.int .i64 x.1, .int .i64 y.1] ++ caps) W fun e w' => e = .returned (.int .i64 (cf x.1 y.1)) ∧ ∃ q, w' = W.drewN q) :
  Calls Tryd.prog 49 #[.slice (some ⟨g, 0, none⟩) l.length cap, .func (.func fid) #[] caps] w fun e w' => e = .returned (.tuple #[]) ∧ ∃ l' : List Int, l'.Perm l ∧ l'.Pairwise (fun a b => ¬ cf b a < 0) ∧ (Kd.int .i64).R 3 w' base ok (.slice (some ⟨g, 0, none⟩) l.length cap) l' ∧ w.grownBy w' (some g) := by
 have hok := HO.1
 have hown := Kd.own_of_R HO
 obtain ⟨hn, h⟩ := hown
 rcases h with ⟨h0, _⟩ | ⟨g', cap', cur, hv, hbase, hbk, h1, h2, h3, h4⟩
 ·
  cases h0
 cases hv
 rw [Nat.mul_one] at h4
 have h4' : cur.toList.take l.length = l.map (Value.int .i64) := h4
 have hH := holds_of_blockI hbk h4'
 obtain ⟨ls, hls⟩ := to_rg hb
 have hlen : ls.length = l.length := by rw [hls]; simp
 have hH2 : Holds rgE w g 0 ls.toArray := by
  intro j hj
  have hj1 : j < ls.length := by simpa using hj
  have hj2 : j < l.toArray.size := by rw [hls]; simpa using hj1
  obtain ⟨q1, q2⟩ := hH j hj2
  refine ⟨?_, q2⟩
  rw [q1, getElem!_pos _ j hj2, getElem!_pos _ j hj]
  simp [rgE, hls]
 have hc := Any.slices_SortFunc_small_sorted Tryd.sortInt rgE (fun _ => rfl) (fun x y : Rg n => cf x.1 y.1) hS fid caps g 0 cap ls.toArray w (fun args w => enters_ hf hname hbody args w)
  (fun m os dk _ x y => hcmp _ (by rw [sortWorld_rg]; exact grownBy_sortedI _) x y) hH2 (by simpa [hlen] using hl)
  (fun n W h => (Any.bits_Len Tryd.lays125 n W (by omega) (by omega)).mono fun _ _ ⟨he, hw⟩ => ⟨⟨_, he⟩, hw⟩)
 have hsz : ls.toArray.size = l.length := by simpa using hlen
 rw [hsz] at hc
 refine Calls.mono (f := 49) hc ?_
 rintro e w' ⟨rfl, d', n, hp, hs, rfl⟩
 obtain ⟨p1, -, p3⟩ := hp
 have hd : d'.size = l.length := by rw [p1, hsz]
 have hex : d'.extract 0 l.length = d' := by rw [← hd]; simp
 have hex2 : ls.toArray.extract 0 l.length = ls.toArray := by rw [← hsz]; simp
 rw [hex, hex2] at p3
 refine ⟨rfl, d'.toList.map Subtype.val, ?_, ?_, ?_, ?_⟩
 ·
  rw [hls]; exact p3.map _
 ·
  rw [List.pairwise_iff_getElem]
  intro i j hi hj hij
  have hi' : i < d'.size := by simpa using hi
  have hj' : j < d'.size := by simpa using hj
  have := hs i j (Nat.zero_le _) hij (by omega)
  rw [getElem!_pos d' i hi', getElem!_pos d' j hj'] at this
  simpa [ltOf] using this
 ·
  have hcast : (d'.toList.map Subtype.val).length = l.length := by simpa using hd
  have hq := ownsRow_sortedI (n := n) (os := #[]) (ss := l) (ts := d'.toList.map Subtype.val) hcast hbase hbk h1 h2 h3
  have e1 : grow (putRow (Value.int .i64) (Sort.ahead w n) g 0 (d'.toList.map Subtype.val).toArray) #[] = (putRow rgE w g 0 d').drewN n := by
   have := sortWorld_rg w g n d' #[]
   rw [← sortWorld_none, this, arr_map]
  rw [e1] at hq
  refine Kd.R_of_own (enc := Value.int .i64) ?_ hok
  have e2 : (d'.toList.map Subtype.val).length = l.length := by simpa using hd
  rw [e2]
  exact hq
 ·
  have e1 : (putRow rgE w g 0 d').drewN n = grow (putRow (Value.int .i64) (Sort.ahead w n) g 0 (d'.map Subtype.val)) #[] := by rw [← sortWorld_none, sortWorld_rg]
  rw [e1]
  exact grownBy_sortedI _
end
end Go.Proofs.YtcheoendfcgjgaaDoor.P
namespace Go.Proofs
open Go.Shelf
def Tryd.maxLay_ren : Go.Shelf.Ren := ⟨fun | 113 => 48 | n => n, fun | 28 => 24 | 3 => 3 | 4 => 4 | 9 => 9 | 20 => 20 | 0 => 0 | n => n, fun | n => n⟩
theorem Tryd.maxLay : Go.Proofs.Lays.n113 Tryd.prog Tryd.maxLay_ren := {
  mixed := by kernel_rfl
  f113 := Tryd.func48.trans (congrArg some (by kernel_rfl))
  t0 := Tryd.underlying0
  a0 := Tryd.isAgg0
  z0 := Tryd.sizeOf0
  v0 := Tryd.zeroValue0
  t3 := Tryd.underlying3
  a3 := Tryd.isAgg3
  z3 := Tryd.sizeOf3
  v3 := Tryd.zeroValue3
  t4 := Tryd.underlying4
  a4 := Tryd.isAgg4
  z4 := Tryd.sizeOf4
  v4 := Tryd.zeroValue4
  t9 := Tryd.underlying9
  a9 := Tryd.isAgg9
  z9 := Tryd.sizeOf9
  v9 := Tryd.zeroValue9
  t20 := Tryd.underlying20
  a20 := Tryd.isAgg20
  z20 := Tryd.sizeOf20
  v20 := Tryd.zeroValue20
  t28 := Tryd.underlying24
  a28 := Tryd.isAgg24
  z28 := Tryd.sizeOf24
  v28 := Tryd.zeroValue24 }
end Go.Proofs
namespace Go.Proofs.YtcheoendfcgjgaaDoor.P
open Go.RowKit Go.Proofs.YtcheoendfcgjgaaDoorW.PrintWords Go.Proofs.YtcheoendfcgjgaaDoorW.PrintLast Go.Proofs.YtcheoendfcgjgaaDoorW.PrintMore
attribute [local go_sem] max2_int min2_int max_two min_two max_three min_three max_four min_four
def impl_Graph_join.f (a0_0 : Int) (l0_1 : List Int) (a1 : Int) (a2 : Int) : Option (List Int) := if 0 ≤ a1 then (if a1 < (l0_1.length : Int) then (if 0 ≤ a2 then ((some (l0_1.set (a1 : Int).toNat (Go.bits .xor .i64 (rd l0_1 a1) (shl .i64 1 a2)) : List Int)).bind fun y532 => (if a2 < (l0_1.length : Int) then (some (y532.set (a2 : Int).toNat (Go.bits .xor .i64 (rd y532 a2) (shl .i64 1 a1)))) else (none))) else (none)) else (none)) else (none)
def impl_Graph_join.T1 : Bool × List (List Nat × List Nat) := (true, [([], []), ([0], [0]), ([], []), ([1, 2], [1, 2]), ([3], [3]), ([], []), ([5], [5]), ([4, 6], [4, 6]), ([1, 2, 0, 1, 2, 3, 4, 5, 6, 7], [1, 2]), ([8, 7, 0, 1, 2, 3, 4, 5, 6, 7], [7, 8])])
def impl_Graph_join.B1 : List Nat := [0, 1, 0, 7, 15, 0, 32, 127, 255, 511]
theorem impl_Graph_join.tab1 : rtab .any (opsOf Tryd.f51 1) = impl_Graph_join.T1 := by kernel_rfl
theorem impl_Graph_join.bits1 : waitsOk impl_Graph_join.T1.2 impl_Graph_join.B1 = true := by kernel_rfl
def impl_Graph_join.T2 : Bool × List (List Nat × List Nat) := (true, [([], []), ([0], [0]), ([], []), ([1, 2], [1, 2]), ([3], [3]), ([], []), ([5], [5]), ([4, 6], [4, 6]), ([1, 2, 0, 1, 2, 3, 4, 5, 6, 7], [1, 2]), ([8, 7, 0, 1, 2, 3, 4, 5, 6, 7], [7, 8])])
def impl_Graph_join.B2 : List Nat := [0, 1, 0, 7, 15, 0, 32, 127, 255, 511]
theorem impl_Graph_join.tab2 : rtab .any (opsOf Tryd.f51 2) = impl_Graph_join.T2 := by kernel_rfl
theorem impl_Graph_join.bits2 : waitsOk impl_Graph_join.T2.2 impl_Graph_join.B2 = true := by kernel_rfl
set_option maxHeartbeats 8000000 in
set_option maxRecDepth 100000 in
theorem impl_Graph_join.calls (a0_0 : Int) (P0_1_ : Nat → Prop) (u9000_ : Value) (l0_1 : List Int) (a1 : Int) (a2 : Int) (r : List Int) (w0 w : World) (hB : Below w0.heap.size w0 w) (ho0_1 : Kd.R (Kd.int .i64) 3 w w0.heap.size P0_1_ u9000_ l0_1) (h : impl_Graph_join.f a0_0 l0_1 a1 a2 = some r) :
  Calls Tryd.prog 51 #[.agg #[.int .i64 a0_0, u9000_], .int .i64 a1, .int .i64 a2] w fun e w' => e = .returned (.tuple #[]) ∧ Kd.R (Kd.int .i64) 3 w' w0.heap.size (fun k_ => (P0_1_ k_ ∨ w.heap.size ≤ k_)) u9000_ r ∧ Below w0.heap.size w0 w' ∧ Kept w w' (fun k_ => P0_1_ k_) := by
 have hu39 := Tryd.underlying39
 have HO0_1 := Aside0.mk (show Kd.R (Kd.int .i64) 3 w w0.heap.size (fun k_ => (P0_1_ k_ ∨ w.heap.size ≤ k_)) u9000_ l0_1 from Kd.R_mono ho0_1 (fun k_ hk => (.inl hk)))
 have HK := Aside0.mk (Kept.refl w (fun k_ => P0_1_ k_))
 have HW0 := Aside0.mk hB.size
 have HB := Aside0.mk hB
 clear hB
 have H : (if 0 ≤ a1 then (if a1 < (l0_1.length : Int) then (if 0 ≤ a2 then ((some (l0_1.set (a1 : Int).toNat (Go.bits .xor .i64 (rd l0_1 a1) (shl .i64 1 a2)) : List Int)).bind fun y532 => (if a2 < (l0_1.length : Int) then (some (y532.set (a2 : Int).toNat (Go.bits .xor .i64 (rd y532 a2) (shl .i64 1 a1)))) else (none))) else (none)) else (none)) else (none)) = some r := h
 clear h
 by_cases c4 : 0 ≤ a1
 ·
  rw [if_pos c4] at H
  have c4b0 : decide (0 ≤ a1) = true := decide_eq_true c4
  clear c4
  by_cases c5 : a1 < (l0_1.length : Int)
  ·
   rw [if_pos c5] at H
   have c5b0 : decide (a1 < (l0_1.length : Int)) = true := decide_eq_true c5
   clear c5
   by_cases c6 : 0 ≤ a2
   ·
    rw [if_pos c6] at H
    have c6b0 := eq_true c6
    have c6b1 : decide (0 ≤ a2) = true := decide_eq_true c6
    clear c6
    obtain ⟨ji7, hji7⟩ : ∃ j_ : Int, (shl .i64 1 a2) = j_ := ⟨_, rfl⟩
    replace H : ((some (l0_1.set (a1 : Int).toNat (Go.bits .xor .i64 (rd l0_1 a1) (ji7)) : List Int)).bind fun y532 => (if a2 < (l0_1.length : Int) then (some (y532.set (a2 : Int).toNat (Go.bits .xor .i64 (rd y532 a2) (shl .i64 1 a1)))) else (none))) = some r := by first | (rw [hji7] at H; exact H) | (simp only [hji7] at H ⊢; exact H)
    have hji7_ : (IntKind.i64.wrap (1 * 2 ^ min a2.toNat 64)) = ji7 := hji7
    have hji7z : a2 ≤ 64 → (IntKind.i64.wrap (1 * 2 ^ a2.toNat)) = ji7 := shl_small hji7
    have hji7u : (IntKind.i64.wrap (2 ^ min a2.toNat 64)) = ji7 := by have h_ := hji7_; rw [Int.one_mul] at h_; exact h_
    have hji7v : a2 ≤ 64 → (IntKind.i64.wrap (2 ^ a2.toNat)) = ji7 := fun hle_ => by have h_ := hji7z hle_; rw [Int.one_mul] at h_; exact h_
    have hji7y : (wrap64 (1 * 2 ^ min a2.toNat 64)) = ji7 := (i64_w _).symm.trans hji7_
    have hji7x : a2 ≤ 64 → (wrap64 (1 * 2 ^ a2.toNat)) = ji7 := fun h_ => (i64_w _).symm.trans (hji7z h_)
    obtain ⟨y532, hy532⟩ : ∃ y_ : List Int, y_ = (l0_1.set (a1 : Int).toNat (Go.bits .xor .i64 (rd l0_1 a1) (ji7))) := ⟨_, rfl⟩
    replace H : (if a2 < (l0_1.length : Int) then (some (y532.set (a2 : Int).toNat (Go.bits .xor .i64 (rd y532 a2) (shl .i64 1 a1)))) else (none)) = some r := by first | (rw [hy532]; with_reducible exact H) | (have H2_ := (Option.bind_some _ _).symm.trans H; rw [hy532]; with_reducible exact H2_) | (have H2_ := (Option.bind_some _ _).symm.trans H; with_reducible exact H2_) | with_reducible exact H | (rw [hy532]; exact H) | exact H
    have Ny532 := Aside0.mk hy532
    clear hy532
    by_cases c9 : a2 < (l0_1.length : Int)
    ·
     rw [if_pos c9] at H
     have c9b0 : decide (a2 < (l0_1.length : Int)) = true := decide_eq_true c9
     clear c9
     have c10b0 := eq_true (of_decide_eq_true (by first | (with_reducible assumption) | assumption) : 0 ≤ a1)
     obtain ⟨ji11, hji11⟩ : ∃ j_ : Int, (shl .i64 1 a1) = j_ := ⟨_, rfl⟩
     replace H : (some (y532.set (a2 : Int).toNat (Go.bits .xor .i64 (rd y532 a2) (ji11)))) = some r := by first | (rw [hji11] at H; exact H) | (simp only [hji11] at H ⊢; exact H)
     have hji11_ : (IntKind.i64.wrap (1 * 2 ^ min a1.toNat 64)) = ji11 := hji11
     have hji11z : a1 ≤ 64 → (IntKind.i64.wrap (1 * 2 ^ a1.toNat)) = ji11 := shl_small hji11
     have hji11u : (IntKind.i64.wrap (2 ^ min a1.toNat 64)) = ji11 := by have h_ := hji11_; rw [Int.one_mul] at h_; exact h_
     have hji11v : a1 ≤ 64 → (IntKind.i64.wrap (2 ^ a1.toNat)) = ji11 := fun hle_ => by have h_ := hji11z hle_; rw [Int.one_mul] at h_; exact h_
     have hji11y : (wrap64 (1 * 2 ^ min a1.toNat 64)) = ji11 := (i64_w _).symm.trans hji11_
     have hji11x : a1 ≤ 64 → (wrap64 (1 * 2 ^ a1.toNat)) = ji11 := fun h_ => (i64_w _).symm.trans (hji11z h_)
     obtain ⟨y534, hy534⟩ : ∃ y_ : List Int, y_ = (y532.set (a2 : Int).toNat (Go.bits .xor .i64 (rd y532 a2) (ji11))) := ⟨_, rfl⟩
     replace H : (some y534) = some r := by first | (rw [hy534]; with_reducible exact H) | (have H2_ := (Option.bind_some _ _).symm.trans H; rw [hy534]; with_reducible exact H2_) | (have H2_ := (Option.bind_some _ _).symm.trans H; with_reducible exact H2_) | with_reducible exact H | (rw [hy534]; exact H) | exact H
     have Ny534 := Aside0.mk hy534
     clear hy534
     obtain rfl := Option.some.inj H
     obtain ⟨Ao13, co13, eo13⟩ := Kd.R_slice HO0_1.out
     subst eo13
     go_enter Tryd.func51, Tryd.ntmps51
     try go_wp2_with (((with_reducible refine gate_dst (N := 3) rfl ?_); refine box_event ?hg (N := 3) ?hd (cs := #[.int .i64 a0_0, .slice Ao13 l0_1.length co13]) (t := 39) ?hr ?_; (case hd => rfl); (case hg => rfl); (case hr => first | (go_simp; done) | (go_simp; rfl)); intro gb530 hg w14 hbox hb; have n0_ := Aside0.mk (Kd.R_below (by (with_reducible repeat (fail)); exact HO0_1.out) hb); have n1_ := Aside0.mk (Kept.below (S := (fun k_ => P0_1_ k_)) (by repeat ((with_reducible exact HK.out))) hb); have n2_ := Aside0.mk (below_step (by repeat ((with_reducible exact HB.out))) hb); have n3_ := Aside0.mk (hbox); have n4_ := Aside0.mk ((by rw [hg]; exact (by first | exact HK.out.1 | exact (show Kept w _ (fun k_ => P0_1_ k_) from by repeat (fail)).1) : w.heap.size ≤ gb530)); have n5_ := Aside0.mk ((by rw [hg]; exact (below_size (by repeat ((with_reducible exact HB.out)))) : w0.heap.size ≤ gb530)); clear HO0_1; clear HK; clear HB; have HO0_1 := n0_; have HK := n1_; have HB := n2_; have BK530 := n3_; have GW530 := n4_; have GE530 := n5_; clear n0_ n1_ n2_ n3_ n4_ n5_; clear hb hbox hg))
     have n0_ := Aside0.mk (Kd.R_drew HO0_1.out)
     have n1_ := Aside0.mk (blk_drew BK530.out)
     have n2_ := Aside0.mk (Kept.drew HK.out)
     have n3_ := Aside0.mk (below_drew1 HB.out)
     clear HO0_1
     clear BK530
     clear HK
     clear HB
     have HO0_1 := n0_
     have BK530 := n1_
     have HK := n2_
     have HB := n3_
     clear n0_ n1_ n2_ n3_
     have p531 : 0 ≤ (a1 : Int) := of_decide_eq_true (by first | (with_reducible assumption) | assumption)
     have q531 : a1 < (l0_1.length : Int) := of_decide_eq_true (by first | (with_reducible assumption) | assumption)
     obtain ⟨ad531, e531, hx531_0⟩ := Kd.at_int (Kd.R_reads' HO0_1.out).2.2 a1 p531 q531
     cases e531
     replace p531 := eq_true p531
     replace q531 := eq_true q531
     have p8 : 0 ≤ (a1 : Int) := of_decide_eq_true (by first | (with_reducible assumption) | assumption)
     have q8 : (a1 : Int) < ((l0_1.length : Int) : Int) := of_decide_eq_true (by first | (with_reducible assumption) | assumption)
     obtain ⟨go8, co8, eo8, gb8, gl8, cl8, HG8⟩ := Kd.R_form HO0_1.out (by omega)
     (cases eo8)
     have GB8 := Aside0.mk gb8
     have GG8 := Aside0.mk HG8
     clear gb8 gl8 HG8
     have HMgo8 := Aside0.mk (show (P0_1_ go8 ∨ w.heap.size ≤ go8) from (HO0_1.out.1 _ rfl))
     (simp only [add_plain] at hx531_0)
     obtain ⟨hx8_0, hf8_0⟩ := Kd.R_celln 0 HO0_1.out (a1 : Int) p8 q8
     replace p8 := eq_true p8
     replace q8 := eq_true q8
     have HP16 := Kd.R_putn HO0_1.out (a1 : Int) (Go.bits .xor .i64 (rd l0_1 a1) (ji7))
     rw [← Ny532.out] at HP16
     have HQ16 := Aside0.mk HP16
     clear HP16
     refine start_ (n := 10) (S := fun w' => w'.cell? ⟨gb530, 0, none⟩ = some (.int .i64 a0_0) ∧ w'.cell? ⟨gb530, 1, none⟩ = some (.slice (some ⟨go8, 0, none⟩) l0_1.length co13) ∧ w'.cell? ⟨go8, (a1).toNat, none⟩ = some (.int .i64 (rd l0_1 a1))) (ds := [9]) #[Zz,Zz,Zz,Zz,Zz,Zz,Zz,Zz,Zz,Zz] (by kernel_rfl) rfl rfl ⟨(blk_cell BK530.out 0).trans rfl, (blk_cell BK530.out 1).trans rfl, hx531_0⟩ (fun hHeld => ?_); refine with_tabW impl_Graph_join.tab1 impl_Graph_join.bits1 (fun HT_ HW_ => ?_)
     generalize w14.drew = w15 at HO0_1 BK530 HK HB GG8 HQ16 hf8_0 hx531_0 hx8_0 hHeld ⊢
     refine pure_ (i := 0) (N := some 6) (v := ?_) (a' := ?_) #[Yy,Zz,Zz,Zz,Zz,Zz,Zz,Zz,Zz,Zz] rfl rfl (any_of HT_.out (by kernel_rfl)) (fun _ _ _ h => h) (Or.inl ⟨by rfl, ?_⟩) ?_ ?_
     rotate_left
     ·
      intro w'
      go_simp
      with_reducible rfl
     rotate_left
     ·
      simp only [Act.put, List.setIfInBounds_toArray, List.set_cons_zero, List.set_cons_succ, i64_w, i32_w]
      rfl
     refine pure_ (i := 2) (N := some 8) (v := ?_) (a' := ?_) #[Yy,Zz,Yy,Zz,Zz,Zz,Zz,Zz,Zz,Zz] rfl rfl (any_of HT_.out (by kernel_rfl)) (fun _ _ _ h => h) (Or.inl ⟨by rfl, ?_⟩) ?_ ?_
     rotate_left
     ·
      intro w'
      go_simp
      with_reducible rfl
     rotate_left
     ·
      simp only [Act.put, List.setIfInBounds_toArray, List.set_cons_zero, List.set_cons_succ, i64_w, i32_w]
      rfl
     refine pure_ (i := 5) (N := some 11) (v := ?_) (a' := ?_) #[Yy,Zz,Yy,Zz,Zz,Yy,Zz,Zz,Zz,Zz] rfl rfl (any_of HT_.out (by kernel_rfl)) (fun _ _ _ h => h) (Or.inl ⟨by rfl, ?_⟩) ?_ ?_
     rotate_left
     ·
      intro w'
      go_simp
      with_reducible rfl
     rotate_left
     ·
      simp only [Act.put, List.setIfInBounds_toArray, List.set_cons_zero, List.set_cons_succ, i64_w, i32_w]
      rfl
     refine pure_ (i := 6) (N := some 12) (v := ?_) (a' := ?_) #[Yy,Zz,Yy,Zz,Zz,Yy,Yy,Zz,Zz,Zz] rfl rfl (any_of HT_.out (by kernel_rfl)) (fun _ _ _ h => h) (Or.inl ⟨by rfl, ?_⟩) ?_ ?_
     rotate_left
     ·
      intro w'
      go_simp
      with_reducible rfl
     rotate_left
     ·
      simp only [Act.put, List.setIfInBounds_toArray, List.set_cons_zero, List.set_cons_succ, i64_w, i32_w]
      rfl
     refine take_ (i := 1) (N := some 7) (v := ?_) (a' := ?_) #[Yy,Yy,Yy,Zz,Zz,Yy,Yy,Zz,Zz,Zz] rfl rfl (take_ofW HT_.out HW_.out (by kernel_rfl)) (fun _ _ _ h => h) (Or.inl ⟨by rfl, ?_⟩) hHeld ?_ ?_
     rotate_left
     ·
      rintro w' ⟨s0, s1, s2⟩
      go_simp
      with_reducible rfl
     rotate_left
     ·
      simp only [Act.put, List.setIfInBounds_toArray, List.set_cons_zero, List.set_cons_succ, i64_w, i32_w]
      rfl
     refine pure_ (i := 3) (N := some 9) (v := ?_) (a' := ?_) #[Yy,Yy,Yy,Yy,Zz,Yy,Yy,Zz,Zz,Zz] rfl rfl (any_of HT_.out (by kernel_rfl)) (fun _ _ _ h => h) (Or.inl ⟨by rfl, ?_⟩) ?_ ?_
     rotate_left
     ·
      intro w'
      go_simp
      with_reducible rfl
     rotate_left
     ·
      simp only [Act.put, List.setIfInBounds_toArray, List.set_cons_zero, List.set_cons_succ, i64_w, i32_w]
      rfl
     refine take_ (i := 4) (N := some 10) (v := ?_) (a' := ?_) #[Yy,Yy,Yy,Yy,Yy,Yy,Yy,Zz,Zz,Zz] rfl rfl (take_ofW HT_.out HW_.out (by kernel_rfl)) (fun _ _ _ h => h) (Or.inl ⟨by rfl, ?_⟩) hHeld ?_ ?_
     rotate_left
     ·
      rintro w' ⟨s0, s1, s2⟩
      go_simp
      with_reducible rfl
     rotate_left
     ·
      simp only [Act.put, List.setIfInBounds_toArray, List.set_cons_zero, List.set_cons_succ, i64_w, i32_w]
      rfl
     refine pure_ (i := 7) (N := some 13) (v := ?_) (a' := ?_) #[Yy,Yy,Yy,Yy,Yy,Yy,Yy,Yy,Zz,Zz] rfl rfl (any_of HT_.out (by kernel_rfl)) (fun _ _ _ h => h) (Or.inl ⟨by rfl, ?_⟩) ?_ ?_
     rotate_left
     ·
      intro w'
      go_simp
      with_reducible rfl
     rotate_left
     ·
      simp only [Act.put, List.setIfInBounds_toArray, List.set_cons_zero, List.set_cons_succ, i64_w, i32_w]
      rfl
     refine pure_ (i := 8) (N := some 14) (v := ?_) (a' := ?_) #[Yy,Yy,Yy,Yy,Yy,Yy,Yy,Yy,Yy,Zz] rfl rfl (any_of HT_.out (by kernel_rfl)) (fun _ _ _ h => h) (Or.inl ⟨by rfl, ?_⟩) ?_ ?_
     rotate_left
     ·
      intro w'
      go_simp
      with_reducible rfl
     rotate_left
     ·
      simp only [Act.put, List.setIfInBounds_toArray, List.set_cons_zero, List.set_cons_succ, i64_w, i32_w]
      rfl
     refine last_ (i := 9) (N := none) #[Yy,Yy,Yy,Yy,Yy,Yy,Yy,Yy,Yy,Yy] rfl rfl (one_of HT_.out (by kernel_rfl)) (by decide) (fun K hK => ?_)
     refine skip_ (w1 := ?_) (by rfl) rfl ?_ ?_
     rotate_left
     ·
      go_simp
      rfl
     refine hK.out _ _ ?_
     clear hK K
     refine done_ (done_of HT_.out (by kernel_rfl)) ?_
     try go_wp2
     have n0_ : Aside0 (Kd.R (Kd.int .i64) 3 (w15.setCell ⟨go8, (a1 : Int).toNat, none⟩ (.int .i64 (Go.bits .xor .i64 (rd l0_1 a1) (ji7)))) w0.heap.size (fun k_ => (P0_1_ k_ ∨ w.heap.size ≤ k_)) (.slice (some ⟨go8, 0, none⟩) l0_1.length co13) y532) := ⟨by (with_reducible repeat (fail)); exact HQ16.out⟩
     have n1_ : Aside0 ((w15.setCell ⟨go8, (a1 : Int).toNat, none⟩ (.int .i64 (Go.bits .xor .i64 (rd l0_1 a1) (ji7)))).heap[gb530]? = some (.cells #[.int .i64 a0_0, .slice (some ⟨go8, 0, none⟩) l0_1.length co13] 39 (0, 0))) := ⟨by (with_reducible repeat (fail)); refine blk_far ?_ (by have h_ := Kd.R_ne HO0_1.out BK530.out (by decide); intro e_; exact h_ (by rw [e_]; rfl)) _; (with_reducible repeat (fail)); exact BK530.out⟩
     have n2_ : Aside0 (Kept w (w15.setCell ⟨go8, (a1 : Int).toNat, none⟩ (.int .i64 (Go.bits .xor .i64 (rd l0_1 a1) (ji7)))) (fun k_ => P0_1_ k_)) := ⟨by repeat ((with_reducible first | exact HK.out | refine Kept.setCell ?_ HMgo8.out _))⟩
     have n3_ : Aside0 (Below w0.heap.size w0 (w15.setCell ⟨go8, (a1 : Int).toNat, none⟩ (.int .i64 (Go.bits .xor .i64 (rd l0_1 a1) (ji7))))) := ⟨by repeat ((with_reducible first | exact HB.out | refine below_set ?_ GB8.out))⟩
     clear HO0_1
     clear BK530
     clear HK
     clear HB
     generalize (w15.setCell ⟨go8, (a1 : Int).toNat, none⟩ (.int .i64 (Go.bits .xor .i64 (rd l0_1 a1) (ji7)))) = w17 at n0_ n1_ n2_ n3_ ⊢
     have HO0_1 := n0_
     have BK530 := n1_
     have HK := n2_
     have HB := n3_
     clear n0_ n1_ n2_ n3_
     have n0_ := Aside0.mk (Kd.R_drew HO0_1.out)
     have n1_ := Aside0.mk (blk_drew BK530.out)
     have n2_ := Aside0.mk (Kept.drew HK.out)
     have n3_ := Aside0.mk (below_drew1 HB.out)
     clear HO0_1
     clear BK530
     clear HK
     clear HB
     have HO0_1 := n0_
     have BK530 := n1_
     have HK := n2_
     have HB := n3_
     clear n0_ n1_ n2_ n3_
     have p533 : 0 ≤ (a2 : Int) := of_decide_eq_true (by first | (with_reducible assumption) | assumption)
     have q533 : a2 < (y532.length : Int) := (by have h_ : (a2 : Int) < ((l0_1.length : Int) : Int) := of_decide_eq_true (by first | (with_reducible assumption) | assumption); first | (have e_ := (Kd.R_reads' HO0_1.out).1; omega) | simpa only [Ny532.out, List.length_set] using h_)
     have ql533 : ((a2 : Int) < ((l0_1.length : Int) : Int)) = True := eq_true (of_decide_eq_true (by first | (with_reducible assumption) | assumption))
     obtain ⟨ad533, e533, hx533_0⟩ := Kd.at_int (Kd.R_reads' HO0_1.out).2.2 a2 p533 q533
     obtain rfl : (⟨go8, 0, none⟩ : Addr) = ad533 := (by injection e533)
     (simp only [add_plain] at hx533_0)
     replace p533 := eq_true p533
     replace q533 := eq_true q533
     have p12 : 0 ≤ (a2 : Int) := of_decide_eq_true (by first | (with_reducible assumption) | assumption)
     have q12 : (a2 : Int) < ((l0_1.length : Int) : Int) := of_decide_eq_true (by first | (with_reducible assumption) | assumption)
     obtain ⟨hx12_0, hf12_0⟩ := Kd.R_celln 0 HO0_1.out (a2 : Int) p12 q12
     replace p12 := eq_true p12
     replace q12 := eq_true q12
     have HP19 := Kd.R_putn HO0_1.out (a2 : Int) (Go.bits .xor .i64 (rd y532 a2) (ji11))
     rw [← Ny534.out] at HP19
     have HQ19 := Aside0.mk HP19
     clear HP19
     refine start_ (n := 10) (S := fun w' => w'.cell? ⟨gb530, 0, none⟩ = some (.int .i64 a0_0) ∧ w'.cell? ⟨gb530, 1, none⟩ = some (.slice (some ⟨go8, 0, none⟩) l0_1.length co13) ∧ w'.cell? ⟨go8, (a2).toNat, none⟩ = some (.int .i64 (rd y532 a2))) (ds := [9]) #[Zz,Zz,Zz,Zz,Zz,Zz,Zz,Zz,Zz,Zz] (by kernel_rfl) rfl rfl ⟨(blk_cell BK530.out 0).trans rfl, (blk_cell BK530.out 1).trans rfl, hx533_0⟩ (fun hHeld => ?_); refine with_tabW impl_Graph_join.tab2 impl_Graph_join.bits2 (fun HT_ HW_ => ?_)
     generalize w17.drew = w18 at HO0_1 BK530 HK HB HQ16 HQ19 hf12_0 hx12_0 hx533_0 hHeld ⊢
     refine pure_ (i := 0) (N := some 15) (v := ?_) (a' := ?_) #[Yy,Zz,Zz,Zz,Zz,Zz,Zz,Zz,Zz,Zz] rfl rfl (any_of HT_.out (by kernel_rfl)) (fun _ _ _ h => h) (Or.inl ⟨by rfl, ?_⟩) ?_ ?_
     rotate_left
     ·
      intro w'
      go_simp
      with_reducible rfl
     rotate_left
     ·
      simp only [Act.put, List.setIfInBounds_toArray, List.set_cons_zero, List.set_cons_succ, i64_w, i32_w]
      rfl
     refine pure_ (i := 2) (N := some 17) (v := ?_) (a' := ?_) #[Yy,Zz,Yy,Zz,Zz,Zz,Zz,Zz,Zz,Zz] rfl rfl (any_of HT_.out (by kernel_rfl)) (fun _ _ _ h => h) (Or.inl ⟨by rfl, ?_⟩) ?_ ?_
     rotate_left
     ·
      intro w'
      go_simp
      with_reducible rfl
     rotate_left
     ·
      simp only [Act.put, List.setIfInBounds_toArray, List.set_cons_zero, List.set_cons_succ, i64_w, i32_w]
      rfl
     refine pure_ (i := 5) (N := some 20) (v := ?_) (a' := ?_) #[Yy,Zz,Yy,Zz,Zz,Yy,Zz,Zz,Zz,Zz] rfl rfl (any_of HT_.out (by kernel_rfl)) (fun _ _ _ h => h) (Or.inl ⟨by rfl, ?_⟩) ?_ ?_
     rotate_left
     ·
      intro w'
      go_simp
      with_reducible rfl
     rotate_left
     ·
      simp only [Act.put, List.setIfInBounds_toArray, List.set_cons_zero, List.set_cons_succ, i64_w, i32_w]
      rfl
     refine pure_ (i := 6) (N := some 21) (v := ?_) (a' := ?_) #[Yy,Zz,Yy,Zz,Zz,Yy,Yy,Zz,Zz,Zz] rfl rfl (any_of HT_.out (by kernel_rfl)) (fun _ _ _ h => h) (Or.inl ⟨by rfl, ?_⟩) ?_ ?_
     rotate_left
     ·
      intro w'
      go_simp
      with_reducible rfl
     rotate_left
     ·
      simp only [Act.put, List.setIfInBounds_toArray, List.set_cons_zero, List.set_cons_succ, i64_w, i32_w]
      rfl
     refine take_ (i := 1) (N := some 16) (v := ?_) (a' := ?_) #[Yy,Yy,Yy,Zz,Zz,Yy,Yy,Zz,Zz,Zz] rfl rfl (take_ofW HT_.out HW_.out (by kernel_rfl)) (fun _ _ _ h => h) (Or.inl ⟨by rfl, ?_⟩) hHeld ?_ ?_
     rotate_left
     ·
      rintro w' ⟨s0, s1, s2⟩
      go_simp
      with_reducible rfl
     rotate_left
     ·
      simp only [Act.put, List.setIfInBounds_toArray, List.set_cons_zero, List.set_cons_succ, i64_w, i32_w]
      rfl
     refine pure_ (i := 3) (N := some 18) (v := ?_) (a' := ?_) #[Yy,Yy,Yy,Yy,Zz,Yy,Yy,Zz,Zz,Zz] rfl rfl (any_of HT_.out (by kernel_rfl)) (fun _ _ _ h => h) (Or.inl ⟨by rfl, ?_⟩) ?_ ?_
     rotate_left
     ·
      intro w'
      go_simp
      with_reducible rfl
     rotate_left
     ·
      simp only [Act.put, List.setIfInBounds_toArray, List.set_cons_zero, List.set_cons_succ, i64_w, i32_w]
      rfl
     refine take_ (i := 4) (N := some 19) (v := ?_) (a' := ?_) #[Yy,Yy,Yy,Yy,Yy,Yy,Yy,Zz,Zz,Zz] rfl rfl (take_ofW HT_.out HW_.out (by kernel_rfl)) (fun _ _ _ h => h) (Or.inl ⟨by rfl, ?_⟩) hHeld ?_ ?_
     rotate_left
     ·
      rintro w' ⟨s0, s1, s2⟩
      go_simp
      with_reducible rfl
     rotate_left
     ·
      simp only [Act.put, List.setIfInBounds_toArray, List.set_cons_zero, List.set_cons_succ, i64_w, i32_w]
      rfl
     refine pure_ (i := 7) (N := some 22) (v := ?_) (a' := ?_) #[Yy,Yy,Yy,Yy,Yy,Yy,Yy,Yy,Zz,Zz] rfl rfl (any_of HT_.out (by kernel_rfl)) (fun _ _ _ h => h) (Or.inl ⟨by rfl, ?_⟩) ?_ ?_
     rotate_left
     ·
      intro w'
      go_simp
      with_reducible rfl
     rotate_left
     ·
      simp only [Act.put, List.setIfInBounds_toArray, List.set_cons_zero, List.set_cons_succ, i64_w, i32_w]
      rfl
     refine pure_ (i := 8) (N := some 23) (v := ?_) (a' := ?_) #[Yy,Yy,Yy,Yy,Yy,Yy,Yy,Yy,Yy,Zz] rfl rfl (any_of HT_.out (by kernel_rfl)) (fun _ _ _ h => h) (Or.inl ⟨by rfl, ?_⟩) ?_ ?_
     rotate_left
     ·
      intro w'
      go_simp
      with_reducible rfl
     rotate_left
     ·
      simp only [Act.put, List.setIfInBounds_toArray, List.set_cons_zero, List.set_cons_succ, i64_w, i32_w]
      rfl
     refine last_ (i := 9) (N := none) #[Yy,Yy,Yy,Yy,Yy,Yy,Yy,Yy,Yy,Yy] rfl rfl (one_of HT_.out (by kernel_rfl)) (by decide) (fun K hK => ?_)
     refine skip_ (w1 := ?_) (by rfl) rfl ?_ ?_
     rotate_left
     ·
      go_simp
      rfl
     refine hK.out _ _ ?_
     clear hK K
     refine done_ (done_of HT_.out (by kernel_rfl)) ?_
     try go_wp2
     first | go_end0 | ((try simp only [Exit.inBlock, Exit.then]); refine bodyPost_ret (results_none rfl _ _ _) rfl ?_)
     exact ⟨by first | rfl | (simp [errW_none, errW_some] <;> rfl) | (simp only [← hji7, ← hji11]; first | rfl | (simp [errW_none, errW_some] <;> rfl)) | (simp [*, errW_none, errW_some] <;> rfl), by (with_reducible repeat (fail)); exact HQ19.out, by repeat ((with_reducible first | exact HB.out | refine below_set ?_ GB8.out)), by repeat ((with_reducible first | exact HK.out | refine Kept.setCell ?_ HMgo8.out _))⟩
    ·
     rw [if_neg c9] at H
     exact absurd H (by simp)
   ·
    rw [if_neg c6] at H
    exact absurd H (by simp)
  ·
   rw [if_neg c5] at H
   exact absurd H (by simp)
 ·
  rw [if_neg c4] at H
  exact absurd H (by simp)
end Go.Proofs.YtcheoendfcgjgaaDoor.P
namespace Go.Proofs.YtcheoendfcgjgaaDoor.P
open Go.RowKit Go.Proofs.YtcheoendfcgjgaaDoorW.PrintWords Go.Proofs.YtcheoendfcgjgaaDoorW.PrintLast Go.Proofs.YtcheoendfcgjgaaDoorW.PrintMore Go.Proofs.YtcheoendfcgjgaaDoor.K
open Go Go.Sort Go.Shelf
attribute [local go_sem ↓] Go.wp_at_zero Go.wp_at_succ
def bgCmp (nd : List Int) (x y : Int) : Int := if rd nd x ≠ rd nd y then rd nd y - rd nd x else x - y
set_option maxHeartbeats 800000 in
set_option maxRecDepth 100000 in
theorem bgCmp_calls (nd : List Int) (g cap : Nat) (A : Option Addr) (x y : Nat) (W : World) (hc : W.cell? ⟨g, 0, none⟩ = some (.slice A nd.length cap)) (hr : Kd.C (Kd.int .i64) W A nd.length nd) (hx : x < nd.length) (hy : y < nd.length) (hn : nd.length ≤ 8) (hb : ∀ z ∈ nd, -1000 ≤ z ∧ z ≤ 1000) :
  Calls Tryd.prog 50 (#[.int .i64 (x : Int), .int .i64 (y : Int)] ++ #[.pointer (some ⟨g, 0, none⟩)]) W fun e w' => e = .returned (.int .i64 (bgCmp nd (x : Int) (y : Int))) ∧ ∃ q, w' = W.drewN q := by
 obtain ⟨ad, e2, h1⟩ := Kd.at_int hr (x : Int) (by omega) (by omega)
 cases e2
 obtain ⟨ad', e2, h2⟩ := Kd.at_int hr (y : Int) (by omega) (by omega)
 cases e2
 simp only [Int.toNat_natCast] at h1 h2
 have m1 : -1000 ≤ rd nd (x : Int) ∧ rd nd (x : Int) ≤ 1000 := by
  rw [rd, Int.toNat_natCast, List.getD_eq_getElem?_getD, List.getElem?_eq_getElem hx]; exact hb _ (List.getElem_mem hx)
 have m2 : -1000 ≤ rd nd (y : Int) ∧ rd nd (y : Int) ≤ 1000 := by
  rw [rd, Int.toNat_natCast, List.getD_eq_getElem?_getD, List.getElem?_eq_getElem hy]; exact hb _ (List.getElem_mem hy)
 unfold bgCmp
 generalize rd nd (x : Int) = u at h1 m1 ⊢
 generalize rd nd (y : Int) = v at h2 m2 ⊢
 have b1 : (x : Int) ≤ 1048575 := by omega
 have b2 : (y : Int) ≤ 1048575 := by omega
 have c1 : decide ((x : Int) < (nd.length : Int)) = true := by simp; omega
 have c2 : decide (x < nd.length) = true := by simp; omega
 have c3 : decide ((y : Int) < (nd.length : Int)) = true := by simp; omega
 have c4 : decide (y < nd.length) = true := by simp; omega
 obtain ⟨u1, u2⟩ := m1
 obtain ⟨v1, v2⟩ := m2
 clear hr hb hn
 simp only [List.append_toArray, List.cons_append, List.nil_append]
 by_cases huv : u = v
 ·
  subst huv
  go_enter Tryd.func50, Tryd.ntmps50
  go_wp2
  go_region_held3 (fun w' => w'.cell? ⟨g, 0, none⟩ = some (.slice (some ad) nd.length cap) ∧ w'.cell? (ad.add x) = some (.int .i64 u) ∧ w'.cell? (ad.add y) = some (.int .i64 u)) (go_keep) (fail)
  go_wp2
  go_ret
  exact ⟨by simp, _, rfl⟩
 ·
  have c5 : decide (u = v) = false := by simpa using huv
  have HW : Aside0 (IntKind.i64.wrap (v - u) = v - u) := ⟨IntWalk.i64_in _ (by omega)⟩
  go_enter Tryd.func50, Tryd.ntmps50
  go_wp2
  go_region_held3 (fun w' => w'.cell? ⟨g, 0, none⟩ = some (.slice (some ad) nd.length cap) ∧ w'.cell? (ad.add x) = some (.int .i64 u) ∧ w'.cell? (ad.add y) = some (.int .i64 v)) (go_keep) (fail)
  go_wp2
  go_region_held3 (fun w' => w'.cell? ⟨g, 0, none⟩ = some (.slice (some ad) nd.length cap) ∧ w'.cell? (ad.add x) = some (.int .i64 u) ∧ w'.cell? (ad.add y) = some (.int .i64 v)) (go_keep) (fail)
  go_wp2
  go_ret
  exact ⟨by show Ending.returned (Value.int .i64 (IntKind.i64.wrap (v - u))) = _; rw [HW.out], 2, rfl⟩
structure BG (w W : World) (n : Nat) (g2 g4 g5 gB gN gO cB cN cO : Nat) (ns nd od : List Int) : Prop where
 b2 : W.heap[g2]? = some (.cells #[.int .i64 0, .slice none 0 0] 39 (0, 0))
 b4 : W.heap[g4]? = some (.cells #[.int .i64 (n : Int), .slice (some ⟨gB, 0, none⟩) ns.length cB] 39 (0, 0))
 b5 : W.heap[g5]? = some (.cells #[.slice (some ⟨gN, 0, none⟩) nd.length cN] 24 (0, 0))
 rB : K.IRow W w.heap.size gB cB ns
 rN : K.IRow W w.heap.size gN cN nd
 rO : K.IRow W w.heap.size gO cO od
 nBN : gB ≠ gN
 nBO : gB ≠ gO
 nNO : gN ≠ gO
 n24 : g2 ≠ g4
 bel : Below w.heap.size w W
 ge2 : w.heap.size ≤ g2
theorem BG.neBox {w W : World} {n g2 g4 g5 gB gN gO cB cN cO : Nat} {ns nd od : List Int} (h : BG w W n g2 g4 g5 gB gN gO cB cN cO ns nd od) {g c : Nat} {xs : List Int} (hr : K.IRow W w.heap.size g c xs) : g2 ≠ g ∧ g4 ≠ g ∧ g5 ≠ g := by
 obtain ⟨cur, h1, _⟩ := hr.blk
 refine ⟨fun e => ?_, fun e => ?_, fun e => ?_⟩
 ·
  have := h.b2; rw [e, h1] at this; injection this with q; injection q with q1 q2; exact absurd q2 (by decide)
 ·
  have := h.b4; rw [e, h1] at this; injection this with q; injection q with q1 q2; exact absurd q2 (by decide)
 ·
  have := h.b5; rw [e, h1] at this; injection this with q; injection q with q1 q2; exact absurd q2 (by decide)
theorem BG.keep {w W W2 : World} {n g2 g4 g5 gB gN gO cB cN cO : Nat} {ns nd od : List Int} (h : BG w W n g2 g4 g5 gB gN gO cB cN cO ns nd od) (hb : Below W.heap.size W W2) : BG w W2 n g2 g4 g5 gB gN gO cB cN cO ns nd od :=
 ⟨(hb.block _ (blk_lt h.b2)).trans h.b2, (hb.block _ (blk_lt h.b4)).trans h.b4, (hb.block _ (blk_lt h.b5)).trans h.b5, h.rB.keep (hb.block _ h.rB.lt), h.rN.keep (hb.block _ h.rN.lt), h.rO.keep (hb.block _ h.rO.lt), h.nBN, h.nBO, h.nNO, h.n24, below_step h.bel hb, h.ge2⟩
theorem BG.sorted {w W W2 : World} {n g2 g4 g5 gB gN gO cB cN cO : Nat} {ns nd od od' : List Int} (h : BG w W n g2 g4 g5 gB gN gO cB cN cO ns nd od) (hg : W.grownBy W2 (some gO)) (hr : K.IRow W2 w.heap.size gO cO od') : BG w W2 n g2 g4 g5 gB gN gO cB cN cO ns nd od' := by
 obtain ⟨q2, q4, q5⟩ := h.neBox h.rO
 have hk : ∀ k, k < W.heap.size → k ≠ gO → W2.heap[k]? = W.heap[k]? := fun k hk hne => hg.block k hk (fun e => hne (Option.some.inj e))
 exact ⟨(hk _ (blk_lt h.b2) q2).trans h.b2, (hk _ (blk_lt h.b4) q4).trans h.b4, (hk _ (blk_lt h.b5) q5).trans h.b5, h.rB.keep (hk _ h.rB.lt h.nBO), h.rN.keep (hk _ h.rN.lt h.nNO), hr, h.nBN, h.nBO, h.nNO, h.n24, pw_below_grown h.bel _ h.bel.size hg (fun k e => by cases e; exact h.rO.base), h.ge2⟩
theorem BG.joined {w W W2 : World} {n g2 g4 g5 gB gN gO cB cN cO : Nat} {ns ns' nd od : List Int} (h : BG w W n g2 g4 g5 gB gN gO cB cN cO ns nd od) (hk0 : Kept W W2 (fun k => k = gB)) (hb : Below w.heap.size w W2) (hr : K.IRow W2 w.heap.size gB cB ns') (hl : ns'.length = ns.length) : BG w W2 n g2 g4 g5 gB gN gO cB cN cO ns' nd od := by
 obtain ⟨q2, q4, q5⟩ := h.neBox h.rB
 have hk : ∀ k, k < W.heap.size → k ≠ gB → W2.heap[k]? = W.heap[k]? := fun k hk hne => hk0.2 k hk hne
 exact ⟨(hk _ (blk_lt h.b2) q2).trans h.b2, by rw [hl]; exact (hk _ (blk_lt h.b4) q4).trans h.b4, (hk _ (blk_lt h.b5) q5).trans h.b5, hr, h.rN.keep (hk _ h.rN.lt (Ne.symm h.nBN)), h.rO.keep (hk _ h.rO.lt (Ne.symm h.nBO)), h.nBN, h.nBO, h.nNO, h.n24, hb, h.ge2⟩
theorem BG.put {w W : World} {n g2 g4 g5 gB gN gO cB cN cO : Nat} {ns nd od : List Int} (h : BG w W n g2 g4 g5 gB gN gO cB cN cO ns nd od) (j : Nat) (hj : j < nd.length) (v : Int) : BG w (W.setCell ⟨gN, j, none⟩ (.int .i64 v)) n g2 g4 g5 gB gN gO cB cN cO ns (nd.set j v) od := by
 obtain ⟨q2, q4, q5⟩ := h.neBox h.rN
 have hs := h.rN.set j hj v
 exact ⟨(K.set_heap q2).trans h.b2, (K.set_heap q4).trans h.b4, by rw [List.length_set]; exact (K.set_heap q5).trans h.b5, h.rB.keep (K.set_heap h.nBN), hs, h.rO.keep (K.set_heap (Ne.symm h.nNO)), h.nBN, h.nBO, h.nNO, h.n24, below_set h.bel h.rN.base, h.ge2⟩
end Go.Proofs.YtcheoendfcgjgaaDoor.P
namespace Go.Proofs.YtcheoendfcgjgaaDoor.K
open Go.RowKit Go.Proofs.YtcheoendfcgjgaaDoorW.PrintWords Go.Proofs.YtcheoendfcgjgaaDoorW.PrintMore
theorem wrap_i64 (n : Int) (h0 : 0 ≤ n) (h1 : n < 2 ^ 62) : IntKind.i64.wrap n = n := by
  have : IntKind.i64.wrap n = wrap64 n := by simp [IntKind.wrap, IntKind.bits, IntKind.signed, wrap64]; omega
  rw [this]; unfold wrap64; omega
theorem and_nat (a b : Nat) (ha : a < 2 ^ 62) (hb : b < 2 ^ 62) : Go.bits .and .i64 (a : Int) (b : Int) = ((a &&& b : Nat) : Int) := (bits_nat .i64 62 (by decide) wrap_i64 a b ha hb).1
theorem or_nat (a b : Nat) (ha : a < 2 ^ 62) (hb : b < 2 ^ 62) : Go.bits .or .i64 (a : Int) (b : Int) = ((a ||| b : Nat) : Int) := (bits_nat .i64 62 (by decide) wrap_i64 a b ha hb).2
theorem bv_nat (a : Nat) (ha : a < 2 ^ 62) : a % 2 ^ 64 = a := Nat.mod_eq_of_lt (by omega)
theorem xor_nat (a b : Nat) (ha : a < 2 ^ 62) (hb : b < 2 ^ 62) : Go.bits .xor .i64 (a : Int) (b : Int) = ((a ^^^ b : Nat) : Int) := by
  simp only [Go.bits, show IntKind.i64.bits = 64 from rfl, BitVec.ofInt_natCast, BitVec.toNat_xor, BitVec.toNat_ofNat, bv_nat a ha, bv_nat b hb]
  exact wrap_i64 _ (by omega) (by exact_mod_cast Nat.xor_lt_two_pow ha hb)
theorem andNot_nat (a b : Nat) (ha : a < 2 ^ 62) (hb : b < 2 ^ 62) : Go.bits .andNot .i64 (a : Int) (b : Int) = ((a ^^^ (a &&& b) : Nat) : Int) := by
  simp only [Go.bits, show IntKind.i64.bits = 64 from rfl, BitVec.ofInt_natCast]
  have h1 : (BitVec.ofNat 64 a) &&& ~~~ (BitVec.ofNat 64 b) = (BitVec.ofNat 64 a) ^^^ ((BitVec.ofNat 64 a) &&& (BitVec.ofNat 64 b)) := by
    ext i hi; simp only [BitVec.getElem_and, BitVec.getElem_xor, BitVec.getElem_not]
    cases (BitVec.ofNat 64 a)[i] <;> cases (BitVec.ofNat 64 b)[i] <;> rfl
  have h2 : ((BitVec.ofNat 64 a) ^^^ ((BitVec.ofNat 64 a) &&& (BitVec.ofNat 64 b))).toNat = a ^^^ (a &&& b) := by
    rw [BitVec.toNat_xor, BitVec.toNat_and, BitVec.toNat_ofNat, BitVec.toNat_ofNat, bv_nat a ha, bv_nat b hb]
  have h3 : ((BitVec.ofNat 64 a) &&& ~~~ (BitVec.ofNat 64 b)).toNat = a ^^^ (a &&& b) := by rw [h1, h2]
  have h4 : a ^^^ (a &&& b) < 2 ^ 62 := Nat.xor_lt_two_pow ha (Nat.lt_of_le_of_lt Nat.and_le_left ha)
  refine Eq.trans (congrArg (fun n : Nat => IntKind.i64.wrap (n : Int)) h3) ?_
  exact wrap_i64 _ (by omega) (by exact_mod_cast h4)
theorem shl_one (i : Nat) (h : i ≤ 61) : shl .i64 1 (i : Int) = ((2 ^ i : Nat) : Int) := by
  unfold shl
  have h1 : min ((i : Int).toNat) IntKind.i64.bits = i := by simp [show IntKind.i64.bits = 64 from rfl]; omega
  rw [h1, Int.one_mul]
  have h2 : 2 ^ i ≤ 2 ^ 61 := Nat.pow_le_pow_right (by decide) h
  rw [wrap_i64 _ (by exact_mod_cast Nat.zero_le (2 ^ i)) (by exact_mod_cast Nat.lt_of_le_of_lt h2 (by decide))]
  exact_mod_cast rfl
theorem shr_nat (a i : Nat) (ha : a < 2 ^ 62) : shr .i64 (a : Int) (i : Int) = ((a >>> i : Nat) : Int) := by
  unfold shr
  rw [Nat.shiftRight_eq_div_pow]
  have e : min ((i : Int).toNat) IntKind.i64.bits = min i 64 := by simp [show IntKind.i64.bits = 64 from rfl]
  rw [e]
  have : a / 2 ^ i = a / 2 ^ (min i 64) := by
    by_cases h : i ≤ 64
    · rw [Nat.min_eq_left h]
    · rw [Nat.min_eq_right (by omega), Nat.div_eq_of_lt (Nat.lt_of_lt_of_le ha (Nat.pow_le_pow_right (by decide) (by omega))), Nat.div_eq_of_lt (Nat.lt_of_lt_of_le ha (by decide))]
  rw [this]
  exact_mod_cast rfl
theorem bit_one (a : Nat) (i : Nat) : (a >>> i) &&& 1 = if a.testBit i then 1 else 0 := by
  rw [Nat.and_one_is_mod, Nat.testBit, Nat.and_comm, Nat.and_one_is_mod]
  rcases Nat.mod_two_eq_zero_or_one (a >>> i) with h | h <;> simp [h]
theorem bit_mod (a : Nat) (i : Nat) : (a >>> i) % 2 = if a.testBit i then 1 else 0 := by rw [← Nat.and_one_is_mod, bit_one]
theorem hasB (a i : Nat) (ha : a < 2 ^ 62) : (Go.bits .and .i64 (shr .i64 (a : Int) (i : Int)) 1 == 1) = a.testBit i := by
  rw [shr_nat a i ha, show (1 : Int) = ((1 : Nat) : Int) from rfl, and_nat _ _ (Nat.lt_of_le_of_lt (by rw [Nat.shiftRight_eq_div_pow]; exact Nat.div_le_self _ _) ha) (by decide), bit_one]
  cases a.testBit i <;> rfl
theorem deHasB (a i : Nat) (ha : a < 2 ^ 62) : (Int.tmod (shr .i64 (a : Int) (i : Int)) 2 == 1) = a.testBit i := by
  rw [shr_nat a i ha, show (2 : Int) = ((2 : Nat) : Int) from rfl, ← Int.ofNat_tmod, bit_mod]
  cases a.testBit i <;> rfl
def nb (ns : List Nat) (i j : Nat) : Bool := (ns.getD i 0).testBit j
structure Sets (n : Nat) (ns : List Nat) : Prop where
  n1 : 1 ≤ n
  n8 : n ≤ 8
  len : ns.length = n
  lt : ∀ x ∈ ns, x < 2 ^ n
theorem Sets.get {n : Nat} {ns : List Nat} (h : Sets n ns) (i : Nat) : ns.getD i 0 < 2 ^ n := by
  rw [List.getD_eq_getElem?_getD]
  cases e : ns[i]? with
  | none => simp; exact Nat.two_pow_pos n
  | some x => exact h.lt x (List.mem_of_getElem? e)
theorem pow8 {n : Nat} (h : n ≤ 8) : 2 ^ n ≤ 256 := Nat.le_trans (Nat.pow_le_pow_right (by decide) h) (by decide)
theorem Sets.get62 {n : Nat} {ns : List Nat} (h : Sets n ns) (i : Nat) : ns.getD i 0 < 2 ^ 62 := Nat.lt_of_lt_of_le (h.get i) (Nat.le_trans (pow8 h.n8) (by decide))
theorem Sets.nb_lt {n : Nat} {ns : List Nat} (h : Sets n ns) {i j : Nat} (hj : n ≤ j) : nb ns i j = false :=
  Nat.testBit_lt_two_pow (Nat.lt_of_lt_of_le (h.get i) (Nat.pow_le_pow_right (by decide) hj))
theorem nb_set (ns : List Nat) (x v a b : Nat) (hx : x < ns.length) : nb (ns.set x v) a b = if a = x then v.testBit b else nb ns a b := by
  unfold nb
  rw [List.getD_eq_getElem?_getD, List.getElem?_set]
  by_cases h : a = x
  · subst h; simp [hx]
  · rw [if_neg (fun e => h e.symm), if_neg h, List.getD_eq_getElem?_getD]
theorem sets_set {n : Nat} {ns : List Nat} (h : Sets n ns) (x v : Nat) (hv : v < 2 ^ n) : Sets n (ns.set x v) :=
  ⟨h.n1, h.n8, by rw [List.length_set, h.len], fun y hy => by
    rcases List.mem_or_eq_of_mem_set hy with c | c
    · exact h.lt y c
    · omega⟩
theorem sets_or {n : Nat} {ns : List Nat} (h : Sets n ns) (x y : Nat) (hy : y < n) : Sets n (ns.set x (ns.getD x 0 ||| 2 ^ y)) :=
  sets_set h _ _ (Nat.or_lt_two_pow (h.get x) (Nat.pow_lt_pow_right (by decide) hy))
theorem nb_or {ns : List Nat} (x y : Nat) (hx : x < ns.length) (a b : Nat) : nb (ns.set x (ns.getD x 0 ||| 2 ^ y)) a b = (nb ns a b || (decide (a = x) && decide (b = y))) := by
  rw [nb_set _ _ _ _ _ hx]
  by_cases h : a = x
  · subst h
    rw [if_pos rfl, Nat.testBit_or, Nat.testBit_two_pow]
    simp [nb, eq_comm]
  · rw [if_neg h]; simp [h]
end Go.Proofs.YtcheoendfcgjgaaDoor.K
namespace Go.Proofs.YtcheoendfcgjgaaDoor.K
open Go.RowKit Go.Proofs.YtcheoendfcgjgaaDoorW.PrintWords Go.Proofs.YtcheoendfcgjgaaDoorW.PrintMore Go.Proofs.YtcheoendfcgjgaaDoor.P
theorem nb_xor {ns : List Nat} (x y : Nat) (hx : x < ns.length) (a b : Nat) : nb (ns.set x (ns.getD x 0 ^^^ 2 ^ y)) a b = ((nb ns a b) ^^ (decide (a = x) && decide (b = y))) := by
  rw [nb_set _ _ _ _ _ hx]
  by_cases h : a = x
  · subst h
    rw [if_pos rfl, Nat.testBit_xor, Nat.testBit_two_pow]
    simp [nb, eq_comm]
  · rw [if_neg h]; simp [h]
theorem sets_xor {n : Nat} {ns : List Nat} (h : Sets n ns) (x y : Nat) (hy : y < n) : Sets n (ns.set x (ns.getD x 0 ^^^ 2 ^ y)) :=
  sets_set h _ _ (Nat.xor_lt_two_pow (h.get x) (Nat.pow_lt_pow_right (by decide) hy))
theorem joinN_char {n : Nat} {ns : List Nat} (h : Sets n ns) (i j : Nat) (hi : i < n) (hj : j < n) (hij : i ≠ j) (z1 : nb ns i j = false) (z2 : nb ns j i = false) : Sets n (joinN ns i j) ∧ ∀ a b, nb (joinN ns i j) a b = (nb ns a b || ((decide (a = i) && decide (b = j)) || (decide (a = j) && decide (b = i)))) := by
  have h1 := sets_xor h i j hj
  refine ⟨sets_xor h1 j i hi, fun a b => ?_⟩
  unfold joinN
  rw [nb_xor j i (by rw [List.length_set, h.len]; exact hj), nb_xor i j (by rw [h.len]; exact hi)]
  by_cases c1 : a = i ∧ b = j
  · obtain ⟨rfl, rfl⟩ := c1; simp [z1, hij]
  · by_cases c2 : a = j ∧ b = i
    · obtain ⟨rfl, rfl⟩ := c2; simp [z2, Ne.symm hij]
    · have e1 : (decide (a = i) && decide (b = j)) = false := by simpa using c1
      have e2 : (decide (a = j) && decide (b = i)) = false := by simpa using c2
      rw [e1, e2]; simp
def orN (ns : List Nat) (i j : Nat) : List Nat := (ns.set i (ns.getD i 0 ||| 2 ^ j)).set j ((ns.set i (ns.getD i 0 ||| 2 ^ j)).getD j 0 ||| 2 ^ i)
theorem orN_char {n : Nat} {ns : List Nat} (h : Sets n ns) (i j : Nat) (hi : i < n) (hj : j < n) : Sets n (orN ns i j) ∧ ∀ a b, nb (orN ns i j) a b = (nb ns a b || ((decide (a = i) && decide (b = j)) || (decide (a = j) && decide (b = i)))) := by
  have h1 := sets_or h i j hj
  refine ⟨sets_or h1 j i hi, fun a b => ?_⟩
  unfold orN
  rw [nb_or j i (by rw [List.length_set, h.len]; exact hj), nb_or i j (by rw [h.len]; exact hi), Bool.or_assoc]
theorem deJoin_f {n : Nat} {ns : List Nat} (h : Sets n ns) (i j : Nat) (hi : i < n) (hj : j < n) : spec_deJoin.f (ints ns) (i : Int) (j : Int) = some (ints (orN ns i j)) := by
  have h8 := h.n8
  have hl := h.len
  have h1 := sets_or h i j hj
  unfold spec_deJoin.f orN
  rw [if_pos (by omega), if_pos (by rw [ints_length]; omega), if_pos (by omega), shl_one j (by omega), rd_ints, or_nat _ _ (h.get62 i) (Nat.pow_lt_pow_right (by decide) (by omega)), ints_set, Option.bind_some, if_pos (by rw [ints_length]; omega), shl_one i (by omega), rd_ints, or_nat _ _ (h1.get62 j) (Nat.pow_lt_pow_right (by decide) (by omega)), ints_set]
theorem joinSets {n : Nat} {ns : List Nat} (h : Sets n ns) {i j : Nat} (hi : i < n) (hj : j < n) : Sets n (joinN ns i j) := sets_xor (sets_xor h i j hj) j i hi
theorem join_fG {n : Nat} {ns : List Nat} (h : Sets n ns) (m : Int) (i j : Nat) (hi : i < n) (hj : j < n) : impl_Graph_join.f m (ints ns) (i : Int) (j : Int) = some (ints (joinN ns i j)) := by
  have h8 := h.n8
  have hl := h.len
  have h1 := sets_xor h i j hj
  unfold impl_Graph_join.f joinN
  rw [if_pos (by omega), if_pos (by rw [ints_length]; omega), if_pos (by omega), shl_one j (by omega), rd_ints, xor_nat _ _ (h.get62 i) (Nat.pow_lt_pow_right (by decide) (by omega)), ints_set, Option.bind_some, if_pos (by rw [ints_length]; omega), shl_one i (by omega), rd_ints, xor_nat _ _ (h1.get62 j) (Nat.pow_lt_pow_right (by decide) (by omega)), ints_set]
end Go.Proofs.YtcheoendfcgjgaaDoor.K
namespace Go.Proofs.YtcheoendfcgjgaaDoor.K
open Go.RowKit Go.Proofs.YtcheoendfcgjgaaDoorW.PrintWords Go.Proofs.YtcheoendfcgjgaaDoor.P
theorem l1Has_l0 (x : Int) (t : Int) : ∀ (rest done : List Int), (done ++ rest).length ≤ BM → Ev (fun k => spec_l1Has.l0 k x (done ++ rest) ((done ++ rest).length : Int) (done.length : Int)) (rest.any fun y => decide (y = x)) := by
  intro rest
  induction rest with
  | nil => intro done h; exact Ev.step (fun k => by simp [spec_l1Has.l0]; rfl) (Ev.some (by simp))
  | cons y rest ih =>
    intro done h
    obtain ⟨q1, q2, q3, q4, q5⟩ := mid y done rest h
    have ih' := ih (done ++ [y]) (by rw [q5]; exact h)
    rw [q5] at ih'
    refine Ev.step (fun k => by rw [spec_l1Has.l0]) ?_
    simp only [if_pos q1, if_pos q2, q3, q4]
    by_cases e : y = x
    · simp only [if_pos e]; exact Ev.some (by simp [e])
    · simp only [if_neg e]; exact Ev.pair ih' (by simp [e])
theorem l1Has_f (l : List Int) (x : Int) (h : l.length ≤ BM) : Ev (fun k => spec_l1Has.f k l x) (l.any fun y => decide (y = x)) := l1Has_l0 x 0 l [] h
def Fair (l : List Int) : Prop := l.length ≤ 1048576 ∧ ∀ x ∈ l, -1048576 ≤ x ∧ x ≤ 1048576
theorem liSum_l0 : ∀ (rest done : List Int) (a : Int), (done ++ rest).length ≤ 1048576 → (∀ x ∈ rest, -1048576 ≤ x ∧ x ≤ 1048576) → -(1048576 * (done.length : Int)) ≤ a → a ≤ 1048576 * (done.length : Int) → Ev (fun k => spec_liSum.l0 k a (done ++ rest) ((done ++ rest).length : Int) (done.length : Int)) (a + rest.sum) := by
  intro rest
  induction rest with
  | nil => intro done a h _ _ _; exact Ev.step (fun k => by simp [spec_liSum.l0]; rfl) (Ev.some (by simp))
  | cons x rest ih =>
    intro done a h hx h0 h1
    have hx1 := hx x (by simp)
    obtain ⟨q1, q2, q3, q4, q5⟩ := mid x done rest (by simp only [BM]; omega)
    have hl : (done.length : Int) < 1048576 := by simp at h; omega
    have hw : wrap64 (a + x) = a + x := wrap_id (by omega) (by omega)
    have ih' := ih (done ++ [x]) (a + x) (by rw [q5]; exact h) (fun y hy => hx y (by simp [hy])) (by rw [List.length_append, List.length_singleton]; omega) (by rw [List.length_append, List.length_singleton]; omega)
    rw [q5] at ih'
    refine Ev.step (fun k => by rw [spec_liSum.l0]) ?_
    simp only [if_pos q1, if_pos q2, q3, q4, hw]
    refine Ev.pair ih' ?_
    simp only [List.sum_cons]; omega
theorem liSum_f {l : List Int} (h : Fair l) : Ev (fun k => spec_liSum.f k l) l.sum := by
  unfold spec_liSum.f
  exact Ev.pair (liSum_l0 l [] 0 h.1 h.2 (by simp) (by simp)) (by simp)
theorem total_l0 : ∀ k a xs n i, impl_total.l0 k a xs n i = spec_liSum.l0 k a xs n i := by
  intro k
  induction k with
  | zero => intros; rfl
  | succ k ih => intros; simp only [impl_total.l0, spec_liSum.l0, ih]
theorem total_f {l : List Int} (h : Fair l) : Ev (fun k => impl_total.f k l) l.sum := Ev.congr (fun k => total_l0 ..) (liSum_f h)
end Go.Proofs.YtcheoendfcgjgaaDoor.K
namespace Go.Proofs.YtcheoendfcgjgaaDoor.K
open Go.RowKit Go.Proofs.YtcheoendfcgjgaaDoorW.PrintWords Go.Proofs.YtcheoendfcgjgaaDoorW.PrintMore Go.Proofs.YtcheoendfcgjgaaDoor.P
def Few (l : List Int) : Prop := 1 ≤ l.length ∧ l.length ≤ 12 ∧ ∀ x ∈ l, -1048576 ≤ x ∧ x ≤ 1048576
theorem Few.fair {l : List Int} (h : Few l) : Fair l := ⟨by have := h.2.1; omega, h.2.2⟩
theorem ranking_f {l : List Int} (h : Few l) : impl_ranking.f l = some (rankL l) := by unfold impl_ranking.f; exact if_pos h
theorem liRank_f {l : List Int} (h : l.length ≤ 1048576) : spec_liRank.f l = some (rankL l) := by unfold spec_liRank.f; rw [if_pos h]
end Go.Proofs.YtcheoendfcgjgaaDoor.K
namespace Go.Proofs.YtcheoendfcgjgaaDoor.K
open Go.RowKit Go.Proofs.YtcheoendfcgjgaaDoorW.PrintWords
theorem upLoop {α : Type} (g : Nat → Nat → Option α) (n : Nat) (hs : ∀ j, j < n → ∀ x, Ev (g (j + 1)) x → Ev (g j) x) : ∀ d j, j + d = n → ∀ x, Ev (g n) x → Ev (g j) x
  | 0, j, h, x, hx => by obtain rfl : j = n := by omega
                         exact hx
  | d + 1, j, h, x, hx => hs j (by omega) x (upLoop g n hs d (j + 1) (by omega) x hx)
end Go.Proofs.YtcheoendfcgjgaaDoor.K
namespace Go.Proofs.YtcheoendfcgjgaaDoor.K
open Go.RowKit Go.Proofs.YtcheoendfcgjgaaDoorW.PrintWords Go.Proofs.YtcheoendfcgjgaaDoor.P
def within (a b : Int) (l : List Int) : Bool := l.all fun n => decide (a ≤ n) && decide (n ≤ b)
theorem l1All_l0 (a b : Int) : ∀ (rest done : List Int), (done ++ rest).length ≤ BM → Ev (fun k => spec_l1All.l0 k a b (done ++ rest) (done ++ rest).length done.length) (within a b rest) := by
  intro rest
  induction rest with
  | nil => intro done h; exact Ev.step (fun k => by simp [spec_l1All.l0]; rfl) (Ev.some (by simp [within]))
  | cons x rest ih =>
    intro done h
    have ih' := ih (done ++ [x])
    obtain ⟨h1, h2, h3, h4, h5⟩ := mid x done rest h
    rw [h5] at ih'
    refine Ev.step (fun k => by rw [spec_l1All.l0]) ?_
    simp only [if_pos h1, if_pos h2, h3, h4, spec_l1In.f]
    by_cases ha : x ≥ a
    · by_cases hb : x ≤ b
      · simpa [ha, hb, within] using ih' h
      · simpa [ha, hb, within] using Ev.now _
    · simpa [ha, within] using Ev.now _
theorem allWithin_eq : ∀ k a b xs n i, impl_allWithin.l0 k a b xs n i = spec_l1All.l0 k a b xs n i := by
  intro k
  induction k with
  | zero => intros; rfl
  | succ k ih => intros; simp only [impl_allWithin.l0, spec_l1All.l0, ih, impl_within.f, spec_l1In.f]
theorem l1All_f (l : List Int) (a b : Int) (h : l.length ≤ BM) : Ev (fun k => spec_l1All.f k l a b) (within a b l) := l1All_l0 a b l [] h
theorem allWithin_f (l : List Int) (a b : Int) (h : l.length ≤ BM) : Ev (fun k => impl_allWithin.f k l a b) (within a b l) := Ev.congr (fun k => allWithin_eq ..) (l1All_f l a b h)
theorem l1In_f (n a b : Int) : spec_l1In.f n a b = some (decide (a ≤ n) && decide (n ≤ b)) := by
  unfold spec_l1In.f; by_cases h : a ≤ n <;> simp [h]
theorem within_f (n a b : Int) : impl_within.f n a b = some (decide (a ≤ n) && decide (n ≤ b)) := l1In_f n a b
def isList (l : List Int) : Bool := decide (1 ≤ l.length) && decide (l.length ≤ 8) && within 0 60 l
theorem liGood_f (l : List Int) (h : l.length ≤ BM) : Ev (fun k => spec_liGood.f k l) (isList l) := by
  unfold spec_liGood.f
  simp only [l1In_f, Option.bind_some]
  refine Ev.ite (fun h1 => ?_) (fun h1 => ?_)
  · exact Ev.bind (l1All_f l 0 60 h) (Ev.some (by simp at h1; simp [isList]; omega))
  · exact Ev.some (by simp at h1; simp [isList]; omega)
theorem IsList_f (l : List Int) (h : l.length ≤ BM) : Ev (fun k => impl_IsList.f k l) (isList l) := by
  unfold impl_IsList.f
  simp only [within_f, Option.bind_some]
  refine Ev.ite (fun h1 => ?_) (fun h1 => ?_)
  · exact Ev.bind (allWithin_f l 0 60 h) (Ev.some (by simp at h1; simp [isList]; omega))
  · exact Ev.some (by simp at h1; simp [isList]; omega)
theorem isList_mem {l : List Int} (h : isList l = true) : 1 ≤ l.length ∧ l.length ≤ 8 ∧ ∀ x ∈ l, 0 ≤ x ∧ x ≤ 60 := by
  simp [isList, within] at h
  exact ⟨h.1.1, h.1.2, h.2⟩
end Go.Proofs.YtcheoendfcgjgaaDoor.K
namespace Go.Proofs.YtcheoendfcgjgaaDoor.K
open Go.RowKit Go.Proofs.YtcheoendfcgjgaaDoorW.PrintWords Go.Proofs.YtcheoendfcgjgaaDoorW.PrintMore Go.Proofs.YtcheoendfcgjgaaDoor.P
def lsum (k : Int) (y : List Int) (j : Nat) : Int := ((y.take j).map (min k)).sum
theorem lsum_succ (k : Int) (y : List Int) (j : Nat) (h : j < y.length) : lsum k y (j + 1) = lsum k y j + min k (rd y (j : Int)) := by
  have e : rd y (j : Int) = y[j] := by unfold rd; simp [List.getD_eq_getElem?_getD, List.getElem?_eq_getElem h]
  unfold lsum
  rw [List.take_succ_eq_append_getElem h, List.map_append, List.sum_append, e]; simp
theorem lsum_bd {k : Int} {y : List Int} (hk : 0 ≤ k) (hy : ∀ x ∈ y, 0 ≤ x ∧ x ≤ 60) : ∀ j, j ≤ y.length → 0 ≤ lsum k y j ∧ lsum k y j ≤ 60 * j
  | 0, _ => by simp [lsum]
  | j + 1, h => by
    have ih := lsum_bd hk hy j (by omega)
    rw [lsum_succ k y j (by omega)]
    have e : rd y (j : Int) = y[j] := by unfold rd; simp [List.getD_eq_getElem?_getD, List.getElem?_eq_getElem (show j < y.length by omega)]
    have := hy y[j] (List.getElem_mem _)
    rw [e]; omega
def Small (r : List Int) : Prop := r.length ≤ 8 ∧ ∀ x ∈ r, 0 ≤ x ∧ x ≤ 60
def mostK (r : List Int) (k : Nat) : Int := (k : Int) * ((k : Int) - 1) + lsum k (r.drop k) (r.drop k).length
def refK (r : List Int) : Nat → Nat → Int
  | _, 0 => 0
  | k, d + 1 => if (r.take k).sum > mostK r k then (k : Int) else refK r (k + 1) d
theorem refK_nonneg (r : List Int) : ∀ d k, 0 ≤ refK r k d
  | 0, k => by simp [refK]
  | d + 1, k => by
    have := refK_nonneg r d (k + 1)
    simp only [refK]; split <;> omega
theorem take_bd {r : List Int} (h : ∀ x ∈ r, 0 ≤ x ∧ x ≤ 60) : ∀ i, i ≤ r.length → 0 ≤ (r.take i).sum ∧ (r.take i).sum ≤ 60 * i
  | 0, _ => by simp
  | i + 1, hi => by
    have ih := take_bd h i (by omega)
    rw [List.take_succ_eq_append_getElem (by omega), List.sum_append]
    have := h r[i] (List.getElem_mem _)
    simp; omega
theorem kk (k : Nat) (h1 : 1 ≤ k) (h : k ≤ 8) : wrap64 ((k : Int) * wrap64 ((k : Int) - 1)) = (k : Int) * ((k : Int) - 1) ∧ 0 ≤ (k : Int) * ((k : Int) - 1) ∧ (k : Int) * ((k : Int) - 1) ≤ 64 := by
  have e : wrap64 ((k : Int) - 1) = ((k - 1 : Nat) : Int) := by rw [wrap_id (by omega) (by omega)]; omega
  have e2 : ((k : Int) - 1) = ((k - 1 : Nat) : Int) := by omega
  rw [e, e2, ← Int.natCast_mul]
  have : k * (k - 1) ≤ 8 * 8 := Nat.mul_le_mul h (by omega)
  refine ⟨wrap_id (by omega) (by omega), by omega, by omega⟩
theorem mn_min (a b : Int) : mn a b = min a b := by unfold mn; split <;> omega
theorem least_min (a b : Int) : spec_l1Least.f a b = some (min a b) := by unfold spec_l1Least.f; split <;> (congr 1; omega)
theorem ref_impl1 (r r2 : List Int) (s : Int) (k : Nat) (c : Int) (y : List Int) (n i : Int) (hk : k ≤ 8) (hc : 0 ≤ c ∧ c ≤ 64) (hy : y.length ≤ 8 ∧ ∀ x ∈ y, 0 ≤ x ∧ x ≤ 60) (x : Int)
    (hx : Ev (fun q => if s > c + lsum k y y.length then some (k : Int) else impl_refusingK.l0 q r s r2 n (wrap64 (i + 1))) x) :
    Ev (fun q => impl_refusingK.l1 q r s (k : Int) c r2 n i y (y.length : Int) ((0 : Nat) : Int)) x := by
  have h0 : c = c + lsum k y 0 := by simp [lsum]
  rw [h0]
  refine upLoop (fun j q => impl_refusingK.l1 q r s (k : Int) (c + lsum k y j) r2 n i y (y.length : Int) (j : Int)) y.length (fun j hj z hz => ?_) y.length 0 (by omega) x ?_
  · have hb := lsum_bd (k := k) (by omega) hy.2 (j + 1) (by omega)
    have hl := hy.1
    refine Ev.step (fun q => ?_) hz
    rw [impl_refusingK.l1, if_pos (by omega), if_pos (by omega), if_pos (by omega), wrap_nat j (by omega), mn_min]
    rw [lsum_succ k y j hj] at hb ⊢
    rw [wrap_id (by omega) (by omega)]
    congr 1; omega
  · refine Ev.step (fun q => ?_) hx
    rw [impl_refusingK.l1, if_neg (by omega)]
theorem ref_spec1 (r : List Int) (hr : Small r) (k : Nat) (c : Int) (y : List Int) (hk : k ≤ r.length) (hc : 0 ≤ c ∧ c ≤ 64) (hy : y.length ≤ 8 ∧ ∀ x ∈ y, 0 ≤ x ∧ x ≤ 60) (x : Int)
    (hx : Ev (fun q => if (r.take k).sum > c + lsum k y y.length then some (k : Int) else spec_deRefuses.l0 q r (wrap64 ((k : Int) + 1))) x) :
    Ev (fun q => spec_deRefuses.l1 q r (k : Int) c y (y.length : Int) ((0 : Nat) : Int)) x := by
  have h0 : c = c + lsum k y 0 := by simp [lsum]
  have h8 := hr.1
  rw [h0]
  refine upLoop (fun j q => spec_deRefuses.l1 q r (k : Int) (c + lsum k y j) y (y.length : Int) (j : Int)) y.length (fun j hj z hz => ?_) y.length 0 (by omega) x ?_
  · have hb := lsum_bd (k := k) (by omega) hy.2 (j + 1) (by omega)
    have hl := hy.1
    refine Ev.step (fun q => ?_) hz
    rw [spec_deRefuses.l1, if_pos (by omega), if_pos (by omega), if_pos (by omega), wrap_nat j (by omega), least_min, Option.bind_some]
    rw [lsum_succ k y j hj] at hb ⊢
    rw [wrap_id (by omega) (by omega)]
    congr 1; omega
  · refine Ev.step (f := fun q => (spec_liSum.f q (r.take k)).bind fun t => if t > c + lsum k y y.length then some (k : Int) else spec_deRefuses.l0 q r (wrap64 ((k : Int) + 1))) (fun q => ?_) (Ev.bind (liSum_f ?_) hx)
    · rw [spec_deRefuses.l1, if_neg (by omega), if_pos (by omega), if_pos (by omega), Int.toNat_natCast]
    · refine ⟨by rw [List.length_take]; omega, fun z hz => ?_⟩
      have := hr.2 z (List.mem_of_mem_take hz); omega
theorem ref_both {r : List Int} (hr : Small r) : ∀ d i, i + d = r.length → Ev (fun q => impl_refusingK.l0 q r (r.take i).sum r (r.length : Int) (i : Int)) (refK r (i + 1) d) ∧ Ev (fun q => spec_deRefuses.l0 q r ((i + 1 : Nat) : Int)) (refK r (i + 1) d)
  | 0, i, h => by
    have h8 := hr.1
    exact ⟨Ev.step (f := fun _ => some 0) (fun q => by rw [impl_refusingK.l0, if_neg (by omega)]) (Ev.some (by simp [refK])), Ev.step (f := fun _ => some 0) (fun q => by rw [spec_deRefuses.l0, if_neg (by omega)]) (Ev.some (by simp [refK]))⟩
  | d + 1, i, h => by
    have h8 := hr.1
    obtain ⟨j1, j2⟩ := ref_both hr d (i + 1) (by omega)
    obtain ⟨k1, k2, k3⟩ := kk (i + 1) (by omega) (by omega)
    have hy : (r.drop (i + 1)).length ≤ 8 ∧ ∀ x ∈ r.drop (i + 1), 0 ≤ x ∧ x ≤ 60 := ⟨by rw [List.length_drop]; omega, fun x hx => hr.2 x (List.mem_of_mem_drop hx)⟩
    have e : rd r (i : Int) = r[i] := by unfold rd; simp [List.getD_eq_getElem?_getD, List.getElem?_eq_getElem (show i < r.length by omega)]
    have hs : wrap64 ((r.take i).sum + rd r (i : Int)) = (r.take (i + 1)).sum := by
      have hb := take_bd hr.2 (i + 1) (by omega)
      rw [List.take_succ_eq_append_getElem (by omega), List.sum_append] at hb ⊢
      simp only [List.sum_cons, List.sum_nil, Int.add_zero] at hb ⊢
      rw [e]; exact wrap_id (by omega) (by omega)
    simp only [refK]
    constructor
    · refine Ev.step (f := fun q => impl_refusingK.l1 q r (r.take (i + 1)).sum ((i + 1 : Nat) : Int) (((i + 1 : Nat) : Int) * (((i + 1 : Nat) : Int) - 1)) r (r.length : Int) (i : Int) (r.drop (i + 1)) ((r.drop (i + 1)).length : Int) ((0 : Nat) : Int)) (fun q => ?_) ?_
      · rw [impl_refusingK.l0, if_pos (by omega), if_pos (by omega), if_pos (by omega), wrap_nat i (by omega), if_pos (by omega), if_pos (by omega), Option.bind_some, hs, k1, Int.toNat_natCast]
        rfl
      · refine ref_impl1 r r _ (i + 1) _ _ _ _ (by omega) ⟨k2, k3⟩ hy _ ?_
        rw [wrap_nat i (by omega)]
        refine Ev.ite (fun hh => ?_) (fun hh => ?_)
        · rw [if_pos (show (r.take (i + 1)).sum > mostK r (i + 1) from hh)]; exact Ev.now _
        · rw [if_neg (show ¬ (r.take (i + 1)).sum > mostK r (i + 1) from hh)]; exact j1
    · refine Ev.step (f := fun q => spec_deRefuses.l1 q r ((i + 1 : Nat) : Int) (((i + 1 : Nat) : Int) * (((i + 1 : Nat) : Int) - 1)) (r.drop (i + 1)) ((r.drop (i + 1)).length : Int) ((0 : Nat) : Int)) (fun q => ?_) ?_
      · rw [spec_deRefuses.l0, if_pos (by omega), if_pos (by omega), Option.bind_some, k1, Int.toNat_natCast]
        rfl
      · refine ref_spec1 r hr (i + 1) _ _ (by omega) ⟨k2, k3⟩ hy _ ?_
        rw [wrap_nat (i + 1) (by omega)]
        refine Ev.ite (fun hh => ?_) (fun hh => ?_)
        · rw [if_pos (show (r.take (i + 1)).sum > mostK r (i + 1) from hh)]; exact Ev.now _
        · rw [if_neg (show ¬ (r.take (i + 1)).sum > mostK r (i + 1) from hh)]; exact j2
def refOf (l : List Int) : Int := refK (rankL l) 1 (rankL l).length
theorem isList_small {l : List Int} (h : isList l = true) : Few l ∧ Small (rankL l) := by
  obtain ⟨h1, h2, h3⟩ := isList_mem h
  exact ⟨⟨h1, by omega, fun x hx => by have := h3 x hx; omega⟩, by rw [rankL_length]; exact h2, fun x hx => h3 x (rankL_mem.1 hx)⟩
theorem refusingK_f {l : List Int} (h : isList l = true) : Ev (fun k => impl_refusingK.f k l) (refOf l) := by
  obtain ⟨h1, h2⟩ := isList_small h
  unfold impl_refusingK.f
  simp only [ranking_f h1, Option.bind_some]
  exact (ref_both h2 (rankL l).length 0 (by omega)).1
theorem deRefuses_f {l : List Int} (h : isList l = true) : Ev (fun k => spec_deRefuses.f k l) (refOf l) := by
  obtain ⟨h1, h2⟩ := isList_small h
  unfold spec_deRefuses.f
  simp only [liRank_f h1.fair.1, Option.bind_some]
  exact (ref_both h2 (rankL l).length 0 (by omega)).2
theorem refOf_nonneg (l : List Int) : 0 ≤ refOf l := refK_nonneg _ _ _
def fore (nd : List Int) (i j : Nat) : Prop := nd.getD j 0 < nd.getD i 0 ∨ (nd.getD j 0 = nd.getD i 0 ∧ i ≤ j)
theorem rdG (l : List Int) (i : Nat) : rd l (i : Int) = l.getD i 0 := by rw [rd, Int.toNat_natCast]
theorem any_intsG (gs : List Nat) (i : Nat) : ((ints gs).any fun y => decide (y = (i : Int))) = decide (i ∈ gs) := by
  rw [Bool.eq_iff_iff]
  simp only [List.any_eq_true, ints, List.mem_map, decide_eq_true_eq]
  constructor
  · rintro ⟨_, ⟨x, hx, rfl⟩, h⟩
    have : x = i := by omega
    rwa [← this]
  · intro h
    exact ⟨_, ⟨i, h, rfl⟩, rfl⟩
def El (nd : List Int) (gs : List Nat) (x : Nat) : Prop := 0 < nd.getD x 0 ∧ x ∉ gs
theorem deMost_l0 (nd : List Int) (gs : List Nat) (hn : nd.length ≤ 8) (hg : gs.length ≤ 100) : ∀ d i (b : Int), i + d = nd.length → (b < 0 → b = -1 ∧ ∀ x, x < i → ¬ El nd gs x) → (0 ≤ b → ∃ c : Nat, b = (c : Int) ∧ c < i ∧ El nd gs c ∧ ∀ x, x < i → El nd gs x → fore nd c x) →
    ∃ r : Int, (r < 0 → r = -1 ∧ ∀ x, x < nd.length → ¬ El nd gs x) ∧ (0 ≤ r → ∃ c : Nat, r = (c : Int) ∧ c < nd.length ∧ El nd gs c ∧ ∀ x, x < nd.length → El nd gs x → fore nd c x) ∧ Ev (fun k => spec_deMost.l0 k nd (ints gs) b nd (nd.length : Int) (i : Int)) r := by
  intro d
  induction d with
  | zero =>
    intro i b hi h1 h2
    obtain rfl : i = nd.length := by omega
    refine ⟨b, h1, h2, Ev.step (fun k => ?_) (Ev.now _)⟩
    rw [spec_deMost.l0, if_neg (by omega)]
  | succ d ih =>
    intro i b hi h1 h2
    have hhas : Ev (fun k => spec_l1Has.f k (ints gs) (i : Int)) (decide (i ∈ gs)) := by
      rw [← any_intsG]
      exact l1Has_f (ints gs) (i : Int) (by rw [ints_length]; simp only [BM]; omega)
    have e1 : (i : Int) < (nd.length : Int) := by omega
    have e2 : (0 : Int) ≤ (i : Int) := by omega
    have ew := wrap_nat i (by omega)
    -- i is not taken
    have pass : ¬ El nd gs i → (b < 0 → b = -1 ∧ ∀ x, x < i + 1 → ¬ El nd gs x) ∧ (0 ≤ b → ∃ c : Nat, b = (c : Int) ∧ c < i + 1 ∧ El nd gs c ∧ ∀ x, x < i + 1 → El nd gs x → fore nd c x) := fun hno =>
      ⟨fun hb => ⟨(h1 hb).1, fun x hx hE => by
        by_cases c : x = i
        · subst c; exact hno hE
        · exact (h1 hb).2 x (by omega) hE⟩, fun hb => by
        obtain ⟨c, f1, f2, f3, f4⟩ := h2 hb
        refine ⟨c, f1, by omega, f3, fun x hx hE => ?_⟩
        by_cases c : x = i
        · subst c; exact absurd hE hno
        · exact f4 x (by omega) hE⟩
    have key : ∃ b' : Int, (b' < 0 → b' = -1 ∧ ∀ x, x < i + 1 → ¬ El nd gs x) ∧ (0 ≤ b' → ∃ c : Nat, b' = (c : Int) ∧ c < i + 1 ∧ El nd gs c ∧ ∀ x, x < i + 1 → El nd gs x → fore nd c x) ∧
        ∀ r, Ev (fun k => spec_deMost.l0 k nd (ints gs) b' nd (nd.length : Int) ((i + 1 : Nat) : Int)) r → Ev (fun k => spec_deMost.l0 k nd (ints gs) b nd (nd.length : Int) (i : Int)) r := by
      by_cases hp : nd.getD i 0 > 0
      · by_cases hm : i ∈ gs
        · obtain ⟨p1, p2⟩ := pass (fun hE => hE.2 hm)
          refine ⟨b, p1, p2, fun r hr => Ev.step (fun k => by rw [spec_deMost.l0, if_pos e1, if_pos e2, if_pos e1, rdG, if_pos hp]) (Ev.bind hhas ?_)⟩
          simp only [decide_eq_true hm, if_true, ew]
          exact hr
        · have hmF : decide (i ∈ gs) = false := decide_eq_false hm
          have hE : El nd gs i := ⟨hp, hm⟩
          have self : fore nd i i := .inr ⟨rfl, Nat.le_refl _⟩
          by_cases hb : b < 0
          · obtain ⟨f1, f2⟩ := h1 hb
            refine ⟨(i : Int), fun h => by omega, fun _ => ⟨i, rfl, by omega, hE, fun x hx hxE => ?_⟩, fun r hr => Ev.step (fun k => by rw [spec_deMost.l0, if_pos e1, if_pos e2, if_pos e1, rdG, if_pos hp]) (Ev.bind hhas ?_)⟩
            · obtain rfl : x = i := by
                by_cases c : x = i
                · exact c
                · exact absurd hxE (f2 x (by omega))
              exact self
            · simp only [hmF, Bool.false_eq_true, if_false, if_pos hb, ew]
              exact hr
          · obtain ⟨c, rfl, f2, f3, f4⟩ := h2 (by omega)
            have g1 : (c : Int) < (nd.length : Int) := by omega
            have g2 : (0 : Int) ≤ (c : Int) := by omega
            by_cases hc : nd.getD i 0 > nd.getD c 0
            · refine ⟨(i : Int), fun h => by omega, fun _ => ⟨i, rfl, by omega, hE, fun x hx hxE => ?_⟩, fun r hr => Ev.step (fun k => by rw [spec_deMost.l0, if_pos e1, if_pos e2, if_pos e1, rdG, if_pos hp]) (Ev.bind hhas ?_)⟩
              · by_cases e : x = i
                · subst e; exact self
                · have := f4 x (by omega) hxE
                  unfold fore at this ⊢; omega
              · simp only [hmF, Bool.false_eq_true, if_false, if_neg hb, if_pos g1, if_pos g2, rdG, if_pos hc, ew]
                exact hr
            · refine ⟨(c : Int), fun h => by omega, fun _ => ⟨c, rfl, by omega, f3, fun x hx hxE => ?_⟩, fun r hr => Ev.step (fun k => by rw [spec_deMost.l0, if_pos e1, if_pos e2, if_pos e1, rdG, if_pos hp]) (Ev.bind hhas ?_)⟩
              · by_cases e : x = i
                · subst e; unfold fore; omega
                · exact f4 x (by omega) hxE
              · simp only [hmF, Bool.false_eq_true, if_false, if_neg hb, if_pos g1, if_pos g2, rdG, if_neg hc, ew]
                exact hr
      · obtain ⟨p1, p2⟩ := pass (fun hE => hp hE.1)
        refine ⟨b, p1, p2, fun r hr => Ev.step (fun k => ?_) hr⟩
        rw [spec_deMost.l0, if_pos e1, if_pos e2, if_pos e1, rdG, if_neg hp, ew]
    obtain ⟨b', q1, q2, q3⟩ := key
    obtain ⟨r, r1, r2, r3⟩ := ih (i + 1) b' (by omega) q1 q2
    exact ⟨r, r1, r2, q3 r r3⟩
theorem fore_antisymm {nd : List Int} {i j : Nat} (h1 : fore nd i j) (h2 : fore nd j i) : i = j := by unfold fore at h1 h2; omega
theorem deMost_f (nd : List Int) (gs : List Nat) (hn : nd.length ≤ 8) (hg : gs.length ≤ 100) (c : Nat) (hc : c < nd.length) (hE : El nd gs c) (hmin : ∀ x, x < nd.length → El nd gs x → fore nd c x) : Ev (fun k => spec_deMost.f k nd (ints gs)) (c : Int) := by
  obtain ⟨r, r1, r2, r3⟩ := deMost_l0 nd gs hn hg nd.length 0 (-1) (by omega) (fun _ => ⟨rfl, fun x hx => by omega⟩) (fun h => by omega)
  have : r = (c : Int) := by
    by_cases h : r < 0
    · exact absurd hE ((r1 h).2 c hc)
    · obtain ⟨e, rfl, e2, e3, e4⟩ := r2 (by omega)
      rw [fore_antisymm (hmin e e2 e3) (e4 c hc hE)]
  subst this
  unfold spec_deMost.f
  exact r3
theorem deMost_none (nd : List Int) (gs : List Nat) (hn : nd.length ≤ 8) (hg : gs.length ≤ 100) (hno : ∀ x, x < nd.length → ¬ El nd gs x) : Ev (fun k => spec_deMost.f k nd (ints gs)) (-1) := by
  obtain ⟨r, r1, r2, r3⟩ := deMost_l0 nd gs hn hg nd.length 0 (-1) (by omega) (fun _ => ⟨rfl, fun x hx => by omega⟩) (fun h => by omega)
  have : r = -1 := by
    by_cases h : r < 0
    · exact (r1 h).1
    · obtain ⟨e, rfl, e2, e3, e4⟩ := r2 (by omega)
      exact absurd e3 (hno e e2)
  subst this
  unfold spec_deMost.f
  exact r3
theorem ge2_iff (nd : List Int) (i j : Nat) : ge2 nd i j = true ↔ fore nd i j := by
  unfold ge2 fore
  simp
theorem bgOrd_perm (nd : List Int) : (bgOrd nd).Perm (List.range nd.length) := List.mergeSort_perm _ _
theorem bgOrd_sorted (nd : List Int) : (bgOrd nd).Pairwise (fore nd) := by
  have := List.pairwise_mergeSort (le := ge2 nd) (by intro a b c h1 h2; rw [ge2_iff] at *; unfold fore at *; omega) (by intro a b; rw [Bool.or_eq_true, ge2_iff, ge2_iff]; unfold fore; omega) (List.range nd.length)
  exact this.imp (fun h => (ge2_iff nd _ _).1 h)
theorem bool_join : ∀ X ai bj aj bi bo ao : Bool, ((X || ((ai && bj) || (aj && bi))) || ((ai && bo) || (ao && bi))) = (X || ((ai && (bj || bo)) || ((aj || ao) && bi))) := by decide
theorem mem_dec (b j : Nat) (o : List Nat) : decide (b ∈ j :: o) = (decide (b = j) || decide (b ∈ o)) := by rw [Bool.eq_iff_iff]; simp
theorem joinAll_char {n : Nat} (i : Nat) (hi : i < n) : ∀ (o : List Nat) (ns : List Nat), o.Nodup → i ∉ o → (∀ x ∈ o, x < n) → Sets n ns → (∀ x ∈ o, nb ns i x = false ∧ nb ns x i = false) →
    Sets n (joinAll i o ns) ∧ ∀ a b, nb (joinAll i o ns) a b = (nb ns a b || ((decide (a = i) && decide (b ∈ o)) || (decide (a ∈ o) && decide (b = i)))) := by
  intro o
  induction o with
  | nil => intro ns _ _ _ h _; exact ⟨h, fun a b => by simp [joinAll]⟩
  | cons j o ih =>
    intro ns hN hio hL hS hz
    obtain ⟨q1, q2⟩ := List.nodup_cons.1 hN
    have hij : i ≠ j := fun e => hio (e ▸ List.mem_cons_self)
    obtain ⟨z1, z2⟩ := hz j List.mem_cons_self
    obtain ⟨b1, b2⟩ := joinN_char hS i j hi (hL j List.mem_cons_self) hij z1 z2
    obtain ⟨h1, h2⟩ := ih (joinN ns i j) q2 (fun e => hio (List.mem_cons_of_mem _ e)) (fun x hx => hL x (List.mem_cons_of_mem _ hx)) b1 (fun x hx => by
      obtain ⟨w1, w2⟩ := hz x (List.mem_cons_of_mem _ hx)
      have hxj : x ≠ j := fun e => q1 (e ▸ hx)
      have hxi : x ≠ i := fun e => hio (e ▸ List.mem_cons_of_mem _ hx)
      rw [b2, b2, w1, w2]; simp [hxj, hxi])
    refine ⟨h1, fun a b => ?_⟩
    rw [joinAll, h2, b2]
    rw [mem_dec b j o, mem_dec a j o]
    exact bool_join _ _ _ _ _ _ _
def orAll (i : Nat) : List Nat → List Nat → List Nat
  | [], ns => ns
  | j :: o, ns => orAll i o (orN ns i j)
theorem orAll_char {n : Nat} (i : Nat) (hi : i < n) : ∀ (o : List Nat) (ns : List Nat), (∀ x ∈ o, x < n) → Sets n ns →
    Sets n (orAll i o ns) ∧ ∀ a b, nb (orAll i o ns) a b = (nb ns a b || ((decide (a = i) && decide (b ∈ o)) || (decide (a ∈ o) && decide (b = i)))) := by
  intro o
  induction o with
  | nil => intro ns _ h; exact ⟨h, fun a b => by simp [orAll]⟩
  | cons j o ih =>
    intro ns hL hS
    obtain ⟨b1, b2⟩ := orN_char hS i j hi (hL j List.mem_cons_self)
    obtain ⟨h1, h2⟩ := ih (orN ns i j) (fun x hx => hL x (List.mem_cons_of_mem _ hx)) b1
    refine ⟨h1, fun a b => ?_⟩
    rw [orAll, h2, b2]
    rw [mem_dec b j o, mem_dec a j o]
    exact bool_join _ _ _ _ _ _ _
theorem getD_setG (nd : List Int) (j x : Nat) (v : Int) (hj : j < nd.length) : (nd.set j v).getD x 0 = if x = j then v else nd.getD x 0 := by
  rw [List.getD_eq_getElem?_getD, List.getElem?_set]
  by_cases h : x = j
  · subst h; simp [hj]
  · rw [if_neg (fun e => h e.symm), if_neg h, List.getD_eq_getElem?_getD]
theorem decN_char : ∀ (o : List Nat) (nd : List Int), o.Nodup → (∀ x ∈ o, x < nd.length) → (decN o nd).length = nd.length ∧ ∀ x, (decN o nd).getD x 0 = if x ∈ o then nd.getD x 0 - 1 else nd.getD x 0 := by
  intro o
  induction o with
  | nil => intro nd _ _; exact ⟨rfl, fun x => by simp [decN]⟩
  | cons j o ih =>
    intro nd hN hL
    obtain ⟨q1, q2⟩ := List.nodup_cons.1 hN
    have hj := hL j List.mem_cons_self
    obtain ⟨h1, h2⟩ := ih (nd.set j (nd.getD j 0 - 1)) q2 (fun x hx => by rw [List.length_set]; exact hL x (List.mem_cons_of_mem _ hx))
    refine ⟨by rw [decN, h1, List.length_set], fun x => ?_⟩
    rw [decN, h2, getD_setG _ _ _ _ hj]
    by_cases e : x = j
    · subst e; rw [if_neg q1, if_pos rfl, if_pos List.mem_cons_self]
    · rw [if_neg e]
      simp only [List.mem_cons, e, false_or]
end Go.Proofs.YtcheoendfcgjgaaDoor.K
namespace Go.Proofs.YtcheoendfcgjgaaDoor.P
open Go.RowKit Go.Proofs.YtcheoendfcgjgaaDoorW.PrintWords Go.Proofs.YtcheoendfcgjgaaDoorW.PrintLast Go.Proofs.YtcheoendfcgjgaaDoorW.PrintMore Go.Proofs.YtcheoendfcgjgaaDoor.K
open Go Go.Sort Go.Shelf
attribute [local go_sem ↓] Go.wp_at_zero Go.wp_at_succ
theorem BG.appended {w W W2 : World} {n g2 g4 g5 gB gN gO g' cB cN cO c' : Nat} {ns nd od od' : List Int} (h0 : BG w W n g2 g4 g5 gB gN gO cB cN cO ns nd od) (o : Obj) (hg : (W.alloc o).grownBy W2 (some gO)) (hr : K.IRow W2 w.heap.size g' c' od') (hat : g' = gO ∨ (W.alloc o).heap.size ≤ g') : BG w W2 n g2 g4 g5 gB gN g' cB cN c' ns nd od' := by
 have h := h0.keep (below_alloc (Below.refl W.heap.size W) o)
 obtain ⟨q2, q4, q5⟩ := h.neBox h.rO
 have hk : ∀ k, k < (W.alloc o).heap.size → k ≠ gO → W2.heap[k]? = (W.alloc o).heap[k]? := fun k hk hne => hg.block k hk (fun e => hne (Option.some.inj e))
 have l1 := h.rB.lt
 have l2 := h.rN.lt
 exact ⟨(hk _ (blk_lt h.b2) q2).trans h.b2, (hk _ (blk_lt h.b4) q4).trans h.b4, (hk _ (blk_lt h.b5) q5).trans h.b5, h.rB.keep (hk _ h.rB.lt h.nBO), h.rN.keep (hk _ h.rN.lt h.nNO), hr, h.nBN, by rcases hat with e | e; (· rw [e]; exact h.nBO); (· omega), by rcases hat with e | e; (· rw [e]; exact h.nNO); (· omega), h.n24, pw_below_grown h.bel _ h.bel.size hg (fun k e => by cases e; exact h.rO.base), h.ge2⟩
theorem BG.start {w W : World} {n g2 gB gN cB cN : Nat} {ns nd : List Int} (h2 : W.heap[g2]? = some (.cells #[.int .i64 0, .slice none 0 0] 39 (0, 0))) (hB : K.IRow W w.heap.size gB cB ns) (hN : K.IRow W w.heap.size gN cN nd) (hne : gB ≠ gN) (hb : Below w.heap.size w W) (hge : w.heap.size ≤ g2) :
  BG w (((W.alloc (.cells #[] 3)).alloc (.cells #[.int .i64 (n : Int), .slice (some ⟨gB, 0, none⟩) ns.length cB] 39)).alloc (.cells #[.slice (some ⟨gN, 0, none⟩) nd.length cN] 24)) n g2 (W.heap.size + 1) (W.heap.size + 1 + 1) gB gN W.heap.size cB cN 0 ns nd [] := by
 have l2 := blk_lt h2
 have l3 := hB.lt
 have l4 := hN.lt
 have hbe : ∀ W' : World, Below W.heap.size W W' → Below w.heap.size w W' := fun W' hb' => below_step hb hb'
 have b3 : Below W.heap.size W (((W.alloc (.cells #[] 3)).alloc (.cells #[.int .i64 (n : Int), .slice (some ⟨gB, 0, none⟩) ns.length cB] 39)).alloc (.cells #[.slice (some ⟨gN, 0, none⟩) nd.length cN] 24)) := below_alloc (below_alloc (below_alloc (Below.refl _ _) _) _) _
 refine ⟨(b3.block _ l2).trans h2, ?_, ?_, hB.keep (b3.block _ l3), hN.keep (b3.block _ l4), ⟨hb.size, ⟨#[], ?_, rfl, rfl⟩, Nat.le_refl _, by unfold maxLen; omega⟩, hne, by omega, by omega, by omega, hbe _ b3, hge⟩
 ·
  refine blk_alloc ?_ _
  have := blk_new (W.alloc (.cells #[] 3)) (.cells #[.int .i64 (n : Int), .slice (some ⟨gB, 0, none⟩) ns.length cB] 39)
  rw [World.size_alloc] at this
  exact this
 ·
  have := blk_new ((W.alloc (.cells #[] 3)).alloc (.cells #[.int .i64 (n : Int), .slice (some ⟨gB, 0, none⟩) ns.length cB] 39)) (.cells #[.slice (some ⟨gN, 0, none⟩) nd.length cN] 24)
  rw [World.size_alloc, World.size_alloc] at this
  exact this
 ·
  exact blk_alloc (blk_alloc (blk_new W _) _) _
theorem bgSwo (nd : List Int) (n : Nat) : SWO (fun (x y : Rg n) => decide (bgCmp nd x.1 y.1 < 0)) := by
 refine ⟨fun x => ?_, fun x y z h1 h2 => ?_, fun x y z h1 h2 => ?_⟩
 ·
  simp [bgCmp]
 ·
  simp only [decide_eq_true_eq] at *
  unfold bgCmp at *
  split at h1 <;> split at h2 <;> split <;> omega
 ·
  simp only [decide_eq_false_iff_not] at *
  unfold bgCmp at *
  split at h1 <;> split at h2 <;> split <;> omega
theorem bgOrder_unique (nd : List Int) (l' : List Int) (hp : l'.Perm (ints (List.range nd.length))) (hs : l'.Pairwise (fun a b => ¬ bgCmp nd b a < 0)) : l' = ints (bgOrd nd) := by
 obtain ⟨o, rfl⟩ := ints_of l' (fun x hx => by
  obtain ⟨y, _, rfl⟩ := List.mem_map.1 (hp.mem_iff.1 hx)
  omega)
 have hp2 : o.Perm (List.range nd.length) := by
  have := hp.map Int.toNat
  simpa [ints, Function.comp_def] using this
 have hs2 : o.Pairwise (fore nd) := by
  rw [ints, List.pairwise_map] at hs
  exact hs.imp (fun h => by
   unfold bgCmp at h
   rw [rdG, rdG] at h
   unfold fore
   split at h <;> omega)
 have : o = bgOrd nd := (hp2.trans (bgOrd_perm nd).symm).eq_of_pairwise (fun _ _ _ _ h1 h2 => fore_antisymm h1 h2) hs2 (bgOrd_sorted nd)
 rw [this]
set_option maxRecDepth 10000 in
theorem bgSort_c {w W : World} {n g2 g4 g5 gB gN gO cB cN cO : Nat} {ns nd od : List Int} (h : BG w W n g2 g4 g5 gB gN gO cB cN cO ns nd od) (hn : nd.length = n) (h1 : 1 ≤ n) (h8 : n ≤ 8) (hod : od.Perm (ints (List.range n))) (hb : ∀ z ∈ nd, -1000 ≤ z ∧ z ≤ 1000) :
  Calls Tryd.prog 49 #[.slice (some ⟨gO, 0, none⟩) od.length cO, .func (.func 50) #[] #[.pointer (some ⟨g5, 0, none⟩)]] W fun e w' => e = .returned (.tuple #[]) ∧ BG w w' n g2 g4 g5 gB gN gO cB cN cO ns nd (ints (bgOrd nd)) := by
 have hlen : od.length = n := by rw [hod.length_eq, ints_length, List.length_range]
 haveI : Inhabited (Rg n) := ⟨⟨0, by omega, by omega⟩⟩
 have q5 := h.neBox h.rO
 refine (sortRange_c (n := n) (bgCmp nd) 50 _ #[.pointer (some ⟨g5, 0, none⟩)] Tryd.func50 (by kernel_rfl) (by kernel_rfl) (bgSwo nd n) gO cO w.heap.size (fun k => k = gO) od W (by omega) (by omega) (fun x hx => ?_) h.rO.toR (fun W2 hg x y => ?_)).mono ?_
 ·
  obtain ⟨y, hy, rfl⟩ := List.mem_map.1 (hod.mem_iff.1 hx)
  have := List.mem_range.1 hy
  omega
 ·
  obtain ⟨x0, hx1, hx2⟩ := x
  obtain ⟨y0, hy1, hy2⟩ := y
  obtain ⟨x, rfl⟩ := Int.eq_ofNat_of_zero_le hx1
  obtain ⟨y, rfl⟩ := Int.eq_ofNat_of_zero_le hy1
  have hc5 : W2.heap[g5]? = W.heap[g5]? := hg.block _ (blk_lt h.b5) (fun e => q5.2.2 (Option.some.inj e))
  have hrN := h.rN.keep (hg.block _ h.rN.lt (fun e => h.nNO (Option.some.inj e)))
  exact bgCmp_calls nd g5 cN (some ⟨gN, 0, none⟩) x y W2 ((blk_cell (hc5.trans h.b5) 0).trans rfl) (Kd.R_reads' hrN.toR).2.2 (by omega) (by omega) (by omega) hb
 ·
  rintro e w' ⟨rfl, l', hp, hs, hR, hg⟩
  have hll : l' = ints (bgOrd nd) := bgOrder_unique nd l' (by rw [hn]; exact hp.trans hod) hs
  subst hll
  refine ⟨rfl, h.sorted hg ?_⟩
  have hl2 : od.length = (ints (bgOrd nd)).length := by rw [hp.length_eq]
  rw [hl2] at hR
  obtain ⟨g, cap, e, hi, -⟩ := K.IRow.ofR hR (by omega)
  injection e with e1 e2 e3
  injection e1 with e4
  injection e4 with e5
  subst e5
  subst e3
  exact hi
theorem fold_max_pos : ∀ (l : List Int) (a : Int), 0 < l.foldl max a ↔ 0 < a ∨ ∃ x ∈ l, 0 < x
 | [], a => by simp
 | y :: l, a => by
  rw [List.foldl_cons, fold_max_pos l (max a y)]
  constructor
  ·
   rintro (h | ⟨x, hx, h⟩)
   ·
    by_cases c : 0 < a
    ·
     exact .inl c
    ·
     exact .inr ⟨y, List.mem_cons_self, by omega⟩
   ·
    exact .inr ⟨x, List.mem_cons_of_mem _ hx, h⟩
  ·
   rintro (h | ⟨x, hx, h⟩)
   ·
    exact .inl (by omega)
   ·
    rcases List.mem_cons.1 hx with rfl | q
    ·
     exact .inl (by omega)
    ·
     exact .inr ⟨x, q, h⟩
theorem max_any (nd : List Int) (hp : 0 < nd.length) : decide (Lib.maxOf nd > 0) = nd.any (fun x => decide (0 < x)) := by
 rw [Bool.eq_iff_iff, decide_eq_true_eq, List.any_eq_true]
 cases nd with
 | nil => simp at hp
 | cons y l =>
  show 0 < (y :: l).foldl max y ↔ _
  rw [fold_max_pos]
  constructor
  ·
   rintro (h | ⟨x, hx, h⟩)
   ·
    exact ⟨y, List.mem_cons_self, by simpa using h⟩
   ·
    exact ⟨x, hx, by simpa using h⟩
  ·
   rintro ⟨x, hx, h⟩
   exact .inr ⟨x, hx, by simpa using h⟩
theorem bgMax_c {w W : World} {n g2 g4 g5 gB gN gO cB cN cO : Nat} {ns nd od : List Int} (h : BG w W n g2 g4 g5 gB gN gO cB cN cO ns nd od) (hp : 0 < nd.length) (h8 : nd.length ≤ 8) :
  Calls Tryd.prog 48 #[.slice (some ⟨gN, 0, none⟩) nd.length cN] W fun e w' => e = .returned (.int .i64 (Lib.maxOf nd)) ∧ w' = W := by
 have hc := Any.slices_Max_int Tryd.maxLay gN 0 nd.length cN nd W hp (Nat.le_refl _) (by omega) (fun j hj => by rw [Nat.zero_add]; exact h.rN.at j hj)
 rw [List.take_length] at hc
 exact hc
end Go.Proofs.YtcheoendfcgjgaaDoor.P
namespace Go.Proofs.YtcheoendfcgjgaaDoor.K
open Go.RowKit Go.Proofs.YtcheoendfcgjgaaDoorW.PrintWords Go.Proofs.YtcheoendfcgjgaaDoorW.PrintMore Go.Proofs.YtcheoendfcgjgaaDoor.P
theorem joinAllSets {n : Nat} {i : Nat} (hi : i < n) : ∀ (o ns : List Nat), Sets n ns → (∀ x ∈ o, x < n) → Sets n (joinAll i o ns)
  | [], _, h, _ => h
  | j :: o, ns, h, ho => joinAllSets hi o _ (joinSets h hi (ho j List.mem_cons_self)) (fun x hx => ho x (List.mem_cons_of_mem _ hx))
theorem joinAll_snoc (i p : Nat) : ∀ (o ns : List Nat), joinAll i (o ++ [p]) ns = joinN (joinAll i o ns) i p
  | [], _ => rfl
  | j :: o, ns => by rw [List.cons_append, joinAll, joinAll_snoc i p o]; rfl
theorem decN_snoc (p : Nat) : ∀ (o : List Nat) (nd : List Int), decN (o ++ [p]) nd = (decN o nd).set p ((decN o nd).getD p 0 - 1)
  | [], _ => rfl
  | j :: o, nd => by rw [List.cons_append, decN, decN_snoc p o]; rfl
theorem decN_len : ∀ (o : List Nat) (nd : List Int), (decN o nd).length = nd.length
  | [], _ => rfl
  | j :: o, nd => by rw [decN, decN_len o, List.length_set]
theorem take_snoc (R : List Nat) (j : Nat) (hj : j < R.length) : R.take (j + 1) = R.take j ++ [R.getD j 0] := by
  rw [List.take_add_one, List.getElem?_eq_getElem hj, List.getD_eq_getElem?_getD, List.getElem?_eq_getElem hj]; rfl
theorem bgOrd_parts {nd : List Int} {i : Nat} {R : List Nat} (ho : bgOrd nd = i :: R) : R.Nodup ∧ i ∉ R ∧ (∀ x ∈ R, x < nd.length) ∧ i < nd.length ∧ R.length + 1 = nd.length := by
  have hp := bgOrd_perm nd
  rw [ho] at hp
  have hn : (i :: R).Nodup := hp.nodup_iff.2 List.nodup_range
  obtain ⟨h1, h2⟩ := List.nodup_cons.1 hn
  refine ⟨h2, h1, fun x hx => List.mem_range.1 (hp.mem_iff.1 (List.mem_cons_of_mem _ hx)), List.mem_range.1 (hp.mem_iff.1 List.mem_cons_self), ?_⟩
  have := hp.length_eq
  simpa using this
theorem decN_bd {nd : List Int} {o : List Nat} (hN : o.Nodup) (hL : ∀ x ∈ o, x < nd.length) {a b : Int} (hb : ∀ z ∈ nd, a ≤ z ∧ z ≤ b) : ∀ z ∈ decN o nd, a - 1 ≤ z ∧ z ≤ b := by
  obtain ⟨h1, h2⟩ := decN_char o nd hN hL
  intro z hz
  obtain ⟨p, hp, rfl⟩ := List.getElem_of_mem hz
  have hp2 : p < nd.length := by rw [← h1]; exact hp
  have e : (decN o nd).getD p 0 = (decN o nd)[p] := by rw [List.getD_eq_getElem?_getD, List.getElem?_eq_getElem hp]; rfl
  rw [← e, h2]
  have e2 : nd.getD p 0 = nd[p] := by rw [List.getD_eq_getElem?_getD, List.getElem?_eq_getElem hp2]; rfl
  have := hb _ (List.getElem_mem hp2)
  rw [e2]
  split <;> omega
theorem mem_getDG {l : List Int} {p : Nat} (hp : p < l.length) : l.getD p 0 ∈ l := by
  rw [List.getD_eq_getElem?_getD, List.getElem?_eq_getElem hp]; exact List.getElem_mem hp
theorem mem_getDN {l : List Nat} {p : Nat} (hp : p < l.length) : l.getD p 0 ∈ l := by
  rw [List.getD_eq_getElem?_getD, List.getElem?_eq_getElem hp]; exact List.getElem_mem hp
theorem set_bd {l : List Int} {p : Nat} {v a b : Int} (h : ∀ z ∈ l, a ≤ z ∧ z ≤ b) (hv : a ≤ v ∧ v ≤ b) : ∀ z ∈ l.set p v, a ≤ z ∧ z ≤ b := by
  intro z hz
  rcases List.mem_or_eq_of_mem_set hz with q | rfl
  · exact h z q
  · exact hv
end Go.Proofs.YtcheoendfcgjgaaDoor.K
namespace Go.Proofs.YtcheoendfcgjgaaDoor.P
open Go.RowKit Go.Proofs.YtcheoendfcgjgaaDoorW.PrintWords Go.Proofs.YtcheoendfcgjgaaDoorW.PrintLast Go.Proofs.YtcheoendfcgjgaaDoorW.PrintMore Go.Proofs.YtcheoendfcgjgaaDoor.K
open Go Go.Sort Go.Shelf
attribute [local go_sem ↓] Go.wp_at_zero Go.wp_at_succ
theorem bgJoin_c {w W : World} {n g2 g4 g5 gB gN gO cB cN cO : Nat} {ns : List Nat} {nd od : List Int} (h : BG w W n g2 g4 g5 gB gN gO cB cN cO (ints ns) nd od) (hS : K.Sets n ns) (i p : Nat) (hi : i < n) (hp : p < n) :
  Calls Tryd.prog 51 #[.agg #[.int .i64 (n : Int), .slice (some ⟨gB, 0, none⟩) n cB], .int .i64 (i : Int), .int .i64 (p : Int)] W fun e w' => e = .returned (.tuple #[]) ∧ BG w w' n g2 g4 g5 gB gN gO cB cN cO (ints (joinN ns i p)) nd od := by
 have hl : (ints ns).length = n := by rw [ints_length, hS.len]
 have hR := h.rB.toR
 rw [hl] at hR
 refine (impl_Graph_join.calls (n : Int) (fun k => k = gB) _ (ints ns) (i : Int) (p : Int) _ w W h.bel hR (join_fG hS (n : Int) i p hi hp)).mono ?_
 rintro e w' ⟨rfl, hr, hb, hk⟩
 have hl2 : (ints (joinN ns i p)).length = n := by rw [ints_length, (joinSets hS hi hp).len]
 have hr2 := hr
 rw [← hl2] at hr2
 obtain ⟨g, cap, e, hI, -⟩ := K.IRow.ofR hr (by rw [hl2]; omega)
 injection e with e1 e2 e3
 injection e1 with e4
 injection e4 with e5
 subst e5
 subst e3
 exact ⟨rfl, h.joined hk hb hI (by rw [hl2, hl])⟩
set_option maxHeartbeats 800000 in
set_option maxRecDepth 100000 in
theorem impl_BuildGraph.calls (k : Nat) (A0 : Option Addr) (c0 : Nat) (l0 : List Int) (r1 : Int) (r2 : List Int) (r3 : Bool) (w : World) (hr0 : Kd.C (Kd.int .i64) w A0 l0.length l0) (hc0 : l0.length ≤ c0) (h : impl_BuildGraph.f k l0 = some (r1, r2, r3)) :
  Calls Tryd.prog 20 #[.slice A0 l0.length c0] w fun e w' => ∃ v1_ : Value, e = .returned (.tuple #[.agg #[.int .i64 r1, v1_], .bool r3]) ∧ Kd.R (Kd.int .i64) 3 w' w.heap.size (fun _ => True) v1_ r2 ∧ Below w.heap.size w w' := by
 have HR0 := Aside0.mk hr0
 have HC0 := Aside0.mk hc0
 have HB := Aside0.mk (Below.refl w.heap.size w)
 clear hr0 hc0
 unfold impl_BuildGraph.f at h
 obtain ⟨b, hg, h⟩ := Option.bind_eq_some_iff.mp h
 have HG := Aside0.mk hg
 clear hg
 cases b with
 | false =>
  simp only [Bool.false_eq_true, if_false, Option.some.injEq, Prod.mk.injEq] at h
  obtain ⟨rfl, rfl, rfl⟩ := h
  go_enter Tryd.func20, Tryd.ntmps20
  go_wp2_with (first | ((with_reducible refine gate_dst (N := 2) rfl ?_); refine box_event ?hg (N := 2) ?hd (cs := #[.int .i64 0, .slice none 0 0]) (t := 39) ?hr ?_; (case hd => rfl); (case hg => rfl); (case hr => first | (go_simp; done) | (go_simp; rfl)); intro g2 hg w5 hbox hb; have n0_ := Aside0.mk (below_step (by repeat (first | (with_reducible first | exact HB.out | apply below_alloc | apply pw_below_drewN | apply below_drew1))) hb); have n1_ := Aside0.mk hbox; have n2_ := Aside0.mk (by rw [hg]; exact (below_size (by repeat (first | (with_reducible first | exact HB.out | apply below_alloc | apply pw_below_drewN | apply below_drew1)))) : w.heap.size ≤ g2); clear HB; have HB := n0_; have BK2 := n1_; have GE2 := n2_; clear n0_ n1_ n2_ hb hbox hg; have q0 := (blk_cell BK2.out 0).trans rfl; have q1 := (blk_cell BK2.out 1).trans rfl; have f0 := blk_frozen BK2.out 0; have f1 := blk_frozen BK2.out 1) | (go_at_call 26; (with_reducible refine (impl_IsList.calls k _ _ l0 false _ ?s1 HC0.out HG.out).mono ?_); (case s1 => exact Kd.C_below HR0.out (by repeat (first | (with_reducible first | exact HB.out | apply below_alloc | apply pw_below_drewN | apply below_drew1)))); rintro e w6 ⟨rfl, ⟨nd, rfl⟩⟩))
  refine bodyPost_ret (results_ct rfl _ _ g2 39 #[.int .i64 0, .slice none 0 0] (0, 0) _ rfl (by (with_reducible repeat (first | refine blk_drewN ?_ _ | refine blk_drew ?_ | refine blk_alloc ?_ _)); refine blk_put (cs := #[.int .i64 0, .slice none 0 0]) ?_ 1 _ rfl; (with_reducible repeat (first | refine blk_drewN ?_ _ | refine blk_drew ?_ | refine blk_alloc ?_ _)); refine blk_put (cs := #[.int .i64 0, .slice none 0 0]) ?_ 0 _ rfl; (with_reducible repeat (first | refine blk_drewN ?_ _ | refine blk_drew ?_ | refine blk_alloc ?_ _)); exact BK2.out) Tryd.underlying39 rfl (by kernel_rfl)) rfl ?_
  exact ⟨_, rfl, Kd.R_nil _ _ _ _ _, (by repeat (first | (with_reducible first | exact HB.out | apply below_alloc | apply pw_below_drewN | apply below_drew1 | refine below_set ?_ GE2.out) | exact HB.out))⟩
 | true =>
  simp only [if_true] at h
  obtain ⟨b2, hi, h⟩ := Option.bind_eq_some_iff.mp h
  have HI := Aside0.mk hi
  clear hi
  cases b2 with
  | false =>
   simp only [Bool.false_eq_true, if_false, Option.some.injEq, Prod.mk.injEq] at h
   obtain ⟨rfl, rfl, rfl⟩ := h
   go_enter Tryd.func20, Tryd.ntmps20
   go_wp2_with (first | ((with_reducible refine gate_dst (N := 2) rfl ?_); refine box_event ?hg (N := 2) ?hd (cs := #[.int .i64 0, .slice none 0 0]) (t := 39) ?hr ?_; (case hd => rfl); (case hg => rfl); (case hr => first | (go_simp; done) | (go_simp; rfl)); intro g2 hg w5 hbox hb; have n0_ := Aside0.mk (below_step (by repeat (first | (with_reducible first | exact HB.out | apply below_alloc | apply pw_below_drewN | apply below_drew1))) hb); have n1_ := Aside0.mk hbox; have n2_ := Aside0.mk (by rw [hg]; exact (below_size (by repeat (first | (with_reducible first | exact HB.out | apply below_alloc | apply pw_below_drewN | apply below_drew1)))) : w.heap.size ≤ g2); clear HB; have HB := n0_; have BK2 := n1_; have GE2 := n2_; clear n0_ n1_ n2_ hb hbox hg; have q0 := (blk_cell BK2.out 0).trans rfl; have q1 := (blk_cell BK2.out 1).trans rfl; have f0 := blk_frozen BK2.out 0; have f1 := blk_frozen BK2.out 1) | (go_at_call 26; (with_reducible refine (impl_IsList.calls k _ _ l0 true _ ?s1 HC0.out HG.out).mono ?_); (case s1 => exact Kd.C_below HR0.out (by repeat (first | (with_reducible first | exact HB.out | apply below_alloc | apply pw_below_drewN | apply below_drew1)))); rintro e w6 ⟨rfl, ⟨nd, rfl⟩⟩) | (go_at_call 45; (with_reducible refine (impl_isGraphic.calls k _ _ l0 false _ ?s1 HC0.out HI.out).mono ?_); (case s1 => exact Kd.C_below HR0.out (by repeat (first | (with_reducible first | exact HB.out | apply below_alloc | apply pw_below_drewN | apply below_drew1)))); rintro e w7 ⟨rfl, hb⟩; have n0_ := Aside0.mk (below_step (by repeat (first | (with_reducible first | exact HB.out | apply below_alloc | apply pw_below_drewN | apply below_drew1))) hb); have n1_ := Aside0.mk (blk_below (by (with_reducible repeat (first | refine blk_drewN ?_ _ | refine blk_drew ?_ | refine blk_alloc ?_ _)); exact BK2.out) hb); clear HB BK2 hb q0 q1 f0 f1; have HB := n0_; have BK2 := n1_; clear n0_ n1_; have q0 := (blk_cell BK2.out 0).trans rfl; have q1 := (blk_cell BK2.out 1).trans rfl; have f0 := blk_frozen BK2.out 0; have f1 := blk_frozen BK2.out 1))
   refine bodyPost_ret (results_ct rfl _ _ g2 39 #[.int .i64 0, .slice none 0 0] (0, 0) _ rfl (by (with_reducible repeat (first | refine blk_drewN ?_ _ | refine blk_drew ?_ | refine blk_alloc ?_ _)); refine blk_put (cs := #[.int .i64 0, .slice none 0 0]) ?_ 1 _ rfl; (with_reducible repeat (first | refine blk_drewN ?_ _ | refine blk_drew ?_ | refine blk_alloc ?_ _)); refine blk_put (cs := #[.int .i64 0, .slice none 0 0]) ?_ 0 _ rfl; (with_reducible repeat (first | refine blk_drewN ?_ _ | refine blk_drew ?_ | refine blk_alloc ?_ _)); exact BK2.out) Tryd.underlying39 rfl (by kernel_rfl)) rfl ?_
   exact ⟨_, rfl, Kd.R_nil _ _ _ _ _, (by repeat (first | (with_reducible first | exact HB.out | apply below_alloc | apply pw_below_drewN | apply below_drew1 | refine below_set ?_ GE2.out) | exact HB.out))⟩
  | true =>
   simp only [if_true] at h
   split at h
   case isFalse => cases h
   rename_i hb
   obtain ⟨h1, h8, h3, hfit⟩ := hb
   simp only [Option.some.injEq, Prod.mk.injEq] at h
   obtain ⟨rfl, hr2, rfl⟩ := h
   have HR2 := Aside0.mk hr2
   have H18 : Aside0 (1 ≤ l0.length ∧ l0.length ≤ 8) := ⟨⟨h1, h8⟩⟩
   have H3 := Aside0.mk h3
   have HFIT := Aside0.mk hfit
   have HP0 : Aside0 (0 < (List.replicate l0.length (0 : Int)).length) := ⟨by simp; omega⟩
   have HP1 : Aside0 (0 < l0.length) := ⟨by omega⟩
   have HNG : Aside0 (impl_newGraph.f (l0.length : Int) = some ((l0.length : Int), List.replicate l0.length 0)) := ⟨by unfold impl_newGraph.f; rw [if_pos (by omega), if_pos (by omega), Int.toNat_natCast]⟩
   have HCl : Aside0 (slices_Clone_int_int.f l0 = some l0) := ⟨by unfold slices_Clone_int_int.f; rw [if_pos (by omega)]⟩
   clear hr2 h1 h8 h3 hfit
   go_enter Tryd.func20, Tryd.ntmps20
   go_wp2_with (first | ((with_reducible refine gate_dst (N := 2) rfl ?_); refine box_event ?hg (N := 2) ?hd (cs := #[.int .i64 0, .slice none 0 0]) (t := 39) ?hr ?_; (case hd => rfl); (case hg => rfl); (case hr => first | (go_simp; done) | (go_simp; rfl)); intro g2 hg w5 hbox hb; have n0_ := Aside0.mk (below_step (by repeat (first | (with_reducible first | exact HB.out | apply below_alloc | apply pw_below_drewN | apply below_drew1))) hb); have n1_ := Aside0.mk hbox; have n2_ := Aside0.mk (by rw [hg]; exact (below_size (by repeat (first | (with_reducible first | exact HB.out | apply below_alloc | apply pw_below_drewN | apply below_drew1)))) : w.heap.size ≤ g2); clear HB; have HB := n0_; have BK2 := n1_; have GE2 := n2_; clear n0_ n1_ n2_ hb hbox hg; have q0 := (blk_cell BK2.out 0).trans rfl; have q1 := (blk_cell BK2.out 1).trans rfl; have f0 := blk_frozen BK2.out 0; have f1 := blk_frozen BK2.out 1) | (go_at_call 26; (with_reducible refine (impl_IsList.calls k _ _ l0 true _ ?s1 HC0.out HG.out).mono ?_); (case s1 => exact Kd.C_below HR0.out (by repeat (first | (with_reducible first | exact HB.out | apply below_alloc | apply pw_below_drewN | apply below_drew1)))); rintro e w6 ⟨rfl, ⟨nd, rfl⟩⟩) | (go_at_call 45; (with_reducible refine (impl_isGraphic.calls k _ _ l0 true _ ?s1 HC0.out HI.out).mono ?_); (case s1 => exact Kd.C_below HR0.out (by repeat (first | (with_reducible first | exact HB.out | apply below_alloc | apply pw_below_drewN | apply below_drew1)))); rintro e w7 ⟨rfl, hb⟩; have n0_ := Aside0.mk (below_step (by repeat (first | (with_reducible first | exact HB.out | apply below_alloc | apply pw_below_drewN | apply below_drew1))) hb); have n1_ := Aside0.mk (blk_below (by (with_reducible repeat (first | refine blk_drewN ?_ _ | refine blk_drew ?_ | refine blk_alloc ?_ _)); exact BK2.out) hb); clear HB BK2 hb q0 q1 f0 f1; have HB := n0_; have BK2 := n1_; clear n0_ n1_; have q0 := (blk_cell BK2.out 0).trans rfl; have q1 := (blk_cell BK2.out 1).trans rfl; have f0 := blk_frozen BK2.out 0; have f1 := blk_frozen BK2.out 1) | (go_at_call 46; (with_reducible refine (impl_newGraph.calls (l0.length : Int) (l0.length : Int) (List.replicate l0.length 0) _ HNG.out).mono ?_); rintro e w8 ⟨vB, rfl, hs, hb⟩; obtain ⟨gB, cB, rfl, hrB, -⟩ := K.IRow.ofR (Kd.R_lower hs (below_size (by repeat (first | (with_reducible first | exact HB.out | apply below_alloc | apply pw_below_drewN | apply below_drew1))))) HP0.out; have n0_ := Aside0.mk (below_step (by repeat (first | (with_reducible first | exact HB.out | apply below_alloc | apply pw_below_drewN | apply below_drew1))) hb); have n1_ := Aside0.mk (blk_below (by (with_reducible repeat (first | refine blk_drewN ?_ _ | refine blk_drew ?_ | refine blk_alloc ?_ _)); exact BK2.out) hb); have n2_ := Aside0.mk hrB; clear HB BK2 hs hb hrB q0 q1 f0 f1; have HB := n0_; have BK2 := n1_; have RB := n2_; clear n0_ n1_ n2_) | (go_at_call 47; (with_reducible refine (slices_Clone_int_int.calls A0 c0 l0 l0 _ ?s2 HC0.out HCl.out).mono ?_); (case s2 => exact Kd.C_below HR0.out (by repeat (first | (with_reducible first | exact HB.out | apply below_alloc | apply pw_below_drewN | apply below_drew1)))); rintro e w9 ⟨vN, rfl, hs, hb⟩; obtain ⟨gN, cN, rfl, hrN, -⟩ := K.IRow.ofR (Kd.R_lower hs (below_size (by repeat (first | (with_reducible first | exact HB.out | apply below_alloc | apply pw_below_drewN | apply below_drew1))))) HP1.out; have hge := (K.IRow.ofR hs HP1.out); have n0_ := Aside0.mk (below_step (by repeat (first | (with_reducible first | exact HB.out | apply below_alloc | apply pw_below_drewN | apply below_drew1))) hb); have n1_ := Aside0.mk (blk_below (by (with_reducible repeat (first | refine blk_drewN ?_ _ | refine blk_drew ?_ | refine blk_alloc ?_ _)); exact BK2.out) hb); have n2_ := Aside0.mk (RB.out.keep (hb.block _ RB.out.lt)); have n3_ := Aside0.mk hrN; have n4_ : Aside0 (gB ≠ gN) := ⟨by obtain ⟨gq, cq, eq_, hq, -⟩ := hge; injection eq_ with eq_; injection eq_ with eq_; injection eq_ with eq_; have := hq.base; have := RB.out.lt; omega⟩; clear HB BK2 RB hs hb hrN hge; have HB := n0_; have BK2 := n1_; have RB := n2_; have RN := n3_; have NBN := n4_; clear n0_ n1_ n2_ n3_ n4_))
   have BGS := Aside0.mk (BG.start (n := l0.length) BK2.out RB.out RN.out NBN.out HB.out GE2.out)
   rw [List.length_replicate] at BGS
   go_loopg [6, 28] l0.length (fun kq v6 v28 w' => ∃ (i gO cO : Nat), v28 = .int .i64 (i : Int) ∧ v6 = .slice (some ⟨gO, 0, none⟩) (ints (List.range i)).length cO ∧ Aside0 (i + kq = l0.length) ∧ Aside0 (BG w w' l0.length g2 (w9.heap.size + 1) (w9.heap.size + 1 + 1) gB gN gO cB cN cO (List.replicate l0.length 0) l0 (ints (List.range i))))
   case atStart => exact ⟨0, _, _, rfl, rfl, ⟨by omega⟩, BGS⟩
   case round =>
    clear BGS HB BK2 RB RN
    obtain ⟨i, gO, cO, rfl, rfl, HI, HG⟩ := hrel
    cases gk with
    | zero =>
     have hi : i = l0.length := by have := HI.out; omega
     have c4 : decide ((i : Int) < (l0.length : Int)) = false := by simp; omega
     have c5 : decide (i < l0.length) = false := by simp; omega
     go_wp2
     have HN0 : Aside0 (K.Sets l0.length (List.replicate l0.length 0)) := ⟨⟨H18.out.1, H18.out.2, by simp, fun x hx => by rw [(List.mem_replicate.1 hx).2]; exact Nat.two_pow_pos _⟩⟩
     subst hi
     have HG0 := HG.out
     have e0 : List.replicate l0.length (0 : Int) = ints (List.replicate l0.length 0) := by simp [ints]
     rw [e0] at HG0
     go_loopg [8] l0.length (fun kq v8 w' => ∃ (ns : List Nat) (nd od : List Int), Aside0 (BG w w' l0.length g2 (w9.heap.size + 1) (w9.heap.size + 1 + 1) gB gN gO cB cN cO (ints ns) nd od) ∧ Aside0 (od.Perm (ints (List.range l0.length))) ∧ Aside0 (nd.length = l0.length) ∧ Aside0 (K.Sets l0.length ns) ∧ Aside0 (kq ≤ l0.length ∧ ∀ z ∈ nd, -((l0.length : Int) - kq) ≤ z ∧ z ≤ 60) ∧ Aside0 (bgGo kq nd ns = bgGo l0.length l0 (List.replicate l0.length 0)) ∧ Aside0 (bgFits kq nd = true))
     case atStart => exact ⟨List.replicate l0.length 0, l0, ints (List.range l0.length), ⟨HG0⟩, ⟨List.Perm.refl _⟩, ⟨rfl⟩, HN0, ⟨⟨Nat.le_refl _, fun z hz => by have := H3.out z hz; omega⟩⟩, ⟨rfl⟩, HFIT⟩
     case round =>
      clear HG HN0 HG0 e0
      obtain ⟨ns, nd, od, HG, HOD, HND, HNS, HBD, HGO, HFT⟩ := hrel
      have hpos : 0 < nd.length := by have := HND.out; have := H18.out; omega
      have h8 : nd.length ≤ 8 := by have := HND.out; have := H18.out; omega
      have hmx := max_any nd hpos
      have q5 : wr.cell? ⟨w9.heap.size + 1 + 1, 0, none⟩ = some (.slice (some ⟨gN, 0, none⟩) nd.length cN) := (blk_cell HG.out.b5 0).trans rfl
      have q40 : wr.cell? ⟨w9.heap.size + 1, 0, none⟩ = some (.int .i64 (l0.length : Int)) := (blk_cell HG.out.b4 0).trans rfl
      have q41 : wr.cell? ⟨w9.heap.size + 1, 1, none⟩ = some (.slice (some ⟨gB, 0, none⟩) (ints ns).length cB) := (blk_cell HG.out.b4 1).trans rfl
      have HPOS := Aside0.mk hpos
      have HLE8 := Aside0.mk h8
      clear hpos h8
      cases hany : nd.any (fun x => decide (0 < x)) with
      | false =>
       have HANY := Aside0.mk hany
       rw [hany] at hmx
       clear hany
       have hns : ns = bgGo l0.length l0 (List.replicate l0.length 0) := by
        rw [← HGO.out]
        cases gk with
        | zero => rfl
        | succ d => rw [bgGo, HANY.out]; rfl
       have HNSQ := Aside0.mk hns
       clear hns
       have q20 := (blk_cell HG.out.b2 0).trans rfl
       have q21 := (blk_cell HG.out.b2 1).trans rfl
       have f20 := blk_frozen HG.out.b2 0
       have f21 := blk_frozen HG.out.b2 1
       go_wp2_with (first | (go_at_call 48; (with_reducible refine (bgMax_c HG.out HPOS.out HLE8.out).mono ?_); rintro e w11 ⟨rfl, rfl⟩))
       refine bodyPost_ret (results_ct rfl _ _ g2 39 #[.int .i64 (l0.length : Int), .slice (some ⟨gB, 0, none⟩) (ints ns).length cB] (0, 0) _ rfl (by (with_reducible repeat (first | refine blk_drewN ?_ _ | refine blk_drew ?_ | refine blk_alloc ?_ _)); refine blk_put (cs := #[.int .i64 (l0.length : Int), .slice none 0 0]) ?_ 1 _ rfl; (with_reducible repeat (first | refine blk_drewN ?_ _ | refine blk_drew ?_ | refine blk_alloc ?_ _)); refine blk_put (cs := #[.int .i64 0, .slice none 0 0]) ?_ 0 _ rfl; (with_reducible repeat (first | refine blk_drewN ?_ _ | refine blk_drew ?_ | refine blk_alloc ?_ _)); exact HG.out.b2) Tryd.underlying39 rfl (by kernel_rfl)) rfl ?_
       have hneB := (HG.out.neBox HG.out.rB).1
       refine ⟨_, rfl, ?_, below_set (below_set HG.out.bel HG.out.ge2) HG.out.ge2⟩
       rw [← HR2.out, ← HNSQ.out]
       exact Kd.R_mono ((HG.out.rB.keep (K.set_heap (Ne.symm hneB))).keep (K.set_heap (Ne.symm hneB))).toR (fun _ _ => trivial)
      | true =>
       cases gk with
       | zero => have := HFT.out; rw [bgFits, hany] at this; exact absurd this (by decide)
       | succ d =>
        have hft := HFT.out
        have hgo := HGO.out
        rw [bgFits, hany] at hft
        rw [bgGo, hany] at hgo
        simp only [if_true, Bool.and_eq_true, decide_eq_true_eq] at hft hgo
        obtain ⟨hft1, hft2⟩ := hft
        obtain ⟨i, R, ho⟩ : ∃ i R, bgOrd nd = i :: R := List.exists_cons_of_ne_nil (fun e => by
         have := (bgOrd_perm nd).length_eq
         rw [e, List.length_range] at this
         have := HPOS.out
         simp at *; omega)
        have HO := Aside0.mk ho
        have hMp : 0 < nd.getD i 0 := by
         obtain ⟨x, hx, hx0⟩ := List.any_eq_true.1 hany
         obtain ⟨p, hp, rfl⟩ := List.getElem_of_mem hx
         have hs := bgOrd_sorted nd
         rw [ho] at hs
         have hm : p ∈ bgOrd nd := (bgOrd_perm nd).mem_iff.2 (List.mem_range.2 hp)
         rw [ho] at hm
         have e : nd.getD p 0 = nd[p] := by rw [List.getD_eq_getElem?_getD, List.getElem?_eq_getElem hp]; rfl
         have h0 : 0 < nd[p] := by simpa using hx0
         rcases List.mem_cons.1 hm with rfl | q
         ·
          omega
         ·
          have := (List.pairwise_cons.1 hs).1 p q
          unfold fore at this
          omega
        rw [hany] at hmx
        clear hany
        have hin : i < nd.length := by
         have : i ∈ bgOrd nd := by rw [ho]; exact List.mem_cons_self
         exact List.mem_range.1 ((bgOrd_perm nd).mem_iff.1 this)
        rw [ho] at hft1 hgo
        simp only [List.headD_cons] at hft1 hgo
        have HFT1 := Aside0.mk hft1
        have HFT2 := Aside0.mk hft2
        have HGO2 := Aside0.mk hgo
        have HIN := Aside0.mk hin
        have HB8 : Aside0 (∀ z ∈ nd, -1000 ≤ z ∧ z ≤ 1000) := ⟨fun z hz => by have := HBD.out.2 z hz; have := H18.out; omega⟩
        have HLO : Aside0 ((ints (bgOrd nd)).length = nd.length) := ⟨by rw [ints_length, (bgOrd_perm nd).length_eq, List.length_range]⟩
        clear hft1 hft2 hgo ho hin HFT HGO
        obtain ⟨M, hM⟩ : ∃ M, M = nd.getD i 0 := ⟨_, rfl⟩
        rw [← hM] at hMp
        have HM := Aside0.mk hM
        have hMn : M.toNat < nd.length := by rw [hM]; exact HFT1.out
        have hMM : M ≤ 8 := by have := HLE8.out; omega
        have HMP := Aside0.mk hMp
        have HMN := Aside0.mk hMn
        have HWM : IntKind.i64.wrap (1 + M) = 1 + M := IntWalk.i64_in _ (by omega)
        have hlen0 : od.length = nd.length := by rw [HOD.out.length_eq, ints_length, List.length_range, HND.out]
        have hcO : od.length ≤ cO := HG.out.rO.le
        obtain ⟨i041, hi041, _, hsz41, _⟩ := info_parts K.iInfo
        have hcut := cut_mid (P := Tryd.prog) 24 3 .i64 .i64 Tryd.underlying24 hi041 1 hsz41 (some ⟨gO, 0, none⟩) od.length cO 1 (1 + M) (by omega) (by omega) (by omega) hcO
        obtain ⟨AC, hAC⟩ : ∃ AC, AC = (if cO = (1 : Int).toNat then (some ⟨gO, 0, none⟩ : Option Addr) else (some ⟨gO, 0, none⟩ : Option Addr).map (·.add ((1 : Int).toNat * 1))) := ⟨_, rfl⟩
        have hmn : (1 + M).toNat - (1 : Int).toNat = M.toNat := by omega
        rw [← hAC, hmn] at hcut
        have hAC1 : AC = some ⟨gO, 1, none⟩ := by rw [hAC, if_neg (by have := HFT1.out; omega)]; rfl
        subst hAC1
        clear hM hAC hMp hMn hMM hi041 hsz41 hmn hlen0 hcO
        have hodp : 0 < od.length := by rw [HOD.out.length_eq, ints_length, List.length_range]; have := H18.out; omega
        have c20 : decide ((0 : Int) < (od.length : Int)) = true := by simp; omega
        have c21 : decide (0 < od.length) = true := by simp; omega
        have hl22 : i < nd.length := HIN.out
        have c22 : decide ((i : Int) < (nd.length : Int)) = true := by have := HIN.out; simp; omega
        have c23 : decide (i < nd.length) = true := by have := HIN.out; simp; omega
        have c24 : (i : Int) ≤ 1048575 := by have := HIN.out; have := HLE8.out; omega
        have HODL : Aside0 (od.length = (ints (List.range l0.length)).length) := ⟨HOD.out.length_eq⟩
        go_wp2_with (first | (go_at_call 48; (with_reducible refine (bgMax_c HG.out HPOS.out HLE8.out).mono ?_); rintro e w11 ⟨rfl, rfl⟩) | (go_at_call 49; rw [← HODL.out]; (with_reducible refine (bgSort_c HG.out HND.out H18.out.1 H18.out.2 HOD.out HB8.out).mono ?_); rintro e w12 ⟨rfl, hG2⟩; have n0_ := Aside0.mk hG2; clear HG hG2; have HG := n0_; clear n0_; have q5 := (blk_cell HG.out.b5 0).trans rfl; have qo0 : w12.cell? ⟨gO, 0, none⟩ = some (.int .i64 (i : Int)) := (by have h1_ := HG.out.rO.at 0 (by rw [HLO.out]; exact HPOS.out); rw [HO.out] at h1_; exact h1_); have qn : w12.cell? ⟨gN, i, none⟩ = some (.int .i64 M) := (by rw [HM.out]; exact HG.out.rN.at i HIN.out)))
        obtain ⟨hRn, hiR, hRl, -, hRL⟩ := bgOrd_parts HO.out
        have HRN := Aside0.mk hRn
        have HIR := Aside0.mk hiR
        have HRL := Aside0.mk hRl
        have HRLEN := Aside0.mk hRL
        clear hRn hiR hRl hRL
        go_loopg [53] M.toNat (fun kq v53 w' => ∃ j : Nat, v53 = .int .i64 (j : Int) ∧ Aside0 (j + kq = M.toNat) ∧ Aside0 (BG w w' l0.length g2 (w9.heap.size + 1) (w9.heap.size + 1 + 1) gB gN gO cB cN cO (ints (joinAll i (R.take j) ns)) (decN (R.take j) nd) (ints (bgOrd nd))))
        case atStart => exact ⟨0, rfl, ⟨by omega⟩, HG⟩
        case round =>
         clear HG
         obtain ⟨j, rfl, HJ, HG⟩ := hrel
         have HS : Aside0 (K.Sets l0.length (joinAll i (R.take j) ns)) := ⟨joinAllSets (by have := HIN.out; have := HND.out; omega) _ _ HNS.out (fun x hx => by have := HRL.out x (List.mem_of_mem_take hx); have := HND.out; omega)⟩
         have HDL : Aside0 ((decN (R.take j) nd).length = nd.length) := ⟨decN_len _ _⟩
         have HDB : Aside0 (∀ z ∈ decN (R.take j) nd, -1000 ≤ z ∧ z ≤ 1000) := ⟨fun z hz => by
          have := decN_bd (HRN.out.sublist (List.take_sublist _ _)) (fun x hx => HRL.out x (List.mem_of_mem_take hx)) HBD.out.2 z hz
          have := H18.out
          omega⟩
         have q5 : wr.cell? ⟨w9.heap.size + 1 + 1, 0, none⟩ = some (.slice (some ⟨gN, 0, none⟩) nd.length cN) := (blk_cell HG.out.b5 0).trans (by rw [HDL.out]; rfl)
         cases gk with
         | zero =>
          have hj : j = M.toNat := by have := HJ.out; omega
          have c30 : decide ((j : Int) < (M.toNat : Int)) = false := by simp; omega
          have c31 : decide (j < M.toNat) = false := by simp; omega
          have hpk : bgPick nd = R.take j := by unfold bgPick; rw [HO.out, hj, HM.out]; rfl
          have qn : wr.cell? ⟨gN, i, none⟩ = some (.int .i64 ((decN (R.take j) nd).getD i 0)) := HG.out.rN.at i (by rw [HDL.out]; exact HIN.out)
          have fn : wr.frozen? ⟨gN, i, none⟩ = false := HG.out.rN.free i
          have HPK := Aside0.mk hpk
          clear hpk
          go_wp2
          rw [HODL.out]
          go_roundg d
          case measure => omega
          case rel =>
           refine ⟨joinAll i (R.take j) ns, (decN (R.take j) nd).set i 0, ints (bgOrd nd), ⟨HG.out.put i (by rw [HDL.out]; exact HIN.out) 0⟩, ⟨?_⟩, ⟨?_⟩, HS, ⟨⟨?_, ?_⟩⟩, ⟨?_⟩, ⟨?_⟩⟩
           ·
            have := (bgOrd_perm nd).map (fun x : Nat => (x : Int))
            rw [HND.out] at this
            exact this
           ·
            rw [List.length_set, HDL.out, HND.out]
           ·
            have := HBD.out.1; omega
           ·
            have h1_ := decN_bd (HRN.out.sublist (List.take_sublist j R)) (fun x hx => HRL.out x (List.mem_of_mem_take hx)) HBD.out.2
            have h2_ := HBD.out.1
            refine set_bd (fun z hz => ?_) (by omega)
            have := h1_ z hz
            omega
           ·
            have h1_ := HGO2.out
            rw [bgNext, HPK.out, HO.out] at h1_
            exact h1_
           ·
            have h1_ := HFT2.out
            rw [bgNext, HPK.out, HO.out] at h1_
            exact h1_
         | succ dd =>
          have hjM : j < M.toNat := by have := HJ.out; omega
          have c30 : decide ((j : Int) < (M.toNat : Int)) = true := by simp; omega
          have c31 : decide (j < M.toNat) = true := by simp; omega
          have hjR : j < R.length := by have := HRLEN.out; have := HMN.out; omega
          obtain ⟨p, hp⟩ : ∃ p, p = R.getD j 0 := ⟨_, rfl⟩
          have hpl : p < nd.length := by rw [hp]; exact HRL.out _ (mem_getDN hjR)
          have hpn : p < l0.length := by have := HND.out; omega
          have hin : i < l0.length := by have := HND.out; have := HIN.out; omega
          have qo : wr.cell? ⟨gO, 1 + j, none⟩ = some (.int .i64 (p : Int)) := by
           have h1_ := HG.out.rO.at (1 + j) (by rw [HLO.out]; have := HRLEN.out; omega)
           have e_ : (ints (bgOrd nd)).getD (1 + j) 0 = (p : Int) := by
            rw [HO.out, hp, Nat.add_comm 1 j]
            simp only [ints, List.map_cons, List.getD_cons_succ]
            rw [List.getD_eq_getElem?_getD, List.getElem?_map, List.getElem?_eq_getElem hjR, List.getD_eq_getElem?_getD, List.getElem?_eq_getElem hjR]
            rfl
           rw [e_] at h1_
           exact h1_
          have hsl : (ints (joinAll i (R.take j) ns)).length = l0.length := by rw [ints_length, HS.out.len]
          have q40 : wr.cell? ⟨w9.heap.size + 1, 0, none⟩ = some (.int .i64 (l0.length : Int)) := (blk_cell HG.out.b4 0).trans rfl
          have q41 : wr.cell? ⟨w9.heap.size + 1, 1, none⟩ = some (.slice (some ⟨gB, 0, none⟩) l0.length cB) := (blk_cell HG.out.b4 1).trans (by rw [hsl]; rfl)
          obtain ⟨v, hv⟩ : ∃ v, v = (decN (R.take j) nd).getD p 0 := ⟨_, rfl⟩
          have hvb := HDB.out _ (mem_getDG (l := decN (R.take j) nd) (p := p) (by rw [HDL.out]; exact hpl))
          rw [← hv] at hvb
          have hwv : IntKind.i64.wrap (v - 1) = v - 1 := IntWalk.i64_in _ (by omega)
          have c32 : decide ((p : Int) < (nd.length : Int)) = true := by simp; omega
          have c33 : decide (p < nd.length) = true := by simp; omega
          have c34 : (p : Int) ≤ 1048575 := by have := HLE8.out; omega
          have c35 : (j : Int) ≤ 1048575 := by have := HLE8.out; have := HRLEN.out; omega
          have HV := Aside0.mk hv
          have HP := Aside0.mk hp
          have HPN := Aside0.mk hpn
          have HII := Aside0.mk hin
          have HJR := Aside0.mk hjR
          clear hv hp hpn hin hjR hvb hsl
          go_wp2_with (first | (go_at_call 51; (with_reducible refine (bgJoin_c HG.out HS.out i p HII.out HPN.out).mono ?_); rintro e w13 ⟨rfl, hG2⟩; have n0_ := Aside0.mk hG2; clear HG hG2; have HG := n0_; clear n0_; have q5 : w13.cell? ⟨w9.heap.size + 1 + 1, 0, none⟩ = some (.slice (some ⟨gN, 0, none⟩) nd.length cN) := (blk_cell HG.out.b5 0).trans (by rw [HDL.out]; rfl); have qn : w13.cell? ⟨gN, p, none⟩ = some (.int .i64 v) := (by rw [HV.out]; exact HG.out.rN.at p (by rw [HDL.out]; exact hpl)); have fn : w13.frozen? ⟨gN, p, none⟩ = false := HG.out.rN.free p))
          go_roundg dd
          case measure => omega
          case rel =>
           refine ⟨j + 1, by simp, ⟨by have := HJ.out; omega⟩, ⟨?_⟩⟩
           rw [take_snoc R j HJR.out, ← HP.out, joinAll_snoc, decN_snoc, ← HV.out]
           exact HG.out.put p (by rw [HDL.out]; exact hpl) (v - 1)
    | succ d =>
     have hl : i < l0.length := by have := HI.out; omega
     have c4 : decide ((i : Int) < (l0.length : Int)) = true := by simp; omega
     have c5 : decide (i < l0.length) = true := by simp; omega
     have c7 : (i : Int) ≤ 1048575 := by have := H18.out; omega
     have HIL := Aside0.mk hl
     go_wp2_with (first | ((with_reducible refine gate_builtin (b := .append) (xs := #[.tmp 31, .tmp 33]) rfl ?_); at_builtin; refine K.IRow.append (w := _) (base := w.heap.size) (g := gO) (cap := cO) (xs := ints (List.range i)) (HG.out.rO.keep ((below_alloc (Below.refl wr.heap.size wr) _).block _ HG.out.rO.lt)) rfl (.tmp 31) (.tmp 33) rfl rfl ⟨wr.heap.size, 0, none⟩ 1 (i : Int) rfl ?hc ?hl ?hb ?_; (case hc => first | (simp; done) | (simp; rfl)); (case hl => (have h1_ := H18.out; have h2_ := HIL.out; rw [ints_length, List.length_range]; omega)); (case hb => (have h1_ := HG.out.bel.size; rw [World.size_alloc]; omega)); intro g' cap' w10 hbr hg hat; have n0_ := Aside0.mk (BG.appended HG.out _ hg hbr hat); clear HG hbr hg hat; have HG := n0_; clear n0_))
     go_roundg d
     case measure => omega
     case rel =>
      have e : ints (List.range i) ++ [(i : Int)] = ints (List.range (i + 1)) := by rw [List.range_succ]; simp [ints]
      have HG2 := HG.out
      rw [e] at HG2
      exact ⟨i + 1, g', cap', by simp, by simp [ints_length], ⟨by have := HI.out; omega⟩, ⟨HG2⟩⟩
end Go.Proofs.YtcheoendfcgjgaaDoor.P
