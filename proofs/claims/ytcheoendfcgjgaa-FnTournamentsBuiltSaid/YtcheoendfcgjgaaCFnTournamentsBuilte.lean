/- Parts: contracts and plain lemmas for the law FnTournamentsBuilt, part 5 of 7 (what the Go functions answer). -/
import Derived.Sort.OwnSortedInts
import Derived.ArgAppend
import Derived.Laws.CopyRow
import Derived.Laws.BitsLemmas
import Derived.Deep.RegionHeld3
import Derived.Deep.DrawnRows
import Derived.Deep.RegionLaw
import Derived.Shelf.SlSortCmp.Small
import Derived.Ground.SlsfProg
import Derived.Shelf.SlGeneric
import Derived.Shelf.Small.Bits
import Derived.Ground.NamesProg
import Derived.Test.YtcheoendfcgjgaaProg
import Derived.Shelf.SlicesE.DeleteFunc
import Derived.Ground.SlgfProg
import Derived.WalkSpells
import Derived.Lib.BufferMore
import Derived.Shelf.SlSortCmp.NoneTotal
import Derived.Deep.AppendLies
import Derived.Test.YtcheoendfcgjgaaCFnTournamentsBuilta
import Derived.Test.YtcheoendfcgjgaaCFnTournamentsBuiltb
import Derived.Test.YtcheoendfcgjgaaCFnTournamentsBuiltc
import Derived.Test.YtcheoendfcgjgaaCFnTournamentsBuiltd
set_option linter.unusedVariables false
set_option linter.unusedSimpArgs false
namespace Go.Proofs.Ytcheoendfcgjgaa.P
open Go.RowKit Go.Proofs.YtcheoendfcgjgaaW.PrintWords Go.Proofs.YtcheoendfcgjgaaW.PrintLast Go.Proofs.YtcheoendfcgjgaaW.PrintMore
attribute [local go_sem] max2_int min2_int max_two min_two max_three min_three max_four min_four
mutual
def spec_BuildTournament.j0 : Nat → List Int → Bool → Option (Int × List Int × Bool)
 | 0, _, _ => none
 | k + 1, x0, x19 => if x19 = true then (some (0, ([] : List Int), false)) else (if 0 ≤ (x0.length : Int) then (if ((x0.length : Int) : Int).toNat ≤ 35184372088832 then ((spec_l1Own.f x0).bind fun t291 => (spec_BuildTournament.l0 k x0 t291 ([] : List Int) (x0.length : Int) (List.replicate ((x0.length : Int) : Int).toNat 0))) else (none)) else (none))
def spec_BuildTournament.l0 : Nat → List Int → List Int → List Int → Int → List Int → Option (Int × List Int × Bool)
 | 0, _, _, _, _, _ => none
 | k + 1, x0, x5, x6, x291000, x291001 => if (x6.length : Int) < (x0.length : Int) then ((spec_scNext.f k x5 x6 true).bind fun t294 => (if x6.length < 17592186044416 then ((some (x6 ++ [t294] : List Int)).bind fun y295 => ((spec_l1Own.f y295).bind fun t298 => (if 0 ≤ t294 then (if t294 < (x5.length : Int) then (spec_BuildTournament.l1 k x0 x5 y295 t294 t298 (rd x5 t294) x291000 x291001) else (none)) else (none)))) else (none))) else (some (x291000, x291001, true))
def spec_BuildTournament.l1 : Nat → List Int → List Int → List Int → Int → List Int → Int → Int → List Int → Option (Int × List Int × Bool)
 | 0, _, _, _, _, _, _, _, _ => none
 | k + 1, x0, x5, x6, x7, x8, x9, x291000, x291001 => if x9 > 0 then ((spec_scNext.f k x5 x8 false).bind fun t302 => (if x8.length < 17592186044416 then (if 0 ≤ x7 then (if x7 < (x291001.length : Int) then (if 0 ≤ t302 then (spec_BuildTournament.l1 k x0 x5 x6 x7 (x8 ++ [t302]) (wrap64 (x9 - 1)) x291000 (x291001.set (x7 : Int).toNat (Go.bits .or .i64 (rd x291001 x7) (shl .i64 1 t302)))) else (none)) else (none)) else (none)) else (none))) else (spec_BuildTournament.l2 k x0 x5 x6 x7 x8 (x5.length : Int) 0 x291000 x291001)
def spec_BuildTournament.l2 : Nat → List Int → List Int → List Int → Int → List Int → Int → Int → Int → List Int → Option (Int × List Int × Bool)
 | 0, _, _, _, _, _, _, _, _, _ => none
 | k + 1, x0, x5, x6, x7, x8, x68, x69, x291000, x291001 => if x69 < x68 then ((spec_l1Has.f k x8 x69).bind fun t308 => (if t308 = true then (spec_BuildTournament.l2 k x0 x5 x6 x7 x8 x68 (wrap64 (x69 + 1)) x291000 x291001) else (if 0 ≤ x69 then (if x69 < (x291001.length : Int) then (if 0 ≤ x7 then (if x69 < (x5.length : Int) then (spec_BuildTournament.l2 k x0 (x5.set (x69 : Int).toNat (wrap64 ((rd x5 x69) - 1))) x6 x7 x8 x68 (wrap64 (x69 + 1)) x291000 (x291001.set (x69 : Int).toNat (Go.bits .or .i64 (rd x291001 x69) (shl .i64 1 x7)))) else (none)) else (none)) else (none)) else (none)))) else (spec_BuildTournament.l0 k x0 x5 x6 x291000 x291001)
end
def spec_BuildTournament.f (k : Nat) (l0 : List Int) : Option (Int × List Int × Bool) := (spec_liGood.f k l0).bind fun t285 => (if t285 = true then ((spec_scRefuses.f k l0).bind fun t286 => (spec_BuildTournament.j0 k l0 (decide (t286 > 0)))) else (spec_BuildTournament.j0 k l0 true))
theorem spec_BuildTournament.mono_l : ∀ k, (∀ y0 y1, LeO (spec_BuildTournament.j0 k y0 y1) (spec_BuildTournament.j0 (k + 1) y0 y1)) ∧ (∀ y0 y1 y2 y3 y4, LeO (spec_BuildTournament.l0 k y0 y1 y2 y3 y4) (spec_BuildTournament.l0 (k + 1) y0 y1 y2 y3 y4)) ∧ (∀ y0 y1 y2 y3 y4 y5 y6 y7, LeO (spec_BuildTournament.l1 k y0 y1 y2 y3 y4 y5 y6 y7) (spec_BuildTournament.l1 (k + 1) y0 y1 y2 y3 y4 y5 y6 y7)) ∧ (∀ y0 y1 y2 y3 y4 y5 y6 y7 y8, LeO (spec_BuildTournament.l2 k y0 y1 y2 y3 y4 y5 y6 y7 y8) (spec_BuildTournament.l2 (k + 1) y0 y1 y2 y3 y4 y5 y6 y7 y8))
 | 0 => ⟨fun _ _ r h => by simp [spec_BuildTournament.j0] at h, fun _ _ _ _ _ r h => by simp [spec_BuildTournament.l0] at h, fun _ _ _ _ _ _ _ _ r h => by simp [spec_BuildTournament.l1] at h, fun _ _ _ _ _ _ _ _ _ r h => by simp [spec_BuildTournament.l2] at h⟩
 | k + 1 => by
  obtain ⟨ih0, ih1, ih2, ih3⟩ := spec_BuildTournament.mono_l k
  refine ⟨?_, ?_, ?_, ?_⟩
  ·
   intro y0 y1
   unfold spec_BuildTournament.j0
   repeat' first
   | (with_reducible exact ih0 _ _)
   | (with_reducible exact ih1 _ _ _ _ _)
   | (with_reducible exact ih2 _ _ _ _ _ _ _ _)
   | (with_reducible exact ih3 _ _ _ _ _ _ _ _ _)
   | (with_reducible exact spec_l1Has.mono _ _ _)
   | (with_reducible exact spec_liGood.mono _ _)
   | (with_reducible exact spec_scNext.mono _ _ _ _)
   | (with_reducible exact spec_scRefuses.mono _ _)
   | (with_reducible exact LeO.refl _)
   | (with_reducible exact LeO.none _)
   | (with_reducible refine LeO.ite ?_ ?_)
   | (with_reducible refine LeO.bind ?_ (fun _ => ?_))
   | exact ih0 _ _
   | exact ih1 _ _ _ _ _
   | exact ih2 _ _ _ _ _ _ _ _
   | exact ih3 _ _ _ _ _ _ _ _ _
   | exact spec_l1Has.mono _ _ _
   | exact spec_liGood.mono _ _
   | exact spec_scNext.mono _ _ _ _
   | exact spec_scRefuses.mono _ _
   | exact LeO.none _
   | refine LeO.ite ?_ ?_
   | refine LeO.bind ?_ (fun _ => ?_)
  ·
   intro y0 y1 y2 y3 y4
   unfold spec_BuildTournament.l0
   repeat' first
   | (with_reducible exact ih0 _ _)
   | (with_reducible exact ih1 _ _ _ _ _)
   | (with_reducible exact ih2 _ _ _ _ _ _ _ _)
   | (with_reducible exact ih3 _ _ _ _ _ _ _ _ _)
   | (with_reducible exact spec_l1Has.mono _ _ _)
   | (with_reducible exact spec_liGood.mono _ _)
   | (with_reducible exact spec_scNext.mono _ _ _ _)
   | (with_reducible exact spec_scRefuses.mono _ _)
   | (with_reducible exact LeO.refl _)
   | (with_reducible exact LeO.none _)
   | (with_reducible refine LeO.ite ?_ ?_)
   | (with_reducible refine LeO.bind ?_ (fun _ => ?_))
   | exact ih0 _ _
   | exact ih1 _ _ _ _ _
   | exact ih2 _ _ _ _ _ _ _ _
   | exact ih3 _ _ _ _ _ _ _ _ _
   | exact spec_l1Has.mono _ _ _
   | exact spec_liGood.mono _ _
   | exact spec_scNext.mono _ _ _ _
   | exact spec_scRefuses.mono _ _
   | exact LeO.none _
   | refine LeO.ite ?_ ?_
   | refine LeO.bind ?_ (fun _ => ?_)
  ·
   intro y0 y1 y2 y3 y4 y5 y6 y7
   unfold spec_BuildTournament.l1
   repeat' first
   | (with_reducible exact ih0 _ _)
   | (with_reducible exact ih1 _ _ _ _ _)
   | (with_reducible exact ih2 _ _ _ _ _ _ _ _)
   | (with_reducible exact ih3 _ _ _ _ _ _ _ _ _)
   | (with_reducible exact spec_l1Has.mono _ _ _)
   | (with_reducible exact spec_liGood.mono _ _)
   | (with_reducible exact spec_scNext.mono _ _ _ _)
   | (with_reducible exact spec_scRefuses.mono _ _)
   | (with_reducible exact LeO.refl _)
   | (with_reducible exact LeO.none _)
   | (with_reducible refine LeO.ite ?_ ?_)
   | (with_reducible refine LeO.bind ?_ (fun _ => ?_))
   | exact ih0 _ _
   | exact ih1 _ _ _ _ _
   | exact ih2 _ _ _ _ _ _ _ _
   | exact ih3 _ _ _ _ _ _ _ _ _
   | exact spec_l1Has.mono _ _ _
   | exact spec_liGood.mono _ _
   | exact spec_scNext.mono _ _ _ _
   | exact spec_scRefuses.mono _ _
   | exact LeO.none _
   | refine LeO.ite ?_ ?_
   | refine LeO.bind ?_ (fun _ => ?_)
  ·
   intro y0 y1 y2 y3 y4 y5 y6 y7 y8
   unfold spec_BuildTournament.l2
   repeat' first
   | (with_reducible exact ih0 _ _)
   | (with_reducible exact ih1 _ _ _ _ _)
   | (with_reducible exact ih2 _ _ _ _ _ _ _ _)
   | (with_reducible exact ih3 _ _ _ _ _ _ _ _ _)
   | (with_reducible exact spec_l1Has.mono _ _ _)
   | (with_reducible exact spec_liGood.mono _ _)
   | (with_reducible exact spec_scNext.mono _ _ _ _)
   | (with_reducible exact spec_scRefuses.mono _ _)
   | (with_reducible exact LeO.refl _)
   | (with_reducible exact LeO.none _)
   | (with_reducible refine LeO.ite ?_ ?_)
   | (with_reducible refine LeO.bind ?_ (fun _ => ?_))
   | exact ih0 _ _
   | exact ih1 _ _ _ _ _
   | exact ih2 _ _ _ _ _ _ _ _
   | exact ih3 _ _ _ _ _ _ _ _ _
   | exact spec_l1Has.mono _ _ _
   | exact spec_liGood.mono _ _
   | exact spec_scNext.mono _ _ _ _
   | exact spec_scRefuses.mono _ _
   | exact LeO.none _
   | refine LeO.ite ?_ ?_
   | refine LeO.bind ?_ (fun _ => ?_)
theorem spec_BuildTournament.mono : ∀ a0 k, LeO (spec_BuildTournament.f k a0) (spec_BuildTournament.f (k + 1) a0) := by
 intro a0 k
 obtain ⟨ih0, ih1, ih2, ih3⟩ := spec_BuildTournament.mono_l k
 unfold spec_BuildTournament.f
 repeat' first
   | (with_reducible exact ih0 _ _)
   | (with_reducible exact ih1 _ _ _ _ _)
   | (with_reducible exact ih2 _ _ _ _ _ _ _ _)
   | (with_reducible exact ih3 _ _ _ _ _ _ _ _ _)
   | (with_reducible exact spec_l1Has.mono _ _ _)
   | (with_reducible exact spec_liGood.mono _ _)
   | (with_reducible exact spec_scNext.mono _ _ _ _)
   | (with_reducible exact spec_scRefuses.mono _ _)
   | (with_reducible exact LeO.refl _)
   | (with_reducible exact LeO.none _)
   | (with_reducible refine LeO.ite ?_ ?_)
   | (with_reducible refine LeO.bind ?_ (fun _ => ?_))
   | exact ih0 _ _
   | exact ih1 _ _ _ _ _
   | exact ih2 _ _ _ _ _ _ _ _
   | exact ih3 _ _ _ _ _ _ _ _ _
   | exact spec_l1Has.mono _ _ _
   | exact spec_liGood.mono _ _
   | exact spec_scNext.mono _ _ _ _
   | exact spec_scRefuses.mono _ _
   | exact LeO.none _
   | refine LeO.ite ?_ ?_
   | refine LeO.bind ?_ (fun _ => ?_)
def spec_BuildTournament.T15 : Bool × List (List Nat × List Nat) := (true, [([], []), ([0], [0]), ([], []), ([1, 2], [1, 2]), ([3], [3]), ([], []), ([5], [5]), ([4, 6], [4, 6]), ([1, 2, 0, 1, 2, 3, 4, 5, 6, 7], [1, 2]), ([8, 7, 0, 1, 2, 3, 4, 5, 6, 7], [7, 8])])
def spec_BuildTournament.B15 : List Nat := [0, 1, 0, 7, 15, 0, 32, 127, 255, 511]
theorem spec_BuildTournament.tab15 : rtab .any (opsOf Try.f8 15) = spec_BuildTournament.T15 := by kernel_rfl
theorem spec_BuildTournament.bits15 : waitsOk spec_BuildTournament.T15.2 spec_BuildTournament.B15 = true := by kernel_rfl
def spec_BuildTournament.T20 : Bool × List (List Nat × List Nat) := (true, [([], []), ([0], [0]), ([], []), ([1, 2], [1, 2]), ([3], [3]), ([], []), ([5], [5]), ([4, 6], [4, 6]), ([1, 2, 0, 1, 2, 3, 4, 5, 6, 7], [1, 2]), ([8, 7, 0, 1, 2, 3, 4, 5, 6, 7], [7, 8])])
def spec_BuildTournament.B20 : List Nat := [0, 1, 0, 7, 15, 0, 32, 127, 255, 511]
theorem spec_BuildTournament.tab20 : rtab .any (opsOf Try.f8 20) = spec_BuildTournament.T20 := by kernel_rfl
theorem spec_BuildTournament.bits20 : waitsOk spec_BuildTournament.T20.2 spec_BuildTournament.B20 = true := by kernel_rfl
set_option maxHeartbeats 8000000 in
set_option maxRecDepth 100000 in
theorem spec_BuildTournament.calls (k : Nat) (A0 : Option Addr) (c0 : Nat) (l0 : List Int) (r1 : Int) (r2 : List Int) (r3 : Bool) (w : World) (hr0 : Kd.C (Kd.int .i64) w A0 l0.length l0) (hc0 : l0.length ≤ c0) (h : spec_BuildTournament.f k l0 = some (r1, r2, r3)) :
  Calls Try.prog 8 #[.slice A0 l0.length c0] w fun e w' => ∃ v1_ : Value, e = .returned (.tuple #[.agg #[.int .i64 r1, v1_], .bool r3]) ∧ Kd.R (Kd.int .i64) 3 w' w.heap.size (fun _ => True) v1_ r2 ∧ Below w.heap.size w w' := by
 have hu27 := Try.underlying27
 have HR0 := Am hr0
 have HC0 := Am hc0
 clear hr0 hc0
 have HB := Am (Below.refl w.heap.size w)
 have H : ((spec_liGood.f k l0).bind fun t285 => (if t285 = true then ((spec_scRefuses.f k l0).bind fun t286 => (spec_BuildTournament.j0 k l0 (decide (t286 > 0)))) else (spec_BuildTournament.j0 k l0 true))) = some (r1, r2, r3) := h
 clear h
 have HC2 := Am H
 clear H
 go_enter Try.func8, Try.ntmps8
 go_upto_region 1 with (first | ((with_reducible refine gate_dst (N := 2) rfl ?_); refine box_event ?hg (N := 2) ?hd (cs := #[.int .i64 0, .slice none 0 0]) (t := 27) ?hr ?_; (case hd => rfl); (case hg => rfl); (case hr => first | (go_simp; done) | (go_simp; rfl)); intro gb284 hg w3 hbox hb; have n0_ := Am (below_step (by repeat (first | (with_reducible first | exact HB.out | apply Ba | apply Bn | apply Bd))) hb); have n1_ := Am (hbox); have n2_ := Am ((by rw [hg]; exact (below_size (by repeat (first | (with_reducible first | exact HB.out | apply Ba | apply Bn | apply Bd)))) : w.heap.size ≤ gb284)); have n3_ := Am ((by rw [hg]; exact (below_size (by repeat (first | (with_reducible first | exact HB.out | apply Ba | apply Bn | apply Bd)))) : w.heap.size ≤ gb284)); clear HB; have HB := n0_; have BK284 := n1_; have GW284 := n2_; have GE284 := n3_; clear n0_ n1_ n2_ n3_; clear hb hbox hg))
 (try simp only [Act.put, List.setIfInBounds_toArray, List.set_cons_zero, List.set_cons_succ])
 go_cut [19] (fun v19 wc => ∃ (kq : Nat) (x19_1 : Bool), v19 = .bool x19_1 ∧ Aside0 (spec_BuildTournament.j0 kq l0 x19_1 = some (r1, r2, r3)) ∧ Aside0 (kq ≤ k) ∧ Aside0 (wc.heap[gb284]? = some (.cells #[.int .i64 0, (.slice none 0 0)] 27 (0, 0))) ∧ Aside0 (Below w.heap.size w wc))
 case first =>
  have H := HC2.out
  clear HC2
  replace H := Option.bind_eq_some_iff.mp H
  obtain ⟨t285, A40, H⟩ := H
  replace H : (if t285 = true then ((spec_scRefuses.f k l0).bind fun t286 => (spec_BuildTournament.j0 k l0 (decide (t286 > 0)))) else (spec_BuildTournament.j0 k l0 true)) = some (r1, r2, r3) := H
  have A4 := Am A40
  clear A40
  by_cases c5 : t285 = true
  ·
   subst c5
   have H1 : ((spec_scRefuses.f k l0).bind fun t286 => (spec_BuildTournament.j0 k l0 (decide (t286 > 0)))) = some (r1, r2, r3) := by rw [if_pos rfl] at H; exact H
   clear H
   have H := H1
   clear H1
   replace H := Option.bind_eq_some_iff.mp H
   obtain ⟨t286, A60, H⟩ := H
   replace H : (spec_BuildTournament.j0 k l0 (decide (t286 > 0))) = some (r1, r2, r3) := H
   have A6 := Am A60
   clear A60
   have H' := Am H
   clear H
   go_wp2_with (first | ((with_reducible refine gate_callee (f := 37) rfl ?_); refine goesL_ (some 13) rfl rfl Try.func37 (by kernel_rfl) rfl #[.slice A0 l0.length c0] rfl (by (try simp only [List.map_toArray, List.map_cons, List.map_nil]); first | done | rfl) ?_; (with_reducible refine (spec_liGood.calls k _ _ l0 true _ ?side1 ?side2 A4.out).mono ?_); (case side1 => repeat (first | exact (Kd.C_below HR0.out HB.out) | (with_reducible refine Ca ?_ _) | (with_reducible refine Cn ?_ _) | (with_reducible refine Cd ?_))); (case side2 => exact HC0.out); rintro e w' ⟨rfl, ⟨nd, rfl⟩⟩; refine ⟨_, rfl, ?_⟩) | (go_at_call 38; (with_reducible refine (spec_scRefuses.calls k _ _ l0 t286 _ ?side1 ?side2 A6.out).mono ?_); (case side1 => repeat (first | exact (Kd.C_below HR0.out (by repeat (first | (with_reducible first | exact HB.out | apply Ba | apply Bn | apply Bd | refine Bs ?_ GE284.out) | exact HB.out))) | (with_reducible refine Ca ?_ _) | (with_reducible refine Cn ?_ _) | (with_reducible refine Cd ?_))); (case side2 => exact HC0.out); rintro e w7 ⟨rfl, hb⟩; have n0_ := Am (blk_below (g := gb284) (o := .cells #[.int .i64 0, .slice none 0 0] 27 (0, 0)) (by (with_reducible repeat (first | refine Kn ?_ _ | refine Ke ?_ | refine Ka ?_ _)); exact BK284.out) hb); have n1_ := Am (below_step (by repeat (first | (with_reducible first | exact HB.out | apply Ba | apply Bn | apply Bd | refine Bs ?_ GE284.out) | exact HB.out)) hb); clear BK284; clear HB; have BK284 := n0_; have HB := n1_; clear n0_ n1_; (try clear hb); (try clear hb2); (try clear hk); (try clear hi)))
   go_meet
   case rel => exact ⟨_, (decide (t286 > 0)), (by first | rfl | (simp; done) | (simp [*]; done)), H', ⟨by first | omega | exact Nat.le_refl _⟩, ⟨by (with_reducible repeat (first | refine Kn ?_ _ | refine Ke ?_ | refine Ka ?_ _)); exact BK284.out⟩, ⟨by repeat (first | (with_reducible first | exact HB.out | apply Ba | apply Bn | apply Bd | refine Bs ?_ GE284.out) | exact HB.out)⟩⟩
  ·
   replace c5 := Bool.eq_false_iff.mpr c5
   subst c5
   have H1 : (spec_BuildTournament.j0 k l0 true) = some (r1, r2, r3) := by rw [if_neg (show ¬ (false = true) by decide)] at H; exact H
   clear H
   have H := H1
   clear H1
   have H' := Am H
   clear H
   go_wp2_with (first | ((with_reducible refine gate_callee (f := 37) rfl ?_); refine goesL_ (some 13) rfl rfl Try.func37 (by kernel_rfl) rfl #[.slice A0 l0.length c0] rfl (by (try simp only [List.map_toArray, List.map_cons, List.map_nil]); first | done | rfl) ?_; (with_reducible refine (spec_liGood.calls k _ _ l0 false _ ?side1 ?side2 A4.out).mono ?_); (case side1 => repeat (first | exact (Kd.C_below HR0.out HB.out) | (with_reducible refine Ca ?_ _) | (with_reducible refine Cn ?_ _) | (with_reducible refine Cd ?_))); (case side2 => exact HC0.out); rintro e w' ⟨rfl, ⟨nd, rfl⟩⟩; refine ⟨_, rfl, ?_⟩))
   go_meet
   case rel => exact ⟨_, (true), (by first | rfl | (simp; done) | (simp [*]; done)), H', ⟨by first | omega | exact Nat.le_refl _⟩, ⟨by (with_reducible repeat (first | refine Kn ?_ _ | refine Ke ?_ | refine Ka ?_ _)); exact BK284.out⟩, ⟨by repeat (first | (with_reducible first | exact HB.out | apply Ba | apply Bn | apply Bd | refine Bs ?_ GE284.out) | exact HB.out)⟩⟩
 case rest =>
  clear HC2
  (try clear p2); (try clear c3); (try clear c5)
  obtain ⟨kq, x19_1, rfl, HA, HJ1, BK284, HB⟩ := hcut
  cases kq with
  | zero => exact absurd HA.out (by simp [spec_BuildTournament.j0])
  | succ kj1 =>
   have H := HA.out
   clear HA
   simp only [spec_BuildTournament.j0] at H
   by_cases c8 : x19_1 = true
   ·
    subst c8
    have H1 : (some (0, ([] : List Int), false)) = some (r1, r2, r3) := by rw [if_pos rfl] at H; exact H
    clear H
    have H := H1
    clear H1
    simp only [Option.some.injEq, Prod.mk.injEq] at H
    obtain ⟨rfl, rfl, rfl⟩ := H
    have hcz9_0 : wc.cell? ⟨gb284, 0, none⟩ = some (.int .i64 0) := (Kc BK284.out 0).trans rfl
    have hcz9_1 : wc.cell? ⟨gb284, 1, none⟩ = some (.slice none 0 0) := (Kc BK284.out 1).trans rfl
    have hfz9_0 := Kf BK284.out 0
    have hfz9_1 := Kf BK284.out 1
    go_wp2
    refine bodyPost_ret (results_ct rfl _ _ gb284 27 #[.int .i64 0, .slice none 0 0] (0, 0) _ rfl (by (with_reducible repeat (first | refine Kn ?_ _ | refine Ke ?_ | refine Ka ?_ _)); refine blk_put (cs := #[.int .i64 0, .slice none 0 0]) ?_ 1 _ rfl; (with_reducible repeat (first | refine Kn ?_ _ | refine Ke ?_ | refine Ka ?_ _)); refine blk_put (cs := #[.int .i64 0, .slice none 0 0]) ?_ 0 _ rfl; (with_reducible repeat (first | refine Kn ?_ _ | refine Ke ?_ | refine Ka ?_ _)); exact BK284.out) Try.underlying27 rfl (by kernel_rfl)) rfl ?_
    exact ⟨_, by first | rfl | (simp [errW_none, errW_some] <;> rfl) | (simp [*, errW_none, errW_some] <;> rfl), by first | exact Kd.R_nil _ _ _ _ _ | exact Kd.N_nil _ _ _ _ _ | exact Kd.V_nil _ _ _ _ _ | exact Kd.Q_nil _ _ _ _ _ | exact Kd.S_nil _ _ _ _ _, by repeat (first | (with_reducible first | exact HB.out | apply Ba | apply Bn | apply Bd | refine Bs ?_ GE284.out) | exact HB.out)⟩
   ·
    replace c8 := Bool.eq_false_iff.mpr c8
    subst c8
    have H1 : (if 0 ≤ (l0.length : Int) then (if ((l0.length : Int) : Int).toNat ≤ 35184372088832 then ((spec_l1Own.f l0).bind fun t291 => (spec_BuildTournament.l0 kj1 l0 t291 ([] : List Int) (l0.length : Int) (List.replicate ((l0.length : Int) : Int).toNat 0))) else (none)) else (none)) = some (r1, r2, r3) := by rw [if_neg (show ¬ (false = true) by decide)] at H; exact H
    clear H
    have H := H1
    clear H1
    by_cases c10 : 0 ≤ (l0.length : Int)
    ·
     rw [if_pos c10] at H
     have c10b0 := eq_true c10
     have c10b1 : decide (0 ≤ (l0.length : Int)) = true := De c10
     clear c10
     by_cases c11 : ((l0.length : Int) : Int).toNat ≤ 35184372088832
     ·
      rw [if_pos c11] at H
      have c11b0 := eq_true c11
      have c11b1 : decide (((l0.length : Int) : Int).toNat ≤ 35184372088832) = true := De c11
      clear c11
      obtain ⟨y287, hy287⟩ : ∃ y_ : List Int, y_ = (List.replicate ((l0.length : Int) : Int).toNat 0) := ⟨_, rfl⟩
      replace H : ((spec_l1Own.f l0).bind fun t291 => (spec_BuildTournament.l0 kj1 l0 t291 ([] : List Int) (l0.length : Int) y287)) = some (r1, r2, r3) := by first | (rw [hy287]; with_reducible exact H) | (have H2_ := (Option.bind_some _ _).symm.trans H; rw [hy287]; with_reducible exact H2_) | (have H2_ := (Option.bind_some _ _).symm.trans H; with_reducible exact H2_) | with_reducible exact H | (rw [hy287]; exact H) | exact H
      have Ny287 := Am hy287
      clear hy287
      replace H := Option.bind_eq_some_iff.mp H
      obtain ⟨t291, A120, H⟩ := H
      replace H : (spec_BuildTournament.l0 kj1 l0 t291 ([] : List Int) (l0.length : Int) y287) = some (r1, r2, r3) := H
      have A12 := Am A120
      clear A120
      have H' := Am H
      clear H
      go_wp2_with (first | ((with_reducible refine gate_dst (N := 25) rfl ?_); refine Kd.R_make (Kd.int .i64) _ 3 rfl (N := 25) rfl 24 _ _ rfl (l0.length : Int) rfl rfl Try.underlying24 (.int .i64 0) 8 info3 rfl (by decide) (by omega) 0 (ok := fun _ => True) (okp := fun _ => True) rfl (fun _ hk => hk) trivial (Oe (by first | (with_reducible assumption) | assumption)) (Nat.le_trans (Nat.mul_le_mul_right _ (Oe (by first | (with_reducible assumption) | assumption) : (l0.length : Int).toNat ≤ 35184372088832)) (by omega)) (Below.refl _ _) (Nat.le_refl _) ?_; intro v288 w13 ho14 hb hg_ hnew_; clear hg_ hnew_; (first | rw [← Ny287.out] at ho14 | (simp only [Int.reduceToNat] at ho14; rw [← Ny287.out] at ho14)); have n0_ := Am (Kd.R_lower ho14 (below_size (by repeat (first | (with_reducible first | exact HB.out | apply Ba | apply Bn | apply Bd | refine Bs ?_ GE284.out) | exact HB.out)))); have n1_ := Am (blk_below (g := gb284) (o := .cells #[.int .i64 0, .slice none 0 0] 27 (0, 0)) (by (with_reducible repeat (first | refine Kn ?_ _ | refine Ke ?_ | refine Ka ?_ _)); exact BK284.out) hb); have n2_ := Am (below_step (by repeat (first | (with_reducible first | exact HB.out | apply Ba | apply Bn | apply Bd | refine Bs ?_ GE284.out) | exact HB.out)) hb); clear BK284; clear HB; have HO289 := n0_; have BK284 := n1_; have HB := n2_; clear n0_ n1_ n2_; clear hb ho14; obtain ⟨Ao15, co15, eo15⟩ := Kd.R_slice HO289.out; subst eo15) | ((with_reducible refine gate_dst (N := 4) rfl ?_); refine box_event ?hg (N := 4) ?hd (cs := #[.int .i64 0, .slice none 0 0]) (t := 27) ?hr ?_; (case hd => rfl); (case hg => rfl); (case hr => first | (go_simp; done) | (go_simp; rfl)); intro gb290 hg w16 hbox hb; have n0_ := Am (Kd.R_below (by (with_reducible repeat (first | apply Ra | apply Rn | apply Rd)); exact HO289.out) hb); have n1_ := Am (blk_below (g := gb284) (o := .cells #[.int .i64 0, .slice none 0 0] 27 (0, 0)) (by (with_reducible repeat (first | refine Kn ?_ _ | refine Ke ?_ | refine Ka ?_ _)); exact BK284.out) hb); have n2_ := Am (below_step (by repeat (first | (with_reducible first | exact HB.out | apply Ba | apply Bn | apply Bd | refine Bs ?_ GE284.out) | exact HB.out)) hb); have n3_ := Am (hbox); have n4_ := Am ((by rw [hg]; exact (below_size (by repeat (first | (with_reducible first | exact HB.out | apply Ba | apply Bn | apply Bd | refine Bs ?_ GE284.out) | exact HB.out))) : w.heap.size ≤ gb290)); have n5_ := Am ((by rw [hg]; exact (below_size (by repeat (first | (with_reducible first | exact HB.out | apply Ba | apply Bn | apply Bd | refine Bs ?_ GE284.out) | exact HB.out))) : w.heap.size ≤ gb290)); have n6_ := Am ((by rw [hg]; exact Nat.ne_of_lt (blk_lt (g := gb284) (o := .cells #[.int .i64 0, .slice none 0 0] 27 (0, 0)) (by (with_reducible repeat (first | refine Kn ?_ _ | refine Ke ?_ | refine Ka ?_ _)); exact BK284.out)) : gb284 ≠ gb290)); have n7_ := Am ((by rw [hg]; exact Nat.ne_of_gt (blk_lt (g := gb284) (o := .cells #[.int .i64 0, .slice none 0 0] 27 (0, 0)) (by (with_reducible repeat (first | refine Kn ?_ _ | refine Ke ?_ | refine Ka ?_ _)); exact BK284.out)) : gb290 ≠ gb284)); clear HO289; clear BK284; clear HB; have HO289 := n0_; have BK284 := n1_; have HB := n2_; have BK290 := n3_; have GW290 := n4_; have GE290 := n5_; have NB284_290 := n6_; have NB290_284 := n7_; clear n0_ n1_ n2_ n3_ n4_ n5_ n6_ n7_; clear hb hbox hg; have hnb17 := NB290_284.out; have hnc17 := NB284_290.out; have hcz18_0 : w16.cell? ⟨gb290, 0, none⟩ = some (.int .i64 0) := (Kc BK290.out 0).trans rfl; have hcz18_1 : w16.cell? ⟨gb290, 1, none⟩ = some (.slice none 0 0) := (Kc BK290.out 1).trans rfl; have hfz18_0 := Kf BK290.out 0; have hfz18_1 := Kf BK290.out 1) | ((with_reducible refine gate_callee (f := 39) rfl ?_); refine goesL_ (some 28) rfl rfl Try.func39 (by kernel_rfl) rfl #[.slice A0 l0.length c0] rfl (by (try simp only [List.map_toArray, List.map_cons, List.map_nil]); first | done | rfl) ?_; (with_reducible refine (spec_l1Own.calls _ _ l0 t291 _ ?side1 ?side2 A12.out).mono ?_); (case side1 => exact Kd.C_below HR0.out (by repeat (first | (with_reducible first | exact HB.out | apply Ba | apply Bn | apply Bd | refine Bs ?_ GE284.out | refine Bs ?_ GE290.out) | exact HB.out))); (case side2 => exact HC0.out); rintro e w19 ⟨v292, rfl, ho0, hb⟩; refine ⟨_, rfl, ?_⟩; have n0_ := Am (Kd.R_elder' (by (with_reducible repeat (first | apply Ra | apply Rn | apply Rd)); exact (Kd.R_mono (Kd.R_far (p := ⟨gb290, 1, none⟩) (Kd.R_far (p := ⟨gb290, 0, none⟩) (Kd.R_types HO289.out BK290.out (by decide)) (fun _ hk => hk.2) (.int .i64 (l0.length : Int))) (fun _ hk => hk.2) (.slice Ao15 y287.length co15)) (fun _ h_ => h_.1))) (Kd.R_base ho0) hb); have n1_ := Am (Kd.R_lower (Kd.R_new' ho0 (Kd.R_lt (by (with_reducible repeat (first | apply Ra | apply Rn | apply Rd)); exact (Kd.R_mono (Kd.R_far (p := ⟨gb290, 1, none⟩) (Kd.R_far (p := ⟨gb290, 0, none⟩) (Kd.R_types HO289.out BK290.out (by decide)) (fun _ hk => hk.2) (.int .i64 (l0.length : Int))) (fun _ hk => hk.2) (.slice Ao15 y287.length co15)) (fun _ h_ => h_.1))))) (below_size (by repeat (first | (with_reducible first | exact HB.out | apply Ba | apply Bn | apply Bd | refine Bs ?_ GE284.out | refine Bs ?_ GE290.out) | exact HB.out)))); have n2_ := Am (blk_below (g := gb284) (o := .cells #[.int .i64 0, .slice none 0 0] 27 (0, 0)) (by (with_reducible repeat (first | refine Kn ?_ _ | refine Ke ?_ | refine Ka ?_ _)); refine blk_far ?_ NB284_290.out _; (with_reducible repeat (first | refine Kn ?_ _ | refine Ke ?_ | refine Ka ?_ _)); refine blk_far ?_ NB284_290.out _; (with_reducible repeat (first | refine Kn ?_ _ | refine Ke ?_ | refine Ka ?_ _)); exact BK284.out) hb); have n3_ := Am (blk_below (g := gb290) (o := .cells #[.int .i64 (l0.length : Int), .slice Ao15 y287.length co15] 27 (0, 0)) (by (with_reducible repeat (first | refine Kn ?_ _ | refine Ke ?_ | refine Ka ?_ _)); refine blk_put (cs := #[.int .i64 (l0.length : Int), .slice none 0 0]) ?_ 1 _ rfl; (with_reducible repeat (first | refine Kn ?_ _ | refine Ke ?_ | refine Ka ?_ _)); refine blk_put (cs := #[.int .i64 0, .slice none 0 0]) ?_ 0 _ rfl; (with_reducible repeat (first | refine Kn ?_ _ | refine Ke ?_ | refine Ka ?_ _)); exact BK290.out) hb); have n4_ := Am (below_step (by repeat (first | (with_reducible first | exact HB.out | apply Ba | apply Bn | apply Bd | refine Bs ?_ GE284.out | refine Bs ?_ GE290.out) | exact HB.out)) hb); clear HO289; clear BK284; clear BK290; clear HB; have HO289 := n0_; have HO293 := n1_; have BK284 := n2_; have BK290 := n3_; have HB := n4_; clear n0_ n1_ n2_ n3_ n4_; (try clear hb); (try clear hb2); (try clear hk); (try clear hi); (try clear ho0)))
      go_loopg [6] kj1 (fun kq v6 w' => ∃ (x5_2 : List Int) (x6_2 : List Int) (x291001_2 : List Int) (u291001 : Value), Aside0 (spec_BuildTournament.l0 kq l0 x5_2 x6_2 (l0.length : Int) x291001_2 = some (r1, r2, r3)) ∧ Aside0 (kq ≤ kj1) ∧ Aside0 (Kd.R (Kd.int .i64) 3 w' w.heap.size (fun k_ => some k_ ≠ (v6 : Value).ownBlock ∧ some k_ ≠ (u291001 : Value).ownBlock) v292 x5_2) ∧ Aside0 (Kd.R (Kd.int .i64) 3 w' w.heap.size (fun k_ => some k_ ≠ (v292 : Value).ownBlock ∧ some k_ ≠ (u291001 : Value).ownBlock) v6 x6_2) ∧ Aside0 (Kd.R (Kd.int .i64) 3 w' w.heap.size (fun k_ => some k_ ≠ (v292 : Value).ownBlock ∧ some k_ ≠ (v6 : Value).ownBlock) u291001 x291001_2) ∧ Aside0 (w'.heap[gb284]? = some (.cells #[.int .i64 0, (.slice none 0 0)] 27 (0, 0))) ∧ Aside0 (w'.heap[gb290]? = some (.cells #[.int .i64 (l0.length : Int), u291001] 27 (0, 0))) ∧ Aside0 (Below w.heap.size w w'))
      case atStart => exact ⟨(t291), (([] : List Int)), (y287), (.slice Ao15 y287.length co15), H', ⟨Nat.le_refl _⟩, ⟨by (with_reducible repeat (first | apply Ra | apply Rn | apply Rd)); exact Kd.R_mono HO293.out (fun _ hk => ⟨(by simp [Value.ownBlock]), hk.2⟩)⟩, ⟨by first | exact Kd.R_nil _ _ _ _ _ | exact Kd.N_nil _ _ _ _ _ | exact Kd.V_nil _ _ _ _ _ | exact Kd.Q_nil _ _ _ _ _ | exact Kd.S_nil _ _ _ _ _⟩, ⟨by (with_reducible repeat (first | apply Ra | apply Rn | apply Rd)); exact Kd.R_mono HO289.out (fun _ hk => ⟨hk.2, (by simp [Value.ownBlock])⟩)⟩, ⟨by (with_reducible repeat (first | refine Kn ?_ _ | refine Ke ?_ | refine Ka ?_ _)); exact BK284.out⟩, ⟨by (with_reducible repeat (first | refine Kn ?_ _ | refine Ke ?_ | refine Ka ?_ _)); exact BK290.out⟩, ⟨by repeat (first | (with_reducible first | exact HB.out | apply Ba | apply Bn | apply Bd | refine Bs ?_ GE284.out | refine Bs ?_ GE290.out) | exact HB.out)⟩⟩
      case round =>
       clear H'
       (try clear c1); (try clear p2); (try clear c3); (try clear c5); (try clear c8); (try clear c10); (try clear c10b0); (try clear c10b1); (try clear c11); (try clear c11b0); (try clear c11b1); (try clear c17); (try clear hcz18_0); (try clear hcz18_1); (try clear hcz9_0); (try clear hcz9_1); (try clear hfz18_0); (try clear hfz18_1); (try clear hfz9_0); (try clear hfz9_1); (try clear p2)
       obtain ⟨x5_2, x6_2, x291001_2, u291001, HA, HK2, HO_5, HO_6, HO_291001, BK284, BK290, HB⟩ := hrel
       cases gk with
       | zero => exact absurd HA.out (by simp [spec_BuildTournament.l0])
       | succ k2 =>
        have H := HA.out
        clear HA
        simp only [spec_BuildTournament.l0] at H
        by_cases c20 : (x6_2.length : Int) < (l0.length : Int)
        ·
         rw [if_pos c20] at H
         have c20b0 : decide ((x6_2.length : Int) < (l0.length : Int)) = true := De c20
         have c20b1 : decide (x6_2.length < l0.length) = true := De (Int.ofNat_lt.mp c20)
         clear c20
         replace H := Option.bind_eq_some_iff.mp H
         obtain ⟨t294, A210, H⟩ := H
         replace H : (if x6_2.length < 17592186044416 then ((some (x6_2 ++ [t294] : List Int)).bind fun y295 => ((spec_l1Own.f y295).bind fun t298 => (if 0 ≤ t294 then (if t294 < (x5_2.length : Int) then (spec_BuildTournament.l1 k2 l0 x5_2 y295 t294 t298 (rd x5_2 t294) (l0.length : Int) x291001_2) else (none)) else (none)))) else (none)) = some (r1, r2, r3) := H
         have A21 := Am A210
         clear A210
         by_cases c22 : x6_2.length < 17592186044416
         ·
          rw [if_pos c22] at H
          have LMc22 := Am c22
          clear c22
          obtain ⟨y295, hy295⟩ : ∃ y_ : List Int, y_ = (x6_2 ++ [t294]) := ⟨_, rfl⟩
          replace H : ((spec_l1Own.f y295).bind fun t298 => (if 0 ≤ t294 then (if t294 < (x5_2.length : Int) then (spec_BuildTournament.l1 k2 l0 x5_2 y295 t294 t298 (rd x5_2 t294) (l0.length : Int) x291001_2) else (none)) else (none))) = some (r1, r2, r3) := by first | (rw [hy295]; with_reducible exact H) | (have H2_ := (Option.bind_some _ _).symm.trans H; rw [hy295]; with_reducible exact H2_) | (have H2_ := (Option.bind_some _ _).symm.trans H; with_reducible exact H2_) | with_reducible exact H | (rw [hy295]; exact H) | exact H
          have Ny295 := Am hy295
          clear hy295
          replace H := Option.bind_eq_some_iff.mp H
          obtain ⟨t298, A230, H⟩ := H
          replace H : (if 0 ≤ t294 then (if t294 < (x5_2.length : Int) then (spec_BuildTournament.l1 k2 l0 x5_2 y295 t294 t298 (rd x5_2 t294) (l0.length : Int) x291001_2) else (none)) else (none)) = some (r1, r2, r3) := H
          have A23 := Am A230
          clear A230
          by_cases c24 : 0 ≤ t294
          ·
           rw [if_pos c24] at H
           have c24b0 : decide (0 ≤ t294) = true := De c24
           clear c24
           by_cases c25 : t294 < (x5_2.length : Int)
           ·
            rw [if_pos c25] at H
            have c25b0 : decide (t294 < (x5_2.length : Int)) = true := De c25
            clear c25
            have H' := Am H
            clear H
            obtain ⟨Ao26, co26, eo26⟩ := Kd.R_slice HO_6.out
            subst eo26
            obtain ⟨Ao27, co27, eo27⟩ := Kd.R_slice HO_5.out
            subst eo27
            go_wp2_with (first | ((with_reducible refine gate_callee (f := 40) rfl ?_); refine goesL_ (some 36) rfl rfl Try.func40 (by kernel_rfl) rfl #[.slice Ao27 x5_2.length co27, .slice Ao26 x6_2.length co26, .bool true] rfl (by (try simp only [List.map_toArray, List.map_cons, List.map_nil]); first | done | rfl) ?_; (with_reducible refine (spec_scNext.calls k2 _ _ x5_2 _ _ x6_2 true t294 _ ?side1 ?side2 ?side3 ?side4 A21.out).mono ?_); (case side1 => repeat (first | exact (Kd.R_reads' HO_5.out).2.2 | (with_reducible refine Ca ?_ _) | (with_reducible refine Cn ?_ _) | (with_reducible refine Cd ?_))); (case side2 => exact (Kd.R_reads' HO_5.out).2.1); (case side3 => repeat (first | exact (Kd.R_reads' HO_6.out).2.2 | (with_reducible refine Ca ?_ _) | (with_reducible refine Cn ?_ _) | (with_reducible refine Cd ?_))); (case side4 => exact (Kd.R_reads' HO_6.out).2.1); rintro e w' ⟨rfl, ⟨nd, rfl⟩⟩; refine ⟨_, rfl, ?_⟩) | ((with_reducible refine gate_builtin (b := .append) (xs := #[.tmp 37, .tmp 39]) rfl ?_); at_builtin; refine Kd.R_append (Kd.int .i64) (w0 := w) w.heap.size rfl (.tmp 37) (.tmp 39) 24 3 (.int .i64 0) 8 rfl Try.underlying24 info3 rfl (by decide) (by omega) (.slice Ao26 x6_2.length co26) x6_2 t294 [.int .i64 t294] (fun k_ => some k_ ≠ (.slice Ao27 x5_2.length co27 : Value).ownBlock ∧ some k_ ≠ (u291001 : Value).ownBlock) (fun _ => False) rfl rfl ?aP (fun _ hk => hk.elim) ?aF ?aO ?aB ?aS ?aL ?_; (case aP => exact rfl); (case aB => exact (by repeat (first | (with_reducible first | exact HB.out | apply Ba | apply Bn | apply Bd | refine Bs ?_ GE284.out | refine Bs ?_ GE290.out) | exact HB.out))); (case aF => exact (fun k_ hk => ⟨Kd.fresh' (Kd.R_lt (by (with_reducible repeat (first | apply Ra | apply Rn | apply Rd)); exact HO_5.out)) k_ hk, Kd.fresh' (Kd.R_lt (by (with_reducible repeat (first | apply Ra | apply Rn | apply Rd)); exact HO_291001.out)) k_ hk⟩)); (case aO => exact (by (with_reducible repeat (first | apply Ra | apply Rn | apply Rd)); first | exact HO_6.out | exact Kd.R_mono HO_6.out (fun _ hk => by first | exact hk | ((repeat' apply And.intro) <;> first | exact hk | exact hk.1 | exact hk.2 | exact hk.1.1 | exact hk.1.2 | exact hk.2.1 | exact hk.2.2 | exact hk.1.1.1 | exact hk.1.1.2 | exact hk.1.2.1 | exact hk.1.2.2)))); (case aS => exact (below_size (by repeat (first | (with_reducible first | exact HB.out | apply Ba | apply Bn | apply Bd | refine Bs ?_ GE284.out | refine Bs ?_ GE290.out) | exact HB.out)))); (case aL => have := LMc22.out; omega); intro v296 w28 ho hb hg hat; rw [← Ny295.out] at ho; have n0_ := Am (Kd.R_after (ok := (fun k_ => some k_ ≠ (u291001 : Value).ownBlock)) (by (with_reducible repeat (first | apply Ra | apply Rn | apply Rd)); exact Kd.R_mono HO_5.out (fun _ hk => by first | exact ⟨hk.2, hk.1⟩ | ((repeat' apply And.intro) <;> first | exact hk | exact hk.1 | exact hk.2 | exact hk.1.1 | exact hk.1.2 | exact hk.2.1 | exact hk.2.2 | exact hk.1.1.1 | exact hk.1.1.2 | exact hk.1.2.1 | exact hk.1.2.2))) hg hat); have n1_ := Am (Kd.R_after (ok := (fun k_ => some k_ ≠ (.slice Ao27 x5_2.length co27 : Value).ownBlock)) (by (with_reducible repeat (first | apply Ra | apply Rn | apply Rd)); first | exact HO_291001.out | exact Kd.R_mono HO_291001.out (fun _ hk => by first | exact hk | ((repeat' apply And.intro) <;> first | exact hk | exact hk.1 | exact hk.2 | exact hk.1.1 | exact hk.1.2 | exact hk.2.1 | exact hk.2.2 | exact hk.1.1.1 | exact hk.1.1.2 | exact hk.1.2.1 | exact hk.1.2.2))) hg hat); have n2_ := Am (blk_grown (g := gb284) (o := .cells #[.int .i64 0, .slice none 0 0] 27 (0, 0)) (by (with_reducible repeat (first | refine Kn ?_ _ | refine Ke ?_ | refine Ka ?_ _)); exact BK284.out) hg (Kd.R_ne HO_6.out BK284.out (by decide))); have n3_ := Am (blk_grown (g := gb290) (o := .cells #[.int .i64 (l0.length : Int), u291001] 27 (0, 0)) (by (with_reducible repeat (first | refine Kn ?_ _ | refine Ke ?_ | refine Ka ?_ _)); exact BK290.out) hg (Kd.R_ne HO_6.out BK290.out (by decide))); have n4_ := Am (hb); have n5_ := Am (ho); clear HO_5; clear HO_291001; clear BK284; clear BK290; clear HB; clear HO_6; have HO_5 := n0_; have HO_291001 := n1_; have BK284 := n2_; have BK290 := n3_; have HB := n4_; have HO297 := n5_; clear n0_ n1_ n2_ n3_ n4_ n5_; clear ho hb hg hat; obtain ⟨Ao29, co29, eo29⟩ := Kd.R_slice HO297.out; subst eo29) | ((with_reducible refine gate_callee (f := 39) rfl ?_); refine goesL_ (some 42) rfl rfl Try.func39 (by kernel_rfl) rfl #[.slice Ao29 y295.length co29] rfl (by (try simp only [List.map_toArray, List.map_cons, List.map_nil]); first | done | rfl) ?_; (with_reducible refine (spec_l1Own.calls _ _ y295 t298 _ ?side1 ?side2 A23.out).mono ?_); (case side1 => repeat (first | exact (Kd.R_reads' HO297.out).2.2 | (with_reducible refine Ca ?_ _) | (with_reducible refine Cn ?_ _) | (with_reducible refine Cd ?_))); (case side2 => exact (Kd.R_reads' HO297.out).2.1); rintro e w30 ⟨v299, rfl, ho0, hb⟩; refine ⟨_, rfl, ?_⟩; have n0_ := Am (Kd.R_elder' (by (with_reducible repeat (first | apply Ra | apply Rn | apply Rd)); exact HO_5.out) (Kd.R_base ho0) hb); have n1_ := Am (Kd.R_elder' (by (with_reducible repeat (first | apply Ra | apply Rn | apply Rd)); exact HO_291001.out) (Kd.R_base ho0) hb); have n2_ := Am (Kd.R_elder' (by (with_reducible repeat (first | apply Ra | apply Rn | apply Rd)); exact HO297.out) (Kd.R_base ho0) hb); have n3_ := Am (Kd.R_lower (Kd.R_new' (Kd.R_new' (Kd.R_new' ho0 (Kd.R_lt (by (with_reducible repeat (first | apply Ra | apply Rn | apply Rd)); exact HO_5.out))) (Kd.R_lt (by (with_reducible repeat (first | apply Ra | apply Rn | apply Rd)); exact HO_291001.out))) (Kd.R_lt (by (with_reducible repeat (first | apply Ra | apply Rn | apply Rd)); exact HO297.out))) (below_size (by repeat (first | (with_reducible first | exact HB.out | apply Ba | apply Bn | apply Bd | refine Bs ?_ GE284.out | refine Bs ?_ GE290.out) | exact HB.out)))); have n4_ := Am (blk_below (g := gb284) (o := .cells #[.int .i64 0, .slice none 0 0] 27 (0, 0)) (by (with_reducible repeat (first | refine Kn ?_ _ | refine Ke ?_ | refine Ka ?_ _)); exact BK284.out) hb); have n5_ := Am (blk_below (g := gb290) (o := .cells #[.int .i64 (l0.length : Int), u291001] 27 (0, 0)) (by (with_reducible repeat (first | refine Kn ?_ _ | refine Ke ?_ | refine Ka ?_ _)); exact BK290.out) hb); have n6_ := Am (below_step (by repeat (first | (with_reducible first | exact HB.out | apply Ba | apply Bn | apply Bd | refine Bs ?_ GE284.out | refine Bs ?_ GE290.out) | exact HB.out)) hb); clear HO_5; clear HO_291001; clear HO297; clear BK284; clear BK290; clear HB; have HO_5 := n0_; have HO_291001 := n1_; have HO297 := n2_; have HO300 := n3_; have BK284 := n4_; have BK290 := n5_; have HB := n6_; clear n0_ n1_ n2_ n3_ n4_ n5_ n6_; (try clear hb); (try clear hb2); (try clear hk); (try clear hi); (try clear ho0); have p301 : 0 ≤ (t294 : Int) := Oe (by first | (with_reducible assumption) | assumption); have q301 : t294 < (x5_2.length : Int) := Oe (by first | (with_reducible assumption) | assumption); obtain ⟨ad301, e301, hx301_0⟩ := Kd.at_int (Kd.R_reads' HO_5.out).2.2 t294 p301 q301; cases e301; replace p301 := eq_true p301; replace q301 := eq_true q301))
            go_loopg [8, 9] k2 (fun kq v8 v9 w' => ∃ (x5_3 : List Int) (x6_3 : List Int) (x8_3 : List Int) (x9_3 : Int) (x291001_3 : List Int) (u291001 : Value), v9 = .int .i64 x9_3 ∧ Aside0 (spec_BuildTournament.l1 kq l0 x5_3 x6_3 t294 x8_3 x9_3 (l0.length : Int) x291001_3 = some (r1, r2, r3)) ∧ Aside0 (kq ≤ k2) ∧ Aside0 (Kd.R (Kd.int .i64) 3 w' w.heap.size (fun k_ => some k_ ≠ ((.slice Ao29 y295.length co29) : Value).ownBlock ∧ some k_ ≠ (v8 : Value).ownBlock ∧ some k_ ≠ (u291001 : Value).ownBlock) (.slice (some ad301) x5_2.length co27) x5_3) ∧ Aside0 (Kd.R (Kd.int .i64) 3 w' w.heap.size (fun k_ => some k_ ≠ ((.slice (some ad301) x5_2.length co27) : Value).ownBlock ∧ some k_ ≠ (v8 : Value).ownBlock ∧ some k_ ≠ (u291001 : Value).ownBlock) (.slice Ao29 y295.length co29) x6_3) ∧ Aside0 (Kd.R (Kd.int .i64) 3 w' w.heap.size (fun k_ => some k_ ≠ ((.slice (some ad301) x5_2.length co27) : Value).ownBlock ∧ some k_ ≠ ((.slice Ao29 y295.length co29) : Value).ownBlock ∧ some k_ ≠ (u291001 : Value).ownBlock) v8 x8_3) ∧ Aside0 (Kd.R (Kd.int .i64) 3 w' w.heap.size (fun k_ => some k_ ≠ ((.slice (some ad301) x5_2.length co27) : Value).ownBlock ∧ some k_ ≠ ((.slice Ao29 y295.length co29) : Value).ownBlock ∧ some k_ ≠ (v8 : Value).ownBlock) u291001 x291001_3) ∧ Aside0 (w'.heap[gb284]? = some (.cells #[.int .i64 0, (.slice none 0 0)] 27 (0, 0))) ∧ Aside0 (w'.heap[gb290]? = some (.cells #[.int .i64 (l0.length : Int), u291001] 27 (0, 0))) ∧ Aside0 (Below w.heap.size w w'))
            case atStart => exact ⟨(x5_2), (y295), (t298), (rd x5_2 t294), (x291001_2), (u291001), (by first | rfl | (simp; done) | (simp [*]; done)), H', ⟨Nat.le_refl _⟩, ⟨by (with_reducible repeat (first | apply Ra | apply Rn | apply Rd)); exact Kd.R_mono HO_5.out (fun _ hk => by first | exact ⟨hk.1.2, ⟨hk.2, hk.1.1⟩⟩ | ((repeat' apply And.intro) <;> first | exact hk | exact hk.1 | exact hk.2 | exact hk.1.1 | exact hk.1.2 | exact hk.2.1 | exact hk.2.2 | exact hk.1.1.1 | exact hk.1.1.2 | exact hk.1.2.1 | exact hk.1.2.2))⟩, ⟨by (with_reducible repeat (first | apply Ra | apply Rn | apply Rd)); exact Kd.R_mono HO297.out (fun _ hk => by first | exact ⟨hk.1.1, ⟨hk.2, hk.1.2⟩⟩ | ((repeat' apply And.intro) <;> first | exact hk | exact hk.1 | exact hk.2 | exact hk.1.1 | exact hk.1.2 | exact hk.2.1 | exact hk.2.2 | exact hk.1.1.1 | exact hk.1.1.2 | exact hk.1.2.1 | exact hk.1.2.2))⟩, ⟨by (with_reducible repeat (first | apply Ra | apply Rn | apply Rd)); exact Kd.R_mono HO300.out (fun _ hk => by first | exact ⟨hk.1.1.2, ⟨hk.2, hk.1.2⟩⟩ | ((repeat' apply And.intro) <;> first | exact hk | exact hk.1 | exact hk.2 | exact hk.1.1 | exact hk.1.2 | exact hk.2.1 | exact hk.2.2 | exact hk.1.1.1 | exact hk.1.1.2 | exact hk.1.2.1 | exact hk.1.2.2))⟩, ⟨by (with_reducible repeat (first | apply Ra | apply Rn | apply Rd)); exact Kd.R_mono HO_291001.out (fun _ hk => by first | exact ⟨hk.1.1, ⟨hk.1.2, hk.2⟩⟩ | ((repeat' apply And.intro) <;> first | exact hk | exact hk.1 | exact hk.2 | exact hk.1.1 | exact hk.1.2 | exact hk.2.1 | exact hk.2.2 | exact hk.1.1.1 | exact hk.1.1.2 | exact hk.1.2.1 | exact hk.1.2.2))⟩, ⟨by (with_reducible repeat (first | refine Kn ?_ _ | refine Ke ?_ | refine Ka ?_ _)); exact BK284.out⟩, ⟨by (with_reducible repeat (first | refine Kn ?_ _ | refine Ke ?_ | refine Ka ?_ _)); exact BK290.out⟩, ⟨by repeat (first | (with_reducible first | exact HB.out | apply Ba | apply Bn | apply Bd | refine Bs ?_ GE284.out | refine Bs ?_ GE290.out) | exact HB.out)⟩⟩
            case round =>
             clear H'
             (try clear c1); (try clear c2); (try clear p2); (try clear c3); (try clear p3); (try clear q3); (try clear hx3); (try clear c4); (try clear c5); (try clear c8); (try clear c10); (try clear c10b0); (try clear c10b1); (try clear c11); (try clear c11b0); (try clear c11b1); (try clear c17); (try clear c20); (try clear c20b0); (try clear c20b1); (try clear c22); (try clear c24); (try clear c24b0); (try clear c25); (try clear c25b0); (try clear p30); (try clear q30); (try clear hx30); (try clear hcz18_0); (try clear hcz18_1); (try clear hcz9_0); (try clear hcz9_1); (try clear hfz18_0); (try clear hfz18_1); (try clear hfz9_0); (try clear hfz9_1); (try clear hx301_0); (try clear p2); (try clear p301); (try clear q301)
             obtain ⟨x5_3, x6_3, x8_3, x9_3, x291001_3, u291001, rfl, HA, HK3, HO_5, HO_6, HO_8, HO_291001, BK284, BK290, HB⟩ := hrel
             have hl5_3 := (Kd.R_reads' HO_5.out).1
             rw [hl5_3] at HO_5
             (try simp only [hl5_3])
             (try simp only [hl5_3] at BK284)
             (try simp only [hl5_3] at BK290)
             (try simp only [hl5_3] at HO_6)
             (try simp only [hl5_3] at HO_8)
             (try simp only [hl5_3] at HO_291001)
             have hl6_3 := (Kd.R_reads' HO_6.out).1
             rw [hl6_3] at HO_6
             (try simp only [hl6_3])
             (try simp only [hl6_3] at BK284)
             (try simp only [hl6_3] at BK290)
             (try simp only [hl6_3] at HO_5)
             (try simp only [hl6_3] at HO_8)
             (try simp only [hl6_3] at HO_291001)
             cases gk with
             | zero => exact absurd HA.out (by simp [spec_BuildTournament.l1])
             | succ k3 =>
              have H := HA.out
              clear HA
              simp only [spec_BuildTournament.l1] at H
              by_cases c31 : x9_3 > 0
              ·
               rw [if_pos c31] at H
               have c31b0 : decide (0 < x9_3) = true := De c31
               (try (have c31b1 := c31b0; simp only [hl5_3, hl6_3] at c31b1))
               clear c31
               replace H := Option.bind_eq_some_iff.mp H
               obtain ⟨t302, A320, H⟩ := H
               replace H : (if x8_3.length < 17592186044416 then (if 0 ≤ t294 then (if t294 < (x291001_3.length : Int) then (if 0 ≤ t302 then (spec_BuildTournament.l1 k3 l0 x5_3 x6_3 t294 (x8_3 ++ [t302]) (wrap64 (x9_3 - 1)) (l0.length : Int) (x291001_3.set (t294 : Int).toNat (Go.bits .or .i64 (rd x291001_3 t294) (shl .i64 1 t302)))) else (none)) else (none)) else (none)) else (none)) = some (r1, r2, r3) := H
               have A32 := Am A320
               clear A320
               by_cases c33 : x8_3.length < 17592186044416
               ·
                rw [if_pos c33] at H
                have LMc33 := Am c33
                clear c33
                obtain ⟨y303, hy303⟩ : ∃ y_ : List Int, y_ = (x8_3 ++ [t302]) := ⟨_, rfl⟩
                replace H : (if 0 ≤ t294 then (if t294 < (x291001_3.length : Int) then (if 0 ≤ t302 then (spec_BuildTournament.l1 k3 l0 x5_3 x6_3 t294 y303 (wrap64 (x9_3 - 1)) (l0.length : Int) (x291001_3.set (t294 : Int).toNat (Go.bits .or .i64 (rd x291001_3 t294) (shl .i64 1 t302)))) else (none)) else (none)) else (none)) = some (r1, r2, r3) := by first | (rw [hy303]; with_reducible exact H) | (have H2_ := (Option.bind_some _ _).symm.trans H; rw [hy303]; with_reducible exact H2_) | (have H2_ := (Option.bind_some _ _).symm.trans H; with_reducible exact H2_) | with_reducible exact H | (rw [hy303]; exact H) | exact H
                have Ny303 := Am hy303
                clear hy303
                by_cases c34 : 0 ≤ t294
                ·
                 rw [if_pos c34] at H
                 have c34b0 : decide (0 ≤ t294) = true := De c34
                 (try (have c34b1 := c34b0; simp only [hl5_3, hl6_3] at c34b1))
                 clear c34
                 by_cases c35 : t294 < (x291001_3.length : Int)
                 ·
                  rw [if_pos c35] at H
                  have c35b0 : decide (t294 < (x291001_3.length : Int)) = true := De c35
                  (try (have c35b1 := c35b0; simp only [hl5_3, hl6_3] at c35b1))
                  clear c35
                  by_cases c36 : 0 ≤ t302
                  ·
                   rw [if_pos c36] at H
                   have c36b0 := eq_true c36
                   have c36b1 : decide (0 ≤ t302) = true := De c36
                   clear c36
                   obtain ⟨ji37, hji37⟩ : ∃ j_ : Int, (shl .i64 1 t302) = j_ := ⟨_, rfl⟩
                   replace H : (spec_BuildTournament.l1 k3 l0 x5_3 x6_3 t294 y303 (wrap64 (x9_3 - 1)) (l0.length : Int) (x291001_3.set (t294 : Int).toNat (Go.bits .or .i64 (rd x291001_3 t294) (ji37)))) = some (r1, r2, r3) := by first | (rw [hji37] at H; exact H) | (simp only [hji37] at H ⊢; exact H)
                   (try rw [hji37] at A32)
                   have hji37_ : (IntKind.i64.wrap (1 * 2 ^ min t302.toNat 64)) = ji37 := hji37
                   have hji37z : t302 ≤ 64 → (IntKind.i64.wrap (1 * 2 ^ t302.toNat)) = ji37 := shl_small hji37
                   have hji37u : (IntKind.i64.wrap (2 ^ min t302.toNat 64)) = ji37 := by have h_ := hji37_; rw [Int.one_mul] at h_; exact h_
                   have hji37v : t302 ≤ 64 → (IntKind.i64.wrap (2 ^ t302.toNat)) = ji37 := fun hle_ => by have h_ := hji37z hle_; rw [Int.one_mul] at h_; exact h_
                   have hji37y : (wrap64 (1 * 2 ^ min t302.toNat 64)) = ji37 := (i64_w _).symm.trans hji37_
                   have hji37x : t302 ≤ 64 → (wrap64 (1 * 2 ^ t302.toNat)) = ji37 := fun h_ => (i64_w _).symm.trans (hji37z h_)
                   obtain ⟨y307, hy307⟩ : ∃ y_ : List Int, y_ = (x291001_3.set (t294 : Int).toNat (Go.bits .or .i64 (rd x291001_3 t294) (ji37))) := ⟨_, rfl⟩
                   replace H : (spec_BuildTournament.l1 k3 l0 x5_3 x6_3 t294 y303 (wrap64 (x9_3 - 1)) (l0.length : Int) y307) = some (r1, r2, r3) := by first | (rw [hy307]; with_reducible exact H) | (have H2_ := (Option.bind_some _ _).symm.trans H; rw [hy307]; with_reducible exact H2_) | (have H2_ := (Option.bind_some _ _).symm.trans H; with_reducible exact H2_) | with_reducible exact H | (rw [hy307]; exact H) | exact H
                   have Ny307 := Am hy307
                   clear hy307
                   have H' := Am H
                   clear H
                   obtain ⟨Ao39, co39, eo39⟩ := Kd.R_slice HO_8.out
                   subst eo39
                   try go_wp2_with (first | ((with_reducible refine gate_callee (f := 40) rfl ?_); refine goesL_ (some 53) rfl rfl Try.func40 (by kernel_rfl) rfl #[.slice (some ad301) x5_3.length co27, .slice Ao39 x8_3.length co39, .bool false] rfl (by (try simp only [List.map_toArray, List.map_cons, List.map_nil]); first | done | rfl) ?_; (with_reducible refine (spec_scNext.calls k3 _ _ x5_3 _ _ x8_3 false t302 _ ?side1 ?side2 ?side3 ?side4 A32.out).mono ?_); (case side1 => repeat (first | exact (Kd.R_reads' HO_5.out).2.2 | (with_reducible refine Ca ?_ _) | (with_reducible refine Cn ?_ _) | (with_reducible refine Cd ?_))); (case side2 => exact (Kd.R_reads' HO_5.out).2.1); (case side3 => repeat (first | exact (Kd.R_reads' HO_8.out).2.2 | (with_reducible refine Ca ?_ _) | (with_reducible refine Cn ?_ _) | (with_reducible refine Cd ?_))); (case side4 => exact (Kd.R_reads' HO_8.out).2.1); rintro e w' ⟨rfl, ⟨nd, rfl⟩⟩; refine ⟨_, rfl, ?_⟩; (try (rw [drewN_self wr]; generalize hq_ : World.drewN wr _ = wr; have n0_ : Aside0 (Kd.R (Kd.int .i64) 3 wr w.heap.size (fun k_ => some k_ ≠ (.slice (some ad301) x5_3.length co27 : Value).ownBlock ∧ some k_ ≠ (.slice Ao29 x6_3.length co29 : Value).ownBlock ∧ some k_ ≠ (.slice Ao39 x8_3.length co39 : Value).ownBlock) u291001 x291001_3) := ⟨by rw [← hq_]; exact (by (with_reducible repeat (first | apply Ra | apply Rn | apply Rd)); exact HO_291001.out)⟩; have n1_ : Aside0 (Kd.R (Kd.int .i64) 3 wr w.heap.size (fun k_ => some k_ ≠ (u291001 : Value).ownBlock ∧ some k_ ≠ (.slice Ao29 x6_3.length co29 : Value).ownBlock ∧ some k_ ≠ (.slice Ao39 x8_3.length co39 : Value).ownBlock) (.slice (some ad301) x5_3.length co27) x5_3) := ⟨by rw [← hq_]; exact (by (with_reducible repeat (first | apply Ra | apply Rn | apply Rd)); exact Kd.R_mono HO_5.out (fun _ hk => by first | exact ⟨hk.2.2, ⟨hk.1, hk.2.1⟩⟩ | ((repeat' apply And.intro) <;> first | exact hk | exact hk.1 | exact hk.2 | exact hk.1.1 | exact hk.1.2 | exact hk.2.1 | exact hk.2.2 | exact hk.1.1.1 | exact hk.1.1.2 | exact hk.1.2.1 | exact hk.1.2.2)))⟩; have n2_ : Aside0 (Kd.R (Kd.int .i64) 3 wr w.heap.size (fun k_ => some k_ ≠ (u291001 : Value).ownBlock ∧ some k_ ≠ (.slice (some ad301) x5_3.length co27 : Value).ownBlock ∧ some k_ ≠ (.slice Ao39 x8_3.length co39 : Value).ownBlock) (.slice Ao29 x6_3.length co29) x6_3) := ⟨by rw [← hq_]; exact (by (with_reducible repeat (first | apply Ra | apply Rn | apply Rd)); exact Kd.R_mono HO_6.out (fun _ hk => by first | exact ⟨hk.2.2, ⟨hk.1, hk.2.1⟩⟩ | ((repeat' apply And.intro) <;> first | exact hk | exact hk.1 | exact hk.2 | exact hk.1.1 | exact hk.1.2 | exact hk.2.1 | exact hk.2.2 | exact hk.1.1.1 | exact hk.1.1.2 | exact hk.1.2.1 | exact hk.1.2.2)))⟩; have n3_ : Aside0 (Kd.R (Kd.int .i64) 3 wr w.heap.size (fun k_ => some k_ ≠ (u291001 : Value).ownBlock ∧ some k_ ≠ (.slice (some ad301) x5_3.length co27 : Value).ownBlock ∧ some k_ ≠ (.slice Ao29 x6_3.length co29 : Value).ownBlock) (.slice Ao39 x8_3.length co39) x8_3) := ⟨by rw [← hq_]; exact (by (with_reducible repeat (first | apply Ra | apply Rn | apply Rd)); exact Kd.R_mono HO_8.out (fun _ hk => by first | exact ⟨hk.2.2, ⟨hk.1, hk.2.1⟩⟩ | ((repeat' apply And.intro) <;> first | exact hk | exact hk.1 | exact hk.2 | exact hk.1.1 | exact hk.1.2 | exact hk.2.1 | exact hk.2.2 | exact hk.1.1.1 | exact hk.1.1.2 | exact hk.1.2.1 | exact hk.1.2.2)))⟩; have n4_ : Aside0 (wr.heap[gb284]? = some (.cells #[.int .i64 0, .slice none 0 0] 27 (0, 0))) := ⟨by rw [← hq_]; exact (by (with_reducible repeat (first | refine Kn ?_ _ | refine Ke ?_ | refine Ka ?_ _)); exact BK284.out)⟩; have n5_ : Aside0 (wr.heap[gb290]? = some (.cells #[.int .i64 (l0.length : Int), u291001] 27 (0, 0))) := ⟨by rw [← hq_]; exact (by (with_reducible repeat (first | refine Kn ?_ _ | refine Ke ?_ | refine Ka ?_ _)); exact BK290.out)⟩; have n6_ : Aside0 (Below w.heap.size w wr) := ⟨by rw [← hq_]; exact (by repeat (first | (with_reducible first | exact HB.out | apply Ba | apply Bn | apply Bd | refine Bs ?_ GE284.out | refine Bs ?_ GE290.out) | exact HB.out))⟩; clear HO_291001 HO_5 HO_6 HO_8 BK284 BK290 HB hq_; have HO_291001 := n0_; have HO_5 := n1_; have HO_6 := n2_; have HO_8 := n3_; have BK284 := n4_; have BK290 := n5_; have HB := n6_; clear n0_ n1_ n2_ n3_ n4_ n5_ n6_))) | ((with_reducible refine gate_builtin (b := .append) (xs := #[.tmp 54, .tmp 56]) rfl ?_); at_builtin; refine Kd.R_append (Kd.int .i64) (w0 := w) w.heap.size rfl (.tmp 54) (.tmp 56) 24 3 (.int .i64 0) 8 rfl Try.underlying24 info3 rfl (by decide) (by omega) (.slice Ao39 x8_3.length co39) x8_3 t302 [.int .i64 t302] (fun k_ => some k_ ≠ (.slice (some ad301) x5_3.length co27 : Value).ownBlock ∧ some k_ ≠ (.slice Ao29 x6_3.length co29 : Value).ownBlock ∧ some k_ ≠ (u291001 : Value).ownBlock) (fun _ => False) rfl rfl ?aP (fun _ hk => hk.elim) ?aF ?aO ?aB ?aS ?aL ?_; (case aP => exact rfl); (case aB => exact (by repeat (first | (with_reducible first | exact HB.out | apply Ba | apply Bn | apply Bd | refine Bs ?_ GE284.out | refine Bs ?_ GE290.out) | exact HB.out))); (case aF => exact (fun k_ hk => ⟨Kd.fresh' (Kd.R_lt (by (with_reducible repeat (first | apply Ra | apply Rn | apply Rd)); exact HO_5.out)) k_ hk, Kd.fresh' (Kd.R_lt (by (with_reducible repeat (first | apply Ra | apply Rn | apply Rd)); exact HO_6.out)) k_ hk, Kd.fresh' (Kd.R_lt (by (with_reducible repeat (first | apply Ra | apply Rn | apply Rd)); exact HO_291001.out)) k_ hk⟩)); (case aO => exact (by (with_reducible repeat (first | apply Ra | apply Rn | apply Rd)); first | exact HO_8.out | exact Kd.R_mono HO_8.out (fun _ hk => by first | exact hk | ((repeat' apply And.intro) <;> first | exact hk | exact hk.1 | exact hk.2 | exact hk.1.1 | exact hk.1.2 | exact hk.2.1 | exact hk.2.2 | exact hk.1.1.1 | exact hk.1.1.2 | exact hk.1.2.1 | exact hk.1.2.2)))); (case aS => exact (below_size (by repeat (first | (with_reducible first | exact HB.out | apply Ba | apply Bn | apply Bd | refine Bs ?_ GE284.out | refine Bs ?_ GE290.out) | exact HB.out)))); (case aL => have := LMc33.out; omega); intro v304 w40 ho hb hg hat; rw [← Ny303.out] at ho; have n0_ := Am (Kd.R_after (ok := (fun k_ => some k_ ≠ (.slice Ao29 x6_3.length co29 : Value).ownBlock ∧ some k_ ≠ (u291001 : Value).ownBlock)) (by (with_reducible repeat (first | apply Ra | apply Rn | apply Rd)); exact Kd.R_mono HO_5.out (fun _ hk => by first | exact ⟨⟨hk.1, hk.2.2⟩, hk.2.1⟩ | ((repeat' apply And.intro) <;> first | exact hk | exact hk.1 | exact hk.2 | exact hk.1.1 | exact hk.1.2 | exact hk.2.1 | exact hk.2.2 | exact hk.1.1.1 | exact hk.1.1.2 | exact hk.1.2.1 | exact hk.1.2.2))) hg hat); have n1_ := Am (Kd.R_after (ok := (fun k_ => some k_ ≠ (.slice (some ad301) x5_3.length co27 : Value).ownBlock ∧ some k_ ≠ (u291001 : Value).ownBlock)) (by (with_reducible repeat (first | apply Ra | apply Rn | apply Rd)); exact Kd.R_mono HO_6.out (fun _ hk => by first | exact ⟨⟨hk.1, hk.2.2⟩, hk.2.1⟩ | ((repeat' apply And.intro) <;> first | exact hk | exact hk.1 | exact hk.2 | exact hk.1.1 | exact hk.1.2 | exact hk.2.1 | exact hk.2.2 | exact hk.1.1.1 | exact hk.1.1.2 | exact hk.1.2.1 | exact hk.1.2.2))) hg hat); have n2_ := Am (Kd.R_after (ok := (fun k_ => some k_ ≠ (.slice (some ad301) x5_3.length co27 : Value).ownBlock ∧ some k_ ≠ (.slice Ao29 x6_3.length co29 : Value).ownBlock)) (by (with_reducible repeat (first | apply Ra | apply Rn | apply Rd)); exact Kd.R_mono HO_291001.out (fun _ hk => by first | exact ⟨⟨hk.1, hk.2.1⟩, hk.2.2⟩ | ((repeat' apply And.intro) <;> first | exact hk | exact hk.1 | exact hk.2 | exact hk.1.1 | exact hk.1.2 | exact hk.2.1 | exact hk.2.2 | exact hk.1.1.1 | exact hk.1.1.2 | exact hk.1.2.1 | exact hk.1.2.2))) hg hat); have n3_ := Am (blk_grown (g := gb284) (o := .cells #[.int .i64 0, .slice none 0 0] 27 (0, 0)) (by (with_reducible repeat (first | refine Kn ?_ _ | refine Ke ?_ | refine Ka ?_ _)); exact BK284.out) hg (Kd.R_ne HO_8.out BK284.out (by decide))); have n4_ := Am (blk_grown (g := gb290) (o := .cells #[.int .i64 (l0.length : Int), u291001] 27 (0, 0)) (by (with_reducible repeat (first | refine Kn ?_ _ | refine Ke ?_ | refine Ka ?_ _)); exact BK290.out) hg (Kd.R_ne HO_8.out BK290.out (by decide))); have n5_ := Am (hb); have n6_ := Am (ho); clear HO_5; clear HO_6; clear HO_291001; clear BK284; clear BK290; clear HB; clear HO_8; have HO_5 := n0_; have HO_6 := n1_; have HO_291001 := n2_; have BK284 := n3_; have BK290 := n4_; have HB := n5_; have HO305 := n6_; clear n0_ n1_ n2_ n3_ n4_ n5_ n6_; clear ho hb hg hat))
                   have n0_ := Am (Rd HO_5.out)
                   have n1_ := Am (Rd HO_6.out)
                   have n2_ := Am (Rd HO_291001.out)
                   have n3_ := Am (Rd HO305.out)
                   have n4_ := Am (Ke BK284.out)
                   have n5_ := Am (Ke BK290.out)
                   have n6_ := Am (Bd HB.out)
                   clear HO_5
                   clear HO_6
                   clear HO_291001
                   clear HO305
                   clear BK284
                   clear BK290
                   clear HB
                   have HO_5 := n0_
                   have HO_6 := n1_
                   have HO_291001 := n2_
                   have HO305 := n3_
                   have BK284 := n4_
                   have BK290 := n5_
                   have HB := n6_
                   clear n0_ n1_ n2_ n3_ n4_ n5_ n6_
                   obtain ⟨Ao42, co42, eo42⟩ := Kd.R_slice HO_291001.out
                   (first | subst eo42 | (injection eo42 with f1_ f2_ f3_; have f4_ := f1_.symm; have f5_ := f3_.symm; clear f1_ f2_ f3_; subst f4_; subst f5_))
                   have p306 : 0 ≤ (t294 : Int) := Oe (by first | (with_reducible assumption) | assumption)
                   have q306 : t294 < (x291001_3.length : Int) := Oe (by first | (with_reducible assumption) | assumption)
                   obtain ⟨ad306, e306, hx306_0⟩ := Kd.at_int (Kd.R_reads' HO_291001.out).2.2 t294 p306 q306
                   cases e306
                   replace p306 := eq_true p306
                   replace q306 := eq_true q306
                   have p38 : 0 ≤ (t294 : Int) := Oe (by first | (with_reducible assumption) | assumption)
                   have q38 : (t294 : Int) < ((x291001_3.length : Int) : Int) := Oe (by first | (with_reducible assumption) | assumption)
                   obtain ⟨go38, co38, eo38, gb38, gl38, cl38, HG38⟩ := Kd.R_form HO_291001.out (by omega)
                   (first | cases eo38 | (injection eo38 with ea_ en_ ec_; (first | subst ea_ | (injection ea_ with ea_; subst ea_)); subst ec_; clear en_))
                   have GB38 := Am gb38
                   have GG38 := Am HG38
                   clear gb38 gl38 HG38
                   (first | simp only [add_plain] at hx306_0 | skip)
                   obtain ⟨hx38_0, hf38_0⟩ := Kd.R_celln 0 HO_291001.out (t294 : Int) p38 q38
                   replace p38 := eq_true p38
                   replace q38 := eq_true q38
                   have HP43 := Kd.R_putn HO_291001.out (t294 : Int) (Go.bits .or .i64 (rd x291001_3 t294) (ji37))
                   rw [← Ny307.out] at HP43
                   have HQ43 := Am HP43
                   clear HP43
                   refine start_ (n := 10) (S := fun w' => w'.cell? ⟨gb290, 0, none⟩ = some (.int .i64 (l0.length : Int)) ∧ w'.cell? ⟨gb290, 1, none⟩ = some (.slice (some ⟨go38, 0, none⟩) x291001_3.length co42) ∧ w'.cell? ⟨go38, (t294).toNat, none⟩ = some (.int .i64 (rd x291001_3 t294))) (ds := [9]) #[Zz,Zz,Zz,Zz,Zz,Zz,Zz,Zz,Zz,Zz] (by kernel_rfl) rfl rfl ⟨(Kc BK290.out 0).trans rfl, (Kc BK290.out 1).trans rfl, hx306_0⟩ (fun hHeld => ?_); refine with_tabW spec_BuildTournament.tab15 spec_BuildTournament.bits15 (fun HT_ HW_ => ?_)
                   generalize w40.drew = w41 at HO_5 HO_6 HO_291001 HO305 BK284 BK290 HB GG38 HQ43 hf38_0 hx306_0 hx38_0 hHeld ⊢
                   refine pure_ (i := 0) (N := some 58) (v := ?_) (a' := ?_) #[Yy,Zz,Zz,Zz,Zz,Zz,Zz,Zz,Zz,Zz] rfl rfl (any_of HT_.out (by kernel_rfl)) (fun _ _ _ h => h) (Or.inl ⟨by rfl, ?_⟩) ?_ ?_
                   rotate_left
                   ·
                    intro w'
                    go_simp
                    with_reducible rfl
                   rotate_left
                   ·
                    simp only [Act.put, List.setIfInBounds_toArray, List.set_cons_zero, List.set_cons_succ, i64_w, i32_w]
                    rfl
                   refine pure_ (i := 2) (N := some 60) (v := ?_) (a' := ?_) #[Yy,Zz,Yy,Zz,Zz,Zz,Zz,Zz,Zz,Zz] rfl rfl (any_of HT_.out (by kernel_rfl)) (fun _ _ _ h => h) (Or.inl ⟨by rfl, ?_⟩) ?_ ?_
                   rotate_left
                   ·
                    intro w'
                    go_simp
                    with_reducible rfl
                   rotate_left
                   ·
                    simp only [Act.put, List.setIfInBounds_toArray, List.set_cons_zero, List.set_cons_succ, i64_w, i32_w]
                    rfl
                   refine pure_ (i := 5) (N := some 63) (v := ?_) (a' := ?_) #[Yy,Zz,Yy,Zz,Zz,Yy,Zz,Zz,Zz,Zz] rfl rfl (any_of HT_.out (by kernel_rfl)) (fun _ _ _ h => h) (Or.inl ⟨by rfl, ?_⟩) ?_ ?_
                   rotate_left
                   ·
                    intro w'
                    go_simp
                    with_reducible rfl
                   rotate_left
                   ·
                    simp only [Act.put, List.setIfInBounds_toArray, List.set_cons_zero, List.set_cons_succ, i64_w, i32_w]
                    rfl
                   refine pure_ (i := 6) (N := some 64) (v := ?_) (a' := ?_) #[Yy,Zz,Yy,Zz,Zz,Yy,Yy,Zz,Zz,Zz] rfl rfl (any_of HT_.out (by kernel_rfl)) (fun _ _ _ h => h) (Or.inl ⟨by rfl, ?_⟩) ?_ ?_
                   rotate_left
                   ·
                    intro w'
                    go_simp
                    with_reducible rfl
                   rotate_left
                   ·
                    simp only [Act.put, List.setIfInBounds_toArray, List.set_cons_zero, List.set_cons_succ, i64_w, i32_w]
                    rfl
                   refine take_ (i := 1) (N := some 59) (v := ?_) (a' := ?_) #[Yy,Yy,Yy,Zz,Zz,Yy,Yy,Zz,Zz,Zz] rfl rfl (take_ofW HT_.out HW_.out (by kernel_rfl)) (fun _ _ _ h => h) (Or.inl ⟨by rfl, ?_⟩) hHeld ?_ ?_
                   rotate_left
                   ·
                    rintro w' ⟨s0, s1, s2⟩
                    go_simp
                    with_reducible rfl
                   rotate_left
                   ·
                    simp only [Act.put, List.setIfInBounds_toArray, List.set_cons_zero, List.set_cons_succ, i64_w, i32_w]
                    rfl
                   refine pure_ (i := 3) (N := some 61) (v := ?_) (a' := ?_) #[Yy,Yy,Yy,Yy,Zz,Yy,Yy,Zz,Zz,Zz] rfl rfl (any_of HT_.out (by kernel_rfl)) (fun _ _ _ h => h) (Or.inl ⟨by rfl, ?_⟩) ?_ ?_
                   rotate_left
                   ·
                    intro w'
                    go_simp
                    with_reducible rfl
                   rotate_left
                   ·
                    simp only [Act.put, List.setIfInBounds_toArray, List.set_cons_zero, List.set_cons_succ, i64_w, i32_w]
                    rfl
                   refine take_ (i := 4) (N := some 62) (v := ?_) (a' := ?_) #[Yy,Yy,Yy,Yy,Yy,Yy,Yy,Zz,Zz,Zz] rfl rfl (take_ofW HT_.out HW_.out (by kernel_rfl)) (fun _ _ _ h => h) (Or.inl ⟨by rfl, ?_⟩) hHeld ?_ ?_
                   rotate_left
                   ·
                    rintro w' ⟨s0, s1, s2⟩
                    go_simp
                    with_reducible rfl
                   rotate_left
                   ·
                    simp only [Act.put, List.setIfInBounds_toArray, List.set_cons_zero, List.set_cons_succ, i64_w, i32_w]
                    rfl
                   refine pure_ (i := 7) (N := some 65) (v := ?_) (a' := ?_) #[Yy,Yy,Yy,Yy,Yy,Yy,Yy,Yy,Zz,Zz] rfl rfl (any_of HT_.out (by kernel_rfl)) (fun _ _ _ h => h) (Or.inl ⟨by rfl, ?_⟩) ?_ ?_
                   rotate_left
                   ·
                    intro w'
                    go_simp
                    with_reducible rfl
                   rotate_left
                   ·
                    simp only [Act.put, List.setIfInBounds_toArray, List.set_cons_zero, List.set_cons_succ, i64_w, i32_w]
                    rfl
                   refine pure_ (i := 8) (N := some 66) (v := ?_) (a' := ?_) #[Yy,Yy,Yy,Yy,Yy,Yy,Yy,Yy,Yy,Zz] rfl rfl (any_of HT_.out (by kernel_rfl)) (fun _ _ _ h => h) (Or.inl ⟨by rfl, ?_⟩) ?_ ?_
                   rotate_left
                   ·
                    intro w'
                    go_simp
                    with_reducible rfl
                   rotate_left
                   ·
                    simp only [Act.put, List.setIfInBounds_toArray, List.set_cons_zero, List.set_cons_succ, i64_w, i32_w]
                    rfl
                   refine last_ (i := 9) (N := none) #[Yy,Yy,Yy,Yy,Yy,Yy,Yy,Yy,Yy,Yy] rfl rfl (one_of HT_.out (by kernel_rfl)) (by decide) (fun K hK => ?_)
                   refine skip_ (w1 := ?_) (by rfl) rfl ?_ ?_
                   rotate_left
                   ·
                    go_simp
                    rfl
                   refine hK.out _ _ ?_
                   clear hK K
                   refine done_ (done_of HT_.out (by kernel_rfl)) ?_
                   try go_wp2
                   (try simp only [← hl5_3, ← hl6_3])
                   go_roundg k3
                   case measure => have := HJ1.out; have := HK2.out; have := HK3.out; omega
                   case rel => exact ⟨(x5_3), (x6_3), (y303), (wrap64 (x9_3 - 1)), (y307), (.slice (some ⟨go38, 0, none⟩) x291001_3.length co42), (by first | rfl | (simp; done) | (simp [*]; done)), H', ⟨by have := HJ1.out; have := HK2.out; have := HK3.out; omega⟩, ⟨by (try simp only [hl5_3]); (try simp only [hl6_3]); (with_reducible repeat (first | apply Ra | apply Rn | apply Rd)); exact Kd.R_mono (Kd.R_far (p := ⟨go38, (t294 : Int).toNat, none⟩) (Kd.R_mono HO_5.out (fun k_ hk => (⟨hk, fun e_ => by first | exact hk.1.2 (by rw [e_]; rfl) | exact hk.1.1 (by rw [e_]; rfl) | exact hk.2 (by rw [e_]; rfl)⟩ : _ ∧ k_ ≠ go38))) (fun _ hk => hk.2) (.int .i64 (Go.bits .or .i64 (rd x291001_3 t294) (ji37)))) (fun _ hk => by first | exact ⟨hk.1.1.1, ⟨hk.1.2, hk.1.1.2⟩⟩ | ((repeat' apply And.intro) <;> first | exact hk | exact hk.1 | exact hk.2 | exact hk.1.1 | exact hk.1.2 | exact hk.2.1 | exact hk.2.2 | exact hk.1.1.1 | exact hk.1.1.2 | exact hk.1.2.1 | exact hk.1.2.2))⟩, ⟨by (try simp only [hl5_3]); (try simp only [hl6_3]); (with_reducible repeat (first | apply Ra | apply Rn | apply Rd)); exact Kd.R_mono (Kd.R_far (p := ⟨go38, (t294 : Int).toNat, none⟩) (Kd.R_mono HO_6.out (fun k_ hk => (⟨hk, fun e_ => by first | exact hk.1.2 (by rw [e_]; rfl) | exact hk.1.1 (by rw [e_]; rfl) | exact hk.2 (by rw [e_]; rfl)⟩ : _ ∧ k_ ≠ go38))) (fun _ hk => hk.2) (.int .i64 (Go.bits .or .i64 (rd x291001_3 t294) (ji37)))) (fun _ hk => by first | exact ⟨hk.1.1.1, ⟨hk.1.2, hk.1.1.2⟩⟩ | ((repeat' apply And.intro) <;> first | exact hk | exact hk.1 | exact hk.2 | exact hk.1.1 | exact hk.1.2 | exact hk.2.1 | exact hk.2.2 | exact hk.1.1.1 | exact hk.1.1.2 | exact hk.1.2.1 | exact hk.1.2.2))⟩, ⟨by (try simp only [hl5_3]); (try simp only [hl6_3]); (with_reducible repeat (first | apply Ra | apply Rn | apply Rd)); exact Kd.R_mono (Kd.R_far (p := ⟨go38, (t294 : Int).toNat, none⟩) (Kd.R_mono HO305.out (fun k_ hk => (⟨hk, fun e_ => by first | exact hk.2.2 (by rw [e_]; rfl) | exact hk.1 (by rw [e_]; rfl) | exact hk.2.1 (by rw [e_]; rfl)⟩ : _ ∧ k_ ≠ go38))) (fun _ hk => hk.2) (.int .i64 (Go.bits .or .i64 (rd x291001_3 t294) (ji37)))) (fun _ hk => by first | exact ⟨hk.1.1, ⟨hk.1.2.1, hk.1.2.2⟩⟩ | ((repeat' apply And.intro) <;> first | exact hk | exact hk.1 | exact hk.2 | exact hk.1.1 | exact hk.1.2 | exact hk.2.1 | exact hk.2.2 | exact hk.1.1.1 | exact hk.1.1.2 | exact hk.1.2.1 | exact hk.1.2.2))⟩, ⟨by (try simp only [hl5_3]); (try simp only [hl6_3]); (with_reducible repeat (first | apply Ra | apply Rn | apply Rd)); exact Kd.R_mono HQ43.out (fun _ hk => by first | exact ⟨hk.1.1, ⟨hk.1.2, hk.2⟩⟩ | ((repeat' apply And.intro) <;> first | exact hk | exact hk.1 | exact hk.2 | exact hk.1.1 | exact hk.1.2 | exact hk.2.1 | exact hk.2.2 | exact hk.1.1.1 | exact hk.1.1.2 | exact hk.1.2.1 | exact hk.1.2.2))⟩, ⟨by (try simp only [hl5_3]); (try simp only [hl6_3]); (with_reducible repeat (first | refine Kn ?_ _ | refine Ke ?_ | refine Ka ?_ _)); refine blk_far ?_ (by have h_ := Kd.R_ne HO_291001.out BK284.out (by decide); intro e_; exact h_ (by rw [e_]; rfl)) _; (with_reducible repeat (first | refine Kn ?_ _ | refine Ke ?_ | refine Ka ?_ _)); exact BK284.out⟩, ⟨by (try simp only [hl5_3]); (try simp only [hl6_3]); (with_reducible repeat (first | refine Kn ?_ _ | refine Ke ?_ | refine Ka ?_ _)); refine blk_far ?_ (by have h_ := Kd.R_ne HO_291001.out BK290.out (by decide); intro e_; exact h_ (by rw [e_]; rfl)) _; (with_reducible repeat (first | refine Kn ?_ _ | refine Ke ?_ | refine Ka ?_ _)); exact BK290.out⟩, ⟨by repeat (first | (with_reducible first | exact HB.out | apply Ba | apply Bn | apply Bd | refine Bs ?_ GB38.out | refine Bs ?_ GE284.out | refine Bs ?_ GE290.out) | exact HB.out)⟩⟩
                  ·
                   rw [if_neg c36] at H
                   exact absurd H (by simp)
                 ·
                  rw [if_neg c35] at H
                  exact absurd H (by simp)
                ·
                 rw [if_neg c34] at H
                 exact absurd H (by simp)
               ·
                rw [if_neg c33] at H
                exact absurd H (by simp)
              ·
               rw [if_neg c31] at H
               have c31b0 : decide (0 < x9_3) = false := Df c31
               (try (have c31b1 := c31b0; simp only [hl5_3, hl6_3] at c31b1))
               clear c31
               have H' := Am H
               clear H
               go_wp2
               go_loopg [69] k3 (fun kq v69 w' => ∃ (x5_4 : List Int) (x6_4 : List Int) (x8_4 : List Int) (x69_4 : Int) (x291001_4 : List Int) (u291001 : Value), v69 = .int .i64 x69_4 ∧ Aside0 (spec_BuildTournament.l2 kq l0 x5_4 x6_4 t294 x8_4 (x5_3.length : Int) x69_4 (l0.length : Int) x291001_4 = some (r1, r2, r3)) ∧ Aside0 (kq ≤ k3) ∧ Aside0 (Kd.R (Kd.int .i64) 3 w' w.heap.size (fun k_ => some k_ ≠ ((.slice Ao29 x6_3.length co29) : Value).ownBlock ∧ some k_ ≠ (u8 : Value).ownBlock ∧ some k_ ≠ (u291001 : Value).ownBlock) (.slice (some ad301) x5_3.length co27) x5_4) ∧ Aside0 (Kd.R (Kd.int .i64) 3 w' w.heap.size (fun k_ => some k_ ≠ ((.slice (some ad301) x5_3.length co27) : Value).ownBlock ∧ some k_ ≠ (u8 : Value).ownBlock ∧ some k_ ≠ (u291001 : Value).ownBlock) (.slice Ao29 x6_3.length co29) x6_4) ∧ Aside0 (Kd.R (Kd.int .i64) 3 w' w.heap.size (fun k_ => some k_ ≠ ((.slice (some ad301) x5_3.length co27) : Value).ownBlock ∧ some k_ ≠ ((.slice Ao29 x6_3.length co29) : Value).ownBlock ∧ some k_ ≠ (u291001 : Value).ownBlock) u8 x8_4) ∧ Aside0 (Kd.R (Kd.int .i64) 3 w' w.heap.size (fun k_ => some k_ ≠ ((.slice (some ad301) x5_3.length co27) : Value).ownBlock ∧ some k_ ≠ ((.slice Ao29 x6_3.length co29) : Value).ownBlock ∧ some k_ ≠ (u8 : Value).ownBlock) u291001 x291001_4) ∧ Aside0 (w'.heap[gb284]? = some (.cells #[.int .i64 0, (.slice none 0 0)] 27 (0, 0))) ∧ Aside0 (w'.heap[gb290]? = some (.cells #[.int .i64 (l0.length : Int), u291001] 27 (0, 0))) ∧ Aside0 (Below w.heap.size w w'))
               case atStart => exact ⟨(x5_3), (x6_3), (x8_3), (0), (x291001_3), (u291001), (by first | rfl | (simp; done) | (simp [*]; done)), H', ⟨Nat.le_refl _⟩, ⟨by (try simp only [hl5_3]); (try simp only [hl6_3]); (with_reducible repeat (first | apply Ra | apply Rn | apply Rd)); exact HO_5.out⟩, ⟨by (try simp only [hl5_3]); (try simp only [hl6_3]); (with_reducible repeat (first | apply Ra | apply Rn | apply Rd)); exact HO_6.out⟩, ⟨by (try simp only [hl5_3]); (try simp only [hl6_3]); (with_reducible repeat (first | apply Ra | apply Rn | apply Rd)); exact HO_8.out⟩, ⟨by (try simp only [hl5_3]); (try simp only [hl6_3]); (with_reducible repeat (first | apply Ra | apply Rn | apply Rd)); exact HO_291001.out⟩, ⟨by (try simp only [hl5_3]); (try simp only [hl6_3]); (with_reducible repeat (first | refine Kn ?_ _ | refine Ke ?_ | refine Ka ?_ _)); exact BK284.out⟩, ⟨by (try simp only [hl5_3]); (try simp only [hl6_3]); (with_reducible repeat (first | refine Kn ?_ _ | refine Ke ?_ | refine Ka ?_ _)); exact BK290.out⟩, ⟨by repeat (first | (with_reducible first | exact HB.out | apply Ba | apply Bn | apply Bd | refine Bs ?_ GE284.out | refine Bs ?_ GE290.out) | exact HB.out)⟩⟩
               case round =>
                clear H'
                (try clear c1); (try clear c2); (try clear p2); (try clear c3); (try clear p3); (try clear q3); (try clear hx3); (try clear hf3); (try clear c4); (try clear c5); (try clear p6); (try clear c8); (try clear c10); (try clear c10b0); (try clear c10b1); (try clear c11); (try clear c11b0); (try clear c11b1); (try clear c17); (try clear c20); (try clear c20b0); (try clear c20b1); (try clear c22); (try clear c24); (try clear c24b0); (try clear c25); (try clear c25b0); (try clear p30); (try clear q30); (try clear hx30); (try clear c31); (try clear c31b0); (try clear c33); (try clear c34); (try clear c34b0); (try clear c35); (try clear c35b0); (try clear c36); (try clear c36b0); (try clear c36b1); (try clear c37); (try clear p38); (try clear q38); (try clear hx38); (try clear hf38); (try clear c39); (try clear c40); (try clear hcz18_0); (try clear hcz18_1); (try clear hcz9_0); (try clear hcz9_1); (try clear hfz18_0); (try clear hfz18_1); (try clear hfz9_0); (try clear hfz9_1); (try clear hx301_0); (try clear hx306_0); (try clear hx38_0); (try clear p2); (try clear p3); (try clear p30); (try clear p301); (try clear p306); (try clear p38); (try clear q3); (try clear q30); (try clear q301); (try clear q306); (try clear q38)
                obtain ⟨x5_4, x6_4, x8_4, x69_4, x291001_4, u291001, rfl, HA, HK4, HO_5, HO_6, HO_8, HO_291001, BK284, BK290, HB⟩ := hrel
                have hl5_4 := (Kd.R_reads' HO_5.out).1
                rw [hl5_4] at HO_5
                (try simp only [hl5_4])
                (try simp only [hl5_4] at BK284)
                (try simp only [hl5_4] at BK290)
                (try simp only [hl5_4] at HO_6)
                (try simp only [hl5_4] at HO_8)
                (try simp only [hl5_4] at HO_291001)
                have hl6_4 := (Kd.R_reads' HO_6.out).1
                rw [hl6_4] at HO_6
                (try simp only [hl6_4])
                (try simp only [hl6_4] at BK284)
                (try simp only [hl6_4] at BK290)
                (try simp only [hl6_4] at HO_5)
                (try simp only [hl6_4] at HO_8)
                (try simp only [hl6_4] at HO_291001)
                cases gk with
                | zero => exact absurd HA.out (by simp [spec_BuildTournament.l2])
                | succ k4 =>
                 have H := HA.out
                 clear HA
                 simp only [spec_BuildTournament.l2] at H
                 by_cases c44 : x69_4 < (x5_3.length : Int)
                 ·
                  rw [if_pos c44] at H
                  have c44b0 : decide (x69_4 < (x5_3.length : Int)) = true := De c44
                  (try (have c44b1 := c44b0; simp only [hl5_3, hl6_3, hl5_4, hl6_4] at c44b1))
                  clear c44
                  replace H := Option.bind_eq_some_iff.mp H
                  obtain ⟨t308, A450, H⟩ := H
                  replace H : (if t308 = true then (spec_BuildTournament.l2 k4 l0 x5_4 x6_4 t294 x8_4 (x5_3.length : Int) (wrap64 (x69_4 + 1)) (l0.length : Int) x291001_4) else (if 0 ≤ x69_4 then (if x69_4 < (x291001_4.length : Int) then (if 0 ≤ t294 then (if x69_4 < (x5_4.length : Int) then (spec_BuildTournament.l2 k4 l0 (x5_4.set (x69_4 : Int).toNat (wrap64 ((rd x5_4 x69_4) - 1))) x6_4 t294 x8_4 (x5_3.length : Int) (wrap64 (x69_4 + 1)) (l0.length : Int) (x291001_4.set (x69_4 : Int).toNat (Go.bits .or .i64 (rd x291001_4 x69_4) (shl .i64 1 t294)))) else (none)) else (none)) else (none)) else (none))) = some (r1, r2, r3) := H
                  have A45 := Am A450
                  clear A450
                  by_cases c46 : t308 = true
                  ·
                   subst c46
                   have H1 : (spec_BuildTournament.l2 k4 l0 x5_4 x6_4 t294 x8_4 (x5_3.length : Int) (wrap64 (x69_4 + 1)) (l0.length : Int) x291001_4) = some (r1, r2, r3) := by rw [if_pos rfl] at H; exact H
                   clear H
                   have H := H1
                   clear H1
                   have H' := Am H
                   clear H
                   obtain ⟨Ao47, co47, eo47⟩ := Kd.R_slice HO_8.out
                   subst eo47
                   go_wp2_with (first | ((with_reducible refine gate_callee (f := 41) rfl ?_); refine goesL_ (some 74) rfl rfl Try.func41 (by kernel_rfl) rfl #[.slice Ao47 x8_4.length co47, .int .i64 x69_4] rfl (by (try simp only [List.map_toArray, List.map_cons, List.map_nil]); first | done | rfl) ?_; (with_reducible refine (spec_l1Has.calls k4 _ _ x8_4 x69_4 true _ ?side1 ?side2 A45.out).mono ?_); (case side1 => repeat (first | exact (Kd.R_reads' HO_8.out).2.2 | (with_reducible refine Ca ?_ _) | (with_reducible refine Cn ?_ _) | (with_reducible refine Cd ?_))); (case side2 => exact (Kd.R_reads' HO_8.out).2.1); rintro e w' ⟨rfl, ⟨nd, rfl⟩⟩; refine ⟨_, rfl, ?_⟩))
                   (try simp only [← hl5_4, ← hl6_4])
                   go_roundg k4
                   case measure => have := HJ1.out; have := HK2.out; have := HK3.out; have := HK4.out; omega
                   case rel => exact ⟨(x5_4), (x6_4), (x8_4), (wrap64 (x69_4 + 1)), (x291001_4), (u291001), (by first | rfl | (simp; done) | (simp [*]; done)), H', ⟨by have := HJ1.out; have := HK2.out; have := HK3.out; have := HK4.out; omega⟩, ⟨by (try simp only [hl5_3]); (try simp only [hl6_3]); (try simp only [hl5_4]); (try simp only [hl6_4]); (with_reducible repeat (first | apply Ra | apply Rn | apply Rd)); exact HO_5.out⟩, ⟨by (try simp only [hl5_3]); (try simp only [hl6_3]); (try simp only [hl5_4]); (try simp only [hl6_4]); (with_reducible repeat (first | apply Ra | apply Rn | apply Rd)); exact HO_6.out⟩, ⟨by (try simp only [hl5_3]); (try simp only [hl6_3]); (try simp only [hl5_4]); (try simp only [hl6_4]); (with_reducible repeat (first | apply Ra | apply Rn | apply Rd)); exact HO_8.out⟩, ⟨by (try simp only [hl5_3]); (try simp only [hl6_3]); (try simp only [hl5_4]); (try simp only [hl6_4]); (with_reducible repeat (first | apply Ra | apply Rn | apply Rd)); exact HO_291001.out⟩, ⟨by (try simp only [hl5_3]); (try simp only [hl6_3]); (try simp only [hl5_4]); (try simp only [hl6_4]); (with_reducible repeat (first | refine Kn ?_ _ | refine Ke ?_ | refine Ka ?_ _)); exact BK284.out⟩, ⟨by (try simp only [hl5_3]); (try simp only [hl6_3]); (try simp only [hl5_4]); (try simp only [hl6_4]); (with_reducible repeat (first | refine Kn ?_ _ | refine Ke ?_ | refine Ka ?_ _)); exact BK290.out⟩, ⟨by repeat (first | (with_reducible first | exact HB.out | apply Ba | apply Bn | apply Bd | refine Bs ?_ GE284.out | refine Bs ?_ GE290.out) | exact HB.out)⟩⟩
                  ·
                   replace c46 := Bool.eq_false_iff.mpr c46
                   subst c46
                   have H1 : (if 0 ≤ x69_4 then (if x69_4 < (x291001_4.length : Int) then (if 0 ≤ t294 then (if x69_4 < (x5_4.length : Int) then (spec_BuildTournament.l2 k4 l0 (x5_4.set (x69_4 : Int).toNat (wrap64 ((rd x5_4 x69_4) - 1))) x6_4 t294 x8_4 (x5_3.length : Int) (wrap64 (x69_4 + 1)) (l0.length : Int) (x291001_4.set (x69_4 : Int).toNat (Go.bits .or .i64 (rd x291001_4 x69_4) (shl .i64 1 t294)))) else (none)) else (none)) else (none)) else (none)) = some (r1, r2, r3) := by rw [if_neg (show ¬ (false = true) by decide)] at H; exact H
                   clear H
                   have H := H1
                   clear H1
                   by_cases c48 : 0 ≤ x69_4
                   ·
                    rw [if_pos c48] at H
                    have c48b0 : decide (0 ≤ x69_4) = true := De c48
                    (try (have c48b1 := c48b0; simp only [hl5_3, hl6_3, hl5_4, hl6_4] at c48b1))
                    clear c48
                    by_cases c49 : x69_4 < (x291001_4.length : Int)
                    ·
                     rw [if_pos c49] at H
                     have c49b0 : decide (x69_4 < (x291001_4.length : Int)) = true := De c49
                     (try (have c49b1 := c49b0; simp only [hl5_3, hl6_3, hl5_4, hl6_4] at c49b1))
                     clear c49
                     by_cases c50 : 0 ≤ t294
                     ·
                      rw [if_pos c50] at H
                      have c50b0 := eq_true c50
                      have c50b1 : decide (0 ≤ t294) = true := De c50
                      clear c50
                      obtain ⟨ji51, hji51⟩ : ∃ j_ : Int, (shl .i64 1 t294) = j_ := ⟨_, rfl⟩
                      replace H : (if x69_4 < (x5_4.length : Int) then (spec_BuildTournament.l2 k4 l0 (x5_4.set (x69_4 : Int).toNat (wrap64 ((rd x5_4 x69_4) - 1))) x6_4 t294 x8_4 (x5_3.length : Int) (wrap64 (x69_4 + 1)) (l0.length : Int) (x291001_4.set (x69_4 : Int).toNat (Go.bits .or .i64 (rd x291001_4 x69_4) (ji51)))) else (none)) = some (r1, r2, r3) := by first | (rw [hji51] at H; exact H) | (simp only [hji51] at H ⊢; exact H)
                      (try rw [hji51] at A45)
                      have hji51_ : (IntKind.i64.wrap (1 * 2 ^ min t294.toNat 64)) = ji51 := hji51
                      have hji51z : t294 ≤ 64 → (IntKind.i64.wrap (1 * 2 ^ t294.toNat)) = ji51 := shl_small hji51
                      have hji51u : (IntKind.i64.wrap (2 ^ min t294.toNat 64)) = ji51 := by have h_ := hji51_; rw [Int.one_mul] at h_; exact h_
                      have hji51v : t294 ≤ 64 → (IntKind.i64.wrap (2 ^ t294.toNat)) = ji51 := fun hle_ => by have h_ := hji51z hle_; rw [Int.one_mul] at h_; exact h_
                      have hji51y : (wrap64 (1 * 2 ^ min t294.toNat 64)) = ji51 := (i64_w _).symm.trans hji51_
                      have hji51x : t294 ≤ 64 → (wrap64 (1 * 2 ^ t294.toNat)) = ji51 := fun h_ => (i64_w _).symm.trans (hji51z h_)
                      obtain ⟨y310, hy310⟩ : ∃ y_ : List Int, y_ = (x291001_4.set (x69_4 : Int).toNat (Go.bits .or .i64 (rd x291001_4 x69_4) (ji51))) := ⟨_, rfl⟩
                      replace H : (if x69_4 < (x5_4.length : Int) then (spec_BuildTournament.l2 k4 l0 (x5_4.set (x69_4 : Int).toNat (wrap64 ((rd x5_4 x69_4) - 1))) x6_4 t294 x8_4 (x5_3.length : Int) (wrap64 (x69_4 + 1)) (l0.length : Int) y310) else (none)) = some (r1, r2, r3) := by first | (rw [hy310]; with_reducible exact H) | (have H2_ := (Option.bind_some _ _).symm.trans H; rw [hy310]; with_reducible exact H2_) | (have H2_ := (Option.bind_some _ _).symm.trans H; with_reducible exact H2_) | with_reducible exact H | (rw [hy310]; exact H) | exact H
                      have Ny310 := Am hy310
                      clear hy310
                      by_cases c53 : x69_4 < (x5_4.length : Int)
                      ·
                       rw [if_pos c53] at H
                       have c53b0 : decide (x69_4 < (x5_4.length : Int)) = true := De c53
                       (try (have c53b1 := c53b0; simp only [hl5_3, hl6_3, hl5_4, hl6_4] at c53b1))
                       clear c53
                       obtain ⟨y312, hy312⟩ : ∃ y_ : List Int, y_ = (x5_4.set (x69_4 : Int).toNat (wrap64 ((rd x5_4 x69_4) - 1))) := ⟨_, rfl⟩
                       replace H : (spec_BuildTournament.l2 k4 l0 y312 x6_4 t294 x8_4 (x5_3.length : Int) (wrap64 (x69_4 + 1)) (l0.length : Int) y310) = some (r1, r2, r3) := by first | (rw [hy312]; with_reducible exact H) | (have H2_ := (Option.bind_some _ _).symm.trans H; rw [hy312]; with_reducible exact H2_) | (have H2_ := (Option.bind_some _ _).symm.trans H; with_reducible exact H2_) | with_reducible exact H | (rw [hy312]; exact H) | exact H
                       have Ny312 := Am hy312
                       clear hy312
                       have H' := Am H
                       clear H
                       obtain ⟨Ao55, co55, eo55⟩ := Kd.R_slice HO_8.out
                       subst eo55
                       try go_wp2_with (first | ((with_reducible refine gate_callee (f := 41) rfl ?_); refine goesL_ (some 74) rfl rfl Try.func41 (by kernel_rfl) rfl #[.slice Ao55 x8_4.length co55, .int .i64 x69_4] rfl (by (try simp only [List.map_toArray, List.map_cons, List.map_nil]); first | done | rfl) ?_; (with_reducible refine (spec_l1Has.calls k4 _ _ x8_4 x69_4 false _ ?side1 ?side2 A45.out).mono ?_); (case side1 => repeat (first | exact (Kd.R_reads' HO_8.out).2.2 | (with_reducible refine Ca ?_ _) | (with_reducible refine Cn ?_ _) | (with_reducible refine Cd ?_))); (case side2 => exact (Kd.R_reads' HO_8.out).2.1); rintro e w' ⟨rfl, ⟨nd, rfl⟩⟩; refine ⟨_, rfl, ?_⟩; (try (rw [drewN_self wr]; generalize hq_ : World.drewN wr _ = wr; have n0_ : Aside0 (Kd.R (Kd.int .i64) 3 wr w.heap.size (fun k_ => some k_ ≠ (.slice (some ad301) x5_4.length co27 : Value).ownBlock ∧ some k_ ≠ (.slice Ao29 x6_4.length co29 : Value).ownBlock ∧ some k_ ≠ (.slice Ao55 x8_4.length co55 : Value).ownBlock) u291001 x291001_4) := ⟨by rw [← hq_]; exact (by (with_reducible repeat (first | apply Ra | apply Rn | apply Rd)); exact HO_291001.out)⟩; have n1_ : Aside0 (Kd.R (Kd.int .i64) 3 wr w.heap.size (fun k_ => some k_ ≠ (u291001 : Value).ownBlock ∧ some k_ ≠ (.slice Ao29 x6_4.length co29 : Value).ownBlock ∧ some k_ ≠ (.slice Ao55 x8_4.length co55 : Value).ownBlock) (.slice (some ad301) x5_4.length co27) x5_4) := ⟨by rw [← hq_]; exact (by (with_reducible repeat (first | apply Ra | apply Rn | apply Rd)); exact Kd.R_mono HO_5.out (fun _ hk => by first | exact ⟨hk.2.2, ⟨hk.1, hk.2.1⟩⟩ | ((repeat' apply And.intro) <;> first | exact hk | exact hk.1 | exact hk.2 | exact hk.1.1 | exact hk.1.2 | exact hk.2.1 | exact hk.2.2 | exact hk.1.1.1 | exact hk.1.1.2 | exact hk.1.2.1 | exact hk.1.2.2)))⟩; have n2_ : Aside0 (Kd.R (Kd.int .i64) 3 wr w.heap.size (fun k_ => some k_ ≠ (u291001 : Value).ownBlock ∧ some k_ ≠ (.slice (some ad301) x5_4.length co27 : Value).ownBlock ∧ some k_ ≠ (.slice Ao55 x8_4.length co55 : Value).ownBlock) (.slice Ao29 x6_4.length co29) x6_4) := ⟨by rw [← hq_]; exact (by (with_reducible repeat (first | apply Ra | apply Rn | apply Rd)); exact Kd.R_mono HO_6.out (fun _ hk => by first | exact ⟨hk.2.2, ⟨hk.1, hk.2.1⟩⟩ | ((repeat' apply And.intro) <;> first | exact hk | exact hk.1 | exact hk.2 | exact hk.1.1 | exact hk.1.2 | exact hk.2.1 | exact hk.2.2 | exact hk.1.1.1 | exact hk.1.1.2 | exact hk.1.2.1 | exact hk.1.2.2)))⟩; have n3_ : Aside0 (Kd.R (Kd.int .i64) 3 wr w.heap.size (fun k_ => some k_ ≠ (u291001 : Value).ownBlock ∧ some k_ ≠ (.slice (some ad301) x5_4.length co27 : Value).ownBlock ∧ some k_ ≠ (.slice Ao29 x6_4.length co29 : Value).ownBlock) (.slice Ao55 x8_4.length co55) x8_4) := ⟨by rw [← hq_]; exact (by (with_reducible repeat (first | apply Ra | apply Rn | apply Rd)); exact Kd.R_mono HO_8.out (fun _ hk => by first | exact ⟨hk.2.2, ⟨hk.1, hk.2.1⟩⟩ | ((repeat' apply And.intro) <;> first | exact hk | exact hk.1 | exact hk.2 | exact hk.1.1 | exact hk.1.2 | exact hk.2.1 | exact hk.2.2 | exact hk.1.1.1 | exact hk.1.1.2 | exact hk.1.2.1 | exact hk.1.2.2)))⟩; have n4_ : Aside0 (wr.heap[gb284]? = some (.cells #[.int .i64 0, .slice none 0 0] 27 (0, 0))) := ⟨by rw [← hq_]; exact (by (with_reducible repeat (first | refine Kn ?_ _ | refine Ke ?_ | refine Ka ?_ _)); exact BK284.out)⟩; have n5_ : Aside0 (wr.heap[gb290]? = some (.cells #[.int .i64 (l0.length : Int), u291001] 27 (0, 0))) := ⟨by rw [← hq_]; exact (by (with_reducible repeat (first | refine Kn ?_ _ | refine Ke ?_ | refine Ka ?_ _)); exact BK290.out)⟩; have n6_ : Aside0 (Below w.heap.size w wr) := ⟨by rw [← hq_]; exact (by repeat (first | (with_reducible first | exact HB.out | apply Ba | apply Bn | apply Bd | refine Bs ?_ GE284.out | refine Bs ?_ GE290.out) | exact HB.out))⟩; clear HO_291001 HO_5 HO_6 HO_8 BK284 BK290 HB hq_; have HO_291001 := n0_; have HO_5 := n1_; have HO_6 := n2_; have HO_8 := n3_; have BK284 := n4_; have BK290 := n5_; have HB := n6_; clear n0_ n1_ n2_ n3_ n4_ n5_ n6_))))
                       have n0_ := Am (Rd HO_5.out)
                       have n1_ := Am (Rd HO_6.out)
                       have n2_ := Am (Rd HO_8.out)
                       have n3_ := Am (Rd HO_291001.out)
                       have n4_ := Am (Ke BK284.out)
                       have n5_ := Am (Ke BK290.out)
                       have n6_ := Am (Bd HB.out)
                       clear HO_5
                       clear HO_6
                       clear HO_8
                       clear HO_291001
                       clear BK284
                       clear BK290
                       clear HB
                       have HO_5 := n0_
                       have HO_6 := n1_
                       have HO_8 := n2_
                       have HO_291001 := n3_
                       have BK284 := n4_
                       have BK290 := n5_
                       have HB := n6_
                       clear n0_ n1_ n2_ n3_ n4_ n5_ n6_
                       obtain ⟨Ao57, co57, eo57⟩ := Kd.R_slice HO_291001.out
                       (first | subst eo57 | (injection eo57 with f1_ f2_ f3_; have f4_ := f1_.symm; have f5_ := f3_.symm; clear f1_ f2_ f3_; subst f4_; subst f5_))
                       have p309 : 0 ≤ (x69_4 : Int) := Oe (by first | (with_reducible assumption) | assumption)
                       have q309 : x69_4 < (x291001_4.length : Int) := Oe (by first | (with_reducible assumption) | assumption)
                       obtain ⟨ad309, e309, hx309_0⟩ := Kd.at_int (Kd.R_reads' HO_291001.out).2.2 x69_4 p309 q309
                       cases e309
                       replace p309 := eq_true p309
                       replace q309 := eq_true q309
                       have p52 : 0 ≤ (x69_4 : Int) := Oe (by first | (with_reducible assumption) | assumption)
                       have q52 : (x69_4 : Int) < ((x291001_4.length : Int) : Int) := Oe (by first | (with_reducible assumption) | assumption)
                       obtain ⟨go52, co52, eo52, gb52, gl52, cl52, HG52⟩ := Kd.R_form HO_291001.out (by omega)
                       (first | cases eo52 | (injection eo52 with ea_ en_ ec_; (first | subst ea_ | (injection ea_ with ea_; subst ea_)); subst ec_; clear en_))
                       have GB52 := Am gb52
                       have GG52 := Am HG52
                       clear gb52 gl52 HG52
                       (first | simp only [add_plain] at hx309_0 | skip)
                       obtain ⟨hx52_0, hf52_0⟩ := Kd.R_celln 0 HO_291001.out (x69_4 : Int) p52 q52
                       replace p52 := eq_true p52
                       replace q52 := eq_true q52
                       have HP58 := Kd.R_putn HO_291001.out (x69_4 : Int) (Go.bits .or .i64 (rd x291001_4 x69_4) (ji51))
                       rw [← Ny310.out] at HP58
                       have HQ58 := Am HP58
                       clear HP58
                       refine start_ (n := 10) (S := fun w' => w'.cell? ⟨gb290, 0, none⟩ = some (.int .i64 (l0.length : Int)) ∧ w'.cell? ⟨gb290, 1, none⟩ = some (.slice (some ⟨go52, 0, none⟩) x291001_4.length co57) ∧ w'.cell? ⟨go52, (x69_4).toNat, none⟩ = some (.int .i64 (rd x291001_4 x69_4))) (ds := [9]) #[Zz,Zz,Zz,Zz,Zz,Zz,Zz,Zz,Zz,Zz] (by kernel_rfl) rfl rfl ⟨(Kc BK290.out 0).trans rfl, (Kc BK290.out 1).trans rfl, hx309_0⟩ (fun hHeld => ?_); refine with_tabW spec_BuildTournament.tab20 spec_BuildTournament.bits20 (fun HT_ HW_ => ?_)
                       generalize wr.drew = w56 at HO_5 HO_6 HO_8 HO_291001 BK284 BK290 HB GG52 HQ58 hf52_0 hx309_0 hx52_0 hHeld ⊢
                       refine pure_ (i := 0) (N := some 76) (v := ?_) (a' := ?_) #[Yy,Zz,Zz,Zz,Zz,Zz,Zz,Zz,Zz,Zz] rfl rfl (any_of HT_.out (by kernel_rfl)) (fun _ _ _ h => h) (Or.inl ⟨by rfl, ?_⟩) ?_ ?_
                       rotate_left
                       ·
                        intro w'
                        go_simp
                        with_reducible rfl
                       rotate_left
                       ·
                        simp only [Act.put, List.setIfInBounds_toArray, List.set_cons_zero, List.set_cons_succ, i64_w, i32_w]
                        rfl
                       refine pure_ (i := 2) (N := some 78) (v := ?_) (a' := ?_) #[Yy,Zz,Yy,Zz,Zz,Zz,Zz,Zz,Zz,Zz] rfl rfl (any_of HT_.out (by kernel_rfl)) (fun _ _ _ h => h) (Or.inl ⟨by rfl, ?_⟩) ?_ ?_
                       rotate_left
                       ·
                        intro w'
                        go_simp
                        with_reducible rfl
                       rotate_left
                       ·
                        simp only [Act.put, List.setIfInBounds_toArray, List.set_cons_zero, List.set_cons_succ, i64_w, i32_w]
                        rfl
                       refine pure_ (i := 5) (N := some 81) (v := ?_) (a' := ?_) #[Yy,Zz,Yy,Zz,Zz,Yy,Zz,Zz,Zz,Zz] rfl rfl (any_of HT_.out (by kernel_rfl)) (fun _ _ _ h => h) (Or.inl ⟨by rfl, ?_⟩) ?_ ?_
                       rotate_left
                       ·
                        intro w'
                        go_simp
                        with_reducible rfl
                       rotate_left
                       ·
                        simp only [Act.put, List.setIfInBounds_toArray, List.set_cons_zero, List.set_cons_succ, i64_w, i32_w]
                        rfl
                       refine pure_ (i := 6) (N := some 82) (v := ?_) (a' := ?_) #[Yy,Zz,Yy,Zz,Zz,Yy,Yy,Zz,Zz,Zz] rfl rfl (any_of HT_.out (by kernel_rfl)) (fun _ _ _ h => h) (Or.inl ⟨by rfl, ?_⟩) ?_ ?_
                       rotate_left
                       ·
                        intro w'
                        go_simp
                        with_reducible rfl
                       rotate_left
                       ·
                        simp only [Act.put, List.setIfInBounds_toArray, List.set_cons_zero, List.set_cons_succ, i64_w, i32_w]
                        rfl
                       refine take_ (i := 1) (N := some 77) (v := ?_) (a' := ?_) #[Yy,Yy,Yy,Zz,Zz,Yy,Yy,Zz,Zz,Zz] rfl rfl (take_ofW HT_.out HW_.out (by kernel_rfl)) (fun _ _ _ h => h) (Or.inl ⟨by rfl, ?_⟩) hHeld ?_ ?_
                       rotate_left
                       ·
                        rintro w' ⟨s0, s1, s2⟩
                        go_simp
                        with_reducible rfl
                       rotate_left
                       ·
                        simp only [Act.put, List.setIfInBounds_toArray, List.set_cons_zero, List.set_cons_succ, i64_w, i32_w]
                        rfl
                       refine pure_ (i := 3) (N := some 79) (v := ?_) (a' := ?_) #[Yy,Yy,Yy,Yy,Zz,Yy,Yy,Zz,Zz,Zz] rfl rfl (any_of HT_.out (by kernel_rfl)) (fun _ _ _ h => h) (Or.inl ⟨by rfl, ?_⟩) ?_ ?_
                       rotate_left
                       ·
                        intro w'
                        go_simp
                        with_reducible rfl
                       rotate_left
                       ·
                        simp only [Act.put, List.setIfInBounds_toArray, List.set_cons_zero, List.set_cons_succ, i64_w, i32_w]
                        rfl
                       refine take_ (i := 4) (N := some 80) (v := ?_) (a' := ?_) #[Yy,Yy,Yy,Yy,Yy,Yy,Yy,Zz,Zz,Zz] rfl rfl (take_ofW HT_.out HW_.out (by kernel_rfl)) (fun _ _ _ h => h) (Or.inl ⟨by rfl, ?_⟩) hHeld ?_ ?_
                       rotate_left
                       ·
                        rintro w' ⟨s0, s1, s2⟩
                        go_simp
                        with_reducible rfl
                       rotate_left
                       ·
                        simp only [Act.put, List.setIfInBounds_toArray, List.set_cons_zero, List.set_cons_succ, i64_w, i32_w]
                        rfl
                       refine pure_ (i := 7) (N := some 83) (v := ?_) (a' := ?_) #[Yy,Yy,Yy,Yy,Yy,Yy,Yy,Yy,Zz,Zz] rfl rfl (any_of HT_.out (by kernel_rfl)) (fun _ _ _ h => h) (Or.inl ⟨by rfl, ?_⟩) ?_ ?_
                       rotate_left
                       ·
                        intro w'
                        go_simp
                        with_reducible rfl
                       rotate_left
                       ·
                        simp only [Act.put, List.setIfInBounds_toArray, List.set_cons_zero, List.set_cons_succ, i64_w, i32_w]
                        rfl
                       refine pure_ (i := 8) (N := some 84) (v := ?_) (a' := ?_) #[Yy,Yy,Yy,Yy,Yy,Yy,Yy,Yy,Yy,Zz] rfl rfl (any_of HT_.out (by kernel_rfl)) (fun _ _ _ h => h) (Or.inl ⟨by rfl, ?_⟩) ?_ ?_
                       rotate_left
                       ·
                        intro w'
                        go_simp
                        with_reducible rfl
                       rotate_left
                       ·
                        simp only [Act.put, List.setIfInBounds_toArray, List.set_cons_zero, List.set_cons_succ, i64_w, i32_w]
                        rfl
                       refine last_ (i := 9) (N := none) #[Yy,Yy,Yy,Yy,Yy,Yy,Yy,Yy,Yy,Yy] rfl rfl (one_of HT_.out (by kernel_rfl)) (by decide) (fun K hK => ?_)
                       refine skip_ (w1 := ?_) (by rfl) rfl ?_ ?_
                       rotate_left
                       ·
                        go_simp
                        rfl
                       refine hK.out _ _ ?_
                       clear hK K
                       refine done_ (done_of HT_.out (by kernel_rfl)) ?_
                       have n0_ : Aside0 (Kd.R (Kd.int .i64) 3 (w56.setCell ⟨go52, (x69_4 : Int).toNat, none⟩ (.int .i64 (Go.bits .or .i64 (rd x291001_4 x69_4) (ji51)))) w.heap.size (fun k_ => some k_ ≠ (.slice Ao29 x6_4.length co29 : Value).ownBlock ∧ some k_ ≠ (.slice Ao55 x8_4.length co55 : Value).ownBlock ∧ some k_ ≠ (.slice (some ⟨go52, 0, none⟩) x291001_4.length co57 : Value).ownBlock) (.slice (some ad301) x5_4.length co27) x5_4) := ⟨by (with_reducible repeat (first | apply Ra | apply Rn | apply Rd)); exact Kd.R_mono (Kd.R_far (p := ⟨go52, (x69_4 : Int).toNat, none⟩) (Kd.R_mono HO_5.out (fun k_ hk => (⟨hk, fun e_ => by first | exact hk.2.2 (by rw [e_]; rfl) | exact hk.1 (by rw [e_]; rfl) | exact hk.2.1 (by rw [e_]; rfl)⟩ : _ ∧ k_ ≠ go52))) (fun _ hk => hk.2) (.int .i64 (Go.bits .or .i64 (rd x291001_4 x69_4) (ji51)))) (fun _ hk => by first | exact ⟨hk.1.1, ⟨hk.1.2.1, hk.1.2.2⟩⟩ | ((repeat' apply And.intro) <;> first | exact hk | exact hk.1 | exact hk.2 | exact hk.1.1 | exact hk.1.2 | exact hk.2.1 | exact hk.2.2 | exact hk.1.1.1 | exact hk.1.1.2 | exact hk.1.2.1 | exact hk.1.2.2))⟩
                       have n1_ : Aside0 (Kd.R (Kd.int .i64) 3 (w56.setCell ⟨go52, (x69_4 : Int).toNat, none⟩ (.int .i64 (Go.bits .or .i64 (rd x291001_4 x69_4) (ji51)))) w.heap.size (fun k_ => some k_ ≠ (.slice (some ad301) x5_4.length co27 : Value).ownBlock ∧ some k_ ≠ (.slice Ao55 x8_4.length co55 : Value).ownBlock ∧ some k_ ≠ (.slice (some ⟨go52, 0, none⟩) x291001_4.length co57 : Value).ownBlock) (.slice Ao29 x6_4.length co29) x6_4) := ⟨by (with_reducible repeat (first | apply Ra | apply Rn | apply Rd)); exact Kd.R_mono (Kd.R_far (p := ⟨go52, (x69_4 : Int).toNat, none⟩) (Kd.R_mono HO_6.out (fun k_ hk => (⟨hk, fun e_ => by first | exact hk.2.2 (by rw [e_]; rfl) | exact hk.1 (by rw [e_]; rfl) | exact hk.2.1 (by rw [e_]; rfl)⟩ : _ ∧ k_ ≠ go52))) (fun _ hk => hk.2) (.int .i64 (Go.bits .or .i64 (rd x291001_4 x69_4) (ji51)))) (fun _ hk => by first | exact ⟨hk.1.1, ⟨hk.1.2.1, hk.1.2.2⟩⟩ | ((repeat' apply And.intro) <;> first | exact hk | exact hk.1 | exact hk.2 | exact hk.1.1 | exact hk.1.2 | exact hk.2.1 | exact hk.2.2 | exact hk.1.1.1 | exact hk.1.1.2 | exact hk.1.2.1 | exact hk.1.2.2))⟩
                       have n2_ : Aside0 (Kd.R (Kd.int .i64) 3 (w56.setCell ⟨go52, (x69_4 : Int).toNat, none⟩ (.int .i64 (Go.bits .or .i64 (rd x291001_4 x69_4) (ji51)))) w.heap.size (fun k_ => some k_ ≠ (.slice (some ad301) x5_4.length co27 : Value).ownBlock ∧ some k_ ≠ (.slice Ao29 x6_4.length co29 : Value).ownBlock ∧ some k_ ≠ (.slice (some ⟨go52, 0, none⟩) x291001_4.length co57 : Value).ownBlock) (.slice Ao55 x8_4.length co55) x8_4) := ⟨by (with_reducible repeat (first | apply Ra | apply Rn | apply Rd)); exact Kd.R_mono (Kd.R_far (p := ⟨go52, (x69_4 : Int).toNat, none⟩) (Kd.R_mono HO_8.out (fun k_ hk => (⟨hk, fun e_ => by first | exact hk.2.2 (by rw [e_]; rfl) | exact hk.1 (by rw [e_]; rfl) | exact hk.2.1 (by rw [e_]; rfl)⟩ : _ ∧ k_ ≠ go52))) (fun _ hk => hk.2) (.int .i64 (Go.bits .or .i64 (rd x291001_4 x69_4) (ji51)))) (fun _ hk => by first | exact ⟨hk.1.1, ⟨hk.1.2.1, hk.1.2.2⟩⟩ | ((repeat' apply And.intro) <;> first | exact hk | exact hk.1 | exact hk.2 | exact hk.1.1 | exact hk.1.2 | exact hk.2.1 | exact hk.2.2 | exact hk.1.1.1 | exact hk.1.1.2 | exact hk.1.2.1 | exact hk.1.2.2))⟩
                       have n3_ : Aside0 (Kd.R (Kd.int .i64) 3 (w56.setCell ⟨go52, (x69_4 : Int).toNat, none⟩ (.int .i64 (Go.bits .or .i64 (rd x291001_4 x69_4) (ji51)))) w.heap.size (fun k_ => some k_ ≠ (.slice (some ad301) x5_4.length co27 : Value).ownBlock ∧ some k_ ≠ (.slice Ao29 x6_4.length co29 : Value).ownBlock ∧ some k_ ≠ (.slice Ao55 x8_4.length co55 : Value).ownBlock) (.slice (some ⟨go52, 0, none⟩) x291001_4.length co57) y310) := ⟨by (with_reducible repeat (first | apply Ra | apply Rn | apply Rd)); exact HQ58.out⟩
                       have n4_ : Aside0 ((w56.setCell ⟨go52, (x69_4 : Int).toNat, none⟩ (.int .i64 (Go.bits .or .i64 (rd x291001_4 x69_4) (ji51)))).heap[gb284]? = some (.cells #[.int .i64 0, .slice none 0 0] 27 (0, 0))) := ⟨by (with_reducible repeat (first | refine Kn ?_ _ | refine Ke ?_ | refine Ka ?_ _)); refine blk_far ?_ (by have h_ := Kd.R_ne HO_291001.out BK284.out (by decide); intro e_; exact h_ (by rw [e_]; rfl)) _; (with_reducible repeat (first | refine Kn ?_ _ | refine Ke ?_ | refine Ka ?_ _)); exact BK284.out⟩
                       have n5_ : Aside0 ((w56.setCell ⟨go52, (x69_4 : Int).toNat, none⟩ (.int .i64 (Go.bits .or .i64 (rd x291001_4 x69_4) (ji51)))).heap[gb290]? = some (.cells #[.int .i64 (l0.length : Int), .slice (some ⟨go52, 0, none⟩) x291001_4.length co57] 27 (0, 0))) := ⟨by (with_reducible repeat (first | refine Kn ?_ _ | refine Ke ?_ | refine Ka ?_ _)); refine blk_far ?_ (by have h_ := Kd.R_ne HO_291001.out BK290.out (by decide); intro e_; exact h_ (by rw [e_]; rfl)) _; (with_reducible repeat (first | refine Kn ?_ _ | refine Ke ?_ | refine Ka ?_ _)); exact BK290.out⟩
                       have n6_ : Aside0 (Below w.heap.size w (w56.setCell ⟨go52, (x69_4 : Int).toNat, none⟩ (.int .i64 (Go.bits .or .i64 (rd x291001_4 x69_4) (ji51))))) := ⟨by repeat (first | (with_reducible first | exact HB.out | apply Ba | apply Bn | apply Bd | refine Bs ?_ GB52.out | refine Bs ?_ GE284.out | refine Bs ?_ GE290.out) | exact HB.out)⟩
                       (try clear HO_5)
                       (try clear HO_6)
                       (try clear HO_8)
                       (try clear HO_291001)
                       (try clear BK284)
                       (try clear BK290)
                       (try clear HB)
                       generalize (w56.setCell ⟨go52, (x69_4 : Int).toNat, none⟩ (.int .i64 (Go.bits .or .i64 (rd x291001_4 x69_4) (ji51)))) = w59 at n0_ n1_ n2_ n3_ n4_ n5_ n6_ ⊢
                       have HO_5 := n0_
                       have HO_6 := n1_
                       have HO_8 := n2_
                       have HO_291001 := n3_
                       have BK284 := n4_
                       have BK290 := n5_
                       have HB := n6_
                       clear n0_ n1_ n2_ n3_ n4_ n5_ n6_
                       have p311 : 0 ≤ (x69_4 : Int) := Oe (by first | (with_reducible assumption) | assumption)
                       have q311 : x69_4 < (x5_4.length : Int) := Oe (by first | (with_reducible assumption) | assumption)
                       obtain ⟨ad311, e311, hx311_0⟩ := Kd.at_int (Kd.R_reads' HO_5.out).2.2 x69_4 p311 q311
                       obtain rfl : ad301 = ad311 := (by injection e311)
                       replace p311 := eq_true p311
                       replace q311 := eq_true q311
                       have p54 : 0 ≤ (x69_4 : Int) := Oe (by first | (with_reducible assumption) | assumption)
                       have q54 : (x69_4 : Int) < ((x5_4.length : Int) : Int) := Oe (by first | (with_reducible assumption) | assumption)
                       obtain ⟨go54, co54, eo54, gb54, gl54, cl54, HG54⟩ := Kd.R_form HO_5.out (by omega)
                       (first | cases eo54 | (injection eo54 with ea_ en_ ec_; (first | subst ea_ | (injection ea_ with ea_; subst ea_)); subst ec_; clear en_))
                       have GB54 := Am gb54
                       have GG54 := Am HG54
                       clear gb54 gl54 HG54
                       (first | simp only [add_plain] at hx301_0 | skip)
                       (first | simp only [add_plain] at hx311_0 | skip)
                       obtain ⟨hx54_0, hf54_0⟩ := Kd.R_celln 0 HO_5.out (x69_4 : Int) p54 q54
                       replace p54 := eq_true p54
                       replace q54 := eq_true q54
                       obtain ⟨hy60_, hz60_⟩ := Kd.R_celln 0 HO_5.out (x69_4 : Int) (Oe (by first | (with_reducible assumption) | assumption)) (Oe (by first | (with_reducible assumption) | assumption))
                       have HP60 := Kd.R_putg HO_5.out (x69_4 : Int) (wrap64 ((rd x5_4 x69_4) - 1))
                       try go_wp2_with (first | ((with_reducible refine gate_store (t := 3) (p := 90) rfl ?_); refine store_event (t := 3) (p := 90) (v := ?vo_w61) (w1 := (w59.setCell ⟨go54, (x69_4 : Int).toNat, none⟩ (.int .i64 (wrap64 ((rd x5_4 x69_4) - 1))))) ?hg ?ho ?hn ?hr ?_; (case ho => rfl); (case hg => rfl); (case hn => rfl); (case hr => first | (go_simp; done) | (go_simp; rfl)); intro w61 hw; have hg : w59.grownBy w61 (some go54) := (by rw [hw]; exact HP60.2); have hp_ : Kd.R (Kd.int .i64) 3 w61 w.heap.size (fun k_ => some k_ ≠ (.slice Ao29 x6_4.length co29 : Value).ownBlock ∧ some k_ ≠ (.slice Ao55 x8_4.length co55 : Value).ownBlock ∧ some k_ ≠ (.slice (some ⟨go52, 0, none⟩) x291001_4.length co57 : Value).ownBlock) (.slice (some ⟨go54, 0, none⟩) x5_4.length co27) y312 := (by rw [hw, Ny312.out]; exact HP60.1); clear HP60; have n0_ := Am (hp_); have n1_ := Am (Kd.R_after (v := (.slice (some ⟨go54, 0, none⟩) x5_4.length co27)) (v1 := (.slice (some ⟨go54, 0, none⟩) x5_4.length co27)) (ok := (fun k_ => some k_ ≠ (.slice Ao55 x8_4.length co55 : Value).ownBlock ∧ some k_ ≠ (.slice (some ⟨go52, 0, none⟩) x291001_4.length co57 : Value).ownBlock)) (by (with_reducible repeat (first | apply Ra | apply Rn | apply Rd)); exact Kd.R_mono HO_6.out (fun _ hk => by first | exact ⟨⟨hk.2.1, hk.2.2⟩, hk.1⟩ | ((repeat' apply And.intro) <;> first | exact hk | exact hk.1 | exact hk.2 | exact hk.1.1 | exact hk.1.2 | exact hk.2.1 | exact hk.2.2 | exact hk.1.1.1 | exact hk.1.1.2 | exact hk.1.2.1 | exact hk.1.2.2))) hg (.inl rfl)); have n2_ := Am (Kd.R_after (v := (.slice (some ⟨go54, 0, none⟩) x5_4.length co27)) (v1 := (.slice (some ⟨go54, 0, none⟩) x5_4.length co27)) (ok := (fun k_ => some k_ ≠ (.slice Ao29 x6_4.length co29 : Value).ownBlock ∧ some k_ ≠ (.slice (some ⟨go52, 0, none⟩) x291001_4.length co57 : Value).ownBlock)) (by (with_reducible repeat (first | apply Ra | apply Rn | apply Rd)); exact Kd.R_mono HO_8.out (fun _ hk => by first | exact ⟨⟨hk.2.1, hk.2.2⟩, hk.1⟩ | ((repeat' apply And.intro) <;> first | exact hk | exact hk.1 | exact hk.2 | exact hk.1.1 | exact hk.1.2 | exact hk.2.1 | exact hk.2.2 | exact hk.1.1.1 | exact hk.1.1.2 | exact hk.1.2.1 | exact hk.1.2.2))) hg (.inl rfl)); have n3_ := Am (Kd.R_after (v := (.slice (some ⟨go54, 0, none⟩) x5_4.length co27)) (v1 := (.slice (some ⟨go54, 0, none⟩) x5_4.length co27)) (ok := (fun k_ => some k_ ≠ (.slice Ao29 x6_4.length co29 : Value).ownBlock ∧ some k_ ≠ (.slice Ao55 x8_4.length co55 : Value).ownBlock)) (by (with_reducible repeat (first | apply Ra | apply Rn | apply Rd)); exact Kd.R_mono HO_291001.out (fun _ hk => by first | exact ⟨⟨hk.2.1, hk.2.2⟩, hk.1⟩ | ((repeat' apply And.intro) <;> first | exact hk | exact hk.1 | exact hk.2 | exact hk.1.1 | exact hk.1.2 | exact hk.2.1 | exact hk.2.2 | exact hk.1.1.1 | exact hk.1.1.2 | exact hk.1.2.1 | exact hk.1.2.2))) hg (.inl rfl)); have n4_ := Am (blk_grown (g := gb284) (o := .cells #[.int .i64 0, .slice none 0 0] 27 (0, 0)) (by (with_reducible repeat (first | refine Kn ?_ _ | refine Ke ?_ | refine Ka ?_ _)); exact BK284.out) hg (Kd.R_ne HO_5.out BK284.out (by decide))); have n5_ := Am (blk_grown (g := gb290) (o := .cells #[.int .i64 (l0.length : Int), .slice (some ⟨go52, 0, none⟩) x291001_4.length co57] 27 (0, 0)) (by (with_reducible repeat (first | refine Kn ?_ _ | refine Ke ?_ | refine Ka ?_ _)); exact BK290.out) hg (Kd.R_ne HO_5.out BK290.out (by decide))); have n6_ := Am ((by rw [hw]; exact Bs (HB.out) GB54.out : Below w.heap.size w w61)); clear HO_5; clear HO_6; clear HO_8; clear HO_291001; clear BK284; clear BK290; clear HB; have HO_5 := n0_; have HO_6 := n1_; have HO_8 := n2_; have HO_291001 := n3_; have BK284 := n4_; have BK290 := n5_; have HB := n6_; clear n0_ n1_ n2_ n3_ n4_ n5_ n6_; clear hg hw hp_))
                       (try simp only [← hl5_4, ← hl6_4])
                       (try rw [show (⟨go54, (t294 : Int).toNat, none⟩ : Addr) = (⟨go54, 0, none⟩ : Addr).add (t294 : Int).toNat from by simp only [add_plain]])
                       go_roundg k4
                       case measure => have := HJ1.out; have := HK2.out; have := HK3.out; have := HK4.out; omega
                       case rel => exact ⟨(y312), (x6_4), (x8_4), (wrap64 (x69_4 + 1)), (y310), (.slice (some ⟨go52, 0, none⟩) x291001_4.length co57), (by first | rfl | (simp; done) | (simp [*]; done)), H', ⟨by have := HJ1.out; have := HK2.out; have := HK3.out; have := HK4.out; omega⟩, ⟨by (try simp only [hl5_3]); (try simp only [hl6_3]); (try simp only [hl5_4]); (try simp only [hl6_4]); (with_reducible repeat (first | apply Ra | apply Rn | apply Rd)); exact HO_5.out⟩, ⟨by (try simp only [hl5_3]); (try simp only [hl6_3]); (try simp only [hl5_4]); (try simp only [hl6_4]); (with_reducible repeat (first | apply Ra | apply Rn | apply Rd)); exact Kd.R_mono HO_6.out (fun _ hk => by first | exact ⟨hk.2, ⟨hk.1.1, hk.1.2⟩⟩ | ((repeat' apply And.intro) <;> first | exact hk | exact hk.1 | exact hk.2 | exact hk.1.1 | exact hk.1.2 | exact hk.2.1 | exact hk.2.2 | exact hk.1.1.1 | exact hk.1.1.2 | exact hk.1.2.1 | exact hk.1.2.2))⟩, ⟨by (try simp only [hl5_3]); (try simp only [hl6_3]); (try simp only [hl5_4]); (try simp only [hl6_4]); (with_reducible repeat (first | apply Ra | apply Rn | apply Rd)); exact Kd.R_mono HO_8.out (fun _ hk => by first | exact ⟨hk.2, ⟨hk.1.1, hk.1.2⟩⟩ | ((repeat' apply And.intro) <;> first | exact hk | exact hk.1 | exact hk.2 | exact hk.1.1 | exact hk.1.2 | exact hk.2.1 | exact hk.2.2 | exact hk.1.1.1 | exact hk.1.1.2 | exact hk.1.2.1 | exact hk.1.2.2))⟩, ⟨by (try simp only [hl5_3]); (try simp only [hl6_3]); (try simp only [hl5_4]); (try simp only [hl6_4]); (with_reducible repeat (first | apply Ra | apply Rn | apply Rd)); exact Kd.R_mono HO_291001.out (fun _ hk => by first | exact ⟨hk.2, ⟨hk.1.1, hk.1.2⟩⟩ | ((repeat' apply And.intro) <;> first | exact hk | exact hk.1 | exact hk.2 | exact hk.1.1 | exact hk.1.2 | exact hk.2.1 | exact hk.2.2 | exact hk.1.1.1 | exact hk.1.1.2 | exact hk.1.2.1 | exact hk.1.2.2))⟩, ⟨by (try simp only [hl5_3]); (try simp only [hl6_3]); (try simp only [hl5_4]); (try simp only [hl6_4]); (with_reducible repeat (first | refine Kn ?_ _ | refine Ke ?_ | refine Ka ?_ _)); exact BK284.out⟩, ⟨by (try simp only [hl5_3]); (try simp only [hl6_3]); (try simp only [hl5_4]); (try simp only [hl6_4]); (with_reducible repeat (first | refine Kn ?_ _ | refine Ke ?_ | refine Ka ?_ _)); exact BK290.out⟩, ⟨by repeat (first | (with_reducible first | exact HB.out | apply Ba | apply Bn | apply Bd | refine Bs ?_ GE284.out | refine Bs ?_ GE290.out) | exact HB.out)⟩⟩
                      ·
                       rw [if_neg c53] at H
                       exact absurd H (by simp)
                     ·
                      rw [if_neg c50] at H
                      exact absurd H (by simp)
                    ·
                     rw [if_neg c49] at H
                     exact absurd H (by simp)
                   ·
                    rw [if_neg c48] at H
                    exact absurd H (by simp)
                 ·
                  rw [if_neg c44] at H
                  have c44b0 : decide (x69_4 < (x5_3.length : Int)) = false := Df c44
                  (try (have c44b1 := c44b0; simp only [hl5_3, hl6_3, hl5_4, hl6_4] at c44b1))
                  clear c44
                  have H' := Am H
                  clear H
                  go_wp2
                  (try simp only [← hl5_3, ← hl6_3, ← hl5_4, ← hl6_4])
                  go_roundg k4
                  case measure => have := HJ1.out; have := HK2.out; have := HK3.out; have := HK4.out; omega
                  case rel => exact ⟨(x5_4), (x6_4), (x291001_4), (u291001), H', ⟨by have := HJ1.out; have := HK2.out; have := HK3.out; have := HK4.out; omega⟩, ⟨by (try simp only [hl5_3]); (try simp only [hl6_3]); (try simp only [hl5_4]); (try simp only [hl6_4]); (with_reducible repeat (first | apply Ra | apply Rn | apply Rd)); exact Kd.R_mono HO_5.out (fun _ hk => by first | exact ⟨hk.1, hk.2.2⟩ | ((repeat' apply And.intro) <;> first | exact hk | exact hk.1 | exact hk.2 | exact hk.1.1 | exact hk.1.2 | exact hk.2.1 | exact hk.2.2 | exact hk.1.1.1 | exact hk.1.1.2 | exact hk.1.2.1 | exact hk.1.2.2))⟩, ⟨by (try simp only [hl5_3]); (try simp only [hl6_3]); (try simp only [hl5_4]); (try simp only [hl6_4]); (with_reducible repeat (first | apply Ra | apply Rn | apply Rd)); exact Kd.R_mono HO_6.out (fun _ hk => by first | exact ⟨hk.1, hk.2.2⟩ | ((repeat' apply And.intro) <;> first | exact hk | exact hk.1 | exact hk.2 | exact hk.1.1 | exact hk.1.2 | exact hk.2.1 | exact hk.2.2 | exact hk.1.1.1 | exact hk.1.1.2 | exact hk.1.2.1 | exact hk.1.2.2))⟩, ⟨by (try simp only [hl5_3]); (try simp only [hl6_3]); (try simp only [hl5_4]); (try simp only [hl6_4]); (with_reducible repeat (first | apply Ra | apply Rn | apply Rd)); exact Kd.R_mono HO_291001.out (fun _ hk => by first | exact ⟨hk.1, hk.2.1⟩ | ((repeat' apply And.intro) <;> first | exact hk | exact hk.1 | exact hk.2 | exact hk.1.1 | exact hk.1.2 | exact hk.2.1 | exact hk.2.2 | exact hk.1.1.1 | exact hk.1.1.2 | exact hk.1.2.1 | exact hk.1.2.2))⟩, ⟨by (try simp only [hl5_3]); (try simp only [hl6_3]); (try simp only [hl5_4]); (try simp only [hl6_4]); (with_reducible repeat (first | refine Kn ?_ _ | refine Ke ?_ | refine Ka ?_ _)); exact BK284.out⟩, ⟨by (try simp only [hl5_3]); (try simp only [hl6_3]); (try simp only [hl5_4]); (try simp only [hl6_4]); (with_reducible repeat (first | refine Kn ?_ _ | refine Ke ?_ | refine Ka ?_ _)); exact BK290.out⟩, ⟨by repeat (first | (with_reducible first | exact HB.out | apply Ba | apply Bn | apply Bd | refine Bs ?_ GE284.out | refine Bs ?_ GE290.out) | exact HB.out)⟩⟩
           ·
            rw [if_neg c25] at H
            exact absurd H (by simp)
          ·
           rw [if_neg c24] at H
           exact absurd H (by simp)
         ·
          rw [if_neg c22] at H
          exact absurd H (by simp)
        ·
         rw [if_neg c20] at H
         have c20b0 : decide ((x6_2.length : Int) < (l0.length : Int)) = false := Df c20
         have c20b1 : decide (x6_2.length < l0.length) = false := Df (fun h => c20 (Int.ofNat_lt.mpr h))
         clear c20
         simp only [Option.some.injEq, Prod.mk.injEq] at H
         obtain ⟨rfl, rfl, rfl⟩ := H
         obtain ⟨Ao62, co62, eo62⟩ := Kd.R_slice HO_6.out
         subst eo62
         have hnb63 := NB290_284.out
         have hnc63 := NB284_290.out
         have hcz64_0 : wr.cell? ⟨gb290, 0, none⟩ = some (.int .i64 (l0.length : Int)) := (Kc BK290.out 0).trans rfl
         have hcz64_1 : wr.cell? ⟨gb290, 1, none⟩ = some (u291001) := (Kc BK290.out 1).trans rfl
         have hfz64_0 := Kf BK290.out 0
         have hfz64_1 := Kf BK290.out 1
         have hcz65_0 : wr.cell? ⟨gb284, 0, none⟩ = some (.int .i64 0) := (Kc BK284.out 0).trans rfl
         have hcz65_1 : wr.cell? ⟨gb284, 1, none⟩ = some (.slice none 0 0) := (Kc BK284.out 1).trans rfl
         have hfz65_0 := Kf BK284.out 0
         have hfz65_1 := Kf BK284.out 1
         obtain ⟨Ao66, co66, eo66⟩ := Kd.R_slice HO_291001.out
         subst eo66
         go_wp2
         refine bodyPost_ret (results_ct rfl _ _ gb284 27 #[.int .i64 (l0.length : Int), .slice Ao66 x291001_2.length co66] (0, 0) _ rfl (by (with_reducible repeat (first | refine Kn ?_ _ | refine Ke ?_ | refine Ka ?_ _)); refine blk_put (cs := #[.int .i64 (l0.length : Int), .slice none 0 0]) ?_ 1 _ rfl; (with_reducible repeat (first | refine Kn ?_ _ | refine Ke ?_ | refine Ka ?_ _)); refine blk_put (cs := #[.int .i64 0, .slice none 0 0]) ?_ 0 _ rfl; (with_reducible repeat (first | refine Kn ?_ _ | refine Ke ?_ | refine Ka ?_ _)); exact BK284.out) Try.underlying27 rfl (by kernel_rfl)) rfl ?_
         exact ⟨_, by first | rfl | (simp [errW_none, errW_some] <;> rfl) | (simp [*, errW_none, errW_some] <;> rfl), by (with_reducible repeat (first | apply Ra | apply Rn | apply Rd)); exact Kd.R_mono (Kd.R_far (p := ⟨gb284, 1, none⟩) (Kd.R_far (p := ⟨gb284, 0, none⟩) (Kd.R_types HO_291001.out BK284.out (by decide)) (fun _ hk => hk.2) (.int .i64 (l0.length : Int))) (fun _ hk => hk.2) (.slice Ao66 x291001_2.length co66)) (fun _ hk => trivial), by repeat (first | (with_reducible first | exact HB.out | apply Ba | apply Bn | apply Bd | refine Bs ?_ GE284.out | refine Bs ?_ GE290.out) | exact HB.out)⟩
     ·
      rw [if_neg c11] at H
      exact absurd H (by simp)
    ·
     rw [if_neg c10] at H
     exact absurd H (by simp)
def impl_RefusingScores.f (k : Nat) (l0 : List Int) : Option (Int × Bool) := (impl_IsList.f k l0).bind fun t313 => (if t313 = true then ((impl_refusingScores.f l0).bind fun t314 => (some (t314, decide (t314 > 0)))) else (some (0, false)))
theorem impl_RefusingScores.mono : ∀ a0 k, LeO (impl_RefusingScores.f k a0) (impl_RefusingScores.f (k + 1) a0) := by
 intro a0 k
 unfold impl_RefusingScores.f
 repeat' first
   | (with_reducible exact impl_IsList.mono _ _)
   | (with_reducible exact LeO.refl _)
   | (with_reducible exact LeO.none _)
   | (with_reducible refine LeO.ite ?_ ?_)
   | (with_reducible refine LeO.bind ?_ (fun _ => ?_))
   | exact impl_IsList.mono _ _
   | exact LeO.none _
   | refine LeO.ite ?_ ?_
   | refine LeO.bind ?_ (fun _ => ?_)
set_option maxHeartbeats 8000000 in
set_option maxRecDepth 100000 in
theorem impl_RefusingScores.calls (k : Nat) (A0 : Option Addr) (c0 : Nat) (l0 : List Int) (r1 : Int) (r2 : Bool) (w : World) (hr0 : Kd.C (Kd.int .i64) w A0 l0.length l0) (hc0 : l0.length ≤ c0) (h : impl_RefusingScores.f k l0 = some (r1, r2)) :
  Calls Try.prog 9 #[.slice A0 l0.length c0] w fun e w' => e = .returned (.tuple #[.int .i64 r1, .bool r2]) ∧ Below w.heap.size w w' := by
 have HR0 := Am hr0
 have HC0 := Am hc0
 clear hr0 hc0
 have HB := Am (Below.refl w.heap.size w)
 have H : ((impl_IsList.f k l0).bind fun t313 => (if t313 = true then ((impl_refusingScores.f l0).bind fun t314 => (some (t314, decide (t314 > 0)))) else (some (0, false)))) = some (r1, r2) := h
 clear h
 replace H := Option.bind_eq_some_iff.mp H
 obtain ⟨t313, A20, H⟩ := H
 replace H : (if t313 = true then ((impl_refusingScores.f l0).bind fun t314 => (some (t314, decide (t314 > 0)))) else (some (0, false))) = some (r1, r2) := H
 have A2 := Am A20
 clear A20
 by_cases c3 : t313 = true
 ·
  subst c3
  have H1 : ((impl_refusingScores.f l0).bind fun t314 => (some (t314, decide (t314 > 0)))) = some (r1, r2) := by rw [if_pos rfl] at H; exact H
  clear H
  have H := H1
  clear H1
  replace H := Option.bind_eq_some_iff.mp H
  obtain ⟨t314, A40, H⟩ := H
  replace H : (some (t314, decide (t314 > 0))) = some (r1, r2) := H
  have A4 := Am A40
  clear A40
  simp only [Option.some.injEq, Prod.mk.injEq] at H
  obtain ⟨rfl, rfl⟩ := H
  go_enter Try.func9, Try.ntmps9
  go_wp2_with (first | ((with_reducible refine gate_callee (f := 15) rfl ?_); refine goesL_ (some 6) rfl rfl Try.func15 (by kernel_rfl) rfl #[.slice A0 l0.length c0] rfl (by (try simp only [List.map_toArray, List.map_cons, List.map_nil]); first | done | rfl) ?_; (with_reducible refine (impl_IsList.calls k _ _ l0 true _ ?side1 ?side2 A2.out).mono ?_); (case side1 => repeat (first | exact HR0.out | (with_reducible refine Ca ?_ _) | (with_reducible refine Cn ?_ _) | (with_reducible refine Cd ?_))); (case side2 => exact HC0.out); rintro e w' ⟨rfl, ⟨nd, rfl⟩⟩; refine ⟨_, rfl, ?_⟩) | ((with_reducible refine gate_callee (f := 29) rfl ?_); refine goesL_ (some 9) rfl rfl Try.func29 (by kernel_rfl) rfl #[.slice A0 l0.length c0] rfl (by (try simp only [List.map_toArray, List.map_cons, List.map_nil]); first | done | rfl) ?_; (with_reducible refine (impl_refusingScores.calls _ _ l0 t314 _ ?side1 ?side2 A4.out).mono ?_); (case side1 => repeat (first | exact HR0.out | (with_reducible refine Ca ?_ _) | (with_reducible refine Cn ?_ _) | (with_reducible refine Cd ?_))); (case side2 => exact HC0.out); rintro e w5 ⟨rfl, hb⟩; refine ⟨_, rfl, ?_⟩; have n0_ := Am (below_step (by repeat (first | (with_reducible first | exact HB.out | apply Ba | apply Bn | apply Bd))) hb); clear HB; have HB := n0_; clear n0_; (try clear hb); (try clear hb2); (try clear hk); (try clear hi)))
  go_ret2
  exact ⟨by first | rfl | (simp [errW_none, errW_some] <;> rfl) | (simp [*, errW_none, errW_some] <;> rfl), by repeat (first | (with_reducible first | exact HB.out | apply Ba | apply Bn | apply Bd) | exact HB.out)⟩
 ·
  replace c3 := Bool.eq_false_iff.mpr c3
  subst c3
  have H1 : (some (0, false)) = some (r1, r2) := by rw [if_neg (show ¬ (false = true) by decide)] at H; exact H
  clear H
  have H := H1
  clear H1
  simp only [Option.some.injEq, Prod.mk.injEq] at H
  obtain ⟨rfl, rfl⟩ := H
  go_enter Try.func9, Try.ntmps9
  go_wp2_with (first | ((with_reducible refine gate_callee (f := 15) rfl ?_); refine goesL_ (some 6) rfl rfl Try.func15 (by kernel_rfl) rfl #[.slice A0 l0.length c0] rfl (by (try simp only [List.map_toArray, List.map_cons, List.map_nil]); first | done | rfl) ?_; (with_reducible refine (impl_IsList.calls k _ _ l0 false _ ?side1 ?side2 A2.out).mono ?_); (case side1 => repeat (first | exact HR0.out | (with_reducible refine Ca ?_ _) | (with_reducible refine Cn ?_ _) | (with_reducible refine Cd ?_))); (case side2 => exact HC0.out); rintro e w' ⟨rfl, ⟨nd, rfl⟩⟩; refine ⟨_, rfl, ?_⟩))
  go_ret2
  exact ⟨by first | rfl | (simp [errW_none, errW_some] <;> rfl) | (simp [*, errW_none, errW_some] <;> rfl), by repeat (first | (with_reducible first | exact HB.out | apply Ba | apply Bn | apply Bd) | exact HB.out)⟩
end Go.Proofs.Ytcheoendfcgjgaa.P
namespace Go.Proofs.Ytcheoendfcgjgaa.K
open Go Go.RowKit Go.Proofs.YtcheoendfcgjgaaW.PrintWords Go.Proofs.YtcheoendfcgjgaaW.PrintLast Go.Proofs.YtcheoendfcgjgaaW.PrintMore Go.Proofs.Ytcheoendfcgjgaa.P
structure IRow (W : World) (base g cap : Nat) (xs : List Int) : Prop where
  base : base ≤ g
  blk : ∃ (cur : Array Value), W.heap[g]? = some (.cells cur 3 (0, 0)) ∧ cur.size = cap ∧ cur.toList.take xs.length = xs.map (Value.int .i64)
  le : xs.length ≤ cap
  max : cap ≤ maxLen
theorem IRow.lt {W : World} {base g cap : Nat} {xs : List Int} (h : IRow W base g cap xs) : g < W.heap.size := by
  obtain ⟨cur, h1, _⟩ := h.blk
  exact (Array.getElem?_eq_some_iff.1 h1).1
theorem IRow.keep {W W2 : World} {base g cap : Nat} {xs : List Int} (h : IRow W base g cap xs) (hk : W2.heap[g]? = W.heap[g]?) : IRow W2 base g cap xs := by
  obtain ⟨cur, h1, h2⟩ := h.blk
  exact ⟨h.base, ⟨cur, hk.trans h1, h2⟩, h.le, h.max⟩
theorem IRow.ofR {W : World} {base : Nat} {ok : Nat → Prop} {v : Value} {xs : List Int} (h : (Kd.int .i64).R 3 W base ok v xs) (hp : 0 < xs.length) : ∃ g cap, v = .slice (some ⟨g, 0, none⟩) xs.length cap ∧ IRow W base g cap xs ∧ ok g := by
  have hok := h.1
  obtain ⟨hn, hh⟩ := Kd.own_of_R h
  rcases hh with ⟨h0, h1⟩ | ⟨g, cap, cur, hv, hbase, hbk, h1, h2, h3, h4⟩
  · simp at h1; simp [h1] at hp
  · subst hv
    rw [Nat.mul_one] at h4
    exact ⟨g, cap, rfl, ⟨hbase, ⟨cur, hbk, by simpa using h3, h4⟩, h1, h2⟩, hok g rfl⟩
theorem IRow.toR {W : World} {base g cap : Nat} {xs : List Int} (h : IRow W base g cap xs) : (Kd.int .i64).R 3 W base (fun k => k = g) (.slice (some ⟨g, 0, none⟩) xs.length cap) xs := by
  obtain ⟨cur, h1, h2, h3⟩ := h.blk
  refine Kd.R_of_own (enc := Value.int .i64) ⟨by simp [encs], .inr ⟨g, cap, cur, rfl, h.base, h1, h.le, h.max, by simpa using h2, by rw [Nat.mul_one]; exact h3⟩⟩ (fun k hk => ?_)
  have : g = k := by simpa [Value.ownBlock] using hk
  exact this.symm
theorem IRow.at {W : World} {base g cap : Nat} {xs : List Int} (h : IRow W base g cap xs) (j : Nat) (hj : j < xs.length) : W.cell? ⟨g, j, none⟩ = some (.int .i64 (xs.getD j 0)) := by
  obtain ⟨cur, h1, h2, h4⟩ := h.blk
  rw [cell_of_row W g j cur _ (0, 0) h1]
  have h5 : (cur.toList.take xs.length)[j]? = (xs.map (Value.int .i64))[j]? := by rw [h4]
  rw [List.getElem?_take_of_lt hj, Array.getElem?_toList] at h5
  rw [h5, List.getElem?_map, List.getElem?_eq_getElem hj, List.getD_eq_getElem?_getD, List.getElem?_eq_getElem hj]
  rfl
theorem IRow.free {W : World} {base g cap : Nat} {xs : List Int} (h : IRow W base g cap xs) (j : Nat) : W.frozen? ⟨g, j, none⟩ = false := by
  obtain ⟨cur, h1, _⟩ := h.blk
  simp [World.frozen?, h1]
theorem IRow.set {W : World} {base g cap : Nat} {xs : List Int} (h : IRow W base g cap xs) (j : Nat) (hj : j < xs.length) (v : Int) : IRow (W.setCell ⟨g, j, none⟩ (.int .i64 v)) base g cap (xs.set j v) := by
  obtain ⟨cur, h1, h2, h4⟩ := h.blk
  have hle := h.le
  refine ⟨h.base, ⟨cur.setIfInBounds j (.int .i64 v), ?_, by simp [h2], ?_⟩, by rw [List.length_set]; exact h.le, h.max⟩
  · rw [setCell_eq_setRow W g _ cur _ (0, 0) _ h1]
    exact setRow_heap W g cur _ _ _ h1
  · rw [List.length_set, Array.toList_setIfInBounds, List.take_set, h4, List.map_set]
theorem set_heap {W : World} {g j k : Nat} {v : Value} (h : k ≠ g) : (W.setCell ⟨g, j, none⟩ v).heap[k]? = W.heap[k]? := Below.heap_setCell _ _ _ k (fun e => h e)
theorem iInfo : (Try.prog.info? 3).map (fun i => (i.zero, i.size, i.bytes)) = some (some (.int .i64 0), 1, 8) := by kernel_rfl
theorem IRow.append {w : World} {base g cap : Nat} {xs : List Int} (h : IRow w base g cap xs) {ops : Array Oper} {rest : List Oper} {o : Oper} {a : Act} {Q : Exit → Act → World → Prop} (hg : o.guard = none) (s x : Operand) (hop : o.op = Op.call { callee := Callee.builtin Builtin.append, args := #[s, x], argTypes := #[24, 24] })
    (hs : a.eval s = .slice (some ⟨g, 0, none⟩) xs.length cap) (ad : Addr) (c : Nat) (b : Int) (hx : a.eval x = .slice (some ad) 1 c) (hc : w.cell? ad = some (Value.int .i64 b)) (hl : xs.length ≤ 1000) (hbase : base ≤ w.heap.size)
    (hK : ∀ g' cap' w', IRow w' base g' cap' (xs ++ [b]) → w.grownBy w' (some g) → (g' = g ∨ w.heap.size ≤ g') → wpList Try.prog ops Q rest (a.put o.dst (.slice (some ⟨g', 0, none⟩) (xs ++ [b]).length cap')) w') :
    wpList Try.prog ops Q (o :: rest) a w := by
  obtain ⟨i0, hi0, hz0, hz1, hz2⟩ := info_parts iInfo
  obtain ⟨cur, h1, h2, h4⟩ := h.blk
  have h3 : (((0, 0) : Nat × Nat).2 = 0 ∨ cap ≤ ((0, 0) : Nat × Nat).1) := .inl rfl
  have hle := h.le
  refine wpList_append_arg w hg s x 24 hop 3 i0 (.int .i64 0) 1 8 Try.underlying24 hi0 hz0 hz1 hz2 rfl (by decide) g 0 xs.length cap (xs.map (Value.int .i64)) hs (by simp)
    (fun j u hj => ?_) ad 1 c [Value.int .i64 b] hx rfl (fun j u hj => ?_) (by simp [Value.oneCell']) (fun hr j hj => ?_) (by unfold maxLen; omega) (by omega) (fun hr => ?_) (fun hr v' w' ho hg' => ?_)
  · rw [Nat.zero_add]
    have hj' : j < xs.length := by have := (List.getElem?_eq_some_iff.1 hj).1; simpa using this
    rw [h.at j hj']
    rw [List.getElem?_map, List.getElem?_eq_getElem hj'] at hj
    rw [List.getD_eq_getElem?_getD, List.getElem?_eq_getElem hj']
    simpa using hj
  · cases j with
    | zero => rw [List.getElem?_cons_zero] at hj; obtain rfl := Option.some.inj hj; rw [Addr.add_zero']; exact hc
    | succ j => simp at hj
  · have hj0 : j = 0 := by simpa using hj
    subst hj0
    have e : 0 + xs.length * 1 + 0 = xs.length := by omega
    rw [e]
    refine ⟨by rw [cell_of_row w g _ cur _ (0, 0) h1]; simp; omega, ?_⟩
    simp only [World.frozen?, h1, Bool.and_eq_false_iff, decide_eq_false_iff_not]
    omega
  · have e : (xs ++ [b]).length = xs.length + 1 := by simp
    have hcell : w.setCells g (0 + xs.length * 1) [Value.int .i64 b] = w.setRow g (cur.setIfInBounds xs.length (Value.int .i64 b)) := by
      have e2 : 0 + xs.length * 1 = xs.length := by omega
      rw [e2, World.setCells, World.setCells, setCell_eq_setRow w g _ cur _ (0, 0) _ h1]
    have := hK g cap (w.setCells g (0 + xs.length * 1) [Value.int .i64 b]) ⟨h.base, ⟨cur.setIfInBounds xs.length (Value.int .i64 b), by rw [hcell]; exact setRow_heap w g cur _ _ _ h1, by simp [h2], ?_⟩, by omega, h.max⟩ ?_
    · rw [e] at this; exact this (.inl rfl)
    · rw [e, Array.toList_setIfInBounds, List.take_set, List.map_append]
      have h5 : cur.toList.take (xs.length + 1) = xs.map (Value.int .i64) ++ [cur.toList.getD xs.length undef] := by
        rw [List.take_add_one, h4]
        have : xs.length < cur.toList.length := by simp; omega
        rw [List.getD_eq_getElem?_getD, List.getElem?_eq_getElem this]; rfl
      rw [h5, List.set_append_right _ _ (by simp)]
      simp
    · obtain ⟨s1, s2, s3⟩ := setCells_same g [Value.int .i64 b] (0 + xs.length * 1) w
      exact ⟨s1, s2, s3.1, by rw [s3.2]; exact Nat.le_refl _, fun k hk hne => setCells_far _ _ k (fun e => hne (by rw [e]))⟩
  · rcases ho.2 with ⟨_, h0⟩ | ⟨g', cap', cur', rfl, hb', hg2, r1, r2, r3, r4⟩
    · omega
    · have e : (xs ++ [b]).length = xs.length + 1 := by simp
      have := hK g' cap' w' ⟨Nat.le_trans hbase hb', ⟨cur', hg2, by omega, ?_⟩, by omega, r2⟩ ⟨hg'.os, hg'.tape, hg'.output, hg'.size, fun k hk _ => hg'.block k hk (by simp)⟩
      · rw [e] at this; exact this (.inr hb')
      · rw [e, List.map_append]
        rw [Nat.mul_one] at r4
        exact r4
end Go.Proofs.Ytcheoendfcgjgaa.K
namespace Go.Proofs.Ytcheoendfcgjgaa.K
open Go.RowKit Go.Proofs.YtcheoendfcgjgaaW.PrintWords
def EvB (g : Nat → Option Bool) (P : Prop) : Prop := (P → Ev g true) ∧ (¬ P → Ev g false)
theorem EvB.congr {g : Nat → Option Bool} {P Q : Prop} (h : EvB g P) (e : P ↔ Q) : EvB g Q := ⟨fun q => h.1 (e.2 q), fun q => h.2 (fun p => q (e.1 p))⟩
theorem EvB.ev {g : Nat → Option Bool} {P : Prop} (h : EvB g P) : ∃ b : Bool, Ev g b ∧ (b = true ↔ P) := by
  by_cases p : P
  · exact ⟨true, h.1 p, by simp [p]⟩
  · exact ⟨false, h.2 p, by simp [p]⟩
theorem EvB.of {g : Nat → Option Bool} {P : Prop} {b : Bool} (h : Ev g b) (e : b = true ↔ P) : EvB g P := by
  cases b with
  | true => exact ⟨fun _ => h, fun p => absurd (e.1 rfl) p⟩
  | false => exact ⟨fun p => absurd (e.2 p) (by simp), fun _ => h⟩
theorem EvB.true_ : EvB (fun _ => some true) True := ⟨fun _ => Ev.now _, fun h => absurd trivial h⟩
theorem EvB.false_ : EvB (fun _ => some false) False := ⟨fun h => h.elim, fun _ => Ev.now _⟩
theorem EvB.now (b : Bool) : EvB (fun _ => some b) (b = true) := EvB.of (Ev.now b) Iff.rfl
theorem EvB.fn {g f : Nat → Option Bool} {P : Prop} (h : ∀ k, g k = f k) (k : EvB f P) : EvB g P := ⟨fun p => Ev.congr h (k.1 p), fun p => Ev.congr h (k.2 p)⟩
theorem EvB.step {g f : Nat → Option Bool} {P : Prop} (h : ∀ k, g (k + 1) = f k) (k : EvB f P) : EvB g P := ⟨fun p => Ev.step h (k.1 p), fun p => Ev.step h (k.2 p)⟩
theorem EvB.ite {c : Prop} [Decidable c] {f g : Nat → Option Bool} {P Q : Prop} (h1 : c → EvB f P) (h2 : ¬ c → EvB g Q) : EvB (fun k => if c then f k else g k) ((c ∧ P) ∨ (¬ c ∧ Q)) := by
  by_cases h : c
  · simpa [h] using h1 h
  · simpa [h] using h2 h
theorem EvB.and {c : Prop} [Decidable c] {f : Nat → Option Bool} {P : Prop} (h1 : c → EvB f P) : EvB (fun k => if c then f k else some false) (c ∧ P) := by
  by_cases h : c
  · simpa [h] using h1 h
  · simpa [h] using EvB.false_
theorem EvB.bind {α : Type} {g : Nat → Option α} {f : Nat → α → Option Bool} {a : α} {P : Prop} (h : Ev g a) (k : EvB (fun n => f n a) P) : EvB (fun n => (g n).bind (f n)) P :=
  ⟨fun p => Ev.bind h (k.1 p), fun p => Ev.bind h (k.2 p)⟩
theorem allLoop (g : Nat → Nat → Option Bool) (n : Nat) (P : Nat → Prop) (Q : Prop) (hend : EvB (g n) Q)
    (hs : ∀ j, j < n → ∀ R, EvB (g (j + 1)) R → EvB (g j) (P j ∧ R)) : ∀ d j, j + d = n → EvB (g j) ((∀ i, j ≤ i → i < n → P i) ∧ Q) := by
  intro d
  induction d with
  | zero =>
    intro j hj
    obtain rfl : j = n := by omega
    exact hend.congr ⟨fun q => ⟨fun i h1 h2 => by omega, q⟩, fun h => h.2⟩
  | succ d ih =>
    intro j hj
    refine (hs j (by omega) _ (ih (j + 1) (by omega))).congr ⟨?_, ?_⟩
    · rintro ⟨h1, h2, h3⟩
      refine ⟨fun i h4 h5 => ?_, h3⟩
      by_cases e : i = j
      · subst e; exact h1
      · exact h2 i (by omega) h5
    · rintro ⟨h1, h2⟩
      exact ⟨h1 j (Nat.le_refl _) (by omega), fun i h4 h5 => h1 i (by omega) h5, h2⟩
theorem allLoop0 (g : Nat → Nat → Option Bool) (n : Nat) (P : Nat → Prop) (Q : Prop) (hend : EvB (g n) Q)
    (hs : ∀ j, j < n → ∀ R, EvB (g (j + 1)) R → EvB (g j) (P j ∧ R)) : EvB (g 0) ((∀ i, i < n → P i) ∧ Q) :=
  (allLoop g n P Q hend hs n 0 (by omega)).congr ⟨fun h => ⟨fun i hi => h.1 i (Nat.zero_le _) hi, h.2⟩, fun h => ⟨fun i _ hi => h.1 i hi, h.2⟩⟩
theorem wrap_nat (i : Nat) (h : i < 9223372036854775807) : wrap64 ((i : Int) + 1) = ((i + 1 : Nat) : Int) := by unfold wrap64; omega
def ints (ns : List Nat) : List Int := ns.map (fun n : Nat => (n : Int))
theorem ints_length (ns : List Nat) : (ints ns).length = ns.length := by simp [ints]
theorem rd_ints (ns : List Nat) (i : Nat) : rd (ints ns) (i : Int) = ((ns.getD i 0 : Nat) : Int) := by
  simp only [rd, ints, Int.toNat_natCast, List.getD_eq_getElem?_getD, List.getElem?_map]
  cases ns[i]? <;> simp
theorem ints_of (l : List Int) (h : ∀ x ∈ l, 0 ≤ x) : ∃ ns, l = ints ns := by
  refine ⟨l.map Int.toNat, ?_⟩
  simp only [ints, List.map_map]
  rw [List.map_congr_left (g := id) (fun x hx => by have := h x hx; simp; omega)]
  simp
theorem ints_set (ns : List Nat) (i v : Nat) : (ints ns).set (i : Int).toNat (v : Int) = ints (ns.set i v) := by simp [ints, List.map_set]
end Go.Proofs.Ytcheoendfcgjgaa.K
namespace Go.Proofs.Ytcheoendfcgjgaa.K
open Go.RowKit Go.Proofs.YtcheoendfcgjgaaW.PrintWords Go.Proofs.YtcheoendfcgjgaaW.PrintMore
theorem wrap_i64 (n : Int) (h0 : 0 ≤ n) (h1 : n < 2 ^ 62) : IntKind.i64.wrap n = n := by
  have : IntKind.i64.wrap n = wrap64 n := by simp [IntKind.wrap, IntKind.bits, IntKind.signed, wrap64]; omega
  rw [this]; unfold wrap64; omega
theorem and_nat (a b : Nat) (ha : a < 2 ^ 62) (hb : b < 2 ^ 62) : Go.bits .and .i64 (a : Int) (b : Int) = ((a &&& b : Nat) : Int) := (bits_nat .i64 62 (by decide) wrap_i64 a b ha hb).1
theorem or_nat (a b : Nat) (ha : a < 2 ^ 62) (hb : b < 2 ^ 62) : Go.bits .or .i64 (a : Int) (b : Int) = ((a ||| b : Nat) : Int) := (bits_nat .i64 62 (by decide) wrap_i64 a b ha hb).2
theorem bv_nat (a : Nat) (ha : a < 2 ^ 62) : a % 2 ^ 64 = a := Nat.mod_eq_of_lt (by omega)
theorem andNot_nat (a b : Nat) (ha : a < 2 ^ 62) (hb : b < 2 ^ 62) : Go.bits .andNot .i64 (a : Int) (b : Int) = ((a ^^^ (a &&& b) : Nat) : Int) := by
  simp only [Go.bits, show IntKind.i64.bits = 64 from rfl, BitVec.ofInt_natCast]
  have h1 : (BitVec.ofNat 64 a) &&& ~~~ (BitVec.ofNat 64 b) = (BitVec.ofNat 64 a) ^^^ ((BitVec.ofNat 64 a) &&& (BitVec.ofNat 64 b)) := by
    ext i hi; simp only [BitVec.getElem_and, BitVec.getElem_xor, BitVec.getElem_not]
    cases (BitVec.ofNat 64 a)[i] <;> cases (BitVec.ofNat 64 b)[i] <;> rfl
  have h2 : ((BitVec.ofNat 64 a) ^^^ ((BitVec.ofNat 64 a) &&& (BitVec.ofNat 64 b))).toNat = a ^^^ (a &&& b) := by
    rw [BitVec.toNat_xor, BitVec.toNat_and, BitVec.toNat_ofNat, BitVec.toNat_ofNat, bv_nat a ha, bv_nat b hb]
  have h3 : ((BitVec.ofNat 64 a) &&& ~~~ (BitVec.ofNat 64 b)).toNat = a ^^^ (a &&& b) := by rw [h1, h2]
  have h4 : a ^^^ (a &&& b) < 2 ^ 62 := Nat.xor_lt_two_pow ha (Nat.lt_of_le_of_lt Nat.and_le_left ha)
  refine Eq.trans (congrArg (fun n : Nat => IntKind.i64.wrap (n : Int)) h3) ?_
  exact wrap_i64 _ (by omega) (by exact_mod_cast h4)
theorem testBit_andNot (a b i : Nat) : (a ^^^ (a &&& b)).testBit i = (a.testBit i && !b.testBit i) := by
  rw [Nat.testBit_xor, Nat.testBit_and]
  cases a.testBit i <;> cases b.testBit i <;> rfl
theorem shl_one (i : Nat) (h : i ≤ 61) : shl .i64 1 (i : Int) = ((2 ^ i : Nat) : Int) := by
  unfold shl
  have h1 : min ((i : Int).toNat) IntKind.i64.bits = i := by simp [show IntKind.i64.bits = 64 from rfl]; omega
  rw [h1, Int.one_mul]
  have h2 : 2 ^ i ≤ 2 ^ 61 := Nat.pow_le_pow_right (by decide) h
  rw [wrap_i64 _ (by exact_mod_cast Nat.zero_le (2 ^ i)) (by exact_mod_cast Nat.lt_of_le_of_lt h2 (by decide))]
  exact_mod_cast rfl
theorem shr_nat (a i : Nat) (ha : a < 2 ^ 62) : shr .i64 (a : Int) (i : Int) = ((a >>> i : Nat) : Int) := by
  unfold shr
  rw [Nat.shiftRight_eq_div_pow]
  have e : min ((i : Int).toNat) IntKind.i64.bits = min i 64 := by simp [show IntKind.i64.bits = 64 from rfl]
  rw [e]
  have : a / 2 ^ i = a / 2 ^ (min i 64) := by
    by_cases h : i ≤ 64
    · rw [Nat.min_eq_left h]
    · rw [Nat.min_eq_right (by omega), Nat.div_eq_of_lt (Nat.lt_of_lt_of_le ha (Nat.pow_le_pow_right (by decide) (by omega))), Nat.div_eq_of_lt (Nat.lt_of_lt_of_le ha (by decide))]
  rw [this]
  exact_mod_cast rfl
theorem bit_one (a : Nat) (i : Nat) : (a >>> i) &&& 1 = if a.testBit i then 1 else 0 := by
  rw [Nat.and_one_is_mod, Nat.testBit, Nat.and_comm, Nat.and_one_is_mod]
  rcases Nat.mod_two_eq_zero_or_one (a >>> i) with h | h <;> simp [h]
theorem bit_mod (a : Nat) (i : Nat) : (a >>> i) % 2 = if a.testBit i then 1 else 0 := by rw [← Nat.and_one_is_mod, bit_one]
theorem hasB (a i : Nat) (ha : a < 2 ^ 62) : (Go.bits .and .i64 (shr .i64 (a : Int) (i : Int)) 1 == 1) = a.testBit i := by
  rw [shr_nat a i ha, show (1 : Int) = ((1 : Nat) : Int) from rfl, and_nat _ _ (Nat.lt_of_le_of_lt (by rw [Nat.shiftRight_eq_div_pow]; exact Nat.div_le_self _ _) ha) (by decide), bit_one]
  cases a.testBit i <;> rfl
theorem deHasB (a i : Nat) (ha : a < 2 ^ 62) : (Int.tmod (shr .i64 (a : Int) (i : Int)) 2 == 1) = a.testBit i := by
  rw [shr_nat a i ha, show (2 : Int) = ((2 : Nat) : Int) from rfl, ← Int.ofNat_tmod, bit_mod]
  cases a.testBit i <;> rfl
def nb (ns : List Nat) (i j : Nat) : Bool := (ns.getD i 0).testBit j
structure Sets (n : Nat) (ns : List Nat) : Prop where
  n1 : 1 ≤ n
  n8 : n ≤ 8
  len : ns.length = n
  lt : ∀ x ∈ ns, x < 2 ^ n
theorem Sets.get {n : Nat} {ns : List Nat} (h : Sets n ns) (i : Nat) : ns.getD i 0 < 2 ^ n := by
  rw [List.getD_eq_getElem?_getD]
  cases e : ns[i]? with
  | none => simp; exact Nat.two_pow_pos n
  | some x => exact h.lt x (List.mem_of_getElem? e)
theorem pow8 {n : Nat} (h : n ≤ 8) : 2 ^ n ≤ 256 := Nat.le_trans (Nat.pow_le_pow_right (by decide) h) (by decide)
theorem Sets.get62 {n : Nat} {ns : List Nat} (h : Sets n ns) (i : Nat) : ns.getD i 0 < 2 ^ 62 := Nat.lt_of_lt_of_le (h.get i) (Nat.le_trans (pow8 h.n8) (by decide))
theorem Sets.nb_lt {n : Nat} {ns : List Nat} (h : Sets n ns) {i j : Nat} (hj : n ≤ j) : nb ns i j = false :=
  Nat.testBit_lt_two_pow (Nat.lt_of_lt_of_le (h.get i) (Nat.pow_le_pow_right (by decide) hj))
theorem nb_set (ns : List Nat) (x v a b : Nat) (hx : x < ns.length) : nb (ns.set x v) a b = if a = x then v.testBit b else nb ns a b := by
  unfold nb
  rw [List.getD_eq_getElem?_getD, List.getElem?_set]
  by_cases h : a = x
  · subst h; simp [hx]
  · rw [if_neg (fun e => h e.symm), if_neg h, List.getD_eq_getElem?_getD]
theorem sets_set {n : Nat} {ns : List Nat} (h : Sets n ns) (x v : Nat) (hv : v < 2 ^ n) : Sets n (ns.set x v) :=
  ⟨h.n1, h.n8, by rw [List.length_set, h.len], fun y hy => by
    rcases List.mem_or_eq_of_mem_set hy with c | c
    · exact h.lt y c
    · omega⟩
theorem sets_or {n : Nat} {ns : List Nat} (h : Sets n ns) (x y : Nat) (hy : y < n) : Sets n (ns.set x (ns.getD x 0 ||| 2 ^ y)) :=
  sets_set h _ _ (Nat.or_lt_two_pow (h.get x) (Nat.pow_lt_pow_right (by decide) hy))
theorem sets_andNot {n : Nat} {ns : List Nat} (h : Sets n ns) (x y : Nat) : Sets n (ns.set x (ns.getD x 0 ^^^ (ns.getD x 0 &&& 2 ^ y))) :=
  sets_set h _ _ (Nat.xor_lt_two_pow (h.get x) (Nat.lt_of_le_of_lt Nat.and_le_left (h.get x)))
theorem nb_or {ns : List Nat} (x y : Nat) (hx : x < ns.length) (a b : Nat) : nb (ns.set x (ns.getD x 0 ||| 2 ^ y)) a b = (nb ns a b || (decide (a = x) && decide (b = y))) := by
  rw [nb_set _ _ _ _ _ hx]
  by_cases h : a = x
  · subst h
    rw [if_pos rfl, Nat.testBit_or, Nat.testBit_two_pow]
    simp [nb, eq_comm]
  · rw [if_neg h]; simp [h]
theorem nb_andNot {ns : List Nat} (x y : Nat) (hx : x < ns.length) (a b : Nat) : nb (ns.set x (ns.getD x 0 ^^^ (ns.getD x 0 &&& 2 ^ y))) a b = (nb ns a b && !(decide (a = x) && decide (b = y))) := by
  rw [nb_set _ _ _ _ _ hx]
  by_cases h : a = x
  · subst h
    rw [if_pos rfl, testBit_andNot, Nat.testBit_two_pow]
    simp [nb, eq_comm]
  · rw [if_neg h]; simp [h]
end Go.Proofs.Ytcheoendfcgjgaa.K
namespace Go.Proofs.Ytcheoendfcgjgaa.K
open Go.RowKit Go.Proofs.YtcheoendfcgjgaaW.PrintWords Go.Proofs.Ytcheoendfcgjgaa.P
theorem l1Has_l0 (x : Int) (t : Int) : ∀ (rest done : List Int), (done ++ rest).length ≤ BM → Ev (fun k => spec_l1Has.l0 k x (done ++ rest) ((done ++ rest).length : Int) (done.length : Int)) (rest.any fun y => decide (y = x)) := by
  intro rest
  induction rest with
  | nil => intro done h; exact Ev.step (fun k => by simp [spec_l1Has.l0]; rfl) (Ev.some (by simp))
  | cons y rest ih =>
    intro done h
    obtain ⟨q1, q2, q3, q4, q5⟩ := mid y done rest h
    have ih' := ih (done ++ [y]) (by rw [q5]; exact h)
    rw [q5] at ih'
    refine Ev.step (fun k => by rw [spec_l1Has.l0]) ?_
    simp only [if_pos q1, if_pos q2, q3, q4]
    by_cases e : y = x
    · simp only [if_pos e]; exact Ev.some (by simp [e])
    · simp only [if_neg e]; exact Ev.pair ih' (by simp [e])
theorem l1Has_f (l : List Int) (x : Int) (h : l.length ≤ BM) : Ev (fun k => spec_l1Has.f k l x) (l.any fun y => decide (y = x)) := l1Has_l0 x 0 l [] h
def within (a b : Int) (l : List Int) : Bool := l.all fun n => decide (a ≤ n) && decide (n ≤ b)
theorem l1All_l0 (a b : Int) : ∀ (rest done : List Int), (done ++ rest).length ≤ BM → Ev (fun k => spec_l1All.l0 k a b (done ++ rest) (done ++ rest).length done.length) (within a b rest) := by
  intro rest
  induction rest with
  | nil => intro done h; exact Ev.step (fun k => by simp [spec_l1All.l0]; rfl) (Ev.some (by simp [within]))
  | cons x rest ih =>
    intro done h
    have ih' := ih (done ++ [x])
    obtain ⟨h1, h2, h3, h4, h5⟩ := mid x done rest h
    rw [h5] at ih'
    refine Ev.step (fun k => by rw [spec_l1All.l0]) ?_
    simp only [if_pos h1, if_pos h2, h3, h4, spec_l1In.f]
    by_cases ha : x ≥ a
    · by_cases hb : x ≤ b
      · simpa [ha, hb, within] using ih' h
      · simpa [ha, hb, within] using Ev.now _
    · simpa [ha, within] using Ev.now _
theorem allWithin_eq : ∀ k a b xs n i, impl_allWithin.l0 k a b xs n i = spec_l1All.l0 k a b xs n i := by
  intro k
  induction k with
  | zero => intros; rfl
  | succ k ih => intros; simp only [impl_allWithin.l0, spec_l1All.l0, ih, impl_within.f, spec_l1In.f]
theorem l1All_f (l : List Int) (a b : Int) (h : l.length ≤ BM) : Ev (fun k => spec_l1All.f k l a b) (within a b l) := l1All_l0 a b l [] h
theorem allWithin_f (l : List Int) (a b : Int) (h : l.length ≤ BM) : Ev (fun k => impl_allWithin.f k l a b) (within a b l) := Ev.congr (fun k => allWithin_eq ..) (l1All_f l a b h)
theorem l1In_f (n a b : Int) : spec_l1In.f n a b = some (decide (a ≤ n) && decide (n ≤ b)) := by
  unfold spec_l1In.f; by_cases h : a ≤ n <;> simp [h]
theorem within_f (n a b : Int) : impl_within.f n a b = some (decide (a ≤ n) && decide (n ≤ b)) := l1In_f n a b
def isList (l : List Int) : Bool := decide (1 ≤ l.length) && decide (l.length ≤ 8) && within 0 60 l
theorem liGood_f (l : List Int) (h : l.length ≤ BM) : Ev (fun k => spec_liGood.f k l) (isList l) := by
  unfold spec_liGood.f
  simp only [l1In_f, Option.bind_some]
  refine Ev.ite (fun h1 => ?_) (fun h1 => ?_)
  · exact Ev.bind (l1All_f l 0 60 h) (Ev.some (by simp at h1; simp [isList]; omega))
  · exact Ev.some (by simp at h1; simp [isList]; omega)
theorem IsList_f (l : List Int) (h : l.length ≤ BM) : Ev (fun k => impl_IsList.f k l) (isList l) := by
  unfold impl_IsList.f
  simp only [within_f, Option.bind_some]
  refine Ev.ite (fun h1 => ?_) (fun h1 => ?_)
  · exact Ev.bind (allWithin_f l 0 60 h) (Ev.some (by simp at h1; simp [isList]; omega))
  · exact Ev.some (by simp at h1; simp [isList]; omega)
theorem isList_mem {l : List Int} (h : isList l = true) : 1 ≤ l.length ∧ l.length ≤ 8 ∧ ∀ x ∈ l, 0 ≤ x ∧ x ≤ 60 := by
  simp [isList, within] at h
  exact ⟨h.1.1, h.1.2, h.2⟩
end Go.Proofs.Ytcheoendfcgjgaa.K
namespace Go.Proofs.Ytcheoendfcgjgaa.K
open Go.RowKit Go.Proofs.Ytcheoendfcgjgaa.P
theorem insD_perm (x : Int) : ∀ l, (insD x l).Perm (x :: l)
  | [] => List.Perm.refl _
  | y :: l => by
    simp only [insD]
    split
    · exact ((insD_perm x l).cons y).trans (List.Perm.swap x y l)
    · exact List.Perm.refl _
theorem insD_sorted (x : Int) : ∀ l : List Int, l.Pairwise (fun a b => b ≤ a) → (insD x l).Pairwise (fun a b => b ≤ a)
  | [], _ => by simp [insD]
  | y :: l, h => by
    simp only [insD]
    rw [List.pairwise_cons] at h
    split
    · rename_i hy
      rw [List.pairwise_cons]
      refine ⟨fun z hz => ?_, insD_sorted x l h.2⟩
      rcases List.mem_cons.1 ((insD_perm x l).mem_iff.1 hz) with rfl | hz
      · exact hy
      · exact h.1 z hz
    · rename_i hy
      rw [List.pairwise_cons, List.pairwise_cons]
      refine ⟨fun z hz => ?_, h.1, h.2⟩
      rcases List.mem_cons.1 hz with rfl | hz
      · omega
      · have := h.1 z hz; omega
theorem rankFold_perm : ∀ (l s : List Int), (l.foldl (fun s x => insD x s) s).Perm (l ++ s)
  | [], s => List.Perm.refl _
  | x :: l, s => by
    refine (rankFold_perm l (insD x s)).trans ?_
    refine (List.Perm.append_left l (insD_perm x s)).trans ?_
    exact List.perm_middle
theorem rankL_perm (l : List Int) : (rankL l).Perm l := by simpa [rankL] using rankFold_perm l []
theorem rankFold_sorted : ∀ (l s : List Int), s.Pairwise (fun a b => b ≤ a) → (l.foldl (fun s x => insD x s) s).Pairwise (fun a b => b ≤ a)
  | [], s, h => h
  | x :: l, s, h => rankFold_sorted l (insD x s) (insD_sorted x s h)
theorem rankL_sorted (l : List Int) : (rankL l).Pairwise (fun a b => b ≤ a) := rankFold_sorted l [] List.Pairwise.nil
theorem rankL_unique {l l' : List Int} (hp : l'.Perm l) (hs : l'.Pairwise (fun a b => b ≤ a)) : l' = rankL l :=
  List.Perm.eq_of_pairwise (le := fun a b => b ≤ a) (fun a b _ _ h1 h2 => by omega) hs (rankL_sorted l) (hp.trans (rankL_perm l).symm)
end Go.Proofs.Ytcheoendfcgjgaa.K
namespace Go.Proofs.Ytcheoendfcgjgaa.K
open Go.RowKit Go.Proofs.YtcheoendfcgjgaaW.PrintWords Go.Proofs.YtcheoendfcgjgaaW.PrintMore Go.Proofs.Ytcheoendfcgjgaa.P
theorem sortL_perm' (l : List Int) : (sortL l).Perm l := List.mergeSort_perm _ _
theorem sortL_rises (l : List Int) : (sortL l).Pairwise (fun a b => a ≤ b) := by
  have := List.pairwise_mergeSort (le := fun x y : Int => decide (x ≤ y)) (by intro a b c h1 h2; simp at *; omega) (by intro a b; simp; omega) l
  exact this.imp (fun h => by simpa using h)
theorem rankL_rev (l : List Int) : rankL l = (sortL l).reverse := by
  refine (rankL_unique ((List.reverse_perm _).trans (sortL_perm' l)) ?_).symm
  rw [List.pairwise_reverse]
  exact sortL_rises l
theorem tri (d : Nat) (h : d ≤ 11) : wrap64 (((d : Int) + 1) * wrap64 ((d : Int) + 1 - 1)) = (d : Int) * ((d : Int) + 1) ∧ wrap64 (Int.tdiv ((d : Int) * ((d : Int) + 1)) 2) = Int.tdiv ((d : Int) * ((d : Int) + 1)) 2 := by
  obtain rfl | rfl | rfl | rfl | rfl | rfl | rfl | rfl | rfl | rfl | rfl | rfl : d = 0 ∨ d = 1 ∨ d = 2 ∨ d = 3 ∨ d = 4 ∨ d = 5 ∨ d = 6 ∨ d = 7 ∨ d = 8 ∨ d = 9 ∨ d = 10 ∨ d = 11 := by omega
  all_goals decide +kernel
theorem rd_rev (done rest : List Int) (x : Int) : rd (done ++ x :: rest).reverse ((rest.length : Nat) : Int) = x := by
  simp [rd]
theorem scRefuses_l0 (n : Nat) (hn : n ≤ 8) (s : List Int) (hs : s.length = n) (hb : ∀ x ∈ s, 0 ≤ x ∧ x ≤ 60) : ∀ (rest done : List Int) (sum : Int), s = done ++ rest → 0 ≤ sum → sum ≤ 60 * done.length →
    Ev (fun k => spec_scRefuses.l0 k s.reverse (n : Int) sum ((done.length : Int) + 1)) (refuseS n done.length sum rest)
  | [], done, sum, e, _, _ => by
    have : done.length = n := by rw [← hs, e]; simp
    exact Ev.step (fun k => by rw [spec_scRefuses.l0, if_neg (by omega)]) (Ev.some (by simp [refuseS]))
  | x :: rest, done, sum, e, h1, h2 => by
    have hl : done.length + (rest.length + 1) = n := by rw [← hs, e]; simp
    have hx := hb x (by rw [e]; simp)
    have w1 : wrap64 ((n : Int) - ((done.length : Int) + 1)) = ((rest.length : Nat) : Int) := by rw [wrap_id (by omega) (by omega)]; omega
    have w2 : wrap64 (sum + x) = sum + x := wrap_id (by omega) (by omega)
    have w3 : wrap64 ((done.length : Int) + 1 + 1) = (((done ++ [x]).length : Nat) : Int) + 1 := by rw [wrap_id (by omega) (by omega)]; simp
    obtain ⟨t1, t2⟩ := tri done.length (by omega)
    have ih := scRefuses_l0 n hn s hs hb rest (done ++ [x]) (sum + x) (by rw [e]; simp) (by omega) (by simp; omega)
    have hr : rd s.reverse ((rest.length : Nat) : Int) = x := by rw [e]; exact rd_rev done rest x
    have hlen : ((rest.length : Nat) : Int) < (s.reverse.length : Int) := by rw [List.length_reverse, hs]; omega
    have hd : (done ++ [x]).length = done.length + 1 := by simp
    rw [hd] at ih w3
    by_cases c1 : sum + x < Int.tdiv ((done.length : Int) * ((done.length : Int) + 1)) 2
    · refine Ev.step (fun k => ?_) (Ev.some (show (done.length : Int) + 1 = _ by rw [refuseS, if_pos (Or.inl c1)]))
      rw [spec_scRefuses.l0, if_pos (by omega), w1, if_pos (by omega), if_pos hlen, hr, w2, t1, t2, if_pos c1]
    · by_cases c2 : (done.length : Int) + 1 = (n : Int)
      · by_cases c3 : Int.tdiv ((done.length : Int) * ((done.length : Int) + 1)) 2 < sum + x
        · refine Ev.step (fun k => ?_) (Ev.some (show (done.length : Int) + 1 = _ by rw [refuseS, if_pos (Or.inr ⟨by omega, c3⟩)]))
          rw [spec_scRefuses.l0, if_pos (by omega), w1, if_pos (by omega), if_pos hlen, hr, w2, t1, t2, if_neg c1, if_pos c2, if_pos c3]
        · rw [refuseS, if_neg (by rintro (h | h) <;> omega)]
          refine Ev.step (fun k => ?_) ih
          rw [spec_scRefuses.l0, if_pos (by omega), w1, if_pos (by omega), if_pos hlen, hr, w2, t1, t2, if_neg c1, if_pos c2, if_neg (by omega), w3]
      · rw [refuseS, if_neg (by rintro (h | h) <;> omega)]
        refine Ev.step (fun k => ?_) ih
        rw [spec_scRefuses.l0, if_pos (by omega), w1, if_pos (by omega), if_pos hlen, hr, w2, t1, t2, if_neg c1, if_neg c2, w3]
def refS (l : List Int) : Int := refuseS l.length 0 0 (sortL l)
theorem isList_iff {l : List Int} (h : isList l = true) : (1 ≤ l.length ∧ l.length ≤ 8) ∧ ∀ x ∈ l, 0 ≤ x ∧ x ≤ 60 := ⟨⟨(isList_mem h).1, (isList_mem h).2.1⟩, (isList_mem h).2.2⟩
theorem scRefuses_f {l : List Int} (h : isList l = true) : Ev (fun k => spec_scRefuses.f k l) (refS l) := by
  obtain ⟨⟨h1, h2⟩, h3⟩ := isList_iff h
  have hl : (sortL l).length = l.length := (sortL_perm' l).length_eq
  unfold spec_scRefuses.f spec_liRank.f
  rw [if_pos (by omega), rankL_rev]
  simp only [Option.bind_some, List.length_reverse, hl]
  have := scRefuses_l0 l.length h2 (sortL l) hl (fun x hx => h3 x ((sortL_perm' l).mem_iff.1 hx)) (sortL l) [] 0 rfl (by omega) (by simp)
  unfold refS
  simpa using this
theorem refusingScores_f {l : List Int} (h : isList l = true) : impl_refusingScores.f l = some (refS l) := by
  obtain ⟨⟨h1, h2⟩, h3⟩ := isList_iff h
  unfold impl_refusingScores.f
  rw [if_pos ⟨h1, by omega, fun x hx => by have := h3 x hx; omega⟩]
  rfl
theorem refuseS_nonneg (n : Nat) : ∀ (rest : List Int) (i : Nat) (sum : Int), 0 ≤ refuseS n i sum rest
  | [], i, sum => by simp [refuseS]
  | x :: rest, i, sum => by
    rw [refuseS]
    split
    · omega
    · exact refuseS_nonneg n rest _ _
theorem refS_nonneg (l : List Int) : 0 ≤ refS l := refuseS_nonneg _ _ _ _
def ahead (nd : List Int) (g : Bool) (i j : Nat) : Prop := if g then nd.getD j 0 < nd.getD i 0 ∨ (nd.getD j 0 = nd.getD i 0 ∧ i ≤ j) else nd.getD i 0 < nd.getD j 0 ∨ (nd.getD i 0 = nd.getD j 0 ∧ j ≤ i)
theorem rdI (l : List Int) (i : Nat) : rd l (i : Int) = l.getD i 0 := by rw [rd, Int.toNat_natCast]
theorem any_ints (gs : List Nat) (i : Nat) : ((ints gs).any fun y => decide (y = (i : Int))) = decide (i ∈ gs) := by
  rw [Bool.eq_iff_iff]
  simp only [List.any_eq_true, ints, List.mem_map, decide_eq_true_eq]
  constructor
  · rintro ⟨_, ⟨x, hx, rfl⟩, h⟩
    have : x = i := by omega
    rwa [← this]
  · intro h
    exact ⟨_, ⟨i, h, rfl⟩, rfl⟩
theorem scNext_l0 (nd : List Int) (gs : List Nat) (g : Bool) (hn : nd.length ≤ 8) (hg : gs.length ≤ 100) : ∀ d i (b : Int), i + d = nd.length → (b < 0 → b = -1 ∧ ∀ x, x < i → x ∈ gs) → (0 ≤ b → ∃ c : Nat, b = (c : Int) ∧ c < i ∧ c ∉ gs ∧ ∀ x, x < i → x ∉ gs → ahead nd g c x) →
    ∃ r : Int, (r < 0 → r = -1 ∧ ∀ x, x < nd.length → x ∈ gs) ∧ (0 ≤ r → ∃ c : Nat, r = (c : Int) ∧ c < nd.length ∧ c ∉ gs ∧ ∀ x, x < nd.length → x ∉ gs → ahead nd g c x) ∧ Ev (fun k => spec_scNext.l0 k nd (ints gs) g b nd (nd.length : Int) (i : Int)) r := by
  intro d
  induction d with
  | zero =>
    intro i b hi h1 h2
    obtain rfl : i = nd.length := by omega
    refine ⟨b, h1, h2, Ev.step (fun k => ?_) (Ev.now _)⟩
    rw [spec_scNext.l0, if_neg (by omega)]
  | succ d ih =>
    intro i b hi h1 h2
    have hhas : Ev (fun k => spec_l1Has.f k (ints gs) (i : Int)) (decide (i ∈ gs)) := by
      rw [← any_ints]
      exact l1Has_f (ints gs) (i : Int) (by rw [ints_length]; simp only [BM]; omega)
    -- the new best one
    have key : ∃ b' : Int, (b' < 0 → b' = -1 ∧ ∀ x, x < i + 1 → x ∈ gs) ∧ (0 ≤ b' → ∃ c : Nat, b' = (c : Int) ∧ c < i + 1 ∧ c ∉ gs ∧ ∀ x, x < i + 1 → x ∉ gs → ahead nd g c x) ∧
        ∀ r, Ev (fun k => spec_scNext.l0 k nd (ints gs) g b' nd (nd.length : Int) ((i + 1 : Nat) : Int)) r → Ev (fun k => spec_scNext.l0 k nd (ints gs) g b nd (nd.length : Int) (i : Int)) r := by
      have e1 : (i : Int) < (nd.length : Int) := by omega
      have e2 : (0 : Int) ≤ (i : Int) := by omega
      have ew := wrap_nat i (by omega)
      by_cases hm : i ∈ gs
      · refine ⟨b, fun hb => ⟨(h1 hb).1, fun x hx => ?_⟩, fun hb => ?_, fun r hr => Ev.step (fun k => by rw [spec_scNext.l0, if_pos e1, if_pos e2, if_pos e1]) (Ev.bind hhas ?_)⟩
        · by_cases c : x = i
          · subst c; exact hm
          · exact (h1 hb).2 x (by omega)
        · obtain ⟨c, f1, f2, f3, f4⟩ := h2 hb
          refine ⟨c, f1, by omega, f3, fun x hx hxg => f4 x ?_ hxg⟩
          by_cases c : x = i
          · subst c; exact absurd hm hxg
          · omega
        · simp only [decide_eq_true hm, if_true, ew]
          exact hr
      · have hmF : decide (i ∈ gs) = false := decide_eq_false hm
        have self : ahead nd g i i := by unfold ahead; split <;> exact .inr ⟨rfl, Nat.le_refl _⟩
        by_cases hb : b < 0
        · obtain ⟨f1, f2⟩ := h1 hb
          refine ⟨(i : Int), fun h => by omega, fun _ => ⟨i, rfl, by omega, hm, fun x hx hxg => ?_⟩, fun r hr => Ev.step (fun k => by rw [spec_scNext.l0, if_pos e1, if_pos e2, if_pos e1]) (Ev.bind hhas ?_)⟩
          · obtain rfl : x = i := by
              by_cases c : x = i
              · exact c
              · exact absurd (f2 x (by omega)) hxg
            exact self
          · simp only [hmF, Bool.false_eq_true, if_false, if_pos hb, ew]
            exact hr
        · obtain ⟨c, rfl, f2, f3, f4⟩ := h2 (by omega)
          have g1 : (c : Int) < (nd.length : Int) := by omega
          have g2 : (0 : Int) ≤ (c : Int) := by omega
          have stay : ahead nd g c i → (∃ b' : Int, (b' < 0 → b' = -1 ∧ ∀ x, x < i + 1 → x ∈ gs) ∧ (0 ≤ b' → ∃ c : Nat, b' = (c : Int) ∧ c < i + 1 ∧ c ∉ gs ∧ ∀ x, x < i + 1 → x ∉ gs → ahead nd g c x) ∧ b' = (c : Int)) := fun ha =>
            ⟨(c : Int), fun h => by omega, fun _ => ⟨c, rfl, by omega, f3, fun x hx hxg => by
              by_cases e : x = i
              · subst e; exact ha
              · exact f4 x (by omega) hxg⟩, rfl⟩
          have move : (∀ x, ahead nd g c x → ahead nd g i x) → (∃ b' : Int, (b' < 0 → b' = -1 ∧ ∀ x, x < i + 1 → x ∈ gs) ∧ (0 ≤ b' → ∃ c : Nat, b' = (c : Int) ∧ c < i + 1 ∧ c ∉ gs ∧ ∀ x, x < i + 1 → x ∉ gs → ahead nd g c x) ∧ b' = (i : Int)) := fun ha =>
            ⟨(i : Int), fun h => by omega, fun _ => ⟨i, rfl, by omega, hm, fun x hx hxg => by
              by_cases e : x = i
              · subst e; exact self
              · exact ha x (f4 x (by omega) hxg)⟩, rfl⟩
          cases hgg : g with
          | true =>
            subst hgg
            by_cases hc : nd.getD i 0 > nd.getD c 0
            · obtain ⟨b', q1, q2, rfl⟩ := move (fun x hx => by unfold ahead at hx ⊢; simp only [if_true] at hx ⊢; omega)
              refine ⟨_, q1, q2, fun r hr => Ev.step (fun k => by rw [spec_scNext.l0, if_pos e1, if_pos e2, if_pos e1]) (Ev.bind hhas ?_)⟩
              simp only [hmF, Bool.false_eq_true, if_false, if_neg hb, if_pos g1, if_pos g2, if_true, rdI, if_pos hc, ew]
              exact hr
            · obtain ⟨b', q1, q2, rfl⟩ := stay (by unfold ahead; simp only [if_true]; omega)
              refine ⟨_, q1, q2, fun r hr => Ev.step (fun k => by rw [spec_scNext.l0, if_pos e1, if_pos e2, if_pos e1]) (Ev.bind hhas ?_)⟩
              simp only [hmF, Bool.false_eq_true, if_false, if_neg hb, if_pos g1, if_pos g2, if_true, rdI, if_neg hc, ew]
              exact hr
          | false =>
            subst hgg
            by_cases hc : nd.getD i 0 ≤ nd.getD c 0
            · obtain ⟨b', q1, q2, rfl⟩ := move (fun x hx => by unfold ahead at hx ⊢; simp only [Bool.false_eq_true, if_false] at hx ⊢; omega)
              refine ⟨_, q1, q2, fun r hr => Ev.step (fun k => by rw [spec_scNext.l0, if_pos e1, if_pos e2, if_pos e1]) (Ev.bind hhas ?_)⟩
              simp only [hmF, Bool.false_eq_true, if_false, if_neg hb, if_pos g1, if_pos g2, rdI, if_pos hc, ew]
              exact hr
            · obtain ⟨b', q1, q2, rfl⟩ := stay (by unfold ahead; simp only [Bool.false_eq_true, if_false]; omega)
              refine ⟨_, q1, q2, fun r hr => Ev.step (fun k => by rw [spec_scNext.l0, if_pos e1, if_pos e2, if_pos e1]) (Ev.bind hhas ?_)⟩
              simp only [hmF, Bool.false_eq_true, if_false, if_neg hb, if_pos g1, if_pos g2, rdI, if_neg hc, ew]
              exact hr
    obtain ⟨b', q1, q2, q3⟩ := key
    obtain ⟨r, r1, r2, r3⟩ := ih (i + 1) b' (by omega) q1 q2
    exact ⟨r, r1, r2, q3 r r3⟩
theorem ahead_antisymm {nd : List Int} {g : Bool} {i j : Nat} (h1 : ahead nd g i j) (h2 : ahead nd g j i) : i = j := by
  unfold ahead at h1 h2
  cases g
  · simp only [Bool.false_eq_true, if_false] at h1 h2; omega
  · simp only [if_true] at h1 h2; omega
theorem scNext_f (nd : List Int) (gs : List Nat) (g : Bool) (hn : nd.length ≤ 8) (hg : gs.length ≤ 100) (c : Nat) (hc : c < nd.length) (hcg : c ∉ gs) (hmin : ∀ x, x < nd.length → x ∉ gs → ahead nd g c x) : Ev (fun k => spec_scNext.f k nd (ints gs) g) (c : Int) := by
  obtain ⟨r, r1, r2, r3⟩ := scNext_l0 nd gs g hn hg nd.length 0 (-1) (by omega) (fun _ => ⟨rfl, fun x hx => by omega⟩) (fun h => by omega)
  have : r = (c : Int) := by
    by_cases h : r < 0
    · exact absurd ((r1 h).2 c hc) hcg
    · obtain ⟨e, rfl, e2, e3, e4⟩ := r2 (by omega)
      rw [ahead_antisymm (hmin e e2 e3) (e4 c hc hcg)]
  subst this
  unfold spec_scNext.f
  exact r3
theorem le2_iff (nd : List Int) (i j : Nat) : le2 nd i j = true ↔ ahead nd false i j := by
  unfold le2 ahead
  simp
theorem btOrd_perm (nd : List Int) (left : List Nat) : (btOrd nd left).Perm left := List.mergeSort_perm _ _
theorem btOrd_sorted (nd : List Int) (left : List Nat) : (btOrd nd left).Pairwise (ahead nd false) := by
  have := List.pairwise_mergeSort (le := le2 nd) (by intro a b c h1 h2; rw [le2_iff] at *; unfold ahead at *; simp only [Bool.false_eq_true, if_false] at *; omega) (by intro a b; rw [Bool.or_eq_true, le2_iff, le2_iff]; unfold ahead; simp only [Bool.false_eq_true, if_false]; omega) left
  exact this.imp (fun h => (le2_iff nd _ _).1 h)
theorem first_fold (nd : List Int) : ∀ (l : List Nat) (f : Nat) (seen : List Nat), f ∈ seen → (∀ x ∈ seen, ahead nd true f x) → (∀ x ∈ seen, ∀ y ∈ l, x < y) → l.Pairwise (fun a b => a < b) →
    (l.foldl (fun f i => if nd.getD i 0 > nd.getD f 0 then i else f) f) ∈ seen ++ l ∧ ∀ x ∈ seen ++ l, ahead nd true (l.foldl (fun f i => if nd.getD i 0 > nd.getD f 0 then i else f) f) x := by
  intro l
  induction l with
  | nil => intro f seen h1 h2 h3 h4; simpa using ⟨h1, h2⟩
  | cons y l ih =>
    intro f seen h1 h2 h3 h4
    obtain ⟨g1, g2⟩ := List.pairwise_cons.1 h4
    rw [List.foldl_cons, show seen ++ y :: l = (seen ++ [y]) ++ l by simp]
    have hs : ∀ x ∈ seen ++ [y], ∀ z ∈ l, x < z := fun x hx z hz => by
      rcases List.mem_append.1 hx with c | c
      · exact h3 x c z (List.mem_cons_of_mem _ hz)
      · rw [List.mem_singleton.1 c]; exact g1 z hz
    by_cases c : nd.getD y 0 > nd.getD f 0
    · rw [if_pos c]
      refine ih y (seen ++ [y]) (by simp) (fun x hx => ?_) hs g2
      rcases List.mem_append.1 hx with q | q
      · have := h2 x q; unfold ahead at this ⊢; simp only [if_true] at this ⊢; omega
      · rw [List.mem_singleton.1 q]; unfold ahead; simp
    · rw [if_neg c]
      refine ih f (seen ++ [y]) (by simp [h1]) (fun x hx => ?_) hs g2
      rcases List.mem_append.1 hx with q | q
      · exact h2 x q
      · rw [List.mem_singleton.1 q]
        have := h3 f h1 y List.mem_cons_self
        unfold ahead; simp only [if_true]; omega
theorem btFirst_best (nd : List Int) (left : List Nat) (hne : left ≠ []) (hs : left.Pairwise (fun a b => a < b)) : btFirst nd left ∈ left ∧ ∀ x ∈ left, ahead nd true (btFirst nd left) x := by
  cases left with
  | nil => exact absurd rfl hne
  | cons y l =>
    obtain ⟨g1, g2⟩ := List.pairwise_cons.1 hs
    have := first_fold nd l y [y] (by simp) (fun x hx => by rw [List.mem_singleton.1 hx]; unfold ahead; simp) (fun x hx z hz => by rw [List.mem_singleton.1 hx]; exact g1 z hz) g2
    unfold btFirst
    rw [List.foldl_cons, List.headD_cons, if_neg (by omega)]
    exact this
def setOr (i : Nat) : List Nat → List Nat → List Nat
  | [], ns => ns
  | j :: js, ns => setOr i js (ns.set i (ns.getD i 0 ||| 2 ^ j))
theorem setOr_char {n : Nat} (i : Nat) (hi : i < n) : ∀ (js : List Nat) (ns : List Nat), (∀ j ∈ js, j < n) → Sets n ns → Sets n (setOr i js ns) ∧ ∀ a b, nb (setOr i js ns) a b = (nb ns a b || (decide (a = i) && decide (b ∈ js))) := by
  intro js
  induction js with
  | nil => intro ns _ h; exact ⟨h, fun a b => by simp [setOr]⟩
  | cons j js ih =>
    intro ns hj h
    obtain ⟨h1, h2⟩ := ih (ns.set i (ns.getD i 0 ||| 2 ^ j)) (fun x hx => hj x (List.mem_cons_of_mem _ hx)) (sets_or h i j (hj j List.mem_cons_self))
    refine ⟨h1, fun a b => ?_⟩
    rw [setOr, h2, nb_or i j (by rw [h.len]; exact hi)]
    by_cases c : a = i <;> by_cases c2 : b = j <;> simp [c, c2]
theorem ints_appB (a b : List Nat) : ints (a ++ b) = ints a ++ ints b := by simp [ints]
theorem sb_l1 {n : Nat} (x0 nd x6 : List Int) (gs : List Nat) (i : Nat) (hi : i < n) (hn : nd.length = n) (h8 : n ≤ 8) (r : Int × List Int × Bool) : ∀ (o2 o1 : List Nat) (x9 : Int) (ns : List Nat), Sets n ns → o2.Pairwise (ahead nd false) → (∀ x, x < n → (x ∉ gs ++ o1 ↔ x ∈ o2)) → o2.Nodup → (∀ x ∈ o2, x < n) →
    x9.toNat ≤ o2.length → x9 ≤ 100 → (gs ++ o1).length + o2.length ≤ 50 →
    Ev (fun k => spec_BuildTournament.l2 k x0 nd x6 i (ints (gs ++ o1 ++ o2.take x9.toNat)) n 0 n (ints (setOr i (o2.take x9.toNat) ns))) r → Ev (fun k => spec_BuildTournament.l1 k x0 nd x6 i (ints (gs ++ o1)) x9 n (ints ns)) r := by
  intro o2
  induction o2 with
  | nil =>
    intro o1 x9 ns hS _ _ _ _ h1 _ _ hr
    have h0 : ¬ x9 > 0 := by simp at h1; omega
    refine Ev.step (fun k => ?_) (by simpa [setOr] using hr)
    rw [spec_BuildTournament.l1, if_neg h0, hn]
  | cons j o2 ih =>
    intro o1 x9 ns hS hP hM hN hL h1 h2 h3 hr
    by_cases h0 : x9 > 0
    · obtain ⟨t, ht⟩ : ∃ t, x9.toNat = t + 1 := ⟨x9.toNat - 1, by omega⟩
      obtain ⟨p1, p2⟩ := List.pairwise_cons.1 hP
      obtain ⟨q1, q2⟩ := List.nodup_cons.1 hN
      have hjn : j < n := hL j List.mem_cons_self
      have hnx : Ev (fun k => spec_scNext.f k nd (ints (gs ++ o1)) false) (j : Int) := by
        refine scNext_f nd (gs ++ o1) false (by omega) (by omega) j (by omega) ((hM j hjn).2 List.mem_cons_self) (fun x hx hxg => ?_)
        rcases List.mem_cons.1 ((hM x (by omega)).1 hxg) with rfl | c
        · unfold ahead; simp
        · exact p1 x c
      have hw : wrap64 (x9 - 1) = x9 - 1 := by unfold wrap64; omega
      have hw2 : (x9 - 1).toNat = t := by omega
      have hlen : (ints (gs ++ o1)).length < 17592186044416 := by rw [ints_length]; omega
      have hsi : (i : Int) < ((ints ns).length : Int) := by rw [ints_length, hS.len]; omega
      refine Ev.step (fun k => by rw [spec_BuildTournament.l1, if_pos h0]) (Ev.bind hnx ?_)
      simp only [if_pos hlen, if_pos (show (0 : Int) ≤ (i : Int) by omega), if_pos hsi, if_pos (show (0 : Int) ≤ (j : Int) by omega), hw]
      rw [shl_one j (by omega), rd_ints, or_nat _ _ (hS.get62 i) (Nat.pow_lt_pow_right (by decide) (by omega)), ints_set]
      have e1 : ints (gs ++ o1) ++ [(j : Int)] = ints (gs ++ (o1 ++ [j])) := by rw [← List.append_assoc, ints_appB (gs ++ o1)]; rfl
      rw [e1]
      refine ih (o1 ++ [j]) (x9 - 1) _ (sets_or hS i j hjn) p2 (fun x hx => ?_) q2 (fun x hx => hL x (List.mem_cons_of_mem _ hx)) (by rw [hw2]; simp at h1; omega) (by omega) (by simp at h3 ⊢; omega) ?_
      · have := hM x hx
        rw [← List.append_assoc, List.mem_append, not_or, this, List.mem_cons, List.mem_singleton]
        constructor
        · rintro ⟨c1 | c1, c2⟩
          · exact absurd c1 c2
          · exact c1
        · intro c
          exact ⟨.inr c, fun e => q1 (e ▸ c)⟩
      · rw [hw2]
        rw [ht, List.take_succ_cons, setOr] at hr
        rw [show gs ++ (o1 ++ [j]) ++ List.take t o2 = gs ++ o1 ++ j :: List.take t o2 by simp]
        exact hr
    · have e0 : x9.toNat = 0 := by omega
      rw [e0] at hr
      refine Ev.step (fun k => ?_) (by simpa [setOr] using hr)
      rw [spec_BuildTournament.l1, if_neg h0, hn]
def winF (B : List Nat) (i : Nat) : Nat → Nat → List Int → List Nat → List Int × List Nat
  | 0, _, nd, ns => (nd, ns)
  | d + 1, j, nd, ns => if j ∈ B then winF B i d (j + 1) nd ns else winF B i d (j + 1) (nd.set j (nd.getD j 0 - 1)) (ns.set j (ns.getD j 0 ||| 2 ^ i))
theorem getD_set (nd : List Int) (j x : Nat) (v : Int) (hj : j < nd.length) : (nd.set j v).getD x 0 = if x = j then v else nd.getD x 0 := by
  rw [List.getD_eq_getElem?_getD, List.getElem?_set]
  by_cases h : x = j
  · subst h; simp [hj]
  · rw [if_neg (fun e => h e.symm), if_neg h, List.getD_eq_getElem?_getD]
theorem winF_char {n : Nat} (B : List Nat) (i : Nat) (hi : i < n) : ∀ d j (nd : List Int) (ns : List Nat), j + d = n → nd.length = n → Sets n ns →
    (winF B i d j nd ns).1.length = n ∧ Sets n (winF B i d j nd ns).2 ∧ (∀ x, (winF B i d j nd ns).1.getD x 0 = if j ≤ x ∧ x < n ∧ x ∉ B then nd.getD x 0 - 1 else nd.getD x 0) ∧
      ∀ a b, nb (winF B i d j nd ns).2 a b = (nb ns a b || (decide (j ≤ a ∧ a < n ∧ a ∉ B) && decide (b = i))) := by
  intro d
  induction d with
  | zero =>
    intro j nd ns hj hl hS
    refine ⟨hl, hS, fun x => ?_, fun a b => ?_⟩
    · rw [winF, if_neg (by omega)]
    · rw [winF, show decide (j ≤ a ∧ a < n ∧ a ∉ B) = false by simp; omega]; simp
  | succ d ih =>
    intro j nd ns hj hl hS
    by_cases c : j ∈ B
    · obtain ⟨h1, h2, h3, h4⟩ := ih (j + 1) nd ns (by omega) hl hS
      rw [winF, if_pos c]
      refine ⟨h1, h2, fun x => ?_, fun a b => ?_⟩
      · rw [h3]
        by_cases e : x = j
        · subst e; rw [if_neg (by omega), if_neg (fun q => q.2.2 c)]
        · have : (j + 1 ≤ x ∧ x < n ∧ x ∉ B) ↔ (j ≤ x ∧ x < n ∧ x ∉ B) := by constructor <;> rintro ⟨q1, q2⟩ <;> exact ⟨by omega, q2⟩
          simp only [this]
      · rw [h4]
        congr 2
        by_cases e : a = j
        · subst e; rw [Bool.eq_iff_iff]; simp [c]; 
        · rw [Bool.eq_iff_iff]; simp only [decide_eq_true_eq]; constructor <;> rintro ⟨q1, q2⟩ <;> exact ⟨by omega, q2⟩
    · have hjl : j < nd.length := by omega
      have hjs : j < ns.length := by rw [hS.len]; omega
      obtain ⟨h1, h2, h3, h4⟩ := ih (j + 1) (nd.set j (nd.getD j 0 - 1)) (ns.set j (ns.getD j 0 ||| 2 ^ i)) (by omega) (by rw [List.length_set, hl]) (sets_or hS j i hi)
      rw [winF, if_neg c]
      refine ⟨h1, h2, fun x => ?_, fun a b => ?_⟩
      · rw [h3, getD_set _ _ _ _ hjl]
        by_cases e : x = j
        · subst e; rw [if_neg (by omega), if_pos rfl, if_pos ⟨Nat.le_refl _, by omega, c⟩]
        · have : (j + 1 ≤ x ∧ x < n ∧ x ∉ B) ↔ (j ≤ x ∧ x < n ∧ x ∉ B) := by constructor <;> rintro ⟨q1, q2⟩ <;> exact ⟨by omega, q2⟩
          simp only [if_neg e, this]
      · rw [h4, nb_or j i hjs, Bool.or_assoc]
        congr 1
        rw [← Bool.and_or_distrib_right]
        congr 1
        rw [Bool.eq_iff_iff]
        simp only [Bool.or_eq_true, decide_eq_true_eq]
        constructor
        · rintro (rfl | ⟨q1, q2⟩)
          · exact ⟨Nat.le_refl _, by omega, c⟩
          · exact ⟨by omega, q2⟩
        · rintro ⟨q1, q2⟩
          by_cases e : a = j
          · exact .inl e
          · exact .inr ⟨by omega, q2⟩
theorem sb_l2 {n : Nat} (x0 x6 : List Int) (B : List Nat) (i : Nat) (hi : i < n) (h8 : n ≤ 8) (hB : B.length ≤ 100) (r : Int × List Int × Bool) : ∀ d j (nd : List Int) (ns : List Nat), j + d = n → nd.length = n → Sets n ns → (∀ x, j ≤ x → -1000 ≤ nd.getD x 0 ∧ nd.getD x 0 ≤ 1000) →
    Ev (fun k => spec_BuildTournament.l0 k x0 (winF B i d j nd ns).1 x6 n (ints (winF B i d j nd ns).2)) r → Ev (fun k => spec_BuildTournament.l2 k x0 nd x6 i (ints B) n (j : Int) n (ints ns)) r := by
  intro d
  induction d with
  | zero =>
    intro j nd ns hj hl hS hb hr
    refine Ev.step (fun k => ?_) hr
    rw [spec_BuildTournament.l2, if_neg (by omega)]
    rfl
  | succ d ih =>
    intro j nd ns hj hl hS hb hr
    have hhas : Ev (fun k => spec_l1Has.f k (ints B) (j : Int)) (decide (j ∈ B)) := by
      rw [← any_ints]
      exact l1Has_f (ints B) (j : Int) (by rw [ints_length]; simp only [BM]; omega)
    refine Ev.step (fun k => by rw [spec_BuildTournament.l2, if_pos (show (j : Int) < (n : Int) by omega)]) (Ev.bind hhas ?_)
    rw [winF] at hr
    by_cases c : j ∈ B
    · rw [if_pos c] at hr
      simp only [decide_eq_true c, if_true, wrap_nat j (show j < 9223372036854775807 by omega)]
      exact ih (j + 1) nd ns (by omega) hl hS (fun x hx => hb x (by omega)) hr
    · rw [if_neg c] at hr
      have hj2 := hb j (Nat.le_refl _)
      have hw : wrap64 (nd.getD j 0 - 1) = nd.getD j 0 - 1 := by unfold wrap64; omega
      simp only [decide_eq_false c, Bool.false_eq_true, if_false, if_pos (show (0 : Int) ≤ (j : Int) by omega), if_pos (show (j : Int) < ((ints ns).length : Int) by rw [ints_length, hS.len]; omega), if_pos (show (0 : Int) ≤ (i : Int) by omega), if_pos (show (j : Int) < (nd.length : Int) by omega), wrap_nat j (show j < 9223372036854775807 by omega), rdI, hw, Int.toNat_natCast]
      have e := ints_set ns j (ns.getD j 0 ||| 2 ^ i)
      rw [Int.toNat_natCast] at e
      have e2 : (ints ns).getD j 0 = ((ns.getD j 0 : Nat) : Int) := by rw [← rd_ints, rdI]
      rw [e2, shl_one i (by omega), or_nat _ _ (hS.get62 j) (Nat.pow_lt_pow_right (by decide) (by omega)), e]
      exact ih (j + 1) _ _ (by omega) (by rw [List.length_set, hl]) (sets_or hS j i hi) (fun x hx => by rw [getD_set _ _ _ _ (by omega), if_neg (by omega)]; exact hb x (by omega)) hr
end Go.Proofs.Ytcheoendfcgjgaa.K
namespace Go.Proofs.Ytcheoendfcgjgaa.P
open Go.RowKit Go.Proofs.YtcheoendfcgjgaaW.PrintWords Go.Proofs.YtcheoendfcgjgaaW.PrintLast Go.Proofs.YtcheoendfcgjgaaW.PrintMore Go.Proofs.Ytcheoendfcgjgaa.K
open Go
attribute [local go_sem ↓] Go.wp_at_zero Go.wp_at_succ
set_option maxHeartbeats 800000 in
set_option maxRecDepth 100000 in
theorem btEq_calls (x f : Int) (g : Nat) (W : World) (hc : W.cell? ⟨g, 0, none⟩ = some (.int .i64 f)) :
  Calls Try.prog 33 (#[.int .i64 x] ++ #[.pointer (some ⟨g, 0, none⟩)]) W fun e w' => e = .returned (.bool (decide (x = f))) ∧ ∃ q, w' = W.drewN q := by
 simp only [List.append_toArray, List.cons_append, List.nil_append]
 go_enter Try.func33, Try.ntmps33
 go_wp2
 go_ret
 exact ⟨by rw [show decide (x = f) = (x == f) from by rw [Bool.eq_iff_iff]; simp]; rfl, 0, rfl⟩
def btCmp (nd : List Int) (x y : Int) : Int := if rd nd x ≠ rd nd y then rd nd x - rd nd y else y - x
set_option maxHeartbeats 800000 in
set_option maxRecDepth 100000 in
theorem btCmp_calls (nd : List Int) (g cap : Nat) (A : Option Addr) (x y : Nat) (W : World) (hc : W.cell? ⟨g, 0, none⟩ = some (.slice A nd.length cap)) (hr : Kd.C (Kd.int .i64) W A nd.length nd) (hx : x < nd.length) (hy : y < nd.length) (hn : nd.length ≤ 8) (hb : ∀ z ∈ nd, -1000 ≤ z ∧ z ≤ 1000) :
  Calls Try.prog 35 (#[.int .i64 (x : Int), .int .i64 (y : Int)] ++ #[.pointer (some ⟨g, 0, none⟩)]) W fun e w' => e = .returned (.int .i64 (btCmp nd (x : Int) (y : Int))) ∧ ∃ q, w' = W.drewN q := by
 obtain ⟨ad, e2, h1⟩ := Kd.at_int hr (x : Int) (by omega) (by omega)
 cases e2
 obtain ⟨ad', e2, h2⟩ := Kd.at_int hr (y : Int) (by omega) (by omega)
 cases e2
 simp only [Int.toNat_natCast] at h1 h2
 have m1 : -1000 ≤ rd nd (x : Int) ∧ rd nd (x : Int) ≤ 1000 := by
  rw [rd, Int.toNat_natCast, List.getD_eq_getElem?_getD, List.getElem?_eq_getElem hx]; exact hb _ (List.getElem_mem hx)
 have m2 : -1000 ≤ rd nd (y : Int) ∧ rd nd (y : Int) ≤ 1000 := by
  rw [rd, Int.toNat_natCast, List.getD_eq_getElem?_getD, List.getElem?_eq_getElem hy]; exact hb _ (List.getElem_mem hy)
 unfold btCmp
 generalize rd nd (x : Int) = u at h1 m1 ⊢
 generalize rd nd (y : Int) = v at h2 m2 ⊢
 have b1 : (x : Int) ≤ 1048575 := by omega
 have b2 : (y : Int) ≤ 1048575 := by omega
 have c1 : decide ((x : Int) < (nd.length : Int)) = true := by simp; omega
 have c2 : decide (x < nd.length) = true := by simp; omega
 have c3 : decide ((y : Int) < (nd.length : Int)) = true := by simp; omega
 have c4 : decide (y < nd.length) = true := by simp; omega
 obtain ⟨u1, u2⟩ := m1
 obtain ⟨v1, v2⟩ := m2
 clear hr hb hn
 simp only [List.append_toArray, List.cons_append, List.nil_append]
 by_cases huv : u = v
 ·
  subst huv
  go_enter Try.func35, Try.ntmps35
  go_wp2
  go_region_held3 (fun w' => w'.cell? ⟨g, 0, none⟩ = some (.slice (some ad) nd.length cap) ∧ w'.cell? (ad.add x) = some (.int .i64 u) ∧ w'.cell? (ad.add y) = some (.int .i64 u)) (go_keep) (fail)
  go_wp2
  go_ret
  exact ⟨by simp, _, rfl⟩
 ·
  have c5 : decide (u = v) = false := by simpa using huv
  have HW : Aside0 (IntKind.i64.wrap (u - v) = u - v) := ⟨IntWalk.i64_in _ (by omega)⟩
  go_enter Try.func35, Try.ntmps35
  go_wp2
  go_region_held3 (fun w' => w'.cell? ⟨g, 0, none⟩ = some (.slice (some ad) nd.length cap) ∧ w'.cell? (ad.add x) = some (.int .i64 u) ∧ w'.cell? (ad.add y) = some (.int .i64 v)) (go_keep) (fail)
  go_wp2
  go_region_held3 (fun w' => w'.cell? ⟨g, 0, none⟩ = some (.slice (some ad) nd.length cap) ∧ w'.cell? (ad.add x) = some (.int .i64 u) ∧ w'.cell? (ad.add y) = some (.int .i64 v)) (go_keep) (fail)
  go_wp2
  go_ret
  exact ⟨by show Ending.returned (Value.int .i64 (IntKind.i64.wrap (u - v))) = _; rw [HW.out], 2, rfl⟩
end Go.Proofs.Ytcheoendfcgjgaa.P
namespace Go.Proofs
open Go.Shelf
def Try.sortInt_ren : Go.Shelf.Ren := ⟨fun | 6 => 34 | 15 => 63 | 14 => 62 | 28 => 93 | 29 => 94 | 20 => 85 | 21 => 86 | 22 => 87 | 23 => 88 | 24 => 89 | 25 => 90 | 26 => 91 | 27 => 92 | 46 => 100 | 47 => 101 | 48 => 102 | 49 => 103 | 50 => 104 | 57 => 114 | n => n, fun | 22 => 24 | 24 => 3 | 25 => 53 | 3 => 3 | 39 => 76 | 0 => 0 | 53 => 90 | 55 => 65 | 4 => 4 | 46 => 84 | 45 => 83 | 50 => 30 | 5 => 5 | 9 => 9 | 66 => 95 | 70 => 99 | 76 => 105 | 77 => 106 | n => n, fun | n => n⟩
theorem Try.sortInt : Go.Proofs.SlLaysF.n6 Try.prog Try.sortInt_ren := {
  mixed := by kernel_rfl
  f6 := ⟨Try.f34.name, by decide, Try.func34.trans (congrArg some (by kernel_rfl))⟩
  f14 := ⟨Try.f62.name, by decide, Try.func62.trans (congrArg some (by kernel_rfl))⟩
  f15 := Try.func63.trans (congrArg some (by kernel_rfl))
  f20 := ⟨Try.f85.name, by decide, Try.func85.trans (congrArg some (by kernel_rfl))⟩
  f21 := ⟨Try.f86.name, by decide, Try.func86.trans (congrArg some (by kernel_rfl))⟩
  f22 := ⟨Try.f87.name, by decide, Try.func87.trans (congrArg some (by kernel_rfl))⟩
  f23 := ⟨Try.f88.name, by decide, Try.func88.trans (congrArg some (by kernel_rfl))⟩
  f24 := ⟨Try.f89.name, by decide, Try.func89.trans (congrArg some (by kernel_rfl))⟩
  f25 := ⟨Try.f90.name, by decide, Try.func90.trans (congrArg some (by kernel_rfl))⟩
  f26 := ⟨Try.f91.name, by decide, Try.func91.trans (congrArg some (by kernel_rfl))⟩
  f27 := ⟨Try.f92.name, by decide, Try.func92.trans (congrArg some (by kernel_rfl))⟩
  f28 := Try.func93.trans (congrArg some (by kernel_rfl))
  f29 := Try.func94.trans (congrArg some (by kernel_rfl))
  f46 := ⟨Try.f100.name, by decide, Try.func100.trans (congrArg some (by kernel_rfl))⟩
  f47 := Try.func101.trans (congrArg some (by kernel_rfl))
  f48 := Try.func102.trans (congrArg some (by kernel_rfl))
  f49 := ⟨Try.f103.name, by decide, Try.func103.trans (congrArg some (by kernel_rfl))⟩
  f50 := ⟨Try.f104.name, by decide, Try.func104.trans (congrArg some (by kernel_rfl))⟩
  f57 := ⟨Try.f114.name, by decide, Try.func114.trans (congrArg some (by kernel_rfl))⟩
  t0 := Try.underlying0
  a0 := Try.isAgg0
  z0 := Try.sizeOf0
  v0 := Try.zeroValue0
  t3 := Try.underlying3
  a3 := Try.isAgg3
  z3 := Try.sizeOf3
  v3 := Try.zeroValue3
  t4 := Try.underlying4
  a4 := Try.isAgg4
  z4 := Try.sizeOf4
  v4 := Try.zeroValue4
  t5 := Try.underlying5
  a5 := Try.isAgg5
  z5 := Try.sizeOf5
  v5 := Try.zeroValue5
  t9 := Try.underlying9
  a9 := Try.isAgg9
  z9 := Try.sizeOf9
  v9 := Try.zeroValue9
  t22 := Try.underlying24
  a22 := Try.isAgg24
  z22 := Try.sizeOf24
  v22 := Try.zeroValue24
  a24 := Try.isAgg3
  z24 := Try.sizeOf3
  t25 := Try.underlying53
  a25 := Try.isAgg53
  z25 := Try.sizeOf53
  v25 := Try.zeroValue53
  t39 := Try.underlying76
  a39 := Try.isAgg76
  z39 := Try.sizeOf76
  v39 := Try.zeroValue76
  t45 := Try.underlying83
  a45 := Try.isAgg83
  z45 := Try.sizeOf83
  v45 := Try.zeroValue83
  t46 := Try.underlying84
  a46 := Try.isAgg84
  z46 := Try.sizeOf84
  v46 := Try.zeroValue84
  t50 := Try.underlying30
  a50 := Try.isAgg30
  z50 := Try.sizeOf30
  v50 := Try.zeroValue30
  t53 := Try.underlying90
  a53 := Try.isAgg90
  z53 := Try.sizeOf90
  v53 := Try.zeroValue90
  t55 := Try.underlying65
  a55 := Try.isAgg65
  z55 := Try.sizeOf65
  v55 := Try.zeroValue65
  t66 := Try.underlying95
  a66 := Try.isAgg95
  z66 := Try.sizeOf95
  v66 := Try.zeroValue95
  t70 := Try.underlying99
  a70 := Try.isAgg99
  z70 := Try.sizeOf99
  v70 := Try.zeroValue99
  t76 := Try.underlying105
  a76 := Try.isAgg105
  z76 := Try.sizeOf105
  v76 := Try.zeroValue105
  t77 := Try.underlying106
  a77 := Try.isAgg106
  z77 := Try.sizeOf106
  v77 := Try.zeroValue106 }
def Try.lays125_ren : Go.Shelf.Ren := ⟨fun | 125 => 63 | 128 => 93 | 129 => 94 | n => n, fun | 46 => 76 | 3 => 3 | 51 => 90 | 53 => 65 | 4 => 4 | 5 => 5 | 9 => 9 | n => n, fun | n => n⟩
theorem Try.lays125 : Go.Proofs.Lays.n125 Try.prog Try.lays125_ren := {
  mixed := by kernel_rfl
  f125 := Try.func63.trans (congrArg some (by kernel_rfl))
  f128 := Try.func93.trans (congrArg some (by kernel_rfl))
  f129 := Try.func94.trans (congrArg some (by kernel_rfl))
  t3 := Try.underlying3
  a3 := Try.isAgg3
  z3 := Try.sizeOf3
  v3 := Try.zeroValue3
  t4 := Try.underlying4
  a4 := Try.isAgg4
  z4 := Try.sizeOf4
  v4 := Try.zeroValue4
  t5 := Try.underlying5
  a5 := Try.isAgg5
  z5 := Try.sizeOf5
  v5 := Try.zeroValue5
  t9 := Try.underlying9
  a9 := Try.isAgg9
  z9 := Try.sizeOf9
  v9 := Try.zeroValue9
  t46 := Try.underlying76
  a46 := Try.isAgg76
  z46 := Try.sizeOf76
  v46 := Try.zeroValue76
  t51 := Try.underlying90
  a51 := Try.isAgg90
  z51 := Try.sizeOf90
  v51 := Try.zeroValue90
  t53 := Try.underlying65
  a53 := Try.isAgg65
  z53 := Try.sizeOf65
  v53 := Try.zeroValue65 }
end Go.Proofs
namespace Go.Proofs.Ytcheoendfcgjgaa.P
open Go.RowKit Go.Proofs.YtcheoendfcgjgaaW.PrintWords Go.Proofs.YtcheoendfcgjgaaW.PrintLast Go.Proofs.YtcheoendfcgjgaaW.PrintMore Go.Proofs.Ytcheoendfcgjgaa.K
open Go.Sort Go.Shelf
theorem arr_map {α β : Type} (d : Array α) (f : α → β) : (d.toList.map f).toArray = d.map f := by
 rcases d with ⟨l⟩
 simp
end Go.Proofs.Ytcheoendfcgjgaa.P
namespace Go.Proofs
open Go.Shelf
def Try.delLay_ren : Go.Shelf.Ren := ⟨fun | 10 => 32 | 6 => 61 | n => n, fun | 22 => 24 | 23 => 3 | 25 => 51 | 3 => 3 | 4 => 4 | 0 => 0 | n => n, fun | n => n⟩
theorem Try.delLay : Go.Proofs.SlLaysH.n10 Try.prog Try.delLay_ren := {
  mixed := by kernel_rfl
  f6 := ⟨Try.f61.name, by decide, Try.func61.trans (congrArg some (by kernel_rfl))⟩
  f10 := ⟨Try.f32.name, by decide, Try.func32.trans (congrArg some (by kernel_rfl))⟩
  t0 := Try.underlying0
  a0 := Try.isAgg0
  z0 := Try.sizeOf0
  v0 := Try.zeroValue0
  t3 := Try.underlying3
  a3 := Try.isAgg3
  z3 := Try.sizeOf3
  v3 := Try.zeroValue3
  t4 := Try.underlying4
  a4 := Try.isAgg4
  z4 := Try.sizeOf4
  v4 := Try.zeroValue4
  t22 := Try.underlying24
  a22 := Try.isAgg24
  z22 := Try.sizeOf24
  v22 := Try.zeroValue24
  a23 := Try.isAgg3
  z23 := Try.sizeOf3
  t25 := Try.underlying51
  a25 := Try.isAgg51
  z25 := Try.sizeOf51
  v25 := Try.zeroValue51 }
end Go.Proofs
namespace Go.Proofs.Ytcheoendfcgjgaa.P
open Go.RowKit Go.Proofs.YtcheoendfcgjgaaW.PrintWords Go.Proofs.YtcheoendfcgjgaaW.PrintLast Go.Proofs.YtcheoendfcgjgaaW.PrintMore Go.Proofs.Ytcheoendfcgjgaa.K
open Go.Sort Go.Shelf
set_option linter.unusedSectionVars false
set_option maxRecDepth 10000 in
theorem deleteFunc_c (p : Int → Bool) (fid : FuncId) (fn : Func) (caps : Array Value) (hf : Try.prog.funcs[fid]? = some fn) (hname : (fn.name == "runtime.NumGoroutine") = false) (hbody : fn.body.isSome = true)
  (g cap base : Nat) (ok : Nat → Prop) (l : List Int) (w : World) (hl : l.length ≤ 100) (hpos : 0 < l.length)
  (HO : (Kd.int .i64).R 3 w base ok (.slice (some ⟨g, 0, none⟩) l.length cap) l)
  (hcmp : ∀ W : World, w.grownBy W (some g) → ∀ x : Int, Calls Try.prog fid (#[.int .i64 x] ++ caps) W fun e w' => e = .returned (.bool (p x)) ∧ ∃ q, w' = W.drewN q) :
  Calls Try.prog 32 #[.slice (some ⟨g, 0, none⟩) l.length cap, .func (.func fid) #[] caps] w fun e w' => e = .returned (.slice (some ⟨g, 0, none⟩) (l.filter fun x => !p x).length cap) ∧ (Kd.int .i64).R 3 w' base ok (.slice (some ⟨g, 0, none⟩) (l.filter fun x => !p x).length cap) (l.filter fun x => !p x) ∧ w.grownBy w' (some g) := by
 have hok := HO.1
 have hown := Kd.own_of_R HO
 obtain ⟨hn, h⟩ := hown
 rcases h with ⟨h0, _⟩ | ⟨g', cap', cur, hv, hbase, hbk, h1, h2, h3, h4⟩
 ·
  cases h0
 cases hv
 rw [Nat.mul_one] at h4
 have h4' : cur.toList.take l.length = l.map (Value.int .i64) := h4
 have hH := holds_of_blockI hbk h4'
 have hle : (l.filter fun x => !p x).length ≤ l.length := List.length_filter_le _ _
 have hc := AnyE.slices_DeleteFunc Try.delLay (Value.int .i64) (fun _ => rfl) p fid caps (fun args w => enters_ hf hname hbody args w) 0 (fun w => Try.zeroValue3 w) g 0 cap l.toArray w
  (fun W x hb => hcmp W ⟨hb.os, hb.tape, hb.output, hb.size, fun k hk _ => hb.block k hk⟩ x) (fun n os dk x _ => hcmp _ (by unfold sortWorld; exact grownBy_sortedI _) x) hH (by simp; omega) (by simpa using h1)
 have hsz : l.toArray.size = l.length := by simp
 rw [hsz] at hc
 refine Calls.mono (f := 32) hc ?_
 rintro e w' ⟨rfl, q, rfl⟩
 refine ⟨rfl, ?_, ?_⟩
 ·
  have hcast : ((l.filter fun x => !p x) ++ List.replicate (l.length - (l.filter fun x => !p x).length) (0 : Int)).length = l.length := by simp; omega
  have hq := ownsRow_sortedI (n := q) (os := #[]) (ss := l) (ts := (l.filter fun x => !p x) ++ List.replicate (l.length - (l.filter fun x => !p x).length) (0 : Int)) hcast hbase hbk h1 h2 h3
  have hq2 := own_take hq hle
  have e1 : (List.map (Value.int .i64) ((l.filter fun x => !p x) ++ List.replicate (l.length - (l.filter fun x => !p x).length) (0 : Int))).take (l.filter fun x => !p x).length = (l.filter fun x => !p x).map (Value.int .i64) := by
   rw [← List.map_take, List.take_left' rfl]
  rw [Nat.mul_one, e1] at hq2
  exact Kd.R_of_own (enc := Value.int .i64) hq2 hok
 ·
  exact grownBy_sortedI (os := #[]) _
abbrev Rg (n : Nat) := {x : Int // 0 ≤ x ∧ x < (n : Int)}
def rgE {n : Nat} (x : Rg n) : Value := .int .i64 x.1
section
variable {n : Nat} [Inhabited (Rg n)]
theorem to_rg {l : List Int} (h : ∀ x ∈ l, 0 ≤ x ∧ x < (n : Int)) : ∃ ls : List (Rg n), l = ls.map Subtype.val := by
 induction l with
 | nil => exact ⟨[], rfl⟩
 | cons x l ih =>
  obtain ⟨ls, rfl⟩ := ih (fun y hy => h y (by simp [hy]))
  exact ⟨⟨x, h x (by simp)⟩ :: ls, rfl⟩
theorem putRow_rg (w : World) (g : Nat) (d : Array (Rg n)) : putRow rgE w g 0 d = putRow (Value.int .i64) w g 0 (d.map Subtype.val) := by
 unfold putRow
 congr 1
 funext c
 unfold putCells
 congr 1
 funext k x
 simp only [Array.size_map, Nat.sub_zero, Nat.zero_add, Nat.zero_le, true_and]
 by_cases hk : k < d.size
 ·
  rw [if_pos hk, if_pos hk, getElem!_pos d k hk, getElem!_pos (d.map Subtype.val) k (by simpa using hk)]
  simp [rgE]
 ·
  rw [if_neg hk, if_neg hk]
theorem sortWorld_rg (w : World) (g m : Nat) (dk : Array (Rg n)) (os : Array Obj) : sortWorld rgE w g 0 m dk os = grow (putRow (Value.int .i64) (Sort.ahead w m) g 0 (dk.map Subtype.val)) os := by
 unfold sortWorld
 rw [putRow_rg]
set_option maxRecDepth 10000 in
theorem sortRange_c (cf : Int → Int → Int) (fid : FuncId) (fn : Func) (caps : Array Value) (hf : Try.prog.funcs[fid]? = some fn) (hname : (fn.name == "runtime.NumGoroutine") = false) (hbody : fn.body.isSome = true)
  (hS : SWO (fun (x y : Rg n) => decide (cf x.1 y.1 < 0))) (g cap base : Nat) (ok : Nat → Prop) (l : List Int) (w : World) (hl : l.length ≤ 12) (hpos : 0 < l.length) (hb : ∀ x ∈ l, 0 ≤ x ∧ x < (n : Int))
  (HO : (Kd.int .i64).R 3 w base ok (.slice (some ⟨g, 0, none⟩) l.length cap) l)
  (hcmp : ∀ W : World, w.grownBy W (some g) → ∀ x y : Rg n, Calls Try.prog fid (#[.int .i64 x.1, .int .i64 y.1] ++ caps) W fun e w' => e = .returned (.int .i64 (cf x.1 y.1)) ∧ ∃ q, w' = W.drewN q) :
  Calls Try.prog 34 #[.slice (some ⟨g, 0, none⟩) l.length cap, .func (.func fid) #[] caps] w fun e w' => e = .returned (.tuple #[]) ∧ ∃ l' : List Int, l'.Perm l ∧ l'.Pairwise (fun a b => ¬ cf b a < 0) ∧ (Kd.int .i64).R 3 w' base ok (.slice (some ⟨g, 0, none⟩) l.length cap) l' ∧ w.grownBy w' (some g) := by
 have hok := HO.1
 have hown := Kd.own_of_R HO
 obtain ⟨hn, h⟩ := hown
 rcases h with ⟨h0, _⟩ | ⟨g', cap', cur, hv, hbase, hbk, h1, h2, h3, h4⟩
 ·
  cases h0
 cases hv
 rw [Nat.mul_one] at h4
 have h4' : cur.toList.take l.length = l.map (Value.int .i64) := h4
 have hH := holds_of_blockI hbk h4'
 obtain ⟨ls, hls⟩ := to_rg hb
 have hlen : ls.length = l.length := by rw [hls]; simp
 have hH2 : Holds rgE w g 0 ls.toArray := by
  intro j hj
  have hj1 : j < ls.length := by simpa using hj
  have hj2 : j < l.toArray.size := by rw [hls]; simpa using hj1
  obtain ⟨q1, q2⟩ := hH j hj2
  refine ⟨?_, q2⟩
  rw [q1, getElem!_pos _ j hj2, getElem!_pos _ j hj]
  simp [rgE, hls]
 have hc := Any.slices_SortFunc_small_sorted Try.sortInt rgE (fun _ => rfl) (fun x y : Rg n => cf x.1 y.1) hS fid caps g 0 cap ls.toArray w (fun args w => enters_ hf hname hbody args w)
  (fun m os dk _ x y => hcmp _ (by rw [sortWorld_rg]; exact grownBy_sortedI _) x y) hH2 (by simpa [hlen] using hl)
  (fun n W h => (Any.bits_Len Try.lays125 n W (by omega) (by omega)).mono fun _ _ ⟨he, hw⟩ => ⟨⟨_, he⟩, hw⟩)
 have hsz : ls.toArray.size = l.length := by simpa using hlen
 rw [hsz] at hc
 refine Calls.mono (f := 34) hc ?_
 rintro e w' ⟨rfl, d', n, hp, hs, rfl⟩
 obtain ⟨p1, -, p3⟩ := hp
 have hd : d'.size = l.length := by rw [p1, hsz]
 have hex : d'.extract 0 l.length = d' := by rw [← hd]; simp
 have hex2 : ls.toArray.extract 0 l.length = ls.toArray := by rw [← hsz]; simp
 rw [hex, hex2] at p3
 refine ⟨rfl, d'.toList.map Subtype.val, ?_, ?_, ?_, ?_⟩
 ·
  rw [hls]; exact p3.map _
 ·
  rw [List.pairwise_iff_getElem]
  intro i j hi hj hij
  have hi' : i < d'.size := by simpa using hi
  have hj' : j < d'.size := by simpa using hj
  have := hs i j (Nat.zero_le _) hij (by omega)
  rw [getElem!_pos d' i hi', getElem!_pos d' j hj'] at this
  simpa [ltOf] using this
 ·
  have hcast : (d'.toList.map Subtype.val).length = l.length := by simpa using hd
  have hq := ownsRow_sortedI (n := n) (os := #[]) (ss := l) (ts := d'.toList.map Subtype.val) hcast hbase hbk h1 h2 h3
  have e1 : grow (putRow (Value.int .i64) (Sort.ahead w n) g 0 (d'.toList.map Subtype.val).toArray) #[] = (putRow rgE w g 0 d').drewN n := by
   have := sortWorld_rg w g n d' #[]
   rw [← sortWorld_none, this, arr_map]
  rw [e1] at hq
  refine Kd.R_of_own (enc := Value.int .i64) ?_ hok
  have e2 : (d'.toList.map Subtype.val).length = l.length := by simpa using hd
  rw [e2]
  exact hq
 ·
  have e1 : (putRow rgE w g 0 d').drewN n = grow (putRow (Value.int .i64) (Sort.ahead w n) g 0 (d'.map Subtype.val)) #[] := by rw [← sortWorld_none, sortWorld_rg]
  rw [e1]
  exact grownBy_sortedI _
end
def slices_Clone_int_int.f (l : List Int) : Option (List Int) := if l.length < 17592186044416 then some l else none
end Go.Proofs.Ytcheoendfcgjgaa.P
namespace Go.Proofs.Ytcheoendfcgjgaa.P
open Go.RowKit Go.Proofs.YtcheoendfcgjgaaW.PrintWords Go.Proofs.YtcheoendfcgjgaaW.PrintLast Go.Proofs.YtcheoendfcgjgaaW.PrintMore
set_option maxHeartbeats 800000 in
set_option maxRecDepth 100000 in
theorem slices_Clone_int_int.calls (A0 : Option Addr) (c0 : Nat) (l0 : List Int) (r : List Int) (w : World) (hr0 : Kd.C (Kd.int .i64) w A0 l0.length l0) (hc0 : l0.length ≤ c0) (h : slices_Clone_int_int.f l0 = some r) :
  Calls Try.prog 31 #[.slice A0 l0.length c0] w fun e w' => ∃ v0_ : Value, e = .returned (v0_) ∧ Kd.R (Kd.int .i64) 3 w' w.heap.size (fun _ => True) v0_ r ∧ Below w.heap.size w w' := by
 unfold slices_Clone_int_int.f at h
 split at h
 case isFalse => cases h
 rename_i hb0
 obtain rfl := Option.some.inj h
 have hu := Try.underlying24
 cases A0 with
 | none =>
  have hl : l0 = [] := by
   cases l0 with
   | nil => rfl
   | cons x l => obtain ⟨_, _, h3⟩ := hr0; obtain ⟨ad, h4, _⟩ := h3 (by simp); cases h4
  subst hl
  clear hr0 hb0 h
  have hk := fun (W : World) => Lib.run_eql_slice_nil_nil (P := Try.prog) W 0 c0 Try.underlying24
  go_enter Try.func31, Try.ntmps31
  go_wp2
  go_ret
  exact ⟨_, rfl, Kd.R_nil _ _ _ _ _, Below.refl _ _⟩
 | some ad =>
  have HR0 := Am hr0
  have HC0 := Am hc0
  have LM := Am hb0
  clear hr0 hc0 h hb0
  have HB := Am (Below.refl w.heap.size w)
  have hk := fun (W : World) => Lib.run_eql_slice_nil (P := Try.prog) W 24 3 (some ad) l0.length c0 0 0 Try.underlying24
  go_enter Try.func31, Try.ntmps31
  go_wp2_with (first | ((with_reducible refine gate_dst (N := 5) rfl ?_); refine Kd.R_lit (Kd.int .i64) _ 3 ?hg (N := 5) ?hd (xs := ([] : List Int)) (inner := []) (ok := fun _ => True) (okp := fun _ => True) ?hr ?hp (fun _ hk => hk) trivial (Below.refl _ _) (Nat.le_refl _) (by simp) ?_; (case hd => rfl); (case hg => rfl); (case hr => first | (go_simp; done) | (go_simp; rfl)); (case hp => exact (Reps.none _ _)); intro v344 w3 ho4 hb hg_ hnew_; clear hg_ hnew_; have n0_ := Am (Kd.R_lower ho4 (below_size HB.out)); have n1_ := Am (below_step HB.out hb); clear HB; have HO345 := n0_; have HB := n1_; clear n0_ n1_; clear hb ho4) | ((with_reducible refine gate_builtin (b := .append) (xs := #[.tmp 5, .tmp 6]) rfl ?_); at_builtin; refine Kd.R_append_rows (Kd.int .i64) (w0 := w) w.heap.size rfl (.tmp 5) (.tmp 6) 24 3 (.int .i64 0) 8 rfl Try.underlying24 info3 rfl (by decide) (by omega) v344 ([] : List Int) l0 _ _ _ (fun _ => True) (fun _ => False) rfl rfl ?aO ?aR (fun _ _ h => h) (fun _ h => h.elim) ?aF ?aB ?aS ?aL ?_; (case aR => repeat (first | exact (Kd.C_below HR0.out HB.out) | (with_reducible refine Ca ?_ _) | (with_reducible refine Cn ?_ _) | (with_reducible refine Cd ?_))); (case aB => exact HB.out); (case aF => exact (fun _ _ => trivial)); (case aO => exact HO345.out); (case aS => exact (below_size HB.out)); (case aL => have := LM.out; simp; omega); intro v347 w5 ho hb hg hat; have n0_ := Am (hb); have n1_ := Am (ho); clear HB; clear HO345; have HB := n0_; have HO348 := n1_; clear n0_ n1_; clear ho hb hg hat))
  go_ret
  exact ⟨_, rfl, HO348.out, HB.out⟩
end Go.Proofs.Ytcheoendfcgjgaa.P
namespace Go.Proofs.Ytcheoendfcgjgaa.P
open Go.RowKit Go.Proofs.YtcheoendfcgjgaaW.PrintWords Go.Proofs.YtcheoendfcgjgaaW.PrintLast Go.Proofs.YtcheoendfcgjgaaW.PrintMore
attribute [local go_sem] max2_int min2_int max_two min_two max_three min_three max_four min_four
def impl_newTournament.f (a0 : Int) : Option (Int × List Int) := if 0 ≤ a0 then (if (a0 : Int).toNat ≤ 35184372088832 then (some (a0, (List.replicate (a0 : Int).toNat 0))) else (none)) else (none)
set_option maxHeartbeats 8000000 in
set_option maxRecDepth 100000 in
theorem impl_newTournament.calls (a0 : Int) (r1 : Int) (r2 : List Int) (w : World) (h : impl_newTournament.f a0 = some (r1, r2)) :
  Calls Try.prog 30 #[.int .i64 a0] w fun e w' => ∃ v1_ : Value, e = .returned (.agg #[.int .i64 r1, v1_]) ∧ Kd.R (Kd.int .i64) 3 w' w.heap.size (fun _ => True) v1_ r2 ∧ Below w.heap.size w w' := by
 have hu27 := Try.underlying27
 have HB := Am (Below.refl w.heap.size w)
 have H : (if 0 ≤ a0 then (if (a0 : Int).toNat ≤ 35184372088832 then (some (a0, (List.replicate (a0 : Int).toNat 0))) else (none)) else (none)) = some (r1, r2) := h
 clear h
 by_cases c2 : 0 ≤ a0
 ·
  rw [if_pos c2] at H
  have c2b0 := eq_true c2
  have c2b1 : decide (0 ≤ a0) = true := De c2
  clear c2
  by_cases c3 : (a0 : Int).toNat ≤ 35184372088832
  ·
   rw [if_pos c3] at H
   have c3b0 := eq_true c3
   have c3b1 : decide ((a0 : Int).toNat ≤ 35184372088832) = true := De c3
   clear c3
   obtain ⟨y259, hy259⟩ : ∃ y_ : List Int, y_ = (List.replicate (a0 : Int).toNat 0) := ⟨_, rfl⟩
   replace H : (some (a0, y259)) = some (r1, r2) := by first | (rw [hy259]; with_reducible exact H) | (have H2_ := (Option.bind_some _ _).symm.trans H; rw [hy259]; with_reducible exact H2_) | (have H2_ := (Option.bind_some _ _).symm.trans H; with_reducible exact H2_) | with_reducible exact H | (rw [hy259]; exact H) | exact H
   have Ny259 := Am hy259
   clear hy259
   simp only [Option.some.injEq, Prod.mk.injEq] at H
   obtain ⟨rfl, rfl⟩ := H
   go_enter Try.func30, Try.ntmps30
   go_wp2_with (first | ((with_reducible refine gate_dst (N := 2) rfl ?_); refine box_event ?hg (N := 2) ?hd (cs := #[.int .i64 0, .slice none 0 0]) (t := 27) ?hr ?_; (case hd => rfl); (case hg => rfl); (case hr => first | (go_simp; done) | (go_simp; rfl)); intro gb258 hg w4 hbox hb; have n0_ := Am (below_step (by repeat (first | (with_reducible first | exact HB.out | apply Ba | apply Bn | apply Bd))) hb); have n1_ := Am (hbox); have n2_ := Am ((by rw [hg]; exact (below_size (by repeat (first | (with_reducible first | exact HB.out | apply Ba | apply Bn | apply Bd)))) : w.heap.size ≤ gb258)); have n3_ := Am ((by rw [hg]; exact (below_size (by repeat (first | (with_reducible first | exact HB.out | apply Ba | apply Bn | apply Bd)))) : w.heap.size ≤ gb258)); clear HB; have HB := n0_; have BK258 := n1_; have GW258 := n2_; have GE258 := n3_; clear n0_ n1_ n2_ n3_; clear hb hbox hg) | ((with_reducible refine gate_dst (N := 5) rfl ?_); refine Kd.R_make (Kd.int .i64) _ 3 rfl (N := 5) rfl 24 _ _ rfl a0 rfl rfl Try.underlying24 (.int .i64 0) 8 info3 rfl (by decide) (by omega) 0 (ok := fun _ => True) (okp := fun _ => True) rfl (fun _ hk => hk) trivial (Oe (by first | (with_reducible assumption) | assumption)) (Nat.le_trans (Nat.mul_le_mul_right _ (Oe (by first | (with_reducible assumption) | assumption) : a0.toNat ≤ 35184372088832)) (by omega)) (Below.refl _ _) (Nat.le_refl _) ?_; intro v260 w5 ho6 hb hg_ hnew_; clear hg_ hnew_; (first | rw [← Ny259.out] at ho6 | (simp only [Int.reduceToNat] at ho6; rw [← Ny259.out] at ho6)); have n0_ := Am (Kd.R_lower ho6 (below_size (by repeat (first | (with_reducible first | exact HB.out | apply Ba | apply Bn | apply Bd | refine Bs ?_ GE258.out) | exact HB.out)))); have n1_ := Am (blk_below (g := gb258) (o := .cells #[.int .i64 0, .slice none 0 0] 27 (0, 0)) (by (with_reducible repeat (first | refine Kn ?_ _ | refine Ke ?_ | refine Ka ?_ _)); exact BK258.out) hb); have n2_ := Am (below_step (by repeat (first | (with_reducible first | exact HB.out | apply Ba | apply Bn | apply Bd | refine Bs ?_ GE258.out) | exact HB.out)) hb); clear BK258; clear HB; have HO261 := n0_; have BK258 := n1_; have HB := n2_; clear n0_ n1_ n2_; clear hb ho6; obtain ⟨Ao7, co7, eo7⟩ := Kd.R_slice HO261.out; subst eo7; have hcz8_0 : w5.cell? ⟨gb258, 0, none⟩ = some (.int .i64 0) := (Kc BK258.out 0).trans rfl; have hcz8_1 : w5.cell? ⟨gb258, 1, none⟩ = some (.slice none 0 0) := (Kc BK258.out 1).trans rfl; have hfz8_0 := Kf BK258.out 0; have hfz8_1 := Kf BK258.out 1))
   refine bodyPost_ret (results_cell_row rfl _ _ gb258 27 #[.int .i64 a0, .slice Ao7 y259.length co7] (0, 0) _ rfl (by (with_reducible repeat (first | refine Kn ?_ _ | refine Ke ?_ | refine Ka ?_ _)); refine blk_put (cs := #[.int .i64 a0, .slice none 0 0]) ?_ 1 _ rfl; (with_reducible repeat (first | refine Kn ?_ _ | refine Ke ?_ | refine Ka ?_ _)); refine blk_put (cs := #[.int .i64 0, .slice none 0 0]) ?_ 0 _ rfl; (with_reducible repeat (first | refine Kn ?_ _ | refine Ke ?_ | refine Ka ?_ _)); exact BK258.out) Try.underlying27 rfl (by kernel_rfl)) rfl ?_
   exact ⟨_, by first | rfl | (simp [errW_none, errW_some] <;> rfl) | (simp [*, errW_none, errW_some] <;> rfl), by (with_reducible repeat (first | apply Ra | apply Rn | apply Rd)); exact Kd.R_mono (Kd.R_far (p := ⟨gb258, 1, none⟩) (Kd.R_far (p := ⟨gb258, 0, none⟩) (Kd.R_types HO261.out BK258.out (by decide)) (fun _ hk => hk.2) (.int .i64 a0)) (fun _ hk => hk.2) (.slice Ao7 y259.length co7)) (fun _ hk => trivial), by repeat (first | (with_reducible first | exact HB.out | apply Ba | apply Bn | apply Bd | refine Bs ?_ GE258.out) | exact HB.out)⟩
  ·
   rw [if_neg c3] at H
   exact absurd H (by simp)
 ·
  rw [if_neg c2] at H
  exact absurd H (by simp)
def impl_Tournament_beat.f (a0_0 : Int) (l0_1 : List Int) (a1 : Int) (a2 : Int) : Option (List Int) := if 0 ≤ a1 then (if a1 < (l0_1.length : Int) then (if 0 ≤ a2 then ((some (l0_1.set (a1 : Int).toNat (Go.bits .or .i64 (rd l0_1 a1) (shl .i64 1 a2)) : List Int)).bind fun y264 => (if a2 < (l0_1.length : Int) then (some (y264.set (a2 : Int).toNat (Go.bits .andNot .i64 (rd y264 a2) (shl .i64 1 a1)))) else (none))) else (none)) else (none)) else (none)
def impl_Tournament_beat.T1 : Bool × List (List Nat × List Nat) := (true, [([], []), ([0], [0]), ([], []), ([1, 2], [1, 2]), ([3], [3]), ([], []), ([5], [5]), ([4, 6], [4, 6]), ([1, 2, 0, 1, 2, 3, 4, 5, 6, 7], [1, 2]), ([8, 7, 0, 1, 2, 3, 4, 5, 6, 7], [7, 8])])
def impl_Tournament_beat.B1 : List Nat := [0, 1, 0, 7, 15, 0, 32, 127, 255, 511]
theorem impl_Tournament_beat.tab1 : rtab .any (opsOf Try.f36 1) = impl_Tournament_beat.T1 := by kernel_rfl
theorem impl_Tournament_beat.bits1 : waitsOk impl_Tournament_beat.T1.2 impl_Tournament_beat.B1 = true := by kernel_rfl
def impl_Tournament_beat.T2 : Bool × List (List Nat × List Nat) := (true, [([], []), ([0], [0]), ([], []), ([1, 2], [1, 2]), ([3], [3]), ([], []), ([5], [5]), ([4, 6], [4, 6]), ([1, 2, 0, 1, 2, 3, 4, 5, 6, 7], [1, 2]), ([8, 7, 0, 1, 2, 3, 4, 5, 6, 7], [7, 8])])
def impl_Tournament_beat.B2 : List Nat := [0, 1, 0, 7, 15, 0, 32, 127, 255, 511]
theorem impl_Tournament_beat.tab2 : rtab .any (opsOf Try.f36 2) = impl_Tournament_beat.T2 := by kernel_rfl
theorem impl_Tournament_beat.bits2 : waitsOk impl_Tournament_beat.T2.2 impl_Tournament_beat.B2 = true := by kernel_rfl
set_option maxHeartbeats 8000000 in
set_option maxRecDepth 100000 in
theorem impl_Tournament_beat.calls (a0_0 : Int) (P0_1_ : Nat → Prop) (u9000_ : Value) (l0_1 : List Int) (a1 : Int) (a2 : Int) (r : List Int) (w0 w : World) (hB : Below w0.heap.size w0 w) (ho0_1 : Kd.R (Kd.int .i64) 3 w w0.heap.size P0_1_ u9000_ l0_1) (h : impl_Tournament_beat.f a0_0 l0_1 a1 a2 = some r) :
  Calls Try.prog 36 #[.agg #[.int .i64 a0_0, u9000_], .int .i64 a1, .int .i64 a2] w fun e w' => e = .returned (.tuple #[]) ∧ Kd.R (Kd.int .i64) 3 w' w0.heap.size (fun k_ => (P0_1_ k_ ∨ w.heap.size ≤ k_)) u9000_ r ∧ Below w0.heap.size w0 w' ∧ Kept w w' (fun k_ => P0_1_ k_) := by
 have hu27 := Try.underlying27
 have HO0_1 := Am (show Kd.R (Kd.int .i64) 3 w w0.heap.size (fun k_ => (P0_1_ k_ ∨ w.heap.size ≤ k_)) u9000_ l0_1 from Kd.R_mono ho0_1 (fun k_ hk => (.inl hk)))
 have HK := Am (Kept.refl w (fun k_ => P0_1_ k_))
 have HW0 := Am hB.size
 have HB := Am hB
 clear hB
 have H : (if 0 ≤ a1 then (if a1 < (l0_1.length : Int) then (if 0 ≤ a2 then ((some (l0_1.set (a1 : Int).toNat (Go.bits .or .i64 (rd l0_1 a1) (shl .i64 1 a2)) : List Int)).bind fun y264 => (if a2 < (l0_1.length : Int) then (some (y264.set (a2 : Int).toNat (Go.bits .andNot .i64 (rd y264 a2) (shl .i64 1 a1)))) else (none))) else (none)) else (none)) else (none)) = some r := h
 clear h
 by_cases c4 : 0 ≤ a1
 ·
  rw [if_pos c4] at H
  have c4b0 : decide (0 ≤ a1) = true := De c4
  clear c4
  by_cases c5 : a1 < (l0_1.length : Int)
  ·
   rw [if_pos c5] at H
   have c5b0 : decide (a1 < (l0_1.length : Int)) = true := De c5
   clear c5
   by_cases c6 : 0 ≤ a2
   ·
    rw [if_pos c6] at H
    have c6b0 := eq_true c6
    have c6b1 : decide (0 ≤ a2) = true := De c6
    clear c6
    obtain ⟨ji7, hji7⟩ : ∃ j_ : Int, (shl .i64 1 a2) = j_ := ⟨_, rfl⟩
    replace H : ((some (l0_1.set (a1 : Int).toNat (Go.bits .or .i64 (rd l0_1 a1) (ji7)) : List Int)).bind fun y264 => (if a2 < (l0_1.length : Int) then (some (y264.set (a2 : Int).toNat (Go.bits .andNot .i64 (rd y264 a2) (shl .i64 1 a1)))) else (none))) = some r := by first | (rw [hji7] at H; exact H) | (simp only [hji7] at H ⊢; exact H)
    have hji7_ : (IntKind.i64.wrap (1 * 2 ^ min a2.toNat 64)) = ji7 := hji7
    have hji7z : a2 ≤ 64 → (IntKind.i64.wrap (1 * 2 ^ a2.toNat)) = ji7 := shl_small hji7
    have hji7u : (IntKind.i64.wrap (2 ^ min a2.toNat 64)) = ji7 := by have h_ := hji7_; rw [Int.one_mul] at h_; exact h_
    have hji7v : a2 ≤ 64 → (IntKind.i64.wrap (2 ^ a2.toNat)) = ji7 := fun hle_ => by have h_ := hji7z hle_; rw [Int.one_mul] at h_; exact h_
    have hji7y : (wrap64 (1 * 2 ^ min a2.toNat 64)) = ji7 := (i64_w _).symm.trans hji7_
    have hji7x : a2 ≤ 64 → (wrap64 (1 * 2 ^ a2.toNat)) = ji7 := fun h_ => (i64_w _).symm.trans (hji7z h_)
    obtain ⟨y264, hy264⟩ : ∃ y_ : List Int, y_ = (l0_1.set (a1 : Int).toNat (Go.bits .or .i64 (rd l0_1 a1) (ji7))) := ⟨_, rfl⟩
    replace H : (if a2 < (l0_1.length : Int) then (some (y264.set (a2 : Int).toNat (Go.bits .andNot .i64 (rd y264 a2) (shl .i64 1 a1)))) else (none)) = some r := by first | (rw [hy264]; with_reducible exact H) | (have H2_ := (Option.bind_some _ _).symm.trans H; rw [hy264]; with_reducible exact H2_) | (have H2_ := (Option.bind_some _ _).symm.trans H; with_reducible exact H2_) | with_reducible exact H | (rw [hy264]; exact H) | exact H
    have Ny264 := Am hy264
    clear hy264
    by_cases c9 : a2 < (l0_1.length : Int)
    ·
     rw [if_pos c9] at H
     have c9b0 : decide (a2 < (l0_1.length : Int)) = true := De c9
     clear c9
     have c10b0 := eq_true (Oe (by first | (with_reducible assumption) | assumption) : 0 ≤ a1)
     obtain ⟨ji11, hji11⟩ : ∃ j_ : Int, (shl .i64 1 a1) = j_ := ⟨_, rfl⟩
     replace H : (some (y264.set (a2 : Int).toNat (Go.bits .andNot .i64 (rd y264 a2) (ji11)))) = some r := by first | (rw [hji11] at H; exact H) | (simp only [hji11] at H ⊢; exact H)
     have hji11_ : (IntKind.i64.wrap (1 * 2 ^ min a1.toNat 64)) = ji11 := hji11
     have hji11z : a1 ≤ 64 → (IntKind.i64.wrap (1 * 2 ^ a1.toNat)) = ji11 := shl_small hji11
     have hji11u : (IntKind.i64.wrap (2 ^ min a1.toNat 64)) = ji11 := by have h_ := hji11_; rw [Int.one_mul] at h_; exact h_
     have hji11v : a1 ≤ 64 → (IntKind.i64.wrap (2 ^ a1.toNat)) = ji11 := fun hle_ => by have h_ := hji11z hle_; rw [Int.one_mul] at h_; exact h_
     have hji11y : (wrap64 (1 * 2 ^ min a1.toNat 64)) = ji11 := (i64_w _).symm.trans hji11_
     have hji11x : a1 ≤ 64 → (wrap64 (1 * 2 ^ a1.toNat)) = ji11 := fun h_ => (i64_w _).symm.trans (hji11z h_)
     obtain ⟨y266, hy266⟩ : ∃ y_ : List Int, y_ = (y264.set (a2 : Int).toNat (Go.bits .andNot .i64 (rd y264 a2) (ji11))) := ⟨_, rfl⟩
     replace H : (some y266) = some r := by first | (rw [hy266]; with_reducible exact H) | (have H2_ := (Option.bind_some _ _).symm.trans H; rw [hy266]; with_reducible exact H2_) | (have H2_ := (Option.bind_some _ _).symm.trans H; with_reducible exact H2_) | with_reducible exact H | (rw [hy266]; exact H) | exact H
     have Ny266 := Am hy266
     clear hy266
     obtain rfl := Option.some.inj H
     obtain ⟨Ao13, co13, eo13⟩ := Kd.R_slice HO0_1.out
     subst eo13
     go_enter Try.func36, Try.ntmps36
     try go_wp2_with (first | ((with_reducible refine gate_dst (N := 3) rfl ?_); refine box_event ?hg (N := 3) ?hd (cs := #[.int .i64 a0_0, .slice Ao13 l0_1.length co13]) (t := 27) ?hr ?_; (case hd => rfl); (case hg => rfl); (case hr => first | (go_simp; done) | (go_simp; rfl)); intro gb262 hg w14 hbox hb; have n0_ := Am (Kd.R_below (by (with_reducible repeat (first | apply Ra | apply Rn | apply Rd)); exact HO0_1.out) hb); have n1_ := Am (Kept.below (S := (fun k_ => P0_1_ k_)) (by repeat (first | (with_reducible first | exact HK.out | apply Kept.alloc | apply Kept.drewN | apply Kept.drew) | exact HK.out)) hb); have n2_ := Am (below_step (by repeat (first | (with_reducible first | exact HB.out | apply Ba | apply Bn | apply Bd))) hb); have n3_ := Am (hbox); have n4_ := Am ((by rw [hg]; exact (by first | exact HK.out.1 | exact (show Kept w _ (fun k_ => P0_1_ k_) from by repeat (first | (with_reducible first | exact HK.out | apply Kept.alloc | apply Kept.drewN | apply Kept.drew) | exact HK.out)).1) : w.heap.size ≤ gb262)); have n5_ := Am ((by rw [hg]; exact (below_size (by repeat (first | (with_reducible first | exact HB.out | apply Ba | apply Bn | apply Bd)))) : w0.heap.size ≤ gb262)); clear HO0_1; clear HK; clear HB; have HO0_1 := n0_; have HK := n1_; have HB := n2_; have BK262 := n3_; have GW262 := n4_; have GE262 := n5_; clear n0_ n1_ n2_ n3_ n4_ n5_; clear hb hbox hg))
     have n0_ := Am (Rd HO0_1.out)
     have n1_ := Am (Ke BK262.out)
     have n2_ := Am (Kept.drew HK.out)
     have n3_ := Am (Bd HB.out)
     clear HO0_1
     clear BK262
     clear HK
     clear HB
     have HO0_1 := n0_
     have BK262 := n1_
     have HK := n2_
     have HB := n3_
     clear n0_ n1_ n2_ n3_
     have p263 : 0 ≤ (a1 : Int) := Oe (by first | (with_reducible assumption) | assumption)
     have q263 : a1 < (l0_1.length : Int) := Oe (by first | (with_reducible assumption) | assumption)
     obtain ⟨ad263, e263, hx263_0⟩ := Kd.at_int (Kd.R_reads' HO0_1.out).2.2 a1 p263 q263
     cases e263
     replace p263 := eq_true p263
     replace q263 := eq_true q263
     have p8 : 0 ≤ (a1 : Int) := Oe (by first | (with_reducible assumption) | assumption)
     have q8 : (a1 : Int) < ((l0_1.length : Int) : Int) := Oe (by first | (with_reducible assumption) | assumption)
     obtain ⟨go8, co8, eo8, gb8, gl8, cl8, HG8⟩ := Kd.R_form HO0_1.out (by omega)
     (first | cases eo8 | (injection eo8 with ea_ en_ ec_; (first | subst ea_ | (injection ea_ with ea_; subst ea_)); subst ec_; clear en_))
     have GB8 := Am gb8
     have GG8 := Am HG8
     clear gb8 gl8 HG8
     have HMgo8 := Am (show (P0_1_ go8 ∨ w.heap.size ≤ go8) from (HO0_1.out.1 _ rfl))
     (first | simp only [add_plain] at hx263_0 | skip)
     obtain ⟨hx8_0, hf8_0⟩ := Kd.R_celln 0 HO0_1.out (a1 : Int) p8 q8
     replace p8 := eq_true p8
     replace q8 := eq_true q8
     have HP16 := Kd.R_putn HO0_1.out (a1 : Int) (Go.bits .or .i64 (rd l0_1 a1) (ji7))
     rw [← Ny264.out] at HP16
     have HQ16 := Am HP16
     clear HP16
     refine start_ (n := 10) (S := fun w' => w'.cell? ⟨gb262, 0, none⟩ = some (.int .i64 a0_0) ∧ w'.cell? ⟨gb262, 1, none⟩ = some (.slice (some ⟨go8, 0, none⟩) l0_1.length co13) ∧ w'.cell? ⟨go8, (a1).toNat, none⟩ = some (.int .i64 (rd l0_1 a1))) (ds := [9]) #[Zz,Zz,Zz,Zz,Zz,Zz,Zz,Zz,Zz,Zz] (by kernel_rfl) rfl rfl ⟨(Kc BK262.out 0).trans rfl, (Kc BK262.out 1).trans rfl, hx263_0⟩ (fun hHeld => ?_); refine with_tabW impl_Tournament_beat.tab1 impl_Tournament_beat.bits1 (fun HT_ HW_ => ?_)
     generalize w14.drew = w15 at HO0_1 BK262 HK HB GG8 HQ16 hf8_0 hx263_0 hx8_0 hHeld ⊢
     refine pure_ (i := 0) (N := some 6) (v := ?_) (a' := ?_) #[Yy,Zz,Zz,Zz,Zz,Zz,Zz,Zz,Zz,Zz] rfl rfl (any_of HT_.out (by kernel_rfl)) (fun _ _ _ h => h) (Or.inl ⟨by rfl, ?_⟩) ?_ ?_
     rotate_left
     ·
      intro w'
      go_simp
      with_reducible rfl
     rotate_left
     ·
      simp only [Act.put, List.setIfInBounds_toArray, List.set_cons_zero, List.set_cons_succ, i64_w, i32_w]
      rfl
     refine pure_ (i := 2) (N := some 8) (v := ?_) (a' := ?_) #[Yy,Zz,Yy,Zz,Zz,Zz,Zz,Zz,Zz,Zz] rfl rfl (any_of HT_.out (by kernel_rfl)) (fun _ _ _ h => h) (Or.inl ⟨by rfl, ?_⟩) ?_ ?_
     rotate_left
     ·
      intro w'
      go_simp
      with_reducible rfl
     rotate_left
     ·
      simp only [Act.put, List.setIfInBounds_toArray, List.set_cons_zero, List.set_cons_succ, i64_w, i32_w]
      rfl
     refine pure_ (i := 5) (N := some 11) (v := ?_) (a' := ?_) #[Yy,Zz,Yy,Zz,Zz,Yy,Zz,Zz,Zz,Zz] rfl rfl (any_of HT_.out (by kernel_rfl)) (fun _ _ _ h => h) (Or.inl ⟨by rfl, ?_⟩) ?_ ?_
     rotate_left
     ·
      intro w'
      go_simp
      with_reducible rfl
     rotate_left
     ·
      simp only [Act.put, List.setIfInBounds_toArray, List.set_cons_zero, List.set_cons_succ, i64_w, i32_w]
      rfl
     refine pure_ (i := 6) (N := some 12) (v := ?_) (a' := ?_) #[Yy,Zz,Yy,Zz,Zz,Yy,Yy,Zz,Zz,Zz] rfl rfl (any_of HT_.out (by kernel_rfl)) (fun _ _ _ h => h) (Or.inl ⟨by rfl, ?_⟩) ?_ ?_
     rotate_left
     ·
      intro w'
      go_simp
      with_reducible rfl
     rotate_left
     ·
      simp only [Act.put, List.setIfInBounds_toArray, List.set_cons_zero, List.set_cons_succ, i64_w, i32_w]
      rfl
     refine take_ (i := 1) (N := some 7) (v := ?_) (a' := ?_) #[Yy,Yy,Yy,Zz,Zz,Yy,Yy,Zz,Zz,Zz] rfl rfl (take_ofW HT_.out HW_.out (by kernel_rfl)) (fun _ _ _ h => h) (Or.inl ⟨by rfl, ?_⟩) hHeld ?_ ?_
     rotate_left
     ·
      rintro w' ⟨s0, s1, s2⟩
      go_simp
      with_reducible rfl
     rotate_left
     ·
      simp only [Act.put, List.setIfInBounds_toArray, List.set_cons_zero, List.set_cons_succ, i64_w, i32_w]
      rfl
     refine pure_ (i := 3) (N := some 9) (v := ?_) (a' := ?_) #[Yy,Yy,Yy,Yy,Zz,Yy,Yy,Zz,Zz,Zz] rfl rfl (any_of HT_.out (by kernel_rfl)) (fun _ _ _ h => h) (Or.inl ⟨by rfl, ?_⟩) ?_ ?_
     rotate_left
     ·
      intro w'
      go_simp
      with_reducible rfl
     rotate_left
     ·
      simp only [Act.put, List.setIfInBounds_toArray, List.set_cons_zero, List.set_cons_succ, i64_w, i32_w]
      rfl
     refine take_ (i := 4) (N := some 10) (v := ?_) (a' := ?_) #[Yy,Yy,Yy,Yy,Yy,Yy,Yy,Zz,Zz,Zz] rfl rfl (take_ofW HT_.out HW_.out (by kernel_rfl)) (fun _ _ _ h => h) (Or.inl ⟨by rfl, ?_⟩) hHeld ?_ ?_
     rotate_left
     ·
      rintro w' ⟨s0, s1, s2⟩
      go_simp
      with_reducible rfl
     rotate_left
     ·
      simp only [Act.put, List.setIfInBounds_toArray, List.set_cons_zero, List.set_cons_succ, i64_w, i32_w]
      rfl
     refine pure_ (i := 7) (N := some 13) (v := ?_) (a' := ?_) #[Yy,Yy,Yy,Yy,Yy,Yy,Yy,Yy,Zz,Zz] rfl rfl (any_of HT_.out (by kernel_rfl)) (fun _ _ _ h => h) (Or.inl ⟨by rfl, ?_⟩) ?_ ?_
     rotate_left
     ·
      intro w'
      go_simp
      with_reducible rfl
     rotate_left
     ·
      simp only [Act.put, List.setIfInBounds_toArray, List.set_cons_zero, List.set_cons_succ, i64_w, i32_w]
      rfl
     refine pure_ (i := 8) (N := some 14) (v := ?_) (a' := ?_) #[Yy,Yy,Yy,Yy,Yy,Yy,Yy,Yy,Yy,Zz] rfl rfl (any_of HT_.out (by kernel_rfl)) (fun _ _ _ h => h) (Or.inl ⟨by rfl, ?_⟩) ?_ ?_
     rotate_left
     ·
      intro w'
      go_simp
      with_reducible rfl
     rotate_left
     ·
      simp only [Act.put, List.setIfInBounds_toArray, List.set_cons_zero, List.set_cons_succ, i64_w, i32_w]
      rfl
     refine last_ (i := 9) (N := none) #[Yy,Yy,Yy,Yy,Yy,Yy,Yy,Yy,Yy,Yy] rfl rfl (one_of HT_.out (by kernel_rfl)) (by decide) (fun K hK => ?_)
     refine skip_ (w1 := ?_) (by rfl) rfl ?_ ?_
     rotate_left
     ·
      go_simp
      rfl
     refine hK.out _ _ ?_
     clear hK K
     refine done_ (done_of HT_.out (by kernel_rfl)) ?_
     try go_wp2
     have n0_ : Aside0 (Kd.R (Kd.int .i64) 3 (w15.setCell ⟨go8, (a1 : Int).toNat, none⟩ (.int .i64 (Go.bits .or .i64 (rd l0_1 a1) (ji7)))) w0.heap.size (fun k_ => (P0_1_ k_ ∨ w.heap.size ≤ k_)) (.slice (some ⟨go8, 0, none⟩) l0_1.length co13) y264) := ⟨by (with_reducible repeat (first | apply Ra | apply Rn | apply Rd)); exact HQ16.out⟩
     have n1_ : Aside0 ((w15.setCell ⟨go8, (a1 : Int).toNat, none⟩ (.int .i64 (Go.bits .or .i64 (rd l0_1 a1) (ji7)))).heap[gb262]? = some (.cells #[.int .i64 a0_0, .slice (some ⟨go8, 0, none⟩) l0_1.length co13] 27 (0, 0))) := ⟨by (with_reducible repeat (first | refine Kn ?_ _ | refine Ke ?_ | refine Ka ?_ _)); refine blk_far ?_ (by have h_ := Kd.R_ne HO0_1.out BK262.out (by decide); intro e_; exact h_ (by rw [e_]; rfl)) _; (with_reducible repeat (first | refine Kn ?_ _ | refine Ke ?_ | refine Ka ?_ _)); exact BK262.out⟩
     have n2_ : Aside0 (Kept w (w15.setCell ⟨go8, (a1 : Int).toNat, none⟩ (.int .i64 (Go.bits .or .i64 (rd l0_1 a1) (ji7)))) (fun k_ => P0_1_ k_)) := ⟨by repeat (first | (with_reducible first | exact HK.out | apply Kept.alloc | apply Kept.drewN | apply Kept.drew | refine Kept.setCell ?_ HMgo8.out _ | refine Kept.setCell ?_ (.inr GW262.out) _) | exact HK.out)⟩
     have n3_ : Aside0 (Below w0.heap.size w0 (w15.setCell ⟨go8, (a1 : Int).toNat, none⟩ (.int .i64 (Go.bits .or .i64 (rd l0_1 a1) (ji7))))) := ⟨by repeat (first | (with_reducible first | exact HB.out | apply Ba | apply Bn | apply Bd | refine Bs ?_ GB8.out | refine Bs ?_ GE262.out) | exact HB.out)⟩
     (try clear HO0_1)
     (try clear BK262)
     (try clear HK)
     (try clear HB)
     generalize (w15.setCell ⟨go8, (a1 : Int).toNat, none⟩ (.int .i64 (Go.bits .or .i64 (rd l0_1 a1) (ji7)))) = w17 at n0_ n1_ n2_ n3_ ⊢
     have HO0_1 := n0_
     have BK262 := n1_
     have HK := n2_
     have HB := n3_
     clear n0_ n1_ n2_ n3_
     have n0_ := Am (Rd HO0_1.out)
     have n1_ := Am (Ke BK262.out)
     have n2_ := Am (Kept.drew HK.out)
     have n3_ := Am (Bd HB.out)
     clear HO0_1
     clear BK262
     clear HK
     clear HB
     have HO0_1 := n0_
     have BK262 := n1_
     have HK := n2_
     have HB := n3_
     clear n0_ n1_ n2_ n3_
     have p265 : 0 ≤ (a2 : Int) := Oe (by first | (with_reducible assumption) | assumption)
     have q265 : a2 < (y264.length : Int) := (by have h_ : (a2 : Int) < ((l0_1.length : Int) : Int) := Oe (by first | (with_reducible assumption) | assumption); first | (have e_ := (Kd.R_reads' HO0_1.out).1; omega) | simpa only [Ny264.out, List.length_set] using h_)
     have ql265 : ((a2 : Int) < ((l0_1.length : Int) : Int)) = True := eq_true (Oe (by first | (with_reducible assumption) | assumption))
     obtain ⟨ad265, e265, hx265_0⟩ := Kd.at_int (Kd.R_reads' HO0_1.out).2.2 a2 p265 q265
     obtain rfl : (⟨go8, 0, none⟩ : Addr) = ad265 := (by injection e265)
     (first | simp only [add_plain] at hx265_0 | simp only [add_at] at hx265_0 | simp only [Addr.add, Nat.zero_add] at hx265_0 | skip)
     replace p265 := eq_true p265
     replace q265 := eq_true q265
     have p12 : 0 ≤ (a2 : Int) := Oe (by first | (with_reducible assumption) | assumption)
     have q12 : (a2 : Int) < ((l0_1.length : Int) : Int) := Oe (by first | (with_reducible assumption) | assumption)
     obtain ⟨hx12_0, hf12_0⟩ := Kd.R_celln 0 HO0_1.out (a2 : Int) p12 q12
     replace p12 := eq_true p12
     replace q12 := eq_true q12
     have HP19 := Kd.R_putn HO0_1.out (a2 : Int) (Go.bits .andNot .i64 (rd y264 a2) (ji11))
     rw [← Ny266.out] at HP19
     have HQ19 := Am HP19
     clear HP19
     refine start_ (n := 10) (S := fun w' => w'.cell? ⟨gb262, 0, none⟩ = some (.int .i64 a0_0) ∧ w'.cell? ⟨gb262, 1, none⟩ = some (.slice (some ⟨go8, 0, none⟩) l0_1.length co13) ∧ w'.cell? ⟨go8, (a2).toNat, none⟩ = some (.int .i64 (rd y264 a2))) (ds := [9]) #[Zz,Zz,Zz,Zz,Zz,Zz,Zz,Zz,Zz,Zz] (by kernel_rfl) rfl rfl ⟨(Kc BK262.out 0).trans rfl, (Kc BK262.out 1).trans rfl, hx265_0⟩ (fun hHeld => ?_); refine with_tabW impl_Tournament_beat.tab2 impl_Tournament_beat.bits2 (fun HT_ HW_ => ?_)
     generalize w17.drew = w18 at HO0_1 BK262 HK HB HQ16 HQ19 hf12_0 hx12_0 hx265_0 hHeld ⊢
     refine pure_ (i := 0) (N := some 15) (v := ?_) (a' := ?_) #[Yy,Zz,Zz,Zz,Zz,Zz,Zz,Zz,Zz,Zz] rfl rfl (any_of HT_.out (by kernel_rfl)) (fun _ _ _ h => h) (Or.inl ⟨by rfl, ?_⟩) ?_ ?_
     rotate_left
     ·
      intro w'
      go_simp
      with_reducible rfl
     rotate_left
     ·
      simp only [Act.put, List.setIfInBounds_toArray, List.set_cons_zero, List.set_cons_succ, i64_w, i32_w]
      rfl
     refine pure_ (i := 2) (N := some 17) (v := ?_) (a' := ?_) #[Yy,Zz,Yy,Zz,Zz,Zz,Zz,Zz,Zz,Zz] rfl rfl (any_of HT_.out (by kernel_rfl)) (fun _ _ _ h => h) (Or.inl ⟨by rfl, ?_⟩) ?_ ?_
     rotate_left
     ·
      intro w'
      go_simp
      with_reducible rfl
     rotate_left
     ·
      simp only [Act.put, List.setIfInBounds_toArray, List.set_cons_zero, List.set_cons_succ, i64_w, i32_w]
      rfl
     refine pure_ (i := 5) (N := some 20) (v := ?_) (a' := ?_) #[Yy,Zz,Yy,Zz,Zz,Yy,Zz,Zz,Zz,Zz] rfl rfl (any_of HT_.out (by kernel_rfl)) (fun _ _ _ h => h) (Or.inl ⟨by rfl, ?_⟩) ?_ ?_
     rotate_left
     ·
      intro w'
      go_simp
      with_reducible rfl
     rotate_left
     ·
      simp only [Act.put, List.setIfInBounds_toArray, List.set_cons_zero, List.set_cons_succ, i64_w, i32_w]
      rfl
     refine pure_ (i := 6) (N := some 21) (v := ?_) (a' := ?_) #[Yy,Zz,Yy,Zz,Zz,Yy,Yy,Zz,Zz,Zz] rfl rfl (any_of HT_.out (by kernel_rfl)) (fun _ _ _ h => h) (Or.inl ⟨by rfl, ?_⟩) ?_ ?_
     rotate_left
     ·
      intro w'
      go_simp
      with_reducible rfl
     rotate_left
     ·
      simp only [Act.put, List.setIfInBounds_toArray, List.set_cons_zero, List.set_cons_succ, i64_w, i32_w]
      rfl
     refine take_ (i := 1) (N := some 16) (v := ?_) (a' := ?_) #[Yy,Yy,Yy,Zz,Zz,Yy,Yy,Zz,Zz,Zz] rfl rfl (take_ofW HT_.out HW_.out (by kernel_rfl)) (fun _ _ _ h => h) (Or.inl ⟨by rfl, ?_⟩) hHeld ?_ ?_
     rotate_left
     ·
      rintro w' ⟨s0, s1, s2⟩
      go_simp
      with_reducible rfl
     rotate_left
     ·
      simp only [Act.put, List.setIfInBounds_toArray, List.set_cons_zero, List.set_cons_succ, i64_w, i32_w]
      rfl
     refine pure_ (i := 3) (N := some 18) (v := ?_) (a' := ?_) #[Yy,Yy,Yy,Yy,Zz,Yy,Yy,Zz,Zz,Zz] rfl rfl (any_of HT_.out (by kernel_rfl)) (fun _ _ _ h => h) (Or.inl ⟨by rfl, ?_⟩) ?_ ?_
     rotate_left
     ·
      intro w'
      go_simp
      with_reducible rfl
     rotate_left
     ·
      simp only [Act.put, List.setIfInBounds_toArray, List.set_cons_zero, List.set_cons_succ, i64_w, i32_w]
      rfl
     refine take_ (i := 4) (N := some 19) (v := ?_) (a' := ?_) #[Yy,Yy,Yy,Yy,Yy,Yy,Yy,Zz,Zz,Zz] rfl rfl (take_ofW HT_.out HW_.out (by kernel_rfl)) (fun _ _ _ h => h) (Or.inl ⟨by rfl, ?_⟩) hHeld ?_ ?_
     rotate_left
     ·
      rintro w' ⟨s0, s1, s2⟩
      go_simp
      with_reducible rfl
     rotate_left
     ·
      simp only [Act.put, List.setIfInBounds_toArray, List.set_cons_zero, List.set_cons_succ, i64_w, i32_w]
      rfl
     refine pure_ (i := 7) (N := some 22) (v := ?_) (a' := ?_) #[Yy,Yy,Yy,Yy,Yy,Yy,Yy,Yy,Zz,Zz] rfl rfl (any_of HT_.out (by kernel_rfl)) (fun _ _ _ h => h) (Or.inl ⟨by rfl, ?_⟩) ?_ ?_
     rotate_left
     ·
      intro w'
      go_simp
      with_reducible rfl
     rotate_left
     ·
      simp only [Act.put, List.setIfInBounds_toArray, List.set_cons_zero, List.set_cons_succ, i64_w, i32_w]
      rfl
     refine pure_ (i := 8) (N := some 23) (v := ?_) (a' := ?_) #[Yy,Yy,Yy,Yy,Yy,Yy,Yy,Yy,Yy,Zz] rfl rfl (any_of HT_.out (by kernel_rfl)) (fun _ _ _ h => h) (Or.inl ⟨by rfl, ?_⟩) ?_ ?_
     rotate_left
     ·
      intro w'
      go_simp
      with_reducible rfl
     rotate_left
     ·
      simp only [Act.put, List.setIfInBounds_toArray, List.set_cons_zero, List.set_cons_succ, i64_w, i32_w]
      rfl
     refine last_ (i := 9) (N := none) #[Yy,Yy,Yy,Yy,Yy,Yy,Yy,Yy,Yy,Yy] rfl rfl (one_of HT_.out (by kernel_rfl)) (by decide) (fun K hK => ?_)
     refine skip_ (w1 := ?_) (by rfl) rfl ?_ ?_
     rotate_left
     ·
      go_simp
      rfl
     refine hK.out _ _ ?_
     clear hK K
     refine done_ (done_of HT_.out (by kernel_rfl)) ?_
     try go_wp2
     first | go_end0 | ((try simp only [Exit.inBlock, Exit.then]); refine bodyPost_ret (results_none rfl _ _ _) rfl ?_)
     exact ⟨by first | rfl | (simp [errW_none, errW_some] <;> rfl) | (simp only [← hji7, ← hji11]; first | rfl | (simp [errW_none, errW_some] <;> rfl)) | (simp [*, errW_none, errW_some] <;> rfl), by (with_reducible repeat (first | apply Ra | apply Rn | apply Rd)); exact HQ19.out, by repeat (first | (with_reducible first | exact HB.out | apply Ba | apply Bn | apply Bd | refine Bs ?_ GB8.out | refine Bs ?_ GE262.out) | exact HB.out), by repeat (first | (with_reducible first | exact HK.out | apply Kept.alloc | apply Kept.drewN | apply Kept.drew | refine Kept.setCell ?_ HMgo8.out _ | refine Kept.setCell ?_ (.inr GW262.out) _) | exact HK.out)⟩
    ·
     rw [if_neg c9] at H
     exact absurd H (by simp)
   ·
    rw [if_neg c6] at H
    exact absurd H (by simp)
  ·
   rw [if_neg c5] at H
   exact absurd H (by simp)
 ·
  rw [if_neg c4] at H
  exact absurd H (by simp)
end Go.Proofs.Ytcheoendfcgjgaa.P
namespace Go.Proofs.Ytcheoendfcgjgaa.P
open Go.RowKit Go.Proofs.YtcheoendfcgjgaaW.PrintWords Go.Proofs.YtcheoendfcgjgaaW.PrintLast Go.Proofs.YtcheoendfcgjgaaW.PrintMore Go.Proofs.Ytcheoendfcgjgaa.K
open Go Go.Sort Go.Shelf
attribute [local go_sem ↓] Go.wp_at_zero Go.wp_at_succ
structure BT (w W : World) (n : Nat) (g2 g4 g5 gB gN gO cB cN cO : Nat) (ns nd od : List Int) : Prop where
 b2 : W.heap[g2]? = some (.cells #[.int .i64 0, .slice none 0 0] 27 (0, 0))
 b4 : W.heap[g4]? = some (.cells #[.int .i64 (n : Int), .slice (some ⟨gB, 0, none⟩) ns.length cB] 27 (0, 0))
 b5 : W.heap[g5]? = some (.cells #[.slice (some ⟨gN, 0, none⟩) nd.length cN] 24 (0, 0))
 rB : K.IRow W w.heap.size gB cB ns
 rN : K.IRow W w.heap.size gN cN nd
 rO : K.IRow W w.heap.size gO cO od
 nBN : gB ≠ gN
 nBO : gB ≠ gO
 nNO : gN ≠ gO
 n24 : g2 ≠ g4
 bel : Below w.heap.size w W
 ge2 : w.heap.size ≤ g2
theorem BT.neBox {w W : World} {n g2 g4 g5 gB gN gO cB cN cO : Nat} {ns nd od : List Int} (h : BT w W n g2 g4 g5 gB gN gO cB cN cO ns nd od) {g c : Nat} {xs : List Int} (hr : K.IRow W w.heap.size g c xs) : g2 ≠ g ∧ g4 ≠ g ∧ g5 ≠ g := by
 obtain ⟨cur, h1, _⟩ := hr.blk
 refine ⟨fun e => ?_, fun e => ?_, fun e => ?_⟩
 ·
  have := h.b2; rw [e, h1] at this; injection this with q; injection q with q1 q2; exact absurd q2 (by decide)
 ·
  have := h.b4; rw [e, h1] at this; injection this with q; injection q with q1 q2; exact absurd q2 (by decide)
 ·
  have := h.b5; rw [e, h1] at this; injection this with q; injection q with q1 q2; exact absurd q2 (by decide)
theorem BT.keep {w W W2 : World} {n g2 g4 g5 gB gN gO cB cN cO : Nat} {ns nd od : List Int} (h : BT w W n g2 g4 g5 gB gN gO cB cN cO ns nd od) (hb : Below W.heap.size W W2) : BT w W2 n g2 g4 g5 gB gN gO cB cN cO ns nd od :=
 ⟨(hb.block _ (blk_lt h.b2)).trans h.b2, (hb.block _ (blk_lt h.b4)).trans h.b4, (hb.block _ (blk_lt h.b5)).trans h.b5, h.rB.keep (hb.block _ h.rB.lt), h.rN.keep (hb.block _ h.rN.lt), h.rO.keep (hb.block _ h.rO.lt), h.nBN, h.nBO, h.nNO, h.n24, below_step h.bel hb, h.ge2⟩
theorem BT.sorted {w W W2 : World} {n g2 g4 g5 gB gN gO cB cN cO : Nat} {ns nd od od' : List Int} (h : BT w W n g2 g4 g5 gB gN gO cB cN cO ns nd od) (hg : W.grownBy W2 (some gO)) (hr : K.IRow W2 w.heap.size gO cO od') : BT w W2 n g2 g4 g5 gB gN gO cB cN cO ns nd od' := by
 obtain ⟨q2, q4, q5⟩ := h.neBox h.rO
 have hk : ∀ k, k < W.heap.size → k ≠ gO → W2.heap[k]? = W.heap[k]? := fun k hk hne => hg.block k hk (fun e => hne (Option.some.inj e))
 exact ⟨(hk _ (blk_lt h.b2) q2).trans h.b2, (hk _ (blk_lt h.b4) q4).trans h.b4, (hk _ (blk_lt h.b5) q5).trans h.b5, h.rB.keep (hk _ h.rB.lt h.nBO), h.rN.keep (hk _ h.rN.lt h.nNO), hr, h.nBN, h.nBO, h.nNO, h.n24, pw_below_grown h.bel _ h.bel.size hg (fun k e => by cases e; exact h.rO.base), h.ge2⟩
theorem BT.joined {w W W2 : World} {n g2 g4 g5 gB gN gO cB cN cO : Nat} {ns ns' nd od : List Int} (h : BT w W n g2 g4 g5 gB gN gO cB cN cO ns nd od) (hk0 : Kept W W2 (fun k => k = gB)) (hb : Below w.heap.size w W2) (hr : K.IRow W2 w.heap.size gB cB ns') (hl : ns'.length = ns.length) : BT w W2 n g2 g4 g5 gB gN gO cB cN cO ns' nd od := by
 obtain ⟨q2, q4, q5⟩ := h.neBox h.rB
 have hk : ∀ k, k < W.heap.size → k ≠ gB → W2.heap[k]? = W.heap[k]? := fun k hk hne => hk0.2 k hk hne
 exact ⟨(hk _ (blk_lt h.b2) q2).trans h.b2, by rw [hl]; exact (hk _ (blk_lt h.b4) q4).trans h.b4, (hk _ (blk_lt h.b5) q5).trans h.b5, hr, h.rN.keep (hk _ h.rN.lt (Ne.symm h.nBN)), h.rO.keep (hk _ h.rO.lt (Ne.symm h.nBO)), h.nBN, h.nBO, h.nNO, h.n24, hb, h.ge2⟩
theorem BT.put {w W : World} {n g2 g4 g5 gB gN gO cB cN cO : Nat} {ns nd od : List Int} (h : BT w W n g2 g4 g5 gB gN gO cB cN cO ns nd od) (j : Nat) (hj : j < nd.length) (v : Int) : BT w (W.setCell ⟨gN, j, none⟩ (.int .i64 v)) n g2 g4 g5 gB gN gO cB cN cO ns (nd.set j v) od := by
 obtain ⟨q2, q4, q5⟩ := h.neBox h.rN
 have hs := h.rN.set j hj v
 exact ⟨(K.set_heap q2).trans h.b2, (K.set_heap q4).trans h.b4, by rw [List.length_set]; exact (K.set_heap q5).trans h.b5, h.rB.keep (K.set_heap h.nBN), hs, h.rO.keep (K.set_heap (Ne.symm h.nNO)), h.nBN, h.nBO, h.nNO, h.n24, Bs h.bel h.rN.base, h.ge2⟩
theorem BT.appended {w W W2 : World} {n g2 g4 g5 gB gN gO g' cB cN cO c' : Nat} {ns nd od od' : List Int} (h0 : BT w W n g2 g4 g5 gB gN gO cB cN cO ns nd od) (o : Obj) (hg : (W.alloc o).grownBy W2 (some gO)) (hr : K.IRow W2 w.heap.size g' c' od') (hat : g' = gO ∨ (W.alloc o).heap.size ≤ g') : BT w W2 n g2 g4 g5 gB gN g' cB cN c' ns nd od' := by
 have h := h0.keep (Ba (Below.refl W.heap.size W) o)
 obtain ⟨q2, q4, q5⟩ := h.neBox h.rO
 have hk : ∀ k, k < (W.alloc o).heap.size → k ≠ gO → W2.heap[k]? = (W.alloc o).heap[k]? := fun k hk hne => hg.block k hk (fun e => hne (Option.some.inj e))
 have l1 := h.rB.lt
 have l2 := h.rN.lt
 exact ⟨(hk _ (blk_lt h.b2) q2).trans h.b2, (hk _ (blk_lt h.b4) q4).trans h.b4, (hk _ (blk_lt h.b5) q5).trans h.b5, h.rB.keep (hk _ h.rB.lt h.nBO), h.rN.keep (hk _ h.rN.lt h.nNO), hr, h.nBN, by rcases hat with e | e; (· rw [e]; exact h.nBO); (· omega), by rcases hat with e | e; (· rw [e]; exact h.nNO); (· omega), h.n24, pw_below_grown h.bel _ h.bel.size hg (fun k e => by cases e; exact h.rO.base), h.ge2⟩
theorem BT.start {w W : World} {n g2 gB gN cB cN : Nat} {ns nd : List Int} (h2 : W.heap[g2]? = some (.cells #[.int .i64 0, .slice none 0 0] 27 (0, 0))) (hB : K.IRow W w.heap.size gB cB ns) (hN : K.IRow W w.heap.size gN cN nd) (hne : gB ≠ gN) (hb : Below w.heap.size w W) (hge : w.heap.size ≤ g2) :
  BT w (((W.alloc (.cells #[] 3)).alloc (.cells #[.int .i64 (n : Int), .slice (some ⟨gB, 0, none⟩) ns.length cB] 27)).alloc (.cells #[.slice (some ⟨gN, 0, none⟩) nd.length cN] 24)) n g2 (W.heap.size + 1) (W.heap.size + 1 + 1) gB gN W.heap.size cB cN 0 ns nd [] := by
 have l2 := blk_lt h2
 have l3 := hB.lt
 have l4 := hN.lt
 have hbe : ∀ W' : World, Below W.heap.size W W' → Below w.heap.size w W' := fun W' hb' => below_step hb hb'
 have b3 : Below W.heap.size W (((W.alloc (.cells #[] 3)).alloc (.cells #[.int .i64 (n : Int), .slice (some ⟨gB, 0, none⟩) ns.length cB] 27)).alloc (.cells #[.slice (some ⟨gN, 0, none⟩) nd.length cN] 24)) := Ba (Ba (Ba (Below.refl _ _) _) _) _
 refine ⟨(b3.block _ l2).trans h2, ?_, ?_, hB.keep (b3.block _ l3), hN.keep (b3.block _ l4), ⟨hb.size, ⟨#[], ?_, rfl, rfl⟩, Nat.le_refl _, by unfold maxLen; omega⟩, hne, by omega, by omega, by omega, hbe _ b3, hge⟩
 ·
  refine Ka ?_ _
  have := blk_new (W.alloc (.cells #[] 3)) (.cells #[.int .i64 (n : Int), .slice (some ⟨gB, 0, none⟩) ns.length cB] 27)
  rw [World.size_alloc] at this
  exact this
 ·
  have := blk_new ((W.alloc (.cells #[] 3)).alloc (.cells #[.int .i64 (n : Int), .slice (some ⟨gB, 0, none⟩) ns.length cB] 27)) (.cells #[.slice (some ⟨gN, 0, none⟩) nd.length cN] 24)
  rw [World.size_alloc, World.size_alloc] at this
  exact this
 ·
  exact Ka (Ka (blk_new W _) _) _
structure BT8 (w W : World) (n g2 g4 g5 g8 gB gN gO cB cN cO : Nat) (ns nd od : List Int) (x : Int) : Prop where
 bt : BT w W n g2 g4 g5 gB gN gO cB cN cO ns nd od
 b8 : W.heap[g8]? = some (.cells #[.int .i64 x] 3 (0, 0))
 ge8 : w.heap.size ≤ g8
 n82 : g8 ≠ g2
 n84 : g8 ≠ g4
 n85 : g8 ≠ g5
 n8B : g8 ≠ gB
 n8N : g8 ≠ gN
 n8O : g8 ≠ gO
section
variable {w W W2 : World} {n g2 g4 g5 g8 gB gN gO gP cB cN cO cP : Nat} {ns ns' nd od od' ps ps' : List Int} {x y : Int}
theorem BT8.made (h : BT w W n g2 g4 g5 gB gN gO cB cN cO ns nd od) (hg : g8 = W.heap.size) (hb : Below W.heap.size W W2) (h8 : W2.heap[g8]? = some (.cells #[.int .i64 x] 3 (0, 0))) : BT8 w W2 n g2 g4 g5 g8 gB gN gO cB cN cO ns nd od x := by
 have l2 := blk_lt h.b2
 have l4 := blk_lt h.b4
 have l5 := blk_lt h.b5
 have lB := h.rB.lt
 have lN := h.rN.lt
 have lO := h.rO.lt
 have := h.bel.size
 exact ⟨h.keep hb, h8, by omega, by omega, by omega, by omega, by omega, by omega, by omega⟩
theorem BT8.keep (h : BT8 w W n g2 g4 g5 g8 gB gN gO cB cN cO ns nd od x) (hb : Below W.heap.size W W2) : BT8 w W2 n g2 g4 g5 g8 gB gN gO cB cN cO ns nd od x :=
 ⟨h.bt.keep hb, (hb.block _ (blk_lt h.b8)).trans h.b8, h.ge8, h.n82, h.n84, h.n85, h.n8B, h.n8N, h.n8O⟩
theorem BT8.put8 (h : BT8 w W n g2 g4 g5 g8 gB gN gO cB cN cO ns nd od x) (y : Int) : BT8 w (W.setCell ⟨g8, 0, none⟩ (.int .i64 y)) n g2 g4 g5 g8 gB gN gO cB cN cO ns nd od y := by
 have k : ∀ g, g8 ≠ g → (W.setCell ⟨g8, 0, none⟩ (.int .i64 y)).heap[g]? = W.heap[g]? := fun g hne => K.set_heap (Ne.symm hne)
 have b := h.bt
 exact ⟨⟨(k _ h.n82).trans b.b2, (k _ h.n84).trans b.b4, (k _ h.n85).trans b.b5, b.rB.keep (k _ h.n8B), b.rN.keep (k _ h.n8N), b.rO.keep (k _ h.n8O), b.nBN, b.nBO, b.nNO, b.n24, Bs b.bel h.ge8, b.ge2⟩, blk_put (cs := #[.int .i64 x]) h.b8 0 _ rfl, h.ge8, h.n82, h.n84, h.n85, h.n8B, h.n8N, h.n8O⟩
theorem BT8.fewer (h : BT8 w W n g2 g4 g5 g8 gB gN gO cB cN cO ns nd od x) (hg : W.grownBy W2 (some gO)) (hr : K.IRow W2 w.heap.size gO cO od') : BT8 w W2 n g2 g4 g5 g8 gB gN gO cB cN cO ns nd od' x :=
 ⟨h.bt.sorted hg hr, (hg.block _ (blk_lt h.b8) (fun e => h.n8O (Option.some.inj e))).trans h.b8, h.ge8, h.n82, h.n84, h.n85, h.n8B, h.n8N, h.n8O⟩
structure BTP (w W : World) (n g2 g4 g5 g8 gB gN gO gP cB cN cO cP : Nat) (ns nd od : List Int) (x : Int) (ps : List Int) : Prop where
 b : BT8 w W n g2 g4 g5 g8 gB gN gO cB cN cO ns nd od x
 rP : K.IRow W w.heap.size gP cP ps
 nPB : gP ≠ gB
 nPN : gP ≠ gN
 nPO : gP ≠ gO
 nP8 : gP ≠ g8
theorem BTP.made (h : BT8 w W n g2 g4 g5 g8 gB gN gO cB cN cO ns nd od x) (hb : Below W.heap.size W W2) (hr : K.IRow W2 W.heap.size gP cP ps) : BTP w W2 n g2 g4 g5 g8 gB gN gO gP cB cN cO cP ns nd od x ps := by
 have lB := h.bt.rB.lt
 have lN := h.bt.rN.lt
 have lO := h.bt.rO.lt
 have l8 := blk_lt h.b8
 have := hr.base
 have := h.bt.bel.size
 exact ⟨h.keep hb, ⟨by omega, hr.blk, hr.le, hr.max⟩, by omega, by omega, by omega, by omega⟩
theorem BTP.keep (h : BTP w W n g2 g4 g5 g8 gB gN gO gP cB cN cO cP ns nd od x ps) (hb : Below W.heap.size W W2) : BTP w W2 n g2 g4 g5 g8 gB gN gO gP cB cN cO cP ns nd od x ps :=
 ⟨h.b.keep hb, h.rP.keep (hb.block _ h.rP.lt), h.nPB, h.nPN, h.nPO, h.nP8⟩
theorem BTP.sorted (h : BTP w W n g2 g4 g5 g8 gB gN gO gP cB cN cO cP ns nd od x ps) (hg : W.grownBy W2 (some gP)) (hr : K.IRow W2 w.heap.size gP cP ps') : BTP w W2 n g2 g4 g5 g8 gB gN gO gP cB cN cO cP ns nd od x ps' := by
 obtain ⟨q2, q4, q5⟩ := h.b.bt.neBox h.rP
 have hk : ∀ k, k < W.heap.size → k ≠ gP → W2.heap[k]? = W.heap[k]? := fun k hk hne => hg.block k hk (fun e => hne (Option.some.inj e))
 have b := h.b.bt
 have h1 : BT w W2 n g2 g4 g5 gB gN gO cB cN cO ns nd od := ⟨(hk _ (blk_lt b.b2) q2).trans b.b2, (hk _ (blk_lt b.b4) q4).trans b.b4, (hk _ (blk_lt b.b5) q5).trans b.b5, b.rB.keep (hk _ b.rB.lt (Ne.symm h.nPB)), b.rN.keep (hk _ b.rN.lt (Ne.symm h.nPN)), b.rO.keep (hk _ b.rO.lt (Ne.symm h.nPO)), b.nBN, b.nBO, b.nNO, b.n24, pw_below_grown b.bel _ b.bel.size hg (fun k e => by cases e; exact h.rP.base), b.ge2⟩
 exact ⟨⟨h1, (hk _ (blk_lt h.b.b8) (Ne.symm h.nP8)).trans h.b.b8, h.b.ge8, h.b.n82, h.b.n84, h.b.n85, h.b.n8B, h.b.n8N, h.b.n8O⟩, hr, h.nPB, h.nPN, h.nPO, h.nP8⟩
theorem BTP.joined (h : BTP w W n g2 g4 g5 g8 gB gN gO gP cB cN cO cP ns nd od x ps) (hk0 : Kept W W2 (fun k => k = gB)) (hb : Below w.heap.size w W2) (hr : K.IRow W2 w.heap.size gB cB ns') (hl : ns'.length = ns.length) : BTP w W2 n g2 g4 g5 g8 gB gN gO gP cB cN cO cP ns' nd od x ps :=
 ⟨⟨h.b.bt.joined hk0 hb hr hl, (hk0.2 _ (blk_lt h.b.b8) h.b.n8B).trans h.b.b8, h.b.ge8, h.b.n82, h.b.n84, h.b.n85, h.b.n8B, h.b.n8N, h.b.n8O⟩, h.rP.keep (hk0.2 _ h.rP.lt h.nPB), h.nPB, h.nPN, h.nPO, h.nP8⟩
theorem BTP.put (h : BTP w W n g2 g4 g5 g8 gB gN gO gP cB cN cO cP ns nd od x ps) (j : Nat) (hj : j < nd.length) (v : Int) : BTP w (W.setCell ⟨gN, j, none⟩ (.int .i64 v)) n g2 g4 g5 g8 gB gN gO gP cB cN cO cP ns (nd.set j v) od x ps :=
 ⟨⟨h.b.bt.put j hj v, (K.set_heap h.b.n8N).trans h.b.b8, h.b.ge8, h.b.n82, h.b.n84, h.b.n85, h.b.n8B, h.b.n8N, h.b.n8O⟩, h.rP.keep (K.set_heap h.nPN), h.nPB, h.nPN, h.nPO, h.nP8⟩
end
end Go.Proofs.Ytcheoendfcgjgaa.P
namespace Go.Proofs.Ytcheoendfcgjgaa.K
open Go.RowKit Go.Proofs.YtcheoendfcgjgaaW.PrintWords Go.Proofs.YtcheoendfcgjgaaW.PrintMore Go.Proofs.Ytcheoendfcgjgaa.P
theorem beatN_char {n : Nat} {ns : List Nat} (h : Sets n ns) (i j : Nat) (hi : i < n) (hj : j < n) (hz : nb ns j i = false) (hij : i ≠ j) : Sets n (beatN ns i j) ∧ ∀ a b, nb (beatN ns i j) a b = (nb ns a b || (decide (a = i) && decide (b = j))) := by
  have h1 := sets_or h i j hj
  refine ⟨sets_andNot h1 j i, fun a b => ?_⟩
  unfold beatN
  rw [nb_andNot j i (by rw [List.length_set, h.len]; exact hj), nb_or i j (by rw [h.len]; exact hi)]
  by_cases c : a = j ∧ b = i
  · obtain ⟨rfl, rfl⟩ := c
    simp [hz]
    intro e; exact absurd e.symm hij
  · have : (decide (a = j) && decide (b = i)) = false := by simpa using c
    rw [this]; simp
theorem btIn_char {n : Nat} (i : Nat) (M : Int) (hi : i < n) : ∀ (o : List Nat) (k : Nat) (nd : List Int) (ns : List Nat), o.Nodup → i ∉ o → (∀ x ∈ o, x < n) → nd.length = n → Sets n ns → (∀ x ∈ o, nb ns i x = false ∧ nb ns x i = false) →
    (btIn i M o k nd ns).1.length = n ∧ Sets n (btIn i M o k nd ns).2 ∧ (∀ x, (btIn i M o k nd ns).1.getD x 0 = if x ∈ o.drop (M - k).toNat then nd.getD x 0 - 1 else nd.getD x 0) ∧
      ∀ a b, nb (btIn i M o k nd ns).2 a b = (nb ns a b || ((decide (a = i) && decide (b ∈ o.take (M - k).toNat)) || (decide (a ∈ o.drop (M - k).toNat) && decide (b = i)))) := by
  intro o
  induction o with
  | nil => intro k nd ns _ _ _ hl hS _; exact ⟨hl, hS, fun x => by simp [btIn], fun a b => by simp [btIn]⟩
  | cons j o ih =>
    intro k nd ns hN hio hL hl hS hz
    obtain ⟨q1, q2⟩ := List.nodup_cons.1 hN
    have hjn := hL j List.mem_cons_self
    have hij : i ≠ j := fun e => hio (e ▸ List.mem_cons_self)
    have hjl : j < nd.length := by omega
    obtain ⟨z1, z2⟩ := hz j List.mem_cons_self
    by_cases c : (k : Int) < M
    · obtain ⟨t, ht⟩ : ∃ t, (M - k).toNat = t + 1 := ⟨(M - k).toNat - 1, by omega⟩
      have ht2 : (M - ((k + 1 : Nat) : Int)).toNat = t := by omega
      obtain ⟨b1, b2⟩ := beatN_char hS i j hi hjn z2 hij
      obtain ⟨h1, h2, h3, h4⟩ := ih (k + 1) nd (beatN ns i j) q2 (fun e => hio (List.mem_cons_of_mem _ e)) (fun x hx => hL x (List.mem_cons_of_mem _ hx)) hl b1 (fun x hx => by
        obtain ⟨w1, w2⟩ := hz x (List.mem_cons_of_mem _ hx)
        have hxj : x ≠ j := fun e => q1 (e ▸ hx)
        have hxi : x ≠ i := fun e => hio (e ▸ List.mem_cons_of_mem _ hx)
        rw [b2, b2, w1, w2]; simp [hxj, hxi])
      rw [btIn, if_pos c, ht]
      rw [ht2] at h3 h4
      refine ⟨h1, h2, fun x => by rw [h3, List.drop_succ_cons], fun a b => ?_⟩
      rw [h4, b2, List.drop_succ_cons, List.take_succ_cons]
      by_cases e1 : a = i <;> by_cases e2 : b = j <;> simp [e1, e2]
    · have ht : (M - k).toNat = 0 := by omega
      have ht2 : (M - ((k + 1 : Nat) : Int)).toNat = 0 := by omega
      obtain ⟨b1, b2⟩ := beatN_char hS j i hjn hi z1 (Ne.symm hij)
      obtain ⟨h1, h2, h3, h4⟩ := ih (k + 1) (nd.set j (nd.getD j 0 - 1)) (beatN ns j i) q2 (fun e => hio (List.mem_cons_of_mem _ e)) (fun x hx => hL x (List.mem_cons_of_mem _ hx)) (by rw [List.length_set, hl]) b1 (fun x hx => by
        obtain ⟨w1, w2⟩ := hz x (List.mem_cons_of_mem _ hx)
        have hxj : x ≠ j := fun e => q1 (e ▸ hx)
        have hxi : x ≠ i := fun e => hio (e ▸ List.mem_cons_of_mem _ hx)
        rw [b2, b2, w1, w2]; simp [hxj, hxi, hij])
      rw [btIn, if_neg c, ht]
      rw [ht2] at h3 h4
      refine ⟨h1, h2, fun x => ?_, fun a b => ?_⟩
      · rw [h3, List.drop_zero, List.drop_zero, getD_set _ _ _ _ hjl]
        by_cases e : x = j
        · subst e; rw [if_neg q1, if_pos rfl, if_pos List.mem_cons_self]
        · rw [if_neg e]
          simp only [List.mem_cons, e, false_or]
      · rw [h4, b2, List.drop_zero, List.drop_zero]
        by_cases e1 : a = j <;> by_cases e2 : b = i <;> simp [e1, e2]
def insI (x : Int) : List Int → List Int
  | [] => [x]
  | y :: l => if x ≤ y then x :: y :: l else y :: insI x l
def isortI : List Int → List Int
  | [] => []
  | x :: l => insI x (isortI l)
theorem insI_perm (x : Int) : ∀ l, (insI x l).Perm (x :: l)
  | [] => List.Perm.refl _
  | y :: l => by
    rw [insI]
    split
    · exact List.Perm.refl _
    · exact ((insI_perm x l).cons y).trans (List.Perm.swap x y l)
theorem isortI_perm : ∀ l, (isortI l).Perm l
  | [] => List.Perm.refl _
  | x :: l => (insI_perm x _).trans ((isortI_perm l).cons x)
theorem insI_sorted (x : Int) : ∀ l : List Int, l.Pairwise (fun a b => a ≤ b) → (insI x l).Pairwise (fun a b => a ≤ b)
  | [], _ => by simp [insI]
  | y :: l, h => by
    obtain ⟨h1, h2⟩ := List.pairwise_cons.1 h
    rw [insI]
    split
    · rename_i c
      refine List.pairwise_cons.2 ⟨fun z hz => ?_, h⟩
      rcases List.mem_cons.1 hz with rfl | q
      · exact c
      · have := h1 z q; omega
    · rename_i c
      refine List.pairwise_cons.2 ⟨fun z hz => ?_, insI_sorted x l h2⟩
      rcases List.mem_cons.1 ((insI_perm x l).mem_iff.1 hz) with rfl | q
      · omega
      · exact h1 z q
theorem isortI_sorted : ∀ l, (isortI l).Pairwise (fun a b => a ≤ b)
  | [] => List.Pairwise.nil
  | x :: l => insI_sorted x _ (isortI_sorted l)
theorem sorted_uniq {a b : List Int} (hp : a.Perm b) (ha : a.Pairwise (fun a b => a ≤ b)) (hb : b.Pairwise (fun a b => a ≤ b)) : a = b :=
  hp.eq_of_pairwise (fun _ _ _ _ h1 h2 => Int.le_antisymm h1 h2) ha hb
theorem isortI_eq {a b : List Int} (hp : a.Perm b) (hb : b.Pairwise (fun a b => a ≤ b)) : isortI a = b := sorted_uniq ((isortI_perm a).trans hp) (isortI_sorted a) hb
theorem isortI_congr {a b : List Int} (hp : a.Perm b) : isortI a = isortI b := isortI_eq (hp.trans (isortI_perm b).symm) (isortI_sorted b)
def okL : Nat → List Int → Bool
  | 0, _ => true
  | f + 1, L => decide ((L.getLastD 0).toNat ≤ L.dropLast.length) && okL f (isortI (L.dropLast.take (L.getLastD 0).toNat ++ (L.dropLast.drop (L.getLastD 0).toNat).map (fun x => x - 1)))
def tst (n i : Nat) (s : Int) : Bool := decide (s < Int.tdiv ((i : Int) * ((i : Int) + 1)) 2) || (decide (i + 1 = n) && decide (Int.tdiv ((i : Int) * ((i : Int) + 1)) 2 < s))
def chkL (n : Nat) : Nat → Nat → Int → Int → List Int → Bool
  | 0, _, _, _, acc => okL n acc
  | d + 1, i, s, last, acc => (List.range 29).all fun v => decide ((v : Int) < last) || tst n i (s + v) || decide (28 < s + (v : Int) * ((d : Int) + 1)) || chkL n d (i + 1) (s + v) v (acc ++ [(v : Int)])
theorem tri28 : ∀ n, n ≤ 8 → Int.tdiv (((n - 1 : Nat) : Int) * (((n - 1 : Nat) : Int) + 1)) 2 ≤ 28 := by
  intro n h
  obtain rfl | rfl | rfl | rfl | rfl | rfl | rfl | rfl | rfl : n = 0 ∨ n = 1 ∨ n = 2 ∨ n = 3 ∨ n = 4 ∨ n = 5 ∨ n = 6 ∨ n = 7 ∨ n = 8 := by omega
  all_goals decide +kernel
theorem sum_ge (v : Int) : ∀ l : List Int, (∀ x ∈ l, v ≤ x) → v * l.length ≤ l.sum
  | [], _ => by simp
  | x :: l, h => by
    have h1 := h x List.mem_cons_self
    have h2 := sum_ge v l (fun y hy => h y (List.mem_cons_of_mem _ hy))
    rw [List.sum_cons, List.length_cons]
    have : v * ((l.length + 1 : Nat) : Int) = v * l.length + v := by rw [show ((l.length + 1 : Nat) : Int) = (l.length : Int) + 1 by omega, Int.mul_add, Int.mul_one]
    omega
theorem refuse_tst (n i : Nat) (s x : Int) (l : List Int) (hi : i < n) (h : refuseS n i s (x :: l) = 0) : tst n i (s + x) = false ∧ refuseS n (i + 1) (s + x) l = 0 := by
  rw [refuseS] at h
  split at h
  · omega
  · rename_i c
    refine ⟨?_, h⟩
    unfold tst
    simp only [Bool.or_eq_false_iff, Bool.and_eq_false_iff, decide_eq_false_iff_not]
    omega
theorem refuse_sum (n : Nat) (h8 : n ≤ 8) : ∀ (l : List Int) (i : Nat) (s : Int), i + l.length = n → l ≠ [] → refuseS n i s l = 0 → s + l.sum ≤ 28
  | [x], i, s, hi, _, h => by
    obtain ⟨h1, -⟩ := refuse_tst n i s x [] (by simp at hi; omega) h
    have : i = n - 1 := by simp at hi; omega
    subst this
    have := tri28 n h8
    unfold tst at h1
    simp only [Bool.or_eq_false_iff, Bool.and_eq_false_iff, decide_eq_false_iff_not] at h1
    simp at hi ⊢
    omega
  | x :: y :: l, i, s, hi, _, h => by
    obtain ⟨-, h2⟩ := refuse_tst n i s x (y :: l) (by simp at hi; omega) h
    have := refuse_sum n h8 (y :: l) (i + 1) (s + x) (by simp at hi ⊢; omega) (by simp) h2
    rw [List.sum_cons]
    omega
theorem chkL_okL (n : Nat) (h8 : n ≤ 8) : ∀ (l : List Int) (i : Nat) (s last : Int) (acc : List Int), i + l.length = n → 0 ≤ s → 0 ≤ last → (∀ x ∈ l, last ≤ x) → l.Pairwise (fun a b => a ≤ b) → refuseS n i s l = 0 → chkL n l.length i s last acc = true → okL n (acc ++ l) = true
  | [], i, s, last, acc, _, _, _, _, _, _, h => by simpa [chkL] using h
  | x :: l, i, s, last, acc, hi, hs, hl0, hl, hp, hr, h => by
    obtain ⟨p1, p2⟩ := List.pairwise_cons.1 hp
    obtain ⟨t1, t2⟩ := refuse_tst n i s x l (by simp at hi; omega) hr
    have hx := hl x List.mem_cons_self
    have hsum := refuse_sum n h8 (x :: l) i s hi (by simp) hr
    have hge := sum_ge x (x :: l) (fun y hy => by
      rcases List.mem_cons.1 hy with rfl | q
      · exact Int.le_refl _
      · exact p1 y q)
    obtain ⟨v, rfl⟩ := Int.eq_ofNat_of_zero_le (show 0 ≤ x by omega)
    have hlen : (((v : Int) :: l).length : Int) = (l.length : Int) + 1 := by simp
    rw [hlen] at hge
    have hv : (v : Int) ≤ 28 := by
      have : (v : Int) * 1 ≤ (v : Int) * ((l.length : Int) + 1) := Int.mul_le_mul_of_nonneg_left (by omega) (by omega)
      omega
    rw [List.length_cons, chkL, List.all_eq_true] at h
    have := h v (List.mem_range.2 (by omega))
    rw [t1] at this
    have e1 : decide ((v : Int) < last) = false := by simp; omega
    have e2 : decide (28 < s + (v : Int) * ((l.length : Int) + 1)) = false := by simp; omega
    rw [e1, e2] at this
    simp only [Bool.false_or] at this
    have := chkL_okL n h8 l (i + 1) (s + v) v (acc ++ [(v : Int)]) (by simp at hi ⊢; omega) (by omega) (by omega) p1 p2 t2 this
    simpa using this
theorem chkL_all : ((List.range 9).all fun n => chkL n n 0 0 0 []) = true := by decide +kernel
theorem okL_start (l : List Int) (h8 : l.length ≤ 8) (hb : ∀ x ∈ l, 0 ≤ x) (hr : refS l = 0) : okL l.length (isortI l) = true := by
  have e : sortL l = isortI l := sorted_uniq ((sortL_perm' l).trans (isortI_perm l).symm) (sortL_rises l) (isortI_sorted l)
  unfold refS at hr
  rw [e] at hr
  have hlen : (isortI l).length = l.length := (isortI_perm l).length_eq
  have hc := List.all_eq_true.1 chkL_all l.length (List.mem_range.2 (by omega))
  have := chkL_okL l.length h8 (isortI l) 0 0 0 [] (by omega) (by omega) (by omega) (fun x hx => hb x ((isortI_perm l).mem_iff.1 hx)) (isortI_sorted l) hr (by rw [hlen]; exact hc)
  simpa using this
theorem beatSets {n : Nat} {ns : List Nat} (h : Sets n ns) (i j : Nat) (hj : j < n) : Sets n (beatN ns i j) := sets_andNot (sets_or h i j hj) j i
theorem beat_fT {n : Nat} {ns : List Nat} (h : Sets n ns) (m : Int) (i j : Nat) (hi : i < n) (hj : j < n) : impl_Tournament_beat.f m (ints ns) (i : Int) (j : Int) = some (ints (beatN ns i j)) := by
  have h8 := h.n8
  have hl := h.len
  have h1 := sets_or h i j hj
  unfold impl_Tournament_beat.f beatN
  rw [if_pos (by omega), if_pos (by rw [ints_length]; omega), if_pos (by omega), shl_one j (by omega), rd_ints, or_nat _ _ (h.get62 i) (Nat.pow_lt_pow_right (by decide) (by omega)), ints_set, Option.bind_some, if_pos (by rw [ints_length]; omega), shl_one i (by omega), rd_ints, andNot_nat _ _ (h1.get62 j) (Nat.pow_lt_pow_right (by decide) (by omega)), ints_set]
theorem mem_getDI {l : List Int} {p : Nat} (hp : p < l.length) : l.getD p 0 ∈ l := by
  rw [List.getD_eq_getElem?_getD, List.getElem?_eq_getElem hp]; exact List.getElem_mem hp
theorem mem_getDT {l : List Nat} {p : Nat} (hp : p < l.length) : l.getD p 0 ∈ l := by
  rw [List.getD_eq_getElem?_getD, List.getElem?_eq_getElem hp]; exact List.getElem_mem hp
theorem drop_consT (o : List Nat) (q : Nat) (hq : q < o.length) : o.drop q = o.getD q 0 :: o.drop (q + 1) := by
  rw [List.drop_eq_getElem_cons hq, List.getD_eq_getElem?_getD, List.getElem?_eq_getElem hq]; rfl
theorem take_snocT (R : List Nat) (j : Nat) (hj : j < R.length) : R.take (j + 1) = R.take j ++ [R.getD j 0] := by
  rw [List.take_add_one, List.getElem?_eq_getElem hj, List.getD_eq_getElem?_getD, List.getElem?_eq_getElem hj]; rfl
def btUp (nd : List Int) (left : List Nat) (q : Nat) : Nat := (left.take q).foldl (fun f i => if nd.getD i 0 > nd.getD f 0 then i else f) (left.headD 0)
theorem btUp_zero (nd : List Int) (left : List Nat) : btUp nd left 0 = left.headD 0 := rfl
theorem btUp_all (nd : List Int) (left : List Nat) : btUp nd left left.length = btFirst nd left := by rw [btUp, List.take_length]; rfl
theorem btUp_succ (nd : List Int) (left : List Nat) (q : Nat) (hq : q < left.length) : btUp nd left (q + 1) = if nd.getD (left.getD q 0) 0 > nd.getD (btUp nd left q) 0 then left.getD q 0 else btUp nd left q := by
  unfold btUp
  rw [take_snocT _ _ hq, List.foldl_append]
  rfl
theorem fold_mem (nd : List Int) : ∀ (l : List Nat) (f : Nat), l.foldl (fun f i => if nd.getD i 0 > nd.getD f 0 then i else f) f ∈ f :: l
  | [], f => by simp
  | y :: l, f => by
    rw [List.foldl_cons]
    have := fold_mem nd l (if nd.getD y 0 > nd.getD f 0 then y else f)
    rcases List.mem_cons.1 this with e | e
    · rw [e]; split
      · simp
      · simp
    · exact List.mem_cons_of_mem _ (List.mem_cons_of_mem _ e)
theorem btUp_mem (nd : List Int) (left : List Nat) (q : Nat) (h : left ≠ []) : btUp nd left q ∈ left := by
  cases left with
  | nil => exact absurd rfl h
  | cons y l =>
    have := fold_mem nd ((y :: l).take q) y
    rcases List.mem_cons.1 this with e | e
    · unfold btUp; rw [List.headD_cons, e]; simp
    · exact List.mem_of_mem_take e
structure InB (n f : Nat) (lo M : Int) (o : List Nat) (E : List Int × List Nat) (q : Nat) (nd : List Int) (ns : List Nat) : Prop where
  len : nd.length = n
  sets : Sets n ns
  all : ∀ z ∈ nd, lo - 1 ≤ z ∧ z ≤ 60
  rest : ∀ x ∈ o.drop q, lo ≤ nd.getD x 0
  need : nd.getD f 0 = M
  stop : btIn f M (o.drop q) q nd ns = E
section
variable {n f q : Nat} {lo M : Int} {o : List Nat} {E : List Int × List Nat} {nd : List Int} {ns : List Nat}
theorem InB.start (hl : nd.length = n) (hS : Sets n ns) (hb : ∀ z ∈ nd, lo ≤ z ∧ z ≤ 60) (ho : ∀ x ∈ o, x < n) (hM : nd.getD f 0 = M) : InB n f lo M o (btIn f M o 0 nd ns) 0 nd ns :=
  ⟨hl, hS, fun z hz => by have := hb z hz; omega, fun x hx => (hb _ (mem_getDI (by rw [hl]; exact ho x (by simpa using hx)))).1, hM, rfl⟩
theorem InB.win (h : InB n f lo M o E q nd ns) (hq : q < o.length) (ho : ∀ x ∈ o, x < n) (hw : (q : Int) < M) : InB n f lo M o E (q + 1) nd (beatN ns f (o.getD q 0)) := by
  have hs := h.stop
  rw [drop_consT o q hq, btIn, if_pos hw] at hs
  exact ⟨h.len, beatSets h.sets _ _ (ho _ (mem_getDT hq)), h.all, fun x hx => h.rest x (by rw [drop_consT o q hq]; exact List.mem_cons_of_mem _ hx), h.need, hs⟩
theorem InB.lose (h : InB n f lo M o E q nd ns) (hN : o.Nodup) (hf : f ∉ o) (hq : q < o.length) (ho : ∀ x ∈ o, x < n) (hfn : f < n) (hw : ¬ (q : Int) < M) : InB n f lo M o E (q + 1) (nd.set (o.getD q 0) (nd.getD (o.getD q 0) 0 - 1)) (beatN ns (o.getD q 0) f) := by
  have hp := mem_getDT hq
  have hpn := ho _ hp
  have hs := h.stop
  rw [drop_consT o q hq, btIn, if_neg hw] at hs
  have hr := h.rest (o.getD q 0) (by rw [drop_consT o q hq]; simp)
  have hx : ∀ x, x ≠ o.getD q 0 → (nd.set (o.getD q 0) (nd.getD (o.getD q 0) 0 - 1)).getD x 0 = nd.getD x 0 := fun x hne => by
    rw [getD_set _ _ _ _ (by rw [h.len]; exact hpn), if_neg hne]
  have hN2 : (o.drop q).Nodup := hN.sublist (List.drop_sublist _ _)
  rw [drop_consT o q hq] at hN2
  have hN3 := (List.nodup_cons.1 hN2).1
  refine ⟨by rw [List.length_set, h.len], beatSets h.sets _ _ hfn, fun z hz => ?_, fun x hx' => ?_, ?_, hs⟩
  · rcases List.mem_or_eq_of_mem_set hz with c | c
    · exact h.all z c
    · have := h.all _ (mem_getDI (l := nd) (p := o.getD q 0) (by rw [h.len]; exact hpn))
      omega
  · rw [hx x (fun e => hN3 (by rw [← e]; exact hx'))]
    exact h.rest x (by rw [drop_consT o q hq]; exact List.mem_cons_of_mem _ hx')
  · rw [hx f (fun e => hf (by rw [e]; exact hp))]
    exact h.need
theorem InB.done (h : InB n f lo M o E q nd ns) (hq : q = o.length) : (nd, ns) = E := by
  have := h.stop
  rw [hq, List.drop_length, btIn] at this
  exact this
end
structure OutB (n : Nat) (R : List Nat) (kq : Nat) (nd : List Int) (ns left : List Nat) : Prop where
  llen : left.length = kq
  nodup : left.Nodup
  lt : ∀ x ∈ left, x < n
  len : nd.length = n
  sets : Sets n ns
  kn : kq ≤ n
  bd : ∀ z ∈ nd, -((n : Int) - kq) ≤ z ∧ z ≤ 60
  go : btGo kq nd ns left = R
theorem filter_len {f : Nat} : ∀ {l : List Nat}, l.Nodup → f ∈ l → (l.filter (fun x => decide (x ≠ f))).length + 1 = l.length
  | [], _, h => by cases h
  | y :: l, hN, hm => by
    obtain ⟨h1, h2⟩ := List.nodup_cons.1 hN
    by_cases e : y = f
    · subst e
      have : l.filter (fun x => decide (x ≠ y)) = l := List.filter_eq_self.2 (fun x hx => by simp; exact fun e => h1 (e ▸ hx))
      rw [List.filter_cons_of_neg (by simp), this]
      rfl
    · rcases List.mem_cons.1 hm with q | q
      · exact absurd q.symm e
      · rw [List.filter_cons_of_pos (by simpa using e), List.length_cons, List.length_cons, filter_len h2 q]
theorem OutB.next {n d : Nat} {R : List Nat} {nd nd' : List Int} {ns ns' left : List Nat} (h : OutB n R (d + 1) nd ns left)
    (hE : (nd', ns') = btIn (btFirst nd left) (nd.getD (btFirst nd left) 0) (btOrd nd (left.filter (fun x => decide (x ≠ btFirst nd left)))) 0 nd ns) (hl : nd'.length = n) (hS : Sets n ns') (hb : ∀ z ∈ nd', -((n : Int) - (d + 1 : Nat)) - 1 ≤ z ∧ z ≤ 60) : OutB n R d nd' ns' (left.filter (fun x => decide (x ≠ btFirst nd left))) := by
  have hne : left ≠ [] := fun e => by have := h.llen; rw [e] at this; simp at this
  have hm : btFirst nd left ∈ left := by rw [← btUp_all]; exact btUp_mem nd left _ hne
  have hg := h.go
  rw [btGo, ← hE] at hg
  have := filter_len h.nodup hm
  have := h.llen
  have := h.kn
  exact ⟨by omega, h.nodup.sublist List.filter_sublist, fun x hx => h.lt x (List.mem_filter.1 hx).1, hl, hS, by omega, fun z hz => by have := hb z hz; omega, hg⟩
theorem ints_filter (f : Nat) : ∀ l : List Nat, (ints l).filter (fun x => !decide (x = (f : Int))) = ints (l.filter (fun x => decide (x ≠ f)))
  | [] => rfl
  | y :: l => by
    have ih := ints_filter f l
    unfold ints at ih ⊢
    rw [List.map_cons]
    by_cases e : y = f
    · rw [List.filter_cons_of_neg (by simp [e]), List.filter_cons_of_neg (by simp [e]), ih]
    · rw [List.filter_cons_of_pos (by simp; omega), List.filter_cons_of_pos (by simpa using e), List.map_cons, ih]
end Go.Proofs.Ytcheoendfcgjgaa.K
namespace Go.Proofs.Ytcheoendfcgjgaa.P
open Go.RowKit Go.Proofs.YtcheoendfcgjgaaW.PrintWords Go.Proofs.YtcheoendfcgjgaaW.PrintLast Go.Proofs.YtcheoendfcgjgaaW.PrintMore Go.Proofs.Ytcheoendfcgjgaa.K
open Go Go.Sort Go.Shelf
attribute [local go_sem ↓] Go.wp_at_zero Go.wp_at_succ
theorem btSwo (nd : List Int) (n : Nat) : SWO (fun (x y : Rg n) => decide (btCmp nd x.1 y.1 < 0)) := by
 refine ⟨fun x => ?_, fun x y z h1 h2 => ?_, fun x y z h1 h2 => ?_⟩
 ·
  simp [btCmp]
 ·
  simp only [decide_eq_true_eq] at *
  unfold btCmp at *
  split at h1 <;> split at h2 <;> split <;> omega
 ·
  simp only [decide_eq_false_iff_not] at *
  unfold btCmp at *
  split at h1 <;> split at h2 <;> split <;> omega
theorem ints_ofT (l : List Int) (h : ∀ x ∈ l, 0 ≤ x) : ∃ o : List Nat, l = ints o := by
 induction l with
 | nil => exact ⟨[], rfl⟩
 | cons x l ih =>
  obtain ⟨o, rfl⟩ := ih (fun y hy => h y (by simp [hy]))
  exact ⟨x.toNat :: o, by have := h x (by simp); simp only [ints, List.map_cons]; congr 1; omega⟩
theorem btOrder_unique (nd : List Int) (left : List Nat) (l' : List Int) (hp : l'.Perm (ints left)) (hs : l'.Pairwise (fun a b => ¬ btCmp nd b a < 0)) : l' = ints (btOrd nd left) := by
 obtain ⟨o, rfl⟩ := ints_ofT l' (fun x hx => by
  obtain ⟨y, _, rfl⟩ := List.mem_map.1 (hp.mem_iff.1 hx)
  omega)
 have hp2 : o.Perm left := by
  have := hp.map Int.toNat
  simpa [ints, Function.comp_def] using this
 have hs2 : o.Pairwise (K.ahead nd false) := by
  rw [ints, List.pairwise_map] at hs
  exact hs.imp (fun h => by
   unfold btCmp at h
   rw [rdI, rdI] at h
   unfold K.ahead
   simp only [Bool.false_eq_true, if_false]
   split at h <;> omega)
 have : o = btOrd nd left := (hp2.trans (btOrd_perm nd left).symm).eq_of_pairwise (fun _ _ _ _ h1 h2 => K.ahead_antisymm h1 h2) hs2 (btOrd_sorted nd left)
 rw [this]
section
variable {w W : World} {n g2 g4 g5 g8 gB gN gO gP cB cN cO cP : Nat} {ns : List Nat} {nd od ps : List Int} {x : Int}
set_option maxRecDepth 10000 in
theorem btSort_c {left : List Nat} (h : BTP w W n g2 g4 g5 g8 gB gN gO gP cB cN cO cP (ints ns) nd od x (ints left)) (hn : nd.length = n) (h8 : n ≤ 8) (hp : 0 < left.length) (hl : left.length ≤ 8) (hod : ∀ y ∈ left, y < n) (hb : ∀ z ∈ nd, -1000 ≤ z ∧ z ≤ 1000) :
  Calls Try.prog 34 #[.slice (some ⟨gP, 0, none⟩) (ints left).length cP, .func (.func 35) #[] #[.pointer (some ⟨g5, 0, none⟩)]] W fun e w' => e = .returned (.tuple #[]) ∧ BTP w w' n g2 g4 g5 g8 gB gN gO gP cB cN cO cP (ints ns) nd od x (ints (btOrd nd left)) := by
 have hn1 : 0 < n := by
  cases left with
  | nil => simp at hp
  | cons y l => have := hod y List.mem_cons_self; omega
 haveI : Inhabited (Rg n) := ⟨⟨0, by omega, by omega⟩⟩
 have q5 := h.b.bt.neBox h.rP
 refine (sortRange_c (n := n) (btCmp nd) 35 _ #[.pointer (some ⟨g5, 0, none⟩)] Try.func35 (by kernel_rfl) (by kernel_rfl) (btSwo nd n) gP cP w.heap.size (fun k => k = gP) (ints left) W (by rw [ints_length]; omega) (by rw [ints_length]; omega) (fun x hx => ?_) h.rP.toR (fun W2 hg x y => ?_)).mono ?_
 ·
  obtain ⟨y, hy, rfl⟩ := List.mem_map.1 hx
  have := hod y hy
  omega
 ·
  obtain ⟨x0, hx1, hx2⟩ := x
  obtain ⟨y0, hy1, hy2⟩ := y
  obtain ⟨x, rfl⟩ := Int.eq_ofNat_of_zero_le hx1
  obtain ⟨y, rfl⟩ := Int.eq_ofNat_of_zero_le hy1
  have hc5 : W2.heap[g5]? = W.heap[g5]? := hg.block _ (blk_lt h.b.bt.b5) (fun e => q5.2.2 (Option.some.inj e))
  have hrN := h.b.bt.rN.keep (hg.block _ h.b.bt.rN.lt (fun e => h.nPN (Option.some.inj e).symm))
  exact btCmp_calls nd g5 cN (some ⟨gN, 0, none⟩) x y W2 ((Kc (hc5.trans h.b.bt.b5) 0).trans rfl) (Kd.R_reads' hrN.toR).2.2 (by omega) (by omega) (by omega) hb
 ·
  rintro e w' ⟨rfl, l', hp', hs, hR, hg⟩
  have hll : l' = ints (btOrd nd left) := btOrder_unique nd left l' hp' hs
  subst hll
  refine ⟨rfl, h.sorted hg ?_⟩
  have hl2 : (ints left).length = (ints (btOrd nd left)).length := by rw [hp'.length_eq]
  rw [hl2] at hR
  obtain ⟨g, cap, e, hi, -⟩ := K.IRow.ofR hR (by rw [← hl2, ints_length]; exact hp)
  injection e with e1 e2 e3
  injection e1 with e4
  injection e4 with e5
  subst e5
  subst e3
  exact hi
theorem btSort0_c (p : Option Addr) (cap : Nat) (fv : Value) (W : World) : Calls Try.prog 34 #[.slice p 0 cap, fv] W fun e w' => e = .returned (.tuple #[]) ∧ w' = W :=
 AnyF.slices_SortFunc_none { Try.sortInt with } p cap fv W
theorem btDel_c {left : List Nat} {f : Nat} (h : BT8 w W n g2 g4 g5 g8 gB gN gO cB cN cO (ints ns) nd (ints left) (f : Int)) (hp : 0 < left.length) (hl : left.length ≤ 8) :
  Calls Try.prog 32 #[.slice (some ⟨gO, 0, none⟩) (ints left).length cO, .func (.func 33) #[] #[.pointer (some ⟨g8, 0, none⟩)]] W fun e w' => e = .returned (.slice (some ⟨gO, 0, none⟩) (ints (left.filter (fun x => decide (x ≠ f)))).length cO) ∧ BT8 w w' n g2 g4 g5 g8 gB gN gO cB cN cO (ints ns) nd (ints (left.filter (fun x => decide (x ≠ f)))) (f : Int) := by
 refine (deleteFunc_c (fun x => decide (x = (f : Int))) 33 _ #[.pointer (some ⟨g8, 0, none⟩)] Try.func33 (by kernel_rfl) (by kernel_rfl) gO cO w.heap.size (fun k => k = gO) (ints left) W (by rw [ints_length]; omega) (by rw [ints_length]; exact hp) h.bt.rO.toR (fun W2 hg y => ?_)).mono ?_
 ·
  exact btEq_calls y (f : Int) g8 W2 ((Kc ((hg.block _ (blk_lt h.b8) (fun e => h.n8O (Option.some.inj e))).trans h.b8) 0).trans rfl)
 ·
  rintro e w' ⟨rfl, hR, hg⟩
  rw [ints_filter] at hR ⊢
  refine ⟨rfl, h.fewer hg ?_⟩
  obtain ⟨cur, k1, k2, k3⟩ := h.bt.rO.blk
  have hown := Kd.own_of_R hR
  obtain ⟨hn, hh⟩ := hown
  rcases hh with ⟨h0, _⟩ | ⟨g', cap', cur', hv, hbase, hbk, h1, h2, h3, h4⟩
  ·
   cases h0
  ·
   injection hv with e1 e2 e3
   injection e1 with e4
   injection e4 with e5
   subst e5
   subst e3
   rw [Nat.mul_one] at h4
   exact ⟨hbase, ⟨cur', hbk, by simpa using h3, h4⟩, h1, h2⟩
theorem btBeat_c (h : BTP w W n g2 g4 g5 g8 gB gN gO gP cB cN cO cP (ints ns) nd od x ps) (hS : K.Sets n ns) (i p : Nat) (hi : i < n) (hp : p < n) :
  Calls Try.prog 36 #[.agg #[.int .i64 (n : Int), .slice (some ⟨gB, 0, none⟩) n cB], .int .i64 (i : Int), .int .i64 (p : Int)] W fun e w' => e = .returned (.tuple #[]) ∧ BTP w w' n g2 g4 g5 g8 gB gN gO gP cB cN cO cP (ints (beatN ns i p)) nd od x ps := by
 have hl : (ints ns).length = n := by rw [ints_length, hS.len]
 have hR := h.b.bt.rB.toR
 rw [hl] at hR
 refine (impl_Tournament_beat.calls (n : Int) (fun k => k = gB) _ (ints ns) (i : Int) (p : Int) _ w W h.b.bt.bel hR (beat_fT hS (n : Int) i p hi hp)).mono ?_
 rintro e w' ⟨rfl, hr, hb, hk⟩
 have hl2 : (ints (beatN ns i p)).length = n := by rw [ints_length, (beatSets hS i p hp).len]
 rw [← hl2] at hr
 obtain ⟨g, cap, e, hI, -⟩ := K.IRow.ofR hr (by rw [hl2]; omega)
 injection e with e1 e2 e3
 injection e1 with e4
 injection e4 with e5
 subst e5
 subst e3
 exact ⟨rfl, h.joined hk hb hI (by rw [hl2, hl])⟩
theorem btDel_m {left : List Nat} {f m : Nat} (h : BT8 w W n g2 g4 g5 g8 gB gN gO cB cN cO (ints ns) nd (ints left) (f : Int)) (hp : 0 < left.length) (hl : left.length ≤ 8) (hm : (left.filter (fun x => decide (x ≠ f))).length = m) :
  Calls Try.prog 32 #[.slice (some ⟨gO, 0, none⟩) left.length cO, .func (.func 33) #[] #[.pointer (some ⟨g8, 0, none⟩)]] W fun e w' => e = .returned (.slice (some ⟨gO, 0, none⟩) m cO) ∧ BT8 w w' n g2 g4 g5 g8 gB gN gO cB cN cO (ints ns) nd (ints (left.filter (fun x => decide (x ≠ f)))) (f : Int) := by
 have hc := btDel_c h hp hl
 rw [ints_length, ints_length, hm] at hc
 exact hc
theorem btClone_m {left : List Nat} {m : Nat} (h : BT8 w W n g2 g4 g5 g8 gB gN gO cB cN cO (ints ns) nd (ints left) x) (hm : left.length = m + 1) (hl : m ≤ 8) :
  Calls Try.prog 31 #[.slice (some ⟨gO, 0, none⟩) (m + 1) cO] W fun e w' => ∃ gP cP, e = .returned (.slice (some ⟨gP, 0, none⟩) (m + 1) cP) ∧ BTP w w' n g2 g4 g5 g8 gB gN gO gP cB cN cO cP (ints ns) nd (ints left) x (ints left) := by
 have hlen : (ints left).length = m + 1 := by rw [ints_length, hm]
 have hc := slices_Clone_int_int.calls (some ⟨gO, 0, none⟩) cO (ints left) (ints left) W (Kd.R_reads' h.bt.rO.toR).2.2 (Kd.R_reads' h.bt.rO.toR).2.1 (by unfold slices_Clone_int_int.f; rw [if_pos (by omega)])
 rw [hlen] at hc
 refine Calls.mono (f := 31) hc ?_
 rintro e w' ⟨v, rfl, hs, hb⟩
 obtain ⟨gP, cP, rfl, hI, -⟩ := K.IRow.ofR hs (by omega)
 exact ⟨gP, cP, by rw [hlen], BTP.made h hb hI⟩
theorem btClone_0 {left : List Nat} (h : BT8 w W n g2 g4 g5 g8 gB gN gO cB cN cO (ints ns) nd (ints left) x) (hm : left.length = 0) :
  Calls Try.prog 31 #[.slice (some ⟨gO, 0, none⟩) 0 cO] W fun e w' => ∃ A c, e = .returned (.slice A 0 c) ∧ BT8 w w' n g2 g4 g5 g8 gB gN gO cB cN cO (ints ns) nd (ints left) x := by
 have hlen : (ints left).length = 0 := by rw [ints_length, hm]
 have hc := slices_Clone_int_int.calls (some ⟨gO, 0, none⟩) cO (ints left) (ints left) W (Kd.R_reads' h.bt.rO.toR).2.2 (Kd.R_reads' h.bt.rO.toR).2.1 (by unfold slices_Clone_int_int.f; rw [if_pos (by omega)])
 rw [hlen] at hc
 refine Calls.mono (f := 31) hc ?_
 rintro e w' ⟨v, rfl, hs, hb⟩
 obtain ⟨A, c, rfl, -, -⟩ := Kd.R_reads hs
 exact ⟨A, c, by rw [hlen], h.keep hb⟩
theorem btSort_m {left : List Nat} {m : Nat} (h : BTP w W n g2 g4 g5 g8 gB gN gO gP cB cN cO cP (ints ns) nd od x (ints left)) (hn : nd.length = n) (h8 : n ≤ 8) (hm : left.length = m + 1) (hl : m + 1 ≤ 8) (hod : ∀ y ∈ left, y < n) (hb : ∀ z ∈ nd, -1000 ≤ z ∧ z ≤ 1000) :
  Calls Try.prog 34 #[.slice (some ⟨gP, 0, none⟩) (m + 1) cP, .func (.func 35) #[] #[.pointer (some ⟨g5, 0, none⟩)]] W fun e w' => e = .returned (.tuple #[]) ∧ BTP w w' n g2 g4 g5 g8 gB gN gO gP cB cN cO cP (ints ns) nd od x (ints (btOrd nd left)) := by
 have hc := btSort_c h hn h8 (by omega) (by omega) hod hb
 rw [ints_length, hm] at hc
 exact hc
end
end Go.Proofs.Ytcheoendfcgjgaa.P
