/- Parts: contracts and plain lemmas for the law FnGraphsBuilt, part 6 of 7 (what the Go functions answer). -/
import Derived.Test.YtcheoendfcgjgaaDoorCFnGraphsBuilta
import Derived.Test.YtcheoendfcgjgaaDoorCFnGraphsBuiltb
import Derived.Test.YtcheoendfcgjgaaDoorCFnGraphsBuiltc
import Derived.Test.YtcheoendfcgjgaaDoorCFnGraphsBuiltd
import Derived.Test.YtcheoendfcgjgaaDoorCFnGraphsBuilte
set_option linter.unusedVariables false
set_option linter.unusedSimpArgs false
namespace Go.Proofs.YtcheoendfcgjgaaDoor.P
open Go.RowKit Go.Proofs.YtcheoendfcgjgaaDoorW.PrintWords Go.Proofs.YtcheoendfcgjgaaDoorW.PrintLast Go.Proofs.YtcheoendfcgjgaaDoorW.PrintMore
attribute [local go_sem] max2_int min2_int max_two min_two max_three min_three max_four min_four
mutual
def laws_FnGraphsBuilt.j0 : Nat → List Int → List Int → Bool → Int → Bool → Bool → Bool → Int → List Int → Option (Bool)
 | 0, _, _, _, _, _, _, _, _, _ => none
 | k + 1, x1, x5, x7, x10, x11, x15, x98, x656000, x656001 => if x98 = true then (some false) else (if x15 = true then (laws_FnGraphsBuilt.l0 k x1 x5 x7 x10 x11 0 x5 (x5.length : Int) 0 x656000 x656001) else (laws_FnGraphsBuilt.j2 k x1 x5 x7 x10 x11 x656000 x656001))
def laws_FnGraphsBuilt.j2 : Nat → List Int → List Int → Bool → Int → Bool → Int → List Int → Option (Bool)
 | 0, _, _, _, _, _, _, _ => none
 | k + 1, x1, x5, x7, x10, x11, x656000, x656001 => if x7 = true then ((impl_DegreesOf.f k x656000 x656001).bind fun bt671 => (if bt671.2 = true then ((laws_ySame.f k bt671.1 x5).bind fun t675 => (if t675 = true then ((impl_IsGraph.f k x656000 x656001).bind fun t676 => (if t676 = true then (laws_FnGraphsBuilt.j3 k x1 x5 x10 x11) else (some false))) else (some false))) else (some false))) else (laws_FnGraphsBuilt.j3 k x1 x5 x10 x11)
def laws_FnGraphsBuilt.j3 : Nat → List Int → List Int → Int → Bool → Option (Bool)
 | 0, _, _, _, _ => none
 | k + 1, x1, x5, x10, x11 => if x11 = true then ((impl_RankingOf.f k x5).bind fun bt677 => (laws_FnGraphsBuilt.l1 k x1 x10 bt677.2 0 (wrap64 (x10 * (wrap64 (x10 - 1)))) bt677.1 (bt677.1.length : Int) 0)) else (laws_FnGraphsBuilt.j5 k x1)
def laws_FnGraphsBuilt.j5 : Nat → List Int → Option (Bool)
 | 0, _ => none
 | k + 1, x1 => (spec_DrawOppositeGraph.f k x1).bind fun bt682 => ((impl_OppositeGraph.f k bt682.1 bt682.2).bind fun bt687 => ((spec_OppositeGraph.f k bt682.1 bt682.2).bind fun bt693 => (if (bt687.2.2 != bt693.2.2) = true then (laws_FnGraphsBuilt.j6 k bt687.2.2 true bt682.1 bt682.2 bt687.1 bt687.2.1) else ((laws_yGraph.f k bt687.1 bt687.2.1 bt693.1 bt693.2.1).bind fun t699 => (laws_FnGraphsBuilt.j6 k bt687.2.2 (!t699) bt682.1 bt682.2 bt687.1 bt687.2.1)))))
def laws_FnGraphsBuilt.j6 : Nat → Bool → Bool → Int → List Int → Int → List Int → Option (Bool)
 | 0, _, _, _, _, _, _ => none
 | k + 1, x29, x200, x687000, x687001, x693000, x693001 => if x200 = true then (some false) else (if x29 = true then ((impl_DegreesOf.f k x687000 x687001).bind fun bt700 => ((impl_DegreesOf.f k x693000 x693001).bind fun bt704 => ((impl_OppositeGraph.f k x693000 x693001).bind fun bt708 => (if bt700.2 = true then (if bt704.2 = true then (if bt708.2.2 = true then ((laws_yGraph.f k bt708.1 bt708.2.1 x687000 x687001).bind fun t714 => (laws_FnGraphsBuilt.j7 k bt700.1 bt704.1 (!t714) x687000 x687001)) else (laws_FnGraphsBuilt.j7 k bt700.1 bt704.1 true x687000 x687001)) else (laws_FnGraphsBuilt.j7 k bt700.1 bt704.1 true x687000 x687001)) else (laws_FnGraphsBuilt.j7 k bt700.1 bt704.1 true x687000 x687001))))) else (some true))
def laws_FnGraphsBuilt.j7 : Nat → List Int → List Int → Bool → Int → List Int → Option (Bool)
 | 0, _, _, _, _, _ => none
 | k + 1, x32, x34, x232, x687000, x687001 => if x232 = true then (some false) else (laws_FnGraphsBuilt.l2 k x32 x34 (x32.length : Int) 0 x687000 x687001)
def laws_FnGraphsBuilt.l2 : Nat → List Int → List Int → Int → Int → Int → List Int → Option (Bool)
 | 0, _, _, _, _, _, _ => none
 | k + 1, x32, x34, x234, x235, x687000, x687001 => if x235 < x234 then (if 0 ≤ x235 then (if x235 < (x32.length : Int) then (if x235 < (x34.length : Int) then (if (wrap64 ((rd x32 x235) + (rd x34 x235))) = (wrap64 (x687000 - 1)) then (laws_FnGraphsBuilt.l2 k x32 x34 x234 (wrap64 (x235 + 1)) x687000 x687001) else (some false)) else (none)) else (none)) else (none)) else (some true)
def laws_FnGraphsBuilt.l1 : Nat → List Int → Int → Bool → Int → Int → List Int → Int → Int → Option (Bool)
 | 0, _, _, _, _, _, _, _, _ => none
 | k + 1, x1, x10, x22, x23, x24, x148, x149, x150 => if x150 < x149 then (if 0 ≤ x150 then (if x150 < (x148.length : Int) then (if x150 < x10 then (laws_FnGraphsBuilt.l1 k x1 x10 x22 (wrap64 (x23 + (rd x148 x150))) x24 x148 x149 (wrap64 (x150 + 1))) else (if (rd x148 x150) < x10 then (laws_FnGraphsBuilt.l1 k x1 x10 x22 x23 (wrap64 (x24 + (rd x148 x150))) x148 x149 (wrap64 (x150 + 1))) else (laws_FnGraphsBuilt.l1 k x1 x10 x22 x23 (wrap64 (x24 + x10)) x148 x149 (wrap64 (x150 + 1))))) else (none)) else (none)) else (if x22 = true then (if x23 ≤ x24 then (some false) else (laws_FnGraphsBuilt.j5 k x1)) else (some false))
def laws_FnGraphsBuilt.l0 : Nat → List Int → List Int → Bool → Int → Bool → Int → List Int → Int → Int → Int → List Int → Option (Bool)
 | 0, _, _, _, _, _, _, _, _, _, _, _ => none
 | k + 1, x1, x5, x7, x10, x11, x16, x100, x101, x102, x656000, x656001 => if x102 < x101 then (if 0 ≤ x102 then (if x102 < (x100.length : Int) then (laws_FnGraphsBuilt.l0 k x1 x5 x7 x10 x11 (wrap64 (x16 + (rd x100 x102))) x100 x101 (wrap64 (x102 + 1)) x656000 x656001) else (none)) else (none)) else (if x11 = true then (if (x7 != false) = true then (some false) else (laws_FnGraphsBuilt.j2 k x1 x5 x7 x10 x11 x656000 x656001)) else (if (x7 != ((Int.tmod x16 2) == 0)) = true then (some false) else (laws_FnGraphsBuilt.j2 k x1 x5 x7 x10 x11 x656000 x656001)))
end
def laws_FnGraphsBuilt.f (k : Nat) (l0 : List Int) (l1 : List Int) : Option (Bool) := (laws_big.f l0 l1).bind fun t646 => (if t646 = true then (some true) else ((spec_DrawBuildGraph.f k l0).bind fun t647 => ((impl_BuildGraph.f k t647).bind fun bt650 => ((spec_BuildGraph.f k t647).bind fun bt656 => ((impl_RefusingK.f k t647).bind fun bt662 => ((spec_RefusingK.f k t647).bind fun bt664 => ((impl_IsGraphic.f k t647).bind fun bt666 => (if (bt650.2.2 != bt656.2.2) = true then (laws_FnGraphsBuilt.j0 k l1 t647 bt650.2.2 bt662.1 bt662.2 bt666.2 true bt650.1 bt650.2.1) else ((laws_yGraph.f k bt650.1 bt650.2.1 bt656.1 bt656.2.1).bind fun t668 => (if t668 = true then (if (bt662.2 != bt664.2) = true then (laws_FnGraphsBuilt.j0 k l1 t647 bt650.2.2 bt662.1 bt662.2 bt666.2 true bt650.1 bt650.2.1) else (if bt662.1 = bt664.1 then (if (bt666.1 != bt650.2.2) = true then (laws_FnGraphsBuilt.j0 k l1 t647 bt650.2.2 bt662.1 bt662.2 bt666.2 true bt650.1 bt650.2.1) else ((impl_IsList.f k t647).bind fun t669 => (laws_FnGraphsBuilt.j0 k l1 t647 bt650.2.2 bt662.1 bt662.2 bt666.2 (bt666.2 != t669) bt650.1 bt650.2.1))) else (laws_FnGraphsBuilt.j0 k l1 t647 bt650.2.2 bt662.1 bt662.2 bt666.2 true bt650.1 bt650.2.1))) else (laws_FnGraphsBuilt.j0 k l1 t647 bt650.2.2 bt662.1 bt662.2 bt666.2 true bt650.1 bt650.2.1)))))))))))
theorem laws_FnGraphsBuilt.mono_l : ∀ k, (∀ y0 y1 y2 y3 y4 y5 y6 y7 y8, LeO (laws_FnGraphsBuilt.j0 k y0 y1 y2 y3 y4 y5 y6 y7 y8) (laws_FnGraphsBuilt.j0 (k + 1) y0 y1 y2 y3 y4 y5 y6 y7 y8)) ∧ (∀ y0 y1 y2 y3 y4 y5 y6, LeO (laws_FnGraphsBuilt.j2 k y0 y1 y2 y3 y4 y5 y6) (laws_FnGraphsBuilt.j2 (k + 1) y0 y1 y2 y3 y4 y5 y6)) ∧ (∀ y0 y1 y2 y3, LeO (laws_FnGraphsBuilt.j3 k y0 y1 y2 y3) (laws_FnGraphsBuilt.j3 (k + 1) y0 y1 y2 y3)) ∧ (∀ y0, LeO (laws_FnGraphsBuilt.j5 k y0) (laws_FnGraphsBuilt.j5 (k + 1) y0)) ∧ (∀ y0 y1 y2 y3 y4 y5, LeO (laws_FnGraphsBuilt.j6 k y0 y1 y2 y3 y4 y5) (laws_FnGraphsBuilt.j6 (k + 1) y0 y1 y2 y3 y4 y5)) ∧ (∀ y0 y1 y2 y3 y4, LeO (laws_FnGraphsBuilt.j7 k y0 y1 y2 y3 y4) (laws_FnGraphsBuilt.j7 (k + 1) y0 y1 y2 y3 y4)) ∧ (∀ y0 y1 y2 y3 y4 y5, LeO (laws_FnGraphsBuilt.l2 k y0 y1 y2 y3 y4 y5) (laws_FnGraphsBuilt.l2 (k + 1) y0 y1 y2 y3 y4 y5)) ∧ (∀ y0 y1 y2 y3 y4 y5 y6 y7, LeO (laws_FnGraphsBuilt.l1 k y0 y1 y2 y3 y4 y5 y6 y7) (laws_FnGraphsBuilt.l1 (k + 1) y0 y1 y2 y3 y4 y5 y6 y7)) ∧ (∀ y0 y1 y2 y3 y4 y5 y6 y7 y8 y9 y10, LeO (laws_FnGraphsBuilt.l0 k y0 y1 y2 y3 y4 y5 y6 y7 y8 y9 y10) (laws_FnGraphsBuilt.l0 (k + 1) y0 y1 y2 y3 y4 y5 y6 y7 y8 y9 y10))
 | 0 => ⟨fun _ _ _ _ _ _ _ _ _ r h => by simp [laws_FnGraphsBuilt.j0] at h, fun _ _ _ _ _ _ _ r h => by simp [laws_FnGraphsBuilt.j2] at h, fun _ _ _ _ r h => by simp [laws_FnGraphsBuilt.j3] at h, fun _ r h => by simp [laws_FnGraphsBuilt.j5] at h, fun _ _ _ _ _ _ r h => by simp [laws_FnGraphsBuilt.j6] at h, fun _ _ _ _ _ r h => by simp [laws_FnGraphsBuilt.j7] at h, fun _ _ _ _ _ _ r h => by simp [laws_FnGraphsBuilt.l2] at h, fun _ _ _ _ _ _ _ _ r h => by simp [laws_FnGraphsBuilt.l1] at h, fun _ _ _ _ _ _ _ _ _ _ _ r h => by simp [laws_FnGraphsBuilt.l0] at h⟩
 | k + 1 => by
  obtain ⟨ih0, ih1, ih2, ih3, ih4, ih5, ih6, ih7, ih8⟩ := laws_FnGraphsBuilt.mono_l k
  refine ⟨?_, ?_, ?_, ?_, ?_, ?_, ?_, ?_, ?_⟩
  ·
   intro y0 y1 y2 y3 y4 y5 y6 y7 y8
   unfold laws_FnGraphsBuilt.j0
   repeat' first
   | (with_reducible exact ih1 _ _ _ _ _ _ _)
   | (with_reducible exact ih8 _ _ _ _ _ _ _ _ _ _ _)
   | (with_reducible exact LeO.refl _)
   | (with_reducible refine LeO.ite ?_ ?_)
  ·
   intro y0 y1 y2 y3 y4 y5 y6
   unfold laws_FnGraphsBuilt.j2
   repeat' first
   | (with_reducible exact ih2 _ _ _ _)
   | (with_reducible exact impl_DegreesOf.mono _ _ _)
   | (with_reducible exact impl_IsGraph.mono _ _ _)
   | (with_reducible exact laws_ySame.mono _ _ _)
   | (with_reducible exact LeO.refl _)
   | (with_reducible refine LeO.ite ?_ ?_)
   | (with_reducible refine LeO.bind ?_ (fun _ => ?_))
  ·
   intro y0 y1 y2 y3
   unfold laws_FnGraphsBuilt.j3
   repeat' first
   | (with_reducible exact ih3 _)
   | (with_reducible exact ih7 _ _ _ _ _ _ _ _)
   | (with_reducible exact impl_RankingOf.mono _ _)
   | (with_reducible refine LeO.ite ?_ ?_)
   | (with_reducible refine LeO.bind ?_ (fun _ => ?_))
  ·
   intro y0
   unfold laws_FnGraphsBuilt.j5
   repeat' first
   | (with_reducible exact ih4 _ _ _ _ _ _)
   | (with_reducible exact impl_OppositeGraph.mono _ _ _)
   | (with_reducible exact laws_yGraph.mono _ _ _ _ _)
   | (with_reducible exact spec_DrawOppositeGraph.mono _ _)
   | (with_reducible exact spec_OppositeGraph.mono _ _ _)
   | (with_reducible refine LeO.ite ?_ ?_)
   | (with_reducible refine LeO.bind ?_ (fun _ => ?_))
  ·
   intro y0 y1 y2 y3 y4 y5
   unfold laws_FnGraphsBuilt.j6
   repeat' first
   | (with_reducible exact ih5 _ _ _ _ _)
   | (with_reducible exact impl_DegreesOf.mono _ _ _)
   | (with_reducible exact impl_OppositeGraph.mono _ _ _)
   | (with_reducible exact laws_yGraph.mono _ _ _ _ _)
   | (with_reducible exact LeO.refl _)
   | (with_reducible refine LeO.ite ?_ ?_)
   | (with_reducible refine LeO.bind ?_ (fun _ => ?_))
  ·
   intro y0 y1 y2 y3 y4
   unfold laws_FnGraphsBuilt.j7
   repeat' first
   | (with_reducible exact ih6 _ _ _ _ _ _)
   | (with_reducible exact LeO.refl _)
   | (with_reducible refine LeO.ite ?_ ?_)
  ·
   intro y0 y1 y2 y3 y4 y5
   unfold laws_FnGraphsBuilt.l2
   repeat' first
   | (with_reducible exact ih6 _ _ _ _ _ _)
   | (with_reducible exact LeO.refl _)
   | (with_reducible refine LeO.ite ?_ ?_)
  ·
   intro y0 y1 y2 y3 y4 y5 y6 y7
   unfold laws_FnGraphsBuilt.l1
   repeat' first
   | (with_reducible exact ih3 _)
   | (with_reducible exact ih7 _ _ _ _ _ _ _ _)
   | (with_reducible exact LeO.refl _)
   | (with_reducible refine LeO.ite ?_ ?_)
  ·
   intro y0 y1 y2 y3 y4 y5 y6 y7 y8 y9 y10
   unfold laws_FnGraphsBuilt.l0
   repeat' first
   | (with_reducible exact ih1 _ _ _ _ _ _ _)
   | (with_reducible exact ih8 _ _ _ _ _ _ _ _ _ _ _)
   | (with_reducible exact LeO.refl _)
   | (with_reducible refine LeO.ite ?_ ?_)
theorem laws_FnGraphsBuilt.mono : ∀ a0 a1 k, LeO (laws_FnGraphsBuilt.f k a0 a1) (laws_FnGraphsBuilt.f (k + 1) a0 a1) := by
 intro a0 a1 k
 obtain ⟨ih0, ih1, ih2, ih3, ih4, ih5, ih6, ih7, ih8⟩ := laws_FnGraphsBuilt.mono_l k
 unfold laws_FnGraphsBuilt.f
 repeat' first
   | (with_reducible exact ih0 _ _ _ _ _ _ _ _ _)
   | (with_reducible exact impl_BuildGraph.mono _ _)
   | (with_reducible exact impl_IsGraphic.mono _ _)
   | (with_reducible exact impl_IsList.mono _ _)
   | (with_reducible exact impl_RefusingK.mono _ _)
   | (with_reducible exact laws_yGraph.mono _ _ _ _ _)
   | (with_reducible exact spec_BuildGraph.mono _ _)
   | (with_reducible exact spec_DrawBuildGraph.mono _ _)
   | (with_reducible exact spec_RefusingK.mono _ _)
   | (with_reducible exact LeO.refl _)
   | (with_reducible refine LeO.ite ?_ ?_)
   | (with_reducible refine LeO.bind ?_ (fun _ => ?_))
set_option maxHeartbeats 8000000 in
set_option maxRecDepth 100000 in
theorem laws_FnGraphsBuilt.calls (k : Nat) (A0 : Option Addr) (c0 : Nat) (l0 : List Int) (A1 : Option Addr) (c1 : Nat) (l1 : List Int) (r : Bool) (w : World) (hT : K.TabOK w) (hr0 : Kd.C (Kd.int .u8) w A0 l0.length l0) (hc0 : l0.length ≤ c0) (hr1 : Kd.C (Kd.int .u8) w A1 l1.length l1) (hc1 : l1.length ≤ c1) (h : laws_FnGraphsBuilt.f k l0 l1 = some r) :
  Calls Tryd.prog 4 #[.slice A0 l0.length c0, .slice A1 l1.length c1] w fun e w' => e = .returned (.bool r) ∧ Below w.heap.size w w' := by
 have HT := Aside0.mk hT
 clear hT
 have hu39 := Tryd.underlying39
 have HR0 := Aside0.mk hr0
 have HC0 := Aside0.mk hc0
 clear hr0 hc0
 have HR1 := Aside0.mk hr1
 have HC1 := Aside0.mk hc1
 clear hr1 hc1
 have HB := Aside0.mk (Below.refl w.heap.size w)
 have H : ((laws_big.f l0 l1).bind fun t646 => (if t646 = true then (some true) else ((spec_DrawBuildGraph.f k l0).bind fun t647 => ((impl_BuildGraph.f k t647).bind fun bt650 => ((spec_BuildGraph.f k t647).bind fun bt656 => ((impl_RefusingK.f k t647).bind fun bt662 => ((spec_RefusingK.f k t647).bind fun bt664 => ((impl_IsGraphic.f k t647).bind fun bt666 => (if (bt650.2.2 != bt656.2.2) = true then (laws_FnGraphsBuilt.j0 k l1 t647 bt650.2.2 bt662.1 bt662.2 bt666.2 true bt650.1 bt650.2.1) else ((laws_yGraph.f k bt650.1 bt650.2.1 bt656.1 bt656.2.1).bind fun t668 => (if t668 = true then (if (bt662.2 != bt664.2) = true then (laws_FnGraphsBuilt.j0 k l1 t647 bt650.2.2 bt662.1 bt662.2 bt666.2 true bt650.1 bt650.2.1) else (if bt662.1 = bt664.1 then (if (bt666.1 != bt650.2.2) = true then (laws_FnGraphsBuilt.j0 k l1 t647 bt650.2.2 bt662.1 bt662.2 bt666.2 true bt650.1 bt650.2.1) else ((impl_IsList.f k t647).bind fun t669 => (laws_FnGraphsBuilt.j0 k l1 t647 bt650.2.2 bt662.1 bt662.2 bt666.2 (bt666.2 != t669) bt650.1 bt650.2.1))) else (laws_FnGraphsBuilt.j0 k l1 t647 bt650.2.2 bt662.1 bt662.2 bt666.2 true bt650.1 bt650.2.1))) else (laws_FnGraphsBuilt.j0 k l1 t647 bt650.2.2 bt662.1 bt662.2 bt666.2 true bt650.1 bt650.2.1)))))))))))) = some r := h
 clear h
 replace H := Option.bind_eq_some_iff.mp H
 obtain ⟨t646, A30, H⟩ := H
 replace H : (if t646 = true then (some true) else ((spec_DrawBuildGraph.f k l0).bind fun t647 => ((impl_BuildGraph.f k t647).bind fun bt650 => ((spec_BuildGraph.f k t647).bind fun bt656 => ((impl_RefusingK.f k t647).bind fun bt662 => ((spec_RefusingK.f k t647).bind fun bt664 => ((impl_IsGraphic.f k t647).bind fun bt666 => (if (bt650.2.2 != bt656.2.2) = true then (laws_FnGraphsBuilt.j0 k l1 t647 bt650.2.2 bt662.1 bt662.2 bt666.2 true bt650.1 bt650.2.1) else ((laws_yGraph.f k bt650.1 bt650.2.1 bt656.1 bt656.2.1).bind fun t668 => (if t668 = true then (if (bt662.2 != bt664.2) = true then (laws_FnGraphsBuilt.j0 k l1 t647 bt650.2.2 bt662.1 bt662.2 bt666.2 true bt650.1 bt650.2.1) else (if bt662.1 = bt664.1 then (if (bt666.1 != bt650.2.2) = true then (laws_FnGraphsBuilt.j0 k l1 t647 bt650.2.2 bt662.1 bt662.2 bt666.2 true bt650.1 bt650.2.1) else ((impl_IsList.f k t647).bind fun t669 => (laws_FnGraphsBuilt.j0 k l1 t647 bt650.2.2 bt662.1 bt662.2 bt666.2 (bt666.2 != t669) bt650.1 bt650.2.1))) else (laws_FnGraphsBuilt.j0 k l1 t647 bt650.2.2 bt662.1 bt662.2 bt666.2 true bt650.1 bt650.2.1))) else (laws_FnGraphsBuilt.j0 k l1 t647 bt650.2.2 bt662.1 bt662.2 bt666.2 true bt650.1 bt650.2.1))))))))))) = some r := H
 have A3 := Aside0.mk A30
 clear A30
 by_cases c4 : t646 = true
 ·
  subst c4
  have H1 : (some true) = some r := by rw [if_pos rfl] at H; exact H
  clear H
  have H := H1
  clear H1
  obtain rfl := Option.some.inj H
  go_enter Tryd.func4, Tryd.ntmps4
  go_wp2_with ((go_at_call 5; (with_reducible refine (laws_big.calls _ _ l0 _ _ l1 true _ ?side1 ?side2 ?side3 ?side4 A3.out).mono ?_); (case side1 => repeat (exact HR0.out)); (case side2 => exact HC0.out); (case side3 => repeat (exact HR1.out)); (case side4 => exact HC1.out); rintro e w' ⟨rfl, ⟨nd, rfl⟩⟩; (skip)))
  repeat (go_quiet (fail); try go_wp2_with (fail))
  go_ret
  exact ⟨by first | rfl | (simp [errW_none, errW_some] <;> rfl) | (simp [*, errW_none, errW_some] <;> rfl), by repeat ((with_reducible first | exact HB.out | apply pw_below_drewN))⟩
 ·
  replace c4 := Bool.eq_false_iff.mpr c4
  subst c4
  have H1 : ((spec_DrawBuildGraph.f k l0).bind fun t647 => ((impl_BuildGraph.f k t647).bind fun bt650 => ((spec_BuildGraph.f k t647).bind fun bt656 => ((impl_RefusingK.f k t647).bind fun bt662 => ((spec_RefusingK.f k t647).bind fun bt664 => ((impl_IsGraphic.f k t647).bind fun bt666 => (if (bt650.2.2 != bt656.2.2) = true then (laws_FnGraphsBuilt.j0 k l1 t647 bt650.2.2 bt662.1 bt662.2 bt666.2 true bt650.1 bt650.2.1) else ((laws_yGraph.f k bt650.1 bt650.2.1 bt656.1 bt656.2.1).bind fun t668 => (if t668 = true then (if (bt662.2 != bt664.2) = true then (laws_FnGraphsBuilt.j0 k l1 t647 bt650.2.2 bt662.1 bt662.2 bt666.2 true bt650.1 bt650.2.1) else (if bt662.1 = bt664.1 then (if (bt666.1 != bt650.2.2) = true then (laws_FnGraphsBuilt.j0 k l1 t647 bt650.2.2 bt662.1 bt662.2 bt666.2 true bt650.1 bt650.2.1) else ((impl_IsList.f k t647).bind fun t669 => (laws_FnGraphsBuilt.j0 k l1 t647 bt650.2.2 bt662.1 bt662.2 bt666.2 (bt666.2 != t669) bt650.1 bt650.2.1))) else (laws_FnGraphsBuilt.j0 k l1 t647 bt650.2.2 bt662.1 bt662.2 bt666.2 true bt650.1 bt650.2.1))) else (laws_FnGraphsBuilt.j0 k l1 t647 bt650.2.2 bt662.1 bt662.2 bt666.2 true bt650.1 bt650.2.1)))))))))) = some r := by rw [if_neg (show ¬ (false = true) by decide)] at H; exact H
  clear H
  have H := H1
  clear H1
  replace H := Option.bind_eq_some_iff.mp H
  obtain ⟨t647, A50, H⟩ := H
  replace H : ((impl_BuildGraph.f k t647).bind fun bt650 => ((spec_BuildGraph.f k t647).bind fun bt656 => ((impl_RefusingK.f k t647).bind fun bt662 => ((spec_RefusingK.f k t647).bind fun bt664 => ((impl_IsGraphic.f k t647).bind fun bt666 => (if (bt650.2.2 != bt656.2.2) = true then (laws_FnGraphsBuilt.j0 k l1 t647 bt650.2.2 bt662.1 bt662.2 bt666.2 true bt650.1 bt650.2.1) else ((laws_yGraph.f k bt650.1 bt650.2.1 bt656.1 bt656.2.1).bind fun t668 => (if t668 = true then (if (bt662.2 != bt664.2) = true then (laws_FnGraphsBuilt.j0 k l1 t647 bt650.2.2 bt662.1 bt662.2 bt666.2 true bt650.1 bt650.2.1) else (if bt662.1 = bt664.1 then (if (bt666.1 != bt650.2.2) = true then (laws_FnGraphsBuilt.j0 k l1 t647 bt650.2.2 bt662.1 bt662.2 bt666.2 true bt650.1 bt650.2.1) else ((impl_IsList.f k t647).bind fun t669 => (laws_FnGraphsBuilt.j0 k l1 t647 bt650.2.2 bt662.1 bt662.2 bt666.2 (bt666.2 != t669) bt650.1 bt650.2.1))) else (laws_FnGraphsBuilt.j0 k l1 t647 bt650.2.2 bt662.1 bt662.2 bt666.2 true bt650.1 bt650.2.1))) else (laws_FnGraphsBuilt.j0 k l1 t647 bt650.2.2 bt662.1 bt662.2 bt666.2 true bt650.1 bt650.2.1))))))))) = some r := H
  have A5 := Aside0.mk A50
  clear A50
  replace H := Option.bind_eq_some_iff.mp H
  obtain ⟨⟨t650, t651, t654⟩, A60, H⟩ := H
  replace H : ((spec_BuildGraph.f k t647).bind fun bt656 => ((impl_RefusingK.f k t647).bind fun bt662 => ((spec_RefusingK.f k t647).bind fun bt664 => ((impl_IsGraphic.f k t647).bind fun bt666 => (if (t654 != bt656.2.2) = true then (laws_FnGraphsBuilt.j0 k l1 t647 t654 bt662.1 bt662.2 bt666.2 true t650 t651) else ((laws_yGraph.f k t650 t651 bt656.1 bt656.2.1).bind fun t668 => (if t668 = true then (if (bt662.2 != bt664.2) = true then (laws_FnGraphsBuilt.j0 k l1 t647 t654 bt662.1 bt662.2 bt666.2 true t650 t651) else (if bt662.1 = bt664.1 then (if (bt666.1 != t654) = true then (laws_FnGraphsBuilt.j0 k l1 t647 t654 bt662.1 bt662.2 bt666.2 true t650 t651) else ((impl_IsList.f k t647).bind fun t669 => (laws_FnGraphsBuilt.j0 k l1 t647 t654 bt662.1 bt662.2 bt666.2 (bt666.2 != t669) t650 t651))) else (laws_FnGraphsBuilt.j0 k l1 t647 t654 bt662.1 bt662.2 bt666.2 true t650 t651))) else (laws_FnGraphsBuilt.j0 k l1 t647 t654 bt662.1 bt662.2 bt666.2 true t650 t651)))))))) = some r := H
  have A6 := Aside0.mk A60
  clear A60
  replace H := Option.bind_eq_some_iff.mp H
  obtain ⟨⟨t656, t657, t660⟩, A70, H⟩ := H
  replace H : ((impl_RefusingK.f k t647).bind fun bt662 => ((spec_RefusingK.f k t647).bind fun bt664 => ((impl_IsGraphic.f k t647).bind fun bt666 => (if (t654 != t660) = true then (laws_FnGraphsBuilt.j0 k l1 t647 t654 bt662.1 bt662.2 bt666.2 true t650 t651) else ((laws_yGraph.f k t650 t651 t656 t657).bind fun t668 => (if t668 = true then (if (bt662.2 != bt664.2) = true then (laws_FnGraphsBuilt.j0 k l1 t647 t654 bt662.1 bt662.2 bt666.2 true t650 t651) else (if bt662.1 = bt664.1 then (if (bt666.1 != t654) = true then (laws_FnGraphsBuilt.j0 k l1 t647 t654 bt662.1 bt662.2 bt666.2 true t650 t651) else ((impl_IsList.f k t647).bind fun t669 => (laws_FnGraphsBuilt.j0 k l1 t647 t654 bt662.1 bt662.2 bt666.2 (bt666.2 != t669) t650 t651))) else (laws_FnGraphsBuilt.j0 k l1 t647 t654 bt662.1 bt662.2 bt666.2 true t650 t651))) else (laws_FnGraphsBuilt.j0 k l1 t647 t654 bt662.1 bt662.2 bt666.2 true t650 t651))))))) = some r := H
  have A7 := Aside0.mk A70
  clear A70
  replace H := Option.bind_eq_some_iff.mp H
  obtain ⟨⟨t662, t663⟩, A80, H⟩ := H
  replace H : ((spec_RefusingK.f k t647).bind fun bt664 => ((impl_IsGraphic.f k t647).bind fun bt666 => (if (t654 != t660) = true then (laws_FnGraphsBuilt.j0 k l1 t647 t654 t662 t663 bt666.2 true t650 t651) else ((laws_yGraph.f k t650 t651 t656 t657).bind fun t668 => (if t668 = true then (if (t663 != bt664.2) = true then (laws_FnGraphsBuilt.j0 k l1 t647 t654 t662 t663 bt666.2 true t650 t651) else (if t662 = bt664.1 then (if (bt666.1 != t654) = true then (laws_FnGraphsBuilt.j0 k l1 t647 t654 t662 t663 bt666.2 true t650 t651) else ((impl_IsList.f k t647).bind fun t669 => (laws_FnGraphsBuilt.j0 k l1 t647 t654 t662 t663 bt666.2 (bt666.2 != t669) t650 t651))) else (laws_FnGraphsBuilt.j0 k l1 t647 t654 t662 t663 bt666.2 true t650 t651))) else (laws_FnGraphsBuilt.j0 k l1 t647 t654 t662 t663 bt666.2 true t650 t651)))))) = some r := H
  have A8 := Aside0.mk A80
  clear A80
  replace H := Option.bind_eq_some_iff.mp H
  obtain ⟨⟨t664, t665⟩, A90, H⟩ := H
  replace H : ((impl_IsGraphic.f k t647).bind fun bt666 => (if (t654 != t660) = true then (laws_FnGraphsBuilt.j0 k l1 t647 t654 t662 t663 bt666.2 true t650 t651) else ((laws_yGraph.f k t650 t651 t656 t657).bind fun t668 => (if t668 = true then (if (t663 != t665) = true then (laws_FnGraphsBuilt.j0 k l1 t647 t654 t662 t663 bt666.2 true t650 t651) else (if t662 = t664 then (if (bt666.1 != t654) = true then (laws_FnGraphsBuilt.j0 k l1 t647 t654 t662 t663 bt666.2 true t650 t651) else ((impl_IsList.f k t647).bind fun t669 => (laws_FnGraphsBuilt.j0 k l1 t647 t654 t662 t663 bt666.2 (bt666.2 != t669) t650 t651))) else (laws_FnGraphsBuilt.j0 k l1 t647 t654 t662 t663 bt666.2 true t650 t651))) else (laws_FnGraphsBuilt.j0 k l1 t647 t654 t662 t663 bt666.2 true t650 t651))))) = some r := H
  have A9 := Aside0.mk A90
  clear A90
  replace H := Option.bind_eq_some_iff.mp H
  obtain ⟨⟨t666, t667⟩, A100, H⟩ := H
  replace H : (if (t654 != t660) = true then (laws_FnGraphsBuilt.j0 k l1 t647 t654 t662 t663 t667 true t650 t651) else ((laws_yGraph.f k t650 t651 t656 t657).bind fun t668 => (if t668 = true then (if (t663 != t665) = true then (laws_FnGraphsBuilt.j0 k l1 t647 t654 t662 t663 t667 true t650 t651) else (if t662 = t664 then (if (t666 != t654) = true then (laws_FnGraphsBuilt.j0 k l1 t647 t654 t662 t663 t667 true t650 t651) else ((impl_IsList.f k t647).bind fun t669 => (laws_FnGraphsBuilt.j0 k l1 t647 t654 t662 t663 t667 (t667 != t669) t650 t651))) else (laws_FnGraphsBuilt.j0 k l1 t647 t654 t662 t663 t667 true t650 t651))) else (laws_FnGraphsBuilt.j0 k l1 t647 t654 t662 t663 t667 true t650 t651)))) = some r := H
  have A10 := Aside0.mk A100
  clear A100
  have HC11 := Aside0.mk H
  clear H
  go_enter Tryd.func4, Tryd.ntmps4
  go_upto_region 9 with (first | (go_at_call 5; (with_reducible refine (laws_big.calls _ _ l0 _ _ l1 false _ ?side1 ?side2 ?side3 ?side4 A3.out).mono ?_); (case side1 => repeat (exact HR0.out)); (case side2 => exact HC0.out); (case side3 => repeat (exact HR1.out)); (case side4 => exact HC1.out); rintro e w' ⟨rfl, ⟨nd, rfl⟩⟩; (skip)) | (go_at_call 19; (with_reducible refine (spec_DrawBuildGraph.calls k _ _ l0 t647 _ ?side1 ?side2 A5.out).mono ?_); (case side1 => repeat (exact HR0.out)); (case side2 => exact HC0.out); rintro e w12 ⟨v648, rfl, ho0, hb⟩; have n0_ := Aside0.mk (Kd.R_lower ho0 (below_size (by repeat ((with_reducible first | exact HB.out | apply pw_below_drewN))))); have n1_ := Aside0.mk (below_step (by repeat ((with_reducible first | exact HB.out | apply pw_below_drewN))) hb); clear HB; have HO649 := n0_; have HB := n1_; clear n0_ n1_; (try clear hb); (try clear hb2); (try clear hk); (try clear hi); (try clear ho0); obtain ⟨Ao13, co13, eo13⟩ := Kd.R_slice HO649.out; subst eo13) | (go_at_call 20; (with_reducible refine (impl_BuildGraph.calls k _ _ t647 t650 t651 t654 _ ?side1 ?side2 A6.out).mono ?_); (case side1 => repeat (exact (Kd.R_reads' HO649.out).2.2)); (case side2 => exact (Kd.R_reads' HO649.out).2.1); rintro e w14 ⟨v652, rfl, ho0, hb⟩; have n0_ := Aside0.mk (Kd.R_elder' (by (with_reducible repeat (fail)); exact HO649.out) (Kd.R_base ho0) hb); have n1_ := Aside0.mk (Kd.R_lower (Kd.R_new' ho0 (Kd.R_lt (by (with_reducible repeat (fail)); exact HO649.out))) (below_size (by repeat ((with_reducible exact HB.out))))); have n2_ := Aside0.mk (below_step (by repeat ((with_reducible exact HB.out))) hb); clear HO649; clear HB; have HO649 := n0_; have HO653 := n1_; have HB := n2_; clear n0_ n1_ n2_; (try clear hb); (try clear hb2); (try clear hk); (try clear hi); (try clear ho0)) | ((with_reducible refine gate_dst (N := 6) rfl ?_); refine box_event ?hg (N := 6) ?hd (cs := #[.int .i64 0, .slice none 0 0]) (t := 39) ?hr ?_; (case hd => rfl); (case hg => rfl); (case hr => first | (go_simp; done) | (go_simp; rfl)); intro gb655 hg w15 hbox hb; have n0_ := Aside0.mk (Kd.R_below (by (with_reducible repeat (fail)); exact HO649.out) hb); have n1_ := Aside0.mk (Kd.R_below (by (with_reducible repeat (fail)); exact HO653.out) hb); have n2_ := Aside0.mk (below_step (by repeat ((with_reducible exact HB.out))) hb); have n3_ := Aside0.mk (hbox); have n4_ := Aside0.mk ((by rw [hg]; exact (below_size (by repeat ((with_reducible exact HB.out)))) : w.heap.size ≤ gb655)); have n5_ := Aside0.mk ((by rw [hg]; exact (below_size (by repeat ((with_reducible exact HB.out)))) : w.heap.size ≤ gb655)); clear HO649; clear HO653; clear HB; have HO649 := n0_; have HO653 := n1_; have HB := n2_; have BK655 := n3_; have GW655 := n4_; have GE655 := n5_; clear n0_ n1_ n2_ n3_ n4_ n5_; clear hb hbox hg; have hcz16_0 : w15.cell? ⟨gb655, 0, none⟩ = some (.int .i64 0) := (blk_cell BK655.out 0).trans rfl; have hcz16_1 : w15.cell? ⟨gb655, 1, none⟩ = some (.slice none 0 0) := (blk_cell BK655.out 1).trans rfl; have hfz16_0 := blk_frozen BK655.out 0; have hfz16_1 := blk_frozen BK655.out 1; obtain ⟨Ao17, co17, eo17⟩ := Kd.R_slice HO653.out; subst eo17) | (go_at_call 21; (with_reducible refine (spec_BuildGraph.calls k _ _ t647 t656 t657 t660 _ ?side1 ?side2 A7.out).mono ?_); (case side1 => refine (Kd.R_reads' (e := 3) (base := w.heap.size) (ok := fun k_ => (True ∧ some k_ ≠ (.slice Ao17 t651.length co17 : Value).ownBlock)) (n := t647.length) (c := co13) ?_).2.2; exact (by (with_reducible repeat (fail)); exact (Kd.R_mono (Kd.R_far (p := ⟨gb655, 1, none⟩) (Kd.R_far (p := ⟨gb655, 0, none⟩) (Kd.R_types HO649.out BK655.out (by decide)) (fun _ hk => hk.2) (.int .i64 t650)) (fun _ hk => hk.2) (.slice Ao17 t651.length co17)) (fun _ h_ => h_.1)))); (case side2 => exact (Kd.R_reads' HO649.out).2.1); rintro e w18 ⟨v658, rfl, ho0, hb⟩; have n0_ := Aside0.mk (Kd.R_elder' (by (with_reducible repeat (fail)); exact (Kd.R_mono (Kd.R_far (p := ⟨gb655, 1, none⟩) (Kd.R_far (p := ⟨gb655, 0, none⟩) (Kd.R_types HO649.out BK655.out (by decide)) (fun _ hk => hk.2) (.int .i64 t650)) (fun _ hk => hk.2) (.slice Ao17 t651.length co17)) (fun _ h_ => h_.1))) (Kd.R_base ho0) hb); have n1_ := Aside0.mk (Kd.R_elder' (by (with_reducible repeat (fail)); exact (Kd.R_mono (Kd.R_far (p := ⟨gb655, 1, none⟩) (Kd.R_far (p := ⟨gb655, 0, none⟩) (Kd.R_types HO653.out BK655.out (by decide)) (fun _ hk => hk.2) (.int .i64 t650)) (fun _ hk => hk.2) (.slice Ao17 t651.length co17)) (fun _ h_ => h_.1))) (Kd.R_base ho0) hb); have n2_ := Aside0.mk (Kd.R_lower (Kd.R_new' (Kd.R_new' ho0 (Kd.R_lt (by (with_reducible repeat (fail)); exact (Kd.R_mono (Kd.R_far (p := ⟨gb655, 1, none⟩) (Kd.R_far (p := ⟨gb655, 0, none⟩) (Kd.R_types HO649.out BK655.out (by decide)) (fun _ hk => hk.2) (.int .i64 t650)) (fun _ hk => hk.2) (.slice Ao17 t651.length co17)) (fun _ h_ => h_.1))))) (Kd.R_lt (by (with_reducible repeat (fail)); exact (Kd.R_mono (Kd.R_far (p := ⟨gb655, 1, none⟩) (Kd.R_far (p := ⟨gb655, 0, none⟩) (Kd.R_types HO653.out BK655.out (by decide)) (fun _ hk => hk.2) (.int .i64 t650)) (fun _ hk => hk.2) (.slice Ao17 t651.length co17)) (fun _ h_ => h_.1))))) (below_size (by repeat ((with_reducible first | exact HB.out | refine below_set ?_ GE655.out))))); have n3_ := Aside0.mk (blk_below (g := gb655) (o := .cells #[.int .i64 t650, .slice Ao17 t651.length co17] 39 (0, 0)) (by (with_reducible repeat (fail)); refine blk_put (cs := #[.int .i64 t650, .slice none 0 0]) ?_ 1 _ rfl; (with_reducible repeat (fail)); refine blk_put (cs := #[.int .i64 0, .slice none 0 0]) ?_ 0 _ rfl; (with_reducible repeat (fail)); exact BK655.out) hb); have n4_ := Aside0.mk (below_step (by repeat ((with_reducible first | exact HB.out | refine below_set ?_ GE655.out))) hb); clear HO649; clear HO653; clear BK655; clear HB; have HO649 := n0_; have HO653 := n1_; have HO659 := n2_; have BK655 := n3_; have HB := n4_; clear n0_ n1_ n2_ n3_ n4_; (try clear hb); (try clear hb2); (try clear hk); (try clear hi); (try clear ho0)) | ((with_reducible refine gate_dst (N := 8) rfl ?_); refine box_event ?hg (N := 8) ?hd (cs := #[.int .i64 0, .slice none 0 0]) (t := 39) ?hr ?_; (case hd => rfl); (case hg => rfl); (case hr => first | (go_simp; done) | (go_simp; rfl)); intro gb661 hg w19 hbox hb; have n0_ := Aside0.mk (Kd.R_below (by (with_reducible repeat (fail)); exact HO649.out) hb); have n1_ := Aside0.mk (Kd.R_below (by (with_reducible repeat (fail)); exact HO653.out) hb); have n2_ := Aside0.mk (Kd.R_below (by (with_reducible repeat (fail)); exact HO659.out) hb); have n3_ := Aside0.mk (blk_below (g := gb655) (o := .cells #[.int .i64 t650, .slice Ao17 t651.length co17] 39 (0, 0)) (by (with_reducible repeat (fail)); exact BK655.out) hb); have n4_ := Aside0.mk (below_step (by repeat ((with_reducible exact HB.out))) hb); have n5_ := Aside0.mk (hbox); have n6_ := Aside0.mk ((by rw [hg]; exact (below_size (by repeat ((with_reducible exact HB.out)))) : w.heap.size ≤ gb661)); have n7_ := Aside0.mk ((by rw [hg]; exact (below_size (by repeat ((with_reducible exact HB.out)))) : w.heap.size ≤ gb661)); have n8_ := Aside0.mk ((by rw [hg]; exact Nat.ne_of_lt (blk_lt (g := gb655) (o := .cells #[.int .i64 t650, .slice Ao17 t651.length co17] 39 (0, 0)) (by (with_reducible repeat (fail)); exact BK655.out)) : gb655 ≠ gb661)); have n9_ := Aside0.mk ((by rw [hg]; exact Nat.ne_of_gt (blk_lt (g := gb655) (o := .cells #[.int .i64 t650, .slice Ao17 t651.length co17] 39 (0, 0)) (by (with_reducible repeat (fail)); exact BK655.out)) : gb661 ≠ gb655)); clear HO649; clear HO653; clear HO659; clear BK655; clear HB; have HO649 := n0_; have HO653 := n1_; have HO659 := n2_; have BK655 := n3_; have HB := n4_; have BK661 := n5_; have GW661 := n6_; have GE661 := n7_; have NB655_661 := n8_; have NB661_655 := n9_; clear n0_ n1_ n2_ n3_ n4_ n5_ n6_ n7_ n8_ n9_; clear hb hbox hg; have hnb20 := NB661_655.out; have hnc20 := NB655_661.out; have hcz21_0 : w19.cell? ⟨gb661, 0, none⟩ = some (.int .i64 0) := (blk_cell BK661.out 0).trans rfl; have hcz21_1 : w19.cell? ⟨gb661, 1, none⟩ = some (.slice none 0 0) := (blk_cell BK661.out 1).trans rfl; have hfz21_0 := blk_frozen BK661.out 0; have hfz21_1 := blk_frozen BK661.out 1; obtain ⟨Ao22, co22, eo22⟩ := Kd.R_slice HO659.out; subst eo22) | (go_at_call 22; (with_reducible refine (impl_RefusingK.calls k _ _ t647 t662 t663 _ ?side1 ?side2 A8.out).mono ?_); (case side1 => refine (Kd.R_reads' (e := 3) (base := w.heap.size) (ok := fun k_ => ((True ∧ some k_ ≠ (.slice Ao17 t651.length co17 : Value).ownBlock) ∧ some k_ ≠ (.slice Ao22 t657.length co22 : Value).ownBlock)) (n := t647.length) (c := co13) ?_).2.2; exact (by (with_reducible repeat (fail)); exact (Kd.R_mono (Kd.R_far (p := ⟨gb661, 1, none⟩) (Kd.R_far (p := ⟨gb661, 0, none⟩) (Kd.R_types HO649.out BK661.out (by decide)) (fun _ hk => hk.2) (.int .i64 t656)) (fun _ hk => hk.2) (.slice Ao22 t657.length co22)) (fun _ h_ => h_.1)))); (case side2 => exact (Kd.R_reads' HO649.out).2.1); rintro e w23 ⟨rfl, hb⟩; have n0_ := Aside0.mk (Kd.R_below (by (with_reducible repeat (fail)); exact (Kd.R_mono (Kd.R_far (p := ⟨gb661, 1, none⟩) (Kd.R_far (p := ⟨gb661, 0, none⟩) (Kd.R_types HO649.out BK661.out (by decide)) (fun _ hk => hk.2) (.int .i64 t656)) (fun _ hk => hk.2) (.slice Ao22 t657.length co22)) (fun _ h_ => h_.1))) hb); have n1_ := Aside0.mk (Kd.R_below (by (with_reducible repeat (fail)); exact (Kd.R_mono (Kd.R_far (p := ⟨gb661, 1, none⟩) (Kd.R_far (p := ⟨gb661, 0, none⟩) (Kd.R_types HO653.out BK661.out (by decide)) (fun _ hk => hk.2) (.int .i64 t656)) (fun _ hk => hk.2) (.slice Ao22 t657.length co22)) (fun _ h_ => h_.1))) hb); have n2_ := Aside0.mk (Kd.R_below (by (with_reducible repeat (fail)); exact (Kd.R_mono (Kd.R_far (p := ⟨gb661, 1, none⟩) (Kd.R_far (p := ⟨gb661, 0, none⟩) (Kd.R_types HO659.out BK661.out (by decide)) (fun _ hk => hk.2) (.int .i64 t656)) (fun _ hk => hk.2) (.slice Ao22 t657.length co22)) (fun _ h_ => h_.1))) hb); have n3_ := Aside0.mk (blk_below (g := gb655) (o := .cells #[.int .i64 t650, .slice Ao17 t651.length co17] 39 (0, 0)) (by (with_reducible repeat (fail)); refine blk_far ?_ NB655_661.out _; (with_reducible repeat (fail)); refine blk_far ?_ NB655_661.out _; (with_reducible repeat (fail)); exact BK655.out) hb); have n4_ := Aside0.mk (blk_below (g := gb661) (o := .cells #[.int .i64 t656, .slice Ao22 t657.length co22] 39 (0, 0)) (by (with_reducible repeat (fail)); refine blk_put (cs := #[.int .i64 t656, .slice none 0 0]) ?_ 1 _ rfl; (with_reducible repeat (fail)); refine blk_put (cs := #[.int .i64 0, .slice none 0 0]) ?_ 0 _ rfl; (with_reducible repeat (fail)); exact BK661.out) hb); have n5_ := Aside0.mk (below_step (by repeat ((with_reducible first | exact HB.out | refine below_set ?_ GE661.out))) hb); clear HO649; clear HO653; clear HO659; clear BK655; clear BK661; clear HB; have HO649 := n0_; have HO653 := n1_; have HO659 := n2_; have BK655 := n3_; have BK661 := n4_; have HB := n5_; clear n0_ n1_ n2_ n3_ n4_ n5_; (try clear hb); (try clear hb2); (try clear hk); (try clear hi)) | (go_at_call 23; (with_reducible refine (spec_RefusingK.calls k _ _ t647 t664 t665 _ ?side1 ?side2 A9.out).mono ?_); (case side1 => repeat (exact (Kd.R_reads' HO649.out).2.2)); (case side2 => exact (Kd.R_reads' HO649.out).2.1); rintro e w24 ⟨rfl, hb⟩; have n0_ := Aside0.mk (Kd.R_below (by (with_reducible repeat (fail)); exact HO649.out) hb); have n1_ := Aside0.mk (Kd.R_below (by (with_reducible repeat (fail)); exact HO653.out) hb); have n2_ := Aside0.mk (Kd.R_below (by (with_reducible repeat (fail)); exact HO659.out) hb); have n3_ := Aside0.mk (blk_below (g := gb655) (o := .cells #[.int .i64 t650, .slice Ao17 t651.length co17] 39 (0, 0)) (by (with_reducible repeat (fail)); exact BK655.out) hb); have n4_ := Aside0.mk (blk_below (g := gb661) (o := .cells #[.int .i64 t656, .slice Ao22 t657.length co22] 39 (0, 0)) (by (with_reducible repeat (fail)); exact BK661.out) hb); have n5_ := Aside0.mk (below_step (by repeat ((with_reducible exact HB.out))) hb); clear HO649; clear HO653; clear HO659; clear BK655; clear BK661; clear HB; have HO649 := n0_; have HO653 := n1_; have HO659 := n2_; have BK655 := n3_; have BK661 := n4_; have HB := n5_; clear n0_ n1_ n2_ n3_ n4_ n5_; (try clear hb); (try clear hb2); (try clear hk); (try clear hi)) | (go_at_call 24; (with_reducible refine (impl_IsGraphic.calls k _ _ t647 t666 t667 _ ?side1 ?side2 A10.out).mono ?_); (case side1 => repeat (exact (Kd.R_reads' HO649.out).2.2)); (case side2 => exact (Kd.R_reads' HO649.out).2.1); rintro e w25 ⟨rfl, hb⟩; have n0_ := Aside0.mk (Kd.R_below (by (with_reducible repeat (fail)); exact HO649.out) hb); have n1_ := Aside0.mk (Kd.R_below (by (with_reducible repeat (fail)); exact HO653.out) hb); have n2_ := Aside0.mk (Kd.R_below (by (with_reducible repeat (fail)); exact HO659.out) hb); have n3_ := Aside0.mk (blk_below (g := gb655) (o := .cells #[.int .i64 t650, .slice Ao17 t651.length co17] 39 (0, 0)) (by (with_reducible repeat (fail)); exact BK655.out) hb); have n4_ := Aside0.mk (blk_below (g := gb661) (o := .cells #[.int .i64 t656, .slice Ao22 t657.length co22] 39 (0, 0)) (by (with_reducible repeat (fail)); exact BK661.out) hb); have n5_ := Aside0.mk (below_step (by repeat ((with_reducible exact HB.out))) hb); clear HO649; clear HO653; clear HO659; clear BK655; clear BK661; clear HB; have HO649 := n0_; have HO653 := n1_; have HO659 := n2_; have BK655 := n3_; have BK661 := n4_; have HB := n5_; clear n0_ n1_ n2_ n3_ n4_ n5_; (try clear hb); (try clear hb2); (try clear hk); (try clear hi)))
  repeat (go_quiet (fail); go_upto_region 9 with (fail))
  (try simp only [Act.put, List.setIfInBounds_toArray, List.set_cons_zero, List.set_cons_succ])
  go_cut [98] (fun v98 wc => ∃ (kq : Nat) (x98_10 : Bool), v98 = .bool x98_10 ∧ Aside0 (laws_FnGraphsBuilt.j0 kq l1 t647 t654 t662 t663 t667 x98_10 t650 t651 = some r) ∧ Aside0 (kq ≤ k) ∧ Aside0 (Kd.R (Kd.int .i64) 3 wc w.heap.size (fun k_ => some k_ ≠ ((.slice Ao17 t651.length co17) : Value).ownBlock ∧ some k_ ≠ ((.slice Ao22 t657.length co22) : Value).ownBlock) (.slice Ao13 t647.length co13) t647) ∧ Aside0 (Kd.R (Kd.int .i64) 3 wc w.heap.size (fun k_ => some k_ ≠ ((.slice Ao13 t647.length co13) : Value).ownBlock ∧ some k_ ≠ ((.slice Ao22 t657.length co22) : Value).ownBlock) (.slice Ao17 t651.length co17) t651) ∧ Aside0 (Kd.R (Kd.int .i64) 3 wc w.heap.size (fun k_ => some k_ ≠ ((.slice Ao13 t647.length co13) : Value).ownBlock ∧ some k_ ≠ ((.slice Ao17 t651.length co17) : Value).ownBlock) (.slice Ao22 t657.length co22) t657) ∧ Aside0 (wc.heap[gb655]? = some (.cells #[.int .i64 t650, (.slice Ao17 t651.length co17)] 39 (0, 0))) ∧ Aside0 (wc.heap[gb661]? = some (.cells #[.int .i64 t656, (.slice Ao22 t657.length co22)] 39 (0, 0))) ∧ Aside0 (Below w.heap.size w wc))
  case first =>
   as_aux_lemma =>
    have H := HC11.out
    clear HC11
    by_cases c26 : (t654 != t660) = true
    ·
     rw [if_pos c26] at H
     have c26b0 : (t654 != t660) = true := c26
     (try (have c26b1 : decide (t654 = t660) = false := by simpa using c26))
     (try (have c26b2 : (t654 == t660) = false := by simpa using c26))
     (try (have c26b3 : ¬ (t654 = t660) := by simpa using c26))
     clear c26
     (skip)
     have H' := Aside0.mk H
     clear H
     go_wp2
     repeat (go_quiet (fail); try go_wp2)
     go_meet
     case rel => exact ⟨_, (true), (by first | rfl | (simp; done) | (simp [*]; done)), H', ⟨by first | omega | exact Nat.le_refl _⟩, ⟨by (with_reducible repeat (fail)); exact Kd.R_mono HO649.out (fun _ hk => ⟨hk.1.2, hk.2⟩)⟩, ⟨by (with_reducible repeat (fail)); exact Kd.R_mono HO653.out (fun _ hk => ⟨hk.1.2, hk.2⟩)⟩, ⟨by (with_reducible repeat (fail)); exact Kd.R_mono HO659.out (fun _ hk => ⟨hk.1.2, hk.2⟩)⟩, ⟨by (with_reducible repeat (fail)); exact BK655.out⟩, ⟨by (with_reducible repeat (fail)); exact BK661.out⟩, ⟨by repeat ((with_reducible exact HB.out))⟩⟩
    ·
     rw [if_neg c26] at H
     have c26b0 : (t654 != t660) = false := by simpa using c26
     (try (have c26b1 : decide (t654 = t660) = true := by simpa using c26))
     (try (have c26b2 : (t654 == t660) = true := by simpa using c26))
     clear c26
     (skip)
     replace H := Option.bind_eq_some_iff.mp H
     obtain ⟨t668, A270, H⟩ := H
     replace H : (if t668 = true then (if (t663 != t665) = true then (laws_FnGraphsBuilt.j0 k l1 t647 t654 t662 t663 t667 true t650 t651) else (if t662 = t664 then (if (t666 != t654) = true then (laws_FnGraphsBuilt.j0 k l1 t647 t654 t662 t663 t667 true t650 t651) else ((impl_IsList.f k t647).bind fun t669 => (laws_FnGraphsBuilt.j0 k l1 t647 t654 t662 t663 t667 (t667 != t669) t650 t651))) else (laws_FnGraphsBuilt.j0 k l1 t647 t654 t662 t663 t667 true t650 t651))) else (laws_FnGraphsBuilt.j0 k l1 t647 t654 t662 t663 t667 true t650 t651)) = some r := H
     have A27 := Aside0.mk A270
     clear A270
     by_cases c28 : t668 = true
     ·
      subst c28
      have H1 : (if (t663 != t665) = true then (laws_FnGraphsBuilt.j0 k l1 t647 t654 t662 t663 t667 true t650 t651) else (if t662 = t664 then (if (t666 != t654) = true then (laws_FnGraphsBuilt.j0 k l1 t647 t654 t662 t663 t667 true t650 t651) else ((impl_IsList.f k t647).bind fun t669 => (laws_FnGraphsBuilt.j0 k l1 t647 t654 t662 t663 t667 (t667 != t669) t650 t651))) else (laws_FnGraphsBuilt.j0 k l1 t647 t654 t662 t663 t667 true t650 t651))) = some r := by rw [if_pos rfl] at H; exact H
      clear H
      have H := H1
      clear H1
      by_cases c29 : (t663 != t665) = true
      ·
       rw [if_pos c29] at H
       have c29b0 : (t663 != t665) = true := c29
       (try (have c29b1 : decide (t663 = t665) = false := by simpa using c29))
       (try (have c29b2 : (t663 == t665) = false := by simpa using c29))
       (try (have c29b3 : ¬ (t663 = t665) := by simpa using c29))
       clear c29
       have H' := Aside0.mk H
       clear H
       have hnb30 := NB655_661.out
       have hnc30 := NB661_655.out
       have hcz31_0 : w25.cell? ⟨gb655, 0, none⟩ = some (.int .i64 t650) := (blk_cell BK655.out 0).trans rfl
       have hcz31_1 : w25.cell? ⟨gb655, 1, none⟩ = some (.slice Ao17 t651.length co17) := (blk_cell BK655.out 1).trans rfl
       have hfz31_0 := blk_frozen BK655.out 0
       have hfz31_1 := blk_frozen BK655.out 1
       have hcz32_0 : w25.cell? ⟨gb661, 0, none⟩ = some (.int .i64 t656) := (blk_cell BK661.out 0).trans rfl
       have hcz32_1 : w25.cell? ⟨gb661, 1, none⟩ = some (.slice Ao22 t657.length co22) := (blk_cell BK661.out 1).trans rfl
       have hfz32_0 := blk_frozen BK661.out 0
       have hfz32_1 := blk_frozen BK661.out 1
       go_wp2_with ((go_at_call 25; (with_reducible refine (laws_yGraph.calls k t650 _ _ t651 t656 _ _ t657 true _ ?side1 ?side2 ?side3 ?side4 A27.out).mono ?_); (case side1 => repeat (exact (Kd.R_reads' HO653.out).2.2)); (case side2 => exact (Kd.R_reads' HO653.out).2.1); (case side3 => repeat (exact (Kd.R_reads' HO659.out).2.2)); (case side4 => exact (Kd.R_reads' HO659.out).2.1); rintro e w33 ⟨rfl, hb⟩; have n0_ := Aside0.mk (Kd.R_below (by (with_reducible repeat (fail)); exact HO649.out) hb); have n1_ := Aside0.mk (Kd.R_below (by (with_reducible repeat (fail)); exact HO653.out) hb); have n2_ := Aside0.mk (Kd.R_below (by (with_reducible repeat (fail)); exact HO659.out) hb); have n3_ := Aside0.mk (blk_below (g := gb655) (o := .cells #[.int .i64 t650, .slice Ao17 t651.length co17] 39 (0, 0)) (by (with_reducible repeat (fail)); exact BK655.out) hb); have n4_ := Aside0.mk (blk_below (g := gb661) (o := .cells #[.int .i64 t656, .slice Ao22 t657.length co22] 39 (0, 0)) (by (with_reducible repeat (fail)); exact BK661.out) hb); have n5_ := Aside0.mk (below_step (by repeat ((with_reducible exact HB.out))) hb); clear HO649; clear HO653; clear HO659; clear BK655; clear BK661; clear HB; have HO649 := n0_; have HO653 := n1_; have HO659 := n2_; have BK655 := n3_; have BK661 := n4_; have HB := n5_; clear n0_ n1_ n2_ n3_ n4_ n5_; (try clear hb); (try clear hb2); (try clear hk); (try clear hi)))
       repeat (go_quiet (fail); try go_wp2_with (fail))
       go_meet
       case rel => exact ⟨_, (true), (by first | rfl | (simp; done) | (simp [*]; done)), H', ⟨by first | omega | exact Nat.le_refl _⟩, ⟨by (with_reducible repeat (fail)); exact Kd.R_mono HO649.out (fun _ hk => ⟨hk.1.2, hk.2⟩)⟩, ⟨by (with_reducible repeat (fail)); exact Kd.R_mono HO653.out (fun _ hk => ⟨hk.1.2, hk.2⟩)⟩, ⟨by (with_reducible repeat (fail)); exact Kd.R_mono HO659.out (fun _ hk => ⟨hk.1.2, hk.2⟩)⟩, ⟨by (with_reducible repeat (fail)); exact BK655.out⟩, ⟨by (with_reducible repeat (fail)); exact BK661.out⟩, ⟨by repeat ((with_reducible exact HB.out))⟩⟩
      ·
       rw [if_neg c29] at H
       have c29b0 : (t663 != t665) = false := by simpa using c29
       (try (have c29b1 : decide (t663 = t665) = true := by simpa using c29))
       (try (have c29b2 : (t663 == t665) = true := by simpa using c29))
       clear c29
       by_cases c34 : t662 = t664
       ·
        rw [if_pos c34] at H
        have c34b0 : (t662 == t664) = true := beq_iff_eq.mpr c34
        have c34b1 : (t662 != t664) = false := bne_eq_false_iff_eq.mpr c34
        clear c34
        by_cases c35 : (t666 != t654) = true
        ·
         rw [if_pos c35] at H
         have c35b0 : (t666 != t654) = true := c35
         (try (have c35b1 : decide (t666 = t654) = false := by simpa using c35))
         (try (have c35b2 : (t666 == t654) = false := by simpa using c35))
         (try (have c35b3 : ¬ (t666 = t654) := by simpa using c35))
         clear c35
         have H' := Aside0.mk H
         clear H
         have hnb36 := NB655_661.out
         have hnc36 := NB661_655.out
         have hcz37_0 : w25.cell? ⟨gb655, 0, none⟩ = some (.int .i64 t650) := (blk_cell BK655.out 0).trans rfl
         have hcz37_1 : w25.cell? ⟨gb655, 1, none⟩ = some (.slice Ao17 t651.length co17) := (blk_cell BK655.out 1).trans rfl
         have hfz37_0 := blk_frozen BK655.out 0
         have hfz37_1 := blk_frozen BK655.out 1
         have hcz38_0 : w25.cell? ⟨gb661, 0, none⟩ = some (.int .i64 t656) := (blk_cell BK661.out 0).trans rfl
         have hcz38_1 : w25.cell? ⟨gb661, 1, none⟩ = some (.slice Ao22 t657.length co22) := (blk_cell BK661.out 1).trans rfl
         have hfz38_0 := blk_frozen BK661.out 0
         have hfz38_1 := blk_frozen BK661.out 1
         go_wp2_with ((go_at_call 25; (with_reducible refine (laws_yGraph.calls k t650 _ _ t651 t656 _ _ t657 true _ ?side1 ?side2 ?side3 ?side4 A27.out).mono ?_); (case side1 => repeat (exact (Kd.R_reads' HO653.out).2.2)); (case side2 => exact (Kd.R_reads' HO653.out).2.1); (case side3 => repeat (exact (Kd.R_reads' HO659.out).2.2)); (case side4 => exact (Kd.R_reads' HO659.out).2.1); rintro e w39 ⟨rfl, hb⟩; have n0_ := Aside0.mk (Kd.R_below (by (with_reducible repeat (fail)); exact HO649.out) hb); have n1_ := Aside0.mk (Kd.R_below (by (with_reducible repeat (fail)); exact HO653.out) hb); have n2_ := Aside0.mk (Kd.R_below (by (with_reducible repeat (fail)); exact HO659.out) hb); have n3_ := Aside0.mk (blk_below (g := gb655) (o := .cells #[.int .i64 t650, .slice Ao17 t651.length co17] 39 (0, 0)) (by (with_reducible repeat (fail)); exact BK655.out) hb); have n4_ := Aside0.mk (blk_below (g := gb661) (o := .cells #[.int .i64 t656, .slice Ao22 t657.length co22] 39 (0, 0)) (by (with_reducible repeat (fail)); exact BK661.out) hb); have n5_ := Aside0.mk (below_step (by repeat ((with_reducible exact HB.out))) hb); clear HO649; clear HO653; clear HO659; clear BK655; clear BK661; clear HB; have HO649 := n0_; have HO653 := n1_; have HO659 := n2_; have BK655 := n3_; have BK661 := n4_; have HB := n5_; clear n0_ n1_ n2_ n3_ n4_ n5_; (try clear hb); (try clear hb2); (try clear hk); (try clear hi)))
         repeat (go_quiet (fail); try go_wp2_with (fail))
         go_meet
         case rel => exact ⟨_, (true), (by first | rfl | (simp; done) | (simp [*]; done)), H', ⟨by first | omega | exact Nat.le_refl _⟩, ⟨by (with_reducible repeat (fail)); exact Kd.R_mono HO649.out (fun _ hk => ⟨hk.1.2, hk.2⟩)⟩, ⟨by (with_reducible repeat (fail)); exact Kd.R_mono HO653.out (fun _ hk => ⟨hk.1.2, hk.2⟩)⟩, ⟨by (with_reducible repeat (fail)); exact Kd.R_mono HO659.out (fun _ hk => ⟨hk.1.2, hk.2⟩)⟩, ⟨by (with_reducible repeat (fail)); exact BK655.out⟩, ⟨by (with_reducible repeat (fail)); exact BK661.out⟩, ⟨by repeat ((with_reducible exact HB.out))⟩⟩
        ·
         rw [if_neg c35] at H
         have c35b0 : (t666 != t654) = false := by simpa using c35
         (try (have c35b1 : decide (t666 = t654) = true := by simpa using c35))
         (try (have c35b2 : (t666 == t654) = true := by simpa using c35))
         clear c35
         replace H := Option.bind_eq_some_iff.mp H
         obtain ⟨t669, A400, H⟩ := H
         replace H : (laws_FnGraphsBuilt.j0 k l1 t647 t654 t662 t663 t667 (t667 != t669) t650 t651) = some r := H
         have A40 := Aside0.mk A400
         clear A400
         have H' := Aside0.mk H
         clear H
         have hnb41 := NB655_661.out
         have hnc41 := NB661_655.out
         have hcz42_0 : w25.cell? ⟨gb655, 0, none⟩ = some (.int .i64 t650) := (blk_cell BK655.out 0).trans rfl
         have hcz42_1 : w25.cell? ⟨gb655, 1, none⟩ = some (.slice Ao17 t651.length co17) := (blk_cell BK655.out 1).trans rfl
         have hfz42_0 := blk_frozen BK655.out 0
         have hfz42_1 := blk_frozen BK655.out 1
         have hcz43_0 : w25.cell? ⟨gb661, 0, none⟩ = some (.int .i64 t656) := (blk_cell BK661.out 0).trans rfl
         have hcz43_1 : w25.cell? ⟨gb661, 1, none⟩ = some (.slice Ao22 t657.length co22) := (blk_cell BK661.out 1).trans rfl
         have hfz43_0 := blk_frozen BK661.out 0
         have hfz43_1 := blk_frozen BK661.out 1
         go_wp2_with (first | (go_at_call 25; (with_reducible refine (laws_yGraph.calls k t650 _ _ t651 t656 _ _ t657 true _ ?side1 ?side2 ?side3 ?side4 A27.out).mono ?_); (case side1 => repeat (exact (Kd.R_reads' HO653.out).2.2)); (case side2 => exact (Kd.R_reads' HO653.out).2.1); (case side3 => repeat (exact (Kd.R_reads' HO659.out).2.2)); (case side4 => exact (Kd.R_reads' HO659.out).2.1); rintro e w44 ⟨rfl, hb⟩; have n0_ := Aside0.mk (Kd.R_below (by (with_reducible repeat (fail)); exact HO649.out) hb); have n1_ := Aside0.mk (Kd.R_below (by (with_reducible repeat (fail)); exact HO653.out) hb); have n2_ := Aside0.mk (Kd.R_below (by (with_reducible repeat (fail)); exact HO659.out) hb); have n3_ := Aside0.mk (blk_below (g := gb655) (o := .cells #[.int .i64 t650, .slice Ao17 t651.length co17] 39 (0, 0)) (by (with_reducible repeat (fail)); exact BK655.out) hb); have n4_ := Aside0.mk (blk_below (g := gb661) (o := .cells #[.int .i64 t656, .slice Ao22 t657.length co22] 39 (0, 0)) (by (with_reducible repeat (fail)); exact BK661.out) hb); have n5_ := Aside0.mk (below_step (by repeat ((with_reducible exact HB.out))) hb); clear HO649; clear HO653; clear HO659; clear BK655; clear BK661; clear HB; have HO649 := n0_; have HO653 := n1_; have HO659 := n2_; have BK655 := n3_; have BK661 := n4_; have HB := n5_; clear n0_ n1_ n2_ n3_ n4_ n5_; (try clear hb); (try clear hb2); (try clear hk); (try clear hi)) | (go_at_call 26; (with_reducible refine (impl_IsList.calls k _ _ t647 t669 _ ?side1 ?side2 A40.out).mono ?_); (case side1 => repeat (exact (Kd.R_reads' HO649.out).2.2)); (case side2 => exact (Kd.R_reads' HO649.out).2.1); rintro e w' ⟨rfl, ⟨nd, rfl⟩⟩; (skip)))
         repeat (go_quiet (fail); try go_wp2_with (fail))
         go_meet
         case rel => exact ⟨_, ((t667 != t669)), (by first | rfl | (simp; done) | (simp [*]; done)), H', ⟨by first | omega | exact Nat.le_refl _⟩, ⟨by (with_reducible repeat (apply Kd.R_drewN)); exact Kd.R_mono HO649.out (fun _ hk => ⟨hk.1.2, hk.2⟩)⟩, ⟨by (with_reducible repeat (apply Kd.R_drewN)); exact Kd.R_mono HO653.out (fun _ hk => ⟨hk.1.2, hk.2⟩)⟩, ⟨by (with_reducible repeat (apply Kd.R_drewN)); exact Kd.R_mono HO659.out (fun _ hk => ⟨hk.1.2, hk.2⟩)⟩, ⟨by (with_reducible repeat (refine blk_drewN ?_ _)); exact BK655.out⟩, ⟨by (with_reducible repeat (refine blk_drewN ?_ _)); exact BK661.out⟩, ⟨by repeat ((with_reducible first | exact HB.out | apply pw_below_drewN))⟩⟩
       ·
        rw [if_neg c34] at H
        have c34b0 : (t662 == t664) = false := beq_eq_false_iff_ne.mpr c34
        have c34b1 : (t662 != t664) = true := bne_iff_ne.mpr c34
        have H' := Aside0.mk H
        clear H
        have hnb45 := NB655_661.out
        have hnc45 := NB661_655.out
        have hcz46_0 : w25.cell? ⟨gb655, 0, none⟩ = some (.int .i64 t650) := (blk_cell BK655.out 0).trans rfl
        have hcz46_1 : w25.cell? ⟨gb655, 1, none⟩ = some (.slice Ao17 t651.length co17) := (blk_cell BK655.out 1).trans rfl
        have hfz46_0 := blk_frozen BK655.out 0
        have hfz46_1 := blk_frozen BK655.out 1
        have hcz47_0 : w25.cell? ⟨gb661, 0, none⟩ = some (.int .i64 t656) := (blk_cell BK661.out 0).trans rfl
        have hcz47_1 : w25.cell? ⟨gb661, 1, none⟩ = some (.slice Ao22 t657.length co22) := (blk_cell BK661.out 1).trans rfl
        have hfz47_0 := blk_frozen BK661.out 0
        have hfz47_1 := blk_frozen BK661.out 1
        go_wp2_with ((go_at_call 25; (with_reducible refine (laws_yGraph.calls k t650 _ _ t651 t656 _ _ t657 true _ ?side1 ?side2 ?side3 ?side4 A27.out).mono ?_); (case side1 => repeat (exact (Kd.R_reads' HO653.out).2.2)); (case side2 => exact (Kd.R_reads' HO653.out).2.1); (case side3 => repeat (exact (Kd.R_reads' HO659.out).2.2)); (case side4 => exact (Kd.R_reads' HO659.out).2.1); rintro e w48 ⟨rfl, hb⟩; have n0_ := Aside0.mk (Kd.R_below (by (with_reducible repeat (fail)); exact HO649.out) hb); have n1_ := Aside0.mk (Kd.R_below (by (with_reducible repeat (fail)); exact HO653.out) hb); have n2_ := Aside0.mk (Kd.R_below (by (with_reducible repeat (fail)); exact HO659.out) hb); have n3_ := Aside0.mk (blk_below (g := gb655) (o := .cells #[.int .i64 t650, .slice Ao17 t651.length co17] 39 (0, 0)) (by (with_reducible repeat (fail)); exact BK655.out) hb); have n4_ := Aside0.mk (blk_below (g := gb661) (o := .cells #[.int .i64 t656, .slice Ao22 t657.length co22] 39 (0, 0)) (by (with_reducible repeat (fail)); exact BK661.out) hb); have n5_ := Aside0.mk (below_step (by repeat ((with_reducible exact HB.out))) hb); clear HO649; clear HO653; clear HO659; clear BK655; clear BK661; clear HB; have HO649 := n0_; have HO653 := n1_; have HO659 := n2_; have BK655 := n3_; have BK661 := n4_; have HB := n5_; clear n0_ n1_ n2_ n3_ n4_ n5_; (try clear hb); (try clear hb2); (try clear hk); (try clear hi)))
        repeat (go_quiet (fail); try go_wp2_with (fail))
        go_meet
        case rel => exact ⟨_, (true), (by first | rfl | (simp; done) | (simp [*]; done)), H', ⟨by first | omega | exact Nat.le_refl _⟩, ⟨by (with_reducible repeat (fail)); exact Kd.R_mono HO649.out (fun _ hk => ⟨hk.1.2, hk.2⟩)⟩, ⟨by (with_reducible repeat (fail)); exact Kd.R_mono HO653.out (fun _ hk => ⟨hk.1.2, hk.2⟩)⟩, ⟨by (with_reducible repeat (fail)); exact Kd.R_mono HO659.out (fun _ hk => ⟨hk.1.2, hk.2⟩)⟩, ⟨by (with_reducible repeat (fail)); exact BK655.out⟩, ⟨by (with_reducible repeat (fail)); exact BK661.out⟩, ⟨by repeat ((with_reducible exact HB.out))⟩⟩
     ·
      replace c28 := Bool.eq_false_iff.mpr c28
      subst c28
      have H1 : (laws_FnGraphsBuilt.j0 k l1 t647 t654 t662 t663 t667 true t650 t651) = some r := by rw [if_neg (show ¬ (false = true) by decide)] at H; exact H
      clear H
      have H := H1
      clear H1
      have H' := Aside0.mk H
      clear H
      have hnb49 := NB655_661.out
      have hnc49 := NB661_655.out
      have hcz50_0 : w25.cell? ⟨gb655, 0, none⟩ = some (.int .i64 t650) := (blk_cell BK655.out 0).trans rfl
      have hcz50_1 : w25.cell? ⟨gb655, 1, none⟩ = some (.slice Ao17 t651.length co17) := (blk_cell BK655.out 1).trans rfl
      have hfz50_0 := blk_frozen BK655.out 0
      have hfz50_1 := blk_frozen BK655.out 1
      have hcz51_0 : w25.cell? ⟨gb661, 0, none⟩ = some (.int .i64 t656) := (blk_cell BK661.out 0).trans rfl
      have hcz51_1 : w25.cell? ⟨gb661, 1, none⟩ = some (.slice Ao22 t657.length co22) := (blk_cell BK661.out 1).trans rfl
      have hfz51_0 := blk_frozen BK661.out 0
      have hfz51_1 := blk_frozen BK661.out 1
      go_wp2_with ((go_at_call 25; (with_reducible refine (laws_yGraph.calls k t650 _ _ t651 t656 _ _ t657 false _ ?side1 ?side2 ?side3 ?side4 A27.out).mono ?_); (case side1 => repeat (exact (Kd.R_reads' HO653.out).2.2)); (case side2 => exact (Kd.R_reads' HO653.out).2.1); (case side3 => repeat (exact (Kd.R_reads' HO659.out).2.2)); (case side4 => exact (Kd.R_reads' HO659.out).2.1); rintro e w52 ⟨rfl, hb⟩; have n0_ := Aside0.mk (Kd.R_below (by (with_reducible repeat (fail)); exact HO649.out) hb); have n1_ := Aside0.mk (Kd.R_below (by (with_reducible repeat (fail)); exact HO653.out) hb); have n2_ := Aside0.mk (Kd.R_below (by (with_reducible repeat (fail)); exact HO659.out) hb); have n3_ := Aside0.mk (blk_below (g := gb655) (o := .cells #[.int .i64 t650, .slice Ao17 t651.length co17] 39 (0, 0)) (by (with_reducible repeat (fail)); exact BK655.out) hb); have n4_ := Aside0.mk (blk_below (g := gb661) (o := .cells #[.int .i64 t656, .slice Ao22 t657.length co22] 39 (0, 0)) (by (with_reducible repeat (fail)); exact BK661.out) hb); have n5_ := Aside0.mk (below_step (by repeat ((with_reducible exact HB.out))) hb); clear HO649; clear HO653; clear HO659; clear BK655; clear BK661; clear HB; have HO649 := n0_; have HO653 := n1_; have HO659 := n2_; have BK655 := n3_; have BK661 := n4_; have HB := n5_; clear n0_ n1_ n2_ n3_ n4_ n5_; (try clear hb); (try clear hb2); (try clear hk); (try clear hi)))
      repeat (go_quiet (fail); try go_wp2_with (fail))
      go_meet
      case rel => exact ⟨_, (true), (by first | rfl | (simp; done) | (simp [*]; done)), H', ⟨by first | omega | exact Nat.le_refl _⟩, ⟨by (with_reducible repeat (fail)); exact Kd.R_mono HO649.out (fun _ hk => ⟨hk.1.2, hk.2⟩)⟩, ⟨by (with_reducible repeat (fail)); exact Kd.R_mono HO653.out (fun _ hk => ⟨hk.1.2, hk.2⟩)⟩, ⟨by (with_reducible repeat (fail)); exact Kd.R_mono HO659.out (fun _ hk => ⟨hk.1.2, hk.2⟩)⟩, ⟨by (with_reducible repeat (fail)); exact BK655.out⟩, ⟨by (with_reducible repeat (fail)); exact BK661.out⟩, ⟨by repeat ((with_reducible exact HB.out))⟩⟩
  case rest =>
   as_aux_lemma =>
    clear HC11
    clear hcz16_0 hcz16_1 hcz21_0 hcz21_1 hfz16_0 hfz16_1 hfz21_0 hfz21_1
    obtain ⟨kq, x98_10, rfl, HA, HJ10, HO_5, HO_656001, HO_662001, BK655, BK661, HB⟩ := hcut
    cases kq with
    | zero => exact absurd HA.out (by simp [laws_FnGraphsBuilt.j0])
    | succ kj10 =>
     have H := HA.out
     clear HA
     simp only [laws_FnGraphsBuilt.j0] at H
     by_cases c53 : x98_10 = true
     ·
      subst c53
      have H1 : (some false) = some r := by rw [if_pos rfl] at H; exact H
      clear H
      have H := H1
      clear H1
      obtain rfl := Option.some.inj H
      go_wp2
      repeat (go_quiet (fail); try go_wp2)
      go_ret
      exact ⟨by first | rfl | (simp [errW_none, errW_some] <;> rfl) | (simp [*, errW_none, errW_some] <;> rfl), by repeat ((with_reducible exact HB.out))⟩
     ·
      replace c53 := Bool.eq_false_iff.mpr c53
      subst c53
      have H1 : (if t667 = true then (laws_FnGraphsBuilt.l0 kj10 l1 t647 t654 t662 t663 0 t647 (t647.length : Int) 0 t650 t651) else (laws_FnGraphsBuilt.j2 kj10 l1 t647 t654 t662 t663 t650 t651)) = some r := by rw [if_neg (show ¬ (false = true) by decide)] at H; exact H
      clear H
      have H := H1
      clear H1
      have HC54 := Aside0.mk H
      clear H
      go_upto_if 99 with (fail)
      repeat (go_quiet (fail); go_upto_if 99 with (fail))
      go_cut [] (fun wc => ∃ (kq : Nat), Aside0 (laws_FnGraphsBuilt.j2 kq l1 t647 t654 t662 t663 t650 t651 = some r) ∧ Aside0 (kq ≤ kj10) ∧ Aside0 (Kd.R (Kd.int .i64) 3 wc w.heap.size (fun k_ => some k_ ≠ ((.slice Ao17 t651.length co17) : Value).ownBlock ∧ some k_ ≠ ((.slice Ao22 t657.length co22) : Value).ownBlock) (.slice Ao13 t647.length co13) t647) ∧ Aside0 (Kd.R (Kd.int .i64) 3 wc w.heap.size (fun k_ => some k_ ≠ ((.slice Ao13 t647.length co13) : Value).ownBlock ∧ some k_ ≠ ((.slice Ao22 t657.length co22) : Value).ownBlock) (.slice Ao17 t651.length co17) t651) ∧ Aside0 (Kd.R (Kd.int .i64) 3 wc w.heap.size (fun k_ => some k_ ≠ ((.slice Ao13 t647.length co13) : Value).ownBlock ∧ some k_ ≠ ((.slice Ao17 t651.length co17) : Value).ownBlock) (.slice Ao22 t657.length co22) t657) ∧ Aside0 (wc.heap[gb655]? = some (.cells #[.int .i64 t650, (.slice Ao17 t651.length co17)] 39 (0, 0))) ∧ Aside0 (wc.heap[gb661]? = some (.cells #[.int .i64 t656, (.slice Ao22 t657.length co22)] 39 (0, 0))) ∧ Aside0 (Below w.heap.size w wc))
      case first =>
       as_aux_lemma =>
        have H := HC54.out
        clear HC54
        by_cases c55 : t667 = true
        ·
         subst c55
         have H1 : (laws_FnGraphsBuilt.l0 kj10 l1 t647 t654 t662 t663 0 t647 (t647.length : Int) 0 t650 t651) = some r := by rw [if_pos rfl] at H; exact H
         clear H
         have H := H1
         clear H1
         have H' := Aside0.mk H
         clear H
         go_wp2
         repeat (go_quiet (fail); try go_wp2)
         go_loopg [16, 102] kj10 (fun kq v16 v102 w' => ∃ (x16_2 : Int) (x102_2 : Int), v16 = .int .i64 x16_2 ∧ v102 = .int .i64 x102_2 ∧ Aside0 (laws_FnGraphsBuilt.l0 kq l1 t647 t654 t662 t663 x16_2 t647 (t647.length : Int) x102_2 t650 t651 = some r) ∧ Aside0 (kq ≤ kj10) ∧ Aside0 (Kd.R (Kd.int .i64) 3 w' w.heap.size (fun k_ => some k_ ≠ ((.slice Ao17 t651.length co17) : Value).ownBlock ∧ some k_ ≠ ((.slice Ao22 t657.length co22) : Value).ownBlock) (.slice Ao13 t647.length co13) t647) ∧ Aside0 (Kd.R (Kd.int .i64) 3 w' w.heap.size (fun k_ => some k_ ≠ ((.slice Ao17 t651.length co17) : Value).ownBlock ∧ some k_ ≠ ((.slice Ao22 t657.length co22) : Value).ownBlock) (.slice Ao13 t647.length co13) t647) ∧ Aside0 (Kd.R (Kd.int .i64) 3 w' w.heap.size (fun k_ => some k_ ≠ ((.slice Ao13 t647.length co13) : Value).ownBlock ∧ some k_ ≠ ((.slice Ao13 t647.length co13) : Value).ownBlock ∧ some k_ ≠ ((.slice Ao22 t657.length co22) : Value).ownBlock) (.slice Ao17 t651.length co17) t651) ∧ Aside0 (Kd.R (Kd.int .i64) 3 w' w.heap.size (fun k_ => some k_ ≠ ((.slice Ao13 t647.length co13) : Value).ownBlock ∧ some k_ ≠ ((.slice Ao13 t647.length co13) : Value).ownBlock ∧ some k_ ≠ ((.slice Ao17 t651.length co17) : Value).ownBlock) (.slice Ao22 t657.length co22) t657) ∧ Aside0 (w'.heap[gb655]? = some (.cells #[.int .i64 t650, (.slice Ao17 t651.length co17)] 39 (0, 0))) ∧ Aside0 (w'.heap[gb661]? = some (.cells #[.int .i64 t656, (.slice Ao22 t657.length co22)] 39 (0, 0))) ∧ Aside0 (Below w.heap.size w w'))
         case atStart => exact ⟨(0), (0), (by first | rfl | (simp; done) | (simp [*]; done)), (by first | rfl | (simp; done) | (simp [*]; done)), H', ⟨Nat.le_refl _⟩, ⟨by (with_reducible repeat (fail)); exact HO_5.out⟩, ⟨by (with_reducible repeat (fail)); exact HO_5.out⟩, ⟨by (with_reducible repeat (fail)); exact Kd.R_mono HO_656001.out (fun _ hk => ⟨hk.1, ⟨hk.1, hk.2⟩⟩)⟩, ⟨by (with_reducible repeat (fail)); exact Kd.R_mono HO_662001.out (fun _ hk => ⟨hk.1, ⟨hk.1, hk.2⟩⟩)⟩, ⟨by (with_reducible repeat (fail)); exact BK655.out⟩, ⟨by (with_reducible repeat (fail)); exact BK661.out⟩, ⟨by repeat ((with_reducible exact HB.out))⟩⟩
         case round =>
          as_aux_lemma =>
           clear H'
           obtain ⟨x16_2, x102_2, rfl, rfl, HA, HK2, HO_5, HO_100, HO_656001, HO_662001, BK655, BK661, HB⟩ := hrel
           cases gk with
           | zero => exact absurd HA.out (by simp [laws_FnGraphsBuilt.l0])
           | succ k2 =>
            have H := HA.out
            clear HA
            simp only [laws_FnGraphsBuilt.l0] at H
            by_cases c56 : x102_2 < (t647.length : Int)
            ·
             rw [if_pos c56] at H
             have c56b0 : decide (x102_2 < (t647.length : Int)) = true := decide_eq_true c56
             clear c56
             (skip)
             by_cases c57 : 0 ≤ x102_2
             ·
              rw [if_pos c57] at H
              have c57b0 : decide (0 ≤ x102_2) = true := decide_eq_true c57
              clear c57
              by_cases c58 : x102_2 < (t647.length : Int)
              ·
               rw [if_pos c58] at H
               have c58b0 : decide (x102_2 < (t647.length : Int)) = true := decide_eq_true c58
               clear c58
               have H' := Aside0.mk H
               clear H
               have p670 : 0 ≤ (x102_2 : Int) := of_decide_eq_true (by first | (with_reducible assumption) | assumption)
               have q670 : x102_2 < (t647.length : Int) := of_decide_eq_true (by first | (with_reducible assumption) | assumption)
               obtain ⟨ad670, e670, hx670_0⟩ := Kd.at_int (Kd.R_reads' HO_100.out).2.2 x102_2 p670 q670
               cases e670
               replace p670 := eq_true p670
               replace q670 := eq_true q670
               go_wp2
               repeat (go_quiet (fail); try go_wp2)
               go_roundg k2
               case measure => have := HJ10.out; have := HK2.out; omega
               case rel => exact ⟨(wrap64 (x16_2 + (rd t647 x102_2))), (wrap64 (x102_2 + 1)), (by first | rfl | (simp; done) | (simp [*]; done)), (by first | rfl | (simp; done) | (simp [*]; done)), H', ⟨by have := HJ10.out; have := HK2.out; omega⟩, ⟨by (with_reducible repeat (fail)); exact HO_5.out⟩, ⟨by (with_reducible repeat (fail)); exact HO_100.out⟩, ⟨by (with_reducible repeat (fail)); exact HO_656001.out⟩, ⟨by (with_reducible repeat (fail)); exact HO_662001.out⟩, ⟨by (with_reducible repeat (fail)); exact BK655.out⟩, ⟨by (with_reducible repeat (fail)); exact BK661.out⟩, ⟨by repeat ((with_reducible exact HB.out))⟩⟩
              ·
               rw [if_neg c58] at H
               exact absurd H (by simp)
             ·
              rw [if_neg c57] at H
              exact absurd H (by simp)
            ·
             rw [if_neg c56] at H
             have c56b0 : decide (x102_2 < (t647.length : Int)) = false := decide_eq_false c56
             clear c56
             (skip)
             by_cases c59 : t663 = true
             ·
              subst c59
              have H1 : (if (t654 != false) = true then (some false) else (laws_FnGraphsBuilt.j2 k2 l1 t647 t654 t662 true t650 t651)) = some r := by rw [if_pos rfl] at H; exact H
              clear H
              have H := H1
              clear H1
              by_cases c60 : (t654 != false) = true
              ·
               rw [if_pos c60] at H
               have c60b0 : (t654 != false) = true := c60
               (try (have c60b1 : decide (t654 = false) = false := by simpa using c60))
               (try (have c60b2 : (t654 == false) = false := by simpa using c60))
               (try (have c60b3 : ¬ (t654 = false) := by simpa using c60))
               clear c60
               obtain rfl := Option.some.inj H
               go_wp2
               repeat (go_quiet (fail); try go_wp2)
               go_ret
               exact ⟨by first | rfl | (simp [errW_none, errW_some] <;> rfl) | (simp [*, errW_none, errW_some] <;> rfl), by repeat ((with_reducible exact HB.out))⟩
              ·
               rw [if_neg c60] at H
               have c60b0 : (t654 != false) = false := by simpa using c60
               (try (have c60b1 : decide (t654 = false) = true := by simpa using c60))
               (try (have c60b2 : (t654 == false) = true := by simpa using c60))
               clear c60
               have H' := Aside0.mk H
               clear H
               go_wp2
               repeat (go_quiet (fail); try go_wp2)
               go_meet
               case rel => exact ⟨_, H', ⟨by have := HJ10.out; have := HK2.out; first | omega | exact Nat.le_refl _⟩, ⟨by (with_reducible repeat (fail)); exact HO_5.out⟩, ⟨by (with_reducible repeat (fail)); exact Kd.R_mono HO_656001.out (fun _ hk => ⟨hk.1, hk.2.2⟩)⟩, ⟨by (with_reducible repeat (fail)); exact Kd.R_mono HO_662001.out (fun _ hk => ⟨hk.1, hk.2.2⟩)⟩, ⟨by (with_reducible repeat (fail)); exact BK655.out⟩, ⟨by (with_reducible repeat (fail)); exact BK661.out⟩, ⟨by repeat ((with_reducible exact HB.out))⟩⟩
             ·
              replace c59 := Bool.eq_false_iff.mpr c59
              subst c59
              have H1 : (if (t654 != ((Int.tmod x16_2 2) == 0)) = true then (some false) else (laws_FnGraphsBuilt.j2 k2 l1 t647 t654 t662 false t650 t651)) = some r := by rw [if_neg (show ¬ (false = true) by decide)] at H; exact H
              clear H
              have H := H1
              clear H1
              by_cases c61 : (t654 != ((Int.tmod x16_2 2) == 0)) = true
              ·
               rw [if_pos c61] at H
               have c61b0 : (t654 != ((Int.tmod x16_2 2) == 0)) = true := c61
               (try (have c61b1 : decide (t654 = ((Int.tmod x16_2 2) == 0)) = false := by simpa using c61))
               (try (have c61b2 : (t654 == ((Int.tmod x16_2 2) == 0)) = false := by simpa using c61))
               (try (have c61b3 : ¬ (t654 = ((Int.tmod x16_2 2) == 0)) := by simpa using c61))
               clear c61
               obtain rfl := Option.some.inj H
               go_wp2
               repeat (go_quiet (fail); try go_wp2)
               go_ret
               exact ⟨by first | rfl | (simp [errW_none, errW_some] <;> rfl) | (simp [*, errW_none, errW_some] <;> rfl), by repeat ((with_reducible exact HB.out))⟩
              ·
               rw [if_neg c61] at H
               have c61b0 : (t654 != ((Int.tmod x16_2 2) == 0)) = false := by simpa using c61
               (try (have c61b1 : decide (t654 = ((Int.tmod x16_2 2) == 0)) = true := by simpa using c61))
               (try (have c61b2 : (t654 == ((Int.tmod x16_2 2) == 0)) = true := by simpa using c61))
               clear c61
               have H' := Aside0.mk H
               clear H
               go_wp2
               repeat (go_quiet (fail); try go_wp2)
               go_meet
               case rel => exact ⟨_, H', ⟨by have := HJ10.out; have := HK2.out; first | omega | exact Nat.le_refl _⟩, ⟨by (with_reducible repeat (fail)); exact HO_5.out⟩, ⟨by (with_reducible repeat (fail)); exact Kd.R_mono HO_656001.out (fun _ hk => ⟨hk.1, hk.2.2⟩)⟩, ⟨by (with_reducible repeat (fail)); exact Kd.R_mono HO_662001.out (fun _ hk => ⟨hk.1, hk.2.2⟩)⟩, ⟨by (with_reducible repeat (fail)); exact BK655.out⟩, ⟨by (with_reducible repeat (fail)); exact BK661.out⟩, ⟨by repeat ((with_reducible exact HB.out))⟩⟩
        ·
         replace c55 := Bool.eq_false_iff.mpr c55
         subst c55
         have H1 : (laws_FnGraphsBuilt.j2 kj10 l1 t647 t654 t662 t663 t650 t651) = some r := by rw [if_neg (show ¬ (false = true) by decide)] at H; exact H
         clear H
         have H := H1
         clear H1
         have H' := Aside0.mk H
         clear H
         go_wp2
         repeat (go_quiet (fail); try go_wp2)
         go_meet
         case rel => exact ⟨_, H', ⟨by have := HJ10.out; first | omega | exact Nat.le_refl _⟩, ⟨by (with_reducible repeat (fail)); exact HO_5.out⟩, ⟨by (with_reducible repeat (fail)); exact HO_656001.out⟩, ⟨by (with_reducible repeat (fail)); exact HO_662001.out⟩, ⟨by (with_reducible repeat (fail)); exact BK655.out⟩, ⟨by (with_reducible repeat (fail)); exact BK661.out⟩, ⟨by repeat ((with_reducible exact HB.out))⟩⟩
      case rest =>
       as_aux_lemma =>
        clear HC54
        obtain ⟨kq, HA, HJ53, HO_5, HO_656001, HO_662001, BK655, BK661, HB⟩ := hcut
        cases kq with
        | zero => exact absurd HA.out (by simp [laws_FnGraphsBuilt.j2])
        | succ kj53 =>
         have H := HA.out
         clear HA
         simp only [laws_FnGraphsBuilt.j2] at H
         have HC62 := Aside0.mk H
         clear H
         go_upto_if 119 with (fail)
         repeat (go_quiet (fail); go_upto_if 119 with (fail))
         go_cut [] (fun wc => ∃ (kq : Nat), Aside0 (laws_FnGraphsBuilt.j3 kq l1 t647 t662 t663 = some r) ∧ Aside0 (kq ≤ kj53) ∧ Aside0 (Kd.R (Kd.int .i64) 3 wc w.heap.size (fun k_ => some k_ ≠ ((.slice Ao17 t651.length co17) : Value).ownBlock ∧ some k_ ≠ ((.slice Ao22 t657.length co22) : Value).ownBlock) (.slice Ao13 t647.length co13) t647) ∧ Aside0 (Kd.R (Kd.int .i64) 3 wc w.heap.size (fun k_ => some k_ ≠ ((.slice Ao13 t647.length co13) : Value).ownBlock ∧ some k_ ≠ ((.slice Ao22 t657.length co22) : Value).ownBlock) (.slice Ao17 t651.length co17) t651) ∧ Aside0 (Kd.R (Kd.int .i64) 3 wc w.heap.size (fun k_ => some k_ ≠ ((.slice Ao13 t647.length co13) : Value).ownBlock ∧ some k_ ≠ ((.slice Ao17 t651.length co17) : Value).ownBlock) (.slice Ao22 t657.length co22) t657) ∧ Aside0 (wc.heap[gb655]? = some (.cells #[.int .i64 t650, (.slice Ao17 t651.length co17)] 39 (0, 0))) ∧ Aside0 (wc.heap[gb661]? = some (.cells #[.int .i64 t656, (.slice Ao22 t657.length co22)] 39 (0, 0))) ∧ Aside0 (Below w.heap.size w wc))
         case first =>
          as_aux_lemma =>
           have H := HC62.out
           clear HC62
           by_cases c63 : t654 = true
           ·
            subst c63
            have H1 : ((impl_DegreesOf.f kj53 t650 t651).bind fun bt671 => (if bt671.2 = true then ((laws_ySame.f kj53 bt671.1 t647).bind fun t675 => (if t675 = true then ((impl_IsGraph.f kj53 t650 t651).bind fun t676 => (if t676 = true then (laws_FnGraphsBuilt.j3 kj53 l1 t647 t662 t663) else (some false))) else (some false))) else (some false))) = some r := by rw [if_pos rfl] at H; exact H
            clear H
            have H := H1
            clear H1
            replace H := Option.bind_eq_some_iff.mp H
            obtain ⟨⟨t671, t674⟩, A640, H⟩ := H
            replace H : (if t674 = true then ((laws_ySame.f kj53 t671 t647).bind fun t675 => (if t675 = true then ((impl_IsGraph.f kj53 t650 t651).bind fun t676 => (if t676 = true then (laws_FnGraphsBuilt.j3 kj53 l1 t647 t662 t663) else (some false))) else (some false))) else (some false)) = some r := H
            have A64 := Aside0.mk A640
            clear A640
            by_cases c65 : t674 = true
            ·
             subst c65
             have H1 : ((laws_ySame.f kj53 t671 t647).bind fun t675 => (if t675 = true then ((impl_IsGraph.f kj53 t650 t651).bind fun t676 => (if t676 = true then (laws_FnGraphsBuilt.j3 kj53 l1 t647 t662 t663) else (some false))) else (some false))) = some r := by rw [if_pos rfl] at H; exact H
             clear H
             have H := H1
             clear H1
             replace H := Option.bind_eq_some_iff.mp H
             obtain ⟨t675, A660, H⟩ := H
             replace H : (if t675 = true then ((impl_IsGraph.f kj53 t650 t651).bind fun t676 => (if t676 = true then (laws_FnGraphsBuilt.j3 kj53 l1 t647 t662 t663) else (some false))) else (some false)) = some r := H
             have A66 := Aside0.mk A660
             clear A660
             by_cases c67 : t675 = true
             ·
              subst c67
              have H1 : ((impl_IsGraph.f kj53 t650 t651).bind fun t676 => (if t676 = true then (laws_FnGraphsBuilt.j3 kj53 l1 t647 t662 t663) else (some false))) = some r := by rw [if_pos rfl] at H; exact H
              clear H
              have H := H1
              clear H1
              replace H := Option.bind_eq_some_iff.mp H
              obtain ⟨t676, A680, H⟩ := H
              replace H : (if t676 = true then (laws_FnGraphsBuilt.j3 kj53 l1 t647 t662 t663) else (some false)) = some r := H
              have A68 := Aside0.mk A680
              clear A680
              by_cases c69 : t676 = true
              ·
               subst c69
               have H1 : (laws_FnGraphsBuilt.j3 kj53 l1 t647 t662 t663) = some r := by rw [if_pos rfl] at H; exact H
               clear H
               have H := H1
               clear H1
               have H' := Aside0.mk H
               clear H
               have hnb70 := NB655_661.out
               have hnc70 := NB661_655.out
               have hcz71_0 : wc.cell? ⟨gb655, 0, none⟩ = some (.int .i64 t650) := (blk_cell BK655.out 0).trans rfl
               have hcz71_1 : wc.cell? ⟨gb655, 1, none⟩ = some (.slice Ao17 t651.length co17) := (blk_cell BK655.out 1).trans rfl
               have hfz71_0 := blk_frozen BK655.out 0
               have hfz71_1 := blk_frozen BK655.out 1
               go_wp2_with (first | (go_at_call 27; (with_reducible refine (impl_DegreesOf.calls kj53 t650 _ _ t651 t671 true _ ?sideT ?side1 ?side2 A64.out).mono ?_); (case sideT => exact HT.out.below (by repeat ((with_reducible exact HB.out)))); (case side1 => repeat (exact (Kd.R_reads' HO_656001.out).2.2)); (case side2 => exact (Kd.R_reads' HO_656001.out).2.1); rintro e w72 ⟨v672, rfl, ho0, hb⟩; have n0_ := Aside0.mk (Kd.R_elder' (by (with_reducible repeat (fail)); exact HO_5.out) (Kd.R_base ho0) hb); have n1_ := Aside0.mk (Kd.R_elder' (by (with_reducible repeat (fail)); exact HO_656001.out) (Kd.R_base ho0) hb); have n2_ := Aside0.mk (Kd.R_elder' (by (with_reducible repeat (fail)); exact HO_662001.out) (Kd.R_base ho0) hb); have n3_ := Aside0.mk (Kd.R_lower (Kd.R_new' (Kd.R_new' (Kd.R_new' ho0 (Kd.R_lt (by (with_reducible repeat (fail)); exact HO_5.out))) (Kd.R_lt (by (with_reducible repeat (fail)); exact HO_656001.out))) (Kd.R_lt (by (with_reducible repeat (fail)); exact HO_662001.out))) (below_size (by repeat ((with_reducible exact HB.out))))); have n4_ := Aside0.mk (blk_below (g := gb655) (o := .cells #[.int .i64 t650, .slice Ao17 t651.length co17] 39 (0, 0)) (by (with_reducible repeat (fail)); exact BK655.out) hb); have n5_ := Aside0.mk (blk_below (g := gb661) (o := .cells #[.int .i64 t656, .slice Ao22 t657.length co22] 39 (0, 0)) (by (with_reducible repeat (fail)); exact BK661.out) hb); have n6_ := Aside0.mk (below_step (by repeat ((with_reducible exact HB.out))) hb); clear HO_5; clear HO_656001; clear HO_662001; clear BK655; clear BK661; clear HB; have HO_5 := n0_; have HO_656001 := n1_; have HO_662001 := n2_; have HO673 := n3_; have BK655 := n4_; have BK661 := n5_; have HB := n6_; clear n0_ n1_ n2_ n3_ n4_ n5_ n6_; (try clear hb); (try clear hb2); (try clear hk); (try clear hi); (try clear ho0); obtain ⟨Ao73, co73, eo73⟩ := Kd.R_slice HO673.out; subst eo73) | (go_at_call 13; (with_reducible refine (laws_ySame.calls kj53 _ _ t671 _ _ t647 true _ ?side1 ?side2 ?side3 ?side4 A66.out).mono ?_); (case side1 => repeat (exact (Kd.R_reads' HO673.out).2.2)); (case side2 => exact (Kd.R_reads' HO673.out).2.1); (case side3 => repeat (exact (Kd.R_reads' HO_5.out).2.2)); (case side4 => exact (Kd.R_reads' HO_5.out).2.1); rintro e w' ⟨rfl, ⟨nd, rfl⟩⟩; (skip); have hcz74_0 : w72.cell? ⟨gb655, 0, none⟩ = some (.int .i64 t650) := (blk_cell BK655.out 0).trans rfl; have hcz74_1 : w72.cell? ⟨gb655, 1, none⟩ = some (.slice Ao17 t651.length co17) := (blk_cell BK655.out 1).trans rfl; have hfz74_0 := blk_frozen BK655.out 0; have hfz74_1 := blk_frozen BK655.out 1) | (go_at_call 28; (with_reducible refine (impl_IsGraph.calls kj53 t650 _ _ t651 true _ ?sideT ?side1 ?side2 A68.out).mono ?_); (case sideT => exact HT.out.below (by repeat ((with_reducible first | exact HB.out | apply pw_below_drewN)))); (case side1 => repeat (exact (Kd.R_reads' HO_656001.out).2.2)); (case side2 => exact (Kd.R_reads' HO_656001.out).2.1); rintro e w75 ⟨rfl, hb⟩; have n0_ := Aside0.mk (Kd.R_below (by (with_reducible repeat (apply Kd.R_drewN)); exact HO_5.out) hb); have n1_ := Aside0.mk (Kd.R_below (by (with_reducible repeat (apply Kd.R_drewN)); exact HO_656001.out) hb); have n2_ := Aside0.mk (Kd.R_below (by (with_reducible repeat (apply Kd.R_drewN)); exact HO_662001.out) hb); have n3_ := Aside0.mk (Kd.R_below (by (with_reducible repeat (apply Kd.R_drewN)); exact HO673.out) hb); have n4_ := Aside0.mk (blk_below (g := gb655) (o := .cells #[.int .i64 t650, .slice Ao17 t651.length co17] 39 (0, 0)) (by (with_reducible repeat (refine blk_drewN ?_ _)); exact BK655.out) hb); have n5_ := Aside0.mk (blk_below (g := gb661) (o := .cells #[.int .i64 t656, .slice Ao22 t657.length co22] 39 (0, 0)) (by (with_reducible repeat (refine blk_drewN ?_ _)); exact BK661.out) hb); have n6_ := Aside0.mk (below_step (by repeat ((with_reducible first | exact HB.out | apply pw_below_drewN))) hb); clear HO_5; clear HO_656001; clear HO_662001; clear HO673; clear BK655; clear BK661; clear HB; have HO_5 := n0_; have HO_656001 := n1_; have HO_662001 := n2_; have HO673 := n3_; have BK655 := n4_; have BK661 := n5_; have HB := n6_; clear n0_ n1_ n2_ n3_ n4_ n5_ n6_; (try clear hb); (try clear hb2); (try clear hk); (try clear hi)))
               repeat (go_quiet (fail); try go_wp2_with (fail))
               go_meet
               case rel => exact ⟨_, H', ⟨by have := HJ10.out; have := HJ53.out; first | omega | exact Nat.le_refl _⟩, ⟨by (with_reducible repeat (fail)); exact Kd.R_mono HO_5.out (fun _ hk => ⟨hk.1.1, hk.1.2⟩)⟩, ⟨by (with_reducible repeat (fail)); exact Kd.R_mono HO_656001.out (fun _ hk => ⟨hk.1.1, hk.1.2⟩)⟩, ⟨by (with_reducible repeat (fail)); exact Kd.R_mono HO_662001.out (fun _ hk => ⟨hk.1.1, hk.1.2⟩)⟩, ⟨by (with_reducible repeat (fail)); exact BK655.out⟩, ⟨by (with_reducible repeat (fail)); exact BK661.out⟩, ⟨by repeat ((with_reducible exact HB.out))⟩⟩
              ·
               replace c69 := Bool.eq_false_iff.mpr c69
               subst c69
               have H1 : (some false) = some r := by rw [if_neg (show ¬ (false = true) by decide)] at H; exact H
               clear H
               have H := H1
               clear H1
               obtain rfl := Option.some.inj H
               have hnb76 := NB655_661.out
               have hnc76 := NB661_655.out
               have hcz77_0 : wc.cell? ⟨gb655, 0, none⟩ = some (.int .i64 t650) := (blk_cell BK655.out 0).trans rfl
               have hcz77_1 : wc.cell? ⟨gb655, 1, none⟩ = some (.slice Ao17 t651.length co17) := (blk_cell BK655.out 1).trans rfl
               have hfz77_0 := blk_frozen BK655.out 0
               have hfz77_1 := blk_frozen BK655.out 1
               go_wp2_with (first | (go_at_call 27; (with_reducible refine (impl_DegreesOf.calls kj53 t650 _ _ t651 t671 true _ ?sideT ?side1 ?side2 A64.out).mono ?_); (case sideT => exact HT.out.below (by repeat ((with_reducible exact HB.out)))); (case side1 => repeat (exact (Kd.R_reads' HO_656001.out).2.2)); (case side2 => exact (Kd.R_reads' HO_656001.out).2.1); rintro e w78 ⟨v672, rfl, ho0, hb⟩; have n0_ := Aside0.mk (Kd.R_elder' (by (with_reducible repeat (fail)); exact HO_5.out) (Kd.R_base ho0) hb); have n1_ := Aside0.mk (Kd.R_elder' (by (with_reducible repeat (fail)); exact HO_656001.out) (Kd.R_base ho0) hb); have n2_ := Aside0.mk (Kd.R_elder' (by (with_reducible repeat (fail)); exact HO_662001.out) (Kd.R_base ho0) hb); have n3_ := Aside0.mk (Kd.R_lower (Kd.R_new' (Kd.R_new' (Kd.R_new' ho0 (Kd.R_lt (by (with_reducible repeat (fail)); exact HO_5.out))) (Kd.R_lt (by (with_reducible repeat (fail)); exact HO_656001.out))) (Kd.R_lt (by (with_reducible repeat (fail)); exact HO_662001.out))) (below_size (by repeat ((with_reducible exact HB.out))))); have n4_ := Aside0.mk (blk_below (g := gb655) (o := .cells #[.int .i64 t650, .slice Ao17 t651.length co17] 39 (0, 0)) (by (with_reducible repeat (fail)); exact BK655.out) hb); have n5_ := Aside0.mk (blk_below (g := gb661) (o := .cells #[.int .i64 t656, .slice Ao22 t657.length co22] 39 (0, 0)) (by (with_reducible repeat (fail)); exact BK661.out) hb); have n6_ := Aside0.mk (below_step (by repeat ((with_reducible exact HB.out))) hb); clear HO_5; clear HO_656001; clear HO_662001; clear BK655; clear BK661; clear HB; have HO_5 := n0_; have HO_656001 := n1_; have HO_662001 := n2_; have HO673 := n3_; have BK655 := n4_; have BK661 := n5_; have HB := n6_; clear n0_ n1_ n2_ n3_ n4_ n5_ n6_; (try clear hb); (try clear hb2); (try clear hk); (try clear hi); (try clear ho0); obtain ⟨Ao79, co79, eo79⟩ := Kd.R_slice HO673.out; subst eo79) | (go_at_call 13; (with_reducible refine (laws_ySame.calls kj53 _ _ t671 _ _ t647 true _ ?side1 ?side2 ?side3 ?side4 A66.out).mono ?_); (case side1 => repeat (exact (Kd.R_reads' HO673.out).2.2)); (case side2 => exact (Kd.R_reads' HO673.out).2.1); (case side3 => repeat (exact (Kd.R_reads' HO_5.out).2.2)); (case side4 => exact (Kd.R_reads' HO_5.out).2.1); rintro e w' ⟨rfl, ⟨nd, rfl⟩⟩; (skip); have hcz80_0 : w78.cell? ⟨gb655, 0, none⟩ = some (.int .i64 t650) := (blk_cell BK655.out 0).trans rfl; have hcz80_1 : w78.cell? ⟨gb655, 1, none⟩ = some (.slice Ao17 t651.length co17) := (blk_cell BK655.out 1).trans rfl; have hfz80_0 := blk_frozen BK655.out 0; have hfz80_1 := blk_frozen BK655.out 1) | (go_at_call 28; (with_reducible refine (impl_IsGraph.calls kj53 t650 _ _ t651 false _ ?sideT ?side1 ?side2 A68.out).mono ?_); (case sideT => exact HT.out.below (by repeat ((with_reducible first | exact HB.out | apply pw_below_drewN)))); (case side1 => repeat (exact (Kd.R_reads' HO_656001.out).2.2)); (case side2 => exact (Kd.R_reads' HO_656001.out).2.1); rintro e w81 ⟨rfl, hb⟩; have n0_ := Aside0.mk (Kd.R_below (by (with_reducible repeat (apply Kd.R_drewN)); exact HO_5.out) hb); have n1_ := Aside0.mk (Kd.R_below (by (with_reducible repeat (apply Kd.R_drewN)); exact HO_656001.out) hb); have n2_ := Aside0.mk (Kd.R_below (by (with_reducible repeat (apply Kd.R_drewN)); exact HO_662001.out) hb); have n3_ := Aside0.mk (Kd.R_below (by (with_reducible repeat (apply Kd.R_drewN)); exact HO673.out) hb); have n4_ := Aside0.mk (blk_below (g := gb655) (o := .cells #[.int .i64 t650, .slice Ao17 t651.length co17] 39 (0, 0)) (by (with_reducible repeat (refine blk_drewN ?_ _)); exact BK655.out) hb); have n5_ := Aside0.mk (blk_below (g := gb661) (o := .cells #[.int .i64 t656, .slice Ao22 t657.length co22] 39 (0, 0)) (by (with_reducible repeat (refine blk_drewN ?_ _)); exact BK661.out) hb); have n6_ := Aside0.mk (below_step (by repeat ((with_reducible first | exact HB.out | apply pw_below_drewN))) hb); clear HO_5; clear HO_656001; clear HO_662001; clear HO673; clear BK655; clear BK661; clear HB; have HO_5 := n0_; have HO_656001 := n1_; have HO_662001 := n2_; have HO673 := n3_; have BK655 := n4_; have BK661 := n5_; have HB := n6_; clear n0_ n1_ n2_ n3_ n4_ n5_ n6_; (try clear hb); (try clear hb2); (try clear hk); (try clear hi)))
               repeat (go_quiet (fail); try go_wp2_with (fail))
               go_ret
               exact ⟨by first | rfl | (simp [errW_none, errW_some] <;> rfl) | (simp [*, errW_none, errW_some] <;> rfl), by repeat ((with_reducible exact HB.out))⟩
             ·
              replace c67 := Bool.eq_false_iff.mpr c67
              subst c67
              have H1 : (some false) = some r := by rw [if_neg (show ¬ (false = true) by decide)] at H; exact H
              clear H
              have H := H1
              clear H1
              obtain rfl := Option.some.inj H
              have hnb82 := NB655_661.out
              have hnc82 := NB661_655.out
              have hcz83_0 : wc.cell? ⟨gb655, 0, none⟩ = some (.int .i64 t650) := (blk_cell BK655.out 0).trans rfl
              have hcz83_1 : wc.cell? ⟨gb655, 1, none⟩ = some (.slice Ao17 t651.length co17) := (blk_cell BK655.out 1).trans rfl
              have hfz83_0 := blk_frozen BK655.out 0
              have hfz83_1 := blk_frozen BK655.out 1
              go_wp2_with (first | (go_at_call 27; (with_reducible refine (impl_DegreesOf.calls kj53 t650 _ _ t651 t671 true _ ?sideT ?side1 ?side2 A64.out).mono ?_); (case sideT => exact HT.out.below (by repeat ((with_reducible exact HB.out)))); (case side1 => repeat (exact (Kd.R_reads' HO_656001.out).2.2)); (case side2 => exact (Kd.R_reads' HO_656001.out).2.1); rintro e w84 ⟨v672, rfl, ho0, hb⟩; have n0_ := Aside0.mk (Kd.R_elder' (by (with_reducible repeat (fail)); exact HO_5.out) (Kd.R_base ho0) hb); have n1_ := Aside0.mk (Kd.R_elder' (by (with_reducible repeat (fail)); exact HO_656001.out) (Kd.R_base ho0) hb); have n2_ := Aside0.mk (Kd.R_elder' (by (with_reducible repeat (fail)); exact HO_662001.out) (Kd.R_base ho0) hb); have n3_ := Aside0.mk (Kd.R_lower (Kd.R_new' (Kd.R_new' (Kd.R_new' ho0 (Kd.R_lt (by (with_reducible repeat (fail)); exact HO_5.out))) (Kd.R_lt (by (with_reducible repeat (fail)); exact HO_656001.out))) (Kd.R_lt (by (with_reducible repeat (fail)); exact HO_662001.out))) (below_size (by repeat ((with_reducible exact HB.out))))); have n4_ := Aside0.mk (blk_below (g := gb655) (o := .cells #[.int .i64 t650, .slice Ao17 t651.length co17] 39 (0, 0)) (by (with_reducible repeat (fail)); exact BK655.out) hb); have n5_ := Aside0.mk (blk_below (g := gb661) (o := .cells #[.int .i64 t656, .slice Ao22 t657.length co22] 39 (0, 0)) (by (with_reducible repeat (fail)); exact BK661.out) hb); have n6_ := Aside0.mk (below_step (by repeat ((with_reducible exact HB.out))) hb); clear HO_5; clear HO_656001; clear HO_662001; clear BK655; clear BK661; clear HB; have HO_5 := n0_; have HO_656001 := n1_; have HO_662001 := n2_; have HO673 := n3_; have BK655 := n4_; have BK661 := n5_; have HB := n6_; clear n0_ n1_ n2_ n3_ n4_ n5_ n6_; (try clear hb); (try clear hb2); (try clear hk); (try clear hi); (try clear ho0); obtain ⟨Ao85, co85, eo85⟩ := Kd.R_slice HO673.out; subst eo85) | (go_at_call 13; (with_reducible refine (laws_ySame.calls kj53 _ _ t671 _ _ t647 false _ ?side1 ?side2 ?side3 ?side4 A66.out).mono ?_); (case side1 => repeat (exact (Kd.R_reads' HO673.out).2.2)); (case side2 => exact (Kd.R_reads' HO673.out).2.1); (case side3 => repeat (exact (Kd.R_reads' HO_5.out).2.2)); (case side4 => exact (Kd.R_reads' HO_5.out).2.1); rintro e w' ⟨rfl, ⟨nd, rfl⟩⟩; (skip)))
              repeat (go_quiet (fail); try go_wp2_with (fail))
              go_ret
              exact ⟨by first | rfl | (simp [errW_none, errW_some] <;> rfl) | (simp [*, errW_none, errW_some] <;> rfl), by repeat ((with_reducible first | exact HB.out | apply pw_below_drewN))⟩
            ·
             replace c65 := Bool.eq_false_iff.mpr c65
             subst c65
             have H1 : (some false) = some r := by rw [if_neg (show ¬ (false = true) by decide)] at H; exact H
             clear H
             have H := H1
             clear H1
             obtain rfl := Option.some.inj H
             have hnb86 := NB655_661.out
             have hnc86 := NB661_655.out
             have hcz87_0 : wc.cell? ⟨gb655, 0, none⟩ = some (.int .i64 t650) := (blk_cell BK655.out 0).trans rfl
             have hcz87_1 : wc.cell? ⟨gb655, 1, none⟩ = some (.slice Ao17 t651.length co17) := (blk_cell BK655.out 1).trans rfl
             have hfz87_0 := blk_frozen BK655.out 0
             have hfz87_1 := blk_frozen BK655.out 1
             go_wp2_with ((go_at_call 27; (with_reducible refine (impl_DegreesOf.calls kj53 t650 _ _ t651 t671 false _ ?sideT ?side1 ?side2 A64.out).mono ?_); (case sideT => exact HT.out.below (by repeat ((with_reducible exact HB.out)))); (case side1 => repeat (exact (Kd.R_reads' HO_656001.out).2.2)); (case side2 => exact (Kd.R_reads' HO_656001.out).2.1); rintro e w88 ⟨v672, rfl, ho0, hb⟩; have n0_ := Aside0.mk (Kd.R_elder' (by (with_reducible repeat (fail)); exact HO_5.out) (Kd.R_base ho0) hb); have n1_ := Aside0.mk (Kd.R_elder' (by (with_reducible repeat (fail)); exact HO_656001.out) (Kd.R_base ho0) hb); have n2_ := Aside0.mk (Kd.R_elder' (by (with_reducible repeat (fail)); exact HO_662001.out) (Kd.R_base ho0) hb); have n3_ := Aside0.mk (Kd.R_lower (Kd.R_new' (Kd.R_new' (Kd.R_new' ho0 (Kd.R_lt (by (with_reducible repeat (fail)); exact HO_5.out))) (Kd.R_lt (by (with_reducible repeat (fail)); exact HO_656001.out))) (Kd.R_lt (by (with_reducible repeat (fail)); exact HO_662001.out))) (below_size (by repeat ((with_reducible exact HB.out))))); have n4_ := Aside0.mk (blk_below (g := gb655) (o := .cells #[.int .i64 t650, .slice Ao17 t651.length co17] 39 (0, 0)) (by (with_reducible repeat (fail)); exact BK655.out) hb); have n5_ := Aside0.mk (blk_below (g := gb661) (o := .cells #[.int .i64 t656, .slice Ao22 t657.length co22] 39 (0, 0)) (by (with_reducible repeat (fail)); exact BK661.out) hb); have n6_ := Aside0.mk (below_step (by repeat ((with_reducible exact HB.out))) hb); clear HO_5; clear HO_656001; clear HO_662001; clear BK655; clear BK661; clear HB; have HO_5 := n0_; have HO_656001 := n1_; have HO_662001 := n2_; have HO673 := n3_; have BK655 := n4_; have BK661 := n5_; have HB := n6_; clear n0_ n1_ n2_ n3_ n4_ n5_ n6_; (try clear hb); (try clear hb2); (try clear hk); (try clear hi); (try clear ho0)))
             repeat (go_quiet (fail); try go_wp2_with (fail))
             go_ret
             exact ⟨by first | rfl | (simp [errW_none, errW_some] <;> rfl) | (simp [*, errW_none, errW_some] <;> rfl), by repeat ((with_reducible exact HB.out))⟩
           ·
            replace c63 := Bool.eq_false_iff.mpr c63
            subst c63
            have H1 : (laws_FnGraphsBuilt.j3 kj53 l1 t647 t662 t663) = some r := by rw [if_neg (show ¬ (false = true) by decide)] at H; exact H
            clear H
            have H := H1
            clear H1
            have H' := Aside0.mk H
            clear H
            go_wp2
            repeat (go_quiet (fail); try go_wp2)
            go_meet
            case rel => exact ⟨_, H', ⟨by have := HJ10.out; have := HJ53.out; first | omega | exact Nat.le_refl _⟩, ⟨by (with_reducible repeat (fail)); exact HO_5.out⟩, ⟨by (with_reducible repeat (fail)); exact HO_656001.out⟩, ⟨by (with_reducible repeat (fail)); exact HO_662001.out⟩, ⟨by (with_reducible repeat (fail)); exact BK655.out⟩, ⟨by (with_reducible repeat (fail)); exact BK661.out⟩, ⟨by repeat ((with_reducible exact HB.out))⟩⟩
         case rest =>
          as_aux_lemma =>
           clear HC62
           obtain ⟨kq, HA, HJ61, HO_5, HO_656001, HO_662001, BK655, BK661, HB⟩ := hcut
           cases kq with
           | zero => exact absurd HA.out (by simp [laws_FnGraphsBuilt.j3])
           | succ kj61 =>
            have H := HA.out
            clear HA
            simp only [laws_FnGraphsBuilt.j3] at H
            have HC89 := Aside0.mk H
            clear H
            go_upto_if 138 with (fail)
            repeat (go_quiet (fail); go_upto_if 138 with (fail))
            go_cut [] (fun wc => ∃ (kq : Nat), Aside0 (laws_FnGraphsBuilt.j5 kq l1 = some r) ∧ Aside0 (kq ≤ kj61) ∧ Aside0 (Kd.R (Kd.int .i64) 3 wc w.heap.size (fun k_ => some k_ ≠ ((.slice Ao22 t657.length co22) : Value).ownBlock) (.slice Ao17 t651.length co17) t651) ∧ Aside0 (Kd.R (Kd.int .i64) 3 wc w.heap.size (fun k_ => some k_ ≠ ((.slice Ao17 t651.length co17) : Value).ownBlock) (.slice Ao22 t657.length co22) t657) ∧ Aside0 (wc.heap[gb655]? = some (.cells #[.int .i64 t650, (.slice Ao17 t651.length co17)] 39 (0, 0))) ∧ Aside0 (wc.heap[gb661]? = some (.cells #[.int .i64 t656, (.slice Ao22 t657.length co22)] 39 (0, 0))) ∧ Aside0 (Below w.heap.size w wc))
            case first =>
             as_aux_lemma =>
              have H := HC89.out
              clear HC89
              by_cases c90 : t663 = true
              ·
               subst c90
               have H1 : ((impl_RankingOf.f kj61 t647).bind fun bt677 => (laws_FnGraphsBuilt.l1 kj61 l1 t662 bt677.2 0 (wrap64 (t662 * (wrap64 (t662 - 1)))) bt677.1 (bt677.1.length : Int) 0)) = some r := by rw [if_pos rfl] at H; exact H
               clear H
               have H := H1
               clear H1
               replace H := Option.bind_eq_some_iff.mp H
               obtain ⟨⟨t677, t678⟩, A910, H⟩ := H
               replace H : (laws_FnGraphsBuilt.l1 kj61 l1 t662 t678 0 (wrap64 (t662 * (wrap64 (t662 - 1)))) t677 (t677.length : Int) 0) = some r := H
               have A91 := Aside0.mk A910
               clear A910
               have H' := Aside0.mk H
               clear H
               go_wp2_with ((go_at_call 29; (with_reducible refine (impl_RankingOf.calls kj61 _ _ t647 t677 t678 _ ?side1 ?side2 A91.out).mono ?_); (case side1 => repeat (exact (Kd.R_reads' HO_5.out).2.2)); (case side2 => exact (Kd.R_reads' HO_5.out).2.1); rintro e w92 ⟨v679, rfl, ho0, hb⟩; have n0_ := Aside0.mk (Kd.R_elder' (by (with_reducible repeat (fail)); exact HO_5.out) (Kd.R_base ho0) hb); have n1_ := Aside0.mk (Kd.R_elder' (by (with_reducible repeat (fail)); exact HO_656001.out) (Kd.R_base ho0) hb); have n2_ := Aside0.mk (Kd.R_elder' (by (with_reducible repeat (fail)); exact HO_662001.out) (Kd.R_base ho0) hb); have n3_ := Aside0.mk (Kd.R_lower (Kd.R_new' (Kd.R_new' (Kd.R_new' ho0 (Kd.R_lt (by (with_reducible repeat (fail)); exact HO_5.out))) (Kd.R_lt (by (with_reducible repeat (fail)); exact HO_656001.out))) (Kd.R_lt (by (with_reducible repeat (fail)); exact HO_662001.out))) (below_size (by repeat ((with_reducible exact HB.out))))); have n4_ := Aside0.mk (blk_below (g := gb655) (o := .cells #[.int .i64 t650, .slice Ao17 t651.length co17] 39 (0, 0)) (by (with_reducible repeat (fail)); exact BK655.out) hb); have n5_ := Aside0.mk (blk_below (g := gb661) (o := .cells #[.int .i64 t656, .slice Ao22 t657.length co22] 39 (0, 0)) (by (with_reducible repeat (fail)); exact BK661.out) hb); have n6_ := Aside0.mk (below_step (by repeat ((with_reducible exact HB.out))) hb); clear HO_5; clear HO_656001; clear HO_662001; clear BK655; clear BK661; clear HB; have HO_5 := n0_; have HO_656001 := n1_; have HO_662001 := n2_; have HO680 := n3_; have BK655 := n4_; have BK661 := n5_; have HB := n6_; clear n0_ n1_ n2_ n3_ n4_ n5_ n6_; (try clear hb); (try clear hb2); (try clear hk); (try clear hi); (try clear ho0); obtain ⟨Ao93, co93, eo93⟩ := Kd.R_slice HO680.out; subst eo93))
               repeat (go_quiet (fail); try go_wp2_with (fail))
               go_loopg [23, 24, 150] kj61 (fun kq v23 v24 v150 w' => ∃ (x23_4 : Int) (x24_4 : Int) (x150_4 : Int), v23 = .int .i64 x23_4 ∧ v24 = .int .i64 x24_4 ∧ v150 = .int .i64 x150_4 ∧ Aside0 (laws_FnGraphsBuilt.l1 kq l1 t662 t678 x23_4 x24_4 t677 (t677.length : Int) x150_4 = some r) ∧ Aside0 (kq ≤ kj61) ∧ Aside0 (Kd.R (Kd.int .i64) 3 w' w.heap.size (fun k_ => some k_ ≠ ((.slice Ao17 t651.length co17) : Value).ownBlock ∧ some k_ ≠ ((.slice Ao22 t657.length co22) : Value).ownBlock) (.slice Ao93 t677.length co93) t677) ∧ Aside0 (Kd.R (Kd.int .i64) 3 w' w.heap.size (fun k_ => some k_ ≠ ((.slice Ao93 t677.length co93) : Value).ownBlock ∧ some k_ ≠ ((.slice Ao22 t657.length co22) : Value).ownBlock) (.slice Ao17 t651.length co17) t651) ∧ Aside0 (Kd.R (Kd.int .i64) 3 w' w.heap.size (fun k_ => some k_ ≠ ((.slice Ao93 t677.length co93) : Value).ownBlock ∧ some k_ ≠ ((.slice Ao17 t651.length co17) : Value).ownBlock) (.slice Ao22 t657.length co22) t657) ∧ Aside0 (w'.heap[gb655]? = some (.cells #[.int .i64 t650, (.slice Ao17 t651.length co17)] 39 (0, 0))) ∧ Aside0 (w'.heap[gb661]? = some (.cells #[.int .i64 t656, (.slice Ao22 t657.length co22)] 39 (0, 0))) ∧ Aside0 (Below w.heap.size w w'))
               case atStart => exact ⟨(0), (wrap64 (t662 * (wrap64 (t662 - 1)))), (0), (by first | rfl | (simp; done) | (simp [*]; done)), (by first | rfl | (simp; done) | (simp [*]; done)), (by first | rfl | (simp; done) | (simp [*]; done)), H', ⟨Nat.le_refl _⟩, ⟨by (with_reducible repeat (fail)); exact Kd.R_mono HO680.out (fun _ hk => ⟨hk.1.2, hk.2⟩)⟩, ⟨by (with_reducible repeat (fail)); exact Kd.R_mono HO_656001.out (fun _ hk => ⟨hk.2, hk.1.2⟩)⟩, ⟨by (with_reducible repeat (fail)); exact Kd.R_mono HO_662001.out (fun _ hk => ⟨hk.2, hk.1.2⟩)⟩, ⟨by (with_reducible repeat (fail)); exact BK655.out⟩, ⟨by (with_reducible repeat (fail)); exact BK661.out⟩, ⟨by repeat ((with_reducible exact HB.out))⟩⟩
               case round =>
                as_aux_lemma =>
                 clear H'
                 obtain ⟨x23_4, x24_4, x150_4, rfl, rfl, rfl, HA, HK4, HO_148, HO_656001, HO_662001, BK655, BK661, HB⟩ := hrel
                 cases gk with
                 | zero => exact absurd HA.out (by simp [laws_FnGraphsBuilt.l1])
                 | succ k4 =>
                  have H := HA.out
                  clear HA
                  simp only [laws_FnGraphsBuilt.l1] at H
                  by_cases c94 : x150_4 < (t677.length : Int)
                  ·
                   rw [if_pos c94] at H
                   have c94b0 : decide (x150_4 < (t677.length : Int)) = true := decide_eq_true c94
                   clear c94
                   (skip)
                   by_cases c95 : 0 ≤ x150_4
                   ·
                    rw [if_pos c95] at H
                    have c95b0 : decide (0 ≤ x150_4) = true := decide_eq_true c95
                    clear c95
                    by_cases c96 : x150_4 < (t677.length : Int)
                    ·
                     rw [if_pos c96] at H
                     have c96b0 : decide (x150_4 < (t677.length : Int)) = true := decide_eq_true c96
                     clear c96
                     by_cases c97 : x150_4 < t662
                     ·
                      rw [if_pos c97] at H
                      have c97b0 : decide (x150_4 < t662) = true := decide_eq_true c97
                      clear c97
                      have H' := Aside0.mk H
                      clear H
                      have p681 : 0 ≤ (x150_4 : Int) := of_decide_eq_true (by first | (with_reducible assumption) | assumption)
                      have q681 : x150_4 < (t677.length : Int) := of_decide_eq_true (by first | (with_reducible assumption) | assumption)
                      obtain ⟨ad681, e681, hx681_0⟩ := Kd.at_int (Kd.R_reads' HO_148.out).2.2 x150_4 p681 q681
                      cases e681
                      replace p681 := eq_true p681
                      replace q681 := eq_true q681
                      go_wp2
                      repeat (go_quiet (fail); try go_wp2)
                      go_roundg k4
                      case measure => have := HJ10.out; have := HJ53.out; have := HJ61.out; have := HK4.out; omega
                      case rel => exact ⟨(wrap64 (x23_4 + (rd t677 x150_4))), (x24_4), (wrap64 (x150_4 + 1)), (by first | rfl | (simp; done) | (simp [*]; done)), (by first | rfl | (simp; done) | (simp [*]; done)), (by first | rfl | (simp; done) | (simp [*]; done)), H', ⟨by have := HJ10.out; have := HJ53.out; have := HJ61.out; have := HK4.out; omega⟩, ⟨by (with_reducible repeat (fail)); exact HO_148.out⟩, ⟨by (with_reducible repeat (fail)); exact HO_656001.out⟩, ⟨by (with_reducible repeat (fail)); exact HO_662001.out⟩, ⟨by (with_reducible repeat (fail)); exact BK655.out⟩, ⟨by (with_reducible repeat (fail)); exact BK661.out⟩, ⟨by repeat ((with_reducible exact HB.out))⟩⟩
                     ·
                      rw [if_neg c97] at H
                      have c97b0 : decide (x150_4 < t662) = false := decide_eq_false c97
                      clear c97
                      by_cases c98 : (rd t677 x150_4) < t662
                      ·
                       rw [if_pos c98] at H
                       have c98b0 : decide ((rd t677 x150_4) < t662) = true := decide_eq_true c98
                       clear c98
                       have H' := Aside0.mk H
                       clear H
                       have p681 : 0 ≤ (x150_4 : Int) := of_decide_eq_true (by first | (with_reducible assumption) | assumption)
                       have q681 : x150_4 < (t677.length : Int) := of_decide_eq_true (by first | (with_reducible assumption) | assumption)
                       obtain ⟨ad681, e681, hx681_0⟩ := Kd.at_int (Kd.R_reads' HO_148.out).2.2 x150_4 p681 q681
                       cases e681
                       replace p681 := eq_true p681
                       replace q681 := eq_true q681
                       go_wp2
                       repeat (go_quiet (fail); try go_wp2)
                       go_roundg k4
                       case measure => have := HJ10.out; have := HJ53.out; have := HJ61.out; have := HK4.out; omega
                       case rel => exact ⟨(x23_4), (wrap64 (x24_4 + (rd t677 x150_4))), (wrap64 (x150_4 + 1)), (by first | rfl | (simp; done) | (simp [*]; done)), (by first | rfl | (simp; done) | (simp [*]; done)), (by first | rfl | (simp; done) | (simp [*]; done)), H', ⟨by have := HJ10.out; have := HJ53.out; have := HJ61.out; have := HK4.out; omega⟩, ⟨by (with_reducible repeat (fail)); exact HO_148.out⟩, ⟨by (with_reducible repeat (fail)); exact HO_656001.out⟩, ⟨by (with_reducible repeat (fail)); exact HO_662001.out⟩, ⟨by (with_reducible repeat (fail)); exact BK655.out⟩, ⟨by (with_reducible repeat (fail)); exact BK661.out⟩, ⟨by repeat ((with_reducible exact HB.out))⟩⟩
                      ·
                       rw [if_neg c98] at H
                       have c98b0 : decide ((rd t677 x150_4) < t662) = false := decide_eq_false c98
                       clear c98
                       have H' := Aside0.mk H
                       clear H
                       have p681 : 0 ≤ (x150_4 : Int) := of_decide_eq_true (by first | (with_reducible assumption) | assumption)
                       have q681 : x150_4 < (t677.length : Int) := of_decide_eq_true (by first | (with_reducible assumption) | assumption)
                       obtain ⟨ad681, e681, hx681_0⟩ := Kd.at_int (Kd.R_reads' HO_148.out).2.2 x150_4 p681 q681
                       cases e681
                       replace p681 := eq_true p681
                       replace q681 := eq_true q681
                       go_wp2
                       repeat (go_quiet (fail); try go_wp2)
                       go_roundg k4
                       case measure => have := HJ10.out; have := HJ53.out; have := HJ61.out; have := HK4.out; omega
                       case rel => exact ⟨(x23_4), (wrap64 (x24_4 + t662)), (wrap64 (x150_4 + 1)), (by first | rfl | (simp; done) | (simp [*]; done)), (by first | rfl | (simp; done) | (simp [*]; done)), (by first | rfl | (simp; done) | (simp [*]; done)), H', ⟨by have := HJ10.out; have := HJ53.out; have := HJ61.out; have := HK4.out; omega⟩, ⟨by (with_reducible repeat (fail)); exact HO_148.out⟩, ⟨by (with_reducible repeat (fail)); exact HO_656001.out⟩, ⟨by (with_reducible repeat (fail)); exact HO_662001.out⟩, ⟨by (with_reducible repeat (fail)); exact BK655.out⟩, ⟨by (with_reducible repeat (fail)); exact BK661.out⟩, ⟨by repeat ((with_reducible exact HB.out))⟩⟩
                    ·
                     rw [if_neg c96] at H
                     exact absurd H (by simp)
                   ·
                    rw [if_neg c95] at H
                    exact absurd H (by simp)
                  ·
                   rw [if_neg c94] at H
                   have c94b0 : decide (x150_4 < (t677.length : Int)) = false := decide_eq_false c94
                   clear c94
                   (skip)
                   by_cases c99 : t678 = true
                   ·
                    subst c99
                    have H1 : (if x23_4 ≤ x24_4 then (some false) else (laws_FnGraphsBuilt.j5 k4 l1)) = some r := by rw [if_pos rfl] at H; exact H
                    clear H
                    have H := H1
                    clear H1
                    by_cases c100 : x23_4 ≤ x24_4
                    ·
                     rw [if_pos c100] at H
                     have c100b0 : decide (x23_4 ≤ x24_4) = true := decide_eq_true c100
                     clear c100
                     obtain rfl := Option.some.inj H
                     go_wp2
                     repeat (go_quiet (fail); try go_wp2)
                     go_ret
                     exact ⟨by first | rfl | (simp [errW_none, errW_some] <;> rfl) | (simp [*, errW_none, errW_some] <;> rfl), by repeat ((with_reducible exact HB.out))⟩
                    ·
                     rw [if_neg c100] at H
                     have c100b0 : decide (x23_4 ≤ x24_4) = false := decide_eq_false c100
                     clear c100
                     have H' := Aside0.mk H
                     clear H
                     go_wp2
                     repeat (go_quiet (fail); try go_wp2)
                     go_meet
                     case rel => exact ⟨_, H', ⟨by have := HJ10.out; have := HJ53.out; have := HJ61.out; have := HK4.out; first | omega | exact Nat.le_refl _⟩, ⟨by (with_reducible repeat (fail)); exact Kd.R_mono HO_656001.out (fun _ hk => hk.2)⟩, ⟨by (with_reducible repeat (fail)); exact Kd.R_mono HO_662001.out (fun _ hk => hk.2)⟩, ⟨by (with_reducible repeat (fail)); exact BK655.out⟩, ⟨by (with_reducible repeat (fail)); exact BK661.out⟩, ⟨by repeat ((with_reducible exact HB.out))⟩⟩
                   ·
                    replace c99 := Bool.eq_false_iff.mpr c99
                    subst c99
                    have H1 : (some false) = some r := by rw [if_neg (show ¬ (false = true) by decide)] at H; exact H
                    clear H
                    have H := H1
                    clear H1
                    obtain rfl := Option.some.inj H
                    go_wp2
                    repeat (go_quiet (fail); try go_wp2)
                    go_ret
                    exact ⟨by first | rfl | (simp [errW_none, errW_some] <;> rfl) | (simp [*, errW_none, errW_some] <;> rfl), by repeat ((with_reducible exact HB.out))⟩
              ·
               replace c90 := Bool.eq_false_iff.mpr c90
               subst c90
               have H1 : (laws_FnGraphsBuilt.j5 kj61 l1) = some r := by rw [if_neg (show ¬ (false = true) by decide)] at H; exact H
               clear H
               have H := H1
               clear H1
               have H' := Aside0.mk H
               clear H
               go_wp2
               repeat (go_quiet (fail); try go_wp2)
               go_meet
               case rel => exact ⟨_, H', ⟨by have := HJ10.out; have := HJ53.out; have := HJ61.out; first | omega | exact Nat.le_refl _⟩, ⟨by (with_reducible repeat (fail)); exact Kd.R_mono HO_656001.out (fun _ hk => hk.2)⟩, ⟨by (with_reducible repeat (fail)); exact Kd.R_mono HO_662001.out (fun _ hk => hk.2)⟩, ⟨by (with_reducible repeat (fail)); exact BK655.out⟩, ⟨by (with_reducible repeat (fail)); exact BK661.out⟩, ⟨by repeat ((with_reducible exact HB.out))⟩⟩
            case rest =>
             as_aux_lemma =>
              clear HC89
              obtain ⟨kq, HA, HJ88, HO_656001, HO_662001, BK655, BK661, HB⟩ := hcut
              cases kq with
              | zero => exact absurd HA.out (by simp [laws_FnGraphsBuilt.j5])
              | succ kj88 =>
               have H := HA.out
               clear HA
               simp only [laws_FnGraphsBuilt.j5] at H
               replace H := Option.bind_eq_some_iff.mp H
               obtain ⟨⟨t682, t683⟩, A1010, H⟩ := H
               replace H : ((impl_OppositeGraph.f kj88 t682 t683).bind fun bt687 => ((spec_OppositeGraph.f kj88 t682 t683).bind fun bt693 => (if (bt687.2.2 != bt693.2.2) = true then (laws_FnGraphsBuilt.j6 kj88 bt687.2.2 true t682 t683 bt687.1 bt687.2.1) else ((laws_yGraph.f kj88 bt687.1 bt687.2.1 bt693.1 bt693.2.1).bind fun t699 => (laws_FnGraphsBuilt.j6 kj88 bt687.2.2 (!t699) t682 t683 bt687.1 bt687.2.1))))) = some r := H
               have A101 := Aside0.mk A1010
               clear A1010
               replace H := Option.bind_eq_some_iff.mp H
               obtain ⟨⟨t687, t688, t691⟩, A1020, H⟩ := H
               replace H : ((spec_OppositeGraph.f kj88 t682 t683).bind fun bt693 => (if (t691 != bt693.2.2) = true then (laws_FnGraphsBuilt.j6 kj88 t691 true t682 t683 t687 t688) else ((laws_yGraph.f kj88 t687 t688 bt693.1 bt693.2.1).bind fun t699 => (laws_FnGraphsBuilt.j6 kj88 t691 (!t699) t682 t683 t687 t688)))) = some r := H
               have A102 := Aside0.mk A1020
               clear A1020
               replace H := Option.bind_eq_some_iff.mp H
               obtain ⟨⟨t693, t694, t697⟩, A1030, H⟩ := H
               replace H : (if (t691 != t697) = true then (laws_FnGraphsBuilt.j6 kj88 t691 true t682 t683 t687 t688) else ((laws_yGraph.f kj88 t687 t688 t693 t694).bind fun t699 => (laws_FnGraphsBuilt.j6 kj88 t691 (!t699) t682 t683 t687 t688))) = some r := H
               have A103 := Aside0.mk A1030
               clear A1030
               have HC104 := Aside0.mk H
               clear H
               go_upto_region 41 with (first | (go_at_call 30; (with_reducible refine (spec_DrawOppositeGraph.calls kj88 _ _ l1 t682 t683 _ ?side1 ?side2 A101.out).mono ?_); (case side1 => repeat (exact (Kd.C_below HR1.out HB.out))); (case side2 => exact HC1.out); rintro e w105 ⟨v684, rfl, ho0, hb⟩; have n0_ := Aside0.mk (Kd.R_elder' (by (with_reducible repeat (fail)); exact HO_656001.out) (Kd.R_base ho0) hb); have n1_ := Aside0.mk (Kd.R_elder' (by (with_reducible repeat (fail)); exact HO_662001.out) (Kd.R_base ho0) hb); have n2_ := Aside0.mk (Kd.R_lower (Kd.R_new' (Kd.R_new' ho0 (Kd.R_lt (by (with_reducible repeat (fail)); exact HO_656001.out))) (Kd.R_lt (by (with_reducible repeat (fail)); exact HO_662001.out))) (below_size (by repeat ((with_reducible exact HB.out))))); have n3_ := Aside0.mk (blk_below (g := gb655) (o := .cells #[.int .i64 t650, .slice Ao17 t651.length co17] 39 (0, 0)) (by (with_reducible repeat (fail)); exact BK655.out) hb); have n4_ := Aside0.mk (blk_below (g := gb661) (o := .cells #[.int .i64 t656, .slice Ao22 t657.length co22] 39 (0, 0)) (by (with_reducible repeat (fail)); exact BK661.out) hb); have n5_ := Aside0.mk (below_step (by repeat ((with_reducible exact HB.out))) hb); clear HO_656001; clear HO_662001; clear BK655; clear BK661; clear HB; have HO_656001 := n0_; have HO_662001 := n1_; have HO685 := n2_; have BK655 := n3_; have BK661 := n4_; have HB := n5_; clear n0_ n1_ n2_ n3_ n4_ n5_; (try clear hb); (try clear hb2); (try clear hk); (try clear hi); (try clear ho0)) | ((with_reducible refine gate_dst (N := 27) rfl ?_); refine box_event ?hg (N := 27) ?hd (cs := #[.int .i64 0, .slice none 0 0]) (t := 39) ?hr ?_; (case hd => rfl); (case hg => rfl); (case hr => first | (go_simp; done) | (go_simp; rfl)); intro gb686 hg w106 hbox hb; have n0_ := Aside0.mk (Kd.R_below (by (with_reducible repeat (fail)); exact HO_656001.out) hb); have n1_ := Aside0.mk (Kd.R_below (by (with_reducible repeat (fail)); exact HO_662001.out) hb); have n2_ := Aside0.mk (Kd.R_below (by (with_reducible repeat (fail)); exact HO685.out) hb); have n3_ := Aside0.mk (blk_below (g := gb655) (o := .cells #[.int .i64 t650, .slice Ao17 t651.length co17] 39 (0, 0)) (by (with_reducible repeat (fail)); exact BK655.out) hb); have n4_ := Aside0.mk (blk_below (g := gb661) (o := .cells #[.int .i64 t656, .slice Ao22 t657.length co22] 39 (0, 0)) (by (with_reducible repeat (fail)); exact BK661.out) hb); have n5_ := Aside0.mk (below_step (by repeat ((with_reducible exact HB.out))) hb); have n6_ := Aside0.mk (hbox); have n7_ := Aside0.mk ((by rw [hg]; exact (below_size (by repeat ((with_reducible exact HB.out)))) : w.heap.size ≤ gb686)); have n8_ := Aside0.mk ((by rw [hg]; exact (below_size (by repeat ((with_reducible exact HB.out)))) : w.heap.size ≤ gb686)); have n9_ := Aside0.mk ((by rw [hg]; exact Nat.ne_of_lt (blk_lt (g := gb655) (o := .cells #[.int .i64 t650, .slice Ao17 t651.length co17] 39 (0, 0)) (by (with_reducible repeat (fail)); exact BK655.out)) : gb655 ≠ gb686)); have n10_ := Aside0.mk ((by rw [hg]; exact Nat.ne_of_gt (blk_lt (g := gb655) (o := .cells #[.int .i64 t650, .slice Ao17 t651.length co17] 39 (0, 0)) (by (with_reducible repeat (fail)); exact BK655.out)) : gb686 ≠ gb655)); have n11_ := Aside0.mk ((by rw [hg]; exact Nat.ne_of_lt (blk_lt (g := gb661) (o := .cells #[.int .i64 t656, .slice Ao22 t657.length co22] 39 (0, 0)) (by (with_reducible repeat (fail)); exact BK661.out)) : gb661 ≠ gb686)); have n12_ := Aside0.mk ((by rw [hg]; exact Nat.ne_of_gt (blk_lt (g := gb661) (o := .cells #[.int .i64 t656, .slice Ao22 t657.length co22] 39 (0, 0)) (by (with_reducible repeat (fail)); exact BK661.out)) : gb686 ≠ gb661)); clear HO_656001; clear HO_662001; clear HO685; clear BK655; clear BK661; clear HB; have HO_656001 := n0_; have HO_662001 := n1_; have HO685 := n2_; have BK655 := n3_; have BK661 := n4_; have HB := n5_; have BK686 := n6_; have GW686 := n7_; have GE686 := n8_; have NB655_686 := n9_; have NB686_655 := n10_; have NB661_686 := n11_; have NB686_661 := n12_; clear n0_ n1_ n2_ n3_ n4_ n5_ n6_ n7_ n8_ n9_ n10_ n11_ n12_; clear hb hbox hg; have hnb107 := NB686_655.out; have hnc107 := NB655_686.out; have hnb108 := NB686_661.out; have hnc108 := NB661_686.out; have hcz109_0 : w106.cell? ⟨gb686, 0, none⟩ = some (.int .i64 0) := (blk_cell BK686.out 0).trans rfl; have hcz109_1 : w106.cell? ⟨gb686, 1, none⟩ = some (.slice none 0 0) := (blk_cell BK686.out 1).trans rfl; have hfz109_0 := blk_frozen BK686.out 0; have hfz109_1 := blk_frozen BK686.out 1; obtain ⟨Ao110, co110, eo110⟩ := Kd.R_slice HO685.out; subst eo110) | (go_at_call 31; (with_reducible refine (impl_OppositeGraph.calls kj88 t682 _ _ t683 t687 t688 t691 _ ?sideT ?side1 ?side2 A102.out).mono ?_); (case sideT => exact HT.out.below (by repeat ((with_reducible first | exact HB.out | refine below_set ?_ GE686.out)))); (case side1 => refine (Kd.R_reads' (e := 3) (base := w.heap.size) (ok := fun k_ => ((True ∧ some k_ ≠ (.slice Ao17 t651.length co17 : Value).ownBlock) ∧ some k_ ≠ (.slice Ao22 t657.length co22 : Value).ownBlock)) (n := t683.length) (c := co110) ?_).2.2; exact (by (with_reducible repeat (fail)); exact (Kd.R_mono (Kd.R_far (p := ⟨gb686, 1, none⟩) (Kd.R_far (p := ⟨gb686, 0, none⟩) (Kd.R_types HO685.out BK686.out (by decide)) (fun _ hk => hk.2) (.int .i64 t682)) (fun _ hk => hk.2) (.slice Ao110 t683.length co110)) (fun _ h_ => h_.1)))); (case side2 => exact (Kd.R_reads' HO685.out).2.1); rintro e w111 ⟨v689, rfl, ho0, hb⟩; have n0_ := Aside0.mk (Kd.R_elder' (by (with_reducible repeat (fail)); exact (Kd.R_mono (Kd.R_far (p := ⟨gb686, 1, none⟩) (Kd.R_far (p := ⟨gb686, 0, none⟩) (Kd.R_types HO_656001.out BK686.out (by decide)) (fun _ hk => hk.2) (.int .i64 t682)) (fun _ hk => hk.2) (.slice Ao110 t683.length co110)) (fun _ h_ => h_.1))) (Kd.R_base ho0) hb); have n1_ := Aside0.mk (Kd.R_elder' (by (with_reducible repeat (fail)); exact (Kd.R_mono (Kd.R_far (p := ⟨gb686, 1, none⟩) (Kd.R_far (p := ⟨gb686, 0, none⟩) (Kd.R_types HO_662001.out BK686.out (by decide)) (fun _ hk => hk.2) (.int .i64 t682)) (fun _ hk => hk.2) (.slice Ao110 t683.length co110)) (fun _ h_ => h_.1))) (Kd.R_base ho0) hb); have n2_ := Aside0.mk (Kd.R_elder' (by (with_reducible repeat (fail)); exact (Kd.R_mono (Kd.R_far (p := ⟨gb686, 1, none⟩) (Kd.R_far (p := ⟨gb686, 0, none⟩) (Kd.R_types HO685.out BK686.out (by decide)) (fun _ hk => hk.2) (.int .i64 t682)) (fun _ hk => hk.2) (.slice Ao110 t683.length co110)) (fun _ h_ => h_.1))) (Kd.R_base ho0) hb); have n3_ := Aside0.mk (Kd.R_lower (Kd.R_new' (Kd.R_new' (Kd.R_new' ho0 (Kd.R_lt (by (with_reducible repeat (fail)); exact (Kd.R_mono (Kd.R_far (p := ⟨gb686, 1, none⟩) (Kd.R_far (p := ⟨gb686, 0, none⟩) (Kd.R_types HO_656001.out BK686.out (by decide)) (fun _ hk => hk.2) (.int .i64 t682)) (fun _ hk => hk.2) (.slice Ao110 t683.length co110)) (fun _ h_ => h_.1))))) (Kd.R_lt (by (with_reducible repeat (fail)); exact (Kd.R_mono (Kd.R_far (p := ⟨gb686, 1, none⟩) (Kd.R_far (p := ⟨gb686, 0, none⟩) (Kd.R_types HO_662001.out BK686.out (by decide)) (fun _ hk => hk.2) (.int .i64 t682)) (fun _ hk => hk.2) (.slice Ao110 t683.length co110)) (fun _ h_ => h_.1))))) (Kd.R_lt (by (with_reducible repeat (fail)); exact (Kd.R_mono (Kd.R_far (p := ⟨gb686, 1, none⟩) (Kd.R_far (p := ⟨gb686, 0, none⟩) (Kd.R_types HO685.out BK686.out (by decide)) (fun _ hk => hk.2) (.int .i64 t682)) (fun _ hk => hk.2) (.slice Ao110 t683.length co110)) (fun _ h_ => h_.1))))) (below_size (by repeat ((with_reducible first | exact HB.out | refine below_set ?_ GE686.out))))); have n4_ := Aside0.mk (blk_below (g := gb655) (o := .cells #[.int .i64 t650, .slice Ao17 t651.length co17] 39 (0, 0)) (by (with_reducible repeat (fail)); refine blk_far ?_ NB655_686.out _; (with_reducible repeat (fail)); refine blk_far ?_ NB655_686.out _; (with_reducible repeat (fail)); exact BK655.out) hb); have n5_ := Aside0.mk (blk_below (g := gb661) (o := .cells #[.int .i64 t656, .slice Ao22 t657.length co22] 39 (0, 0)) (by (with_reducible repeat (fail)); refine blk_far ?_ NB661_686.out _; (with_reducible repeat (fail)); refine blk_far ?_ NB661_686.out _; (with_reducible repeat (fail)); exact BK661.out) hb); have n6_ := Aside0.mk (blk_below (g := gb686) (o := .cells #[.int .i64 t682, .slice Ao110 t683.length co110] 39 (0, 0)) (by (with_reducible repeat (fail)); refine blk_put (cs := #[.int .i64 t682, .slice none 0 0]) ?_ 1 _ rfl; (with_reducible repeat (fail)); refine blk_put (cs := #[.int .i64 0, .slice none 0 0]) ?_ 0 _ rfl; (with_reducible repeat (fail)); exact BK686.out) hb); have n7_ := Aside0.mk (below_step (by repeat ((with_reducible first | exact HB.out | refine below_set ?_ GE686.out))) hb); clear HO_656001; clear HO_662001; clear HO685; clear BK655; clear BK661; clear BK686; clear HB; have HO_656001 := n0_; have HO_662001 := n1_; have HO685 := n2_; have HO690 := n3_; have BK655 := n4_; have BK661 := n5_; have BK686 := n6_; have HB := n7_; clear n0_ n1_ n2_ n3_ n4_ n5_ n6_ n7_; (try clear hb); (try clear hb2); (try clear hk); (try clear hi); (try clear ho0)) | ((with_reducible refine gate_dst (N := 28) rfl ?_); refine box_event ?hg (N := 28) ?hd (cs := #[.int .i64 0, .slice none 0 0]) (t := 39) ?hr ?_; (case hd => rfl); (case hg => rfl); (case hr => first | (go_simp; done) | (go_simp; rfl)); intro gb692 hg w112 hbox hb; have n0_ := Aside0.mk (Kd.R_below (by (with_reducible repeat (fail)); exact HO_656001.out) hb); have n1_ := Aside0.mk (Kd.R_below (by (with_reducible repeat (fail)); exact HO_662001.out) hb); have n2_ := Aside0.mk (Kd.R_below (by (with_reducible repeat (fail)); exact HO685.out) hb); have n3_ := Aside0.mk (Kd.R_below (by (with_reducible repeat (fail)); exact HO690.out) hb); have n4_ := Aside0.mk (blk_below (g := gb655) (o := .cells #[.int .i64 t650, .slice Ao17 t651.length co17] 39 (0, 0)) (by (with_reducible repeat (fail)); exact BK655.out) hb); have n5_ := Aside0.mk (blk_below (g := gb661) (o := .cells #[.int .i64 t656, .slice Ao22 t657.length co22] 39 (0, 0)) (by (with_reducible repeat (fail)); exact BK661.out) hb); have n6_ := Aside0.mk (blk_below (g := gb686) (o := .cells #[.int .i64 t682, .slice Ao110 t683.length co110] 39 (0, 0)) (by (with_reducible repeat (fail)); exact BK686.out) hb); have n7_ := Aside0.mk (below_step (by repeat ((with_reducible exact HB.out))) hb); have n8_ := Aside0.mk (hbox); have n9_ := Aside0.mk ((by rw [hg]; exact (below_size (by repeat ((with_reducible exact HB.out)))) : w.heap.size ≤ gb692)); have n10_ := Aside0.mk ((by rw [hg]; exact (below_size (by repeat ((with_reducible exact HB.out)))) : w.heap.size ≤ gb692)); have n11_ := Aside0.mk ((by rw [hg]; exact Nat.ne_of_lt (blk_lt (g := gb655) (o := .cells #[.int .i64 t650, .slice Ao17 t651.length co17] 39 (0, 0)) (by (with_reducible repeat (fail)); exact BK655.out)) : gb655 ≠ gb692)); have n12_ := Aside0.mk ((by rw [hg]; exact Nat.ne_of_gt (blk_lt (g := gb655) (o := .cells #[.int .i64 t650, .slice Ao17 t651.length co17] 39 (0, 0)) (by (with_reducible repeat (fail)); exact BK655.out)) : gb692 ≠ gb655)); have n13_ := Aside0.mk ((by rw [hg]; exact Nat.ne_of_lt (blk_lt (g := gb661) (o := .cells #[.int .i64 t656, .slice Ao22 t657.length co22] 39 (0, 0)) (by (with_reducible repeat (fail)); exact BK661.out)) : gb661 ≠ gb692)); have n14_ := Aside0.mk ((by rw [hg]; exact Nat.ne_of_gt (blk_lt (g := gb661) (o := .cells #[.int .i64 t656, .slice Ao22 t657.length co22] 39 (0, 0)) (by (with_reducible repeat (fail)); exact BK661.out)) : gb692 ≠ gb661)); have n15_ := Aside0.mk ((by rw [hg]; exact Nat.ne_of_lt (blk_lt (g := gb686) (o := .cells #[.int .i64 t682, .slice Ao110 t683.length co110] 39 (0, 0)) (by (with_reducible repeat (fail)); exact BK686.out)) : gb686 ≠ gb692)); have n16_ := Aside0.mk ((by rw [hg]; exact Nat.ne_of_gt (blk_lt (g := gb686) (o := .cells #[.int .i64 t682, .slice Ao110 t683.length co110] 39 (0, 0)) (by (with_reducible repeat (fail)); exact BK686.out)) : gb692 ≠ gb686)); clear HO_656001; clear HO_662001; clear HO685; clear HO690; clear BK655; clear BK661; clear BK686; clear HB; have HO_656001 := n0_; have HO_662001 := n1_; have HO685 := n2_; have HO690 := n3_; have BK655 := n4_; have BK661 := n5_; have BK686 := n6_; have HB := n7_; have BK692 := n8_; have GW692 := n9_; have GE692 := n10_; have NB655_692 := n11_; have NB692_655 := n12_; have NB661_692 := n13_; have NB692_661 := n14_; have NB686_692 := n15_; have NB692_686 := n16_; clear n0_ n1_ n2_ n3_ n4_ n5_ n6_ n7_ n8_ n9_ n10_ n11_ n12_ n13_ n14_ n15_ n16_; clear hb hbox hg; have hnb113 := NB692_655.out; have hnc113 := NB655_692.out; have hnb114 := NB692_661.out; have hnc114 := NB661_692.out; have hnb115 := NB692_686.out; have hnc115 := NB686_692.out; have hcz116_0 : w112.cell? ⟨gb692, 0, none⟩ = some (.int .i64 0) := (blk_cell BK692.out 0).trans rfl; have hcz116_1 : w112.cell? ⟨gb692, 1, none⟩ = some (.slice none 0 0) := (blk_cell BK692.out 1).trans rfl; have hfz116_0 := blk_frozen BK692.out 0; have hfz116_1 := blk_frozen BK692.out 1; obtain ⟨Ao117, co117, eo117⟩ := Kd.R_slice HO690.out; subst eo117; have hcz118_0 : w112.cell? ⟨gb686, 0, none⟩ = some (.int .i64 t682) := (blk_cell BK686.out 0).trans rfl; have hcz118_1 : w112.cell? ⟨gb686, 1, none⟩ = some (.slice Ao110 t683.length co110) := (blk_cell BK686.out 1).trans rfl; have hfz118_0 := blk_frozen BK686.out 0; have hfz118_1 := blk_frozen BK686.out 1) | (go_at_call 32; (with_reducible refine (spec_OppositeGraph.calls kj88 t682 _ _ t683 t693 t694 t697 _ ?side1 ?side2 A103.out).mono ?_); (case side1 => refine (Kd.R_reads' (e := 3) (base := w.heap.size) (ok := fun k_ => (((True ∧ some k_ ≠ (.slice Ao17 t651.length co17 : Value).ownBlock) ∧ some k_ ≠ (.slice Ao22 t657.length co22 : Value).ownBlock) ∧ some k_ ≠ (.slice Ao117 t688.length co117 : Value).ownBlock)) (n := t683.length) (c := co110) ?_).2.2; exact (by (with_reducible repeat (fail)); exact (Kd.R_mono (Kd.R_far (p := ⟨gb692, 1, none⟩) (Kd.R_far (p := ⟨gb692, 0, none⟩) (Kd.R_types HO685.out BK692.out (by decide)) (fun _ hk => hk.2) (.int .i64 t687)) (fun _ hk => hk.2) (.slice Ao117 t688.length co117)) (fun _ h_ => h_.1)))); (case side2 => exact (Kd.R_reads' HO685.out).2.1); rintro e w119 ⟨v695, rfl, ho0, hb⟩; have n0_ := Aside0.mk (Kd.R_elder' (by (with_reducible repeat (fail)); exact (Kd.R_mono (Kd.R_far (p := ⟨gb692, 1, none⟩) (Kd.R_far (p := ⟨gb692, 0, none⟩) (Kd.R_types HO_656001.out BK692.out (by decide)) (fun _ hk => hk.2) (.int .i64 t687)) (fun _ hk => hk.2) (.slice Ao117 t688.length co117)) (fun _ h_ => h_.1))) (Kd.R_base ho0) hb); have n1_ := Aside0.mk (Kd.R_elder' (by (with_reducible repeat (fail)); exact (Kd.R_mono (Kd.R_far (p := ⟨gb692, 1, none⟩) (Kd.R_far (p := ⟨gb692, 0, none⟩) (Kd.R_types HO_662001.out BK692.out (by decide)) (fun _ hk => hk.2) (.int .i64 t687)) (fun _ hk => hk.2) (.slice Ao117 t688.length co117)) (fun _ h_ => h_.1))) (Kd.R_base ho0) hb); have n2_ := Aside0.mk (Kd.R_elder' (by (with_reducible repeat (fail)); exact (Kd.R_mono (Kd.R_far (p := ⟨gb692, 1, none⟩) (Kd.R_far (p := ⟨gb692, 0, none⟩) (Kd.R_types HO685.out BK692.out (by decide)) (fun _ hk => hk.2) (.int .i64 t687)) (fun _ hk => hk.2) (.slice Ao117 t688.length co117)) (fun _ h_ => h_.1))) (Kd.R_base ho0) hb); have n3_ := Aside0.mk (Kd.R_elder' (by (with_reducible repeat (fail)); exact (Kd.R_mono (Kd.R_far (p := ⟨gb692, 1, none⟩) (Kd.R_far (p := ⟨gb692, 0, none⟩) (Kd.R_types HO690.out BK692.out (by decide)) (fun _ hk => hk.2) (.int .i64 t687)) (fun _ hk => hk.2) (.slice Ao117 t688.length co117)) (fun _ h_ => h_.1))) (Kd.R_base ho0) hb); have n4_ := Aside0.mk (Kd.R_lower (Kd.R_new' (Kd.R_new' (Kd.R_new' (Kd.R_new' ho0 (Kd.R_lt (by (with_reducible repeat (fail)); exact (Kd.R_mono (Kd.R_far (p := ⟨gb692, 1, none⟩) (Kd.R_far (p := ⟨gb692, 0, none⟩) (Kd.R_types HO_656001.out BK692.out (by decide)) (fun _ hk => hk.2) (.int .i64 t687)) (fun _ hk => hk.2) (.slice Ao117 t688.length co117)) (fun _ h_ => h_.1))))) (Kd.R_lt (by (with_reducible repeat (fail)); exact (Kd.R_mono (Kd.R_far (p := ⟨gb692, 1, none⟩) (Kd.R_far (p := ⟨gb692, 0, none⟩) (Kd.R_types HO_662001.out BK692.out (by decide)) (fun _ hk => hk.2) (.int .i64 t687)) (fun _ hk => hk.2) (.slice Ao117 t688.length co117)) (fun _ h_ => h_.1))))) (Kd.R_lt (by (with_reducible repeat (fail)); exact (Kd.R_mono (Kd.R_far (p := ⟨gb692, 1, none⟩) (Kd.R_far (p := ⟨gb692, 0, none⟩) (Kd.R_types HO685.out BK692.out (by decide)) (fun _ hk => hk.2) (.int .i64 t687)) (fun _ hk => hk.2) (.slice Ao117 t688.length co117)) (fun _ h_ => h_.1))))) (Kd.R_lt (by (with_reducible repeat (fail)); exact (Kd.R_mono (Kd.R_far (p := ⟨gb692, 1, none⟩) (Kd.R_far (p := ⟨gb692, 0, none⟩) (Kd.R_types HO690.out BK692.out (by decide)) (fun _ hk => hk.2) (.int .i64 t687)) (fun _ hk => hk.2) (.slice Ao117 t688.length co117)) (fun _ h_ => h_.1))))) (below_size (by repeat ((with_reducible first | exact HB.out | refine below_set ?_ GE692.out))))); have n5_ := Aside0.mk (blk_below (g := gb655) (o := .cells #[.int .i64 t650, .slice Ao17 t651.length co17] 39 (0, 0)) (by (with_reducible repeat (fail)); refine blk_far ?_ NB655_692.out _; (with_reducible repeat (fail)); refine blk_far ?_ NB655_692.out _; (with_reducible repeat (fail)); exact BK655.out) hb); have n6_ := Aside0.mk (blk_below (g := gb661) (o := .cells #[.int .i64 t656, .slice Ao22 t657.length co22] 39 (0, 0)) (by (with_reducible repeat (fail)); refine blk_far ?_ NB661_692.out _; (with_reducible repeat (fail)); refine blk_far ?_ NB661_692.out _; (with_reducible repeat (fail)); exact BK661.out) hb); have n7_ := Aside0.mk (blk_below (g := gb686) (o := .cells #[.int .i64 t682, .slice Ao110 t683.length co110] 39 (0, 0)) (by (with_reducible repeat (fail)); refine blk_far ?_ NB686_692.out _; (with_reducible repeat (fail)); refine blk_far ?_ NB686_692.out _; (with_reducible repeat (fail)); exact BK686.out) hb); have n8_ := Aside0.mk (blk_below (g := gb692) (o := .cells #[.int .i64 t687, .slice Ao117 t688.length co117] 39 (0, 0)) (by (with_reducible repeat (fail)); refine blk_put (cs := #[.int .i64 t687, .slice none 0 0]) ?_ 1 _ rfl; (with_reducible repeat (fail)); refine blk_put (cs := #[.int .i64 0, .slice none 0 0]) ?_ 0 _ rfl; (with_reducible repeat (fail)); exact BK692.out) hb); have n9_ := Aside0.mk (below_step (by repeat ((with_reducible first | exact HB.out | refine below_set ?_ GE692.out))) hb); clear HO_656001; clear HO_662001; clear HO685; clear HO690; clear BK655; clear BK661; clear BK686; clear BK692; clear HB; have HO_656001 := n0_; have HO_662001 := n1_; have HO685 := n2_; have HO690 := n3_; have HO696 := n4_; have BK655 := n5_; have BK661 := n6_; have BK686 := n7_; have BK692 := n8_; have HB := n9_; clear n0_ n1_ n2_ n3_ n4_ n5_ n6_ n7_ n8_ n9_; (try clear hb); (try clear hb2); (try clear hk); (try clear hi); (try clear ho0)) | ((with_reducible refine gate_dst (N := 30) rfl ?_); refine box_event ?hg (N := 30) ?hd (cs := #[.int .i64 0, .slice none 0 0]) (t := 39) ?hr ?_; (case hd => rfl); (case hg => rfl); (case hr => first | (go_simp; done) | (go_simp; rfl)); intro gb698 hg w120 hbox hb; have n0_ := Aside0.mk (Kd.R_below (by (with_reducible repeat (fail)); exact HO_656001.out) hb); have n1_ := Aside0.mk (Kd.R_below (by (with_reducible repeat (fail)); exact HO_662001.out) hb); have n2_ := Aside0.mk (Kd.R_below (by (with_reducible repeat (fail)); exact HO685.out) hb); have n3_ := Aside0.mk (Kd.R_below (by (with_reducible repeat (fail)); exact HO690.out) hb); have n4_ := Aside0.mk (Kd.R_below (by (with_reducible repeat (fail)); exact HO696.out) hb); have n5_ := Aside0.mk (blk_below (g := gb655) (o := .cells #[.int .i64 t650, .slice Ao17 t651.length co17] 39 (0, 0)) (by (with_reducible repeat (fail)); exact BK655.out) hb); have n6_ := Aside0.mk (blk_below (g := gb661) (o := .cells #[.int .i64 t656, .slice Ao22 t657.length co22] 39 (0, 0)) (by (with_reducible repeat (fail)); exact BK661.out) hb); have n7_ := Aside0.mk (blk_below (g := gb686) (o := .cells #[.int .i64 t682, .slice Ao110 t683.length co110] 39 (0, 0)) (by (with_reducible repeat (fail)); exact BK686.out) hb); have n8_ := Aside0.mk (blk_below (g := gb692) (o := .cells #[.int .i64 t687, .slice Ao117 t688.length co117] 39 (0, 0)) (by (with_reducible repeat (fail)); exact BK692.out) hb); have n9_ := Aside0.mk (below_step (by repeat ((with_reducible exact HB.out))) hb); have n10_ := Aside0.mk (hbox); have n11_ := Aside0.mk ((by rw [hg]; exact (below_size (by repeat ((with_reducible exact HB.out)))) : w.heap.size ≤ gb698)); have n12_ := Aside0.mk ((by rw [hg]; exact (below_size (by repeat ((with_reducible exact HB.out)))) : w.heap.size ≤ gb698)); have n13_ := Aside0.mk ((by rw [hg]; exact Nat.ne_of_lt (blk_lt (g := gb655) (o := .cells #[.int .i64 t650, .slice Ao17 t651.length co17] 39 (0, 0)) (by (with_reducible repeat (fail)); exact BK655.out)) : gb655 ≠ gb698)); have n14_ := Aside0.mk ((by rw [hg]; exact Nat.ne_of_gt (blk_lt (g := gb655) (o := .cells #[.int .i64 t650, .slice Ao17 t651.length co17] 39 (0, 0)) (by (with_reducible repeat (fail)); exact BK655.out)) : gb698 ≠ gb655)); have n15_ := Aside0.mk ((by rw [hg]; exact Nat.ne_of_lt (blk_lt (g := gb661) (o := .cells #[.int .i64 t656, .slice Ao22 t657.length co22] 39 (0, 0)) (by (with_reducible repeat (fail)); exact BK661.out)) : gb661 ≠ gb698)); have n16_ := Aside0.mk ((by rw [hg]; exact Nat.ne_of_gt (blk_lt (g := gb661) (o := .cells #[.int .i64 t656, .slice Ao22 t657.length co22] 39 (0, 0)) (by (with_reducible repeat (fail)); exact BK661.out)) : gb698 ≠ gb661)); have n17_ := Aside0.mk ((by rw [hg]; exact Nat.ne_of_lt (blk_lt (g := gb686) (o := .cells #[.int .i64 t682, .slice Ao110 t683.length co110] 39 (0, 0)) (by (with_reducible repeat (fail)); exact BK686.out)) : gb686 ≠ gb698)); have n18_ := Aside0.mk ((by rw [hg]; exact Nat.ne_of_gt (blk_lt (g := gb686) (o := .cells #[.int .i64 t682, .slice Ao110 t683.length co110] 39 (0, 0)) (by (with_reducible repeat (fail)); exact BK686.out)) : gb698 ≠ gb686)); have n19_ := Aside0.mk ((by rw [hg]; exact Nat.ne_of_lt (blk_lt (g := gb692) (o := .cells #[.int .i64 t687, .slice Ao117 t688.length co117] 39 (0, 0)) (by (with_reducible repeat (fail)); exact BK692.out)) : gb692 ≠ gb698)); have n20_ := Aside0.mk ((by rw [hg]; exact Nat.ne_of_gt (blk_lt (g := gb692) (o := .cells #[.int .i64 t687, .slice Ao117 t688.length co117] 39 (0, 0)) (by (with_reducible repeat (fail)); exact BK692.out)) : gb698 ≠ gb692)); clear HO_656001; clear HO_662001; clear HO685; clear HO690; clear HO696; clear BK655; clear BK661; clear BK686; clear BK692; clear HB; have HO_656001 := n0_; have HO_662001 := n1_; have HO685 := n2_; have HO690 := n3_; have HO696 := n4_; have BK655 := n5_; have BK661 := n6_; have BK686 := n7_; have BK692 := n8_; have HB := n9_; have BK698 := n10_; have GW698 := n11_; have GE698 := n12_; have NB655_698 := n13_; have NB698_655 := n14_; have NB661_698 := n15_; have NB698_661 := n16_; have NB686_698 := n17_; have NB698_686 := n18_; have NB692_698 := n19_; have NB698_692 := n20_; clear n0_ n1_ n2_ n3_ n4_ n5_ n6_ n7_ n8_ n9_ n10_ n11_ n12_ n13_ n14_ n15_ n16_ n17_ n18_ n19_ n20_; clear hb hbox hg; have hnb121 := NB698_655.out; have hnc121 := NB655_698.out; have hnb122 := NB698_661.out; have hnc122 := NB661_698.out; have hnb123 := NB698_686.out; have hnc123 := NB686_698.out; have hnb124 := NB698_692.out; have hnc124 := NB692_698.out; have hcz125_0 : w120.cell? ⟨gb698, 0, none⟩ = some (.int .i64 0) := (blk_cell BK698.out 0).trans rfl; have hcz125_1 : w120.cell? ⟨gb698, 1, none⟩ = some (.slice none 0 0) := (blk_cell BK698.out 1).trans rfl; have hfz125_0 := blk_frozen BK698.out 0; have hfz125_1 := blk_frozen BK698.out 1; obtain ⟨Ao126, co126, eo126⟩ := Kd.R_slice HO696.out; subst eo126))
               repeat (go_quiet (fail); go_upto_region 41 with (fail))
               (try simp only [Act.put, List.setIfInBounds_toArray, List.set_cons_zero, List.set_cons_succ])
               go_cut [200] (fun v200 wc => ∃ (kq : Nat) (x200_103 : Bool), v200 = .bool x200_103 ∧ Aside0 (laws_FnGraphsBuilt.j6 kq t691 x200_103 t682 t683 t687 t688 = some r) ∧ Aside0 (kq ≤ kj88) ∧ Aside0 (Kd.R (Kd.int .i64) 3 wc w.heap.size (fun k_ => some k_ ≠ ((.slice Ao22 t657.length co22) : Value).ownBlock ∧ some k_ ≠ ((.slice Ao110 t683.length co110) : Value).ownBlock ∧ some k_ ≠ ((.slice Ao117 t688.length co117) : Value).ownBlock ∧ some k_ ≠ ((.slice Ao126 t694.length co126) : Value).ownBlock) (.slice Ao17 t651.length co17) t651) ∧ Aside0 (Kd.R (Kd.int .i64) 3 wc w.heap.size (fun k_ => some k_ ≠ ((.slice Ao17 t651.length co17) : Value).ownBlock ∧ some k_ ≠ ((.slice Ao110 t683.length co110) : Value).ownBlock ∧ some k_ ≠ ((.slice Ao117 t688.length co117) : Value).ownBlock ∧ some k_ ≠ ((.slice Ao126 t694.length co126) : Value).ownBlock) (.slice Ao22 t657.length co22) t657) ∧ Aside0 (Kd.R (Kd.int .i64) 3 wc w.heap.size (fun k_ => some k_ ≠ ((.slice Ao17 t651.length co17) : Value).ownBlock ∧ some k_ ≠ ((.slice Ao22 t657.length co22) : Value).ownBlock ∧ some k_ ≠ ((.slice Ao117 t688.length co117) : Value).ownBlock ∧ some k_ ≠ ((.slice Ao126 t694.length co126) : Value).ownBlock) (.slice Ao110 t683.length co110) t683) ∧ Aside0 (Kd.R (Kd.int .i64) 3 wc w.heap.size (fun k_ => some k_ ≠ ((.slice Ao17 t651.length co17) : Value).ownBlock ∧ some k_ ≠ ((.slice Ao22 t657.length co22) : Value).ownBlock ∧ some k_ ≠ ((.slice Ao110 t683.length co110) : Value).ownBlock ∧ some k_ ≠ ((.slice Ao126 t694.length co126) : Value).ownBlock) (.slice Ao117 t688.length co117) t688) ∧ Aside0 (Kd.R (Kd.int .i64) 3 wc w.heap.size (fun k_ => some k_ ≠ ((.slice Ao17 t651.length co17) : Value).ownBlock ∧ some k_ ≠ ((.slice Ao22 t657.length co22) : Value).ownBlock ∧ some k_ ≠ ((.slice Ao110 t683.length co110) : Value).ownBlock ∧ some k_ ≠ ((.slice Ao117 t688.length co117) : Value).ownBlock) (.slice Ao126 t694.length co126) t694) ∧ Aside0 (wc.heap[gb655]? = some (.cells #[.int .i64 t650, (.slice Ao17 t651.length co17)] 39 (0, 0))) ∧ Aside0 (wc.heap[gb661]? = some (.cells #[.int .i64 t656, (.slice Ao22 t657.length co22)] 39 (0, 0))) ∧ Aside0 (wc.heap[gb686]? = some (.cells #[.int .i64 t682, (.slice Ao110 t683.length co110)] 39 (0, 0))) ∧ Aside0 (wc.heap[gb692]? = some (.cells #[.int .i64 t687, (.slice Ao117 t688.length co117)] 39 (0, 0))) ∧ Aside0 (wc.heap[gb698]? = some (.cells #[.int .i64 t693, (.slice Ao126 t694.length co126)] 39 (0, 0))) ∧ Aside0 (Below w.heap.size w wc))
               case first =>
                as_aux_lemma =>
                 have H := HC104.out
                 clear HC104
                 by_cases c127 : (t691 != t697) = true
                 ·
                  rw [if_pos c127] at H
                  have c127b0 : (t691 != t697) = true := c127
                  (try (have c127b1 : decide (t691 = t697) = false := by simpa using c127))
                  (try (have c127b2 : (t691 == t697) = false := by simpa using c127))
                  (try (have c127b3 : ¬ (t691 = t697) := by simpa using c127))
                  clear c127
                  (skip)
                  have H' := Aside0.mk H
                  clear H
                  go_wp2
                  repeat (go_quiet (fail); try go_wp2)
                  go_meet
                  case rel => exact ⟨_, (true), (by first | rfl | (simp; done) | (simp [*]; done)), H', ⟨by have := HJ10.out; have := HJ53.out; have := HJ61.out; have := HJ88.out; first | omega | exact Nat.le_refl _⟩, ⟨by (with_reducible repeat (fail)); exact Kd.R_mono (Kd.R_far (p := ⟨gb698, 1, none⟩) (Kd.R_far (p := ⟨gb698, 0, none⟩) (Kd.R_types HO_656001.out BK698.out (by decide)) (fun _ hk => hk.2) (.int .i64 t693)) (fun _ hk => hk.2) (.slice Ao126 t694.length co126)) (fun _ hk => ⟨hk.1.1.1.1, ⟨hk.1.1.1.2, ⟨hk.1.1.2, hk.1.2⟩⟩⟩)⟩, ⟨by (with_reducible repeat (fail)); exact Kd.R_mono (Kd.R_far (p := ⟨gb698, 1, none⟩) (Kd.R_far (p := ⟨gb698, 0, none⟩) (Kd.R_types HO_662001.out BK698.out (by decide)) (fun _ hk => hk.2) (.int .i64 t693)) (fun _ hk => hk.2) (.slice Ao126 t694.length co126)) (fun _ hk => ⟨hk.1.1.1.1, ⟨hk.1.1.1.2, ⟨hk.1.1.2, hk.1.2⟩⟩⟩)⟩, ⟨by (with_reducible repeat (fail)); exact Kd.R_mono (Kd.R_far (p := ⟨gb698, 1, none⟩) (Kd.R_far (p := ⟨gb698, 0, none⟩) (Kd.R_types HO685.out BK698.out (by decide)) (fun _ hk => hk.2) (.int .i64 t693)) (fun _ hk => hk.2) (.slice Ao126 t694.length co126)) (fun _ hk => ⟨hk.1.1.1.1.2, ⟨hk.1.1.1.2, ⟨hk.1.1.2, hk.1.2⟩⟩⟩)⟩, ⟨by (with_reducible repeat (fail)); exact Kd.R_mono (Kd.R_far (p := ⟨gb698, 1, none⟩) (Kd.R_far (p := ⟨gb698, 0, none⟩) (Kd.R_types HO690.out BK698.out (by decide)) (fun _ hk => hk.2) (.int .i64 t693)) (fun _ hk => hk.2) (.slice Ao126 t694.length co126)) (fun _ hk => ⟨hk.1.1.1.1.2, ⟨hk.1.1.1.2, ⟨hk.1.1.2, hk.1.2⟩⟩⟩)⟩, ⟨by (with_reducible repeat (fail)); exact Kd.R_mono (Kd.R_far (p := ⟨gb698, 1, none⟩) (Kd.R_far (p := ⟨gb698, 0, none⟩) (Kd.R_types HO696.out BK698.out (by decide)) (fun _ hk => hk.2) (.int .i64 t693)) (fun _ hk => hk.2) (.slice Ao126 t694.length co126)) (fun _ hk => ⟨hk.1.1.1.1.2, ⟨hk.1.1.1.2, ⟨hk.1.1.2, hk.1.2⟩⟩⟩)⟩, ⟨by (with_reducible repeat (fail)); refine blk_far ?_ NB655_698.out _; (with_reducible repeat (fail)); refine blk_far ?_ NB655_698.out _; (with_reducible repeat (fail)); exact BK655.out⟩, ⟨by (with_reducible repeat (fail)); refine blk_far ?_ NB661_698.out _; (with_reducible repeat (fail)); refine blk_far ?_ NB661_698.out _; (with_reducible repeat (fail)); exact BK661.out⟩, ⟨by (with_reducible repeat (fail)); refine blk_far ?_ NB686_698.out _; (with_reducible repeat (fail)); refine blk_far ?_ NB686_698.out _; (with_reducible repeat (fail)); exact BK686.out⟩, ⟨by (with_reducible repeat (fail)); refine blk_far ?_ NB692_698.out _; (with_reducible repeat (fail)); refine blk_far ?_ NB692_698.out _; (with_reducible repeat (fail)); exact BK692.out⟩, ⟨by (with_reducible repeat (fail)); refine blk_put (cs := #[.int .i64 t693, .slice none 0 0]) ?_ 1 _ rfl; (with_reducible repeat (fail)); refine blk_put (cs := #[.int .i64 0, .slice none 0 0]) ?_ 0 _ rfl; (with_reducible repeat (fail)); exact BK698.out⟩, ⟨by repeat ((with_reducible first | exact HB.out | refine below_set ?_ GE698.out))⟩⟩
                 ·
                  rw [if_neg c127] at H
                  have c127b0 : (t691 != t697) = false := by simpa using c127
                  (try (have c127b1 : decide (t691 = t697) = true := by simpa using c127))
                  (try (have c127b2 : (t691 == t697) = true := by simpa using c127))
                  clear c127
                  (skip)
                  replace H := Option.bind_eq_some_iff.mp H
                  obtain ⟨t699, A1280, H⟩ := H
                  replace H : (laws_FnGraphsBuilt.j6 kj88 t691 (!t699) t682 t683 t687 t688) = some r := H
                  have A128 := Aside0.mk A1280
                  clear A1280
                  have H' := Aside0.mk H
                  clear H
                  have hnb129 := NB692_655.out
                  have hnc129 := NB655_692.out
                  have hnb130 := NB692_661.out
                  have hnc130 := NB661_692.out
                  have hnb131 := NB692_686.out
                  have hnc131 := NB686_692.out
                  have hnb132 := NB692_698.out
                  have hnc132 := NB698_692.out
                  have hcz133_0 : w120.cell? ⟨gb692, 0, none⟩ = some (.int .i64 t687) := (blk_cell BK692.out 0).trans rfl
                  have hcz133_1 : w120.cell? ⟨gb692, 1, none⟩ = some (.slice Ao117 t688.length co117) := (blk_cell BK692.out 1).trans rfl
                  have hfz133_0 := blk_frozen BK692.out 0
                  have hfz133_1 := blk_frozen BK692.out 1
                  have hnb134 := NB698_655.out
                  have hnc134 := NB655_698.out
                  have hnb135 := NB698_661.out
                  have hnc135 := NB661_698.out
                  have hnb136 := NB698_686.out
                  have hnc136 := NB686_698.out
                  have hcz137_0 : w120.cell? ⟨gb698, 0, none⟩ = some (.int .i64 0) := (blk_cell BK698.out 0).trans rfl
                  have hcz137_1 : w120.cell? ⟨gb698, 1, none⟩ = some (.slice none 0 0) := (blk_cell BK698.out 1).trans rfl
                  have hfz137_0 := blk_frozen BK698.out 0
                  have hfz137_1 := blk_frozen BK698.out 1
                  go_wp2_with ((go_at_call 25; (with_reducible refine (laws_yGraph.calls kj88 t687 _ _ t688 t693 _ _ t694 t699 _ ?side1 ?side2 ?side3 ?side4 A128.out).mono ?_); (case side1 => refine (Kd.R_reads' (e := 3) (base := w.heap.size) (ok := fun k_ => ((((True ∧ some k_ ≠ (.slice Ao17 t651.length co17 : Value).ownBlock) ∧ some k_ ≠ (.slice Ao22 t657.length co22 : Value).ownBlock) ∧ some k_ ≠ (.slice Ao110 t683.length co110 : Value).ownBlock) ∧ some k_ ≠ (.slice Ao126 t694.length co126 : Value).ownBlock)) (n := t688.length) (c := co117) ?_).2.2; exact (by (with_reducible repeat (fail)); exact (Kd.R_mono (Kd.R_far (p := ⟨gb698, 1, none⟩) (Kd.R_far (p := ⟨gb698, 0, none⟩) (Kd.R_types HO690.out BK698.out (by decide)) (fun _ hk => hk.2) (.int .i64 t693)) (fun _ hk => hk.2) (.slice Ao126 t694.length co126)) (fun _ h_ => h_.1)))); (case side2 => exact (Kd.R_reads' HO690.out).2.1); (case side3 => refine (Kd.R_reads' (e := 3) (base := w.heap.size) (ok := fun k_ => ((((True ∧ some k_ ≠ (.slice Ao17 t651.length co17 : Value).ownBlock) ∧ some k_ ≠ (.slice Ao22 t657.length co22 : Value).ownBlock) ∧ some k_ ≠ (.slice Ao110 t683.length co110 : Value).ownBlock) ∧ some k_ ≠ (.slice Ao117 t688.length co117 : Value).ownBlock)) (n := t694.length) (c := co126) ?_).2.2; exact (by (with_reducible repeat (fail)); exact (Kd.R_mono (Kd.R_far (p := ⟨gb698, 1, none⟩) (Kd.R_far (p := ⟨gb698, 0, none⟩) (Kd.R_types HO696.out BK698.out (by decide)) (fun _ hk => hk.2) (.int .i64 t693)) (fun _ hk => hk.2) (.slice Ao126 t694.length co126)) (fun _ h_ => h_.1)))); (case side4 => exact (Kd.R_reads' HO696.out).2.1); rintro e w138 ⟨rfl, hb⟩; have n0_ := Aside0.mk (Kd.R_below (by (with_reducible repeat (fail)); exact (Kd.R_mono (Kd.R_far (p := ⟨gb698, 1, none⟩) (Kd.R_far (p := ⟨gb698, 0, none⟩) (Kd.R_types HO_656001.out BK698.out (by decide)) (fun _ hk => hk.2) (.int .i64 t693)) (fun _ hk => hk.2) (.slice Ao126 t694.length co126)) (fun _ h_ => h_.1))) hb); have n1_ := Aside0.mk (Kd.R_below (by (with_reducible repeat (fail)); exact (Kd.R_mono (Kd.R_far (p := ⟨gb698, 1, none⟩) (Kd.R_far (p := ⟨gb698, 0, none⟩) (Kd.R_types HO_662001.out BK698.out (by decide)) (fun _ hk => hk.2) (.int .i64 t693)) (fun _ hk => hk.2) (.slice Ao126 t694.length co126)) (fun _ h_ => h_.1))) hb); have n2_ := Aside0.mk (Kd.R_below (by (with_reducible repeat (fail)); exact (Kd.R_mono (Kd.R_far (p := ⟨gb698, 1, none⟩) (Kd.R_far (p := ⟨gb698, 0, none⟩) (Kd.R_types HO685.out BK698.out (by decide)) (fun _ hk => hk.2) (.int .i64 t693)) (fun _ hk => hk.2) (.slice Ao126 t694.length co126)) (fun _ h_ => h_.1))) hb); have n3_ := Aside0.mk (Kd.R_below (by (with_reducible repeat (fail)); exact (Kd.R_mono (Kd.R_far (p := ⟨gb698, 1, none⟩) (Kd.R_far (p := ⟨gb698, 0, none⟩) (Kd.R_types HO690.out BK698.out (by decide)) (fun _ hk => hk.2) (.int .i64 t693)) (fun _ hk => hk.2) (.slice Ao126 t694.length co126)) (fun _ h_ => h_.1))) hb); have n4_ := Aside0.mk (Kd.R_below (by (with_reducible repeat (fail)); exact (Kd.R_mono (Kd.R_far (p := ⟨gb698, 1, none⟩) (Kd.R_far (p := ⟨gb698, 0, none⟩) (Kd.R_types HO696.out BK698.out (by decide)) (fun _ hk => hk.2) (.int .i64 t693)) (fun _ hk => hk.2) (.slice Ao126 t694.length co126)) (fun _ h_ => h_.1))) hb); have n5_ := Aside0.mk (blk_below (g := gb655) (o := .cells #[.int .i64 t650, .slice Ao17 t651.length co17] 39 (0, 0)) (by (with_reducible repeat (fail)); refine blk_far ?_ NB655_698.out _; (with_reducible repeat (fail)); refine blk_far ?_ NB655_698.out _; (with_reducible repeat (fail)); exact BK655.out) hb); have n6_ := Aside0.mk (blk_below (g := gb661) (o := .cells #[.int .i64 t656, .slice Ao22 t657.length co22] 39 (0, 0)) (by (with_reducible repeat (fail)); refine blk_far ?_ NB661_698.out _; (with_reducible repeat (fail)); refine blk_far ?_ NB661_698.out _; (with_reducible repeat (fail)); exact BK661.out) hb); have n7_ := Aside0.mk (blk_below (g := gb686) (o := .cells #[.int .i64 t682, .slice Ao110 t683.length co110] 39 (0, 0)) (by (with_reducible repeat (fail)); refine blk_far ?_ NB686_698.out _; (with_reducible repeat (fail)); refine blk_far ?_ NB686_698.out _; (with_reducible repeat (fail)); exact BK686.out) hb); have n8_ := Aside0.mk (blk_below (g := gb692) (o := .cells #[.int .i64 t687, .slice Ao117 t688.length co117] 39 (0, 0)) (by (with_reducible repeat (fail)); refine blk_far ?_ NB692_698.out _; (with_reducible repeat (fail)); refine blk_far ?_ NB692_698.out _; (with_reducible repeat (fail)); exact BK692.out) hb); have n9_ := Aside0.mk (blk_below (g := gb698) (o := .cells #[.int .i64 t693, .slice Ao126 t694.length co126] 39 (0, 0)) (by (with_reducible repeat (fail)); refine blk_put (cs := #[.int .i64 t693, .slice none 0 0]) ?_ 1 _ rfl; (with_reducible repeat (fail)); refine blk_put (cs := #[.int .i64 0, .slice none 0 0]) ?_ 0 _ rfl; (with_reducible repeat (fail)); exact BK698.out) hb); have n10_ := Aside0.mk (below_step (by repeat ((with_reducible first | exact HB.out | refine below_set ?_ GE698.out))) hb); clear HO_656001; clear HO_662001; clear HO685; clear HO690; clear HO696; clear BK655; clear BK661; clear BK686; clear BK692; clear BK698; clear HB; have HO_656001 := n0_; have HO_662001 := n1_; have HO685 := n2_; have HO690 := n3_; have HO696 := n4_; have BK655 := n5_; have BK661 := n6_; have BK686 := n7_; have BK692 := n8_; have BK698 := n9_; have HB := n10_; clear n0_ n1_ n2_ n3_ n4_ n5_ n6_ n7_ n8_ n9_ n10_; (try clear hb); (try clear hb2); (try clear hk); (try clear hi)))
                  repeat (go_quiet (fail); try go_wp2_with (fail))
                  go_meet
                  case rel => exact ⟨_, (!t699), (by first | rfl | (simp; done) | (simp [*]; done)), H', ⟨by have := HJ10.out; have := HJ53.out; have := HJ61.out; have := HJ88.out; first | omega | exact Nat.le_refl _⟩, ⟨by (with_reducible repeat (fail)); exact Kd.R_mono HO_656001.out (fun _ hk => ⟨hk.1.1.1, ⟨hk.1.1.2, ⟨hk.1.2, hk.2⟩⟩⟩)⟩, ⟨by (with_reducible repeat (fail)); exact Kd.R_mono HO_662001.out (fun _ hk => ⟨hk.1.1.1, ⟨hk.1.1.2, ⟨hk.1.2, hk.2⟩⟩⟩)⟩, ⟨by (with_reducible repeat (fail)); exact Kd.R_mono HO685.out (fun _ hk => ⟨hk.1.1.1.2, ⟨hk.1.1.2, ⟨hk.1.2, hk.2⟩⟩⟩)⟩, ⟨by (with_reducible repeat (fail)); exact Kd.R_mono HO690.out (fun _ hk => ⟨hk.1.1.1.2, ⟨hk.1.1.2, ⟨hk.1.2, hk.2⟩⟩⟩)⟩, ⟨by (with_reducible repeat (fail)); exact Kd.R_mono HO696.out (fun _ hk => ⟨hk.1.1.1.2, ⟨hk.1.1.2, ⟨hk.1.2, hk.2⟩⟩⟩)⟩, ⟨by (with_reducible repeat (fail)); exact BK655.out⟩, ⟨by (with_reducible repeat (fail)); exact BK661.out⟩, ⟨by (with_reducible repeat (fail)); exact BK686.out⟩, ⟨by (with_reducible repeat (fail)); exact BK692.out⟩, ⟨by (with_reducible repeat (fail)); exact BK698.out⟩, ⟨by repeat ((with_reducible exact HB.out))⟩⟩
               case rest =>
                as_aux_lemma =>
                 clear HC104
                 clear hcz109_0 hcz109_1 hcz116_0 hcz116_1 hcz118_0 hcz118_1 hcz125_0 hcz125_1 hfz109_0 hfz109_1 hfz116_0 hfz116_1 hfz118_0 hfz118_1 hfz125_0 hfz125_1
                 obtain ⟨kq, x200_103, rfl, HA, HJ103, HO_656001, HO_662001, HO_687001, HO_693001, HO_699001, BK655, BK661, BK686, BK692, BK698, HB⟩ := hcut
                 cases kq with
                 | zero => exact absurd HA.out (by simp [laws_FnGraphsBuilt.j6])
                 | succ kj103 =>
                  have H := HA.out
                  clear HA
                  simp only [laws_FnGraphsBuilt.j6] at H
                  by_cases c139 : x200_103 = true
                  ·
                   subst c139
                   have H1 : (some false) = some r := by rw [if_pos rfl] at H; exact H
                   clear H
                   have H := H1
                   clear H1
                   obtain rfl := Option.some.inj H
                   go_wp2
                   repeat (go_quiet (fail); try go_wp2)
                   go_ret
                   exact ⟨by first | rfl | (simp [errW_none, errW_some] <;> rfl) | (simp [*, errW_none, errW_some] <;> rfl), by repeat ((with_reducible exact HB.out))⟩
                  ·
                   replace c139 := Bool.eq_false_iff.mpr c139
                   subst c139
                   have H1 : (if t691 = true then ((impl_DegreesOf.f kj103 t682 t683).bind fun bt700 => ((impl_DegreesOf.f kj103 t687 t688).bind fun bt704 => ((impl_OppositeGraph.f kj103 t687 t688).bind fun bt708 => (if bt700.2 = true then (if bt704.2 = true then (if bt708.2.2 = true then ((laws_yGraph.f kj103 bt708.1 bt708.2.1 t682 t683).bind fun t714 => (laws_FnGraphsBuilt.j7 kj103 bt700.1 bt704.1 (!t714) t682 t683)) else (laws_FnGraphsBuilt.j7 kj103 bt700.1 bt704.1 true t682 t683)) else (laws_FnGraphsBuilt.j7 kj103 bt700.1 bt704.1 true t682 t683)) else (laws_FnGraphsBuilt.j7 kj103 bt700.1 bt704.1 true t682 t683))))) else (some true)) = some r := by rw [if_neg (show ¬ (false = true) by decide)] at H; exact H
                   clear H
                   have H := H1
                   clear H1
                   by_cases c140 : t691 = true
                   ·
                    subst c140
                    have H1 : ((impl_DegreesOf.f kj103 t682 t683).bind fun bt700 => ((impl_DegreesOf.f kj103 t687 t688).bind fun bt704 => ((impl_OppositeGraph.f kj103 t687 t688).bind fun bt708 => (if bt700.2 = true then (if bt704.2 = true then (if bt708.2.2 = true then ((laws_yGraph.f kj103 bt708.1 bt708.2.1 t682 t683).bind fun t714 => (laws_FnGraphsBuilt.j7 kj103 bt700.1 bt704.1 (!t714) t682 t683)) else (laws_FnGraphsBuilt.j7 kj103 bt700.1 bt704.1 true t682 t683)) else (laws_FnGraphsBuilt.j7 kj103 bt700.1 bt704.1 true t682 t683)) else (laws_FnGraphsBuilt.j7 kj103 bt700.1 bt704.1 true t682 t683))))) = some r := by rw [if_pos rfl] at H; exact H
                    clear H
                    have H := H1
                    clear H1
                    replace H := Option.bind_eq_some_iff.mp H
                    obtain ⟨⟨t700, t703⟩, A1410, H⟩ := H
                    replace H : ((impl_DegreesOf.f kj103 t687 t688).bind fun bt704 => ((impl_OppositeGraph.f kj103 t687 t688).bind fun bt708 => (if t703 = true then (if bt704.2 = true then (if bt708.2.2 = true then ((laws_yGraph.f kj103 bt708.1 bt708.2.1 t682 t683).bind fun t714 => (laws_FnGraphsBuilt.j7 kj103 t700 bt704.1 (!t714) t682 t683)) else (laws_FnGraphsBuilt.j7 kj103 t700 bt704.1 true t682 t683)) else (laws_FnGraphsBuilt.j7 kj103 t700 bt704.1 true t682 t683)) else (laws_FnGraphsBuilt.j7 kj103 t700 bt704.1 true t682 t683)))) = some r := H
                    have A141 := Aside0.mk A1410
                    clear A1410
                    replace H := Option.bind_eq_some_iff.mp H
                    obtain ⟨⟨t704, t707⟩, A1420, H⟩ := H
                    replace H : ((impl_OppositeGraph.f kj103 t687 t688).bind fun bt708 => (if t703 = true then (if t707 = true then (if bt708.2.2 = true then ((laws_yGraph.f kj103 bt708.1 bt708.2.1 t682 t683).bind fun t714 => (laws_FnGraphsBuilt.j7 kj103 t700 t704 (!t714) t682 t683)) else (laws_FnGraphsBuilt.j7 kj103 t700 t704 true t682 t683)) else (laws_FnGraphsBuilt.j7 kj103 t700 t704 true t682 t683)) else (laws_FnGraphsBuilt.j7 kj103 t700 t704 true t682 t683))) = some r := H
                    have A142 := Aside0.mk A1420
                    clear A1420
                    replace H := Option.bind_eq_some_iff.mp H
                    obtain ⟨⟨t708, t709, t712⟩, A1430, H⟩ := H
                    replace H : (if t703 = true then (if t707 = true then (if t712 = true then ((laws_yGraph.f kj103 t708 t709 t682 t683).bind fun t714 => (laws_FnGraphsBuilt.j7 kj103 t700 t704 (!t714) t682 t683)) else (laws_FnGraphsBuilt.j7 kj103 t700 t704 true t682 t683)) else (laws_FnGraphsBuilt.j7 kj103 t700 t704 true t682 t683)) else (laws_FnGraphsBuilt.j7 kj103 t700 t704 true t682 t683)) = some r := H
                    have A143 := Aside0.mk A1430
                    clear A1430
                    have HC144 := Aside0.mk H
                    clear H
                    have hnb145 := NB686_655.out
                    have hnc145 := NB655_686.out
                    have hnb146 := NB686_661.out
                    have hnc146 := NB661_686.out
                    have hnb147 := NB686_692.out
                    have hnc147 := NB692_686.out
                    have hnb148 := NB686_698.out
                    have hnc148 := NB698_686.out
                    have hcz149_0 : wc.cell? ⟨gb686, 0, none⟩ = some (.int .i64 t682) := (blk_cell BK686.out 0).trans rfl
                    have hcz149_1 : wc.cell? ⟨gb686, 1, none⟩ = some (.slice Ao110 t683.length co110) := (blk_cell BK686.out 1).trans rfl
                    have hfz149_0 := blk_frozen BK686.out 0
                    have hfz149_1 := blk_frozen BK686.out 1
                    go_upto_region 47 with (first | (go_at_call 27; (with_reducible refine (impl_DegreesOf.calls kj103 t682 _ _ t683 t700 t703 _ ?sideT ?side1 ?side2 A141.out).mono ?_); (case sideT => exact HT.out.below (by repeat ((with_reducible exact HB.out)))); (case side1 => repeat (exact (Kd.R_reads' HO_687001.out).2.2)); (case side2 => exact (Kd.R_reads' HO_687001.out).2.1); rintro e w150 ⟨v701, rfl, ho0, hb⟩; have n0_ := Aside0.mk (Kd.R_elder' (by (with_reducible repeat (fail)); exact HO_656001.out) (Kd.R_base ho0) hb); have n1_ := Aside0.mk (Kd.R_elder' (by (with_reducible repeat (fail)); exact HO_662001.out) (Kd.R_base ho0) hb); have n2_ := Aside0.mk (Kd.R_elder' (by (with_reducible repeat (fail)); exact HO_687001.out) (Kd.R_base ho0) hb); have n3_ := Aside0.mk (Kd.R_elder' (by (with_reducible repeat (fail)); exact HO_693001.out) (Kd.R_base ho0) hb); have n4_ := Aside0.mk (Kd.R_elder' (by (with_reducible repeat (fail)); exact HO_699001.out) (Kd.R_base ho0) hb); have n5_ := Aside0.mk (Kd.R_lower (Kd.R_new' (Kd.R_new' (Kd.R_new' (Kd.R_new' (Kd.R_new' ho0 (Kd.R_lt (by (with_reducible repeat (fail)); exact HO_656001.out))) (Kd.R_lt (by (with_reducible repeat (fail)); exact HO_662001.out))) (Kd.R_lt (by (with_reducible repeat (fail)); exact HO_687001.out))) (Kd.R_lt (by (with_reducible repeat (fail)); exact HO_693001.out))) (Kd.R_lt (by (with_reducible repeat (fail)); exact HO_699001.out))) (below_size (by repeat ((with_reducible exact HB.out))))); have n6_ := Aside0.mk (blk_below (g := gb655) (o := .cells #[.int .i64 t650, .slice Ao17 t651.length co17] 39 (0, 0)) (by (with_reducible repeat (fail)); exact BK655.out) hb); have n7_ := Aside0.mk (blk_below (g := gb661) (o := .cells #[.int .i64 t656, .slice Ao22 t657.length co22] 39 (0, 0)) (by (with_reducible repeat (fail)); exact BK661.out) hb); have n8_ := Aside0.mk (blk_below (g := gb686) (o := .cells #[.int .i64 t682, .slice Ao110 t683.length co110] 39 (0, 0)) (by (with_reducible repeat (fail)); exact BK686.out) hb); have n9_ := Aside0.mk (blk_below (g := gb692) (o := .cells #[.int .i64 t687, .slice Ao117 t688.length co117] 39 (0, 0)) (by (with_reducible repeat (fail)); exact BK692.out) hb); have n10_ := Aside0.mk (blk_below (g := gb698) (o := .cells #[.int .i64 t693, .slice Ao126 t694.length co126] 39 (0, 0)) (by (with_reducible repeat (fail)); exact BK698.out) hb); have n11_ := Aside0.mk (below_step (by repeat ((with_reducible exact HB.out))) hb); clear HO_656001; clear HO_662001; clear HO_687001; clear HO_693001; clear HO_699001; clear BK655; clear BK661; clear BK686; clear BK692; clear BK698; clear HB; have HO_656001 := n0_; have HO_662001 := n1_; have HO_687001 := n2_; have HO_693001 := n3_; have HO_699001 := n4_; have HO702 := n5_; have BK655 := n6_; have BK661 := n7_; have BK686 := n8_; have BK692 := n9_; have BK698 := n10_; have HB := n11_; clear n0_ n1_ n2_ n3_ n4_ n5_ n6_ n7_ n8_ n9_ n10_ n11_; (try clear hb); (try clear hb2); (try clear hk); (try clear hi); (try clear ho0); have hnb151 := NB692_655.out; have hnc151 := NB655_692.out; have hnb152 := NB692_661.out; have hnc152 := NB661_692.out; have hnb153 := NB692_698.out; have hnc153 := NB698_692.out; have hcz154_0 : w150.cell? ⟨gb692, 0, none⟩ = some (.int .i64 t687) := (blk_cell BK692.out 0).trans rfl; have hcz154_1 : w150.cell? ⟨gb692, 1, none⟩ = some (.slice Ao117 t688.length co117) := (blk_cell BK692.out 1).trans rfl; have hfz154_0 := blk_frozen BK692.out 0; have hfz154_1 := blk_frozen BK692.out 1) | (go_at_call 27; (with_reducible refine (impl_DegreesOf.calls kj103 t687 _ _ t688 t704 t707 _ ?sideT ?side1 ?side2 A142.out).mono ?_); (case sideT => exact HT.out.below (by repeat ((with_reducible exact HB.out)))); (case side1 => repeat (exact (Kd.R_reads' HO_693001.out).2.2)); (case side2 => exact (Kd.R_reads' HO_693001.out).2.1); rintro e w155 ⟨v705, rfl, ho0, hb⟩; have n0_ := Aside0.mk (Kd.R_elder' (by (with_reducible repeat (fail)); exact HO_656001.out) (Kd.R_base ho0) hb); have n1_ := Aside0.mk (Kd.R_elder' (by (with_reducible repeat (fail)); exact HO_662001.out) (Kd.R_base ho0) hb); have n2_ := Aside0.mk (Kd.R_elder' (by (with_reducible repeat (fail)); exact HO_687001.out) (Kd.R_base ho0) hb); have n3_ := Aside0.mk (Kd.R_elder' (by (with_reducible repeat (fail)); exact HO_693001.out) (Kd.R_base ho0) hb); have n4_ := Aside0.mk (Kd.R_elder' (by (with_reducible repeat (fail)); exact HO_699001.out) (Kd.R_base ho0) hb); have n5_ := Aside0.mk (Kd.R_elder' (by (with_reducible repeat (fail)); exact HO702.out) (Kd.R_base ho0) hb); have n6_ := Aside0.mk (Kd.R_lower (Kd.R_new' (Kd.R_new' (Kd.R_new' (Kd.R_new' (Kd.R_new' (Kd.R_new' ho0 (Kd.R_lt (by (with_reducible repeat (fail)); exact HO_656001.out))) (Kd.R_lt (by (with_reducible repeat (fail)); exact HO_662001.out))) (Kd.R_lt (by (with_reducible repeat (fail)); exact HO_687001.out))) (Kd.R_lt (by (with_reducible repeat (fail)); exact HO_693001.out))) (Kd.R_lt (by (with_reducible repeat (fail)); exact HO_699001.out))) (Kd.R_lt (by (with_reducible repeat (fail)); exact HO702.out))) (below_size (by repeat ((with_reducible exact HB.out))))); have n7_ := Aside0.mk (blk_below (g := gb655) (o := .cells #[.int .i64 t650, .slice Ao17 t651.length co17] 39 (0, 0)) (by (with_reducible repeat (fail)); exact BK655.out) hb); have n8_ := Aside0.mk (blk_below (g := gb661) (o := .cells #[.int .i64 t656, .slice Ao22 t657.length co22] 39 (0, 0)) (by (with_reducible repeat (fail)); exact BK661.out) hb); have n9_ := Aside0.mk (blk_below (g := gb686) (o := .cells #[.int .i64 t682, .slice Ao110 t683.length co110] 39 (0, 0)) (by (with_reducible repeat (fail)); exact BK686.out) hb); have n10_ := Aside0.mk (blk_below (g := gb692) (o := .cells #[.int .i64 t687, .slice Ao117 t688.length co117] 39 (0, 0)) (by (with_reducible repeat (fail)); exact BK692.out) hb); have n11_ := Aside0.mk (blk_below (g := gb698) (o := .cells #[.int .i64 t693, .slice Ao126 t694.length co126] 39 (0, 0)) (by (with_reducible repeat (fail)); exact BK698.out) hb); have n12_ := Aside0.mk (below_step (by repeat ((with_reducible exact HB.out))) hb); clear HO_656001; clear HO_662001; clear HO_687001; clear HO_693001; clear HO_699001; clear HO702; clear BK655; clear BK661; clear BK686; clear BK692; clear BK698; clear HB; have HO_656001 := n0_; have HO_662001 := n1_; have HO_687001 := n2_; have HO_693001 := n3_; have HO_699001 := n4_; have HO702 := n5_; have HO706 := n6_; have BK655 := n7_; have BK661 := n8_; have BK686 := n9_; have BK692 := n10_; have BK698 := n11_; have HB := n12_; clear n0_ n1_ n2_ n3_ n4_ n5_ n6_ n7_ n8_ n9_ n10_ n11_ n12_; (try clear hb); (try clear hb2); (try clear hk); (try clear hi); (try clear ho0); have hcz156_0 : w155.cell? ⟨gb692, 0, none⟩ = some (.int .i64 t687) := (blk_cell BK692.out 0).trans rfl; have hcz156_1 : w155.cell? ⟨gb692, 1, none⟩ = some (.slice Ao117 t688.length co117) := (blk_cell BK692.out 1).trans rfl; have hfz156_0 := blk_frozen BK692.out 0; have hfz156_1 := blk_frozen BK692.out 1) | (go_at_call 31; (with_reducible refine (impl_OppositeGraph.calls kj103 t687 _ _ t688 t708 t709 t712 _ ?sideT ?side1 ?side2 A143.out).mono ?_); (case sideT => exact HT.out.below (by repeat ((with_reducible exact HB.out)))); (case side1 => repeat (exact (Kd.R_reads' HO_693001.out).2.2)); (case side2 => exact (Kd.R_reads' HO_693001.out).2.1); rintro e w157 ⟨v710, rfl, ho0, hb⟩; have n0_ := Aside0.mk (Kd.R_elder' (by (with_reducible repeat (fail)); exact HO_656001.out) (Kd.R_base ho0) hb); have n1_ := Aside0.mk (Kd.R_elder' (by (with_reducible repeat (fail)); exact HO_662001.out) (Kd.R_base ho0) hb); have n2_ := Aside0.mk (Kd.R_elder' (by (with_reducible repeat (fail)); exact HO_687001.out) (Kd.R_base ho0) hb); have n3_ := Aside0.mk (Kd.R_elder' (by (with_reducible repeat (fail)); exact HO_693001.out) (Kd.R_base ho0) hb); have n4_ := Aside0.mk (Kd.R_elder' (by (with_reducible repeat (fail)); exact HO_699001.out) (Kd.R_base ho0) hb); have n5_ := Aside0.mk (Kd.R_elder' (by (with_reducible repeat (fail)); exact HO702.out) (Kd.R_base ho0) hb); have n6_ := Aside0.mk (Kd.R_elder' (by (with_reducible repeat (fail)); exact HO706.out) (Kd.R_base ho0) hb); have n7_ := Aside0.mk (Kd.R_lower (Kd.R_new' (Kd.R_new' (Kd.R_new' (Kd.R_new' (Kd.R_new' (Kd.R_new' (Kd.R_new' ho0 (Kd.R_lt (by (with_reducible repeat (fail)); exact HO_656001.out))) (Kd.R_lt (by (with_reducible repeat (fail)); exact HO_662001.out))) (Kd.R_lt (by (with_reducible repeat (fail)); exact HO_687001.out))) (Kd.R_lt (by (with_reducible repeat (fail)); exact HO_693001.out))) (Kd.R_lt (by (with_reducible repeat (fail)); exact HO_699001.out))) (Kd.R_lt (by (with_reducible repeat (fail)); exact HO702.out))) (Kd.R_lt (by (with_reducible repeat (fail)); exact HO706.out))) (below_size (by repeat ((with_reducible exact HB.out))))); have n8_ := Aside0.mk (blk_below (g := gb655) (o := .cells #[.int .i64 t650, .slice Ao17 t651.length co17] 39 (0, 0)) (by (with_reducible repeat (fail)); exact BK655.out) hb); have n9_ := Aside0.mk (blk_below (g := gb661) (o := .cells #[.int .i64 t656, .slice Ao22 t657.length co22] 39 (0, 0)) (by (with_reducible repeat (fail)); exact BK661.out) hb); have n10_ := Aside0.mk (blk_below (g := gb686) (o := .cells #[.int .i64 t682, .slice Ao110 t683.length co110] 39 (0, 0)) (by (with_reducible repeat (fail)); exact BK686.out) hb); have n11_ := Aside0.mk (blk_below (g := gb692) (o := .cells #[.int .i64 t687, .slice Ao117 t688.length co117] 39 (0, 0)) (by (with_reducible repeat (fail)); exact BK692.out) hb); have n12_ := Aside0.mk (blk_below (g := gb698) (o := .cells #[.int .i64 t693, .slice Ao126 t694.length co126] 39 (0, 0)) (by (with_reducible repeat (fail)); exact BK698.out) hb); have n13_ := Aside0.mk (below_step (by repeat ((with_reducible exact HB.out))) hb); clear HO_656001; clear HO_662001; clear HO_687001; clear HO_693001; clear HO_699001; clear HO702; clear HO706; clear BK655; clear BK661; clear BK686; clear BK692; clear BK698; clear HB; have HO_656001 := n0_; have HO_662001 := n1_; have HO_687001 := n2_; have HO_693001 := n3_; have HO_699001 := n4_; have HO702 := n5_; have HO706 := n6_; have HO711 := n7_; have BK655 := n8_; have BK661 := n9_; have BK686 := n10_; have BK692 := n11_; have BK698 := n12_; have HB := n13_; clear n0_ n1_ n2_ n3_ n4_ n5_ n6_ n7_ n8_ n9_ n10_ n11_ n12_ n13_; (try clear hb); (try clear hb2); (try clear hk); (try clear hi); (try clear ho0)) | ((with_reducible refine gate_dst (N := 36) rfl ?_); refine box_event ?hg (N := 36) ?hd (cs := #[.int .i64 0, .slice none 0 0]) (t := 39) ?hr ?_; (case hd => rfl); (case hg => rfl); (case hr => first | (go_simp; done) | (go_simp; rfl)); intro gb713 hg w158 hbox hb; have n0_ := Aside0.mk (Kd.R_below (by (with_reducible repeat (fail)); exact HO_656001.out) hb); have n1_ := Aside0.mk (Kd.R_below (by (with_reducible repeat (fail)); exact HO_662001.out) hb); have n2_ := Aside0.mk (Kd.R_below (by (with_reducible repeat (fail)); exact HO_687001.out) hb); have n3_ := Aside0.mk (Kd.R_below (by (with_reducible repeat (fail)); exact HO_693001.out) hb); have n4_ := Aside0.mk (Kd.R_below (by (with_reducible repeat (fail)); exact HO_699001.out) hb); have n5_ := Aside0.mk (Kd.R_below (by (with_reducible repeat (fail)); exact HO702.out) hb); have n6_ := Aside0.mk (Kd.R_below (by (with_reducible repeat (fail)); exact HO706.out) hb); have n7_ := Aside0.mk (Kd.R_below (by (with_reducible repeat (fail)); exact HO711.out) hb); have n8_ := Aside0.mk (blk_below (g := gb655) (o := .cells #[.int .i64 t650, .slice Ao17 t651.length co17] 39 (0, 0)) (by (with_reducible repeat (fail)); exact BK655.out) hb); have n9_ := Aside0.mk (blk_below (g := gb661) (o := .cells #[.int .i64 t656, .slice Ao22 t657.length co22] 39 (0, 0)) (by (with_reducible repeat (fail)); exact BK661.out) hb); have n10_ := Aside0.mk (blk_below (g := gb686) (o := .cells #[.int .i64 t682, .slice Ao110 t683.length co110] 39 (0, 0)) (by (with_reducible repeat (fail)); exact BK686.out) hb); have n11_ := Aside0.mk (blk_below (g := gb692) (o := .cells #[.int .i64 t687, .slice Ao117 t688.length co117] 39 (0, 0)) (by (with_reducible repeat (fail)); exact BK692.out) hb); have n12_ := Aside0.mk (blk_below (g := gb698) (o := .cells #[.int .i64 t693, .slice Ao126 t694.length co126] 39 (0, 0)) (by (with_reducible repeat (fail)); exact BK698.out) hb); have n13_ := Aside0.mk (below_step (by repeat ((with_reducible exact HB.out))) hb); have n14_ := Aside0.mk (hbox); have n15_ := Aside0.mk ((by rw [hg]; exact (below_size (by repeat ((with_reducible exact HB.out)))) : w.heap.size ≤ gb713)); have n16_ := Aside0.mk ((by rw [hg]; exact (below_size (by repeat ((with_reducible exact HB.out)))) : w.heap.size ≤ gb713)); have n17_ := Aside0.mk ((by rw [hg]; exact Nat.ne_of_lt (blk_lt (g := gb655) (o := .cells #[.int .i64 t650, .slice Ao17 t651.length co17] 39 (0, 0)) (by (with_reducible repeat (fail)); exact BK655.out)) : gb655 ≠ gb713)); have n18_ := Aside0.mk ((by rw [hg]; exact Nat.ne_of_gt (blk_lt (g := gb655) (o := .cells #[.int .i64 t650, .slice Ao17 t651.length co17] 39 (0, 0)) (by (with_reducible repeat (fail)); exact BK655.out)) : gb713 ≠ gb655)); have n19_ := Aside0.mk ((by rw [hg]; exact Nat.ne_of_lt (blk_lt (g := gb661) (o := .cells #[.int .i64 t656, .slice Ao22 t657.length co22] 39 (0, 0)) (by (with_reducible repeat (fail)); exact BK661.out)) : gb661 ≠ gb713)); have n20_ := Aside0.mk ((by rw [hg]; exact Nat.ne_of_gt (blk_lt (g := gb661) (o := .cells #[.int .i64 t656, .slice Ao22 t657.length co22] 39 (0, 0)) (by (with_reducible repeat (fail)); exact BK661.out)) : gb713 ≠ gb661)); have n21_ := Aside0.mk ((by rw [hg]; exact Nat.ne_of_lt (blk_lt (g := gb686) (o := .cells #[.int .i64 t682, .slice Ao110 t683.length co110] 39 (0, 0)) (by (with_reducible repeat (fail)); exact BK686.out)) : gb686 ≠ gb713)); have n22_ := Aside0.mk ((by rw [hg]; exact Nat.ne_of_gt (blk_lt (g := gb686) (o := .cells #[.int .i64 t682, .slice Ao110 t683.length co110] 39 (0, 0)) (by (with_reducible repeat (fail)); exact BK686.out)) : gb713 ≠ gb686)); have n23_ := Aside0.mk ((by rw [hg]; exact Nat.ne_of_lt (blk_lt (g := gb692) (o := .cells #[.int .i64 t687, .slice Ao117 t688.length co117] 39 (0, 0)) (by (with_reducible repeat (fail)); exact BK692.out)) : gb692 ≠ gb713)); have n24_ := Aside0.mk ((by rw [hg]; exact Nat.ne_of_gt (blk_lt (g := gb692) (o := .cells #[.int .i64 t687, .slice Ao117 t688.length co117] 39 (0, 0)) (by (with_reducible repeat (fail)); exact BK692.out)) : gb713 ≠ gb692)); have n25_ := Aside0.mk ((by rw [hg]; exact Nat.ne_of_lt (blk_lt (g := gb698) (o := .cells #[.int .i64 t693, .slice Ao126 t694.length co126] 39 (0, 0)) (by (with_reducible repeat (fail)); exact BK698.out)) : gb698 ≠ gb713)); have n26_ := Aside0.mk ((by rw [hg]; exact Nat.ne_of_gt (blk_lt (g := gb698) (o := .cells #[.int .i64 t693, .slice Ao126 t694.length co126] 39 (0, 0)) (by (with_reducible repeat (fail)); exact BK698.out)) : gb713 ≠ gb698)); clear HO_656001; clear HO_662001; clear HO_687001; clear HO_693001; clear HO_699001; clear HO702; clear HO706; clear HO711; clear BK655; clear BK661; clear BK686; clear BK692; clear BK698; clear HB; have HO_656001 := n0_; have HO_662001 := n1_; have HO_687001 := n2_; have HO_693001 := n3_; have HO_699001 := n4_; have HO702 := n5_; have HO706 := n6_; have HO711 := n7_; have BK655 := n8_; have BK661 := n9_; have BK686 := n10_; have BK692 := n11_; have BK698 := n12_; have HB := n13_; have BK713 := n14_; have GW713 := n15_; have GE713 := n16_; have NB655_713 := n17_; have NB713_655 := n18_; have NB661_713 := n19_; have NB713_661 := n20_; have NB686_713 := n21_; have NB713_686 := n22_; have NB692_713 := n23_; have NB713_692 := n24_; have NB698_713 := n25_; have NB713_698 := n26_; clear n0_ n1_ n2_ n3_ n4_ n5_ n6_ n7_ n8_ n9_ n10_ n11_ n12_ n13_ n14_ n15_ n16_ n17_ n18_ n19_ n20_ n21_ n22_ n23_ n24_ n25_ n26_; clear hb hbox hg; have hnb159 := NB713_655.out; have hnc159 := NB655_713.out; have hnb160 := NB713_661.out; have hnc160 := NB661_713.out; have hnb161 := NB713_686.out; have hnc161 := NB686_713.out; have hnb162 := NB713_692.out; have hnc162 := NB692_713.out; have hnb163 := NB713_698.out; have hnc163 := NB698_713.out; have hcz164_0 : w158.cell? ⟨gb713, 0, none⟩ = some (.int .i64 0) := (blk_cell BK713.out 0).trans rfl; have hcz164_1 : w158.cell? ⟨gb713, 1, none⟩ = some (.slice none 0 0) := (blk_cell BK713.out 1).trans rfl; have hfz164_0 := blk_frozen BK713.out 0; have hfz164_1 := blk_frozen BK713.out 1; obtain ⟨Ao165, co165, eo165⟩ := Kd.R_slice HO711.out; subst eo165))
                    repeat (go_quiet (fail); go_upto_region 47 with (fail))
                    (try simp only [Act.put, List.setIfInBounds_toArray, List.set_cons_zero, List.set_cons_succ])
                    go_cut [232] (fun v232 wc => ∃ (kq : Nat) (x232_143 : Bool), v232 = .bool x232_143 ∧ Aside0 (laws_FnGraphsBuilt.j7 kq t700 t704 x232_143 t682 t683 = some r) ∧ Aside0 (kq ≤ kj103) ∧ Aside0 (Kd.R (Kd.int .i64) 3 wc w.heap.size (fun k_ => some k_ ≠ (v705 : Value).ownBlock ∧ some k_ ≠ ((.slice Ao17 t651.length co17) : Value).ownBlock ∧ some k_ ≠ ((.slice Ao22 t657.length co22) : Value).ownBlock ∧ some k_ ≠ ((.slice Ao110 t683.length co110) : Value).ownBlock ∧ some k_ ≠ ((.slice Ao117 t688.length co117) : Value).ownBlock ∧ some k_ ≠ ((.slice Ao126 t694.length co126) : Value).ownBlock ∧ some k_ ≠ ((.slice Ao165 t709.length co165) : Value).ownBlock) v701 t700) ∧ Aside0 (Kd.R (Kd.int .i64) 3 wc w.heap.size (fun k_ => some k_ ≠ (v701 : Value).ownBlock ∧ some k_ ≠ ((.slice Ao17 t651.length co17) : Value).ownBlock ∧ some k_ ≠ ((.slice Ao22 t657.length co22) : Value).ownBlock ∧ some k_ ≠ ((.slice Ao110 t683.length co110) : Value).ownBlock ∧ some k_ ≠ ((.slice Ao117 t688.length co117) : Value).ownBlock ∧ some k_ ≠ ((.slice Ao126 t694.length co126) : Value).ownBlock ∧ some k_ ≠ ((.slice Ao165 t709.length co165) : Value).ownBlock) v705 t704) ∧ Aside0 (Kd.R (Kd.int .i64) 3 wc w.heap.size (fun k_ => some k_ ≠ (v701 : Value).ownBlock ∧ some k_ ≠ (v705 : Value).ownBlock ∧ some k_ ≠ ((.slice Ao22 t657.length co22) : Value).ownBlock ∧ some k_ ≠ ((.slice Ao110 t683.length co110) : Value).ownBlock ∧ some k_ ≠ ((.slice Ao117 t688.length co117) : Value).ownBlock ∧ some k_ ≠ ((.slice Ao126 t694.length co126) : Value).ownBlock ∧ some k_ ≠ ((.slice Ao165 t709.length co165) : Value).ownBlock) (.slice Ao17 t651.length co17) t651) ∧ Aside0 (Kd.R (Kd.int .i64) 3 wc w.heap.size (fun k_ => some k_ ≠ (v701 : Value).ownBlock ∧ some k_ ≠ (v705 : Value).ownBlock ∧ some k_ ≠ ((.slice Ao17 t651.length co17) : Value).ownBlock ∧ some k_ ≠ ((.slice Ao110 t683.length co110) : Value).ownBlock ∧ some k_ ≠ ((.slice Ao117 t688.length co117) : Value).ownBlock ∧ some k_ ≠ ((.slice Ao126 t694.length co126) : Value).ownBlock ∧ some k_ ≠ ((.slice Ao165 t709.length co165) : Value).ownBlock) (.slice Ao22 t657.length co22) t657) ∧ Aside0 (Kd.R (Kd.int .i64) 3 wc w.heap.size (fun k_ => some k_ ≠ (v701 : Value).ownBlock ∧ some k_ ≠ (v705 : Value).ownBlock ∧ some k_ ≠ ((.slice Ao17 t651.length co17) : Value).ownBlock ∧ some k_ ≠ ((.slice Ao22 t657.length co22) : Value).ownBlock ∧ some k_ ≠ ((.slice Ao117 t688.length co117) : Value).ownBlock ∧ some k_ ≠ ((.slice Ao126 t694.length co126) : Value).ownBlock ∧ some k_ ≠ ((.slice Ao165 t709.length co165) : Value).ownBlock) (.slice Ao110 t683.length co110) t683) ∧ Aside0 (Kd.R (Kd.int .i64) 3 wc w.heap.size (fun k_ => some k_ ≠ (v701 : Value).ownBlock ∧ some k_ ≠ (v705 : Value).ownBlock ∧ some k_ ≠ ((.slice Ao17 t651.length co17) : Value).ownBlock ∧ some k_ ≠ ((.slice Ao22 t657.length co22) : Value).ownBlock ∧ some k_ ≠ ((.slice Ao110 t683.length co110) : Value).ownBlock ∧ some k_ ≠ ((.slice Ao126 t694.length co126) : Value).ownBlock ∧ some k_ ≠ ((.slice Ao165 t709.length co165) : Value).ownBlock) (.slice Ao117 t688.length co117) t688) ∧ Aside0 (Kd.R (Kd.int .i64) 3 wc w.heap.size (fun k_ => some k_ ≠ (v701 : Value).ownBlock ∧ some k_ ≠ (v705 : Value).ownBlock ∧ some k_ ≠ ((.slice Ao17 t651.length co17) : Value).ownBlock ∧ some k_ ≠ ((.slice Ao22 t657.length co22) : Value).ownBlock ∧ some k_ ≠ ((.slice Ao110 t683.length co110) : Value).ownBlock ∧ some k_ ≠ ((.slice Ao117 t688.length co117) : Value).ownBlock ∧ some k_ ≠ ((.slice Ao165 t709.length co165) : Value).ownBlock) (.slice Ao126 t694.length co126) t694) ∧ Aside0 (Kd.R (Kd.int .i64) 3 wc w.heap.size (fun k_ => some k_ ≠ (v701 : Value).ownBlock ∧ some k_ ≠ (v705 : Value).ownBlock ∧ some k_ ≠ ((.slice Ao17 t651.length co17) : Value).ownBlock ∧ some k_ ≠ ((.slice Ao22 t657.length co22) : Value).ownBlock ∧ some k_ ≠ ((.slice Ao110 t683.length co110) : Value).ownBlock ∧ some k_ ≠ ((.slice Ao117 t688.length co117) : Value).ownBlock ∧ some k_ ≠ ((.slice Ao126 t694.length co126) : Value).ownBlock) (.slice Ao165 t709.length co165) t709) ∧ Aside0 (wc.heap[gb655]? = some (.cells #[.int .i64 t650, (.slice Ao17 t651.length co17)] 39 (0, 0))) ∧ Aside0 (wc.heap[gb661]? = some (.cells #[.int .i64 t656, (.slice Ao22 t657.length co22)] 39 (0, 0))) ∧ Aside0 (wc.heap[gb686]? = some (.cells #[.int .i64 t682, (.slice Ao110 t683.length co110)] 39 (0, 0))) ∧ Aside0 (wc.heap[gb692]? = some (.cells #[.int .i64 t687, (.slice Ao117 t688.length co117)] 39 (0, 0))) ∧ Aside0 (wc.heap[gb698]? = some (.cells #[.int .i64 t693, (.slice Ao126 t694.length co126)] 39 (0, 0))) ∧ Aside0 (wc.heap[gb713]? = some (.cells #[.int .i64 t708, (.slice Ao165 t709.length co165)] 39 (0, 0))) ∧ Aside0 (Below w.heap.size w wc))
                    case first =>
                     as_aux_lemma =>
                      have H := HC144.out
                      clear HC144
                      by_cases c166 : t703 = true
                      ·
                       subst c166
                       have H1 : (if t707 = true then (if t712 = true then ((laws_yGraph.f kj103 t708 t709 t682 t683).bind fun t714 => (laws_FnGraphsBuilt.j7 kj103 t700 t704 (!t714) t682 t683)) else (laws_FnGraphsBuilt.j7 kj103 t700 t704 true t682 t683)) else (laws_FnGraphsBuilt.j7 kj103 t700 t704 true t682 t683)) = some r := by rw [if_pos rfl] at H; exact H
                       clear H
                       have H := H1
                       clear H1
                       by_cases c167 : t707 = true
                       ·
                        subst c167
                        have H1 : (if t712 = true then ((laws_yGraph.f kj103 t708 t709 t682 t683).bind fun t714 => (laws_FnGraphsBuilt.j7 kj103 t700 t704 (!t714) t682 t683)) else (laws_FnGraphsBuilt.j7 kj103 t700 t704 true t682 t683)) = some r := by rw [if_pos rfl] at H; exact H
                        clear H
                        have H := H1
                        clear H1
                        by_cases c168 : t712 = true
                        ·
                         subst c168
                         have H1 : ((laws_yGraph.f kj103 t708 t709 t682 t683).bind fun t714 => (laws_FnGraphsBuilt.j7 kj103 t700 t704 (!t714) t682 t683)) = some r := by rw [if_pos rfl] at H; exact H
                         clear H
                         have H := H1
                         clear H1
                         replace H := Option.bind_eq_some_iff.mp H
                         obtain ⟨t714, A1690, H⟩ := H
                         replace H : (laws_FnGraphsBuilt.j7 kj103 t700 t704 (!t714) t682 t683) = some r := H
                         have A169 := Aside0.mk A1690
                         clear A1690
                         have H' := Aside0.mk H
                         clear H
                         have hnb170 := NB713_655.out
                         have hnc170 := NB655_713.out
                         have hnb171 := NB713_661.out
                         have hnc171 := NB661_713.out
                         have hnb172 := NB713_686.out
                         have hnc172 := NB686_713.out
                         have hnb173 := NB713_692.out
                         have hnc173 := NB692_713.out
                         have hnb174 := NB713_698.out
                         have hnc174 := NB698_713.out
                         have hcz175_0 : w158.cell? ⟨gb713, 0, none⟩ = some (.int .i64 0) := (blk_cell BK713.out 0).trans rfl
                         have hcz175_1 : w158.cell? ⟨gb713, 1, none⟩ = some (.slice none 0 0) := (blk_cell BK713.out 1).trans rfl
                         have hfz175_0 := blk_frozen BK713.out 0
                         have hfz175_1 := blk_frozen BK713.out 1
                         have hnb176 := NB686_655.out
                         have hnc176 := NB655_686.out
                         have hnb177 := NB686_661.out
                         have hnc177 := NB661_686.out
                         have hnb178 := NB686_692.out
                         have hnc178 := NB692_686.out
                         have hnb179 := NB686_698.out
                         have hnc179 := NB698_686.out
                         have hcz180_0 : w158.cell? ⟨gb686, 0, none⟩ = some (.int .i64 t682) := (blk_cell BK686.out 0).trans rfl
                         have hcz180_1 : w158.cell? ⟨gb686, 1, none⟩ = some (.slice Ao110 t683.length co110) := (blk_cell BK686.out 1).trans rfl
                         have hfz180_0 := blk_frozen BK686.out 0
                         have hfz180_1 := blk_frozen BK686.out 1
                         go_wp2_with ((go_at_call 25; (with_reducible refine (laws_yGraph.calls kj103 t708 _ _ t709 t682 _ _ t683 t714 _ ?side1 ?side2 ?side3 ?side4 A169.out).mono ?_); (case side1 => refine (Kd.R_reads' (e := 3) (base := w.heap.size) (ok := fun k_ => (((((((True ∧ some k_ ≠ (.slice Ao17 t651.length co17 : Value).ownBlock) ∧ some k_ ≠ (.slice Ao22 t657.length co22 : Value).ownBlock) ∧ some k_ ≠ (.slice Ao110 t683.length co110 : Value).ownBlock) ∧ some k_ ≠ (.slice Ao117 t688.length co117 : Value).ownBlock) ∧ some k_ ≠ (.slice Ao126 t694.length co126 : Value).ownBlock) ∧ some k_ ≠ (v701 : Value).ownBlock) ∧ some k_ ≠ (v705 : Value).ownBlock)) (n := t709.length) (c := co165) ?_).2.2; exact (by (with_reducible repeat (fail)); exact (Kd.R_mono (Kd.R_far (p := ⟨gb713, 1, none⟩) (Kd.R_far (p := ⟨gb713, 0, none⟩) (Kd.R_types HO711.out BK713.out (by decide)) (fun _ hk => hk.2) (.int .i64 t708)) (fun _ hk => hk.2) (.slice Ao165 t709.length co165)) (fun _ h_ => h_.1)))); (case side2 => exact (Kd.R_reads' HO711.out).2.1); (case side3 => refine (Kd.R_reads' (e := 3) (base := w.heap.size) (ok := fun k_ => ((((some k_ ≠ (.slice Ao17 t651.length co17 : Value).ownBlock ∧ (some k_ ≠ (.slice Ao22 t657.length co22 : Value).ownBlock ∧ (some k_ ≠ (.slice Ao117 t688.length co117 : Value).ownBlock ∧ some k_ ≠ (.slice Ao126 t694.length co126 : Value).ownBlock))) ∧ some k_ ≠ (v701 : Value).ownBlock) ∧ some k_ ≠ (v705 : Value).ownBlock) ∧ some k_ ≠ (.slice Ao165 t709.length co165 : Value).ownBlock)) (n := t683.length) (c := co110) ?_).2.2; exact (by (with_reducible repeat (fail)); exact (Kd.R_mono (Kd.R_far (p := ⟨gb713, 1, none⟩) (Kd.R_far (p := ⟨gb713, 0, none⟩) (Kd.R_types HO_687001.out BK713.out (by decide)) (fun _ hk => hk.2) (.int .i64 t708)) (fun _ hk => hk.2) (.slice Ao165 t709.length co165)) (fun _ h_ => h_.1)))); (case side4 => exact (Kd.R_reads' HO_687001.out).2.1); rintro e w181 ⟨rfl, hb⟩; have n0_ := Aside0.mk (Kd.R_below (by (with_reducible repeat (fail)); exact (Kd.R_mono (Kd.R_far (p := ⟨gb713, 1, none⟩) (Kd.R_far (p := ⟨gb713, 0, none⟩) (Kd.R_types HO_656001.out BK713.out (by decide)) (fun _ hk => hk.2) (.int .i64 t708)) (fun _ hk => hk.2) (.slice Ao165 t709.length co165)) (fun _ h_ => h_.1))) hb); have n1_ := Aside0.mk (Kd.R_below (by (with_reducible repeat (fail)); exact (Kd.R_mono (Kd.R_far (p := ⟨gb713, 1, none⟩) (Kd.R_far (p := ⟨gb713, 0, none⟩) (Kd.R_types HO_662001.out BK713.out (by decide)) (fun _ hk => hk.2) (.int .i64 t708)) (fun _ hk => hk.2) (.slice Ao165 t709.length co165)) (fun _ h_ => h_.1))) hb); have n2_ := Aside0.mk (Kd.R_below (by (with_reducible repeat (fail)); exact (Kd.R_mono (Kd.R_far (p := ⟨gb713, 1, none⟩) (Kd.R_far (p := ⟨gb713, 0, none⟩) (Kd.R_types HO_687001.out BK713.out (by decide)) (fun _ hk => hk.2) (.int .i64 t708)) (fun _ hk => hk.2) (.slice Ao165 t709.length co165)) (fun _ h_ => h_.1))) hb); have n3_ := Aside0.mk (Kd.R_below (by (with_reducible repeat (fail)); exact (Kd.R_mono (Kd.R_far (p := ⟨gb713, 1, none⟩) (Kd.R_far (p := ⟨gb713, 0, none⟩) (Kd.R_types HO_693001.out BK713.out (by decide)) (fun _ hk => hk.2) (.int .i64 t708)) (fun _ hk => hk.2) (.slice Ao165 t709.length co165)) (fun _ h_ => h_.1))) hb); have n4_ := Aside0.mk (Kd.R_below (by (with_reducible repeat (fail)); exact (Kd.R_mono (Kd.R_far (p := ⟨gb713, 1, none⟩) (Kd.R_far (p := ⟨gb713, 0, none⟩) (Kd.R_types HO_699001.out BK713.out (by decide)) (fun _ hk => hk.2) (.int .i64 t708)) (fun _ hk => hk.2) (.slice Ao165 t709.length co165)) (fun _ h_ => h_.1))) hb); have n5_ := Aside0.mk (Kd.R_below (by (with_reducible repeat (fail)); exact (Kd.R_mono (Kd.R_far (p := ⟨gb713, 1, none⟩) (Kd.R_far (p := ⟨gb713, 0, none⟩) (Kd.R_types HO702.out BK713.out (by decide)) (fun _ hk => hk.2) (.int .i64 t708)) (fun _ hk => hk.2) (.slice Ao165 t709.length co165)) (fun _ h_ => h_.1))) hb); have n6_ := Aside0.mk (Kd.R_below (by (with_reducible repeat (fail)); exact (Kd.R_mono (Kd.R_far (p := ⟨gb713, 1, none⟩) (Kd.R_far (p := ⟨gb713, 0, none⟩) (Kd.R_types HO706.out BK713.out (by decide)) (fun _ hk => hk.2) (.int .i64 t708)) (fun _ hk => hk.2) (.slice Ao165 t709.length co165)) (fun _ h_ => h_.1))) hb); have n7_ := Aside0.mk (Kd.R_below (by (with_reducible repeat (fail)); exact (Kd.R_mono (Kd.R_far (p := ⟨gb713, 1, none⟩) (Kd.R_far (p := ⟨gb713, 0, none⟩) (Kd.R_types HO711.out BK713.out (by decide)) (fun _ hk => hk.2) (.int .i64 t708)) (fun _ hk => hk.2) (.slice Ao165 t709.length co165)) (fun _ h_ => h_.1))) hb); have n8_ := Aside0.mk (blk_below (g := gb655) (o := .cells #[.int .i64 t650, .slice Ao17 t651.length co17] 39 (0, 0)) (by (with_reducible repeat (fail)); refine blk_far ?_ NB655_713.out _; (with_reducible repeat (fail)); refine blk_far ?_ NB655_713.out _; (with_reducible repeat (fail)); exact BK655.out) hb); have n9_ := Aside0.mk (blk_below (g := gb661) (o := .cells #[.int .i64 t656, .slice Ao22 t657.length co22] 39 (0, 0)) (by (with_reducible repeat (fail)); refine blk_far ?_ NB661_713.out _; (with_reducible repeat (fail)); refine blk_far ?_ NB661_713.out _; (with_reducible repeat (fail)); exact BK661.out) hb); have n10_ := Aside0.mk (blk_below (g := gb686) (o := .cells #[.int .i64 t682, .slice Ao110 t683.length co110] 39 (0, 0)) (by (with_reducible repeat (fail)); refine blk_far ?_ NB686_713.out _; (with_reducible repeat (fail)); refine blk_far ?_ NB686_713.out _; (with_reducible repeat (fail)); exact BK686.out) hb); have n11_ := Aside0.mk (blk_below (g := gb692) (o := .cells #[.int .i64 t687, .slice Ao117 t688.length co117] 39 (0, 0)) (by (with_reducible repeat (fail)); refine blk_far ?_ NB692_713.out _; (with_reducible repeat (fail)); refine blk_far ?_ NB692_713.out _; (with_reducible repeat (fail)); exact BK692.out) hb); have n12_ := Aside0.mk (blk_below (g := gb698) (o := .cells #[.int .i64 t693, .slice Ao126 t694.length co126] 39 (0, 0)) (by (with_reducible repeat (fail)); refine blk_far ?_ NB698_713.out _; (with_reducible repeat (fail)); refine blk_far ?_ NB698_713.out _; (with_reducible repeat (fail)); exact BK698.out) hb); have n13_ := Aside0.mk (blk_below (g := gb713) (o := .cells #[.int .i64 t708, .slice Ao165 t709.length co165] 39 (0, 0)) (by (with_reducible repeat (fail)); refine blk_put (cs := #[.int .i64 t708, .slice none 0 0]) ?_ 1 _ rfl; (with_reducible repeat (fail)); refine blk_put (cs := #[.int .i64 0, .slice none 0 0]) ?_ 0 _ rfl; (with_reducible repeat (fail)); exact BK713.out) hb); have n14_ := Aside0.mk (below_step (by repeat ((with_reducible first | exact HB.out | refine below_set ?_ GE713.out))) hb); clear HO_656001; clear HO_662001; clear HO_687001; clear HO_693001; clear HO_699001; clear HO702; clear HO706; clear HO711; clear BK655; clear BK661; clear BK686; clear BK692; clear BK698; clear BK713; clear HB; have HO_656001 := n0_; have HO_662001 := n1_; have HO_687001 := n2_; have HO_693001 := n3_; have HO_699001 := n4_; have HO702 := n5_; have HO706 := n6_; have HO711 := n7_; have BK655 := n8_; have BK661 := n9_; have BK686 := n10_; have BK692 := n11_; have BK698 := n12_; have BK713 := n13_; have HB := n14_; clear n0_ n1_ n2_ n3_ n4_ n5_ n6_ n7_ n8_ n9_ n10_ n11_ n12_ n13_ n14_; (try clear hb); (try clear hb2); (try clear hk); (try clear hi)))
                         repeat (go_quiet (fail); try go_wp2_with (fail))
                         go_meet
                         case rel => exact ⟨_, (!t714), (by first | rfl | (simp; done) | (simp [*]; done)), H', ⟨by have := HJ10.out; have := HJ53.out; have := HJ61.out; have := HJ88.out; have := HJ103.out; first | omega | exact Nat.le_refl _⟩, ⟨by (with_reducible repeat (fail)); exact Kd.R_mono HO702.out (fun _ hk => ⟨hk.1.2, ⟨hk.1.1.1.1.1.1.2, ⟨hk.1.1.1.1.1.2, ⟨hk.1.1.1.1.2, ⟨hk.1.1.1.2, ⟨hk.1.1.2, hk.2⟩⟩⟩⟩⟩⟩)⟩, ⟨by (with_reducible repeat (fail)); exact Kd.R_mono HO706.out (fun _ hk => ⟨hk.1.2, ⟨hk.1.1.1.1.1.1.2, ⟨hk.1.1.1.1.1.2, ⟨hk.1.1.1.1.2, ⟨hk.1.1.1.2, ⟨hk.1.1.2, hk.2⟩⟩⟩⟩⟩⟩)⟩, ⟨by (with_reducible repeat (fail)); exact Kd.R_mono HO_656001.out (fun _ hk => ⟨hk.1.1.2, ⟨hk.1.2, ⟨hk.1.1.1.1, ⟨hk.1.1.1.2.1, ⟨hk.1.1.1.2.2.1, ⟨hk.1.1.1.2.2.2, hk.2⟩⟩⟩⟩⟩⟩)⟩, ⟨by (with_reducible repeat (fail)); exact Kd.R_mono HO_662001.out (fun _ hk => ⟨hk.1.1.2, ⟨hk.1.2, ⟨hk.1.1.1.1, ⟨hk.1.1.1.2.1, ⟨hk.1.1.1.2.2.1, ⟨hk.1.1.1.2.2.2, hk.2⟩⟩⟩⟩⟩⟩)⟩, ⟨by (with_reducible repeat (fail)); exact Kd.R_mono HO_687001.out (fun _ hk => ⟨hk.1.1.2, ⟨hk.1.2, ⟨hk.1.1.1.1, ⟨hk.1.1.1.2.1, ⟨hk.1.1.1.2.2.1, ⟨hk.1.1.1.2.2.2, hk.2⟩⟩⟩⟩⟩⟩)⟩, ⟨by (with_reducible repeat (fail)); exact Kd.R_mono HO_693001.out (fun _ hk => ⟨hk.1.1.2, ⟨hk.1.2, ⟨hk.1.1.1.1, ⟨hk.1.1.1.2.1, ⟨hk.1.1.1.2.2.1, ⟨hk.1.1.1.2.2.2, hk.2⟩⟩⟩⟩⟩⟩)⟩, ⟨by (with_reducible repeat (fail)); exact Kd.R_mono HO_699001.out (fun _ hk => ⟨hk.1.1.2, ⟨hk.1.2, ⟨hk.1.1.1.1, ⟨hk.1.1.1.2.1, ⟨hk.1.1.1.2.2.1, ⟨hk.1.1.1.2.2.2, hk.2⟩⟩⟩⟩⟩⟩)⟩, ⟨by (with_reducible repeat (fail)); exact Kd.R_mono HO711.out (fun _ hk => ⟨hk.1.2, ⟨hk.2, ⟨hk.1.1.1.1.1.1.2, ⟨hk.1.1.1.1.1.2, ⟨hk.1.1.1.1.2, ⟨hk.1.1.1.2, hk.1.1.2⟩⟩⟩⟩⟩⟩)⟩, ⟨by (with_reducible repeat (fail)); exact BK655.out⟩, ⟨by (with_reducible repeat (fail)); exact BK661.out⟩, ⟨by (with_reducible repeat (fail)); exact BK686.out⟩, ⟨by (with_reducible repeat (fail)); exact BK692.out⟩, ⟨by (with_reducible repeat (fail)); exact BK698.out⟩, ⟨by (with_reducible repeat (fail)); exact BK713.out⟩, ⟨by repeat ((with_reducible exact HB.out))⟩⟩
                        ·
                         replace c168 := Bool.eq_false_iff.mpr c168
                         subst c168
                         have H1 : (laws_FnGraphsBuilt.j7 kj103 t700 t704 true t682 t683) = some r := by rw [if_neg (show ¬ (false = true) by decide)] at H; exact H
                         clear H
                         have H := H1
                         clear H1
                         have H' := Aside0.mk H
                         clear H
                         go_wp2
                         repeat (go_quiet (fail); try go_wp2)
                         go_meet
                         case rel => exact ⟨_, (true), (by first | rfl | (simp; done) | (simp [*]; done)), H', ⟨by have := HJ10.out; have := HJ53.out; have := HJ61.out; have := HJ88.out; have := HJ103.out; first | omega | exact Nat.le_refl _⟩, ⟨by (with_reducible repeat (fail)); exact Kd.R_mono (Kd.R_far (p := ⟨gb713, 1, none⟩) (Kd.R_far (p := ⟨gb713, 0, none⟩) (Kd.R_types HO702.out BK713.out (by decide)) (fun _ hk => hk.2) (.int .i64 t708)) (fun _ hk => hk.2) (.slice Ao165 t709.length co165)) (fun _ hk => ⟨hk.1.1.2, ⟨hk.1.1.1.1.1.1.1.2, ⟨hk.1.1.1.1.1.1.2, ⟨hk.1.1.1.1.1.2, ⟨hk.1.1.1.1.2, ⟨hk.1.1.1.2, hk.1.2⟩⟩⟩⟩⟩⟩)⟩, ⟨by (with_reducible repeat (fail)); exact Kd.R_mono (Kd.R_far (p := ⟨gb713, 1, none⟩) (Kd.R_far (p := ⟨gb713, 0, none⟩) (Kd.R_types HO706.out BK713.out (by decide)) (fun _ hk => hk.2) (.int .i64 t708)) (fun _ hk => hk.2) (.slice Ao165 t709.length co165)) (fun _ hk => ⟨hk.1.1.2, ⟨hk.1.1.1.1.1.1.1.2, ⟨hk.1.1.1.1.1.1.2, ⟨hk.1.1.1.1.1.2, ⟨hk.1.1.1.1.2, ⟨hk.1.1.1.2, hk.1.2⟩⟩⟩⟩⟩⟩)⟩, ⟨by (with_reducible repeat (fail)); exact Kd.R_mono (Kd.R_far (p := ⟨gb713, 1, none⟩) (Kd.R_far (p := ⟨gb713, 0, none⟩) (Kd.R_types HO_656001.out BK713.out (by decide)) (fun _ hk => hk.2) (.int .i64 t708)) (fun _ hk => hk.2) (.slice Ao165 t709.length co165)) (fun _ hk => ⟨hk.1.1.1.2, ⟨hk.1.1.2, ⟨hk.1.1.1.1.1, ⟨hk.1.1.1.1.2.1, ⟨hk.1.1.1.1.2.2.1, ⟨hk.1.1.1.1.2.2.2, hk.1.2⟩⟩⟩⟩⟩⟩)⟩, ⟨by (with_reducible repeat (fail)); exact Kd.R_mono (Kd.R_far (p := ⟨gb713, 1, none⟩) (Kd.R_far (p := ⟨gb713, 0, none⟩) (Kd.R_types HO_662001.out BK713.out (by decide)) (fun _ hk => hk.2) (.int .i64 t708)) (fun _ hk => hk.2) (.slice Ao165 t709.length co165)) (fun _ hk => ⟨hk.1.1.1.2, ⟨hk.1.1.2, ⟨hk.1.1.1.1.1, ⟨hk.1.1.1.1.2.1, ⟨hk.1.1.1.1.2.2.1, ⟨hk.1.1.1.1.2.2.2, hk.1.2⟩⟩⟩⟩⟩⟩)⟩, ⟨by (with_reducible repeat (fail)); exact Kd.R_mono (Kd.R_far (p := ⟨gb713, 1, none⟩) (Kd.R_far (p := ⟨gb713, 0, none⟩) (Kd.R_types HO_687001.out BK713.out (by decide)) (fun _ hk => hk.2) (.int .i64 t708)) (fun _ hk => hk.2) (.slice Ao165 t709.length co165)) (fun _ hk => ⟨hk.1.1.1.2, ⟨hk.1.1.2, ⟨hk.1.1.1.1.1, ⟨hk.1.1.1.1.2.1, ⟨hk.1.1.1.1.2.2.1, ⟨hk.1.1.1.1.2.2.2, hk.1.2⟩⟩⟩⟩⟩⟩)⟩, ⟨by (with_reducible repeat (fail)); exact Kd.R_mono (Kd.R_far (p := ⟨gb713, 1, none⟩) (Kd.R_far (p := ⟨gb713, 0, none⟩) (Kd.R_types HO_693001.out BK713.out (by decide)) (fun _ hk => hk.2) (.int .i64 t708)) (fun _ hk => hk.2) (.slice Ao165 t709.length co165)) (fun _ hk => ⟨hk.1.1.1.2, ⟨hk.1.1.2, ⟨hk.1.1.1.1.1, ⟨hk.1.1.1.1.2.1, ⟨hk.1.1.1.1.2.2.1, ⟨hk.1.1.1.1.2.2.2, hk.1.2⟩⟩⟩⟩⟩⟩)⟩, ⟨by (with_reducible repeat (fail)); exact Kd.R_mono (Kd.R_far (p := ⟨gb713, 1, none⟩) (Kd.R_far (p := ⟨gb713, 0, none⟩) (Kd.R_types HO_699001.out BK713.out (by decide)) (fun _ hk => hk.2) (.int .i64 t708)) (fun _ hk => hk.2) (.slice Ao165 t709.length co165)) (fun _ hk => ⟨hk.1.1.1.2, ⟨hk.1.1.2, ⟨hk.1.1.1.1.1, ⟨hk.1.1.1.1.2.1, ⟨hk.1.1.1.1.2.2.1, ⟨hk.1.1.1.1.2.2.2, hk.1.2⟩⟩⟩⟩⟩⟩)⟩, ⟨by (with_reducible repeat (fail)); exact Kd.R_mono (Kd.R_far (p := ⟨gb713, 1, none⟩) (Kd.R_far (p := ⟨gb713, 0, none⟩) (Kd.R_types HO711.out BK713.out (by decide)) (fun _ hk => hk.2) (.int .i64 t708)) (fun _ hk => hk.2) (.slice Ao165 t709.length co165)) (fun _ hk => ⟨hk.1.1.2, ⟨hk.1.2, ⟨hk.1.1.1.1.1.1.1.2, ⟨hk.1.1.1.1.1.1.2, ⟨hk.1.1.1.1.1.2, ⟨hk.1.1.1.1.2, hk.1.1.1.2⟩⟩⟩⟩⟩⟩)⟩, ⟨by (with_reducible repeat (fail)); refine blk_far ?_ NB655_713.out _; (with_reducible repeat (fail)); refine blk_far ?_ NB655_713.out _; (with_reducible repeat (fail)); exact BK655.out⟩, ⟨by (with_reducible repeat (fail)); refine blk_far ?_ NB661_713.out _; (with_reducible repeat (fail)); refine blk_far ?_ NB661_713.out _; (with_reducible repeat (fail)); exact BK661.out⟩, ⟨by (with_reducible repeat (fail)); refine blk_far ?_ NB686_713.out _; (with_reducible repeat (fail)); refine blk_far ?_ NB686_713.out _; (with_reducible repeat (fail)); exact BK686.out⟩, ⟨by (with_reducible repeat (fail)); refine blk_far ?_ NB692_713.out _; (with_reducible repeat (fail)); refine blk_far ?_ NB692_713.out _; (with_reducible repeat (fail)); exact BK692.out⟩, ⟨by (with_reducible repeat (fail)); refine blk_far ?_ NB698_713.out _; (with_reducible repeat (fail)); refine blk_far ?_ NB698_713.out _; (with_reducible repeat (fail)); exact BK698.out⟩, ⟨by (with_reducible repeat (fail)); refine blk_put (cs := #[.int .i64 t708, .slice none 0 0]) ?_ 1 _ rfl; (with_reducible repeat (fail)); refine blk_put (cs := #[.int .i64 0, .slice none 0 0]) ?_ 0 _ rfl; (with_reducible repeat (fail)); exact BK713.out⟩, ⟨by repeat ((with_reducible first | exact HB.out | refine below_set ?_ GE713.out))⟩⟩
                       ·
                        replace c167 := Bool.eq_false_iff.mpr c167
                        subst c167
                        have H1 : (laws_FnGraphsBuilt.j7 kj103 t700 t704 true t682 t683) = some r := by rw [if_neg (show ¬ (false = true) by decide)] at H; exact H
                        clear H
                        have H := H1
                        clear H1
                        have H' := Aside0.mk H
                        clear H
                        go_wp2
                        repeat (go_quiet (fail); try go_wp2)
                        go_meet
                        case rel => exact ⟨_, (true), (by first | rfl | (simp; done) | (simp [*]; done)), H', ⟨by have := HJ10.out; have := HJ53.out; have := HJ61.out; have := HJ88.out; have := HJ103.out; first | omega | exact Nat.le_refl _⟩, ⟨by (with_reducible repeat (fail)); exact Kd.R_mono (Kd.R_far (p := ⟨gb713, 1, none⟩) (Kd.R_far (p := ⟨gb713, 0, none⟩) (Kd.R_types HO702.out BK713.out (by decide)) (fun _ hk => hk.2) (.int .i64 t708)) (fun _ hk => hk.2) (.slice Ao165 t709.length co165)) (fun _ hk => ⟨hk.1.1.2, ⟨hk.1.1.1.1.1.1.1.2, ⟨hk.1.1.1.1.1.1.2, ⟨hk.1.1.1.1.1.2, ⟨hk.1.1.1.1.2, ⟨hk.1.1.1.2, hk.1.2⟩⟩⟩⟩⟩⟩)⟩, ⟨by (with_reducible repeat (fail)); exact Kd.R_mono (Kd.R_far (p := ⟨gb713, 1, none⟩) (Kd.R_far (p := ⟨gb713, 0, none⟩) (Kd.R_types HO706.out BK713.out (by decide)) (fun _ hk => hk.2) (.int .i64 t708)) (fun _ hk => hk.2) (.slice Ao165 t709.length co165)) (fun _ hk => ⟨hk.1.1.2, ⟨hk.1.1.1.1.1.1.1.2, ⟨hk.1.1.1.1.1.1.2, ⟨hk.1.1.1.1.1.2, ⟨hk.1.1.1.1.2, ⟨hk.1.1.1.2, hk.1.2⟩⟩⟩⟩⟩⟩)⟩, ⟨by (with_reducible repeat (fail)); exact Kd.R_mono (Kd.R_far (p := ⟨gb713, 1, none⟩) (Kd.R_far (p := ⟨gb713, 0, none⟩) (Kd.R_types HO_656001.out BK713.out (by decide)) (fun _ hk => hk.2) (.int .i64 t708)) (fun _ hk => hk.2) (.slice Ao165 t709.length co165)) (fun _ hk => ⟨hk.1.1.1.2, ⟨hk.1.1.2, ⟨hk.1.1.1.1.1, ⟨hk.1.1.1.1.2.1, ⟨hk.1.1.1.1.2.2.1, ⟨hk.1.1.1.1.2.2.2, hk.1.2⟩⟩⟩⟩⟩⟩)⟩, ⟨by (with_reducible repeat (fail)); exact Kd.R_mono (Kd.R_far (p := ⟨gb713, 1, none⟩) (Kd.R_far (p := ⟨gb713, 0, none⟩) (Kd.R_types HO_662001.out BK713.out (by decide)) (fun _ hk => hk.2) (.int .i64 t708)) (fun _ hk => hk.2) (.slice Ao165 t709.length co165)) (fun _ hk => ⟨hk.1.1.1.2, ⟨hk.1.1.2, ⟨hk.1.1.1.1.1, ⟨hk.1.1.1.1.2.1, ⟨hk.1.1.1.1.2.2.1, ⟨hk.1.1.1.1.2.2.2, hk.1.2⟩⟩⟩⟩⟩⟩)⟩, ⟨by (with_reducible repeat (fail)); exact Kd.R_mono (Kd.R_far (p := ⟨gb713, 1, none⟩) (Kd.R_far (p := ⟨gb713, 0, none⟩) (Kd.R_types HO_687001.out BK713.out (by decide)) (fun _ hk => hk.2) (.int .i64 t708)) (fun _ hk => hk.2) (.slice Ao165 t709.length co165)) (fun _ hk => ⟨hk.1.1.1.2, ⟨hk.1.1.2, ⟨hk.1.1.1.1.1, ⟨hk.1.1.1.1.2.1, ⟨hk.1.1.1.1.2.2.1, ⟨hk.1.1.1.1.2.2.2, hk.1.2⟩⟩⟩⟩⟩⟩)⟩, ⟨by (with_reducible repeat (fail)); exact Kd.R_mono (Kd.R_far (p := ⟨gb713, 1, none⟩) (Kd.R_far (p := ⟨gb713, 0, none⟩) (Kd.R_types HO_693001.out BK713.out (by decide)) (fun _ hk => hk.2) (.int .i64 t708)) (fun _ hk => hk.2) (.slice Ao165 t709.length co165)) (fun _ hk => ⟨hk.1.1.1.2, ⟨hk.1.1.2, ⟨hk.1.1.1.1.1, ⟨hk.1.1.1.1.2.1, ⟨hk.1.1.1.1.2.2.1, ⟨hk.1.1.1.1.2.2.2, hk.1.2⟩⟩⟩⟩⟩⟩)⟩, ⟨by (with_reducible repeat (fail)); exact Kd.R_mono (Kd.R_far (p := ⟨gb713, 1, none⟩) (Kd.R_far (p := ⟨gb713, 0, none⟩) (Kd.R_types HO_699001.out BK713.out (by decide)) (fun _ hk => hk.2) (.int .i64 t708)) (fun _ hk => hk.2) (.slice Ao165 t709.length co165)) (fun _ hk => ⟨hk.1.1.1.2, ⟨hk.1.1.2, ⟨hk.1.1.1.1.1, ⟨hk.1.1.1.1.2.1, ⟨hk.1.1.1.1.2.2.1, ⟨hk.1.1.1.1.2.2.2, hk.1.2⟩⟩⟩⟩⟩⟩)⟩, ⟨by (with_reducible repeat (fail)); exact Kd.R_mono (Kd.R_far (p := ⟨gb713, 1, none⟩) (Kd.R_far (p := ⟨gb713, 0, none⟩) (Kd.R_types HO711.out BK713.out (by decide)) (fun _ hk => hk.2) (.int .i64 t708)) (fun _ hk => hk.2) (.slice Ao165 t709.length co165)) (fun _ hk => ⟨hk.1.1.2, ⟨hk.1.2, ⟨hk.1.1.1.1.1.1.1.2, ⟨hk.1.1.1.1.1.1.2, ⟨hk.1.1.1.1.1.2, ⟨hk.1.1.1.1.2, hk.1.1.1.2⟩⟩⟩⟩⟩⟩)⟩, ⟨by (with_reducible repeat (fail)); refine blk_far ?_ NB655_713.out _; (with_reducible repeat (fail)); refine blk_far ?_ NB655_713.out _; (with_reducible repeat (fail)); exact BK655.out⟩, ⟨by (with_reducible repeat (fail)); refine blk_far ?_ NB661_713.out _; (with_reducible repeat (fail)); refine blk_far ?_ NB661_713.out _; (with_reducible repeat (fail)); exact BK661.out⟩, ⟨by (with_reducible repeat (fail)); refine blk_far ?_ NB686_713.out _; (with_reducible repeat (fail)); refine blk_far ?_ NB686_713.out _; (with_reducible repeat (fail)); exact BK686.out⟩, ⟨by (with_reducible repeat (fail)); refine blk_far ?_ NB692_713.out _; (with_reducible repeat (fail)); refine blk_far ?_ NB692_713.out _; (with_reducible repeat (fail)); exact BK692.out⟩, ⟨by (with_reducible repeat (fail)); refine blk_far ?_ NB698_713.out _; (with_reducible repeat (fail)); refine blk_far ?_ NB698_713.out _; (with_reducible repeat (fail)); exact BK698.out⟩, ⟨by (with_reducible repeat (fail)); refine blk_put (cs := #[.int .i64 t708, .slice none 0 0]) ?_ 1 _ rfl; (with_reducible repeat (fail)); refine blk_put (cs := #[.int .i64 0, .slice none 0 0]) ?_ 0 _ rfl; (with_reducible repeat (fail)); exact BK713.out⟩, ⟨by repeat ((with_reducible first | exact HB.out | refine below_set ?_ GE713.out))⟩⟩
                      ·
                       replace c166 := Bool.eq_false_iff.mpr c166
                       subst c166
                       have H1 : (laws_FnGraphsBuilt.j7 kj103 t700 t704 true t682 t683) = some r := by rw [if_neg (show ¬ (false = true) by decide)] at H; exact H
                       clear H
                       have H := H1
                       clear H1
                       have H' := Aside0.mk H
                       clear H
                       go_wp2
                       repeat (go_quiet (fail); try go_wp2)
                       go_meet
                       case rel => exact ⟨_, (true), (by first | rfl | (simp; done) | (simp [*]; done)), H', ⟨by have := HJ10.out; have := HJ53.out; have := HJ61.out; have := HJ88.out; have := HJ103.out; first | omega | exact Nat.le_refl _⟩, ⟨by (with_reducible repeat (fail)); exact Kd.R_mono (Kd.R_far (p := ⟨gb713, 1, none⟩) (Kd.R_far (p := ⟨gb713, 0, none⟩) (Kd.R_types HO702.out BK713.out (by decide)) (fun _ hk => hk.2) (.int .i64 t708)) (fun _ hk => hk.2) (.slice Ao165 t709.length co165)) (fun _ hk => ⟨hk.1.1.2, ⟨hk.1.1.1.1.1.1.1.2, ⟨hk.1.1.1.1.1.1.2, ⟨hk.1.1.1.1.1.2, ⟨hk.1.1.1.1.2, ⟨hk.1.1.1.2, hk.1.2⟩⟩⟩⟩⟩⟩)⟩, ⟨by (with_reducible repeat (fail)); exact Kd.R_mono (Kd.R_far (p := ⟨gb713, 1, none⟩) (Kd.R_far (p := ⟨gb713, 0, none⟩) (Kd.R_types HO706.out BK713.out (by decide)) (fun _ hk => hk.2) (.int .i64 t708)) (fun _ hk => hk.2) (.slice Ao165 t709.length co165)) (fun _ hk => ⟨hk.1.1.2, ⟨hk.1.1.1.1.1.1.1.2, ⟨hk.1.1.1.1.1.1.2, ⟨hk.1.1.1.1.1.2, ⟨hk.1.1.1.1.2, ⟨hk.1.1.1.2, hk.1.2⟩⟩⟩⟩⟩⟩)⟩, ⟨by (with_reducible repeat (fail)); exact Kd.R_mono (Kd.R_far (p := ⟨gb713, 1, none⟩) (Kd.R_far (p := ⟨gb713, 0, none⟩) (Kd.R_types HO_656001.out BK713.out (by decide)) (fun _ hk => hk.2) (.int .i64 t708)) (fun _ hk => hk.2) (.slice Ao165 t709.length co165)) (fun _ hk => ⟨hk.1.1.1.2, ⟨hk.1.1.2, ⟨hk.1.1.1.1.1, ⟨hk.1.1.1.1.2.1, ⟨hk.1.1.1.1.2.2.1, ⟨hk.1.1.1.1.2.2.2, hk.1.2⟩⟩⟩⟩⟩⟩)⟩, ⟨by (with_reducible repeat (fail)); exact Kd.R_mono (Kd.R_far (p := ⟨gb713, 1, none⟩) (Kd.R_far (p := ⟨gb713, 0, none⟩) (Kd.R_types HO_662001.out BK713.out (by decide)) (fun _ hk => hk.2) (.int .i64 t708)) (fun _ hk => hk.2) (.slice Ao165 t709.length co165)) (fun _ hk => ⟨hk.1.1.1.2, ⟨hk.1.1.2, ⟨hk.1.1.1.1.1, ⟨hk.1.1.1.1.2.1, ⟨hk.1.1.1.1.2.2.1, ⟨hk.1.1.1.1.2.2.2, hk.1.2⟩⟩⟩⟩⟩⟩)⟩, ⟨by (with_reducible repeat (fail)); exact Kd.R_mono (Kd.R_far (p := ⟨gb713, 1, none⟩) (Kd.R_far (p := ⟨gb713, 0, none⟩) (Kd.R_types HO_687001.out BK713.out (by decide)) (fun _ hk => hk.2) (.int .i64 t708)) (fun _ hk => hk.2) (.slice Ao165 t709.length co165)) (fun _ hk => ⟨hk.1.1.1.2, ⟨hk.1.1.2, ⟨hk.1.1.1.1.1, ⟨hk.1.1.1.1.2.1, ⟨hk.1.1.1.1.2.2.1, ⟨hk.1.1.1.1.2.2.2, hk.1.2⟩⟩⟩⟩⟩⟩)⟩, ⟨by (with_reducible repeat (fail)); exact Kd.R_mono (Kd.R_far (p := ⟨gb713, 1, none⟩) (Kd.R_far (p := ⟨gb713, 0, none⟩) (Kd.R_types HO_693001.out BK713.out (by decide)) (fun _ hk => hk.2) (.int .i64 t708)) (fun _ hk => hk.2) (.slice Ao165 t709.length co165)) (fun _ hk => ⟨hk.1.1.1.2, ⟨hk.1.1.2, ⟨hk.1.1.1.1.1, ⟨hk.1.1.1.1.2.1, ⟨hk.1.1.1.1.2.2.1, ⟨hk.1.1.1.1.2.2.2, hk.1.2⟩⟩⟩⟩⟩⟩)⟩, ⟨by (with_reducible repeat (fail)); exact Kd.R_mono (Kd.R_far (p := ⟨gb713, 1, none⟩) (Kd.R_far (p := ⟨gb713, 0, none⟩) (Kd.R_types HO_699001.out BK713.out (by decide)) (fun _ hk => hk.2) (.int .i64 t708)) (fun _ hk => hk.2) (.slice Ao165 t709.length co165)) (fun _ hk => ⟨hk.1.1.1.2, ⟨hk.1.1.2, ⟨hk.1.1.1.1.1, ⟨hk.1.1.1.1.2.1, ⟨hk.1.1.1.1.2.2.1, ⟨hk.1.1.1.1.2.2.2, hk.1.2⟩⟩⟩⟩⟩⟩)⟩, ⟨by (with_reducible repeat (fail)); exact Kd.R_mono (Kd.R_far (p := ⟨gb713, 1, none⟩) (Kd.R_far (p := ⟨gb713, 0, none⟩) (Kd.R_types HO711.out BK713.out (by decide)) (fun _ hk => hk.2) (.int .i64 t708)) (fun _ hk => hk.2) (.slice Ao165 t709.length co165)) (fun _ hk => ⟨hk.1.1.2, ⟨hk.1.2, ⟨hk.1.1.1.1.1.1.1.2, ⟨hk.1.1.1.1.1.1.2, ⟨hk.1.1.1.1.1.2, ⟨hk.1.1.1.1.2, hk.1.1.1.2⟩⟩⟩⟩⟩⟩)⟩, ⟨by (with_reducible repeat (fail)); refine blk_far ?_ NB655_713.out _; (with_reducible repeat (fail)); refine blk_far ?_ NB655_713.out _; (with_reducible repeat (fail)); exact BK655.out⟩, ⟨by (with_reducible repeat (fail)); refine blk_far ?_ NB661_713.out _; (with_reducible repeat (fail)); refine blk_far ?_ NB661_713.out _; (with_reducible repeat (fail)); exact BK661.out⟩, ⟨by (with_reducible repeat (fail)); refine blk_far ?_ NB686_713.out _; (with_reducible repeat (fail)); refine blk_far ?_ NB686_713.out _; (with_reducible repeat (fail)); exact BK686.out⟩, ⟨by (with_reducible repeat (fail)); refine blk_far ?_ NB692_713.out _; (with_reducible repeat (fail)); refine blk_far ?_ NB692_713.out _; (with_reducible repeat (fail)); exact BK692.out⟩, ⟨by (with_reducible repeat (fail)); refine blk_far ?_ NB698_713.out _; (with_reducible repeat (fail)); refine blk_far ?_ NB698_713.out _; (with_reducible repeat (fail)); exact BK698.out⟩, ⟨by (with_reducible repeat (fail)); refine blk_put (cs := #[.int .i64 t708, .slice none 0 0]) ?_ 1 _ rfl; (with_reducible repeat (fail)); refine blk_put (cs := #[.int .i64 0, .slice none 0 0]) ?_ 0 _ rfl; (with_reducible repeat (fail)); exact BK713.out⟩, ⟨by repeat ((with_reducible first | exact HB.out | refine below_set ?_ GE713.out))⟩⟩
                    case rest =>
                     as_aux_lemma =>
                      clear HC144
                      clear hcz149_0 hcz149_1 hcz154_0 hcz154_1 hcz156_0 hcz156_1 hcz164_0 hcz164_1 hfz149_0 hfz149_1 hfz154_0 hfz154_1 hfz156_0 hfz156_1 hfz164_0 hfz164_1
                      obtain ⟨kq, x232_143, rfl, HA, HJ143, HO_32, HO_34, HO_656001, HO_662001, HO_687001, HO_693001, HO_699001, HO_714001, BK655, BK661, BK686, BK692, BK698, BK713, HB⟩ := hcut
                      cases kq with
                      | zero => exact absurd HA.out (by simp [laws_FnGraphsBuilt.j7])
                      | succ kj143 =>
                       have H := HA.out
                       clear HA
                       simp only [laws_FnGraphsBuilt.j7] at H
                       by_cases c182 : x232_143 = true
                       ·
                        subst c182
                        have H1 : (some false) = some r := by rw [if_pos rfl] at H; exact H
                        clear H
                        have H := H1
                        clear H1
                        obtain rfl := Option.some.inj H
                        go_wp2
                        repeat (go_quiet (fail); try go_wp2)
                        go_ret
                        exact ⟨by first | rfl | (simp [errW_none, errW_some] <;> rfl) | (simp [*, errW_none, errW_some] <;> rfl), by repeat ((with_reducible exact HB.out))⟩
                       ·
                        replace c182 := Bool.eq_false_iff.mpr c182
                        subst c182
                        have H1 : (laws_FnGraphsBuilt.l2 kj143 t700 t704 (t700.length : Int) 0 t682 t683) = some r := by rw [if_neg (show ¬ (false = true) by decide)] at H; exact H
                        clear H
                        have H := H1
                        clear H1
                        have H' := Aside0.mk H
                        clear H
                        obtain ⟨Ao183, co183, eo183⟩ := Kd.R_slice HO_32.out
                        subst eo183
                        go_wp2
                        repeat (go_quiet (fail); try go_wp2)
                        go_loopg [235] kj143 (fun kq v235 w' => ∃ (x235_7 : Int), v235 = .int .i64 x235_7 ∧ Aside0 (laws_FnGraphsBuilt.l2 kq t700 t704 (t700.length : Int) x235_7 t682 t683 = some r) ∧ Aside0 (kq ≤ kj143) ∧ Aside0 (Kd.R (Kd.int .i64) 3 w' w.heap.size (fun k_ => some k_ ≠ (v705 : Value).ownBlock ∧ some k_ ≠ ((.slice Ao17 t651.length co17) : Value).ownBlock ∧ some k_ ≠ ((.slice Ao22 t657.length co22) : Value).ownBlock ∧ some k_ ≠ ((.slice Ao110 t683.length co110) : Value).ownBlock ∧ some k_ ≠ ((.slice Ao117 t688.length co117) : Value).ownBlock ∧ some k_ ≠ ((.slice Ao126 t694.length co126) : Value).ownBlock ∧ some k_ ≠ ((.slice Ao165 t709.length co165) : Value).ownBlock) (.slice Ao183 t700.length co183) t700) ∧ Aside0 (Kd.R (Kd.int .i64) 3 w' w.heap.size (fun k_ => some k_ ≠ ((.slice Ao183 t700.length co183) : Value).ownBlock ∧ some k_ ≠ ((.slice Ao17 t651.length co17) : Value).ownBlock ∧ some k_ ≠ ((.slice Ao22 t657.length co22) : Value).ownBlock ∧ some k_ ≠ ((.slice Ao110 t683.length co110) : Value).ownBlock ∧ some k_ ≠ ((.slice Ao117 t688.length co117) : Value).ownBlock ∧ some k_ ≠ ((.slice Ao126 t694.length co126) : Value).ownBlock ∧ some k_ ≠ ((.slice Ao165 t709.length co165) : Value).ownBlock) v705 t704) ∧ Aside0 (Kd.R (Kd.int .i64) 3 w' w.heap.size (fun k_ => some k_ ≠ ((.slice Ao183 t700.length co183) : Value).ownBlock ∧ some k_ ≠ (v705 : Value).ownBlock ∧ some k_ ≠ ((.slice Ao22 t657.length co22) : Value).ownBlock ∧ some k_ ≠ ((.slice Ao110 t683.length co110) : Value).ownBlock ∧ some k_ ≠ ((.slice Ao117 t688.length co117) : Value).ownBlock ∧ some k_ ≠ ((.slice Ao126 t694.length co126) : Value).ownBlock ∧ some k_ ≠ ((.slice Ao165 t709.length co165) : Value).ownBlock) (.slice Ao17 t651.length co17) t651) ∧ Aside0 (Kd.R (Kd.int .i64) 3 w' w.heap.size (fun k_ => some k_ ≠ ((.slice Ao183 t700.length co183) : Value).ownBlock ∧ some k_ ≠ (v705 : Value).ownBlock ∧ some k_ ≠ ((.slice Ao17 t651.length co17) : Value).ownBlock ∧ some k_ ≠ ((.slice Ao110 t683.length co110) : Value).ownBlock ∧ some k_ ≠ ((.slice Ao117 t688.length co117) : Value).ownBlock ∧ some k_ ≠ ((.slice Ao126 t694.length co126) : Value).ownBlock ∧ some k_ ≠ ((.slice Ao165 t709.length co165) : Value).ownBlock) (.slice Ao22 t657.length co22) t657) ∧ Aside0 (Kd.R (Kd.int .i64) 3 w' w.heap.size (fun k_ => some k_ ≠ ((.slice Ao183 t700.length co183) : Value).ownBlock ∧ some k_ ≠ (v705 : Value).ownBlock ∧ some k_ ≠ ((.slice Ao17 t651.length co17) : Value).ownBlock ∧ some k_ ≠ ((.slice Ao22 t657.length co22) : Value).ownBlock ∧ some k_ ≠ ((.slice Ao117 t688.length co117) : Value).ownBlock ∧ some k_ ≠ ((.slice Ao126 t694.length co126) : Value).ownBlock ∧ some k_ ≠ ((.slice Ao165 t709.length co165) : Value).ownBlock) (.slice Ao110 t683.length co110) t683) ∧ Aside0 (Kd.R (Kd.int .i64) 3 w' w.heap.size (fun k_ => some k_ ≠ ((.slice Ao183 t700.length co183) : Value).ownBlock ∧ some k_ ≠ (v705 : Value).ownBlock ∧ some k_ ≠ ((.slice Ao17 t651.length co17) : Value).ownBlock ∧ some k_ ≠ ((.slice Ao22 t657.length co22) : Value).ownBlock ∧ some k_ ≠ ((.slice Ao110 t683.length co110) : Value).ownBlock ∧ some k_ ≠ ((.slice Ao126 t694.length co126) : Value).ownBlock ∧ some k_ ≠ ((.slice Ao165 t709.length co165) : Value).ownBlock) (.slice Ao117 t688.length co117) t688) ∧ Aside0 (Kd.R (Kd.int .i64) 3 w' w.heap.size (fun k_ => some k_ ≠ ((.slice Ao183 t700.length co183) : Value).ownBlock ∧ some k_ ≠ (v705 : Value).ownBlock ∧ some k_ ≠ ((.slice Ao17 t651.length co17) : Value).ownBlock ∧ some k_ ≠ ((.slice Ao22 t657.length co22) : Value).ownBlock ∧ some k_ ≠ ((.slice Ao110 t683.length co110) : Value).ownBlock ∧ some k_ ≠ ((.slice Ao117 t688.length co117) : Value).ownBlock ∧ some k_ ≠ ((.slice Ao165 t709.length co165) : Value).ownBlock) (.slice Ao126 t694.length co126) t694) ∧ Aside0 (Kd.R (Kd.int .i64) 3 w' w.heap.size (fun k_ => some k_ ≠ ((.slice Ao183 t700.length co183) : Value).ownBlock ∧ some k_ ≠ (v705 : Value).ownBlock ∧ some k_ ≠ ((.slice Ao17 t651.length co17) : Value).ownBlock ∧ some k_ ≠ ((.slice Ao22 t657.length co22) : Value).ownBlock ∧ some k_ ≠ ((.slice Ao110 t683.length co110) : Value).ownBlock ∧ some k_ ≠ ((.slice Ao117 t688.length co117) : Value).ownBlock ∧ some k_ ≠ ((.slice Ao126 t694.length co126) : Value).ownBlock) (.slice Ao165 t709.length co165) t709) ∧ Aside0 (w'.heap[gb655]? = some (.cells #[.int .i64 t650, (.slice Ao17 t651.length co17)] 39 (0, 0))) ∧ Aside0 (w'.heap[gb661]? = some (.cells #[.int .i64 t656, (.slice Ao22 t657.length co22)] 39 (0, 0))) ∧ Aside0 (w'.heap[gb686]? = some (.cells #[.int .i64 t682, (.slice Ao110 t683.length co110)] 39 (0, 0))) ∧ Aside0 (w'.heap[gb692]? = some (.cells #[.int .i64 t687, (.slice Ao117 t688.length co117)] 39 (0, 0))) ∧ Aside0 (w'.heap[gb698]? = some (.cells #[.int .i64 t693, (.slice Ao126 t694.length co126)] 39 (0, 0))) ∧ Aside0 (w'.heap[gb713]? = some (.cells #[.int .i64 t708, (.slice Ao165 t709.length co165)] 39 (0, 0))) ∧ Aside0 (Below w.heap.size w w'))
                        case atStart => exact ⟨(0), (by first | rfl | (simp; done) | (simp [*]; done)), H', ⟨Nat.le_refl _⟩, ⟨by (with_reducible repeat (fail)); exact HO_32.out⟩, ⟨by (with_reducible repeat (fail)); exact HO_34.out⟩, ⟨by (with_reducible repeat (fail)); exact HO_656001.out⟩, ⟨by (with_reducible repeat (fail)); exact HO_662001.out⟩, ⟨by (with_reducible repeat (fail)); exact HO_687001.out⟩, ⟨by (with_reducible repeat (fail)); exact HO_693001.out⟩, ⟨by (with_reducible repeat (fail)); exact HO_699001.out⟩, ⟨by (with_reducible repeat (fail)); exact HO_714001.out⟩, ⟨by (with_reducible repeat (fail)); exact BK655.out⟩, ⟨by (with_reducible repeat (fail)); exact BK661.out⟩, ⟨by (with_reducible repeat (fail)); exact BK686.out⟩, ⟨by (with_reducible repeat (fail)); exact BK692.out⟩, ⟨by (with_reducible repeat (fail)); exact BK698.out⟩, ⟨by (with_reducible repeat (fail)); exact BK713.out⟩, ⟨by repeat ((with_reducible exact HB.out))⟩⟩
                        case round =>
                         as_aux_lemma =>
                          clear H'
                          obtain ⟨x235_7, rfl, HA, HK7, HO_32, HO_34, HO_656001, HO_662001, HO_687001, HO_693001, HO_699001, HO_714001, BK655, BK661, BK686, BK692, BK698, BK713, HB⟩ := hrel
                          cases gk with
                          | zero => exact absurd HA.out (by simp [laws_FnGraphsBuilt.l2])
                          | succ k7 =>
                           have H := HA.out
                           clear HA
                           simp only [laws_FnGraphsBuilt.l2] at H
                           by_cases c184 : x235_7 < (t700.length : Int)
                           ·
                            rw [if_pos c184] at H
                            have c184b0 : decide (x235_7 < (t700.length : Int)) = true := decide_eq_true c184
                            clear c184
                            by_cases c185 : 0 ≤ x235_7
                            ·
                             rw [if_pos c185] at H
                             have c185b0 : decide (0 ≤ x235_7) = true := decide_eq_true c185
                             clear c185
                             by_cases c186 : x235_7 < (t700.length : Int)
                             ·
                              rw [if_pos c186] at H
                              have c186b0 : decide (x235_7 < (t700.length : Int)) = true := decide_eq_true c186
                              clear c186
                              by_cases c187 : x235_7 < (t704.length : Int)
                              ·
                               rw [if_pos c187] at H
                               have c187b0 : decide (x235_7 < (t704.length : Int)) = true := decide_eq_true c187
                               clear c187
                               by_cases c188 : (wrap64 ((rd t700 x235_7) + (rd t704 x235_7))) = (wrap64 (t682 - 1))
                               ·
                                rw [if_pos c188] at H
                                have c188b0 : ((wrap64 ((rd t700 x235_7) + (rd t704 x235_7))) == (wrap64 (t682 - 1))) = true := beq_iff_eq.mpr c188
                                have c188b1 : ((wrap64 ((rd t700 x235_7) + (rd t704 x235_7))) != (wrap64 (t682 - 1))) = false := bne_eq_false_iff_eq.mpr c188
                                clear c188
                                have H' := Aside0.mk H
                                clear H
                                have p715 : 0 ≤ (x235_7 : Int) := of_decide_eq_true (by first | (with_reducible assumption) | assumption)
                                have q715 : x235_7 < (t700.length : Int) := of_decide_eq_true (by first | (with_reducible assumption) | assumption)
                                obtain ⟨ad715, e715, hx715_0⟩ := Kd.at_int (Kd.R_reads' HO_32.out).2.2 x235_7 p715 q715
                                cases e715
                                replace p715 := eq_true p715
                                replace q715 := eq_true q715
                                obtain ⟨Ao189, co189, eo189⟩ := Kd.R_slice HO_34.out
                                subst eo189
                                have p716 : 0 ≤ (x235_7 : Int) := of_decide_eq_true (by first | (with_reducible assumption) | assumption)
                                have q716 : x235_7 < (t704.length : Int) := of_decide_eq_true (by first | (with_reducible assumption) | assumption)
                                obtain ⟨ad716, e716, hx716_0⟩ := Kd.at_int (Kd.R_reads' HO_34.out).2.2 x235_7 p716 q716
                                cases e716
                                replace p716 := eq_true p716
                                replace q716 := eq_true q716
                                have hnb190 := NB686_655.out
                                have hnc190 := NB655_686.out
                                have hnb191 := NB686_661.out
                                have hnc191 := NB661_686.out
                                have hnb192 := NB686_692.out
                                have hnc192 := NB692_686.out
                                have hnb193 := NB686_698.out
                                have hnc193 := NB698_686.out
                                have hnb194 := NB686_713.out
                                have hnc194 := NB713_686.out
                                have hcz195_0 : wr.cell? ⟨gb686, 0, none⟩ = some (.int .i64 t682) := (blk_cell BK686.out 0).trans rfl
                                have hcz195_1 : wr.cell? ⟨gb686, 1, none⟩ = some (.slice Ao110 t683.length co110) := (blk_cell BK686.out 1).trans rfl
                                have hfz195_0 := blk_frozen BK686.out 0
                                have hfz195_1 := blk_frozen BK686.out 1
                                go_wp2
                                repeat (go_quiet (fail); try go_wp2)
                                go_roundg k7
                                case measure => have := HJ10.out; have := HJ53.out; have := HJ61.out; have := HJ88.out; have := HJ103.out; have := HJ143.out; have := HK7.out; omega
                                case rel => exact ⟨(wrap64 (x235_7 + 1)), (by first | rfl | (simp; done) | (simp [*]; done)), H', ⟨by have := HJ10.out; have := HJ53.out; have := HJ61.out; have := HJ88.out; have := HJ103.out; have := HJ143.out; have := HK7.out; omega⟩, ⟨by (with_reducible repeat (apply Kd.R_drewN)); exact HO_32.out⟩, ⟨by (with_reducible repeat (apply Kd.R_drewN)); exact HO_34.out⟩, ⟨by (with_reducible repeat (apply Kd.R_drewN)); exact HO_656001.out⟩, ⟨by (with_reducible repeat (apply Kd.R_drewN)); exact HO_662001.out⟩, ⟨by (with_reducible repeat (apply Kd.R_drewN)); exact HO_687001.out⟩, ⟨by (with_reducible repeat (apply Kd.R_drewN)); exact HO_693001.out⟩, ⟨by (with_reducible repeat (apply Kd.R_drewN)); exact HO_699001.out⟩, ⟨by (with_reducible repeat (apply Kd.R_drewN)); exact HO_714001.out⟩, ⟨by (with_reducible repeat (refine blk_drewN ?_ _)); exact BK655.out⟩, ⟨by (with_reducible repeat (refine blk_drewN ?_ _)); exact BK661.out⟩, ⟨by (with_reducible repeat (refine blk_drewN ?_ _)); exact BK686.out⟩, ⟨by (with_reducible repeat (refine blk_drewN ?_ _)); exact BK692.out⟩, ⟨by (with_reducible repeat (refine blk_drewN ?_ _)); exact BK698.out⟩, ⟨by (with_reducible repeat (refine blk_drewN ?_ _)); exact BK713.out⟩, ⟨by repeat ((with_reducible first | exact HB.out | apply pw_below_drewN))⟩⟩
                               ·
                                rw [if_neg c188] at H
                                have c188b0 : ((wrap64 ((rd t700 x235_7) + (rd t704 x235_7))) == (wrap64 (t682 - 1))) = false := beq_eq_false_iff_ne.mpr c188
                                have c188b1 : ((wrap64 ((rd t700 x235_7) + (rd t704 x235_7))) != (wrap64 (t682 - 1))) = true := bne_iff_ne.mpr c188
                                obtain rfl := Option.some.inj H
                                have p715 : 0 ≤ (x235_7 : Int) := of_decide_eq_true (by first | (with_reducible assumption) | assumption)
                                have q715 : x235_7 < (t700.length : Int) := of_decide_eq_true (by first | (with_reducible assumption) | assumption)
                                obtain ⟨ad715, e715, hx715_0⟩ := Kd.at_int (Kd.R_reads' HO_32.out).2.2 x235_7 p715 q715
                                cases e715
                                replace p715 := eq_true p715
                                replace q715 := eq_true q715
                                obtain ⟨Ao196, co196, eo196⟩ := Kd.R_slice HO_34.out
                                subst eo196
                                have p716 : 0 ≤ (x235_7 : Int) := of_decide_eq_true (by first | (with_reducible assumption) | assumption)
                                have q716 : x235_7 < (t704.length : Int) := of_decide_eq_true (by first | (with_reducible assumption) | assumption)
                                obtain ⟨ad716, e716, hx716_0⟩ := Kd.at_int (Kd.R_reads' HO_34.out).2.2 x235_7 p716 q716
                                cases e716
                                replace p716 := eq_true p716
                                replace q716 := eq_true q716
                                have hnb197 := NB686_655.out
                                have hnc197 := NB655_686.out
                                have hnb198 := NB686_661.out
                                have hnc198 := NB661_686.out
                                have hnb199 := NB686_692.out
                                have hnc199 := NB692_686.out
                                have hnb200 := NB686_698.out
                                have hnc200 := NB698_686.out
                                have hnb201 := NB686_713.out
                                have hnc201 := NB713_686.out
                                have hcz202_0 : wr.cell? ⟨gb686, 0, none⟩ = some (.int .i64 t682) := (blk_cell BK686.out 0).trans rfl
                                have hcz202_1 : wr.cell? ⟨gb686, 1, none⟩ = some (.slice Ao110 t683.length co110) := (blk_cell BK686.out 1).trans rfl
                                have hfz202_0 := blk_frozen BK686.out 0
                                have hfz202_1 := blk_frozen BK686.out 1
                                go_wp2
                                repeat (go_quiet (fail); try go_wp2)
                                go_ret
                                exact ⟨by first | rfl | (simp [errW_none, errW_some] <;> rfl) | (simp [*, errW_none, errW_some] <;> rfl), by repeat ((with_reducible first | exact HB.out | apply pw_below_drewN))⟩
                              ·
                               rw [if_neg c187] at H
                               exact absurd H (by simp)
                             ·
                              rw [if_neg c186] at H
                              exact absurd H (by simp)
                            ·
                             rw [if_neg c185] at H
                             exact absurd H (by simp)
                           ·
                            rw [if_neg c184] at H
                            have c184b0 : decide (x235_7 < (t700.length : Int)) = false := decide_eq_false c184
                            clear c184
                            obtain rfl := Option.some.inj H
                            go_wp2
                            repeat (go_quiet (fail); try go_wp2)
                            go_ret
                            exact ⟨by first | rfl | (simp [errW_none, errW_some] <;> rfl) | (simp [*, errW_none, errW_some] <;> rfl), by repeat ((with_reducible exact HB.out))⟩
                   ·
                    replace c140 := Bool.eq_false_iff.mpr c140
                    subst c140
                    have H1 : (some true) = some r := by rw [if_neg (show ¬ (false = true) by decide)] at H; exact H
                    clear H
                    have H := H1
                    clear H1
                    obtain rfl := Option.some.inj H
                    go_wp2
                    repeat (go_quiet (fail); try go_wp2)
                    go_ret
                    exact ⟨by first | rfl | (simp [errW_none, errW_some] <;> rfl) | (simp [*, errW_none, errW_some] <;> rfl), by repeat ((with_reducible exact HB.out))⟩
def laws_FnGraphsBuilt.Pure : Prop := ∀ (l0 : List Int) (l1 : List Int), l0.length ≤ maxLen → l0.length * 1 ≤ 140737488351232 → (∀ x ∈ l0, (Lit.int .u8 x).wf = true) → l1.length ≤ maxLen → l1.length * 1 ≤ 140737488351232 → (∀ x ∈ l1, (Lit.int .u8 x).wf = true) → ∃ k, laws_FnGraphsBuilt.f k l0 l1 = some true
end Go.Proofs.YtcheoendfcgjgaaDoor.P
namespace Go.Proofs.YtcheoendfcgjgaaDoor.K
open Go.RowKit Go.Proofs.YtcheoendfcgjgaaDoorW.PrintWords Go.Proofs.YtcheoendfcgjgaaDoorW.PrintMore
theorem getD_extG {a b : List Int} (h : a.length = b.length) (hg : ∀ x, a.getD x 0 = b.getD x 0) : a = b := by
  apply List.ext_getElem h
  intro x h1 h2
  have := hg x
  rw [List.getD_eq_getElem?_getD, List.getD_eq_getElem?_getD, List.getElem?_eq_getElem h1, List.getElem?_eq_getElem h2] at this
  exact this
theorem sets_extG {n : Nat} {a b : List Nat} (ha : Sets n a) (hb : Sets n b) (h : ∀ x y, nb a x y = nb b x y) : a = b := by
  apply List.ext_getElem (by rw [ha.len, hb.len])
  intro x h1 h2
  have e1 : a[x] = a.getD x 0 := by rw [List.getD_eq_getElem?_getD, List.getElem?_eq_getElem h1]; rfl
  have e2 : b[x] = b.getD x 0 := by rw [List.getD_eq_getElem?_getD, List.getElem?_eq_getElem h2]; rfl
  rw [e1, e2]
  exact Nat.eq_of_testBit_eq (fun y => h x y)
end Go.Proofs.YtcheoendfcgjgaaDoor.K
namespace Go.Proofs.YtcheoendfcgjgaaDoor.K
open Go.RowKit Go.Proofs.YtcheoendfcgjgaaDoorW.PrintWords Go.Proofs.YtcheoendfcgjgaaDoorW.PrintMore Go.Proofs.YtcheoendfcgjgaaDoor.P
theorem map_getD (l : List Int) : ((List.range l.length).map fun x => l.getD x 0) = l := by
  apply getD_extG (by simp)
  intro x
  rw [List.getD_eq_getElem?_getD, List.getElem?_map]
  by_cases hx : x < l.length
  · rw [List.getElem?_range hx]; rfl
  · rw [List.getElem?_eq_none (by simp; omega), List.getD_eq_getElem?_getD, List.getElem?_eq_none (by omega)]; rfl
theorem own_intsG (y : List Int) (h : y.length ≤ 1000) : spec_l1Own.f y = some y := by
  unfold spec_l1Own.f
  simp only [Option.bind_some, List.nil_append]
  rw [if_pos (by simp; omega)]
theorem intsG_append (a b : List Nat) : ints (a ++ b) = ints a ++ ints b := by simp [ints]
theorem sg_l1 {n : Nat} (i : Nat) (hi : i < n) (h8 : n ≤ 8) (r : Int × List Int × Bool) : ∀ (o2 o1 : List Nat) (nd : List Int) (ns : List Nat), Sets n ns → nd.length = n → 0 ≤ nd.getD i 0 → nd.getD i 0 ≤ 100 → o2.Pairwise (fore nd) → (∀ x, x < n → ((x ≠ i ∧ x ∉ o1) ↔ x ∈ o2)) → o2.Nodup → (∀ x ∈ o2, x < n) →
    (nd.getD i 0).toNat ≤ o2.length → (∀ x ∈ o2.take (nd.getD i 0).toNat, 0 < nd.getD x 0) → o1.length + o2.length ≤ 50 →
    Ev (fun k => spec_BuildGraph.l2 k (nd.set i 0) (ints (o1 ++ o2.take (nd.getD i 0).toNat)) ((o1 ++ o2.take (nd.getD i 0).toNat).length : Int) 0 n (ints (orAll i (o2.take (nd.getD i 0).toNat) ns))) r → Ev (fun k => spec_BuildGraph.l1 k nd i (ints (i :: o1)) n (ints ns)) r := by
  have stop : ∀ (o1 : List Nat) (nd : List Int) (ns : List Nat), nd.length = n → nd.getD i 0 = 0 → Ev (fun k => spec_BuildGraph.l2 k (nd.set i 0) (ints o1) (o1.length : Int) 0 n (ints ns)) r → Ev (fun k => spec_BuildGraph.l1 k nd i (ints (i :: o1)) n (ints ns)) r := by
    intro o1 nd ns hl h0 hr
    have e : nd.set i 0 = nd := getD_extG (by simp) (fun x => by
      rw [getD_setG _ _ _ _ (by omega)]
      by_cases c : x = i
      · subst c; rw [if_pos rfl, h0]
      · rw [if_neg c])
    rw [e] at hr
    refine Ev.step (fun k => ?_) hr
    have e2 : (ints (i :: o1)).drop 1 = ints o1 := rfl
    rw [spec_BuildGraph.l1, if_pos (by omega), if_pos (by omega), rdG, if_neg (by omega), if_pos (by rw [ints_length, List.length_cons]; omega), e2, Option.bind_some, ints_length]
  intro o2
  induction o2 with
  | nil =>
    intro o1 nd ns hS hl h0 h1 hP hM hN hL hle hpos hlen hr
    have e : (nd.getD i 0).toNat = 0 := Nat.le_zero.1 hle
    refine stop o1 nd ns hl (by omega) (by simpa [orAll] using hr)
  | cons j o2 ih =>
    intro o1 nd ns hS hl h0 h1 hP hM hN hL hle hpos hlen hr
    by_cases hz : nd.getD i 0 = 0
    · rw [hz] at hr
      exact stop o1 nd ns hl hz (by simpa [orAll] using hr)
    · obtain ⟨t, ht⟩ : ∃ t, (nd.getD i 0).toNat = t + 1 := ⟨(nd.getD i 0).toNat - 1, by omega⟩
      obtain ⟨p1, p2⟩ := List.pairwise_cons.1 hP
      obtain ⟨q1, q2⟩ := List.nodup_cons.1 hN
      have hjn : j < n := hL j List.mem_cons_self
      obtain ⟨hji, hjo⟩ := (hM j hjn).2 List.mem_cons_self
      rw [ht, List.take_succ_cons] at hpos hr
      have hnx : Ev (fun k => spec_deMost.f k nd (ints (i :: o1))) (j : Int) := by
        refine deMost_f nd (i :: o1) (by omega) (by simp at hlen ⊢; omega) j (by omega) ⟨hpos j List.mem_cons_self, by simp [hji, hjo]⟩ (fun x hx hE => ?_)
        have hx2 := hE.2
        simp only [List.mem_cons, not_or] at hx2
        rcases List.mem_cons.1 ((hM x (by omega)).1 hx2) with rfl | c
        · exact .inr ⟨rfl, Nat.le_refl _⟩
        · exact p1 x c
      have hne : ∀ x ∈ o2, x ≠ i := fun x hx => ((hM x (hL x (List.mem_cons_of_mem _ hx))).2 (List.mem_cons_of_mem _ hx)).1
      have hw : wrap64 (nd.getD i 0 - 1) = nd.getD i 0 - 1 := by unfold wrap64; omega
      have hil : i < nd.length := by omega
      refine Ev.step (fun k => by rw [spec_BuildGraph.l1, if_pos (show (0 : Int) ≤ (i : Int) by omega), if_pos (show (i : Int) < (nd.length : Int) by omega), rdG, if_pos (show nd.getD i 0 > 0 by omega)]) (Ev.bind hnx ?_)
      simp only [if_pos (show (ints (i :: o1)).length < 17592186044416 by rw [ints_length]; simp at hlen ⊢; omega), deJoin_f hS i j hi hjn, Option.bind_some, hw, Int.toNat_natCast]
      have e1 : ints (i :: o1) ++ [(j : Int)] = ints (i :: (o1 ++ [j])) := by rw [show i :: (o1 ++ [j]) = (i :: o1) ++ [j] by simp, intsG_append]; rfl
      rw [e1]
      have eg : (nd.set i (nd.getD i 0 - 1)).getD i 0 = nd.getD i 0 - 1 := by rw [getD_setG _ _ _ _ hil, if_pos rfl]
      have eo : ∀ x ∈ o2, (nd.set i (nd.getD i 0 - 1)).getD x 0 = nd.getD x 0 := fun x hx => by rw [getD_setG _ _ _ _ hil, if_neg (hne x hx)]
      have et : (nd.getD i 0 - 1).toNat = t := by omega
      refine ih (o1 ++ [j]) (nd.set i (nd.getD i 0 - 1)) _ (orN_char hS i j hi hjn).1 (by rw [List.length_set, hl]) (by rw [eg]; omega) (by rw [eg]; omega) ?_ (fun x hx => ?_) q2 (fun x hx => hL x (List.mem_cons_of_mem _ hx)) (by rw [eg, et]; rw [List.length_cons] at hle; omega) ?_ (by simp at hlen ⊢; omega) ?_
      · exact p2.imp_of_mem (fun {a b} ha hb h => by unfold fore at h ⊢; rw [eo a ha, eo b hb]; exact h)
      · have := hM x hx
        rw [List.mem_append, not_or, ← and_assoc, this, List.mem_cons, List.mem_singleton]
        constructor
        · rintro ⟨c1 | c1, c2⟩
          · exact absurd c1 c2
          · exact c1
        · intro c
          exact ⟨.inr c, fun e => q1 (e ▸ c)⟩
      · rw [eg, et]
        intro x hx
        rw [eo x (List.mem_of_mem_take hx)]
        exact hpos x (List.mem_cons_of_mem _ hx)
      · rw [eg, et, List.set_set]
        rw [orAll] at hr
        rw [show o1 ++ [j] ++ List.take t o2 = o1 ++ j :: List.take t o2 by simp]
        exact hr
theorem sg_l2 {n : Nat} (h8 : n ≤ 8) (ns : List Nat) (r : Int × List Int × Bool) : ∀ (o2 o1 : List Nat) (nd : List Int), nd.length = n → (∀ x ∈ o2, x < n) → (o1 ++ o2).length ≤ 50 → (∀ x, -1000 + (o2.length : Int) ≤ nd.getD x 0 ∧ nd.getD x 0 ≤ 1000) →
    Ev (fun k => (spec_deMost.f k (decN o2 nd) []).bind fun t => spec_BuildGraph.l0 k (decN o2 nd) t n (ints ns)) r → Ev (fun k => spec_BuildGraph.l2 k nd (ints (o1 ++ o2)) ((o1 ++ o2).length : Int) (o1.length : Int) n (ints ns)) r := by
  intro o2
  induction o2 with
  | nil =>
    intro o1 nd hl hL hlen hb hr
    refine Ev.step (fun k => ?_) hr
    rw [spec_BuildGraph.l2, if_neg (by simp)]
    rfl
  | cons j o2 ih =>
    intro o1 nd hl hL hlen hb hr
    have hjn := hL j List.mem_cons_self
    have hj := hb j
    have hlen2 : o1.length + o2.length + 1 ≤ 50 := by simp at hlen; omega
    have hrd : rd (ints (o1 ++ j :: o2)) (o1.length : Int) = (j : Int) := by
      rw [rd_ints]; simp [List.getD_eq_getElem?_getD]
    have hw : wrap64 (nd.getD j 0 - 1) = nd.getD j 0 - 1 := by rw [List.length_cons] at hj; unfold wrap64; omega
    have := ih (o1 ++ [j]) (nd.set j (nd.getD j 0 - 1)) (by rw [List.length_set, hl]) (fun x hx => hL x (List.mem_cons_of_mem _ hx)) (by simp at hlen ⊢; omega) (fun x => by
      have hx := hb x
      simp only [List.length_cons] at hx hj
      rw [getD_setG _ _ _ _ (by omega)]
      split <;> omega) hr
    refine Ev.step (fun k => ?_) this
    rw [spec_BuildGraph.l2, if_pos (by simp; omega), if_pos (by omega), if_pos (by rw [ints_length]; simp; omega), hrd, if_pos (by omega), if_pos (by omega), rdG, hw, Int.toNat_natCast, wrap_nat o1.length (by omega)]
    simp
def okG : Nat → List Int → Bool
  | 0, L => L.all fun x => decide (x ≤ 0)
  | f + 1, L => match L with
    | [] => true
    | M :: R => if 0 < M then decide (M.toNat ≤ R.length) && (R.take M.toNat).all (fun x => decide (0 < x)) && okG f (rankL (0 :: ((R.take M.toNat).map (fun x => x - 1) ++ R.drop M.toNat))) else true
def okTest (r : List Int) : Bool := decide (refK r 1 r.length ≠ 0) || decide (Int.tmod r.sum 2 ≠ 0) || okG r.length r
def chkG : Nat → Nat → List Int → Bool
  | 0, _, acc => okTest acc
  | d + 1, b, acc => (List.range (b + 1)).all fun v => chkG d v (acc ++ [(v : Int)])
theorem chkG_all : ((List.range 9).all fun n => chkG n 7 []) = true := by decide +kernel
theorem chkG_ok : ∀ (l : List Int) (b : Nat) (acc : List Int), (∀ x ∈ l, 0 ≤ x ∧ x ≤ (b : Int)) → l.Pairwise (fun a b => b ≤ a) → chkG l.length b acc = true → okTest (acc ++ l) = true
  | [], b, acc, _, _, h => by simpa [chkG] using h
  | x :: l, b, acc, hb, hp, h => by
    obtain ⟨p1, p2⟩ := List.pairwise_cons.1 hp
    have hx := hb x List.mem_cons_self
    obtain ⟨v, rfl⟩ := Int.eq_ofNat_of_zero_le hx.1
    rw [List.length_cons, chkG, List.all_eq_true] at h
    have h2 := h v (List.mem_range.2 (by omega))
    have := chkG_ok l v (acc ++ [(v : Int)]) (fun y hy => ⟨(hb y (List.mem_cons_of_mem _ hy)).1, p1 y hy⟩) p2 h2
    simpa using this
theorem perm_sumG {a b : List Int} (h : a.Perm b) : a.sum = b.sum := by
  induction h with
  | nil => rfl
  | cons x _ ih => rw [List.sum_cons, List.sum_cons, ih]
  | swap x y l => simp only [List.sum_cons]; omega
  | trans _ _ ih1 ih2 => rw [ih1, ih2]
theorem lsum_one (y : List Int) : ∀ j, lsum ((1 : Nat) : Int) y j ≤ j := by
  intro j
  unfold lsum
  induction y generalizing j with
  | nil => simp
  | cons x y ih =>
    cases j with
    | zero => simp
    | succ j =>
      have := ih j
      rw [List.take_succ_cons, List.map_cons, List.sum_cons]
      have : min ((1 : Nat) : Int) x ≤ 1 := by omega
      omega
theorem okG_start (l : List Int) (h1 : 1 ≤ l.length) (h8 : l.length ≤ 8) (hb : ∀ x ∈ l, 0 ≤ x) (hr : refOf l = 0) (hs : Int.tmod l.sum 2 = 0) : okG l.length (rankL l) = true := by
  unfold refOf at hr
  have hlen := rankL_length l
  obtain ⟨r, hrr⟩ : ∃ r, r = rankL l := ⟨_, rfl⟩
  have hsort : r.Pairwise (fun a b => b ≤ a) := by rw [hrr]; exact rankL_sorted l
  have hmem : ∀ x ∈ r, 0 ≤ x := fun x hx => hb x (rankL_mem.1 (hrr ▸ hx))
  have hsum : r.sum = l.sum := by rw [hrr]; exact perm_sumG (rankL_perm l)
  rw [← hrr] at hr hlen ⊢
  have htop : ∀ x ∈ r, x ≤ ((7 : Nat) : Int) := by
    cases r with
    | nil => intro x hx; cases hx
    | cons y r =>
      have hy : y ≤ 7 := by
        rw [List.length_cons, refK] at hr
        split at hr
        · simp at hr
        · rename_i c
          unfold mostK at c
          have := lsum_one ((y :: r).drop 1) ((y :: r).drop 1).length
          simp only [List.take_succ_cons, List.take_zero, List.sum_cons, List.sum_nil, List.drop_succ_cons, List.drop_zero] at c this
          simp at hlen
          omega
      intro x hx
      rcases List.mem_cons.1 hx with rfl | q
      · omega
      · have := (List.pairwise_cons.1 hsort).1 x q; omega
  have hc := List.all_eq_true.1 chkG_all r.length (List.mem_range.2 (by omega))
  have := chkG_ok r 7 [] (fun x hx => ⟨hmem x hx, htop x hx⟩) hsort hc
  rw [List.nil_append] at this
  unfold okTest at this
  rw [hr, hsum, hs, hlen] at this
  simpa using this
theorem any_pos (nd : List Int) : nd.any (fun x => decide (0 < x)) = true ↔ ∃ x, x < nd.length ∧ 0 < nd.getD x 0 := by
  rw [List.any_eq_true]
  constructor
  · rintro ⟨y, hy, h⟩
    obtain ⟨x, hx, rfl⟩ := List.getElem_of_mem hy
    exact ⟨x, hx, by rw [List.getD_eq_getElem?_getD, List.getElem?_eq_getElem hx]; simpa using h⟩
  · rintro ⟨x, hx, h⟩
    rw [List.getD_eq_getElem?_getD, List.getElem?_eq_getElem hx] at h
    exact ⟨_, List.getElem_mem hx, by simpa using h⟩
theorem rankL_congr {a b : List Int} (h : a.Perm b) : rankL a = rankL b := rankL_unique ((rankL_perm a).trans h) (rankL_sorted a)
theorem sg_rounds {n : Nat} (h1 : 1 ≤ n) (h8 : n ≤ 8) : ∀ d (nd : List Int) (ns : List Nat), nd.length = n → Sets n ns → (∀ x, 0 ≤ nd.getD x 0 ∧ nd.getD x 0 ≤ 60) → (∀ a b, 0 < nd.getD a 0 → 0 < nd.getD b 0 → nb ns a b = false) → okG d (rankL nd) = true →
    bgFits d nd = true ∧ Ev (fun k => (spec_deMost.f k nd []).bind fun t => spec_BuildGraph.l0 k nd t n (ints ns)) ((n : Int), ints (bgGo d nd ns), true) := by
  -- none needs any
  have done : ∀ (nd : List Int) (ns : List Nat), nd.length = n → nd.any (fun x => decide (0 < x)) = false → Ev (fun k => (spec_deMost.f k nd []).bind fun t => spec_BuildGraph.l0 k nd t n (ints ns)) ((n : Int), ints ns, true) := by
    intro nd ns hl hno
    have hm := deMost_none nd [] (by omega) (by simp) (fun x hx hE => by
      have : nd.any (fun x => decide (0 < x)) = true := (any_pos nd).2 ⟨x, hx, hE.1⟩
      rw [hno] at this; cases this)
    refine Ev.bind hm (Ev.step (fun k => ?_) (Ev.now _))
    rw [spec_BuildGraph.l0, if_neg (by omega)]
  intro d
  induction d with
  | zero =>
    intro nd ns hl hS hB hZ hok
    have hno : nd.any (fun x => decide (0 < x)) = false := by
      rw [Bool.eq_false_iff]
      intro h
      obtain ⟨x, hx, hp⟩ := (any_pos nd).1 h
      rw [okG, List.all_eq_true] at hok
      have hm : nd.getD x 0 ∈ nd := by rw [List.getD_eq_getElem?_getD, List.getElem?_eq_getElem hx]; exact List.getElem_mem hx
      have := hok _ (rankL_mem.2 hm)
      simp only [decide_eq_true_eq] at this
      omega
    exact ⟨by rw [bgFits, hno]; rfl, done nd ns hl hno⟩
  | succ d ih =>
    intro nd ns hl hS hB hZ hok
    cases hany : nd.any (fun x => decide (0 < x)) with
    | false => exact ⟨by rw [bgFits, hany]; rfl, by rw [bgGo, hany]; exact done nd ns hl hany⟩
    | true =>
      obtain ⟨p, hp, hpp⟩ := (any_pos nd).1 hany
      have hperm := bgOrd_perm nd
      have hsort := bgOrd_sorted nd
      have hNo : (bgOrd nd).Nodup := hperm.nodup_iff.2 List.nodup_range
      have hmo : ∀ x, x ∈ bgOrd nd ↔ x < n := fun x => by rw [hperm.mem_iff, List.mem_range, hl]
      have hne : bgOrd nd ≠ [] := fun e => by have := (hmo p).2 (by omega); rw [e] at this; cases this
      obtain ⟨i, R, ho⟩ := List.exists_cons_of_ne_nil hne
      obtain ⟨M, hM⟩ : ∃ M, M = nd.getD i 0 := ⟨_, rfl⟩
      have hin : i < n := (hmo i).1 (by rw [ho]; exact List.mem_cons_self)
      rw [ho] at hsort hNo hmo hperm
      obtain ⟨s1, s2⟩ := List.pairwise_cons.1 hsort
      obtain ⟨d1, d2⟩ := List.nodup_cons.1 hNo
      have hMpos : 0 < M := by
        rcases List.mem_cons.1 ((hmo p).2 (by omega)) with rfl | q
        · omega
        · have := s1 p q; unfold fore at this; omega
      have hM60 : M ≤ 60 := by rw [hM]; exact (hB i).2
      -- the needs that fall
      have hrank : rankL nd = M :: R.map fun x => nd.getD x 0 := by
        refine (rankL_unique ?_ ?_).symm
        · have := hperm.map (fun x => nd.getD x 0)
          rw [map_getD, List.map_cons, ← hM] at this
          exact this
        · rw [hM, ← List.map_cons (f := fun x => nd.getD x 0), List.pairwise_map]
          exact hsort.imp (fun h => by unfold fore at h; omega)
      rw [hrank, okG] at hok
      simp only [if_pos hMpos, Bool.and_eq_true, decide_eq_true_eq, List.length_map, List.all_eq_true] at hok
      obtain ⟨⟨k1, k2⟩, k3⟩ := hok
      obtain ⟨pk, hpk⟩ : ∃ pk, pk = R.take M.toNat := ⟨_, rfl⟩
      have hpos : ∀ x ∈ pk, 0 < nd.getD x 0 := fun x hx => by
        have := k2 (nd.getD x 0) (by rw [← List.map_take, ← hpk]; exact List.mem_map.2 ⟨x, hx, rfl⟩)
        exact this
      have hpkR : ∀ x ∈ pk, x ∈ R := fun x hx => List.mem_of_mem_take (hpk ▸ hx)
      have hRn : ∀ x ∈ R, x < n := fun x hx => (hmo x).1 (List.mem_cons_of_mem _ hx)
      have hpkN : pk.Nodup := by rw [hpk]; exact d2.sublist (List.take_sublist _ _)
      have hipk : i ∉ pk := fun h => d1 (hpkR i h)
      have hRlen : R.length + 1 = n := by have := hperm.length_eq; rw [List.length_cons, List.length_range, hl] at this; exact this
      have hhead : (bgOrd nd).headD 0 = i := by rw [ho]; rfl
      have hpick : bgPick nd = pk := by unfold bgPick; rw [hhead, ho, hpk, ← hM]; rfl
      -- the next needs
      obtain ⟨e1, e2⟩ := decN_char pk (nd.set i 0) hpkN (fun x hx => by rw [List.length_set, hl]; exact hRn x (hpkR x hx))
      obtain ⟨f1, f2⟩ := decN_char pk nd hpkN (fun x hx => by rw [hl]; exact hRn x (hpkR x hx))
      have hnext : bgNext nd = decN pk (nd.set i 0) := by
        unfold bgNext
        rw [hhead, hpick]
        refine getD_extG (by rw [List.length_set, f1, e1, List.length_set]) (fun x => ?_)
        rw [getD_setG _ _ _ _ (by rw [f1, hl]; exact hin), e2, f2, getD_setG _ _ _ _ (by omega)]
        by_cases c : x = i
        · subst c; rw [if_pos rfl, if_neg hipk, if_pos rfl]
        · simp only [if_neg c]
      obtain ⟨nd', hnd'⟩ : ∃ nd', nd' = decN pk (nd.set i 0) := ⟨_, rfl⟩
      have g2 : ∀ x, nd'.getD x 0 = if x = i then 0 else if x ∈ pk then nd.getD x 0 - 1 else nd.getD x 0 := fun x => by
        rw [hnd', e2, getD_setG _ _ _ _ (by omega)]
        by_cases c : x = i
        · subst c; rw [if_neg hipk, if_pos rfl, if_pos rfl]
        · simp only [if_neg c]
      have hl' : nd'.length = n := by rw [hnd', e1, List.length_set, hl]
      -- the next graph
      have hz : ∀ x ∈ pk, nb ns i x = false ∧ nb ns x i = false := fun x hx => ⟨hZ i x (by omega) (hpos x hx), hZ x i (hpos x hx) (by omega)⟩
      obtain ⟨j1, j2⟩ := joinAll_char i hin pk ns hpkN hipk (fun x hx => hRn x (hpkR x hx)) hS hz
      obtain ⟨o1, o2⟩ := orAll_char i hin pk ns (fun x hx => hRn x (hpkR x hx)) hS
      have hgr : orAll i pk ns = joinAll i pk ns := sets_extG o1 j1 (fun a b => by rw [o2, j2])
      have hB' : ∀ x, 0 ≤ nd'.getD x 0 ∧ nd'.getD x 0 ≤ 60 := fun x => by
        rw [g2]
        have := hB x
        by_cases c : x = i
        · rw [if_pos c]; omega
        · rw [if_neg c]
          by_cases c2 : x ∈ pk
          · rw [if_pos c2]; have := hpos x c2; omega
          · rw [if_neg c2]; exact this
      have hle : ∀ x, 0 < nd'.getD x 0 → x ≠ i ∧ 0 < nd.getD x 0 := fun x hx => by
        rw [g2] at hx
        by_cases c : x = i
        · rw [if_pos c] at hx; omega
        · rw [if_neg c] at hx
          refine ⟨c, ?_⟩
          by_cases c2 : x ∈ pk
          · exact hpos x c2
          · rw [if_neg c2] at hx; exact hx
      obtain ⟨r1, r2⟩ := ih nd' (joinAll i pk ns) hl' j1 hB' (fun a b ha hb => by
          obtain ⟨a1, a2⟩ := hle a ha
          obtain ⟨b1, b2⟩ := hle b hb
          rw [j2, hZ a b a2 b2]; simp [a1, b1]) (by
          rw [← k3]
          congr 1
          apply rankL_congr
          have q1 : nd'.Perm ((i :: R).map fun x => nd'.getD x 0) := by
            have := (hperm.map (fun x => nd'.getD x 0)).symm
            rw [hl, ← hl', map_getD] at this
            exact this
          refine q1.trans (List.Perm.of_eq ?_)
          have q2 : (R.map fun x => nd'.getD x 0) = ((R.take M.toNat) ++ (R.drop M.toNat)).map fun x => nd'.getD x 0 := by rw [List.take_append_drop]
          rw [List.map_cons, q2, List.map_append, ← List.map_take, ← List.map_drop, List.map_map]
          congr 1
          · rw [g2, if_pos rfl]
          · congr 1
            · apply List.map_congr_left
              intro x hx
              rw [g2, if_neg (fun (e : x = i) => d1 (e ▸ List.mem_of_mem_take hx)), if_pos (by rw [hpk]; exact hx)]
              rfl
            · apply List.map_congr_left
              intro x hx
              rw [g2, if_neg (fun (e : x = i) => d1 (e ▸ List.mem_of_mem_drop hx)), if_neg]
              intro q
              have hN2 := d2
              rw [← List.take_append_drop M.toNat R, List.nodup_append] at hN2
              exact hN2.2.2 x (hpk ▸ q) x hx rfl)
      refine ⟨?_, ?_⟩
      · rw [bgFits, hany, hnext, ← hnd', r1, hhead, ← hM]
        simp
        omega
      · rw [bgGo, hany, hnext, ← hnd', hhead, hpick]
        have hi0 := deMost_f nd [] (by omega) (by simp) i (by omega) ⟨by omega, by simp⟩ (fun x hx _ => by
          rcases List.mem_cons.1 ((hmo x).2 (by omega)) with rfl | q
          · exact .inr ⟨rfl, Nat.le_refl _⟩
          · exact s1 x q)
        refine Ev.bind hi0 ?_
        have hfin : Ev (fun k => spec_BuildGraph.l1 k nd i (ints (i :: [])) n (ints ns)) ((n : Int), ints (bgGo d nd' (joinAll i pk ns)), true) := by
          refine sg_l1 i hin h8 _ R [] nd ns hS hl (by omega) (by omega) s2 (fun x hx => ?_) d2 hRn (by rw [← hM]; exact k1) (by rw [← hM, ← hpk]; exact hpos) (by simp; omega) ?_
          · constructor
            · rintro ⟨c, _⟩
              rcases List.mem_cons.1 ((hmo x).2 hx) with e | q
              · exact absurd e c
              · exact q
            · exact fun q => ⟨fun e => d1 (e ▸ q), by simp⟩
          · rw [← hM, ← hpk, hgr]
            have hpl : pk.length ≤ 8 := by rw [hpk, List.length_take]; omega
            refine sg_l2 h8 (joinAll i pk ns) _ pk [] (nd.set i 0) (by rw [List.length_set, hl]) (fun x hx => hRn x (hpkR x hx)) (by simp; omega) (fun x => ?_) ?_
            · rw [getD_setG _ _ _ _ (by omega)]
              have := hB x
              split <;> omega
            · rw [← hnd']
              exact r2
        refine Ev.step (fun k => ?_) hfin
        rw [spec_BuildGraph.l0, if_pos (by omega)]
        rfl
theorem joinAll_length (i : Nat) : ∀ (o ns : List Nat), (joinAll i o ns).length = ns.length
  | [], _ => rfl
  | j :: o, ns => by rw [joinAll, joinAll_length i o]; simp [joinN]
theorem bgGo_length : ∀ (f : Nat) (nd : List Int) (ns : List Nat), (bgGo f nd ns).length = ns.length
  | 0, _, _ => rfl
  | f + 1, nd, ns => by
    rw [bgGo]
    split
    · rw [bgGo_length f, joinAll_length]
    · rfl
def gB (l : List Int) : Bool := decide (Int.tmod l.sum 2 = 0) && decide (refOf l = 0)
theorem graphic_full {l : List Int} (hl : isList l = true) : Ev (fun k => spec_deGraphic.f k l) (gB l) ∧ Ev (fun k => impl_isGraphic.f k l) (gB l) := by
  have hf := (isList_small hl).1.fair
  unfold spec_deGraphic.f impl_isGraphic.f
  by_cases h2 : Int.tmod l.sum 2 = 0
  · exact ⟨Ev.bind (liSum_f hf) (Ev.ite (fun _ => Ev.bind (deRefuses_f hl) (Ev.some (by rw [Bool.eq_iff_iff]; simp [gB, h2]))) (fun hh => absurd h2 hh)), Ev.bind (total_f hf) (Ev.ite (fun _ => Ev.bind (refusingK_f hl) (Ev.some (by rw [Bool.eq_iff_iff]; simp [gB, h2]))) (fun hh => absurd h2 hh))⟩
  · exact ⟨Ev.bind (liSum_f hf) (Ev.ite (fun hh => absurd hh h2) (fun _ => Ev.some (by rw [Bool.eq_iff_iff]; simp [gB, h2]))), Ev.bind (total_f hf) (Ev.ite (fun hh => absurd hh h2) (fun _ => Ev.some (by rw [Bool.eq_iff_iff]; simp [gB, h2])))⟩
theorem gB_iff (l : List Int) : gB l = true ↔ refOf l = 0 ∧ Int.tmod l.sum 2 = 0 := by
  unfold gB
  rw [Bool.and_eq_true, decide_eq_true_eq, decide_eq_true_eq]
  exact And.comm
theorem buildG_full (l : List Int) (hl : l.length ≤ BM) : ∃ r : Int × List Int × Bool, Ev (fun k => spec_BuildGraph.f k l) r ∧ Ev (fun k => impl_BuildGraph.f k l) r ∧ r.2.1.length ≤ 8 ∧ r = if isList l = true ∧ gB l = true then ((l.length : Int), ints (bgGo l.length l (List.replicate l.length 0)), true) else (0, [], false) := by
  unfold spec_BuildGraph.f impl_BuildGraph.f
  have hg := liGood_f l hl
  have hi := IsList_f l hl
  have hfail : Ev (fun k => spec_BuildGraph.j0 k l true) (0, [], false) := Ev.step (fun k => by rw [spec_BuildGraph.j0, if_pos rfl]) (Ev.now _)
  cases hb : isList l with
  | false =>
    rw [hb] at hg hi
    refine ⟨(0, [], false), Ev.bind hg ?_, Ev.bind hi ?_, by simp, by simp⟩
    · simp only [Bool.false_eq_true, if_false]; exact hfail
    · simp only [Bool.false_eq_true, if_false]; exact Ev.now _
  | true =>
    rw [hb] at hg hi
    obtain ⟨h1, h8, h3⟩ := isList_mem hb
    obtain ⟨g1, g2⟩ := graphic_full hb
    cases hgB : gB l with
    | false =>
      rw [hgB] at g1 g2
      refine ⟨(0, [], false), Ev.bind hg ?_, Ev.bind hi ?_, by simp, by simp⟩
      · simp only [if_true]
        exact Ev.bind g1 (by simpa using hfail)
      · simp only [if_true]
        exact Ev.bind g2 (by simpa using Ev.now _)
    | true =>
      rw [hgB] at g1 g2
      obtain ⟨k1, k2⟩ := (gB_iff l).1 hgB
      have hz : Sets l.length (List.replicate l.length 0) := ⟨h1, h8, by simp, fun x hx => by rw [(List.mem_replicate.1 hx).2]; exact Nat.two_pow_pos _⟩
      obtain ⟨m1, m2⟩ := sg_rounds h1 h8 l.length l (List.replicate l.length 0) rfl hz (fun x => by
        rw [List.getD_eq_getElem?_getD]
        cases hx : l[x]? with
        | none => simp
        | some y => have := h3 y (List.mem_of_getElem? hx); simp; omega) (fun a b _ _ => by
        unfold nb
        rw [List.getD_eq_getElem?_getD, List.getElem?_replicate]
        split <;> simp) (okG_start l h1 h8 (fun x hx => (h3 x hx).1) k1 k2)
      refine ⟨((l.length : Int), ints (bgGo l.length l (List.replicate l.length 0)), true), Ev.bind hg ?_, Ev.bind hi ?_, ?_, by simp⟩
      · simp only [if_true]
        refine Ev.bind g1 ?_
        refine Ev.step (fun k => ?_) m2
        rw [spec_BuildGraph.j0, if_neg (by decide), if_pos (by omega), if_pos (by omega), own_intsG l (by omega), Option.bind_some, Int.toNat_natCast]
        have e2 : ints (List.replicate l.length 0) = List.replicate l.length 0 := by simp [ints]
        rw [e2]
      · simp only [if_true]
        refine Ev.bind g2 ?_
        simp only [if_true]
        rw [if_pos ⟨h1, h8, h3, m1⟩]
        exact Ev.now _
      · show (ints _).length ≤ 8
        rw [ints_length, bgGo_length, List.length_replicate]
        exact h8
theorem has_f (a i : Nat) (h : a < 2 ^ 62) : impl_has.f (a : Int) (i : Int) = some (a.testBit i) := by
  unfold impl_has.f; rw [if_pos (by omega), hasB a i h]
theorem deHas_f (a i : Nat) (h : a < 2 ^ 62) : spec_deHas.f (a : Int) (i : Int) = some (a.testBit i) := by
  unfold spec_deHas.f; rw [if_pos (by omega), deHasB a i h]
theorem has_nb {n : Nat} {ns : List Nat} (h : Sets n ns) (i j : Nat) : impl_has.f ((ns.getD i 0 : Nat) : Int) (j : Int) = some (nb ns i j) := has_f _ _ (h.get62 i)
theorem deHas_nb {n : Nat} {ns : List Nat} (h : Sets n ns) (i j : Nat) : spec_deHas.f ((ns.getD i 0 : Nat) : Int) (j : Int) = some (nb ns i j) := deHas_f _ _ (h.get62 i)
def Near (n : Nat) (ns : List Nat) : Prop := Sets n ns ∧ ∀ i, i < n → nb ns i i = false
theorem sets_iff (a : Int) (l : List Int) : ((1 ≤ a ∧ a ≤ 8) ∧ (l.length : Int) = a ∧ within 0 (wrap64 (shl .i64 1 a - 1)) l = true) ↔ ∃ n ns, a = ((n : Nat) : Int) ∧ l = ints ns ∧ Sets n ns := by
  constructor
  · rintro ⟨⟨h1, h2⟩, h3, h4⟩
    obtain ⟨n, rfl⟩ := Int.eq_ofNat_of_zero_le (show 0 ≤ a by omega)
    have hp := pow8 (show n ≤ 8 by omega)
    have hp0 := Nat.two_pow_pos n
    have e : wrap64 (shl .i64 1 (n : Int) - 1) = ((2 ^ n - 1 : Nat) : Int) := by
      rw [shl_one n (by omega)]; unfold wrap64; omega
    rw [e] at h4
    simp only [within, List.all_eq_true, Bool.and_eq_true, decide_eq_true_eq] at h4
    obtain ⟨ns, rfl⟩ := ints_of l (fun x hx => (h4 x hx).1)
    rw [ints_length] at h3
    exact ⟨n, ns, rfl, rfl, by omega, by omega, by omega, fun x hx => by have := (h4 x (List.mem_map.2 ⟨x, hx, rfl⟩)).2; omega⟩
  · rintro ⟨n, ns, rfl, rfl, h⟩
    have hp := pow8 h.n8
    have hp0 := Nat.two_pow_pos n
    have := h.n1; have := h.n8; have := h.len
    have e : wrap64 (shl .i64 1 (n : Int) - 1) = ((2 ^ n - 1 : Nat) : Int) := by
      rw [shl_one n (by omega)]; unfold wrap64; omega
    rw [e]
    refine ⟨⟨by omega, by omega⟩, by rw [ints_length]; omega, ?_⟩
    simp only [within, List.all_eq_true, Bool.and_eq_true, decide_eq_true_eq, ints, List.mem_map]
    rintro x ⟨y, hy, rfl⟩
    have := h.lt y hy
    omega
theorem near_l0 {n : Nat} {ns : List Nat} (h : Sets n ns) : EvB (fun k => impl_areNear.l0 k (ints ns) (n : Int) 0) (∀ i, i < n → nb ns i i = false) := by
  have hl := h.len
  have hn := h.n8
  refine (allLoop0 (fun j k => impl_areNear.l0 k (ints ns) (n : Int) (j : Int)) n (fun i => nb ns i i = false) True ?_ ?_).congr (by simp)
  · exact EvB.step (fun k => by rw [impl_areNear.l0, if_neg (by omega)]) EvB.true_
  · intro j hj R hR
    have e : _ = nb ns j j := hasB (ns.getD j 0) j (h.get62 j)
    refine EvB.step (f := fun k => if nb ns j j = false then impl_areNear.l0 k (ints ns) n ((j + 1 : Nat) : Int) else some false) (fun k => ?_) (EvB.and fun _ => hR)
    rw [impl_areNear.l0, if_pos (by omega), if_pos (by omega), if_pos (by rw [ints_length]; omega), rd_ints, wrap_nat j (by omega)]
    cases hb : nb ns j j with
    | true => rw [if_pos (by rw [hb] at e; simpa using e), if_neg (by simp)]
    | false => rw [if_neg (by rw [hb] at e; simpa using e), if_pos rfl]
theorem areNear_f (a : Int) (l : List Int) (hl : l.length ≤ BM) : EvB (fun k => impl_areNear.f k a l) (∃ n ns, a = ((n : Nat) : Int) ∧ l = ints ns ∧ Near n ns) := by
  have hj : ∀ l, Ev (fun k => impl_areNear.j0 k l true) false := fun l => Ev.step (fun k => by rw [impl_areNear.j0]) (by simpa using Ev.now _)
  have no : ∀ {g : Nat → Option Bool}, ¬ ((1 ≤ a ∧ a ≤ 8) ∧ (l.length : Int) = a ∧ within 0 (wrap64 (shl .i64 1 a - 1)) l = true) → Ev g false → EvB g (∃ n ns, a = ((n : Nat) : Int) ∧ l = ints ns ∧ Near n ns) := by
    intro g h1 h2
    exact ⟨fun ⟨n, ns, e1, e2, h⟩ => absurd ((sets_iff a l).2 ⟨n, ns, e1, e2, h.1⟩) h1, fun _ => h2⟩
  unfold impl_areNear.f
  simp only [within_f, Option.bind_some]
  by_cases h1 : 1 ≤ a ∧ a ≤ 8
  · rw [show (decide (1 ≤ a) && decide (a ≤ 8)) = true by simp; omega]
    simp only [if_true]
    by_cases h2 : (l.length : Int) = a
    · have h3 : 0 ≤ a := by omega
      simp only [if_pos h2, if_pos h3]
      refine EvB.bind (allWithin_f l 0 _ hl) ?_
      cases h4 : within 0 (wrap64 (shl .i64 1 a - 1)) l with
      | false => exact no (by simp [h4]) (hj l)
      | true =>
        obtain ⟨n, ns, rfl, rfl, hs⟩ := (sets_iff a l).1 ⟨h1, h2, h4⟩
        refine EvB.step (fun k => by rw [impl_areNear.j0]) ?_
        simp only [Bool.not_true, Bool.false_eq_true, if_false, h2]
        refine (near_l0 hs).congr ⟨fun h => ⟨n, ns, rfl, rfl, hs, h⟩, ?_⟩
        rintro ⟨n', ns', e1, e2, h⟩
        obtain rfl : n = n' := by omega
        obtain rfl : ns = ns' := by
          have := congrArg (List.map Int.toNat) e2
          simpa [ints, Function.comp_def] using this
        exact h.2
    · simp only [if_neg h2]
      exact no (fun h => h2 h.2.1) (hj l)
  · rw [show (decide (1 ≤ a) && decide (a ≤ 8)) = false by simp; omega]
    exact no (fun h => h1 h.1) (by simpa using hj l)
theorem ints_inj {ns ms : List Nat} (h : ints ns = ints ms) : ns = ms := by
  have := congrArg (List.map Int.toNat) h
  simpa [ints, Function.comp_def] using this
def mem8 (a : Nat) : List Nat := (List.range 8).filter fun i => a.testBit i
theorem members_all : (List.range 256).all (fun a => impl_members.f 10 (a : Int) == some (ints (mem8 a))) = true := by decide +kernel
theorem members_f (a : Nat) (h : a < 256) : Ev (fun k => impl_members.f k (a : Int)) (ints (mem8 a)) := by
  have := List.all_eq_true.1 members_all a (List.mem_range.2 h)
  exact Ev.of (fun k => impl_members.mono _ k) (beq_iff_eq.1 this)
theorem Sets.b256 {n : Nat} {ns : List Nat} (h : Sets n ns) (i : Nat) : ns.getD i 0 < 256 := Nat.lt_of_lt_of_le (h.get i) (pow8 h.n8)
theorem mem8_mem {n : Nat} {ns : List Nat} (h : Sets n ns) (i j : Nat) : j ∈ mem8 (ns.getD i 0) ↔ j < n ∧ nb ns i j = true := by
  simp only [mem8, List.mem_filter, List.mem_range]
  constructor
  · rintro ⟨h1, h2⟩
    refine ⟨?_, h2⟩
    refine Nat.lt_of_not_le fun hh => ?_
    have := h.nb_lt (i := i) hh
    unfold nb at this
    rw [h2] at this; cases this
  · rintro ⟨h1, h2⟩
    exact ⟨by have := h.n8; omega, h2⟩
theorem getD_mem {l : List Nat} {p : Nat} (h : p < l.length) : l.getD p 0 ∈ l := by
  rw [List.getD_eq_getElem?_getD, List.getElem?_eq_getElem h]; exact List.getElem_mem h
theorem mem_getD {l : List Nat} {x : Nat} (h : x ∈ l) : ∃ p, p < l.length ∧ l.getD p 0 = x := by
  obtain ⟨p, hp, rfl⟩ := List.getElem_of_mem h
  exact ⟨p, hp, by rw [List.getD_eq_getElem?_getD, List.getElem?_eq_getElem hp]; rfl⟩
theorem mem8_len (a : Nat) : (mem8 a).length ≤ 8 := by
  have := List.length_filter_le (fun i => a.testBit i) (List.range 8)
  simpa [mem8] using this
def Gr (n : Nat) (ns : List Nat) : Prop := Near n ns ∧ ∀ i, i < n → ∀ j, j < n → nb ns i j = true → nb ns j i = true
def IsGr (a : Int) (l : List Int) : Prop := ∃ n ns, a = ((n : Nat) : Int) ∧ l = ints ns ∧ Gr n ns
theorem graph_l1 {n : Nat} {ns : List Nat} (h : Sets n ns) (i : Nat) (hi : i < n) (R : Prop) (hR : EvB (fun k => impl_IsGraph.l0 k (ints ns) n ((i + 1 : Nat) : Int) n (ints ns)) R) :
    EvB (fun k => impl_IsGraph.l1 k i (ints ns) n i (ints (mem8 (ns.getD i 0))) ((mem8 (ns.getD i 0)).length : Int) ((0 : Nat) : Int) n (ints ns)) ((∀ j, j < n → nb ns i j = true → nb ns j i = true) ∧ R) := by
  have hl := h.len
  have hn := h.n8
  have hm := mem8_len (ns.getD i 0)
  refine (allLoop0 (fun p k => impl_IsGraph.l1 k i (ints ns) n i (ints (mem8 (ns.getD i 0))) ((mem8 (ns.getD i 0)).length : Int) (p : Int) n (ints ns)) (mem8 (ns.getD i 0)).length (fun p => nb ns ((mem8 (ns.getD i 0)).getD p 0) i = true) R ?_ ?_).congr ?_
  · refine EvB.step (fun k => ?_) hR
    rw [impl_IsGraph.l1, if_neg (by omega), wrap_nat i (by omega)]
  · intro p hp R hR
    have hg := (mem8_mem h i _).1 (getD_mem hp)
    refine EvB.step (f := fun k => if nb ns ((mem8 (ns.getD i 0)).getD p 0) i = true then impl_IsGraph.l1 k i (ints ns) n i (ints (mem8 (ns.getD i 0))) ((mem8 (ns.getD i 0)).length : Int) ((p + 1 : Nat) : Int) n (ints ns) else some false) (fun k => ?_) (EvB.and fun _ => hR)
    rw [impl_IsGraph.l1, if_pos (by omega), if_pos (by omega), if_pos (by rw [ints_length]; omega), rd_ints, if_pos (by omega), if_pos (by rw [ints_length]; omega), rd_ints, has_nb h, Option.bind_some, wrap_nat p (by omega)]
  · refine and_congr ⟨fun hh j hj hb => ?_, fun hh p hp => ?_⟩ Iff.rfl
    · obtain ⟨p, hp, rfl⟩ := mem_getD ((mem8_mem h i j).2 ⟨hj, hb⟩)
      exact hh p hp
    · obtain ⟨h1, h2⟩ := (mem8_mem h i _).1 (getD_mem hp)
      exact hh _ h1 h2
theorem graph_l0 {n : Nat} {ns : List Nat} (h : Sets n ns) : EvB (fun k => impl_IsGraph.l0 k (ints ns) n ((0 : Nat) : Int) n (ints ns)) (∀ i, i < n → ∀ j, j < n → nb ns i j = true → nb ns j i = true) := by
  have hl := h.len
  have hn := h.n8
  refine (allLoop0 (fun j k => impl_IsGraph.l0 k (ints ns) n (j : Int) n (ints ns)) n (fun i => ∀ j, j < n → nb ns i j = true → nb ns j i = true) True ?_ ?_).congr (by simp)
  · exact EvB.step (fun k => by rw [impl_IsGraph.l0, if_neg (by omega)]) EvB.true_
  · intro i hi R hR
    refine EvB.step (fun k => ?_) (EvB.bind (f := fun k (t : List Int) => impl_IsGraph.l1 k i (ints ns) n i t (t.length : Int) ((0 : Nat) : Int) n (ints ns)) (members_f (ns.getD i 0) (h.b256 i)) ?_)
    · rw [impl_IsGraph.l0, if_pos (by omega), if_pos (by omega), if_pos (by rw [ints_length]; omega), rd_ints]
      rfl
    · simp only [ints_length]
      exact graph_l1 h i hi R hR
theorem IsGraph_f (a : Int) (l : List Int) (hl : l.length ≤ BM) : EvB (fun k => impl_IsGraph.f k a l) (IsGr a l) := by
  unfold impl_IsGraph.f
  obtain ⟨b, hb, hbb⟩ := (areNear_f a l hl).ev
  refine EvB.bind hb ?_
  cases b with
  | false => exact ⟨fun ⟨n, ns, e1, e2, h⟩ => absurd (hbb.2 ⟨n, ns, e1, e2, h.1⟩) (by simp), fun _ => by simpa using Ev.now false⟩
  | true =>
    obtain ⟨n, ns, rfl, rfl, hn⟩ := hbb.1 rfl
    simp only [if_true, ints_length, hn.1.len]
    refine (graph_l0 hn.1).congr ⟨fun h => ⟨n, ns, rfl, rfl, hn, h⟩, ?_⟩
    rintro ⟨n', ns', e1, e2, h⟩
    obtain rfl : n = n' := by omega
    obtain rfl := ints_inj e2
    exact h.2
theorem dgood_l1 {n : Nat} {ns : List Nat} (h : Sets n ns) (i : Nat) (hi : i < n) (R : Prop) (hR : EvB (fun k => spec_deGood.l0 k (ints ns) n ((i + 1 : Nat) : Int) n (ints ns)) R) :
    EvB (fun k => spec_deGood.l1 k i ((ns.getD i 0 : Nat) : Int) (ints ns) n i n ((0 : Nat) : Int) n (ints ns)) ((∀ j, j < n → (nb ns i j = true → i ≠ j ∧ nb ns j i = true)) ∧ R) := by
  have hl := h.len
  have hn := h.n8
  refine allLoop0 (fun j k => spec_deGood.l1 k i ((ns.getD i 0 : Nat) : Int) (ints ns) n i n (j : Int) n (ints ns)) n (fun j => nb ns i j = true → i ≠ j ∧ nb ns j i = true) R ?_ ?_
  · refine EvB.step (fun k => ?_) hR
    rw [spec_deGood.l1, if_neg (by omega), wrap_nat i (by omega)]
  · intro j hj R hR
    refine EvB.step (f := fun k => if (nb ns i j = true → i ≠ j ∧ nb ns j i = true) then spec_deGood.l1 k i ((ns.getD i 0 : Nat) : Int) (ints ns) n i n ((j + 1 : Nat) : Int) n (ints ns) else some false) (fun k => ?_) (EvB.and fun _ => hR)
    rw [spec_deGood.l1, if_pos (by omega), deHas_nb h i, Option.bind_some, wrap_nat j (by omega)]
    by_cases e : nb ns i j = true
    · rw [if_pos e]
      by_cases hij : i = j
      · subst hij
        rw [if_pos rfl, if_neg (fun hh => (hh e).1 rfl)]
      · rw [if_neg (by omega), if_pos (by omega), if_pos (by rw [ints_length]; omega), rd_ints, deHas_nb h j, Option.bind_some]
        by_cases e2 : nb ns j i = true
        · rw [if_pos e2, if_pos (fun _ => ⟨hij, e2⟩)]
        · rw [if_neg e2, if_neg (fun hh => e2 (hh e).2)]
    · rw [if_neg e, if_pos (fun hh => absurd hh e)]
theorem dgood_l0 {n : Nat} {ns : List Nat} (h : Sets n ns) : EvB (fun k => spec_deGood.l0 k (ints ns) n ((0 : Nat) : Int) n (ints ns)) (∀ i, i < n → ∀ j, j < n → (nb ns i j = true → i ≠ j ∧ nb ns j i = true)) := by
  have hl := h.len
  have hn := h.n8
  refine (allLoop0 (fun j k => spec_deGood.l0 k (ints ns) n (j : Int) n (ints ns)) n (fun i => ∀ j, j < n → (nb ns i j = true → i ≠ j ∧ nb ns j i = true)) True ?_ ?_).congr (by simp)
  · exact EvB.step (fun k => by rw [spec_deGood.l0, if_neg (by omega)]) EvB.true_
  · intro i hi R hR
    refine EvB.step (fun k => ?_) (dgood_l1 h i hi R hR)
    rw [spec_deGood.l0, if_pos (by omega), if_pos (by omega), if_pos (by rw [ints_length]; omega), rd_ints, ints_length, hl]
    rfl
theorem gr_iff {n : Nat} {ns : List Nat} (h : Sets n ns) : (∀ i, i < n → ∀ j, j < n → (nb ns i j = true → i ≠ j ∧ nb ns j i = true)) ↔ Gr n ns := by
  constructor
  · intro g
    refine ⟨⟨h, fun i hi => ?_⟩, fun i hi j hj hb => (g i hi j hj hb).2⟩
    cases e : nb ns i i with
    | false => rfl
    | true => exact absurd rfl (g i hi i hi e).1
  · intro g i hi j hj hb
    refine ⟨fun e => ?_, g.2 i hi j hj hb⟩
    subst e
    rw [g.1.2 i hi] at hb; cases hb
theorem deGood_f (a : Int) (l : List Int) (hl : l.length ≤ BM) : EvB (fun k => spec_deGood.f k a l) (IsGr a l) := by
  have hj : ∀ a l, Ev (fun k => spec_deGood.j0 k true a l) false := fun a l => Ev.step (fun k => by rw [spec_deGood.j0]) (by simpa using Ev.now _)
  have no : ∀ {g : Nat → Option Bool}, ¬ ((1 ≤ a ∧ a ≤ 8) ∧ (l.length : Int) = a ∧ within 0 (wrap64 (shl .i64 1 a - 1)) l = true) → Ev g false → EvB g (IsGr a l) := by
    intro g h1 h2
    exact ⟨fun ⟨n, ns, e1, e2, h⟩ => absurd ((sets_iff a l).2 ⟨n, ns, e1, e2, h.1.1⟩) h1, fun _ => h2⟩
  unfold spec_deGood.f
  simp only [l1In_f, Option.bind_some]
  by_cases h1 : 1 ≤ a ∧ a ≤ 8
  · rw [show (decide (1 ≤ a) && decide (a ≤ 8)) = true by simp; omega]
    simp only [if_true]
    by_cases h2 : (l.length : Int) = a
    · have h3 : 0 ≤ a := by omega
      simp only [if_pos h2, if_pos h3]
      refine EvB.bind (l1All_f l 0 _ hl) ?_
      cases h4 : within 0 (wrap64 (shl .i64 1 a - 1)) l with
      | false => exact no (by simp [h4]) (hj a l)
      | true =>
        obtain ⟨n, ns, rfl, rfl, hs⟩ := (sets_iff a l).1 ⟨h1, h2, h4⟩
        refine EvB.step (fun k => by rw [spec_deGood.j0]) ?_
        simp only [Bool.not_true, Bool.false_eq_true, if_false, h2]
        refine (dgood_l0 hs).congr ⟨fun h => ⟨n, ns, rfl, rfl, (gr_iff hs).1 h⟩, ?_⟩
        rintro ⟨n', ns', e1, e2, h⟩
        obtain rfl : n = n' := by omega
        obtain rfl := ints_inj e2
        exact (gr_iff hs).2 h
    · simp only [if_neg h2]
      exact no (fun h => h2 h.2.1) (hj a l)
  · rw [show (decide (1 ≤ a) && decide (a ≤ 8)) = false by simp; omega]
    exact no (fun h => h1 h.1) (by simpa using hj a l)
end Go.Proofs.YtcheoendfcgjgaaDoor.K
namespace Go.Proofs.YtcheoendfcgjgaaDoor.M
def sm (f : Nat → Nat) : Nat → Nat
  | 0 => 0
  | n + 1 => sm f n + f n
theorem sm_congr {f g : Nat → Nat} : ∀ {n : Nat}, (∀ i, i < n → f i = g i) → sm f n = sm g n
  | 0, _ => rfl
  | n + 1, h => by rw [sm, sm, sm_congr (fun i hi => h i (by omega)), h n (by omega)]
theorem sm_add (f g : Nat → Nat) : ∀ n, sm (fun i => f i + g i) n = sm f n + sm g n
  | 0 => rfl
  | n + 1 => by rw [sm, sm, sm, sm_add f g n]; omega
def tB (b : Bool) : Nat := if b then 1 else 0
end Go.Proofs.YtcheoendfcgjgaaDoor.M
namespace Go.Proofs.YtcheoendfcgjgaaDoor.K
open Go.RowKit Go.Proofs.YtcheoendfcgjgaaDoorW.PrintWords Go.Proofs.YtcheoendfcgjgaaDoor.P
def pop (a : Nat) : Nat := (List.range 8).countP (fun i => a.testBit i)
theorem pop_many : (List.range 256).all (fun a => spec_deMany.f 10 (a : Int) == some ((pop a : Nat) : Int)) = true := by decide +kernel
theorem deMany_f (a : Nat) (h : a < 256) : Ev (fun k => spec_deMany.f k (a : Int)) ((pop a : Nat) : Int) :=
  Ev.of (fun k => spec_deMany.mono _ k) (beq_iff_eq.1 (List.all_eq_true.1 pop_many a (List.mem_range.2 h)))
end Go.Proofs.YtcheoendfcgjgaaDoor.K
namespace Go.Proofs.YtcheoendfcgjgaaDoor.K
open Go.RowKit Go.Proofs.YtcheoendfcgjgaaDoorW.PrintWords Go.Proofs.YtcheoendfcgjgaaDoorW.PrintMore
theorem smC {f g : Nat → Nat} {n : Nat} (h : ∀ i, i < n → f i = g i) : M.sm f n = M.sm g n := M.sm_congr h
def wins (n : Nat) (ns : List Nat) (i : Nat) : Nat := M.sm (fun b => M.tB (nb ns i b)) n
theorem sm_set1 (p : Nat → Bool) (t : Nat) (hp : p t = false) : ∀ n, M.sm (fun b => M.tB (p b || decide (b = t))) n = M.sm (fun b => M.tB (p b)) n + (if t < n then 1 else 0)
  | 0 => rfl
  | n + 1 => by
    rw [M.sm, M.sm, sm_set1 p t hp n]
    by_cases e : n = t
    · subst e
      rw [hp, if_neg (by omega), if_pos (by omega)]
      simp [M.tB]
    · have e1 : decide (n = t) = false := by simpa using e
      rw [e1, Bool.or_false]
      by_cases c : t < n
      · rw [if_pos c, if_pos (by omega)]; omega
      · rw [if_neg c, if_neg (by omega)]; omega
theorem sm_setT (n : Nat) : ∀ (T : List Nat) (p : Nat → Bool), T.Nodup → (∀ t ∈ T, t < n ∧ p t = false) → M.sm (fun b => M.tB (p b || decide (b ∈ T))) n = M.sm (fun b => M.tB (p b)) n + T.length
  | [], p, _, _ => by simp
  | t :: T, p, hN, hT => by
    obtain ⟨h1, h2⟩ := List.nodup_cons.1 hN
    obtain ⟨t1, t2⟩ := hT t List.mem_cons_self
    have ih := sm_setT n T (fun b => p b || decide (b = t)) h2 (fun x hx => ⟨(hT x (List.mem_cons_of_mem _ hx)).1, by
      have : x ≠ t := fun e => h1 (e ▸ hx)
      simp [(hT x (List.mem_cons_of_mem _ hx)).2, this]⟩)
    have e : M.sm (fun b => M.tB (p b || decide (b ∈ t :: T))) n = M.sm (fun b => M.tB ((p b || decide (b = t)) || decide (b ∈ T))) n := smC (fun b _ => by
      congr 1
      rw [Bool.or_assoc]
      congr 1
      rw [Bool.eq_iff_iff]; simp)
    rw [e, ih, sm_set1 p t t2, if_pos t1, List.length_cons]
    omega
theorem zero_nb (n a b : Nat) : nb (List.replicate n 0) a b = false := by
  unfold nb
  rw [List.getD_eq_getElem?_getD, List.getElem?_replicate]
  split <;> simp
theorem pop_wins {n : Nat} {ns : List Nat} (h : Sets n ns) (i : Nat) : pop (ns.getD i 0) = wins n ns i := by
  have key : ∀ (p : Nat → Bool) (m : Nat), (List.range m).countP p = M.sm (fun b => M.tB (p b)) m := by
    intro p m
    induction m with
    | zero => rfl
    | succ m ih => rw [List.range_succ, List.countP_append, ih, M.sm]; simp [M.tB]
  have ext : ∀ d, n + d ≤ 8 → M.sm (fun b => M.tB ((ns.getD i 0).testBit b)) (n + d) = wins n ns i := by
    intro d
    induction d with
    | zero => intro _; rfl
    | succ d ih =>
      intro hd
      rw [← Nat.add_assoc, M.sm, ih (by omega)]
      have : (ns.getD i 0).testBit (n + d) = false := h.nb_lt (i := i) (j := n + d) (by omega)
      rw [this]; rfl
  have := ext (8 - n) (by have := h.n8; omega)
  rw [show n + (8 - n) = 8 by have := h.n8; omega] at this
  rw [← this]
  exact key _ 8
end Go.Proofs.YtcheoendfcgjgaaDoor.K
