/- Parts: contracts and plain lemmas for the law FnSwitchesKeepSums, part 4 of 5 (what the Go functions answer). -/
import Derived.Test.YtojcnapdalpnmaaCFnSwitchesKeepSumsa
import Derived.Test.YtojcnapdalpnmaaCFnSwitchesKeepSumsb
import Derived.Test.YtojcnapdalpnmaaCFnSwitchesKeepSumsc
set_option linter.unusedVariables false
set_option linter.unusedSimpArgs false
namespace Go.Proofs.Ytojcnapdalpnmaa.P
open Go.RowKit Go.Proofs.YtojcnapdalpnmaaW.PrintWords Go.Proofs.YtojcnapdalpnmaaW.PrintLast Go.Proofs.YtojcnapdalpnmaaW.PrintMore
attribute [local go_sem] max2_int min2_int max_two min_two max_three min_three max_four min_four
attribute [local go_sem high] eqA41
mutual
def laws_FnSwitchesKeepSums.j0 : Nat → List (List Int) → List (List Int) → Bool → Bool → Int → Int → Int → Int → Option (Bool)
 | 0, _, _, _, _, _, _, _, _ => none
 | k + 1, x5, x7, x8, x58, x760000, x760001, x760002, x760003 => if x58 = true then (some false) else ((impl_GridSwitches.f k x5).bind fun bt769 => ((spec_GridSwitches.f k x5).bind fun bt773 => ((impl_IsOnlyGrid.f k x5).bind fun bt777 => (if (bt769.2 != bt773.2) = true then (laws_FnSwitchesKeepSums.j1 k x5 x7 x8 bt769.1 bt769.2 true x760000 x760001 x760002 x760003) else ((laws_pSwitches.f k bt769.1 bt773.1).bind fun t779 => (if t779 = true then (if (bt777.2 != bt769.2) = true then (laws_FnSwitchesKeepSums.j1 k x5 x7 x8 bt769.1 bt769.2 true x760000 x760001 x760002 x760003) else (if bt777.2 = true then (laws_FnSwitchesKeepSums.j1 k x5 x7 x8 bt769.1 bt769.2 (bt777.1 != ((bt769.1.length : Int) == 0)) x760000 x760001 x760002 x760003) else (laws_FnSwitchesKeepSums.j1 k x5 x7 x8 bt769.1 bt769.2 false x760000 x760001 x760002 x760003))) else (laws_FnSwitchesKeepSums.j1 k x5 x7 x8 bt769.1 bt769.2 true x760000 x760001 x760002 x760003)))))))
def laws_FnSwitchesKeepSums.j1 : Nat → List (List Int) → List (List Int) → Bool → List (S41) → Bool → Bool → Int → Int → Int → Int → Option (Bool)
 | 0, _, _, _, _, _, _, _, _, _, _ => none
 | k + 1, x5, x7, x8, x11, x12, x97, x760000, x760001, x760002, x760003 => if x97 = true then (some false) else (if x12 = true then (laws_FnSwitchesKeepSums.l0 k x5 x7 x8 false x11 (x11.length : Int) 0 x760000 x760001 x760002 x760003) else (some (!x8)))
def laws_FnSwitchesKeepSums.l0 : Nat → List (List Int) → List (List Int) → Bool → Bool → List (S41) → Int → Int → Int → Int → Int → Int → Option (Bool)
 | 0, _, _, _, _, _, _, _, _, _, _, _ => none
 | k + 1, x5, x7, x8, x17, x102, x103, x104, x760000, x760001, x760002, x760003 => if x104 < x103 then (if 0 ≤ x104 then (if x104 < (x102.length : Int) then (if x17 = true then (laws_FnSwitchesKeepSums.l0 k x5 x7 x8 true x102 x103 (wrap64 (x104 + 1)) x760000 x760001 x760002 x760003) else (laws_FnSwitchesKeepSums.l0 k x5 x7 x8 (((rd_T41 x102 x104).f0) == x760000 && (((rd_T41 x102 x104).f1) == x760001 && (((rd_T41 x102 x104).f2) == x760002 && (((rd_T41 x102 x104).f3) == x760003)))) x102 x103 (wrap64 (x104 + 1)) x760000 x760001 x760002 x760003)) else (none)) else (none)) else (if (x17 != x8) = true then (some false) else (if x8 = true then ((impl_SumsOfGrid.f k x5).bind fun bt782 => ((impl_SumsOfGrid.f k x7).bind fun bt789 => ((impl_GridsApart.f k x5 x7).bind fun bt796 => ((impl_DoSwitch.f x7 x760000 x760001 x760002 x760003).bind fun bt798 => (if bt782.2.2 = true then (if bt789.2.2 = true then (if bt796.2 = true then (if bt798.2 = true then ((laws_pSame.f k bt782.1 bt789.1).bind fun t802 => (if t802 = true then ((laws_pSame.f k bt782.2.1 bt789.2.1).bind fun t803 => (if t803 = true then (if bt796.1 = 4 then ((laws_pSameRows.f k bt798.1 x5).bind fun t804 => (some t804)) else (some false)) else (some false))) else (some false))) else (some false)) else (some false)) else (some false)) else (some false)))))) else (some true)))
end
def laws_FnSwitchesKeepSums.f (k : Nat) (l0 : List Int) (l1 : List Int) : Option (Bool) := (laws_big.f l0 l1).bind fun t751 => (if t751 = true then (some true) else ((spec_DrawDoSwitch.f k l0).bind fun bt752 => ((impl_DoSwitch.f bt752.1 bt752.2.1 bt752.2.2.1 bt752.2.2.2.1 bt752.2.2.2.2).bind fun bt760 => ((spec_DoSwitch.f k bt752.1 bt752.2.1 bt752.2.2.1 bt752.2.2.2.1 bt752.2.2.2.2).bind fun bt764 => (if (bt760.2 != bt764.2) = true then (laws_FnSwitchesKeepSums.j0 k bt752.1 bt760.1 bt760.2 true bt752.2.1 bt752.2.2.1 bt752.2.2.2.1 bt752.2.2.2.2) else ((laws_pSameRows.f k bt760.1 bt764.1).bind fun t768 => (laws_FnSwitchesKeepSums.j0 k bt752.1 bt760.1 bt760.2 (!t768) bt752.2.1 bt752.2.2.1 bt752.2.2.2.1 bt752.2.2.2.2)))))))
theorem laws_FnSwitchesKeepSums.mono_l : ∀ k, (∀ y0 y1 y2 y3 y4 y5 y6 y7, LeO (laws_FnSwitchesKeepSums.j0 k y0 y1 y2 y3 y4 y5 y6 y7) (laws_FnSwitchesKeepSums.j0 (k + 1) y0 y1 y2 y3 y4 y5 y6 y7)) ∧ (∀ y0 y1 y2 y3 y4 y5 y6 y7 y8 y9, LeO (laws_FnSwitchesKeepSums.j1 k y0 y1 y2 y3 y4 y5 y6 y7 y8 y9) (laws_FnSwitchesKeepSums.j1 (k + 1) y0 y1 y2 y3 y4 y5 y6 y7 y8 y9)) ∧ (∀ y0 y1 y2 y3 y4 y5 y6 y7 y8 y9 y10, LeO (laws_FnSwitchesKeepSums.l0 k y0 y1 y2 y3 y4 y5 y6 y7 y8 y9 y10) (laws_FnSwitchesKeepSums.l0 (k + 1) y0 y1 y2 y3 y4 y5 y6 y7 y8 y9 y10))
 | 0 => ⟨fun _ _ _ _ _ _ _ _ r h => by simp [laws_FnSwitchesKeepSums.j0] at h, fun _ _ _ _ _ _ _ _ _ _ r h => by simp [laws_FnSwitchesKeepSums.j1] at h, fun _ _ _ _ _ _ _ _ _ _ _ r h => by simp [laws_FnSwitchesKeepSums.l0] at h⟩
 | k + 1 => by
  obtain ⟨ih0, ih1, ih2⟩ := laws_FnSwitchesKeepSums.mono_l k
  refine ⟨?_, ?_, ?_⟩
  ·
   intro y0 y1 y2 y3 y4 y5 y6 y7
   unfold laws_FnSwitchesKeepSums.j0
   repeat' first
   | (with_reducible exact ih0 _ _ _ _ _ _ _ _)
   | (with_reducible exact ih1 _ _ _ _ _ _ _ _ _ _)
   | (with_reducible exact ih2 _ _ _ _ _ _ _ _ _ _ _)
   | (with_reducible exact impl_GridSwitches.mono _ _)
   | (with_reducible exact impl_GridsApart.mono _ _ _)
   | (with_reducible exact impl_IsOnlyGrid.mono _ _)
   | (with_reducible exact impl_SumsOfGrid.mono _ _)
   | (with_reducible exact laws_pSame.mono _ _ _)
   | (with_reducible exact laws_pSameRows.mono _ _ _)
   | (with_reducible exact laws_pSwitches.mono _ _ _)
   | (with_reducible exact spec_DoSwitch.mono _ _ _ _ _ _)
   | (with_reducible exact spec_DrawDoSwitch.mono _ _)
   | (with_reducible exact spec_GridSwitches.mono _ _)
   | (with_reducible exact LeO.refl _)
   | (with_reducible exact LeO.none _)
   | (with_reducible refine LeO.ite ?_ ?_)
   | (with_reducible refine LeO.bind ?_ (fun _ => ?_))
   | exact ih0 _ _ _ _ _ _ _ _
   | exact ih1 _ _ _ _ _ _ _ _ _ _
   | exact ih2 _ _ _ _ _ _ _ _ _ _ _
   | exact impl_GridSwitches.mono _ _
   | exact impl_GridsApart.mono _ _ _
   | exact impl_IsOnlyGrid.mono _ _
   | exact impl_SumsOfGrid.mono _ _
   | exact laws_pSame.mono _ _ _
   | exact laws_pSameRows.mono _ _ _
   | exact laws_pSwitches.mono _ _ _
   | exact spec_DoSwitch.mono _ _ _ _ _ _
   | exact spec_DrawDoSwitch.mono _ _
   | exact spec_GridSwitches.mono _ _
   | exact LeO.none _
   | refine LeO.ite ?_ ?_
   | refine LeO.bind ?_ (fun _ => ?_)
  ·
   intro y0 y1 y2 y3 y4 y5 y6 y7 y8 y9
   unfold laws_FnSwitchesKeepSums.j1
   repeat' first
   | (with_reducible exact ih0 _ _ _ _ _ _ _ _)
   | (with_reducible exact ih1 _ _ _ _ _ _ _ _ _ _)
   | (with_reducible exact ih2 _ _ _ _ _ _ _ _ _ _ _)
   | (with_reducible exact impl_GridSwitches.mono _ _)
   | (with_reducible exact impl_GridsApart.mono _ _ _)
   | (with_reducible exact impl_IsOnlyGrid.mono _ _)
   | (with_reducible exact impl_SumsOfGrid.mono _ _)
   | (with_reducible exact laws_pSame.mono _ _ _)
   | (with_reducible exact laws_pSameRows.mono _ _ _)
   | (with_reducible exact laws_pSwitches.mono _ _ _)
   | (with_reducible exact spec_DoSwitch.mono _ _ _ _ _ _)
   | (with_reducible exact spec_DrawDoSwitch.mono _ _)
   | (with_reducible exact spec_GridSwitches.mono _ _)
   | (with_reducible exact LeO.refl _)
   | (with_reducible exact LeO.none _)
   | (with_reducible refine LeO.ite ?_ ?_)
   | (with_reducible refine LeO.bind ?_ (fun _ => ?_))
   | exact ih0 _ _ _ _ _ _ _ _
   | exact ih1 _ _ _ _ _ _ _ _ _ _
   | exact ih2 _ _ _ _ _ _ _ _ _ _ _
   | exact impl_GridSwitches.mono _ _
   | exact impl_GridsApart.mono _ _ _
   | exact impl_IsOnlyGrid.mono _ _
   | exact impl_SumsOfGrid.mono _ _
   | exact laws_pSame.mono _ _ _
   | exact laws_pSameRows.mono _ _ _
   | exact laws_pSwitches.mono _ _ _
   | exact spec_DoSwitch.mono _ _ _ _ _ _
   | exact spec_DrawDoSwitch.mono _ _
   | exact spec_GridSwitches.mono _ _
   | exact LeO.none _
   | refine LeO.ite ?_ ?_
   | refine LeO.bind ?_ (fun _ => ?_)
  ·
   intro y0 y1 y2 y3 y4 y5 y6 y7 y8 y9 y10
   unfold laws_FnSwitchesKeepSums.l0
   repeat' first
   | (with_reducible exact ih0 _ _ _ _ _ _ _ _)
   | (with_reducible exact ih1 _ _ _ _ _ _ _ _ _ _)
   | (with_reducible exact ih2 _ _ _ _ _ _ _ _ _ _ _)
   | (with_reducible exact impl_GridSwitches.mono _ _)
   | (with_reducible exact impl_GridsApart.mono _ _ _)
   | (with_reducible exact impl_IsOnlyGrid.mono _ _)
   | (with_reducible exact impl_SumsOfGrid.mono _ _)
   | (with_reducible exact laws_pSame.mono _ _ _)
   | (with_reducible exact laws_pSameRows.mono _ _ _)
   | (with_reducible exact laws_pSwitches.mono _ _ _)
   | (with_reducible exact spec_DoSwitch.mono _ _ _ _ _ _)
   | (with_reducible exact spec_DrawDoSwitch.mono _ _)
   | (with_reducible exact spec_GridSwitches.mono _ _)
   | (with_reducible exact LeO.refl _)
   | (with_reducible exact LeO.none _)
   | (with_reducible refine LeO.ite ?_ ?_)
   | (with_reducible refine LeO.bind ?_ (fun _ => ?_))
   | exact ih0 _ _ _ _ _ _ _ _
   | exact ih1 _ _ _ _ _ _ _ _ _ _
   | exact ih2 _ _ _ _ _ _ _ _ _ _ _
   | exact impl_GridSwitches.mono _ _
   | exact impl_GridsApart.mono _ _ _
   | exact impl_IsOnlyGrid.mono _ _
   | exact impl_SumsOfGrid.mono _ _
   | exact laws_pSame.mono _ _ _
   | exact laws_pSameRows.mono _ _ _
   | exact laws_pSwitches.mono _ _ _
   | exact spec_DoSwitch.mono _ _ _ _ _ _
   | exact spec_DrawDoSwitch.mono _ _
   | exact spec_GridSwitches.mono _ _
   | exact LeO.none _
   | refine LeO.ite ?_ ?_
   | refine LeO.bind ?_ (fun _ => ?_)
theorem laws_FnSwitchesKeepSums.mono : ∀ a0 a1 k, LeO (laws_FnSwitchesKeepSums.f k a0 a1) (laws_FnSwitchesKeepSums.f (k + 1) a0 a1) := by
 intro a0 a1 k
 obtain ⟨ih0, ih1, ih2⟩ := laws_FnSwitchesKeepSums.mono_l k
 unfold laws_FnSwitchesKeepSums.f
 repeat' first
   | (with_reducible exact ih0 _ _ _ _ _ _ _ _)
   | (with_reducible exact ih1 _ _ _ _ _ _ _ _ _ _)
   | (with_reducible exact ih2 _ _ _ _ _ _ _ _ _ _ _)
   | (with_reducible exact impl_GridSwitches.mono _ _)
   | (with_reducible exact impl_GridsApart.mono _ _ _)
   | (with_reducible exact impl_IsOnlyGrid.mono _ _)
   | (with_reducible exact impl_SumsOfGrid.mono _ _)
   | (with_reducible exact laws_pSame.mono _ _ _)
   | (with_reducible exact laws_pSameRows.mono _ _ _)
   | (with_reducible exact laws_pSwitches.mono _ _ _)
   | (with_reducible exact spec_DoSwitch.mono _ _ _ _ _ _)
   | (with_reducible exact spec_DrawDoSwitch.mono _ _)
   | (with_reducible exact spec_GridSwitches.mono _ _)
   | (with_reducible exact LeO.refl _)
   | (with_reducible exact LeO.none _)
   | (with_reducible refine LeO.ite ?_ ?_)
   | (with_reducible refine LeO.bind ?_ (fun _ => ?_))
   | exact ih0 _ _ _ _ _ _ _ _
   | exact ih1 _ _ _ _ _ _ _ _ _ _
   | exact ih2 _ _ _ _ _ _ _ _ _ _ _
   | exact impl_GridSwitches.mono _ _
   | exact impl_GridsApart.mono _ _ _
   | exact impl_IsOnlyGrid.mono _ _
   | exact impl_SumsOfGrid.mono _ _
   | exact laws_pSame.mono _ _ _
   | exact laws_pSameRows.mono _ _ _
   | exact laws_pSwitches.mono _ _ _
   | exact spec_DoSwitch.mono _ _ _ _ _ _
   | exact spec_DrawDoSwitch.mono _ _
   | exact spec_GridSwitches.mono _ _
   | exact LeO.none _
   | refine LeO.ite ?_ ?_
   | refine LeO.bind ?_ (fun _ => ?_)
set_option maxHeartbeats 8000000 in
set_option maxRecDepth 100000 in
theorem laws_FnSwitchesKeepSums.calls (k : Nat) (A0 : Option Addr) (c0 : Nat) (l0 : List Int) (A1 : Option Addr) (c1 : Nat) (l1 : List Int) (r : Bool) (w : World) (hr0 : Kd.C (Kd.int .u8) w A0 l0.length l0) (hc0 : l0.length ≤ c0) (hr1 : Kd.C (Kd.int .u8) w A1 l1.length l1) (hc1 : l1.length ≤ c1) (h : laws_FnSwitchesKeepSums.f k l0 l1 = some r) :
  Calls Try.prog 15 #[.slice A0 l0.length c0, .slice A1 l1.length c1] w fun e w' => e = .returned (.bool r) ∧ Below w.heap.size w w' := by
 have hu41 := Try.underlying41
 have HR0 := Aside0.mk hr0
 have HC0 := Aside0.mk hc0
 clear hr0 hc0
 have HR1 := Aside0.mk hr1
 have HC1 := Aside0.mk hc1
 clear hr1 hc1
 have HB := Aside0.mk (Below.refl w.heap.size w)
 have H : ((laws_big.f l0 l1).bind fun t751 => (if t751 = true then (some true) else ((spec_DrawDoSwitch.f k l0).bind fun bt752 => ((impl_DoSwitch.f bt752.1 bt752.2.1 bt752.2.2.1 bt752.2.2.2.1 bt752.2.2.2.2).bind fun bt760 => ((spec_DoSwitch.f k bt752.1 bt752.2.1 bt752.2.2.1 bt752.2.2.2.1 bt752.2.2.2.2).bind fun bt764 => (if (bt760.2 != bt764.2) = true then (laws_FnSwitchesKeepSums.j0 k bt752.1 bt760.1 bt760.2 true bt752.2.1 bt752.2.2.1 bt752.2.2.2.1 bt752.2.2.2.2) else ((laws_pSameRows.f k bt760.1 bt764.1).bind fun t768 => (laws_FnSwitchesKeepSums.j0 k bt752.1 bt760.1 bt760.2 (!t768) bt752.2.1 bt752.2.2.1 bt752.2.2.2.1 bt752.2.2.2.2)))))))) = some r := h
 clear h
 replace H := Option.bind_eq_some_iff.mp H
 obtain ⟨t751, A30, H⟩ := H
 replace H : (if t751 = true then (some true) else ((spec_DrawDoSwitch.f k l0).bind fun bt752 => ((impl_DoSwitch.f bt752.1 bt752.2.1 bt752.2.2.1 bt752.2.2.2.1 bt752.2.2.2.2).bind fun bt760 => ((spec_DoSwitch.f k bt752.1 bt752.2.1 bt752.2.2.1 bt752.2.2.2.1 bt752.2.2.2.2).bind fun bt764 => (if (bt760.2 != bt764.2) = true then (laws_FnSwitchesKeepSums.j0 k bt752.1 bt760.1 bt760.2 true bt752.2.1 bt752.2.2.1 bt752.2.2.2.1 bt752.2.2.2.2) else ((laws_pSameRows.f k bt760.1 bt764.1).bind fun t768 => (laws_FnSwitchesKeepSums.j0 k bt752.1 bt760.1 bt760.2 (!t768) bt752.2.1 bt752.2.2.1 bt752.2.2.2.1 bt752.2.2.2.2))))))) = some r := H
 have A3 := Aside0.mk A30
 clear A30
 by_cases c4 : t751 = true
 ·
  subst c4
  have H1 : (some true) = some r := by rw [if_pos rfl] at H; exact H
  clear H
  have H := H1
  clear H1
  obtain rfl := Option.some.inj H
  go_enter Try.func15, Try.ntmps15
  go_wp2_with (first | ((with_reducible refine gate_callee (f := 55) rfl ?_); refine goesL_ (some 32) rfl rfl Try.func55 (by kernel_rfl) rfl #[.slice A0 l0.length c0, .slice A1 l1.length c1] rfl (by (try simp only [List.map_toArray, List.map_cons, List.map_nil]); first | done | rfl) ?_; (with_reducible refine (laws_big.calls _ _ l0 _ _ l1 true _ ?side1 ?side2 ?side3 ?side4 A3.out).mono ?_); (case side1 => repeat (first | exact HR0.out | (with_reducible refine Kd.C_alloc ?_ _) | (with_reducible refine Kd.C_drewN ?_ _) | (with_reducible refine Kd.C_drew ?_))); (case side2 => exact HC0.out); (case side3 => repeat (first | exact HR1.out | (with_reducible refine Kd.C_alloc ?_ _) | (with_reducible refine Kd.C_drewN ?_ _) | (with_reducible refine Kd.C_drew ?_))); (case side4 => exact HC1.out); rintro e w' ⟨rfl, ⟨nd, rfl⟩⟩; refine ⟨_, rfl, ?_⟩))
  go_ret
  exact ⟨by first | rfl | (simp [errW_none, errW_some] <;> rfl) | (simp [*, errW_none, errW_some] <;> rfl), by repeat (first | (with_reducible first | exact HB.out | apply below_alloc | apply pw_below_drewN | apply below_drew1) | exact HB.out)⟩
 ·
  replace c4 := Bool.eq_false_iff.mpr c4
  subst c4
  have H1 : ((spec_DrawDoSwitch.f k l0).bind fun bt752 => ((impl_DoSwitch.f bt752.1 bt752.2.1 bt752.2.2.1 bt752.2.2.2.1 bt752.2.2.2.2).bind fun bt760 => ((spec_DoSwitch.f k bt752.1 bt752.2.1 bt752.2.2.1 bt752.2.2.2.1 bt752.2.2.2.2).bind fun bt764 => (if (bt760.2 != bt764.2) = true then (laws_FnSwitchesKeepSums.j0 k bt752.1 bt760.1 bt760.2 true bt752.2.1 bt752.2.2.1 bt752.2.2.2.1 bt752.2.2.2.2) else ((laws_pSameRows.f k bt760.1 bt764.1).bind fun t768 => (laws_FnSwitchesKeepSums.j0 k bt752.1 bt760.1 bt760.2 (!t768) bt752.2.1 bt752.2.2.1 bt752.2.2.2.1 bt752.2.2.2.2)))))) = some r := by rw [if_neg (show ¬ (false = true) by decide)] at H; exact H
  clear H
  have H := H1
  clear H1
  replace H := Option.bind_eq_some_iff.mp H
  obtain ⟨⟨t752, t755, t756, t757, t758⟩, A50, H⟩ := H
  replace H : ((impl_DoSwitch.f t752 t755 t756 t757 t758).bind fun bt760 => ((spec_DoSwitch.f k t752 t755 t756 t757 t758).bind fun bt764 => (if (bt760.2 != bt764.2) = true then (laws_FnSwitchesKeepSums.j0 k t752 bt760.1 bt760.2 true t755 t756 t757 t758) else ((laws_pSameRows.f k bt760.1 bt764.1).bind fun t768 => (laws_FnSwitchesKeepSums.j0 k t752 bt760.1 bt760.2 (!t768) t755 t756 t757 t758))))) = some r := H
  have A5 := Aside0.mk A50
  clear A50
  replace H := Option.bind_eq_some_iff.mp H
  obtain ⟨⟨t760, t763⟩, A60, H⟩ := H
  replace H : ((spec_DoSwitch.f k t752 t755 t756 t757 t758).bind fun bt764 => (if (t763 != bt764.2) = true then (laws_FnSwitchesKeepSums.j0 k t752 t760 t763 true t755 t756 t757 t758) else ((laws_pSameRows.f k t760 bt764.1).bind fun t768 => (laws_FnSwitchesKeepSums.j0 k t752 t760 t763 (!t768) t755 t756 t757 t758)))) = some r := H
  have A6 := Aside0.mk A60
  clear A60
  replace H := Option.bind_eq_some_iff.mp H
  obtain ⟨⟨t764, t767⟩, A70, H⟩ := H
  replace H : (if (t763 != t767) = true then (laws_FnSwitchesKeepSums.j0 k t752 t760 t763 true t755 t756 t757 t758) else ((laws_pSameRows.f k t760 t764).bind fun t768 => (laws_FnSwitchesKeepSums.j0 k t752 t760 t763 (!t768) t755 t756 t757 t758))) = some r := H
  have A7 := Aside0.mk A70
  clear A70
  have HC8 := Aside0.mk H
  clear H
  go_enter Try.func15, Try.ntmps15
  go_upto_region 6 with (first | ((with_reducible refine gate_callee (f := 55) rfl ?_); refine goesL_ (some 32) rfl rfl Try.func55 (by kernel_rfl) rfl #[.slice A0 l0.length c0, .slice A1 l1.length c1] rfl (by (try simp only [List.map_toArray, List.map_cons, List.map_nil]); first | done | rfl) ?_; (with_reducible refine (laws_big.calls _ _ l0 _ _ l1 false _ ?side1 ?side2 ?side3 ?side4 A3.out).mono ?_); (case side1 => repeat (first | exact HR0.out | (with_reducible refine Kd.C_alloc ?_ _) | (with_reducible refine Kd.C_drewN ?_ _) | (with_reducible refine Kd.C_drew ?_))); (case side2 => exact HC0.out); (case side3 => repeat (first | exact HR1.out | (with_reducible refine Kd.C_alloc ?_ _) | (with_reducible refine Kd.C_drewN ?_ _) | (with_reducible refine Kd.C_drew ?_))); (case side4 => exact HC1.out); rintro e w' ⟨rfl, ⟨nd, rfl⟩⟩; refine ⟨_, rfl, ?_⟩) | ((with_reducible refine gate_callee (f := 56) rfl ?_); refine goesL_ (some 35) rfl rfl Try.func56 (by kernel_rfl) rfl #[.slice A0 l0.length c0] rfl (by (try simp only [List.map_toArray, List.map_cons, List.map_nil]); first | done | rfl) ?_; (with_reducible refine (spec_DrawDoSwitch.calls k _ _ l0 t752 t755 t756 t757 t758 _ ?side1 ?side2 A5.out).mono ?_); (case side1 => repeat (first | exact HR0.out | (with_reducible refine Kd.C_alloc ?_ _) | (with_reducible refine Kd.C_drewN ?_ _) | (with_reducible refine Kd.C_drew ?_))); (case side2 => exact HC0.out); rintro e w9 ⟨v753, rfl, ho0, hb⟩; refine ⟨_, rfl, ?_⟩; have n0_ := Aside0.mk (Kd.S_lower ho0 (below_size (by repeat (first | (with_reducible first | exact HB.out | apply below_alloc | apply pw_below_drewN | apply below_drew1))))); have n1_ := Aside0.mk (below_step (by repeat (first | (with_reducible first | exact HB.out | apply below_alloc | apply pw_below_drewN | apply below_drew1))) hb); clear HB; have HO754 := n0_; have HB := n1_; clear n0_ n1_; (try clear hb); (try clear hb2); (try clear hk); (try clear hi); (try clear ho0)) | ((with_reducible refine gate_dst (N := 6) rfl ?_); (try (refine gate_guard (by rfl) ?_; dsimp only)); refine box_event ?hg (N := 6) ?hd (cs := #[.int .i64 0, .int .i64 0, .int .i64 0, .int .i64 0]) (t := 41) ?hr ?_; (case hd => rfl); (case hg => rfl); (case hr => first | (go_simp; done) | (go_simp; rfl)); intro gb759 hg w10 hbox hb; have n0_ := Aside0.mk (Kd.S_below (by (with_reducible repeat (first | apply Kd.S_alloc | apply Kd.S_drewN | apply Kd.S_drew)); exact HO754.out) hb); have n1_ := Aside0.mk (below_step (by repeat (first | (with_reducible first | exact HB.out | apply below_alloc | apply pw_below_drewN | apply below_drew1))) hb); have n2_ := Aside0.mk (hbox); have n3_ := Aside0.mk ((by rw [hg]; exact (below_size (by repeat (first | (with_reducible first | exact HB.out | apply below_alloc | apply pw_below_drewN | apply below_drew1)))) : w.heap.size ≤ gb759)); have n4_ := Aside0.mk ((by rw [hg]; exact (below_size (by repeat (first | (with_reducible first | exact HB.out | apply below_alloc | apply pw_below_drewN | apply below_drew1)))) : w.heap.size ≤ gb759)); clear HO754; clear HB; have HO754 := n0_; have HB := n1_; have BK759 := n2_; have GW759 := n3_; have GE759 := n4_; clear n0_ n1_ n2_ n3_ n4_; clear hb hbox hg; have hcz11_0 : w10.cell? ⟨gb759, 0, none⟩ = some (.int .i64 0) := (blk_cell BK759.out 0).trans rfl; have hcz11_1 : w10.cell? ⟨gb759, 1, none⟩ = some (.int .i64 0) := (blk_cell BK759.out 1).trans rfl; have hcz11_2 : w10.cell? ⟨gb759, 2, none⟩ = some (.int .i64 0) := (blk_cell BK759.out 2).trans rfl; have hcz11_3 : w10.cell? ⟨gb759, 3, none⟩ = some (.int .i64 0) := (blk_cell BK759.out 3).trans rfl; have hfz11_0 := blk_frozen BK759.out 0; have hfz11_1 := blk_frozen BK759.out 1; have hfz11_2 := blk_frozen BK759.out 2; have hfz11_3 := blk_frozen BK759.out 3; obtain ⟨Ao12, co12, eo12⟩ := Kd.S_slice HO754.out; subst eo12) | ((with_reducible refine gate_callee (f := 40) rfl ?_); refine goesL_ (some 41) rfl rfl Try.func40 (by kernel_rfl) rfl #[.slice Ao12 t752.length co12, .agg #[.int .i64 t755, .int .i64 t756, .int .i64 t757, .int .i64 t758]] rfl (by (try simp only [List.map_toArray, List.map_cons, List.map_nil]); first | done | rfl) ?_; (with_reducible refine (impl_DoSwitch.calls _ _ t752 t755 t756 t757 t758 t760 t763 _ ?side1 ?side2 A6.out).mono ?_); (case side1 => refine (Kd.S_reads' (e := 33) (base := w.heap.size) (ok := fun k_ => True) (n := t752.length) (c := co12) ?_).2.2; exact (by (with_reducible repeat (first | apply Kd.S_alloc | apply Kd.S_drewN | apply Kd.S_drew)); exact (Kd.S_mono (Kd.S_far (p := ⟨gb759, 3, none⟩) (Kd.S_far (p := ⟨gb759, 2, none⟩) (Kd.S_far (p := ⟨gb759, 1, none⟩) (Kd.S_far (p := ⟨gb759, 0, none⟩) (Kd.S_types HO754.out BK759.out (by decide)) (fun _ hk => hk.2) (.int .i64 t755)) (fun _ hk => hk.2) (.int .i64 t756)) (fun _ hk => hk.2) (.int .i64 t757)) (fun _ hk => hk.2) (.int .i64 t758)) (fun _ h_ => h_.1)))); (case side2 => exact (Kd.S_reads' HO754.out).2.1); rintro e w13 ⟨v761, rfl, ho0, hb⟩; refine ⟨_, rfl, ?_⟩; have n0_ := Aside0.mk (Kd.S_elder' (by (with_reducible repeat (first | apply Kd.S_alloc | apply Kd.S_drewN | apply Kd.S_drew)); exact (Kd.S_mono (Kd.S_far (p := ⟨gb759, 3, none⟩) (Kd.S_far (p := ⟨gb759, 2, none⟩) (Kd.S_far (p := ⟨gb759, 1, none⟩) (Kd.S_far (p := ⟨gb759, 0, none⟩) (Kd.S_types HO754.out BK759.out (by decide)) (fun _ hk => hk.2) (.int .i64 t755)) (fun _ hk => hk.2) (.int .i64 t756)) (fun _ hk => hk.2) (.int .i64 t757)) (fun _ hk => hk.2) (.int .i64 t758)) (fun _ h_ => h_.1))) (Kd.S_base ho0) hb); have n1_ := Aside0.mk (Kd.S_lower (Kd.S_new' ho0 (Kd.S_lt (by (with_reducible repeat (first | apply Kd.S_alloc | apply Kd.S_drewN | apply Kd.S_drew)); exact (Kd.S_mono (Kd.S_far (p := ⟨gb759, 3, none⟩) (Kd.S_far (p := ⟨gb759, 2, none⟩) (Kd.S_far (p := ⟨gb759, 1, none⟩) (Kd.S_far (p := ⟨gb759, 0, none⟩) (Kd.S_types HO754.out BK759.out (by decide)) (fun _ hk => hk.2) (.int .i64 t755)) (fun _ hk => hk.2) (.int .i64 t756)) (fun _ hk => hk.2) (.int .i64 t757)) (fun _ hk => hk.2) (.int .i64 t758)) (fun _ h_ => h_.1))))) (below_size (by repeat (first | (with_reducible first | exact HB.out | apply below_alloc | apply pw_below_drewN | apply below_drew1 | refine below_set ?_ GE759.out) | exact HB.out)))); have n2_ := Aside0.mk (blk_below (g := gb759) (o := .cells #[.int .i64 t755, .int .i64 t756, .int .i64 t757, .int .i64 t758] 41 (0, 0)) (by (with_reducible repeat (first | refine blk_drewN ?_ _ | refine blk_drew ?_ | refine blk_alloc ?_ _)); refine blk_put (cs := #[.int .i64 t755, .int .i64 t756, .int .i64 t757, .int .i64 0]) ?_ 3 _ rfl; (with_reducible repeat (first | refine blk_drewN ?_ _ | refine blk_drew ?_ | refine blk_alloc ?_ _)); refine blk_put (cs := #[.int .i64 t755, .int .i64 t756, .int .i64 0, .int .i64 0]) ?_ 2 _ rfl; (with_reducible repeat (first | refine blk_drewN ?_ _ | refine blk_drew ?_ | refine blk_alloc ?_ _)); refine blk_put (cs := #[.int .i64 t755, .int .i64 0, .int .i64 0, .int .i64 0]) ?_ 1 _ rfl; (with_reducible repeat (first | refine blk_drewN ?_ _ | refine blk_drew ?_ | refine blk_alloc ?_ _)); refine blk_put (cs := #[.int .i64 0, .int .i64 0, .int .i64 0, .int .i64 0]) ?_ 0 _ rfl; (with_reducible repeat (first | refine blk_drewN ?_ _ | refine blk_drew ?_ | refine blk_alloc ?_ _)); exact BK759.out) hb); have n3_ := Aside0.mk (below_step (by repeat (first | (with_reducible first | exact HB.out | apply below_alloc | apply pw_below_drewN | apply below_drew1 | refine below_set ?_ GE759.out) | exact HB.out)) hb); clear HO754; clear BK759; clear HB; have HO754 := n0_; have HO762 := n1_; have BK759 := n2_; have HB := n3_; clear n0_ n1_ n2_ n3_; (try clear hb); (try clear hb2); (try clear hk); (try clear hi); (try clear ho0); have hcz14_0 : w13.cell? ⟨gb759, 0, none⟩ = some (.int .i64 t755) := (blk_cell BK759.out 0).trans rfl; have hcz14_1 : w13.cell? ⟨gb759, 1, none⟩ = some (.int .i64 t756) := (blk_cell BK759.out 1).trans rfl; have hcz14_2 : w13.cell? ⟨gb759, 2, none⟩ = some (.int .i64 t757) := (blk_cell BK759.out 2).trans rfl; have hcz14_3 : w13.cell? ⟨gb759, 3, none⟩ = some (.int .i64 t758) := (blk_cell BK759.out 3).trans rfl; have hfz14_0 := blk_frozen BK759.out 0; have hfz14_1 := blk_frozen BK759.out 1; have hfz14_2 := blk_frozen BK759.out 2; have hfz14_3 := blk_frozen BK759.out 3) | ((with_reducible refine gate_callee (f := 38) rfl ?_); refine goesL_ (some 47) rfl rfl Try.func38 (by kernel_rfl) rfl #[.slice Ao12 t752.length co12, .agg #[.int .i64 t755, .int .i64 t756, .int .i64 t757, .int .i64 t758]] rfl (by (try simp only [List.map_toArray, List.map_cons, List.map_nil]); first | done | rfl) ?_; (with_reducible refine (spec_DoSwitch.calls k _ _ t752 t755 t756 t757 t758 t764 t767 _ ?side1 ?side2 A7.out).mono ?_); (case side1 => repeat (first | exact (Kd.S_reads' HO754.out).2.2 | (with_reducible refine Kd.C_alloc ?_ _) | (with_reducible refine Kd.C_drewN ?_ _) | (with_reducible refine Kd.C_drew ?_))); (case side2 => exact (Kd.S_reads' HO754.out).2.1); rintro e w15 ⟨v765, rfl, ho0, hb⟩; refine ⟨_, rfl, ?_⟩; have n0_ := Aside0.mk (Kd.S_elder' (by (with_reducible repeat (first | apply Kd.S_alloc | apply Kd.S_drewN | apply Kd.S_drew)); exact HO754.out) (Kd.S_base ho0) hb); have n1_ := Aside0.mk (Kd.S_elder' (by (with_reducible repeat (first | apply Kd.S_alloc | apply Kd.S_drewN | apply Kd.S_drew)); exact HO762.out) (Kd.S_base ho0) hb); have n2_ := Aside0.mk (Kd.S_lower (Kd.S_new' (Kd.S_new' ho0 (Kd.S_lt (by (with_reducible repeat (first | apply Kd.S_alloc | apply Kd.S_drewN | apply Kd.S_drew)); exact HO754.out))) (Kd.S_lt (by (with_reducible repeat (first | apply Kd.S_alloc | apply Kd.S_drewN | apply Kd.S_drew)); exact HO762.out))) (below_size (by repeat (first | (with_reducible first | exact HB.out | apply below_alloc | apply pw_below_drewN | apply below_drew1 | refine below_set ?_ GE759.out) | exact HB.out)))); have n3_ := Aside0.mk (blk_below (g := gb759) (o := .cells #[.int .i64 t755, .int .i64 t756, .int .i64 t757, .int .i64 t758] 41 (0, 0)) (by (with_reducible repeat (first | refine blk_drewN ?_ _ | refine blk_drew ?_ | refine blk_alloc ?_ _)); exact BK759.out) hb); have n4_ := Aside0.mk (below_step (by repeat (first | (with_reducible first | exact HB.out | apply below_alloc | apply pw_below_drewN | apply below_drew1 | refine below_set ?_ GE759.out) | exact HB.out)) hb); clear HO754; clear HO762; clear BK759; clear HB; have HO754 := n0_; have HO762 := n1_; have HO766 := n2_; have BK759 := n3_; have HB := n4_; clear n0_ n1_ n2_ n3_ n4_; (try clear hb); (try clear hb2); (try clear hk); (try clear hi); (try clear ho0)))
  (try simp only [Act.put, List.setIfInBounds_toArray, List.set_cons_zero, List.set_cons_succ])
  go_cut [58] (fun v58 wc => ∃ (kq : Nat) (x58_7 : Bool), v58 = .bool x58_7 ∧ Aside0 (laws_FnSwitchesKeepSums.j0 kq t752 t760 t763 x58_7 t755 t756 t757 t758 = some r) ∧ Aside0 (kq ≤ k) ∧ Aside0 (Kd.S (Kd.slice 3 (Kd.int .i64)) 33 wc w.heap.size (fun k_ => some k_ ≠ (v761 : Value).ownBlock) (.slice Ao12 t752.length co12) t752) ∧ Aside0 (Kd.S (Kd.slice 3 (Kd.int .i64)) 33 wc w.heap.size (fun k_ => some k_ ≠ ((.slice Ao12 t752.length co12) : Value).ownBlock) v761 t760) ∧ Aside0 (wc.heap[gb759]? = some (.cells #[.int .i64 t755, .int .i64 t756, .int .i64 t757, .int .i64 t758] 41 (0, 0))) ∧ Aside0 (Below w.heap.size w wc))
  case first =>
   have H := HC8.out
   clear HC8
   by_cases c16 : (t763 != t767) = true
   ·
    rw [if_pos c16] at H
    have c16b0 : (t763 != t767) = true := c16
    (try (have c16b1 : decide (t763 = t767) = false := by simpa using c16))
    (try (have c16b2 : (t763 == t767) = false := by simpa using c16))
    (try (have c16b3 : ¬ (t763 = t767) := by simpa using c16))
    clear c16
    (first | rw [c16b0] | (simp only [i64_w, i32_w]; rw [c16b0]) | skip)
    have H' := Aside0.mk H
    clear H
    go_wp2
    go_meet
    case rel => exact ⟨_, (true), (by first | rfl | (simp; done) | (simp [*]; done)), H', ⟨by first | omega | exact Nat.le_refl _⟩, ⟨by (with_reducible repeat (first | apply Kd.S_alloc | apply Kd.S_drewN | apply Kd.S_drew)); exact Kd.S_mono HO754.out (fun _ hk => hk.1.2)⟩, ⟨by (with_reducible repeat (first | apply Kd.S_alloc | apply Kd.S_drewN | apply Kd.S_drew)); exact Kd.S_mono HO762.out (fun _ hk => hk.1.2)⟩, ⟨by (with_reducible repeat (first | refine blk_drewN ?_ _ | refine blk_drew ?_ | refine blk_alloc ?_ _)); exact BK759.out⟩, ⟨by repeat (first | (with_reducible first | exact HB.out | apply below_alloc | apply pw_below_drewN | apply below_drew1 | refine below_set ?_ GE759.out) | exact HB.out)⟩⟩
   ·
    rw [if_neg c16] at H
    have c16b0 : (t763 != t767) = false := by simpa using c16
    (try (have c16b1 : decide (t763 = t767) = true := by simpa using c16))
    (try (have c16b2 : (t763 == t767) = true := by simpa using c16))
    clear c16
    (first | rw [c16b0] | (simp only [i64_w, i32_w]; rw [c16b0]) | skip)
    replace H := Option.bind_eq_some_iff.mp H
    obtain ⟨t768, A170, H⟩ := H
    replace H : (laws_FnSwitchesKeepSums.j0 k t752 t760 t763 (!t768) t755 t756 t757 t758) = some r := H
    have A17 := Aside0.mk A170
    clear A170
    have H' := Aside0.mk H
    clear H
    obtain ⟨Ao18, co18, eo18⟩ := Kd.S_slice HO762.out
    subst eo18
    obtain ⟨Ao19, co19, eo19⟩ := Kd.S_slice HO766.out
    subst eo19
    go_wp2_with (first | (go_at_call 57; (with_reducible refine (laws_pSameRows.calls k _ _ t760 _ _ t764 t768 _ ?side1 ?side2 ?side3 ?side4 A17.out).mono ?_); (case side1 => repeat (first | exact (Kd.S_reads' HO762.out).2.2 | (with_reducible refine Kd.C_alloc ?_ _) | (with_reducible refine Kd.C_drewN ?_ _) | (with_reducible refine Kd.C_drew ?_))); (case side2 => exact (Kd.S_reads' HO762.out).2.1); (case side3 => repeat (first | exact (Kd.S_reads' HO766.out).2.2 | (with_reducible refine Kd.C_alloc ?_ _) | (with_reducible refine Kd.C_drewN ?_ _) | (with_reducible refine Kd.C_drew ?_))); (case side4 => exact (Kd.S_reads' HO766.out).2.1); rintro e w' ⟨rfl, ⟨nd, rfl⟩⟩))
    go_meet
    case rel => exact ⟨_, (!t768), (by first | rfl | (simp; done) | (simp [*]; done)), H', ⟨by first | omega | exact Nat.le_refl _⟩, ⟨by (with_reducible repeat (first | apply Kd.S_alloc | apply Kd.S_drewN | apply Kd.S_drew)); exact Kd.S_mono HO754.out (fun _ hk => hk.1.2)⟩, ⟨by (with_reducible repeat (first | apply Kd.S_alloc | apply Kd.S_drewN | apply Kd.S_drew)); exact Kd.S_mono HO762.out (fun _ hk => hk.1.2)⟩, ⟨by (with_reducible repeat (first | refine blk_drewN ?_ _ | refine blk_drew ?_ | refine blk_alloc ?_ _)); exact BK759.out⟩, ⟨by repeat (first | (with_reducible first | exact HB.out | apply below_alloc | apply pw_below_drewN | apply below_drew1 | refine below_set ?_ GE759.out) | exact HB.out)⟩⟩
  case rest =>
   clear HC8
   try clear c1
   try clear p2
   try clear c3
   try clear c4
   try clear c5
   try clear c15
   try clear c16
   try clear c16b0
   try clear c16b1
   try clear c16b2
   try clear hcz11_0
   try clear hcz11_1
   try clear hcz11_2
   try clear hcz11_3
   try clear hcz14_0
   try clear hcz14_1
   try clear hcz14_2
   try clear hcz14_3
   try clear hfz11_0
   try clear hfz11_1
   try clear hfz11_2
   try clear hfz11_3
   try clear hfz14_0
   try clear hfz14_1
   try clear hfz14_2
   try clear hfz14_3
   obtain ⟨kq, x58_7, rfl, HA, HJ7, HO_5, HO_7, BK759, HB⟩ := hcut
   cases kq with
   | zero => exact absurd HA.out (by simp [laws_FnSwitchesKeepSums.j0])
   | succ kj7 =>
    have H := HA.out
    clear HA
    simp only [laws_FnSwitchesKeepSums.j0] at H
    by_cases c20 : x58_7 = true
    ·
     subst c20
     have H1 : (some false) = some r := by rw [if_pos rfl] at H; exact H
     clear H
     have H := H1
     clear H1
     obtain rfl := Option.some.inj H
     go_wp2
     go_ret
     exact ⟨by first | rfl | (simp [errW_none, errW_some] <;> rfl) | (simp [*, errW_none, errW_some] <;> rfl), by repeat (first | (with_reducible first | exact HB.out | apply below_alloc | apply pw_below_drewN | apply below_drew1 | refine below_set ?_ GE759.out) | exact HB.out)⟩
    ·
     replace c20 := Bool.eq_false_iff.mpr c20
     subst c20
     have H1 : ((impl_GridSwitches.f kj7 t752).bind fun bt769 => ((spec_GridSwitches.f kj7 t752).bind fun bt773 => ((impl_IsOnlyGrid.f kj7 t752).bind fun bt777 => (if (bt769.2 != bt773.2) = true then (laws_FnSwitchesKeepSums.j1 kj7 t752 t760 t763 bt769.1 bt769.2 true t755 t756 t757 t758) else ((laws_pSwitches.f kj7 bt769.1 bt773.1).bind fun t779 => (if t779 = true then (if (bt777.2 != bt769.2) = true then (laws_FnSwitchesKeepSums.j1 kj7 t752 t760 t763 bt769.1 bt769.2 true t755 t756 t757 t758) else (if bt777.2 = true then (laws_FnSwitchesKeepSums.j1 kj7 t752 t760 t763 bt769.1 bt769.2 (bt777.1 != ((bt769.1.length : Int) == 0)) t755 t756 t757 t758) else (laws_FnSwitchesKeepSums.j1 kj7 t752 t760 t763 bt769.1 bt769.2 false t755 t756 t757 t758))) else (laws_FnSwitchesKeepSums.j1 kj7 t752 t760 t763 bt769.1 bt769.2 true t755 t756 t757 t758))))))) = some r := by rw [if_neg (show ¬ (false = true) by decide)] at H; exact H
     clear H
     have H := H1
     clear H1
     replace H := Option.bind_eq_some_iff.mp H
     obtain ⟨⟨t769, t770⟩, A210, H⟩ := H
     replace H : ((spec_GridSwitches.f kj7 t752).bind fun bt773 => ((impl_IsOnlyGrid.f kj7 t752).bind fun bt777 => (if (t770 != bt773.2) = true then (laws_FnSwitchesKeepSums.j1 kj7 t752 t760 t763 t769 t770 true t755 t756 t757 t758) else ((laws_pSwitches.f kj7 t769 bt773.1).bind fun t779 => (if t779 = true then (if (bt777.2 != t770) = true then (laws_FnSwitchesKeepSums.j1 kj7 t752 t760 t763 t769 t770 true t755 t756 t757 t758) else (if bt777.2 = true then (laws_FnSwitchesKeepSums.j1 kj7 t752 t760 t763 t769 t770 (bt777.1 != ((t769.length : Int) == 0)) t755 t756 t757 t758) else (laws_FnSwitchesKeepSums.j1 kj7 t752 t760 t763 t769 t770 false t755 t756 t757 t758))) else (laws_FnSwitchesKeepSums.j1 kj7 t752 t760 t763 t769 t770 true t755 t756 t757 t758)))))) = some r := H
     have A21 := Aside0.mk A210
     clear A210
     replace H := Option.bind_eq_some_iff.mp H
     obtain ⟨⟨t773, t774⟩, A220, H⟩ := H
     replace H : ((impl_IsOnlyGrid.f kj7 t752).bind fun bt777 => (if (t770 != t774) = true then (laws_FnSwitchesKeepSums.j1 kj7 t752 t760 t763 t769 t770 true t755 t756 t757 t758) else ((laws_pSwitches.f kj7 t769 t773).bind fun t779 => (if t779 = true then (if (bt777.2 != t770) = true then (laws_FnSwitchesKeepSums.j1 kj7 t752 t760 t763 t769 t770 true t755 t756 t757 t758) else (if bt777.2 = true then (laws_FnSwitchesKeepSums.j1 kj7 t752 t760 t763 t769 t770 (bt777.1 != ((t769.length : Int) == 0)) t755 t756 t757 t758) else (laws_FnSwitchesKeepSums.j1 kj7 t752 t760 t763 t769 t770 false t755 t756 t757 t758))) else (laws_FnSwitchesKeepSums.j1 kj7 t752 t760 t763 t769 t770 true t755 t756 t757 t758))))) = some r := H
     have A22 := Aside0.mk A220
     clear A220
     replace H := Option.bind_eq_some_iff.mp H
     obtain ⟨⟨t777, t778⟩, A230, H⟩ := H
     replace H : (if (t770 != t774) = true then (laws_FnSwitchesKeepSums.j1 kj7 t752 t760 t763 t769 t770 true t755 t756 t757 t758) else ((laws_pSwitches.f kj7 t769 t773).bind fun t779 => (if t779 = true then (if (t778 != t770) = true then (laws_FnSwitchesKeepSums.j1 kj7 t752 t760 t763 t769 t770 true t755 t756 t757 t758) else (if t778 = true then (laws_FnSwitchesKeepSums.j1 kj7 t752 t760 t763 t769 t770 (t777 != ((t769.length : Int) == 0)) t755 t756 t757 t758) else (laws_FnSwitchesKeepSums.j1 kj7 t752 t760 t763 t769 t770 false t755 t756 t757 t758))) else (laws_FnSwitchesKeepSums.j1 kj7 t752 t760 t763 t769 t770 true t755 t756 t757 t758)))) = some r := H
     have A23 := Aside0.mk A230
     clear A230
     have HC24 := Aside0.mk H
     clear H
     go_upto_region 11 with (first | ((with_reducible refine gate_callee (f := 42) rfl ?_); refine goesL_ (some 61) rfl rfl Try.func42 (by kernel_rfl) rfl #[.slice Ao12 t752.length co12] rfl (by (try simp only [List.map_toArray, List.map_cons, List.map_nil]); first | done | rfl) ?_; (with_reducible refine (impl_GridSwitches.calls kj7 _ _ t752 t769 t770 _ ?side1 ?side2 A21.out).mono ?_); (case side1 => repeat (first | exact (Kd.S_reads' HO_5.out).2.2 | (with_reducible refine Kd.C_alloc ?_ _) | (with_reducible refine Kd.C_drewN ?_ _) | (with_reducible refine Kd.C_drew ?_))); (case side2 => exact (Kd.S_reads' HO_5.out).2.1); rintro e w25 ⟨v771, rfl, ho0, hb⟩; refine ⟨_, rfl, ?_⟩; have n0_ := Aside0.mk (Kd.S_below (by (with_reducible repeat (first | apply Kd.S_alloc | apply Kd.S_drewN | apply Kd.S_drew)); exact HO_5.out) hb); have n1_ := Aside0.mk (Kd.S_below (by (with_reducible repeat (first | apply Kd.S_alloc | apply Kd.S_drewN | apply Kd.S_drew)); exact HO_7.out) hb); have n2_ := Aside0.mk (Kd.R_lower (Kd.R_newB ho0 (g := gb759) (o := .cells #[.int .i64 t755, .int .i64 t756, .int .i64 t757, .int .i64 t758] 41 (0, 0)) (by (with_reducible repeat (first | refine blk_drewN ?_ _ | refine blk_drew ?_ | refine blk_alloc ?_ _)); exact BK759.out)) (below_size (by repeat (first | (with_reducible first | exact HB.out | apply below_alloc | apply pw_below_drewN | apply below_drew1 | refine below_set ?_ GE759.out) | exact HB.out)))); have n3_ := Aside0.mk (blk_below (g := gb759) (o := .cells #[.int .i64 t755, .int .i64 t756, .int .i64 t757, .int .i64 t758] 41 (0, 0)) (by (with_reducible repeat (first | refine blk_drewN ?_ _ | refine blk_drew ?_ | refine blk_alloc ?_ _)); exact BK759.out) hb); have n4_ := Aside0.mk (below_step (by repeat (first | (with_reducible first | exact HB.out | apply below_alloc | apply pw_below_drewN | apply below_drew1 | refine below_set ?_ GE759.out) | exact HB.out)) hb); clear HO_5; clear HO_7; clear BK759; clear HB; have HO_5 := n0_; have HO_7 := n1_; have HO772 := n2_; have BK759 := n3_; have HB := n4_; clear n0_ n1_ n2_ n3_ n4_; (try clear hb); (try clear hb2); (try clear hk); (try clear hi); (try clear ho0)) | ((with_reducible refine gate_callee (f := 41) rfl ?_); refine goesL_ (some 66) rfl rfl Try.func41 (by kernel_rfl) rfl #[.slice Ao12 t752.length co12] rfl (by (try simp only [List.map_toArray, List.map_cons, List.map_nil]); first | done | rfl) ?_; (with_reducible refine (spec_GridSwitches.calls kj7 _ _ t752 t773 t774 _ ?side1 ?side2 A22.out).mono ?_); (case side1 => repeat (first | exact (Kd.S_reads' HO_5.out).2.2 | (with_reducible refine Kd.C_alloc ?_ _) | (with_reducible refine Kd.C_drewN ?_ _) | (with_reducible refine Kd.C_drew ?_))); (case side2 => exact (Kd.S_reads' HO_5.out).2.1); rintro e w26 ⟨v775, rfl, ho0, hb⟩; refine ⟨_, rfl, ?_⟩; have n0_ := Aside0.mk (Kd.S_below (by (with_reducible repeat (first | apply Kd.S_alloc | apply Kd.S_drewN | apply Kd.S_drew)); exact HO_5.out) hb); have n1_ := Aside0.mk (Kd.S_below (by (with_reducible repeat (first | apply Kd.S_alloc | apply Kd.S_drewN | apply Kd.S_drew)); exact HO_7.out) hb); have n2_ := Aside0.mk (Kd.R_elder' (by (with_reducible repeat (first | apply Kd.R_alloc | apply Kd.R_drewN | apply Kd.R_drew)); exact HO772.out) (Kd.R_base ho0) hb); have n3_ := Aside0.mk (Kd.R_lower (Kd.R_newB (Kd.R_new' ho0 (Kd.R_lt (by (with_reducible repeat (first | apply Kd.R_alloc | apply Kd.R_drewN | apply Kd.R_drew)); exact HO772.out))) (g := gb759) (o := .cells #[.int .i64 t755, .int .i64 t756, .int .i64 t757, .int .i64 t758] 41 (0, 0)) (by (with_reducible repeat (first | refine blk_drewN ?_ _ | refine blk_drew ?_ | refine blk_alloc ?_ _)); exact BK759.out)) (below_size (by repeat (first | (with_reducible first | exact HB.out | apply below_alloc | apply pw_below_drewN | apply below_drew1 | refine below_set ?_ GE759.out) | exact HB.out)))); have n4_ := Aside0.mk (blk_below (g := gb759) (o := .cells #[.int .i64 t755, .int .i64 t756, .int .i64 t757, .int .i64 t758] 41 (0, 0)) (by (with_reducible repeat (first | refine blk_drewN ?_ _ | refine blk_drew ?_ | refine blk_alloc ?_ _)); exact BK759.out) hb); have n5_ := Aside0.mk (below_step (by repeat (first | (with_reducible first | exact HB.out | apply below_alloc | apply pw_below_drewN | apply below_drew1 | refine below_set ?_ GE759.out) | exact HB.out)) hb); clear HO_5; clear HO_7; clear HO772; clear BK759; clear HB; have HO_5 := n0_; have HO_7 := n1_; have HO772 := n2_; have HO776 := n3_; have BK759 := n4_; have HB := n5_; clear n0_ n1_ n2_ n3_ n4_ n5_; (try clear hb); (try clear hb2); (try clear hk); (try clear hi); (try clear ho0)) | ((with_reducible refine gate_callee (f := 26) rfl ?_); refine goesL_ (some 71) rfl rfl Try.func26 (by kernel_rfl) rfl #[.slice Ao12 t752.length co12] rfl (by (try simp only [List.map_toArray, List.map_cons, List.map_nil]); first | done | rfl) ?_; (with_reducible refine (impl_IsOnlyGrid.calls kj7 _ _ t752 t777 t778 _ ?side1 ?side2 A23.out).mono ?_); (case side1 => repeat (first | exact (Kd.S_reads' HO_5.out).2.2 | (with_reducible refine Kd.C_alloc ?_ _) | (with_reducible refine Kd.C_drewN ?_ _) | (with_reducible refine Kd.C_drew ?_))); (case side2 => exact (Kd.S_reads' HO_5.out).2.1); rintro e w27 ⟨rfl, hb⟩; refine ⟨_, rfl, ?_⟩; have n0_ := Aside0.mk (Kd.S_below (by (with_reducible repeat (first | apply Kd.S_alloc | apply Kd.S_drewN | apply Kd.S_drew)); exact HO_5.out) hb); have n1_ := Aside0.mk (Kd.S_below (by (with_reducible repeat (first | apply Kd.S_alloc | apply Kd.S_drewN | apply Kd.S_drew)); exact HO_7.out) hb); have n2_ := Aside0.mk (Kd.R_below (by (with_reducible repeat (first | apply Kd.R_alloc | apply Kd.R_drewN | apply Kd.R_drew)); exact HO772.out) hb); have n3_ := Aside0.mk (Kd.R_below (by (with_reducible repeat (first | apply Kd.R_alloc | apply Kd.R_drewN | apply Kd.R_drew)); exact HO776.out) hb); have n4_ := Aside0.mk (blk_below (g := gb759) (o := .cells #[.int .i64 t755, .int .i64 t756, .int .i64 t757, .int .i64 t758] 41 (0, 0)) (by (with_reducible repeat (first | refine blk_drewN ?_ _ | refine blk_drew ?_ | refine blk_alloc ?_ _)); exact BK759.out) hb); have n5_ := Aside0.mk (below_step (by repeat (first | (with_reducible first | exact HB.out | apply below_alloc | apply pw_below_drewN | apply below_drew1 | refine below_set ?_ GE759.out) | exact HB.out)) hb); clear HO_5; clear HO_7; clear HO772; clear HO776; clear BK759; clear HB; have HO_5 := n0_; have HO_7 := n1_; have HO772 := n2_; have HO776 := n3_; have BK759 := n4_; have HB := n5_; clear n0_ n1_ n2_ n3_ n4_ n5_; (try clear hb); (try clear hb2); (try clear hk); (try clear hi)))
     (try simp only [Act.put, List.setIfInBounds_toArray, List.set_cons_zero, List.set_cons_succ])
     go_cut [97] (fun v97 wc => ∃ (kq : Nat) (x97_23 : Bool), v97 = .bool x97_23 ∧ Aside0 (laws_FnSwitchesKeepSums.j1 kq t752 t760 t763 t769 t770 x97_23 t755 t756 t757 t758 = some r) ∧ Aside0 (kq ≤ kj7) ∧ Aside0 (Kd.S (Kd.slice 3 (Kd.int .i64)) 33 wc w.heap.size (fun k_ => some k_ ≠ (v761 : Value).ownBlock) (.slice Ao12 t752.length co12) t752) ∧ Aside0 (Kd.S (Kd.slice 3 (Kd.int .i64)) 33 wc w.heap.size (fun k_ => some k_ ≠ ((.slice Ao12 t752.length co12) : Value).ownBlock) v761 t760) ∧ Aside0 (Kd.R k41 41 wc w.heap.size (fun k_ => k_ ≠ gb759) v771 t769) ∧ Aside0 (wc.heap[gb759]? = some (.cells #[.int .i64 t755, .int .i64 t756, .int .i64 t757, .int .i64 t758] 41 (0, 0))) ∧ Aside0 (Below w.heap.size w wc))
     case first =>
      have H := HC24.out
      clear HC24
      by_cases c28 : (t770 != t774) = true
      ·
       rw [if_pos c28] at H
       have c28b0 : (t770 != t774) = true := c28
       (try (have c28b1 : decide (t770 = t774) = false := by simpa using c28))
       (try (have c28b2 : (t770 == t774) = false := by simpa using c28))
       (try (have c28b3 : ¬ (t770 = t774) := by simpa using c28))
       clear c28
       (first | rw [c28b0] | (simp only [i64_w, i32_w]; rw [c28b0]) | skip)
       have H' := Aside0.mk H
       clear H
       go_wp2
       go_meet
       case rel => exact ⟨_, (true), (by first | rfl | (simp; done) | (simp [*]; done)), H', ⟨by have := HJ7.out; first | omega | exact Nat.le_refl _⟩, ⟨by (with_reducible repeat (first | apply Kd.S_alloc | apply Kd.S_drewN | apply Kd.S_drew)); exact HO_5.out⟩, ⟨by (with_reducible repeat (first | apply Kd.S_alloc | apply Kd.S_drewN | apply Kd.S_drew)); exact HO_7.out⟩, ⟨by (with_reducible repeat (first | apply Kd.R_alloc | apply Kd.R_drewN | apply Kd.R_drew)); exact Kd.R_mono HO772.out (fun _ hk => hk.1.2)⟩, ⟨by (with_reducible repeat (first | refine blk_drewN ?_ _ | refine blk_drew ?_ | refine blk_alloc ?_ _)); exact BK759.out⟩, ⟨by repeat (first | (with_reducible first | exact HB.out | apply below_alloc | apply pw_below_drewN | apply below_drew1 | refine below_set ?_ GE759.out) | exact HB.out)⟩⟩
      ·
       rw [if_neg c28] at H
       have c28b0 : (t770 != t774) = false := by simpa using c28
       (try (have c28b1 : decide (t770 = t774) = true := by simpa using c28))
       (try (have c28b2 : (t770 == t774) = true := by simpa using c28))
       clear c28
       (first | rw [c28b0] | (simp only [i64_w, i32_w]; rw [c28b0]) | skip)
       replace H := Option.bind_eq_some_iff.mp H
       obtain ⟨t779, A290, H⟩ := H
       replace H : (if t779 = true then (if (t778 != t770) = true then (laws_FnSwitchesKeepSums.j1 kj7 t752 t760 t763 t769 t770 true t755 t756 t757 t758) else (if t778 = true then (laws_FnSwitchesKeepSums.j1 kj7 t752 t760 t763 t769 t770 (t777 != ((t769.length : Int) == 0)) t755 t756 t757 t758) else (laws_FnSwitchesKeepSums.j1 kj7 t752 t760 t763 t769 t770 false t755 t756 t757 t758))) else (laws_FnSwitchesKeepSums.j1 kj7 t752 t760 t763 t769 t770 true t755 t756 t757 t758)) = some r := H
       have A29 := Aside0.mk A290
       clear A290
       by_cases c30 : t779 = true
       ·
        subst c30
        have H1 : (if (t778 != t770) = true then (laws_FnSwitchesKeepSums.j1 kj7 t752 t760 t763 t769 t770 true t755 t756 t757 t758) else (if t778 = true then (laws_FnSwitchesKeepSums.j1 kj7 t752 t760 t763 t769 t770 (t777 != ((t769.length : Int) == 0)) t755 t756 t757 t758) else (laws_FnSwitchesKeepSums.j1 kj7 t752 t760 t763 t769 t770 false t755 t756 t757 t758))) = some r := by rw [if_pos rfl] at H; exact H
        clear H
        have H := H1
        clear H1
        by_cases c31 : (t778 != t770) = true
        ·
         rw [if_pos c31] at H
         have c31b0 : (t778 != t770) = true := c31
         (try (have c31b1 : decide (t778 = t770) = false := by simpa using c31))
         (try (have c31b2 : (t778 == t770) = false := by simpa using c31))
         (try (have c31b3 : ¬ (t778 = t770) := by simpa using c31))
         clear c31
         have H' := Aside0.mk H
         clear H
         obtain ⟨Ao32, co32, eo32⟩ := Kd.R_slice HO772.out
         subst eo32
         obtain ⟨Ao33, co33, eo33⟩ := Kd.R_slice HO776.out
         subst eo33
         go_wp2_with (first | (go_at_call 58; (with_reducible refine (laws_pSwitches.calls kj7 _ _ t769 _ _ t773 true _ ?side1 ?side2 ?side3 ?side4 A29.out).mono ?_); (case side1 => repeat (first | exact (Kd.R_reads' HO772.out).2.2 | (with_reducible refine Kd.C_alloc ?_ _) | (with_reducible refine Kd.C_drewN ?_ _) | (with_reducible refine Kd.C_drew ?_))); (case side2 => exact (Kd.R_reads' HO772.out).2.1); (case side3 => repeat (first | exact (Kd.R_reads' HO776.out).2.2 | (with_reducible refine Kd.C_alloc ?_ _) | (with_reducible refine Kd.C_drewN ?_ _) | (with_reducible refine Kd.C_drew ?_))); (case side4 => exact (Kd.R_reads' HO776.out).2.1); rintro e w' ⟨rfl, ⟨nd, rfl⟩⟩))
         go_meet
         case rel => exact ⟨_, (true), (by first | rfl | (simp; done) | (simp [*]; done)), H', ⟨by have := HJ7.out; first | omega | exact Nat.le_refl _⟩, ⟨by (with_reducible repeat (first | apply Kd.S_alloc | apply Kd.S_drewN | apply Kd.S_drew)); exact HO_5.out⟩, ⟨by (with_reducible repeat (first | apply Kd.S_alloc | apply Kd.S_drewN | apply Kd.S_drew)); exact HO_7.out⟩, ⟨by (with_reducible repeat (first | apply Kd.R_alloc | apply Kd.R_drewN | apply Kd.R_drew)); exact Kd.R_mono HO772.out (fun _ hk => hk.1.2)⟩, ⟨by (with_reducible repeat (first | refine blk_drewN ?_ _ | refine blk_drew ?_ | refine blk_alloc ?_ _)); exact BK759.out⟩, ⟨by repeat (first | (with_reducible first | exact HB.out | apply below_alloc | apply pw_below_drewN | apply below_drew1 | refine below_set ?_ GE759.out) | exact HB.out)⟩⟩
        ·
         rw [if_neg c31] at H
         have c31b0 : (t778 != t770) = false := by simpa using c31
         (try (have c31b1 : decide (t778 = t770) = true := by simpa using c31))
         (try (have c31b2 : (t778 == t770) = true := by simpa using c31))
         clear c31
         by_cases c34 : t778 = true
         ·
          subst c34
          have H1 : (laws_FnSwitchesKeepSums.j1 kj7 t752 t760 t763 t769 t770 (t777 != ((t769.length : Int) == 0)) t755 t756 t757 t758) = some r := by rw [if_pos rfl] at H; exact H
          clear H
          have H := H1
          clear H1
          have H' := Aside0.mk H
          clear H
          obtain ⟨Ao35, co35, eo35⟩ := Kd.R_slice HO772.out
          subst eo35
          obtain ⟨Ao36, co36, eo36⟩ := Kd.R_slice HO776.out
          subst eo36
          go_wp2_with (first | (go_at_call 58; (with_reducible refine (laws_pSwitches.calls kj7 _ _ t769 _ _ t773 true _ ?side1 ?side2 ?side3 ?side4 A29.out).mono ?_); (case side1 => repeat (first | exact (Kd.R_reads' HO772.out).2.2 | (with_reducible refine Kd.C_alloc ?_ _) | (with_reducible refine Kd.C_drewN ?_ _) | (with_reducible refine Kd.C_drew ?_))); (case side2 => exact (Kd.R_reads' HO772.out).2.1); (case side3 => repeat (first | exact (Kd.R_reads' HO776.out).2.2 | (with_reducible refine Kd.C_alloc ?_ _) | (with_reducible refine Kd.C_drewN ?_ _) | (with_reducible refine Kd.C_drew ?_))); (case side4 => exact (Kd.R_reads' HO776.out).2.1); rintro e w' ⟨rfl, ⟨nd, rfl⟩⟩))
          go_meet
          case rel => exact ⟨_, ((t777 != ((t769.length : Int) == 0))), (by first | rfl | (simp; done) | (simp [*]; done)), H', ⟨by have := HJ7.out; first | omega | exact Nat.le_refl _⟩, ⟨by (with_reducible repeat (first | apply Kd.S_alloc | apply Kd.S_drewN | apply Kd.S_drew)); exact HO_5.out⟩, ⟨by (with_reducible repeat (first | apply Kd.S_alloc | apply Kd.S_drewN | apply Kd.S_drew)); exact HO_7.out⟩, ⟨by (with_reducible repeat (first | apply Kd.R_alloc | apply Kd.R_drewN | apply Kd.R_drew)); exact Kd.R_mono HO772.out (fun _ hk => hk.1.2)⟩, ⟨by (with_reducible repeat (first | refine blk_drewN ?_ _ | refine blk_drew ?_ | refine blk_alloc ?_ _)); exact BK759.out⟩, ⟨by repeat (first | (with_reducible first | exact HB.out | apply below_alloc | apply pw_below_drewN | apply below_drew1 | refine below_set ?_ GE759.out) | exact HB.out)⟩⟩
         ·
          replace c34 := Bool.eq_false_iff.mpr c34
          subst c34
          have H1 : (laws_FnSwitchesKeepSums.j1 kj7 t752 t760 t763 t769 t770 false t755 t756 t757 t758) = some r := by rw [if_neg (show ¬ (false = true) by decide)] at H; exact H
          clear H
          have H := H1
          clear H1
          have H' := Aside0.mk H
          clear H
          obtain ⟨Ao37, co37, eo37⟩ := Kd.R_slice HO772.out
          subst eo37
          obtain ⟨Ao38, co38, eo38⟩ := Kd.R_slice HO776.out
          subst eo38
          go_wp2_with (first | (go_at_call 58; (with_reducible refine (laws_pSwitches.calls kj7 _ _ t769 _ _ t773 true _ ?side1 ?side2 ?side3 ?side4 A29.out).mono ?_); (case side1 => repeat (first | exact (Kd.R_reads' HO772.out).2.2 | (with_reducible refine Kd.C_alloc ?_ _) | (with_reducible refine Kd.C_drewN ?_ _) | (with_reducible refine Kd.C_drew ?_))); (case side2 => exact (Kd.R_reads' HO772.out).2.1); (case side3 => repeat (first | exact (Kd.R_reads' HO776.out).2.2 | (with_reducible refine Kd.C_alloc ?_ _) | (with_reducible refine Kd.C_drewN ?_ _) | (with_reducible refine Kd.C_drew ?_))); (case side4 => exact (Kd.R_reads' HO776.out).2.1); rintro e w' ⟨rfl, ⟨nd, rfl⟩⟩))
          go_meet
          case rel => exact ⟨_, (false), (by first | rfl | (simp; done) | (simp [*]; done)), H', ⟨by have := HJ7.out; first | omega | exact Nat.le_refl _⟩, ⟨by (with_reducible repeat (first | apply Kd.S_alloc | apply Kd.S_drewN | apply Kd.S_drew)); exact HO_5.out⟩, ⟨by (with_reducible repeat (first | apply Kd.S_alloc | apply Kd.S_drewN | apply Kd.S_drew)); exact HO_7.out⟩, ⟨by (with_reducible repeat (first | apply Kd.R_alloc | apply Kd.R_drewN | apply Kd.R_drew)); exact Kd.R_mono HO772.out (fun _ hk => hk.1.2)⟩, ⟨by (with_reducible repeat (first | refine blk_drewN ?_ _ | refine blk_drew ?_ | refine blk_alloc ?_ _)); exact BK759.out⟩, ⟨by repeat (first | (with_reducible first | exact HB.out | apply below_alloc | apply pw_below_drewN | apply below_drew1 | refine below_set ?_ GE759.out) | exact HB.out)⟩⟩
       ·
        replace c30 := Bool.eq_false_iff.mpr c30
        subst c30
        have H1 : (laws_FnSwitchesKeepSums.j1 kj7 t752 t760 t763 t769 t770 true t755 t756 t757 t758) = some r := by rw [if_neg (show ¬ (false = true) by decide)] at H; exact H
        clear H
        have H := H1
        clear H1
        have H' := Aside0.mk H
        clear H
        obtain ⟨Ao39, co39, eo39⟩ := Kd.R_slice HO772.out
        subst eo39
        obtain ⟨Ao40, co40, eo40⟩ := Kd.R_slice HO776.out
        subst eo40
        go_wp2_with (first | (go_at_call 58; (with_reducible refine (laws_pSwitches.calls kj7 _ _ t769 _ _ t773 false _ ?side1 ?side2 ?side3 ?side4 A29.out).mono ?_); (case side1 => repeat (first | exact (Kd.R_reads' HO772.out).2.2 | (with_reducible refine Kd.C_alloc ?_ _) | (with_reducible refine Kd.C_drewN ?_ _) | (with_reducible refine Kd.C_drew ?_))); (case side2 => exact (Kd.R_reads' HO772.out).2.1); (case side3 => repeat (first | exact (Kd.R_reads' HO776.out).2.2 | (with_reducible refine Kd.C_alloc ?_ _) | (with_reducible refine Kd.C_drewN ?_ _) | (with_reducible refine Kd.C_drew ?_))); (case side4 => exact (Kd.R_reads' HO776.out).2.1); rintro e w' ⟨rfl, ⟨nd, rfl⟩⟩))
        go_meet
        case rel => exact ⟨_, (true), (by first | rfl | (simp; done) | (simp [*]; done)), H', ⟨by have := HJ7.out; first | omega | exact Nat.le_refl _⟩, ⟨by (with_reducible repeat (first | apply Kd.S_alloc | apply Kd.S_drewN | apply Kd.S_drew)); exact HO_5.out⟩, ⟨by (with_reducible repeat (first | apply Kd.S_alloc | apply Kd.S_drewN | apply Kd.S_drew)); exact HO_7.out⟩, ⟨by (with_reducible repeat (first | apply Kd.R_alloc | apply Kd.R_drewN | apply Kd.R_drew)); exact Kd.R_mono HO772.out (fun _ hk => hk.1.2)⟩, ⟨by (with_reducible repeat (first | refine blk_drewN ?_ _ | refine blk_drew ?_ | refine blk_alloc ?_ _)); exact BK759.out⟩, ⟨by repeat (first | (with_reducible first | exact HB.out | apply below_alloc | apply pw_below_drewN | apply below_drew1 | refine below_set ?_ GE759.out) | exact HB.out)⟩⟩
     case rest =>
      clear HC24
      try clear c1
      try clear c2
      try clear p2
      try clear c3
      try clear c4
      try clear c5
      try clear c15
      try clear c16
      try clear c16b0
      try clear c16b1
      try clear c16b2
      try clear c20
      try clear c26
      try clear c28
      try clear c28b0
      try clear c28b1
      try clear c28b2
      try clear c30
      try clear c31
      try clear c31b0
      try clear c31b1
      try clear c31b2
      try clear c34
      try clear c38
      try clear c40
      try clear hcz11_0
      try clear hcz11_1
      try clear hcz11_2
      try clear hcz11_3
      try clear hcz14_0
      try clear hcz14_1
      try clear hcz14_2
      try clear hcz14_3
      try clear hfz11_0
      try clear hfz11_1
      try clear hfz11_2
      try clear hfz11_3
      try clear hfz14_0
      try clear hfz14_1
      try clear hfz14_2
      try clear hfz14_3
      try clear p2
      obtain ⟨kq, x97_23, rfl, HA, HJ23, HO_5, HO_7, HO_11, BK759, HB⟩ := hcut
      cases kq with
      | zero => exact absurd HA.out (by simp [laws_FnSwitchesKeepSums.j1])
      | succ kj23 =>
       have H := HA.out
       clear HA
       simp only [laws_FnSwitchesKeepSums.j1] at H
       by_cases c41 : x97_23 = true
       ·
        subst c41
        have H1 : (some false) = some r := by rw [if_pos rfl] at H; exact H
        clear H
        have H := H1
        clear H1
        obtain rfl := Option.some.inj H
        go_wp2
        go_ret
        exact ⟨by first | rfl | (simp [errW_none, errW_some] <;> rfl) | (simp [*, errW_none, errW_some] <;> rfl), by repeat (first | (with_reducible first | exact HB.out | apply below_alloc | apply pw_below_drewN | apply below_drew1 | refine below_set ?_ GE759.out) | exact HB.out)⟩
       ·
        replace c41 := Bool.eq_false_iff.mpr c41
        subst c41
        have H1 : (if t770 = true then (laws_FnSwitchesKeepSums.l0 kj23 t752 t760 t763 false t769 (t769.length : Int) 0 t755 t756 t757 t758) else (some (!t763))) = some r := by rw [if_neg (show ¬ (false = true) by decide)] at H; exact H
        clear H
        have H := H1
        clear H1
        by_cases c42 : t770 = true
        ·
         subst c42
         have H1 : (laws_FnSwitchesKeepSums.l0 kj23 t752 t760 t763 false t769 (t769.length : Int) 0 t755 t756 t757 t758) = some r := by rw [if_pos rfl] at H; exact H
         clear H
         have H := H1
         clear H1
         have H' := Aside0.mk H
         clear H
         obtain ⟨Ao43, co43, eo43⟩ := Kd.R_slice HO_11.out
         subst eo43
         go_wp2
         go_loopg [17, 104] kj23 (fun kq v17 v104 w' => ∃ (x17_3 : Bool) (x104_3 : Int), v17 = .bool x17_3 ∧ v104 = .int .i64 x104_3 ∧ Aside0 (laws_FnSwitchesKeepSums.l0 kq t752 t760 t763 x17_3 t769 (t769.length : Int) x104_3 t755 t756 t757 t758 = some r) ∧ Aside0 (kq ≤ kj23) ∧ Aside0 (Kd.S (Kd.slice 3 (Kd.int .i64)) 33 w' w.heap.size (fun k_ => some k_ ≠ (v761 : Value).ownBlock) (.slice Ao12 t752.length co12) t752) ∧ Aside0 (Kd.S (Kd.slice 3 (Kd.int .i64)) 33 w' w.heap.size (fun k_ => some k_ ≠ ((.slice Ao12 t752.length co12) : Value).ownBlock) v761 t760) ∧ Aside0 (Kd.R k41 41 w' w.heap.size (fun k_ => k_ ≠ gb759) (.slice Ao43 t769.length co43) t769) ∧ Aside0 (w'.heap[gb759]? = some (.cells #[.int .i64 t755, .int .i64 t756, .int .i64 t757, .int .i64 t758] 41 (0, 0))) ∧ Aside0 (Below w.heap.size w w'))
         case atStart => exact ⟨(false), (0), (by first | rfl | (simp; done) | (simp [*]; done)), (by first | rfl | (simp; done) | (simp [*]; done)), H', ⟨Nat.le_refl _⟩, ⟨by (with_reducible repeat (first | apply Kd.S_alloc | apply Kd.S_drewN | apply Kd.S_drew)); exact HO_5.out⟩, ⟨by (with_reducible repeat (first | apply Kd.S_alloc | apply Kd.S_drewN | apply Kd.S_drew)); exact HO_7.out⟩, ⟨by (with_reducible repeat (first | apply Kd.R_alloc | apply Kd.R_drewN | apply Kd.R_drew)); exact HO_11.out⟩, ⟨by (with_reducible repeat (first | refine blk_drewN ?_ _ | refine blk_drew ?_ | refine blk_alloc ?_ _)); exact BK759.out⟩, ⟨by repeat (first | (with_reducible first | exact HB.out | apply below_alloc | apply pw_below_drewN | apply below_drew1 | refine below_set ?_ GE759.out) | exact HB.out)⟩⟩
         case round =>
          clear H'
          try clear c1
          try clear c2
          try clear p2
          try clear c3
          try clear c4
          try clear c5
          try clear c15
          try clear c16
          try clear c16b0
          try clear c16b1
          try clear c16b2
          try clear c20
          try clear c26
          try clear c28
          try clear c28b0
          try clear c28b1
          try clear c28b2
          try clear c30
          try clear c31
          try clear c31b0
          try clear c31b1
          try clear c31b2
          try clear c34
          try clear c38
          try clear c40
          try clear c41
          try clear c42
          try clear hcz11_0
          try clear hcz11_1
          try clear hcz11_2
          try clear hcz11_3
          try clear hcz14_0
          try clear hcz14_1
          try clear hcz14_2
          try clear hcz14_3
          try clear hfz11_0
          try clear hfz11_1
          try clear hfz11_2
          try clear hfz11_3
          try clear hfz14_0
          try clear hfz14_1
          try clear hfz14_2
          try clear hfz14_3
          try clear p2
          obtain ⟨x17_3, x104_3, rfl, rfl, HA, HK3, HO_5, HO_7, HO_102, BK759, HB⟩ := hrel
          cases gk with
          | zero => exact absurd HA.out (by simp [laws_FnSwitchesKeepSums.l0])
          | succ k3 =>
           have H := HA.out
           clear HA
           simp only [laws_FnSwitchesKeepSums.l0] at H
           by_cases c44 : x104_3 < (t769.length : Int)
           ·
            rw [if_pos c44] at H
            have c44b0 : decide (x104_3 < (t769.length : Int)) = true := decide_eq_true c44
            clear c44
            by_cases c45 : 0 ≤ x104_3
            ·
             rw [if_pos c45] at H
             have c45b0 : decide (0 ≤ x104_3) = true := decide_eq_true c45
             clear c45
             by_cases c46 : x104_3 < (t769.length : Int)
             ·
              rw [if_pos c46] at H
              have c46b0 : decide (x104_3 < (t769.length : Int)) = true := decide_eq_true c46
              clear c46
              by_cases c47 : x17_3 = true
              ·
               subst c47
               have H1 : (laws_FnSwitchesKeepSums.l0 k3 t752 t760 t763 true t769 (t769.length : Int) (wrap64 (x104_3 + 1)) t755 t756 t757 t758) = some r := by rw [if_pos rfl] at H; exact H
               clear H
               have H := H1
               clear H1
               have H' := Aside0.mk H
               clear H
               have p780 : 0 ≤ (x104_3 : Int) := of_decide_eq_true (by first | (with_reducible assumption) | assumption)
               have q780 : x104_3 < (t769.length : Int) := of_decide_eq_true (by first | (with_reducible assumption) | assumption)
               obtain ⟨ad780, e780, hx780_0, hx780_1, hx780_2, hx780_3⟩ := at_T41 (Kd.R_reads' HO_102.out).2.2 x104_3 p780 q780
               cases e780
               replace p780 := eq_true p780
               replace q780 := eq_true q780
               go_wp2_with (first | ((with_reducible refine gate_dst (N := 19) rfl ?_); (try (refine gate_guard (by rfl) ?_; dsimp only)); refine box_event ?hg (N := 19) ?hd (cs := #[.int .i64 0, .int .i64 0, .int .i64 0, .int .i64 0]) (t := 41) ?hr ?_; (case hd => rfl); (case hg => rfl); (case hr => first | (go_simp; done) | (go_simp; rfl)); intro gb781 hg w48 hbox hb; have n0_ := Aside0.mk (Kd.S_below (by (with_reducible repeat (first | apply Kd.S_alloc | apply Kd.S_drewN | apply Kd.S_drew)); exact HO_5.out) hb); have n1_ := Aside0.mk (Kd.S_below (by (with_reducible repeat (first | apply Kd.S_alloc | apply Kd.S_drewN | apply Kd.S_drew)); exact HO_7.out) hb); have n2_ := Aside0.mk (Kd.R_below (Kd.R_elderB (by (with_reducible repeat (first | apply Kd.R_alloc | apply Kd.R_drewN | apply Kd.R_drew)); exact HO_102.out) gb781 (Nat.le_of_eq hg.symm)) hb); have n3_ := Aside0.mk (blk_below (g := gb759) (o := .cells #[.int .i64 t755, .int .i64 t756, .int .i64 t757, .int .i64 t758] 41 (0, 0)) (by (with_reducible repeat (first | refine blk_drewN ?_ _ | refine blk_drew ?_ | refine blk_alloc ?_ _)); exact BK759.out) hb); have n4_ := Aside0.mk (below_step (by repeat (first | (with_reducible first | exact HB.out | apply below_alloc | apply pw_below_drewN | apply below_drew1 | refine below_set ?_ GE759.out) | exact HB.out)) hb); have n5_ := Aside0.mk (hbox); have n6_ := Aside0.mk ((by rw [hg]; exact (below_size (by repeat (first | (with_reducible first | exact HB.out | apply below_alloc | apply pw_below_drewN | apply below_drew1 | refine below_set ?_ GE759.out) | exact HB.out))) : w.heap.size ≤ gb781)); have n7_ := Aside0.mk ((by rw [hg]; exact (below_size (by repeat (first | (with_reducible first | exact HB.out | apply below_alloc | apply pw_below_drewN | apply below_drew1 | refine below_set ?_ GE759.out) | exact HB.out))) : w.heap.size ≤ gb781)); have n8_ := Aside0.mk ((by rw [hg]; exact Nat.ne_of_lt (blk_lt (g := gb759) (o := .cells #[.int .i64 t755, .int .i64 t756, .int .i64 t757, .int .i64 t758] 41 (0, 0)) (by (with_reducible repeat (first | refine blk_drewN ?_ _ | refine blk_drew ?_ | refine blk_alloc ?_ _)); exact BK759.out)) : gb759 ≠ gb781)); have n9_ := Aside0.mk ((by rw [hg]; exact Nat.ne_of_gt (blk_lt (g := gb759) (o := .cells #[.int .i64 t755, .int .i64 t756, .int .i64 t757, .int .i64 t758] 41 (0, 0)) (by (with_reducible repeat (first | refine blk_drewN ?_ _ | refine blk_drew ?_ | refine blk_alloc ?_ _)); exact BK759.out)) : gb781 ≠ gb759)); clear HO_5; clear HO_7; clear HO_102; clear BK759; clear HB; have HO_5 := n0_; have HO_7 := n1_; have HO_102 := n2_; have BK759 := n3_; have HB := n4_; have BK781 := n5_; have GW781 := n6_; have GE781 := n7_; have NB759_781 := n8_; have NB781_759 := n9_; clear n0_ n1_ n2_ n3_ n4_ n5_ n6_ n7_ n8_ n9_; clear hb hbox hg; have hnb49 := NB781_759.out; have hnc49 := NB759_781.out; have hcz50_0 : w48.cell? ⟨gb781, 0, none⟩ = some (.int .i64 0) := (blk_cell BK781.out 0).trans rfl; have hcz50_1 : w48.cell? ⟨gb781, 1, none⟩ = some (.int .i64 0) := (blk_cell BK781.out 1).trans rfl; have hcz50_2 : w48.cell? ⟨gb781, 2, none⟩ = some (.int .i64 0) := (blk_cell BK781.out 2).trans rfl; have hcz50_3 : w48.cell? ⟨gb781, 3, none⟩ = some (.int .i64 0) := (blk_cell BK781.out 3).trans rfl; have hfz50_0 := blk_frozen BK781.out 0; have hfz50_1 := blk_frozen BK781.out 1; have hfz50_2 := blk_frozen BK781.out 2; have hfz50_3 := blk_frozen BK781.out 3))
               go_roundg k3
               case measure => have := HJ7.out; have := HJ23.out; have := HK3.out; omega
               case rel => exact ⟨(true), (wrap64 (x104_3 + 1)), (by first | rfl | (simp; done) | (simp [*]; done)), (by first | rfl | (simp; done) | (simp [*]; done)), H', ⟨by have := HJ7.out; have := HJ23.out; have := HK3.out; omega⟩, ⟨by (with_reducible repeat (first | apply Kd.S_alloc | apply Kd.S_drewN | apply Kd.S_drew)); exact Kd.S_mono (Kd.S_far (p := ⟨gb781, 3, none⟩) (Kd.S_far (p := ⟨gb781, 2, none⟩) (Kd.S_far (p := ⟨gb781, 1, none⟩) (Kd.S_far (p := ⟨gb781, 0, none⟩) (Kd.S_types HO_5.out BK781.out (by decide)) (fun _ hk => hk.2) (.int .i64 ((rd_T41 t769 x104_3).f0))) (fun _ hk => hk.2) (.int .i64 ((rd_T41 t769 x104_3).f1))) (fun _ hk => hk.2) (.int .i64 ((rd_T41 t769 x104_3).f2))) (fun _ hk => hk.2) (.int .i64 ((rd_T41 t769 x104_3).f3))) (fun _ hk => hk.1)⟩, ⟨by (with_reducible repeat (first | apply Kd.S_alloc | apply Kd.S_drewN | apply Kd.S_drew)); exact Kd.S_mono (Kd.S_far (p := ⟨gb781, 3, none⟩) (Kd.S_far (p := ⟨gb781, 2, none⟩) (Kd.S_far (p := ⟨gb781, 1, none⟩) (Kd.S_far (p := ⟨gb781, 0, none⟩) (Kd.S_types HO_7.out BK781.out (by decide)) (fun _ hk => hk.2) (.int .i64 ((rd_T41 t769 x104_3).f0))) (fun _ hk => hk.2) (.int .i64 ((rd_T41 t769 x104_3).f1))) (fun _ hk => hk.2) (.int .i64 ((rd_T41 t769 x104_3).f2))) (fun _ hk => hk.2) (.int .i64 ((rd_T41 t769 x104_3).f3))) (fun _ hk => hk.1)⟩, ⟨by (with_reducible repeat (first | apply Kd.R_alloc | apply Kd.R_drewN | apply Kd.R_drew)); exact Kd.R_mono (Kd.R_far (p := ⟨gb781, 3, none⟩) (Kd.R_far (p := ⟨gb781, 2, none⟩) (Kd.R_far (p := ⟨gb781, 1, none⟩) (Kd.R_far (p := ⟨gb781, 0, none⟩) (Kd.R_mono HO_102.out (fun k_ hk => (⟨hk, hk.2⟩ : _ ∧ k_ ≠ gb781))) (fun _ hk => hk.2) (.int .i64 ((rd_T41 t769 x104_3).f0))) (fun _ hk => hk.2) (.int .i64 ((rd_T41 t769 x104_3).f1))) (fun _ hk => hk.2) (.int .i64 ((rd_T41 t769 x104_3).f2))) (fun _ hk => hk.2) (.int .i64 ((rd_T41 t769 x104_3).f3))) (fun _ hk => hk.1.1)⟩, ⟨by (with_reducible repeat (first | refine blk_drewN ?_ _ | refine blk_drew ?_ | refine blk_alloc ?_ _)); refine blk_far ?_ NB759_781.out _; (with_reducible repeat (first | refine blk_drewN ?_ _ | refine blk_drew ?_ | refine blk_alloc ?_ _)); refine blk_far ?_ NB759_781.out _; (with_reducible repeat (first | refine blk_drewN ?_ _ | refine blk_drew ?_ | refine blk_alloc ?_ _)); refine blk_far ?_ NB759_781.out _; (with_reducible repeat (first | refine blk_drewN ?_ _ | refine blk_drew ?_ | refine blk_alloc ?_ _)); refine blk_far ?_ NB759_781.out _; (with_reducible repeat (first | refine blk_drewN ?_ _ | refine blk_drew ?_ | refine blk_alloc ?_ _)); exact BK759.out⟩, ⟨by repeat (first | (with_reducible first | exact HB.out | apply below_alloc | apply pw_below_drewN | apply below_drew1 | refine below_set ?_ GE759.out | refine below_set ?_ GE781.out) | exact HB.out)⟩⟩
              ·
               replace c47 := Bool.eq_false_iff.mpr c47
               subst c47
               have H1 : (laws_FnSwitchesKeepSums.l0 k3 t752 t760 t763 (((rd_T41 t769 x104_3).f0) == t755 && (((rd_T41 t769 x104_3).f1) == t756 && (((rd_T41 t769 x104_3).f2) == t757 && (((rd_T41 t769 x104_3).f3) == t758)))) t769 (t769.length : Int) (wrap64 (x104_3 + 1)) t755 t756 t757 t758) = some r := by rw [if_neg (show ¬ (false = true) by decide)] at H; exact H
               clear H
               have H := H1
               clear H1
               have H' := Aside0.mk H
               clear H
               have p780 : 0 ≤ (x104_3 : Int) := of_decide_eq_true (by first | (with_reducible assumption) | assumption)
               have q780 : x104_3 < (t769.length : Int) := of_decide_eq_true (by first | (with_reducible assumption) | assumption)
               obtain ⟨ad780, e780, hx780_0, hx780_1, hx780_2, hx780_3⟩ := at_T41 (Kd.R_reads' HO_102.out).2.2 x104_3 p780 q780
               cases e780
               replace p780 := eq_true p780
               replace q780 := eq_true q780
               go_wp2_with (first | ((with_reducible refine gate_dst (N := 19) rfl ?_); (try (refine gate_guard (by rfl) ?_; dsimp only)); refine box_event ?hg (N := 19) ?hd (cs := #[.int .i64 0, .int .i64 0, .int .i64 0, .int .i64 0]) (t := 41) ?hr ?_; (case hd => rfl); (case hg => rfl); (case hr => first | (go_simp; done) | (go_simp; rfl)); intro gb781 hg w51 hbox hb; have n0_ := Aside0.mk (Kd.S_below (by (with_reducible repeat (first | apply Kd.S_alloc | apply Kd.S_drewN | apply Kd.S_drew)); exact HO_5.out) hb); have n1_ := Aside0.mk (Kd.S_below (by (with_reducible repeat (first | apply Kd.S_alloc | apply Kd.S_drewN | apply Kd.S_drew)); exact HO_7.out) hb); have n2_ := Aside0.mk (Kd.R_below (Kd.R_elderB (by (with_reducible repeat (first | apply Kd.R_alloc | apply Kd.R_drewN | apply Kd.R_drew)); exact HO_102.out) gb781 (Nat.le_of_eq hg.symm)) hb); have n3_ := Aside0.mk (blk_below (g := gb759) (o := .cells #[.int .i64 t755, .int .i64 t756, .int .i64 t757, .int .i64 t758] 41 (0, 0)) (by (with_reducible repeat (first | refine blk_drewN ?_ _ | refine blk_drew ?_ | refine blk_alloc ?_ _)); exact BK759.out) hb); have n4_ := Aside0.mk (below_step (by repeat (first | (with_reducible first | exact HB.out | apply below_alloc | apply pw_below_drewN | apply below_drew1 | refine below_set ?_ GE759.out) | exact HB.out)) hb); have n5_ := Aside0.mk (hbox); have n6_ := Aside0.mk ((by rw [hg]; exact (below_size (by repeat (first | (with_reducible first | exact HB.out | apply below_alloc | apply pw_below_drewN | apply below_drew1 | refine below_set ?_ GE759.out) | exact HB.out))) : w.heap.size ≤ gb781)); have n7_ := Aside0.mk ((by rw [hg]; exact (below_size (by repeat (first | (with_reducible first | exact HB.out | apply below_alloc | apply pw_below_drewN | apply below_drew1 | refine below_set ?_ GE759.out) | exact HB.out))) : w.heap.size ≤ gb781)); have n8_ := Aside0.mk ((by rw [hg]; exact Nat.ne_of_lt (blk_lt (g := gb759) (o := .cells #[.int .i64 t755, .int .i64 t756, .int .i64 t757, .int .i64 t758] 41 (0, 0)) (by (with_reducible repeat (first | refine blk_drewN ?_ _ | refine blk_drew ?_ | refine blk_alloc ?_ _)); exact BK759.out)) : gb759 ≠ gb781)); have n9_ := Aside0.mk ((by rw [hg]; exact Nat.ne_of_gt (blk_lt (g := gb759) (o := .cells #[.int .i64 t755, .int .i64 t756, .int .i64 t757, .int .i64 t758] 41 (0, 0)) (by (with_reducible repeat (first | refine blk_drewN ?_ _ | refine blk_drew ?_ | refine blk_alloc ?_ _)); exact BK759.out)) : gb781 ≠ gb759)); clear HO_5; clear HO_7; clear HO_102; clear BK759; clear HB; have HO_5 := n0_; have HO_7 := n1_; have HO_102 := n2_; have BK759 := n3_; have HB := n4_; have BK781 := n5_; have GW781 := n6_; have GE781 := n7_; have NB759_781 := n8_; have NB781_759 := n9_; clear n0_ n1_ n2_ n3_ n4_ n5_ n6_ n7_ n8_ n9_; clear hb hbox hg; have hnb52 := NB781_759.out; have hnc52 := NB759_781.out; have hcz53_0 : w51.cell? ⟨gb781, 0, none⟩ = some (.int .i64 0) := (blk_cell BK781.out 0).trans rfl; have hcz53_1 : w51.cell? ⟨gb781, 1, none⟩ = some (.int .i64 0) := (blk_cell BK781.out 1).trans rfl; have hcz53_2 : w51.cell? ⟨gb781, 2, none⟩ = some (.int .i64 0) := (blk_cell BK781.out 2).trans rfl; have hcz53_3 : w51.cell? ⟨gb781, 3, none⟩ = some (.int .i64 0) := (blk_cell BK781.out 3).trans rfl; have hfz53_0 := blk_frozen BK781.out 0; have hfz53_1 := blk_frozen BK781.out 1; have hfz53_2 := blk_frozen BK781.out 2; have hfz53_3 := blk_frozen BK781.out 3; have hcz54_0 : w51.cell? ⟨gb759, 0, none⟩ = some (.int .i64 t755) := (blk_cell BK759.out 0).trans rfl; have hcz54_1 : w51.cell? ⟨gb759, 1, none⟩ = some (.int .i64 t756) := (blk_cell BK759.out 1).trans rfl; have hcz54_2 : w51.cell? ⟨gb759, 2, none⟩ = some (.int .i64 t757) := (blk_cell BK759.out 2).trans rfl; have hcz54_3 : w51.cell? ⟨gb759, 3, none⟩ = some (.int .i64 t758) := (blk_cell BK759.out 3).trans rfl; have hfz54_0 := blk_frozen BK759.out 0; have hfz54_1 := blk_frozen BK759.out 1; have hfz54_2 := blk_frozen BK759.out 2; have hfz54_3 := blk_frozen BK759.out 3))
               go_roundg k3
               case measure => have := HJ7.out; have := HJ23.out; have := HK3.out; omega
               case rel => exact ⟨((((rd_T41 t769 x104_3).f0) == t755 && (((rd_T41 t769 x104_3).f1) == t756 && (((rd_T41 t769 x104_3).f2) == t757 && (((rd_T41 t769 x104_3).f3) == t758))))), (wrap64 (x104_3 + 1)), (by first | rfl | (simp; done) | (simp [*]; done)), (by first | rfl | (simp; done) | (simp [*]; done)), H', ⟨by have := HJ7.out; have := HJ23.out; have := HK3.out; omega⟩, ⟨by (with_reducible repeat (first | apply Kd.S_alloc | apply Kd.S_drewN | apply Kd.S_drew)); exact Kd.S_mono (Kd.S_far (p := ⟨gb781, 3, none⟩) (Kd.S_far (p := ⟨gb781, 2, none⟩) (Kd.S_far (p := ⟨gb781, 1, none⟩) (Kd.S_far (p := ⟨gb781, 0, none⟩) (Kd.S_types HO_5.out BK781.out (by decide)) (fun _ hk => hk.2) (.int .i64 ((rd_T41 t769 x104_3).f0))) (fun _ hk => hk.2) (.int .i64 ((rd_T41 t769 x104_3).f1))) (fun _ hk => hk.2) (.int .i64 ((rd_T41 t769 x104_3).f2))) (fun _ hk => hk.2) (.int .i64 ((rd_T41 t769 x104_3).f3))) (fun _ hk => hk.1)⟩, ⟨by (with_reducible repeat (first | apply Kd.S_alloc | apply Kd.S_drewN | apply Kd.S_drew)); exact Kd.S_mono (Kd.S_far (p := ⟨gb781, 3, none⟩) (Kd.S_far (p := ⟨gb781, 2, none⟩) (Kd.S_far (p := ⟨gb781, 1, none⟩) (Kd.S_far (p := ⟨gb781, 0, none⟩) (Kd.S_types HO_7.out BK781.out (by decide)) (fun _ hk => hk.2) (.int .i64 ((rd_T41 t769 x104_3).f0))) (fun _ hk => hk.2) (.int .i64 ((rd_T41 t769 x104_3).f1))) (fun _ hk => hk.2) (.int .i64 ((rd_T41 t769 x104_3).f2))) (fun _ hk => hk.2) (.int .i64 ((rd_T41 t769 x104_3).f3))) (fun _ hk => hk.1)⟩, ⟨by (with_reducible repeat (first | apply Kd.R_alloc | apply Kd.R_drewN | apply Kd.R_drew)); exact Kd.R_mono (Kd.R_far (p := ⟨gb781, 3, none⟩) (Kd.R_far (p := ⟨gb781, 2, none⟩) (Kd.R_far (p := ⟨gb781, 1, none⟩) (Kd.R_far (p := ⟨gb781, 0, none⟩) (Kd.R_mono HO_102.out (fun k_ hk => (⟨hk, hk.2⟩ : _ ∧ k_ ≠ gb781))) (fun _ hk => hk.2) (.int .i64 ((rd_T41 t769 x104_3).f0))) (fun _ hk => hk.2) (.int .i64 ((rd_T41 t769 x104_3).f1))) (fun _ hk => hk.2) (.int .i64 ((rd_T41 t769 x104_3).f2))) (fun _ hk => hk.2) (.int .i64 ((rd_T41 t769 x104_3).f3))) (fun _ hk => hk.1.1)⟩, ⟨by (with_reducible repeat (first | refine blk_drewN ?_ _ | refine blk_drew ?_ | refine blk_alloc ?_ _)); refine blk_far ?_ NB759_781.out _; (with_reducible repeat (first | refine blk_drewN ?_ _ | refine blk_drew ?_ | refine blk_alloc ?_ _)); refine blk_far ?_ NB759_781.out _; (with_reducible repeat (first | refine blk_drewN ?_ _ | refine blk_drew ?_ | refine blk_alloc ?_ _)); refine blk_far ?_ NB759_781.out _; (with_reducible repeat (first | refine blk_drewN ?_ _ | refine blk_drew ?_ | refine blk_alloc ?_ _)); refine blk_far ?_ NB759_781.out _; (with_reducible repeat (first | refine blk_drewN ?_ _ | refine blk_drew ?_ | refine blk_alloc ?_ _)); exact BK759.out⟩, ⟨by repeat (first | (with_reducible first | exact HB.out | apply below_alloc | apply pw_below_drewN | apply below_drew1 | refine below_set ?_ GE759.out | refine below_set ?_ GE781.out) | exact HB.out)⟩⟩
             ·
              rw [if_neg c46] at H
              exact absurd H (by simp)
            ·
             rw [if_neg c45] at H
             exact absurd H (by simp)
           ·
            rw [if_neg c44] at H
            have c44b0 : decide (x104_3 < (t769.length : Int)) = false := decide_eq_false c44
            clear c44
            by_cases c55 : (x17_3 != t763) = true
            ·
             rw [if_pos c55] at H
             have c55b0 : (x17_3 != t763) = true := c55
             (try (have c55b1 : decide (x17_3 = t763) = false := by simpa using c55))
             (try (have c55b2 : (x17_3 == t763) = false := by simpa using c55))
             (try (have c55b3 : ¬ (x17_3 = t763) := by simpa using c55))
             clear c55
             obtain rfl := Option.some.inj H
             go_wp2
             go_ret
             exact ⟨by first | rfl | (simp [errW_none, errW_some] <;> rfl) | (simp [*, errW_none, errW_some] <;> rfl), by repeat (first | (with_reducible first | exact HB.out | apply below_alloc | apply pw_below_drewN | apply below_drew1 | refine below_set ?_ GE759.out) | exact HB.out)⟩
            ·
             rw [if_neg c55] at H
             have c55b0 : (x17_3 != t763) = false := by simpa using c55
             (try (have c55b1 : decide (x17_3 = t763) = true := by simpa using c55))
             (try (have c55b2 : (x17_3 == t763) = true := by simpa using c55))
             clear c55
             by_cases c56 : t763 = true
             ·
              subst c56
              have H1 : ((impl_SumsOfGrid.f k3 t752).bind fun bt782 => ((impl_SumsOfGrid.f k3 t760).bind fun bt789 => ((impl_GridsApart.f k3 t752 t760).bind fun bt796 => ((impl_DoSwitch.f t760 t755 t756 t757 t758).bind fun bt798 => (if bt782.2.2 = true then (if bt789.2.2 = true then (if bt796.2 = true then (if bt798.2 = true then ((laws_pSame.f k3 bt782.1 bt789.1).bind fun t802 => (if t802 = true then ((laws_pSame.f k3 bt782.2.1 bt789.2.1).bind fun t803 => (if t803 = true then (if bt796.1 = 4 then ((laws_pSameRows.f k3 bt798.1 t752).bind fun t804 => (some t804)) else (some false)) else (some false))) else (some false))) else (some false)) else (some false)) else (some false)) else (some false)))))) = some r := by rw [if_pos rfl] at H; exact H
              clear H
              have H := H1
              clear H1
              replace H := Option.bind_eq_some_iff.mp H
              obtain ⟨⟨t782, t783, t784⟩, A570, H⟩ := H
              replace H : ((impl_SumsOfGrid.f k3 t760).bind fun bt789 => ((impl_GridsApart.f k3 t752 t760).bind fun bt796 => ((impl_DoSwitch.f t760 t755 t756 t757 t758).bind fun bt798 => (if t784 = true then (if bt789.2.2 = true then (if bt796.2 = true then (if bt798.2 = true then ((laws_pSame.f k3 t782 bt789.1).bind fun t802 => (if t802 = true then ((laws_pSame.f k3 t783 bt789.2.1).bind fun t803 => (if t803 = true then (if bt796.1 = 4 then ((laws_pSameRows.f k3 bt798.1 t752).bind fun t804 => (some t804)) else (some false)) else (some false))) else (some false))) else (some false)) else (some false)) else (some false)) else (some false))))) = some r := H
              have A57 := Aside0.mk A570
              clear A570
              replace H := Option.bind_eq_some_iff.mp H
              obtain ⟨⟨t789, t790, t791⟩, A580, H⟩ := H
              replace H : ((impl_GridsApart.f k3 t752 t760).bind fun bt796 => ((impl_DoSwitch.f t760 t755 t756 t757 t758).bind fun bt798 => (if t784 = true then (if t791 = true then (if bt796.2 = true then (if bt798.2 = true then ((laws_pSame.f k3 t782 t789).bind fun t802 => (if t802 = true then ((laws_pSame.f k3 t783 t790).bind fun t803 => (if t803 = true then (if bt796.1 = 4 then ((laws_pSameRows.f k3 bt798.1 t752).bind fun t804 => (some t804)) else (some false)) else (some false))) else (some false))) else (some false)) else (some false)) else (some false)) else (some false)))) = some r := H
              have A58 := Aside0.mk A580
              clear A580
              replace H := Option.bind_eq_some_iff.mp H
              obtain ⟨⟨t796, t797⟩, A590, H⟩ := H
              replace H : ((impl_DoSwitch.f t760 t755 t756 t757 t758).bind fun bt798 => (if t784 = true then (if t791 = true then (if t797 = true then (if bt798.2 = true then ((laws_pSame.f k3 t782 t789).bind fun t802 => (if t802 = true then ((laws_pSame.f k3 t783 t790).bind fun t803 => (if t803 = true then (if t796 = 4 then ((laws_pSameRows.f k3 bt798.1 t752).bind fun t804 => (some t804)) else (some false)) else (some false))) else (some false))) else (some false)) else (some false)) else (some false)) else (some false))) = some r := H
              have A59 := Aside0.mk A590
              clear A590
              replace H := Option.bind_eq_some_iff.mp H
              obtain ⟨⟨t798, t801⟩, A600, H⟩ := H
              replace H : (if t784 = true then (if t791 = true then (if t797 = true then (if t801 = true then ((laws_pSame.f k3 t782 t789).bind fun t802 => (if t802 = true then ((laws_pSame.f k3 t783 t790).bind fun t803 => (if t803 = true then (if t796 = 4 then ((laws_pSameRows.f k3 t798 t752).bind fun t804 => (some t804)) else (some false)) else (some false))) else (some false))) else (some false)) else (some false)) else (some false)) else (some false)) = some r := H
              have A60 := Aside0.mk A600
              clear A600
              by_cases c61 : t784 = true
              ·
               subst c61
               have H1 : (if t791 = true then (if t797 = true then (if t801 = true then ((laws_pSame.f k3 t782 t789).bind fun t802 => (if t802 = true then ((laws_pSame.f k3 t783 t790).bind fun t803 => (if t803 = true then (if t796 = 4 then ((laws_pSameRows.f k3 t798 t752).bind fun t804 => (some t804)) else (some false)) else (some false))) else (some false))) else (some false)) else (some false)) else (some false)) = some r := by rw [if_pos rfl] at H; exact H
               clear H
               have H := H1
               clear H1
               by_cases c62 : t791 = true
               ·
                subst c62
                have H1 : (if t797 = true then (if t801 = true then ((laws_pSame.f k3 t782 t789).bind fun t802 => (if t802 = true then ((laws_pSame.f k3 t783 t790).bind fun t803 => (if t803 = true then (if t796 = 4 then ((laws_pSameRows.f k3 t798 t752).bind fun t804 => (some t804)) else (some false)) else (some false))) else (some false))) else (some false)) else (some false)) = some r := by rw [if_pos rfl] at H; exact H
                clear H
                have H := H1
                clear H1
                by_cases c63 : t797 = true
                ·
                 subst c63
                 have H1 : (if t801 = true then ((laws_pSame.f k3 t782 t789).bind fun t802 => (if t802 = true then ((laws_pSame.f k3 t783 t790).bind fun t803 => (if t803 = true then (if t796 = 4 then ((laws_pSameRows.f k3 t798 t752).bind fun t804 => (some t804)) else (some false)) else (some false))) else (some false))) else (some false)) = some r := by rw [if_pos rfl] at H; exact H
                 clear H
                 have H := H1
                 clear H1
                 by_cases c64 : t801 = true
                 ·
                  subst c64
                  have H1 : ((laws_pSame.f k3 t782 t789).bind fun t802 => (if t802 = true then ((laws_pSame.f k3 t783 t790).bind fun t803 => (if t803 = true then (if t796 = 4 then ((laws_pSameRows.f k3 t798 t752).bind fun t804 => (some t804)) else (some false)) else (some false))) else (some false))) = some r := by rw [if_pos rfl] at H; exact H
                  clear H
                  have H := H1
                  clear H1
                  replace H := Option.bind_eq_some_iff.mp H
                  obtain ⟨t802, A650, H⟩ := H
                  replace H : (if t802 = true then ((laws_pSame.f k3 t783 t790).bind fun t803 => (if t803 = true then (if t796 = 4 then ((laws_pSameRows.f k3 t798 t752).bind fun t804 => (some t804)) else (some false)) else (some false))) else (some false)) = some r := H
                  have A65 := Aside0.mk A650
                  clear A650
                  by_cases c66 : t802 = true
                  ·
                   subst c66
                   have H1 : ((laws_pSame.f k3 t783 t790).bind fun t803 => (if t803 = true then (if t796 = 4 then ((laws_pSameRows.f k3 t798 t752).bind fun t804 => (some t804)) else (some false)) else (some false))) = some r := by rw [if_pos rfl] at H; exact H
                   clear H
                   have H := H1
                   clear H1
                   replace H := Option.bind_eq_some_iff.mp H
                   obtain ⟨t803, A670, H⟩ := H
                   replace H : (if t803 = true then (if t796 = 4 then ((laws_pSameRows.f k3 t798 t752).bind fun t804 => (some t804)) else (some false)) else (some false)) = some r := H
                   have A67 := Aside0.mk A670
                   clear A670
                   by_cases c68 : t803 = true
                   ·
                    subst c68
                    have H1 : (if t796 = 4 then ((laws_pSameRows.f k3 t798 t752).bind fun t804 => (some t804)) else (some false)) = some r := by rw [if_pos rfl] at H; exact H
                    clear H
                    have H := H1
                    clear H1
                    by_cases c69 : t796 = 4
                    ·
                     rw [if_pos c69] at H
                     have c69b0 : (t796 == 4) = true := beq_iff_eq.mpr c69
                     have c69b1 : (t796 != 4) = false := bne_eq_false_iff_eq.mpr c69
                     clear c69
                     replace H := Option.bind_eq_some_iff.mp H
                     obtain ⟨t804, A700, H⟩ := H
                     replace H : (some t804) = some r := H
                     have A70 := Aside0.mk A700
                     clear A700
                     obtain rfl := Option.some.inj H
                     go_wp2_with (first | ((with_reducible refine gate_callee (f := 34) rfl ?_); refine goesL_ (some 122) rfl rfl Try.func34 (by kernel_rfl) rfl #[.slice Ao12 t752.length co12] rfl (by (try simp only [List.map_toArray, List.map_cons, List.map_nil]); first | done | rfl) ?_; (with_reducible refine (impl_SumsOfGrid.calls k3 _ _ t752 t782 t783 true _ ?side1 ?side2 A57.out).mono ?_); (case side1 => repeat (first | exact (Kd.S_reads' HO_5.out).2.2 | (with_reducible refine Kd.C_alloc ?_ _) | (with_reducible refine Kd.C_drewN ?_ _) | (with_reducible refine Kd.C_drew ?_))); (case side2 => exact (Kd.S_reads' HO_5.out).2.1); rintro e w71 ⟨v785, v787, rfl, ho0, ho1, hb⟩; refine ⟨_, rfl, ?_⟩; have n0_ := Aside0.mk (Kd.S_mono (Kd.S_told (Kd.S_told (Kd.S_old (by (with_reducible repeat (first | apply Kd.S_alloc | apply Kd.S_drewN | apply Kd.S_drew)); exact HO_5.out) hb) (Kd.R_base ho0)) (Kd.R_base ho1)) (fun _ h_ => h_.1)); have n1_ := Aside0.mk (Kd.S_mono (Kd.S_told (Kd.S_told (Kd.S_old (by (with_reducible repeat (first | apply Kd.S_alloc | apply Kd.S_drewN | apply Kd.S_drew)); exact HO_7.out) hb) (Kd.R_base ho0)) (Kd.R_base ho1)) (fun _ h_ => h_.1)); have n2_ := Aside0.mk (Kd.R_below (by (with_reducible repeat (first | apply Kd.R_alloc | apply Kd.R_drewN | apply Kd.R_drew)); exact HO_102.out) hb); have n3_ := Aside0.mk (Kd.R_lower ho0 (below_size (by repeat (first | (with_reducible first | exact HB.out | apply below_alloc | apply pw_below_drewN | apply below_drew1 | refine below_set ?_ GE759.out) | exact HB.out)))); have n4_ := Aside0.mk (Kd.R_lower ho1 (below_size (by repeat (first | (with_reducible first | exact HB.out | apply below_alloc | apply pw_below_drewN | apply below_drew1 | refine below_set ?_ GE759.out) | exact HB.out)))); have n5_ := Aside0.mk (blk_below (g := gb759) (o := .cells #[.int .i64 t755, .int .i64 t756, .int .i64 t757, .int .i64 t758] 41 (0, 0)) (by (with_reducible repeat (first | refine blk_drewN ?_ _ | refine blk_drew ?_ | refine blk_alloc ?_ _)); exact BK759.out) hb); have n6_ := Aside0.mk (below_step (by repeat (first | (with_reducible first | exact HB.out | apply below_alloc | apply pw_below_drewN | apply below_drew1 | refine below_set ?_ GE759.out) | exact HB.out)) hb); clear HO_5; clear HO_7; clear HO_102; clear BK759; clear HB; have HO_5 := n0_; have HO_7 := n1_; have HO_102 := n2_; have HO786 := n3_; have HO788 := n4_; have BK759 := n5_; have HB := n6_; clear n0_ n1_ n2_ n3_ n4_ n5_ n6_; (try clear hb); (try clear hb2); (try clear hk); (try clear hi); (try clear ho0); (try clear ho1); obtain ⟨Ao72, co72, eo72⟩ := Kd.S_slice HO_7.out; subst eo72) | ((with_reducible refine gate_callee (f := 34) rfl ?_); refine goesL_ (some 128) rfl rfl Try.func34 (by kernel_rfl) rfl #[.slice Ao72 t760.length co72] rfl (by (try simp only [List.map_toArray, List.map_cons, List.map_nil]); first | done | rfl) ?_; (with_reducible refine (impl_SumsOfGrid.calls k3 _ _ t760 t789 t790 true _ ?side1 ?side2 A58.out).mono ?_); (case side1 => repeat (first | exact (Kd.S_reads' HO_7.out).2.2 | (with_reducible refine Kd.C_alloc ?_ _) | (with_reducible refine Kd.C_drewN ?_ _) | (with_reducible refine Kd.C_drew ?_))); (case side2 => exact (Kd.S_reads' HO_7.out).2.1); rintro e w73 ⟨v792, v794, rfl, ho0, ho1, hb⟩; refine ⟨_, rfl, ?_⟩; have n0_ := Aside0.mk (Kd.S_mono (Kd.S_told (Kd.S_told (Kd.S_old (by (with_reducible repeat (first | apply Kd.S_alloc | apply Kd.S_drewN | apply Kd.S_drew)); exact HO_5.out) hb) (Kd.R_base ho0)) (Kd.R_base ho1)) (fun _ h_ => h_.1)); have n1_ := Aside0.mk (Kd.S_mono (Kd.S_told (Kd.S_told (Kd.S_old (by (with_reducible repeat (first | apply Kd.S_alloc | apply Kd.S_drewN | apply Kd.S_drew)); exact HO_7.out) hb) (Kd.R_base ho0)) (Kd.R_base ho1)) (fun _ h_ => h_.1)); have n2_ := Aside0.mk (Kd.R_below (by (with_reducible repeat (first | apply Kd.R_alloc | apply Kd.R_drewN | apply Kd.R_drew)); exact HO_102.out) hb); have n3_ := Aside0.mk (Kd.R_mono (Kd.R_told (Kd.R_told (Kd.R_old (by (with_reducible repeat (first | apply Kd.R_alloc | apply Kd.R_drewN | apply Kd.R_drew)); exact HO786.out) hb) (Kd.R_base ho0)) (Kd.R_base ho1)) (fun _ h_ => h_.1)); have n4_ := Aside0.mk (Kd.R_mono (Kd.R_told (Kd.R_told (Kd.R_old (by (with_reducible repeat (first | apply Kd.R_alloc | apply Kd.R_drewN | apply Kd.R_drew)); exact HO788.out) hb) (Kd.R_base ho0)) (Kd.R_base ho1)) (fun _ h_ => h_.1)); have n5_ := Aside0.mk (Kd.R_lower (Kd.R_new' (Kd.R_new' ho0 (Kd.R_lt (by (with_reducible repeat (first | apply Kd.R_alloc | apply Kd.R_drewN | apply Kd.R_drew)); exact HO786.out))) (Kd.R_lt (by (with_reducible repeat (first | apply Kd.R_alloc | apply Kd.R_drewN | apply Kd.R_drew)); exact HO788.out))) (below_size (by repeat (first | (with_reducible first | exact HB.out | apply below_alloc | apply pw_below_drewN | apply below_drew1 | refine below_set ?_ GE759.out) | exact HB.out)))); have n6_ := Aside0.mk (Kd.R_lower (Kd.R_new' (Kd.R_new' ho1 (Kd.R_lt (by (with_reducible repeat (first | apply Kd.R_alloc | apply Kd.R_drewN | apply Kd.R_drew)); exact HO786.out))) (Kd.R_lt (by (with_reducible repeat (first | apply Kd.R_alloc | apply Kd.R_drewN | apply Kd.R_drew)); exact HO788.out))) (below_size (by repeat (first | (with_reducible first | exact HB.out | apply below_alloc | apply pw_below_drewN | apply below_drew1 | refine below_set ?_ GE759.out) | exact HB.out)))); have n7_ := Aside0.mk (blk_below (g := gb759) (o := .cells #[.int .i64 t755, .int .i64 t756, .int .i64 t757, .int .i64 t758] 41 (0, 0)) (by (with_reducible repeat (first | refine blk_drewN ?_ _ | refine blk_drew ?_ | refine blk_alloc ?_ _)); exact BK759.out) hb); have n8_ := Aside0.mk (below_step (by repeat (first | (with_reducible first | exact HB.out | apply below_alloc | apply pw_below_drewN | apply below_drew1 | refine below_set ?_ GE759.out) | exact HB.out)) hb); clear HO_5; clear HO_7; clear HO_102; clear HO786; clear HO788; clear BK759; clear HB; have HO_5 := n0_; have HO_7 := n1_; have HO_102 := n2_; have HO786 := n3_; have HO788 := n4_; have HO793 := n5_; have HO795 := n6_; have BK759 := n7_; have HB := n8_; clear n0_ n1_ n2_ n3_ n4_ n5_ n6_ n7_ n8_; (try clear hb); (try clear hb2); (try clear hk); (try clear hi); (try clear ho0); (try clear ho1)) | ((with_reducible refine gate_callee (f := 24) rfl ?_); refine goesL_ (some 135) rfl rfl Try.func24 (by kernel_rfl) rfl #[.slice Ao12 t752.length co12, .slice Ao72 t760.length co72] rfl (by (try simp only [List.map_toArray, List.map_cons, List.map_nil]); first | done | rfl) ?_; (with_reducible refine (impl_GridsApart.calls k3 _ _ t752 _ _ t760 t796 true _ ?side1 ?side2 ?side3 ?side4 A59.out).mono ?_); (case side1 => repeat (first | exact (Kd.S_reads' HO_5.out).2.2 | (with_reducible refine Kd.C_alloc ?_ _) | (with_reducible refine Kd.C_drewN ?_ _) | (with_reducible refine Kd.C_drew ?_))); (case side2 => exact (Kd.S_reads' HO_5.out).2.1); (case side3 => repeat (first | exact (Kd.S_reads' HO_7.out).2.2 | (with_reducible refine Kd.C_alloc ?_ _) | (with_reducible refine Kd.C_drewN ?_ _) | (with_reducible refine Kd.C_drew ?_))); (case side4 => exact (Kd.S_reads' HO_7.out).2.1); rintro e w74 ⟨rfl, hb⟩; refine ⟨_, rfl, ?_⟩; have n0_ := Aside0.mk (Kd.S_below (by (with_reducible repeat (first | apply Kd.S_alloc | apply Kd.S_drewN | apply Kd.S_drew)); exact HO_5.out) hb); have n1_ := Aside0.mk (Kd.S_below (by (with_reducible repeat (first | apply Kd.S_alloc | apply Kd.S_drewN | apply Kd.S_drew)); exact HO_7.out) hb); have n2_ := Aside0.mk (Kd.R_below (by (with_reducible repeat (first | apply Kd.R_alloc | apply Kd.R_drewN | apply Kd.R_drew)); exact HO_102.out) hb); have n3_ := Aside0.mk (Kd.R_below (by (with_reducible repeat (first | apply Kd.R_alloc | apply Kd.R_drewN | apply Kd.R_drew)); exact HO786.out) hb); have n4_ := Aside0.mk (Kd.R_below (by (with_reducible repeat (first | apply Kd.R_alloc | apply Kd.R_drewN | apply Kd.R_drew)); exact HO788.out) hb); have n5_ := Aside0.mk (Kd.R_below (by (with_reducible repeat (first | apply Kd.R_alloc | apply Kd.R_drewN | apply Kd.R_drew)); exact HO793.out) hb); have n6_ := Aside0.mk (Kd.R_below (by (with_reducible repeat (first | apply Kd.R_alloc | apply Kd.R_drewN | apply Kd.R_drew)); exact HO795.out) hb); have n7_ := Aside0.mk (blk_below (g := gb759) (o := .cells #[.int .i64 t755, .int .i64 t756, .int .i64 t757, .int .i64 t758] 41 (0, 0)) (by (with_reducible repeat (first | refine blk_drewN ?_ _ | refine blk_drew ?_ | refine blk_alloc ?_ _)); exact BK759.out) hb); have n8_ := Aside0.mk (below_step (by repeat (first | (with_reducible first | exact HB.out | apply below_alloc | apply pw_below_drewN | apply below_drew1 | refine below_set ?_ GE759.out) | exact HB.out)) hb); clear HO_5; clear HO_7; clear HO_102; clear HO786; clear HO788; clear HO793; clear HO795; clear BK759; clear HB; have HO_5 := n0_; have HO_7 := n1_; have HO_102 := n2_; have HO786 := n3_; have HO788 := n4_; have HO793 := n5_; have HO795 := n6_; have BK759 := n7_; have HB := n8_; clear n0_ n1_ n2_ n3_ n4_ n5_ n6_ n7_ n8_; (try clear hb); (try clear hb2); (try clear hk); (try clear hi); have hcz75_0 : w74.cell? ⟨gb759, 0, none⟩ = some (.int .i64 t755) := (blk_cell BK759.out 0).trans rfl; have hcz75_1 : w74.cell? ⟨gb759, 1, none⟩ = some (.int .i64 t756) := (blk_cell BK759.out 1).trans rfl; have hcz75_2 : w74.cell? ⟨gb759, 2, none⟩ = some (.int .i64 t757) := (blk_cell BK759.out 2).trans rfl; have hcz75_3 : w74.cell? ⟨gb759, 3, none⟩ = some (.int .i64 t758) := (blk_cell BK759.out 3).trans rfl; have hfz75_0 := blk_frozen BK759.out 0; have hfz75_1 := blk_frozen BK759.out 1; have hfz75_2 := blk_frozen BK759.out 2; have hfz75_3 := blk_frozen BK759.out 3) | ((with_reducible refine gate_callee (f := 40) rfl ?_); refine goesL_ (some 141) rfl rfl Try.func40 (by kernel_rfl) rfl #[.slice Ao72 t760.length co72, .agg #[.int .i64 t755, .int .i64 t756, .int .i64 t757, .int .i64 t758]] rfl (by (try simp only [List.map_toArray, List.map_cons, List.map_nil]); first | done | rfl) ?_; (with_reducible refine (impl_DoSwitch.calls _ _ t760 t755 t756 t757 t758 t798 true _ ?side1 ?side2 A60.out).mono ?_); (case side1 => repeat (first | exact (Kd.S_reads' HO_7.out).2.2 | (with_reducible refine Kd.C_alloc ?_ _) | (with_reducible refine Kd.C_drewN ?_ _) | (with_reducible refine Kd.C_drew ?_))); (case side2 => exact (Kd.S_reads' HO_7.out).2.1); rintro e w76 ⟨v799, rfl, ho0, hb⟩; refine ⟨_, rfl, ?_⟩; have n0_ := Aside0.mk (Kd.S_elder' (by (with_reducible repeat (first | apply Kd.S_alloc | apply Kd.S_drewN | apply Kd.S_drew)); exact HO_5.out) (Kd.S_base ho0) hb); have n1_ := Aside0.mk (Kd.S_elder' (by (with_reducible repeat (first | apply Kd.S_alloc | apply Kd.S_drewN | apply Kd.S_drew)); exact HO_7.out) (Kd.S_base ho0) hb); have n2_ := Aside0.mk (Kd.R_below (by (with_reducible repeat (first | apply Kd.R_alloc | apply Kd.R_drewN | apply Kd.R_drew)); exact HO_102.out) hb); have n3_ := Aside0.mk (Kd.R_below (by (with_reducible repeat (first | apply Kd.R_alloc | apply Kd.R_drewN | apply Kd.R_drew)); exact HO786.out) hb); have n4_ := Aside0.mk (Kd.R_below (by (with_reducible repeat (first | apply Kd.R_alloc | apply Kd.R_drewN | apply Kd.R_drew)); exact HO788.out) hb); have n5_ := Aside0.mk (Kd.R_below (by (with_reducible repeat (first | apply Kd.R_alloc | apply Kd.R_drewN | apply Kd.R_drew)); exact HO793.out) hb); have n6_ := Aside0.mk (Kd.R_below (by (with_reducible repeat (first | apply Kd.R_alloc | apply Kd.R_drewN | apply Kd.R_drew)); exact HO795.out) hb); have n7_ := Aside0.mk (Kd.S_lower (Kd.S_new' (Kd.S_new' (Kd.S_new' (Kd.S_new' (Kd.S_new' (Kd.S_new' ho0 (Kd.S_lt (by (with_reducible repeat (first | apply Kd.S_alloc | apply Kd.S_drewN | apply Kd.S_drew)); exact HO_5.out))) (Kd.S_lt (by (with_reducible repeat (first | apply Kd.S_alloc | apply Kd.S_drewN | apply Kd.S_drew)); exact HO_7.out))) (Kd.R_lt (by (with_reducible repeat (first | apply Kd.R_alloc | apply Kd.R_drewN | apply Kd.R_drew)); exact HO786.out))) (Kd.R_lt (by (with_reducible repeat (first | apply Kd.R_alloc | apply Kd.R_drewN | apply Kd.R_drew)); exact HO788.out))) (Kd.R_lt (by (with_reducible repeat (first | apply Kd.R_alloc | apply Kd.R_drewN | apply Kd.R_drew)); exact HO793.out))) (Kd.R_lt (by (with_reducible repeat (first | apply Kd.R_alloc | apply Kd.R_drewN | apply Kd.R_drew)); exact HO795.out))) (below_size (by repeat (first | (with_reducible first | exact HB.out | apply below_alloc | apply pw_below_drewN | apply below_drew1 | refine below_set ?_ GE759.out) | exact HB.out)))); have n8_ := Aside0.mk (blk_below (g := gb759) (o := .cells #[.int .i64 t755, .int .i64 t756, .int .i64 t757, .int .i64 t758] 41 (0, 0)) (by (with_reducible repeat (first | refine blk_drewN ?_ _ | refine blk_drew ?_ | refine blk_alloc ?_ _)); exact BK759.out) hb); have n9_ := Aside0.mk (below_step (by repeat (first | (with_reducible first | exact HB.out | apply below_alloc | apply pw_below_drewN | apply below_drew1 | refine below_set ?_ GE759.out) | exact HB.out)) hb); clear HO_5; clear HO_7; clear HO_102; clear HO786; clear HO788; clear HO793; clear HO795; clear BK759; clear HB; have HO_5 := n0_; have HO_7 := n1_; have HO_102 := n2_; have HO786 := n3_; have HO788 := n4_; have HO793 := n5_; have HO795 := n6_; have HO800 := n7_; have BK759 := n8_; have HB := n9_; clear n0_ n1_ n2_ n3_ n4_ n5_ n6_ n7_ n8_ n9_; (try clear hb); (try clear hb2); (try clear hk); (try clear hi); (try clear ho0); obtain ⟨Ao77, co77, eo77⟩ := Kd.R_slice HO786.out; subst eo77; obtain ⟨Ao78, co78, eo78⟩ := Kd.R_slice HO793.out; subst eo78) | (go_at_call 59; (with_reducible refine (laws_pSame.calls k3 _ _ t782 _ _ t789 true _ ?side1 ?side2 ?side3 ?side4 A65.out).mono ?_); (case side1 => repeat (first | exact (Kd.R_reads' HO786.out).2.2 | (with_reducible refine Kd.C_alloc ?_ _) | (with_reducible refine Kd.C_drewN ?_ _) | (with_reducible refine Kd.C_drew ?_))); (case side2 => exact (Kd.R_reads' HO786.out).2.1); (case side3 => repeat (first | exact (Kd.R_reads' HO793.out).2.2 | (with_reducible refine Kd.C_alloc ?_ _) | (with_reducible refine Kd.C_drewN ?_ _) | (with_reducible refine Kd.C_drew ?_))); (case side4 => exact (Kd.R_reads' HO793.out).2.1); rintro e w' ⟨rfl, ⟨nd, rfl⟩⟩; obtain ⟨Ao79, co79, eo79⟩ := Kd.R_slice HO788.out; subst eo79; obtain ⟨Ao80, co80, eo80⟩ := Kd.R_slice HO795.out; subst eo80) | (go_at_call 59; (with_reducible refine (laws_pSame.calls k3 _ _ t783 _ _ t790 true _ ?side1 ?side2 ?side3 ?side4 A67.out).mono ?_); (case side1 => repeat (first | exact (Kd.R_reads' HO788.out).2.2 | (with_reducible refine Kd.C_alloc ?_ _) | (with_reducible refine Kd.C_drewN ?_ _) | (with_reducible refine Kd.C_drew ?_))); (case side2 => exact (Kd.R_reads' HO788.out).2.1); (case side3 => repeat (first | exact (Kd.R_reads' HO795.out).2.2 | (with_reducible refine Kd.C_alloc ?_ _) | (with_reducible refine Kd.C_drewN ?_ _) | (with_reducible refine Kd.C_drew ?_))); (case side4 => exact (Kd.R_reads' HO795.out).2.1); rintro e w' ⟨rfl, ⟨nd, rfl⟩⟩; obtain ⟨Ao81, co81, eo81⟩ := Kd.S_slice HO800.out; subst eo81) | (go_at_call 57; (with_reducible refine (laws_pSameRows.calls k3 _ _ t798 _ _ t752 t804 _ ?side1 ?side2 ?side3 ?side4 A70.out).mono ?_); (case side1 => repeat (first | exact (Kd.S_reads' HO800.out).2.2 | (with_reducible refine Kd.C_alloc ?_ _) | (with_reducible refine Kd.C_drewN ?_ _) | (with_reducible refine Kd.C_drew ?_))); (case side2 => exact (Kd.S_reads' HO800.out).2.1); (case side3 => repeat (first | exact (Kd.S_reads' HO_5.out).2.2 | (with_reducible refine Kd.C_alloc ?_ _) | (with_reducible refine Kd.C_drewN ?_ _) | (with_reducible refine Kd.C_drew ?_))); (case side4 => exact (Kd.S_reads' HO_5.out).2.1); rintro e w' ⟨rfl, ⟨nd, rfl⟩⟩))
                     go_ret
                     exact ⟨by first | rfl | (simp [errW_none, errW_some] <;> rfl) | (simp [*, errW_none, errW_some] <;> rfl), by repeat (first | (with_reducible first | exact HB.out | apply below_alloc | apply pw_below_drewN | apply below_drew1 | refine below_set ?_ GE759.out) | exact HB.out)⟩
                    ·
                     rw [if_neg c69] at H
                     have c69b0 : (t796 == 4) = false := beq_eq_false_iff_ne.mpr c69
                     have c69b1 : (t796 != 4) = true := bne_iff_ne.mpr c69
                     obtain rfl := Option.some.inj H
                     go_wp2_with (first | ((with_reducible refine gate_callee (f := 34) rfl ?_); refine goesL_ (some 122) rfl rfl Try.func34 (by kernel_rfl) rfl #[.slice Ao12 t752.length co12] rfl (by (try simp only [List.map_toArray, List.map_cons, List.map_nil]); first | done | rfl) ?_; (with_reducible refine (impl_SumsOfGrid.calls k3 _ _ t752 t782 t783 true _ ?side1 ?side2 A57.out).mono ?_); (case side1 => repeat (first | exact (Kd.S_reads' HO_5.out).2.2 | (with_reducible refine Kd.C_alloc ?_ _) | (with_reducible refine Kd.C_drewN ?_ _) | (with_reducible refine Kd.C_drew ?_))); (case side2 => exact (Kd.S_reads' HO_5.out).2.1); rintro e w82 ⟨v785, v787, rfl, ho0, ho1, hb⟩; refine ⟨_, rfl, ?_⟩; have n0_ := Aside0.mk (Kd.S_mono (Kd.S_told (Kd.S_told (Kd.S_old (by (with_reducible repeat (first | apply Kd.S_alloc | apply Kd.S_drewN | apply Kd.S_drew)); exact HO_5.out) hb) (Kd.R_base ho0)) (Kd.R_base ho1)) (fun _ h_ => h_.1)); have n1_ := Aside0.mk (Kd.S_mono (Kd.S_told (Kd.S_told (Kd.S_old (by (with_reducible repeat (first | apply Kd.S_alloc | apply Kd.S_drewN | apply Kd.S_drew)); exact HO_7.out) hb) (Kd.R_base ho0)) (Kd.R_base ho1)) (fun _ h_ => h_.1)); have n2_ := Aside0.mk (Kd.R_below (by (with_reducible repeat (first | apply Kd.R_alloc | apply Kd.R_drewN | apply Kd.R_drew)); exact HO_102.out) hb); have n3_ := Aside0.mk (Kd.R_lower ho0 (below_size (by repeat (first | (with_reducible first | exact HB.out | apply below_alloc | apply pw_below_drewN | apply below_drew1 | refine below_set ?_ GE759.out) | exact HB.out)))); have n4_ := Aside0.mk (Kd.R_lower ho1 (below_size (by repeat (first | (with_reducible first | exact HB.out | apply below_alloc | apply pw_below_drewN | apply below_drew1 | refine below_set ?_ GE759.out) | exact HB.out)))); have n5_ := Aside0.mk (blk_below (g := gb759) (o := .cells #[.int .i64 t755, .int .i64 t756, .int .i64 t757, .int .i64 t758] 41 (0, 0)) (by (with_reducible repeat (first | refine blk_drewN ?_ _ | refine blk_drew ?_ | refine blk_alloc ?_ _)); exact BK759.out) hb); have n6_ := Aside0.mk (below_step (by repeat (first | (with_reducible first | exact HB.out | apply below_alloc | apply pw_below_drewN | apply below_drew1 | refine below_set ?_ GE759.out) | exact HB.out)) hb); clear HO_5; clear HO_7; clear HO_102; clear BK759; clear HB; have HO_5 := n0_; have HO_7 := n1_; have HO_102 := n2_; have HO786 := n3_; have HO788 := n4_; have BK759 := n5_; have HB := n6_; clear n0_ n1_ n2_ n3_ n4_ n5_ n6_; (try clear hb); (try clear hb2); (try clear hk); (try clear hi); (try clear ho0); (try clear ho1); obtain ⟨Ao83, co83, eo83⟩ := Kd.S_slice HO_7.out; subst eo83) | ((with_reducible refine gate_callee (f := 34) rfl ?_); refine goesL_ (some 128) rfl rfl Try.func34 (by kernel_rfl) rfl #[.slice Ao83 t760.length co83] rfl (by (try simp only [List.map_toArray, List.map_cons, List.map_nil]); first | done | rfl) ?_; (with_reducible refine (impl_SumsOfGrid.calls k3 _ _ t760 t789 t790 true _ ?side1 ?side2 A58.out).mono ?_); (case side1 => repeat (first | exact (Kd.S_reads' HO_7.out).2.2 | (with_reducible refine Kd.C_alloc ?_ _) | (with_reducible refine Kd.C_drewN ?_ _) | (with_reducible refine Kd.C_drew ?_))); (case side2 => exact (Kd.S_reads' HO_7.out).2.1); rintro e w84 ⟨v792, v794, rfl, ho0, ho1, hb⟩; refine ⟨_, rfl, ?_⟩; have n0_ := Aside0.mk (Kd.S_mono (Kd.S_told (Kd.S_told (Kd.S_old (by (with_reducible repeat (first | apply Kd.S_alloc | apply Kd.S_drewN | apply Kd.S_drew)); exact HO_5.out) hb) (Kd.R_base ho0)) (Kd.R_base ho1)) (fun _ h_ => h_.1)); have n1_ := Aside0.mk (Kd.S_mono (Kd.S_told (Kd.S_told (Kd.S_old (by (with_reducible repeat (first | apply Kd.S_alloc | apply Kd.S_drewN | apply Kd.S_drew)); exact HO_7.out) hb) (Kd.R_base ho0)) (Kd.R_base ho1)) (fun _ h_ => h_.1)); have n2_ := Aside0.mk (Kd.R_below (by (with_reducible repeat (first | apply Kd.R_alloc | apply Kd.R_drewN | apply Kd.R_drew)); exact HO_102.out) hb); have n3_ := Aside0.mk (Kd.R_mono (Kd.R_told (Kd.R_told (Kd.R_old (by (with_reducible repeat (first | apply Kd.R_alloc | apply Kd.R_drewN | apply Kd.R_drew)); exact HO786.out) hb) (Kd.R_base ho0)) (Kd.R_base ho1)) (fun _ h_ => h_.1)); have n4_ := Aside0.mk (Kd.R_mono (Kd.R_told (Kd.R_told (Kd.R_old (by (with_reducible repeat (first | apply Kd.R_alloc | apply Kd.R_drewN | apply Kd.R_drew)); exact HO788.out) hb) (Kd.R_base ho0)) (Kd.R_base ho1)) (fun _ h_ => h_.1)); have n5_ := Aside0.mk (Kd.R_lower (Kd.R_new' (Kd.R_new' ho0 (Kd.R_lt (by (with_reducible repeat (first | apply Kd.R_alloc | apply Kd.R_drewN | apply Kd.R_drew)); exact HO786.out))) (Kd.R_lt (by (with_reducible repeat (first | apply Kd.R_alloc | apply Kd.R_drewN | apply Kd.R_drew)); exact HO788.out))) (below_size (by repeat (first | (with_reducible first | exact HB.out | apply below_alloc | apply pw_below_drewN | apply below_drew1 | refine below_set ?_ GE759.out) | exact HB.out)))); have n6_ := Aside0.mk (Kd.R_lower (Kd.R_new' (Kd.R_new' ho1 (Kd.R_lt (by (with_reducible repeat (first | apply Kd.R_alloc | apply Kd.R_drewN | apply Kd.R_drew)); exact HO786.out))) (Kd.R_lt (by (with_reducible repeat (first | apply Kd.R_alloc | apply Kd.R_drewN | apply Kd.R_drew)); exact HO788.out))) (below_size (by repeat (first | (with_reducible first | exact HB.out | apply below_alloc | apply pw_below_drewN | apply below_drew1 | refine below_set ?_ GE759.out) | exact HB.out)))); have n7_ := Aside0.mk (blk_below (g := gb759) (o := .cells #[.int .i64 t755, .int .i64 t756, .int .i64 t757, .int .i64 t758] 41 (0, 0)) (by (with_reducible repeat (first | refine blk_drewN ?_ _ | refine blk_drew ?_ | refine blk_alloc ?_ _)); exact BK759.out) hb); have n8_ := Aside0.mk (below_step (by repeat (first | (with_reducible first | exact HB.out | apply below_alloc | apply pw_below_drewN | apply below_drew1 | refine below_set ?_ GE759.out) | exact HB.out)) hb); clear HO_5; clear HO_7; clear HO_102; clear HO786; clear HO788; clear BK759; clear HB; have HO_5 := n0_; have HO_7 := n1_; have HO_102 := n2_; have HO786 := n3_; have HO788 := n4_; have HO793 := n5_; have HO795 := n6_; have BK759 := n7_; have HB := n8_; clear n0_ n1_ n2_ n3_ n4_ n5_ n6_ n7_ n8_; (try clear hb); (try clear hb2); (try clear hk); (try clear hi); (try clear ho0); (try clear ho1)) | ((with_reducible refine gate_callee (f := 24) rfl ?_); refine goesL_ (some 135) rfl rfl Try.func24 (by kernel_rfl) rfl #[.slice Ao12 t752.length co12, .slice Ao83 t760.length co83] rfl (by (try simp only [List.map_toArray, List.map_cons, List.map_nil]); first | done | rfl) ?_; (with_reducible refine (impl_GridsApart.calls k3 _ _ t752 _ _ t760 t796 true _ ?side1 ?side2 ?side3 ?side4 A59.out).mono ?_); (case side1 => repeat (first | exact (Kd.S_reads' HO_5.out).2.2 | (with_reducible refine Kd.C_alloc ?_ _) | (with_reducible refine Kd.C_drewN ?_ _) | (with_reducible refine Kd.C_drew ?_))); (case side2 => exact (Kd.S_reads' HO_5.out).2.1); (case side3 => repeat (first | exact (Kd.S_reads' HO_7.out).2.2 | (with_reducible refine Kd.C_alloc ?_ _) | (with_reducible refine Kd.C_drewN ?_ _) | (with_reducible refine Kd.C_drew ?_))); (case side4 => exact (Kd.S_reads' HO_7.out).2.1); rintro e w85 ⟨rfl, hb⟩; refine ⟨_, rfl, ?_⟩; have n0_ := Aside0.mk (Kd.S_below (by (with_reducible repeat (first | apply Kd.S_alloc | apply Kd.S_drewN | apply Kd.S_drew)); exact HO_5.out) hb); have n1_ := Aside0.mk (Kd.S_below (by (with_reducible repeat (first | apply Kd.S_alloc | apply Kd.S_drewN | apply Kd.S_drew)); exact HO_7.out) hb); have n2_ := Aside0.mk (Kd.R_below (by (with_reducible repeat (first | apply Kd.R_alloc | apply Kd.R_drewN | apply Kd.R_drew)); exact HO_102.out) hb); have n3_ := Aside0.mk (Kd.R_below (by (with_reducible repeat (first | apply Kd.R_alloc | apply Kd.R_drewN | apply Kd.R_drew)); exact HO786.out) hb); have n4_ := Aside0.mk (Kd.R_below (by (with_reducible repeat (first | apply Kd.R_alloc | apply Kd.R_drewN | apply Kd.R_drew)); exact HO788.out) hb); have n5_ := Aside0.mk (Kd.R_below (by (with_reducible repeat (first | apply Kd.R_alloc | apply Kd.R_drewN | apply Kd.R_drew)); exact HO793.out) hb); have n6_ := Aside0.mk (Kd.R_below (by (with_reducible repeat (first | apply Kd.R_alloc | apply Kd.R_drewN | apply Kd.R_drew)); exact HO795.out) hb); have n7_ := Aside0.mk (blk_below (g := gb759) (o := .cells #[.int .i64 t755, .int .i64 t756, .int .i64 t757, .int .i64 t758] 41 (0, 0)) (by (with_reducible repeat (first | refine blk_drewN ?_ _ | refine blk_drew ?_ | refine blk_alloc ?_ _)); exact BK759.out) hb); have n8_ := Aside0.mk (below_step (by repeat (first | (with_reducible first | exact HB.out | apply below_alloc | apply pw_below_drewN | apply below_drew1 | refine below_set ?_ GE759.out) | exact HB.out)) hb); clear HO_5; clear HO_7; clear HO_102; clear HO786; clear HO788; clear HO793; clear HO795; clear BK759; clear HB; have HO_5 := n0_; have HO_7 := n1_; have HO_102 := n2_; have HO786 := n3_; have HO788 := n4_; have HO793 := n5_; have HO795 := n6_; have BK759 := n7_; have HB := n8_; clear n0_ n1_ n2_ n3_ n4_ n5_ n6_ n7_ n8_; (try clear hb); (try clear hb2); (try clear hk); (try clear hi); have hcz86_0 : w85.cell? ⟨gb759, 0, none⟩ = some (.int .i64 t755) := (blk_cell BK759.out 0).trans rfl; have hcz86_1 : w85.cell? ⟨gb759, 1, none⟩ = some (.int .i64 t756) := (blk_cell BK759.out 1).trans rfl; have hcz86_2 : w85.cell? ⟨gb759, 2, none⟩ = some (.int .i64 t757) := (blk_cell BK759.out 2).trans rfl; have hcz86_3 : w85.cell? ⟨gb759, 3, none⟩ = some (.int .i64 t758) := (blk_cell BK759.out 3).trans rfl; have hfz86_0 := blk_frozen BK759.out 0; have hfz86_1 := blk_frozen BK759.out 1; have hfz86_2 := blk_frozen BK759.out 2; have hfz86_3 := blk_frozen BK759.out 3) | ((with_reducible refine gate_callee (f := 40) rfl ?_); refine goesL_ (some 141) rfl rfl Try.func40 (by kernel_rfl) rfl #[.slice Ao83 t760.length co83, .agg #[.int .i64 t755, .int .i64 t756, .int .i64 t757, .int .i64 t758]] rfl (by (try simp only [List.map_toArray, List.map_cons, List.map_nil]); first | done | rfl) ?_; (with_reducible refine (impl_DoSwitch.calls _ _ t760 t755 t756 t757 t758 t798 true _ ?side1 ?side2 A60.out).mono ?_); (case side1 => repeat (first | exact (Kd.S_reads' HO_7.out).2.2 | (with_reducible refine Kd.C_alloc ?_ _) | (with_reducible refine Kd.C_drewN ?_ _) | (with_reducible refine Kd.C_drew ?_))); (case side2 => exact (Kd.S_reads' HO_7.out).2.1); rintro e w87 ⟨v799, rfl, ho0, hb⟩; refine ⟨_, rfl, ?_⟩; have n0_ := Aside0.mk (Kd.S_elder' (by (with_reducible repeat (first | apply Kd.S_alloc | apply Kd.S_drewN | apply Kd.S_drew)); exact HO_5.out) (Kd.S_base ho0) hb); have n1_ := Aside0.mk (Kd.S_elder' (by (with_reducible repeat (first | apply Kd.S_alloc | apply Kd.S_drewN | apply Kd.S_drew)); exact HO_7.out) (Kd.S_base ho0) hb); have n2_ := Aside0.mk (Kd.R_below (by (with_reducible repeat (first | apply Kd.R_alloc | apply Kd.R_drewN | apply Kd.R_drew)); exact HO_102.out) hb); have n3_ := Aside0.mk (Kd.R_below (by (with_reducible repeat (first | apply Kd.R_alloc | apply Kd.R_drewN | apply Kd.R_drew)); exact HO786.out) hb); have n4_ := Aside0.mk (Kd.R_below (by (with_reducible repeat (first | apply Kd.R_alloc | apply Kd.R_drewN | apply Kd.R_drew)); exact HO788.out) hb); have n5_ := Aside0.mk (Kd.R_below (by (with_reducible repeat (first | apply Kd.R_alloc | apply Kd.R_drewN | apply Kd.R_drew)); exact HO793.out) hb); have n6_ := Aside0.mk (Kd.R_below (by (with_reducible repeat (first | apply Kd.R_alloc | apply Kd.R_drewN | apply Kd.R_drew)); exact HO795.out) hb); have n7_ := Aside0.mk (Kd.S_lower (Kd.S_new' (Kd.S_new' (Kd.S_new' (Kd.S_new' (Kd.S_new' (Kd.S_new' ho0 (Kd.S_lt (by (with_reducible repeat (first | apply Kd.S_alloc | apply Kd.S_drewN | apply Kd.S_drew)); exact HO_5.out))) (Kd.S_lt (by (with_reducible repeat (first | apply Kd.S_alloc | apply Kd.S_drewN | apply Kd.S_drew)); exact HO_7.out))) (Kd.R_lt (by (with_reducible repeat (first | apply Kd.R_alloc | apply Kd.R_drewN | apply Kd.R_drew)); exact HO786.out))) (Kd.R_lt (by (with_reducible repeat (first | apply Kd.R_alloc | apply Kd.R_drewN | apply Kd.R_drew)); exact HO788.out))) (Kd.R_lt (by (with_reducible repeat (first | apply Kd.R_alloc | apply Kd.R_drewN | apply Kd.R_drew)); exact HO793.out))) (Kd.R_lt (by (with_reducible repeat (first | apply Kd.R_alloc | apply Kd.R_drewN | apply Kd.R_drew)); exact HO795.out))) (below_size (by repeat (first | (with_reducible first | exact HB.out | apply below_alloc | apply pw_below_drewN | apply below_drew1 | refine below_set ?_ GE759.out) | exact HB.out)))); have n8_ := Aside0.mk (blk_below (g := gb759) (o := .cells #[.int .i64 t755, .int .i64 t756, .int .i64 t757, .int .i64 t758] 41 (0, 0)) (by (with_reducible repeat (first | refine blk_drewN ?_ _ | refine blk_drew ?_ | refine blk_alloc ?_ _)); exact BK759.out) hb); have n9_ := Aside0.mk (below_step (by repeat (first | (with_reducible first | exact HB.out | apply below_alloc | apply pw_below_drewN | apply below_drew1 | refine below_set ?_ GE759.out) | exact HB.out)) hb); clear HO_5; clear HO_7; clear HO_102; clear HO786; clear HO788; clear HO793; clear HO795; clear BK759; clear HB; have HO_5 := n0_; have HO_7 := n1_; have HO_102 := n2_; have HO786 := n3_; have HO788 := n4_; have HO793 := n5_; have HO795 := n6_; have HO800 := n7_; have BK759 := n8_; have HB := n9_; clear n0_ n1_ n2_ n3_ n4_ n5_ n6_ n7_ n8_ n9_; (try clear hb); (try clear hb2); (try clear hk); (try clear hi); (try clear ho0); obtain ⟨Ao88, co88, eo88⟩ := Kd.R_slice HO786.out; subst eo88; obtain ⟨Ao89, co89, eo89⟩ := Kd.R_slice HO793.out; subst eo89) | (go_at_call 59; (with_reducible refine (laws_pSame.calls k3 _ _ t782 _ _ t789 true _ ?side1 ?side2 ?side3 ?side4 A65.out).mono ?_); (case side1 => repeat (first | exact (Kd.R_reads' HO786.out).2.2 | (with_reducible refine Kd.C_alloc ?_ _) | (with_reducible refine Kd.C_drewN ?_ _) | (with_reducible refine Kd.C_drew ?_))); (case side2 => exact (Kd.R_reads' HO786.out).2.1); (case side3 => repeat (first | exact (Kd.R_reads' HO793.out).2.2 | (with_reducible refine Kd.C_alloc ?_ _) | (with_reducible refine Kd.C_drewN ?_ _) | (with_reducible refine Kd.C_drew ?_))); (case side4 => exact (Kd.R_reads' HO793.out).2.1); rintro e w' ⟨rfl, ⟨nd, rfl⟩⟩; obtain ⟨Ao90, co90, eo90⟩ := Kd.R_slice HO788.out; subst eo90; obtain ⟨Ao91, co91, eo91⟩ := Kd.R_slice HO795.out; subst eo91) | (go_at_call 59; (with_reducible refine (laws_pSame.calls k3 _ _ t783 _ _ t790 true _ ?side1 ?side2 ?side3 ?side4 A67.out).mono ?_); (case side1 => repeat (first | exact (Kd.R_reads' HO788.out).2.2 | (with_reducible refine Kd.C_alloc ?_ _) | (with_reducible refine Kd.C_drewN ?_ _) | (with_reducible refine Kd.C_drew ?_))); (case side2 => exact (Kd.R_reads' HO788.out).2.1); (case side3 => repeat (first | exact (Kd.R_reads' HO795.out).2.2 | (with_reducible refine Kd.C_alloc ?_ _) | (with_reducible refine Kd.C_drewN ?_ _) | (with_reducible refine Kd.C_drew ?_))); (case side4 => exact (Kd.R_reads' HO795.out).2.1); rintro e w' ⟨rfl, ⟨nd, rfl⟩⟩))
                     go_ret
                     exact ⟨by first | rfl | (simp [errW_none, errW_some] <;> rfl) | (simp [*, errW_none, errW_some] <;> rfl), by repeat (first | (with_reducible first | exact HB.out | apply below_alloc | apply pw_below_drewN | apply below_drew1 | refine below_set ?_ GE759.out) | exact HB.out)⟩
                   ·
                    replace c68 := Bool.eq_false_iff.mpr c68
                    subst c68
                    have H1 : (some false) = some r := by rw [if_neg (show ¬ (false = true) by decide)] at H; exact H
                    clear H
                    have H := H1
                    clear H1
                    obtain rfl := Option.some.inj H
                    go_wp2_with (first | ((with_reducible refine gate_callee (f := 34) rfl ?_); refine goesL_ (some 122) rfl rfl Try.func34 (by kernel_rfl) rfl #[.slice Ao12 t752.length co12] rfl (by (try simp only [List.map_toArray, List.map_cons, List.map_nil]); first | done | rfl) ?_; (with_reducible refine (impl_SumsOfGrid.calls k3 _ _ t752 t782 t783 true _ ?side1 ?side2 A57.out).mono ?_); (case side1 => repeat (first | exact (Kd.S_reads' HO_5.out).2.2 | (with_reducible refine Kd.C_alloc ?_ _) | (with_reducible refine Kd.C_drewN ?_ _) | (with_reducible refine Kd.C_drew ?_))); (case side2 => exact (Kd.S_reads' HO_5.out).2.1); rintro e w92 ⟨v785, v787, rfl, ho0, ho1, hb⟩; refine ⟨_, rfl, ?_⟩; have n0_ := Aside0.mk (Kd.S_mono (Kd.S_told (Kd.S_told (Kd.S_old (by (with_reducible repeat (first | apply Kd.S_alloc | apply Kd.S_drewN | apply Kd.S_drew)); exact HO_5.out) hb) (Kd.R_base ho0)) (Kd.R_base ho1)) (fun _ h_ => h_.1)); have n1_ := Aside0.mk (Kd.S_mono (Kd.S_told (Kd.S_told (Kd.S_old (by (with_reducible repeat (first | apply Kd.S_alloc | apply Kd.S_drewN | apply Kd.S_drew)); exact HO_7.out) hb) (Kd.R_base ho0)) (Kd.R_base ho1)) (fun _ h_ => h_.1)); have n2_ := Aside0.mk (Kd.R_below (by (with_reducible repeat (first | apply Kd.R_alloc | apply Kd.R_drewN | apply Kd.R_drew)); exact HO_102.out) hb); have n3_ := Aside0.mk (Kd.R_lower ho0 (below_size (by repeat (first | (with_reducible first | exact HB.out | apply below_alloc | apply pw_below_drewN | apply below_drew1 | refine below_set ?_ GE759.out) | exact HB.out)))); have n4_ := Aside0.mk (Kd.R_lower ho1 (below_size (by repeat (first | (with_reducible first | exact HB.out | apply below_alloc | apply pw_below_drewN | apply below_drew1 | refine below_set ?_ GE759.out) | exact HB.out)))); have n5_ := Aside0.mk (blk_below (g := gb759) (o := .cells #[.int .i64 t755, .int .i64 t756, .int .i64 t757, .int .i64 t758] 41 (0, 0)) (by (with_reducible repeat (first | refine blk_drewN ?_ _ | refine blk_drew ?_ | refine blk_alloc ?_ _)); exact BK759.out) hb); have n6_ := Aside0.mk (below_step (by repeat (first | (with_reducible first | exact HB.out | apply below_alloc | apply pw_below_drewN | apply below_drew1 | refine below_set ?_ GE759.out) | exact HB.out)) hb); clear HO_5; clear HO_7; clear HO_102; clear BK759; clear HB; have HO_5 := n0_; have HO_7 := n1_; have HO_102 := n2_; have HO786 := n3_; have HO788 := n4_; have BK759 := n5_; have HB := n6_; clear n0_ n1_ n2_ n3_ n4_ n5_ n6_; (try clear hb); (try clear hb2); (try clear hk); (try clear hi); (try clear ho0); (try clear ho1); obtain ⟨Ao93, co93, eo93⟩ := Kd.S_slice HO_7.out; subst eo93) | ((with_reducible refine gate_callee (f := 34) rfl ?_); refine goesL_ (some 128) rfl rfl Try.func34 (by kernel_rfl) rfl #[.slice Ao93 t760.length co93] rfl (by (try simp only [List.map_toArray, List.map_cons, List.map_nil]); first | done | rfl) ?_; (with_reducible refine (impl_SumsOfGrid.calls k3 _ _ t760 t789 t790 true _ ?side1 ?side2 A58.out).mono ?_); (case side1 => repeat (first | exact (Kd.S_reads' HO_7.out).2.2 | (with_reducible refine Kd.C_alloc ?_ _) | (with_reducible refine Kd.C_drewN ?_ _) | (with_reducible refine Kd.C_drew ?_))); (case side2 => exact (Kd.S_reads' HO_7.out).2.1); rintro e w94 ⟨v792, v794, rfl, ho0, ho1, hb⟩; refine ⟨_, rfl, ?_⟩; have n0_ := Aside0.mk (Kd.S_mono (Kd.S_told (Kd.S_told (Kd.S_old (by (with_reducible repeat (first | apply Kd.S_alloc | apply Kd.S_drewN | apply Kd.S_drew)); exact HO_5.out) hb) (Kd.R_base ho0)) (Kd.R_base ho1)) (fun _ h_ => h_.1)); have n1_ := Aside0.mk (Kd.S_mono (Kd.S_told (Kd.S_told (Kd.S_old (by (with_reducible repeat (first | apply Kd.S_alloc | apply Kd.S_drewN | apply Kd.S_drew)); exact HO_7.out) hb) (Kd.R_base ho0)) (Kd.R_base ho1)) (fun _ h_ => h_.1)); have n2_ := Aside0.mk (Kd.R_below (by (with_reducible repeat (first | apply Kd.R_alloc | apply Kd.R_drewN | apply Kd.R_drew)); exact HO_102.out) hb); have n3_ := Aside0.mk (Kd.R_mono (Kd.R_told (Kd.R_told (Kd.R_old (by (with_reducible repeat (first | apply Kd.R_alloc | apply Kd.R_drewN | apply Kd.R_drew)); exact HO786.out) hb) (Kd.R_base ho0)) (Kd.R_base ho1)) (fun _ h_ => h_.1)); have n4_ := Aside0.mk (Kd.R_mono (Kd.R_told (Kd.R_told (Kd.R_old (by (with_reducible repeat (first | apply Kd.R_alloc | apply Kd.R_drewN | apply Kd.R_drew)); exact HO788.out) hb) (Kd.R_base ho0)) (Kd.R_base ho1)) (fun _ h_ => h_.1)); have n5_ := Aside0.mk (Kd.R_lower (Kd.R_new' (Kd.R_new' ho0 (Kd.R_lt (by (with_reducible repeat (first | apply Kd.R_alloc | apply Kd.R_drewN | apply Kd.R_drew)); exact HO786.out))) (Kd.R_lt (by (with_reducible repeat (first | apply Kd.R_alloc | apply Kd.R_drewN | apply Kd.R_drew)); exact HO788.out))) (below_size (by repeat (first | (with_reducible first | exact HB.out | apply below_alloc | apply pw_below_drewN | apply below_drew1 | refine below_set ?_ GE759.out) | exact HB.out)))); have n6_ := Aside0.mk (Kd.R_lower (Kd.R_new' (Kd.R_new' ho1 (Kd.R_lt (by (with_reducible repeat (first | apply Kd.R_alloc | apply Kd.R_drewN | apply Kd.R_drew)); exact HO786.out))) (Kd.R_lt (by (with_reducible repeat (first | apply Kd.R_alloc | apply Kd.R_drewN | apply Kd.R_drew)); exact HO788.out))) (below_size (by repeat (first | (with_reducible first | exact HB.out | apply below_alloc | apply pw_below_drewN | apply below_drew1 | refine below_set ?_ GE759.out) | exact HB.out)))); have n7_ := Aside0.mk (blk_below (g := gb759) (o := .cells #[.int .i64 t755, .int .i64 t756, .int .i64 t757, .int .i64 t758] 41 (0, 0)) (by (with_reducible repeat (first | refine blk_drewN ?_ _ | refine blk_drew ?_ | refine blk_alloc ?_ _)); exact BK759.out) hb); have n8_ := Aside0.mk (below_step (by repeat (first | (with_reducible first | exact HB.out | apply below_alloc | apply pw_below_drewN | apply below_drew1 | refine below_set ?_ GE759.out) | exact HB.out)) hb); clear HO_5; clear HO_7; clear HO_102; clear HO786; clear HO788; clear BK759; clear HB; have HO_5 := n0_; have HO_7 := n1_; have HO_102 := n2_; have HO786 := n3_; have HO788 := n4_; have HO793 := n5_; have HO795 := n6_; have BK759 := n7_; have HB := n8_; clear n0_ n1_ n2_ n3_ n4_ n5_ n6_ n7_ n8_; (try clear hb); (try clear hb2); (try clear hk); (try clear hi); (try clear ho0); (try clear ho1)) | ((with_reducible refine gate_callee (f := 24) rfl ?_); refine goesL_ (some 135) rfl rfl Try.func24 (by kernel_rfl) rfl #[.slice Ao12 t752.length co12, .slice Ao93 t760.length co93] rfl (by (try simp only [List.map_toArray, List.map_cons, List.map_nil]); first | done | rfl) ?_; (with_reducible refine (impl_GridsApart.calls k3 _ _ t752 _ _ t760 t796 true _ ?side1 ?side2 ?side3 ?side4 A59.out).mono ?_); (case side1 => repeat (first | exact (Kd.S_reads' HO_5.out).2.2 | (with_reducible refine Kd.C_alloc ?_ _) | (with_reducible refine Kd.C_drewN ?_ _) | (with_reducible refine Kd.C_drew ?_))); (case side2 => exact (Kd.S_reads' HO_5.out).2.1); (case side3 => repeat (first | exact (Kd.S_reads' HO_7.out).2.2 | (with_reducible refine Kd.C_alloc ?_ _) | (with_reducible refine Kd.C_drewN ?_ _) | (with_reducible refine Kd.C_drew ?_))); (case side4 => exact (Kd.S_reads' HO_7.out).2.1); rintro e w95 ⟨rfl, hb⟩; refine ⟨_, rfl, ?_⟩; have n0_ := Aside0.mk (Kd.S_below (by (with_reducible repeat (first | apply Kd.S_alloc | apply Kd.S_drewN | apply Kd.S_drew)); exact HO_5.out) hb); have n1_ := Aside0.mk (Kd.S_below (by (with_reducible repeat (first | apply Kd.S_alloc | apply Kd.S_drewN | apply Kd.S_drew)); exact HO_7.out) hb); have n2_ := Aside0.mk (Kd.R_below (by (with_reducible repeat (first | apply Kd.R_alloc | apply Kd.R_drewN | apply Kd.R_drew)); exact HO_102.out) hb); have n3_ := Aside0.mk (Kd.R_below (by (with_reducible repeat (first | apply Kd.R_alloc | apply Kd.R_drewN | apply Kd.R_drew)); exact HO786.out) hb); have n4_ := Aside0.mk (Kd.R_below (by (with_reducible repeat (first | apply Kd.R_alloc | apply Kd.R_drewN | apply Kd.R_drew)); exact HO788.out) hb); have n5_ := Aside0.mk (Kd.R_below (by (with_reducible repeat (first | apply Kd.R_alloc | apply Kd.R_drewN | apply Kd.R_drew)); exact HO793.out) hb); have n6_ := Aside0.mk (Kd.R_below (by (with_reducible repeat (first | apply Kd.R_alloc | apply Kd.R_drewN | apply Kd.R_drew)); exact HO795.out) hb); have n7_ := Aside0.mk (blk_below (g := gb759) (o := .cells #[.int .i64 t755, .int .i64 t756, .int .i64 t757, .int .i64 t758] 41 (0, 0)) (by (with_reducible repeat (first | refine blk_drewN ?_ _ | refine blk_drew ?_ | refine blk_alloc ?_ _)); exact BK759.out) hb); have n8_ := Aside0.mk (below_step (by repeat (first | (with_reducible first | exact HB.out | apply below_alloc | apply pw_below_drewN | apply below_drew1 | refine below_set ?_ GE759.out) | exact HB.out)) hb); clear HO_5; clear HO_7; clear HO_102; clear HO786; clear HO788; clear HO793; clear HO795; clear BK759; clear HB; have HO_5 := n0_; have HO_7 := n1_; have HO_102 := n2_; have HO786 := n3_; have HO788 := n4_; have HO793 := n5_; have HO795 := n6_; have BK759 := n7_; have HB := n8_; clear n0_ n1_ n2_ n3_ n4_ n5_ n6_ n7_ n8_; (try clear hb); (try clear hb2); (try clear hk); (try clear hi); have hcz96_0 : w95.cell? ⟨gb759, 0, none⟩ = some (.int .i64 t755) := (blk_cell BK759.out 0).trans rfl; have hcz96_1 : w95.cell? ⟨gb759, 1, none⟩ = some (.int .i64 t756) := (blk_cell BK759.out 1).trans rfl; have hcz96_2 : w95.cell? ⟨gb759, 2, none⟩ = some (.int .i64 t757) := (blk_cell BK759.out 2).trans rfl; have hcz96_3 : w95.cell? ⟨gb759, 3, none⟩ = some (.int .i64 t758) := (blk_cell BK759.out 3).trans rfl; have hfz96_0 := blk_frozen BK759.out 0; have hfz96_1 := blk_frozen BK759.out 1; have hfz96_2 := blk_frozen BK759.out 2; have hfz96_3 := blk_frozen BK759.out 3) | ((with_reducible refine gate_callee (f := 40) rfl ?_); refine goesL_ (some 141) rfl rfl Try.func40 (by kernel_rfl) rfl #[.slice Ao93 t760.length co93, .agg #[.int .i64 t755, .int .i64 t756, .int .i64 t757, .int .i64 t758]] rfl (by (try simp only [List.map_toArray, List.map_cons, List.map_nil]); first | done | rfl) ?_; (with_reducible refine (impl_DoSwitch.calls _ _ t760 t755 t756 t757 t758 t798 true _ ?side1 ?side2 A60.out).mono ?_); (case side1 => repeat (first | exact (Kd.S_reads' HO_7.out).2.2 | (with_reducible refine Kd.C_alloc ?_ _) | (with_reducible refine Kd.C_drewN ?_ _) | (with_reducible refine Kd.C_drew ?_))); (case side2 => exact (Kd.S_reads' HO_7.out).2.1); rintro e w97 ⟨v799, rfl, ho0, hb⟩; refine ⟨_, rfl, ?_⟩; have n0_ := Aside0.mk (Kd.S_elder' (by (with_reducible repeat (first | apply Kd.S_alloc | apply Kd.S_drewN | apply Kd.S_drew)); exact HO_5.out) (Kd.S_base ho0) hb); have n1_ := Aside0.mk (Kd.S_elder' (by (with_reducible repeat (first | apply Kd.S_alloc | apply Kd.S_drewN | apply Kd.S_drew)); exact HO_7.out) (Kd.S_base ho0) hb); have n2_ := Aside0.mk (Kd.R_below (by (with_reducible repeat (first | apply Kd.R_alloc | apply Kd.R_drewN | apply Kd.R_drew)); exact HO_102.out) hb); have n3_ := Aside0.mk (Kd.R_below (by (with_reducible repeat (first | apply Kd.R_alloc | apply Kd.R_drewN | apply Kd.R_drew)); exact HO786.out) hb); have n4_ := Aside0.mk (Kd.R_below (by (with_reducible repeat (first | apply Kd.R_alloc | apply Kd.R_drewN | apply Kd.R_drew)); exact HO788.out) hb); have n5_ := Aside0.mk (Kd.R_below (by (with_reducible repeat (first | apply Kd.R_alloc | apply Kd.R_drewN | apply Kd.R_drew)); exact HO793.out) hb); have n6_ := Aside0.mk (Kd.R_below (by (with_reducible repeat (first | apply Kd.R_alloc | apply Kd.R_drewN | apply Kd.R_drew)); exact HO795.out) hb); have n7_ := Aside0.mk (Kd.S_lower (Kd.S_new' (Kd.S_new' (Kd.S_new' (Kd.S_new' (Kd.S_new' (Kd.S_new' ho0 (Kd.S_lt (by (with_reducible repeat (first | apply Kd.S_alloc | apply Kd.S_drewN | apply Kd.S_drew)); exact HO_5.out))) (Kd.S_lt (by (with_reducible repeat (first | apply Kd.S_alloc | apply Kd.S_drewN | apply Kd.S_drew)); exact HO_7.out))) (Kd.R_lt (by (with_reducible repeat (first | apply Kd.R_alloc | apply Kd.R_drewN | apply Kd.R_drew)); exact HO786.out))) (Kd.R_lt (by (with_reducible repeat (first | apply Kd.R_alloc | apply Kd.R_drewN | apply Kd.R_drew)); exact HO788.out))) (Kd.R_lt (by (with_reducible repeat (first | apply Kd.R_alloc | apply Kd.R_drewN | apply Kd.R_drew)); exact HO793.out))) (Kd.R_lt (by (with_reducible repeat (first | apply Kd.R_alloc | apply Kd.R_drewN | apply Kd.R_drew)); exact HO795.out))) (below_size (by repeat (first | (with_reducible first | exact HB.out | apply below_alloc | apply pw_below_drewN | apply below_drew1 | refine below_set ?_ GE759.out) | exact HB.out)))); have n8_ := Aside0.mk (blk_below (g := gb759) (o := .cells #[.int .i64 t755, .int .i64 t756, .int .i64 t757, .int .i64 t758] 41 (0, 0)) (by (with_reducible repeat (first | refine blk_drewN ?_ _ | refine blk_drew ?_ | refine blk_alloc ?_ _)); exact BK759.out) hb); have n9_ := Aside0.mk (below_step (by repeat (first | (with_reducible first | exact HB.out | apply below_alloc | apply pw_below_drewN | apply below_drew1 | refine below_set ?_ GE759.out) | exact HB.out)) hb); clear HO_5; clear HO_7; clear HO_102; clear HO786; clear HO788; clear HO793; clear HO795; clear BK759; clear HB; have HO_5 := n0_; have HO_7 := n1_; have HO_102 := n2_; have HO786 := n3_; have HO788 := n4_; have HO793 := n5_; have HO795 := n6_; have HO800 := n7_; have BK759 := n8_; have HB := n9_; clear n0_ n1_ n2_ n3_ n4_ n5_ n6_ n7_ n8_ n9_; (try clear hb); (try clear hb2); (try clear hk); (try clear hi); (try clear ho0); obtain ⟨Ao98, co98, eo98⟩ := Kd.R_slice HO786.out; subst eo98; obtain ⟨Ao99, co99, eo99⟩ := Kd.R_slice HO793.out; subst eo99) | (go_at_call 59; (with_reducible refine (laws_pSame.calls k3 _ _ t782 _ _ t789 true _ ?side1 ?side2 ?side3 ?side4 A65.out).mono ?_); (case side1 => repeat (first | exact (Kd.R_reads' HO786.out).2.2 | (with_reducible refine Kd.C_alloc ?_ _) | (with_reducible refine Kd.C_drewN ?_ _) | (with_reducible refine Kd.C_drew ?_))); (case side2 => exact (Kd.R_reads' HO786.out).2.1); (case side3 => repeat (first | exact (Kd.R_reads' HO793.out).2.2 | (with_reducible refine Kd.C_alloc ?_ _) | (with_reducible refine Kd.C_drewN ?_ _) | (with_reducible refine Kd.C_drew ?_))); (case side4 => exact (Kd.R_reads' HO793.out).2.1); rintro e w' ⟨rfl, ⟨nd, rfl⟩⟩; obtain ⟨Ao100, co100, eo100⟩ := Kd.R_slice HO788.out; subst eo100; obtain ⟨Ao101, co101, eo101⟩ := Kd.R_slice HO795.out; subst eo101) | (go_at_call 59; (with_reducible refine (laws_pSame.calls k3 _ _ t783 _ _ t790 false _ ?side1 ?side2 ?side3 ?side4 A67.out).mono ?_); (case side1 => repeat (first | exact (Kd.R_reads' HO788.out).2.2 | (with_reducible refine Kd.C_alloc ?_ _) | (with_reducible refine Kd.C_drewN ?_ _) | (with_reducible refine Kd.C_drew ?_))); (case side2 => exact (Kd.R_reads' HO788.out).2.1); (case side3 => repeat (first | exact (Kd.R_reads' HO795.out).2.2 | (with_reducible refine Kd.C_alloc ?_ _) | (with_reducible refine Kd.C_drewN ?_ _) | (with_reducible refine Kd.C_drew ?_))); (case side4 => exact (Kd.R_reads' HO795.out).2.1); rintro e w' ⟨rfl, ⟨nd, rfl⟩⟩))
                    go_ret
                    exact ⟨by first | rfl | (simp [errW_none, errW_some] <;> rfl) | (simp [*, errW_none, errW_some] <;> rfl), by repeat (first | (with_reducible first | exact HB.out | apply below_alloc | apply pw_below_drewN | apply below_drew1 | refine below_set ?_ GE759.out) | exact HB.out)⟩
                  ·
                   replace c66 := Bool.eq_false_iff.mpr c66
                   subst c66
                   have H1 : (some false) = some r := by rw [if_neg (show ¬ (false = true) by decide)] at H; exact H
                   clear H
                   have H := H1
                   clear H1
                   obtain rfl := Option.some.inj H
                   go_wp2_with (first | ((with_reducible refine gate_callee (f := 34) rfl ?_); refine goesL_ (some 122) rfl rfl Try.func34 (by kernel_rfl) rfl #[.slice Ao12 t752.length co12] rfl (by (try simp only [List.map_toArray, List.map_cons, List.map_nil]); first | done | rfl) ?_; (with_reducible refine (impl_SumsOfGrid.calls k3 _ _ t752 t782 t783 true _ ?side1 ?side2 A57.out).mono ?_); (case side1 => repeat (first | exact (Kd.S_reads' HO_5.out).2.2 | (with_reducible refine Kd.C_alloc ?_ _) | (with_reducible refine Kd.C_drewN ?_ _) | (with_reducible refine Kd.C_drew ?_))); (case side2 => exact (Kd.S_reads' HO_5.out).2.1); rintro e w102 ⟨v785, v787, rfl, ho0, ho1, hb⟩; refine ⟨_, rfl, ?_⟩; have n0_ := Aside0.mk (Kd.S_mono (Kd.S_told (Kd.S_told (Kd.S_old (by (with_reducible repeat (first | apply Kd.S_alloc | apply Kd.S_drewN | apply Kd.S_drew)); exact HO_5.out) hb) (Kd.R_base ho0)) (Kd.R_base ho1)) (fun _ h_ => h_.1)); have n1_ := Aside0.mk (Kd.S_mono (Kd.S_told (Kd.S_told (Kd.S_old (by (with_reducible repeat (first | apply Kd.S_alloc | apply Kd.S_drewN | apply Kd.S_drew)); exact HO_7.out) hb) (Kd.R_base ho0)) (Kd.R_base ho1)) (fun _ h_ => h_.1)); have n2_ := Aside0.mk (Kd.R_below (by (with_reducible repeat (first | apply Kd.R_alloc | apply Kd.R_drewN | apply Kd.R_drew)); exact HO_102.out) hb); have n3_ := Aside0.mk (Kd.R_lower ho0 (below_size (by repeat (first | (with_reducible first | exact HB.out | apply below_alloc | apply pw_below_drewN | apply below_drew1 | refine below_set ?_ GE759.out) | exact HB.out)))); have n4_ := Aside0.mk (Kd.R_lower ho1 (below_size (by repeat (first | (with_reducible first | exact HB.out | apply below_alloc | apply pw_below_drewN | apply below_drew1 | refine below_set ?_ GE759.out) | exact HB.out)))); have n5_ := Aside0.mk (blk_below (g := gb759) (o := .cells #[.int .i64 t755, .int .i64 t756, .int .i64 t757, .int .i64 t758] 41 (0, 0)) (by (with_reducible repeat (first | refine blk_drewN ?_ _ | refine blk_drew ?_ | refine blk_alloc ?_ _)); exact BK759.out) hb); have n6_ := Aside0.mk (below_step (by repeat (first | (with_reducible first | exact HB.out | apply below_alloc | apply pw_below_drewN | apply below_drew1 | refine below_set ?_ GE759.out) | exact HB.out)) hb); clear HO_5; clear HO_7; clear HO_102; clear BK759; clear HB; have HO_5 := n0_; have HO_7 := n1_; have HO_102 := n2_; have HO786 := n3_; have HO788 := n4_; have BK759 := n5_; have HB := n6_; clear n0_ n1_ n2_ n3_ n4_ n5_ n6_; (try clear hb); (try clear hb2); (try clear hk); (try clear hi); (try clear ho0); (try clear ho1); obtain ⟨Ao103, co103, eo103⟩ := Kd.S_slice HO_7.out; subst eo103) | ((with_reducible refine gate_callee (f := 34) rfl ?_); refine goesL_ (some 128) rfl rfl Try.func34 (by kernel_rfl) rfl #[.slice Ao103 t760.length co103] rfl (by (try simp only [List.map_toArray, List.map_cons, List.map_nil]); first | done | rfl) ?_; (with_reducible refine (impl_SumsOfGrid.calls k3 _ _ t760 t789 t790 true _ ?side1 ?side2 A58.out).mono ?_); (case side1 => repeat (first | exact (Kd.S_reads' HO_7.out).2.2 | (with_reducible refine Kd.C_alloc ?_ _) | (with_reducible refine Kd.C_drewN ?_ _) | (with_reducible refine Kd.C_drew ?_))); (case side2 => exact (Kd.S_reads' HO_7.out).2.1); rintro e w104 ⟨v792, v794, rfl, ho0, ho1, hb⟩; refine ⟨_, rfl, ?_⟩; have n0_ := Aside0.mk (Kd.S_mono (Kd.S_told (Kd.S_told (Kd.S_old (by (with_reducible repeat (first | apply Kd.S_alloc | apply Kd.S_drewN | apply Kd.S_drew)); exact HO_5.out) hb) (Kd.R_base ho0)) (Kd.R_base ho1)) (fun _ h_ => h_.1)); have n1_ := Aside0.mk (Kd.S_mono (Kd.S_told (Kd.S_told (Kd.S_old (by (with_reducible repeat (first | apply Kd.S_alloc | apply Kd.S_drewN | apply Kd.S_drew)); exact HO_7.out) hb) (Kd.R_base ho0)) (Kd.R_base ho1)) (fun _ h_ => h_.1)); have n2_ := Aside0.mk (Kd.R_below (by (with_reducible repeat (first | apply Kd.R_alloc | apply Kd.R_drewN | apply Kd.R_drew)); exact HO_102.out) hb); have n3_ := Aside0.mk (Kd.R_mono (Kd.R_told (Kd.R_told (Kd.R_old (by (with_reducible repeat (first | apply Kd.R_alloc | apply Kd.R_drewN | apply Kd.R_drew)); exact HO786.out) hb) (Kd.R_base ho0)) (Kd.R_base ho1)) (fun _ h_ => h_.1)); have n4_ := Aside0.mk (Kd.R_mono (Kd.R_told (Kd.R_told (Kd.R_old (by (with_reducible repeat (first | apply Kd.R_alloc | apply Kd.R_drewN | apply Kd.R_drew)); exact HO788.out) hb) (Kd.R_base ho0)) (Kd.R_base ho1)) (fun _ h_ => h_.1)); have n5_ := Aside0.mk (Kd.R_lower (Kd.R_new' (Kd.R_new' ho0 (Kd.R_lt (by (with_reducible repeat (first | apply Kd.R_alloc | apply Kd.R_drewN | apply Kd.R_drew)); exact HO786.out))) (Kd.R_lt (by (with_reducible repeat (first | apply Kd.R_alloc | apply Kd.R_drewN | apply Kd.R_drew)); exact HO788.out))) (below_size (by repeat (first | (with_reducible first | exact HB.out | apply below_alloc | apply pw_below_drewN | apply below_drew1 | refine below_set ?_ GE759.out) | exact HB.out)))); have n6_ := Aside0.mk (Kd.R_lower (Kd.R_new' (Kd.R_new' ho1 (Kd.R_lt (by (with_reducible repeat (first | apply Kd.R_alloc | apply Kd.R_drewN | apply Kd.R_drew)); exact HO786.out))) (Kd.R_lt (by (with_reducible repeat (first | apply Kd.R_alloc | apply Kd.R_drewN | apply Kd.R_drew)); exact HO788.out))) (below_size (by repeat (first | (with_reducible first | exact HB.out | apply below_alloc | apply pw_below_drewN | apply below_drew1 | refine below_set ?_ GE759.out) | exact HB.out)))); have n7_ := Aside0.mk (blk_below (g := gb759) (o := .cells #[.int .i64 t755, .int .i64 t756, .int .i64 t757, .int .i64 t758] 41 (0, 0)) (by (with_reducible repeat (first | refine blk_drewN ?_ _ | refine blk_drew ?_ | refine blk_alloc ?_ _)); exact BK759.out) hb); have n8_ := Aside0.mk (below_step (by repeat (first | (with_reducible first | exact HB.out | apply below_alloc | apply pw_below_drewN | apply below_drew1 | refine below_set ?_ GE759.out) | exact HB.out)) hb); clear HO_5; clear HO_7; clear HO_102; clear HO786; clear HO788; clear BK759; clear HB; have HO_5 := n0_; have HO_7 := n1_; have HO_102 := n2_; have HO786 := n3_; have HO788 := n4_; have HO793 := n5_; have HO795 := n6_; have BK759 := n7_; have HB := n8_; clear n0_ n1_ n2_ n3_ n4_ n5_ n6_ n7_ n8_; (try clear hb); (try clear hb2); (try clear hk); (try clear hi); (try clear ho0); (try clear ho1)) | ((with_reducible refine gate_callee (f := 24) rfl ?_); refine goesL_ (some 135) rfl rfl Try.func24 (by kernel_rfl) rfl #[.slice Ao12 t752.length co12, .slice Ao103 t760.length co103] rfl (by (try simp only [List.map_toArray, List.map_cons, List.map_nil]); first | done | rfl) ?_; (with_reducible refine (impl_GridsApart.calls k3 _ _ t752 _ _ t760 t796 true _ ?side1 ?side2 ?side3 ?side4 A59.out).mono ?_); (case side1 => repeat (first | exact (Kd.S_reads' HO_5.out).2.2 | (with_reducible refine Kd.C_alloc ?_ _) | (with_reducible refine Kd.C_drewN ?_ _) | (with_reducible refine Kd.C_drew ?_))); (case side2 => exact (Kd.S_reads' HO_5.out).2.1); (case side3 => repeat (first | exact (Kd.S_reads' HO_7.out).2.2 | (with_reducible refine Kd.C_alloc ?_ _) | (with_reducible refine Kd.C_drewN ?_ _) | (with_reducible refine Kd.C_drew ?_))); (case side4 => exact (Kd.S_reads' HO_7.out).2.1); rintro e w105 ⟨rfl, hb⟩; refine ⟨_, rfl, ?_⟩; have n0_ := Aside0.mk (Kd.S_below (by (with_reducible repeat (first | apply Kd.S_alloc | apply Kd.S_drewN | apply Kd.S_drew)); exact HO_5.out) hb); have n1_ := Aside0.mk (Kd.S_below (by (with_reducible repeat (first | apply Kd.S_alloc | apply Kd.S_drewN | apply Kd.S_drew)); exact HO_7.out) hb); have n2_ := Aside0.mk (Kd.R_below (by (with_reducible repeat (first | apply Kd.R_alloc | apply Kd.R_drewN | apply Kd.R_drew)); exact HO_102.out) hb); have n3_ := Aside0.mk (Kd.R_below (by (with_reducible repeat (first | apply Kd.R_alloc | apply Kd.R_drewN | apply Kd.R_drew)); exact HO786.out) hb); have n4_ := Aside0.mk (Kd.R_below (by (with_reducible repeat (first | apply Kd.R_alloc | apply Kd.R_drewN | apply Kd.R_drew)); exact HO788.out) hb); have n5_ := Aside0.mk (Kd.R_below (by (with_reducible repeat (first | apply Kd.R_alloc | apply Kd.R_drewN | apply Kd.R_drew)); exact HO793.out) hb); have n6_ := Aside0.mk (Kd.R_below (by (with_reducible repeat (first | apply Kd.R_alloc | apply Kd.R_drewN | apply Kd.R_drew)); exact HO795.out) hb); have n7_ := Aside0.mk (blk_below (g := gb759) (o := .cells #[.int .i64 t755, .int .i64 t756, .int .i64 t757, .int .i64 t758] 41 (0, 0)) (by (with_reducible repeat (first | refine blk_drewN ?_ _ | refine blk_drew ?_ | refine blk_alloc ?_ _)); exact BK759.out) hb); have n8_ := Aside0.mk (below_step (by repeat (first | (with_reducible first | exact HB.out | apply below_alloc | apply pw_below_drewN | apply below_drew1 | refine below_set ?_ GE759.out) | exact HB.out)) hb); clear HO_5; clear HO_7; clear HO_102; clear HO786; clear HO788; clear HO793; clear HO795; clear BK759; clear HB; have HO_5 := n0_; have HO_7 := n1_; have HO_102 := n2_; have HO786 := n3_; have HO788 := n4_; have HO793 := n5_; have HO795 := n6_; have BK759 := n7_; have HB := n8_; clear n0_ n1_ n2_ n3_ n4_ n5_ n6_ n7_ n8_; (try clear hb); (try clear hb2); (try clear hk); (try clear hi); have hcz106_0 : w105.cell? ⟨gb759, 0, none⟩ = some (.int .i64 t755) := (blk_cell BK759.out 0).trans rfl; have hcz106_1 : w105.cell? ⟨gb759, 1, none⟩ = some (.int .i64 t756) := (blk_cell BK759.out 1).trans rfl; have hcz106_2 : w105.cell? ⟨gb759, 2, none⟩ = some (.int .i64 t757) := (blk_cell BK759.out 2).trans rfl; have hcz106_3 : w105.cell? ⟨gb759, 3, none⟩ = some (.int .i64 t758) := (blk_cell BK759.out 3).trans rfl; have hfz106_0 := blk_frozen BK759.out 0; have hfz106_1 := blk_frozen BK759.out 1; have hfz106_2 := blk_frozen BK759.out 2; have hfz106_3 := blk_frozen BK759.out 3) | ((with_reducible refine gate_callee (f := 40) rfl ?_); refine goesL_ (some 141) rfl rfl Try.func40 (by kernel_rfl) rfl #[.slice Ao103 t760.length co103, .agg #[.int .i64 t755, .int .i64 t756, .int .i64 t757, .int .i64 t758]] rfl (by (try simp only [List.map_toArray, List.map_cons, List.map_nil]); first | done | rfl) ?_; (with_reducible refine (impl_DoSwitch.calls _ _ t760 t755 t756 t757 t758 t798 true _ ?side1 ?side2 A60.out).mono ?_); (case side1 => repeat (first | exact (Kd.S_reads' HO_7.out).2.2 | (with_reducible refine Kd.C_alloc ?_ _) | (with_reducible refine Kd.C_drewN ?_ _) | (with_reducible refine Kd.C_drew ?_))); (case side2 => exact (Kd.S_reads' HO_7.out).2.1); rintro e w107 ⟨v799, rfl, ho0, hb⟩; refine ⟨_, rfl, ?_⟩; have n0_ := Aside0.mk (Kd.S_elder' (by (with_reducible repeat (first | apply Kd.S_alloc | apply Kd.S_drewN | apply Kd.S_drew)); exact HO_5.out) (Kd.S_base ho0) hb); have n1_ := Aside0.mk (Kd.S_elder' (by (with_reducible repeat (first | apply Kd.S_alloc | apply Kd.S_drewN | apply Kd.S_drew)); exact HO_7.out) (Kd.S_base ho0) hb); have n2_ := Aside0.mk (Kd.R_below (by (with_reducible repeat (first | apply Kd.R_alloc | apply Kd.R_drewN | apply Kd.R_drew)); exact HO_102.out) hb); have n3_ := Aside0.mk (Kd.R_below (by (with_reducible repeat (first | apply Kd.R_alloc | apply Kd.R_drewN | apply Kd.R_drew)); exact HO786.out) hb); have n4_ := Aside0.mk (Kd.R_below (by (with_reducible repeat (first | apply Kd.R_alloc | apply Kd.R_drewN | apply Kd.R_drew)); exact HO788.out) hb); have n5_ := Aside0.mk (Kd.R_below (by (with_reducible repeat (first | apply Kd.R_alloc | apply Kd.R_drewN | apply Kd.R_drew)); exact HO793.out) hb); have n6_ := Aside0.mk (Kd.R_below (by (with_reducible repeat (first | apply Kd.R_alloc | apply Kd.R_drewN | apply Kd.R_drew)); exact HO795.out) hb); have n7_ := Aside0.mk (Kd.S_lower (Kd.S_new' (Kd.S_new' (Kd.S_new' (Kd.S_new' (Kd.S_new' (Kd.S_new' ho0 (Kd.S_lt (by (with_reducible repeat (first | apply Kd.S_alloc | apply Kd.S_drewN | apply Kd.S_drew)); exact HO_5.out))) (Kd.S_lt (by (with_reducible repeat (first | apply Kd.S_alloc | apply Kd.S_drewN | apply Kd.S_drew)); exact HO_7.out))) (Kd.R_lt (by (with_reducible repeat (first | apply Kd.R_alloc | apply Kd.R_drewN | apply Kd.R_drew)); exact HO786.out))) (Kd.R_lt (by (with_reducible repeat (first | apply Kd.R_alloc | apply Kd.R_drewN | apply Kd.R_drew)); exact HO788.out))) (Kd.R_lt (by (with_reducible repeat (first | apply Kd.R_alloc | apply Kd.R_drewN | apply Kd.R_drew)); exact HO793.out))) (Kd.R_lt (by (with_reducible repeat (first | apply Kd.R_alloc | apply Kd.R_drewN | apply Kd.R_drew)); exact HO795.out))) (below_size (by repeat (first | (with_reducible first | exact HB.out | apply below_alloc | apply pw_below_drewN | apply below_drew1 | refine below_set ?_ GE759.out) | exact HB.out)))); have n8_ := Aside0.mk (blk_below (g := gb759) (o := .cells #[.int .i64 t755, .int .i64 t756, .int .i64 t757, .int .i64 t758] 41 (0, 0)) (by (with_reducible repeat (first | refine blk_drewN ?_ _ | refine blk_drew ?_ | refine blk_alloc ?_ _)); exact BK759.out) hb); have n9_ := Aside0.mk (below_step (by repeat (first | (with_reducible first | exact HB.out | apply below_alloc | apply pw_below_drewN | apply below_drew1 | refine below_set ?_ GE759.out) | exact HB.out)) hb); clear HO_5; clear HO_7; clear HO_102; clear HO786; clear HO788; clear HO793; clear HO795; clear BK759; clear HB; have HO_5 := n0_; have HO_7 := n1_; have HO_102 := n2_; have HO786 := n3_; have HO788 := n4_; have HO793 := n5_; have HO795 := n6_; have HO800 := n7_; have BK759 := n8_; have HB := n9_; clear n0_ n1_ n2_ n3_ n4_ n5_ n6_ n7_ n8_ n9_; (try clear hb); (try clear hb2); (try clear hk); (try clear hi); (try clear ho0); obtain ⟨Ao108, co108, eo108⟩ := Kd.R_slice HO786.out; subst eo108; obtain ⟨Ao109, co109, eo109⟩ := Kd.R_slice HO793.out; subst eo109) | (go_at_call 59; (with_reducible refine (laws_pSame.calls k3 _ _ t782 _ _ t789 false _ ?side1 ?side2 ?side3 ?side4 A65.out).mono ?_); (case side1 => repeat (first | exact (Kd.R_reads' HO786.out).2.2 | (with_reducible refine Kd.C_alloc ?_ _) | (with_reducible refine Kd.C_drewN ?_ _) | (with_reducible refine Kd.C_drew ?_))); (case side2 => exact (Kd.R_reads' HO786.out).2.1); (case side3 => repeat (first | exact (Kd.R_reads' HO793.out).2.2 | (with_reducible refine Kd.C_alloc ?_ _) | (with_reducible refine Kd.C_drewN ?_ _) | (with_reducible refine Kd.C_drew ?_))); (case side4 => exact (Kd.R_reads' HO793.out).2.1); rintro e w' ⟨rfl, ⟨nd, rfl⟩⟩))
                   go_ret
                   exact ⟨by first | rfl | (simp [errW_none, errW_some] <;> rfl) | (simp [*, errW_none, errW_some] <;> rfl), by repeat (first | (with_reducible first | exact HB.out | apply below_alloc | apply pw_below_drewN | apply below_drew1 | refine below_set ?_ GE759.out) | exact HB.out)⟩
                 ·
                  replace c64 := Bool.eq_false_iff.mpr c64
                  subst c64
                  have H1 : (some false) = some r := by rw [if_neg (show ¬ (false = true) by decide)] at H; exact H
                  clear H
                  have H := H1
                  clear H1
                  obtain rfl := Option.some.inj H
                  go_wp2_with (first | ((with_reducible refine gate_callee (f := 34) rfl ?_); refine goesL_ (some 122) rfl rfl Try.func34 (by kernel_rfl) rfl #[.slice Ao12 t752.length co12] rfl (by (try simp only [List.map_toArray, List.map_cons, List.map_nil]); first | done | rfl) ?_; (with_reducible refine (impl_SumsOfGrid.calls k3 _ _ t752 t782 t783 true _ ?side1 ?side2 A57.out).mono ?_); (case side1 => repeat (first | exact (Kd.S_reads' HO_5.out).2.2 | (with_reducible refine Kd.C_alloc ?_ _) | (with_reducible refine Kd.C_drewN ?_ _) | (with_reducible refine Kd.C_drew ?_))); (case side2 => exact (Kd.S_reads' HO_5.out).2.1); rintro e w110 ⟨v785, v787, rfl, ho0, ho1, hb⟩; refine ⟨_, rfl, ?_⟩; have n0_ := Aside0.mk (Kd.S_mono (Kd.S_told (Kd.S_told (Kd.S_old (by (with_reducible repeat (first | apply Kd.S_alloc | apply Kd.S_drewN | apply Kd.S_drew)); exact HO_5.out) hb) (Kd.R_base ho0)) (Kd.R_base ho1)) (fun _ h_ => h_.1)); have n1_ := Aside0.mk (Kd.S_mono (Kd.S_told (Kd.S_told (Kd.S_old (by (with_reducible repeat (first | apply Kd.S_alloc | apply Kd.S_drewN | apply Kd.S_drew)); exact HO_7.out) hb) (Kd.R_base ho0)) (Kd.R_base ho1)) (fun _ h_ => h_.1)); have n2_ := Aside0.mk (Kd.R_below (by (with_reducible repeat (first | apply Kd.R_alloc | apply Kd.R_drewN | apply Kd.R_drew)); exact HO_102.out) hb); have n3_ := Aside0.mk (Kd.R_lower ho0 (below_size (by repeat (first | (with_reducible first | exact HB.out | apply below_alloc | apply pw_below_drewN | apply below_drew1 | refine below_set ?_ GE759.out) | exact HB.out)))); have n4_ := Aside0.mk (Kd.R_lower ho1 (below_size (by repeat (first | (with_reducible first | exact HB.out | apply below_alloc | apply pw_below_drewN | apply below_drew1 | refine below_set ?_ GE759.out) | exact HB.out)))); have n5_ := Aside0.mk (blk_below (g := gb759) (o := .cells #[.int .i64 t755, .int .i64 t756, .int .i64 t757, .int .i64 t758] 41 (0, 0)) (by (with_reducible repeat (first | refine blk_drewN ?_ _ | refine blk_drew ?_ | refine blk_alloc ?_ _)); exact BK759.out) hb); have n6_ := Aside0.mk (below_step (by repeat (first | (with_reducible first | exact HB.out | apply below_alloc | apply pw_below_drewN | apply below_drew1 | refine below_set ?_ GE759.out) | exact HB.out)) hb); clear HO_5; clear HO_7; clear HO_102; clear BK759; clear HB; have HO_5 := n0_; have HO_7 := n1_; have HO_102 := n2_; have HO786 := n3_; have HO788 := n4_; have BK759 := n5_; have HB := n6_; clear n0_ n1_ n2_ n3_ n4_ n5_ n6_; (try clear hb); (try clear hb2); (try clear hk); (try clear hi); (try clear ho0); (try clear ho1); obtain ⟨Ao111, co111, eo111⟩ := Kd.S_slice HO_7.out; subst eo111) | ((with_reducible refine gate_callee (f := 34) rfl ?_); refine goesL_ (some 128) rfl rfl Try.func34 (by kernel_rfl) rfl #[.slice Ao111 t760.length co111] rfl (by (try simp only [List.map_toArray, List.map_cons, List.map_nil]); first | done | rfl) ?_; (with_reducible refine (impl_SumsOfGrid.calls k3 _ _ t760 t789 t790 true _ ?side1 ?side2 A58.out).mono ?_); (case side1 => repeat (first | exact (Kd.S_reads' HO_7.out).2.2 | (with_reducible refine Kd.C_alloc ?_ _) | (with_reducible refine Kd.C_drewN ?_ _) | (with_reducible refine Kd.C_drew ?_))); (case side2 => exact (Kd.S_reads' HO_7.out).2.1); rintro e w112 ⟨v792, v794, rfl, ho0, ho1, hb⟩; refine ⟨_, rfl, ?_⟩; have n0_ := Aside0.mk (Kd.S_mono (Kd.S_told (Kd.S_told (Kd.S_old (by (with_reducible repeat (first | apply Kd.S_alloc | apply Kd.S_drewN | apply Kd.S_drew)); exact HO_5.out) hb) (Kd.R_base ho0)) (Kd.R_base ho1)) (fun _ h_ => h_.1)); have n1_ := Aside0.mk (Kd.S_mono (Kd.S_told (Kd.S_told (Kd.S_old (by (with_reducible repeat (first | apply Kd.S_alloc | apply Kd.S_drewN | apply Kd.S_drew)); exact HO_7.out) hb) (Kd.R_base ho0)) (Kd.R_base ho1)) (fun _ h_ => h_.1)); have n2_ := Aside0.mk (Kd.R_below (by (with_reducible repeat (first | apply Kd.R_alloc | apply Kd.R_drewN | apply Kd.R_drew)); exact HO_102.out) hb); have n3_ := Aside0.mk (Kd.R_mono (Kd.R_told (Kd.R_told (Kd.R_old (by (with_reducible repeat (first | apply Kd.R_alloc | apply Kd.R_drewN | apply Kd.R_drew)); exact HO786.out) hb) (Kd.R_base ho0)) (Kd.R_base ho1)) (fun _ h_ => h_.1)); have n4_ := Aside0.mk (Kd.R_mono (Kd.R_told (Kd.R_told (Kd.R_old (by (with_reducible repeat (first | apply Kd.R_alloc | apply Kd.R_drewN | apply Kd.R_drew)); exact HO788.out) hb) (Kd.R_base ho0)) (Kd.R_base ho1)) (fun _ h_ => h_.1)); have n5_ := Aside0.mk (Kd.R_lower (Kd.R_new' (Kd.R_new' ho0 (Kd.R_lt (by (with_reducible repeat (first | apply Kd.R_alloc | apply Kd.R_drewN | apply Kd.R_drew)); exact HO786.out))) (Kd.R_lt (by (with_reducible repeat (first | apply Kd.R_alloc | apply Kd.R_drewN | apply Kd.R_drew)); exact HO788.out))) (below_size (by repeat (first | (with_reducible first | exact HB.out | apply below_alloc | apply pw_below_drewN | apply below_drew1 | refine below_set ?_ GE759.out) | exact HB.out)))); have n6_ := Aside0.mk (Kd.R_lower (Kd.R_new' (Kd.R_new' ho1 (Kd.R_lt (by (with_reducible repeat (first | apply Kd.R_alloc | apply Kd.R_drewN | apply Kd.R_drew)); exact HO786.out))) (Kd.R_lt (by (with_reducible repeat (first | apply Kd.R_alloc | apply Kd.R_drewN | apply Kd.R_drew)); exact HO788.out))) (below_size (by repeat (first | (with_reducible first | exact HB.out | apply below_alloc | apply pw_below_drewN | apply below_drew1 | refine below_set ?_ GE759.out) | exact HB.out)))); have n7_ := Aside0.mk (blk_below (g := gb759) (o := .cells #[.int .i64 t755, .int .i64 t756, .int .i64 t757, .int .i64 t758] 41 (0, 0)) (by (with_reducible repeat (first | refine blk_drewN ?_ _ | refine blk_drew ?_ | refine blk_alloc ?_ _)); exact BK759.out) hb); have n8_ := Aside0.mk (below_step (by repeat (first | (with_reducible first | exact HB.out | apply below_alloc | apply pw_below_drewN | apply below_drew1 | refine below_set ?_ GE759.out) | exact HB.out)) hb); clear HO_5; clear HO_7; clear HO_102; clear HO786; clear HO788; clear BK759; clear HB; have HO_5 := n0_; have HO_7 := n1_; have HO_102 := n2_; have HO786 := n3_; have HO788 := n4_; have HO793 := n5_; have HO795 := n6_; have BK759 := n7_; have HB := n8_; clear n0_ n1_ n2_ n3_ n4_ n5_ n6_ n7_ n8_; (try clear hb); (try clear hb2); (try clear hk); (try clear hi); (try clear ho0); (try clear ho1)) | ((with_reducible refine gate_callee (f := 24) rfl ?_); refine goesL_ (some 135) rfl rfl Try.func24 (by kernel_rfl) rfl #[.slice Ao12 t752.length co12, .slice Ao111 t760.length co111] rfl (by (try simp only [List.map_toArray, List.map_cons, List.map_nil]); first | done | rfl) ?_; (with_reducible refine (impl_GridsApart.calls k3 _ _ t752 _ _ t760 t796 true _ ?side1 ?side2 ?side3 ?side4 A59.out).mono ?_); (case side1 => repeat (first | exact (Kd.S_reads' HO_5.out).2.2 | (with_reducible refine Kd.C_alloc ?_ _) | (with_reducible refine Kd.C_drewN ?_ _) | (with_reducible refine Kd.C_drew ?_))); (case side2 => exact (Kd.S_reads' HO_5.out).2.1); (case side3 => repeat (first | exact (Kd.S_reads' HO_7.out).2.2 | (with_reducible refine Kd.C_alloc ?_ _) | (with_reducible refine Kd.C_drewN ?_ _) | (with_reducible refine Kd.C_drew ?_))); (case side4 => exact (Kd.S_reads' HO_7.out).2.1); rintro e w113 ⟨rfl, hb⟩; refine ⟨_, rfl, ?_⟩; have n0_ := Aside0.mk (Kd.S_below (by (with_reducible repeat (first | apply Kd.S_alloc | apply Kd.S_drewN | apply Kd.S_drew)); exact HO_5.out) hb); have n1_ := Aside0.mk (Kd.S_below (by (with_reducible repeat (first | apply Kd.S_alloc | apply Kd.S_drewN | apply Kd.S_drew)); exact HO_7.out) hb); have n2_ := Aside0.mk (Kd.R_below (by (with_reducible repeat (first | apply Kd.R_alloc | apply Kd.R_drewN | apply Kd.R_drew)); exact HO_102.out) hb); have n3_ := Aside0.mk (Kd.R_below (by (with_reducible repeat (first | apply Kd.R_alloc | apply Kd.R_drewN | apply Kd.R_drew)); exact HO786.out) hb); have n4_ := Aside0.mk (Kd.R_below (by (with_reducible repeat (first | apply Kd.R_alloc | apply Kd.R_drewN | apply Kd.R_drew)); exact HO788.out) hb); have n5_ := Aside0.mk (Kd.R_below (by (with_reducible repeat (first | apply Kd.R_alloc | apply Kd.R_drewN | apply Kd.R_drew)); exact HO793.out) hb); have n6_ := Aside0.mk (Kd.R_below (by (with_reducible repeat (first | apply Kd.R_alloc | apply Kd.R_drewN | apply Kd.R_drew)); exact HO795.out) hb); have n7_ := Aside0.mk (blk_below (g := gb759) (o := .cells #[.int .i64 t755, .int .i64 t756, .int .i64 t757, .int .i64 t758] 41 (0, 0)) (by (with_reducible repeat (first | refine blk_drewN ?_ _ | refine blk_drew ?_ | refine blk_alloc ?_ _)); exact BK759.out) hb); have n8_ := Aside0.mk (below_step (by repeat (first | (with_reducible first | exact HB.out | apply below_alloc | apply pw_below_drewN | apply below_drew1 | refine below_set ?_ GE759.out) | exact HB.out)) hb); clear HO_5; clear HO_7; clear HO_102; clear HO786; clear HO788; clear HO793; clear HO795; clear BK759; clear HB; have HO_5 := n0_; have HO_7 := n1_; have HO_102 := n2_; have HO786 := n3_; have HO788 := n4_; have HO793 := n5_; have HO795 := n6_; have BK759 := n7_; have HB := n8_; clear n0_ n1_ n2_ n3_ n4_ n5_ n6_ n7_ n8_; (try clear hb); (try clear hb2); (try clear hk); (try clear hi); have hcz114_0 : w113.cell? ⟨gb759, 0, none⟩ = some (.int .i64 t755) := (blk_cell BK759.out 0).trans rfl; have hcz114_1 : w113.cell? ⟨gb759, 1, none⟩ = some (.int .i64 t756) := (blk_cell BK759.out 1).trans rfl; have hcz114_2 : w113.cell? ⟨gb759, 2, none⟩ = some (.int .i64 t757) := (blk_cell BK759.out 2).trans rfl; have hcz114_3 : w113.cell? ⟨gb759, 3, none⟩ = some (.int .i64 t758) := (blk_cell BK759.out 3).trans rfl; have hfz114_0 := blk_frozen BK759.out 0; have hfz114_1 := blk_frozen BK759.out 1; have hfz114_2 := blk_frozen BK759.out 2; have hfz114_3 := blk_frozen BK759.out 3) | ((with_reducible refine gate_callee (f := 40) rfl ?_); refine goesL_ (some 141) rfl rfl Try.func40 (by kernel_rfl) rfl #[.slice Ao111 t760.length co111, .agg #[.int .i64 t755, .int .i64 t756, .int .i64 t757, .int .i64 t758]] rfl (by (try simp only [List.map_toArray, List.map_cons, List.map_nil]); first | done | rfl) ?_; (with_reducible refine (impl_DoSwitch.calls _ _ t760 t755 t756 t757 t758 t798 false _ ?side1 ?side2 A60.out).mono ?_); (case side1 => repeat (first | exact (Kd.S_reads' HO_7.out).2.2 | (with_reducible refine Kd.C_alloc ?_ _) | (with_reducible refine Kd.C_drewN ?_ _) | (with_reducible refine Kd.C_drew ?_))); (case side2 => exact (Kd.S_reads' HO_7.out).2.1); rintro e w115 ⟨v799, rfl, ho0, hb⟩; refine ⟨_, rfl, ?_⟩; have n0_ := Aside0.mk (Kd.S_elder' (by (with_reducible repeat (first | apply Kd.S_alloc | apply Kd.S_drewN | apply Kd.S_drew)); exact HO_5.out) (Kd.S_base ho0) hb); have n1_ := Aside0.mk (Kd.S_elder' (by (with_reducible repeat (first | apply Kd.S_alloc | apply Kd.S_drewN | apply Kd.S_drew)); exact HO_7.out) (Kd.S_base ho0) hb); have n2_ := Aside0.mk (Kd.R_below (by (with_reducible repeat (first | apply Kd.R_alloc | apply Kd.R_drewN | apply Kd.R_drew)); exact HO_102.out) hb); have n3_ := Aside0.mk (Kd.R_below (by (with_reducible repeat (first | apply Kd.R_alloc | apply Kd.R_drewN | apply Kd.R_drew)); exact HO786.out) hb); have n4_ := Aside0.mk (Kd.R_below (by (with_reducible repeat (first | apply Kd.R_alloc | apply Kd.R_drewN | apply Kd.R_drew)); exact HO788.out) hb); have n5_ := Aside0.mk (Kd.R_below (by (with_reducible repeat (first | apply Kd.R_alloc | apply Kd.R_drewN | apply Kd.R_drew)); exact HO793.out) hb); have n6_ := Aside0.mk (Kd.R_below (by (with_reducible repeat (first | apply Kd.R_alloc | apply Kd.R_drewN | apply Kd.R_drew)); exact HO795.out) hb); have n7_ := Aside0.mk (Kd.S_lower (Kd.S_new' (Kd.S_new' (Kd.S_new' (Kd.S_new' (Kd.S_new' (Kd.S_new' ho0 (Kd.S_lt (by (with_reducible repeat (first | apply Kd.S_alloc | apply Kd.S_drewN | apply Kd.S_drew)); exact HO_5.out))) (Kd.S_lt (by (with_reducible repeat (first | apply Kd.S_alloc | apply Kd.S_drewN | apply Kd.S_drew)); exact HO_7.out))) (Kd.R_lt (by (with_reducible repeat (first | apply Kd.R_alloc | apply Kd.R_drewN | apply Kd.R_drew)); exact HO786.out))) (Kd.R_lt (by (with_reducible repeat (first | apply Kd.R_alloc | apply Kd.R_drewN | apply Kd.R_drew)); exact HO788.out))) (Kd.R_lt (by (with_reducible repeat (first | apply Kd.R_alloc | apply Kd.R_drewN | apply Kd.R_drew)); exact HO793.out))) (Kd.R_lt (by (with_reducible repeat (first | apply Kd.R_alloc | apply Kd.R_drewN | apply Kd.R_drew)); exact HO795.out))) (below_size (by repeat (first | (with_reducible first | exact HB.out | apply below_alloc | apply pw_below_drewN | apply below_drew1 | refine below_set ?_ GE759.out) | exact HB.out)))); have n8_ := Aside0.mk (blk_below (g := gb759) (o := .cells #[.int .i64 t755, .int .i64 t756, .int .i64 t757, .int .i64 t758] 41 (0, 0)) (by (with_reducible repeat (first | refine blk_drewN ?_ _ | refine blk_drew ?_ | refine blk_alloc ?_ _)); exact BK759.out) hb); have n9_ := Aside0.mk (below_step (by repeat (first | (with_reducible first | exact HB.out | apply below_alloc | apply pw_below_drewN | apply below_drew1 | refine below_set ?_ GE759.out) | exact HB.out)) hb); clear HO_5; clear HO_7; clear HO_102; clear HO786; clear HO788; clear HO793; clear HO795; clear BK759; clear HB; have HO_5 := n0_; have HO_7 := n1_; have HO_102 := n2_; have HO786 := n3_; have HO788 := n4_; have HO793 := n5_; have HO795 := n6_; have HO800 := n7_; have BK759 := n8_; have HB := n9_; clear n0_ n1_ n2_ n3_ n4_ n5_ n6_ n7_ n8_ n9_; (try clear hb); (try clear hb2); (try clear hk); (try clear hi); (try clear ho0)))
                  go_ret
                  exact ⟨by first | rfl | (simp [errW_none, errW_some] <;> rfl) | (simp [*, errW_none, errW_some] <;> rfl), by repeat (first | (with_reducible first | exact HB.out | apply below_alloc | apply pw_below_drewN | apply below_drew1 | refine below_set ?_ GE759.out) | exact HB.out)⟩
                ·
                 replace c63 := Bool.eq_false_iff.mpr c63
                 subst c63
                 have H1 : (some false) = some r := by rw [if_neg (show ¬ (false = true) by decide)] at H; exact H
                 clear H
                 have H := H1
                 clear H1
                 obtain rfl := Option.some.inj H
                 go_wp2_with (first | ((with_reducible refine gate_callee (f := 34) rfl ?_); refine goesL_ (some 122) rfl rfl Try.func34 (by kernel_rfl) rfl #[.slice Ao12 t752.length co12] rfl (by (try simp only [List.map_toArray, List.map_cons, List.map_nil]); first | done | rfl) ?_; (with_reducible refine (impl_SumsOfGrid.calls k3 _ _ t752 t782 t783 true _ ?side1 ?side2 A57.out).mono ?_); (case side1 => repeat (first | exact (Kd.S_reads' HO_5.out).2.2 | (with_reducible refine Kd.C_alloc ?_ _) | (with_reducible refine Kd.C_drewN ?_ _) | (with_reducible refine Kd.C_drew ?_))); (case side2 => exact (Kd.S_reads' HO_5.out).2.1); rintro e w116 ⟨v785, v787, rfl, ho0, ho1, hb⟩; refine ⟨_, rfl, ?_⟩; have n0_ := Aside0.mk (Kd.S_mono (Kd.S_told (Kd.S_told (Kd.S_old (by (with_reducible repeat (first | apply Kd.S_alloc | apply Kd.S_drewN | apply Kd.S_drew)); exact HO_5.out) hb) (Kd.R_base ho0)) (Kd.R_base ho1)) (fun _ h_ => h_.1)); have n1_ := Aside0.mk (Kd.S_mono (Kd.S_told (Kd.S_told (Kd.S_old (by (with_reducible repeat (first | apply Kd.S_alloc | apply Kd.S_drewN | apply Kd.S_drew)); exact HO_7.out) hb) (Kd.R_base ho0)) (Kd.R_base ho1)) (fun _ h_ => h_.1)); have n2_ := Aside0.mk (Kd.R_below (by (with_reducible repeat (first | apply Kd.R_alloc | apply Kd.R_drewN | apply Kd.R_drew)); exact HO_102.out) hb); have n3_ := Aside0.mk (Kd.R_lower ho0 (below_size (by repeat (first | (with_reducible first | exact HB.out | apply below_alloc | apply pw_below_drewN | apply below_drew1 | refine below_set ?_ GE759.out) | exact HB.out)))); have n4_ := Aside0.mk (Kd.R_lower ho1 (below_size (by repeat (first | (with_reducible first | exact HB.out | apply below_alloc | apply pw_below_drewN | apply below_drew1 | refine below_set ?_ GE759.out) | exact HB.out)))); have n5_ := Aside0.mk (blk_below (g := gb759) (o := .cells #[.int .i64 t755, .int .i64 t756, .int .i64 t757, .int .i64 t758] 41 (0, 0)) (by (with_reducible repeat (first | refine blk_drewN ?_ _ | refine blk_drew ?_ | refine blk_alloc ?_ _)); exact BK759.out) hb); have n6_ := Aside0.mk (below_step (by repeat (first | (with_reducible first | exact HB.out | apply below_alloc | apply pw_below_drewN | apply below_drew1 | refine below_set ?_ GE759.out) | exact HB.out)) hb); clear HO_5; clear HO_7; clear HO_102; clear BK759; clear HB; have HO_5 := n0_; have HO_7 := n1_; have HO_102 := n2_; have HO786 := n3_; have HO788 := n4_; have BK759 := n5_; have HB := n6_; clear n0_ n1_ n2_ n3_ n4_ n5_ n6_; (try clear hb); (try clear hb2); (try clear hk); (try clear hi); (try clear ho0); (try clear ho1); obtain ⟨Ao117, co117, eo117⟩ := Kd.S_slice HO_7.out; subst eo117) | ((with_reducible refine gate_callee (f := 34) rfl ?_); refine goesL_ (some 128) rfl rfl Try.func34 (by kernel_rfl) rfl #[.slice Ao117 t760.length co117] rfl (by (try simp only [List.map_toArray, List.map_cons, List.map_nil]); first | done | rfl) ?_; (with_reducible refine (impl_SumsOfGrid.calls k3 _ _ t760 t789 t790 true _ ?side1 ?side2 A58.out).mono ?_); (case side1 => repeat (first | exact (Kd.S_reads' HO_7.out).2.2 | (with_reducible refine Kd.C_alloc ?_ _) | (with_reducible refine Kd.C_drewN ?_ _) | (with_reducible refine Kd.C_drew ?_))); (case side2 => exact (Kd.S_reads' HO_7.out).2.1); rintro e w118 ⟨v792, v794, rfl, ho0, ho1, hb⟩; refine ⟨_, rfl, ?_⟩; have n0_ := Aside0.mk (Kd.S_mono (Kd.S_told (Kd.S_told (Kd.S_old (by (with_reducible repeat (first | apply Kd.S_alloc | apply Kd.S_drewN | apply Kd.S_drew)); exact HO_5.out) hb) (Kd.R_base ho0)) (Kd.R_base ho1)) (fun _ h_ => h_.1)); have n1_ := Aside0.mk (Kd.S_mono (Kd.S_told (Kd.S_told (Kd.S_old (by (with_reducible repeat (first | apply Kd.S_alloc | apply Kd.S_drewN | apply Kd.S_drew)); exact HO_7.out) hb) (Kd.R_base ho0)) (Kd.R_base ho1)) (fun _ h_ => h_.1)); have n2_ := Aside0.mk (Kd.R_below (by (with_reducible repeat (first | apply Kd.R_alloc | apply Kd.R_drewN | apply Kd.R_drew)); exact HO_102.out) hb); have n3_ := Aside0.mk (Kd.R_mono (Kd.R_told (Kd.R_told (Kd.R_old (by (with_reducible repeat (first | apply Kd.R_alloc | apply Kd.R_drewN | apply Kd.R_drew)); exact HO786.out) hb) (Kd.R_base ho0)) (Kd.R_base ho1)) (fun _ h_ => h_.1)); have n4_ := Aside0.mk (Kd.R_mono (Kd.R_told (Kd.R_told (Kd.R_old (by (with_reducible repeat (first | apply Kd.R_alloc | apply Kd.R_drewN | apply Kd.R_drew)); exact HO788.out) hb) (Kd.R_base ho0)) (Kd.R_base ho1)) (fun _ h_ => h_.1)); have n5_ := Aside0.mk (Kd.R_lower (Kd.R_new' (Kd.R_new' ho0 (Kd.R_lt (by (with_reducible repeat (first | apply Kd.R_alloc | apply Kd.R_drewN | apply Kd.R_drew)); exact HO786.out))) (Kd.R_lt (by (with_reducible repeat (first | apply Kd.R_alloc | apply Kd.R_drewN | apply Kd.R_drew)); exact HO788.out))) (below_size (by repeat (first | (with_reducible first | exact HB.out | apply below_alloc | apply pw_below_drewN | apply below_drew1 | refine below_set ?_ GE759.out) | exact HB.out)))); have n6_ := Aside0.mk (Kd.R_lower (Kd.R_new' (Kd.R_new' ho1 (Kd.R_lt (by (with_reducible repeat (first | apply Kd.R_alloc | apply Kd.R_drewN | apply Kd.R_drew)); exact HO786.out))) (Kd.R_lt (by (with_reducible repeat (first | apply Kd.R_alloc | apply Kd.R_drewN | apply Kd.R_drew)); exact HO788.out))) (below_size (by repeat (first | (with_reducible first | exact HB.out | apply below_alloc | apply pw_below_drewN | apply below_drew1 | refine below_set ?_ GE759.out) | exact HB.out)))); have n7_ := Aside0.mk (blk_below (g := gb759) (o := .cells #[.int .i64 t755, .int .i64 t756, .int .i64 t757, .int .i64 t758] 41 (0, 0)) (by (with_reducible repeat (first | refine blk_drewN ?_ _ | refine blk_drew ?_ | refine blk_alloc ?_ _)); exact BK759.out) hb); have n8_ := Aside0.mk (below_step (by repeat (first | (with_reducible first | exact HB.out | apply below_alloc | apply pw_below_drewN | apply below_drew1 | refine below_set ?_ GE759.out) | exact HB.out)) hb); clear HO_5; clear HO_7; clear HO_102; clear HO786; clear HO788; clear BK759; clear HB; have HO_5 := n0_; have HO_7 := n1_; have HO_102 := n2_; have HO786 := n3_; have HO788 := n4_; have HO793 := n5_; have HO795 := n6_; have BK759 := n7_; have HB := n8_; clear n0_ n1_ n2_ n3_ n4_ n5_ n6_ n7_ n8_; (try clear hb); (try clear hb2); (try clear hk); (try clear hi); (try clear ho0); (try clear ho1)) | ((with_reducible refine gate_callee (f := 24) rfl ?_); refine goesL_ (some 135) rfl rfl Try.func24 (by kernel_rfl) rfl #[.slice Ao12 t752.length co12, .slice Ao117 t760.length co117] rfl (by (try simp only [List.map_toArray, List.map_cons, List.map_nil]); first | done | rfl) ?_; (with_reducible refine (impl_GridsApart.calls k3 _ _ t752 _ _ t760 t796 false _ ?side1 ?side2 ?side3 ?side4 A59.out).mono ?_); (case side1 => repeat (first | exact (Kd.S_reads' HO_5.out).2.2 | (with_reducible refine Kd.C_alloc ?_ _) | (with_reducible refine Kd.C_drewN ?_ _) | (with_reducible refine Kd.C_drew ?_))); (case side2 => exact (Kd.S_reads' HO_5.out).2.1); (case side3 => repeat (first | exact (Kd.S_reads' HO_7.out).2.2 | (with_reducible refine Kd.C_alloc ?_ _) | (with_reducible refine Kd.C_drewN ?_ _) | (with_reducible refine Kd.C_drew ?_))); (case side4 => exact (Kd.S_reads' HO_7.out).2.1); rintro e w119 ⟨rfl, hb⟩; refine ⟨_, rfl, ?_⟩; have n0_ := Aside0.mk (Kd.S_below (by (with_reducible repeat (first | apply Kd.S_alloc | apply Kd.S_drewN | apply Kd.S_drew)); exact HO_5.out) hb); have n1_ := Aside0.mk (Kd.S_below (by (with_reducible repeat (first | apply Kd.S_alloc | apply Kd.S_drewN | apply Kd.S_drew)); exact HO_7.out) hb); have n2_ := Aside0.mk (Kd.R_below (by (with_reducible repeat (first | apply Kd.R_alloc | apply Kd.R_drewN | apply Kd.R_drew)); exact HO_102.out) hb); have n3_ := Aside0.mk (Kd.R_below (by (with_reducible repeat (first | apply Kd.R_alloc | apply Kd.R_drewN | apply Kd.R_drew)); exact HO786.out) hb); have n4_ := Aside0.mk (Kd.R_below (by (with_reducible repeat (first | apply Kd.R_alloc | apply Kd.R_drewN | apply Kd.R_drew)); exact HO788.out) hb); have n5_ := Aside0.mk (Kd.R_below (by (with_reducible repeat (first | apply Kd.R_alloc | apply Kd.R_drewN | apply Kd.R_drew)); exact HO793.out) hb); have n6_ := Aside0.mk (Kd.R_below (by (with_reducible repeat (first | apply Kd.R_alloc | apply Kd.R_drewN | apply Kd.R_drew)); exact HO795.out) hb); have n7_ := Aside0.mk (blk_below (g := gb759) (o := .cells #[.int .i64 t755, .int .i64 t756, .int .i64 t757, .int .i64 t758] 41 (0, 0)) (by (with_reducible repeat (first | refine blk_drewN ?_ _ | refine blk_drew ?_ | refine blk_alloc ?_ _)); exact BK759.out) hb); have n8_ := Aside0.mk (below_step (by repeat (first | (with_reducible first | exact HB.out | apply below_alloc | apply pw_below_drewN | apply below_drew1 | refine below_set ?_ GE759.out) | exact HB.out)) hb); clear HO_5; clear HO_7; clear HO_102; clear HO786; clear HO788; clear HO793; clear HO795; clear BK759; clear HB; have HO_5 := n0_; have HO_7 := n1_; have HO_102 := n2_; have HO786 := n3_; have HO788 := n4_; have HO793 := n5_; have HO795 := n6_; have BK759 := n7_; have HB := n8_; clear n0_ n1_ n2_ n3_ n4_ n5_ n6_ n7_ n8_; (try clear hb); (try clear hb2); (try clear hk); (try clear hi); have hcz120_0 : w119.cell? ⟨gb759, 0, none⟩ = some (.int .i64 t755) := (blk_cell BK759.out 0).trans rfl; have hcz120_1 : w119.cell? ⟨gb759, 1, none⟩ = some (.int .i64 t756) := (blk_cell BK759.out 1).trans rfl; have hcz120_2 : w119.cell? ⟨gb759, 2, none⟩ = some (.int .i64 t757) := (blk_cell BK759.out 2).trans rfl; have hcz120_3 : w119.cell? ⟨gb759, 3, none⟩ = some (.int .i64 t758) := (blk_cell BK759.out 3).trans rfl; have hfz120_0 := blk_frozen BK759.out 0; have hfz120_1 := blk_frozen BK759.out 1; have hfz120_2 := blk_frozen BK759.out 2; have hfz120_3 := blk_frozen BK759.out 3) | ((with_reducible refine gate_callee (f := 40) rfl ?_); refine goesL_ (some 141) rfl rfl Try.func40 (by kernel_rfl) rfl #[.slice Ao117 t760.length co117, .agg #[.int .i64 t755, .int .i64 t756, .int .i64 t757, .int .i64 t758]] rfl (by (try simp only [List.map_toArray, List.map_cons, List.map_nil]); first | done | rfl) ?_; (with_reducible refine (impl_DoSwitch.calls _ _ t760 t755 t756 t757 t758 t798 t801 _ ?side1 ?side2 A60.out).mono ?_); (case side1 => repeat (first | exact (Kd.S_reads' HO_7.out).2.2 | (with_reducible refine Kd.C_alloc ?_ _) | (with_reducible refine Kd.C_drewN ?_ _) | (with_reducible refine Kd.C_drew ?_))); (case side2 => exact (Kd.S_reads' HO_7.out).2.1); rintro e w121 ⟨v799, rfl, ho0, hb⟩; refine ⟨_, rfl, ?_⟩; have n0_ := Aside0.mk (Kd.S_elder' (by (with_reducible repeat (first | apply Kd.S_alloc | apply Kd.S_drewN | apply Kd.S_drew)); exact HO_5.out) (Kd.S_base ho0) hb); have n1_ := Aside0.mk (Kd.S_elder' (by (with_reducible repeat (first | apply Kd.S_alloc | apply Kd.S_drewN | apply Kd.S_drew)); exact HO_7.out) (Kd.S_base ho0) hb); have n2_ := Aside0.mk (Kd.R_below (by (with_reducible repeat (first | apply Kd.R_alloc | apply Kd.R_drewN | apply Kd.R_drew)); exact HO_102.out) hb); have n3_ := Aside0.mk (Kd.R_below (by (with_reducible repeat (first | apply Kd.R_alloc | apply Kd.R_drewN | apply Kd.R_drew)); exact HO786.out) hb); have n4_ := Aside0.mk (Kd.R_below (by (with_reducible repeat (first | apply Kd.R_alloc | apply Kd.R_drewN | apply Kd.R_drew)); exact HO788.out) hb); have n5_ := Aside0.mk (Kd.R_below (by (with_reducible repeat (first | apply Kd.R_alloc | apply Kd.R_drewN | apply Kd.R_drew)); exact HO793.out) hb); have n6_ := Aside0.mk (Kd.R_below (by (with_reducible repeat (first | apply Kd.R_alloc | apply Kd.R_drewN | apply Kd.R_drew)); exact HO795.out) hb); have n7_ := Aside0.mk (Kd.S_lower (Kd.S_new' (Kd.S_new' (Kd.S_new' (Kd.S_new' (Kd.S_new' (Kd.S_new' ho0 (Kd.S_lt (by (with_reducible repeat (first | apply Kd.S_alloc | apply Kd.S_drewN | apply Kd.S_drew)); exact HO_5.out))) (Kd.S_lt (by (with_reducible repeat (first | apply Kd.S_alloc | apply Kd.S_drewN | apply Kd.S_drew)); exact HO_7.out))) (Kd.R_lt (by (with_reducible repeat (first | apply Kd.R_alloc | apply Kd.R_drewN | apply Kd.R_drew)); exact HO786.out))) (Kd.R_lt (by (with_reducible repeat (first | apply Kd.R_alloc | apply Kd.R_drewN | apply Kd.R_drew)); exact HO788.out))) (Kd.R_lt (by (with_reducible repeat (first | apply Kd.R_alloc | apply Kd.R_drewN | apply Kd.R_drew)); exact HO793.out))) (Kd.R_lt (by (with_reducible repeat (first | apply Kd.R_alloc | apply Kd.R_drewN | apply Kd.R_drew)); exact HO795.out))) (below_size (by repeat (first | (with_reducible first | exact HB.out | apply below_alloc | apply pw_below_drewN | apply below_drew1 | refine below_set ?_ GE759.out) | exact HB.out)))); have n8_ := Aside0.mk (blk_below (g := gb759) (o := .cells #[.int .i64 t755, .int .i64 t756, .int .i64 t757, .int .i64 t758] 41 (0, 0)) (by (with_reducible repeat (first | refine blk_drewN ?_ _ | refine blk_drew ?_ | refine blk_alloc ?_ _)); exact BK759.out) hb); have n9_ := Aside0.mk (below_step (by repeat (first | (with_reducible first | exact HB.out | apply below_alloc | apply pw_below_drewN | apply below_drew1 | refine below_set ?_ GE759.out) | exact HB.out)) hb); clear HO_5; clear HO_7; clear HO_102; clear HO786; clear HO788; clear HO793; clear HO795; clear BK759; clear HB; have HO_5 := n0_; have HO_7 := n1_; have HO_102 := n2_; have HO786 := n3_; have HO788 := n4_; have HO793 := n5_; have HO795 := n6_; have HO800 := n7_; have BK759 := n8_; have HB := n9_; clear n0_ n1_ n2_ n3_ n4_ n5_ n6_ n7_ n8_ n9_; (try clear hb); (try clear hb2); (try clear hk); (try clear hi); (try clear ho0)))
                 go_ret
                 exact ⟨by first | rfl | (simp [errW_none, errW_some] <;> rfl) | (simp [*, errW_none, errW_some] <;> rfl), by repeat (first | (with_reducible first | exact HB.out | apply below_alloc | apply pw_below_drewN | apply below_drew1 | refine below_set ?_ GE759.out) | exact HB.out)⟩
               ·
                replace c62 := Bool.eq_false_iff.mpr c62
                subst c62
                have H1 : (some false) = some r := by rw [if_neg (show ¬ (false = true) by decide)] at H; exact H
                clear H
                have H := H1
                clear H1
                obtain rfl := Option.some.inj H
                go_wp2_with (first | ((with_reducible refine gate_callee (f := 34) rfl ?_); refine goesL_ (some 122) rfl rfl Try.func34 (by kernel_rfl) rfl #[.slice Ao12 t752.length co12] rfl (by (try simp only [List.map_toArray, List.map_cons, List.map_nil]); first | done | rfl) ?_; (with_reducible refine (impl_SumsOfGrid.calls k3 _ _ t752 t782 t783 true _ ?side1 ?side2 A57.out).mono ?_); (case side1 => repeat (first | exact (Kd.S_reads' HO_5.out).2.2 | (with_reducible refine Kd.C_alloc ?_ _) | (with_reducible refine Kd.C_drewN ?_ _) | (with_reducible refine Kd.C_drew ?_))); (case side2 => exact (Kd.S_reads' HO_5.out).2.1); rintro e w122 ⟨v785, v787, rfl, ho0, ho1, hb⟩; refine ⟨_, rfl, ?_⟩; have n0_ := Aside0.mk (Kd.S_mono (Kd.S_told (Kd.S_told (Kd.S_old (by (with_reducible repeat (first | apply Kd.S_alloc | apply Kd.S_drewN | apply Kd.S_drew)); exact HO_5.out) hb) (Kd.R_base ho0)) (Kd.R_base ho1)) (fun _ h_ => h_.1)); have n1_ := Aside0.mk (Kd.S_mono (Kd.S_told (Kd.S_told (Kd.S_old (by (with_reducible repeat (first | apply Kd.S_alloc | apply Kd.S_drewN | apply Kd.S_drew)); exact HO_7.out) hb) (Kd.R_base ho0)) (Kd.R_base ho1)) (fun _ h_ => h_.1)); have n2_ := Aside0.mk (Kd.R_below (by (with_reducible repeat (first | apply Kd.R_alloc | apply Kd.R_drewN | apply Kd.R_drew)); exact HO_102.out) hb); have n3_ := Aside0.mk (Kd.R_lower ho0 (below_size (by repeat (first | (with_reducible first | exact HB.out | apply below_alloc | apply pw_below_drewN | apply below_drew1 | refine below_set ?_ GE759.out) | exact HB.out)))); have n4_ := Aside0.mk (Kd.R_lower ho1 (below_size (by repeat (first | (with_reducible first | exact HB.out | apply below_alloc | apply pw_below_drewN | apply below_drew1 | refine below_set ?_ GE759.out) | exact HB.out)))); have n5_ := Aside0.mk (blk_below (g := gb759) (o := .cells #[.int .i64 t755, .int .i64 t756, .int .i64 t757, .int .i64 t758] 41 (0, 0)) (by (with_reducible repeat (first | refine blk_drewN ?_ _ | refine blk_drew ?_ | refine blk_alloc ?_ _)); exact BK759.out) hb); have n6_ := Aside0.mk (below_step (by repeat (first | (with_reducible first | exact HB.out | apply below_alloc | apply pw_below_drewN | apply below_drew1 | refine below_set ?_ GE759.out) | exact HB.out)) hb); clear HO_5; clear HO_7; clear HO_102; clear BK759; clear HB; have HO_5 := n0_; have HO_7 := n1_; have HO_102 := n2_; have HO786 := n3_; have HO788 := n4_; have BK759 := n5_; have HB := n6_; clear n0_ n1_ n2_ n3_ n4_ n5_ n6_; (try clear hb); (try clear hb2); (try clear hk); (try clear hi); (try clear ho0); (try clear ho1); obtain ⟨Ao123, co123, eo123⟩ := Kd.S_slice HO_7.out; subst eo123) | ((with_reducible refine gate_callee (f := 34) rfl ?_); refine goesL_ (some 128) rfl rfl Try.func34 (by kernel_rfl) rfl #[.slice Ao123 t760.length co123] rfl (by (try simp only [List.map_toArray, List.map_cons, List.map_nil]); first | done | rfl) ?_; (with_reducible refine (impl_SumsOfGrid.calls k3 _ _ t760 t789 t790 false _ ?side1 ?side2 A58.out).mono ?_); (case side1 => repeat (first | exact (Kd.S_reads' HO_7.out).2.2 | (with_reducible refine Kd.C_alloc ?_ _) | (with_reducible refine Kd.C_drewN ?_ _) | (with_reducible refine Kd.C_drew ?_))); (case side2 => exact (Kd.S_reads' HO_7.out).2.1); rintro e w124 ⟨v792, v794, rfl, ho0, ho1, hb⟩; refine ⟨_, rfl, ?_⟩; have n0_ := Aside0.mk (Kd.S_mono (Kd.S_told (Kd.S_told (Kd.S_old (by (with_reducible repeat (first | apply Kd.S_alloc | apply Kd.S_drewN | apply Kd.S_drew)); exact HO_5.out) hb) (Kd.R_base ho0)) (Kd.R_base ho1)) (fun _ h_ => h_.1)); have n1_ := Aside0.mk (Kd.S_mono (Kd.S_told (Kd.S_told (Kd.S_old (by (with_reducible repeat (first | apply Kd.S_alloc | apply Kd.S_drewN | apply Kd.S_drew)); exact HO_7.out) hb) (Kd.R_base ho0)) (Kd.R_base ho1)) (fun _ h_ => h_.1)); have n2_ := Aside0.mk (Kd.R_below (by (with_reducible repeat (first | apply Kd.R_alloc | apply Kd.R_drewN | apply Kd.R_drew)); exact HO_102.out) hb); have n3_ := Aside0.mk (Kd.R_mono (Kd.R_told (Kd.R_told (Kd.R_old (by (with_reducible repeat (first | apply Kd.R_alloc | apply Kd.R_drewN | apply Kd.R_drew)); exact HO786.out) hb) (Kd.R_base ho0)) (Kd.R_base ho1)) (fun _ h_ => h_.1)); have n4_ := Aside0.mk (Kd.R_mono (Kd.R_told (Kd.R_told (Kd.R_old (by (with_reducible repeat (first | apply Kd.R_alloc | apply Kd.R_drewN | apply Kd.R_drew)); exact HO788.out) hb) (Kd.R_base ho0)) (Kd.R_base ho1)) (fun _ h_ => h_.1)); have n5_ := Aside0.mk (Kd.R_lower (Kd.R_new' (Kd.R_new' ho0 (Kd.R_lt (by (with_reducible repeat (first | apply Kd.R_alloc | apply Kd.R_drewN | apply Kd.R_drew)); exact HO786.out))) (Kd.R_lt (by (with_reducible repeat (first | apply Kd.R_alloc | apply Kd.R_drewN | apply Kd.R_drew)); exact HO788.out))) (below_size (by repeat (first | (with_reducible first | exact HB.out | apply below_alloc | apply pw_below_drewN | apply below_drew1 | refine below_set ?_ GE759.out) | exact HB.out)))); have n6_ := Aside0.mk (Kd.R_lower (Kd.R_new' (Kd.R_new' ho1 (Kd.R_lt (by (with_reducible repeat (first | apply Kd.R_alloc | apply Kd.R_drewN | apply Kd.R_drew)); exact HO786.out))) (Kd.R_lt (by (with_reducible repeat (first | apply Kd.R_alloc | apply Kd.R_drewN | apply Kd.R_drew)); exact HO788.out))) (below_size (by repeat (first | (with_reducible first | exact HB.out | apply below_alloc | apply pw_below_drewN | apply below_drew1 | refine below_set ?_ GE759.out) | exact HB.out)))); have n7_ := Aside0.mk (blk_below (g := gb759) (o := .cells #[.int .i64 t755, .int .i64 t756, .int .i64 t757, .int .i64 t758] 41 (0, 0)) (by (with_reducible repeat (first | refine blk_drewN ?_ _ | refine blk_drew ?_ | refine blk_alloc ?_ _)); exact BK759.out) hb); have n8_ := Aside0.mk (below_step (by repeat (first | (with_reducible first | exact HB.out | apply below_alloc | apply pw_below_drewN | apply below_drew1 | refine below_set ?_ GE759.out) | exact HB.out)) hb); clear HO_5; clear HO_7; clear HO_102; clear HO786; clear HO788; clear BK759; clear HB; have HO_5 := n0_; have HO_7 := n1_; have HO_102 := n2_; have HO786 := n3_; have HO788 := n4_; have HO793 := n5_; have HO795 := n6_; have BK759 := n7_; have HB := n8_; clear n0_ n1_ n2_ n3_ n4_ n5_ n6_ n7_ n8_; (try clear hb); (try clear hb2); (try clear hk); (try clear hi); (try clear ho0); (try clear ho1)) | ((with_reducible refine gate_callee (f := 24) rfl ?_); refine goesL_ (some 135) rfl rfl Try.func24 (by kernel_rfl) rfl #[.slice Ao12 t752.length co12, .slice Ao123 t760.length co123] rfl (by (try simp only [List.map_toArray, List.map_cons, List.map_nil]); first | done | rfl) ?_; (with_reducible refine (impl_GridsApart.calls k3 _ _ t752 _ _ t760 t796 t797 _ ?side1 ?side2 ?side3 ?side4 A59.out).mono ?_); (case side1 => repeat (first | exact (Kd.S_reads' HO_5.out).2.2 | (with_reducible refine Kd.C_alloc ?_ _) | (with_reducible refine Kd.C_drewN ?_ _) | (with_reducible refine Kd.C_drew ?_))); (case side2 => exact (Kd.S_reads' HO_5.out).2.1); (case side3 => repeat (first | exact (Kd.S_reads' HO_7.out).2.2 | (with_reducible refine Kd.C_alloc ?_ _) | (with_reducible refine Kd.C_drewN ?_ _) | (with_reducible refine Kd.C_drew ?_))); (case side4 => exact (Kd.S_reads' HO_7.out).2.1); rintro e w125 ⟨rfl, hb⟩; refine ⟨_, rfl, ?_⟩; have n0_ := Aside0.mk (Kd.S_below (by (with_reducible repeat (first | apply Kd.S_alloc | apply Kd.S_drewN | apply Kd.S_drew)); exact HO_5.out) hb); have n1_ := Aside0.mk (Kd.S_below (by (with_reducible repeat (first | apply Kd.S_alloc | apply Kd.S_drewN | apply Kd.S_drew)); exact HO_7.out) hb); have n2_ := Aside0.mk (Kd.R_below (by (with_reducible repeat (first | apply Kd.R_alloc | apply Kd.R_drewN | apply Kd.R_drew)); exact HO_102.out) hb); have n3_ := Aside0.mk (Kd.R_below (by (with_reducible repeat (first | apply Kd.R_alloc | apply Kd.R_drewN | apply Kd.R_drew)); exact HO786.out) hb); have n4_ := Aside0.mk (Kd.R_below (by (with_reducible repeat (first | apply Kd.R_alloc | apply Kd.R_drewN | apply Kd.R_drew)); exact HO788.out) hb); have n5_ := Aside0.mk (Kd.R_below (by (with_reducible repeat (first | apply Kd.R_alloc | apply Kd.R_drewN | apply Kd.R_drew)); exact HO793.out) hb); have n6_ := Aside0.mk (Kd.R_below (by (with_reducible repeat (first | apply Kd.R_alloc | apply Kd.R_drewN | apply Kd.R_drew)); exact HO795.out) hb); have n7_ := Aside0.mk (blk_below (g := gb759) (o := .cells #[.int .i64 t755, .int .i64 t756, .int .i64 t757, .int .i64 t758] 41 (0, 0)) (by (with_reducible repeat (first | refine blk_drewN ?_ _ | refine blk_drew ?_ | refine blk_alloc ?_ _)); exact BK759.out) hb); have n8_ := Aside0.mk (below_step (by repeat (first | (with_reducible first | exact HB.out | apply below_alloc | apply pw_below_drewN | apply below_drew1 | refine below_set ?_ GE759.out) | exact HB.out)) hb); clear HO_5; clear HO_7; clear HO_102; clear HO786; clear HO788; clear HO793; clear HO795; clear BK759; clear HB; have HO_5 := n0_; have HO_7 := n1_; have HO_102 := n2_; have HO786 := n3_; have HO788 := n4_; have HO793 := n5_; have HO795 := n6_; have BK759 := n7_; have HB := n8_; clear n0_ n1_ n2_ n3_ n4_ n5_ n6_ n7_ n8_; (try clear hb); (try clear hb2); (try clear hk); (try clear hi); have hcz126_0 : w125.cell? ⟨gb759, 0, none⟩ = some (.int .i64 t755) := (blk_cell BK759.out 0).trans rfl; have hcz126_1 : w125.cell? ⟨gb759, 1, none⟩ = some (.int .i64 t756) := (blk_cell BK759.out 1).trans rfl; have hcz126_2 : w125.cell? ⟨gb759, 2, none⟩ = some (.int .i64 t757) := (blk_cell BK759.out 2).trans rfl; have hcz126_3 : w125.cell? ⟨gb759, 3, none⟩ = some (.int .i64 t758) := (blk_cell BK759.out 3).trans rfl; have hfz126_0 := blk_frozen BK759.out 0; have hfz126_1 := blk_frozen BK759.out 1; have hfz126_2 := blk_frozen BK759.out 2; have hfz126_3 := blk_frozen BK759.out 3) | ((with_reducible refine gate_callee (f := 40) rfl ?_); refine goesL_ (some 141) rfl rfl Try.func40 (by kernel_rfl) rfl #[.slice Ao123 t760.length co123, .agg #[.int .i64 t755, .int .i64 t756, .int .i64 t757, .int .i64 t758]] rfl (by (try simp only [List.map_toArray, List.map_cons, List.map_nil]); first | done | rfl) ?_; (with_reducible refine (impl_DoSwitch.calls _ _ t760 t755 t756 t757 t758 t798 t801 _ ?side1 ?side2 A60.out).mono ?_); (case side1 => repeat (first | exact (Kd.S_reads' HO_7.out).2.2 | (with_reducible refine Kd.C_alloc ?_ _) | (with_reducible refine Kd.C_drewN ?_ _) | (with_reducible refine Kd.C_drew ?_))); (case side2 => exact (Kd.S_reads' HO_7.out).2.1); rintro e w127 ⟨v799, rfl, ho0, hb⟩; refine ⟨_, rfl, ?_⟩; have n0_ := Aside0.mk (Kd.S_elder' (by (with_reducible repeat (first | apply Kd.S_alloc | apply Kd.S_drewN | apply Kd.S_drew)); exact HO_5.out) (Kd.S_base ho0) hb); have n1_ := Aside0.mk (Kd.S_elder' (by (with_reducible repeat (first | apply Kd.S_alloc | apply Kd.S_drewN | apply Kd.S_drew)); exact HO_7.out) (Kd.S_base ho0) hb); have n2_ := Aside0.mk (Kd.R_below (by (with_reducible repeat (first | apply Kd.R_alloc | apply Kd.R_drewN | apply Kd.R_drew)); exact HO_102.out) hb); have n3_ := Aside0.mk (Kd.R_below (by (with_reducible repeat (first | apply Kd.R_alloc | apply Kd.R_drewN | apply Kd.R_drew)); exact HO786.out) hb); have n4_ := Aside0.mk (Kd.R_below (by (with_reducible repeat (first | apply Kd.R_alloc | apply Kd.R_drewN | apply Kd.R_drew)); exact HO788.out) hb); have n5_ := Aside0.mk (Kd.R_below (by (with_reducible repeat (first | apply Kd.R_alloc | apply Kd.R_drewN | apply Kd.R_drew)); exact HO793.out) hb); have n6_ := Aside0.mk (Kd.R_below (by (with_reducible repeat (first | apply Kd.R_alloc | apply Kd.R_drewN | apply Kd.R_drew)); exact HO795.out) hb); have n7_ := Aside0.mk (Kd.S_lower (Kd.S_new' (Kd.S_new' (Kd.S_new' (Kd.S_new' (Kd.S_new' (Kd.S_new' ho0 (Kd.S_lt (by (with_reducible repeat (first | apply Kd.S_alloc | apply Kd.S_drewN | apply Kd.S_drew)); exact HO_5.out))) (Kd.S_lt (by (with_reducible repeat (first | apply Kd.S_alloc | apply Kd.S_drewN | apply Kd.S_drew)); exact HO_7.out))) (Kd.R_lt (by (with_reducible repeat (first | apply Kd.R_alloc | apply Kd.R_drewN | apply Kd.R_drew)); exact HO786.out))) (Kd.R_lt (by (with_reducible repeat (first | apply Kd.R_alloc | apply Kd.R_drewN | apply Kd.R_drew)); exact HO788.out))) (Kd.R_lt (by (with_reducible repeat (first | apply Kd.R_alloc | apply Kd.R_drewN | apply Kd.R_drew)); exact HO793.out))) (Kd.R_lt (by (with_reducible repeat (first | apply Kd.R_alloc | apply Kd.R_drewN | apply Kd.R_drew)); exact HO795.out))) (below_size (by repeat (first | (with_reducible first | exact HB.out | apply below_alloc | apply pw_below_drewN | apply below_drew1 | refine below_set ?_ GE759.out) | exact HB.out)))); have n8_ := Aside0.mk (blk_below (g := gb759) (o := .cells #[.int .i64 t755, .int .i64 t756, .int .i64 t757, .int .i64 t758] 41 (0, 0)) (by (with_reducible repeat (first | refine blk_drewN ?_ _ | refine blk_drew ?_ | refine blk_alloc ?_ _)); exact BK759.out) hb); have n9_ := Aside0.mk (below_step (by repeat (first | (with_reducible first | exact HB.out | apply below_alloc | apply pw_below_drewN | apply below_drew1 | refine below_set ?_ GE759.out) | exact HB.out)) hb); clear HO_5; clear HO_7; clear HO_102; clear HO786; clear HO788; clear HO793; clear HO795; clear BK759; clear HB; have HO_5 := n0_; have HO_7 := n1_; have HO_102 := n2_; have HO786 := n3_; have HO788 := n4_; have HO793 := n5_; have HO795 := n6_; have HO800 := n7_; have BK759 := n8_; have HB := n9_; clear n0_ n1_ n2_ n3_ n4_ n5_ n6_ n7_ n8_ n9_; (try clear hb); (try clear hb2); (try clear hk); (try clear hi); (try clear ho0)))
                go_ret
                exact ⟨by first | rfl | (simp [errW_none, errW_some] <;> rfl) | (simp [*, errW_none, errW_some] <;> rfl), by repeat (first | (with_reducible first | exact HB.out | apply below_alloc | apply pw_below_drewN | apply below_drew1 | refine below_set ?_ GE759.out) | exact HB.out)⟩
              ·
               replace c61 := Bool.eq_false_iff.mpr c61
               subst c61
               have H1 : (some false) = some r := by rw [if_neg (show ¬ (false = true) by decide)] at H; exact H
               clear H
               have H := H1
               clear H1
               obtain rfl := Option.some.inj H
               go_wp2_with (first | ((with_reducible refine gate_callee (f := 34) rfl ?_); refine goesL_ (some 122) rfl rfl Try.func34 (by kernel_rfl) rfl #[.slice Ao12 t752.length co12] rfl (by (try simp only [List.map_toArray, List.map_cons, List.map_nil]); first | done | rfl) ?_; (with_reducible refine (impl_SumsOfGrid.calls k3 _ _ t752 t782 t783 false _ ?side1 ?side2 A57.out).mono ?_); (case side1 => repeat (first | exact (Kd.S_reads' HO_5.out).2.2 | (with_reducible refine Kd.C_alloc ?_ _) | (with_reducible refine Kd.C_drewN ?_ _) | (with_reducible refine Kd.C_drew ?_))); (case side2 => exact (Kd.S_reads' HO_5.out).2.1); rintro e w128 ⟨v785, v787, rfl, ho0, ho1, hb⟩; refine ⟨_, rfl, ?_⟩; have n0_ := Aside0.mk (Kd.S_mono (Kd.S_told (Kd.S_told (Kd.S_old (by (with_reducible repeat (first | apply Kd.S_alloc | apply Kd.S_drewN | apply Kd.S_drew)); exact HO_5.out) hb) (Kd.R_base ho0)) (Kd.R_base ho1)) (fun _ h_ => h_.1)); have n1_ := Aside0.mk (Kd.S_mono (Kd.S_told (Kd.S_told (Kd.S_old (by (with_reducible repeat (first | apply Kd.S_alloc | apply Kd.S_drewN | apply Kd.S_drew)); exact HO_7.out) hb) (Kd.R_base ho0)) (Kd.R_base ho1)) (fun _ h_ => h_.1)); have n2_ := Aside0.mk (Kd.R_below (by (with_reducible repeat (first | apply Kd.R_alloc | apply Kd.R_drewN | apply Kd.R_drew)); exact HO_102.out) hb); have n3_ := Aside0.mk (Kd.R_lower ho0 (below_size (by repeat (first | (with_reducible first | exact HB.out | apply below_alloc | apply pw_below_drewN | apply below_drew1 | refine below_set ?_ GE759.out) | exact HB.out)))); have n4_ := Aside0.mk (Kd.R_lower ho1 (below_size (by repeat (first | (with_reducible first | exact HB.out | apply below_alloc | apply pw_below_drewN | apply below_drew1 | refine below_set ?_ GE759.out) | exact HB.out)))); have n5_ := Aside0.mk (blk_below (g := gb759) (o := .cells #[.int .i64 t755, .int .i64 t756, .int .i64 t757, .int .i64 t758] 41 (0, 0)) (by (with_reducible repeat (first | refine blk_drewN ?_ _ | refine blk_drew ?_ | refine blk_alloc ?_ _)); exact BK759.out) hb); have n6_ := Aside0.mk (below_step (by repeat (first | (with_reducible first | exact HB.out | apply below_alloc | apply pw_below_drewN | apply below_drew1 | refine below_set ?_ GE759.out) | exact HB.out)) hb); clear HO_5; clear HO_7; clear HO_102; clear BK759; clear HB; have HO_5 := n0_; have HO_7 := n1_; have HO_102 := n2_; have HO786 := n3_; have HO788 := n4_; have BK759 := n5_; have HB := n6_; clear n0_ n1_ n2_ n3_ n4_ n5_ n6_; (try clear hb); (try clear hb2); (try clear hk); (try clear hi); (try clear ho0); (try clear ho1); obtain ⟨Ao129, co129, eo129⟩ := Kd.S_slice HO_7.out; subst eo129) | ((with_reducible refine gate_callee (f := 34) rfl ?_); refine goesL_ (some 128) rfl rfl Try.func34 (by kernel_rfl) rfl #[.slice Ao129 t760.length co129] rfl (by (try simp only [List.map_toArray, List.map_cons, List.map_nil]); first | done | rfl) ?_; (with_reducible refine (impl_SumsOfGrid.calls k3 _ _ t760 t789 t790 t791 _ ?side1 ?side2 A58.out).mono ?_); (case side1 => repeat (first | exact (Kd.S_reads' HO_7.out).2.2 | (with_reducible refine Kd.C_alloc ?_ _) | (with_reducible refine Kd.C_drewN ?_ _) | (with_reducible refine Kd.C_drew ?_))); (case side2 => exact (Kd.S_reads' HO_7.out).2.1); rintro e w130 ⟨v792, v794, rfl, ho0, ho1, hb⟩; refine ⟨_, rfl, ?_⟩; have n0_ := Aside0.mk (Kd.S_mono (Kd.S_told (Kd.S_told (Kd.S_old (by (with_reducible repeat (first | apply Kd.S_alloc | apply Kd.S_drewN | apply Kd.S_drew)); exact HO_5.out) hb) (Kd.R_base ho0)) (Kd.R_base ho1)) (fun _ h_ => h_.1)); have n1_ := Aside0.mk (Kd.S_mono (Kd.S_told (Kd.S_told (Kd.S_old (by (with_reducible repeat (first | apply Kd.S_alloc | apply Kd.S_drewN | apply Kd.S_drew)); exact HO_7.out) hb) (Kd.R_base ho0)) (Kd.R_base ho1)) (fun _ h_ => h_.1)); have n2_ := Aside0.mk (Kd.R_below (by (with_reducible repeat (first | apply Kd.R_alloc | apply Kd.R_drewN | apply Kd.R_drew)); exact HO_102.out) hb); have n3_ := Aside0.mk (Kd.R_mono (Kd.R_told (Kd.R_told (Kd.R_old (by (with_reducible repeat (first | apply Kd.R_alloc | apply Kd.R_drewN | apply Kd.R_drew)); exact HO786.out) hb) (Kd.R_base ho0)) (Kd.R_base ho1)) (fun _ h_ => h_.1)); have n4_ := Aside0.mk (Kd.R_mono (Kd.R_told (Kd.R_told (Kd.R_old (by (with_reducible repeat (first | apply Kd.R_alloc | apply Kd.R_drewN | apply Kd.R_drew)); exact HO788.out) hb) (Kd.R_base ho0)) (Kd.R_base ho1)) (fun _ h_ => h_.1)); have n5_ := Aside0.mk (Kd.R_lower (Kd.R_new' (Kd.R_new' ho0 (Kd.R_lt (by (with_reducible repeat (first | apply Kd.R_alloc | apply Kd.R_drewN | apply Kd.R_drew)); exact HO786.out))) (Kd.R_lt (by (with_reducible repeat (first | apply Kd.R_alloc | apply Kd.R_drewN | apply Kd.R_drew)); exact HO788.out))) (below_size (by repeat (first | (with_reducible first | exact HB.out | apply below_alloc | apply pw_below_drewN | apply below_drew1 | refine below_set ?_ GE759.out) | exact HB.out)))); have n6_ := Aside0.mk (Kd.R_lower (Kd.R_new' (Kd.R_new' ho1 (Kd.R_lt (by (with_reducible repeat (first | apply Kd.R_alloc | apply Kd.R_drewN | apply Kd.R_drew)); exact HO786.out))) (Kd.R_lt (by (with_reducible repeat (first | apply Kd.R_alloc | apply Kd.R_drewN | apply Kd.R_drew)); exact HO788.out))) (below_size (by repeat (first | (with_reducible first | exact HB.out | apply below_alloc | apply pw_below_drewN | apply below_drew1 | refine below_set ?_ GE759.out) | exact HB.out)))); have n7_ := Aside0.mk (blk_below (g := gb759) (o := .cells #[.int .i64 t755, .int .i64 t756, .int .i64 t757, .int .i64 t758] 41 (0, 0)) (by (with_reducible repeat (first | refine blk_drewN ?_ _ | refine blk_drew ?_ | refine blk_alloc ?_ _)); exact BK759.out) hb); have n8_ := Aside0.mk (below_step (by repeat (first | (with_reducible first | exact HB.out | apply below_alloc | apply pw_below_drewN | apply below_drew1 | refine below_set ?_ GE759.out) | exact HB.out)) hb); clear HO_5; clear HO_7; clear HO_102; clear HO786; clear HO788; clear BK759; clear HB; have HO_5 := n0_; have HO_7 := n1_; have HO_102 := n2_; have HO786 := n3_; have HO788 := n4_; have HO793 := n5_; have HO795 := n6_; have BK759 := n7_; have HB := n8_; clear n0_ n1_ n2_ n3_ n4_ n5_ n6_ n7_ n8_; (try clear hb); (try clear hb2); (try clear hk); (try clear hi); (try clear ho0); (try clear ho1)) | ((with_reducible refine gate_callee (f := 24) rfl ?_); refine goesL_ (some 135) rfl rfl Try.func24 (by kernel_rfl) rfl #[.slice Ao12 t752.length co12, .slice Ao129 t760.length co129] rfl (by (try simp only [List.map_toArray, List.map_cons, List.map_nil]); first | done | rfl) ?_; (with_reducible refine (impl_GridsApart.calls k3 _ _ t752 _ _ t760 t796 t797 _ ?side1 ?side2 ?side3 ?side4 A59.out).mono ?_); (case side1 => repeat (first | exact (Kd.S_reads' HO_5.out).2.2 | (with_reducible refine Kd.C_alloc ?_ _) | (with_reducible refine Kd.C_drewN ?_ _) | (with_reducible refine Kd.C_drew ?_))); (case side2 => exact (Kd.S_reads' HO_5.out).2.1); (case side3 => repeat (first | exact (Kd.S_reads' HO_7.out).2.2 | (with_reducible refine Kd.C_alloc ?_ _) | (with_reducible refine Kd.C_drewN ?_ _) | (with_reducible refine Kd.C_drew ?_))); (case side4 => exact (Kd.S_reads' HO_7.out).2.1); rintro e w131 ⟨rfl, hb⟩; refine ⟨_, rfl, ?_⟩; have n0_ := Aside0.mk (Kd.S_below (by (with_reducible repeat (first | apply Kd.S_alloc | apply Kd.S_drewN | apply Kd.S_drew)); exact HO_5.out) hb); have n1_ := Aside0.mk (Kd.S_below (by (with_reducible repeat (first | apply Kd.S_alloc | apply Kd.S_drewN | apply Kd.S_drew)); exact HO_7.out) hb); have n2_ := Aside0.mk (Kd.R_below (by (with_reducible repeat (first | apply Kd.R_alloc | apply Kd.R_drewN | apply Kd.R_drew)); exact HO_102.out) hb); have n3_ := Aside0.mk (Kd.R_below (by (with_reducible repeat (first | apply Kd.R_alloc | apply Kd.R_drewN | apply Kd.R_drew)); exact HO786.out) hb); have n4_ := Aside0.mk (Kd.R_below (by (with_reducible repeat (first | apply Kd.R_alloc | apply Kd.R_drewN | apply Kd.R_drew)); exact HO788.out) hb); have n5_ := Aside0.mk (Kd.R_below (by (with_reducible repeat (first | apply Kd.R_alloc | apply Kd.R_drewN | apply Kd.R_drew)); exact HO793.out) hb); have n6_ := Aside0.mk (Kd.R_below (by (with_reducible repeat (first | apply Kd.R_alloc | apply Kd.R_drewN | apply Kd.R_drew)); exact HO795.out) hb); have n7_ := Aside0.mk (blk_below (g := gb759) (o := .cells #[.int .i64 t755, .int .i64 t756, .int .i64 t757, .int .i64 t758] 41 (0, 0)) (by (with_reducible repeat (first | refine blk_drewN ?_ _ | refine blk_drew ?_ | refine blk_alloc ?_ _)); exact BK759.out) hb); have n8_ := Aside0.mk (below_step (by repeat (first | (with_reducible first | exact HB.out | apply below_alloc | apply pw_below_drewN | apply below_drew1 | refine below_set ?_ GE759.out) | exact HB.out)) hb); clear HO_5; clear HO_7; clear HO_102; clear HO786; clear HO788; clear HO793; clear HO795; clear BK759; clear HB; have HO_5 := n0_; have HO_7 := n1_; have HO_102 := n2_; have HO786 := n3_; have HO788 := n4_; have HO793 := n5_; have HO795 := n6_; have BK759 := n7_; have HB := n8_; clear n0_ n1_ n2_ n3_ n4_ n5_ n6_ n7_ n8_; (try clear hb); (try clear hb2); (try clear hk); (try clear hi); have hcz132_0 : w131.cell? ⟨gb759, 0, none⟩ = some (.int .i64 t755) := (blk_cell BK759.out 0).trans rfl; have hcz132_1 : w131.cell? ⟨gb759, 1, none⟩ = some (.int .i64 t756) := (blk_cell BK759.out 1).trans rfl; have hcz132_2 : w131.cell? ⟨gb759, 2, none⟩ = some (.int .i64 t757) := (blk_cell BK759.out 2).trans rfl; have hcz132_3 : w131.cell? ⟨gb759, 3, none⟩ = some (.int .i64 t758) := (blk_cell BK759.out 3).trans rfl; have hfz132_0 := blk_frozen BK759.out 0; have hfz132_1 := blk_frozen BK759.out 1; have hfz132_2 := blk_frozen BK759.out 2; have hfz132_3 := blk_frozen BK759.out 3) | ((with_reducible refine gate_callee (f := 40) rfl ?_); refine goesL_ (some 141) rfl rfl Try.func40 (by kernel_rfl) rfl #[.slice Ao129 t760.length co129, .agg #[.int .i64 t755, .int .i64 t756, .int .i64 t757, .int .i64 t758]] rfl (by (try simp only [List.map_toArray, List.map_cons, List.map_nil]); first | done | rfl) ?_; (with_reducible refine (impl_DoSwitch.calls _ _ t760 t755 t756 t757 t758 t798 t801 _ ?side1 ?side2 A60.out).mono ?_); (case side1 => repeat (first | exact (Kd.S_reads' HO_7.out).2.2 | (with_reducible refine Kd.C_alloc ?_ _) | (with_reducible refine Kd.C_drewN ?_ _) | (with_reducible refine Kd.C_drew ?_))); (case side2 => exact (Kd.S_reads' HO_7.out).2.1); rintro e w133 ⟨v799, rfl, ho0, hb⟩; refine ⟨_, rfl, ?_⟩; have n0_ := Aside0.mk (Kd.S_elder' (by (with_reducible repeat (first | apply Kd.S_alloc | apply Kd.S_drewN | apply Kd.S_drew)); exact HO_5.out) (Kd.S_base ho0) hb); have n1_ := Aside0.mk (Kd.S_elder' (by (with_reducible repeat (first | apply Kd.S_alloc | apply Kd.S_drewN | apply Kd.S_drew)); exact HO_7.out) (Kd.S_base ho0) hb); have n2_ := Aside0.mk (Kd.R_below (by (with_reducible repeat (first | apply Kd.R_alloc | apply Kd.R_drewN | apply Kd.R_drew)); exact HO_102.out) hb); have n3_ := Aside0.mk (Kd.R_below (by (with_reducible repeat (first | apply Kd.R_alloc | apply Kd.R_drewN | apply Kd.R_drew)); exact HO786.out) hb); have n4_ := Aside0.mk (Kd.R_below (by (with_reducible repeat (first | apply Kd.R_alloc | apply Kd.R_drewN | apply Kd.R_drew)); exact HO788.out) hb); have n5_ := Aside0.mk (Kd.R_below (by (with_reducible repeat (first | apply Kd.R_alloc | apply Kd.R_drewN | apply Kd.R_drew)); exact HO793.out) hb); have n6_ := Aside0.mk (Kd.R_below (by (with_reducible repeat (first | apply Kd.R_alloc | apply Kd.R_drewN | apply Kd.R_drew)); exact HO795.out) hb); have n7_ := Aside0.mk (Kd.S_lower (Kd.S_new' (Kd.S_new' (Kd.S_new' (Kd.S_new' (Kd.S_new' (Kd.S_new' ho0 (Kd.S_lt (by (with_reducible repeat (first | apply Kd.S_alloc | apply Kd.S_drewN | apply Kd.S_drew)); exact HO_5.out))) (Kd.S_lt (by (with_reducible repeat (first | apply Kd.S_alloc | apply Kd.S_drewN | apply Kd.S_drew)); exact HO_7.out))) (Kd.R_lt (by (with_reducible repeat (first | apply Kd.R_alloc | apply Kd.R_drewN | apply Kd.R_drew)); exact HO786.out))) (Kd.R_lt (by (with_reducible repeat (first | apply Kd.R_alloc | apply Kd.R_drewN | apply Kd.R_drew)); exact HO788.out))) (Kd.R_lt (by (with_reducible repeat (first | apply Kd.R_alloc | apply Kd.R_drewN | apply Kd.R_drew)); exact HO793.out))) (Kd.R_lt (by (with_reducible repeat (first | apply Kd.R_alloc | apply Kd.R_drewN | apply Kd.R_drew)); exact HO795.out))) (below_size (by repeat (first | (with_reducible first | exact HB.out | apply below_alloc | apply pw_below_drewN | apply below_drew1 | refine below_set ?_ GE759.out) | exact HB.out)))); have n8_ := Aside0.mk (blk_below (g := gb759) (o := .cells #[.int .i64 t755, .int .i64 t756, .int .i64 t757, .int .i64 t758] 41 (0, 0)) (by (with_reducible repeat (first | refine blk_drewN ?_ _ | refine blk_drew ?_ | refine blk_alloc ?_ _)); exact BK759.out) hb); have n9_ := Aside0.mk (below_step (by repeat (first | (with_reducible first | exact HB.out | apply below_alloc | apply pw_below_drewN | apply below_drew1 | refine below_set ?_ GE759.out) | exact HB.out)) hb); clear HO_5; clear HO_7; clear HO_102; clear HO786; clear HO788; clear HO793; clear HO795; clear BK759; clear HB; have HO_5 := n0_; have HO_7 := n1_; have HO_102 := n2_; have HO786 := n3_; have HO788 := n4_; have HO793 := n5_; have HO795 := n6_; have HO800 := n7_; have BK759 := n8_; have HB := n9_; clear n0_ n1_ n2_ n3_ n4_ n5_ n6_ n7_ n8_ n9_; (try clear hb); (try clear hb2); (try clear hk); (try clear hi); (try clear ho0)))
               go_ret
               exact ⟨by first | rfl | (simp [errW_none, errW_some] <;> rfl) | (simp [*, errW_none, errW_some] <;> rfl), by repeat (first | (with_reducible first | exact HB.out | apply below_alloc | apply pw_below_drewN | apply below_drew1 | refine below_set ?_ GE759.out) | exact HB.out)⟩
             ·
              replace c56 := Bool.eq_false_iff.mpr c56
              subst c56
              have H1 : (some true) = some r := by rw [if_neg (show ¬ (false = true) by decide)] at H; exact H
              clear H
              have H := H1
              clear H1
              obtain rfl := Option.some.inj H
              go_wp2
              go_ret
              exact ⟨by first | rfl | (simp [errW_none, errW_some] <;> rfl) | (simp [*, errW_none, errW_some] <;> rfl), by repeat (first | (with_reducible first | exact HB.out | apply below_alloc | apply pw_below_drewN | apply below_drew1 | refine below_set ?_ GE759.out) | exact HB.out)⟩
        ·
         replace c42 := Bool.eq_false_iff.mpr c42
         subst c42
         have H1 : (some (!t763)) = some r := by rw [if_neg (show ¬ (false = true) by decide)] at H; exact H
         clear H
         have H := H1
         clear H1
         obtain rfl := Option.some.inj H
         go_wp2
         go_ret
         exact ⟨by first | rfl | (simp [errW_none, errW_some] <;> rfl) | (simp [*, errW_none, errW_some] <;> rfl), by repeat (first | (with_reducible first | exact HB.out | apply below_alloc | apply pw_below_drewN | apply below_drew1 | refine below_set ?_ GE759.out) | exact HB.out)⟩
def laws_FnSwitchesKeepSums.Pure : Prop := ∀ (l0 : List Int) (l1 : List Int), l0.length ≤ maxLen → l0.length * 1 ≤ 140737488351232 → (∀ x ∈ l0, (Lit.int .u8 x).wf = true) → l1.length ≤ maxLen → l1.length * 1 ≤ 140737488351232 → (∀ x ∈ l1, (Lit.int .u8 x).wf = true) → ∃ k, laws_FnSwitchesKeepSums.f k l0 l1 = some true
theorem laws_FnSwitchesKeepSums.walk (P : laws_FnSwitchesKeepSums.Pure) (a0 : Option Addr) (len0 cap0 : Nat) (z0 : List Int) (a1 : Option Addr) (len1 cap1 : Nat) (z1 : List Int) (w : World) (w0 : (a0 = none ∧ len0 = 0 ∧ cap0 = 0 ∧ z0 = []) ∨ ∃ x, a0 = some x ∧ len0 ≤ cap0 ∧ cap0 ≤ maxLen ∧ z0.length = cap0 ∧ (∀ i, i < z0.length → w.cell? (x.add i) = some (.int .u8 (z0.getD i 0))) ∧ ∀ n ∈ z0, (Lit.int .u8 n).wf = true) (y0 : len0 * 1 ≤ 140737488351232) (w1 : (a1 = none ∧ len1 = 0 ∧ cap1 = 0 ∧ z1 = []) ∨ ∃ x, a1 = some x ∧ len1 ≤ cap1 ∧ cap1 ≤ maxLen ∧ z1.length = cap1 ∧ (∀ i, i < z1.length → w.cell? (x.add i) = some (.int .u8 (z1.getD i 0))) ∧ ∀ n ∈ z1, (Lit.int .u8 n).wf = true) (y1 : len1 * 1 ≤ 140737488351232) :
  Calls Try.prog 15 #[.slice a0 len0 cap0, .slice a1 len1 cap1] w fun e w' => e = .returned (.bool true) ∧ Below w.heap.size w w' := by
 obtain ⟨l0, rfl, hr0, hm0, hw0, hc0⟩ := ReadsInt.ofRowC w0
 obtain ⟨l1, rfl, hr1, hm1, hw1, hc1⟩ := ReadsInt.ofRowC w1
 obtain ⟨k, h⟩ := P l0 l1 hm0 y0 hw0 hm1 y1 hw1
 refine (laws_FnSwitchesKeepSums.calls k _ _ l0 _ _ l1 true w (Kd.C_of_reads (d := (0 : Int)) (h1 := fun _ => rfl) hr0) hc0 (Kd.C_of_reads (d := (0 : Int)) (h1 := fun _ => rfl) hr1) hc1 h).mono ?_
 rintro e w' ⟨rfl, hd⟩
 exact ⟨rfl, hd⟩
end Go.Proofs.Ytojcnapdalpnmaa.P
namespace Go.Proofs.Ytojcnapdalpnmaa.K
open Go.RowKit Go.Proofs.YtojcnapdalpnmaaW.PrintWords Go.Proofs.YtojcnapdalpnmaaW.PrintMore Go.Proofs.Ytojcnapdalpnmaa.P
def Bytes (code : List Int) : Prop := code.length ≤ 1048576 ∧ ∀ x ∈ code, 0 ≤ x ∧ x ≤ 255
theorem bytes_of {l : List Int} (hl : l.length ≤ 1048576) (h : ∀ x ∈ l, (Lit.int .u8 x).wf = true) : Bytes l := by
 refine ⟨hl, fun x hx => ?_⟩
 have := h x hx
 simp [Lit.wf, IntKind.min, IntKind.max, IntKind.signed, IntKind.bits] at this
 omega
theorem and255 (x : Int) : 0 ≤ Go.bits .and .u64 x 255 ∧ Go.bits .and .u64 x 255 ≤ 255 := by
 have h : (BitVec.ofInt 64 x &&& BitVec.ofInt 64 255).toNat ≤ 255 := by
  rw [BitVec.toNat_and]
  exact Nat.le_trans Nat.and_le_right (by decide)
 have key : Go.bits .and .u64 x 255 = IntKind.u64.wrap ((BitVec.ofInt 64 x &&& BitVec.ofInt 64 255).toNat : Int) := rfl
 rw [key]
 generalize (BitVec.ofInt 64 x &&& BitVec.ofInt 64 255).toNat = n at *
 simp only [IntKind.wrap, IntKind.bits, IntKind.signed]
 simp
 omega
theorem rd_byte {code : List Int} (hc : Bytes code) (i : Int) : 0 ≤ rd code i ∧ rd code i ≤ 255 := by
 unfold rd
 rw [List.getD_eq_getElem?_getD]
 cases h : code[i.toNat]? with
 | none => simp
 | some x =>
  have := List.mem_of_getElem? h
  exact hc.2 x this
section
variable {code : List Int}
theorem next_ok (hc : Bytes code) (a s : Int) (h0 : 0 ≤ a) (h1 : a ≤ 2305843009213693952) : ∃ x s', spec_l1Cur_next.f code a s = some (x, a + 1, s') ∧ 0 ≤ x ∧ x ≤ 255 := by
 have hw : wrap64 (a + 1) = a + 1 := wrap_id (by omega) (by omega)
 have hi : ∀ y, wrap64 (Go.bits .and .u64 y 255) = Go.bits .and .u64 y 255 := fun y => by have := and255 y; exact wrap_id (by omega) (by omega)
 have hr := rd_byte hc a
 have hq : wrap64 (rd code a) = rd code a := wrap_id (by omega) (by omega)
 unfold spec_l1Cur_next.f
 simp only [hw, hi, hq, if_pos h0]
 split
 ·
  split
  ·
   exact ⟨_, _, rfl, hr⟩
  ·
   exact ⟨_, _, rfl, and255 _⟩
 ·
  split
  ·
   exact ⟨_, _, rfl, by omega, by omega⟩
  ·
   exact ⟨_, _, rfl, and255 _⟩
theorem pick_ok (hc : Bytes code) (a s n : Int) (h0 : 0 ≤ a) (h1 : a ≤ 1152921504606846976) (hn : n ≤ 1099511627776) : ∃ x a' s', spec_l1Cur_pick.f code a s n = some (x, a', s') ∧ 0 ≤ x ∧ (1 ≤ n → x < n) ∧ (n ≤ 1 → x = 0) ∧ a ≤ a' ∧ a' ≤ a + 2 := by
 unfold spec_l1Cur_pick.f
 by_cases e : n ≤ 1
 ·
  rw [if_pos e]; exact ⟨_, _, _, rfl, by omega, by omega, fun _ => rfl, by omega, by omega⟩
 ·
  rw [if_neg e]
  obtain ⟨x, s1, e1, x0, x1⟩ := next_ok hc a s h0 (by omega)
  rw [e1, Option.bind_some]
  have hz : ¬ n = 0 := by omega
  by_cases e2 : n > 200
  ·
   rw [if_pos e2]
   obtain ⟨y, s2, e3, y0, y1⟩ := next_ok hc (a + 1) s1 (by omega) (by omega)
   simp only [e3, Option.bind_some, if_neg hz]
   have hw : wrap64 (wrap64 (x * 256) + y) = x * 256 + y := by
    rw [show wrap64 (x * 256) = x * 256 from wrap_id (by omega) (by omega)]; exact wrap_id (by omega) (by omega)
   rw [hw]
   have t0 := Int.tmod_nonneg n (show (0 : Int) ≤ x * 256 + y by omega)
   have t1 := Int.tmod_lt_of_pos (x * 256 + y) (show (0 : Int) < n by omega)
   exact ⟨_, _, _, rfl, t0, fun _ => t1, by omega, by omega, by omega⟩
  ·
   rw [if_neg e2]
   simp only [if_neg hz]
   have t0 := Int.tmod_nonneg n x0
   have t1 := Int.tmod_lt_of_pos x (show (0 : Int) < n by omega)
   exact ⟨_, _, _, rfl, t0, fun _ => t1, by omega, by omega, by omega⟩
theorem one_ok (hc : Bytes code) (a s n : Int) (h0 : 0 ≤ a) (h1 : a ≤ 1152921504606846976) (hn : n ≤ 1099511627776) : ∃ x a' s', spec_l1Cur_one.f code a s n = some (x, a', s') ∧ a ≤ a' ∧ a' ≤ a + 2 := by
 unfold spec_l1Cur_one.f
 obtain ⟨x, a', s', e, -, -, -, h2, h3⟩ := pick_ok hc a s n h0 h1 hn
 rw [e]
 exact ⟨_, _, _, rfl, h2, h3⟩
end
section
variable {code : List Int}
theorem list_l0 (hc : Bytes code) (m : Int) (hm0 : 0 ≤ m) (hm : m ≤ 1048576) : ∀ (d : Nat) (out : List Int) (a s : Int), out.length + d ≤ 1048576 → (∀ x ∈ out, 0 ≤ x ∧ x ≤ m) → 0 ≤ a → a + 2 * d ≤ 1152921504606846976 →
  ∃ r a' s', Ev (fun k => spec_l1Cur_list.l0 k m out (d : Int) code a s) (r, a', s') ∧ r.length = out.length + d ∧ (∀ x ∈ r, 0 ≤ x ∧ x ≤ m) ∧ 0 ≤ a' ∧ a' ≤ a + 2 * d := by
 intro d
 induction d with
 | zero =>
  intro out a s h1 h2 h3 h4
  exact ⟨out, a, s, Ev.step (fun k => by rw [spec_l1Cur_list.l0]) (by simpa using Ev.now _), by simp, h2, h3, by simp⟩
 | succ d ih =>
  intro out a s h1 h2 h3 h4
  have hw : wrap64 (m + 1) = m + 1 := wrap_id (by omega) (by omega)
  have hw2 : wrap64 (((d + 1 : Nat) : Int) - 1) = (d : Int) := by rw [wrap_id (by omega) (by omega)]; omega
  obtain ⟨x, a1, s1, e, x0, x1, -, a0, a2⟩ := pick_ok hc a s (m + 1) h3 (by omega) (by omega)
  obtain ⟨r, a', s', q1, q2, q3, q4, q5⟩ := ih (out ++ [x]) a1 s1 (by simp; omega) (fun y hy => by
   rcases List.mem_append.1 hy with hy | hy
   ·
    exact h2 y hy
   ·
    have := x1 (by omega); simp at hy; omega) (by omega) (by omega)
  refine ⟨r, a', s', Ev.step (fun k => by rw [spec_l1Cur_list.l0]) ?_, by simp at q2; omega, q3, q4, by omega⟩
  have p1 : ((d + 1 : Nat) : Int) > 0 := by omega
  have p2 : out.length < 17592186044416 := by omega
  simp only [if_pos p1, hw, e, Option.bind_some, if_pos p2, hw2]
  exact q1
theorem list_ok (hc : Bytes code) (m a s : Int) (hm0 : 0 ≤ m) (hm : m ≤ 1048576) (h0 : 0 ≤ a) (h1 : a ≤ 576460752303423488) : ∃ r a' s', Ev (fun k => spec_l1Cur_list.f k code a s m) (r, a', s') ∧ (1 ≤ r.length ∧ r.length ≤ 6 ∧ ∀ x ∈ r, 0 ≤ x ∧ x ≤ m) ∧ 0 ≤ a' ∧ a' ≤ a + 16 := by
 unfold spec_l1Cur_list.f
 obtain ⟨x, a1, s1, e, x0, x1, -, a0, a2⟩ := pick_ok hc a s 6 h0 (by omega) (by omega)
 have := x1 (by omega)
 obtain ⟨d, rfl⟩ := Int.eq_ofNat_of_zero_le x0
 have hw : wrap64 (1 + (d : Int)) = ((d + 1 : Nat) : Int) := by rw [wrap_id (by omega) (by omega)]; omega
 obtain ⟨r, a', s', q1, q2, q3, q4, q5⟩ := list_l0 hc m hm0 hm (d + 1) [] a1 s1 (by simp; omega) (by simp) (by omega) (by omega)
 simp only [e, Option.bind_some, hw]
 exact ⟨r, a', s', q1, ⟨by simp at q2; omega, by simp at q2; omega, q3⟩, q4, by omega⟩
def Rows8 (t : List (List Int)) : Prop := t.length ≤ 8 ∧ ∀ r ∈ t, r.length ≤ 8 ∧ ∀ x ∈ r, 0 ≤ x ∧ x ≤ 2
theorem grid_l1 (hc : Bytes code) (x3 : Int) (n : Nat) (hn : n ≤ 8) (t : List (List Int)) : ∀ (d : Nat) (row : List Int) (a s : Int), row.length + d = n → (∀ x ∈ row, 0 ≤ x ∧ x ≤ 2) → 0 ≤ a → a + 2 * d ≤ 1152921504606846976 → t.length < 100 →
  ∃ r a' s', (r.length = n ∧ ∀ x ∈ r, 0 ≤ x ∧ x ≤ 2) ∧ 0 ≤ a' ∧ a' ≤ a + 2 * d ∧ ∀ y, Ev (fun k => spec_l1Cur_grid.l0 k (wrap64 (x3 - 1)) n (t ++ [r]) code a' s') y → Ev (fun k => spec_l1Cur_grid.l1 k x3 n t row code a s) y := by
 intro d
 induction d with
 | zero =>
  intro row a s h1 h2 h3 h4 h5
  refine ⟨row, a, s, ⟨by omega, h2⟩, h3, by omega, fun y hy => Ev.step (fun k => by rw [spec_l1Cur_grid.l1]) ?_⟩
  have p1 : ¬ (row.length : Int) < (n : Int) := by omega
  have p2 : t.length < 5864062014805 := by omega
  simp only [if_neg p1, if_pos p2]
  exact hy
 | succ d ih =>
  intro row a s h1 h2 h3 h4 h5
  obtain ⟨x, a1, s1, e, x0, x1, -, a0, a2⟩ := pick_ok hc a s 2 h3 (by omega) (by omega)
  have := x1 (by omega)
  obtain ⟨r, a', s', q1, q2, q3, q4⟩ := ih (row ++ [x]) a1 s1 (by simp; omega) (fun y hy => by
   rcases List.mem_append.1 hy with hy | hy
   ·
    exact h2 y hy
   ·
    simp at hy; omega) (by omega) (by omega) h5
  refine ⟨r, a', s', q1, q2, by omega, fun y hy => Ev.step (fun k => by rw [spec_l1Cur_grid.l1]) ?_⟩
  have p1 : (row.length : Int) < (n : Int) := by omega
  have p2 : row.length < 17592186044416 := by omega
  simp only [if_pos p1, e, Option.bind_some, if_pos p2]
  exact q4 y hy
theorem grid_end (hc : Bytes code) (x4 : Int) (t : List (List Int)) (ht : Rows8 t) (h : 1 ≤ t.length) (a s : Int) (h0 : 0 ≤ a) (h1 : a ≤ 288230376151711744) : ∃ r a' s', Ev (fun k => spec_l1Cur_grid.l0 k 0 x4 t code a s) (r, a', s') ∧ Rows8 r ∧ 0 ≤ a' ∧ a' ≤ a + 20 := by
 obtain ⟨x, a1, s1, e, x0, x1, -, a0, a2⟩ := pick_ok hc a s 16 h0 (by omega) (by omega)
 have p1 : ¬ (0 : Int) > 0 := by omega
 by_cases e1 : x = 0
 ·
  obtain ⟨y, b1, z1, f, y0, y1, -, b0, b2⟩ := pick_ok hc a1 s1 (t.length : Int) (by omega) (by omega) (by have := ht.1; omega)
  obtain ⟨r, b3, z3, g1, ⟨g2, g3, g4⟩, g5, g6⟩ := list_ok hc 2 b1 z1 (by omega) (by omega) (by omega) (by omega)
  have := y1 (by omega)
  refine ⟨t.set y.toNat r, b3, z3, Ev.step (fun k => by rw [spec_l1Cur_grid.l0]) ?_, ⟨by simp; exact ht.1, fun z hz => ?_⟩, g5, by omega⟩
  ·
   simp only [if_neg p1, e, Option.bind_some, if_pos e1, f]
   refine Ev.bind g1 ?_
   simp only [if_pos y0, if_pos this]
   exact Ev.now _
  ·
   rcases List.mem_or_eq_of_mem_set hz with hz | rfl
   ·
    exact ht.2 z hz
   ·
    exact ⟨by omega, g4⟩
 ·
  by_cases e2 : x = 1
  ·
   refine ⟨[], a1, s1, Ev.step (fun k => by rw [spec_l1Cur_grid.l0]) ?_, ⟨by simp, by simp⟩, by omega, by omega⟩
   simp only [if_neg p1, e, Option.bind_some, if_neg e1, if_pos e2]
   exact Ev.now _
  ·
   refine ⟨t, a1, s1, Ev.step (fun k => by rw [spec_l1Cur_grid.l0]) ?_, ht, by omega, by omega⟩
   simp only [if_neg p1, e, Option.bind_some, if_neg e1, if_neg e2]
   exact Ev.now _
theorem grid_l0 (hc : Bytes code) (n : Nat) (hn : n ≤ 8) : ∀ (d : Nat) (t : List (List Int)) (a s : Int), t.length + d ≤ 8 → 1 ≤ t.length + d → Rows8 t → 0 ≤ a → a + 20 * d ≤ 288230376151711744 →
  ∃ r a' s', Ev (fun k => spec_l1Cur_grid.l0 k (d : Int) n t code a s) (r, a', s') ∧ Rows8 r ∧ 0 ≤ a' ∧ a' ≤ a + 20 * d + 20 := by
 intro d
 induction d with
 | zero =>
  intro t a s h1 h2 h3 h4 h5
  obtain ⟨r, a', s', q1, q2, q3, q4⟩ := grid_end hc n t h3 (by omega) a s h4 (by omega)
  exact ⟨r, a', s', q1, q2, q3, by omega⟩
 | succ d ih =>
  intro t a s h1 h2 h3 h4 h5
  obtain ⟨row, a1, s1, ⟨r1, r2⟩, q2, q3, q4⟩ := grid_l1 hc ((d + 1 : Nat) : Int) n hn t n [] a s (by simp) (by simp) h4 (by omega) (by omega)
  have hw2 : wrap64 (((d + 1 : Nat) : Int) - 1) = (d : Int) := by rw [wrap_id (by omega) (by omega)]; omega
  rw [hw2] at q4
  obtain ⟨r, a', s', z1, z2, z3, z4⟩ := ih (t ++ [row]) a1 s1 (by simp; omega) (by simp; omega) ⟨by simp; omega, fun z hz => by
   rcases List.mem_append.1 hz with hz | hz
   ·
    exact h3.2 z hz
   ·
    simp at hz; subst hz; exact ⟨by omega, r2⟩⟩ q2 (by omega)
  refine ⟨r, a', s', Ev.step (fun k => by rw [spec_l1Cur_grid.l0]) ?_, z2, z3, by omega⟩
  have p1 : ((d + 1 : Nat) : Int) > 0 := by omega
  simp only [if_pos p1]
  exact q4 _ z1
theorem grid_j (hc : Bytes code) (m n : Int) (hm0 : 1 ≤ m) (hm : m ≤ 8) (hn0 : 0 ≤ n) (hn : n ≤ 8) (a s : Int) (h0 : 0 ≤ a) (h1 : a ≤ 72057594037927936) :
  ∃ r a' s', Ev (fun k => spec_l1Cur_grid.j0 k m n code a s) (r, a', s') ∧ Rows8 r ∧ 0 ≤ a' ∧ a' ≤ a + 200 := by
 obtain ⟨d, rfl⟩ := Int.eq_ofNat_of_zero_le (show 0 ≤ m by omega)
 obtain ⟨x, a1, s1, e, a0, a2⟩ := one_ok hc a s 12 h0 (by omega) (by omega)
 by_cases hx : x = true
 ·
  obtain ⟨y, b1, z1, f, y0, y1, -, b0, b2⟩ := pick_ok hc a1 s1 2 (by omega) (by omega) (by omega)
  have := y1 (by omega)
  obtain ⟨j, rfl⟩ := Int.eq_ofNat_of_zero_le y0
  have hw : wrap64 (6 + (j : Int)) = ((6 + j : Nat) : Int) := by rw [wrap_id (by omega) (by omega)]; omega
  obtain ⟨r, a', s', q1, q2, q3, q4⟩ := grid_l0 hc (6 + j) (by omega) d [] b1 z1 (by simp; omega) (by simp; omega) ⟨by simp, by simp⟩ (by omega) (by omega)
  refine ⟨r, a', s', Ev.step (fun k => by rw [spec_l1Cur_grid.j0]) ?_, q2, q3, by omega⟩
  simp only [e, Option.bind_some, if_pos hx, f, hw]
  exact Ev.step (fun k => by rw [spec_l1Cur_grid.j1]) q1
 ·
  obtain ⟨j, rfl⟩ := Int.eq_ofNat_of_zero_le hn0
  obtain ⟨r, a', s', q1, q2, q3, q4⟩ := grid_l0 hc j (by omega) d [] a1 s1 (by simp; omega) (by simp; omega) ⟨by simp, by simp⟩ (by omega) (by omega)
  refine ⟨r, a', s', Ev.step (fun k => by rw [spec_l1Cur_grid.j0]) ?_, q2, q3, by omega⟩
  simp only [e, Option.bind_some, if_neg hx]
  exact Ev.step (fun k => by rw [spec_l1Cur_grid.j1]) q1
theorem grid_ok (hc : Bytes code) (a s : Int) (h0 : 0 ≤ a) (h1 : a ≤ 36028797018963968) :
  ∃ r a' s', Ev (fun k => spec_l1Cur_grid.f k code a s) (r, a', s') ∧ Rows8 r ∧ 0 ≤ a' ∧ a' ≤ a + 240 := by
 unfold spec_l1Cur_grid.f
 obtain ⟨x, a1, s1, e, x0, x1, -, a0, a2⟩ := pick_ok hc a s 4 h0 (by omega) (by omega)
 obtain ⟨y, b1, z1, f, y0, y1, -, b0, b2⟩ := pick_ok hc a1 s1 4 (by omega) (by omega) (by omega)
 obtain ⟨o, c1, u1, g, c0, c2⟩ := one_ok hc b1 z1 12 (by omega) (by omega) (by omega)
 have := x1 (by omega)
 have := y1 (by omega)
 have hw : wrap64 (1 + y) = 1 + y := wrap_id (by omega) (by omega)
 have hw2 : wrap64 (1 + x) = 1 + x := wrap_id (by omega) (by omega)
 simp only [e, f, g, Option.bind_some, hw, hw2]
 by_cases ho : o = true
 ·
  obtain ⟨v, d1, t1, h, v0, v1, -, d0, d2⟩ := pick_ok hc c1 u1 2 (by omega) (by omega) (by omega)
  have := v1 (by omega)
  have hw3 : wrap64 (6 + v) = 6 + v := wrap_id (by omega) (by omega)
  obtain ⟨r, a', s', q1, q2, q3, q4⟩ := grid_j hc (6 + v) (1 + y) (by omega) (by omega) (by omega) (by omega) d1 t1 (by omega) (by omega)
  refine ⟨r, a', s', ?_, q2, q3, by omega⟩
  simp only [if_pos ho, h, Option.bind_some, hw3]
  exact q1
 ·
  obtain ⟨r, a', s', q1, q2, q3, q4⟩ := grid_j hc (1 + x) (1 + y) (by omega) (by omega) (by omega) (by omega) c1 u1 (by omega) (by omega)
  refine ⟨r, a', s', ?_, q2, q3, by omega⟩
  simp only [if_neg ho]
  exact q1
end
end Go.Proofs.Ytojcnapdalpnmaa.K
namespace Go.Proofs.Ytojcnapdalpnmaa.K
open Go.RowKit Go.Proofs.YtojcnapdalpnmaaW.PrintWords
theorem contLoopI {σ α : Type} (g : σ → Nat → Nat → Option α) (n : Nat) (I : σ → Nat → Prop)
  (hs : ∀ s j, j < n → I s j → ∃ s', I s' (j + 1) ∧ ∀ x, Ev (g s' (j + 1)) x → Ev (g s j) x) : ∀ d s j, j + d = n → I s j → ∃ s', I s' n ∧ ∀ x, Ev (g s' n) x → Ev (g s j) x := by
 intro d
 induction d with
 | zero =>
  intro s j hj hi
  obtain rfl : j = n := by omega
  exact ⟨s, hi, fun x h => h⟩
 | succ d ih =>
  intro s j hj hi
  obtain ⟨s1, h1, h2⟩ := hs s j (by omega) hi
  obtain ⟨s2, h3, h4⟩ := ih _ _ (by omega) h1
  exact ⟨s2, h3, fun x h => h2 x (h4 x h)⟩
end Go.Proofs.Ytojcnapdalpnmaa.K
namespace Go.Proofs.Ytojcnapdalpnmaa.K
open Go.RowKit Go.Proofs.YtojcnapdalpnmaaW.PrintWords Go.Proofs.Ytojcnapdalpnmaa.P
theorem mapRow_length (g : Int → Int → Int → Int) (i : Nat) : ∀ (l : List Int) (j : Nat), (mapRow g i j l).length = l.length
 | [], _ => rfl
 | _ :: l, j => by simp [mapRow, mapRow_length g i l (j + 1)]
theorem mapRows_length (g : Int → Int → Int → Int) : ∀ (l : List (List Int)) (i : Nat), (mapRows g i l).length = l.length
 | [], _ => rfl
 | _ :: l, i => by simp [mapRows, mapRows_length g l (i + 1)]
theorem mapRows_mem (g : Int → Int → Int → Int) : ∀ (l : List (List Int)) (i : Nat) (r : List Int), r ∈ mapRows g i l → ∃ r0 ∈ l, r.length = r0.length
 | [], _, _, h => by cases h
 | x :: l, i, r, h => by
  rcases List.mem_cons.1 h with rfl | h
  ·
   exact ⟨x, by simp, mapRow_length ..⟩
  ·
   obtain ⟨r0, h1, h2⟩ := mapRows_mem g l (i + 1) r h
   exact ⟨r0, by simp [h1], h2⟩
def rowN (l : List (List Int)) (i : Nat) : List Int := rd_L1 l (i : Int)
def at2 (l : List (List Int)) (i j : Nat) : Int := rd (rowN l i) (j : Int)
theorem rowN_at {l : List (List Int)} {i : Nat} (h : i < l.length) : rowN l i = l[i] := by
 unfold rowN rd_L1; simp [List.getD_eq_getElem?_getD, List.getElem?_eq_getElem h]
theorem rdN_at {l : List Int} {i : Nat} (h : i < l.length) : rd l (i : Int) = l[i] := by
 unfold rd; simp [List.getD_eq_getElem?_getD, List.getElem?_eq_getElem h]
theorem rowN_mem {l : List (List Int)} {i : Nat} (h : i < l.length) : rowN l i ∈ l := by rw [rowN_at h]; exact List.getElem_mem _
theorem rows_ext {l l' : List (List Int)} (h : l.length = l'.length) (hr : ∀ i, i < l.length → (rowN l i).length = (rowN l' i).length) (ha : ∀ i j, i < l.length → j < (rowN l i).length → at2 l i j = at2 l' i j) : l = l' := by
 apply List.ext_getElem h
 intro i h1 h2
 have e1 := rowN_at h1
 have e2 := rowN_at h2
 rw [← e1, ← e2]
 apply List.ext_getElem (hr i h1)
 intro j h3 h4
 have := ha i j h1 h3
 unfold at2 at this
 rwa [rdN_at h3, rdN_at h4] at this
theorem mapRow_at (g : Int → Int → Int → Int) (i : Nat) : ∀ (l : List Int) (j0 j : Nat), j < l.length → rd (mapRow g i j0 l) (j : Int) = g (i : Int) ((j0 + j : Nat) : Int) (rd l (j : Int))
 | [], _, _, h => by simp at h
 | x :: l, j0, 0, _ => by simp [mapRow, rd]
 | x :: l, j0, j + 1, h => by
  have := mapRow_at g i l (j0 + 1) j (by simpa using h)
  have e : ∀ (y : Int) (m : List Int), rd (y :: m) ((j + 1 : Nat) : Int) = rd m (j : Int) := fun y m => by simp [rd]
  rw [mapRow, e, e, this]; congr 2; omega
theorem mapRows_row (g : Int → Int → Int → Int) : ∀ (l : List (List Int)) (i0 i : Nat), i < l.length → rowN (mapRows g i0 l) i = mapRow g (i0 + i) 0 (rowN l i)
 | [], _, _, h => by simp at h
 | x :: l, i0, 0, _ => by simp [mapRows, rowN, rd_L1]
 | x :: l, i0, i + 1, h => by
  have := mapRows_row g l (i0 + 1) i (by simpa using h)
  have e : ∀ (y : List Int) (m : List (List Int)), rowN (y :: m) (i + 1) = rowN m i := fun y m => by simp [rowN, rd_L1]
  rw [mapRows, e, e, this]; congr 1; omega
theorem mapRows_at (g : Int → Int → Int → Int) (l : List (List Int)) (i j : Nat) (hi : i < l.length) (hj : j < (rowN l i).length) : at2 (mapRows g 0 l) i j = g (i : Int) (j : Int) (at2 l i j) := by
 unfold at2
 rw [mapRows_row g l 0 i hi, mapRow_at g _ _ 0 j hj]
 simp
def flip2 (l : List (List Int)) (i j : Nat) : List (List Int) := l.set i ((rowN l i).set j (wrap64 (1 - at2 l i j)))
theorem flip2_length (l : List (List Int)) (i j : Nat) : (flip2 l i j).length = l.length := by simp [flip2]
theorem flip2_row (l : List (List Int)) (i j i' : Nat) (hi : i < l.length) : rowN (flip2 l i j) i' = if i' = i then (rowN l i).set j (wrap64 (1 - at2 l i j)) else rowN l i' := by
 unfold flip2 rowN rd_L1
 simp only [Int.toNat_natCast, List.getD_eq_getElem?_getD, List.getElem?_set]
 by_cases e : i = i'
 ·
  subst e; simp [hi]
 ·
  rw [if_neg e, if_neg (fun h => e h.symm)]
theorem flip2_rowlen (l : List (List Int)) (i j i' : Nat) (hi : i < l.length) : (rowN (flip2 l i j) i').length = (rowN l i').length := by
 rw [flip2_row l i j i' hi]
 by_cases e : i' = i
 ·
  subst e; simp
 ·
  rw [if_neg e]
theorem flip2_at (l : List (List Int)) (i j i' j' : Nat) (hi : i < l.length) (hj : j < (rowN l i).length) : at2 (flip2 l i j) i' j' = if i' = i ∧ j' = j then wrap64 (1 - at2 l i j) else at2 l i' j' := by
 unfold at2
 rw [flip2_row l i j i' hi]
 by_cases e : i' = i
 ·
  subst e
  simp only [if_true, true_and, rd, Int.toNat_natCast, List.getD_eq_getElem?_getD, List.getElem?_set]
  by_cases e2 : j = j'
  ·
   subst e2; simp [hj, at2, rd]
  ·
   rw [if_neg e2, if_neg (fun h => e2 h.symm)]
 ·
  rw [if_neg e, if_neg (fun h => e h.1)]
theorem grid_rowN {l : List (List Int)} (hg : gridB l = true) : ∀ i, i < l.length → (rowN l i).length = (rd_L1 l 0).length := fun i hi => ((grid_get hg).2.2.2.2 _ (rowN_mem hi)).1
def sumR : Nat → (Nat → Int) → Int
 | 0, _ => 0
 | n + 1, f => sumR n f + f n
theorem sumR_congr : ∀ {n : Nat} {f g : Nat → Int}, (∀ i, i < n → f i = g i) → sumR n f = sumR n g
 | 0, _, _, _ => rfl
 | n + 1, f, g, h => by simp only [sumR]; rw [sumR_congr (fun i hi => h i (by omega)), h n (by omega)]
theorem sumR_set : ∀ (n : Nat) (f : Nat → Int) (a : Nat) (v : Int), a < n → sumR n (fun i => if i = a then v else f i) = sumR n f + (v - f a)
 | 0, _, _, _, h => by omega
 | n + 1, f, a, v, ha => by
  simp only [sumR]
  by_cases e : a = n
  ·
   subst e
   rw [sumR_congr (g := f) (fun i hi => by rw [if_neg (by omega)])]; simp; omega
  ·
   rw [sumR_set n f a v (by omega), if_neg (fun h => e h.symm)]; omega
def pSw (t : List (List Int)) (r s c d : Nat) : List (List Int) := mapRows (swNum ((min r s : Nat) : Int) ((max r s : Nat) : Int) (c : Int) (d : Int)) 0 t
def Shape (n m : Nat) (t : List (List Int)) : Prop := t.length = n ∧ (∀ i, i < n → (rowN t i).length = m) ∧ ∀ i j, i < n → j < m → at2 t i j = 0 ∨ at2 t i j = 1
theorem pSw_at {n m : Nat} {t : List (List Int)} (h : Shape n m t) {r s c d : Nat} (hr : r < n) (hs : s < n) (hc : c < m) (hd : d < m) (i j : Nat) (hi : i < n) (hj : j < m) :
  at2 (pSw t r s c d) i j = if (i = r ∨ i = s) ∧ (j = c ∨ j = d) then 1 - at2 t i j else at2 t i j := by
 obtain ⟨h1, h2, h3⟩ := h
 unfold pSw
 rw [mapRows_at _ _ _ _ (by omega) (by rw [h2 i hi]; exact hj)]
 unfold swNum
 have hx := h3 i j hi hj
 have hw : wrap64 (1 - at2 t i j) = 1 - at2 t i j := by unfold wrap64; omega
 rw [hw]
 have e : ((i : Int) = ((min r s : Nat) : Int) ∨ (i : Int) = ((max r s : Nat) : Int)) ↔ (i = r ∨ i = s) := by omega
 have e2 : ((j : Int) = (c : Int) ∨ (j : Int) = (d : Int)) ↔ (j = c ∨ j = d) := by omega
 simp only [e, e2]
theorem pSw_shape {n m : Nat} {t : List (List Int)} (h : Shape n m t) {r s c d : Nat} (hr : r < n) (hs : s < n) (hc : c < m) (hd : d < m) : Shape n m (pSw t r s c d) := by
 have h' := h
 obtain ⟨h1, h2, h3⟩ := h
 refine ⟨by unfold pSw; rw [mapRows_length]; exact h1, fun i hi => ?_, fun i j hi hj => ?_⟩
 ·
  unfold pSw; rw [mapRows_row _ _ _ _ (by omega), mapRow_length]; exact h2 i hi
 ·
  rw [pSw_at h' hr hs hc hd i j hi hj]
  have := h3 i j hi hj
  split <;> omega
theorem pSw_rows {n m : Nat} {t : List (List Int)} (h : Shape n m t) {r s c d : Nat} (hr : r < n) (hs : s < n) (hc : c < m) (hd : d < m) (hcd : c ≠ d) (h1 : at2 t r c + at2 t r d = 1) (h2 : at2 t s c + at2 t s d = 1) (i : Nat) (hi : i < n) :
  sumR m (at2 (pSw t r s c d) i) = sumR m (at2 t i) := by
 by_cases hrs : i = r ∨ i = s
 ·
  have e : ∀ j, j < m → at2 (pSw t r s c d) i j = (fun j => if j = c then 1 - at2 t i c else (fun j => if j = d then 1 - at2 t i d else at2 t i j) j) j := fun j hj => by
   rw [pSw_at h hr hs hc hd i j hi hj]
   by_cases e1 : j = c
   ·
    subst e1; simp [hrs]
   ·
    by_cases e2 : j = d
    ·
     subst e2; simp [hrs, e1]
    ·
     simp [e1, e2]
  rw [sumR_congr e, sumR_set m _ c _ hc, sumR_set m _ d _ hd]
  rw [if_neg hcd]
  rcases hrs with rfl | rfl <;> omega
 ·
  exact sumR_congr (fun j hj => by rw [pSw_at h hr hs hc hd i j hi hj, if_neg (fun hh => hrs hh.1)])
theorem pSw_cols {n m : Nat} {t : List (List Int)} (h : Shape n m t) {r s c d : Nat} (hr : r < n) (hs : s < n) (hc : c < m) (hd : d < m) (hrs : r ≠ s) (h1 : at2 t r c + at2 t s c = 1) (h2 : at2 t r d + at2 t s d = 1) (j : Nat) (hj : j < m) :
  sumR n (fun i => at2 (pSw t r s c d) i j) = sumR n (fun i => at2 t i j) := by
 by_cases hcd : j = c ∨ j = d
 ·
  have e : ∀ i, i < n → (fun i => at2 (pSw t r s c d) i j) i = (fun i => if i = r then 1 - at2 t r j else (fun i => if i = s then 1 - at2 t s j else at2 t i j) i) i := fun i hi => by
   (try dsimp only)
   rw [pSw_at h hr hs hc hd i j hi hj]
   by_cases e1 : i = r
   ·
    subst e1; simp [hcd]
   ·
    by_cases e2 : i = s
    ·
     subst e2; simp [hcd, e1]
    ·
     simp [e1, e2]
  rw [sumR_congr e, sumR_set n _ r _ hr, sumR_set n _ s _ hs]
  rw [if_neg hrs]
  rcases hcd with rfl | rfl <;> omega
 ·
  exact sumR_congr (fun i hi => by rw [pSw_at h hr hs hc hd i j hi hj, if_neg (fun hh => hcd hh.2)])
theorem l1Own_f (l : List Int) (h : l.length ≤ 1048576) : spec_l1Own.f l = some l := by
 unfold spec_l1Own.f
 simp only [Option.bind_some, List.length_nil, List.nil_append]
 rw [if_pos (by omega)]
theorem maOwn_l0 : ∀ (rest done x3 : List (List Int)), (done ++ rest).length ≤ 1048576 → (∀ r ∈ rest, r.length ≤ 1048576) → x3.length = done.length → Ev (fun k => spec_maOwn.l0 k x3 (done ++ rest) ((done ++ rest).length : Int) (done.length : Int)) (x3 ++ rest) := by
 intro rest
 induction rest with
 | nil => intro done x3 h _ _; exact Ev.step (fun k => by simp [spec_maOwn.l0]; rfl) (Ev.some (by simp))
 | cons r rest ih =>
  intro done x3 h hr hx
  obtain ⟨q1, q2, q3, q4, q5⟩ := midL r done rest (by unfold maxLen; omega)
  have ih' := ih (done ++ [r]) (x3 ++ [r]) (by rw [q5]; exact h) (fun y hy => hr y (by simp [hy])) (by simp [hx])
  rw [q5] at ih'
  have hl : x3.length < 5864062014805 := by simp at h; omega
  refine Ev.step (fun k => by rw [spec_maOwn.l0]) ?_
  simp only [if_pos q1, if_pos q2, q3, q4, l1Own_f r (hr r (by simp)), Option.bind_some, if_pos hl]
  exact Ev.pair ih' (by simp)
theorem maOwn_f (l : List (List Int)) (h : l.length ≤ 1048576) (hr : ∀ r ∈ l, r.length ≤ 1048576) : Ev (fun k => spec_maOwn.f k l) l := by
 unfold spec_maOwn.f
 exact maOwn_l0 l [] [] h hr rfl
theorem maDo_l1 (l : List (List Int)) (i c b : Nat) (x16 : List Int) (x17 x18 u0 u1 u2 u3 : Int) (hi : i < l.length) (hc : c < (rowN l i).length) (hb : b < (rowN l i).length) (y : List (List Int))
  (h : Ev (fun k => spec_maDo.l0 k (flip2 (flip2 l i c) i b) x16 x17 (wrap64 (x18 + 1)) u0 u1 u2 u3) y) :
  Ev (fun k => spec_maDo.l1 k l (i : Int) x16 x17 x18 [(c : Int), (b : Int)] 2 0 u0 u1 u2 u3) y := by
 have step : ∀ (l : List (List Int)) (j : Nat) (x28 : Int) (m : Nat), x28 = m → m < 2 → rd [(c : Int), (b : Int)] x28 = (j : Int) → i < l.length → j < (rowN l i).length → Ev (fun k => spec_maDo.l1 k (flip2 l i j) (i : Int) x16 x17 x18 [(c : Int), (b : Int)] 2 (wrap64 (x28 + 1)) u0 u1 u2 u3) y → Ev (fun k => spec_maDo.l1 k l (i : Int) x16 x17 x18 [(c : Int), (b : Int)] 2 x28 u0 u1 u2 u3) y := by
  intro l j x28 m hm hm2 hrd hi hj hy
  refine Ev.step (fun k => by rw [spec_maDo.l1]) ?_
  have q1 : x28 < 2 := by omega
  have q2 : 0 ≤ x28 := by omega
  have q3 : x28 < ([(c : Int), (b : Int)].length : Int) := by simp; omega
  have q4 : 0 ≤ (i : Int) := by omega
  have q5 : (i : Int) < (l.length : Int) := by omega
  have q6 : 0 ≤ (j : Int) := by omega
  have q7 : (j : Int) < ((rd_L1 l (i : Int)).length : Int) := by have : (rowN l i).length = (rd_L1 l (i : Int)).length := rfl; omega
  simp only [if_pos q1, if_pos q2, if_pos q3, if_pos q4, if_pos q5, hrd, if_pos q6, if_pos q7, Int.toNat_natCast]
  exact hy
 refine step l c 0 0 rfl (by omega) (by simp [rd]) hi hc ?_
 rw [show wrap64 (0 + 1) = ((1 : Nat) : Int) by unfold wrap64; omega]
 refine step (flip2 l i c) b _ 1 rfl (by omega) (by simp [rd]) (by rw [flip2_length]; exact hi) (by rw [flip2_rowlen _ _ _ _ hi]; exact hb) ?_
 rw [show wrap64 (((1 : Nat) : Int) + 1) = 2 by unfold wrap64; omega]
 refine Ev.step (fun k => by rw [spec_maDo.l1]) ?_
 simp only [if_neg (show ¬ (2 : Int) < 2 by omega)]
 exact h
def flips (l : List (List Int)) (r o c b : Nat) : List (List Int) := flip2 (flip2 (flip2 (flip2 l r c) r b) o c) o b
theorem flips_eq (l : List (List Int)) (r o c b m : Nat) (h1 : r < o) (h2 : o < l.length) (h3 : c < b) (h4 : b < m) (hm : ∀ i, i < l.length → (rowN l i).length = m) : flips l r o c b = mapRows (swNum r o c b) 0 l := by
 have z : ∀ (l : List (List Int)) (i j : Nat), i < l.length → ∀ i', (rowN (flip2 l i j) i').length = (rowN l i').length := fun l i j hi i' => flip2_rowlen l i j i' hi
 have e1 : ∀ i', (rowN (flip2 l r c) i').length = (rowN l i').length := z l r c (by omega)
 have e2 : ∀ i', (rowN (flip2 (flip2 l r c) r b) i').length = (rowN l i').length := fun i' => (z _ r b (by rw [flip2_length]; omega) i').trans (e1 i')
 have e3 : ∀ i', (rowN (flip2 (flip2 (flip2 l r c) r b) o c) i').length = (rowN l i').length := fun i' => (z _ o c (by simp only [flip2_length]; omega) i').trans (e2 i')
 have e4 : ∀ i', (rowN (flips l r o c b) i').length = (rowN l i').length := fun i' => (z _ o b (by simp only [flip2_length]; omega) i').trans (e3 i')
 have hr := hm r (by omega)
 have ho := hm o h2
 apply rows_ext
 ·
  simp only [flips, flip2_length, mapRows_length]
 ·
  intro i hi
  simp only [flips, flip2_length] at hi
  rw [e4, mapRows_row _ _ _ _ hi, mapRow_length]
 ·
  intro i j hi hj
  simp only [flips, flip2_length] at hi
  rw [e4] at hj
  rw [mapRows_at _ _ _ _ hi hj]
  unfold flips
  rw [flip2_at _ o b i j (by simp only [flip2_length]; omega) (by rw [e3]; omega), flip2_at _ o c i j (by simp only [flip2_length]; omega) (by rw [e2]; omega), flip2_at _ o c o b (by simp only [flip2_length]; omega) (by rw [e2]; omega),
   flip2_at _ r b i j (by simp only [flip2_length]; omega) (by rw [e1]; omega), flip2_at _ r b o c (by simp only [flip2_length]; omega) (by rw [e1]; omega), flip2_at _ r b o b (by simp only [flip2_length]; omega) (by rw [e1]; omega),
   flip2_at _ r c i j (by omega) (by omega), flip2_at _ r c o c (by omega) (by omega), flip2_at _ r c o b (by omega) (by omega), flip2_at _ r c r b (by omega) (by omega)]
  unfold swNum
  have n1 : ¬ o = r := by omega
  have n2 : ¬ b = c := by omega
  simp only [n1, n2, false_and, and_false, if_false]
  have w : ∀ a b : Nat, ((a : Int) = (b : Int)) ↔ a = b := fun a b => by omega
  simp only [w]
  by_cases a1 : i = o
  ·
   subst a1
   by_cases a3 : j = b
   ·
    subst a3; simp
   ·
    by_cases a4 : j = c
    ·
     subst a4; simp [a3]
    ·
     simp [a3, a4]
  ·
   by_cases a2 : i = r
   ·
    subst a2
    by_cases a3 : j = b
    ·
     subst a3; simp [a1]
    ·
     by_cases a4 : j = c
     ·
      subst a4; simp [a1, a3]
     ·
      simp [a1, a3, a4]
   ·
    simp [a1, a2]
theorem maDo_f (l : List (List Int)) (r o c b m : Nat) (h0 : l.length ≤ 1048576) (h1 : r < o) (h2 : o < l.length) (h3 : c < b) (h4 : b < m) (hm1 : m ≤ 1048576) (hm : ∀ i, i < l.length → (rowN l i).length = m) : Ev (fun k => spec_maDo.f k l r o c b) (mapRows (swNum r o c b) 0 l) := by
 unfold spec_maDo.f
 refine Ev.bind (maOwn_f l h0 (fun x hx => ?_)) ?_
 ·
  obtain ⟨i, hi, rfl⟩ := List.getElem_of_mem hx
  rw [← rowN_at hi, hm i hi]; exact hm1
 simp only [Option.bind_some]
 have hl : (([(r : Int), (o : Int)] : List Int).length : Int) = 2 := rfl
 have hl2 : (([(c : Int), (b : Int)] : List Int).length : Int) = 2 := rfl
 rw [hl]
 refine Ev.step (fun k => by rw [spec_maDo.l0]) ?_
 simp only [if_pos (show (0 : Int) < 2 by omega), if_pos (show (0 : Int) ≤ 0 by omega), hl, Option.bind_some, hl2, show rd [(r : Int), (o : Int)] 0 = (r : Int) by simp [rd]]
 refine maDo_l1 l r c b _ _ _ _ _ _ _ (by omega) (by rw [hm r (by omega)]; omega) (by rw [hm r (by omega)]; omega) _ ?_
 rw [show wrap64 (0 + 1) = 1 by unfold wrap64; omega]
 refine Ev.step (fun k => by rw [spec_maDo.l0]) ?_
 simp only [if_pos (show (1 : Int) < 2 by omega), if_pos (show (0 : Int) ≤ 1 by omega), hl, Option.bind_some, hl2, show rd [(r : Int), (o : Int)] 1 = (o : Int) by simp [rd]]
 have hlen : ∀ i', (rowN (flip2 (flip2 l r c) r b) i').length = (rowN l i').length := fun i' => (flip2_rowlen _ r b i' (by rw [flip2_length]; omega)).trans (flip2_rowlen l r c i' (by omega))
 refine maDo_l1 _ o c b _ _ _ _ _ _ _ (by simp only [flip2_length]; omega) (by rw [hlen, hm o h2]; omega) (by rw [hlen, hm o h2]; omega) _ ?_
 rw [show wrap64 (1 + 1) = 2 by unfold wrap64; omega]
 refine Ev.step (fun k => by rw [spec_maDo.l0]) ?_
 simp only [if_neg (show ¬ (2 : Int) < 2 by omega)]
 exact Ev.some (flips_eq l r o c b m h1 h2 h3 h4 hm)
end Go.Proofs.Ytojcnapdalpnmaa.K
namespace Go.Proofs.Ytojcnapdalpnmaa.P
open Go.RowKit Go.Proofs.YtojcnapdalpnmaaW.PrintWords Go.Proofs.YtojcnapdalpnmaaW.PrintLast Go.Proofs.YtojcnapdalpnmaaW.PrintMore
attribute [local go_sem] max2_int min2_int max_two min_two max_three min_three max_four min_four
def spec_liSum.l0 : Nat → Int → List Int → Int → Int → Option (Int)
 | 0, _, _, _, _ => none
 | k + 1, x3, x6, x7, x8 => if x8 < x7 then (if 0 ≤ x8 then (if x8 < (x6.length : Int) then (spec_liSum.l0 k (wrap64 (x3 + (rd x6 x8))) x6 x7 (wrap64 (x8 + 1))) else (none)) else (none)) else (some x3)
def spec_liSum.f (k : Nat) (l0 : List Int) : Option (Int) := spec_liSum.l0 k 0 l0 (l0.length : Int) 0
theorem spec_liSum.mono_l : ∀ k, (∀ y0 y1 y2 y3, LeO (spec_liSum.l0 k y0 y1 y2 y3) (spec_liSum.l0 (k + 1) y0 y1 y2 y3))
 | 0 => fun _ _ _ _ r h => by simp [spec_liSum.l0] at h
 | k + 1 => by
  have ih0 := spec_liSum.mono_l k
  ·
   intro y0 y1 y2 y3
   unfold spec_liSum.l0
   repeat' first
   | (with_reducible exact ih0 _ _ _ _)
   | (with_reducible exact LeO.refl _)
   | (with_reducible exact LeO.none _)
   | (with_reducible refine LeO.ite ?_ ?_)
   | (with_reducible refine LeO.bind ?_ (fun _ => ?_))
   | exact ih0 _ _ _ _
   | exact LeO.none _
   | refine LeO.ite ?_ ?_
   | refine LeO.bind ?_ (fun _ => ?_)
theorem spec_liSum.mono : ∀ a0 k, LeO (spec_liSum.f k a0) (spec_liSum.f (k + 1) a0) := by
 intro a0 k
 have ih0 := spec_liSum.mono_l k
 unfold spec_liSum.f
 repeat' first
   | (with_reducible exact ih0 _ _ _ _)
   | (with_reducible exact LeO.refl _)
   | (with_reducible exact LeO.none _)
   | (with_reducible refine LeO.ite ?_ ?_)
   | (with_reducible refine LeO.bind ?_ (fun _ => ?_))
   | exact ih0 _ _ _ _
   | exact LeO.none _
   | refine LeO.ite ?_ ?_
   | refine LeO.bind ?_ (fun _ => ?_)
set_option maxHeartbeats 8000000 in
set_option maxRecDepth 100000 in
theorem spec_liSum.calls (k : Nat) (A0 : Option Addr) (c0 : Nat) (l0 : List Int) (r : Int) (w : World) (hr0 : Kd.C (Kd.int .i64) w A0 l0.length l0) (hc0 : l0.length ≤ c0) (h : spec_liSum.f k l0 = some r) :
  Calls Try.prog 118 #[.slice A0 l0.length c0] w fun e w' => e = .returned (.int .i64 r) ∧ Drawn0 w w' := by
 have HR0 := Aside0.mk hr0
 have HC0 := Aside0.mk hc0
 clear hr0 hc0
 have H : (spec_liSum.l0 k 0 l0 (l0.length : Int) 0) = some r := h
 clear h
 have H' := Aside0.mk H
 clear H
 go_enter Try.func118, Try.ntmps118
 go_wp2
 go_loopg [3, 8] k (fun kq v3 v8 w' => ∃ (x3_1 : Int) (x8_1 : Int), v3 = .int .i64 x3_1 ∧ v8 = .int .i64 x8_1 ∧ Aside0 (spec_liSum.l0 kq x3_1 l0 (l0.length : Int) x8_1 = some r) ∧ Aside0 (kq ≤ k) ∧ Drawn0 w w')
 case atStart => exact ⟨(0), (0), (by first | rfl | (simp; done) | (simp [*]; done)), (by first | rfl | (simp; done) | (simp [*]; done)), H', ⟨Nat.le_refl _⟩, by repeat (first | exact Drawn0.refl _ | apply Drawn0.step)⟩
 case round =>
  clear H'
  try clear c1
  obtain ⟨x3_1, x8_1, rfl, rfl, HA, HK1, ⟨m1, rfl⟩⟩ := hrel
  cases gk with
  | zero => exact absurd HA.out (by simp [spec_liSum.l0])
  | succ k1 =>
   have H := HA.out
   clear HA
   simp only [spec_liSum.l0] at H
   by_cases c2 : x8_1 < (l0.length : Int)
   ·
    rw [if_pos c2] at H
    have c2b0 : decide (x8_1 < (l0.length : Int)) = true := decide_eq_true c2
    clear c2
    by_cases c3 : 0 ≤ x8_1
    ·
     rw [if_pos c3] at H
     have c3b0 : decide (0 ≤ x8_1) = true := decide_eq_true c3
     clear c3
     by_cases c4 : x8_1 < (l0.length : Int)
     ·
      rw [if_pos c4] at H
      have c4b0 : decide (x8_1 < (l0.length : Int)) = true := decide_eq_true c4
      clear c4
      have H' := Aside0.mk H
      clear H
      have p265 : 0 ≤ (x8_1 : Int) := of_decide_eq_true (by first | (with_reducible assumption) | assumption)
      have q265 : x8_1 < (l0.length : Int) := of_decide_eq_true (by first | (with_reducible assumption) | assumption)
      obtain ⟨ad265, e265, hx265_0⟩ := Kd.at_int HR0.out x8_1 p265 q265
      cases e265
      replace p265 := eq_true p265
      replace q265 := eq_true q265
      go_wp2
      go_roundg k1
      case measure => have := HK1.out; omega
      case rel => exact ⟨(wrap64 (x3_1 + (rd l0 x8_1))), (wrap64 (x8_1 + 1)), (by first | rfl | (simp; done) | (simp [*]; done)), (by first | rfl | (simp; done) | (simp [*]; done)), H', ⟨by have := HK1.out; omega⟩, by repeat (first | exact Drawn0.refl _ | apply Drawn0.step)⟩
     ·
      rw [if_neg c4] at H
      exact absurd H (by simp)
    ·
     rw [if_neg c3] at H
     exact absurd H (by simp)
   ·
    rw [if_neg c2] at H
    have c2b0 : decide (x8_1 < (l0.length : Int)) = false := decide_eq_false c2
    clear c2
    obtain rfl := Option.some.inj H
    go_wp2
    go_ret
    exact ⟨by first | rfl | (simp; done) | (simp [*]; done), by repeat (first | exact Drawn0.refl _ | apply Drawn0.step)⟩
end Go.Proofs.Ytojcnapdalpnmaa.P
namespace Go.Proofs.Ytojcnapdalpnmaa.K
open Go.RowKit Go.Proofs.YtojcnapdalpnmaaW.PrintWords Go.Proofs.Ytojcnapdalpnmaa.P
def Fair (l : List Int) : Prop := l.length ≤ 1048576 ∧ ∀ x ∈ l, -1048576 ≤ x ∧ x ≤ 1048576
theorem liSum_l0 : ∀ (rest done : List Int) (a : Int), (done ++ rest).length ≤ 1048576 → (∀ x ∈ rest, -1048576 ≤ x ∧ x ≤ 1048576) → -(1048576 * (done.length : Int)) ≤ a → a ≤ 1048576 * (done.length : Int) → Ev (fun k => spec_liSum.l0 k a (done ++ rest) ((done ++ rest).length : Int) (done.length : Int)) (a + rest.sum) := by
 intro rest
 induction rest with
 | nil => intro done a h _ _ _; exact Ev.step (fun k => by simp [spec_liSum.l0]; rfl) (Ev.some (by simp))
 | cons x rest ih =>
  intro done a h hx h0 h1
  have hx1 := hx x (by simp)
  obtain ⟨q1, q2, q3, q4, q5⟩ := mid x done rest (by simp only [BM]; omega)
  have hl : (done.length : Int) < 1048576 := by simp at h; omega
  have hw : wrap64 (a + x) = a + x := wrap_id (by omega) (by omega)
  have ih' := ih (done ++ [x]) (a + x) (by rw [q5]; exact h) (fun y hy => hx y (by simp [hy])) (by rw [List.length_append, List.length_singleton]; omega) (by rw [List.length_append, List.length_singleton]; omega)
  rw [q5] at ih'
  refine Ev.step (fun k => by rw [spec_liSum.l0]) ?_
  simp only [if_pos q1, if_pos q2, q3, q4, hw]
  refine Ev.pair ih' ?_
  simp only [List.sum_cons]; omega
theorem liSum_f {l : List Int} (h : Fair l) : Ev (fun k => spec_liSum.f k l) l.sum := by
 unfold spec_liSum.f
 exact Ev.pair (liSum_l0 l [] 0 h.1 h.2 (by simp) (by simp)) (by simp)
theorem total_l0 : ∀ k a xs n i, impl_total.l0 k a xs n i = spec_liSum.l0 k a xs n i := by
 intro k
 induction k with
 | zero => intros; rfl
 | succ k ih => intros; simp only [impl_total.l0, spec_liSum.l0, ih]
theorem total_f {l : List Int} (h : Fair l) : Ev (fun k => impl_total.f k l) l.sum := Ev.congr (fun k => total_l0 ..) (liSum_f h)
def colI (l : List (List Int)) (j i : Nat) : List Int := (List.range i).map fun (i' : Nat) => rd (rd_L1 l (i' : Int)) (j : Int)
def colsI (l : List (List Int)) (n i : Nat) : List (List Int) := (List.range n).map fun j => colI l j i
theorem colI_succ (l : List (List Int)) (j i : Nat) : colI l j (i + 1) = colI l j i ++ [rd (rd_L1 l (i : Int)) (j : Int)] := by simp [colI, List.range_succ]
theorem colI_length (l : List (List Int)) (j i : Nat) : (colI l j i).length = i := by simp [colI]
theorem colsI_length (l : List (List Int)) (n i : Nat) : (colsI l n i).length = n := by simp [colsI]
theorem rdL_mem {l : List (List Int)} {i : Nat} (h : i < l.length) : rd_L1 l (i : Int) ∈ l := by
 unfold rd_L1
 simp [List.getD_eq_getElem?_getD, List.getElem?_eq_getElem h]
theorem turnI_f {l : List (List Int)} (hg : gridB l = true) (h4 : l.length ≤ BM) (h5 : ∀ r ∈ l, r.length ≤ BM) : Ev (fun k => impl_turn.f k l) (colsI l (rd_L1 l 0).length l.length) := by
 obtain ⟨g1, g2, g3, g4, g5⟩ := grid_get hg
 have p0 : 0 < (l.length : Int) := by omega
 unfold impl_turn.f
 have p1 : 0 ≤ ((rd_L1 l 0).length : Int) := by omega
 have p2 : (((rd_L1 l 0).length : Int) : Int).toNat ≤ 11728124029610 := by omega
 simp only [if_pos p0, if_pos p1, if_pos p2]
 generalize hn : (rd_L1 l 0).length = n at *
 have hst : List.replicate ((n : Int)).toNat ([] : List Int) = colsI l n 0 := by
  simp [colsI, colI, List.map_const']
 rw [hst]
 obtain ⟨s', rfl, h2⟩ := contLoopI (fun s i k => impl_turn.l0 k s l (l.length : Int) (i : Int)) l.length (fun s i => s = colsI l n i)
  (fun s i hi hs => by
   subst hs
   refine ⟨colsI l n (i + 1), rfl, fun x hx => Ev.step (fun k => by rw [impl_turn.l0]) ?_⟩
   have e1 : (rd_L1 l (i : Int)).length = n := (g5 _ (rdL_mem hi)).1
   have q1 : (i : Int) < (l.length : Int) := by omega
   have q2 : 0 ≤ (i : Int) := by omega
   simp only [if_pos q1, if_pos q2]
   obtain ⟨s', hs', h2⟩ := contLoopI (fun s j k => impl_turn.l1 k s l (l.length : Int) i (rd_L1 l (i : Int)) ((rd_L1 l (i : Int)).length : Int) (j : Int)) n (fun s j => s = (List.range n).map fun j' => colI l j' (if j' < j then i + 1 else i))
    (fun s j hj hs => by
     refine ⟨_, rfl, fun x hx => Ev.step (fun k => by rw [impl_turn.l1]) ?_⟩
     have hsl : s.length = n := by rw [hs]; simp
     have q1 : (j : Int) < ((rd_L1 l (i : Int)).length : Int) := by omega
     have q2 : 0 ≤ (j : Int) := by omega
     have q3 : (j : Int) < (s.length : Int) := by omega
     have hr : rd_L1 s (j : Int) = colI l j i := by
      rw [hs]; unfold rd_L1; simp [List.getD_eq_getElem?_getD, hj]
     have q4 : (rd_L1 s (j : Int)).length < 17592186044416 := by rw [hr, colI_length]; omega
     simp only [if_pos q1, if_pos q2, if_pos q3, if_pos q4, wrap_nat j (by omega)]
     have hset : s.set (j : Int).toNat (rd_L1 s (j : Int) ++ [rd (rd_L1 l (i : Int)) (j : Int)]) = (List.range n).map fun j' => colI l j' (if j' < j + 1 then i + 1 else i) := by
      rw [hr, ← colI_succ, Int.toNat_natCast]
      apply List.ext_getElem
      ·
       simp [hsl]
      ·
       intro m hm1 hm2
       subst hs
       simp only [List.getElem_set, List.getElem_map, List.getElem_range]
       by_cases e : j = m
       ·
        subst e; simp
       ·
        rw [if_neg e]
        by_cases e2 : m < j
        ·
         rw [if_pos e2, if_pos (by omega)]
        ·
         rw [if_neg e2, if_neg (by omega)]
     rw [hset]; exact hx) n (colsI l n i) 0 (by omega) (by simp [colsI])
   have hs2 : s' = colsI l n (i + 1) := by
    rw [hs']; unfold colsI; apply List.map_congr_left; intro j' hj'; rw [if_pos (List.mem_range.1 hj')]
   subst hs2
   refine h2 x (Ev.step (fun k => by rw [impl_turn.l1]) ?_)
   have q1 : ¬ (n : Int) < ((rd_L1 l (i : Int)).length : Int) := by omega
   simp only [if_neg q1, wrap_nat i (by omega)]
   exact hx) l.length (colsI l n 0) 0 (by omega) rfl
 refine h2 _ (Ev.step (fun k => by rw [impl_turn.l0]) ?_)
 have q1 : ¬ (l.length : Int) < (l.length : Int) := by omega
 simp only [if_neg q1]
 exact Ev.now _
theorem rdI_at {l : List Int} {i : Nat} (h : i < l.length) : rd l (i : Int) = l[i] := by
 unfold rd; simp [List.getD_eq_getElem?_getD, List.getElem?_eq_getElem h]
theorem grid_fair {l : List (List Int)} (hg : gridB l = true) : ∀ r ∈ l, Fair r := fun r hr => by
 obtain ⟨g1, g2, g3, g4, g5⟩ := grid_get hg
 obtain ⟨h1, h2⟩ := g5 r hr
 exact ⟨by omega, fun x hx => by rcases h2 x hx with h | h <;> omega⟩
theorem rowSums_l0 : ∀ (rest done : List (List Int)) (x3 : List Int), (done ++ rest).length ≤ 1048576 → (∀ r ∈ rest, Fair r) → x3.length = done.length → Ev (fun k => impl_rowSums.l0 k x3 (done ++ rest) ((done ++ rest).length : Int) (done.length : Int)) (x3 ++ rest.map List.sum) := by
 intro rest
 induction rest with
 | nil => intro done x3 h _ _; exact Ev.step (fun k => by simp [impl_rowSums.l0]; rfl) (Ev.some (by simp))
 | cons r rest ih =>
  intro done x3 h hf hx
  obtain ⟨q1, q2, q3, q4, q5⟩ := midL r done rest (by unfold maxLen; omega)
  have ih' := ih (done ++ [r]) (x3 ++ [r.sum]) (by rw [q5]; exact h) (fun y hy => hf y (by simp [hy])) (by simp [hx])
  rw [q5] at ih'
  have hl : x3.length < 17592186044416 := by simp at h; omega
  refine Ev.step (fun k => by rw [impl_rowSums.l0]) ?_
  simp only [if_pos q1, if_pos q2, q3, q4]
  refine Ev.bind (total_f (hf r (by simp))) ?_
  simp only [if_pos hl]
  exact Ev.pair ih' (by simp)
theorem rowSums_f {l : List (List Int)} (h : l.length ≤ 1048576) (hf : ∀ r ∈ l, Fair r) : Ev (fun k => impl_rowSums.f k l) (l.map List.sum) := by
 unfold impl_rowSums.f
 exact rowSums_l0 l [] [] h hf rfl
theorem colsI_fair {l : List (List Int)} (hg : gridB l = true) : ∀ r ∈ colsI l (rd_L1 l 0).length l.length, Fair r := by
 obtain ⟨g1, g2, g3, g4, g5⟩ := grid_get hg
 intro r hr
 obtain ⟨j, hj, rfl⟩ := List.mem_map.1 hr
 refine ⟨by rw [colI_length]; omega, fun x hx => ?_⟩
 obtain ⟨i, hi, rfl⟩ := List.mem_map.1 hx
 have hi := List.mem_range.1 hi
 have hj := List.mem_range.1 hj
 have hm := g5 _ (rdL_mem hi)
 have hr : rd (rd_L1 l (i : Int)) (j : Int) ∈ rd_L1 l (i : Int) := by rw [rdI_at (by omega)]; exact List.getElem_mem _
 have := hm.2 _ hr
 omega
def gSums (l : List (List Int)) : List Int × List Int := (l.map List.sum, (colsI l (rd_L1 l 0).length l.length).map List.sum)
end Go.Proofs.Ytojcnapdalpnmaa.K
namespace Go.Proofs.Ytojcnapdalpnmaa.P
open Go.RowKit Go.Proofs.YtojcnapdalpnmaaW.PrintWords Go.Proofs.YtojcnapdalpnmaaW.PrintLast Go.Proofs.YtojcnapdalpnmaaW.PrintMore
attribute [local go_sem] max2_int min2_int max_two min_two max_three min_three max_four min_four
def spec_l1Same.l0 : Nat → List Int → List Int → Int → Int → Option (Bool)
 | 0, _, _, _, _ => none
 | k + 1, x0, x1, x12, x13 => if x13 < x12 then (if 0 ≤ x13 then (if x13 < (x0.length : Int) then (if x13 < (x1.length : Int) then (if (rd x0 x13) = (rd x1 x13) then (spec_l1Same.l0 k x0 x1 x12 (wrap64 (x13 + 1))) else (some false)) else (none)) else (none)) else (none)) else (some true)
def spec_l1Same.f (k : Nat) (l0 : List Int) (l1 : List Int) : Option (Bool) := if (l0.length : Int) = (l1.length : Int) then (spec_l1Same.l0 k l0 l1 (l0.length : Int) 0) else (some false)
theorem spec_l1Same.mono_l : ∀ k, (∀ y0 y1 y2 y3, LeO (spec_l1Same.l0 k y0 y1 y2 y3) (spec_l1Same.l0 (k + 1) y0 y1 y2 y3))
 | 0 => fun _ _ _ _ r h => by simp [spec_l1Same.l0] at h
 | k + 1 => by
  have ih0 := spec_l1Same.mono_l k
  ·
   intro y0 y1 y2 y3
   unfold spec_l1Same.l0
   repeat' first
   | (with_reducible exact ih0 _ _ _ _)
   | (with_reducible exact LeO.refl _)
   | (with_reducible exact LeO.none _)
   | (with_reducible refine LeO.ite ?_ ?_)
   | (with_reducible refine LeO.bind ?_ (fun _ => ?_))
   | exact ih0 _ _ _ _
   | exact LeO.none _
   | refine LeO.ite ?_ ?_
   | refine LeO.bind ?_ (fun _ => ?_)
theorem spec_l1Same.mono : ∀ a0 a1 k, LeO (spec_l1Same.f k a0 a1) (spec_l1Same.f (k + 1) a0 a1) := by
 intro a0 a1 k
 have ih0 := spec_l1Same.mono_l k
 unfold spec_l1Same.f
 repeat' first
   | (with_reducible exact ih0 _ _ _ _)
   | (with_reducible exact LeO.refl _)
   | (with_reducible exact LeO.none _)
   | (with_reducible refine LeO.ite ?_ ?_)
   | (with_reducible refine LeO.bind ?_ (fun _ => ?_))
   | exact ih0 _ _ _ _
   | exact LeO.none _
   | refine LeO.ite ?_ ?_
   | refine LeO.bind ?_ (fun _ => ?_)
set_option maxHeartbeats 8000000 in
set_option maxRecDepth 100000 in
theorem spec_l1Same.calls (k : Nat) (A0 : Option Addr) (c0 : Nat) (l0 : List Int) (A1 : Option Addr) (c1 : Nat) (l1 : List Int) (r : Bool) (w : World) (hr0 : Kd.C (Kd.int .i64) w A0 l0.length l0) (hc0 : l0.length ≤ c0) (hr1 : Kd.C (Kd.int .i64) w A1 l1.length l1) (hc1 : l1.length ≤ c1) (h : spec_l1Same.f k l0 l1 = some r) :
  Calls Try.prog 121 #[.slice A0 l0.length c0, .slice A1 l1.length c1] w fun e w' => e = .returned (.bool r) ∧ Drawn0 w w' := by
 have HR0 := Aside0.mk hr0
 have HC0 := Aside0.mk hc0
 clear hr0 hc0
 have HR1 := Aside0.mk hr1
 have HC1 := Aside0.mk hc1
 clear hr1 hc1
 have H : (if (l0.length : Int) = (l1.length : Int) then (spec_l1Same.l0 k l0 l1 (l0.length : Int) 0) else (some false)) = some r := h
 clear h
 by_cases c3 : (l0.length : Int) = (l1.length : Int)
 ·
  rw [if_pos c3] at H
  have c3b0 : ((l0.length : Int) == (l1.length : Int)) = true := beq_iff_eq.mpr c3
  have c3b1 : ((l0.length : Int) != (l1.length : Int)) = false := bne_eq_false_iff_eq.mpr c3
  have c3b2 : (l0.length == l1.length) = true := by first | simpa using c3 | (simp at c3 ⊢; omega)
  clear c3
  have H' := Aside0.mk H
  clear H
  go_enter Try.func121, Try.ntmps121
  go_wp2
  repeat (go_quiet (fail); try go_wp2)
  go_loopg [13] k (fun kq v13 w' => ∃ (x13_1 : Int), v13 = .int .i64 x13_1 ∧ Aside0 (spec_l1Same.l0 kq l0 l1 (l0.length : Int) x13_1 = some r) ∧ Aside0 (kq ≤ k) ∧ Drawn0 w w')
  case atStart => exact ⟨(0), (by first | rfl | (simp; done) | (simp [*]; done)), H', ⟨Nat.le_refl _⟩, by repeat (first | exact Drawn0.refl _ | apply Drawn0.step)⟩
  case round =>
   clear H'
   try clear c1
   try clear p2
   try clear c3
   try clear c3b0
   try clear c3b1
   try clear c3b2
   obtain ⟨x13_1, rfl, HA, HK1, ⟨m1, rfl⟩⟩ := hrel
   cases gk with
   | zero => exact absurd HA.out (by simp [spec_l1Same.l0])
   | succ k1 =>
    have H := HA.out
    clear HA
    simp only [spec_l1Same.l0] at H
    by_cases c4 : x13_1 < (l0.length : Int)
    ·
     rw [if_pos c4] at H
     have c4b0 : decide (x13_1 < (l0.length : Int)) = true := decide_eq_true c4
     clear c4
     by_cases c5 : 0 ≤ x13_1
     ·
      rw [if_pos c5] at H
      have c5b0 : decide (0 ≤ x13_1) = true := decide_eq_true c5
      clear c5
      by_cases c6 : x13_1 < (l0.length : Int)
      ·
       rw [if_pos c6] at H
       have c6b0 : decide (x13_1 < (l0.length : Int)) = true := decide_eq_true c6
       clear c6
       by_cases c7 : x13_1 < (l1.length : Int)
       ·
        rw [if_pos c7] at H
        have c7b0 : decide (x13_1 < (l1.length : Int)) = true := decide_eq_true c7
        clear c7
        by_cases c8 : (rd l0 x13_1) = (rd l1 x13_1)
        ·
         rw [if_pos c8] at H
         have c8b0 : ((rd l0 x13_1) == (rd l1 x13_1)) = true := beq_iff_eq.mpr c8
         have c8b1 : ((rd l0 x13_1) != (rd l1 x13_1)) = false := bne_eq_false_iff_eq.mpr c8
         clear c8
         have H' := Aside0.mk H
         clear H
         have p372 : 0 ≤ (x13_1 : Int) := of_decide_eq_true (by first | (with_reducible assumption) | assumption)
         have q372 : x13_1 < (l0.length : Int) := of_decide_eq_true (by first | (with_reducible assumption) | assumption)
         obtain ⟨ad372, e372, hx372_0⟩ := Kd.at_int HR0.out x13_1 p372 q372
         cases e372
         replace p372 := eq_true p372
         replace q372 := eq_true q372
         have p373 : 0 ≤ (x13_1 : Int) := of_decide_eq_true (by first | (with_reducible assumption) | assumption)
         have q373 : x13_1 < (l1.length : Int) := of_decide_eq_true (by first | (with_reducible assumption) | assumption)
         obtain ⟨ad373, e373, hx373_0⟩ := Kd.at_int HR1.out x13_1 p373 q373
         cases e373
         replace p373 := eq_true p373
         replace q373 := eq_true q373
         go_wp2
         repeat (go_quiet (fail); try go_wp2)
         go_roundg k1
         case measure => have := HK1.out; omega
         case rel => exact ⟨(wrap64 (x13_1 + 1)), (by first | rfl | (simp; done) | (simp [*]; done)), H', ⟨by have := HK1.out; omega⟩, by repeat (first | exact Drawn0.refl _ | apply Drawn0.step)⟩
        ·
         rw [if_neg c8] at H
         have c8b0 : ((rd l0 x13_1) == (rd l1 x13_1)) = false := beq_eq_false_iff_ne.mpr c8
         have c8b1 : ((rd l0 x13_1) != (rd l1 x13_1)) = true := bne_iff_ne.mpr c8
         obtain rfl := Option.some.inj H
         have p372 : 0 ≤ (x13_1 : Int) := of_decide_eq_true (by first | (with_reducible assumption) | assumption)
         have q372 : x13_1 < (l0.length : Int) := of_decide_eq_true (by first | (with_reducible assumption) | assumption)
         obtain ⟨ad372, e372, hx372_0⟩ := Kd.at_int HR0.out x13_1 p372 q372
         cases e372
         replace p372 := eq_true p372
         replace q372 := eq_true q372
         have p373 : 0 ≤ (x13_1 : Int) := of_decide_eq_true (by first | (with_reducible assumption) | assumption)
         have q373 : x13_1 < (l1.length : Int) := of_decide_eq_true (by first | (with_reducible assumption) | assumption)
         obtain ⟨ad373, e373, hx373_0⟩ := Kd.at_int HR1.out x13_1 p373 q373
         cases e373
         replace p373 := eq_true p373
         replace q373 := eq_true q373
         go_wp2
         repeat (go_quiet (fail); try go_wp2)
         go_ret
         exact ⟨by first | rfl | (simp; done) | (simp [*]; done), by repeat (first | exact Drawn0.refl _ | apply Drawn0.step)⟩
       ·
        rw [if_neg c7] at H
        exact absurd H (by simp)
      ·
       rw [if_neg c6] at H
       exact absurd H (by simp)
     ·
      rw [if_neg c5] at H
      exact absurd H (by simp)
    ·
     rw [if_neg c4] at H
     have c4b0 : decide (x13_1 < (l0.length : Int)) = false := decide_eq_false c4
     clear c4
     obtain rfl := Option.some.inj H
     go_wp2
     repeat (go_quiet (fail); try go_wp2)
     go_ret
     exact ⟨by first | rfl | (simp; done) | (simp [*]; done), by repeat (first | exact Drawn0.refl _ | apply Drawn0.step)⟩
 ·
  rw [if_neg c3] at H
  have c3b0 : ((l0.length : Int) == (l1.length : Int)) = false := beq_eq_false_iff_ne.mpr c3
  have c3b1 : ((l0.length : Int) != (l1.length : Int)) = true := bne_iff_ne.mpr c3
  have c3b2 : (l0.length == l1.length) = false := by first | simpa using c3 | (simp at c3 ⊢; omega)
  obtain rfl := Option.some.inj H
  go_enter Try.func121, Try.ntmps121
  go_wp2
  repeat (go_quiet (fail); try go_wp2)
  go_ret
  exact ⟨by first | rfl | (simp; done) | (simp [*]; done), by repeat (first | exact Drawn0.refl _ | apply Drawn0.step)⟩
end Go.Proofs.Ytojcnapdalpnmaa.P
namespace Go.Proofs.Ytojcnapdalpnmaa.K
open Go.RowKit Go.Proofs.YtojcnapdalpnmaaW.PrintWords Go.Proofs.YtojcnapdalpnmaaW.PrintMore Go.Proofs.Ytojcnapdalpnmaa.P
theorem evPos {α : Type} {c : Prop} [Decidable c] {f g : Nat → Option α} {r : α} (h : c) (hf : Ev f r) : Ev (fun k => if c then f k else g k) r := Ev.ite (fun _ => hf) (fun h' => absurd h h')
theorem evNeg {α : Type} {c : Prop} [Decidable c] {f g : Nat → Option α} {r : α} (h : ¬ c) (hg : Ev g r) : Ev (fun k => if c then f k else g k) r := Ev.ite (fun h' => absurd h' h) (fun _ => hg)
section
variable {n m : Nat} {t u : List (List Int)}
end
theorem l1Same_l0 : ∀ (rest done rest2 done2 : List Int), done.length = done2.length → rest.length = rest2.length → (done ++ rest).length ≤ 1048576 → Ev (fun k => spec_l1Same.l0 k (done ++ rest) (done2 ++ rest2) ((done ++ rest).length : Int) (done.length : Int)) (decide (rest = rest2)) := by
 intro rest
 induction rest with
 | nil =>
  intro done rest2 done2 hl hl2 h
  obtain rfl : rest2 = [] := by simpa using hl2.symm
  exact Ev.step (fun k => by simp [spec_l1Same.l0]; rfl) (Ev.some (by simp))
 | cons x rest ih =>
  intro done rest2 done2 hl hl2 h
  obtain ⟨y, rest2, rfl⟩ : ∃ y r, rest2 = y :: r := by cases rest2 with | nil => simp at hl2 | cons y r => exact ⟨y, r, rfl⟩
  have ih' := ih (done ++ [x]) rest2 (done2 ++ [y]) (by simp [hl]) (by simpa using hl2) (by simpa using h)
  rw [show done ++ [x] ++ rest = done ++ x :: rest by simp, show done2 ++ [y] ++ rest2 = done2 ++ y :: rest2 by simp] at ih'
  have hlen : (done ++ x :: rest).length = done.length + 1 + rest.length := by simp; omega
  have hlen2 : (done2 ++ y :: rest2).length = done2.length + 1 + rest2.length := by simp; omega
  have q1 : (done.length : Int) < ((done ++ x :: rest).length : Int) := by omega
  have q2 : 0 ≤ (done.length : Int) := by omega
  have q3 : (done.length : Int) < ((done2 ++ y :: rest2).length : Int) := by omega
  have z1 : rd (done ++ x :: rest) (done.length : Int) = x := by simp [rd]
  have z2 : rd (done2 ++ y :: rest2) (done.length : Int) = y := by rw [hl]; simp [rd]
  refine Ev.step (fun k => by rw [spec_l1Same.l0]) ?_
  simp only [if_pos q1, if_pos q2, if_pos q3, z1, z2, wrap_nat done.length (by omega)]
  refine Ev.ite (fun he => ?_) (fun he => ?_)
  ·
   subst he
   have e2 : ((done ++ [x]).length : Int) = ((done.length + 1 : Nat) : Int) := by simp
   rw [e2] at ih'
   exact Ev.pair ih' (by simp)
  ·
   exact Ev.some (by simp [he])
theorem l1Same_f (a b : List Int) (h : a.length ≤ 1048576) : Ev (fun k => spec_l1Same.f k a b) (decide (a = b)) := by
 unfold spec_l1Same.f
 refine Ev.ite (fun hl => ?_) (fun hl => ?_)
 ·
  exact l1Same_l0 a [] b [] rfl (by omega) (by simpa using h)
 ·
  exact Ev.some (by rw [decide_eq_false]; intro e; subst e; exact hl rfl)
theorem sum_sumR (l : List Int) : ∀ k, k ≤ l.length → (l.take k).sum = sumR k (fun j => rd l (j : Int))
 | 0, _ => by simp [sumR]
 | k + 1, h => by
  rw [List.take_succ_eq_append_getElem (by omega), List.sum_append, sum_sumR l k (by omega)]
  simp only [sumR]
  rw [rdI_at (by omega)]; simp
theorem row_sumR (l : List Int) : l.sum = sumR l.length (fun j => rd l (j : Int)) := by
 have := sum_sumR l l.length (Nat.le_refl _)
 rwa [List.take_length] at this
theorem col_sumR (l : List (List Int)) (j : Nat) : ∀ i, (colI l j i).sum = sumR i (fun i => at2 l i j)
 | 0 => by simp [colI, sumR]
 | i + 1 => by rw [colI_succ, List.sum_append, col_sumR l j i]; simp [sumR]; rfl
theorem grid_shape {l : List (List Int)} (hg : gridB l = true) : Shape l.length (rd_L1 l 0).length l := by
 obtain ⟨g1, g2, g3, g4, g5⟩ := grid_get hg
 refine ⟨rfl, grid_rowN hg, fun i j hi hj => ?_⟩
 have h := g5 _ (rowN_mem hi)
 unfold at2
 rw [rdN_at (show j < (rowN l i).length by rw [h.1]; exact hj)]
 exact h.2 _ (List.getElem_mem _)
end Go.Proofs.Ytojcnapdalpnmaa.K
