/- The row of the law FnExactStrongParts: contracts and plain lemmas for the law FnExactStrongParts, part 4 of 4 (what the Go functions answer). -/
import Derived.Laws.BitsLemmas
import Derived.Lib.SlicesCompact
import Derived.Lib.Slices
import Derived.ProofKit
import Derived.OpenShut
import Derived.Deep.Matrix
import Derived.Lib.SmallJoins
import Derived.Test.YtfmpbflbkochgaaRows
import Derived.WalkKit
import Derived.ShutString
import Derived.ChangeOld
import Derived.Below
import Derived.SizedLaws
import Derived.Test.YtfmpbflbkochgaaCFnExactStrongPartsa
import Derived.Test.YtfmpbflbkochgaaCFnExactStrongPartsb
import Derived.Test.YtfmpbflbkochgaaCFnExactStrongPartsc
set_option linter.unusedVariables false
set_option linter.unusedSimpArgs false
namespace Go.Proofs.Ytfmpbflbkochgaa.P
open Go.RowKit Go.Proofs.YtfmpbflbkochgaaW.PrintWords Go.Proofs.YtfmpbflbkochgaaW.PrintLast Go.Proofs.YtfmpbflbkochgaaW.PrintMore
attribute [local go_sem] max2_int min2_int max_two min_two max_three min_three max_four min_four
mutual
def laws_FnExactStrongParts.j0 : Nat → List Int → Bool → List Int → Bool → Bool → Int → List Int → Int → List Int → Option (Bool)
 | 0, _, _, _, _, _, _, _, _, _ => none
 | k + 1, x4, x5, x7, x8, x40, x326000, x326001, x340000, x340001 => if x40 = true then (some false) else ((laws_toTournament.f k x326000 x326001).bind fun bt345 => ((laws_eqTournament.f k x340000 x340001 bt345.1 bt345.2).bind fun t349 => (if t349 = true then ((laws_markTournament.f k x340000 x340001 1).bind fun bt350 => (if bt350.1 < 0 then (laws_FnExactStrongParts.j1 k x4 x5 x7 true x326000 x326001) else ((laws_eqIntS.f k x7 x4).bind fun t352 => (if t352 = true then (laws_FnExactStrongParts.j1 k x4 x5 x7 (x8 != x5) x326000 x326001) else (laws_FnExactStrongParts.j1 k x4 x5 x7 true x326000 x326001))))) else (some false))))
def laws_FnExactStrongParts.j1 : Nat → List Int → Bool → List Int → Bool → Int → List Int → Option (Bool)
 | 0, _, _, _, _, _, _ => none
 | k + 1, x4, x5, x7, x61, x326000, x326001 => if x61 = true then (some false) else ((laws_markIntS.f k x7 1).bind fun bt353 => ((laws_heldIntS.f k bt353.2 1).bind fun t355 => (if t355 < 0 then (some false) else (if t355 = bt353.1 then ((laws_toTournament.f k x326000 x326001).bind fun bt356 => ((impl_StrongParts.f k bt356.1 bt356.2).bind fun bt360 => ((laws_eqIntS.f k bt360.1 x4).bind fun t364 => (if t364 = true then (laws_FnExactStrongParts.j2 k bt353.2 bt353.1 (bt360.2 != x5)) else (laws_FnExactStrongParts.j2 k bt353.2 bt353.1 true))))) else (some false)))))
def laws_FnExactStrongParts.j2 : Nat → List Int → Int → Bool → Option (Bool)
 | 0, _, _, _ => none
 | k + 1, x7, x10, x87 => if x87 = true then (some false) else ((laws_heldIntS.f k x7 1).bind fun t365 => (if t365 < 0 then (some false) else (if t365 = x10 then (some true) else (some false))))
end
def laws_FnExactStrongParts.f (k : Nat) (a0_0 : Int) (l0_1 : List Int) : Option (Bool) := (laws_szTournament.f a0_0 l0_1 1048576).bind fun t326 => (if t326 < 0 then (some true) else ((laws_toTournament.f k a0_0 l0_1).bind fun bt327 => ((spec_StrongParts.f k bt327.1 bt327.2).bind fun bt331 => ((laws_toTournament.f k a0_0 l0_1).bind fun bt335 => ((impl_StrongParts.f k bt335.1 bt335.2).bind fun bt340 => ((laws_eqIntS.f k bt340.1 bt331.1).bind fun t344 => (if t344 = true then (laws_FnExactStrongParts.j0 k bt331.1 bt331.2 bt340.1 bt340.2 (bt340.2 != bt331.2) a0_0 l0_1 bt335.1 bt335.2) else (laws_FnExactStrongParts.j0 k bt331.1 bt331.2 bt340.1 bt340.2 true a0_0 l0_1 bt335.1 bt335.2))))))))
theorem laws_FnExactStrongParts.mono_l : ∀ k, (∀ y0 y1 y2 y3 y4 y5 y6 y7 y8, LeO (laws_FnExactStrongParts.j0 k y0 y1 y2 y3 y4 y5 y6 y7 y8) (laws_FnExactStrongParts.j0 (k + 1) y0 y1 y2 y3 y4 y5 y6 y7 y8)) ∧ (∀ y0 y1 y2 y3 y4 y5, LeO (laws_FnExactStrongParts.j1 k y0 y1 y2 y3 y4 y5) (laws_FnExactStrongParts.j1 (k + 1) y0 y1 y2 y3 y4 y5)) ∧ (∀ y0 y1 y2, LeO (laws_FnExactStrongParts.j2 k y0 y1 y2) (laws_FnExactStrongParts.j2 (k + 1) y0 y1 y2))
 | 0 => ⟨fun _ _ _ _ _ _ _ _ _ r h => by simp [laws_FnExactStrongParts.j0] at h, fun _ _ _ _ _ _ r h => by simp [laws_FnExactStrongParts.j1] at h, fun _ _ _ r h => by simp [laws_FnExactStrongParts.j2] at h⟩
 | k + 1 => by
  obtain ⟨ih0, ih1, ih2⟩ := laws_FnExactStrongParts.mono_l k
  refine ⟨?_, ?_, ?_⟩
  ·
   intro y0 y1 y2 y3 y4 y5 y6 y7 y8
   unfold laws_FnExactStrongParts.j0
   repeat' first
   | (with_reducible exact ih0 _ _ _ _ _ _ _ _ _)
   | (with_reducible exact ih1 _ _ _ _ _ _)
   | (with_reducible exact ih2 _ _ _)
   | (with_reducible exact impl_StrongParts.mono _ _ _)
   | (with_reducible exact laws_eqIntS.mono _ _ _)
   | (with_reducible exact laws_eqTournament.mono _ _ _ _ _)
   | (with_reducible exact laws_heldIntS.mono _ _ _)
   | (with_reducible exact laws_markIntS.mono _ _ _)
   | (with_reducible exact laws_markTournament.mono _ _ _ _)
   | (with_reducible exact laws_toTournament.mono _ _ _)
   | (with_reducible exact spec_StrongParts.mono _ _ _)
   | (with_reducible exact LeO.refl _)
   | (with_reducible exact LeO.none _)
   | (with_reducible refine LeO.ite ?_ ?_)
   | (with_reducible refine LeO.bind ?_ (fun _ => ?_))
   | exact ih0 _ _ _ _ _ _ _ _ _
   | exact ih1 _ _ _ _ _ _
   | exact ih2 _ _ _
   | exact impl_StrongParts.mono _ _ _
   | exact laws_eqIntS.mono _ _ _
   | exact laws_eqTournament.mono _ _ _ _ _
   | exact laws_heldIntS.mono _ _ _
   | exact laws_markIntS.mono _ _ _
   | exact laws_markTournament.mono _ _ _ _
   | exact laws_toTournament.mono _ _ _
   | exact spec_StrongParts.mono _ _ _
   | exact LeO.none _
   | refine LeO.ite ?_ ?_
   | refine LeO.bind ?_ (fun _ => ?_)
  ·
   intro y0 y1 y2 y3 y4 y5
   unfold laws_FnExactStrongParts.j1
   repeat' first
   | (with_reducible exact ih0 _ _ _ _ _ _ _ _ _)
   | (with_reducible exact ih1 _ _ _ _ _ _)
   | (with_reducible exact ih2 _ _ _)
   | (with_reducible exact impl_StrongParts.mono _ _ _)
   | (with_reducible exact laws_eqIntS.mono _ _ _)
   | (with_reducible exact laws_eqTournament.mono _ _ _ _ _)
   | (with_reducible exact laws_heldIntS.mono _ _ _)
   | (with_reducible exact laws_markIntS.mono _ _ _)
   | (with_reducible exact laws_markTournament.mono _ _ _ _)
   | (with_reducible exact laws_toTournament.mono _ _ _)
   | (with_reducible exact spec_StrongParts.mono _ _ _)
   | (with_reducible exact LeO.refl _)
   | (with_reducible exact LeO.none _)
   | (with_reducible refine LeO.ite ?_ ?_)
   | (with_reducible refine LeO.bind ?_ (fun _ => ?_))
   | exact ih0 _ _ _ _ _ _ _ _ _
   | exact ih1 _ _ _ _ _ _
   | exact ih2 _ _ _
   | exact impl_StrongParts.mono _ _ _
   | exact laws_eqIntS.mono _ _ _
   | exact laws_eqTournament.mono _ _ _ _ _
   | exact laws_heldIntS.mono _ _ _
   | exact laws_markIntS.mono _ _ _
   | exact laws_markTournament.mono _ _ _ _
   | exact laws_toTournament.mono _ _ _
   | exact spec_StrongParts.mono _ _ _
   | exact LeO.none _
   | refine LeO.ite ?_ ?_
   | refine LeO.bind ?_ (fun _ => ?_)
  ·
   intro y0 y1 y2
   unfold laws_FnExactStrongParts.j2
   repeat' first
   | (with_reducible exact ih0 _ _ _ _ _ _ _ _ _)
   | (with_reducible exact ih1 _ _ _ _ _ _)
   | (with_reducible exact ih2 _ _ _)
   | (with_reducible exact impl_StrongParts.mono _ _ _)
   | (with_reducible exact laws_eqIntS.mono _ _ _)
   | (with_reducible exact laws_eqTournament.mono _ _ _ _ _)
   | (with_reducible exact laws_heldIntS.mono _ _ _)
   | (with_reducible exact laws_markIntS.mono _ _ _)
   | (with_reducible exact laws_markTournament.mono _ _ _ _)
   | (with_reducible exact laws_toTournament.mono _ _ _)
   | (with_reducible exact spec_StrongParts.mono _ _ _)
   | (with_reducible exact LeO.refl _)
   | (with_reducible exact LeO.none _)
   | (with_reducible refine LeO.ite ?_ ?_)
   | (with_reducible refine LeO.bind ?_ (fun _ => ?_))
   | exact ih0 _ _ _ _ _ _ _ _ _
   | exact ih1 _ _ _ _ _ _
   | exact ih2 _ _ _
   | exact impl_StrongParts.mono _ _ _
   | exact laws_eqIntS.mono _ _ _
   | exact laws_eqTournament.mono _ _ _ _ _
   | exact laws_heldIntS.mono _ _ _
   | exact laws_markIntS.mono _ _ _
   | exact laws_markTournament.mono _ _ _ _
   | exact laws_toTournament.mono _ _ _
   | exact spec_StrongParts.mono _ _ _
   | exact LeO.none _
   | refine LeO.ite ?_ ?_
   | refine LeO.bind ?_ (fun _ => ?_)
theorem laws_FnExactStrongParts.mono : ∀ a0 a1 k, LeO (laws_FnExactStrongParts.f k a0 a1) (laws_FnExactStrongParts.f (k + 1) a0 a1) := by
 intro a0 a1 k
 obtain ⟨ih0, ih1, ih2⟩ := laws_FnExactStrongParts.mono_l k
 unfold laws_FnExactStrongParts.f
 repeat' first
   | (with_reducible exact ih0 _ _ _ _ _ _ _ _ _)
   | (with_reducible exact ih1 _ _ _ _ _ _)
   | (with_reducible exact ih2 _ _ _)
   | (with_reducible exact impl_StrongParts.mono _ _ _)
   | (with_reducible exact laws_eqIntS.mono _ _ _)
   | (with_reducible exact laws_eqTournament.mono _ _ _ _ _)
   | (with_reducible exact laws_heldIntS.mono _ _ _)
   | (with_reducible exact laws_markIntS.mono _ _ _)
   | (with_reducible exact laws_markTournament.mono _ _ _ _)
   | (with_reducible exact laws_toTournament.mono _ _ _)
   | (with_reducible exact spec_StrongParts.mono _ _ _)
   | (with_reducible exact LeO.refl _)
   | (with_reducible exact LeO.none _)
   | (with_reducible refine LeO.ite ?_ ?_)
   | (with_reducible refine LeO.bind ?_ (fun _ => ?_))
   | exact ih0 _ _ _ _ _ _ _ _ _
   | exact ih1 _ _ _ _ _ _
   | exact ih2 _ _ _
   | exact impl_StrongParts.mono _ _ _
   | exact laws_eqIntS.mono _ _ _
   | exact laws_eqTournament.mono _ _ _ _ _
   | exact laws_heldIntS.mono _ _ _
   | exact laws_markIntS.mono _ _ _
   | exact laws_markTournament.mono _ _ _ _
   | exact laws_toTournament.mono _ _ _
   | exact spec_StrongParts.mono _ _ _
   | exact LeO.none _
   | refine LeO.ite ?_ ?_
   | refine LeO.bind ?_ (fun _ => ?_)
set_option maxHeartbeats 8000000 in
set_option maxRecDepth 100000 in
theorem laws_FnExactStrongParts.calls (k : Nat) (a0_0 : Int) (A0_1 : Option Addr) (c0_1 : Nat) (l0_1 : List Int) (r : Bool) (w : World) (hr0_1 : Kd.C (Kd.int .i64) w A0_1 l0_1.length l0_1) (hc0_1 : l0_1.length ≤ c0_1) (h : laws_FnExactStrongParts.f k a0_0 l0_1 = some r) :
  Calls Try.prog 6 #[.agg #[.int .i64 a0_0, .slice A0_1 l0_1.length c0_1]] w fun e w' => e = .returned (.bool r) ∧ Below w.heap.size w w' := by
 have hu31 := Try.underlying31
 have hu35 := Try.underlying35
 have HR0_1 := Aside0.mk hr0_1
 have HC0_1 := Aside0.mk hc0_1
 clear hr0_1 hc0_1
 have HB := Aside0.mk (Below.refl w.heap.size w)
 have H : ((laws_szTournament.f a0_0 l0_1 1048576).bind fun t326 => (if t326 < 0 then (some true) else ((laws_toTournament.f k a0_0 l0_1).bind fun bt327 => ((spec_StrongParts.f k bt327.1 bt327.2).bind fun bt331 => ((laws_toTournament.f k a0_0 l0_1).bind fun bt335 => ((impl_StrongParts.f k bt335.1 bt335.2).bind fun bt340 => ((laws_eqIntS.f k bt340.1 bt331.1).bind fun t344 => (if t344 = true then (laws_FnExactStrongParts.j0 k bt331.1 bt331.2 bt340.1 bt340.2 (bt340.2 != bt331.2) a0_0 l0_1 bt335.1 bt335.2) else (laws_FnExactStrongParts.j0 k bt331.1 bt331.2 bt340.1 bt340.2 true a0_0 l0_1 bt335.1 bt335.2))))))))) = some r := h
 clear h
 replace H := Option.bind_eq_some_iff.mp H
 obtain ⟨t326, A20, H⟩ := H
 replace H : (if t326 < 0 then (some true) else ((laws_toTournament.f k a0_0 l0_1).bind fun bt327 => ((spec_StrongParts.f k bt327.1 bt327.2).bind fun bt331 => ((laws_toTournament.f k a0_0 l0_1).bind fun bt335 => ((impl_StrongParts.f k bt335.1 bt335.2).bind fun bt340 => ((laws_eqIntS.f k bt340.1 bt331.1).bind fun t344 => (if t344 = true then (laws_FnExactStrongParts.j0 k bt331.1 bt331.2 bt340.1 bt340.2 (bt340.2 != bt331.2) a0_0 l0_1 bt335.1 bt335.2) else (laws_FnExactStrongParts.j0 k bt331.1 bt331.2 bt340.1 bt340.2 true a0_0 l0_1 bt335.1 bt335.2)))))))) = some r := H
 have A2 := Aside0.mk A20
 clear A20
 by_cases c3 : t326 < 0
 ·
  rw [if_pos c3] at H
  have c3b0 : decide (t326 < 0) = true := decide_eq_true c3
  clear c3
  obtain rfl := Option.some.inj H
  go_enter Try.func6, Try.ntmps6
  go_wp2_with (first | ((with_reducible refine gate_dst (N := 1) rfl ?_); refine box_event ?hg (N := 1) ?hd (cs := #[.int .i64 a0_0, .slice A0_1 l0_1.length c0_1]) (t := 31) ?hr ?_; (case hd => rfl); (case hg => rfl); (case hr => first | (go_simp; done) | (go_simp; rfl)); intro gb325 hg w4 hbox hb; have n0_ := Aside0.mk (below_step (by repeat (first | (with_reducible first | exact HB.out | apply below_alloc | apply pw_below_drewN | apply below_drew1))) hb); have n1_ := Aside0.mk (hbox); have n2_ := Aside0.mk ((by rw [hg]; exact (below_size (by repeat (first | (with_reducible first | exact HB.out | apply below_alloc | apply pw_below_drewN | apply below_drew1)))) : w.heap.size ≤ gb325)); have n3_ := Aside0.mk ((by rw [hg]; exact (below_size (by repeat (first | (with_reducible first | exact HB.out | apply below_alloc | apply pw_below_drewN | apply below_drew1)))) : w.heap.size ≤ gb325)); clear HB; have HB := n0_; have BK325 := n1_; have GW325 := n2_; have GE325 := n3_; clear n0_ n1_ n2_ n3_; clear hb hbox hg; have hcz5_0 : w4.cell? ⟨gb325, 0, none⟩ = some (.int .i64 a0_0) := (blk_cell BK325.out 0).trans rfl; have hcz5_1 : w4.cell? ⟨gb325, 1, none⟩ = some (.slice A0_1 l0_1.length c0_1) := (blk_cell BK325.out 1).trans rfl; have hfz5_0 := blk_frozen BK325.out 0; have hfz5_1 := blk_frozen BK325.out 1) | ((with_reducible refine gate_callee (f := 15) rfl ?_); refine goesL_ (some 16) rfl rfl Try.func15 (by kernel_rfl) rfl #[.agg #[.int .i64 a0_0, .slice A0_1 l0_1.length c0_1], .int .i64 1048576] rfl (by (try simp only [List.map_toArray, List.map_cons, List.map_nil]); first | done | rfl) ?_; (with_reducible refine (laws_szTournament.calls a0_0 _ _ l0_1 1048576 t326 _ ?side1 ?side2 A2.out).mono ?_); (case side1 => repeat (first | exact (Kd.C_below HR0_1.out HB.out) | (with_reducible refine Kd.C_alloc ?_ _) | (with_reducible refine Kd.C_drewN ?_ _) | (with_reducible refine Kd.C_drew ?_))); (case side2 => exact HC0_1.out); rintro e w6 ⟨rfl, hb⟩; refine ⟨_, rfl, ?_⟩; have n0_ := Aside0.mk (blk_below (g := gb325) (o := .cells #[.int .i64 a0_0, .slice A0_1 l0_1.length c0_1] 31 (0, 0)) (by (with_reducible repeat (first | refine blk_drewN ?_ _ | refine blk_drew ?_ | refine blk_alloc ?_ _)); exact BK325.out) hb); have n1_ := Aside0.mk (below_step (by repeat (first | (with_reducible first | exact HB.out | apply below_alloc | apply pw_below_drewN | apply below_drew1 | refine below_set ?_ GE325.out) | exact HB.out)) hb); clear BK325; clear HB; have BK325 := n0_; have HB := n1_; clear n0_ n1_; (try clear hb); (try clear hb2); (try clear hk); (try clear hi)))
  go_ret
  exact ⟨by first | rfl | (simp [errW_none, errW_some] <;> rfl) | (simp [*, errW_none, errW_some] <;> rfl), by repeat (first | (with_reducible first | exact HB.out | apply below_alloc | apply pw_below_drewN | apply below_drew1 | refine below_set ?_ GE325.out) | exact HB.out)⟩
 ·
  rw [if_neg c3] at H
  have c3b0 : decide (t326 < 0) = false := decide_eq_false c3
  clear c3
  replace H := Option.bind_eq_some_iff.mp H
  obtain ⟨⟨t327, t328⟩, A70, H⟩ := H
  replace H : ((spec_StrongParts.f k t327 t328).bind fun bt331 => ((laws_toTournament.f k a0_0 l0_1).bind fun bt335 => ((impl_StrongParts.f k bt335.1 bt335.2).bind fun bt340 => ((laws_eqIntS.f k bt340.1 bt331.1).bind fun t344 => (if t344 = true then (laws_FnExactStrongParts.j0 k bt331.1 bt331.2 bt340.1 bt340.2 (bt340.2 != bt331.2) a0_0 l0_1 bt335.1 bt335.2) else (laws_FnExactStrongParts.j0 k bt331.1 bt331.2 bt340.1 bt340.2 true a0_0 l0_1 bt335.1 bt335.2)))))) = some r := H
  have A7 := Aside0.mk A70
  clear A70
  replace H := Option.bind_eq_some_iff.mp H
  obtain ⟨⟨t331, t334⟩, A80, H⟩ := H
  replace H : ((laws_toTournament.f k a0_0 l0_1).bind fun bt335 => ((impl_StrongParts.f k bt335.1 bt335.2).bind fun bt340 => ((laws_eqIntS.f k bt340.1 t331).bind fun t344 => (if t344 = true then (laws_FnExactStrongParts.j0 k t331 t334 bt340.1 bt340.2 (bt340.2 != t334) a0_0 l0_1 bt335.1 bt335.2) else (laws_FnExactStrongParts.j0 k t331 t334 bt340.1 bt340.2 true a0_0 l0_1 bt335.1 bt335.2))))) = some r := H
  have A8 := Aside0.mk A80
  clear A80
  replace H := Option.bind_eq_some_iff.mp H
  obtain ⟨⟨t335, t336⟩, A90, H⟩ := H
  replace H : ((impl_StrongParts.f k t335 t336).bind fun bt340 => ((laws_eqIntS.f k bt340.1 t331).bind fun t344 => (if t344 = true then (laws_FnExactStrongParts.j0 k t331 t334 bt340.1 bt340.2 (bt340.2 != t334) a0_0 l0_1 t335 t336) else (laws_FnExactStrongParts.j0 k t331 t334 bt340.1 bt340.2 true a0_0 l0_1 t335 t336)))) = some r := H
  have A9 := Aside0.mk A90
  clear A90
  replace H := Option.bind_eq_some_iff.mp H
  obtain ⟨⟨t340, t343⟩, A100, H⟩ := H
  replace H : ((laws_eqIntS.f k t340 t331).bind fun t344 => (if t344 = true then (laws_FnExactStrongParts.j0 k t331 t334 t340 t343 (t343 != t334) a0_0 l0_1 t335 t336) else (laws_FnExactStrongParts.j0 k t331 t334 t340 t343 true a0_0 l0_1 t335 t336))) = some r := H
  have A10 := Aside0.mk A100
  clear A100
  have HC11 := Aside0.mk H
  clear H
  go_enter Try.func6, Try.ntmps6
  go_upto_region 8 with (first | ((with_reducible refine gate_dst (N := 1) rfl ?_); refine box_event ?hg (N := 1) ?hd (cs := #[.int .i64 a0_0, .slice A0_1 l0_1.length c0_1]) (t := 31) ?hr ?_; (case hd => rfl); (case hg => rfl); (case hr => first | (go_simp; done) | (go_simp; rfl)); intro gb325 hg w12 hbox hb; have n0_ := Aside0.mk (below_step (by repeat (first | (with_reducible first | exact HB.out | apply below_alloc | apply pw_below_drewN | apply below_drew1))) hb); have n1_ := Aside0.mk (hbox); have n2_ := Aside0.mk ((by rw [hg]; exact (below_size (by repeat (first | (with_reducible first | exact HB.out | apply below_alloc | apply pw_below_drewN | apply below_drew1)))) : w.heap.size ≤ gb325)); have n3_ := Aside0.mk ((by rw [hg]; exact (below_size (by repeat (first | (with_reducible first | exact HB.out | apply below_alloc | apply pw_below_drewN | apply below_drew1)))) : w.heap.size ≤ gb325)); clear HB; have HB := n0_; have BK325 := n1_; have GW325 := n2_; have GE325 := n3_; clear n0_ n1_ n2_ n3_; clear hb hbox hg; have hcz13_0 : w12.cell? ⟨gb325, 0, none⟩ = some (.int .i64 a0_0) := (blk_cell BK325.out 0).trans rfl; have hcz13_1 : w12.cell? ⟨gb325, 1, none⟩ = some (.slice A0_1 l0_1.length c0_1) := (blk_cell BK325.out 1).trans rfl; have hfz13_0 := blk_frozen BK325.out 0; have hfz13_1 := blk_frozen BK325.out 1) | ((with_reducible refine gate_callee (f := 15) rfl ?_); refine goesL_ (some 16) rfl rfl Try.func15 (by kernel_rfl) rfl #[.agg #[.int .i64 a0_0, .slice A0_1 l0_1.length c0_1], .int .i64 1048576] rfl (by (try simp only [List.map_toArray, List.map_cons, List.map_nil]); first | done | rfl) ?_; (with_reducible refine (laws_szTournament.calls a0_0 _ _ l0_1 1048576 t326 _ ?side1 ?side2 A2.out).mono ?_); (case side1 => repeat (first | exact (Kd.C_below HR0_1.out HB.out) | (with_reducible refine Kd.C_alloc ?_ _) | (with_reducible refine Kd.C_drewN ?_ _) | (with_reducible refine Kd.C_drew ?_))); (case side2 => exact HC0_1.out); rintro e w14 ⟨rfl, hb⟩; refine ⟨_, rfl, ?_⟩; have n0_ := Aside0.mk (blk_below (g := gb325) (o := .cells #[.int .i64 a0_0, .slice A0_1 l0_1.length c0_1] 31 (0, 0)) (by (with_reducible repeat (first | refine blk_drewN ?_ _ | refine blk_drew ?_ | refine blk_alloc ?_ _)); exact BK325.out) hb); have n1_ := Aside0.mk (below_step (by repeat (first | (with_reducible first | exact HB.out | apply below_alloc | apply pw_below_drewN | apply below_drew1 | refine below_set ?_ GE325.out) | exact HB.out)) hb); clear BK325; clear HB; have BK325 := n0_; have HB := n1_; clear n0_ n1_; (try clear hb); (try clear hb2); (try clear hk); (try clear hi); have hcz15_0 : w14.cell? ⟨gb325, 0, none⟩ = some (.int .i64 a0_0) := (blk_cell BK325.out 0).trans rfl; have hcz15_1 : w14.cell? ⟨gb325, 1, none⟩ = some (.slice A0_1 l0_1.length c0_1) := (blk_cell BK325.out 1).trans rfl; have hfz15_0 := blk_frozen BK325.out 0; have hfz15_1 := blk_frozen BK325.out 1) | ((with_reducible refine gate_callee (f := 17) rfl ?_); refine goesL_ (some 21) rfl rfl Try.func17 (by kernel_rfl) rfl #[.agg #[.int .i64 a0_0, .slice A0_1 l0_1.length c0_1]] rfl (by (try simp only [List.map_toArray, List.map_cons, List.map_nil]); first | done | rfl) ?_; (with_reducible refine (laws_toTournament.calls k a0_0 _ _ l0_1 t327 t328 _ ?side1 ?side2 A7.out).mono ?_); (case side1 => repeat (first | exact (Kd.C_below HR0_1.out HB.out) | (with_reducible refine Kd.C_alloc ?_ _) | (with_reducible refine Kd.C_drewN ?_ _) | (with_reducible refine Kd.C_drew ?_))); (case side2 => exact HC0_1.out); rintro e w16 ⟨v329, rfl, ho0, hb⟩; refine ⟨_, rfl, ?_⟩; have n0_ := Aside0.mk (Kd.R_lower ho0 (below_size (by repeat (first | (with_reducible first | exact HB.out | apply below_alloc | apply pw_below_drewN | apply below_drew1 | refine below_set ?_ GE325.out) | exact HB.out)))); have n1_ := Aside0.mk (blk_below (g := gb325) (o := .cells #[.int .i64 a0_0, .slice A0_1 l0_1.length c0_1] 31 (0, 0)) (by (with_reducible repeat (first | refine blk_drewN ?_ _ | refine blk_drew ?_ | refine blk_alloc ?_ _)); exact BK325.out) hb); have n2_ := Aside0.mk (below_step (by repeat (first | (with_reducible first | exact HB.out | apply below_alloc | apply pw_below_drewN | apply below_drew1 | refine below_set ?_ GE325.out) | exact HB.out)) hb); clear BK325; clear HB; have HO330 := n0_; have BK325 := n1_; have HB := n2_; clear n0_ n1_ n2_; (try clear hb); (try clear hb2); (try clear hk); (try clear hi); (try clear ho0); obtain ⟨Ao17, co17, eo17⟩ := Kd.R_slice HO330.out; subst eo17) | ((with_reducible refine gate_callee (f := 16) rfl ?_); refine goesL_ (some 22) rfl rfl Try.func16 (by kernel_rfl) rfl #[.agg #[.int .i64 t327, .slice Ao17 t328.length co17]] rfl (by (try simp only [List.map_toArray, List.map_cons, List.map_nil]); first | done | rfl) ?_; (with_reducible refine (spec_StrongParts.calls k t327 _ _ t328 t331 t334 _ ?side1 ?side2 A8.out).mono ?_); (case side1 => repeat (first | exact (Kd.R_reads' HO330.out).2.2 | (with_reducible refine Kd.C_alloc ?_ _) | (with_reducible refine Kd.C_drewN ?_ _) | (with_reducible refine Kd.C_drew ?_))); (case side2 => exact (Kd.R_reads' HO330.out).2.1); rintro e w18 ⟨v332, rfl, ho0, hb⟩; refine ⟨_, rfl, ?_⟩; have n0_ := Aside0.mk (Kd.R_elder' (by (with_reducible repeat (first | apply Kd.R_alloc | apply Kd.R_drewN | apply Kd.R_drew)); exact HO330.out) (Kd.R_base ho0) hb); have n1_ := Aside0.mk (Kd.R_lower (Kd.R_new' ho0 (Kd.R_lt (by (with_reducible repeat (first | apply Kd.R_alloc | apply Kd.R_drewN | apply Kd.R_drew)); exact HO330.out))) (below_size (by repeat (first | (with_reducible first | exact HB.out | apply below_alloc | apply pw_below_drewN | apply below_drew1 | refine below_set ?_ GE325.out) | exact HB.out)))); have n2_ := Aside0.mk (blk_below (g := gb325) (o := .cells #[.int .i64 a0_0, .slice A0_1 l0_1.length c0_1] 31 (0, 0)) (by (with_reducible repeat (first | refine blk_drewN ?_ _ | refine blk_drew ?_ | refine blk_alloc ?_ _)); exact BK325.out) hb); have n3_ := Aside0.mk (below_step (by repeat (first | (with_reducible first | exact HB.out | apply below_alloc | apply pw_below_drewN | apply below_drew1 | refine below_set ?_ GE325.out) | exact HB.out)) hb); clear HO330; clear BK325; clear HB; have HO330 := n0_; have HO333 := n1_; have BK325 := n2_; have HB := n3_; clear n0_ n1_ n2_ n3_; (try clear hb); (try clear hb2); (try clear hk); (try clear hi); (try clear ho0); have hcz19_0 : w18.cell? ⟨gb325, 0, none⟩ = some (.int .i64 a0_0) := (blk_cell BK325.out 0).trans rfl; have hcz19_1 : w18.cell? ⟨gb325, 1, none⟩ = some (.slice A0_1 l0_1.length c0_1) := (blk_cell BK325.out 1).trans rfl; have hfz19_0 := blk_frozen BK325.out 0; have hfz19_1 := blk_frozen BK325.out 1) | ((with_reducible refine gate_callee (f := 17) rfl ?_); refine goesL_ (some 26) rfl rfl Try.func17 (by kernel_rfl) rfl #[.agg #[.int .i64 a0_0, .slice A0_1 l0_1.length c0_1]] rfl (by (try simp only [List.map_toArray, List.map_cons, List.map_nil]); first | done | rfl) ?_; (with_reducible refine (laws_toTournament.calls k a0_0 _ _ l0_1 t335 t336 _ ?side1 ?side2 A9.out).mono ?_); (case side1 => repeat (first | exact (Kd.C_below HR0_1.out HB.out) | (with_reducible refine Kd.C_alloc ?_ _) | (with_reducible refine Kd.C_drewN ?_ _) | (with_reducible refine Kd.C_drew ?_))); (case side2 => exact HC0_1.out); rintro e w20 ⟨v337, rfl, ho0, hb⟩; refine ⟨_, rfl, ?_⟩; have n0_ := Aside0.mk (Kd.R_elder' (by (with_reducible repeat (first | apply Kd.R_alloc | apply Kd.R_drewN | apply Kd.R_drew)); exact HO330.out) (Kd.R_base ho0) hb); have n1_ := Aside0.mk (Kd.R_elder' (by (with_reducible repeat (first | apply Kd.R_alloc | apply Kd.R_drewN | apply Kd.R_drew)); exact HO333.out) (Kd.R_base ho0) hb); have n2_ := Aside0.mk (Kd.R_lower (Kd.R_new' (Kd.R_new' ho0 (Kd.R_lt (by (with_reducible repeat (first | apply Kd.R_alloc | apply Kd.R_drewN | apply Kd.R_drew)); exact HO330.out))) (Kd.R_lt (by (with_reducible repeat (first | apply Kd.R_alloc | apply Kd.R_drewN | apply Kd.R_drew)); exact HO333.out))) (below_size (by repeat (first | (with_reducible first | exact HB.out | apply below_alloc | apply pw_below_drewN | apply below_drew1 | refine below_set ?_ GE325.out) | exact HB.out)))); have n3_ := Aside0.mk (blk_below (g := gb325) (o := .cells #[.int .i64 a0_0, .slice A0_1 l0_1.length c0_1] 31 (0, 0)) (by (with_reducible repeat (first | refine blk_drewN ?_ _ | refine blk_drew ?_ | refine blk_alloc ?_ _)); exact BK325.out) hb); have n4_ := Aside0.mk (below_step (by repeat (first | (with_reducible first | exact HB.out | apply below_alloc | apply pw_below_drewN | apply below_drew1 | refine below_set ?_ GE325.out) | exact HB.out)) hb); clear HO330; clear HO333; clear BK325; clear HB; have HO330 := n0_; have HO333 := n1_; have HO338 := n2_; have BK325 := n3_; have HB := n4_; clear n0_ n1_ n2_ n3_ n4_; (try clear hb); (try clear hb2); (try clear hk); (try clear hi); (try clear ho0)) | ((with_reducible refine gate_dst (N := 6) rfl ?_); refine box_event ?hg (N := 6) ?hd (cs := #[.int .i64 0, .slice none 0 0]) (t := 35) ?hr ?_; (case hd => rfl); (case hg => rfl); (case hr => first | (go_simp; done) | (go_simp; rfl)); intro gb339 hg w21 hbox hb; have n0_ := Aside0.mk (Kd.R_below (by (with_reducible repeat (first | apply Kd.R_alloc | apply Kd.R_drewN | apply Kd.R_drew)); exact HO330.out) hb); have n1_ := Aside0.mk (Kd.R_below (by (with_reducible repeat (first | apply Kd.R_alloc | apply Kd.R_drewN | apply Kd.R_drew)); exact HO333.out) hb); have n2_ := Aside0.mk (Kd.R_below (by (with_reducible repeat (first | apply Kd.R_alloc | apply Kd.R_drewN | apply Kd.R_drew)); exact HO338.out) hb); have n3_ := Aside0.mk (blk_below (g := gb325) (o := .cells #[.int .i64 a0_0, .slice A0_1 l0_1.length c0_1] 31 (0, 0)) (by (with_reducible repeat (first | refine blk_drewN ?_ _ | refine blk_drew ?_ | refine blk_alloc ?_ _)); exact BK325.out) hb); have n4_ := Aside0.mk (below_step (by repeat (first | (with_reducible first | exact HB.out | apply below_alloc | apply pw_below_drewN | apply below_drew1 | refine below_set ?_ GE325.out) | exact HB.out)) hb); have n5_ := Aside0.mk (hbox); have n6_ := Aside0.mk ((by rw [hg]; exact (below_size (by repeat (first | (with_reducible first | exact HB.out | apply below_alloc | apply pw_below_drewN | apply below_drew1 | refine below_set ?_ GE325.out) | exact HB.out))) : w.heap.size ≤ gb339)); have n7_ := Aside0.mk ((by rw [hg]; exact (below_size (by repeat (first | (with_reducible first | exact HB.out | apply below_alloc | apply pw_below_drewN | apply below_drew1 | refine below_set ?_ GE325.out) | exact HB.out))) : w.heap.size ≤ gb339)); have n8_ := Aside0.mk ((by rw [hg]; exact Nat.ne_of_lt (blk_lt (g := gb325) (o := .cells #[.int .i64 a0_0, .slice A0_1 l0_1.length c0_1] 31 (0, 0)) (by (with_reducible repeat (first | refine blk_drewN ?_ _ | refine blk_drew ?_ | refine blk_alloc ?_ _)); exact BK325.out)) : gb325 ≠ gb339)); have n9_ := Aside0.mk ((by rw [hg]; exact Nat.ne_of_gt (blk_lt (g := gb325) (o := .cells #[.int .i64 a0_0, .slice A0_1 l0_1.length c0_1] 31 (0, 0)) (by (with_reducible repeat (first | refine blk_drewN ?_ _ | refine blk_drew ?_ | refine blk_alloc ?_ _)); exact BK325.out)) : gb339 ≠ gb325)); clear HO330; clear HO333; clear HO338; clear BK325; clear HB; have HO330 := n0_; have HO333 := n1_; have HO338 := n2_; have BK325 := n3_; have HB := n4_; have BK339 := n5_; have GW339 := n6_; have GE339 := n7_; have NB325_339 := n8_; have NB339_325 := n9_; clear n0_ n1_ n2_ n3_ n4_ n5_ n6_ n7_ n8_ n9_; clear hb hbox hg; have hnb22 := NB339_325.out; have hnc22 := NB325_339.out; have hcz23_0 : w21.cell? ⟨gb339, 0, none⟩ = some (.int .i64 0) := (blk_cell BK339.out 0).trans rfl; have hcz23_1 : w21.cell? ⟨gb339, 1, none⟩ = some (.slice none 0 0) := (blk_cell BK339.out 1).trans rfl; have hfz23_0 := blk_frozen BK339.out 0; have hfz23_1 := blk_frozen BK339.out 1; obtain ⟨Ao24, co24, eo24⟩ := Kd.R_slice HO338.out; subst eo24) | ((with_reducible refine gate_callee (f := 18) rfl ?_); refine goesL_ (some 29) rfl rfl Try.func18 (by kernel_rfl) rfl #[.agg #[.int .i64 t335, .slice Ao24 t336.length co24]] rfl (by (try simp only [List.map_toArray, List.map_cons, List.map_nil]); first | done | rfl) ?_; (with_reducible refine (impl_StrongParts.calls k t335 _ _ t336 t340 t343 _ ?side1 ?side2 A10.out).mono ?_); (case side1 => refine (Kd.R_reads' (e := 3) (base := w.heap.size) (ok := fun k_ => ((True ∧ some k_ ≠ (.slice Ao17 t328.length co17 : Value).ownBlock) ∧ some k_ ≠ (v332 : Value).ownBlock)) (n := t336.length) (c := co24) ?_).2.2; exact (by (with_reducible repeat (first | apply Kd.R_alloc | apply Kd.R_drewN | apply Kd.R_drew)); exact (Kd.R_mono (Kd.R_far (p := ⟨gb339, 1, none⟩) (Kd.R_far (p := ⟨gb339, 0, none⟩) (Kd.R_types HO338.out BK339.out (by decide)) (fun _ hk => hk.2) (.int .i64 t335)) (fun _ hk => hk.2) (.slice Ao24 t336.length co24)) (fun _ h_ => h_.1)))); (case side2 => exact (Kd.R_reads' HO338.out).2.1); rintro e w25 ⟨v341, rfl, ho0, hb⟩; refine ⟨_, rfl, ?_⟩; have n0_ := Aside0.mk (Kd.R_elder' (by (with_reducible repeat (first | apply Kd.R_alloc | apply Kd.R_drewN | apply Kd.R_drew)); exact (Kd.R_mono (Kd.R_far (p := ⟨gb339, 1, none⟩) (Kd.R_far (p := ⟨gb339, 0, none⟩) (Kd.R_types HO330.out BK339.out (by decide)) (fun _ hk => hk.2) (.int .i64 t335)) (fun _ hk => hk.2) (.slice Ao24 t336.length co24)) (fun _ h_ => h_.1))) (Kd.R_base ho0) hb); have n1_ := Aside0.mk (Kd.R_elder' (by (with_reducible repeat (first | apply Kd.R_alloc | apply Kd.R_drewN | apply Kd.R_drew)); exact (Kd.R_mono (Kd.R_far (p := ⟨gb339, 1, none⟩) (Kd.R_far (p := ⟨gb339, 0, none⟩) (Kd.R_types HO333.out BK339.out (by decide)) (fun _ hk => hk.2) (.int .i64 t335)) (fun _ hk => hk.2) (.slice Ao24 t336.length co24)) (fun _ h_ => h_.1))) (Kd.R_base ho0) hb); have n2_ := Aside0.mk (Kd.R_elder' (by (with_reducible repeat (first | apply Kd.R_alloc | apply Kd.R_drewN | apply Kd.R_drew)); exact (Kd.R_mono (Kd.R_far (p := ⟨gb339, 1, none⟩) (Kd.R_far (p := ⟨gb339, 0, none⟩) (Kd.R_types HO338.out BK339.out (by decide)) (fun _ hk => hk.2) (.int .i64 t335)) (fun _ hk => hk.2) (.slice Ao24 t336.length co24)) (fun _ h_ => h_.1))) (Kd.R_base ho0) hb); have n3_ := Aside0.mk (Kd.R_lower (Kd.R_new' (Kd.R_new' (Kd.R_new' ho0 (Kd.R_lt (by (with_reducible repeat (first | apply Kd.R_alloc | apply Kd.R_drewN | apply Kd.R_drew)); exact (Kd.R_mono (Kd.R_far (p := ⟨gb339, 1, none⟩) (Kd.R_far (p := ⟨gb339, 0, none⟩) (Kd.R_types HO330.out BK339.out (by decide)) (fun _ hk => hk.2) (.int .i64 t335)) (fun _ hk => hk.2) (.slice Ao24 t336.length co24)) (fun _ h_ => h_.1))))) (Kd.R_lt (by (with_reducible repeat (first | apply Kd.R_alloc | apply Kd.R_drewN | apply Kd.R_drew)); exact (Kd.R_mono (Kd.R_far (p := ⟨gb339, 1, none⟩) (Kd.R_far (p := ⟨gb339, 0, none⟩) (Kd.R_types HO333.out BK339.out (by decide)) (fun _ hk => hk.2) (.int .i64 t335)) (fun _ hk => hk.2) (.slice Ao24 t336.length co24)) (fun _ h_ => h_.1))))) (Kd.R_lt (by (with_reducible repeat (first | apply Kd.R_alloc | apply Kd.R_drewN | apply Kd.R_drew)); exact (Kd.R_mono (Kd.R_far (p := ⟨gb339, 1, none⟩) (Kd.R_far (p := ⟨gb339, 0, none⟩) (Kd.R_types HO338.out BK339.out (by decide)) (fun _ hk => hk.2) (.int .i64 t335)) (fun _ hk => hk.2) (.slice Ao24 t336.length co24)) (fun _ h_ => h_.1))))) (below_size (by repeat (first | (with_reducible first | exact HB.out | apply below_alloc | apply pw_below_drewN | apply below_drew1 | refine below_set ?_ GE325.out | refine below_set ?_ GE339.out) | exact HB.out)))); have n4_ := Aside0.mk (blk_below (g := gb325) (o := .cells #[.int .i64 a0_0, .slice A0_1 l0_1.length c0_1] 31 (0, 0)) (by (with_reducible repeat (first | refine blk_drewN ?_ _ | refine blk_drew ?_ | refine blk_alloc ?_ _)); refine blk_far ?_ NB325_339.out _; (with_reducible repeat (first | refine blk_drewN ?_ _ | refine blk_drew ?_ | refine blk_alloc ?_ _)); refine blk_far ?_ NB325_339.out _; (with_reducible repeat (first | refine blk_drewN ?_ _ | refine blk_drew ?_ | refine blk_alloc ?_ _)); exact BK325.out) hb); have n5_ := Aside0.mk (blk_below (g := gb339) (o := .cells #[.int .i64 t335, .slice Ao24 t336.length co24] 35 (0, 0)) (by (with_reducible repeat (first | refine blk_drewN ?_ _ | refine blk_drew ?_ | refine blk_alloc ?_ _)); refine blk_put (cs := #[.int .i64 t335, .slice none 0 0]) ?_ 1 _ rfl; (with_reducible repeat (first | refine blk_drewN ?_ _ | refine blk_drew ?_ | refine blk_alloc ?_ _)); refine blk_put (cs := #[.int .i64 0, .slice none 0 0]) ?_ 0 _ rfl; (with_reducible repeat (first | refine blk_drewN ?_ _ | refine blk_drew ?_ | refine blk_alloc ?_ _)); exact BK339.out) hb); have n6_ := Aside0.mk (below_step (by repeat (first | (with_reducible first | exact HB.out | apply below_alloc | apply pw_below_drewN | apply below_drew1 | refine below_set ?_ GE325.out | refine below_set ?_ GE339.out) | exact HB.out)) hb); clear HO330; clear HO333; clear HO338; clear BK325; clear BK339; clear HB; have HO330 := n0_; have HO333 := n1_; have HO338 := n2_; have HO342 := n3_; have BK325 := n4_; have BK339 := n5_; have HB := n6_; clear n0_ n1_ n2_ n3_ n4_ n5_ n6_; (try clear hb); (try clear hb2); (try clear hk); (try clear hi); (try clear ho0)))
  (try simp only [Act.put, List.setIfInBounds_toArray, List.set_cons_zero, List.set_cons_succ])
  go_cut [40] (fun v40 wc => ∃ (kq : Nat) (x40_10 : Bool), v40 = .bool x40_10 ∧ Aside0 (laws_FnExactStrongParts.j0 kq t331 t334 t340 t343 x40_10 a0_0 l0_1 t335 t336 = some r) ∧ Aside0 (kq ≤ k) ∧ Aside0 (Kd.R (Kd.int .i64) 3 wc w.heap.size (fun k_ => some k_ ≠ (v341 : Value).ownBlock ∧ some k_ ≠ ((.slice Ao24 t336.length co24) : Value).ownBlock) v332 t331) ∧ Aside0 (Kd.R (Kd.int .i64) 3 wc w.heap.size (fun k_ => some k_ ≠ (v332 : Value).ownBlock ∧ some k_ ≠ ((.slice Ao24 t336.length co24) : Value).ownBlock) v341 t340) ∧ Aside0 (Kd.R (Kd.int .i64) 3 wc w.heap.size (fun k_ => some k_ ≠ (v332 : Value).ownBlock ∧ some k_ ≠ (v341 : Value).ownBlock) (.slice Ao24 t336.length co24) t336) ∧ Aside0 (wc.heap[gb325]? = some (.cells #[.int .i64 a0_0, (.slice A0_1 l0_1.length c0_1)] 31 (0, 0))) ∧ Aside0 (wc.heap[gb339]? = some (.cells #[.int .i64 t335, (.slice Ao24 t336.length co24)] 35 (0, 0))) ∧ Aside0 (Below w.heap.size w wc))
  case first =>
   have H := HC11.out
   clear HC11
   replace H := Option.bind_eq_some_iff.mp H
   obtain ⟨t344, A260, H⟩ := H
   replace H : (if t344 = true then (laws_FnExactStrongParts.j0 k t331 t334 t340 t343 (t343 != t334) a0_0 l0_1 t335 t336) else (laws_FnExactStrongParts.j0 k t331 t334 t340 t343 true a0_0 l0_1 t335 t336)) = some r := H
   have A26 := Aside0.mk A260
   clear A260
   by_cases c27 : t344 = true
   ·
    subst c27
    have H1 : (laws_FnExactStrongParts.j0 k t331 t334 t340 t343 (t343 != t334) a0_0 l0_1 t335 t336) = some r := by rw [if_pos rfl] at H; exact H
    clear H
    have H := H1
    clear H1
    have H' := Aside0.mk H
    clear H
    obtain ⟨Ao28, co28, eo28⟩ := Kd.R_slice HO342.out
    subst eo28
    obtain ⟨Ao29, co29, eo29⟩ := Kd.R_slice HO333.out
    subst eo29
    go_wp2_with (first | ((with_reducible refine gate_callee (f := 10) rfl ?_); refine goesL_ (some 34) rfl rfl Try.func10 (by kernel_rfl) rfl #[.slice Ao28 t340.length co28, .slice Ao29 t331.length co29] rfl (by (try simp only [List.map_toArray, List.map_cons, List.map_nil]); first | done | rfl) ?_; (with_reducible refine (laws_eqIntS.calls k _ _ t340 _ _ t331 true _ ?side1 ?side2 ?side3 ?side4 A26.out).mono ?_); (case side1 => repeat (first | exact (Kd.R_reads' HO342.out).2.2 | (with_reducible refine Kd.C_alloc ?_ _) | (with_reducible refine Kd.C_drewN ?_ _) | (with_reducible refine Kd.C_drew ?_))); (case side2 => exact (Kd.R_reads' HO342.out).2.1); (case side3 => repeat (first | exact (Kd.R_reads' HO333.out).2.2 | (with_reducible refine Kd.C_alloc ?_ _) | (with_reducible refine Kd.C_drewN ?_ _) | (with_reducible refine Kd.C_drew ?_))); (case side4 => exact (Kd.R_reads' HO333.out).2.1); rintro e w' ⟨rfl, ⟨nd, rfl⟩⟩; refine ⟨_, rfl, ?_⟩))
    go_meet
    case rel => exact ⟨_, ((t343 != t334)), (by first | rfl | (simp; done) | (simp [*]; done)), H', ⟨by first | omega | exact Nat.le_refl _⟩, ⟨by (with_reducible repeat (first | apply Kd.R_alloc | apply Kd.R_drewN | apply Kd.R_drew)); exact Kd.R_mono HO333.out (fun _ hk => ⟨hk.2, hk.1.2⟩)⟩, ⟨by (with_reducible repeat (first | apply Kd.R_alloc | apply Kd.R_drewN | apply Kd.R_drew)); exact Kd.R_mono HO342.out (fun _ hk => ⟨hk.1.2, hk.2⟩)⟩, ⟨by (with_reducible repeat (first | apply Kd.R_alloc | apply Kd.R_drewN | apply Kd.R_drew)); exact Kd.R_mono HO338.out (fun _ hk => ⟨hk.1.2, hk.2⟩)⟩, ⟨by (with_reducible repeat (first | refine blk_drewN ?_ _ | refine blk_drew ?_ | refine blk_alloc ?_ _)); exact BK325.out⟩, ⟨by (with_reducible repeat (first | refine blk_drewN ?_ _ | refine blk_drew ?_ | refine blk_alloc ?_ _)); exact BK339.out⟩, ⟨by repeat (first | (with_reducible first | exact HB.out | apply below_alloc | apply pw_below_drewN | apply below_drew1 | refine below_set ?_ GE325.out | refine below_set ?_ GE339.out) | exact HB.out)⟩⟩
   ·
    replace c27 := Bool.eq_false_iff.mpr c27
    subst c27
    have H1 : (laws_FnExactStrongParts.j0 k t331 t334 t340 t343 true a0_0 l0_1 t335 t336) = some r := by rw [if_neg (show ¬ (false = true) by decide)] at H; exact H
    clear H
    have H := H1
    clear H1
    have H' := Aside0.mk H
    clear H
    obtain ⟨Ao30, co30, eo30⟩ := Kd.R_slice HO342.out
    subst eo30
    obtain ⟨Ao31, co31, eo31⟩ := Kd.R_slice HO333.out
    subst eo31
    go_wp2_with (first | ((with_reducible refine gate_callee (f := 10) rfl ?_); refine goesL_ (some 34) rfl rfl Try.func10 (by kernel_rfl) rfl #[.slice Ao30 t340.length co30, .slice Ao31 t331.length co31] rfl (by (try simp only [List.map_toArray, List.map_cons, List.map_nil]); first | done | rfl) ?_; (with_reducible refine (laws_eqIntS.calls k _ _ t340 _ _ t331 false _ ?side1 ?side2 ?side3 ?side4 A26.out).mono ?_); (case side1 => repeat (first | exact (Kd.R_reads' HO342.out).2.2 | (with_reducible refine Kd.C_alloc ?_ _) | (with_reducible refine Kd.C_drewN ?_ _) | (with_reducible refine Kd.C_drew ?_))); (case side2 => exact (Kd.R_reads' HO342.out).2.1); (case side3 => repeat (first | exact (Kd.R_reads' HO333.out).2.2 | (with_reducible refine Kd.C_alloc ?_ _) | (with_reducible refine Kd.C_drewN ?_ _) | (with_reducible refine Kd.C_drew ?_))); (case side4 => exact (Kd.R_reads' HO333.out).2.1); rintro e w' ⟨rfl, ⟨nd, rfl⟩⟩; refine ⟨_, rfl, ?_⟩))
    go_meet
    case rel => exact ⟨_, (true), (by first | rfl | (simp; done) | (simp [*]; done)), H', ⟨by first | omega | exact Nat.le_refl _⟩, ⟨by (with_reducible repeat (first | apply Kd.R_alloc | apply Kd.R_drewN | apply Kd.R_drew)); exact Kd.R_mono HO333.out (fun _ hk => ⟨hk.2, hk.1.2⟩)⟩, ⟨by (with_reducible repeat (first | apply Kd.R_alloc | apply Kd.R_drewN | apply Kd.R_drew)); exact Kd.R_mono HO342.out (fun _ hk => ⟨hk.1.2, hk.2⟩)⟩, ⟨by (with_reducible repeat (first | apply Kd.R_alloc | apply Kd.R_drewN | apply Kd.R_drew)); exact Kd.R_mono HO338.out (fun _ hk => ⟨hk.1.2, hk.2⟩)⟩, ⟨by (with_reducible repeat (first | refine blk_drewN ?_ _ | refine blk_drew ?_ | refine blk_alloc ?_ _)); exact BK325.out⟩, ⟨by (with_reducible repeat (first | refine blk_drewN ?_ _ | refine blk_drew ?_ | refine blk_alloc ?_ _)); exact BK339.out⟩, ⟨by repeat (first | (with_reducible first | exact HB.out | apply below_alloc | apply pw_below_drewN | apply below_drew1 | refine below_set ?_ GE325.out | refine below_set ?_ GE339.out) | exact HB.out)⟩⟩
  case rest =>
   clear HC11
   try clear c1
   try clear c2
   try clear p2
   try clear c3
   try clear c3b0
   try clear c6
   try clear c10
   try clear c15
   try clear c16
   try clear c17
   try clear c18
   try clear c22
   try clear c27
   try clear hcz13_0
   try clear hcz13_1
   try clear hcz15_0
   try clear hcz15_1
   try clear hcz19_0
   try clear hcz19_1
   try clear hcz23_0
   try clear hcz23_1
   try clear hcz5_0
   try clear hcz5_1
   try clear hfz13_0
   try clear hfz13_1
   try clear hfz15_0
   try clear hfz15_1
   try clear hfz19_0
   try clear hfz19_1
   try clear hfz23_0
   try clear hfz23_1
   try clear hfz5_0
   try clear hfz5_1
   obtain ⟨kq, x40_10, rfl, HA, HJ10, HO_4, HO_7, HO_340001, BK325, BK339, HB⟩ := hcut
   cases kq with
   | zero => exact absurd HA.out (by simp [laws_FnExactStrongParts.j0])
   | succ kj10 =>
    have H := HA.out
    clear HA
    simp only [laws_FnExactStrongParts.j0] at H
    by_cases c32 : x40_10 = true
    ·
     subst c32
     have H1 : (some false) = some r := by rw [if_pos rfl] at H; exact H
     clear H
     have H := H1
     clear H1
     obtain rfl := Option.some.inj H
     go_wp2
     go_ret
     exact ⟨by first | rfl | (simp [errW_none, errW_some] <;> rfl) | (simp [*, errW_none, errW_some] <;> rfl), by repeat (first | (with_reducible first | exact HB.out | apply below_alloc | apply pw_below_drewN | apply below_drew1 | refine below_set ?_ GE325.out | refine below_set ?_ GE339.out) | exact HB.out)⟩
    ·
     replace c32 := Bool.eq_false_iff.mpr c32
     subst c32
     have H1 : ((laws_toTournament.f kj10 a0_0 l0_1).bind fun bt345 => ((laws_eqTournament.f kj10 t335 t336 bt345.1 bt345.2).bind fun t349 => (if t349 = true then ((laws_markTournament.f kj10 t335 t336 1).bind fun bt350 => (if bt350.1 < 0 then (laws_FnExactStrongParts.j1 kj10 t331 t334 t340 true a0_0 l0_1) else ((laws_eqIntS.f kj10 t340 t331).bind fun t352 => (if t352 = true then (laws_FnExactStrongParts.j1 kj10 t331 t334 t340 (t343 != t334) a0_0 l0_1) else (laws_FnExactStrongParts.j1 kj10 t331 t334 t340 true a0_0 l0_1))))) else (some false)))) = some r := by rw [if_neg (show ¬ (false = true) by decide)] at H; exact H
     clear H
     have H := H1
     clear H1
     replace H := Option.bind_eq_some_iff.mp H
     obtain ⟨⟨t345, t346⟩, A330, H⟩ := H
     replace H : ((laws_eqTournament.f kj10 t335 t336 t345 t346).bind fun t349 => (if t349 = true then ((laws_markTournament.f kj10 t335 t336 1).bind fun bt350 => (if bt350.1 < 0 then (laws_FnExactStrongParts.j1 kj10 t331 t334 t340 true a0_0 l0_1) else ((laws_eqIntS.f kj10 t340 t331).bind fun t352 => (if t352 = true then (laws_FnExactStrongParts.j1 kj10 t331 t334 t340 (t343 != t334) a0_0 l0_1) else (laws_FnExactStrongParts.j1 kj10 t331 t334 t340 true a0_0 l0_1))))) else (some false))) = some r := H
     have A33 := Aside0.mk A330
     clear A330
     replace H := Option.bind_eq_some_iff.mp H
     obtain ⟨t349, A340, H⟩ := H
     replace H : (if t349 = true then ((laws_markTournament.f kj10 t335 t336 1).bind fun bt350 => (if bt350.1 < 0 then (laws_FnExactStrongParts.j1 kj10 t331 t334 t340 true a0_0 l0_1) else ((laws_eqIntS.f kj10 t340 t331).bind fun t352 => (if t352 = true then (laws_FnExactStrongParts.j1 kj10 t331 t334 t340 (t343 != t334) a0_0 l0_1) else (laws_FnExactStrongParts.j1 kj10 t331 t334 t340 true a0_0 l0_1))))) else (some false)) = some r := H
     have A34 := Aside0.mk A340
     clear A340
     by_cases c35 : t349 = true
     ·
      subst c35
      have H1 : ((laws_markTournament.f kj10 t335 t336 1).bind fun bt350 => (if bt350.1 < 0 then (laws_FnExactStrongParts.j1 kj10 t331 t334 t340 true a0_0 l0_1) else ((laws_eqIntS.f kj10 t340 t331).bind fun t352 => (if t352 = true then (laws_FnExactStrongParts.j1 kj10 t331 t334 t340 (t343 != t334) a0_0 l0_1) else (laws_FnExactStrongParts.j1 kj10 t331 t334 t340 true a0_0 l0_1))))) = some r := by rw [if_pos rfl] at H; exact H
      clear H
      have H := H1
      clear H1
      replace H := Option.bind_eq_some_iff.mp H
      obtain ⟨⟨t350, t351⟩, A360, H⟩ := H
      replace H : (if t350 < 0 then (laws_FnExactStrongParts.j1 kj10 t331 t334 t340 true a0_0 l0_1) else ((laws_eqIntS.f kj10 t340 t331).bind fun t352 => (if t352 = true then (laws_FnExactStrongParts.j1 kj10 t331 t334 t340 (t343 != t334) a0_0 l0_1) else (laws_FnExactStrongParts.j1 kj10 t331 t334 t340 true a0_0 l0_1)))) = some r := H
      have A36 := Aside0.mk A360
      clear A360
      have HC37 := Aside0.mk H
      clear H
      try go_wp2
      have n0_ := Aside0.mk (Kd.R_drew HO_4.out)
      have n1_ := Aside0.mk (Kd.R_drew HO_7.out)
      have n2_ := Aside0.mk (Kd.R_drew HO_340001.out)
      have n3_ := Aside0.mk (blk_drew BK325.out)
      have n4_ := Aside0.mk (blk_drew BK339.out)
      have n5_ := Aside0.mk (below_drew1 HB.out)
      clear HO_4
      clear HO_7
      clear HO_340001
      clear BK325
      clear BK339
      clear HB
      have HO_4 := n0_
      have HO_7 := n1_
      have HO_340001 := n2_
      have BK325 := n3_
      have BK339 := n4_
      have HB := n5_
      clear n0_ n1_ n2_ n3_ n4_ n5_
      refine start_ (n := 5) (S := fun w' => w'.cell? ⟨gb339, 0, none⟩ = some (.int .i64 t335) ∧ w'.cell? ⟨gb339, 1, none⟩ = some (.slice Ao24 t336.length co24) ∧ w'.cell? ⟨gb325, 0, none⟩ = some (.int .i64 a0_0) ∧ w'.cell? ⟨gb325, 1, none⟩ = some (.slice A0_1 l0_1.length c0_1)) (ds := []) #[Zz,Zz,Zz,Zz,Zz] (by kernel_rfl) rfl rfl ⟨(blk_cell BK339.out 0).trans rfl, (blk_cell BK339.out 1).trans rfl, (blk_cell BK325.out 0).trans rfl, (blk_cell BK325.out 1).trans rfl⟩ (fun hHeld => ?_)
      generalize wc.drew = w38 at HO_4 HO_7 HO_340001 BK325 BK339 HB hHeld ⊢
      refine take_ (i := 0) (N := some 41) (v := ?_) (a' := ?_) #[Yy,Zz,Zz,Zz,Zz] rfl rfl (by kernel_rfl) (fun _ _ _ h => h) (Or.inl ⟨by rfl, ?_⟩) hHeld ?_ ?_
      rotate_left
      ·
       rintro w' ⟨s0, s1, s2, s3⟩
       go_simp
       with_reducible rfl
      rotate_left
      ·
       simp only [Act.put, List.setIfInBounds_toArray, List.set_cons_zero, List.set_cons_succ, i64_w, i32_w]
       rfl
      refine take_ (i := 1) (N := some 42) (v := ?_) (a' := ?_) #[Yy,Yy,Zz,Zz,Zz] rfl rfl (by kernel_rfl) (fun _ _ _ h => h) (Or.inl ⟨by rfl, ?_⟩) hHeld ?_ ?_
      rotate_left
      ·
       rintro w' ⟨s0, s1, s2, s3⟩
       go_simp
       with_reducible rfl
      rotate_left
      ·
       simp only [Act.put, List.setIfInBounds_toArray, List.set_cons_zero, List.set_cons_succ, i64_w, i32_w]
       rfl
      refine one_ (i := 2) (N := some 43) #[Yy,Yy,Yy,Zz,Zz] rfl rfl (by kernel_rfl) (by decide) (fun K hK => ?_)
      refine goes_ Try.func17 (by kernel_rfl) rfl #[.agg #[.int .i64 a0_0, .slice A0_1 l0_1.length c0_1]] (by rfl) rfl rfl (by (try simp only [List.map_toArray, List.map_cons, List.map_nil]); first | done | rfl) ?_
      with_reducible refine (laws_toTournament.calls kj10 a0_0 _ _ l0_1 t345 t346 _ ?side1 ?side2 A33.out).mono ?_
      (case side1 => repeat (first | exact (Kd.C_below HR0_1.out HB.out) | (with_reducible refine Kd.C_alloc ?_ _) | (with_reducible refine Kd.C_drewN ?_ _) | (with_reducible refine Kd.C_drew ?_)))
      (case side2 => exact HC0_1.out)
      rintro e w39 ⟨v347, rfl, ho0, hb⟩
      refine ⟨_, rfl, ?_⟩
      have n0_ := Aside0.mk (Kd.R_elder' (by (with_reducible repeat (first | apply Kd.R_alloc | apply Kd.R_drewN | apply Kd.R_drew)); exact HO_4.out) (Kd.R_base ho0) hb)
      have n1_ := Aside0.mk (Kd.R_elder' (by (with_reducible repeat (first | apply Kd.R_alloc | apply Kd.R_drewN | apply Kd.R_drew)); exact HO_7.out) (Kd.R_base ho0) hb)
      have n2_ := Aside0.mk (Kd.R_elder' (by (with_reducible repeat (first | apply Kd.R_alloc | apply Kd.R_drewN | apply Kd.R_drew)); exact HO_340001.out) (Kd.R_base ho0) hb)
      have n3_ := Aside0.mk (Kd.R_lower (Kd.R_new' (Kd.R_new' (Kd.R_new' ho0 (Kd.R_lt (by (with_reducible repeat (first | apply Kd.R_alloc | apply Kd.R_drewN | apply Kd.R_drew)); exact HO_4.out))) (Kd.R_lt (by (with_reducible repeat (first | apply Kd.R_alloc | apply Kd.R_drewN | apply Kd.R_drew)); exact HO_7.out))) (Kd.R_lt (by (with_reducible repeat (first | apply Kd.R_alloc | apply Kd.R_drewN | apply Kd.R_drew)); exact HO_340001.out))) (below_size (by repeat (first | (with_reducible first | exact HB.out | apply below_alloc | apply pw_below_drewN | apply below_drew1 | refine below_set ?_ GE325.out | refine below_set ?_ GE339.out) | exact HB.out))))
      have n4_ := Aside0.mk (blk_below (g := gb325) (o := .cells #[.int .i64 a0_0, .slice A0_1 l0_1.length c0_1] 31 (0, 0)) (by (with_reducible repeat (first | refine blk_drewN ?_ _ | refine blk_drew ?_ | refine blk_alloc ?_ _)); exact BK325.out) hb)
      have n5_ := Aside0.mk (blk_below (g := gb339) (o := .cells #[.int .i64 t335, .slice Ao24 t336.length co24] 35 (0, 0)) (by (with_reducible repeat (first | refine blk_drewN ?_ _ | refine blk_drew ?_ | refine blk_alloc ?_ _)); exact BK339.out) hb)
      have n6_ := Aside0.mk (below_step (by repeat (first | (with_reducible first | exact HB.out | apply below_alloc | apply pw_below_drewN | apply below_drew1 | refine below_set ?_ GE325.out | refine below_set ?_ GE339.out) | exact HB.out)) hb)
      clear HO_4
      clear HO_7
      clear HO_340001
      clear BK325
      clear BK339
      clear HB
      have HO_4 := n0_
      have HO_7 := n1_
      have HO_340001 := n2_
      have HO348 := n3_
      have BK325 := n4_
      have BK339 := n5_
      have HB := n6_
      clear n0_ n1_ n2_ n3_ n4_ n5_ n6_
      (try clear hb)
      (try clear hb2)
      (try clear hk)
      (try clear hi)
      (try clear ho0)
      obtain ⟨Ao40, co40, eo40⟩ := Kd.R_slice HO348.out
      (first | subst eo40 | (injection eo40 with f1_ f2_ f3_; have f4_ := f1_.symm; have f5_ := f3_.symm; clear f1_ f2_ f3_; subst f4_; subst f5_))
      refine hK.out _ _ ⟨(blk_cell BK339.out 0).trans rfl, (blk_cell BK339.out 1).trans rfl, (blk_cell BK325.out 0).trans rfl, (blk_cell BK325.out 1).trans rfl⟩ (fun hHeld => ?_)
      clear hK K
      refine norm_ (a' := ?_) ?_ ?_
      rotate_left
      ·
       show Act.put _ (some 43) _ = _
       simp only [Act.put, List.setIfInBounds_toArray, List.set_cons_zero, List.set_cons_succ, i64_w, i32_w]
       rfl
      refine one_ (i := 3) (N := some 44) #[Yy,Yy,Yy,Yy,Zz] rfl rfl (by kernel_rfl) (by decide) (fun K hK => ?_)
      refine goes_ Try.func19 (by kernel_rfl) rfl #[.agg #[.int .i64 t335, .slice Ao24 t336.length co24], .agg #[.int .i64 t345, .slice Ao40 t346.length co40]] (by rfl) rfl rfl (by (try simp only [List.map_toArray, List.map_cons, List.map_nil]); first | done | rfl) ?_
      with_reducible refine (laws_eqTournament.calls kj10 t335 _ _ t336 t345 _ _ t346 true _ ?side1 ?side2 ?side3 ?side4 A34.out).mono ?_
      (case side1 => repeat (first | exact (Kd.R_reads' HO_340001.out).2.2 | (with_reducible refine Kd.C_alloc ?_ _) | (with_reducible refine Kd.C_drewN ?_ _) | (with_reducible refine Kd.C_drew ?_)))
      (case side2 => exact (Kd.R_reads' HO_340001.out).2.1)
      (case side3 => repeat (first | exact (Kd.R_reads' HO348.out).2.2 | (with_reducible refine Kd.C_alloc ?_ _) | (with_reducible refine Kd.C_drewN ?_ _) | (with_reducible refine Kd.C_drew ?_)))
      (case side4 => exact (Kd.R_reads' HO348.out).2.1)
      rintro e w41 ⟨rfl, hb⟩
      refine ⟨_, rfl, ?_⟩
      have n0_ := Aside0.mk (Kd.R_below (by (with_reducible repeat (first | apply Kd.R_alloc | apply Kd.R_drewN | apply Kd.R_drew)); exact HO_4.out) hb)
      have n1_ := Aside0.mk (Kd.R_below (by (with_reducible repeat (first | apply Kd.R_alloc | apply Kd.R_drewN | apply Kd.R_drew)); exact HO_7.out) hb)
      have n2_ := Aside0.mk (Kd.R_below (by (with_reducible repeat (first | apply Kd.R_alloc | apply Kd.R_drewN | apply Kd.R_drew)); exact HO_340001.out) hb)
      have n3_ := Aside0.mk (Kd.R_below (by (with_reducible repeat (first | apply Kd.R_alloc | apply Kd.R_drewN | apply Kd.R_drew)); exact HO348.out) hb)
      have n4_ := Aside0.mk (blk_below (g := gb325) (o := .cells #[.int .i64 a0_0, .slice A0_1 l0_1.length c0_1] 31 (0, 0)) (by (with_reducible repeat (first | refine blk_drewN ?_ _ | refine blk_drew ?_ | refine blk_alloc ?_ _)); exact BK325.out) hb)
      have n5_ := Aside0.mk (blk_below (g := gb339) (o := .cells #[.int .i64 t335, .slice Ao24 t336.length co24] 35 (0, 0)) (by (with_reducible repeat (first | refine blk_drewN ?_ _ | refine blk_drew ?_ | refine blk_alloc ?_ _)); exact BK339.out) hb)
      have n6_ := Aside0.mk (below_step (by repeat (first | (with_reducible first | exact HB.out | apply below_alloc | apply pw_below_drewN | apply below_drew1 | refine below_set ?_ GE325.out | refine below_set ?_ GE339.out) | exact HB.out)) hb)
      clear HO_4
      clear HO_7
      clear HO_340001
      clear HO348
      clear BK325
      clear BK339
      clear HB
      have HO_4 := n0_
      have HO_7 := n1_
      have HO_340001 := n2_
      have HO348 := n3_
      have BK325 := n4_
      have BK339 := n5_
      have HB := n6_
      clear n0_ n1_ n2_ n3_ n4_ n5_ n6_
      (try clear hb)
      (try clear hb2)
      (try clear hk)
      (try clear hi)
      refine hK.out _ _ ⟨(blk_cell BK339.out 0).trans rfl, (blk_cell BK339.out 1).trans rfl, (blk_cell BK325.out 0).trans rfl, (blk_cell BK325.out 1).trans rfl⟩ (fun hHeld => ?_)
      clear hK K
      refine norm_ (a' := ?_) ?_ ?_
      rotate_left
      ·
       show Act.put _ (some 44) _ = _
       simp only [Act.put, List.setIfInBounds_toArray, List.set_cons_zero, List.set_cons_succ, i64_w, i32_w]
       rfl
      refine pure_ (i := 4) (N := some 45) (v := ?_) (a' := ?_) #[Yy,Yy,Yy,Yy,Yy] rfl rfl (by kernel_rfl) (fun _ _ _ h => h) (Or.inl ⟨by rfl, ?_⟩) ?_ ?_
      rotate_left
      ·
       intro w'
       go_simp
       with_reducible rfl
      rotate_left
      ·
       simp only [Act.put, List.setIfInBounds_toArray, List.set_cons_zero, List.set_cons_succ, i64_w, i32_w]
       rfl
      refine done_ (by kernel_rfl) ?_
      have hnb42 := NB339_325.out
      have hnc42 := NB325_339.out
      have hcz43_0 : w41.cell? ⟨gb339, 0, none⟩ = some (.int .i64 t335) := (blk_cell BK339.out 0).trans rfl
      have hcz43_1 : w41.cell? ⟨gb339, 1, none⟩ = some (.slice Ao24 t336.length co24) := (blk_cell BK339.out 1).trans rfl
      have hfz43_0 := blk_frozen BK339.out 0
      have hfz43_1 := blk_frozen BK339.out 1
      go_upto_region 14 with (first | ((with_reducible refine gate_callee (f := 20) rfl ?_); refine goesL_ (some 48) rfl rfl Try.func20 (by kernel_rfl) rfl #[.agg #[.int .i64 t335, .slice Ao24 t336.length co24], .int .i64 1] rfl (by (try simp only [List.map_toArray, List.map_cons, List.map_nil]); first | done | rfl) ?_; (with_reducible refine (laws_markTournament.calls kj10 t335 (fun k_ => some k_ = (.slice Ao24 t336.length co24 : Value).ownBlock) (.slice Ao24 t336.length co24) t336 1 t350 t351 w _ ?side1 ?side2 A36.out).mono ?_); (case side1 => repeat (first | (with_reducible first | exact HB.out | apply below_alloc | apply pw_below_drewN | apply below_drew1 | refine below_set ?_ GE325.out | refine below_set ?_ GE339.out) | exact HB.out)); (case side2 => exact Kd.R_tight rfl HO_340001.out); rintro e w44 ⟨rfl, hy0, hb, hkp⟩; refine ⟨_, rfl, ?_⟩; have n0_ := Aside0.mk (Kd.R_mono (ok' := fun k_ => some k_ ≠ (v341 : Value).ownBlock ∧ some k_ ≠ (.slice Ao24 t336.length co24 : Value).ownBlock ∧ some k_ ≠ (.slice Ao40 t346.length co40 : Value).ownBlock) (Kd.R_keptB (HO_4.out) hkp (fun k_ hk_ hs_ => (hk_.1.2) hs_)) (fun k_ hk_ => ⟨hk_.1.1.1, hk_.1.1.2, hk_.1.2⟩)); have n1_ := Aside0.mk (Kd.R_mono (ok' := fun k_ => some k_ ≠ (v332 : Value).ownBlock ∧ some k_ ≠ (.slice Ao24 t336.length co24 : Value).ownBlock ∧ some k_ ≠ (.slice Ao40 t346.length co40 : Value).ownBlock) (Kd.R_keptB (HO_7.out) hkp (fun k_ hk_ hs_ => (hk_.1.2) hs_)) (fun k_ hk_ => ⟨hk_.1.1.1, hk_.1.1.2, hk_.1.2⟩)); have n2_ := Aside0.mk (Kd.R_reok rfl hy0 (fun k_ e_ => HO_340001.out.1 k_ e_)); have n3_ := Aside0.mk (blk_kept (by (with_reducible repeat (first | refine blk_drewN ?_ _ | refine blk_drew ?_ | refine blk_alloc ?_ _)); exact BK325.out) hkp (fun hs_ => (fun e_ => (Kd.R_ne HO_340001.out BK325.out (by decide)) e_) hs_)); have n4_ := Aside0.mk (blk_kept (by (with_reducible repeat (first | refine blk_drewN ?_ _ | refine blk_drew ?_ | refine blk_alloc ?_ _)); exact BK339.out) hkp (fun hs_ => (fun e_ => (Kd.R_ne HO_340001.out BK339.out (by decide)) e_) hs_)); have n5_ := Aside0.mk (Kd.R_mono (ok' := fun k_ => some k_ ≠ (v332 : Value).ownBlock ∧ some k_ ≠ (v341 : Value).ownBlock ∧ some k_ ≠ (.slice Ao24 t336.length co24 : Value).ownBlock) (Kd.R_keptB (HO348.out) hkp (fun k_ hk_ hs_ => (hk_.2) hs_)) (fun k_ hk_ => ⟨hk_.1.1.1.2, hk_.1.1.2, hk_.1.2⟩)); have n6_ := Aside0.mk (hb); clear HO_4; clear HO_7; clear HO_340001; clear BK325; clear BK339; clear HO348; clear HB; have HO_4 := n0_; have HO_7 := n1_; have HO_340001 := n2_; have BK325 := n3_; have BK339 := n4_; have HO348 := n5_; have HB := n6_; clear n0_ n1_ n2_ n3_ n4_ n5_ n6_; (try clear hb); (try clear hkp); (try clear hy0)))
      (try simp only [Act.put, List.setIfInBounds_toArray, List.set_cons_zero, List.set_cons_succ])
      go_cut [61] (fun v61 wc => ∃ (kq : Nat) (x61_36 : Bool), v61 = .bool x61_36 ∧ Aside0 (laws_FnExactStrongParts.j1 kq t331 t334 t340 x61_36 a0_0 l0_1 = some r) ∧ Aside0 (kq ≤ kj10) ∧ Aside0 (Kd.R (Kd.int .i64) 3 wc w.heap.size (fun k_ => some k_ ≠ (v341 : Value).ownBlock ∧ some k_ ≠ ((.slice Ao24 t336.length co24) : Value).ownBlock) v332 t331) ∧ Aside0 (Kd.R (Kd.int .i64) 3 wc w.heap.size (fun k_ => some k_ ≠ (v332 : Value).ownBlock ∧ some k_ ≠ ((.slice Ao24 t336.length co24) : Value).ownBlock) v341 t340) ∧ Aside0 (Kd.R (Kd.int .i64) 3 wc w.heap.size (fun k_ => some k_ ≠ (v332 : Value).ownBlock ∧ some k_ ≠ (v341 : Value).ownBlock) (.slice Ao24 t336.length co24) t351) ∧ Aside0 (wc.heap[gb325]? = some (.cells #[.int .i64 a0_0, (.slice A0_1 l0_1.length c0_1)] 31 (0, 0))) ∧ Aside0 (wc.heap[gb339]? = some (.cells #[.int .i64 t335, (.slice Ao24 t336.length co24)] 35 (0, 0))) ∧ Aside0 (Below w.heap.size w wc))
      case first =>
       have H := HC37.out
       clear HC37
       by_cases c45 : t350 < 0
       ·
        rw [if_pos c45] at H
        have c45b0 : decide (t350 < 0) = true := decide_eq_true c45
        clear c45
        (first | rw [c45b0] | (simp only [i64_w, i32_w]; rw [c45b0]) | skip)
        have H' := Aside0.mk H
        clear H
        go_wp2
        go_meet
        case rel => exact ⟨_, (true), (by first | rfl | (simp; done) | (simp [*]; done)), H', ⟨by have := HJ10.out; first | omega | exact Nat.le_refl _⟩, ⟨by (with_reducible repeat (first | apply Kd.R_alloc | apply Kd.R_drewN | apply Kd.R_drew)); exact Kd.R_mono HO_4.out (fun _ hk => ⟨hk.1, hk.2.1⟩)⟩, ⟨by (with_reducible repeat (first | apply Kd.R_alloc | apply Kd.R_drewN | apply Kd.R_drew)); exact Kd.R_mono HO_7.out (fun _ hk => ⟨hk.1, hk.2.1⟩)⟩, ⟨by (with_reducible repeat (first | apply Kd.R_alloc | apply Kd.R_drewN | apply Kd.R_drew)); exact Kd.R_mono HO_340001.out (fun _ hk => ⟨hk.1.1, hk.1.2⟩)⟩, ⟨by (with_reducible repeat (first | refine blk_drewN ?_ _ | refine blk_drew ?_ | refine blk_alloc ?_ _)); exact BK325.out⟩, ⟨by (with_reducible repeat (first | refine blk_drewN ?_ _ | refine blk_drew ?_ | refine blk_alloc ?_ _)); exact BK339.out⟩, ⟨by repeat (first | (with_reducible first | exact HB.out | apply below_alloc | apply pw_below_drewN | apply below_drew1 | refine below_set ?_ GE325.out | refine below_set ?_ GE339.out) | exact HB.out)⟩⟩
       ·
        rw [if_neg c45] at H
        have c45b0 : decide (t350 < 0) = false := decide_eq_false c45
        clear c45
        (first | rw [c45b0] | (simp only [i64_w, i32_w]; rw [c45b0]) | skip)
        replace H := Option.bind_eq_some_iff.mp H
        obtain ⟨t352, A460, H⟩ := H
        replace H : (if t352 = true then (laws_FnExactStrongParts.j1 kj10 t331 t334 t340 (t343 != t334) a0_0 l0_1) else (laws_FnExactStrongParts.j1 kj10 t331 t334 t340 true a0_0 l0_1)) = some r := H
        have A46 := Aside0.mk A460
        clear A460
        by_cases c47 : t352 = true
        ·
         subst c47
         have H1 : (laws_FnExactStrongParts.j1 kj10 t331 t334 t340 (t343 != t334) a0_0 l0_1) = some r := by rw [if_pos rfl] at H; exact H
         clear H
         have H := H1
         clear H1
         have H' := Aside0.mk H
         clear H
         obtain ⟨Ao48, co48, eo48⟩ := Kd.R_slice HO_7.out
         subst eo48
         obtain ⟨Ao49, co49, eo49⟩ := Kd.R_slice HO_4.out
         subst eo49
         go_wp2_with (first | (go_at_call 10; (with_reducible refine (laws_eqIntS.calls kj10 _ _ t340 _ _ t331 true _ ?side1 ?side2 ?side3 ?side4 A46.out).mono ?_); (case side1 => repeat (first | exact (Kd.R_reads' HO_7.out).2.2 | (with_reducible refine Kd.C_alloc ?_ _) | (with_reducible refine Kd.C_drewN ?_ _) | (with_reducible refine Kd.C_drew ?_))); (case side2 => exact (Kd.R_reads' HO_7.out).2.1); (case side3 => repeat (first | exact (Kd.R_reads' HO_4.out).2.2 | (with_reducible refine Kd.C_alloc ?_ _) | (with_reducible refine Kd.C_drewN ?_ _) | (with_reducible refine Kd.C_drew ?_))); (case side4 => exact (Kd.R_reads' HO_4.out).2.1); rintro e w' ⟨rfl, ⟨nd, rfl⟩⟩))
         go_meet
         case rel => exact ⟨_, ((t343 != t334)), (by first | rfl | (simp; done) | (simp [*]; done)), H', ⟨by have := HJ10.out; first | omega | exact Nat.le_refl _⟩, ⟨by (with_reducible repeat (first | apply Kd.R_alloc | apply Kd.R_drewN | apply Kd.R_drew)); exact Kd.R_mono HO_4.out (fun _ hk => ⟨hk.1, hk.2.1⟩)⟩, ⟨by (with_reducible repeat (first | apply Kd.R_alloc | apply Kd.R_drewN | apply Kd.R_drew)); exact Kd.R_mono HO_7.out (fun _ hk => ⟨hk.1, hk.2.1⟩)⟩, ⟨by (with_reducible repeat (first | apply Kd.R_alloc | apply Kd.R_drewN | apply Kd.R_drew)); exact Kd.R_mono HO_340001.out (fun _ hk => ⟨hk.1.1, hk.1.2⟩)⟩, ⟨by (with_reducible repeat (first | refine blk_drewN ?_ _ | refine blk_drew ?_ | refine blk_alloc ?_ _)); exact BK325.out⟩, ⟨by (with_reducible repeat (first | refine blk_drewN ?_ _ | refine blk_drew ?_ | refine blk_alloc ?_ _)); exact BK339.out⟩, ⟨by repeat (first | (with_reducible first | exact HB.out | apply below_alloc | apply pw_below_drewN | apply below_drew1 | refine below_set ?_ GE325.out | refine below_set ?_ GE339.out) | exact HB.out)⟩⟩
        ·
         replace c47 := Bool.eq_false_iff.mpr c47
         subst c47
         have H1 : (laws_FnExactStrongParts.j1 kj10 t331 t334 t340 true a0_0 l0_1) = some r := by rw [if_neg (show ¬ (false = true) by decide)] at H; exact H
         clear H
         have H := H1
         clear H1
         have H' := Aside0.mk H
         clear H
         obtain ⟨Ao50, co50, eo50⟩ := Kd.R_slice HO_7.out
         subst eo50
         obtain ⟨Ao51, co51, eo51⟩ := Kd.R_slice HO_4.out
         subst eo51
         go_wp2_with (first | (go_at_call 10; (with_reducible refine (laws_eqIntS.calls kj10 _ _ t340 _ _ t331 false _ ?side1 ?side2 ?side3 ?side4 A46.out).mono ?_); (case side1 => repeat (first | exact (Kd.R_reads' HO_7.out).2.2 | (with_reducible refine Kd.C_alloc ?_ _) | (with_reducible refine Kd.C_drewN ?_ _) | (with_reducible refine Kd.C_drew ?_))); (case side2 => exact (Kd.R_reads' HO_7.out).2.1); (case side3 => repeat (first | exact (Kd.R_reads' HO_4.out).2.2 | (with_reducible refine Kd.C_alloc ?_ _) | (with_reducible refine Kd.C_drewN ?_ _) | (with_reducible refine Kd.C_drew ?_))); (case side4 => exact (Kd.R_reads' HO_4.out).2.1); rintro e w' ⟨rfl, ⟨nd, rfl⟩⟩))
         go_meet
         case rel => exact ⟨_, (true), (by first | rfl | (simp; done) | (simp [*]; done)), H', ⟨by have := HJ10.out; first | omega | exact Nat.le_refl _⟩, ⟨by (with_reducible repeat (first | apply Kd.R_alloc | apply Kd.R_drewN | apply Kd.R_drew)); exact Kd.R_mono HO_4.out (fun _ hk => ⟨hk.1, hk.2.1⟩)⟩, ⟨by (with_reducible repeat (first | apply Kd.R_alloc | apply Kd.R_drewN | apply Kd.R_drew)); exact Kd.R_mono HO_7.out (fun _ hk => ⟨hk.1, hk.2.1⟩)⟩, ⟨by (with_reducible repeat (first | apply Kd.R_alloc | apply Kd.R_drewN | apply Kd.R_drew)); exact Kd.R_mono HO_340001.out (fun _ hk => ⟨hk.1.1, hk.1.2⟩)⟩, ⟨by (with_reducible repeat (first | refine blk_drewN ?_ _ | refine blk_drew ?_ | refine blk_alloc ?_ _)); exact BK325.out⟩, ⟨by (with_reducible repeat (first | refine blk_drewN ?_ _ | refine blk_drew ?_ | refine blk_alloc ?_ _)); exact BK339.out⟩, ⟨by repeat (first | (with_reducible first | exact HB.out | apply below_alloc | apply pw_below_drewN | apply below_drew1 | refine below_set ?_ GE325.out | refine below_set ?_ GE339.out) | exact HB.out)⟩⟩
      case rest =>
       clear HC37
       try clear c1
       try clear c2
       try clear p2
       try clear c3
       try clear c3b0
       try clear c4
       try clear c6
       try clear c10
       try clear c15
       try clear c16
       try clear c17
       try clear c18
       try clear c19
       try clear c20
       try clear c22
       try clear c27
       try clear c32
       try clear c35
       try clear c42
       try clear c45
       try clear c45b0
       try clear c47
       try clear hcz13_0
       try clear hcz13_1
       try clear hcz15_0
       try clear hcz15_1
       try clear hcz19_0
       try clear hcz19_1
       try clear hcz23_0
       try clear hcz23_1
       try clear hcz43_0
       try clear hcz43_1
       try clear hcz5_0
       try clear hcz5_1
       try clear hfz13_0
       try clear hfz13_1
       try clear hfz15_0
       try clear hfz15_1
       try clear hfz19_0
       try clear hfz19_1
       try clear hfz23_0
       try clear hfz23_1
       try clear hfz43_0
       try clear hfz43_1
       try clear hfz5_0
       try clear hfz5_1
       try clear p2
       obtain ⟨kq, x61_36, rfl, HA, HJ36, HO_4, HO_7, HO_340001, BK325, BK339, HB⟩ := hcut
       have hl340001_36 := (Kd.R_reads' HO_340001.out).1
       rw [hl340001_36] at HO_340001
       (try simp only [hl340001_36])
       (try simp only [hl340001_36] at BK325)
       (try simp only [hl340001_36] at BK339)
       (try simp only [hl340001_36] at HO_4)
       (try simp only [hl340001_36] at HO_7)
       cases kq with
       | zero => exact absurd HA.out (by simp [laws_FnExactStrongParts.j1])
       | succ kj36 =>
        have H := HA.out
        clear HA
        simp only [laws_FnExactStrongParts.j1] at H
        by_cases c52 : x61_36 = true
        ·
         subst c52
         have H1 : (some false) = some r := by rw [if_pos rfl] at H; exact H
         clear H
         have H := H1
         clear H1
         obtain rfl := Option.some.inj H
         go_wp2
         go_ret
         exact ⟨by first | rfl | (simp [errW_none, errW_some] <;> rfl) | (simp [*, errW_none, errW_some] <;> rfl), by repeat (first | (with_reducible first | exact HB.out | apply below_alloc | apply pw_below_drewN | apply below_drew1 | refine below_set ?_ GE325.out | refine below_set ?_ GE339.out) | exact HB.out)⟩
        ·
         replace c52 := Bool.eq_false_iff.mpr c52
         subst c52
         have H1 : ((laws_markIntS.f kj36 t340 1).bind fun bt353 => ((laws_heldIntS.f kj36 bt353.2 1).bind fun t355 => (if t355 < 0 then (some false) else (if t355 = bt353.1 then ((laws_toTournament.f kj36 a0_0 l0_1).bind fun bt356 => ((impl_StrongParts.f kj36 bt356.1 bt356.2).bind fun bt360 => ((laws_eqIntS.f kj36 bt360.1 t331).bind fun t364 => (if t364 = true then (laws_FnExactStrongParts.j2 kj36 bt353.2 bt353.1 (bt360.2 != t334)) else (laws_FnExactStrongParts.j2 kj36 bt353.2 bt353.1 true))))) else (some false))))) = some r := by rw [if_neg (show ¬ (false = true) by decide)] at H; exact H
         clear H
         have H := H1
         clear H1
         replace H := Option.bind_eq_some_iff.mp H
         obtain ⟨⟨t353, t354⟩, A530, H⟩ := H
         replace H : ((laws_heldIntS.f kj36 t354 1).bind fun t355 => (if t355 < 0 then (some false) else (if t355 = t353 then ((laws_toTournament.f kj36 a0_0 l0_1).bind fun bt356 => ((impl_StrongParts.f kj36 bt356.1 bt356.2).bind fun bt360 => ((laws_eqIntS.f kj36 bt360.1 t331).bind fun t364 => (if t364 = true then (laws_FnExactStrongParts.j2 kj36 t354 t353 (bt360.2 != t334)) else (laws_FnExactStrongParts.j2 kj36 t354 t353 true))))) else (some false)))) = some r := H
         have A53 := Aside0.mk A530
         clear A530
         replace H := Option.bind_eq_some_iff.mp H
         obtain ⟨t355, A540, H⟩ := H
         replace H : (if t355 < 0 then (some false) else (if t355 = t353 then ((laws_toTournament.f kj36 a0_0 l0_1).bind fun bt356 => ((impl_StrongParts.f kj36 bt356.1 bt356.2).bind fun bt360 => ((laws_eqIntS.f kj36 bt360.1 t331).bind fun t364 => (if t364 = true then (laws_FnExactStrongParts.j2 kj36 t354 t353 (bt360.2 != t334)) else (laws_FnExactStrongParts.j2 kj36 t354 t353 true))))) else (some false))) = some r := H
         have A54 := Aside0.mk A540
         clear A540
         by_cases c55 : t355 < 0
         ·
          rw [if_pos c55] at H
          have c55b0 : decide (t355 < 0) = true := decide_eq_true c55
          (try (have c55b1 := c55b0; simp only [hl340001_36] at c55b1))
          clear c55
          obtain rfl := Option.some.inj H
          obtain ⟨Ao56, co56, eo56⟩ := Kd.R_slice HO_7.out
          subst eo56
          go_wp2_with (first | ((with_reducible refine gate_callee (f := 21) rfl ?_); refine goesL_ (some 64) rfl rfl Try.func21 (by kernel_rfl) rfl #[.slice Ao56 t340.length co56, .int .i64 1] rfl (by (try simp only [List.map_toArray, List.map_cons, List.map_nil]); first | done | rfl) ?_; (with_reducible refine (laws_markIntS.calls kj36 (fun k_ => some k_ = (.slice Ao56 t340.length co56 : Value).ownBlock) (.slice Ao56 t340.length co56) t340 1 t353 t354 w _ ?side1 ?side2 A53.out).mono ?_); (case side1 => repeat (first | (with_reducible first | exact HB.out | apply below_alloc | apply pw_below_drewN | apply below_drew1 | refine below_set ?_ GE325.out | refine below_set ?_ GE339.out) | exact HB.out)); (case side2 => exact Kd.R_tight rfl HO_7.out); rintro e w57 ⟨rfl, hy0, hb, hkp⟩; refine ⟨_, rfl, ?_⟩; have n0_ := Aside0.mk (Kd.R_mono (ok' := fun k_ => some k_ ≠ (.slice Ao56 t340.length co56 : Value).ownBlock ∧ some k_ ≠ (.slice Ao24 t351.length co24 : Value).ownBlock) (Kd.R_keptB (HO_4.out) hkp (fun k_ hk_ hs_ => (hk_.1) hs_)) (fun k_ hk_ => ⟨hk_.1.1, hk_.1.2⟩)); have n1_ := Aside0.mk (Kd.R_reok rfl hy0 (fun k_ e_ => HO_7.out.1 k_ e_)); have n2_ := Aside0.mk (Kd.R_mono (ok' := fun k_ => some k_ ≠ (v332 : Value).ownBlock ∧ some k_ ≠ (.slice Ao56 t340.length co56 : Value).ownBlock) (Kd.R_keptB (HO_340001.out) hkp (fun k_ hk_ hs_ => (hk_.2) hs_)) (fun k_ hk_ => ⟨hk_.1.1, hk_.1.2⟩)); have n3_ := Aside0.mk (blk_kept (by (with_reducible repeat (first | refine blk_drewN ?_ _ | refine blk_drew ?_ | refine blk_alloc ?_ _)); exact BK325.out) hkp (fun hs_ => (fun e_ => (Kd.R_ne HO_7.out BK325.out (by decide)) e_) hs_)); have n4_ := Aside0.mk (blk_kept (by (with_reducible repeat (first | refine blk_drewN ?_ _ | refine blk_drew ?_ | refine blk_alloc ?_ _)); exact BK339.out) hkp (fun hs_ => (fun e_ => (Kd.R_ne HO_7.out BK339.out (by decide)) e_) hs_)); have n5_ := Aside0.mk (hb); clear HO_4; clear HO_7; clear HO_340001; clear BK325; clear BK339; clear HB; have HO_4 := n0_; have HO_7 := n1_; have HO_340001 := n2_; have BK325 := n3_; have BK339 := n4_; have HB := n5_; clear n0_ n1_ n2_ n3_ n4_ n5_; (try clear hb); (try clear hkp); (try clear hy0)) | ((with_reducible refine gate_callee (f := 22) rfl ?_); refine goesL_ (some 67) rfl rfl Try.func22 (by kernel_rfl) rfl #[.slice Ao56 t354.length co56, .int .i64 1] rfl (by (try simp only [List.map_toArray, List.map_cons, List.map_nil]); first | done | (rw [show t354.length = t340.length from (Kd.R_reads' HO_7.out).1.symm] <;> rfl) | rfl | (simp only [List.length_drop, List.length_take]; rfl)) ?_; (with_reducible refine (laws_heldIntS.calls kj36 _ _ t354 1 t355 _ ?side1 ?side2 A54.out).mono ?_); (case side1 => repeat (first | exact (Kd.R_reads' HO_7.out).2.2 | (with_reducible refine Kd.C_alloc ?_ _) | (with_reducible refine Kd.C_drewN ?_ _) | (with_reducible refine Kd.C_drew ?_))); (case side2 => rw [show t354.length = t340.length from (Kd.R_reads' HO_7.out).1.symm]; exact (Kd.R_reads' HO_7.out).2.1); rintro e w' ⟨rfl, ⟨nd, rfl⟩⟩; refine ⟨_, rfl, ?_⟩))
          go_ret
          exact ⟨by first | rfl | (simp [errW_none, errW_some] <;> rfl) | (simp [*, errW_none, errW_some] <;> rfl), by repeat (first | (with_reducible first | exact HB.out | apply below_alloc | apply pw_below_drewN | apply below_drew1 | refine below_set ?_ GE325.out | refine below_set ?_ GE339.out) | exact HB.out)⟩
         ·
          rw [if_neg c55] at H
          have c55b0 : decide (t355 < 0) = false := decide_eq_false c55
          (try (have c55b1 := c55b0; simp only [hl340001_36] at c55b1))
          clear c55
          by_cases c58 : t355 = t353
          ·
           rw [if_pos c58] at H
           have c58b0 : (t355 == t353) = true := beq_iff_eq.mpr c58
           have c58b1 : (t355 != t353) = false := bne_eq_false_iff_eq.mpr c58
           clear c58
           replace H := Option.bind_eq_some_iff.mp H
           obtain ⟨⟨t356, t357⟩, A590, H⟩ := H
           replace H : ((impl_StrongParts.f kj36 t356 t357).bind fun bt360 => ((laws_eqIntS.f kj36 bt360.1 t331).bind fun t364 => (if t364 = true then (laws_FnExactStrongParts.j2 kj36 t354 t353 (bt360.2 != t334)) else (laws_FnExactStrongParts.j2 kj36 t354 t353 true)))) = some r := H
           have A59 := Aside0.mk A590
           clear A590
           replace H := Option.bind_eq_some_iff.mp H
           obtain ⟨⟨t360, t363⟩, A600, H⟩ := H
           replace H : ((laws_eqIntS.f kj36 t360 t331).bind fun t364 => (if t364 = true then (laws_FnExactStrongParts.j2 kj36 t354 t353 (t363 != t334)) else (laws_FnExactStrongParts.j2 kj36 t354 t353 true))) = some r := H
           have A60 := Aside0.mk A600
           clear A600
           have HC61 := Aside0.mk H
           clear H
           obtain ⟨Ao62, co62, eo62⟩ := Kd.R_slice HO_7.out
           subst eo62
           go_upto_region 25 with (first | ((with_reducible refine gate_callee (f := 21) rfl ?_); refine goesL_ (some 64) rfl rfl Try.func21 (by kernel_rfl) rfl #[.slice Ao62 t340.length co62, .int .i64 1] rfl (by (try simp only [List.map_toArray, List.map_cons, List.map_nil]); first | done | rfl) ?_; (with_reducible refine (laws_markIntS.calls kj36 (fun k_ => some k_ = (.slice Ao62 t340.length co62 : Value).ownBlock) (.slice Ao62 t340.length co62) t340 1 t353 t354 w _ ?side1 ?side2 A53.out).mono ?_); (case side1 => repeat (first | (with_reducible first | exact HB.out | apply below_alloc | apply pw_below_drewN | apply below_drew1 | refine below_set ?_ GE325.out | refine below_set ?_ GE339.out) | exact HB.out)); (case side2 => exact Kd.R_tight rfl HO_7.out); rintro e w63 ⟨rfl, hy0, hb, hkp⟩; refine ⟨_, rfl, ?_⟩; have n0_ := Aside0.mk (Kd.R_mono (ok' := fun k_ => some k_ ≠ (.slice Ao62 t340.length co62 : Value).ownBlock ∧ some k_ ≠ (.slice Ao24 t351.length co24 : Value).ownBlock) (Kd.R_keptB (HO_4.out) hkp (fun k_ hk_ hs_ => (hk_.1) hs_)) (fun k_ hk_ => ⟨hk_.1.1, hk_.1.2⟩)); have n1_ := Aside0.mk (Kd.R_reok rfl hy0 (fun k_ e_ => HO_7.out.1 k_ e_)); have n2_ := Aside0.mk (Kd.R_mono (ok' := fun k_ => some k_ ≠ (v332 : Value).ownBlock ∧ some k_ ≠ (.slice Ao62 t340.length co62 : Value).ownBlock) (Kd.R_keptB (HO_340001.out) hkp (fun k_ hk_ hs_ => (hk_.2) hs_)) (fun k_ hk_ => ⟨hk_.1.1, hk_.1.2⟩)); have n3_ := Aside0.mk (blk_kept (by (with_reducible repeat (first | refine blk_drewN ?_ _ | refine blk_drew ?_ | refine blk_alloc ?_ _)); exact BK325.out) hkp (fun hs_ => (fun e_ => (Kd.R_ne HO_7.out BK325.out (by decide)) e_) hs_)); have n4_ := Aside0.mk (blk_kept (by (with_reducible repeat (first | refine blk_drewN ?_ _ | refine blk_drew ?_ | refine blk_alloc ?_ _)); exact BK339.out) hkp (fun hs_ => (fun e_ => (Kd.R_ne HO_7.out BK339.out (by decide)) e_) hs_)); have n5_ := Aside0.mk (hb); clear HO_4; clear HO_7; clear HO_340001; clear BK325; clear BK339; clear HB; have HO_4 := n0_; have HO_7 := n1_; have HO_340001 := n2_; have BK325 := n3_; have BK339 := n4_; have HB := n5_; clear n0_ n1_ n2_ n3_ n4_ n5_; (try clear hb); (try clear hkp); (try clear hy0)) | ((with_reducible refine gate_callee (f := 22) rfl ?_); refine goesL_ (some 67) rfl rfl Try.func22 (by kernel_rfl) rfl #[.slice Ao62 t354.length co62, .int .i64 1] rfl (by (try simp only [List.map_toArray, List.map_cons, List.map_nil]); first | done | (rw [show t354.length = t340.length from (Kd.R_reads' HO_7.out).1.symm] <;> rfl) | rfl | (simp only [List.length_drop, List.length_take]; rfl)) ?_; (with_reducible refine (laws_heldIntS.calls kj36 _ _ t354 1 t355 _ ?side1 ?side2 A54.out).mono ?_); (case side1 => repeat (first | exact (Kd.R_reads' HO_7.out).2.2 | (with_reducible refine Kd.C_alloc ?_ _) | (with_reducible refine Kd.C_drewN ?_ _) | (with_reducible refine Kd.C_drew ?_))); (case side2 => rw [show t354.length = t340.length from (Kd.R_reads' HO_7.out).1.symm]; exact (Kd.R_reads' HO_7.out).2.1); rintro e w' ⟨rfl, ⟨nd, rfl⟩⟩; refine ⟨_, rfl, ?_⟩; have hnb64 := NB325_339.out; have hnc64 := NB339_325.out; have hcz65_0 : w63.cell? ⟨gb325, 0, none⟩ = some (.int .i64 a0_0) := (blk_cell BK325.out 0).trans rfl; have hcz65_1 : w63.cell? ⟨gb325, 1, none⟩ = some (.slice A0_1 l0_1.length c0_1) := (blk_cell BK325.out 1).trans rfl; have hfz65_0 := blk_frozen BK325.out 0; have hfz65_1 := blk_frozen BK325.out 1) | ((with_reducible refine gate_callee (f := 17) rfl ?_); refine goesL_ (some 75) rfl rfl Try.func17 (by kernel_rfl) rfl #[.agg #[.int .i64 a0_0, .slice A0_1 l0_1.length c0_1]] rfl (by (try simp only [List.map_toArray, List.map_cons, List.map_nil]); first | done | rfl) ?_; (with_reducible refine (laws_toTournament.calls kj36 a0_0 _ _ l0_1 t356 t357 _ ?side1 ?side2 A59.out).mono ?_); (case side1 => repeat (first | exact (Kd.C_below HR0_1.out (by repeat (first | (with_reducible first | exact HB.out | apply below_alloc | apply pw_below_drewN | apply below_drew1 | refine below_set ?_ GE325.out | refine below_set ?_ GE339.out) | exact HB.out))) | (with_reducible refine Kd.C_alloc ?_ _) | (with_reducible refine Kd.C_drewN ?_ _) | (with_reducible refine Kd.C_drew ?_))); (case side2 => exact HC0_1.out); rintro e w66 ⟨v358, rfl, ho0, hb⟩; refine ⟨_, rfl, ?_⟩; have n0_ := Aside0.mk (Kd.R_elder' (by (with_reducible repeat (first | apply Kd.R_alloc | apply Kd.R_drewN | apply Kd.R_drew)); exact HO_4.out) (Kd.R_base ho0) hb); have n1_ := Aside0.mk (Kd.R_elder' (by (with_reducible repeat (first | apply Kd.R_alloc | apply Kd.R_drewN | apply Kd.R_drew)); exact HO_7.out) (Kd.R_base ho0) hb); have n2_ := Aside0.mk (Kd.R_elder' (by (with_reducible repeat (first | apply Kd.R_alloc | apply Kd.R_drewN | apply Kd.R_drew)); exact HO_340001.out) (Kd.R_base ho0) hb); have n3_ := Aside0.mk (Kd.R_lower (Kd.R_new' (Kd.R_new' (Kd.R_new' ho0 (Kd.R_lt (by (with_reducible repeat (first | apply Kd.R_alloc | apply Kd.R_drewN | apply Kd.R_drew)); exact HO_4.out))) (Kd.R_lt (by (with_reducible repeat (first | apply Kd.R_alloc | apply Kd.R_drewN | apply Kd.R_drew)); exact HO_7.out))) (Kd.R_lt (by (with_reducible repeat (first | apply Kd.R_alloc | apply Kd.R_drewN | apply Kd.R_drew)); exact HO_340001.out))) (below_size (by repeat (first | (with_reducible first | exact HB.out | apply below_alloc | apply pw_below_drewN | apply below_drew1 | refine below_set ?_ GE325.out | refine below_set ?_ GE339.out) | exact HB.out)))); have n4_ := Aside0.mk (blk_below (g := gb325) (o := .cells #[.int .i64 a0_0, .slice A0_1 l0_1.length c0_1] 31 (0, 0)) (by (with_reducible repeat (first | refine blk_drewN ?_ _ | refine blk_drew ?_ | refine blk_alloc ?_ _)); exact BK325.out) hb); have n5_ := Aside0.mk (blk_below (g := gb339) (o := .cells #[.int .i64 t335, .slice Ao24 t351.length co24] 35 (0, 0)) (by (with_reducible repeat (first | refine blk_drewN ?_ _ | refine blk_drew ?_ | refine blk_alloc ?_ _)); exact BK339.out) hb); have n6_ := Aside0.mk (below_step (by repeat (first | (with_reducible first | exact HB.out | apply below_alloc | apply pw_below_drewN | apply below_drew1 | refine below_set ?_ GE325.out | refine below_set ?_ GE339.out) | exact HB.out)) hb); clear HO_4; clear HO_7; clear HO_340001; clear BK325; clear BK339; clear HB; have HO_4 := n0_; have HO_7 := n1_; have HO_340001 := n2_; have HO359 := n3_; have BK325 := n4_; have BK339 := n5_; have HB := n6_; clear n0_ n1_ n2_ n3_ n4_ n5_ n6_; (try clear hb); (try clear hb2); (try clear hk); (try clear hi); (try clear ho0); obtain ⟨Ao67, co67, eo67⟩ := Kd.R_slice HO359.out; subst eo67) | ((with_reducible refine gate_callee (f := 18) rfl ?_); refine goesL_ (some 76) rfl rfl Try.func18 (by kernel_rfl) rfl #[.agg #[.int .i64 t356, .slice Ao67 t357.length co67]] rfl (by (try simp only [List.map_toArray, List.map_cons, List.map_nil]); first | done | rfl) ?_; (with_reducible refine (impl_StrongParts.calls kj36 t356 _ _ t357 t360 t363 _ ?side1 ?side2 A60.out).mono ?_); (case side1 => repeat (first | exact (Kd.R_reads' HO359.out).2.2 | (with_reducible refine Kd.C_alloc ?_ _) | (with_reducible refine Kd.C_drewN ?_ _) | (with_reducible refine Kd.C_drew ?_))); (case side2 => exact (Kd.R_reads' HO359.out).2.1); rintro e w68 ⟨v361, rfl, ho0, hb⟩; refine ⟨_, rfl, ?_⟩; have n0_ := Aside0.mk (Kd.R_elder' (by (with_reducible repeat (first | apply Kd.R_alloc | apply Kd.R_drewN | apply Kd.R_drew)); exact HO_4.out) (Kd.R_base ho0) hb); have n1_ := Aside0.mk (Kd.R_elder' (by (with_reducible repeat (first | apply Kd.R_alloc | apply Kd.R_drewN | apply Kd.R_drew)); exact HO_7.out) (Kd.R_base ho0) hb); have n2_ := Aside0.mk (Kd.R_elder' (by (with_reducible repeat (first | apply Kd.R_alloc | apply Kd.R_drewN | apply Kd.R_drew)); exact HO_340001.out) (Kd.R_base ho0) hb); have n3_ := Aside0.mk (Kd.R_elder' (by (with_reducible repeat (first | apply Kd.R_alloc | apply Kd.R_drewN | apply Kd.R_drew)); exact HO359.out) (Kd.R_base ho0) hb); have n4_ := Aside0.mk (Kd.R_lower (Kd.R_new' (Kd.R_new' (Kd.R_new' (Kd.R_new' ho0 (Kd.R_lt (by (with_reducible repeat (first | apply Kd.R_alloc | apply Kd.R_drewN | apply Kd.R_drew)); exact HO_4.out))) (Kd.R_lt (by (with_reducible repeat (first | apply Kd.R_alloc | apply Kd.R_drewN | apply Kd.R_drew)); exact HO_7.out))) (Kd.R_lt (by (with_reducible repeat (first | apply Kd.R_alloc | apply Kd.R_drewN | apply Kd.R_drew)); exact HO_340001.out))) (Kd.R_lt (by (with_reducible repeat (first | apply Kd.R_alloc | apply Kd.R_drewN | apply Kd.R_drew)); exact HO359.out))) (below_size (by repeat (first | (with_reducible first | exact HB.out | apply below_alloc | apply pw_below_drewN | apply below_drew1 | refine below_set ?_ GE325.out | refine below_set ?_ GE339.out) | exact HB.out)))); have n5_ := Aside0.mk (blk_below (g := gb325) (o := .cells #[.int .i64 a0_0, .slice A0_1 l0_1.length c0_1] 31 (0, 0)) (by (with_reducible repeat (first | refine blk_drewN ?_ _ | refine blk_drew ?_ | refine blk_alloc ?_ _)); exact BK325.out) hb); have n6_ := Aside0.mk (blk_below (g := gb339) (o := .cells #[.int .i64 t335, .slice Ao24 t351.length co24] 35 (0, 0)) (by (with_reducible repeat (first | refine blk_drewN ?_ _ | refine blk_drew ?_ | refine blk_alloc ?_ _)); exact BK339.out) hb); have n7_ := Aside0.mk (below_step (by repeat (first | (with_reducible first | exact HB.out | apply below_alloc | apply pw_below_drewN | apply below_drew1 | refine below_set ?_ GE325.out | refine below_set ?_ GE339.out) | exact HB.out)) hb); clear HO_4; clear HO_7; clear HO_340001; clear HO359; clear BK325; clear BK339; clear HB; have HO_4 := n0_; have HO_7 := n1_; have HO_340001 := n2_; have HO359 := n3_; have HO362 := n4_; have BK325 := n5_; have BK339 := n6_; have HB := n7_; clear n0_ n1_ n2_ n3_ n4_ n5_ n6_ n7_; (try clear hb); (try clear hb2); (try clear hk); (try clear hi); (try clear ho0)))
           (try simp only [Act.put, List.setIfInBounds_toArray, List.set_cons_zero, List.set_cons_succ])
           go_cut [87] (fun v87 wc => ∃ (kq : Nat) (x87_60 : Bool), v87 = .bool x87_60 ∧ Aside0 (laws_FnExactStrongParts.j2 kq t354 t353 x87_60 = some r) ∧ Aside0 (kq ≤ kj36) ∧ Aside0 (Kd.R (Kd.int .i64) 3 wc w.heap.size (fun k_ => some k_ ≠ ((.slice Ao24 t351.length co24) : Value).ownBlock) (.slice Ao62 t340.length co62) t354) ∧ Aside0 (Kd.R (Kd.int .i64) 3 wc w.heap.size (fun k_ => some k_ ≠ ((.slice Ao62 t340.length co62) : Value).ownBlock) (.slice Ao24 t351.length co24) t351) ∧ Aside0 (wc.heap[gb325]? = some (.cells #[.int .i64 a0_0, (.slice A0_1 l0_1.length c0_1)] 31 (0, 0))) ∧ Aside0 (wc.heap[gb339]? = some (.cells #[.int .i64 t335, (.slice Ao24 t351.length co24)] 35 (0, 0))) ∧ Aside0 (Below w.heap.size w wc))
           case first =>
            have H := HC61.out
            clear HC61
            replace H := Option.bind_eq_some_iff.mp H
            obtain ⟨t364, A690, H⟩ := H
            replace H : (if t364 = true then (laws_FnExactStrongParts.j2 kj36 t354 t353 (t363 != t334)) else (laws_FnExactStrongParts.j2 kj36 t354 t353 true)) = some r := H
            have A69 := Aside0.mk A690
            clear A690
            by_cases c70 : t364 = true
            ·
             subst c70
             have H1 : (laws_FnExactStrongParts.j2 kj36 t354 t353 (t363 != t334)) = some r := by rw [if_pos rfl] at H; exact H
             clear H
             have H := H1
             clear H1
             have H' := Aside0.mk H
             clear H
             obtain ⟨Ao71, co71, eo71⟩ := Kd.R_slice HO362.out
             subst eo71
             obtain ⟨Ao72, co72, eo72⟩ := Kd.R_slice HO_4.out
             subst eo72
             go_wp2_with (first | ((with_reducible refine gate_callee (f := 10) rfl ?_); refine goesL_ (some 81) rfl rfl Try.func10 (by kernel_rfl) rfl #[.slice Ao71 t360.length co71, .slice Ao72 t331.length co72] rfl (by (try simp only [List.map_toArray, List.map_cons, List.map_nil]); first | done | rfl) ?_; (with_reducible refine (laws_eqIntS.calls kj36 _ _ t360 _ _ t331 true _ ?side1 ?side2 ?side3 ?side4 A69.out).mono ?_); (case side1 => repeat (first | exact (Kd.R_reads' HO362.out).2.2 | (with_reducible refine Kd.C_alloc ?_ _) | (with_reducible refine Kd.C_drewN ?_ _) | (with_reducible refine Kd.C_drew ?_))); (case side2 => exact (Kd.R_reads' HO362.out).2.1); (case side3 => repeat (first | exact (Kd.R_reads' HO_4.out).2.2 | (with_reducible refine Kd.C_alloc ?_ _) | (with_reducible refine Kd.C_drewN ?_ _) | (with_reducible refine Kd.C_drew ?_))); (case side4 => exact (Kd.R_reads' HO_4.out).2.1); rintro e w' ⟨rfl, ⟨nd, rfl⟩⟩; refine ⟨_, rfl, ?_⟩))
             go_meet
             case rel => exact ⟨_, ((t363 != t334)), (by first | rfl | (simp; done) | (simp [*]; done)), H', ⟨by have := HJ10.out; have := HJ36.out; first | omega | exact Nat.le_refl _⟩, ⟨by (try simp only [hl340001_36]); (with_reducible repeat (first | apply Kd.R_alloc | apply Kd.R_drewN | apply Kd.R_drew)); exact Kd.R_mono HO_7.out (fun _ hk => hk.1.1.2)⟩, ⟨by (try simp only [hl340001_36]); (with_reducible repeat (first | apply Kd.R_alloc | apply Kd.R_drewN | apply Kd.R_drew)); exact Kd.R_mono HO_340001.out (fun _ hk => hk.1.1.2)⟩, ⟨by (try simp only [hl340001_36]); (with_reducible repeat (first | refine blk_drewN ?_ _ | refine blk_drew ?_ | refine blk_alloc ?_ _)); exact BK325.out⟩, ⟨by (try simp only [hl340001_36]); (with_reducible repeat (first | refine blk_drewN ?_ _ | refine blk_drew ?_ | refine blk_alloc ?_ _)); exact BK339.out⟩, ⟨by repeat (first | (with_reducible first | exact HB.out | apply below_alloc | apply pw_below_drewN | apply below_drew1 | refine below_set ?_ GE325.out | refine below_set ?_ GE339.out) | exact HB.out)⟩⟩
            ·
             replace c70 := Bool.eq_false_iff.mpr c70
             subst c70
             have H1 : (laws_FnExactStrongParts.j2 kj36 t354 t353 true) = some r := by rw [if_neg (show ¬ (false = true) by decide)] at H; exact H
             clear H
             have H := H1
             clear H1
             have H' := Aside0.mk H
             clear H
             obtain ⟨Ao73, co73, eo73⟩ := Kd.R_slice HO362.out
             subst eo73
             obtain ⟨Ao74, co74, eo74⟩ := Kd.R_slice HO_4.out
             subst eo74
             go_wp2_with (first | ((with_reducible refine gate_callee (f := 10) rfl ?_); refine goesL_ (some 81) rfl rfl Try.func10 (by kernel_rfl) rfl #[.slice Ao73 t360.length co73, .slice Ao74 t331.length co74] rfl (by (try simp only [List.map_toArray, List.map_cons, List.map_nil]); first | done | rfl) ?_; (with_reducible refine (laws_eqIntS.calls kj36 _ _ t360 _ _ t331 false _ ?side1 ?side2 ?side3 ?side4 A69.out).mono ?_); (case side1 => repeat (first | exact (Kd.R_reads' HO362.out).2.2 | (with_reducible refine Kd.C_alloc ?_ _) | (with_reducible refine Kd.C_drewN ?_ _) | (with_reducible refine Kd.C_drew ?_))); (case side2 => exact (Kd.R_reads' HO362.out).2.1); (case side3 => repeat (first | exact (Kd.R_reads' HO_4.out).2.2 | (with_reducible refine Kd.C_alloc ?_ _) | (with_reducible refine Kd.C_drewN ?_ _) | (with_reducible refine Kd.C_drew ?_))); (case side4 => exact (Kd.R_reads' HO_4.out).2.1); rintro e w' ⟨rfl, ⟨nd, rfl⟩⟩; refine ⟨_, rfl, ?_⟩))
             go_meet
             case rel => exact ⟨_, (true), (by first | rfl | (simp; done) | (simp [*]; done)), H', ⟨by have := HJ10.out; have := HJ36.out; first | omega | exact Nat.le_refl _⟩, ⟨by (try simp only [hl340001_36]); (with_reducible repeat (first | apply Kd.R_alloc | apply Kd.R_drewN | apply Kd.R_drew)); exact Kd.R_mono HO_7.out (fun _ hk => hk.1.1.2)⟩, ⟨by (try simp only [hl340001_36]); (with_reducible repeat (first | apply Kd.R_alloc | apply Kd.R_drewN | apply Kd.R_drew)); exact Kd.R_mono HO_340001.out (fun _ hk => hk.1.1.2)⟩, ⟨by (try simp only [hl340001_36]); (with_reducible repeat (first | refine blk_drewN ?_ _ | refine blk_drew ?_ | refine blk_alloc ?_ _)); exact BK325.out⟩, ⟨by (try simp only [hl340001_36]); (with_reducible repeat (first | refine blk_drewN ?_ _ | refine blk_drew ?_ | refine blk_alloc ?_ _)); exact BK339.out⟩, ⟨by repeat (first | (with_reducible first | exact HB.out | apply below_alloc | apply pw_below_drewN | apply below_drew1 | refine below_set ?_ GE325.out | refine below_set ?_ GE339.out) | exact HB.out)⟩⟩
           case rest =>
            clear HC61
            try clear c1
            try clear c2
            try clear p2
            try clear c3
            try clear c3b0
            try clear c4
            try clear c5
            try clear c6
            try clear c7
            try clear c10
            try clear c15
            try clear c16
            try clear c17
            try clear c18
            try clear c19
            try clear c20
            try clear c21
            try clear c22
            try clear c27
            try clear c32
            try clear c35
            try clear c42
            try clear c45
            try clear c45b0
            try clear c47
            try clear c52
            try clear c55
            try clear c55b0
            try clear c58
            try clear c58b0
            try clear c58b1
            try clear c64
            try clear c70
            try clear hcz13_0
            try clear hcz13_1
            try clear hcz15_0
            try clear hcz15_1
            try clear hcz19_0
            try clear hcz19_1
            try clear hcz23_0
            try clear hcz23_1
            try clear hcz43_0
            try clear hcz43_1
            try clear hcz5_0
            try clear hcz5_1
            try clear hcz65_0
            try clear hcz65_1
            try clear hfz13_0
            try clear hfz13_1
            try clear hfz15_0
            try clear hfz15_1
            try clear hfz19_0
            try clear hfz19_1
            try clear hfz23_0
            try clear hfz23_1
            try clear hfz43_0
            try clear hfz43_1
            try clear hfz5_0
            try clear hfz5_1
            try clear hfz65_0
            try clear hfz65_1
            try clear p2
            obtain ⟨kq, x87_60, rfl, HA, HJ60, HO_7, HO_340001, BK325, BK339, HB⟩ := hcut
            have hl7_60 := (Kd.R_reads' HO_7.out).1
            rw [hl7_60] at HO_7
            (try simp only [hl7_60])
            (try simp only [hl7_60] at BK325)
            (try simp only [hl7_60] at BK339)
            (try simp only [hl7_60] at HO_340001)
            cases kq with
            | zero => exact absurd HA.out (by simp [laws_FnExactStrongParts.j2])
            | succ kj60 =>
             have H := HA.out
             clear HA
             simp only [laws_FnExactStrongParts.j2] at H
             by_cases c75 : x87_60 = true
             ·
              subst c75
              have H1 : (some false) = some r := by rw [if_pos rfl] at H; exact H
              clear H
              have H := H1
              clear H1
              obtain rfl := Option.some.inj H
              go_wp2
              go_ret
              exact ⟨by first | rfl | (simp [errW_none, errW_some] <;> rfl) | (simp [*, errW_none, errW_some] <;> rfl), by repeat (first | (with_reducible first | exact HB.out | apply below_alloc | apply pw_below_drewN | apply below_drew1 | refine below_set ?_ GE325.out | refine below_set ?_ GE339.out) | exact HB.out)⟩
             ·
              replace c75 := Bool.eq_false_iff.mpr c75
              subst c75
              have H1 : ((laws_heldIntS.f kj60 t354 1).bind fun t365 => (if t365 < 0 then (some false) else (if t365 = t353 then (some true) else (some false)))) = some r := by rw [if_neg (show ¬ (false = true) by decide)] at H; exact H
              clear H
              have H := H1
              clear H1
              replace H := Option.bind_eq_some_iff.mp H
              obtain ⟨t365, A760, H⟩ := H
              replace H : (if t365 < 0 then (some false) else (if t365 = t353 then (some true) else (some false))) = some r := H
              have A76 := Aside0.mk A760
              clear A760
              by_cases c77 : t365 < 0
              ·
               rw [if_pos c77] at H
               have c77b0 : decide (t365 < 0) = true := decide_eq_true c77
               (try (have c77b1 := c77b0; simp only [hl340001_36, hl7_60] at c77b1))
               clear c77
               obtain rfl := Option.some.inj H
               go_wp2_with (first | ((with_reducible refine gate_callee (f := 22) rfl ?_); refine goesL_ (some 90) rfl rfl Try.func22 (by kernel_rfl) rfl #[.slice Ao62 t354.length co62, .int .i64 1] rfl (by (try simp only [List.map_toArray, List.map_cons, List.map_nil]); first | done | rfl) ?_; (with_reducible refine (laws_heldIntS.calls kj60 _ _ t354 1 t365 _ ?side1 ?side2 A76.out).mono ?_); (case side1 => repeat (first | exact (Kd.R_reads' HO_7.out).2.2 | (with_reducible refine Kd.C_alloc ?_ _) | (with_reducible refine Kd.C_drewN ?_ _) | (with_reducible refine Kd.C_drew ?_))); (case side2 => exact (Kd.R_reads' HO_7.out).2.1); rintro e w' ⟨rfl, ⟨nd, rfl⟩⟩; refine ⟨_, rfl, ?_⟩))
               go_ret
               exact ⟨by first | rfl | (simp [errW_none, errW_some] <;> rfl) | (simp [*, errW_none, errW_some] <;> rfl), by repeat (first | (with_reducible first | exact HB.out | apply below_alloc | apply pw_below_drewN | apply below_drew1 | refine below_set ?_ GE325.out | refine below_set ?_ GE339.out) | exact HB.out)⟩
              ·
               rw [if_neg c77] at H
               have c77b0 : decide (t365 < 0) = false := decide_eq_false c77
               (try (have c77b1 := c77b0; simp only [hl340001_36, hl7_60] at c77b1))
               clear c77
               by_cases c78 : t365 = t353
               ·
                rw [if_pos c78] at H
                have c78b0 : (t365 == t353) = true := beq_iff_eq.mpr c78
                have c78b1 : (t365 != t353) = false := bne_eq_false_iff_eq.mpr c78
                clear c78
                obtain rfl := Option.some.inj H
                go_wp2_with (first | ((with_reducible refine gate_callee (f := 22) rfl ?_); refine goesL_ (some 90) rfl rfl Try.func22 (by kernel_rfl) rfl #[.slice Ao62 t354.length co62, .int .i64 1] rfl (by (try simp only [List.map_toArray, List.map_cons, List.map_nil]); first | done | rfl) ?_; (with_reducible refine (laws_heldIntS.calls kj60 _ _ t354 1 t365 _ ?side1 ?side2 A76.out).mono ?_); (case side1 => repeat (first | exact (Kd.R_reads' HO_7.out).2.2 | (with_reducible refine Kd.C_alloc ?_ _) | (with_reducible refine Kd.C_drewN ?_ _) | (with_reducible refine Kd.C_drew ?_))); (case side2 => exact (Kd.R_reads' HO_7.out).2.1); rintro e w' ⟨rfl, ⟨nd, rfl⟩⟩; refine ⟨_, rfl, ?_⟩))
                go_ret
                exact ⟨by first | rfl | (simp [errW_none, errW_some] <;> rfl) | (simp [*, errW_none, errW_some] <;> rfl), by repeat (first | (with_reducible first | exact HB.out | apply below_alloc | apply pw_below_drewN | apply below_drew1 | refine below_set ?_ GE325.out | refine below_set ?_ GE339.out) | exact HB.out)⟩
               ·
                rw [if_neg c78] at H
                have c78b0 : (t365 == t353) = false := beq_eq_false_iff_ne.mpr c78
                have c78b1 : (t365 != t353) = true := bne_iff_ne.mpr c78
                obtain rfl := Option.some.inj H
                go_wp2_with (first | ((with_reducible refine gate_callee (f := 22) rfl ?_); refine goesL_ (some 90) rfl rfl Try.func22 (by kernel_rfl) rfl #[.slice Ao62 t354.length co62, .int .i64 1] rfl (by (try simp only [List.map_toArray, List.map_cons, List.map_nil]); first | done | rfl) ?_; (with_reducible refine (laws_heldIntS.calls kj60 _ _ t354 1 t365 _ ?side1 ?side2 A76.out).mono ?_); (case side1 => repeat (first | exact (Kd.R_reads' HO_7.out).2.2 | (with_reducible refine Kd.C_alloc ?_ _) | (with_reducible refine Kd.C_drewN ?_ _) | (with_reducible refine Kd.C_drew ?_))); (case side2 => exact (Kd.R_reads' HO_7.out).2.1); rintro e w' ⟨rfl, ⟨nd, rfl⟩⟩; refine ⟨_, rfl, ?_⟩))
                go_ret
                exact ⟨by first | rfl | (simp [errW_none, errW_some] <;> rfl) | (simp [*, errW_none, errW_some] <;> rfl), by repeat (first | (with_reducible first | exact HB.out | apply below_alloc | apply pw_below_drewN | apply below_drew1 | refine below_set ?_ GE325.out | refine below_set ?_ GE339.out) | exact HB.out)⟩
          ·
           rw [if_neg c58] at H
           have c58b0 : (t355 == t353) = false := beq_eq_false_iff_ne.mpr c58
           have c58b1 : (t355 != t353) = true := bne_iff_ne.mpr c58
           obtain rfl := Option.some.inj H
           obtain ⟨Ao79, co79, eo79⟩ := Kd.R_slice HO_7.out
           subst eo79
           go_wp2_with (first | ((with_reducible refine gate_callee (f := 21) rfl ?_); refine goesL_ (some 64) rfl rfl Try.func21 (by kernel_rfl) rfl #[.slice Ao79 t340.length co79, .int .i64 1] rfl (by (try simp only [List.map_toArray, List.map_cons, List.map_nil]); first | done | rfl) ?_; (with_reducible refine (laws_markIntS.calls kj36 (fun k_ => some k_ = (.slice Ao79 t340.length co79 : Value).ownBlock) (.slice Ao79 t340.length co79) t340 1 t353 t354 w _ ?side1 ?side2 A53.out).mono ?_); (case side1 => repeat (first | (with_reducible first | exact HB.out | apply below_alloc | apply pw_below_drewN | apply below_drew1 | refine below_set ?_ GE325.out | refine below_set ?_ GE339.out) | exact HB.out)); (case side2 => exact Kd.R_tight rfl HO_7.out); rintro e w80 ⟨rfl, hy0, hb, hkp⟩; refine ⟨_, rfl, ?_⟩; have n0_ := Aside0.mk (Kd.R_mono (ok' := fun k_ => some k_ ≠ (.slice Ao79 t340.length co79 : Value).ownBlock ∧ some k_ ≠ (.slice Ao24 t351.length co24 : Value).ownBlock) (Kd.R_keptB (HO_4.out) hkp (fun k_ hk_ hs_ => (hk_.1) hs_)) (fun k_ hk_ => ⟨hk_.1.1, hk_.1.2⟩)); have n1_ := Aside0.mk (Kd.R_reok rfl hy0 (fun k_ e_ => HO_7.out.1 k_ e_)); have n2_ := Aside0.mk (Kd.R_mono (ok' := fun k_ => some k_ ≠ (v332 : Value).ownBlock ∧ some k_ ≠ (.slice Ao79 t340.length co79 : Value).ownBlock) (Kd.R_keptB (HO_340001.out) hkp (fun k_ hk_ hs_ => (hk_.2) hs_)) (fun k_ hk_ => ⟨hk_.1.1, hk_.1.2⟩)); have n3_ := Aside0.mk (blk_kept (by (with_reducible repeat (first | refine blk_drewN ?_ _ | refine blk_drew ?_ | refine blk_alloc ?_ _)); exact BK325.out) hkp (fun hs_ => (fun e_ => (Kd.R_ne HO_7.out BK325.out (by decide)) e_) hs_)); have n4_ := Aside0.mk (blk_kept (by (with_reducible repeat (first | refine blk_drewN ?_ _ | refine blk_drew ?_ | refine blk_alloc ?_ _)); exact BK339.out) hkp (fun hs_ => (fun e_ => (Kd.R_ne HO_7.out BK339.out (by decide)) e_) hs_)); have n5_ := Aside0.mk (hb); clear HO_4; clear HO_7; clear HO_340001; clear BK325; clear BK339; clear HB; have HO_4 := n0_; have HO_7 := n1_; have HO_340001 := n2_; have BK325 := n3_; have BK339 := n4_; have HB := n5_; clear n0_ n1_ n2_ n3_ n4_ n5_; (try clear hb); (try clear hkp); (try clear hy0)) | ((with_reducible refine gate_callee (f := 22) rfl ?_); refine goesL_ (some 67) rfl rfl Try.func22 (by kernel_rfl) rfl #[.slice Ao79 t354.length co79, .int .i64 1] rfl (by (try simp only [List.map_toArray, List.map_cons, List.map_nil]); first | done | (rw [show t354.length = t340.length from (Kd.R_reads' HO_7.out).1.symm] <;> rfl) | rfl | (simp only [List.length_drop, List.length_take]; rfl)) ?_; (with_reducible refine (laws_heldIntS.calls kj36 _ _ t354 1 t355 _ ?side1 ?side2 A54.out).mono ?_); (case side1 => repeat (first | exact (Kd.R_reads' HO_7.out).2.2 | (with_reducible refine Kd.C_alloc ?_ _) | (with_reducible refine Kd.C_drewN ?_ _) | (with_reducible refine Kd.C_drew ?_))); (case side2 => rw [show t354.length = t340.length from (Kd.R_reads' HO_7.out).1.symm]; exact (Kd.R_reads' HO_7.out).2.1); rintro e w' ⟨rfl, ⟨nd, rfl⟩⟩; refine ⟨_, rfl, ?_⟩))
           go_ret
           exact ⟨by first | rfl | (simp [errW_none, errW_some] <;> rfl) | (simp [*, errW_none, errW_some] <;> rfl), by repeat (first | (with_reducible first | exact HB.out | apply below_alloc | apply pw_below_drewN | apply below_drew1 | refine below_set ?_ GE325.out | refine below_set ?_ GE339.out) | exact HB.out)⟩
     ·
      replace c35 := Bool.eq_false_iff.mpr c35
      subst c35
      have H1 : (some false) = some r := by rw [if_neg (show ¬ (false = true) by decide)] at H; exact H
      clear H
      have H := H1
      clear H1
      obtain rfl := Option.some.inj H
      try go_wp2
      have n0_ := Aside0.mk (Kd.R_drew HO_4.out)
      have n1_ := Aside0.mk (Kd.R_drew HO_7.out)
      have n2_ := Aside0.mk (Kd.R_drew HO_340001.out)
      have n3_ := Aside0.mk (blk_drew BK325.out)
      have n4_ := Aside0.mk (blk_drew BK339.out)
      have n5_ := Aside0.mk (below_drew1 HB.out)
      clear HO_4
      clear HO_7
      clear HO_340001
      clear BK325
      clear BK339
      clear HB
      have HO_4 := n0_
      have HO_7 := n1_
      have HO_340001 := n2_
      have BK325 := n3_
      have BK339 := n4_
      have HB := n5_
      clear n0_ n1_ n2_ n3_ n4_ n5_
      refine start_ (n := 5) (S := fun w' => w'.cell? ⟨gb339, 0, none⟩ = some (.int .i64 t335) ∧ w'.cell? ⟨gb339, 1, none⟩ = some (.slice Ao24 t336.length co24) ∧ w'.cell? ⟨gb325, 0, none⟩ = some (.int .i64 a0_0) ∧ w'.cell? ⟨gb325, 1, none⟩ = some (.slice A0_1 l0_1.length c0_1)) (ds := []) #[Zz,Zz,Zz,Zz,Zz] (by kernel_rfl) rfl rfl ⟨(blk_cell BK339.out 0).trans rfl, (blk_cell BK339.out 1).trans rfl, (blk_cell BK325.out 0).trans rfl, (blk_cell BK325.out 1).trans rfl⟩ (fun hHeld => ?_)
      generalize wc.drew = w81 at HO_4 HO_7 HO_340001 BK325 BK339 HB hHeld ⊢
      refine take_ (i := 0) (N := some 41) (v := ?_) (a' := ?_) #[Yy,Zz,Zz,Zz,Zz] rfl rfl (by kernel_rfl) (fun _ _ _ h => h) (Or.inl ⟨by rfl, ?_⟩) hHeld ?_ ?_
      rotate_left
      ·
       rintro w' ⟨s0, s1, s2, s3⟩
       go_simp
       with_reducible rfl
      rotate_left
      ·
       simp only [Act.put, List.setIfInBounds_toArray, List.set_cons_zero, List.set_cons_succ, i64_w, i32_w]
       rfl
      refine take_ (i := 1) (N := some 42) (v := ?_) (a' := ?_) #[Yy,Yy,Zz,Zz,Zz] rfl rfl (by kernel_rfl) (fun _ _ _ h => h) (Or.inl ⟨by rfl, ?_⟩) hHeld ?_ ?_
      rotate_left
      ·
       rintro w' ⟨s0, s1, s2, s3⟩
       go_simp
       with_reducible rfl
      rotate_left
      ·
       simp only [Act.put, List.setIfInBounds_toArray, List.set_cons_zero, List.set_cons_succ, i64_w, i32_w]
       rfl
      refine one_ (i := 2) (N := some 43) #[Yy,Yy,Yy,Zz,Zz] rfl rfl (by kernel_rfl) (by decide) (fun K hK => ?_)
      refine goes_ Try.func17 (by kernel_rfl) rfl #[.agg #[.int .i64 a0_0, .slice A0_1 l0_1.length c0_1]] (by rfl) rfl rfl (by (try simp only [List.map_toArray, List.map_cons, List.map_nil]); first | done | rfl) ?_
      with_reducible refine (laws_toTournament.calls kj10 a0_0 _ _ l0_1 t345 t346 _ ?side1 ?side2 A33.out).mono ?_
      (case side1 => repeat (first | exact (Kd.C_below HR0_1.out HB.out) | (with_reducible refine Kd.C_alloc ?_ _) | (with_reducible refine Kd.C_drewN ?_ _) | (with_reducible refine Kd.C_drew ?_)))
      (case side2 => exact HC0_1.out)
      rintro e w82 ⟨v347, rfl, ho0, hb⟩
      refine ⟨_, rfl, ?_⟩
      have n0_ := Aside0.mk (Kd.R_elder' (by (with_reducible repeat (first | apply Kd.R_alloc | apply Kd.R_drewN | apply Kd.R_drew)); exact HO_4.out) (Kd.R_base ho0) hb)
      have n1_ := Aside0.mk (Kd.R_elder' (by (with_reducible repeat (first | apply Kd.R_alloc | apply Kd.R_drewN | apply Kd.R_drew)); exact HO_7.out) (Kd.R_base ho0) hb)
      have n2_ := Aside0.mk (Kd.R_elder' (by (with_reducible repeat (first | apply Kd.R_alloc | apply Kd.R_drewN | apply Kd.R_drew)); exact HO_340001.out) (Kd.R_base ho0) hb)
      have n3_ := Aside0.mk (Kd.R_lower (Kd.R_new' (Kd.R_new' (Kd.R_new' ho0 (Kd.R_lt (by (with_reducible repeat (first | apply Kd.R_alloc | apply Kd.R_drewN | apply Kd.R_drew)); exact HO_4.out))) (Kd.R_lt (by (with_reducible repeat (first | apply Kd.R_alloc | apply Kd.R_drewN | apply Kd.R_drew)); exact HO_7.out))) (Kd.R_lt (by (with_reducible repeat (first | apply Kd.R_alloc | apply Kd.R_drewN | apply Kd.R_drew)); exact HO_340001.out))) (below_size (by repeat (first | (with_reducible first | exact HB.out | apply below_alloc | apply pw_below_drewN | apply below_drew1 | refine below_set ?_ GE325.out | refine below_set ?_ GE339.out) | exact HB.out))))
      have n4_ := Aside0.mk (blk_below (g := gb325) (o := .cells #[.int .i64 a0_0, .slice A0_1 l0_1.length c0_1] 31 (0, 0)) (by (with_reducible repeat (first | refine blk_drewN ?_ _ | refine blk_drew ?_ | refine blk_alloc ?_ _)); exact BK325.out) hb)
      have n5_ := Aside0.mk (blk_below (g := gb339) (o := .cells #[.int .i64 t335, .slice Ao24 t336.length co24] 35 (0, 0)) (by (with_reducible repeat (first | refine blk_drewN ?_ _ | refine blk_drew ?_ | refine blk_alloc ?_ _)); exact BK339.out) hb)
      have n6_ := Aside0.mk (below_step (by repeat (first | (with_reducible first | exact HB.out | apply below_alloc | apply pw_below_drewN | apply below_drew1 | refine below_set ?_ GE325.out | refine below_set ?_ GE339.out) | exact HB.out)) hb)
      clear HO_4
      clear HO_7
      clear HO_340001
      clear BK325
      clear BK339
      clear HB
      have HO_4 := n0_
      have HO_7 := n1_
      have HO_340001 := n2_
      have HO348 := n3_
      have BK325 := n4_
      have BK339 := n5_
      have HB := n6_
      clear n0_ n1_ n2_ n3_ n4_ n5_ n6_
      (try clear hb)
      (try clear hb2)
      (try clear hk)
      (try clear hi)
      (try clear ho0)
      obtain ⟨Ao83, co83, eo83⟩ := Kd.R_slice HO348.out
      (first | subst eo83 | (injection eo83 with f1_ f2_ f3_; have f4_ := f1_.symm; have f5_ := f3_.symm; clear f1_ f2_ f3_; subst f4_; subst f5_))
      refine hK.out _ _ ⟨(blk_cell BK339.out 0).trans rfl, (blk_cell BK339.out 1).trans rfl, (blk_cell BK325.out 0).trans rfl, (blk_cell BK325.out 1).trans rfl⟩ (fun hHeld => ?_)
      clear hK K
      refine norm_ (a' := ?_) ?_ ?_
      rotate_left
      ·
       show Act.put _ (some 43) _ = _
       simp only [Act.put, List.setIfInBounds_toArray, List.set_cons_zero, List.set_cons_succ, i64_w, i32_w]
       rfl
      refine one_ (i := 3) (N := some 44) #[Yy,Yy,Yy,Yy,Zz] rfl rfl (by kernel_rfl) (by decide) (fun K hK => ?_)
      refine goes_ Try.func19 (by kernel_rfl) rfl #[.agg #[.int .i64 t335, .slice Ao24 t336.length co24], .agg #[.int .i64 t345, .slice Ao83 t346.length co83]] (by rfl) rfl rfl (by (try simp only [List.map_toArray, List.map_cons, List.map_nil]); first | done | rfl) ?_
      with_reducible refine (laws_eqTournament.calls kj10 t335 _ _ t336 t345 _ _ t346 false _ ?side1 ?side2 ?side3 ?side4 A34.out).mono ?_
      (case side1 => repeat (first | exact (Kd.R_reads' HO_340001.out).2.2 | (with_reducible refine Kd.C_alloc ?_ _) | (with_reducible refine Kd.C_drewN ?_ _) | (with_reducible refine Kd.C_drew ?_)))
      (case side2 => exact (Kd.R_reads' HO_340001.out).2.1)
      (case side3 => repeat (first | exact (Kd.R_reads' HO348.out).2.2 | (with_reducible refine Kd.C_alloc ?_ _) | (with_reducible refine Kd.C_drewN ?_ _) | (with_reducible refine Kd.C_drew ?_)))
      (case side4 => exact (Kd.R_reads' HO348.out).2.1)
      rintro e w84 ⟨rfl, hb⟩
      refine ⟨_, rfl, ?_⟩
      have n0_ := Aside0.mk (Kd.R_below (by (with_reducible repeat (first | apply Kd.R_alloc | apply Kd.R_drewN | apply Kd.R_drew)); exact HO_4.out) hb)
      have n1_ := Aside0.mk (Kd.R_below (by (with_reducible repeat (first | apply Kd.R_alloc | apply Kd.R_drewN | apply Kd.R_drew)); exact HO_7.out) hb)
      have n2_ := Aside0.mk (Kd.R_below (by (with_reducible repeat (first | apply Kd.R_alloc | apply Kd.R_drewN | apply Kd.R_drew)); exact HO_340001.out) hb)
      have n3_ := Aside0.mk (Kd.R_below (by (with_reducible repeat (first | apply Kd.R_alloc | apply Kd.R_drewN | apply Kd.R_drew)); exact HO348.out) hb)
      have n4_ := Aside0.mk (blk_below (g := gb325) (o := .cells #[.int .i64 a0_0, .slice A0_1 l0_1.length c0_1] 31 (0, 0)) (by (with_reducible repeat (first | refine blk_drewN ?_ _ | refine blk_drew ?_ | refine blk_alloc ?_ _)); exact BK325.out) hb)
      have n5_ := Aside0.mk (blk_below (g := gb339) (o := .cells #[.int .i64 t335, .slice Ao24 t336.length co24] 35 (0, 0)) (by (with_reducible repeat (first | refine blk_drewN ?_ _ | refine blk_drew ?_ | refine blk_alloc ?_ _)); exact BK339.out) hb)
      have n6_ := Aside0.mk (below_step (by repeat (first | (with_reducible first | exact HB.out | apply below_alloc | apply pw_below_drewN | apply below_drew1 | refine below_set ?_ GE325.out | refine below_set ?_ GE339.out) | exact HB.out)) hb)
      clear HO_4
      clear HO_7
      clear HO_340001
      clear HO348
      clear BK325
      clear BK339
      clear HB
      have HO_4 := n0_
      have HO_7 := n1_
      have HO_340001 := n2_
      have HO348 := n3_
      have BK325 := n4_
      have BK339 := n5_
      have HB := n6_
      clear n0_ n1_ n2_ n3_ n4_ n5_ n6_
      (try clear hb)
      (try clear hb2)
      (try clear hk)
      (try clear hi)
      refine hK.out _ _ ⟨(blk_cell BK339.out 0).trans rfl, (blk_cell BK339.out 1).trans rfl, (blk_cell BK325.out 0).trans rfl, (blk_cell BK325.out 1).trans rfl⟩ (fun hHeld => ?_)
      clear hK K
      refine norm_ (a' := ?_) ?_ ?_
      rotate_left
      ·
       show Act.put _ (some 44) _ = _
       simp only [Act.put, List.setIfInBounds_toArray, List.set_cons_zero, List.set_cons_succ, i64_w, i32_w]
       rfl
      refine pure_ (i := 4) (N := some 45) (v := ?_) (a' := ?_) #[Yy,Yy,Yy,Yy,Yy] rfl rfl (by kernel_rfl) (fun _ _ _ h => h) (Or.inl ⟨by rfl, ?_⟩) ?_ ?_
      rotate_left
      ·
       intro w'
       go_simp
       with_reducible rfl
      rotate_left
      ·
       simp only [Act.put, List.setIfInBounds_toArray, List.set_cons_zero, List.set_cons_succ, i64_w, i32_w]
       rfl
      refine done_ (by kernel_rfl) ?_
      try go_wp2
      go_ret
      exact ⟨by first | rfl | (simp [errW_none, errW_some] <;> rfl) | (simp [*, errW_none, errW_some] <;> rfl), by repeat (first | (with_reducible first | exact HB.out | apply below_alloc | apply pw_below_drewN | apply below_drew1 | refine below_set ?_ GE325.out | refine below_set ?_ GE339.out) | exact HB.out)⟩
end Go.Proofs.Ytfmpbflbkochgaa.P
namespace Go.Proofs.Ytfmpbflbkochgaa.K
open Go.RowKit Go.Proofs.YtfmpbflbkochgaaW.PrintWords
abbrev BM : Nat := 17592186044416
theorem wrap_id {x : Int} (h1 : -9223372036854775808 ≤ x) (h2 : x < 9223372036854775808) : wrap64 x = x := by unfold wrap64; omega
theorem mid (x : Int) (done rest : List Int) (h : (done ++ x :: rest).length ≤ BM) :
    ((done.length : Int) < ((done ++ x :: rest).length : Int)) ∧ 0 ≤ (done.length : Int) ∧ rd (done ++ x :: rest) (done.length : Int) = x ∧ wrap64 ((done.length : Int) + 1) = ((done ++ [x]).length : Int) ∧ done ++ [x] ++ rest = done ++ x :: rest := by
  simp only [BM] at h
  refine ⟨by simp; omega, by omega, by simp [rd], ?_, by simp⟩
  simp at h ⊢
  unfold wrap64; omega
theorem Ev.ite {α : Type} {c : Prop} [Decidable c] {f g : Nat → Option α} {r : α} (h1 : c → Ev f r) (h2 : ¬ c → Ev g r) : Ev (fun k => if c then f k else g k) r := by
  by_cases h : c
  · simpa [h] using h1 h
  · simpa [h] using h2 h
theorem Ev.some {α : Type} {r r' : α} (h : r = r') : Ev (fun _ => Option.some r) r' := h ▸ Ev.now r
theorem Ev.pair {α : Type} {f : Nat → Option α} {r r' : α} (h : Ev f r) (e : r = r') : Ev f r' := e ▸ h
theorem set_mid (y x : Int) (done rest : List Int) : (done ++ y :: rest).set (done.length : Int).toNat x = done ++ [x] ++ rest := by simp
def EvB (g : Nat → Option Bool) (P : Prop) : Prop := (P → Ev g true) ∧ (¬ P → Ev g false)
theorem EvB.congr {g : Nat → Option Bool} {P Q : Prop} (h : EvB g P) (e : P ↔ Q) : EvB g Q := ⟨fun q => h.1 (e.2 q), fun q => h.2 (fun p => q (e.1 p))⟩
theorem EvB.ev {g : Nat → Option Bool} {P : Prop} (h : EvB g P) : ∃ b : Bool, Ev g b ∧ (b = true ↔ P) := by
  by_cases p : P
  · exact ⟨true, h.1 p, by simp [p]⟩
  · exact ⟨false, h.2 p, by simp [p]⟩
theorem EvB.of {g : Nat → Option Bool} {P : Prop} {b : Bool} (h : Ev g b) (e : b = true ↔ P) : EvB g P := by
  cases b with
  | true => exact ⟨fun _ => h, fun p => absurd (e.1 rfl) p⟩
  | false => exact ⟨fun p => absurd (e.2 p) (by simp), fun _ => h⟩
theorem EvB.true_ : EvB (fun _ => some true) True := ⟨fun _ => Ev.now _, fun h => absurd trivial h⟩
theorem EvB.false_ : EvB (fun _ => some false) False := ⟨fun h => h.elim, fun _ => Ev.now _⟩
theorem EvB.now (b : Bool) : EvB (fun _ => some b) (b = true) := EvB.of (Ev.now b) Iff.rfl
theorem EvB.fn {g f : Nat → Option Bool} {P : Prop} (h : ∀ k, g k = f k) (k : EvB f P) : EvB g P := ⟨fun p => Ev.congr h (k.1 p), fun p => Ev.congr h (k.2 p)⟩
theorem EvB.step {g f : Nat → Option Bool} {P : Prop} (h : ∀ k, g (k + 1) = f k) (k : EvB f P) : EvB g P := ⟨fun p => Ev.step h (k.1 p), fun p => Ev.step h (k.2 p)⟩
theorem EvB.ite {c : Prop} [Decidable c] {f g : Nat → Option Bool} {P Q : Prop} (h1 : c → EvB f P) (h2 : ¬ c → EvB g Q) : EvB (fun k => if c then f k else g k) ((c ∧ P) ∨ (¬ c ∧ Q)) := by
  by_cases h : c
  · simpa [h] using h1 h
  · simpa [h] using h2 h
theorem EvB.and {c : Prop} [Decidable c] {f : Nat → Option Bool} {P : Prop} (h1 : c → EvB f P) : EvB (fun k => if c then f k else some false) (c ∧ P) := by
  by_cases h : c
  · simpa [h] using h1 h
  · simpa [h] using EvB.false_
theorem EvB.bind {α : Type} {g : Nat → Option α} {f : Nat → α → Option Bool} {a : α} {P : Prop} (h : Ev g a) (k : EvB (fun n => f n a) P) : EvB (fun n => (g n).bind (f n)) P :=
  ⟨fun p => Ev.bind h (k.1 p), fun p => Ev.bind h (k.2 p)⟩
theorem allLoop (g : Nat → Nat → Option Bool) (n : Nat) (P : Nat → Prop) (Q : Prop) (hend : EvB (g n) Q)
    (hs : ∀ j, j < n → ∀ R, EvB (g (j + 1)) R → EvB (g j) (P j ∧ R)) : ∀ d j, j + d = n → EvB (g j) ((∀ i, j ≤ i → i < n → P i) ∧ Q) := by
  intro d
  induction d with
  | zero =>
    intro j hj
    obtain rfl : j = n := by omega
    exact hend.congr ⟨fun q => ⟨fun i h1 h2 => by omega, q⟩, fun h => h.2⟩
  | succ d ih =>
    intro j hj
    refine (hs j (by omega) _ (ih (j + 1) (by omega))).congr ⟨?_, ?_⟩
    · rintro ⟨h1, h2, h3⟩
      refine ⟨fun i h4 h5 => ?_, h3⟩
      by_cases e : i = j
      · subst e; exact h1
      · exact h2 i (by omega) h5
    · rintro ⟨h1, h2⟩
      exact ⟨h1 j (Nat.le_refl _) (by omega), fun i h4 h5 => h1 i (by omega) h5, h2⟩
theorem allLoop0 (g : Nat → Nat → Option Bool) (n : Nat) (P : Nat → Prop) (Q : Prop) (hend : EvB (g n) Q)
    (hs : ∀ j, j < n → ∀ R, EvB (g (j + 1)) R → EvB (g j) (P j ∧ R)) : EvB (g 0) ((∀ i, i < n → P i) ∧ Q) :=
  (allLoop g n P Q hend hs n 0 (by omega)).congr ⟨fun h => ⟨fun i hi => h.1 i (Nat.zero_le _) hi, h.2⟩, fun h => ⟨fun i _ hi => h.1 i hi, h.2⟩⟩
theorem wrap_nat (i : Nat) (h : i < 9223372036854775807) : wrap64 ((i : Int) + 1) = ((i + 1 : Nat) : Int) := by unfold wrap64; omega
def ints (ns : List Nat) : List Int := ns.map (fun n : Nat => (n : Int))
theorem ints_length (ns : List Nat) : (ints ns).length = ns.length := by simp [ints]
theorem rd_ints (ns : List Nat) (i : Nat) : rd (ints ns) (i : Int) = ((ns.getD i 0 : Nat) : Int) := by
  simp only [rd, ints, Int.toNat_natCast, List.getD_eq_getElem?_getD, List.getElem?_map]
  cases ns[i]? <;> simp
theorem ints_of (l : List Int) (h : ∀ x ∈ l, 0 ≤ x) : ∃ ns, l = ints ns := by
  refine ⟨l.map Int.toNat, ?_⟩
  simp only [ints, List.map_map]
  rw [List.map_congr_left (g := id) (fun x hx => by have := h x hx; simp; omega)]
  simp
theorem ints_set (ns : List Nat) (i v : Nat) : (ints ns).set (i : Int).toNat (v : Int) = ints (ns.set i v) := by simp [ints, List.map_set]
end Go.Proofs.Ytfmpbflbkochgaa.K
namespace Go.Proofs.Ytfmpbflbkochgaa.K
open Go.RowKit Go.Proofs.YtfmpbflbkochgaaW.PrintWords Go.Proofs.YtfmpbflbkochgaaW.PrintMore
theorem wrap_i64 (n : Int) (h0 : 0 ≤ n) (h1 : n < 2 ^ 62) : IntKind.i64.wrap n = n := by
  have : IntKind.i64.wrap n = wrap64 n := by simp [IntKind.wrap, IntKind.bits, IntKind.signed, wrap64]; omega
  rw [this]; unfold wrap64; omega
theorem and_nat (a b : Nat) (ha : a < 2 ^ 62) (hb : b < 2 ^ 62) : Go.bits .and .i64 (a : Int) (b : Int) = ((a &&& b : Nat) : Int) := (bits_nat .i64 62 (by decide) wrap_i64 a b ha hb).1
theorem or_nat (a b : Nat) (ha : a < 2 ^ 62) (hb : b < 2 ^ 62) : Go.bits .or .i64 (a : Int) (b : Int) = ((a ||| b : Nat) : Int) := (bits_nat .i64 62 (by decide) wrap_i64 a b ha hb).2
theorem shl_one (i : Nat) (h : i ≤ 61) : shl .i64 1 (i : Int) = ((2 ^ i : Nat) : Int) := by
  unfold shl
  have h1 : min ((i : Int).toNat) IntKind.i64.bits = i := by simp [show IntKind.i64.bits = 64 from rfl]; omega
  rw [h1, Int.one_mul]
  have h2 : 2 ^ i ≤ 2 ^ 61 := Nat.pow_le_pow_right (by decide) h
  rw [wrap_i64 _ (by exact_mod_cast Nat.zero_le (2 ^ i)) (by exact_mod_cast Nat.lt_of_le_of_lt h2 (by decide))]
  exact_mod_cast rfl
theorem shr_nat (a i : Nat) (ha : a < 2 ^ 62) : shr .i64 (a : Int) (i : Int) = ((a >>> i : Nat) : Int) := by
  unfold shr
  rw [Nat.shiftRight_eq_div_pow]
  have e : min ((i : Int).toNat) IntKind.i64.bits = min i 64 := by simp [show IntKind.i64.bits = 64 from rfl]
  rw [e]
  have : a / 2 ^ i = a / 2 ^ (min i 64) := by
    by_cases h : i ≤ 64
    · rw [Nat.min_eq_left h]
    · rw [Nat.min_eq_right (by omega), Nat.div_eq_of_lt (Nat.lt_of_lt_of_le ha (Nat.pow_le_pow_right (by decide) (by omega))), Nat.div_eq_of_lt (Nat.lt_of_lt_of_le ha (by decide))]
  rw [this]
  exact_mod_cast rfl
theorem bit_one (a : Nat) (i : Nat) : (a >>> i) &&& 1 = if a.testBit i then 1 else 0 := by
  rw [Nat.and_one_is_mod, Nat.testBit, Nat.and_comm, Nat.and_one_is_mod]
  rcases Nat.mod_two_eq_zero_or_one (a >>> i) with h | h <;> simp [h]
theorem bit_mod (a : Nat) (i : Nat) : (a >>> i) % 2 = if a.testBit i then 1 else 0 := by rw [← Nat.and_one_is_mod, bit_one]
theorem hasB (a i : Nat) (ha : a < 2 ^ 62) : (Go.bits .and .i64 (shr .i64 (a : Int) (i : Int)) 1 == 1) = a.testBit i := by
  rw [shr_nat a i ha, show (1 : Int) = ((1 : Nat) : Int) from rfl, and_nat _ _ (Nat.lt_of_le_of_lt (by rw [Nat.shiftRight_eq_div_pow]; exact Nat.div_le_self _ _) ha) (by decide), bit_one]
  cases a.testBit i <;> rfl
theorem deHasB (a i : Nat) (ha : a < 2 ^ 62) : (Int.tmod (shr .i64 (a : Int) (i : Int)) 2 == 1) = a.testBit i := by
  rw [shr_nat a i ha, show (2 : Int) = ((2 : Nat) : Int) from rfl, ← Int.ofNat_tmod, bit_mod]
  cases a.testBit i <;> rfl
end Go.Proofs.Ytfmpbflbkochgaa.K
namespace Go.Proofs.Ytfmpbflbkochgaa.K
open Go.RowKit Go.Proofs.YtfmpbflbkochgaaW.PrintWords Go.Proofs.Ytfmpbflbkochgaa.P
def within (a b : Int) (l : List Int) : Bool := l.all fun n => decide (a ≤ n) && decide (n ≤ b)
theorem l1All_l0 (a b : Int) : ∀ (rest done : List Int), (done ++ rest).length ≤ BM → Ev (fun k => spec_l1All.l0 k a b (done ++ rest) (done ++ rest).length done.length) (within a b rest) := by
  intro rest
  induction rest with
  | nil => intro done h; exact Ev.step (fun k => by simp [spec_l1All.l0]; rfl) (Ev.some (by simp [within]))
  | cons x rest ih =>
    intro done h
    have ih' := ih (done ++ [x])
    obtain ⟨h1, h2, h3, h4, h5⟩ := mid x done rest h
    rw [h5] at ih'
    refine Ev.step (fun k => by rw [spec_l1All.l0]) ?_
    simp only [if_pos h1, if_pos h2, h3, h4, spec_l1In.f]
    by_cases ha : x ≥ a
    · by_cases hb : x ≤ b
      · simpa [ha, hb, within] using ih' h
      · simpa [ha, hb, within] using Ev.now _
    · simpa [ha, within] using Ev.now _
theorem allWithin_eq : ∀ k a b xs n i, impl_allWithin.l0 k a b xs n i = spec_l1All.l0 k a b xs n i := by
  intro k
  induction k with
  | zero => intros; rfl
  | succ k ih => intros; simp only [impl_allWithin.l0, spec_l1All.l0, ih, impl_within.f, spec_l1In.f]
theorem l1All_f (l : List Int) (a b : Int) (h : l.length ≤ BM) : Ev (fun k => spec_l1All.f k l a b) (within a b l) := l1All_l0 a b l [] h
theorem allWithin_f (l : List Int) (a b : Int) (h : l.length ≤ BM) : Ev (fun k => impl_allWithin.f k l a b) (within a b l) := Ev.congr (fun k => allWithin_eq ..) (l1All_f l a b h)
theorem l1In_f (n a b : Int) : spec_l1In.f n a b = some (decide (a ≤ n) && decide (n ≤ b)) := by
  unfold spec_l1In.f; by_cases h : a ≤ n <;> simp [h]
theorem within_f (n a b : Int) : impl_within.f n a b = some (decide (a ≤ n) && decide (n ≤ b)) := l1In_f n a b
end Go.Proofs.Ytfmpbflbkochgaa.K
namespace Go.Proofs.Ytfmpbflbkochgaa.K
open Go.RowKit Go.Proofs.YtfmpbflbkochgaaW.PrintWords Go.Proofs.YtfmpbflbkochgaaW.PrintMore Go.Proofs.Ytfmpbflbkochgaa.P
def nb (ns : List Nat) (i j : Nat) : Bool := (ns.getD i 0).testBit j
structure Sets (n : Nat) (ns : List Nat) : Prop where
  n1 : 1 ≤ n
  n8 : n ≤ 8
  len : ns.length = n
  lt : ∀ x ∈ ns, x < 2 ^ n
theorem Sets.get {n : Nat} {ns : List Nat} (h : Sets n ns) (i : Nat) : ns.getD i 0 < 2 ^ n := by
  rw [List.getD_eq_getElem?_getD]
  cases e : ns[i]? with
  | none => simp; exact Nat.two_pow_pos n
  | some x => exact h.lt x (List.mem_of_getElem? e)
theorem pow8 {n : Nat} (h : n ≤ 8) : 2 ^ n ≤ 256 := Nat.le_trans (Nat.pow_le_pow_right (by decide) h) (by decide)
theorem Sets.get62 {n : Nat} {ns : List Nat} (h : Sets n ns) (i : Nat) : ns.getD i 0 < 2 ^ 62 := Nat.lt_of_lt_of_le (h.get i) (Nat.le_trans (pow8 h.n8) (by decide))
theorem Sets.nb_lt {n : Nat} {ns : List Nat} (h : Sets n ns) {i j : Nat} (hj : n ≤ j) : nb ns i j = false :=
  Nat.testBit_lt_two_pow (Nat.lt_of_lt_of_le (h.get i) (Nat.pow_le_pow_right (by decide) hj))
def Near (n : Nat) (ns : List Nat) : Prop := Sets n ns ∧ ∀ i, i < n → nb ns i i = false
def Tour (n : Nat) (ns : List Nat) : Prop := Near n ns ∧ ∀ i, i < n → ∀ j, j < i → nb ns i j ≠ nb ns j i
theorem has_f (a i : Nat) (h : a < 2 ^ 62) : impl_has.f (a : Int) (i : Int) = some (a.testBit i) := by
  unfold impl_has.f; rw [if_pos (by omega), hasB a i h]
theorem deHas_f (a i : Nat) (h : a < 2 ^ 62) : spec_deHas.f (a : Int) (i : Int) = some (a.testBit i) := by
  unfold spec_deHas.f; rw [if_pos (by omega), deHasB a i h]
theorem has_nb {n : Nat} {ns : List Nat} (h : Sets n ns) (i j : Nat) : impl_has.f ((ns.getD i 0 : Nat) : Int) (j : Int) = some (nb ns i j) := has_f _ _ (h.get62 i)
theorem deHas_nb {n : Nat} {ns : List Nat} (h : Sets n ns) (i j : Nat) : spec_deHas.f ((ns.getD i 0 : Nat) : Int) (j : Int) = some (nb ns i j) := deHas_f _ _ (h.get62 i)
theorem sets_iff (a : Int) (l : List Int) : ((1 ≤ a ∧ a ≤ 8) ∧ (l.length : Int) = a ∧ within 0 (wrap64 (shl .i64 1 a - 1)) l = true) ↔ ∃ n ns, a = ((n : Nat) : Int) ∧ l = ints ns ∧ Sets n ns := by
  constructor
  · rintro ⟨⟨h1, h2⟩, h3, h4⟩
    obtain ⟨n, rfl⟩ := Int.eq_ofNat_of_zero_le (show 0 ≤ a by omega)
    have hp := pow8 (show n ≤ 8 by omega)
    have hp0 := Nat.two_pow_pos n
    have e : wrap64 (shl .i64 1 (n : Int) - 1) = ((2 ^ n - 1 : Nat) : Int) := by
      rw [shl_one n (by omega)]; unfold wrap64; omega
    rw [e] at h4
    simp only [within, List.all_eq_true, Bool.and_eq_true, decide_eq_true_eq] at h4
    obtain ⟨ns, rfl⟩ := ints_of l (fun x hx => (h4 x hx).1)
    rw [ints_length] at h3
    exact ⟨n, ns, rfl, rfl, by omega, by omega, by omega, fun x hx => by have := (h4 x (List.mem_map.2 ⟨x, hx, rfl⟩)).2; omega⟩
  · rintro ⟨n, ns, rfl, rfl, h⟩
    have hp := pow8 h.n8
    have hp0 := Nat.two_pow_pos n
    have := h.n1; have := h.n8; have := h.len
    have e : wrap64 (shl .i64 1 (n : Int) - 1) = ((2 ^ n - 1 : Nat) : Int) := by
      rw [shl_one n (by omega)]; unfold wrap64; omega
    rw [e]
    refine ⟨⟨by omega, by omega⟩, by rw [ints_length]; omega, ?_⟩
    simp only [within, List.all_eq_true, Bool.and_eq_true, decide_eq_true_eq, ints, List.mem_map]
    rintro x ⟨y, hy, rfl⟩
    have := h.lt y hy
    omega
theorem near_l0 {n : Nat} {ns : List Nat} (h : Sets n ns) : EvB (fun k => impl_areNear.l0 k (ints ns) (n : Int) 0) (∀ i, i < n → nb ns i i = false) := by
  have hl := h.len
  have hn := h.n8
  refine (allLoop0 (fun j k => impl_areNear.l0 k (ints ns) (n : Int) (j : Int)) n (fun i => nb ns i i = false) True ?_ ?_).congr (by simp)
  · exact EvB.step (fun k => by rw [impl_areNear.l0, if_neg (by omega)]) EvB.true_
  · intro j hj R hR
    have e : _ = nb ns j j := hasB (ns.getD j 0) j (h.get62 j)
    refine EvB.step (f := fun k => if nb ns j j = false then impl_areNear.l0 k (ints ns) n ((j + 1 : Nat) : Int) else some false) (fun k => ?_) (EvB.and fun _ => hR)
    rw [impl_areNear.l0, if_pos (by omega), if_pos (by omega), if_pos (by rw [ints_length]; omega), rd_ints, wrap_nat j (by omega)]
    cases hb : nb ns j j with
    | true => rw [if_pos (by rw [hb] at e; simpa using e), if_neg (by simp)]
    | false => rw [if_neg (by rw [hb] at e; simpa using e), if_pos rfl]
theorem areNear_f (a : Int) (l : List Int) (hl : l.length ≤ BM) : EvB (fun k => impl_areNear.f k a l) (∃ n ns, a = ((n : Nat) : Int) ∧ l = ints ns ∧ Near n ns) := by
  have hj : ∀ l, Ev (fun k => impl_areNear.j0 k l true) false := fun l => Ev.step (fun k => by rw [impl_areNear.j0]) (by simpa using Ev.now _)
  have no : ∀ {g : Nat → Option Bool}, ¬ ((1 ≤ a ∧ a ≤ 8) ∧ (l.length : Int) = a ∧ within 0 (wrap64 (shl .i64 1 a - 1)) l = true) → Ev g false → EvB g (∃ n ns, a = ((n : Nat) : Int) ∧ l = ints ns ∧ Near n ns) := by
    intro g h1 h2
    exact ⟨fun ⟨n, ns, e1, e2, h⟩ => absurd ((sets_iff a l).2 ⟨n, ns, e1, e2, h.1⟩) h1, fun _ => h2⟩
  unfold impl_areNear.f
  simp only [within_f, Option.bind_some]
  by_cases h1 : 1 ≤ a ∧ a ≤ 8
  · rw [show (decide (1 ≤ a) && decide (a ≤ 8)) = true by simp; omega]
    simp only [if_true]
    by_cases h2 : (l.length : Int) = a
    · have h3 : 0 ≤ a := by omega
      simp only [if_pos h2, if_pos h3]
      refine EvB.bind (allWithin_f l 0 _ hl) ?_
      cases h4 : within 0 (wrap64 (shl .i64 1 a - 1)) l with
      | false => exact no (by simp [h4]) (hj l)
      | true =>
        obtain ⟨n, ns, rfl, rfl, hs⟩ := (sets_iff a l).1 ⟨h1, h2, h4⟩
        refine EvB.step (fun k => by rw [impl_areNear.j0]) ?_
        simp only [Bool.not_true, Bool.false_eq_true, if_false, h2]
        refine (near_l0 hs).congr ⟨fun h => ⟨n, ns, rfl, rfl, hs, h⟩, ?_⟩
        rintro ⟨n', ns', e1, e2, h⟩
        obtain rfl : n = n' := by omega
        obtain rfl : ns = ns' := by
          have := congrArg (List.map Int.toNat) e2
          simpa [ints, Function.comp_def] using this
        exact h.2
    · simp only [if_neg h2]
      exact no (fun h => h2 h.2.1) (hj l)
  · rw [show (decide (1 ≤ a) && decide (a ≤ 8)) = false by simp; omega]
    exact no (fun h => h1 h.1) (by simpa using hj l)
theorem ints_inj {ns ms : List Nat} (h : ints ns = ints ms) : ns = ms := by
  have := congrArg (List.map Int.toNat) h
  simpa [ints, Function.comp_def] using this
theorem tour_l1 {n : Nat} {ns : List Nat} (h : Sets n ns) (i : Nat) (hi : i < n) (R : Prop) (hR : EvB (fun k => impl_IsTournament.l0 k (ints ns) n ((i + 1 : Nat) : Int) n (ints ns)) R) :
    EvB (fun k => impl_IsTournament.l1 k i ((ns.getD i 0 : Nat) : Int) (ints ns) n i i ((0 : Nat) : Int) n (ints ns)) ((∀ j, j < i → nb ns i j ≠ nb ns j i) ∧ R) := by
  have hl := h.len
  have hn := h.n8
  refine allLoop0 (fun j k => impl_IsTournament.l1 k i ((ns.getD i 0 : Nat) : Int) (ints ns) n i i (j : Int) n (ints ns)) i (fun j => nb ns i j ≠ nb ns j i) R ?_ ?_
  · refine EvB.step (fun k => ?_) hR
    rw [impl_IsTournament.l1, if_neg (by omega), wrap_nat i (by omega)]
  · intro j hj R hR
    refine EvB.step (f := fun k => if nb ns i j ≠ nb ns j i then impl_IsTournament.l1 k i ((ns.getD i 0 : Nat) : Int) (ints ns) n i i ((j + 1 : Nat) : Int) n (ints ns) else some false) (fun k => ?_) (EvB.and fun _ => hR)
    rw [impl_IsTournament.l1, if_pos (by omega), has_nb h i, Option.bind_some, if_pos (by omega), if_pos (by rw [ints_length]; omega), rd_ints, has_nb h j, Option.bind_some, wrap_nat j (by omega)]
    by_cases e : nb ns i j = nb ns j i
    · rw [if_pos (by simpa using e), if_neg (by simpa using e)]
    · rw [if_neg (by simpa using e), if_pos e]
theorem tour_l0 {n : Nat} {ns : List Nat} (h : Sets n ns) : EvB (fun k => impl_IsTournament.l0 k (ints ns) n ((0 : Nat) : Int) n (ints ns)) (∀ i, i < n → ∀ j, j < i → nb ns i j ≠ nb ns j i) := by
  have hl := h.len
  have hn := h.n8
  refine (allLoop0 (fun j k => impl_IsTournament.l0 k (ints ns) n (j : Int) n (ints ns)) n (fun i => ∀ j, j < i → nb ns i j ≠ nb ns j i) True ?_ ?_).congr (by simp)
  · exact EvB.step (fun k => by rw [impl_IsTournament.l0, if_neg (by omega)]) EvB.true_
  · intro i hi R hR
    refine EvB.step (fun k => ?_) (tour_l1 h i hi R hR)
    rw [impl_IsTournament.l0, if_pos (by omega), if_pos (by omega), if_pos (by rw [ints_length]; omega), rd_ints]
    rfl
def IsTour (a : Int) (l : List Int) : Prop := ∃ n ns, a = ((n : Nat) : Int) ∧ l = ints ns ∧ Tour n ns
theorem IsTournament_f (a : Int) (l : List Int) (hl : l.length ≤ BM) : EvB (fun k => impl_IsTournament.f k a l) (IsTour a l) := by
  unfold impl_IsTournament.f
  obtain ⟨b, hb, hbb⟩ := (areNear_f a l hl).ev
  refine EvB.bind hb ?_
  cases b with
  | false => exact ⟨fun ⟨n, ns, e1, e2, h⟩ => absurd (hbb.2 ⟨n, ns, e1, e2, h.1⟩) (by simp), fun _ => by simpa using Ev.now false⟩
  | true =>
    obtain ⟨n, ns, rfl, rfl, hn⟩ := hbb.1 rfl
    simp only [if_true, ints_length, hn.1.len]
    refine (tour_l0 hn.1).congr ⟨fun h => ⟨n, ns, rfl, rfl, hn, h⟩, ?_⟩
    rintro ⟨n', ns', e1, e2, h⟩
    obtain rfl : n = n' := by omega
    obtain rfl := ints_inj e2
    exact h.2
theorem sgood_l1 {n : Nat} {ns : List Nat} (h : Sets n ns) (i : Nat) (hi : i < n) (R : Prop) (hR : EvB (fun k => spec_scGood.l0 k (ints ns) n ((i + 1 : Nat) : Int) n (ints ns)) R) :
    EvB (fun k => spec_scGood.l1 k i ((ns.getD i 0 : Nat) : Int) (ints ns) n i (ints ns) n ((0 : Nat) : Int) n (ints ns)) ((∀ j, j < n → if i = j then nb ns i j = false else nb ns i j ≠ nb ns j i) ∧ R) := by
  have hl := h.len
  have hn := h.n8
  refine allLoop0 (fun j k => spec_scGood.l1 k i ((ns.getD i 0 : Nat) : Int) (ints ns) n i (ints ns) n (j : Int) n (ints ns)) n (fun j => if i = j then nb ns i j = false else nb ns i j ≠ nb ns j i) R ?_ ?_
  · refine EvB.step (fun k => ?_) hR
    rw [spec_scGood.l1, if_neg (by omega), wrap_nat i (by omega)]
  · intro j hj R hR
    by_cases hij : i = j
    · subst hij
      refine EvB.step (f := fun k => if nb ns i i = false then spec_scGood.l1 k i ((ns.getD i 0 : Nat) : Int) (ints ns) n i (ints ns) n ((i + 1 : Nat) : Int) n (ints ns) else some false) (fun k => ?_) ((EvB.and fun _ => hR).congr (by simp))
      rw [spec_scGood.l1, if_pos (by omega), if_pos (by omega), if_pos (by rw [ints_length]; omega), if_pos rfl, deHas_nb h i, Option.bind_some, wrap_nat i (by omega)]
      cases nb ns i i <;> rfl
    · refine EvB.step (f := fun k => if nb ns i j ≠ nb ns j i then spec_scGood.l1 k i ((ns.getD i 0 : Nat) : Int) (ints ns) n i (ints ns) n ((j + 1 : Nat) : Int) n (ints ns) else some false) (fun k => ?_) ((EvB.and fun _ => hR).congr (by simp [hij]))
      rw [spec_scGood.l1, if_pos (by omega), if_pos (by omega), if_pos (by rw [ints_length]; omega), if_neg (by omega), deHas_nb h i, Option.bind_some, rd_ints, deHas_nb h j, Option.bind_some, wrap_nat j (by omega)]
      by_cases e : nb ns i j = nb ns j i
      · rw [if_pos (by simpa using e), if_neg (by simpa using e)]
      · rw [if_neg (by simpa using e), if_pos e]
theorem sgood_l0 {n : Nat} {ns : List Nat} (h : Sets n ns) : EvB (fun k => spec_scGood.l0 k (ints ns) n ((0 : Nat) : Int) n (ints ns)) (∀ i, i < n → ∀ j, j < n → if i = j then nb ns i j = false else nb ns i j ≠ nb ns j i) := by
  have hl := h.len
  have hn := h.n8
  refine (allLoop0 (fun j k => spec_scGood.l0 k (ints ns) n (j : Int) n (ints ns)) n (fun i => ∀ j, j < n → if i = j then nb ns i j = false else nb ns i j ≠ nb ns j i) True ?_ ?_).congr (by simp)
  · exact EvB.step (fun k => by rw [spec_scGood.l0, if_neg (by omega)]) EvB.true_
  · intro i hi R hR
    refine EvB.step (fun k => ?_) (sgood_l1 h i hi R hR)
    rw [spec_scGood.l0, if_pos (by omega), if_pos (by omega), if_pos (by rw [ints_length]; omega), rd_ints, ints_length, hl]
    rfl
theorem tour_iff {n : Nat} {ns : List Nat} (h : Sets n ns) : (∀ i, i < n → ∀ j, j < n → if i = j then nb ns i j = false else nb ns i j ≠ nb ns j i) ↔ Tour n ns := by
  constructor
  · intro g
    refine ⟨⟨h, fun i hi => by simpa using g i hi i hi⟩, fun i hi j hj => ?_⟩
    have := g i hi j (by omega)
    rwa [if_neg (by omega)] at this
  · intro g i hi j hj
    by_cases e : i = j
    · subst e; simpa using g.1.2 i hi
    · rw [if_neg e]
      by_cases c : j < i
      · exact g.2 i hi j c
      · exact fun q => g.2 j hj i (by omega) q.symm
theorem scGood_f (a : Int) (l : List Int) (hl : l.length ≤ BM) : EvB (fun k => spec_scGood.f k a l) (IsTour a l) := by
  have hj : ∀ a l, Ev (fun k => spec_scGood.j0 k true a l) false := fun a l => Ev.step (fun k => by rw [spec_scGood.j0]) (by simpa using Ev.now _)
  have no : ∀ {g : Nat → Option Bool}, ¬ ((1 ≤ a ∧ a ≤ 8) ∧ (l.length : Int) = a ∧ within 0 (wrap64 (shl .i64 1 a - 1)) l = true) → Ev g false → EvB g (IsTour a l) := by
    intro g h1 h2
    exact ⟨fun ⟨n, ns, e1, e2, h⟩ => absurd ((sets_iff a l).2 ⟨n, ns, e1, e2, h.1.1⟩) h1, fun _ => h2⟩
  unfold spec_scGood.f
  simp only [l1In_f, Option.bind_some]
  by_cases h1 : 1 ≤ a ∧ a ≤ 8
  · rw [show (decide (1 ≤ a) && decide (a ≤ 8)) = true by simp; omega]
    simp only [if_true]
    by_cases h2 : (l.length : Int) = a
    · have h3 : 0 ≤ a := by omega
      simp only [if_pos h2, if_pos h3]
      refine EvB.bind (l1All_f l 0 _ hl) ?_
      cases h4 : within 0 (wrap64 (shl .i64 1 a - 1)) l with
      | false => exact no (by simp [h4]) (hj a l)
      | true =>
        obtain ⟨n, ns, rfl, rfl, hs⟩ := (sets_iff a l).1 ⟨h1, h2, h4⟩
        refine EvB.step (fun k => by rw [spec_scGood.j0]) ?_
        simp only [Bool.not_true, Bool.false_eq_true, if_false, h2]
        refine (sgood_l0 hs).congr ⟨fun h => ⟨n, ns, rfl, rfl, (tour_iff hs).1 h⟩, ?_⟩
        rintro ⟨n', ns', e1, e2, h⟩
        obtain rfl : n = n' := by omega
        obtain rfl := ints_inj e2
        exact (tour_iff hs).2 h
    · simp only [if_neg h2]
      exact no (fun h => h2 h.2.1) (hj a l)
  · rw [show (decide (1 ≤ a) && decide (a ≤ 8)) = false by simp; omega]
    exact no (fun h => h1 h.1) (by simpa using hj a l)
end Go.Proofs.Ytfmpbflbkochgaa.K
namespace Go.Proofs.Ytfmpbflbkochgaa.K
open Go.RowKit Go.Proofs.YtfmpbflbkochgaaW.PrintWords Go.Proofs.Ytfmpbflbkochgaa.P
theorem toIntS_l0 : ∀ (rest done : List Int) , (done ++ rest).length ≤ BM → Ev (fun k => laws_toIntS.l0 k (done ++ rest) (done ++ List.replicate rest.length 0) done.length) (done ++ rest) := by
  intro rest
  induction rest with
  | nil => intro done h; exact Ev.step (fun k => by simp [laws_toIntS.l0]; rfl) (Ev.some (by simp))
  | cons x rest ih =>
    intro done h
    have ih' := ih (done ++ [x])
    obtain ⟨h1, h2, h3, h4, h5⟩ := mid x done rest h
    rw [h5] at ih'
    refine Ev.step (fun k => by rw [laws_toIntS.l0]) ?_
    have h6 : (done.length : Int) < ((done ++ List.replicate (x :: rest).length (0:Int)).length : Int) := by simp; omega
    simp only [if_pos h1, if_pos h2, if_pos h6, h3, h4]
    rw [List.length_cons, List.replicate_succ, set_mid]
    exact ih' h
theorem toIntS_f (l : List Int) (h : l.length ≤ BM) : Ev (fun k => laws_toIntS.f k l) l := by
  unfold laws_toIntS.f
  simp only [BM] at h
  have e1 : 0 ≤ (l.length : Int) := by omega
  have e2 : (l.length : Int).toNat ≤ 35184372088832 := by omega
  simp only [if_pos e1, if_pos e2]
  exact toIntS_l0 l [] h
theorem eqIntS_l0 : ∀ (rest done rest2 done2 : List Int), done.length = done2.length → rest.length = rest2.length → (done ++ rest).length ≤ BM → Ev (fun k => laws_eqIntS.l0 k (done ++ rest) (done2 ++ rest2) done.length) (decide (rest = rest2)) := by
  intro rest
  induction rest with
  | nil =>
    intro done rest2 done2 hl hl2 h
    obtain rfl : rest2 = [] := by simpa using hl2.symm
    exact Ev.step (fun k => by simp [laws_eqIntS.l0]; rfl) (Ev.some (by simp))
  | cons x rest ih =>
    intro done rest2 done2 hl hl2 h
    obtain ⟨y, rest2, rfl⟩ : ∃ y r, rest2 = y :: r := by cases rest2 with | nil => simp at hl2 | cons y r => exact ⟨y, r, rfl⟩
    have ih' := ih (done ++ [x]) rest2 (done2 ++ [y]) (by simp [hl]) (by simpa using hl2)
    obtain ⟨h1, h2, h3, h4, h5⟩ := mid x done rest h
    have hh : (done2 ++ y :: rest2).length ≤ BM := by simp at h hl2 ⊢; omega
    obtain ⟨g1, g2, g3, g4, g5⟩ := mid y done2 rest2 hh
    rw [h5, g5] at ih'
    refine Ev.step (fun k => by rw [laws_eqIntS.l0]) ?_
    rw [← hl] at g1 g3
    simp only [if_pos h1, if_pos h2, if_pos g1, h3, h4, g3]
    refine Ev.ite (fun e => ?_) (fun e => ?_)
    · subst e; simpa using ih' h
    · exact Ev.some (by simp [e])
theorem eqIntS_f (l m : List Int) (h : l.length ≤ BM) : Ev (fun k => laws_eqIntS.f k l m) (decide (l = m)) := by
  unfold laws_eqIntS.f
  refine Ev.ite (fun e => ?_) (fun e => ?_)
  · exact eqIntS_l0 l [] m [] rfl (by omega) h
  · exact Ev.some (by symm; simp; rintro rfl; exact e rfl)
theorem eqIntS_same (l : List Int) (h : l.length ≤ BM) : Ev (fun k => laws_eqIntS.f k l l) true := by simpa using eqIntS_f l l h
theorem szIntS_f (l : List Int) (a : Int) (hl : l.length ≤ maxLen) (h0 : 0 ≤ a) (h1 : a ≤ 1048576) : ∃ r, laws_szIntS.f l a = some r ∧ (0 ≤ r → l.length ≤ a ∧ r ≤ a) := by
  unfold maxLen at hl
  have e : wrap64 (a - (l.length : Int)) = a - l.length := by unfold wrap64; omega
  unfold laws_szIntS.f
  rw [e]
  by_cases h : a - (l.length : Int) < 0
  · rw [if_pos h]; exact ⟨-1, rfl, by omega⟩
  · rw [if_neg h]; exact ⟨_, rfl, by omega⟩
theorem szTournament_f (n : Int) (l : List Int) (hl : l.length ≤ maxLen) : ∃ r, laws_szTournament.f n l 1048576 = some r ∧ (0 ≤ r → l.length ≤ 1048576) := by
  obtain ⟨r, h1, h2⟩ := szIntS_f l 1048576 hl (by omega) (by omega)
  unfold laws_szTournament.f
  rw [h1, Option.bind_some]
  by_cases h : r < 0
  · rw [if_pos h]; exact ⟨-1, rfl, by omega⟩
  · rw [if_neg h]; exact ⟨r, rfl, fun h => by have := (h2 h).1; omega⟩
theorem toTournament_f (n : Int) (l : List Int) (h : l.length ≤ BM) : Ev (fun k => laws_toTournament.f k n l) (n, l) := by
  unfold laws_toTournament.f
  exact Ev.bind (toIntS_f l h) (Ev.now _)
theorem eqTournament_same (n : Int) (l : List Int) (h : l.length ≤ BM) : Ev (fun k => laws_eqTournament.f k n l n l) true := by
  unfold laws_eqTournament.f
  simp only [if_true]
  exact Ev.bind (eqIntS_same l h) (by simpa using Ev.now true)
def seqFrom (a : Int) : Nat → List Int
  | 0 => []
  | n + 1 => a :: seqFrom (a + 1) n
theorem seqFrom_length (a : Int) (n : Nat) : (seqFrom a n).length = n := by
  induction n generalizing a with
  | zero => rfl
  | succ n ih => simp [seqFrom, ih]
theorem markIntS_l0 : ∀ (rest done : List Int) (b : Int), (done ++ rest).length ≤ BM → 0 ≤ b → b + rest.length ≤ 4611686018427387904 → Ev (fun k => laws_markIntS.l0 k (done ++ rest) b done.length) (b + rest.length, done ++ seqFrom b rest.length) := by
  intro rest
  induction rest with
  | nil => intro done b h _ _; exact Ev.step (fun k => by simp [laws_markIntS.l0]; rfl) (Ev.some (by simp [seqFrom]))
  | cons x rest ih =>
    intro done b h hb0 hb
    obtain ⟨h1, h2, h3, h4, h5⟩ := mid x done rest h
    have ih' := ih (done ++ [b]) (b + 1) (by simpa using h) (by omega) (by simp at hb; omega)
    refine Ev.step (fun k => by rw [laws_markIntS.l0]) ?_
    have h6 : wrap64 (b + 1) = b + 1 := wrap_id (by omega) (by simp at hb; omega)
    simp only [if_pos h1, if_pos h2, h4, h6, set_mid]
    refine Ev.pair ?_ (show (b + 1 + (rest.length : Int), done ++ [b] ++ seqFrom (b + 1) rest.length) = _ by simp [seqFrom]; omega)
    simpa using ih'
theorem markIntS_f (l : List Int) (a : Int) (h : l.length ≤ BM) (h0 : 0 ≤ a) (ha : a + l.length ≤ 4611686018427387904) : Ev (fun k => laws_markIntS.f k l a) (a + l.length, seqFrom a l.length) := markIntS_l0 l [] a h h0 ha
theorem heldIntS_l0 : ∀ (n : Nat) (done : List Int) (b : Int), (done ++ seqFrom b n).length ≤ BM → 0 ≤ b → b + n ≤ 4611686018427387904 → Ev (fun k => laws_heldIntS.l0 k (done ++ seqFrom b n) b done.length) (b + n) := by
  intro n
  induction n with
  | zero => intro done b h _ _; exact Ev.step (fun k => by simp [laws_heldIntS.l0, seqFrom]; rfl) (Ev.some (by simp))
  | succ n ih =>
    intro done b h hb0 hb
    simp only [seqFrom] at h ⊢
    obtain ⟨h1, h2, h3, h4, h5⟩ := mid b done (seqFrom (b + 1) n) h
    have ih' := ih (done ++ [b]) (b + 1) (by simpa using h) (by omega) (by omega)
    rw [h5] at ih'
    refine Ev.step (fun k => by rw [laws_heldIntS.l0]) ?_
    have h6 : wrap64 (b + 1) = b + 1 := wrap_id (by omega) (by omega)
    simp only [if_pos h1, if_pos h2, h3, h4, h6, if_true]
    exact Ev.pair ih' (by omega)
theorem heldIntS_f (a : Int) (n : Nat) (h : n ≤ BM) (h0 : 0 ≤ a) (ha : a + n ≤ 4611686018427387904) : Ev (fun k => laws_heldIntS.f k (seqFrom a n) a) (a + n) := heldIntS_l0 n [] a (by simpa [seqFrom_length] using h) h0 ha
theorem markTournament_f (n : Int) (l : List Int) (a : Int) (h : l.length ≤ BM) (h0 : 0 ≤ a) (ha : a + l.length ≤ 4611686018427387904) : Ev (fun k => laws_markTournament.f k n l a) (a + l.length, seqFrom a l.length) := by
  unfold laws_markTournament.f
  exact Ev.bind (markIntS_f l a h h0 ha) (Ev.now _)
end Go.Proofs.Ytfmpbflbkochgaa.K
namespace Go.Proofs.Ytfmpbflbkochgaa.M
inductive Way (r : Nat → Nat → Bool) : Nat → Nat → Prop
  | refl (i : Nat) : Way r i i
  | tail {i j k : Nat} : Way r i j → r j k = true → Way r i k
theorem Way.trans {r : Nat → Nat → Bool} {i j k : Nat} (h : Way r i j) (g : Way r j k) : Way r i k := by
  induction g with
  | refl => exact h
  | tail _ hr ih => exact Way.tail ih hr
def bt (m : List Nat) (i j : Nat) : Bool := (m.getD i 0).testBit j
theorem bt_len {m : List Nat} {i j : Nat} (h : m.length ≤ i) : bt m i j = false := by
  unfold bt
  rw [List.getD_eq_getElem?_getD, List.getElem?_eq_none h]
  simp
def pivF (p : Nat) (k : Nat) (s : Nat) : Nat := if s.testBit k then s ||| p else s
def piv (m : List Nat) (k : Nat) : List Nat := m.map (pivF (m.getD k 0) k)
theorem piv_length (m : List Nat) (k : Nat) : (piv m k).length = m.length := by simp [piv]
theorem bt_piv (m : List Nat) (k i j : Nat) : bt (piv m k) i j = (bt m i j || (bt m i k && bt m k j)) := by
  unfold bt piv
  simp only [List.getD_eq_getElem?_getD, List.getElem?_map]
  cases h : m[i]? with
  | none => simp
  | some s =>
    simp only [Option.map_some, Option.getD_some, pivF]
    by_cases hk : s.testBit k
    · rw [if_pos hk, Nat.testBit_or, hk]; simp
    · simp [hk]
structure Inv (r : Nat → Nat → Bool) (n : Nat) (k : Nat) (m : List Nat) : Prop where
  len : m.length = n
  sound : ∀ i j, bt m i j = true → Way r i j
  self : ∀ i, i < n → bt m i i = true
  has : ∀ i j, i < n → r i j = true → bt m i j = true
  trans : ∀ p, p < k → ∀ i j, bt m i p = true → bt m p j = true → bt m i j = true
theorem Inv.step {r : Nat → Nat → Bool} {n k : Nat} {m : List Nat} (h : Inv r n k m) : Inv r n (k + 1) (piv m k) where
  len := by rw [piv_length, h.len]
  sound := fun i j hb => by
    rw [bt_piv] at hb
    simp only [Bool.or_eq_true, Bool.and_eq_true] at hb
    rcases hb with hb | ⟨h1, h2⟩
    · exact h.sound i j hb
    · exact (h.sound i k h1).trans (h.sound k j h2)
  self := fun i hi => by rw [bt_piv, h.self i hi]; rfl
  has := fun i j hi hr => by rw [bt_piv, h.has i j hi hr]; rfl
  trans := fun p hp i j h1 h2 => by
    rw [bt_piv] at h1 h2 ⊢
    simp only [Bool.or_eq_true, Bool.and_eq_true] at h1 h2 ⊢
    by_cases e : p = k
    · subst e
      have a : bt m i p = true := by
        rcases h1 with h1 | h1
        · exact h1
        · exact h1.1
      have b : bt m p j = true := by
        rcases h2 with h2 | h2
        · exact h2
        · exact h2.2
      exact Or.inr ⟨a, b⟩
    · have hp' : p < k := by omega
      rcases h1 with h1 | ⟨h1, h3⟩ <;> rcases h2 with h2 | ⟨h2, h4⟩
      · exact Or.inl (h.trans p hp' i j h1 h2)
      · exact Or.inr ⟨h.trans p hp' i k h1 h2, h4⟩
      · exact Or.inr ⟨h1, h.trans p hp' k j h3 h2⟩
      · exact Or.inr ⟨h1, h4⟩
def startM (ns : List Nat) : List Nat := (List.range ns.length).map (fun i => ns.getD i 0 ||| 2 ^ i)
theorem bt_start (ns : List Nat) (i j : Nat) (hi : i < ns.length) : bt (startM ns) i j = (bt ns i j || decide (i = j)) := by
  unfold bt startM
  simp only [List.getD_eq_getElem?_getD, List.getElem?_map, List.getElem?_range hi, Option.map_some, Option.getD_some, Nat.testBit_or, Nat.testBit_two_pow]
theorem start_inv (ns : List Nat) : Inv (bt ns) ns.length 0 (startM ns) where
  len := by simp [startM]
  sound := fun i j hb => by
    by_cases hi : i < ns.length
    · rw [bt_start ns i j hi, Bool.or_eq_true, decide_eq_true_eq] at hb
      rcases hb with hb | rfl
      · exact Way.tail (Way.refl i) hb
      · exact Way.refl i
    · rw [bt_len (by simp [startM]; omega)] at hb; cases hb
  self := fun i hi => by rw [bt_start ns i i hi]; simp
  has := fun i j hi hr => by rw [bt_start ns i j hi, hr]; rfl
  trans := fun p hp => absurd hp (Nat.not_lt_zero _)
def warshall (ns : List Nat) : List Nat := (List.range ns.length).foldl piv (startM ns)
theorem foldl_inv {r : Nat → Nat → Bool} {n : Nat} : ∀ (d k : Nat) (m : List Nat), Inv r n k m → Inv r n (k + d) ((List.range' k d).foldl piv m)
  | 0, k, m, h => h
  | d + 1, k, m, h => by
    rw [List.range'_succ, List.foldl_cons, show k + (d + 1) = (k + 1) + d by omega]
    exact foldl_inv d (k + 1) (piv m k) h.step
theorem warshall_inv (ns : List Nat) : Inv (bt ns) ns.length ns.length (warshall ns) := by
  have := foldl_inv ns.length 0 _ (start_inv ns)
  rw [Nat.zero_add] at this
  unfold warshall
  rw [List.range_eq_range']
  exact this
theorem way_lt {ns : List Nat} (hlt : ∀ i j, bt ns i j = true → j < ns.length) {i j : Nat} (hi : i < ns.length) (h : Way (bt ns) i j) : j < ns.length := by
  cases h with
  | refl => exact hi
  | tail _ hr => exact hlt _ _ hr
theorem warshall_iff (ns : List Nat) (hlt : ∀ i j, bt ns i j = true → j < ns.length) (i j : Nat) (hi : i < ns.length) : bt (warshall ns) i j = true ↔ Way (bt ns) i j := by
  have hv := warshall_inv ns
  refine ⟨hv.sound i j, fun h => ?_⟩
  induction h with
  | refl => exact hv.self i hi
  | @tail j k hw hr ih =>
    have hj := way_lt hlt hi hw
    exact hv.trans j hj i k ih (hv.has j k hj hr)
def swF (ns : List Nat) (s j : Nat) : Nat := if s.testBit j then s ||| ns.getD j 0 else s
def sweep (ns : List Nat) (s : Nat) : Nat := (List.range ns.length).foldl (swF ns) s
theorem swF_keep (ns : List Nat) (s j x : Nat) (h : s.testBit x = true) : (swF ns s j).testBit x = true := by
  unfold swF
  split
  · rw [Nat.testBit_or, h]; rfl
  · exact h
theorem fold_keep (ns : List Nat) : ∀ (l : List Nat) (s x : Nat), s.testBit x = true → (l.foldl (swF ns) s).testBit x = true
  | [], s, x, h => h
  | j :: l, s, x, h => fold_keep ns l _ x (swF_keep ns s j x h)
theorem fold_add (ns : List Nat) : ∀ (l : List Nat) (s j k : Nat), j ∈ l → s.testBit j = true → bt ns j k = true → (l.foldl (swF ns) s).testBit k = true
  | [], s, j, k, h, _, _ => by cases h
  | i :: l, s, j, k, h, h1, h2 => by
    rw [List.foldl_cons]
    rcases List.mem_cons.1 h with rfl | h
    · apply fold_keep
      unfold swF
      rw [if_pos h1, Nat.testBit_or]
      unfold bt at h2
      rw [h2]; simp
    · exact fold_add ns l _ j k h (swF_keep ns s i j h1) h2
theorem fold_sound (ns : List Nat) (i : Nat) : ∀ (l : List Nat) (s : Nat), (∀ x, s.testBit x = true → Way (bt ns) i x) → ∀ x, (l.foldl (swF ns) s).testBit x = true → Way (bt ns) i x
  | [], s, h => h
  | j :: l, s, h => fold_sound ns i l _ (fun x hx => by
    unfold swF at hx
    split at hx
    · rename_i hj
      rw [Nat.testBit_or, Bool.or_eq_true] at hx
      rcases hx with hx | hx
      · exact h x hx
      · exact Way.tail (h j hj) hx
    · exact h x hx)
def Closed (ns : List Nat) (s : Nat) : Prop := ∀ j k, s.testBit j = true → bt ns j k = true → s.testBit k = true
theorem closed_fold {ns : List Nat} {s : Nat} (h : Closed ns s) : ∀ l : List Nat, l.foldl (swF ns) s = s
  | [] => rfl
  | j :: l => by
    have : swF ns s j = s := by
      unfold swF
      split
      · rename_i hj
        apply Nat.eq_of_testBit_eq
        intro x
        rw [Nat.testBit_or]
        cases hx : s.testBit x with
        | true => rfl
        | false =>
          rw [Bool.false_or, Bool.eq_false_iff]
          intro hb
          have := h j x hj hb
          rw [hx] at this; cases this
      · rfl
    rw [List.foldl_cons, this]
    exact closed_fold h l
def cnt (n s : Nat) : Nat := (List.range n).countP (fun i => s.testBit i)
theorem countP_le {α : Type} (p q : α → Bool) : ∀ l : List α, (∀ x ∈ l, p x = true → q x = true) → l.countP p ≤ l.countP q := fun l h => List.countP_mono_left h
theorem countP_lt {α : Type} (p q : α → Bool) : ∀ l : List α, (∀ x ∈ l, p x = true → q x = true) → ∀ y ∈ l, p y = false → q y = true → l.countP p < l.countP q
  | [], _, y, hy, _, _ => by cases hy
  | x :: l, h, y, hy, h1, h2 => by
    rcases List.mem_cons.1 hy with rfl | hy
    · rw [List.countP_cons_of_neg (by simp [h1]), List.countP_cons_of_pos (by simpa using h2)]
      have := countP_le p q l (fun z hz => h z (by simp [hz]))
      omega
    · have ih := countP_lt p q l (fun z hz => h z (by simp [hz])) y hy h1 h2
      have hx := h x (by simp)
      cases hp : p x with
      | true => rw [List.countP_cons_of_pos (by simpa using hp), List.countP_cons_of_pos (by simpa using hx hp)]; omega
      | false =>
        rw [List.countP_cons_of_neg (by simp [hp])]
        have : l.countP q ≤ (x :: l).countP q := by
          rw [List.countP_cons]; omega
        omega
def sweeps (ns : List Nat) : Nat → Nat → Nat
  | 0, s => s
  | k + 1, s => sweeps ns k (sweep ns s)
theorem sweeps_sound (ns : List Nat) (i : Nat) : ∀ (k s : Nat), (∀ x, s.testBit x = true → Way (bt ns) i x) → ∀ x, (sweeps ns k s).testBit x = true → Way (bt ns) i x
  | 0, s, h => h
  | k + 1, s, h => sweeps_sound ns i k _ (fold_sound ns i _ s h)
theorem sweeps_keep (ns : List Nat) : ∀ (k s x : Nat), s.testBit x = true → (sweeps ns k s).testBit x = true
  | 0, s, x, h => h
  | k + 1, s, x, h => sweeps_keep ns k _ x (fold_keep ns _ s x h)
theorem sweeps_closed {ns : List Nat} {s : Nat} (h : Closed ns s) : ∀ k, sweeps ns k s = s
  | 0 => rfl
  | k + 1 => by
    unfold sweeps
    have : sweep ns s = s := closed_fold h _
    rw [this]; exact sweeps_closed h k
theorem closed_or (ns : List Nat) (hlt : ∀ i j, bt ns i j = true → j < ns.length) : ∀ (k s c : Nat), (∀ x, s.testBit x = true → x < ns.length) → c ≤ cnt ns.length s → Closed ns (sweeps ns k s) ∨ c + k ≤ cnt ns.length (sweeps ns k s)
  | 0, s, c, _, h => Or.inr h
  | k + 1, s, c, hs, h => by
    by_cases hc : Closed ns s
    · left; rw [sweeps_closed hc]; exact hc
    · unfold Closed at hc
      have ⟨j, k', h1, h2, h3⟩ : ∃ j k, s.testBit j = true ∧ bt ns j k = true ∧ s.testBit k = false := by
        apply Classical.byContradiction
        intro hn
        apply hc
        intro j k h1 h2
        cases h3 : s.testBit k with
        | true => rfl
        | false => exact absurd ⟨j, k, h1, h2, h3⟩ hn
      have hk := hlt j k' h2
      have hj := hs j h1
      have hlt' : cnt ns.length s < cnt ns.length (sweep ns s) := countP_lt _ _ _ (fun x _ hx => fold_keep ns _ s x hx) k' (List.mem_range.2 hk) h3 (fold_add ns _ s j k' (List.mem_range.2 hj) h1 h2)
      have hs' : ∀ x, (sweep ns s).testBit x = true → x < ns.length := by
        intro x hx
        have : ∀ (l : List Nat) (s : Nat), (∀ x, s.testBit x = true → x < ns.length) → ∀ x, (l.foldl (swF ns) s).testBit x = true → x < ns.length := by
          intro l
          induction l with
          | nil => intro s h; exact h
          | cons j l ih =>
            intro s h
            rw [List.foldl_cons]
            refine ih _ (fun x hx => ?_)
            unfold swF at hx
            split at hx
            · rw [Nat.testBit_or, Bool.or_eq_true] at hx
              rcases hx with hx | hx
              · exact h x hx
              · exact hlt j x hx
            · exact h x hx
        exact this _ s hs x hx
      have := closed_or ns hlt k (sweep ns s) (c + 1) hs' (by omega)
      unfold sweeps
      rcases this with h | h
      · exact Or.inl h
      · exact Or.inr (by omega)
theorem cnt_le (n s : Nat) : cnt n s ≤ n := by
  have := List.countP_le_length (p := fun i => s.testBit i) (l := List.range n)
  simpa [cnt] using this
theorem sweeps_iff (ns : List Nat) (hlt : ∀ i j, bt ns i j = true → j < ns.length) (i : Nat) (hi : i < ns.length) (j : Nat) : (sweeps ns ns.length (2 ^ i)).testBit j = true ↔ Way (bt ns) i j := by
  have hs0 : ∀ x, (2 ^ i).testBit x = true → x = i := fun x hx => by rw [Nat.testBit_two_pow, decide_eq_true_eq] at hx; exact hx.symm
  constructor
  · exact sweeps_sound ns i _ _ (fun x hx => by rw [hs0 x hx]; exact Way.refl i) j
  · have h1 : 1 ≤ cnt ns.length (2 ^ i) := by
      unfold cnt
      exact List.countP_pos_iff.2 ⟨i, List.mem_range.2 hi, by simp [Nat.testBit_two_pow]⟩
    have hc : Closed ns (sweeps ns ns.length (2 ^ i)) := by
      rcases closed_or ns hlt ns.length (2 ^ i) 1 (fun x hx => by rw [hs0 x hx]; exact hi) h1 with h | h
      · exact h
      · have := cnt_le ns.length (sweeps ns ns.length (2 ^ i)); omega
    intro h
    induction h with
    | refl => exact sweeps_keep ns _ _ i (by simp [Nat.testBit_two_pow])
    | @tail j k _ hr ih => exact hc j k ih hr
theorem reached_same (ns : List Nat) (hlt : ∀ i j, bt ns i j = true → j < ns.length) : warshall ns = (List.range ns.length).map (fun i => sweeps ns ns.length (2 ^ i)) := by
  apply List.ext_getElem
  · rw [(warshall_inv ns).len]; simp
  · intro i h1 h2
    have hi : i < ns.length := by rw [(warshall_inv ns).len] at h1; exact h1
    rw [List.getElem_map, List.getElem_range]
    apply Nat.eq_of_testBit_eq
    intro j
    have e : (warshall ns)[i].testBit j = bt (warshall ns) i j := by
      unfold bt; rw [List.getD_eq_getElem?_getD, List.getElem?_eq_getElem h1]; rfl
    rw [e, Bool.eq_iff_iff, warshall_iff ns hlt i j hi, sweeps_iff ns hlt i hi j]
end Go.Proofs.Ytfmpbflbkochgaa.M
namespace Go.Proofs.Ytfmpbflbkochgaa.M
open Go.Lib
theorem get_toArray (d : List Int) (i : Nat) (h : i < d.length) : d.toArray[i]! = d[i] := by
  rw [getElem!_pos _ _ (by simpa using h)]; simp
theorem compact_lt {d : List Int} (hd : d.Pairwise (fun a b => b ≤ a)) : (compact d).Pairwise (fun a b => b < a) := by
  unfold compact compactUpTo
  rw [List.pairwise_map]
  have h1 : ((List.range d.length).filter (keeps d.toArray)).Pairwise (· < ·) := List.Pairwise.filter _ List.pairwise_lt_range
  refine List.Pairwise.imp_of_mem ?_ h1
  intro i j hi hj hij
  rw [List.mem_filter, List.mem_range] at hi hj
  have hk := hj.2
  unfold keeps at hk
  simp only [decide_eq_true_eq] at hk
  have hj0 : j ≠ 0 := by omega
  rcases hk with hk | hk
  · omega
  · rw [get_toArray d j hj.1, get_toArray d (j - 1) (by omega)] at hk
    rw [get_toArray d i hi.1, get_toArray d j hj.1]
    rw [List.pairwise_iff_getElem] at hd
    have a := hd (j - 1) j (by omega) hj.1 (by omega)
    by_cases e : i = j - 1
    · subst e; omega
    · have b := hd i (j - 1) hi.1 (by omega) (by omega)
      omega
theorem compact_mem (d : List Int) (x : Int) : x ∈ compact d ↔ x ∈ d := by
  unfold compact compactUpTo
  rw [List.mem_map]
  constructor
  · rintro ⟨i, hi, rfl⟩
    rw [List.mem_filter, List.mem_range] at hi
    rw [get_toArray d i hi.1]
    exact List.getElem_mem _
  · intro h
    obtain ⟨i, hi, rfl⟩ := List.getElem_of_mem h
    have : ∀ i, (hi : i < d.length) → ∃ a, a ∈ (List.range d.length).filter (keeps d.toArray) ∧ d.toArray[a]! = d[i] := by
      intro i
      induction i with
      | zero => intro hi; exact ⟨0, by rw [List.mem_filter, List.mem_range]; exact ⟨hi, by simp [keeps]⟩, get_toArray d 0 hi⟩
      | succ i ih =>
        intro hi
        by_cases e : d[i + 1] = d[i]
        · obtain ⟨a, h1, h2⟩ := ih (by omega)
          exact ⟨a, h1, by rw [h2, e]⟩
        · refine ⟨i + 1, ?_, get_toArray d _ hi⟩
          rw [List.mem_filter, List.mem_range]
          refine ⟨hi, ?_⟩
          unfold keeps
          simp only [decide_eq_true_eq, Nat.add_sub_cancel]
          right
          rw [get_toArray d _ hi, get_toArray d i (by omega)]
          exact e
    exact this i hi
theorem idxFrom_desc (x : Int) : ∀ (D : List Int) (i : Nat), D.Pairwise (fun a b => b < a) → x ∈ D → idxFrom D x i = ((i + (D.filter (fun y => decide (x < y))).length : Nat) : Int)
  | [], i, _, h => by cases h
  | z :: zs, i, hp, h => by
    rw [List.pairwise_cons] at hp
    by_cases e : z = x
    · subst e
      have : (z :: zs).filter (fun y => decide (z < y)) = [] := by
        rw [List.filter_eq_nil_iff]
        intro y hy
        rcases List.mem_cons.1 hy with rfl | hy
        · simp
        · have := hp.1 y hy; simp; omega
      rw [this]; simp [idxFrom]
    · have hx : x ∈ zs := by
        rcases List.mem_cons.1 h with rfl | h
        · exact absurd rfl e
        · exact h
      have hz := hp.1 x hx
      rw [List.filter_cons_of_pos (by simpa using hz)]
      unfold idxFrom
      rw [if_neg e, idxFrom_desc x zs (i + 1) hp.2 hx]
      simp only [List.length_cons]
      omega
def putI (y : Int) : List Int → List Int
  | [] => [y]
  | z :: l => if z < y then z :: putI y l else if z = y then z :: l else y :: z :: l
theorem putI_mem (y x : Int) : ∀ l : List Int, x ∈ putI y l ↔ x = y ∨ x ∈ l
  | [] => by simp [putI]
  | z :: l => by
    unfold putI
    split
    · rw [List.mem_cons, putI_mem y x l, List.mem_cons]
      constructor
      · rintro (h | h | h) <;> simp [h]
      · rintro (h | h | h) <;> simp [h]
    · split
      · rename_i h; subst h; simp
      · simp
theorem putI_rise (y : Int) : ∀ l : List Int, l.Pairwise (· < ·) → (putI y l).Pairwise (· < ·)
  | [], _ => by simp [putI]
  | z :: l, h => by
    rw [List.pairwise_cons] at h
    unfold putI
    split
    · rename_i hz
      rw [List.pairwise_cons]
      refine ⟨fun x hx => ?_, putI_rise y l h.2⟩
      rcases (putI_mem y x l).1 hx with rfl | hx
      · exact hz
      · exact h.1 x hx
    · split
      · rw [List.pairwise_cons]; exact h
      · rw [List.pairwise_cons, List.pairwise_cons]
        refine ⟨fun x hx => ?_, h⟩
        rcases List.mem_cons.1 hx with rfl | hx
        · omega
        · have := h.1 x hx; omega
theorem putI_length (y : Int) : ∀ l : List Int, (putI y l).length ≤ l.length + 1
  | [] => by simp [putI]
  | z :: l => by
    unfold putI
    have := putI_length y l
    split
    · simp; omega
    · split
      · simp
      · simp
def great (x : Int) (l g : List Int) : List Int := l.foldl (fun g y => if x < y then putI y g else g) g
theorem great_mem (x y : Int) : ∀ (l g : List Int), y ∈ great x l g ↔ y ∈ g ∨ (y ∈ l ∧ x < y)
  | [], g => by simp [great]
  | z :: l, g => by
    have ih := great_mem x y l (if x < z then putI z g else g)
    unfold great at ih ⊢
    rw [List.foldl_cons, ih]
    by_cases h : x < z
    · rw [if_pos h, putI_mem]
      constructor
      · rintro ((rfl | h1) | h1)
        · exact Or.inr ⟨by simp, h⟩
        · exact Or.inl h1
        · exact Or.inr ⟨by simp [h1.1], h1.2⟩
      · rintro (h1 | ⟨h1, h2⟩)
        · exact Or.inl (Or.inr h1)
        · rcases List.mem_cons.1 h1 with rfl | h1
          · exact Or.inl (Or.inl rfl)
          · exact Or.inr ⟨h1, h2⟩
    · rw [if_neg h]
      constructor
      · rintro (h1 | h1)
        · exact Or.inl h1
        · exact Or.inr ⟨by simp [h1.1], h1.2⟩
      · rintro (h1 | ⟨h1, h2⟩)
        · exact Or.inl h1
        · rcases List.mem_cons.1 h1 with rfl | h1
          · exact absurd h2 h
          · exact Or.inr ⟨h1, h2⟩
theorem great_rise (x : Int) : ∀ (l g : List Int), g.Pairwise (· < ·) → (great x l g).Pairwise (· < ·)
  | [], g, h => h
  | z :: l, g, h => by
    have ih := great_rise x l (if x < z then putI z g else g)
    unfold great at ih ⊢
    rw [List.foldl_cons]
    apply ih
    split
    · exact putI_rise z g h
    · exact h
theorem nodup_lt {l : List Int} (h : l.Pairwise (· < ·)) : l.Nodup := List.Pairwise.imp (fun h => by omega) h
theorem nodup_gt {l : List Int} (h : l.Pairwise (fun a b => b < a)) : l.Nodup := List.Pairwise.imp (fun h => by omega) h
theorem idx_great (l r : List Int) (hr : r.Pairwise (fun a b => b ≤ a)) (hm : ∀ y, y ∈ r ↔ y ∈ l) (x : Int) (hx : x ∈ l) : idxOf (compact r) x = ((great x l []).length : Int) := by
  have hc := compact_lt hr
  have h1 := idxFrom_desc x (compact r) 0 hc ((compact_mem r x).2 ((hm x).2 hx))
  unfold idxOf
  rw [h1, Nat.zero_add]
  congr 1
  refine List.Perm.length_eq ((List.perm_ext_iff_of_nodup (nodup_gt (List.Pairwise.filter _ hc)) (nodup_lt (great_rise x l [] List.Pairwise.nil))).2 (fun y => ?_))
  rw [List.mem_filter, compact_mem, hm, great_mem]
  simp
end Go.Proofs.Ytfmpbflbkochgaa.M
namespace Go.Proofs.Ytfmpbflbkochgaa.K
open Go.RowKit Go.Proofs.YtfmpbflbkochgaaW.PrintWords Go.Proofs.Ytfmpbflbkochgaa.P
def pop (a : Nat) : Nat := (List.range 8).countP (fun i => a.testBit i)
theorem pop_ones : (List.range 256).all (fun a => bits_OnesCount.f (IntKind.u64.wrap (a : Int)) == some ((pop a : Nat) : Int) && spec_deMany.f 10 (a : Int) == some ((pop a : Nat) : Int)) = true := by decide +kernel
theorem onesCount_f (a : Nat) (h : a < 256) : bits_OnesCount.f (IntKind.u64.wrap (a : Int)) = some ((pop a : Nat) : Int) := by
  have := List.all_eq_true.1 pop_ones a (List.mem_range.2 h)
  simp only [Bool.and_eq_true, beq_iff_eq] at this
  exact this.1
theorem deMany_f (a : Nat) (h : a < 256) : Ev (fun k => spec_deMany.f k (a : Int)) ((pop a : Nat) : Int) := by
  have := List.all_eq_true.1 pop_ones a (List.mem_range.2 h)
  simp only [Bool.and_eq_true, beq_iff_eq] at this
  exact Ev.of (fun k => spec_deMany.mono _ k) this.2
theorem counts_l0 : ∀ (rest done : List Nat), (done ++ rest).length ≤ 1000 → (∀ x ∈ rest, x < 256) → Ev (fun k => impl_counts.l0 k (ints (done.map pop)) (ints (done ++ rest)) ((done ++ rest).length : Int) done.length) (ints ((done ++ rest).map pop)) := by
  intro rest
  induction rest with
  | nil => intro done h _; exact Ev.step (fun k => by rw [impl_counts.l0, if_neg (by simp)]) (Ev.some (by simp))
  | cons x rest ih =>
    intro done h hx
    have e : ints (done ++ x :: rest) = ints done ++ (x : Int) :: ints rest := by simp [ints]
    have hl : (ints done).length = done.length := ints_length _
    obtain ⟨h1, h2, h3, h4, h5⟩ := mid (x : Int) (ints done) (ints rest) (by simp [ints_length, BM] at h ⊢; omega)
    rw [← e, hl] at h3
    have ih' := ih (done ++ [x]) (by simpa using h) (fun y hy => hx y (by simp [hy]))
    rw [show done ++ [x] ++ rest = done ++ x :: rest by simp] at ih'
    have g1 : (done.length : Int) < ((done ++ x :: rest).length : Int) := by simp; omega
    refine Ev.step (fun k => ?_) ih'
    rw [impl_counts.l0, if_pos g1, if_pos (by omega), if_pos (by rw [ints_length]; exact g1), h3, onesCount_f x (hx x (by simp)), Option.bind_some, if_pos (by simp [ints_length] at h ⊢; omega), wrap_nat _ (by simp at h; omega)]
    simp [ints]
theorem counts_f (ns : List Nat) (h : ns.length ≤ 1000) (hx : ∀ x ∈ ns, x < 256) : Ev (fun k => impl_counts.f k (ints ns)) (ints (ns.map pop)) := by
  unfold impl_counts.f
  have := counts_l0 ns [] (by simpa using h) hx
  simpa [ints_length, ints] using this
end Go.Proofs.Ytfmpbflbkochgaa.K
namespace Go.Proofs.Ytfmpbflbkochgaa.K
open Go.RowKit Go.Proofs.YtfmpbflbkochgaaW.PrintWords Go.Proofs.YtfmpbflbkochgaaW.PrintMore Go.Proofs.Ytfmpbflbkochgaa.P Go.Proofs.Ytfmpbflbkochgaa.M
theorem bt_nb (ns : List Nat) (i j : Nat) : bt ns i j = nb ns i j := rfl
theorem Sets.bt_lt {n : Nat} {ns : List Nat} (h : Sets n ns) (i j : Nat) (hb : bt ns i j = true) : j < ns.length := by
  apply Classical.byContradiction
  intro hj
  have := h.nb_lt (i := i) (j := j) (by have := h.len; omega)
  rw [bt_nb, this] at hb; cases hb
theorem piv_lt {n : Nat} {m : List Nat} (h : ∀ x ∈ m, x < 2 ^ n) (k : Nat) : ∀ x ∈ piv m k, x < 2 ^ n := by
  intro x hx
  unfold piv at hx
  obtain ⟨y, hy, rfl⟩ := List.mem_map.1 hx
  unfold pivF
  split
  · refine Nat.or_lt_two_pow (h y hy) ?_
    rw [List.getD_eq_getElem?_getD]
    cases e : m[k]? with
    | none => exact Nat.two_pow_pos n
    | some z => exact h z (List.mem_of_getElem? e)
  · exact h y hy
theorem start_lt {n : Nat} {ns : List Nat} (h : Sets n ns) : ∀ x ∈ startM ns, x < 2 ^ n := by
  intro x hx
  unfold startM at hx
  obtain ⟨i, hi, rfl⟩ := List.mem_map.1 hx
  rw [List.mem_range, h.len] at hi
  exact Nat.or_lt_two_pow (h.get i) (Nat.pow_lt_pow_right (by decide) hi)
theorem lt62 {n x : Nat} (hn : n ≤ 8) (h : x < 2 ^ n) : x < 2 ^ 62 := Nat.lt_of_lt_of_le h (Nat.le_trans (pow8 hn) (by decide))
theorem getD_lt {n : Nat} {m : List Nat} (h : ∀ x ∈ m, x < 2 ^ n) (i : Nat) : m.getD i 0 < 2 ^ n := by
  rw [List.getD_eq_getElem?_getD]
  cases e : m[i]? with
  | none => exact Nat.two_pow_pos n
  | some z => exact h z (List.mem_of_getElem? e)
def half (m : List Nat) (k i : Nat) : List Nat := (piv m k).take i ++ m.drop i
theorem half_len {n : Nat} {m : List Nat} (hm : m.length = n) (k i : Nat) (hi : i ≤ n) : (half m k i).length = n := by
  unfold half; rw [List.length_append, List.length_take, List.length_drop, piv_length]; omega
theorem half_get {m : List Nat} (k i j : Nat) (hi : i ≤ m.length) : (half m k i).getD j 0 = if j < i then (piv m k).getD j 0 else m.getD j 0 := by
  unfold half
  simp only [List.getD_eq_getElem?_getD]
  have hl : ((piv m k).take i).length = i := by rw [List.length_take, piv_length]; omega
  by_cases h : j < i
  · rw [if_pos h, List.getElem?_append_left (by omega), List.getElem?_take_of_lt h]
  · rw [if_neg h, List.getElem?_append_right (by omega), List.getElem?_drop, hl]
    congr 2; omega
theorem piv_get (m : List Nat) (k j : Nat) : (piv m k).getD j 0 = pivF (m.getD k 0) k (m.getD j 0) := by
  unfold piv
  simp only [List.getD_eq_getElem?_getD, List.getElem?_map]
  cases m[j]? with
  | none => simp [pivF]
  | some s => rfl
theorem half_piv {m : List Nat} (k i : Nat) (hi : i ≤ m.length) : (half m k i).getD k 0 = m.getD k 0 := by
  rw [half_get k i k hi]
  split
  · rw [piv_get]; unfold pivF; split
    · exact Nat.or_self _
    · rfl
  · rfl
theorem half_set {m : List Nat} (k i : Nat) (hi : i < m.length) : (half m k i).set i (pivF (m.getD k 0) k (m.getD i 0)) = half m k (i + 1) := by
  apply List.ext_getElem?
  intro j
  have e : ∀ (l : List Nat), j < l.length → l[j]? = some (l.getD j 0) := fun l h => by rw [List.getD_eq_getElem?_getD, List.getElem?_eq_getElem h]; rfl
  by_cases hj : j < m.length
  · rw [e _ (by rw [List.length_set, half_len rfl k i (by omega)]; exact hj), e _ (by rw [half_len rfl k (i + 1) (by omega)]; exact hj)]
    congr 1
    rw [List.getD_eq_getElem?_getD, List.getElem?_set]
    by_cases hij : i = j
    · subst hij
      rw [if_pos rfl, if_pos (by rw [half_len rfl k i (by omega)]; exact hj), half_get k (i + 1) i (by omega), if_pos (by omega), piv_get]
      rfl
    · rw [if_neg hij, ← List.getD_eq_getElem?_getD, half_get k i j (by omega), half_get k (i + 1) j (by omega)]
      by_cases h : j < i
      · rw [if_pos h, if_pos (by omega)]
      · rw [if_neg h, if_neg (by omega)]
  · rw [List.getElem?_eq_none (by rw [List.length_set, half_len rfl k i (by omega)]; omega), List.getElem?_eq_none (by rw [half_len rfl k (i + 1) (by omega)]; omega)]
theorem half_skip {m : List Nat} (k i : Nat) (hi : i < m.length) (h : (m.getD i 0).testBit k = false) : half m k i = half m k (i + 1) := by
  rw [← half_set k i hi]
  have : pivF (m.getD k 0) k (m.getD i 0) = (half m k i).getD i 0 := by
    rw [half_get k i i (by omega), if_neg (by omega)]; unfold pivF; rw [if_neg (by rw [h]; simp)]
  rw [this]
  apply List.ext_getElem?
  intro j
  rw [List.getElem?_set]
  split
  · rename_i e; subst e
    split
    · rename_i e2; rw [List.getElem?_eq_getElem e2, List.getD_eq_getElem?_getD, List.getElem?_eq_getElem e2]; rfl
    · rename_i e2; rw [List.getElem?_eq_none (by omega)]
  · rfl
theorem reached_l2 {n : Nat} (hn : n ≤ 8) {m : List Nat} (hm : m.length = n) (hlt : ∀ x ∈ m, x < 2 ^ n) (k : Nat) (hk : k < n) (r : List Int)
    (hr : Ev (fun q => impl_reached.l1 q (ints (piv m k)) (n : Int) ((k + 1 : Nat) : Int)) r) : ∀ d i, i + d = n → Ev (fun q => impl_reached.l2 q (ints (half m k i)) (k : Int) (n : Int) (k : Int) (n : Int) (i : Int)) r
  | 0, i, h => by
    have e : half m k i = piv m k := by unfold half; rw [List.take_of_length_le (by rw [piv_length]; omega), List.drop_of_length_le (by omega)]; simp
    rw [e]
    refine Ev.step (fun q => ?_) hr
    rw [impl_reached.l2, if_neg (by omega), wrap_nat k (by omega)]
  | d + 1, i, h => by
    have ih := reached_l2 hn hm hlt k hk r hr d (i + 1) (by omega)
    have hl := half_len hm k i (by omega)
    have g1 : (half m k i).getD i 0 = m.getD i 0 := by rw [half_get k i i (by omega), if_neg (by omega)]
    have g2 := half_piv (m := m) k i (by omega)
    have a1 := lt62 hn (getD_lt hlt i)
    have a2 := lt62 hn (getD_lt hlt k)
    refine Ev.step (fun q => ?_) ih
    rw [impl_reached.l2, if_pos (by omega), if_pos (by omega), if_pos (by rw [ints_length, hl]; omega), rd_ints, rd_ints, g1, g2, has_f _ _ a1, Option.bind_some, wrap_nat i (by omega)]
    cases hb : (m.getD i 0).testBit k with
    | true =>
      rw [if_pos rfl, if_pos (by omega), if_pos (by rw [ints_length, hl]; omega), or_nat _ _ a1 a2, ints_set, ← half_set k i (by omega)]
      unfold pivF
      rw [if_pos hb]
    | false => rw [if_neg (by simp), half_skip k i (by omega) hb]
theorem reached_l1 {n : Nat} (hn : n ≤ 8) : ∀ (d k : Nat) (m : List Nat), m.length = n → (∀ x ∈ m, x < 2 ^ n) → k + d = n → Ev (fun q => impl_reached.l1 q (ints m) (n : Int) (k : Int)) (ints ((List.range' k d).foldl piv m))
  | 0, k, m, hm, hlt, h => Ev.step (fun q => by rw [impl_reached.l1, if_neg (by omega)]) (Ev.some (by simp))
  | d + 1, k, m, hm, hlt, h => by
    have ih := reached_l1 hn d (k + 1) (piv m k) (by rw [piv_length, hm]) (piv_lt hlt k) (by omega)
    rw [List.range'_succ, List.foldl_cons]
    have := reached_l2 hn hm hlt k (by omega) _ ih n 0 (by omega)
    have e : half m k 0 = m := by simp [half]
    rw [e] at this
    refine Ev.step (fun q => ?_) this
    rw [impl_reached.l1, if_pos (by omega), ints_length, hm]
    rfl
theorem start_get {ns : List Nat} (j : Nat) (hj : j < ns.length) : (startM ns)[j]? = some (ns.getD j 0 ||| 2 ^ j) := by
  unfold startM
  rw [List.getElem?_map, List.getElem?_range hj]; rfl
theorem reached_l0 {n : Nat} {ns : List Nat} (h : Sets n ns) (r : List Int) (hr : Ev (fun q => impl_reached.l1 q (ints (startM ns)) (n : Int) 0) r) : ∀ d j, j + d = n → Ev (fun q => impl_reached.l0 q (ints ((startM ns).take j)) (ints ns) (n : Int) (j : Int)) r
  | 0, j, e => by
    have hl := h.len
    have : (startM ns).length = n := by simp [startM, hl]
    rw [List.take_of_length_le (by omega)]
    refine Ev.step (fun q => ?_) hr
    rw [impl_reached.l0, if_neg (by omega), ints_length, this]
  | d + 1, j, e => by
    have hl := h.len
    have hn := h.n8
    have ih := reached_l0 h r hr d (j + 1) (by omega)
    have ht : (startM ns).take (j + 1) = (startM ns).take j ++ [ns.getD j 0 ||| 2 ^ j] := by
      rw [List.take_add_one, start_get j (by omega)]; rfl
    have hp : 2 ^ j < 2 ^ 62 := Nat.pow_lt_pow_right (by decide) (by omega)
    refine Ev.step (fun q => ?_) ih
    rw [impl_reached.l0, if_pos (by omega), if_pos (by omega), if_pos (by rw [ints_length]; omega), if_pos (by rw [ints_length, List.length_take]; omega), rd_ints, shl_one j (by omega), or_nat _ _ (h.get62 j) hp, wrap_nat j (by omega), ht]
    simp [ints]
theorem reached_f {n : Nat} {ns : List Nat} (h : Sets n ns) : Ev (fun q => impl_reached.f q (n : Int) (ints ns)) (ints (warshall ns)) := by
  have hl := h.len
  have h1 := reached_l1 h.n8 n 0 (startM ns) (by simp [startM, hl]) (start_lt h) (by omega)
  have := reached_l0 h _ h1 n 0 (by omega)
  unfold impl_reached.f warshall
  rw [List.range_eq_range', hl, ints_length, hl]
  simpa [ints] using this
theorem warshall_lt {n : Nat} {ns : List Nat} (h : Sets n ns) : ∀ x ∈ warshall ns, x < 2 ^ n := by
  have : ∀ (l : List Nat) (m : List Nat), (∀ x ∈ m, x < 2 ^ n) → ∀ x ∈ l.foldl piv m, x < 2 ^ n := by
    intro l
    induction l with
    | nil => intro m h; exact h
    | cons k l ih => intro m h; rw [List.foldl_cons]; exact ih _ (piv_lt h k)
  exact this _ _ (start_lt h)
theorem swF_lt {n : Nat} {ns : List Nat} (h : Sets n ns) {s : Nat} (hs : s < 2 ^ n) (j : Nat) : swF ns s j < 2 ^ n := by
  unfold swF
  split
  · exact Nat.or_lt_two_pow hs (h.get j)
  · exact hs
theorem scReached_l1 {n : Nat} {ns : List Nat} (h : Sets n ns) (t : Nat) (r : Int) : ∀ (d j s : Nat), j + d = n → s < 2 ^ n →
    (Ev (fun q => spec_scReached.l0 q (((List.range' j d).foldl (swF ns) s : Nat) : Int) (wrap64 ((t : Int) + 1)) (n : Int) (ints ns)) r) → Ev (fun q => spec_scReached.l1 q (s : Int) (t : Int) (ints ns) (n : Int) (j : Int) (n : Int) (ints ns)) r
  | 0, j, s, e, hs, hr => by
    refine Ev.step (fun q => ?_) hr
    rw [spec_scReached.l1, if_neg (by omega)]
    rfl
  | d + 1, j, s, e, hs, hr => by
    have hl := h.len
    have hn := h.n8
    have a1 := lt62 hn hs
    rw [List.range'_succ, List.foldl_cons] at hr
    have ih := scReached_l1 h t r d (j + 1) (swF ns s j) (by omega) (swF_lt h hs j) hr
    refine Ev.step (fun q => ?_) ih
    rw [spec_scReached.l1, if_pos (by omega), if_pos (by omega), if_pos (by rw [ints_length]; omega), deHas_f _ _ a1, Option.bind_some, rd_ints, or_nat _ _ a1 (h.get62 j), wrap_nat j (by omega)]
    unfold swF
    cases hb : s.testBit j with
    | true => rw [if_pos rfl, if_pos rfl]
    | false => rw [if_neg (by simp), if_neg (by simp)]
theorem sweep_lt {n : Nat} {ns : List Nat} (h : Sets n ns) : ∀ (l : List Nat) (s : Nat), s < 2 ^ n → l.foldl (swF ns) s < 2 ^ n
  | [], s, hs => hs
  | j :: l, s, hs => sweep_lt h l _ (swF_lt h hs j)
theorem scReached_l0 {n : Nat} {ns : List Nat} (h : Sets n ns) : ∀ (d t s : Nat), t + d = n → s < 2 ^ n → Ev (fun q => spec_scReached.l0 q (s : Int) (t : Int) (n : Int) (ints ns)) ((sweeps ns d s : Nat) : Int)
  | 0, t, s, e, hs => Ev.step (fun q => by rw [spec_scReached.l0, if_neg (by omega)]) (Ev.some (by simp [sweeps]))
  | d + 1, t, s, e, hs => by
    have hl := h.len
    have hn := h.n8
    have ih := scReached_l0 h d (t + 1) (sweep ns s) (by omega) (sweep_lt h _ s hs)
    have := scReached_l1 h t ((sweeps ns (d + 1) s : Nat) : Int) n 0 s (by omega) hs (by
      rw [wrap_nat t (by omega)]
      have e : (List.range' 0 n).foldl (swF ns) s = sweep ns s := by unfold sweep; rw [List.range_eq_range', hl]
      rw [e]
      exact ih)
    refine Ev.step (fun q => ?_) this
    rw [spec_scReached.l0, if_pos (by omega), ints_length, hl]
    rfl
theorem scReached_f {n : Nat} {ns : List Nat} (h : Sets n ns) (i : Nat) (hi : i < n) : Ev (fun q => spec_scReached.f q (n : Int) (ints ns) (i : Int)) (((warshall ns).getD i 0 : Nat) : Int) := by
  have hl := h.len
  have hn := h.n8
  have := scReached_l0 h n 0 (2 ^ i) (by omega) (Nat.pow_lt_pow_right (by decide) hi)
  unfold spec_scReached.f
  rw [reached_same ns h.bt_lt, List.getD_eq_getElem?_getD, List.getElem?_map, List.getElem?_range (by omega), hl]
  simp only [if_pos (show 0 ≤ (i : Int) by omega), shl_one i (by omega)]
  exact this
def szs (ns : List Nat) : List Nat := (warshall ns).map pop
theorem l1Put_l0 (n : Int) : ∀ (rest done : List Int), (done ++ rest).length ≤ 1000 → (∀ x ∈ done, x < n) → Ev (fun k => spec_l1Put.l0 k (done ++ rest) n (done.length : Int)) (done ++ putI n rest)
  | [], done, h, hd => by
    simp only [List.append_nil] at h ⊢
    refine Ev.step (fun k => ?_) (Ev.some (show done ++ [n] = done ++ putI n [] from rfl))
    rw [spec_l1Put.l0, if_neg (by omega)]
    simp only [Option.bind_some, List.nil_append, Int.toNat_natCast, List.take_length, List.drop_length, List.length_append, List.length_nil, List.length_singleton, List.append_nil]
    rw [if_pos (by omega), if_pos (by omega), if_pos (by omega), if_pos (by omega), if_pos (by omega)]
  | z :: rest, done, h, hd => by
    obtain ⟨h1, h2, h3, h4, h5⟩ := mid z done rest (by simp only [BM]; omega)
    by_cases c1 : z < n
    · have ih := l1Put_l0 n rest (done ++ [z]) (by rw [h5]; exact h) (fun x hx => (List.mem_append.1 hx).elim (hd x) (fun hx => by simp at hx; omega))
      rw [h5] at ih
      have e : done ++ putI n (z :: rest) = done ++ [z] ++ putI n rest := by simp [putI, c1]
      rw [e]
      refine Ev.step (fun k => ?_) ih
      rw [spec_l1Put.l0, if_pos h1, if_pos h2, h3, if_pos c1, h4]
    · by_cases c2 : z = n
      · refine Ev.step (fun k => ?_) (Ev.some (show done ++ z :: rest = done ++ putI n (z :: rest) by simp [putI, c1, c2]))
        rw [spec_l1Put.l0, if_pos h1, if_pos h2, h3, if_neg c1, if_pos c2]
      · refine Ev.step (fun k => ?_) (Ev.some (show done ++ [n] ++ z :: rest = done ++ putI n (z :: rest) by simp [putI, c1, c2]))
        have t1 : (done ++ z :: rest).take done.length = done := by simp
        have t2 : (done ++ z :: rest).drop done.length = z :: rest := by simp
        simp only [List.length_append, List.length_cons] at h
        rw [spec_l1Put.l0, if_pos h1, if_pos h2, h3, if_neg c1, if_neg c2]
        simp only [Option.bind_some, List.nil_append, Int.toNat_natCast, t1, t2, List.length_append, List.length_nil, List.length_singleton, List.length_cons]
        rw [if_pos (by omega), if_pos (by omega), if_pos (by omega), if_pos (by omega)]
theorem l1Put_f (l : List Int) (n : Int) (h : l.length ≤ 1000) : Ev (fun k => spec_l1Put.f k l n) (putI n l) := by
  unfold spec_l1Put.f
  have := l1Put_l0 n l [] (by simpa using h) (by simp)
  simpa using this
theorem index_l0 (x : Int) : ∀ (rest done : List Int), (done ++ rest).length ≤ 1000 → Ev (fun k => slices_Index_int_int.l0 k (done ++ rest) x ((done ++ rest).length : Int) (done.length : Int)) (Go.Lib.idxFrom rest x done.length)
  | [], done, h => Ev.step (fun k => by rw [slices_Index_int_int.l0, if_neg (by simp)]) (Ev.some (by simp [Go.Lib.idxFrom]))
  | z :: rest, done, h => by
    obtain ⟨h1, h2, h3, h4, h5⟩ := mid z done rest (by simp only [BM]; omega)
    by_cases c : z = x
    · refine Ev.step (fun k => ?_) (Ev.some (show ((done.length : Nat) : Int) = Go.Lib.idxFrom (z :: rest) x done.length by unfold Go.Lib.idxFrom; rw [if_pos c]))
      rw [slices_Index_int_int.l0, if_pos h1, if_pos h2, if_pos h1, h3, if_pos c.symm]
    · have ih := index_l0 x rest (done ++ [z]) (by rw [h5]; exact h)
      have hd1 : (done ++ [z]).length = done.length + 1 := by simp
      rw [h5, hd1] at ih
      rw [hd1] at h4
      have e : Go.Lib.idxFrom (z :: rest) x done.length = Go.Lib.idxFrom rest x (done.length + 1) := by rw [Go.Lib.idxFrom, if_neg c]
      rw [e]
      refine Ev.step (fun k => ?_) ih
      rw [slices_Index_int_int.l0, if_pos h1, if_pos h2, if_pos h1, h3, if_neg (fun q => c q.symm), h4]
theorem index_f (l : List Int) (x : Int) (h : l.length ≤ 1000) : Ev (fun k => slices_Index_int_int.f k l x) (Go.Lib.idxOf l x) := by
  unfold slices_Index_int_int.f Go.Lib.idxOf
  have := index_l0 x l [] (by simpa using h)
  simpa using this
def partsL (s : List Int) : List Int := s.map (fun x => ((great x s []).length : Int))
theorem scParts_l2 (s out : List Int) (hs : s.length ≤ 8) (ho : out.length ≤ 8) (x : Int) (i : Int) (r : List Int) : ∀ (rest done g : List Int), s = done ++ rest → g.length ≤ done.length →
    Ev (fun k => spec_scParts.l1 k s (out ++ [((great x rest g).length : Int)]) s (s.length : Int) (wrap64 (i + 1))) r → Ev (fun k => spec_scParts.l2 k s out x g s (s.length : Int) i s (s.length : Int) (done.length : Int)) r
  | [], done, g, e, hg, hr => by
    refine Ev.step (fun k => ?_) hr
    rw [spec_scParts.l2, if_neg (by rw [e]; simp), if_pos (by omega)]
    rfl
  | y :: rest, done, g, e, hg, hr => by
    obtain ⟨h1, h2, h3, h4, h5⟩ := mid y done rest (by rw [← e]; simp only [BM]; omega)
    rw [← e] at h1 h3
    by_cases c : x < y
    · have e2 : great x (y :: rest) g = great x rest (putI y g) := by unfold great; rw [List.foldl_cons, if_pos c]
      rw [e2] at hr
      have hp := putI_length y g
      have ih := scParts_l2 s out hs ho x i r rest (done ++ [y]) (putI y g) (by rw [h5]; exact e) (by simp; omega) hr
      have hdl : done.length ≤ s.length := by rw [e]; simp
      refine Ev.step (f := fun k => (spec_l1Put.f k g y).bind fun t => spec_scParts.l2 k s out x t s (s.length : Int) i s (s.length : Int) (((done ++ [y]).length : Nat) : Int)) (fun k => ?_) (Ev.bind (l1Put_f g y (by omega)) ih)
      rw [spec_scParts.l2, if_pos h1, if_pos h2, if_pos h1, h3, if_pos c, h4]
    · have e2 : great x (y :: rest) g = great x rest g := by unfold great; rw [List.foldl_cons, if_neg c]
      rw [e2] at hr
      have ih := scParts_l2 s out hs ho x i r rest (done ++ [y]) g (by rw [h5]; exact e) (by simp; omega) hr
      refine Ev.step (fun k => ?_) ih
      rw [spec_scParts.l2, if_pos h1, if_pos h2, if_pos h1, h3, if_neg c, h4]
theorem scParts_l1 (s : List Int) (hs : s.length ≤ 8) : ∀ (rest done : List Int), s = done ++ rest → Ev (fun k => spec_scParts.l1 k s (done.map (fun x => ((great x s []).length : Int))) s (s.length : Int) (done.length : Int)) (partsL s)
  | [], done, e => by
    refine Ev.step (fun k => by rw [spec_scParts.l1, if_neg (by rw [e]; simp)]) (Ev.some ?_)
    unfold partsL
    rw [e]; simp
  | x :: rest, done, e => by
    obtain ⟨h1, h2, h3, h4, h5⟩ := mid x done rest (by rw [← e]; simp only [BM]; omega)
    rw [← e] at h1 h3
    have hdl : done.length ≤ s.length := by rw [e]; simp
    have ih := scParts_l1 s hs rest (done ++ [x]) (by rw [h5]; exact e)
    have := scParts_l2 s (done.map (fun x => ((great x s []).length : Int))) hs (by simp; omega) x (done.length : Int) (partsL s) s [] [] rfl (by simp) (by
      rw [h4]
      simpa using ih)
    refine Ev.step (fun k => ?_) this
    rw [spec_scParts.l1, if_pos h1, if_pos h2, if_pos h1, h3]
    rfl
theorem warshall_len (ns : List Nat) : (warshall ns).length = ns.length := (warshall_inv ns).len
theorem szs_len (ns : List Nat) : (szs ns).length = ns.length := by simp [szs, warshall_len]
theorem scParts_l0 {n : Nat} {ns : List Nat} (h : Sets n ns) (r : List Int) (hr : Ev (fun k => spec_scParts.l1 k (ints (szs ns)) ([] : List Int) (ints (szs ns)) (n : Int) 0) r) : ∀ d j, j + d = n → Ev (fun k => spec_scParts.l0 k (ints ((szs ns).take j)) (n : Int) (j : Int) (n : Int) (ints ns)) r
  | 0, j, e => by
    have hl := h.len
    rw [List.take_of_length_le (by rw [szs_len]; omega)]
    refine Ev.step (fun k => ?_) hr
    rw [spec_scParts.l0, if_neg (by omega), ints_length, szs_len, hl]
  | d + 1, j, e => by
    have hl := h.len
    have hn := h.n8
    have ih := scParts_l0 h r hr d (j + 1) (by omega)
    have hw := getD_lt (warshall_lt h) j
    have ht : (szs ns).take (j + 1) = (szs ns).take j ++ [pop ((warshall ns).getD j 0)] := by
      rw [List.take_add_one]
      unfold szs
      rw [List.getElem?_map, List.getElem?_eq_getElem (by rw [warshall_len]; omega), List.getD_eq_getElem?_getD, List.getElem?_eq_getElem (by rw [warshall_len]; omega)]
      rfl
    refine Ev.step (f := fun k => (spec_scReached.f k (n : Int) (ints ns) (j : Int)).bind fun t => (spec_deMany.f k t).bind fun t2 => spec_scParts.l0 k (ints ((szs ns).take j) ++ [t2]) (n : Int) ((j + 1 : Nat) : Int) (n : Int) (ints ns)) (fun k => ?_) (Ev.bind (scReached_f h j (by omega)) (Ev.bind (deMany_f _ (Nat.lt_of_lt_of_le hw (pow8 hn))) ?_))
    · rw [spec_scParts.l0, if_pos (by omega), wrap_nat j (by omega)]
      congr 1; funext t; congr 1; funext t2
      rw [if_pos (by rw [ints_length, List.length_take]; omega)]
    · rw [ht] at ih
      simpa [ints] using ih
theorem scParts_f {n : Nat} {ns : List Nat} (h : Sets n ns) : Ev (fun k => spec_scParts.f k (n : Int) (ints ns)) (partsL (ints (szs ns))) := by
  have hl := h.len
  have hn := h.n8
  have h1 := scParts_l1 (ints (szs ns)) (by rw [ints_length, szs_len]; omega) (ints (szs ns)) [] rfl
  rw [ints_length, szs_len, hl] at h1
  have := scParts_l0 h _ h1 n 0 (by omega)
  unfold spec_scParts.f
  rw [ints_length, hl]
  simpa [ints] using this
theorem compact_len (l : List Int) : (Go.Lib.compact l).length ≤ l.length := by
  unfold Go.Lib.compact Go.Lib.compactUpTo
  rw [List.length_map]
  have := List.length_filter_le (Go.Lib.keeps l.toArray) (List.range l.length)
  simpa using this
theorem parts_l0 (s c : List Int) (hs : s.length ≤ 8) (hc : c.length ≤ 8) : ∀ (rest done : List Int), s = done ++ rest → Ev (fun k => impl_StrongParts.l0 k (done.map (fun x => Go.Lib.idxOf c x)) c s (s.length : Int) (done.length : Int)) (s.map (fun x => Go.Lib.idxOf c x), true)
  | [], done, e => by
    refine Ev.step (fun k => by rw [impl_StrongParts.l0, if_neg (by rw [e]; simp)]) (Ev.some ?_)
    rw [e]; simp
  | x :: rest, done, e => by
    obtain ⟨h1, h2, h3, h4, h5⟩ := mid x done rest (by rw [← e]; simp only [BM]; omega)
    rw [← e] at h1 h3
    have hdl : done.length ≤ s.length := by rw [e]; simp
    have ih := parts_l0 s c hs hc rest (done ++ [x]) (by rw [h5]; exact e)
    refine Ev.step (f := fun k => (slices_Index_int_int.f k c x).bind fun t => impl_StrongParts.l0 k (done.map (fun x => Go.Lib.idxOf c x) ++ [t]) c s (s.length : Int) (((done ++ [x]).length : Nat) : Int)) (fun k => ?_) (Ev.bind (index_f c x (by omega)) (by simpa using ih))
    rw [impl_StrongParts.l0, if_pos h1, if_pos h2, if_pos h1, h3, h4]
    congr 1; funext t
    rw [if_pos (by simp; omega)]
theorem pop_le (a : Nat) : pop a ≤ 8 := by
  unfold pop
  have := List.countP_le_length (p := fun i => a.testBit i) (l := List.range 8)
  simpa using this
theorem strongParts_f (a : Int) (l : List Int) (hl : l.length ≤ BM) : ∃ r, Ev (fun k => spec_StrongParts.f k a l) r ∧ Ev (fun k => impl_StrongParts.f k a l) r ∧ r.1.length ≤ 8 := by
  unfold spec_StrongParts.f impl_StrongParts.f
  obtain ⟨b, hb, hbb⟩ := (scGood_f a l hl).ev
  obtain ⟨c, hc, hcc⟩ := (IsTournament_f a l hl).ev
  have e : b = c := by rw [Bool.eq_iff_iff, hbb, hcc]
  subst e
  cases b with
  | false => exact ⟨([], false), Ev.bind hb (by simpa using Ev.now _), Ev.bind hc (by simpa using Ev.now _), by simp⟩
  | true =>
    obtain ⟨n, ns, rfl, rfl, ht⟩ := hbb.1 rfl
    have hs := ht.1.1
    have hlen := hs.len
    have hn := hs.n8
    have hn1 := hs.n1
    have hx : ∀ x ∈ warshall ns, x < 256 := fun x hx => Nat.lt_of_lt_of_le (warshall_lt hs x hx) (pow8 hn)
    have hzl : (ints (szs ns)).length = n := by rw [ints_length, szs_len, hlen]
    have hzb : ∀ x ∈ ints (szs ns), -1048576 ≤ x ∧ x ≤ 1048576 := by
      intro x hx
      unfold ints szs at hx
      simp only [List.map_map, List.mem_map] at hx
      obtain ⟨y, _, rfl⟩ := hx
      have := pop_le y
      simp only [Function.comp]; omega
    refine ⟨(partsL (ints (szs ns)), true), Ev.bind hb ?_, Ev.bind hc ?_, by simp [partsL, hzl]; omega⟩
    · simp only [if_true]
      exact Ev.bind (scParts_f hs) (Ev.now _)
    · simp only [if_true]
      refine Ev.bind (reached_f hs) (Ev.bind (counts_f (warshall ns) (by rw [warshall_len]; omega) hx) ?_)
      have e1 : impl_ranking.f (ints ((warshall ns).map pop)) = some (rankL (ints (szs ns))) := by
        unfold impl_ranking.f
        rw [if_pos ⟨by rw [show ints ((warshall ns).map pop) = ints (szs ns) from rfl]; omega, by rw [show ints ((warshall ns).map pop) = ints (szs ns) from rfl]; omega, hzb⟩]
        rfl
      have e2 : slices_Compact_int_int.f (rankL (ints (szs ns))) = some (Go.Lib.compact (rankL (ints (szs ns)))) := by
        unfold slices_Compact_int_int.f
        rw [if_pos ⟨by rw [rankL_length]; omega, by rw [rankL_length]; omega⟩]
      rw [e1]
      simp only [Option.bind_some]
      rw [e2]
      simp only [Option.bind_some]
      have hcl := compact_len (rankL (ints (szs ns)))
      rw [rankL_length, hzl] at hcl
      have := parts_l0 (ints (szs ns)) (Go.Lib.compact (rankL (ints (szs ns)))) (by omega) (by omega) (ints (szs ns)) [] rfl
      refine Ev.pair this ?_
      congr 1
      unfold partsL
      refine List.map_congr_left (fun x hx => ?_)
      exact idx_great (ints (szs ns)) (rankL (ints (szs ns))) (rankL_sorted _) (fun y => rankL_mem) x hx
end Go.Proofs.Ytfmpbflbkochgaa.K
namespace Go.Proofs.Ytfmpbflbkochgaa.Pure
open Go.RowKit Go.Proofs.YtfmpbflbkochgaaW.PrintWords Go.Proofs.Ytfmpbflbkochgaa.P Go.Proofs.Ytfmpbflbkochgaa.K
theorem FnExactStrongParts : ∀ (a : Int) (l : List Int), (Lit.int .i64 a).wf = true → l.length ≤ maxLen → (∀ n ∈ l, (Lit.int .i64 n).wf = true) → ∃ k, laws_FnExactStrongParts.f k a l = some true := by
  intro a l _ hl _
  refine Ev.rounds (g := fun k => laws_FnExactStrongParts.f k a l) ?_
  unfold laws_FnExactStrongParts.f
  obtain ⟨r, hr, hr'⟩ := szTournament_f a l hl
  rw [hr]
  simp only [Option.bind_some]
  refine Ev.ite (fun _ => Ev.now _) (fun h => ?_)
  have h : l.length ≤ BM := by have := hr' (by omega); simp only [BM]; omega
  obtain ⟨⟨m, ok⟩, hs, hi, hm⟩ := strongParts_f a l h
  have hm : m.length ≤ 8 := hm
  have hm' : m.length ≤ BM := by simp only [BM]; omega
  have n1 : ¬ (1 + (l.length : Int) < 0) := by omega
  have n2 : ¬ (1 + (m.length : Int) < 0) := by omega
  have b1 : (1 : Int) + l.length ≤ 4611686018427387904 := by simp only [BM] at h; omega
  have b2 : (1 : Int) + m.length ≤ 4611686018427387904 := by omega
  refine Ev.bind (toTournament_f a l h) (Ev.bind hs (Ev.bind (toTournament_f a l h) (Ev.bind hi ?_)))
  repeat' first
    | exact Ev.now true
    | refine Ev.bind hi ?_
    | refine Ev.bind (toTournament_f a l h) ?_
    | refine Ev.bind (eqTournament_same _ _ h) ?_
    | refine Ev.bind (eqIntS_same _ hm') ?_
    | refine Ev.bind (markTournament_f _ l 1 h (by omega) b1) ?_
    | refine Ev.bind (markIntS_f m 1 hm' (by omega) b2) ?_
    | refine Ev.bind (heldIntS_f 1 m.length hm' (by omega) b2) ?_
    | simp only [if_true, bne_self_eq_false, Bool.false_eq_true, if_false, if_neg n1, if_neg n2]
    | refine Ev.step (fun k => by first | rw [laws_FnExactStrongParts.j0] | rw [laws_FnExactStrongParts.j1] | rw [laws_FnExactStrongParts.j2]) ?_
end Go.Proofs.Ytfmpbflbkochgaa.Pure
namespace Go.Proofs.Ytfmpbflbkochgaa.K
open Go.RowKit Go.ChangeShapes Go.WideShapes Go.ChangeAt Go.Deep Go.Proofs.YtfmpbflbkochgaaW.PrintWords
section
variable {H : Type} {enc : TypeId × Value → H} {P : Program} {w : World}
theorem open_row {t e : TypeId} {fuel : Nat} {cs : List Value} {x : DataW H × List MemPlace} (ht : P.underlying t = some (.slice e)) (he : P.underlying e = some (.int .i64)) (hc : P.cellsOf e = 1)
    (h : DataW.trod enc P w 0 (fun _ => true) true fuel t cs = some x) :
    ∃ (A : Option Addr) (c : Nat) (l : List Int), cs = [.slice A l.length c] ∧ l.length ≤ c ∧ l.length ≤ maxLen ∧ (∀ n ∈ l, (Lit.int .i64 n).wf = true) ∧ Kd.C (Kd.int .i64) w A l.length l := by
  rcases open_ints ht he hc h with ⟨rfl, _⟩ | ⟨a, l, c, zs, rfl, _, hl, hm, hz, _, hcell, hwz⟩
  · exact ⟨none, 0, [], rfl, Nat.le_refl _, by simp [maxLen], by simp, Kd.C_nil _ _⟩
  · obtain ⟨l0, rfl, hr0, hm0, hw0, hc0⟩ := ReadsInt.ofRowC (k := .i64) (w := w) (a := some a) (len := l) (cap := c) (zs := zs) (.inr ⟨a, rfl, hl, hm, by simpa using hz, hcell, hwz⟩)
    exact ⟨some a, c, l0, rfl, hc0, hm0, hw0, Kd.C_of_reads (d := (0 : Int)) (h1 := fun _ => rfl) hr0⟩
end
end Go.Proofs.Ytfmpbflbkochgaa.K
namespace Go.Proofs.Ytfmpbflbkochgaa.fnExactStrongParts
open Go.ChangeShapes Go.WideShapes Go.ChangeAt Go.RowKit
open Go.ChangeMaps (open_string shut_string)
theorem own : ownKnob Try.prog.godebug = none := by kernel_rfl
theorem laidOut : laidOutB Try.prog = true := by kernel_rfl
set_option maxRecDepth 100000 in
theorem lifted (os : Os) (started : os.Started) (H : Type) (enc : TypeId × Value → H) :
    ReturnsInHanded {} Try.checked os 6 .any (Rows.fnExactStrongPartsSpec.pre6 enc Try.prog Try.f6 Rows.fnExactStrongPartsRow.domain false) (Rows.fnExactStrongPartsSpec.post enc Try.prog Try.f6 false true false false) := by
  refine returnsInHanded_of_change_sized (C := Try.checked) own started (by kernel_rfl) Try.func6
    (ChangeSpec.witness6 (enc := enc) (C := Try.checked) false ⟨#[], #[.agg #[.int .i64 0, .slice none 0 0]], []⟩ 8 (by kernel_rfl) (by kernel_rfl) (by kernel_rfl) (by kernel_rfl)) ?_
  intro W base args ds gs before hval0 hW hcnd hsz0 _
  have hsz : (DataW.weightsEach Try.prog (Try.f6.params.toList ++ Rows.fnExactStrongPartsSpec.plain.varTypes Try.prog) (ds ++ gs)).all (· ≤ reachBytes) = true := hsz0
  have hval : ∀ (j : Nat) t v, Try.f6.params[j]? = some t → args[j]? = some v → Value.okWide Try.prog W .any base t v := hval0
  have hW' := hW
  obtain ⟨p, q, hA0, hV, rfl, hfz, hnd⟩ := hW
  have hA : DataW.TrodAll enc Try.prog W 0 (fun _ => true) true Try.f6.params.toList args.toList ds p := hA0
  rw [Try.params6] at hA hval hsz
  obtain ⟨v0, vs0, d0, ds0, p0, q0, hargs, rfl, rfl, h0, r0⟩ := trodAll_cons hA
  obtain ⟨rfl, rfl, rfl⟩ := trodAll_nil r0
  obtain rfl : args = #[v0] := by cases args; simp_all
  obtain ⟨rfl, rfl⟩ := trodVars_none hV
  have k0 := h0
  have lt0 : ∀ x ∈ p0, x.block < W.heap.size := by obtain ⟨m, hm⟩ := k0; exact DataW.trod_lt m _ _ _ hm
  obtain ⟨u0_0, u0_1, y0_0, y0_1, m0, rfl, rfl, rfl, g0_0, g0_1⟩ := Joins.open_agg2 Try.underlying31 (by kernel_rfl) (by kernel_rfl) (hval 0 31 v0 rfl rfl) h0
  obtain ⟨a0_0, hcs0_0, _, w0_0⟩ := DataW.trod_int Try.underlying3 g0_0
  obtain rfl := List.singleton_inj.1 hcs0_0
  obtain ⟨A0_1, c0_1, l0_1, hcs0_1, hc0_1, hm0_1, hw0_1, hr0_1⟩ := K.open_row Try.underlying22 Try.underlying3 (by kernel_rfl) g0_1
  obtain rfl := List.singleton_inj.1 hcs0_1
  clear hA0 hval0 hsz0 hsz
  obtain ⟨k, hk⟩ := Pure.FnExactStrongParts a0_0 l0_1 w0_0 hm0_1 hw0_1
  refine (P.laws_FnExactStrongParts.calls k a0_0 _ _ l0_1 true W hr0_1 hc0_1 hk).mono fun e W' ⟨he, bel⟩ => ?_
  subst he
  exact ⟨_, rfl, _, _, _, [], _, [], hW', trodAll_mk1 (shut_bool Try.underlying4 _), (trodAll_cons_mk (Below.trod laidOut (by kernel_rfl) (of_decide_eq_true (by kernel_rfl)) k0 bel lt0) trodAll_mk0), rfl, bel.frame _, fun h => by cases h⟩
set_option maxHeartbeats 4000000 in
theorem joined : joinedFacts Try.prog 6 Try.f6 Rows.fnExactStrongPartsSpec Rows.fnExactStrongPartsRow = true := by
  unfold joinedFacts
  repeat' (with_reducible refine (Bool.and_eq_true _ _).mpr ⟨?_, ?_⟩)
  all_goals first
    | (with_reducible exact Head.mayEnter)
    | ((with_reducible rw [Head.lifts]); rfl)
    | ((with_reducible rw [Head.make]); rfl)
    | (as_aux_lemma => kernel_rfl)
theorem over : Rows.fnExactStrongPartsRow.holds Try.pinned (OpenSpec.ofChange Rows.fnExactStrongPartsSpec) :=
  OpenClaim.holds_of_wide 6 Try.f6 rfl rfl rfl rfl rfl rfl rfl ⟨rfl, rfl, rfl, rfl, rfl⟩ rfl rfl rfl rfl rfl (by kernel_rfl) Try.func6 joined
    (of_decide_eq_true (by kernel_rfl)) (by unfold Func.isWrapper; first | (rw [if_pos (by decide +kernel)]; kernel_rfl) | (rw [if_neg (by decide +kernel)]; exact ⟨rfl, rfl⟩))
    (fun os started H enc _ => lifted os started H enc)
theorem proved : Rows.FnExactStrongPartsSaid := over
#print axioms proved
end Go.Proofs.Ytfmpbflbkochgaa.fnExactStrongParts
namespace Go.Proofs.Ytfmpbflbkochgaa
theorem fnExactStrongParts_holds : Rows.FnExactStrongPartsSaid := fnExactStrongParts.proved
end Go.Proofs.Ytfmpbflbkochgaa
