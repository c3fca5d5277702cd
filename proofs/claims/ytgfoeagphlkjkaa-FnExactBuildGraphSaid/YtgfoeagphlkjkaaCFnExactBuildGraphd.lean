/- The row of the law FnExactBuildGraph: contracts and plain lemmas for the law FnExactBuildGraph, part 4 of 4 (what the Go functions answer). -/
import Derived.Test.YtgfoeagphlkjkaaRows
import Derived.WalkKit
import Derived.ProofKit
import Derived.OpenShut
import Derived.ShutString
import Derived.ChangeOld
import Derived.Below
import Derived.SizedLaws
import Derived.Test.YtgfoeagphlkjkaaCFnExactBuildGrapha
import Derived.Test.YtgfoeagphlkjkaaCFnExactBuildGraphb
import Derived.Test.YtgfoeagphlkjkaaCFnExactBuildGraphc
set_option linter.unusedVariables false
set_option linter.unusedSimpArgs false
namespace Go.Proofs.Ytgfoeagphlkjkaa.P
open Go.RowKit Go.Proofs.YtgfoeagphlkjkaaW.PrintWords Go.Proofs.YtgfoeagphlkjkaaW.PrintLast Go.Proofs.YtgfoeagphlkjkaaW.PrintMore
attribute [local go_sem] max2_int min2_int max_two min_two max_three min_three max_four min_four
mutual
def laws_FnExactBuildGraph.j0 : Nat → List Int → Bool → List Int → Bool → Bool → Int → List Int → Int → List Int → Option (Bool)
 | 0, _, _, _, _, _, _, _, _, _ => none
 | k + 1, x0, x4, x5, x7, x37, x268000, x268001, x277000, x277001 => if x37 = true then (some false) else ((laws_toIntS.f k x0).bind fun t278 => ((laws_eqIntS.f k x5 t278).bind fun t281 => (if t281 = true then ((laws_markIntS.f k x5 1).bind fun bt282 => (if bt282.1 < 0 then (laws_FnExactBuildGraph.j1 k x0 x4 true x268000 x268001 x277000 x277001) else ((laws_eqGraph.f k x277000 x277001 x268000 x268001).bind fun t284 => (if t284 = true then (laws_FnExactBuildGraph.j1 k x0 x4 (x7 != x4) x268000 x268001 x277000 x277001) else (laws_FnExactBuildGraph.j1 k x0 x4 true x268000 x268001 x277000 x277001))))) else (some false))))
def laws_FnExactBuildGraph.j1 : Nat → List Int → Bool → Bool → Int → List Int → Int → List Int → Option (Bool)
 | 0, _, _, _, _, _, _, _ => none
 | k + 1, x0, x4, x58, x268000, x268001, x277000, x277001 => if x58 = true then (some false) else ((laws_markGraph.f k x277000 x277001 1).bind fun bt285 => ((laws_heldGraph.f k x277000 bt285.2 1).bind fun t287 => (if t287 < 0 then (some false) else (if t287 = bt285.1 then ((laws_toIntS.f k x0).bind fun t288 => ((impl_BuildGraph.f k t288).bind fun bt291 => ((laws_eqGraph.f k bt291.1 bt291.2.1 x268000 x268001).bind fun t297 => (if t297 = true then (laws_FnExactBuildGraph.j2 k bt285.1 (bt291.2.2 != x4) x277000 bt285.2) else (laws_FnExactBuildGraph.j2 k bt285.1 true x277000 bt285.2))))) else (some false)))))
def laws_FnExactBuildGraph.j2 : Nat → Int → Bool → Int → List Int → Option (Bool)
 | 0, _, _, _, _ => none
 | k + 1, x9, x84, x277000, x277001 => if x84 = true then (some false) else ((laws_heldGraph.f k x277000 x277001 1).bind fun t298 => (if t298 < 0 then (some false) else (if t298 = x9 then (some true) else (some false))))
end
def laws_FnExactBuildGraph.f (k : Nat) (l0 : List Int) : Option (Bool) := if (l0.length : Int) > 1048576 then (some true) else ((laws_toIntS.f k l0).bind fun t259 => ((spec_BuildGraph.f k t259).bind fun bt262 => ((laws_toIntS.f k l0).bind fun t268 => ((impl_BuildGraph.f k t268).bind fun bt271 => ((laws_eqGraph.f k bt271.1 bt271.2.1 bt262.1 bt262.2.1).bind fun t277 => (if t277 = true then (laws_FnExactBuildGraph.j0 k l0 bt262.2.2 t268 bt271.2.2 (bt271.2.2 != bt262.2.2) bt262.1 bt262.2.1 bt271.1 bt271.2.1) else (laws_FnExactBuildGraph.j0 k l0 bt262.2.2 t268 bt271.2.2 true bt262.1 bt262.2.1 bt271.1 bt271.2.1)))))))
theorem laws_FnExactBuildGraph.mono_l : ∀ k, (∀ y0 y1 y2 y3 y4 y5 y6 y7 y8, LeO (laws_FnExactBuildGraph.j0 k y0 y1 y2 y3 y4 y5 y6 y7 y8) (laws_FnExactBuildGraph.j0 (k + 1) y0 y1 y2 y3 y4 y5 y6 y7 y8)) ∧ (∀ y0 y1 y2 y3 y4 y5 y6, LeO (laws_FnExactBuildGraph.j1 k y0 y1 y2 y3 y4 y5 y6) (laws_FnExactBuildGraph.j1 (k + 1) y0 y1 y2 y3 y4 y5 y6)) ∧ (∀ y0 y1 y2 y3, LeO (laws_FnExactBuildGraph.j2 k y0 y1 y2 y3) (laws_FnExactBuildGraph.j2 (k + 1) y0 y1 y2 y3))
 | 0 => ⟨fun _ _ _ _ _ _ _ _ _ r h => by simp [laws_FnExactBuildGraph.j0] at h, fun _ _ _ _ _ _ _ r h => by simp [laws_FnExactBuildGraph.j1] at h, fun _ _ _ _ r h => by simp [laws_FnExactBuildGraph.j2] at h⟩
 | k + 1 => by
  obtain ⟨ih0, ih1, ih2⟩ := laws_FnExactBuildGraph.mono_l k
  refine ⟨?_, ?_, ?_⟩
  ·
   intro y0 y1 y2 y3 y4 y5 y6 y7 y8
   unfold laws_FnExactBuildGraph.j0
   repeat' first
   | (with_reducible exact ih0 _ _ _ _ _ _ _ _ _)
   | (with_reducible exact ih1 _ _ _ _ _ _ _)
   | (with_reducible exact ih2 _ _ _ _)
   | (with_reducible exact impl_BuildGraph.mono _ _)
   | (with_reducible exact laws_eqGraph.mono _ _ _ _ _)
   | (with_reducible exact laws_eqIntS.mono _ _ _)
   | (with_reducible exact laws_heldGraph.mono _ _ _ _)
   | (with_reducible exact laws_markGraph.mono _ _ _ _)
   | (with_reducible exact laws_markIntS.mono _ _ _)
   | (with_reducible exact laws_toIntS.mono _ _)
   | (with_reducible exact spec_BuildGraph.mono _ _)
   | (with_reducible exact LeO.refl _)
   | (with_reducible exact LeO.none _)
   | (with_reducible refine LeO.ite ?_ ?_)
   | (with_reducible refine LeO.bind ?_ (fun _ => ?_))
   | exact ih0 _ _ _ _ _ _ _ _ _
   | exact ih1 _ _ _ _ _ _ _
   | exact ih2 _ _ _ _
   | exact impl_BuildGraph.mono _ _
   | exact laws_eqGraph.mono _ _ _ _ _
   | exact laws_eqIntS.mono _ _ _
   | exact laws_heldGraph.mono _ _ _ _
   | exact laws_markGraph.mono _ _ _ _
   | exact laws_markIntS.mono _ _ _
   | exact laws_toIntS.mono _ _
   | exact spec_BuildGraph.mono _ _
   | exact LeO.none _
   | refine LeO.ite ?_ ?_
   | refine LeO.bind ?_ (fun _ => ?_)
  ·
   intro y0 y1 y2 y3 y4 y5 y6
   unfold laws_FnExactBuildGraph.j1
   repeat' first
   | (with_reducible exact ih0 _ _ _ _ _ _ _ _ _)
   | (with_reducible exact ih1 _ _ _ _ _ _ _)
   | (with_reducible exact ih2 _ _ _ _)
   | (with_reducible exact impl_BuildGraph.mono _ _)
   | (with_reducible exact laws_eqGraph.mono _ _ _ _ _)
   | (with_reducible exact laws_eqIntS.mono _ _ _)
   | (with_reducible exact laws_heldGraph.mono _ _ _ _)
   | (with_reducible exact laws_markGraph.mono _ _ _ _)
   | (with_reducible exact laws_markIntS.mono _ _ _)
   | (with_reducible exact laws_toIntS.mono _ _)
   | (with_reducible exact spec_BuildGraph.mono _ _)
   | (with_reducible exact LeO.refl _)
   | (with_reducible exact LeO.none _)
   | (with_reducible refine LeO.ite ?_ ?_)
   | (with_reducible refine LeO.bind ?_ (fun _ => ?_))
   | exact ih0 _ _ _ _ _ _ _ _ _
   | exact ih1 _ _ _ _ _ _ _
   | exact ih2 _ _ _ _
   | exact impl_BuildGraph.mono _ _
   | exact laws_eqGraph.mono _ _ _ _ _
   | exact laws_eqIntS.mono _ _ _
   | exact laws_heldGraph.mono _ _ _ _
   | exact laws_markGraph.mono _ _ _ _
   | exact laws_markIntS.mono _ _ _
   | exact laws_toIntS.mono _ _
   | exact spec_BuildGraph.mono _ _
   | exact LeO.none _
   | refine LeO.ite ?_ ?_
   | refine LeO.bind ?_ (fun _ => ?_)
  ·
   intro y0 y1 y2 y3
   unfold laws_FnExactBuildGraph.j2
   repeat' first
   | (with_reducible exact ih0 _ _ _ _ _ _ _ _ _)
   | (with_reducible exact ih1 _ _ _ _ _ _ _)
   | (with_reducible exact ih2 _ _ _ _)
   | (with_reducible exact impl_BuildGraph.mono _ _)
   | (with_reducible exact laws_eqGraph.mono _ _ _ _ _)
   | (with_reducible exact laws_eqIntS.mono _ _ _)
   | (with_reducible exact laws_heldGraph.mono _ _ _ _)
   | (with_reducible exact laws_markGraph.mono _ _ _ _)
   | (with_reducible exact laws_markIntS.mono _ _ _)
   | (with_reducible exact laws_toIntS.mono _ _)
   | (with_reducible exact spec_BuildGraph.mono _ _)
   | (with_reducible exact LeO.refl _)
   | (with_reducible exact LeO.none _)
   | (with_reducible refine LeO.ite ?_ ?_)
   | (with_reducible refine LeO.bind ?_ (fun _ => ?_))
   | exact ih0 _ _ _ _ _ _ _ _ _
   | exact ih1 _ _ _ _ _ _ _
   | exact ih2 _ _ _ _
   | exact impl_BuildGraph.mono _ _
   | exact laws_eqGraph.mono _ _ _ _ _
   | exact laws_eqIntS.mono _ _ _
   | exact laws_heldGraph.mono _ _ _ _
   | exact laws_markGraph.mono _ _ _ _
   | exact laws_markIntS.mono _ _ _
   | exact laws_toIntS.mono _ _
   | exact spec_BuildGraph.mono _ _
   | exact LeO.none _
   | refine LeO.ite ?_ ?_
   | refine LeO.bind ?_ (fun _ => ?_)
theorem laws_FnExactBuildGraph.mono : ∀ a0 k, LeO (laws_FnExactBuildGraph.f k a0) (laws_FnExactBuildGraph.f (k + 1) a0) := by
 intro a0 k
 obtain ⟨ih0, ih1, ih2⟩ := laws_FnExactBuildGraph.mono_l k
 unfold laws_FnExactBuildGraph.f
 repeat' first
   | (with_reducible exact ih0 _ _ _ _ _ _ _ _ _)
   | (with_reducible exact ih1 _ _ _ _ _ _ _)
   | (with_reducible exact ih2 _ _ _ _)
   | (with_reducible exact impl_BuildGraph.mono _ _)
   | (with_reducible exact laws_eqGraph.mono _ _ _ _ _)
   | (with_reducible exact laws_eqIntS.mono _ _ _)
   | (with_reducible exact laws_heldGraph.mono _ _ _ _)
   | (with_reducible exact laws_markGraph.mono _ _ _ _)
   | (with_reducible exact laws_markIntS.mono _ _ _)
   | (with_reducible exact laws_toIntS.mono _ _)
   | (with_reducible exact spec_BuildGraph.mono _ _)
   | (with_reducible exact LeO.refl _)
   | (with_reducible exact LeO.none _)
   | (with_reducible refine LeO.ite ?_ ?_)
   | (with_reducible refine LeO.bind ?_ (fun _ => ?_))
   | exact ih0 _ _ _ _ _ _ _ _ _
   | exact ih1 _ _ _ _ _ _ _
   | exact ih2 _ _ _ _
   | exact impl_BuildGraph.mono _ _
   | exact laws_eqGraph.mono _ _ _ _ _
   | exact laws_eqIntS.mono _ _ _
   | exact laws_heldGraph.mono _ _ _ _
   | exact laws_markGraph.mono _ _ _ _
   | exact laws_markIntS.mono _ _ _
   | exact laws_toIntS.mono _ _
   | exact spec_BuildGraph.mono _ _
   | exact LeO.none _
   | refine LeO.ite ?_ ?_
   | refine LeO.bind ?_ (fun _ => ?_)
set_option maxHeartbeats 8000000 in
set_option maxRecDepth 100000 in
theorem laws_FnExactBuildGraph.calls (k : Nat) (A0 : Option Addr) (c0 : Nat) (l0 : List Int) (r : Bool) (w : World) (hr0 : Kd.C (Kd.int .i64) w A0 l0.length l0) (hc0 : l0.length ≤ c0) (h : laws_FnExactBuildGraph.f k l0 = some r) :
  Calls Try.prog 4 #[.slice A0 l0.length c0] w fun e w' => e = .returned (.bool r) ∧ Below w.heap.size w w' := by
 have hu33 := Try.underlying33
 have HR0 := Aside0.mk hr0
 have HC0 := Aside0.mk hc0
 clear hr0 hc0
 have HB := Aside0.mk (Below.refl w.heap.size w)
 have H : (if (l0.length : Int) > 1048576 then (some true) else ((laws_toIntS.f k l0).bind fun t259 => ((spec_BuildGraph.f k t259).bind fun bt262 => ((laws_toIntS.f k l0).bind fun t268 => ((impl_BuildGraph.f k t268).bind fun bt271 => ((laws_eqGraph.f k bt271.1 bt271.2.1 bt262.1 bt262.2.1).bind fun t277 => (if t277 = true then (laws_FnExactBuildGraph.j0 k l0 bt262.2.2 t268 bt271.2.2 (bt271.2.2 != bt262.2.2) bt262.1 bt262.2.1 bt271.1 bt271.2.1) else (laws_FnExactBuildGraph.j0 k l0 bt262.2.2 t268 bt271.2.2 true bt262.1 bt262.2.1 bt271.1 bt271.2.1)))))))) = some r := h
 clear h
 by_cases c2 : (l0.length : Int) > 1048576
 ·
  rw [if_pos c2] at H
  have c2b0 : decide (1048576 < (l0.length : Int)) = true := decide_eq_true c2
  have c2b1 : decide (1048576 < l0.length) = true := decide_eq_true (by omega)
  clear c2
  obtain rfl := Option.some.inj H
  go_enter Try.func4, Try.ntmps4
  go_wp2
  go_ret
  exact ⟨by first | rfl | (simp [errW_none, errW_some] <;> rfl) | (simp [*, errW_none, errW_some] <;> rfl), by repeat (first | (with_reducible first | exact HB.out | apply below_alloc | apply pw_below_drewN | apply below_drew1) | exact HB.out)⟩
 ·
  rw [if_neg c2] at H
  have c2b0 : decide (1048576 < (l0.length : Int)) = false := decide_eq_false c2
  have c2b1 : decide (1048576 < l0.length) = false := decide_eq_false (by omega)
  clear c2
  replace H := Option.bind_eq_some_iff.mp H
  obtain ⟨t259, A30, H⟩ := H
  replace H : ((spec_BuildGraph.f k t259).bind fun bt262 => ((laws_toIntS.f k l0).bind fun t268 => ((impl_BuildGraph.f k t268).bind fun bt271 => ((laws_eqGraph.f k bt271.1 bt271.2.1 bt262.1 bt262.2.1).bind fun t277 => (if t277 = true then (laws_FnExactBuildGraph.j0 k l0 bt262.2.2 t268 bt271.2.2 (bt271.2.2 != bt262.2.2) bt262.1 bt262.2.1 bt271.1 bt271.2.1) else (laws_FnExactBuildGraph.j0 k l0 bt262.2.2 t268 bt271.2.2 true bt262.1 bt262.2.1 bt271.1 bt271.2.1)))))) = some r := H
  have A3 := Aside0.mk A30
  clear A30
  replace H := Option.bind_eq_some_iff.mp H
  obtain ⟨⟨t262, t263, t266⟩, A40, H⟩ := H
  replace H : ((laws_toIntS.f k l0).bind fun t268 => ((impl_BuildGraph.f k t268).bind fun bt271 => ((laws_eqGraph.f k bt271.1 bt271.2.1 t262 t263).bind fun t277 => (if t277 = true then (laws_FnExactBuildGraph.j0 k l0 t266 t268 bt271.2.2 (bt271.2.2 != t266) t262 t263 bt271.1 bt271.2.1) else (laws_FnExactBuildGraph.j0 k l0 t266 t268 bt271.2.2 true t262 t263 bt271.1 bt271.2.1))))) = some r := H
  have A4 := Aside0.mk A40
  clear A40
  replace H := Option.bind_eq_some_iff.mp H
  obtain ⟨t268, A50, H⟩ := H
  replace H : ((impl_BuildGraph.f k t268).bind fun bt271 => ((laws_eqGraph.f k bt271.1 bt271.2.1 t262 t263).bind fun t277 => (if t277 = true then (laws_FnExactBuildGraph.j0 k l0 t266 t268 bt271.2.2 (bt271.2.2 != t266) t262 t263 bt271.1 bt271.2.1) else (laws_FnExactBuildGraph.j0 k l0 t266 t268 bt271.2.2 true t262 t263 bt271.1 bt271.2.1)))) = some r := H
  have A5 := Aside0.mk A50
  clear A50
  replace H := Option.bind_eq_some_iff.mp H
  obtain ⟨⟨t271, t272, t275⟩, A60, H⟩ := H
  replace H : ((laws_eqGraph.f k t271 t272 t262 t263).bind fun t277 => (if t277 = true then (laws_FnExactBuildGraph.j0 k l0 t266 t268 t275 (t275 != t266) t262 t263 t271 t272) else (laws_FnExactBuildGraph.j0 k l0 t266 t268 t275 true t262 t263 t271 t272))) = some r := H
  have A6 := Aside0.mk A60
  clear A60
  have HC7 := Aside0.mk H
  clear H
  go_enter Try.func4, Try.ntmps4
  go_upto_region 6 with (first | ((with_reducible refine gate_callee (f := 8) rfl ?_); refine goesL_ (some 18) rfl rfl Try.func8 (by kernel_rfl) rfl #[.slice A0 l0.length c0] rfl (by (try simp only [List.map_toArray, List.map_cons, List.map_nil]); first | done | rfl) ?_; (with_reducible refine (laws_toIntS.calls k _ _ l0 t259 _ ?side1 ?side2 A3.out).mono ?_); (case side1 => repeat (first | exact HR0.out | (with_reducible refine Kd.C_alloc ?_ _) | (with_reducible refine Kd.C_drewN ?_ _) | (with_reducible refine Kd.C_drew ?_))); (case side2 => exact HC0.out); rintro e w8 ⟨v260, rfl, ho0, hb⟩; refine ⟨_, rfl, ?_⟩; have n0_ := Aside0.mk (Kd.R_lower ho0 (below_size (by repeat (first | (with_reducible first | exact HB.out | apply below_alloc | apply pw_below_drewN | apply below_drew1))))); have n1_ := Aside0.mk (below_step (by repeat (first | (with_reducible first | exact HB.out | apply below_alloc | apply pw_below_drewN | apply below_drew1))) hb); clear HB; have HO261 := n0_; have HB := n1_; clear n0_ n1_; (try clear hb); (try clear hb2); (try clear hk); (try clear hi); (try clear ho0); obtain ⟨Ao9, co9, eo9⟩ := Kd.R_slice HO261.out; subst eo9) | ((with_reducible refine gate_callee (f := 15) rfl ?_); refine goesL_ (some 19) rfl rfl Try.func15 (by kernel_rfl) rfl #[.slice Ao9 t259.length co9] rfl (by (try simp only [List.map_toArray, List.map_cons, List.map_nil]); first | done | rfl) ?_; (with_reducible refine (spec_BuildGraph.calls k _ _ t259 t262 t263 t266 _ ?side1 ?side2 A4.out).mono ?_); (case side1 => repeat (first | exact (Kd.R_reads' HO261.out).2.2 | (with_reducible refine Kd.C_alloc ?_ _) | (with_reducible refine Kd.C_drewN ?_ _) | (with_reducible refine Kd.C_drew ?_))); (case side2 => exact (Kd.R_reads' HO261.out).2.1); rintro e w10 ⟨v264, rfl, ho0, hb⟩; refine ⟨_, rfl, ?_⟩; have n0_ := Aside0.mk (Kd.R_elder' (by (with_reducible repeat (first | apply Kd.R_alloc | apply Kd.R_drewN | apply Kd.R_drew)); exact HO261.out) (Kd.R_base ho0) hb); have n1_ := Aside0.mk (Kd.R_lower (Kd.R_new' ho0 (Kd.R_lt (by (with_reducible repeat (first | apply Kd.R_alloc | apply Kd.R_drewN | apply Kd.R_drew)); exact HO261.out))) (below_size (by repeat (first | (with_reducible first | exact HB.out | apply below_alloc | apply pw_below_drewN | apply below_drew1))))); have n2_ := Aside0.mk (below_step (by repeat (first | (with_reducible first | exact HB.out | apply below_alloc | apply pw_below_drewN | apply below_drew1))) hb); clear HO261; clear HB; have HO261 := n0_; have HO265 := n1_; have HB := n2_; clear n0_ n1_ n2_; (try clear hb); (try clear hb2); (try clear hk); (try clear hi); (try clear ho0)) | ((with_reducible refine gate_dst (N := 3) rfl ?_); refine box_event ?hg (N := 3) ?hd (cs := #[.int .i64 0, .slice none 0 0]) (t := 33) ?hr ?_; (case hd => rfl); (case hg => rfl); (case hr => first | (go_simp; done) | (go_simp; rfl)); intro gb267 hg w11 hbox hb; have n0_ := Aside0.mk (Kd.R_below (by (with_reducible repeat (first | apply Kd.R_alloc | apply Kd.R_drewN | apply Kd.R_drew)); exact HO261.out) hb); have n1_ := Aside0.mk (Kd.R_below (by (with_reducible repeat (first | apply Kd.R_alloc | apply Kd.R_drewN | apply Kd.R_drew)); exact HO265.out) hb); have n2_ := Aside0.mk (below_step (by repeat (first | (with_reducible first | exact HB.out | apply below_alloc | apply pw_below_drewN | apply below_drew1))) hb); have n3_ := Aside0.mk (hbox); have n4_ := Aside0.mk ((by rw [hg]; exact (below_size (by repeat (first | (with_reducible first | exact HB.out | apply below_alloc | apply pw_below_drewN | apply below_drew1)))) : w.heap.size ≤ gb267)); have n5_ := Aside0.mk ((by rw [hg]; exact (below_size (by repeat (first | (with_reducible first | exact HB.out | apply below_alloc | apply pw_below_drewN | apply below_drew1)))) : w.heap.size ≤ gb267)); clear HO261; clear HO265; clear HB; have HO261 := n0_; have HO265 := n1_; have HB := n2_; have BK267 := n3_; have GW267 := n4_; have GE267 := n5_; clear n0_ n1_ n2_ n3_ n4_ n5_; clear hb hbox hg; have hcz12_0 : w11.cell? ⟨gb267, 0, none⟩ = some (.int .i64 0) := (blk_cell BK267.out 0).trans rfl; have hcz12_1 : w11.cell? ⟨gb267, 1, none⟩ = some (.slice none 0 0) := (blk_cell BK267.out 1).trans rfl; have hfz12_0 := blk_frozen BK267.out 0; have hfz12_1 := blk_frozen BK267.out 1; obtain ⟨Ao13, co13, eo13⟩ := Kd.R_slice HO265.out; subst eo13) | ((with_reducible refine gate_callee (f := 8) rfl ?_); refine goesL_ (some 23) rfl rfl Try.func8 (by kernel_rfl) rfl #[.slice A0 l0.length c0] rfl (by (try simp only [List.map_toArray, List.map_cons, List.map_nil]); first | done | rfl) ?_; (with_reducible refine (laws_toIntS.calls k _ _ l0 t268 _ ?side1 ?side2 A5.out).mono ?_); (case side1 => exact Kd.C_below HR0.out (by repeat (first | (with_reducible first | exact HB.out | apply below_alloc | apply pw_below_drewN | apply below_drew1 | refine below_set ?_ GE267.out) | exact HB.out))); (case side2 => exact HC0.out); rintro e w14 ⟨v269, rfl, ho0, hb⟩; refine ⟨_, rfl, ?_⟩; have n0_ := Aside0.mk (Kd.R_elder' (by (with_reducible repeat (first | apply Kd.R_alloc | apply Kd.R_drewN | apply Kd.R_drew)); exact (Kd.R_mono (Kd.R_far (p := ⟨gb267, 1, none⟩) (Kd.R_far (p := ⟨gb267, 0, none⟩) (Kd.R_types HO261.out BK267.out (by decide)) (fun _ hk => hk.2) (.int .i64 t262)) (fun _ hk => hk.2) (.slice Ao13 t263.length co13)) (fun _ h_ => h_.1))) (Kd.R_base ho0) hb); have n1_ := Aside0.mk (Kd.R_elder' (by (with_reducible repeat (first | apply Kd.R_alloc | apply Kd.R_drewN | apply Kd.R_drew)); exact (Kd.R_mono (Kd.R_far (p := ⟨gb267, 1, none⟩) (Kd.R_far (p := ⟨gb267, 0, none⟩) (Kd.R_types HO265.out BK267.out (by decide)) (fun _ hk => hk.2) (.int .i64 t262)) (fun _ hk => hk.2) (.slice Ao13 t263.length co13)) (fun _ h_ => h_.1))) (Kd.R_base ho0) hb); have n2_ := Aside0.mk (Kd.R_lower (Kd.R_new' (Kd.R_new' ho0 (Kd.R_lt (by (with_reducible repeat (first | apply Kd.R_alloc | apply Kd.R_drewN | apply Kd.R_drew)); exact (Kd.R_mono (Kd.R_far (p := ⟨gb267, 1, none⟩) (Kd.R_far (p := ⟨gb267, 0, none⟩) (Kd.R_types HO261.out BK267.out (by decide)) (fun _ hk => hk.2) (.int .i64 t262)) (fun _ hk => hk.2) (.slice Ao13 t263.length co13)) (fun _ h_ => h_.1))))) (Kd.R_lt (by (with_reducible repeat (first | apply Kd.R_alloc | apply Kd.R_drewN | apply Kd.R_drew)); exact (Kd.R_mono (Kd.R_far (p := ⟨gb267, 1, none⟩) (Kd.R_far (p := ⟨gb267, 0, none⟩) (Kd.R_types HO265.out BK267.out (by decide)) (fun _ hk => hk.2) (.int .i64 t262)) (fun _ hk => hk.2) (.slice Ao13 t263.length co13)) (fun _ h_ => h_.1))))) (below_size (by repeat (first | (with_reducible first | exact HB.out | apply below_alloc | apply pw_below_drewN | apply below_drew1 | refine below_set ?_ GE267.out) | exact HB.out)))); have n3_ := Aside0.mk (blk_below (g := gb267) (o := .cells #[.int .i64 t262, .slice Ao13 t263.length co13] 33 (0, 0)) (by (with_reducible repeat (first | refine blk_drewN ?_ _ | refine blk_drew ?_ | refine blk_alloc ?_ _)); refine blk_put (cs := #[.int .i64 t262, .slice none 0 0]) ?_ 1 _ rfl; (with_reducible repeat (first | refine blk_drewN ?_ _ | refine blk_drew ?_ | refine blk_alloc ?_ _)); refine blk_put (cs := #[.int .i64 0, .slice none 0 0]) ?_ 0 _ rfl; (with_reducible repeat (first | refine blk_drewN ?_ _ | refine blk_drew ?_ | refine blk_alloc ?_ _)); exact BK267.out) hb); have n4_ := Aside0.mk (below_step (by repeat (first | (with_reducible first | exact HB.out | apply below_alloc | apply pw_below_drewN | apply below_drew1 | refine below_set ?_ GE267.out) | exact HB.out)) hb); clear HO261; clear HO265; clear BK267; clear HB; have HO261 := n0_; have HO265 := n1_; have HO270 := n2_; have BK267 := n3_; have HB := n4_; clear n0_ n1_ n2_ n3_ n4_; (try clear hb); (try clear hb2); (try clear hk); (try clear hi); (try clear ho0); obtain ⟨Ao15, co15, eo15⟩ := Kd.R_slice HO270.out; subst eo15) | ((with_reducible refine gate_callee (f := 16) rfl ?_); refine goesL_ (some 26) rfl rfl Try.func16 (by kernel_rfl) rfl #[.slice Ao15 t268.length co15] rfl (by (try simp only [List.map_toArray, List.map_cons, List.map_nil]); first | done | rfl) ?_; (with_reducible refine (impl_BuildGraph.calls k _ _ t268 t271 t272 t275 _ ?side1 ?side2 A6.out).mono ?_); (case side1 => repeat (first | exact (Kd.R_reads' HO270.out).2.2 | (with_reducible refine Kd.C_alloc ?_ _) | (with_reducible refine Kd.C_drewN ?_ _) | (with_reducible refine Kd.C_drew ?_))); (case side2 => exact (Kd.R_reads' HO270.out).2.1); rintro e w16 ⟨v273, rfl, ho0, hb⟩; refine ⟨_, rfl, ?_⟩; have n0_ := Aside0.mk (Kd.R_elder' (by (with_reducible repeat (first | apply Kd.R_alloc | apply Kd.R_drewN | apply Kd.R_drew)); exact HO261.out) (Kd.R_base ho0) hb); have n1_ := Aside0.mk (Kd.R_elder' (by (with_reducible repeat (first | apply Kd.R_alloc | apply Kd.R_drewN | apply Kd.R_drew)); exact HO265.out) (Kd.R_base ho0) hb); have n2_ := Aside0.mk (Kd.R_elder' (by (with_reducible repeat (first | apply Kd.R_alloc | apply Kd.R_drewN | apply Kd.R_drew)); exact HO270.out) (Kd.R_base ho0) hb); have n3_ := Aside0.mk (Kd.R_lower (Kd.R_new' (Kd.R_new' (Kd.R_new' ho0 (Kd.R_lt (by (with_reducible repeat (first | apply Kd.R_alloc | apply Kd.R_drewN | apply Kd.R_drew)); exact HO261.out))) (Kd.R_lt (by (with_reducible repeat (first | apply Kd.R_alloc | apply Kd.R_drewN | apply Kd.R_drew)); exact HO265.out))) (Kd.R_lt (by (with_reducible repeat (first | apply Kd.R_alloc | apply Kd.R_drewN | apply Kd.R_drew)); exact HO270.out))) (below_size (by repeat (first | (with_reducible first | exact HB.out | apply below_alloc | apply pw_below_drewN | apply below_drew1 | refine below_set ?_ GE267.out) | exact HB.out)))); have n4_ := Aside0.mk (blk_below (g := gb267) (o := .cells #[.int .i64 t262, .slice Ao13 t263.length co13] 33 (0, 0)) (by (with_reducible repeat (first | refine blk_drewN ?_ _ | refine blk_drew ?_ | refine blk_alloc ?_ _)); exact BK267.out) hb); have n5_ := Aside0.mk (below_step (by repeat (first | (with_reducible first | exact HB.out | apply below_alloc | apply pw_below_drewN | apply below_drew1 | refine below_set ?_ GE267.out) | exact HB.out)) hb); clear HO261; clear HO265; clear HO270; clear BK267; clear HB; have HO261 := n0_; have HO265 := n1_; have HO270 := n2_; have HO274 := n3_; have BK267 := n4_; have HB := n5_; clear n0_ n1_ n2_ n3_ n4_ n5_; (try clear hb); (try clear hb2); (try clear hk); (try clear hi); (try clear ho0)) | ((with_reducible refine gate_dst (N := 6) rfl ?_); refine box_event ?hg (N := 6) ?hd (cs := #[.int .i64 0, .slice none 0 0]) (t := 33) ?hr ?_; (case hd => rfl); (case hg => rfl); (case hr => first | (go_simp; done) | (go_simp; rfl)); intro gb276 hg w17 hbox hb; have n0_ := Aside0.mk (Kd.R_below (by (with_reducible repeat (first | apply Kd.R_alloc | apply Kd.R_drewN | apply Kd.R_drew)); exact HO261.out) hb); have n1_ := Aside0.mk (Kd.R_below (by (with_reducible repeat (first | apply Kd.R_alloc | apply Kd.R_drewN | apply Kd.R_drew)); exact HO265.out) hb); have n2_ := Aside0.mk (Kd.R_below (by (with_reducible repeat (first | apply Kd.R_alloc | apply Kd.R_drewN | apply Kd.R_drew)); exact HO270.out) hb); have n3_ := Aside0.mk (Kd.R_below (by (with_reducible repeat (first | apply Kd.R_alloc | apply Kd.R_drewN | apply Kd.R_drew)); exact HO274.out) hb); have n4_ := Aside0.mk (blk_below (g := gb267) (o := .cells #[.int .i64 t262, .slice Ao13 t263.length co13] 33 (0, 0)) (by (with_reducible repeat (first | refine blk_drewN ?_ _ | refine blk_drew ?_ | refine blk_alloc ?_ _)); exact BK267.out) hb); have n5_ := Aside0.mk (below_step (by repeat (first | (with_reducible first | exact HB.out | apply below_alloc | apply pw_below_drewN | apply below_drew1 | refine below_set ?_ GE267.out) | exact HB.out)) hb); have n6_ := Aside0.mk (hbox); have n7_ := Aside0.mk ((by rw [hg]; exact (below_size (by repeat (first | (with_reducible first | exact HB.out | apply below_alloc | apply pw_below_drewN | apply below_drew1 | refine below_set ?_ GE267.out) | exact HB.out))) : w.heap.size ≤ gb276)); have n8_ := Aside0.mk ((by rw [hg]; exact (below_size (by repeat (first | (with_reducible first | exact HB.out | apply below_alloc | apply pw_below_drewN | apply below_drew1 | refine below_set ?_ GE267.out) | exact HB.out))) : w.heap.size ≤ gb276)); have n9_ := Aside0.mk ((by rw [hg]; exact Nat.ne_of_lt (blk_lt (g := gb267) (o := .cells #[.int .i64 t262, .slice Ao13 t263.length co13] 33 (0, 0)) (by (with_reducible repeat (first | refine blk_drewN ?_ _ | refine blk_drew ?_ | refine blk_alloc ?_ _)); exact BK267.out)) : gb267 ≠ gb276)); have n10_ := Aside0.mk ((by rw [hg]; exact Nat.ne_of_gt (blk_lt (g := gb267) (o := .cells #[.int .i64 t262, .slice Ao13 t263.length co13] 33 (0, 0)) (by (with_reducible repeat (first | refine blk_drewN ?_ _ | refine blk_drew ?_ | refine blk_alloc ?_ _)); exact BK267.out)) : gb276 ≠ gb267)); clear HO261; clear HO265; clear HO270; clear HO274; clear BK267; clear HB; have HO261 := n0_; have HO265 := n1_; have HO270 := n2_; have HO274 := n3_; have BK267 := n4_; have HB := n5_; have BK276 := n6_; have GW276 := n7_; have GE276 := n8_; have NB267_276 := n9_; have NB276_267 := n10_; clear n0_ n1_ n2_ n3_ n4_ n5_ n6_ n7_ n8_ n9_ n10_; clear hb hbox hg; have hnb18 := NB276_267.out; have hnc18 := NB267_276.out; have hcz19_0 : w17.cell? ⟨gb276, 0, none⟩ = some (.int .i64 0) := (blk_cell BK276.out 0).trans rfl; have hcz19_1 : w17.cell? ⟨gb276, 1, none⟩ = some (.slice none 0 0) := (blk_cell BK276.out 1).trans rfl; have hfz19_0 := blk_frozen BK276.out 0; have hfz19_1 := blk_frozen BK276.out 1; obtain ⟨Ao20, co20, eo20⟩ := Kd.R_slice HO274.out; subst eo20))
  (try simp only [Act.put, List.setIfInBounds_toArray, List.set_cons_zero, List.set_cons_succ])
  go_cut [37] (fun v37 wc => ∃ (kq : Nat) (x37_6 : Bool), v37 = .bool x37_6 ∧ Aside0 (laws_FnExactBuildGraph.j0 kq l0 t266 t268 t275 x37_6 t262 t263 t271 t272 = some r) ∧ Aside0 (kq ≤ k) ∧ Aside0 (Kd.R (Kd.int .i64) 3 wc w.heap.size (fun k_ => some k_ ≠ ((.slice Ao13 t263.length co13) : Value).ownBlock ∧ some k_ ≠ ((.slice Ao20 t272.length co20) : Value).ownBlock) (.slice Ao15 t268.length co15) t268) ∧ Aside0 (Kd.R (Kd.int .i64) 3 wc w.heap.size (fun k_ => some k_ ≠ ((.slice Ao15 t268.length co15) : Value).ownBlock ∧ some k_ ≠ ((.slice Ao20 t272.length co20) : Value).ownBlock) (.slice Ao13 t263.length co13) t263) ∧ Aside0 (Kd.R (Kd.int .i64) 3 wc w.heap.size (fun k_ => some k_ ≠ ((.slice Ao15 t268.length co15) : Value).ownBlock ∧ some k_ ≠ ((.slice Ao13 t263.length co13) : Value).ownBlock) (.slice Ao20 t272.length co20) t272) ∧ Aside0 (wc.heap[gb267]? = some (.cells #[.int .i64 t262, (.slice Ao13 t263.length co13)] 33 (0, 0))) ∧ Aside0 (wc.heap[gb276]? = some (.cells #[.int .i64 t271, (.slice Ao20 t272.length co20)] 33 (0, 0))) ∧ Aside0 (Below w.heap.size w wc))
  case first =>
   have H := HC7.out
   clear HC7
   replace H := Option.bind_eq_some_iff.mp H
   obtain ⟨t277, A210, H⟩ := H
   replace H : (if t277 = true then (laws_FnExactBuildGraph.j0 k l0 t266 t268 t275 (t275 != t266) t262 t263 t271 t272) else (laws_FnExactBuildGraph.j0 k l0 t266 t268 t275 true t262 t263 t271 t272)) = some r := H
   have A21 := Aside0.mk A210
   clear A210
   by_cases c22 : t277 = true
   ·
    subst c22
    have H1 : (laws_FnExactBuildGraph.j0 k l0 t266 t268 t275 (t275 != t266) t262 t263 t271 t272) = some r := by rw [if_pos rfl] at H; exact H
    clear H
    have H := H1
    clear H1
    have H' := Aside0.mk H
    clear H
    have hnb23 := NB276_267.out
    have hnc23 := NB267_276.out
    have hcz24_0 : w17.cell? ⟨gb276, 0, none⟩ = some (.int .i64 0) := (blk_cell BK276.out 0).trans rfl
    have hcz24_1 : w17.cell? ⟨gb276, 1, none⟩ = some (.slice none 0 0) := (blk_cell BK276.out 1).trans rfl
    have hfz24_0 := blk_frozen BK276.out 0
    have hfz24_1 := blk_frozen BK276.out 1
    have hcz25_0 : w17.cell? ⟨gb267, 0, none⟩ = some (.int .i64 t262) := (blk_cell BK267.out 0).trans rfl
    have hcz25_1 : w17.cell? ⟨gb267, 1, none⟩ = some (.slice Ao13 t263.length co13) := (blk_cell BK267.out 1).trans rfl
    have hfz25_0 := blk_frozen BK267.out 0
    have hfz25_1 := blk_frozen BK267.out 1
    go_wp2_with (first | ((with_reducible refine gate_callee (f := 17) rfl ?_); refine goesL_ (some 31) rfl rfl Try.func17 (by kernel_rfl) rfl #[.agg #[.int .i64 t271, .slice Ao20 t272.length co20], .agg #[.int .i64 t262, .slice Ao13 t263.length co13]] rfl (by (try simp only [List.map_toArray, List.map_cons, List.map_nil]); first | done | rfl) ?_; (with_reducible refine (laws_eqGraph.calls k t271 _ _ t272 t262 _ _ t263 true _ ?side1 ?side2 ?side3 ?side4 A21.out).mono ?_); (case side1 => refine (Kd.R_reads' (e := 3) (base := w.heap.size) (ok := fun k_ => (((True ∧ some k_ ≠ (.slice Ao9 t259.length co9 : Value).ownBlock) ∧ some k_ ≠ (.slice Ao13 t263.length co13 : Value).ownBlock) ∧ some k_ ≠ (.slice Ao15 t268.length co15 : Value).ownBlock)) (n := t272.length) (c := co20) ?_).2.2; exact (by (with_reducible repeat (first | apply Kd.R_alloc | apply Kd.R_drewN | apply Kd.R_drew)); exact (Kd.R_mono (Kd.R_far (p := ⟨gb276, 1, none⟩) (Kd.R_far (p := ⟨gb276, 0, none⟩) (Kd.R_types HO274.out BK276.out (by decide)) (fun _ hk => hk.2) (.int .i64 t271)) (fun _ hk => hk.2) (.slice Ao20 t272.length co20)) (fun _ h_ => h_.1)))); (case side2 => exact (Kd.R_reads' HO274.out).2.1); (case side3 => refine (Kd.R_reads' (e := 3) (base := w.heap.size) (ok := fun k_ => (((True ∧ some k_ ≠ (.slice Ao9 t259.length co9 : Value).ownBlock) ∧ some k_ ≠ (.slice Ao15 t268.length co15 : Value).ownBlock) ∧ some k_ ≠ (.slice Ao20 t272.length co20 : Value).ownBlock)) (n := t263.length) (c := co13) ?_).2.2; exact (by (with_reducible repeat (first | apply Kd.R_alloc | apply Kd.R_drewN | apply Kd.R_drew)); exact (Kd.R_mono (Kd.R_far (p := ⟨gb276, 1, none⟩) (Kd.R_far (p := ⟨gb276, 0, none⟩) (Kd.R_types HO265.out BK276.out (by decide)) (fun _ hk => hk.2) (.int .i64 t271)) (fun _ hk => hk.2) (.slice Ao20 t272.length co20)) (fun _ h_ => h_.1)))); (case side4 => exact (Kd.R_reads' HO265.out).2.1); rintro e w26 ⟨rfl, hb⟩; refine ⟨_, rfl, ?_⟩; have n0_ := Aside0.mk (Kd.R_below (by (with_reducible repeat (first | apply Kd.R_alloc | apply Kd.R_drewN | apply Kd.R_drew)); exact (Kd.R_mono (Kd.R_far (p := ⟨gb276, 1, none⟩) (Kd.R_far (p := ⟨gb276, 0, none⟩) (Kd.R_types HO261.out BK276.out (by decide)) (fun _ hk => hk.2) (.int .i64 t271)) (fun _ hk => hk.2) (.slice Ao20 t272.length co20)) (fun _ h_ => h_.1))) hb); have n1_ := Aside0.mk (Kd.R_below (by (with_reducible repeat (first | apply Kd.R_alloc | apply Kd.R_drewN | apply Kd.R_drew)); exact (Kd.R_mono (Kd.R_far (p := ⟨gb276, 1, none⟩) (Kd.R_far (p := ⟨gb276, 0, none⟩) (Kd.R_types HO265.out BK276.out (by decide)) (fun _ hk => hk.2) (.int .i64 t271)) (fun _ hk => hk.2) (.slice Ao20 t272.length co20)) (fun _ h_ => h_.1))) hb); have n2_ := Aside0.mk (Kd.R_below (by (with_reducible repeat (first | apply Kd.R_alloc | apply Kd.R_drewN | apply Kd.R_drew)); exact (Kd.R_mono (Kd.R_far (p := ⟨gb276, 1, none⟩) (Kd.R_far (p := ⟨gb276, 0, none⟩) (Kd.R_types HO270.out BK276.out (by decide)) (fun _ hk => hk.2) (.int .i64 t271)) (fun _ hk => hk.2) (.slice Ao20 t272.length co20)) (fun _ h_ => h_.1))) hb); have n3_ := Aside0.mk (Kd.R_below (by (with_reducible repeat (first | apply Kd.R_alloc | apply Kd.R_drewN | apply Kd.R_drew)); exact (Kd.R_mono (Kd.R_far (p := ⟨gb276, 1, none⟩) (Kd.R_far (p := ⟨gb276, 0, none⟩) (Kd.R_types HO274.out BK276.out (by decide)) (fun _ hk => hk.2) (.int .i64 t271)) (fun _ hk => hk.2) (.slice Ao20 t272.length co20)) (fun _ h_ => h_.1))) hb); have n4_ := Aside0.mk (blk_below (g := gb267) (o := .cells #[.int .i64 t262, .slice Ao13 t263.length co13] 33 (0, 0)) (by (with_reducible repeat (first | refine blk_drewN ?_ _ | refine blk_drew ?_ | refine blk_alloc ?_ _)); refine blk_far ?_ NB267_276.out _; (with_reducible repeat (first | refine blk_drewN ?_ _ | refine blk_drew ?_ | refine blk_alloc ?_ _)); refine blk_far ?_ NB267_276.out _; (with_reducible repeat (first | refine blk_drewN ?_ _ | refine blk_drew ?_ | refine blk_alloc ?_ _)); exact BK267.out) hb); have n5_ := Aside0.mk (blk_below (g := gb276) (o := .cells #[.int .i64 t271, .slice Ao20 t272.length co20] 33 (0, 0)) (by (with_reducible repeat (first | refine blk_drewN ?_ _ | refine blk_drew ?_ | refine blk_alloc ?_ _)); refine blk_put (cs := #[.int .i64 t271, .slice none 0 0]) ?_ 1 _ rfl; (with_reducible repeat (first | refine blk_drewN ?_ _ | refine blk_drew ?_ | refine blk_alloc ?_ _)); refine blk_put (cs := #[.int .i64 0, .slice none 0 0]) ?_ 0 _ rfl; (with_reducible repeat (first | refine blk_drewN ?_ _ | refine blk_drew ?_ | refine blk_alloc ?_ _)); exact BK276.out) hb); have n6_ := Aside0.mk (below_step (by repeat (first | (with_reducible first | exact HB.out | apply below_alloc | apply pw_below_drewN | apply below_drew1 | refine below_set ?_ GE267.out | refine below_set ?_ GE276.out) | exact HB.out)) hb); clear HO261; clear HO265; clear HO270; clear HO274; clear BK267; clear BK276; clear HB; have HO261 := n0_; have HO265 := n1_; have HO270 := n2_; have HO274 := n3_; have BK267 := n4_; have BK276 := n5_; have HB := n6_; clear n0_ n1_ n2_ n3_ n4_ n5_ n6_; (try clear hb); (try clear hb2); (try clear hk); (try clear hi)))
    go_meet
    case rel => exact ⟨_, ((t275 != t266)), (by first | rfl | (simp; done) | (simp [*]; done)), H', ⟨by first | omega | exact Nat.le_refl _⟩, ⟨by (with_reducible repeat (first | apply Kd.R_alloc | apply Kd.R_drewN | apply Kd.R_drew)); exact Kd.R_mono HO270.out (fun _ hk => ⟨hk.1.2, hk.2⟩)⟩, ⟨by (with_reducible repeat (first | apply Kd.R_alloc | apply Kd.R_drewN | apply Kd.R_drew)); exact Kd.R_mono HO265.out (fun _ hk => ⟨hk.1.2, hk.2⟩)⟩, ⟨by (with_reducible repeat (first | apply Kd.R_alloc | apply Kd.R_drewN | apply Kd.R_drew)); exact Kd.R_mono HO274.out (fun _ hk => ⟨hk.2, hk.1.2⟩)⟩, ⟨by (with_reducible repeat (first | refine blk_drewN ?_ _ | refine blk_drew ?_ | refine blk_alloc ?_ _)); exact BK267.out⟩, ⟨by (with_reducible repeat (first | refine blk_drewN ?_ _ | refine blk_drew ?_ | refine blk_alloc ?_ _)); exact BK276.out⟩, ⟨by repeat (first | (with_reducible first | exact HB.out | apply below_alloc | apply pw_below_drewN | apply below_drew1 | refine below_set ?_ GE267.out | refine below_set ?_ GE276.out) | exact HB.out)⟩⟩
   ·
    replace c22 := Bool.eq_false_iff.mpr c22
    subst c22
    have H1 : (laws_FnExactBuildGraph.j0 k l0 t266 t268 t275 true t262 t263 t271 t272) = some r := by rw [if_neg (show ¬ (false = true) by decide)] at H; exact H
    clear H
    have H := H1
    clear H1
    have H' := Aside0.mk H
    clear H
    have hnb27 := NB276_267.out
    have hnc27 := NB267_276.out
    have hcz28_0 : w17.cell? ⟨gb276, 0, none⟩ = some (.int .i64 0) := (blk_cell BK276.out 0).trans rfl
    have hcz28_1 : w17.cell? ⟨gb276, 1, none⟩ = some (.slice none 0 0) := (blk_cell BK276.out 1).trans rfl
    have hfz28_0 := blk_frozen BK276.out 0
    have hfz28_1 := blk_frozen BK276.out 1
    have hcz29_0 : w17.cell? ⟨gb267, 0, none⟩ = some (.int .i64 t262) := (blk_cell BK267.out 0).trans rfl
    have hcz29_1 : w17.cell? ⟨gb267, 1, none⟩ = some (.slice Ao13 t263.length co13) := (blk_cell BK267.out 1).trans rfl
    have hfz29_0 := blk_frozen BK267.out 0
    have hfz29_1 := blk_frozen BK267.out 1
    go_wp2_with (first | ((with_reducible refine gate_callee (f := 17) rfl ?_); refine goesL_ (some 31) rfl rfl Try.func17 (by kernel_rfl) rfl #[.agg #[.int .i64 t271, .slice Ao20 t272.length co20], .agg #[.int .i64 t262, .slice Ao13 t263.length co13]] rfl (by (try simp only [List.map_toArray, List.map_cons, List.map_nil]); first | done | rfl) ?_; (with_reducible refine (laws_eqGraph.calls k t271 _ _ t272 t262 _ _ t263 false _ ?side1 ?side2 ?side3 ?side4 A21.out).mono ?_); (case side1 => refine (Kd.R_reads' (e := 3) (base := w.heap.size) (ok := fun k_ => (((True ∧ some k_ ≠ (.slice Ao9 t259.length co9 : Value).ownBlock) ∧ some k_ ≠ (.slice Ao13 t263.length co13 : Value).ownBlock) ∧ some k_ ≠ (.slice Ao15 t268.length co15 : Value).ownBlock)) (n := t272.length) (c := co20) ?_).2.2; exact (by (with_reducible repeat (first | apply Kd.R_alloc | apply Kd.R_drewN | apply Kd.R_drew)); exact (Kd.R_mono (Kd.R_far (p := ⟨gb276, 1, none⟩) (Kd.R_far (p := ⟨gb276, 0, none⟩) (Kd.R_types HO274.out BK276.out (by decide)) (fun _ hk => hk.2) (.int .i64 t271)) (fun _ hk => hk.2) (.slice Ao20 t272.length co20)) (fun _ h_ => h_.1)))); (case side2 => exact (Kd.R_reads' HO274.out).2.1); (case side3 => refine (Kd.R_reads' (e := 3) (base := w.heap.size) (ok := fun k_ => (((True ∧ some k_ ≠ (.slice Ao9 t259.length co9 : Value).ownBlock) ∧ some k_ ≠ (.slice Ao15 t268.length co15 : Value).ownBlock) ∧ some k_ ≠ (.slice Ao20 t272.length co20 : Value).ownBlock)) (n := t263.length) (c := co13) ?_).2.2; exact (by (with_reducible repeat (first | apply Kd.R_alloc | apply Kd.R_drewN | apply Kd.R_drew)); exact (Kd.R_mono (Kd.R_far (p := ⟨gb276, 1, none⟩) (Kd.R_far (p := ⟨gb276, 0, none⟩) (Kd.R_types HO265.out BK276.out (by decide)) (fun _ hk => hk.2) (.int .i64 t271)) (fun _ hk => hk.2) (.slice Ao20 t272.length co20)) (fun _ h_ => h_.1)))); (case side4 => exact (Kd.R_reads' HO265.out).2.1); rintro e w30 ⟨rfl, hb⟩; refine ⟨_, rfl, ?_⟩; have n0_ := Aside0.mk (Kd.R_below (by (with_reducible repeat (first | apply Kd.R_alloc | apply Kd.R_drewN | apply Kd.R_drew)); exact (Kd.R_mono (Kd.R_far (p := ⟨gb276, 1, none⟩) (Kd.R_far (p := ⟨gb276, 0, none⟩) (Kd.R_types HO261.out BK276.out (by decide)) (fun _ hk => hk.2) (.int .i64 t271)) (fun _ hk => hk.2) (.slice Ao20 t272.length co20)) (fun _ h_ => h_.1))) hb); have n1_ := Aside0.mk (Kd.R_below (by (with_reducible repeat (first | apply Kd.R_alloc | apply Kd.R_drewN | apply Kd.R_drew)); exact (Kd.R_mono (Kd.R_far (p := ⟨gb276, 1, none⟩) (Kd.R_far (p := ⟨gb276, 0, none⟩) (Kd.R_types HO265.out BK276.out (by decide)) (fun _ hk => hk.2) (.int .i64 t271)) (fun _ hk => hk.2) (.slice Ao20 t272.length co20)) (fun _ h_ => h_.1))) hb); have n2_ := Aside0.mk (Kd.R_below (by (with_reducible repeat (first | apply Kd.R_alloc | apply Kd.R_drewN | apply Kd.R_drew)); exact (Kd.R_mono (Kd.R_far (p := ⟨gb276, 1, none⟩) (Kd.R_far (p := ⟨gb276, 0, none⟩) (Kd.R_types HO270.out BK276.out (by decide)) (fun _ hk => hk.2) (.int .i64 t271)) (fun _ hk => hk.2) (.slice Ao20 t272.length co20)) (fun _ h_ => h_.1))) hb); have n3_ := Aside0.mk (Kd.R_below (by (with_reducible repeat (first | apply Kd.R_alloc | apply Kd.R_drewN | apply Kd.R_drew)); exact (Kd.R_mono (Kd.R_far (p := ⟨gb276, 1, none⟩) (Kd.R_far (p := ⟨gb276, 0, none⟩) (Kd.R_types HO274.out BK276.out (by decide)) (fun _ hk => hk.2) (.int .i64 t271)) (fun _ hk => hk.2) (.slice Ao20 t272.length co20)) (fun _ h_ => h_.1))) hb); have n4_ := Aside0.mk (blk_below (g := gb267) (o := .cells #[.int .i64 t262, .slice Ao13 t263.length co13] 33 (0, 0)) (by (with_reducible repeat (first | refine blk_drewN ?_ _ | refine blk_drew ?_ | refine blk_alloc ?_ _)); refine blk_far ?_ NB267_276.out _; (with_reducible repeat (first | refine blk_drewN ?_ _ | refine blk_drew ?_ | refine blk_alloc ?_ _)); refine blk_far ?_ NB267_276.out _; (with_reducible repeat (first | refine blk_drewN ?_ _ | refine blk_drew ?_ | refine blk_alloc ?_ _)); exact BK267.out) hb); have n5_ := Aside0.mk (blk_below (g := gb276) (o := .cells #[.int .i64 t271, .slice Ao20 t272.length co20] 33 (0, 0)) (by (with_reducible repeat (first | refine blk_drewN ?_ _ | refine blk_drew ?_ | refine blk_alloc ?_ _)); refine blk_put (cs := #[.int .i64 t271, .slice none 0 0]) ?_ 1 _ rfl; (with_reducible repeat (first | refine blk_drewN ?_ _ | refine blk_drew ?_ | refine blk_alloc ?_ _)); refine blk_put (cs := #[.int .i64 0, .slice none 0 0]) ?_ 0 _ rfl; (with_reducible repeat (first | refine blk_drewN ?_ _ | refine blk_drew ?_ | refine blk_alloc ?_ _)); exact BK276.out) hb); have n6_ := Aside0.mk (below_step (by repeat (first | (with_reducible first | exact HB.out | apply below_alloc | apply pw_below_drewN | apply below_drew1 | refine below_set ?_ GE267.out | refine below_set ?_ GE276.out) | exact HB.out)) hb); clear HO261; clear HO265; clear HO270; clear HO274; clear BK267; clear BK276; clear HB; have HO261 := n0_; have HO265 := n1_; have HO270 := n2_; have HO274 := n3_; have BK267 := n4_; have BK276 := n5_; have HB := n6_; clear n0_ n1_ n2_ n3_ n4_ n5_ n6_; (try clear hb); (try clear hb2); (try clear hk); (try clear hi)))
    go_meet
    case rel => exact ⟨_, (true), (by first | rfl | (simp; done) | (simp [*]; done)), H', ⟨by first | omega | exact Nat.le_refl _⟩, ⟨by (with_reducible repeat (first | apply Kd.R_alloc | apply Kd.R_drewN | apply Kd.R_drew)); exact Kd.R_mono HO270.out (fun _ hk => ⟨hk.1.2, hk.2⟩)⟩, ⟨by (with_reducible repeat (first | apply Kd.R_alloc | apply Kd.R_drewN | apply Kd.R_drew)); exact Kd.R_mono HO265.out (fun _ hk => ⟨hk.1.2, hk.2⟩)⟩, ⟨by (with_reducible repeat (first | apply Kd.R_alloc | apply Kd.R_drewN | apply Kd.R_drew)); exact Kd.R_mono HO274.out (fun _ hk => ⟨hk.2, hk.1.2⟩)⟩, ⟨by (with_reducible repeat (first | refine blk_drewN ?_ _ | refine blk_drew ?_ | refine blk_alloc ?_ _)); exact BK267.out⟩, ⟨by (with_reducible repeat (first | refine blk_drewN ?_ _ | refine blk_drew ?_ | refine blk_alloc ?_ _)); exact BK276.out⟩, ⟨by repeat (first | (with_reducible first | exact HB.out | apply below_alloc | apply pw_below_drewN | apply below_drew1 | refine below_set ?_ GE267.out | refine below_set ?_ GE276.out) | exact HB.out)⟩⟩
  case rest =>
   clear HC7
   try clear c1
   try clear c2
   try clear c2b0
   try clear c2b1
   try clear p2
   try clear c4
   try clear c8
   try clear c15
   try clear c16
   try clear c17
   try clear c18
   try clear c22
   try clear c23
   try clear c27
   try clear hcz12_0
   try clear hcz12_1
   try clear hcz19_0
   try clear hcz19_1
   try clear hcz24_0
   try clear hcz24_1
   try clear hcz25_0
   try clear hcz25_1
   try clear hcz28_0
   try clear hcz28_1
   try clear hcz29_0
   try clear hcz29_1
   try clear hfz12_0
   try clear hfz12_1
   try clear hfz19_0
   try clear hfz19_1
   try clear hfz24_0
   try clear hfz24_1
   try clear hfz25_0
   try clear hfz25_1
   try clear hfz28_0
   try clear hfz28_1
   try clear hfz29_0
   try clear hfz29_1
   obtain ⟨kq, x37_6, rfl, HA, HJ6, HO_5, HO_268001, HO_277001, BK267, BK276, HB⟩ := hcut
   cases kq with
   | zero => exact absurd HA.out (by simp [laws_FnExactBuildGraph.j0])
   | succ kj6 =>
    have H := HA.out
    clear HA
    simp only [laws_FnExactBuildGraph.j0] at H
    by_cases c31 : x37_6 = true
    ·
     subst c31
     have H1 : (some false) = some r := by rw [if_pos rfl] at H; exact H
     clear H
     have H := H1
     clear H1
     obtain rfl := Option.some.inj H
     go_wp2
     go_ret
     exact ⟨by first | rfl | (simp [errW_none, errW_some] <;> rfl) | (simp [*, errW_none, errW_some] <;> rfl), by repeat (first | (with_reducible first | exact HB.out | apply below_alloc | apply pw_below_drewN | apply below_drew1 | refine below_set ?_ GE267.out | refine below_set ?_ GE276.out) | exact HB.out)⟩
    ·
     replace c31 := Bool.eq_false_iff.mpr c31
     subst c31
     have H1 : ((laws_toIntS.f kj6 l0).bind fun t278 => ((laws_eqIntS.f kj6 t268 t278).bind fun t281 => (if t281 = true then ((laws_markIntS.f kj6 t268 1).bind fun bt282 => (if bt282.1 < 0 then (laws_FnExactBuildGraph.j1 kj6 l0 t266 true t262 t263 t271 t272) else ((laws_eqGraph.f kj6 t271 t272 t262 t263).bind fun t284 => (if t284 = true then (laws_FnExactBuildGraph.j1 kj6 l0 t266 (t275 != t266) t262 t263 t271 t272) else (laws_FnExactBuildGraph.j1 kj6 l0 t266 true t262 t263 t271 t272))))) else (some false)))) = some r := by rw [if_neg (show ¬ (false = true) by decide)] at H; exact H
     clear H
     have H := H1
     clear H1
     replace H := Option.bind_eq_some_iff.mp H
     obtain ⟨t278, A320, H⟩ := H
     replace H : ((laws_eqIntS.f kj6 t268 t278).bind fun t281 => (if t281 = true then ((laws_markIntS.f kj6 t268 1).bind fun bt282 => (if bt282.1 < 0 then (laws_FnExactBuildGraph.j1 kj6 l0 t266 true t262 t263 t271 t272) else ((laws_eqGraph.f kj6 t271 t272 t262 t263).bind fun t284 => (if t284 = true then (laws_FnExactBuildGraph.j1 kj6 l0 t266 (t275 != t266) t262 t263 t271 t272) else (laws_FnExactBuildGraph.j1 kj6 l0 t266 true t262 t263 t271 t272))))) else (some false))) = some r := H
     have A32 := Aside0.mk A320
     clear A320
     replace H := Option.bind_eq_some_iff.mp H
     obtain ⟨t281, A330, H⟩ := H
     replace H : (if t281 = true then ((laws_markIntS.f kj6 t268 1).bind fun bt282 => (if bt282.1 < 0 then (laws_FnExactBuildGraph.j1 kj6 l0 t266 true t262 t263 t271 t272) else ((laws_eqGraph.f kj6 t271 t272 t262 t263).bind fun t284 => (if t284 = true then (laws_FnExactBuildGraph.j1 kj6 l0 t266 (t275 != t266) t262 t263 t271 t272) else (laws_FnExactBuildGraph.j1 kj6 l0 t266 true t262 t263 t271 t272))))) else (some false)) = some r := H
     have A33 := Aside0.mk A330
     clear A330
     by_cases c34 : t281 = true
     ·
      subst c34
      have H1 : ((laws_markIntS.f kj6 t268 1).bind fun bt282 => (if bt282.1 < 0 then (laws_FnExactBuildGraph.j1 kj6 l0 t266 true t262 t263 t271 t272) else ((laws_eqGraph.f kj6 t271 t272 t262 t263).bind fun t284 => (if t284 = true then (laws_FnExactBuildGraph.j1 kj6 l0 t266 (t275 != t266) t262 t263 t271 t272) else (laws_FnExactBuildGraph.j1 kj6 l0 t266 true t262 t263 t271 t272))))) = some r := by rw [if_pos rfl] at H; exact H
      clear H
      have H := H1
      clear H1
      replace H := Option.bind_eq_some_iff.mp H
      obtain ⟨⟨t282, t283⟩, A350, H⟩ := H
      replace H : (if t282 < 0 then (laws_FnExactBuildGraph.j1 kj6 l0 t266 true t262 t263 t271 t272) else ((laws_eqGraph.f kj6 t271 t272 t262 t263).bind fun t284 => (if t284 = true then (laws_FnExactBuildGraph.j1 kj6 l0 t266 (t275 != t266) t262 t263 t271 t272) else (laws_FnExactBuildGraph.j1 kj6 l0 t266 true t262 t263 t271 t272)))) = some r := H
      have A35 := Aside0.mk A350
      clear A350
      have HC36 := Aside0.mk H
      clear H
      go_upto_region 12 with (first | ((with_reducible refine gate_callee (f := 8) rfl ?_); refine goesL_ (some 40) rfl rfl Try.func8 (by kernel_rfl) rfl #[.slice A0 l0.length c0] rfl (by (try simp only [List.map_toArray, List.map_cons, List.map_nil]); first | done | rfl) ?_; (with_reducible refine (laws_toIntS.calls kj6 _ _ l0 t278 _ ?side1 ?side2 A32.out).mono ?_); (case side1 => repeat (first | exact (Kd.C_below HR0.out HB.out) | (with_reducible refine Kd.C_alloc ?_ _) | (with_reducible refine Kd.C_drewN ?_ _) | (with_reducible refine Kd.C_drew ?_))); (case side2 => exact HC0.out); rintro e w37 ⟨v279, rfl, ho0, hb⟩; refine ⟨_, rfl, ?_⟩; have n0_ := Aside0.mk (Kd.R_elder' (by (with_reducible repeat (first | apply Kd.R_alloc | apply Kd.R_drewN | apply Kd.R_drew)); exact HO_5.out) (Kd.R_base ho0) hb); have n1_ := Aside0.mk (Kd.R_elder' (by (with_reducible repeat (first | apply Kd.R_alloc | apply Kd.R_drewN | apply Kd.R_drew)); exact HO_268001.out) (Kd.R_base ho0) hb); have n2_ := Aside0.mk (Kd.R_elder' (by (with_reducible repeat (first | apply Kd.R_alloc | apply Kd.R_drewN | apply Kd.R_drew)); exact HO_277001.out) (Kd.R_base ho0) hb); have n3_ := Aside0.mk (Kd.R_lower (Kd.R_new' (Kd.R_new' (Kd.R_new' ho0 (Kd.R_lt (by (with_reducible repeat (first | apply Kd.R_alloc | apply Kd.R_drewN | apply Kd.R_drew)); exact HO_5.out))) (Kd.R_lt (by (with_reducible repeat (first | apply Kd.R_alloc | apply Kd.R_drewN | apply Kd.R_drew)); exact HO_268001.out))) (Kd.R_lt (by (with_reducible repeat (first | apply Kd.R_alloc | apply Kd.R_drewN | apply Kd.R_drew)); exact HO_277001.out))) (below_size (by repeat (first | (with_reducible first | exact HB.out | apply below_alloc | apply pw_below_drewN | apply below_drew1 | refine below_set ?_ GE267.out | refine below_set ?_ GE276.out) | exact HB.out)))); have n4_ := Aside0.mk (blk_below (g := gb267) (o := .cells #[.int .i64 t262, .slice Ao13 t263.length co13] 33 (0, 0)) (by (with_reducible repeat (first | refine blk_drewN ?_ _ | refine blk_drew ?_ | refine blk_alloc ?_ _)); exact BK267.out) hb); have n5_ := Aside0.mk (blk_below (g := gb276) (o := .cells #[.int .i64 t271, .slice Ao20 t272.length co20] 33 (0, 0)) (by (with_reducible repeat (first | refine blk_drewN ?_ _ | refine blk_drew ?_ | refine blk_alloc ?_ _)); exact BK276.out) hb); have n6_ := Aside0.mk (below_step (by repeat (first | (with_reducible first | exact HB.out | apply below_alloc | apply pw_below_drewN | apply below_drew1 | refine below_set ?_ GE267.out | refine below_set ?_ GE276.out) | exact HB.out)) hb); clear HO_5; clear HO_268001; clear HO_277001; clear BK267; clear BK276; clear HB; have HO_5 := n0_; have HO_268001 := n1_; have HO_277001 := n2_; have HO280 := n3_; have BK267 := n4_; have BK276 := n5_; have HB := n6_; clear n0_ n1_ n2_ n3_ n4_ n5_ n6_; (try clear hb); (try clear hb2); (try clear hk); (try clear hi); (try clear ho0); obtain ⟨Ao38, co38, eo38⟩ := Kd.R_slice HO280.out; subst eo38) | ((with_reducible refine gate_callee (f := 11) rfl ?_); refine goesL_ (some 41) rfl rfl Try.func11 (by kernel_rfl) rfl #[.slice Ao15 t268.length co15, .slice Ao38 t278.length co38] rfl (by (try simp only [List.map_toArray, List.map_cons, List.map_nil]); first | done | rfl) ?_; (with_reducible refine (laws_eqIntS.calls kj6 _ _ t268 _ _ t278 true _ ?side1 ?side2 ?side3 ?side4 A33.out).mono ?_); (case side1 => repeat (first | exact (Kd.R_reads' HO_5.out).2.2 | (with_reducible refine Kd.C_alloc ?_ _) | (with_reducible refine Kd.C_drewN ?_ _) | (with_reducible refine Kd.C_drew ?_))); (case side2 => exact (Kd.R_reads' HO_5.out).2.1); (case side3 => repeat (first | exact (Kd.R_reads' HO280.out).2.2 | (with_reducible refine Kd.C_alloc ?_ _) | (with_reducible refine Kd.C_drewN ?_ _) | (with_reducible refine Kd.C_drew ?_))); (case side4 => exact (Kd.R_reads' HO280.out).2.1); rintro e w' ⟨rfl, ⟨nd, rfl⟩⟩; refine ⟨_, rfl, ?_⟩) | ((with_reducible refine gate_callee (f := 12) rfl ?_); refine goesL_ (some 45) rfl rfl Try.func12 (by kernel_rfl) rfl #[.slice Ao15 t268.length co15, .int .i64 1] rfl (by (try simp only [List.map_toArray, List.map_cons, List.map_nil]); first | done | rfl) ?_; (with_reducible refine (laws_markIntS.calls kj6 (fun k_ => some k_ = (.slice Ao15 t268.length co15 : Value).ownBlock) (.slice Ao15 t268.length co15) t268 1 t282 t283 w _ ?side1 ?side2 A35.out).mono ?_); (case side1 => repeat (first | (with_reducible first | exact HB.out | apply below_alloc | apply pw_below_drewN | apply below_drew1 | refine below_set ?_ GE267.out | refine below_set ?_ GE276.out) | exact HB.out)); (case side2 => exact Kd.R_tight rfl HO_5.out); rintro e w39 ⟨rfl, hy0, hb, hkp⟩; refine ⟨_, rfl, ?_⟩; have n0_ := Aside0.mk (Kd.R_reok rfl hy0 (fun k_ e_ => HO_5.out.1 k_ e_)); have n1_ := Aside0.mk (Kd.R_mono (ok' := fun k_ => some k_ ≠ (.slice Ao15 t268.length co15 : Value).ownBlock ∧ some k_ ≠ (.slice Ao20 t272.length co20 : Value).ownBlock ∧ some k_ ≠ (.slice Ao38 t278.length co38 : Value).ownBlock) (Kd.R_keptB (HO_268001.out) hkp (fun k_ hk_ hs_ => (hk_.1.1) hs_)) (fun k_ hk_ => ⟨hk_.1.1.1, hk_.1.1.2, hk_.1.2⟩)); have n2_ := Aside0.mk (Kd.R_mono (ok' := fun k_ => some k_ ≠ (.slice Ao15 t268.length co15 : Value).ownBlock ∧ some k_ ≠ (.slice Ao13 t263.length co13 : Value).ownBlock ∧ some k_ ≠ (.slice Ao38 t278.length co38 : Value).ownBlock) (Kd.R_keptB (HO_277001.out) hkp (fun k_ hk_ hs_ => (hk_.1.1) hs_)) (fun k_ hk_ => ⟨hk_.1.1.1, hk_.1.1.2, hk_.1.2⟩)); have n3_ := Aside0.mk (blk_kept (by (with_reducible repeat (first | refine blk_drewN ?_ _ | refine blk_drew ?_ | refine blk_alloc ?_ _)); exact BK267.out) hkp (fun hs_ => (fun e_ => (Kd.R_ne HO_5.out BK267.out (by decide)) e_) hs_)); have n4_ := Aside0.mk (blk_kept (by (with_reducible repeat (first | refine blk_drewN ?_ _ | refine blk_drew ?_ | refine blk_alloc ?_ _)); exact BK276.out) hkp (fun hs_ => (fun e_ => (Kd.R_ne HO_5.out BK276.out (by decide)) e_) hs_)); have n5_ := Aside0.mk (Kd.R_mono (ok' := fun k_ => some k_ ≠ (.slice Ao15 t268.length co15 : Value).ownBlock ∧ some k_ ≠ (.slice Ao13 t263.length co13 : Value).ownBlock ∧ some k_ ≠ (.slice Ao20 t272.length co20 : Value).ownBlock) (Kd.R_keptB (HO280.out) hkp (fun k_ hk_ hs_ => (hk_.1.1.2) hs_)) (fun k_ hk_ => ⟨hk_.1.1.1.2, hk_.1.1.2, hk_.1.2⟩)); have n6_ := Aside0.mk (hb); clear HO_5; clear HO_268001; clear HO_277001; clear BK267; clear BK276; clear HO280; clear HB; have HO_5 := n0_; have HO_268001 := n1_; have HO_277001 := n2_; have BK267 := n3_; have BK276 := n4_; have HO280 := n5_; have HB := n6_; clear n0_ n1_ n2_ n3_ n4_ n5_ n6_; (try clear hb); (try clear hkp); (try clear hy0)))
      (try simp only [Act.put, List.setIfInBounds_toArray, List.set_cons_zero, List.set_cons_succ])
      go_cut [58] (fun v58 wc => ∃ (kq : Nat) (x58_35 : Bool), v58 = .bool x58_35 ∧ Aside0 (laws_FnExactBuildGraph.j1 kq l0 t266 x58_35 t262 t263 t271 t272 = some r) ∧ Aside0 (kq ≤ kj6) ∧ Aside0 (Kd.R (Kd.int .i64) 3 wc w.heap.size (fun k_ => some k_ ≠ ((.slice Ao20 t272.length co20) : Value).ownBlock) (.slice Ao13 t263.length co13) t263) ∧ Aside0 (Kd.R (Kd.int .i64) 3 wc w.heap.size (fun k_ => some k_ ≠ ((.slice Ao13 t263.length co13) : Value).ownBlock) (.slice Ao20 t272.length co20) t272) ∧ Aside0 (wc.heap[gb267]? = some (.cells #[.int .i64 t262, (.slice Ao13 t263.length co13)] 33 (0, 0))) ∧ Aside0 (wc.heap[gb276]? = some (.cells #[.int .i64 t271, (.slice Ao20 t272.length co20)] 33 (0, 0))) ∧ Aside0 (Below w.heap.size w wc))
      case first =>
       have H := HC36.out
       clear HC36
       by_cases c40 : t282 < 0
       ·
        rw [if_pos c40] at H
        have c40b0 : decide (t282 < 0) = true := decide_eq_true c40
        clear c40
        (first | rw [c40b0] | (simp only [i64_w, i32_w]; rw [c40b0]) | skip)
        have H' := Aside0.mk H
        clear H
        go_wp2
        go_meet
        case rel => exact ⟨_, (true), (by first | rfl | (simp; done) | (simp [*]; done)), H', ⟨by have := HJ6.out; first | omega | exact Nat.le_refl _⟩, ⟨by (with_reducible repeat (first | apply Kd.R_alloc | apply Kd.R_drewN | apply Kd.R_drew)); exact Kd.R_mono HO_268001.out (fun _ hk => hk.2.1)⟩, ⟨by (with_reducible repeat (first | apply Kd.R_alloc | apply Kd.R_drewN | apply Kd.R_drew)); exact Kd.R_mono HO_277001.out (fun _ hk => hk.2.1)⟩, ⟨by (with_reducible repeat (first | refine blk_drewN ?_ _ | refine blk_drew ?_ | refine blk_alloc ?_ _)); exact BK267.out⟩, ⟨by (with_reducible repeat (first | refine blk_drewN ?_ _ | refine blk_drew ?_ | refine blk_alloc ?_ _)); exact BK276.out⟩, ⟨by repeat (first | (with_reducible first | exact HB.out | apply below_alloc | apply pw_below_drewN | apply below_drew1 | refine below_set ?_ GE267.out | refine below_set ?_ GE276.out) | exact HB.out)⟩⟩
       ·
        rw [if_neg c40] at H
        have c40b0 : decide (t282 < 0) = false := decide_eq_false c40
        clear c40
        (first | rw [c40b0] | (simp only [i64_w, i32_w]; rw [c40b0]) | skip)
        replace H := Option.bind_eq_some_iff.mp H
        obtain ⟨t284, A410, H⟩ := H
        replace H : (if t284 = true then (laws_FnExactBuildGraph.j1 kj6 l0 t266 (t275 != t266) t262 t263 t271 t272) else (laws_FnExactBuildGraph.j1 kj6 l0 t266 true t262 t263 t271 t272)) = some r := H
        have A41 := Aside0.mk A410
        clear A410
        by_cases c42 : t284 = true
        ·
         subst c42
         have H1 : (laws_FnExactBuildGraph.j1 kj6 l0 t266 (t275 != t266) t262 t263 t271 t272) = some r := by rw [if_pos rfl] at H; exact H
         clear H
         have H := H1
         clear H1
         have H' := Aside0.mk H
         clear H
         have hnb43 := NB276_267.out
         have hnc43 := NB267_276.out
         have hcz44_0 : w39.cell? ⟨gb276, 0, none⟩ = some (.int .i64 t271) := (blk_cell BK276.out 0).trans rfl
         have hcz44_1 : w39.cell? ⟨gb276, 1, none⟩ = some (.slice Ao20 t272.length co20) := (blk_cell BK276.out 1).trans rfl
         have hfz44_0 := blk_frozen BK276.out 0
         have hfz44_1 := blk_frozen BK276.out 1
         have hcz45_0 : w39.cell? ⟨gb267, 0, none⟩ = some (.int .i64 t262) := (blk_cell BK267.out 0).trans rfl
         have hcz45_1 : w39.cell? ⟨gb267, 1, none⟩ = some (.slice Ao13 t263.length co13) := (blk_cell BK267.out 1).trans rfl
         have hfz45_0 := blk_frozen BK267.out 0
         have hfz45_1 := blk_frozen BK267.out 1
         go_wp2_with (first | (go_at_call 17; (with_reducible refine (laws_eqGraph.calls kj6 t271 _ _ t272 t262 _ _ t263 true _ ?side1 ?side2 ?side3 ?side4 A41.out).mono ?_); (case side1 => repeat (first | exact (Kd.R_reads' HO_277001.out).2.2 | (with_reducible refine Kd.C_alloc ?_ _) | (with_reducible refine Kd.C_drewN ?_ _) | (with_reducible refine Kd.C_drew ?_))); (case side2 => exact (Kd.R_reads' HO_277001.out).2.1); (case side3 => repeat (first | exact (Kd.R_reads' HO_268001.out).2.2 | (with_reducible refine Kd.C_alloc ?_ _) | (with_reducible refine Kd.C_drewN ?_ _) | (with_reducible refine Kd.C_drew ?_))); (case side4 => exact (Kd.R_reads' HO_268001.out).2.1); rintro e w46 ⟨rfl, hb⟩; have n0_ := Aside0.mk (Kd.R_below (by (with_reducible repeat (first | apply Kd.R_alloc | apply Kd.R_drewN | apply Kd.R_drew)); exact HO_5.out) hb); have n1_ := Aside0.mk (Kd.R_below (by (with_reducible repeat (first | apply Kd.R_alloc | apply Kd.R_drewN | apply Kd.R_drew)); exact HO_268001.out) hb); have n2_ := Aside0.mk (Kd.R_below (by (with_reducible repeat (first | apply Kd.R_alloc | apply Kd.R_drewN | apply Kd.R_drew)); exact HO_277001.out) hb); have n3_ := Aside0.mk (Kd.R_below (by (with_reducible repeat (first | apply Kd.R_alloc | apply Kd.R_drewN | apply Kd.R_drew)); exact HO280.out) hb); have n4_ := Aside0.mk (blk_below (g := gb267) (o := .cells #[.int .i64 t262, .slice Ao13 t263.length co13] 33 (0, 0)) (by (with_reducible repeat (first | refine blk_drewN ?_ _ | refine blk_drew ?_ | refine blk_alloc ?_ _)); exact BK267.out) hb); have n5_ := Aside0.mk (blk_below (g := gb276) (o := .cells #[.int .i64 t271, .slice Ao20 t272.length co20] 33 (0, 0)) (by (with_reducible repeat (first | refine blk_drewN ?_ _ | refine blk_drew ?_ | refine blk_alloc ?_ _)); exact BK276.out) hb); have n6_ := Aside0.mk (below_step (by repeat (first | (with_reducible first | exact HB.out | apply below_alloc | apply pw_below_drewN | apply below_drew1 | refine below_set ?_ GE267.out | refine below_set ?_ GE276.out) | exact HB.out)) hb); clear HO_5; clear HO_268001; clear HO_277001; clear HO280; clear BK267; clear BK276; clear HB; have HO_5 := n0_; have HO_268001 := n1_; have HO_277001 := n2_; have HO280 := n3_; have BK267 := n4_; have BK276 := n5_; have HB := n6_; clear n0_ n1_ n2_ n3_ n4_ n5_ n6_; (try clear hb); (try clear hb2); (try clear hk); (try clear hi)))
         go_meet
         case rel => exact ⟨_, ((t275 != t266)), (by first | rfl | (simp; done) | (simp [*]; done)), H', ⟨by have := HJ6.out; first | omega | exact Nat.le_refl _⟩, ⟨by (with_reducible repeat (first | apply Kd.R_alloc | apply Kd.R_drewN | apply Kd.R_drew)); exact Kd.R_mono HO_268001.out (fun _ hk => hk.2.1)⟩, ⟨by (with_reducible repeat (first | apply Kd.R_alloc | apply Kd.R_drewN | apply Kd.R_drew)); exact Kd.R_mono HO_277001.out (fun _ hk => hk.2.1)⟩, ⟨by (with_reducible repeat (first | refine blk_drewN ?_ _ | refine blk_drew ?_ | refine blk_alloc ?_ _)); exact BK267.out⟩, ⟨by (with_reducible repeat (first | refine blk_drewN ?_ _ | refine blk_drew ?_ | refine blk_alloc ?_ _)); exact BK276.out⟩, ⟨by repeat (first | (with_reducible first | exact HB.out | apply below_alloc | apply pw_below_drewN | apply below_drew1 | refine below_set ?_ GE267.out | refine below_set ?_ GE276.out) | exact HB.out)⟩⟩
        ·
         replace c42 := Bool.eq_false_iff.mpr c42
         subst c42
         have H1 : (laws_FnExactBuildGraph.j1 kj6 l0 t266 true t262 t263 t271 t272) = some r := by rw [if_neg (show ¬ (false = true) by decide)] at H; exact H
         clear H
         have H := H1
         clear H1
         have H' := Aside0.mk H
         clear H
         have hnb47 := NB276_267.out
         have hnc47 := NB267_276.out
         have hcz48_0 : w39.cell? ⟨gb276, 0, none⟩ = some (.int .i64 t271) := (blk_cell BK276.out 0).trans rfl
         have hcz48_1 : w39.cell? ⟨gb276, 1, none⟩ = some (.slice Ao20 t272.length co20) := (blk_cell BK276.out 1).trans rfl
         have hfz48_0 := blk_frozen BK276.out 0
         have hfz48_1 := blk_frozen BK276.out 1
         have hcz49_0 : w39.cell? ⟨gb267, 0, none⟩ = some (.int .i64 t262) := (blk_cell BK267.out 0).trans rfl
         have hcz49_1 : w39.cell? ⟨gb267, 1, none⟩ = some (.slice Ao13 t263.length co13) := (blk_cell BK267.out 1).trans rfl
         have hfz49_0 := blk_frozen BK267.out 0
         have hfz49_1 := blk_frozen BK267.out 1
         go_wp2_with (first | (go_at_call 17; (with_reducible refine (laws_eqGraph.calls kj6 t271 _ _ t272 t262 _ _ t263 false _ ?side1 ?side2 ?side3 ?side4 A41.out).mono ?_); (case side1 => repeat (first | exact (Kd.R_reads' HO_277001.out).2.2 | (with_reducible refine Kd.C_alloc ?_ _) | (with_reducible refine Kd.C_drewN ?_ _) | (with_reducible refine Kd.C_drew ?_))); (case side2 => exact (Kd.R_reads' HO_277001.out).2.1); (case side3 => repeat (first | exact (Kd.R_reads' HO_268001.out).2.2 | (with_reducible refine Kd.C_alloc ?_ _) | (with_reducible refine Kd.C_drewN ?_ _) | (with_reducible refine Kd.C_drew ?_))); (case side4 => exact (Kd.R_reads' HO_268001.out).2.1); rintro e w50 ⟨rfl, hb⟩; have n0_ := Aside0.mk (Kd.R_below (by (with_reducible repeat (first | apply Kd.R_alloc | apply Kd.R_drewN | apply Kd.R_drew)); exact HO_5.out) hb); have n1_ := Aside0.mk (Kd.R_below (by (with_reducible repeat (first | apply Kd.R_alloc | apply Kd.R_drewN | apply Kd.R_drew)); exact HO_268001.out) hb); have n2_ := Aside0.mk (Kd.R_below (by (with_reducible repeat (first | apply Kd.R_alloc | apply Kd.R_drewN | apply Kd.R_drew)); exact HO_277001.out) hb); have n3_ := Aside0.mk (Kd.R_below (by (with_reducible repeat (first | apply Kd.R_alloc | apply Kd.R_drewN | apply Kd.R_drew)); exact HO280.out) hb); have n4_ := Aside0.mk (blk_below (g := gb267) (o := .cells #[.int .i64 t262, .slice Ao13 t263.length co13] 33 (0, 0)) (by (with_reducible repeat (first | refine blk_drewN ?_ _ | refine blk_drew ?_ | refine blk_alloc ?_ _)); exact BK267.out) hb); have n5_ := Aside0.mk (blk_below (g := gb276) (o := .cells #[.int .i64 t271, .slice Ao20 t272.length co20] 33 (0, 0)) (by (with_reducible repeat (first | refine blk_drewN ?_ _ | refine blk_drew ?_ | refine blk_alloc ?_ _)); exact BK276.out) hb); have n6_ := Aside0.mk (below_step (by repeat (first | (with_reducible first | exact HB.out | apply below_alloc | apply pw_below_drewN | apply below_drew1 | refine below_set ?_ GE267.out | refine below_set ?_ GE276.out) | exact HB.out)) hb); clear HO_5; clear HO_268001; clear HO_277001; clear HO280; clear BK267; clear BK276; clear HB; have HO_5 := n0_; have HO_268001 := n1_; have HO_277001 := n2_; have HO280 := n3_; have BK267 := n4_; have BK276 := n5_; have HB := n6_; clear n0_ n1_ n2_ n3_ n4_ n5_ n6_; (try clear hb); (try clear hb2); (try clear hk); (try clear hi)))
         go_meet
         case rel => exact ⟨_, (true), (by first | rfl | (simp; done) | (simp [*]; done)), H', ⟨by have := HJ6.out; first | omega | exact Nat.le_refl _⟩, ⟨by (with_reducible repeat (first | apply Kd.R_alloc | apply Kd.R_drewN | apply Kd.R_drew)); exact Kd.R_mono HO_268001.out (fun _ hk => hk.2.1)⟩, ⟨by (with_reducible repeat (first | apply Kd.R_alloc | apply Kd.R_drewN | apply Kd.R_drew)); exact Kd.R_mono HO_277001.out (fun _ hk => hk.2.1)⟩, ⟨by (with_reducible repeat (first | refine blk_drewN ?_ _ | refine blk_drew ?_ | refine blk_alloc ?_ _)); exact BK267.out⟩, ⟨by (with_reducible repeat (first | refine blk_drewN ?_ _ | refine blk_drew ?_ | refine blk_alloc ?_ _)); exact BK276.out⟩, ⟨by repeat (first | (with_reducible first | exact HB.out | apply below_alloc | apply pw_below_drewN | apply below_drew1 | refine below_set ?_ GE267.out | refine below_set ?_ GE276.out) | exact HB.out)⟩⟩
      case rest =>
       clear HC36
       try clear c1
       try clear c2
       try clear c2b0
       try clear c2b1
       try clear p2
       try clear c3
       try clear c4
       try clear c8
       try clear c11
       try clear c12
       try clear c15
       try clear c16
       try clear c17
       try clear c18
       try clear c22
       try clear c23
       try clear c27
       try clear c31
       try clear c34
       try clear c40
       try clear c40b0
       try clear c42
       try clear c43
       try clear c47
       try clear hcz12_0
       try clear hcz12_1
       try clear hcz19_0
       try clear hcz19_1
       try clear hcz24_0
       try clear hcz24_1
       try clear hcz25_0
       try clear hcz25_1
       try clear hcz28_0
       try clear hcz28_1
       try clear hcz29_0
       try clear hcz29_1
       try clear hcz44_0
       try clear hcz44_1
       try clear hcz45_0
       try clear hcz45_1
       try clear hcz48_0
       try clear hcz48_1
       try clear hcz49_0
       try clear hcz49_1
       try clear hfz12_0
       try clear hfz12_1
       try clear hfz19_0
       try clear hfz19_1
       try clear hfz24_0
       try clear hfz24_1
       try clear hfz25_0
       try clear hfz25_1
       try clear hfz28_0
       try clear hfz28_1
       try clear hfz29_0
       try clear hfz29_1
       try clear hfz44_0
       try clear hfz44_1
       try clear hfz45_0
       try clear hfz45_1
       try clear hfz48_0
       try clear hfz48_1
       try clear hfz49_0
       try clear hfz49_1
       try clear p2
       obtain ⟨kq, x58_35, rfl, HA, HJ35, HO_268001, HO_277001, BK267, BK276, HB⟩ := hcut
       cases kq with
       | zero => exact absurd HA.out (by simp [laws_FnExactBuildGraph.j1])
       | succ kj35 =>
        have H := HA.out
        clear HA
        simp only [laws_FnExactBuildGraph.j1] at H
        by_cases c51 : x58_35 = true
        ·
         subst c51
         have H1 : (some false) = some r := by rw [if_pos rfl] at H; exact H
         clear H
         have H := H1
         clear H1
         obtain rfl := Option.some.inj H
         go_wp2
         go_ret
         exact ⟨by first | rfl | (simp [errW_none, errW_some] <;> rfl) | (simp [*, errW_none, errW_some] <;> rfl), by repeat (first | (with_reducible first | exact HB.out | apply below_alloc | apply pw_below_drewN | apply below_drew1 | refine below_set ?_ GE267.out | refine below_set ?_ GE276.out) | exact HB.out)⟩
        ·
         replace c51 := Bool.eq_false_iff.mpr c51
         subst c51
         have H1 : ((laws_markGraph.f kj35 t271 t272 1).bind fun bt285 => ((laws_heldGraph.f kj35 t271 bt285.2 1).bind fun t287 => (if t287 < 0 then (some false) else (if t287 = bt285.1 then ((laws_toIntS.f kj35 l0).bind fun t288 => ((impl_BuildGraph.f kj35 t288).bind fun bt291 => ((laws_eqGraph.f kj35 bt291.1 bt291.2.1 t262 t263).bind fun t297 => (if t297 = true then (laws_FnExactBuildGraph.j2 kj35 bt285.1 (bt291.2.2 != t266) t271 bt285.2) else (laws_FnExactBuildGraph.j2 kj35 bt285.1 true t271 bt285.2))))) else (some false))))) = some r := by rw [if_neg (show ¬ (false = true) by decide)] at H; exact H
         clear H
         have H := H1
         clear H1
         replace H := Option.bind_eq_some_iff.mp H
         obtain ⟨⟨t285, t286⟩, A520, H⟩ := H
         replace H : ((laws_heldGraph.f kj35 t271 t286 1).bind fun t287 => (if t287 < 0 then (some false) else (if t287 = t285 then ((laws_toIntS.f kj35 l0).bind fun t288 => ((impl_BuildGraph.f kj35 t288).bind fun bt291 => ((laws_eqGraph.f kj35 bt291.1 bt291.2.1 t262 t263).bind fun t297 => (if t297 = true then (laws_FnExactBuildGraph.j2 kj35 t285 (bt291.2.2 != t266) t271 t286) else (laws_FnExactBuildGraph.j2 kj35 t285 true t271 t286))))) else (some false)))) = some r := H
         have A52 := Aside0.mk A520
         clear A520
         replace H := Option.bind_eq_some_iff.mp H
         obtain ⟨t287, A530, H⟩ := H
         replace H : (if t287 < 0 then (some false) else (if t287 = t285 then ((laws_toIntS.f kj35 l0).bind fun t288 => ((impl_BuildGraph.f kj35 t288).bind fun bt291 => ((laws_eqGraph.f kj35 bt291.1 bt291.2.1 t262 t263).bind fun t297 => (if t297 = true then (laws_FnExactBuildGraph.j2 kj35 t285 (bt291.2.2 != t266) t271 t286) else (laws_FnExactBuildGraph.j2 kj35 t285 true t271 t286))))) else (some false))) = some r := H
         have A53 := Aside0.mk A530
         clear A530
         by_cases c54 : t287 < 0
         ·
          rw [if_pos c54] at H
          have c54b0 : decide (t287 < 0) = true := decide_eq_true c54
          clear c54
          obtain rfl := Option.some.inj H
          have hnb55 := NB276_267.out
          have hnc55 := NB267_276.out
          have hcz56_0 : wc.cell? ⟨gb276, 0, none⟩ = some (.int .i64 t271) := (blk_cell BK276.out 0).trans rfl
          have hcz56_1 : wc.cell? ⟨gb276, 1, none⟩ = some (.slice Ao20 t272.length co20) := (blk_cell BK276.out 1).trans rfl
          have hfz56_0 := blk_frozen BK276.out 0
          have hfz56_1 := blk_frozen BK276.out 1
          go_wp2_with (first | ((with_reducible refine gate_callee (f := 18) rfl ?_); refine goesL_ (some 61) rfl rfl Try.func18 (by kernel_rfl) rfl #[.agg #[.int .i64 t271, .slice Ao20 t272.length co20], .int .i64 1] rfl (by (try simp only [List.map_toArray, List.map_cons, List.map_nil]); first | done | rfl) ?_; (with_reducible refine (laws_markGraph.calls kj35 t271 (fun k_ => some k_ = (.slice Ao20 t272.length co20 : Value).ownBlock) (.slice Ao20 t272.length co20) t272 1 t285 t286 w _ ?side1 ?side2 A52.out).mono ?_); (case side1 => repeat (first | (with_reducible first | exact HB.out | apply below_alloc | apply pw_below_drewN | apply below_drew1 | refine below_set ?_ GE267.out | refine below_set ?_ GE276.out) | exact HB.out)); (case side2 => exact Kd.R_tight rfl HO_277001.out); rintro e w57 ⟨rfl, hy0, hb, hkp⟩; refine ⟨_, rfl, ?_⟩; have n0_ := Aside0.mk (Kd.R_mono (ok' := fun k_ => some k_ ≠ (.slice Ao20 t272.length co20 : Value).ownBlock) (Kd.R_keptB (HO_268001.out) hkp (fun k_ hk_ hs_ => (hk_) hs_)) (fun k_ hk_ => hk_.1)); have n1_ := Aside0.mk (Kd.R_reok rfl hy0 (fun k_ e_ => HO_277001.out.1 k_ e_)); have n2_ := Aside0.mk (blk_kept (by (with_reducible repeat (first | refine blk_drewN ?_ _ | refine blk_drew ?_ | refine blk_alloc ?_ _)); exact BK267.out) hkp (fun hs_ => (fun e_ => (Kd.R_ne HO_277001.out BK267.out (by decide)) e_) hs_)); have n3_ := Aside0.mk (blk_kept (by (with_reducible repeat (first | refine blk_drewN ?_ _ | refine blk_drew ?_ | refine blk_alloc ?_ _)); exact BK276.out) hkp (fun hs_ => (fun e_ => (Kd.R_ne HO_277001.out BK276.out (by decide)) e_) hs_)); have n4_ := Aside0.mk (hb); clear HO_268001; clear HO_277001; clear BK267; clear BK276; clear HB; have HO_268001 := n0_; have HO_277001 := n1_; have BK267 := n2_; have BK276 := n3_; have HB := n4_; clear n0_ n1_ n2_ n3_ n4_; (try clear hb); (try clear hkp); (try clear hy0); have hcz58_0 : w57.cell? ⟨gb276, 0, none⟩ = some (.int .i64 t271) := (blk_cell BK276.out 0).trans rfl; have hcz58_1 : w57.cell? ⟨gb276, 1, none⟩ = some (.slice Ao20 t272.length co20) := (blk_cell BK276.out 1).trans rfl; have hfz58_0 := blk_frozen BK276.out 0; have hfz58_1 := blk_frozen BK276.out 1) | ((with_reducible refine gate_callee (f := 19) rfl ?_); refine goesL_ (some 64) rfl rfl Try.func19 (by kernel_rfl) rfl #[.agg #[.int .i64 t271, .slice Ao20 t286.length co20], .int .i64 1] rfl (by (try simp only [List.map_toArray, List.map_cons, List.map_nil]); first | done | (rw [show t286.length = t272.length from (Kd.R_reads' HO_277001.out).1.symm] <;> rfl) | rfl | (simp only [List.length_drop, List.length_take]; rfl)) ?_; (with_reducible refine (laws_heldGraph.calls kj35 t271 _ _ t286 1 t287 _ ?side1 ?side2 A53.out).mono ?_); (case side1 => repeat (first | exact (Kd.R_reads' HO_277001.out).2.2 | (with_reducible refine Kd.C_alloc ?_ _) | (with_reducible refine Kd.C_drewN ?_ _) | (with_reducible refine Kd.C_drew ?_))); (case side2 => rw [show t286.length = t272.length from (Kd.R_reads' HO_277001.out).1.symm]; exact (Kd.R_reads' HO_277001.out).2.1); rintro e w59 ⟨rfl, hb⟩; refine ⟨_, rfl, ?_⟩; have n0_ := Aside0.mk (Kd.R_below (by (with_reducible repeat (first | apply Kd.R_alloc | apply Kd.R_drewN | apply Kd.R_drew)); exact HO_268001.out) hb); have n1_ := Aside0.mk (Kd.R_below (by (with_reducible repeat (first | apply Kd.R_alloc | apply Kd.R_drewN | apply Kd.R_drew)); exact HO_277001.out) hb); have n2_ := Aside0.mk (blk_below (g := gb267) (o := .cells #[.int .i64 t262, .slice Ao13 t263.length co13] 33 (0, 0)) (by (with_reducible repeat (first | refine blk_drewN ?_ _ | refine blk_drew ?_ | refine blk_alloc ?_ _)); exact BK267.out) hb); have n3_ := Aside0.mk (blk_below (g := gb276) (o := .cells #[.int .i64 t271, .slice Ao20 t272.length co20] 33 (0, 0)) (by (with_reducible repeat (first | refine blk_drewN ?_ _ | refine blk_drew ?_ | refine blk_alloc ?_ _)); exact BK276.out) hb); have n4_ := Aside0.mk (below_step (by repeat (first | (with_reducible first | exact HB.out | apply below_alloc | apply pw_below_drewN | apply below_drew1 | refine below_set ?_ GE267.out | refine below_set ?_ GE276.out) | exact HB.out)) hb); clear HO_268001; clear HO_277001; clear BK267; clear BK276; clear HB; have HO_268001 := n0_; have HO_277001 := n1_; have BK267 := n2_; have BK276 := n3_; have HB := n4_; clear n0_ n1_ n2_ n3_ n4_; (try clear hb); (try clear hb2); (try clear hk); (try clear hi)))
          go_ret
          exact ⟨by first | rfl | (simp [errW_none, errW_some] <;> rfl) | (simp [*, errW_none, errW_some] <;> rfl), by repeat (first | (with_reducible first | exact HB.out | apply below_alloc | apply pw_below_drewN | apply below_drew1 | refine below_set ?_ GE267.out | refine below_set ?_ GE276.out) | exact HB.out)⟩
         ·
          rw [if_neg c54] at H
          have c54b0 : decide (t287 < 0) = false := decide_eq_false c54
          clear c54
          by_cases c60 : t287 = t285
          ·
           rw [if_pos c60] at H
           have c60b0 : (t287 == t285) = true := beq_iff_eq.mpr c60
           have c60b1 : (t287 != t285) = false := bne_eq_false_iff_eq.mpr c60
           clear c60
           replace H := Option.bind_eq_some_iff.mp H
           obtain ⟨t288, A610, H⟩ := H
           replace H : ((impl_BuildGraph.f kj35 t288).bind fun bt291 => ((laws_eqGraph.f kj35 bt291.1 bt291.2.1 t262 t263).bind fun t297 => (if t297 = true then (laws_FnExactBuildGraph.j2 kj35 t285 (bt291.2.2 != t266) t271 t286) else (laws_FnExactBuildGraph.j2 kj35 t285 true t271 t286)))) = some r := H
           have A61 := Aside0.mk A610
           clear A610
           replace H := Option.bind_eq_some_iff.mp H
           obtain ⟨⟨t291, t292, t295⟩, A620, H⟩ := H
           replace H : ((laws_eqGraph.f kj35 t291 t292 t262 t263).bind fun t297 => (if t297 = true then (laws_FnExactBuildGraph.j2 kj35 t285 (t295 != t266) t271 t286) else (laws_FnExactBuildGraph.j2 kj35 t285 true t271 t286))) = some r := H
           have A62 := Aside0.mk A620
           clear A620
           have HC63 := Aside0.mk H
           clear H
           have hnb64 := NB276_267.out
           have hnc64 := NB267_276.out
           have hcz65_0 : wc.cell? ⟨gb276, 0, none⟩ = some (.int .i64 t271) := (blk_cell BK276.out 0).trans rfl
           have hcz65_1 : wc.cell? ⟨gb276, 1, none⟩ = some (.slice Ao20 t272.length co20) := (blk_cell BK276.out 1).trans rfl
           have hfz65_0 := blk_frozen BK276.out 0
           have hfz65_1 := blk_frozen BK276.out 1
           go_upto_region 23 with (first | ((with_reducible refine gate_callee (f := 18) rfl ?_); refine goesL_ (some 61) rfl rfl Try.func18 (by kernel_rfl) rfl #[.agg #[.int .i64 t271, .slice Ao20 t272.length co20], .int .i64 1] rfl (by (try simp only [List.map_toArray, List.map_cons, List.map_nil]); first | done | rfl) ?_; (with_reducible refine (laws_markGraph.calls kj35 t271 (fun k_ => some k_ = (.slice Ao20 t272.length co20 : Value).ownBlock) (.slice Ao20 t272.length co20) t272 1 t285 t286 w _ ?side1 ?side2 A52.out).mono ?_); (case side1 => repeat (first | (with_reducible first | exact HB.out | apply below_alloc | apply pw_below_drewN | apply below_drew1 | refine below_set ?_ GE267.out | refine below_set ?_ GE276.out) | exact HB.out)); (case side2 => exact Kd.R_tight rfl HO_277001.out); rintro e w66 ⟨rfl, hy0, hb, hkp⟩; refine ⟨_, rfl, ?_⟩; have n0_ := Aside0.mk (Kd.R_mono (ok' := fun k_ => some k_ ≠ (.slice Ao20 t272.length co20 : Value).ownBlock) (Kd.R_keptB (HO_268001.out) hkp (fun k_ hk_ hs_ => (hk_) hs_)) (fun k_ hk_ => hk_.1)); have n1_ := Aside0.mk (Kd.R_reok rfl hy0 (fun k_ e_ => HO_277001.out.1 k_ e_)); have n2_ := Aside0.mk (blk_kept (by (with_reducible repeat (first | refine blk_drewN ?_ _ | refine blk_drew ?_ | refine blk_alloc ?_ _)); exact BK267.out) hkp (fun hs_ => (fun e_ => (Kd.R_ne HO_277001.out BK267.out (by decide)) e_) hs_)); have n3_ := Aside0.mk (blk_kept (by (with_reducible repeat (first | refine blk_drewN ?_ _ | refine blk_drew ?_ | refine blk_alloc ?_ _)); exact BK276.out) hkp (fun hs_ => (fun e_ => (Kd.R_ne HO_277001.out BK276.out (by decide)) e_) hs_)); have n4_ := Aside0.mk (hb); clear HO_268001; clear HO_277001; clear BK267; clear BK276; clear HB; have HO_268001 := n0_; have HO_277001 := n1_; have BK267 := n2_; have BK276 := n3_; have HB := n4_; clear n0_ n1_ n2_ n3_ n4_; (try clear hb); (try clear hkp); (try clear hy0); have hcz67_0 : w66.cell? ⟨gb276, 0, none⟩ = some (.int .i64 t271) := (blk_cell BK276.out 0).trans rfl; have hcz67_1 : w66.cell? ⟨gb276, 1, none⟩ = some (.slice Ao20 t272.length co20) := (blk_cell BK276.out 1).trans rfl; have hfz67_0 := blk_frozen BK276.out 0; have hfz67_1 := blk_frozen BK276.out 1) | ((with_reducible refine gate_callee (f := 19) rfl ?_); refine goesL_ (some 64) rfl rfl Try.func19 (by kernel_rfl) rfl #[.agg #[.int .i64 t271, .slice Ao20 t286.length co20], .int .i64 1] rfl (by (try simp only [List.map_toArray, List.map_cons, List.map_nil]); first | done | (rw [show t286.length = t272.length from (Kd.R_reads' HO_277001.out).1.symm] <;> rfl) | rfl | (simp only [List.length_drop, List.length_take]; rfl)) ?_; (with_reducible refine (laws_heldGraph.calls kj35 t271 _ _ t286 1 t287 _ ?side1 ?side2 A53.out).mono ?_); (case side1 => repeat (first | exact (Kd.R_reads' HO_277001.out).2.2 | (with_reducible refine Kd.C_alloc ?_ _) | (with_reducible refine Kd.C_drewN ?_ _) | (with_reducible refine Kd.C_drew ?_))); (case side2 => rw [show t286.length = t272.length from (Kd.R_reads' HO_277001.out).1.symm]; exact (Kd.R_reads' HO_277001.out).2.1); rintro e w68 ⟨rfl, hb⟩; refine ⟨_, rfl, ?_⟩; have n0_ := Aside0.mk (Kd.R_below (by (with_reducible repeat (first | apply Kd.R_alloc | apply Kd.R_drewN | apply Kd.R_drew)); exact HO_268001.out) hb); have n1_ := Aside0.mk (Kd.R_below (by (with_reducible repeat (first | apply Kd.R_alloc | apply Kd.R_drewN | apply Kd.R_drew)); exact HO_277001.out) hb); have n2_ := Aside0.mk (blk_below (g := gb267) (o := .cells #[.int .i64 t262, .slice Ao13 t263.length co13] 33 (0, 0)) (by (with_reducible repeat (first | refine blk_drewN ?_ _ | refine blk_drew ?_ | refine blk_alloc ?_ _)); exact BK267.out) hb); have n3_ := Aside0.mk (blk_below (g := gb276) (o := .cells #[.int .i64 t271, .slice Ao20 t272.length co20] 33 (0, 0)) (by (with_reducible repeat (first | refine blk_drewN ?_ _ | refine blk_drew ?_ | refine blk_alloc ?_ _)); exact BK276.out) hb); have n4_ := Aside0.mk (below_step (by repeat (first | (with_reducible first | exact HB.out | apply below_alloc | apply pw_below_drewN | apply below_drew1 | refine below_set ?_ GE267.out | refine below_set ?_ GE276.out) | exact HB.out)) hb); clear HO_268001; clear HO_277001; clear BK267; clear BK276; clear HB; have HO_268001 := n0_; have HO_277001 := n1_; have BK267 := n2_; have BK276 := n3_; have HB := n4_; clear n0_ n1_ n2_ n3_ n4_; (try clear hb); (try clear hb2); (try clear hk); (try clear hi)) | ((with_reducible refine gate_callee (f := 8) rfl ?_); refine goesL_ (some 72) rfl rfl Try.func8 (by kernel_rfl) rfl #[.slice A0 l0.length c0] rfl (by (try simp only [List.map_toArray, List.map_cons, List.map_nil]); first | done | rfl) ?_; (with_reducible refine (laws_toIntS.calls kj35 _ _ l0 t288 _ ?side1 ?side2 A61.out).mono ?_); (case side1 => repeat (first | exact (Kd.C_below HR0.out HB.out) | (with_reducible refine Kd.C_alloc ?_ _) | (with_reducible refine Kd.C_drewN ?_ _) | (with_reducible refine Kd.C_drew ?_))); (case side2 => exact HC0.out); rintro e w69 ⟨v289, rfl, ho0, hb⟩; refine ⟨_, rfl, ?_⟩; have n0_ := Aside0.mk (Kd.R_elder' (by (with_reducible repeat (first | apply Kd.R_alloc | apply Kd.R_drewN | apply Kd.R_drew)); exact HO_268001.out) (Kd.R_base ho0) hb); have n1_ := Aside0.mk (Kd.R_elder' (by (with_reducible repeat (first | apply Kd.R_alloc | apply Kd.R_drewN | apply Kd.R_drew)); exact HO_277001.out) (Kd.R_base ho0) hb); have n2_ := Aside0.mk (Kd.R_lower (Kd.R_new' (Kd.R_new' ho0 (Kd.R_lt (by (with_reducible repeat (first | apply Kd.R_alloc | apply Kd.R_drewN | apply Kd.R_drew)); exact HO_268001.out))) (Kd.R_lt (by (with_reducible repeat (first | apply Kd.R_alloc | apply Kd.R_drewN | apply Kd.R_drew)); exact HO_277001.out))) (below_size (by repeat (first | (with_reducible first | exact HB.out | apply below_alloc | apply pw_below_drewN | apply below_drew1 | refine below_set ?_ GE267.out | refine below_set ?_ GE276.out) | exact HB.out)))); have n3_ := Aside0.mk (blk_below (g := gb267) (o := .cells #[.int .i64 t262, .slice Ao13 t263.length co13] 33 (0, 0)) (by (with_reducible repeat (first | refine blk_drewN ?_ _ | refine blk_drew ?_ | refine blk_alloc ?_ _)); exact BK267.out) hb); have n4_ := Aside0.mk (blk_below (g := gb276) (o := .cells #[.int .i64 t271, .slice Ao20 t272.length co20] 33 (0, 0)) (by (with_reducible repeat (first | refine blk_drewN ?_ _ | refine blk_drew ?_ | refine blk_alloc ?_ _)); exact BK276.out) hb); have n5_ := Aside0.mk (below_step (by repeat (first | (with_reducible first | exact HB.out | apply below_alloc | apply pw_below_drewN | apply below_drew1 | refine below_set ?_ GE267.out | refine below_set ?_ GE276.out) | exact HB.out)) hb); clear HO_268001; clear HO_277001; clear BK267; clear BK276; clear HB; have HO_268001 := n0_; have HO_277001 := n1_; have HO290 := n2_; have BK267 := n3_; have BK276 := n4_; have HB := n5_; clear n0_ n1_ n2_ n3_ n4_ n5_; (try clear hb); (try clear hb2); (try clear hk); (try clear hi); (try clear ho0); obtain ⟨Ao70, co70, eo70⟩ := Kd.R_slice HO290.out; subst eo70) | ((with_reducible refine gate_callee (f := 16) rfl ?_); refine goesL_ (some 73) rfl rfl Try.func16 (by kernel_rfl) rfl #[.slice Ao70 t288.length co70] rfl (by (try simp only [List.map_toArray, List.map_cons, List.map_nil]); first | done | rfl) ?_; (with_reducible refine (impl_BuildGraph.calls kj35 _ _ t288 t291 t292 t295 _ ?side1 ?side2 A62.out).mono ?_); (case side1 => repeat (first | exact (Kd.R_reads' HO290.out).2.2 | (with_reducible refine Kd.C_alloc ?_ _) | (with_reducible refine Kd.C_drewN ?_ _) | (with_reducible refine Kd.C_drew ?_))); (case side2 => exact (Kd.R_reads' HO290.out).2.1); rintro e w71 ⟨v293, rfl, ho0, hb⟩; refine ⟨_, rfl, ?_⟩; have n0_ := Aside0.mk (Kd.R_elder' (by (with_reducible repeat (first | apply Kd.R_alloc | apply Kd.R_drewN | apply Kd.R_drew)); exact HO_268001.out) (Kd.R_base ho0) hb); have n1_ := Aside0.mk (Kd.R_elder' (by (with_reducible repeat (first | apply Kd.R_alloc | apply Kd.R_drewN | apply Kd.R_drew)); exact HO_277001.out) (Kd.R_base ho0) hb); have n2_ := Aside0.mk (Kd.R_elder' (by (with_reducible repeat (first | apply Kd.R_alloc | apply Kd.R_drewN | apply Kd.R_drew)); exact HO290.out) (Kd.R_base ho0) hb); have n3_ := Aside0.mk (Kd.R_lower (Kd.R_new' (Kd.R_new' (Kd.R_new' ho0 (Kd.R_lt (by (with_reducible repeat (first | apply Kd.R_alloc | apply Kd.R_drewN | apply Kd.R_drew)); exact HO_268001.out))) (Kd.R_lt (by (with_reducible repeat (first | apply Kd.R_alloc | apply Kd.R_drewN | apply Kd.R_drew)); exact HO_277001.out))) (Kd.R_lt (by (with_reducible repeat (first | apply Kd.R_alloc | apply Kd.R_drewN | apply Kd.R_drew)); exact HO290.out))) (below_size (by repeat (first | (with_reducible first | exact HB.out | apply below_alloc | apply pw_below_drewN | apply below_drew1 | refine below_set ?_ GE267.out | refine below_set ?_ GE276.out) | exact HB.out)))); have n4_ := Aside0.mk (blk_below (g := gb267) (o := .cells #[.int .i64 t262, .slice Ao13 t263.length co13] 33 (0, 0)) (by (with_reducible repeat (first | refine blk_drewN ?_ _ | refine blk_drew ?_ | refine blk_alloc ?_ _)); exact BK267.out) hb); have n5_ := Aside0.mk (blk_below (g := gb276) (o := .cells #[.int .i64 t271, .slice Ao20 t272.length co20] 33 (0, 0)) (by (with_reducible repeat (first | refine blk_drewN ?_ _ | refine blk_drew ?_ | refine blk_alloc ?_ _)); exact BK276.out) hb); have n6_ := Aside0.mk (below_step (by repeat (first | (with_reducible first | exact HB.out | apply below_alloc | apply pw_below_drewN | apply below_drew1 | refine below_set ?_ GE267.out | refine below_set ?_ GE276.out) | exact HB.out)) hb); clear HO_268001; clear HO_277001; clear HO290; clear BK267; clear BK276; clear HB; have HO_268001 := n0_; have HO_277001 := n1_; have HO290 := n2_; have HO294 := n3_; have BK267 := n4_; have BK276 := n5_; have HB := n6_; clear n0_ n1_ n2_ n3_ n4_ n5_ n6_; (try clear hb); (try clear hb2); (try clear hk); (try clear hi); (try clear ho0)) | ((with_reducible refine gate_dst (N := 11) rfl ?_); refine box_event ?hg (N := 11) ?hd (cs := #[.int .i64 0, .slice none 0 0]) (t := 33) ?hr ?_; (case hd => rfl); (case hg => rfl); (case hr => first | (go_simp; done) | (go_simp; rfl)); intro gb296 hg w72 hbox hb; have n0_ := Aside0.mk (Kd.R_below (by (with_reducible repeat (first | apply Kd.R_alloc | apply Kd.R_drewN | apply Kd.R_drew)); exact HO_268001.out) hb); have n1_ := Aside0.mk (Kd.R_below (by (with_reducible repeat (first | apply Kd.R_alloc | apply Kd.R_drewN | apply Kd.R_drew)); exact HO_277001.out) hb); have n2_ := Aside0.mk (Kd.R_below (by (with_reducible repeat (first | apply Kd.R_alloc | apply Kd.R_drewN | apply Kd.R_drew)); exact HO290.out) hb); have n3_ := Aside0.mk (Kd.R_below (by (with_reducible repeat (first | apply Kd.R_alloc | apply Kd.R_drewN | apply Kd.R_drew)); exact HO294.out) hb); have n4_ := Aside0.mk (blk_below (g := gb267) (o := .cells #[.int .i64 t262, .slice Ao13 t263.length co13] 33 (0, 0)) (by (with_reducible repeat (first | refine blk_drewN ?_ _ | refine blk_drew ?_ | refine blk_alloc ?_ _)); exact BK267.out) hb); have n5_ := Aside0.mk (blk_below (g := gb276) (o := .cells #[.int .i64 t271, .slice Ao20 t272.length co20] 33 (0, 0)) (by (with_reducible repeat (first | refine blk_drewN ?_ _ | refine blk_drew ?_ | refine blk_alloc ?_ _)); exact BK276.out) hb); have n6_ := Aside0.mk (below_step (by repeat (first | (with_reducible first | exact HB.out | apply below_alloc | apply pw_below_drewN | apply below_drew1 | refine below_set ?_ GE267.out | refine below_set ?_ GE276.out) | exact HB.out)) hb); have n7_ := Aside0.mk (hbox); have n8_ := Aside0.mk ((by rw [hg]; exact (below_size (by repeat (first | (with_reducible first | exact HB.out | apply below_alloc | apply pw_below_drewN | apply below_drew1 | refine below_set ?_ GE267.out | refine below_set ?_ GE276.out) | exact HB.out))) : w.heap.size ≤ gb296)); have n9_ := Aside0.mk ((by rw [hg]; exact (below_size (by repeat (first | (with_reducible first | exact HB.out | apply below_alloc | apply pw_below_drewN | apply below_drew1 | refine below_set ?_ GE267.out | refine below_set ?_ GE276.out) | exact HB.out))) : w.heap.size ≤ gb296)); have n10_ := Aside0.mk ((by rw [hg]; exact Nat.ne_of_lt (blk_lt (g := gb267) (o := .cells #[.int .i64 t262, .slice Ao13 t263.length co13] 33 (0, 0)) (by (with_reducible repeat (first | refine blk_drewN ?_ _ | refine blk_drew ?_ | refine blk_alloc ?_ _)); exact BK267.out)) : gb267 ≠ gb296)); have n11_ := Aside0.mk ((by rw [hg]; exact Nat.ne_of_gt (blk_lt (g := gb267) (o := .cells #[.int .i64 t262, .slice Ao13 t263.length co13] 33 (0, 0)) (by (with_reducible repeat (first | refine blk_drewN ?_ _ | refine blk_drew ?_ | refine blk_alloc ?_ _)); exact BK267.out)) : gb296 ≠ gb267)); have n12_ := Aside0.mk ((by rw [hg]; exact Nat.ne_of_lt (blk_lt (g := gb276) (o := .cells #[.int .i64 t271, .slice Ao20 t272.length co20] 33 (0, 0)) (by (with_reducible repeat (first | refine blk_drewN ?_ _ | refine blk_drew ?_ | refine blk_alloc ?_ _)); exact BK276.out)) : gb276 ≠ gb296)); have n13_ := Aside0.mk ((by rw [hg]; exact Nat.ne_of_gt (blk_lt (g := gb276) (o := .cells #[.int .i64 t271, .slice Ao20 t272.length co20] 33 (0, 0)) (by (with_reducible repeat (first | refine blk_drewN ?_ _ | refine blk_drew ?_ | refine blk_alloc ?_ _)); exact BK276.out)) : gb296 ≠ gb276)); clear HO_268001; clear HO_277001; clear HO290; clear HO294; clear BK267; clear BK276; clear HB; have HO_268001 := n0_; have HO_277001 := n1_; have HO290 := n2_; have HO294 := n3_; have BK267 := n4_; have BK276 := n5_; have HB := n6_; have BK296 := n7_; have GW296 := n8_; have GE296 := n9_; have NB267_296 := n10_; have NB296_267 := n11_; have NB276_296 := n12_; have NB296_276 := n13_; clear n0_ n1_ n2_ n3_ n4_ n5_ n6_ n7_ n8_ n9_ n10_ n11_ n12_ n13_; clear hb hbox hg; have hnb73 := NB296_267.out; have hnc73 := NB267_296.out; have hnb74 := NB296_276.out; have hnc74 := NB276_296.out; have hcz75_0 : w72.cell? ⟨gb296, 0, none⟩ = some (.int .i64 0) := (blk_cell BK296.out 0).trans rfl; have hcz75_1 : w72.cell? ⟨gb296, 1, none⟩ = some (.slice none 0 0) := (blk_cell BK296.out 1).trans rfl; have hfz75_0 := blk_frozen BK296.out 0; have hfz75_1 := blk_frozen BK296.out 1; obtain ⟨Ao76, co76, eo76⟩ := Kd.R_slice HO294.out; subst eo76))
           (try simp only [Act.put, List.setIfInBounds_toArray, List.set_cons_zero, List.set_cons_succ])
           go_cut [84] (fun v84 wc => ∃ (kq : Nat) (x84_62 : Bool), v84 = .bool x84_62 ∧ Aside0 (laws_FnExactBuildGraph.j2 kq t285 x84_62 t271 t286 = some r) ∧ Aside0 (kq ≤ kj35) ∧ Aside0 (Kd.R (Kd.int .i64) 3 wc w.heap.size (fun k_ => some k_ ≠ ((.slice Ao20 t272.length co20) : Value).ownBlock ∧ some k_ ≠ ((.slice Ao76 t292.length co76) : Value).ownBlock) (.slice Ao13 t263.length co13) t263) ∧ Aside0 (Kd.R (Kd.int .i64) 3 wc w.heap.size (fun k_ => some k_ ≠ ((.slice Ao13 t263.length co13) : Value).ownBlock ∧ some k_ ≠ ((.slice Ao76 t292.length co76) : Value).ownBlock) (.slice Ao20 t272.length co20) t286) ∧ Aside0 (Kd.R (Kd.int .i64) 3 wc w.heap.size (fun k_ => some k_ ≠ ((.slice Ao13 t263.length co13) : Value).ownBlock ∧ some k_ ≠ ((.slice Ao20 t272.length co20) : Value).ownBlock) (.slice Ao76 t292.length co76) t292) ∧ Aside0 (wc.heap[gb267]? = some (.cells #[.int .i64 t262, (.slice Ao13 t263.length co13)] 33 (0, 0))) ∧ Aside0 (wc.heap[gb276]? = some (.cells #[.int .i64 t271, (.slice Ao20 t272.length co20)] 33 (0, 0))) ∧ Aside0 (wc.heap[gb296]? = some (.cells #[.int .i64 t291, (.slice Ao76 t292.length co76)] 33 (0, 0))) ∧ Aside0 (Below w.heap.size w wc))
           case first =>
            have H := HC63.out
            clear HC63
            replace H := Option.bind_eq_some_iff.mp H
            obtain ⟨t297, A770, H⟩ := H
            replace H : (if t297 = true then (laws_FnExactBuildGraph.j2 kj35 t285 (t295 != t266) t271 t286) else (laws_FnExactBuildGraph.j2 kj35 t285 true t271 t286)) = some r := H
            have A77 := Aside0.mk A770
            clear A770
            by_cases c78 : t297 = true
            ·
             subst c78
             have H1 : (laws_FnExactBuildGraph.j2 kj35 t285 (t295 != t266) t271 t286) = some r := by rw [if_pos rfl] at H; exact H
             clear H
             have H := H1
             clear H1
             have H' := Aside0.mk H
             clear H
             have hnb79 := NB296_267.out
             have hnc79 := NB267_296.out
             have hnb80 := NB296_276.out
             have hnc80 := NB276_296.out
             have hcz81_0 : w72.cell? ⟨gb296, 0, none⟩ = some (.int .i64 0) := (blk_cell BK296.out 0).trans rfl
             have hcz81_1 : w72.cell? ⟨gb296, 1, none⟩ = some (.slice none 0 0) := (blk_cell BK296.out 1).trans rfl
             have hfz81_0 := blk_frozen BK296.out 0
             have hfz81_1 := blk_frozen BK296.out 1
             have hnb82 := NB267_276.out
             have hnc82 := NB276_267.out
             have hcz83_0 : w72.cell? ⟨gb267, 0, none⟩ = some (.int .i64 t262) := (blk_cell BK267.out 0).trans rfl
             have hcz83_1 : w72.cell? ⟨gb267, 1, none⟩ = some (.slice Ao13 t263.length co13) := (blk_cell BK267.out 1).trans rfl
             have hfz83_0 := blk_frozen BK267.out 0
             have hfz83_1 := blk_frozen BK267.out 1
             go_wp2_with (first | ((with_reducible refine gate_callee (f := 17) rfl ?_); refine goesL_ (some 78) rfl rfl Try.func17 (by kernel_rfl) rfl #[.agg #[.int .i64 t291, .slice Ao76 t292.length co76], .agg #[.int .i64 t262, .slice Ao13 t263.length co13]] rfl (by (try simp only [List.map_toArray, List.map_cons, List.map_nil]); first | done | rfl) ?_; (with_reducible refine (laws_eqGraph.calls kj35 t291 _ _ t292 t262 _ _ t263 true _ ?side1 ?side2 ?side3 ?side4 A77.out).mono ?_); (case side1 => refine (Kd.R_reads' (e := 3) (base := w.heap.size) (ok := fun k_ => (((True ∧ some k_ ≠ (.slice Ao13 t263.length co13 : Value).ownBlock) ∧ some k_ ≠ (.slice Ao20 t272.length co20 : Value).ownBlock) ∧ some k_ ≠ (.slice Ao70 t288.length co70 : Value).ownBlock)) (n := t292.length) (c := co76) ?_).2.2; exact (by (with_reducible repeat (first | apply Kd.R_alloc | apply Kd.R_drewN | apply Kd.R_drew)); exact (Kd.R_mono (Kd.R_far (p := ⟨gb296, 1, none⟩) (Kd.R_far (p := ⟨gb296, 0, none⟩) (Kd.R_types HO294.out BK296.out (by decide)) (fun _ hk => hk.2) (.int .i64 t291)) (fun _ hk => hk.2) (.slice Ao76 t292.length co76)) (fun _ h_ => h_.1)))); (case side2 => exact (Kd.R_reads' HO294.out).2.1); (case side3 => refine (Kd.R_reads' (e := 3) (base := w.heap.size) (ok := fun k_ => ((some k_ ≠ (.slice Ao20 t272.length co20 : Value).ownBlock ∧ some k_ ≠ (.slice Ao70 t288.length co70 : Value).ownBlock) ∧ some k_ ≠ (.slice Ao76 t292.length co76 : Value).ownBlock)) (n := t263.length) (c := co13) ?_).2.2; exact (by (with_reducible repeat (first | apply Kd.R_alloc | apply Kd.R_drewN | apply Kd.R_drew)); exact (Kd.R_mono (Kd.R_far (p := ⟨gb296, 1, none⟩) (Kd.R_far (p := ⟨gb296, 0, none⟩) (Kd.R_types HO_268001.out BK296.out (by decide)) (fun _ hk => hk.2) (.int .i64 t291)) (fun _ hk => hk.2) (.slice Ao76 t292.length co76)) (fun _ h_ => h_.1)))); (case side4 => exact (Kd.R_reads' HO_268001.out).2.1); rintro e w84 ⟨rfl, hb⟩; refine ⟨_, rfl, ?_⟩; have n0_ := Aside0.mk (Kd.R_below (by (with_reducible repeat (first | apply Kd.R_alloc | apply Kd.R_drewN | apply Kd.R_drew)); exact (Kd.R_mono (Kd.R_far (p := ⟨gb296, 1, none⟩) (Kd.R_far (p := ⟨gb296, 0, none⟩) (Kd.R_types HO_268001.out BK296.out (by decide)) (fun _ hk => hk.2) (.int .i64 t291)) (fun _ hk => hk.2) (.slice Ao76 t292.length co76)) (fun _ h_ => h_.1))) hb); have n1_ := Aside0.mk (Kd.R_below (by (with_reducible repeat (first | apply Kd.R_alloc | apply Kd.R_drewN | apply Kd.R_drew)); exact (Kd.R_mono (Kd.R_far (p := ⟨gb296, 1, none⟩) (Kd.R_far (p := ⟨gb296, 0, none⟩) (Kd.R_types HO_277001.out BK296.out (by decide)) (fun _ hk => hk.2) (.int .i64 t291)) (fun _ hk => hk.2) (.slice Ao76 t292.length co76)) (fun _ h_ => h_.1))) hb); have n2_ := Aside0.mk (Kd.R_below (by (with_reducible repeat (first | apply Kd.R_alloc | apply Kd.R_drewN | apply Kd.R_drew)); exact (Kd.R_mono (Kd.R_far (p := ⟨gb296, 1, none⟩) (Kd.R_far (p := ⟨gb296, 0, none⟩) (Kd.R_types HO290.out BK296.out (by decide)) (fun _ hk => hk.2) (.int .i64 t291)) (fun _ hk => hk.2) (.slice Ao76 t292.length co76)) (fun _ h_ => h_.1))) hb); have n3_ := Aside0.mk (Kd.R_below (by (with_reducible repeat (first | apply Kd.R_alloc | apply Kd.R_drewN | apply Kd.R_drew)); exact (Kd.R_mono (Kd.R_far (p := ⟨gb296, 1, none⟩) (Kd.R_far (p := ⟨gb296, 0, none⟩) (Kd.R_types HO294.out BK296.out (by decide)) (fun _ hk => hk.2) (.int .i64 t291)) (fun _ hk => hk.2) (.slice Ao76 t292.length co76)) (fun _ h_ => h_.1))) hb); have n4_ := Aside0.mk (blk_below (g := gb267) (o := .cells #[.int .i64 t262, .slice Ao13 t263.length co13] 33 (0, 0)) (by (with_reducible repeat (first | refine blk_drewN ?_ _ | refine blk_drew ?_ | refine blk_alloc ?_ _)); refine blk_far ?_ NB267_296.out _; (with_reducible repeat (first | refine blk_drewN ?_ _ | refine blk_drew ?_ | refine blk_alloc ?_ _)); refine blk_far ?_ NB267_296.out _; (with_reducible repeat (first | refine blk_drewN ?_ _ | refine blk_drew ?_ | refine blk_alloc ?_ _)); exact BK267.out) hb); have n5_ := Aside0.mk (blk_below (g := gb276) (o := .cells #[.int .i64 t271, .slice Ao20 t272.length co20] 33 (0, 0)) (by (with_reducible repeat (first | refine blk_drewN ?_ _ | refine blk_drew ?_ | refine blk_alloc ?_ _)); refine blk_far ?_ NB276_296.out _; (with_reducible repeat (first | refine blk_drewN ?_ _ | refine blk_drew ?_ | refine blk_alloc ?_ _)); refine blk_far ?_ NB276_296.out _; (with_reducible repeat (first | refine blk_drewN ?_ _ | refine blk_drew ?_ | refine blk_alloc ?_ _)); exact BK276.out) hb); have n6_ := Aside0.mk (blk_below (g := gb296) (o := .cells #[.int .i64 t291, .slice Ao76 t292.length co76] 33 (0, 0)) (by (with_reducible repeat (first | refine blk_drewN ?_ _ | refine blk_drew ?_ | refine blk_alloc ?_ _)); refine blk_put (cs := #[.int .i64 t291, .slice none 0 0]) ?_ 1 _ rfl; (with_reducible repeat (first | refine blk_drewN ?_ _ | refine blk_drew ?_ | refine blk_alloc ?_ _)); refine blk_put (cs := #[.int .i64 0, .slice none 0 0]) ?_ 0 _ rfl; (with_reducible repeat (first | refine blk_drewN ?_ _ | refine blk_drew ?_ | refine blk_alloc ?_ _)); exact BK296.out) hb); have n7_ := Aside0.mk (below_step (by repeat (first | (with_reducible first | exact HB.out | apply below_alloc | apply pw_below_drewN | apply below_drew1 | refine below_set ?_ GE267.out | refine below_set ?_ GE276.out | refine below_set ?_ GE296.out) | exact HB.out)) hb); clear HO_268001; clear HO_277001; clear HO290; clear HO294; clear BK267; clear BK276; clear BK296; clear HB; have HO_268001 := n0_; have HO_277001 := n1_; have HO290 := n2_; have HO294 := n3_; have BK267 := n4_; have BK276 := n5_; have BK296 := n6_; have HB := n7_; clear n0_ n1_ n2_ n3_ n4_ n5_ n6_ n7_; (try clear hb); (try clear hb2); (try clear hk); (try clear hi)))
             go_meet
             case rel => exact ⟨_, ((t295 != t266)), (by first | rfl | (simp; done) | (simp [*]; done)), H', ⟨by have := HJ6.out; have := HJ35.out; first | omega | exact Nat.le_refl _⟩, ⟨by (with_reducible repeat (first | apply Kd.R_alloc | apply Kd.R_drewN | apply Kd.R_drew)); exact Kd.R_mono HO_268001.out (fun _ hk => ⟨hk.1.1, hk.2⟩)⟩, ⟨by (with_reducible repeat (first | apply Kd.R_alloc | apply Kd.R_drewN | apply Kd.R_drew)); exact Kd.R_mono HO_277001.out (fun _ hk => ⟨hk.1.1, hk.2⟩)⟩, ⟨by (with_reducible repeat (first | apply Kd.R_alloc | apply Kd.R_drewN | apply Kd.R_drew)); exact Kd.R_mono HO294.out (fun _ hk => ⟨hk.1.1.2, hk.1.2⟩)⟩, ⟨by (with_reducible repeat (first | refine blk_drewN ?_ _ | refine blk_drew ?_ | refine blk_alloc ?_ _)); exact BK267.out⟩, ⟨by (with_reducible repeat (first | refine blk_drewN ?_ _ | refine blk_drew ?_ | refine blk_alloc ?_ _)); exact BK276.out⟩, ⟨by (with_reducible repeat (first | refine blk_drewN ?_ _ | refine blk_drew ?_ | refine blk_alloc ?_ _)); exact BK296.out⟩, ⟨by repeat (first | (with_reducible first | exact HB.out | apply below_alloc | apply pw_below_drewN | apply below_drew1 | refine below_set ?_ GE267.out | refine below_set ?_ GE276.out | refine below_set ?_ GE296.out) | exact HB.out)⟩⟩
            ·
             replace c78 := Bool.eq_false_iff.mpr c78
             subst c78
             have H1 : (laws_FnExactBuildGraph.j2 kj35 t285 true t271 t286) = some r := by rw [if_neg (show ¬ (false = true) by decide)] at H; exact H
             clear H
             have H := H1
             clear H1
             have H' := Aside0.mk H
             clear H
             have hnb85 := NB296_267.out
             have hnc85 := NB267_296.out
             have hnb86 := NB296_276.out
             have hnc86 := NB276_296.out
             have hcz87_0 : w72.cell? ⟨gb296, 0, none⟩ = some (.int .i64 0) := (blk_cell BK296.out 0).trans rfl
             have hcz87_1 : w72.cell? ⟨gb296, 1, none⟩ = some (.slice none 0 0) := (blk_cell BK296.out 1).trans rfl
             have hfz87_0 := blk_frozen BK296.out 0
             have hfz87_1 := blk_frozen BK296.out 1
             have hnb88 := NB267_276.out
             have hnc88 := NB276_267.out
             have hcz89_0 : w72.cell? ⟨gb267, 0, none⟩ = some (.int .i64 t262) := (blk_cell BK267.out 0).trans rfl
             have hcz89_1 : w72.cell? ⟨gb267, 1, none⟩ = some (.slice Ao13 t263.length co13) := (blk_cell BK267.out 1).trans rfl
             have hfz89_0 := blk_frozen BK267.out 0
             have hfz89_1 := blk_frozen BK267.out 1
             go_wp2_with (first | ((with_reducible refine gate_callee (f := 17) rfl ?_); refine goesL_ (some 78) rfl rfl Try.func17 (by kernel_rfl) rfl #[.agg #[.int .i64 t291, .slice Ao76 t292.length co76], .agg #[.int .i64 t262, .slice Ao13 t263.length co13]] rfl (by (try simp only [List.map_toArray, List.map_cons, List.map_nil]); first | done | rfl) ?_; (with_reducible refine (laws_eqGraph.calls kj35 t291 _ _ t292 t262 _ _ t263 false _ ?side1 ?side2 ?side3 ?side4 A77.out).mono ?_); (case side1 => refine (Kd.R_reads' (e := 3) (base := w.heap.size) (ok := fun k_ => (((True ∧ some k_ ≠ (.slice Ao13 t263.length co13 : Value).ownBlock) ∧ some k_ ≠ (.slice Ao20 t272.length co20 : Value).ownBlock) ∧ some k_ ≠ (.slice Ao70 t288.length co70 : Value).ownBlock)) (n := t292.length) (c := co76) ?_).2.2; exact (by (with_reducible repeat (first | apply Kd.R_alloc | apply Kd.R_drewN | apply Kd.R_drew)); exact (Kd.R_mono (Kd.R_far (p := ⟨gb296, 1, none⟩) (Kd.R_far (p := ⟨gb296, 0, none⟩) (Kd.R_types HO294.out BK296.out (by decide)) (fun _ hk => hk.2) (.int .i64 t291)) (fun _ hk => hk.2) (.slice Ao76 t292.length co76)) (fun _ h_ => h_.1)))); (case side2 => exact (Kd.R_reads' HO294.out).2.1); (case side3 => refine (Kd.R_reads' (e := 3) (base := w.heap.size) (ok := fun k_ => ((some k_ ≠ (.slice Ao20 t272.length co20 : Value).ownBlock ∧ some k_ ≠ (.slice Ao70 t288.length co70 : Value).ownBlock) ∧ some k_ ≠ (.slice Ao76 t292.length co76 : Value).ownBlock)) (n := t263.length) (c := co13) ?_).2.2; exact (by (with_reducible repeat (first | apply Kd.R_alloc | apply Kd.R_drewN | apply Kd.R_drew)); exact (Kd.R_mono (Kd.R_far (p := ⟨gb296, 1, none⟩) (Kd.R_far (p := ⟨gb296, 0, none⟩) (Kd.R_types HO_268001.out BK296.out (by decide)) (fun _ hk => hk.2) (.int .i64 t291)) (fun _ hk => hk.2) (.slice Ao76 t292.length co76)) (fun _ h_ => h_.1)))); (case side4 => exact (Kd.R_reads' HO_268001.out).2.1); rintro e w90 ⟨rfl, hb⟩; refine ⟨_, rfl, ?_⟩; have n0_ := Aside0.mk (Kd.R_below (by (with_reducible repeat (first | apply Kd.R_alloc | apply Kd.R_drewN | apply Kd.R_drew)); exact (Kd.R_mono (Kd.R_far (p := ⟨gb296, 1, none⟩) (Kd.R_far (p := ⟨gb296, 0, none⟩) (Kd.R_types HO_268001.out BK296.out (by decide)) (fun _ hk => hk.2) (.int .i64 t291)) (fun _ hk => hk.2) (.slice Ao76 t292.length co76)) (fun _ h_ => h_.1))) hb); have n1_ := Aside0.mk (Kd.R_below (by (with_reducible repeat (first | apply Kd.R_alloc | apply Kd.R_drewN | apply Kd.R_drew)); exact (Kd.R_mono (Kd.R_far (p := ⟨gb296, 1, none⟩) (Kd.R_far (p := ⟨gb296, 0, none⟩) (Kd.R_types HO_277001.out BK296.out (by decide)) (fun _ hk => hk.2) (.int .i64 t291)) (fun _ hk => hk.2) (.slice Ao76 t292.length co76)) (fun _ h_ => h_.1))) hb); have n2_ := Aside0.mk (Kd.R_below (by (with_reducible repeat (first | apply Kd.R_alloc | apply Kd.R_drewN | apply Kd.R_drew)); exact (Kd.R_mono (Kd.R_far (p := ⟨gb296, 1, none⟩) (Kd.R_far (p := ⟨gb296, 0, none⟩) (Kd.R_types HO290.out BK296.out (by decide)) (fun _ hk => hk.2) (.int .i64 t291)) (fun _ hk => hk.2) (.slice Ao76 t292.length co76)) (fun _ h_ => h_.1))) hb); have n3_ := Aside0.mk (Kd.R_below (by (with_reducible repeat (first | apply Kd.R_alloc | apply Kd.R_drewN | apply Kd.R_drew)); exact (Kd.R_mono (Kd.R_far (p := ⟨gb296, 1, none⟩) (Kd.R_far (p := ⟨gb296, 0, none⟩) (Kd.R_types HO294.out BK296.out (by decide)) (fun _ hk => hk.2) (.int .i64 t291)) (fun _ hk => hk.2) (.slice Ao76 t292.length co76)) (fun _ h_ => h_.1))) hb); have n4_ := Aside0.mk (blk_below (g := gb267) (o := .cells #[.int .i64 t262, .slice Ao13 t263.length co13] 33 (0, 0)) (by (with_reducible repeat (first | refine blk_drewN ?_ _ | refine blk_drew ?_ | refine blk_alloc ?_ _)); refine blk_far ?_ NB267_296.out _; (with_reducible repeat (first | refine blk_drewN ?_ _ | refine blk_drew ?_ | refine blk_alloc ?_ _)); refine blk_far ?_ NB267_296.out _; (with_reducible repeat (first | refine blk_drewN ?_ _ | refine blk_drew ?_ | refine blk_alloc ?_ _)); exact BK267.out) hb); have n5_ := Aside0.mk (blk_below (g := gb276) (o := .cells #[.int .i64 t271, .slice Ao20 t272.length co20] 33 (0, 0)) (by (with_reducible repeat (first | refine blk_drewN ?_ _ | refine blk_drew ?_ | refine blk_alloc ?_ _)); refine blk_far ?_ NB276_296.out _; (with_reducible repeat (first | refine blk_drewN ?_ _ | refine blk_drew ?_ | refine blk_alloc ?_ _)); refine blk_far ?_ NB276_296.out _; (with_reducible repeat (first | refine blk_drewN ?_ _ | refine blk_drew ?_ | refine blk_alloc ?_ _)); exact BK276.out) hb); have n6_ := Aside0.mk (blk_below (g := gb296) (o := .cells #[.int .i64 t291, .slice Ao76 t292.length co76] 33 (0, 0)) (by (with_reducible repeat (first | refine blk_drewN ?_ _ | refine blk_drew ?_ | refine blk_alloc ?_ _)); refine blk_put (cs := #[.int .i64 t291, .slice none 0 0]) ?_ 1 _ rfl; (with_reducible repeat (first | refine blk_drewN ?_ _ | refine blk_drew ?_ | refine blk_alloc ?_ _)); refine blk_put (cs := #[.int .i64 0, .slice none 0 0]) ?_ 0 _ rfl; (with_reducible repeat (first | refine blk_drewN ?_ _ | refine blk_drew ?_ | refine blk_alloc ?_ _)); exact BK296.out) hb); have n7_ := Aside0.mk (below_step (by repeat (first | (with_reducible first | exact HB.out | apply below_alloc | apply pw_below_drewN | apply below_drew1 | refine below_set ?_ GE267.out | refine below_set ?_ GE276.out | refine below_set ?_ GE296.out) | exact HB.out)) hb); clear HO_268001; clear HO_277001; clear HO290; clear HO294; clear BK267; clear BK276; clear BK296; clear HB; have HO_268001 := n0_; have HO_277001 := n1_; have HO290 := n2_; have HO294 := n3_; have BK267 := n4_; have BK276 := n5_; have BK296 := n6_; have HB := n7_; clear n0_ n1_ n2_ n3_ n4_ n5_ n6_ n7_; (try clear hb); (try clear hb2); (try clear hk); (try clear hi)))
             go_meet
             case rel => exact ⟨_, (true), (by first | rfl | (simp; done) | (simp [*]; done)), H', ⟨by have := HJ6.out; have := HJ35.out; first | omega | exact Nat.le_refl _⟩, ⟨by (with_reducible repeat (first | apply Kd.R_alloc | apply Kd.R_drewN | apply Kd.R_drew)); exact Kd.R_mono HO_268001.out (fun _ hk => ⟨hk.1.1, hk.2⟩)⟩, ⟨by (with_reducible repeat (first | apply Kd.R_alloc | apply Kd.R_drewN | apply Kd.R_drew)); exact Kd.R_mono HO_277001.out (fun _ hk => ⟨hk.1.1, hk.2⟩)⟩, ⟨by (with_reducible repeat (first | apply Kd.R_alloc | apply Kd.R_drewN | apply Kd.R_drew)); exact Kd.R_mono HO294.out (fun _ hk => ⟨hk.1.1.2, hk.1.2⟩)⟩, ⟨by (with_reducible repeat (first | refine blk_drewN ?_ _ | refine blk_drew ?_ | refine blk_alloc ?_ _)); exact BK267.out⟩, ⟨by (with_reducible repeat (first | refine blk_drewN ?_ _ | refine blk_drew ?_ | refine blk_alloc ?_ _)); exact BK276.out⟩, ⟨by (with_reducible repeat (first | refine blk_drewN ?_ _ | refine blk_drew ?_ | refine blk_alloc ?_ _)); exact BK296.out⟩, ⟨by repeat (first | (with_reducible first | exact HB.out | apply below_alloc | apply pw_below_drewN | apply below_drew1 | refine below_set ?_ GE267.out | refine below_set ?_ GE276.out | refine below_set ?_ GE296.out) | exact HB.out)⟩⟩
           case rest =>
            clear HC63
            try clear c1
            try clear c2
            try clear c2b0
            try clear c2b1
            try clear p2
            try clear c3
            try clear c4
            try clear c5
            try clear c6
            try clear c7
            try clear c8
            try clear c11
            try clear c12
            try clear c15
            try clear c16
            try clear c17
            try clear c18
            try clear c19
            try clear c22
            try clear c23
            try clear c27
            try clear c31
            try clear c34
            try clear c40
            try clear c40b0
            try clear c42
            try clear c43
            try clear c47
            try clear c51
            try clear c54
            try clear c54b0
            try clear c55
            try clear c60
            try clear c60b0
            try clear c60b1
            try clear c64
            try clear c73
            try clear c74
            try clear c78
            try clear c79
            try clear c80
            try clear c82
            try clear c85
            try clear c86
            try clear c88
            try clear hcz12_0
            try clear hcz12_1
            try clear hcz19_0
            try clear hcz19_1
            try clear hcz24_0
            try clear hcz24_1
            try clear hcz25_0
            try clear hcz25_1
            try clear hcz28_0
            try clear hcz28_1
            try clear hcz29_0
            try clear hcz29_1
            try clear hcz44_0
            try clear hcz44_1
            try clear hcz45_0
            try clear hcz45_1
            try clear hcz48_0
            try clear hcz48_1
            try clear hcz49_0
            try clear hcz49_1
            try clear hcz56_0
            try clear hcz56_1
            try clear hcz58_0
            try clear hcz58_1
            try clear hcz65_0
            try clear hcz65_1
            try clear hcz67_0
            try clear hcz67_1
            try clear hcz75_0
            try clear hcz75_1
            try clear hcz81_0
            try clear hcz81_1
            try clear hcz83_0
            try clear hcz83_1
            try clear hcz87_0
            try clear hcz87_1
            try clear hcz89_0
            try clear hcz89_1
            try clear hfz12_0
            try clear hfz12_1
            try clear hfz19_0
            try clear hfz19_1
            try clear hfz24_0
            try clear hfz24_1
            try clear hfz25_0
            try clear hfz25_1
            try clear hfz28_0
            try clear hfz28_1
            try clear hfz29_0
            try clear hfz29_1
            try clear hfz44_0
            try clear hfz44_1
            try clear hfz45_0
            try clear hfz45_1
            try clear hfz48_0
            try clear hfz48_1
            try clear hfz49_0
            try clear hfz49_1
            try clear hfz56_0
            try clear hfz56_1
            try clear hfz58_0
            try clear hfz58_1
            try clear hfz65_0
            try clear hfz65_1
            try clear hfz67_0
            try clear hfz67_1
            try clear hfz75_0
            try clear hfz75_1
            try clear hfz81_0
            try clear hfz81_1
            try clear hfz83_0
            try clear hfz83_1
            try clear hfz87_0
            try clear hfz87_1
            try clear hfz89_0
            try clear hfz89_1
            try clear p2
            obtain ⟨kq, x84_62, rfl, HA, HJ62, HO_268001, HO_277001, HO_297001, BK267, BK276, BK296, HB⟩ := hcut
            have hl277001_62 := (Kd.R_reads' HO_277001.out).1
            rw [hl277001_62] at HO_277001
            (try simp only [hl277001_62])
            (try simp only [hl277001_62] at BK267)
            (try simp only [hl277001_62] at BK276)
            (try simp only [hl277001_62] at BK296)
            (try simp only [hl277001_62] at HO_268001)
            (try simp only [hl277001_62] at HO_297001)
            cases kq with
            | zero => exact absurd HA.out (by simp [laws_FnExactBuildGraph.j2])
            | succ kj62 =>
             have H := HA.out
             clear HA
             simp only [laws_FnExactBuildGraph.j2] at H
             by_cases c91 : x84_62 = true
             ·
              subst c91
              have H1 : (some false) = some r := by rw [if_pos rfl] at H; exact H
              clear H
              have H := H1
              clear H1
              obtain rfl := Option.some.inj H
              go_wp2
              go_ret
              exact ⟨by first | rfl | (simp [errW_none, errW_some] <;> rfl) | (simp [*, errW_none, errW_some] <;> rfl), by repeat (first | (with_reducible first | exact HB.out | apply below_alloc | apply pw_below_drewN | apply below_drew1 | refine below_set ?_ GE267.out | refine below_set ?_ GE276.out | refine below_set ?_ GE296.out) | exact HB.out)⟩
             ·
              replace c91 := Bool.eq_false_iff.mpr c91
              subst c91
              have H1 : ((laws_heldGraph.f kj62 t271 t286 1).bind fun t298 => (if t298 < 0 then (some false) else (if t298 = t285 then (some true) else (some false)))) = some r := by rw [if_neg (show ¬ (false = true) by decide)] at H; exact H
              clear H
              have H := H1
              clear H1
              replace H := Option.bind_eq_some_iff.mp H
              obtain ⟨t298, A920, H⟩ := H
              replace H : (if t298 < 0 then (some false) else (if t298 = t285 then (some true) else (some false))) = some r := H
              have A92 := Aside0.mk A920
              clear A920
              by_cases c93 : t298 < 0
              ·
               rw [if_pos c93] at H
               have c93b0 : decide (t298 < 0) = true := decide_eq_true c93
               (try (have c93b1 := c93b0; simp only [hl277001_62] at c93b1))
               clear c93
               obtain rfl := Option.some.inj H
               have hnb94 := NB276_267.out
               have hnc94 := NB267_276.out
               have hnb95 := NB276_296.out
               have hnc95 := NB296_276.out
               have hcz96_0 : wc.cell? ⟨gb276, 0, none⟩ = some (.int .i64 t271) := (blk_cell BK276.out 0).trans rfl
               have hcz96_1 : wc.cell? ⟨gb276, 1, none⟩ = some (.slice Ao20 t286.length co20) := (blk_cell BK276.out 1).trans rfl
               have hfz96_0 := blk_frozen BK276.out 0
               have hfz96_1 := blk_frozen BK276.out 1
               go_wp2_with (first | ((with_reducible refine gate_callee (f := 19) rfl ?_); refine goesL_ (some 87) rfl rfl Try.func19 (by kernel_rfl) rfl #[.agg #[.int .i64 t271, .slice Ao20 t286.length co20], .int .i64 1] rfl (by (try simp only [List.map_toArray, List.map_cons, List.map_nil]); first | done | rfl) ?_; (with_reducible refine (laws_heldGraph.calls kj62 t271 _ _ t286 1 t298 _ ?side1 ?side2 A92.out).mono ?_); (case side1 => repeat (first | exact (Kd.R_reads' HO_277001.out).2.2 | (with_reducible refine Kd.C_alloc ?_ _) | (with_reducible refine Kd.C_drewN ?_ _) | (with_reducible refine Kd.C_drew ?_))); (case side2 => exact (Kd.R_reads' HO_277001.out).2.1); rintro e w97 ⟨rfl, hb⟩; refine ⟨_, rfl, ?_⟩; have n0_ := Aside0.mk (Kd.R_below (by (with_reducible repeat (first | apply Kd.R_alloc | apply Kd.R_drewN | apply Kd.R_drew)); exact HO_268001.out) hb); have n1_ := Aside0.mk (Kd.R_below (by (with_reducible repeat (first | apply Kd.R_alloc | apply Kd.R_drewN | apply Kd.R_drew)); exact HO_277001.out) hb); have n2_ := Aside0.mk (Kd.R_below (by (with_reducible repeat (first | apply Kd.R_alloc | apply Kd.R_drewN | apply Kd.R_drew)); exact HO_297001.out) hb); have n3_ := Aside0.mk (blk_below (g := gb267) (o := .cells #[.int .i64 t262, .slice Ao13 t263.length co13] 33 (0, 0)) (by (with_reducible repeat (first | refine blk_drewN ?_ _ | refine blk_drew ?_ | refine blk_alloc ?_ _)); exact BK267.out) hb); have n4_ := Aside0.mk (blk_below (g := gb276) (o := .cells #[.int .i64 t271, .slice Ao20 t286.length co20] 33 (0, 0)) (by (with_reducible repeat (first | refine blk_drewN ?_ _ | refine blk_drew ?_ | refine blk_alloc ?_ _)); exact BK276.out) hb); have n5_ := Aside0.mk (blk_below (g := gb296) (o := .cells #[.int .i64 t291, .slice Ao76 t292.length co76] 33 (0, 0)) (by (with_reducible repeat (first | refine blk_drewN ?_ _ | refine blk_drew ?_ | refine blk_alloc ?_ _)); exact BK296.out) hb); have n6_ := Aside0.mk (below_step (by repeat (first | (with_reducible first | exact HB.out | apply below_alloc | apply pw_below_drewN | apply below_drew1 | refine below_set ?_ GE267.out | refine below_set ?_ GE276.out | refine below_set ?_ GE296.out) | exact HB.out)) hb); clear HO_268001; clear HO_277001; clear HO_297001; clear BK267; clear BK276; clear BK296; clear HB; have HO_268001 := n0_; have HO_277001 := n1_; have HO_297001 := n2_; have BK267 := n3_; have BK276 := n4_; have BK296 := n5_; have HB := n6_; clear n0_ n1_ n2_ n3_ n4_ n5_ n6_; (try clear hb); (try clear hb2); (try clear hk); (try clear hi)))
               go_ret
               exact ⟨by first | rfl | (simp [errW_none, errW_some] <;> rfl) | (simp [*, errW_none, errW_some] <;> rfl), by repeat (first | (with_reducible first | exact HB.out | apply below_alloc | apply pw_below_drewN | apply below_drew1 | refine below_set ?_ GE267.out | refine below_set ?_ GE276.out | refine below_set ?_ GE296.out) | exact HB.out)⟩
              ·
               rw [if_neg c93] at H
               have c93b0 : decide (t298 < 0) = false := decide_eq_false c93
               (try (have c93b1 := c93b0; simp only [hl277001_62] at c93b1))
               clear c93
               by_cases c98 : t298 = t285
               ·
                rw [if_pos c98] at H
                have c98b0 : (t298 == t285) = true := beq_iff_eq.mpr c98
                have c98b1 : (t298 != t285) = false := bne_eq_false_iff_eq.mpr c98
                clear c98
                obtain rfl := Option.some.inj H
                have hnb99 := NB276_267.out
                have hnc99 := NB267_276.out
                have hnb100 := NB276_296.out
                have hnc100 := NB296_276.out
                have hcz101_0 : wc.cell? ⟨gb276, 0, none⟩ = some (.int .i64 t271) := (blk_cell BK276.out 0).trans rfl
                have hcz101_1 : wc.cell? ⟨gb276, 1, none⟩ = some (.slice Ao20 t286.length co20) := (blk_cell BK276.out 1).trans rfl
                have hfz101_0 := blk_frozen BK276.out 0
                have hfz101_1 := blk_frozen BK276.out 1
                go_wp2_with (first | ((with_reducible refine gate_callee (f := 19) rfl ?_); refine goesL_ (some 87) rfl rfl Try.func19 (by kernel_rfl) rfl #[.agg #[.int .i64 t271, .slice Ao20 t286.length co20], .int .i64 1] rfl (by (try simp only [List.map_toArray, List.map_cons, List.map_nil]); first | done | rfl) ?_; (with_reducible refine (laws_heldGraph.calls kj62 t271 _ _ t286 1 t298 _ ?side1 ?side2 A92.out).mono ?_); (case side1 => repeat (first | exact (Kd.R_reads' HO_277001.out).2.2 | (with_reducible refine Kd.C_alloc ?_ _) | (with_reducible refine Kd.C_drewN ?_ _) | (with_reducible refine Kd.C_drew ?_))); (case side2 => exact (Kd.R_reads' HO_277001.out).2.1); rintro e w102 ⟨rfl, hb⟩; refine ⟨_, rfl, ?_⟩; have n0_ := Aside0.mk (Kd.R_below (by (with_reducible repeat (first | apply Kd.R_alloc | apply Kd.R_drewN | apply Kd.R_drew)); exact HO_268001.out) hb); have n1_ := Aside0.mk (Kd.R_below (by (with_reducible repeat (first | apply Kd.R_alloc | apply Kd.R_drewN | apply Kd.R_drew)); exact HO_277001.out) hb); have n2_ := Aside0.mk (Kd.R_below (by (with_reducible repeat (first | apply Kd.R_alloc | apply Kd.R_drewN | apply Kd.R_drew)); exact HO_297001.out) hb); have n3_ := Aside0.mk (blk_below (g := gb267) (o := .cells #[.int .i64 t262, .slice Ao13 t263.length co13] 33 (0, 0)) (by (with_reducible repeat (first | refine blk_drewN ?_ _ | refine blk_drew ?_ | refine blk_alloc ?_ _)); exact BK267.out) hb); have n4_ := Aside0.mk (blk_below (g := gb276) (o := .cells #[.int .i64 t271, .slice Ao20 t286.length co20] 33 (0, 0)) (by (with_reducible repeat (first | refine blk_drewN ?_ _ | refine blk_drew ?_ | refine blk_alloc ?_ _)); exact BK276.out) hb); have n5_ := Aside0.mk (blk_below (g := gb296) (o := .cells #[.int .i64 t291, .slice Ao76 t292.length co76] 33 (0, 0)) (by (with_reducible repeat (first | refine blk_drewN ?_ _ | refine blk_drew ?_ | refine blk_alloc ?_ _)); exact BK296.out) hb); have n6_ := Aside0.mk (below_step (by repeat (first | (with_reducible first | exact HB.out | apply below_alloc | apply pw_below_drewN | apply below_drew1 | refine below_set ?_ GE267.out | refine below_set ?_ GE276.out | refine below_set ?_ GE296.out) | exact HB.out)) hb); clear HO_268001; clear HO_277001; clear HO_297001; clear BK267; clear BK276; clear BK296; clear HB; have HO_268001 := n0_; have HO_277001 := n1_; have HO_297001 := n2_; have BK267 := n3_; have BK276 := n4_; have BK296 := n5_; have HB := n6_; clear n0_ n1_ n2_ n3_ n4_ n5_ n6_; (try clear hb); (try clear hb2); (try clear hk); (try clear hi)))
                go_ret
                exact ⟨by first | rfl | (simp [errW_none, errW_some] <;> rfl) | (simp [*, errW_none, errW_some] <;> rfl), by repeat (first | (with_reducible first | exact HB.out | apply below_alloc | apply pw_below_drewN | apply below_drew1 | refine below_set ?_ GE267.out | refine below_set ?_ GE276.out | refine below_set ?_ GE296.out) | exact HB.out)⟩
               ·
                rw [if_neg c98] at H
                have c98b0 : (t298 == t285) = false := beq_eq_false_iff_ne.mpr c98
                have c98b1 : (t298 != t285) = true := bne_iff_ne.mpr c98
                obtain rfl := Option.some.inj H
                have hnb103 := NB276_267.out
                have hnc103 := NB267_276.out
                have hnb104 := NB276_296.out
                have hnc104 := NB296_276.out
                have hcz105_0 : wc.cell? ⟨gb276, 0, none⟩ = some (.int .i64 t271) := (blk_cell BK276.out 0).trans rfl
                have hcz105_1 : wc.cell? ⟨gb276, 1, none⟩ = some (.slice Ao20 t286.length co20) := (blk_cell BK276.out 1).trans rfl
                have hfz105_0 := blk_frozen BK276.out 0
                have hfz105_1 := blk_frozen BK276.out 1
                go_wp2_with (first | ((with_reducible refine gate_callee (f := 19) rfl ?_); refine goesL_ (some 87) rfl rfl Try.func19 (by kernel_rfl) rfl #[.agg #[.int .i64 t271, .slice Ao20 t286.length co20], .int .i64 1] rfl (by (try simp only [List.map_toArray, List.map_cons, List.map_nil]); first | done | rfl) ?_; (with_reducible refine (laws_heldGraph.calls kj62 t271 _ _ t286 1 t298 _ ?side1 ?side2 A92.out).mono ?_); (case side1 => repeat (first | exact (Kd.R_reads' HO_277001.out).2.2 | (with_reducible refine Kd.C_alloc ?_ _) | (with_reducible refine Kd.C_drewN ?_ _) | (with_reducible refine Kd.C_drew ?_))); (case side2 => exact (Kd.R_reads' HO_277001.out).2.1); rintro e w106 ⟨rfl, hb⟩; refine ⟨_, rfl, ?_⟩; have n0_ := Aside0.mk (Kd.R_below (by (with_reducible repeat (first | apply Kd.R_alloc | apply Kd.R_drewN | apply Kd.R_drew)); exact HO_268001.out) hb); have n1_ := Aside0.mk (Kd.R_below (by (with_reducible repeat (first | apply Kd.R_alloc | apply Kd.R_drewN | apply Kd.R_drew)); exact HO_277001.out) hb); have n2_ := Aside0.mk (Kd.R_below (by (with_reducible repeat (first | apply Kd.R_alloc | apply Kd.R_drewN | apply Kd.R_drew)); exact HO_297001.out) hb); have n3_ := Aside0.mk (blk_below (g := gb267) (o := .cells #[.int .i64 t262, .slice Ao13 t263.length co13] 33 (0, 0)) (by (with_reducible repeat (first | refine blk_drewN ?_ _ | refine blk_drew ?_ | refine blk_alloc ?_ _)); exact BK267.out) hb); have n4_ := Aside0.mk (blk_below (g := gb276) (o := .cells #[.int .i64 t271, .slice Ao20 t286.length co20] 33 (0, 0)) (by (with_reducible repeat (first | refine blk_drewN ?_ _ | refine blk_drew ?_ | refine blk_alloc ?_ _)); exact BK276.out) hb); have n5_ := Aside0.mk (blk_below (g := gb296) (o := .cells #[.int .i64 t291, .slice Ao76 t292.length co76] 33 (0, 0)) (by (with_reducible repeat (first | refine blk_drewN ?_ _ | refine blk_drew ?_ | refine blk_alloc ?_ _)); exact BK296.out) hb); have n6_ := Aside0.mk (below_step (by repeat (first | (with_reducible first | exact HB.out | apply below_alloc | apply pw_below_drewN | apply below_drew1 | refine below_set ?_ GE267.out | refine below_set ?_ GE276.out | refine below_set ?_ GE296.out) | exact HB.out)) hb); clear HO_268001; clear HO_277001; clear HO_297001; clear BK267; clear BK276; clear BK296; clear HB; have HO_268001 := n0_; have HO_277001 := n1_; have HO_297001 := n2_; have BK267 := n3_; have BK276 := n4_; have BK296 := n5_; have HB := n6_; clear n0_ n1_ n2_ n3_ n4_ n5_ n6_; (try clear hb); (try clear hb2); (try clear hk); (try clear hi)))
                go_ret
                exact ⟨by first | rfl | (simp [errW_none, errW_some] <;> rfl) | (simp [*, errW_none, errW_some] <;> rfl), by repeat (first | (with_reducible first | exact HB.out | apply below_alloc | apply pw_below_drewN | apply below_drew1 | refine below_set ?_ GE267.out | refine below_set ?_ GE276.out | refine below_set ?_ GE296.out) | exact HB.out)⟩
          ·
           rw [if_neg c60] at H
           have c60b0 : (t287 == t285) = false := beq_eq_false_iff_ne.mpr c60
           have c60b1 : (t287 != t285) = true := bne_iff_ne.mpr c60
           obtain rfl := Option.some.inj H
           have hnb107 := NB276_267.out
           have hnc107 := NB267_276.out
           have hcz108_0 : wc.cell? ⟨gb276, 0, none⟩ = some (.int .i64 t271) := (blk_cell BK276.out 0).trans rfl
           have hcz108_1 : wc.cell? ⟨gb276, 1, none⟩ = some (.slice Ao20 t272.length co20) := (blk_cell BK276.out 1).trans rfl
           have hfz108_0 := blk_frozen BK276.out 0
           have hfz108_1 := blk_frozen BK276.out 1
           go_wp2_with (first | ((with_reducible refine gate_callee (f := 18) rfl ?_); refine goesL_ (some 61) rfl rfl Try.func18 (by kernel_rfl) rfl #[.agg #[.int .i64 t271, .slice Ao20 t272.length co20], .int .i64 1] rfl (by (try simp only [List.map_toArray, List.map_cons, List.map_nil]); first | done | rfl) ?_; (with_reducible refine (laws_markGraph.calls kj35 t271 (fun k_ => some k_ = (.slice Ao20 t272.length co20 : Value).ownBlock) (.slice Ao20 t272.length co20) t272 1 t285 t286 w _ ?side1 ?side2 A52.out).mono ?_); (case side1 => repeat (first | (with_reducible first | exact HB.out | apply below_alloc | apply pw_below_drewN | apply below_drew1 | refine below_set ?_ GE267.out | refine below_set ?_ GE276.out) | exact HB.out)); (case side2 => exact Kd.R_tight rfl HO_277001.out); rintro e w109 ⟨rfl, hy0, hb, hkp⟩; refine ⟨_, rfl, ?_⟩; have n0_ := Aside0.mk (Kd.R_mono (ok' := fun k_ => some k_ ≠ (.slice Ao20 t272.length co20 : Value).ownBlock) (Kd.R_keptB (HO_268001.out) hkp (fun k_ hk_ hs_ => (hk_) hs_)) (fun k_ hk_ => hk_.1)); have n1_ := Aside0.mk (Kd.R_reok rfl hy0 (fun k_ e_ => HO_277001.out.1 k_ e_)); have n2_ := Aside0.mk (blk_kept (by (with_reducible repeat (first | refine blk_drewN ?_ _ | refine blk_drew ?_ | refine blk_alloc ?_ _)); exact BK267.out) hkp (fun hs_ => (fun e_ => (Kd.R_ne HO_277001.out BK267.out (by decide)) e_) hs_)); have n3_ := Aside0.mk (blk_kept (by (with_reducible repeat (first | refine blk_drewN ?_ _ | refine blk_drew ?_ | refine blk_alloc ?_ _)); exact BK276.out) hkp (fun hs_ => (fun e_ => (Kd.R_ne HO_277001.out BK276.out (by decide)) e_) hs_)); have n4_ := Aside0.mk (hb); clear HO_268001; clear HO_277001; clear BK267; clear BK276; clear HB; have HO_268001 := n0_; have HO_277001 := n1_; have BK267 := n2_; have BK276 := n3_; have HB := n4_; clear n0_ n1_ n2_ n3_ n4_; (try clear hb); (try clear hkp); (try clear hy0); have hcz110_0 : w109.cell? ⟨gb276, 0, none⟩ = some (.int .i64 t271) := (blk_cell BK276.out 0).trans rfl; have hcz110_1 : w109.cell? ⟨gb276, 1, none⟩ = some (.slice Ao20 t272.length co20) := (blk_cell BK276.out 1).trans rfl; have hfz110_0 := blk_frozen BK276.out 0; have hfz110_1 := blk_frozen BK276.out 1) | ((with_reducible refine gate_callee (f := 19) rfl ?_); refine goesL_ (some 64) rfl rfl Try.func19 (by kernel_rfl) rfl #[.agg #[.int .i64 t271, .slice Ao20 t286.length co20], .int .i64 1] rfl (by (try simp only [List.map_toArray, List.map_cons, List.map_nil]); first | done | (rw [show t286.length = t272.length from (Kd.R_reads' HO_277001.out).1.symm] <;> rfl) | rfl | (simp only [List.length_drop, List.length_take]; rfl)) ?_; (with_reducible refine (laws_heldGraph.calls kj35 t271 _ _ t286 1 t287 _ ?side1 ?side2 A53.out).mono ?_); (case side1 => repeat (first | exact (Kd.R_reads' HO_277001.out).2.2 | (with_reducible refine Kd.C_alloc ?_ _) | (with_reducible refine Kd.C_drewN ?_ _) | (with_reducible refine Kd.C_drew ?_))); (case side2 => rw [show t286.length = t272.length from (Kd.R_reads' HO_277001.out).1.symm]; exact (Kd.R_reads' HO_277001.out).2.1); rintro e w111 ⟨rfl, hb⟩; refine ⟨_, rfl, ?_⟩; have n0_ := Aside0.mk (Kd.R_below (by (with_reducible repeat (first | apply Kd.R_alloc | apply Kd.R_drewN | apply Kd.R_drew)); exact HO_268001.out) hb); have n1_ := Aside0.mk (Kd.R_below (by (with_reducible repeat (first | apply Kd.R_alloc | apply Kd.R_drewN | apply Kd.R_drew)); exact HO_277001.out) hb); have n2_ := Aside0.mk (blk_below (g := gb267) (o := .cells #[.int .i64 t262, .slice Ao13 t263.length co13] 33 (0, 0)) (by (with_reducible repeat (first | refine blk_drewN ?_ _ | refine blk_drew ?_ | refine blk_alloc ?_ _)); exact BK267.out) hb); have n3_ := Aside0.mk (blk_below (g := gb276) (o := .cells #[.int .i64 t271, .slice Ao20 t272.length co20] 33 (0, 0)) (by (with_reducible repeat (first | refine blk_drewN ?_ _ | refine blk_drew ?_ | refine blk_alloc ?_ _)); exact BK276.out) hb); have n4_ := Aside0.mk (below_step (by repeat (first | (with_reducible first | exact HB.out | apply below_alloc | apply pw_below_drewN | apply below_drew1 | refine below_set ?_ GE267.out | refine below_set ?_ GE276.out) | exact HB.out)) hb); clear HO_268001; clear HO_277001; clear BK267; clear BK276; clear HB; have HO_268001 := n0_; have HO_277001 := n1_; have BK267 := n2_; have BK276 := n3_; have HB := n4_; clear n0_ n1_ n2_ n3_ n4_; (try clear hb); (try clear hb2); (try clear hk); (try clear hi)))
           go_ret
           exact ⟨by first | rfl | (simp [errW_none, errW_some] <;> rfl) | (simp [*, errW_none, errW_some] <;> rfl), by repeat (first | (with_reducible first | exact HB.out | apply below_alloc | apply pw_below_drewN | apply below_drew1 | refine below_set ?_ GE267.out | refine below_set ?_ GE276.out) | exact HB.out)⟩
     ·
      replace c34 := Bool.eq_false_iff.mpr c34
      subst c34
      have H1 : (some false) = some r := by rw [if_neg (show ¬ (false = true) by decide)] at H; exact H
      clear H
      have H := H1
      clear H1
      obtain rfl := Option.some.inj H
      go_wp2_with (first | ((with_reducible refine gate_callee (f := 8) rfl ?_); refine goesL_ (some 40) rfl rfl Try.func8 (by kernel_rfl) rfl #[.slice A0 l0.length c0] rfl (by (try simp only [List.map_toArray, List.map_cons, List.map_nil]); first | done | rfl) ?_; (with_reducible refine (laws_toIntS.calls kj6 _ _ l0 t278 _ ?side1 ?side2 A32.out).mono ?_); (case side1 => repeat (first | exact (Kd.C_below HR0.out HB.out) | (with_reducible refine Kd.C_alloc ?_ _) | (with_reducible refine Kd.C_drewN ?_ _) | (with_reducible refine Kd.C_drew ?_))); (case side2 => exact HC0.out); rintro e w112 ⟨v279, rfl, ho0, hb⟩; refine ⟨_, rfl, ?_⟩; have n0_ := Aside0.mk (Kd.R_elder' (by (with_reducible repeat (first | apply Kd.R_alloc | apply Kd.R_drewN | apply Kd.R_drew)); exact HO_5.out) (Kd.R_base ho0) hb); have n1_ := Aside0.mk (Kd.R_elder' (by (with_reducible repeat (first | apply Kd.R_alloc | apply Kd.R_drewN | apply Kd.R_drew)); exact HO_268001.out) (Kd.R_base ho0) hb); have n2_ := Aside0.mk (Kd.R_elder' (by (with_reducible repeat (first | apply Kd.R_alloc | apply Kd.R_drewN | apply Kd.R_drew)); exact HO_277001.out) (Kd.R_base ho0) hb); have n3_ := Aside0.mk (Kd.R_lower (Kd.R_new' (Kd.R_new' (Kd.R_new' ho0 (Kd.R_lt (by (with_reducible repeat (first | apply Kd.R_alloc | apply Kd.R_drewN | apply Kd.R_drew)); exact HO_5.out))) (Kd.R_lt (by (with_reducible repeat (first | apply Kd.R_alloc | apply Kd.R_drewN | apply Kd.R_drew)); exact HO_268001.out))) (Kd.R_lt (by (with_reducible repeat (first | apply Kd.R_alloc | apply Kd.R_drewN | apply Kd.R_drew)); exact HO_277001.out))) (below_size (by repeat (first | (with_reducible first | exact HB.out | apply below_alloc | apply pw_below_drewN | apply below_drew1 | refine below_set ?_ GE267.out | refine below_set ?_ GE276.out) | exact HB.out)))); have n4_ := Aside0.mk (blk_below (g := gb267) (o := .cells #[.int .i64 t262, .slice Ao13 t263.length co13] 33 (0, 0)) (by (with_reducible repeat (first | refine blk_drewN ?_ _ | refine blk_drew ?_ | refine blk_alloc ?_ _)); exact BK267.out) hb); have n5_ := Aside0.mk (blk_below (g := gb276) (o := .cells #[.int .i64 t271, .slice Ao20 t272.length co20] 33 (0, 0)) (by (with_reducible repeat (first | refine blk_drewN ?_ _ | refine blk_drew ?_ | refine blk_alloc ?_ _)); exact BK276.out) hb); have n6_ := Aside0.mk (below_step (by repeat (first | (with_reducible first | exact HB.out | apply below_alloc | apply pw_below_drewN | apply below_drew1 | refine below_set ?_ GE267.out | refine below_set ?_ GE276.out) | exact HB.out)) hb); clear HO_5; clear HO_268001; clear HO_277001; clear BK267; clear BK276; clear HB; have HO_5 := n0_; have HO_268001 := n1_; have HO_277001 := n2_; have HO280 := n3_; have BK267 := n4_; have BK276 := n5_; have HB := n6_; clear n0_ n1_ n2_ n3_ n4_ n5_ n6_; (try clear hb); (try clear hb2); (try clear hk); (try clear hi); (try clear ho0); obtain ⟨Ao113, co113, eo113⟩ := Kd.R_slice HO280.out; subst eo113) | ((with_reducible refine gate_callee (f := 11) rfl ?_); refine goesL_ (some 41) rfl rfl Try.func11 (by kernel_rfl) rfl #[.slice Ao15 t268.length co15, .slice Ao113 t278.length co113] rfl (by (try simp only [List.map_toArray, List.map_cons, List.map_nil]); first | done | rfl) ?_; (with_reducible refine (laws_eqIntS.calls kj6 _ _ t268 _ _ t278 false _ ?side1 ?side2 ?side3 ?side4 A33.out).mono ?_); (case side1 => repeat (first | exact (Kd.R_reads' HO_5.out).2.2 | (with_reducible refine Kd.C_alloc ?_ _) | (with_reducible refine Kd.C_drewN ?_ _) | (with_reducible refine Kd.C_drew ?_))); (case side2 => exact (Kd.R_reads' HO_5.out).2.1); (case side3 => repeat (first | exact (Kd.R_reads' HO280.out).2.2 | (with_reducible refine Kd.C_alloc ?_ _) | (with_reducible refine Kd.C_drewN ?_ _) | (with_reducible refine Kd.C_drew ?_))); (case side4 => exact (Kd.R_reads' HO280.out).2.1); rintro e w' ⟨rfl, ⟨nd, rfl⟩⟩; refine ⟨_, rfl, ?_⟩))
      go_ret
      exact ⟨by first | rfl | (simp [errW_none, errW_some] <;> rfl) | (simp [*, errW_none, errW_some] <;> rfl), by repeat (first | (with_reducible first | exact HB.out | apply below_alloc | apply pw_below_drewN | apply below_drew1 | refine below_set ?_ GE267.out | refine below_set ?_ GE276.out) | exact HB.out)⟩
def laws_FnExactBuildGraph.Pure : Prop := ∀ (l0 : List Int), l0.length ≤ maxLen → l0.length * 8 ≤ 140737488351232 → (∀ x ∈ l0, (Lit.int .i64 x).wf = true) → ∃ k, laws_FnExactBuildGraph.f k l0 = some true
theorem laws_FnExactBuildGraph.walk (P : laws_FnExactBuildGraph.Pure) (a0 : Option Addr) (len0 cap0 : Nat) (z0 : List Int) (w : World) (w0 : (a0 = none ∧ len0 = 0 ∧ cap0 = 0 ∧ z0 = []) ∨ ∃ x, a0 = some x ∧ len0 ≤ cap0 ∧ cap0 ≤ maxLen ∧ z0.length = cap0 ∧ (∀ i, i < z0.length → w.cell? (x.add i) = some (.int .i64 (z0.getD i 0))) ∧ ∀ n ∈ z0, (Lit.int .i64 n).wf = true) (y0 : len0 * 8 ≤ 140737488351232) :
  Calls Try.prog 4 #[.slice a0 len0 cap0] w fun e w' => e = .returned (.bool true) ∧ Below w.heap.size w w' := by
 obtain ⟨l0, rfl, hr0, hm0, hw0, hc0⟩ := ReadsInt.ofRowC w0
 obtain ⟨k, h⟩ := P l0 hm0 y0 hw0
 refine (laws_FnExactBuildGraph.calls k _ _ l0 true w (Kd.C_of_reads (d := (0 : Int)) (h1 := fun _ => rfl) hr0) hc0 h).mono ?_
 rintro e w' ⟨rfl, hd⟩
 exact ⟨rfl, hd⟩
end Go.Proofs.Ytgfoeagphlkjkaa.P
namespace Go.Proofs.Ytgfoeagphlkjkaa.K
open Go.RowKit Go.Proofs.YtgfoeagphlkjkaaW.PrintWords Go.Proofs.Ytgfoeagphlkjkaa.P
theorem toIntS_l0 : ∀ (rest done : List Int) , (done ++ rest).length ≤ BM → Ev (fun k => laws_toIntS.l0 k (done ++ rest) (done ++ List.replicate rest.length 0) done.length) (done ++ rest) := by
  intro rest
  induction rest with
  | nil => intro done h; exact Ev.step (fun k => by simp [laws_toIntS.l0]; rfl) (Ev.some (by simp))
  | cons x rest ih =>
    intro done h
    have ih' := ih (done ++ [x])
    obtain ⟨h1, h2, h3, h4, h5⟩ := mid x done rest h
    rw [h5] at ih'
    refine Ev.step (fun k => by rw [laws_toIntS.l0]) ?_
    have h6 : (done.length : Int) < ((done ++ List.replicate (x :: rest).length (0:Int)).length : Int) := by simp; omega
    simp only [if_pos h1, if_pos h2, if_pos h6, h3, h4]
    rw [List.length_cons, List.replicate_succ, set_mid]
    exact ih' h
theorem toIntS_f (l : List Int) (h : l.length ≤ BM) : Ev (fun k => laws_toIntS.f k l) l := by
  unfold laws_toIntS.f
  simp only [BM] at h
  have e1 : 0 ≤ (l.length : Int) := by omega
  have e2 : (l.length : Int).toNat ≤ 35184372088832 := by omega
  simp only [if_pos e1, if_pos e2]
  exact toIntS_l0 l [] h
theorem eqIntS_l0 : ∀ (rest done rest2 done2 : List Int), done.length = done2.length → rest.length = rest2.length → (done ++ rest).length ≤ BM → Ev (fun k => laws_eqIntS.l0 k (done ++ rest) (done2 ++ rest2) done.length) (decide (rest = rest2)) := by
  intro rest
  induction rest with
  | nil =>
    intro done rest2 done2 hl hl2 h
    obtain rfl : rest2 = [] := by simpa using hl2.symm
    exact Ev.step (fun k => by simp [laws_eqIntS.l0]; rfl) (Ev.some (by simp))
  | cons x rest ih =>
    intro done rest2 done2 hl hl2 h
    obtain ⟨y, rest2, rfl⟩ : ∃ y r, rest2 = y :: r := by cases rest2 with | nil => simp at hl2 | cons y r => exact ⟨y, r, rfl⟩
    have ih' := ih (done ++ [x]) rest2 (done2 ++ [y]) (by simp [hl]) (by simpa using hl2)
    obtain ⟨h1, h2, h3, h4, h5⟩ := mid x done rest h
    have hh : (done2 ++ y :: rest2).length ≤ BM := by simp at h hl2 ⊢; omega
    obtain ⟨g1, g2, g3, g4, g5⟩ := mid y done2 rest2 hh
    rw [h5, g5] at ih'
    refine Ev.step (fun k => by rw [laws_eqIntS.l0]) ?_
    rw [← hl] at g1 g3
    simp only [if_pos h1, if_pos h2, if_pos g1, h3, h4, g3]
    refine Ev.ite (fun e => ?_) (fun e => ?_)
    · subst e; simpa using ih' h
    · exact Ev.some (by simp [e])
theorem eqIntS_f (l m : List Int) (h : l.length ≤ BM) : Ev (fun k => laws_eqIntS.f k l m) (decide (l = m)) := by
  unfold laws_eqIntS.f
  refine Ev.ite (fun e => ?_) (fun e => ?_)
  · exact eqIntS_l0 l [] m [] rfl (by omega) h
  · exact Ev.some (by symm; simp; rintro rfl; exact e rfl)
theorem eqIntS_same (l : List Int) (h : l.length ≤ BM) : Ev (fun k => laws_eqIntS.f k l l) true := by simpa using eqIntS_f l l h
def seqFrom (a : Int) : Nat → List Int
  | 0 => []
  | n + 1 => a :: seqFrom (a + 1) n
theorem seqFrom_length (a : Int) (n : Nat) : (seqFrom a n).length = n := by
  induction n generalizing a with
  | zero => rfl
  | succ n ih => simp [seqFrom, ih]
theorem markIntS_l0 : ∀ (rest done : List Int) (b : Int), (done ++ rest).length ≤ BM → 0 ≤ b → b + rest.length ≤ 4611686018427387904 → Ev (fun k => laws_markIntS.l0 k (done ++ rest) b done.length) (b + rest.length, done ++ seqFrom b rest.length) := by
  intro rest
  induction rest with
  | nil => intro done b h _ _; exact Ev.step (fun k => by simp [laws_markIntS.l0]; rfl) (Ev.some (by simp [seqFrom]))
  | cons x rest ih =>
    intro done b h hb0 hb
    obtain ⟨h1, h2, h3, h4, h5⟩ := mid x done rest h
    have ih' := ih (done ++ [b]) (b + 1) (by simpa using h) (by omega) (by simp at hb; omega)
    refine Ev.step (fun k => by rw [laws_markIntS.l0]) ?_
    have h6 : wrap64 (b + 1) = b + 1 := wrap_id (by omega) (by simp at hb; omega)
    simp only [if_pos h1, if_pos h2, h4, h6, set_mid]
    refine Ev.pair ?_ (show (b + 1 + (rest.length : Int), done ++ [b] ++ seqFrom (b + 1) rest.length) = _ by simp [seqFrom]; omega)
    simpa using ih'
theorem markIntS_f (l : List Int) (a : Int) (h : l.length ≤ BM) (h0 : 0 ≤ a) (ha : a + l.length ≤ 4611686018427387904) : Ev (fun k => laws_markIntS.f k l a) (a + l.length, seqFrom a l.length) := markIntS_l0 l [] a h h0 ha
theorem heldIntS_l0 : ∀ (n : Nat) (done : List Int) (b : Int), (done ++ seqFrom b n).length ≤ BM → 0 ≤ b → b + n ≤ 4611686018427387904 → Ev (fun k => laws_heldIntS.l0 k (done ++ seqFrom b n) b done.length) (b + n) := by
  intro n
  induction n with
  | zero => intro done b h _ _; exact Ev.step (fun k => by simp [laws_heldIntS.l0, seqFrom]; rfl) (Ev.some (by simp))
  | succ n ih =>
    intro done b h hb0 hb
    simp only [seqFrom] at h ⊢
    obtain ⟨h1, h2, h3, h4, h5⟩ := mid b done (seqFrom (b + 1) n) h
    have ih' := ih (done ++ [b]) (b + 1) (by simpa using h) (by omega) (by omega)
    rw [h5] at ih'
    refine Ev.step (fun k => by rw [laws_heldIntS.l0]) ?_
    have h6 : wrap64 (b + 1) = b + 1 := wrap_id (by omega) (by omega)
    simp only [if_pos h1, if_pos h2, h3, h4, h6, if_true]
    exact Ev.pair ih' (by omega)
theorem heldIntS_f (a : Int) (n : Nat) (h : n ≤ BM) (h0 : 0 ≤ a) (ha : a + n ≤ 4611686018427387904) : Ev (fun k => laws_heldIntS.f k (seqFrom a n) a) (a + n) := heldIntS_l0 n [] a (by simpa [seqFrom_length] using h) h0 ha
theorem eqGraph_same (n : Int) (l : List Int) (h : l.length ≤ BM) : Ev (fun k => laws_eqGraph.f k n l n l) true := by
  unfold laws_eqGraph.f
  simp only [if_true]
  refine Ev.bind (eqIntS_same l h) ?_
  simpa using Ev.now true
theorem markGraph_f (n : Int) (l : List Int) (a : Int) (h : l.length ≤ BM) (h0 : 0 ≤ a) (ha : a + l.length ≤ 4611686018427387904) : Ev (fun k => laws_markGraph.f k n l a) (a + l.length, seqFrom a l.length) := by
  unfold laws_markGraph.f
  exact Ev.bind (markIntS_f l a h h0 ha) (Ev.now _)
theorem heldGraph_f (m : Int) (a : Int) (n : Nat) (h : n ≤ BM) (h0 : 0 ≤ a) (ha : a + n ≤ 4611686018427387904) : Ev (fun k => laws_heldGraph.f k m (seqFrom a n) a) (a + n) := by
  unfold laws_heldGraph.f
  refine Ev.bind (heldIntS_f a n h h0 ha) ?_
  rw [if_neg (by omega)]
  exact Ev.now _
end Go.Proofs.Ytgfoeagphlkjkaa.K
namespace Go.Proofs.Ytgfoeagphlkjkaa.K
open Go.RowKit Go.Proofs.YtgfoeagphlkjkaaW.PrintWords Go.Proofs.YtgfoeagphlkjkaaW.PrintMore Go.Proofs.Ytgfoeagphlkjkaa.P
theorem getD_extG {a b : List Int} (h : a.length = b.length) (hg : ∀ x, a.getD x 0 = b.getD x 0) : a = b := by
  apply List.ext_getElem h
  intro x h1 h2
  have := hg x
  rw [List.getD_eq_getElem?_getD, List.getD_eq_getElem?_getD, List.getElem?_eq_getElem h1, List.getElem?_eq_getElem h2] at this
  exact this
theorem sets_extG {n : Nat} {a b : List Nat} (ha : Sets n a) (hb : Sets n b) (h : ∀ x y, nb a x y = nb b x y) : a = b := by
  apply List.ext_getElem (by rw [ha.len, hb.len])
  intro x h1 h2
  have e1 : a[x] = a.getD x 0 := by rw [List.getD_eq_getElem?_getD, List.getElem?_eq_getElem h1]; rfl
  have e2 : b[x] = b.getD x 0 := by rw [List.getD_eq_getElem?_getD, List.getElem?_eq_getElem h2]; rfl
  rw [e1, e2]
  exact Nat.eq_of_testBit_eq (fun y => h x y)
theorem map_getD (l : List Int) : ((List.range l.length).map fun x => l.getD x 0) = l := by
  apply getD_extG (by simp)
  intro x
  rw [List.getD_eq_getElem?_getD, List.getElem?_map]
  by_cases hx : x < l.length
  · rw [List.getElem?_range hx]; rfl
  · rw [List.getElem?_eq_none (by simp; omega), List.getD_eq_getElem?_getD, List.getElem?_eq_none (by omega)]; rfl
theorem own_intsG (y : List Int) (h : y.length ≤ 1000) : spec_l1Own.f y = some y := by
  unfold spec_l1Own.f
  simp only [Option.bind_some, List.nil_append]
  rw [if_pos (by simp; omega)]
theorem intsG_append (a b : List Nat) : ints (a ++ b) = ints a ++ ints b := by simp [ints]
theorem sg_l1 {n : Nat} (i : Nat) (hi : i < n) (h8 : n ≤ 8) (r : Int × List Int × Bool) : ∀ (o2 o1 : List Nat) (nd : List Int) (ns : List Nat), Sets n ns → nd.length = n → 0 ≤ nd.getD i 0 → nd.getD i 0 ≤ 100 → o2.Pairwise (fore nd) → (∀ x, x < n → ((x ≠ i ∧ x ∉ o1) ↔ x ∈ o2)) → o2.Nodup → (∀ x ∈ o2, x < n) →
    (nd.getD i 0).toNat ≤ o2.length → (∀ x ∈ o2.take (nd.getD i 0).toNat, 0 < nd.getD x 0) → o1.length + o2.length ≤ 50 →
    Ev (fun k => spec_BuildGraph.l2 k (nd.set i 0) (ints (o1 ++ o2.take (nd.getD i 0).toNat)) ((o1 ++ o2.take (nd.getD i 0).toNat).length : Int) 0 n (ints (orAll i (o2.take (nd.getD i 0).toNat) ns))) r → Ev (fun k => spec_BuildGraph.l1 k nd i (ints (i :: o1)) n (ints ns)) r := by
  have stop : ∀ (o1 : List Nat) (nd : List Int) (ns : List Nat), nd.length = n → nd.getD i 0 = 0 → Ev (fun k => spec_BuildGraph.l2 k (nd.set i 0) (ints o1) (o1.length : Int) 0 n (ints ns)) r → Ev (fun k => spec_BuildGraph.l1 k nd i (ints (i :: o1)) n (ints ns)) r := by
    intro o1 nd ns hl h0 hr
    have e : nd.set i 0 = nd := getD_extG (by simp) (fun x => by
      rw [getD_setG _ _ _ _ (by omega)]
      by_cases c : x = i
      · subst c; rw [if_pos rfl, h0]
      · rw [if_neg c])
    rw [e] at hr
    refine Ev.step (fun k => ?_) hr
    have e2 : (ints (i :: o1)).drop 1 = ints o1 := rfl
    rw [spec_BuildGraph.l1, if_pos (by omega), if_pos (by omega), rdG, if_neg (by omega), if_pos (by rw [ints_length, List.length_cons]; omega), e2, Option.bind_some, ints_length]
  intro o2
  induction o2 with
  | nil =>
    intro o1 nd ns hS hl h0 h1 hP hM hN hL hle hpos hlen hr
    have e : (nd.getD i 0).toNat = 0 := Nat.le_zero.1 hle
    refine stop o1 nd ns hl (by omega) (by simpa [orAll] using hr)
  | cons j o2 ih =>
    intro o1 nd ns hS hl h0 h1 hP hM hN hL hle hpos hlen hr
    by_cases hz : nd.getD i 0 = 0
    · rw [hz] at hr
      exact stop o1 nd ns hl hz (by simpa [orAll] using hr)
    · obtain ⟨t, ht⟩ : ∃ t, (nd.getD i 0).toNat = t + 1 := ⟨(nd.getD i 0).toNat - 1, by omega⟩
      obtain ⟨p1, p2⟩ := List.pairwise_cons.1 hP
      obtain ⟨q1, q2⟩ := List.nodup_cons.1 hN
      have hjn : j < n := hL j List.mem_cons_self
      obtain ⟨hji, hjo⟩ := (hM j hjn).2 List.mem_cons_self
      rw [ht, List.take_succ_cons] at hpos hr
      have hnx : Ev (fun k => spec_deMost.f k nd (ints (i :: o1))) (j : Int) := by
        refine deMost_f nd (i :: o1) (by omega) (by simp at hlen ⊢; omega) j (by omega) ⟨hpos j List.mem_cons_self, by simp [hji, hjo]⟩ (fun x hx hE => ?_)
        have hx2 := hE.2
        simp only [List.mem_cons, not_or] at hx2
        rcases List.mem_cons.1 ((hM x (by omega)).1 hx2) with rfl | c
        · exact .inr ⟨rfl, Nat.le_refl _⟩
        · exact p1 x c
      have hne : ∀ x ∈ o2, x ≠ i := fun x hx => ((hM x (hL x (List.mem_cons_of_mem _ hx))).2 (List.mem_cons_of_mem _ hx)).1
      have hw : wrap64 (nd.getD i 0 - 1) = nd.getD i 0 - 1 := by unfold wrap64; omega
      have hil : i < nd.length := by omega
      refine Ev.step (fun k => by rw [spec_BuildGraph.l1, if_pos (show (0 : Int) ≤ (i : Int) by omega), if_pos (show (i : Int) < (nd.length : Int) by omega), rdG, if_pos (show nd.getD i 0 > 0 by omega)]) (Ev.bind hnx ?_)
      simp only [if_pos (show (ints (i :: o1)).length < 17592186044416 by rw [ints_length]; simp at hlen ⊢; omega), deJoin_f hS i j hi hjn, Option.bind_some, hw, Int.toNat_natCast]
      have e1 : ints (i :: o1) ++ [(j : Int)] = ints (i :: (o1 ++ [j])) := by rw [show i :: (o1 ++ [j]) = (i :: o1) ++ [j] by simp, intsG_append]; rfl
      rw [e1]
      have eg : (nd.set i (nd.getD i 0 - 1)).getD i 0 = nd.getD i 0 - 1 := by rw [getD_setG _ _ _ _ hil, if_pos rfl]
      have eo : ∀ x ∈ o2, (nd.set i (nd.getD i 0 - 1)).getD x 0 = nd.getD x 0 := fun x hx => by rw [getD_setG _ _ _ _ hil, if_neg (hne x hx)]
      have et : (nd.getD i 0 - 1).toNat = t := by omega
      refine ih (o1 ++ [j]) (nd.set i (nd.getD i 0 - 1)) _ (orN_char hS i j hi hjn).1 (by rw [List.length_set, hl]) (by rw [eg]; omega) (by rw [eg]; omega) ?_ (fun x hx => ?_) q2 (fun x hx => hL x (List.mem_cons_of_mem _ hx)) (by rw [eg, et]; rw [List.length_cons] at hle; omega) ?_ (by simp at hlen ⊢; omega) ?_
      · exact p2.imp_of_mem (fun {a b} ha hb h => by unfold fore at h ⊢; rw [eo a ha, eo b hb]; exact h)
      · have := hM x hx
        rw [List.mem_append, not_or, ← and_assoc, this, List.mem_cons, List.mem_singleton]
        constructor
        · rintro ⟨c1 | c1, c2⟩
          · exact absurd c1 c2
          · exact c1
        · intro c
          exact ⟨.inr c, fun e => q1 (e ▸ c)⟩
      · rw [eg, et]
        intro x hx
        rw [eo x (List.mem_of_mem_take hx)]
        exact hpos x (List.mem_cons_of_mem _ hx)
      · rw [eg, et, List.set_set]
        rw [orAll] at hr
        rw [show o1 ++ [j] ++ List.take t o2 = o1 ++ j :: List.take t o2 by simp]
        exact hr
theorem sg_l2 {n : Nat} (h8 : n ≤ 8) (ns : List Nat) (r : Int × List Int × Bool) : ∀ (o2 o1 : List Nat) (nd : List Int), nd.length = n → (∀ x ∈ o2, x < n) → (o1 ++ o2).length ≤ 50 → (∀ x, -1000 + (o2.length : Int) ≤ nd.getD x 0 ∧ nd.getD x 0 ≤ 1000) →
    Ev (fun k => (spec_deMost.f k (decN o2 nd) []).bind fun t => spec_BuildGraph.l0 k (decN o2 nd) t n (ints ns)) r → Ev (fun k => spec_BuildGraph.l2 k nd (ints (o1 ++ o2)) ((o1 ++ o2).length : Int) (o1.length : Int) n (ints ns)) r := by
  intro o2
  induction o2 with
  | nil =>
    intro o1 nd hl hL hlen hb hr
    refine Ev.step (fun k => ?_) hr
    rw [spec_BuildGraph.l2, if_neg (by simp)]
    rfl
  | cons j o2 ih =>
    intro o1 nd hl hL hlen hb hr
    have hjn := hL j List.mem_cons_self
    have hj := hb j
    have hlen2 : o1.length + o2.length + 1 ≤ 50 := by simp at hlen; omega
    have hrd : rd (ints (o1 ++ j :: o2)) (o1.length : Int) = (j : Int) := by
      rw [rd_ints]; simp [List.getD_eq_getElem?_getD]
    have hw : wrap64 (nd.getD j 0 - 1) = nd.getD j 0 - 1 := by rw [List.length_cons] at hj; unfold wrap64; omega
    have := ih (o1 ++ [j]) (nd.set j (nd.getD j 0 - 1)) (by rw [List.length_set, hl]) (fun x hx => hL x (List.mem_cons_of_mem _ hx)) (by simp at hlen ⊢; omega) (fun x => by
      have hx := hb x
      simp only [List.length_cons] at hx hj
      rw [getD_setG _ _ _ _ (by omega)]
      split <;> omega) hr
    refine Ev.step (fun k => ?_) this
    rw [spec_BuildGraph.l2, if_pos (by simp; omega), if_pos (by omega), if_pos (by rw [ints_length]; simp; omega), hrd, if_pos (by omega), if_pos (by omega), rdG, hw, Int.toNat_natCast, wrap_nat o1.length (by omega)]
    simp
def okG : Nat → List Int → Bool
  | 0, L => L.all fun x => decide (x ≤ 0)
  | f + 1, L => match L with
    | [] => true
    | M :: R => if 0 < M then decide (M.toNat ≤ R.length) && (R.take M.toNat).all (fun x => decide (0 < x)) && okG f (rankL (0 :: ((R.take M.toNat).map (fun x => x - 1) ++ R.drop M.toNat))) else true
def okTest (r : List Int) : Bool := decide (refK r 1 r.length ≠ 0) || decide (Int.tmod r.sum 2 ≠ 0) || okG r.length r
def chkG : Nat → Nat → List Int → Bool
  | 0, _, acc => okTest acc
  | d + 1, b, acc => (List.range (b + 1)).all fun v => chkG d v (acc ++ [(v : Int)])
theorem chkG_all : ((List.range 9).all fun n => chkG n 7 []) = true := by decide +kernel
theorem chkG_ok : ∀ (l : List Int) (b : Nat) (acc : List Int), (∀ x ∈ l, 0 ≤ x ∧ x ≤ (b : Int)) → l.Pairwise (fun a b => b ≤ a) → chkG l.length b acc = true → okTest (acc ++ l) = true
  | [], b, acc, _, _, h => by simpa [chkG] using h
  | x :: l, b, acc, hb, hp, h => by
    obtain ⟨p1, p2⟩ := List.pairwise_cons.1 hp
    have hx := hb x List.mem_cons_self
    obtain ⟨v, rfl⟩ := Int.eq_ofNat_of_zero_le hx.1
    rw [List.length_cons, chkG, List.all_eq_true] at h
    have h2 := h v (List.mem_range.2 (by omega))
    have := chkG_ok l v (acc ++ [(v : Int)]) (fun y hy => ⟨(hb y (List.mem_cons_of_mem _ hy)).1, p1 y hy⟩) p2 h2
    simpa using this
theorem perm_sumG {a b : List Int} (h : a.Perm b) : a.sum = b.sum := by
  induction h with
  | nil => rfl
  | cons x _ ih => rw [List.sum_cons, List.sum_cons, ih]
  | swap x y l => simp only [List.sum_cons]; omega
  | trans _ _ ih1 ih2 => rw [ih1, ih2]
theorem lsum_one (y : List Int) : ∀ j, lsum ((1 : Nat) : Int) y j ≤ j := by
  intro j
  unfold lsum
  induction y generalizing j with
  | nil => simp
  | cons x y ih =>
    cases j with
    | zero => simp
    | succ j =>
      have := ih j
      rw [List.take_succ_cons, List.map_cons, List.sum_cons]
      have : min ((1 : Nat) : Int) x ≤ 1 := by omega
      omega
theorem okG_start (l : List Int) (h1 : 1 ≤ l.length) (h8 : l.length ≤ 8) (hb : ∀ x ∈ l, 0 ≤ x) (hr : refOf l = 0) (hs : Int.tmod l.sum 2 = 0) : okG l.length (rankL l) = true := by
  unfold refOf at hr
  have hlen := rankL_length l
  obtain ⟨r, hrr⟩ : ∃ r, r = rankL l := ⟨_, rfl⟩
  have hsort : r.Pairwise (fun a b => b ≤ a) := by rw [hrr]; exact rankL_sorted l
  have hmem : ∀ x ∈ r, 0 ≤ x := fun x hx => hb x (rankL_mem.1 (hrr ▸ hx))
  have hsum : r.sum = l.sum := by rw [hrr]; exact perm_sumG (rankL_perm l)
  rw [← hrr] at hr hlen ⊢
  have htop : ∀ x ∈ r, x ≤ ((7 : Nat) : Int) := by
    cases r with
    | nil => intro x hx; cases hx
    | cons y r =>
      have hy : y ≤ 7 := by
        rw [List.length_cons, refK] at hr
        split at hr
        · simp at hr
        · rename_i c
          unfold mostK at c
          have := lsum_one ((y :: r).drop 1) ((y :: r).drop 1).length
          simp only [List.take_succ_cons, List.take_zero, List.sum_cons, List.sum_nil, List.drop_succ_cons, List.drop_zero] at c this
          simp at hlen
          omega
      intro x hx
      rcases List.mem_cons.1 hx with rfl | q
      · omega
      · have := (List.pairwise_cons.1 hsort).1 x q; omega
  have hc := List.all_eq_true.1 chkG_all r.length (List.mem_range.2 (by omega))
  have := chkG_ok r 7 [] (fun x hx => ⟨hmem x hx, htop x hx⟩) hsort hc
  rw [List.nil_append] at this
  unfold okTest at this
  rw [hr, hsum, hs, hlen] at this
  simpa using this
theorem any_pos (nd : List Int) : nd.any (fun x => decide (0 < x)) = true ↔ ∃ x, x < nd.length ∧ 0 < nd.getD x 0 := by
  rw [List.any_eq_true]
  constructor
  · rintro ⟨y, hy, h⟩
    obtain ⟨x, hx, rfl⟩ := List.getElem_of_mem hy
    exact ⟨x, hx, by rw [List.getD_eq_getElem?_getD, List.getElem?_eq_getElem hx]; simpa using h⟩
  · rintro ⟨x, hx, h⟩
    rw [List.getD_eq_getElem?_getD, List.getElem?_eq_getElem hx] at h
    exact ⟨_, List.getElem_mem hx, by simpa using h⟩
theorem rankL_congr {a b : List Int} (h : a.Perm b) : rankL a = rankL b := rankL_unique ((rankL_perm a).trans h) (rankL_sorted a)
theorem sg_rounds {n : Nat} (h1 : 1 ≤ n) (h8 : n ≤ 8) : ∀ d (nd : List Int) (ns : List Nat), nd.length = n → Sets n ns → (∀ x, 0 ≤ nd.getD x 0 ∧ nd.getD x 0 ≤ 60) → (∀ a b, 0 < nd.getD a 0 → 0 < nd.getD b 0 → nb ns a b = false) → okG d (rankL nd) = true →
    bgFits d nd = true ∧ Ev (fun k => (spec_deMost.f k nd []).bind fun t => spec_BuildGraph.l0 k nd t n (ints ns)) ((n : Int), ints (bgGo d nd ns), true) := by
  -- none needs any
  have done : ∀ (nd : List Int) (ns : List Nat), nd.length = n → nd.any (fun x => decide (0 < x)) = false → Ev (fun k => (spec_deMost.f k nd []).bind fun t => spec_BuildGraph.l0 k nd t n (ints ns)) ((n : Int), ints ns, true) := by
    intro nd ns hl hno
    have hm := deMost_none nd [] (by omega) (by simp) (fun x hx hE => by
      have : nd.any (fun x => decide (0 < x)) = true := (any_pos nd).2 ⟨x, hx, hE.1⟩
      rw [hno] at this; cases this)
    refine Ev.bind hm (Ev.step (fun k => ?_) (Ev.now _))
    rw [spec_BuildGraph.l0, if_neg (by omega)]
  intro d
  induction d with
  | zero =>
    intro nd ns hl hS hB hZ hok
    have hno : nd.any (fun x => decide (0 < x)) = false := by
      rw [Bool.eq_false_iff]
      intro h
      obtain ⟨x, hx, hp⟩ := (any_pos nd).1 h
      rw [okG, List.all_eq_true] at hok
      have hm : nd.getD x 0 ∈ nd := by rw [List.getD_eq_getElem?_getD, List.getElem?_eq_getElem hx]; exact List.getElem_mem hx
      have := hok _ (rankL_mem.2 hm)
      simp only [decide_eq_true_eq] at this
      omega
    exact ⟨by rw [bgFits, hno]; rfl, done nd ns hl hno⟩
  | succ d ih =>
    intro nd ns hl hS hB hZ hok
    cases hany : nd.any (fun x => decide (0 < x)) with
    | false => exact ⟨by rw [bgFits, hany]; rfl, by rw [bgGo, hany]; exact done nd ns hl hany⟩
    | true =>
      obtain ⟨p, hp, hpp⟩ := (any_pos nd).1 hany
      have hperm := bgOrd_perm nd
      have hsort := bgOrd_sorted nd
      have hNo : (bgOrd nd).Nodup := hperm.nodup_iff.2 List.nodup_range
      have hmo : ∀ x, x ∈ bgOrd nd ↔ x < n := fun x => by rw [hperm.mem_iff, List.mem_range, hl]
      have hne : bgOrd nd ≠ [] := fun e => by have := (hmo p).2 (by omega); rw [e] at this; cases this
      obtain ⟨i, R, ho⟩ := List.exists_cons_of_ne_nil hne
      obtain ⟨M, hM⟩ : ∃ M, M = nd.getD i 0 := ⟨_, rfl⟩
      have hin : i < n := (hmo i).1 (by rw [ho]; exact List.mem_cons_self)
      rw [ho] at hsort hNo hmo hperm
      obtain ⟨s1, s2⟩ := List.pairwise_cons.1 hsort
      obtain ⟨d1, d2⟩ := List.nodup_cons.1 hNo
      have hMpos : 0 < M := by
        rcases List.mem_cons.1 ((hmo p).2 (by omega)) with rfl | q
        · omega
        · have := s1 p q; unfold fore at this; omega
      have hM60 : M ≤ 60 := by rw [hM]; exact (hB i).2
      -- the needs that fall
      have hrank : rankL nd = M :: R.map fun x => nd.getD x 0 := by
        refine (rankL_unique ?_ ?_).symm
        · have := hperm.map (fun x => nd.getD x 0)
          rw [map_getD, List.map_cons, ← hM] at this
          exact this
        · rw [hM, ← List.map_cons (f := fun x => nd.getD x 0), List.pairwise_map]
          exact hsort.imp (fun h => by unfold fore at h; omega)
      rw [hrank, okG] at hok
      simp only [if_pos hMpos, Bool.and_eq_true, decide_eq_true_eq, List.length_map, List.all_eq_true] at hok
      obtain ⟨⟨k1, k2⟩, k3⟩ := hok
      obtain ⟨pk, hpk⟩ : ∃ pk, pk = R.take M.toNat := ⟨_, rfl⟩
      have hpos : ∀ x ∈ pk, 0 < nd.getD x 0 := fun x hx => by
        have := k2 (nd.getD x 0) (by rw [← List.map_take, ← hpk]; exact List.mem_map.2 ⟨x, hx, rfl⟩)
        exact this
      have hpkR : ∀ x ∈ pk, x ∈ R := fun x hx => List.mem_of_mem_take (hpk ▸ hx)
      have hRn : ∀ x ∈ R, x < n := fun x hx => (hmo x).1 (List.mem_cons_of_mem _ hx)
      have hpkN : pk.Nodup := by rw [hpk]; exact d2.sublist (List.take_sublist _ _)
      have hipk : i ∉ pk := fun h => d1 (hpkR i h)
      have hRlen : R.length + 1 = n := by have := hperm.length_eq; rw [List.length_cons, List.length_range, hl] at this; exact this
      have hhead : (bgOrd nd).headD 0 = i := by rw [ho]; rfl
      have hpick : bgPick nd = pk := by unfold bgPick; rw [hhead, ho, hpk, ← hM]; rfl
      -- the next needs
      obtain ⟨e1, e2⟩ := decN_char pk (nd.set i 0) hpkN (fun x hx => by rw [List.length_set, hl]; exact hRn x (hpkR x hx))
      obtain ⟨f1, f2⟩ := decN_char pk nd hpkN (fun x hx => by rw [hl]; exact hRn x (hpkR x hx))
      have hnext : bgNext nd = decN pk (nd.set i 0) := by
        unfold bgNext
        rw [hhead, hpick]
        refine getD_extG (by rw [List.length_set, f1, e1, List.length_set]) (fun x => ?_)
        rw [getD_setG _ _ _ _ (by rw [f1, hl]; exact hin), e2, f2, getD_setG _ _ _ _ (by omega)]
        by_cases c : x = i
        · subst c; rw [if_pos rfl, if_neg hipk, if_pos rfl]
        · simp only [if_neg c]
      obtain ⟨nd', hnd'⟩ : ∃ nd', nd' = decN pk (nd.set i 0) := ⟨_, rfl⟩
      have g2 : ∀ x, nd'.getD x 0 = if x = i then 0 else if x ∈ pk then nd.getD x 0 - 1 else nd.getD x 0 := fun x => by
        rw [hnd', e2, getD_setG _ _ _ _ (by omega)]
        by_cases c : x = i
        · subst c; rw [if_neg hipk, if_pos rfl, if_pos rfl]
        · simp only [if_neg c]
      have hl' : nd'.length = n := by rw [hnd', e1, List.length_set, hl]
      -- the next graph
      have hz : ∀ x ∈ pk, nb ns i x = false ∧ nb ns x i = false := fun x hx => ⟨hZ i x (by omega) (hpos x hx), hZ x i (hpos x hx) (by omega)⟩
      obtain ⟨j1, j2⟩ := joinAll_char i hin pk ns hpkN hipk (fun x hx => hRn x (hpkR x hx)) hS hz
      obtain ⟨o1, o2⟩ := orAll_char i hin pk ns (fun x hx => hRn x (hpkR x hx)) hS
      have hgr : orAll i pk ns = joinAll i pk ns := sets_extG o1 j1 (fun a b => by rw [o2, j2])
      have hB' : ∀ x, 0 ≤ nd'.getD x 0 ∧ nd'.getD x 0 ≤ 60 := fun x => by
        rw [g2]
        have := hB x
        by_cases c : x = i
        · rw [if_pos c]; omega
        · rw [if_neg c]
          by_cases c2 : x ∈ pk
          · rw [if_pos c2]; have := hpos x c2; omega
          · rw [if_neg c2]; exact this
      have hle : ∀ x, 0 < nd'.getD x 0 → x ≠ i ∧ 0 < nd.getD x 0 := fun x hx => by
        rw [g2] at hx
        by_cases c : x = i
        · rw [if_pos c] at hx; omega
        · rw [if_neg c] at hx
          refine ⟨c, ?_⟩
          by_cases c2 : x ∈ pk
          · exact hpos x c2
          · rw [if_neg c2] at hx; exact hx
      obtain ⟨r1, r2⟩ := ih nd' (joinAll i pk ns) hl' j1 hB' (fun a b ha hb => by
          obtain ⟨a1, a2⟩ := hle a ha
          obtain ⟨b1, b2⟩ := hle b hb
          rw [j2, hZ a b a2 b2]; simp [a1, b1]) (by
          rw [← k3]
          congr 1
          apply rankL_congr
          have q1 : nd'.Perm ((i :: R).map fun x => nd'.getD x 0) := by
            have := (hperm.map (fun x => nd'.getD x 0)).symm
            rw [hl, ← hl', map_getD] at this
            exact this
          refine q1.trans (List.Perm.of_eq ?_)
          have q2 : (R.map fun x => nd'.getD x 0) = ((R.take M.toNat) ++ (R.drop M.toNat)).map fun x => nd'.getD x 0 := by rw [List.take_append_drop]
          rw [List.map_cons, q2, List.map_append, ← List.map_take, ← List.map_drop, List.map_map]
          congr 1
          · rw [g2, if_pos rfl]
          · congr 1
            · apply List.map_congr_left
              intro x hx
              rw [g2, if_neg (fun (e : x = i) => d1 (e ▸ List.mem_of_mem_take hx)), if_pos (by rw [hpk]; exact hx)]
              rfl
            · apply List.map_congr_left
              intro x hx
              rw [g2, if_neg (fun (e : x = i) => d1 (e ▸ List.mem_of_mem_drop hx)), if_neg]
              intro q
              have hN2 := d2
              rw [← List.take_append_drop M.toNat R, List.nodup_append] at hN2
              exact hN2.2.2 x (hpk ▸ q) x hx rfl)
      refine ⟨?_, ?_⟩
      · rw [bgFits, hany, hnext, ← hnd', r1, hhead, ← hM]
        simp
        omega
      · rw [bgGo, hany, hnext, ← hnd', hhead, hpick]
        have hi0 := deMost_f nd [] (by omega) (by simp) i (by omega) ⟨by omega, by simp⟩ (fun x hx _ => by
          rcases List.mem_cons.1 ((hmo x).2 (by omega)) with rfl | q
          · exact .inr ⟨rfl, Nat.le_refl _⟩
          · exact s1 x q)
        refine Ev.bind hi0 ?_
        have hfin : Ev (fun k => spec_BuildGraph.l1 k nd i (ints (i :: [])) n (ints ns)) ((n : Int), ints (bgGo d nd' (joinAll i pk ns)), true) := by
          refine sg_l1 i hin h8 _ R [] nd ns hS hl (by omega) (by omega) s2 (fun x hx => ?_) d2 hRn (by rw [← hM]; exact k1) (by rw [← hM, ← hpk]; exact hpos) (by simp; omega) ?_
          · constructor
            · rintro ⟨c, _⟩
              rcases List.mem_cons.1 ((hmo x).2 hx) with e | q
              · exact absurd e c
              · exact q
            · exact fun q => ⟨fun e => d1 (e ▸ q), by simp⟩
          · rw [← hM, ← hpk, hgr]
            have hpl : pk.length ≤ 8 := by rw [hpk, List.length_take]; omega
            refine sg_l2 h8 (joinAll i pk ns) _ pk [] (nd.set i 0) (by rw [List.length_set, hl]) (fun x hx => hRn x (hpkR x hx)) (by simp; omega) (fun x => ?_) ?_
            · rw [getD_setG _ _ _ _ (by omega)]
              have := hB x
              split <;> omega
            · rw [← hnd']
              exact r2
        refine Ev.step (fun k => ?_) hfin
        rw [spec_BuildGraph.l0, if_pos (by omega)]
        rfl
theorem joinAll_length (i : Nat) : ∀ (o ns : List Nat), (joinAll i o ns).length = ns.length
  | [], _ => rfl
  | j :: o, ns => by rw [joinAll, joinAll_length i o]; simp [joinN]
theorem bgGo_length : ∀ (f : Nat) (nd : List Int) (ns : List Nat), (bgGo f nd ns).length = ns.length
  | 0, _, _ => rfl
  | f + 1, nd, ns => by
    rw [bgGo]
    split
    · rw [bgGo_length f, joinAll_length]
    · rfl
theorem graphic_both {l : List Int} (hl : isList l = true) : ∃ b : Bool, Ev (fun k => spec_deGraphic.f k l) b ∧ Ev (fun k => impl_isGraphic.f k l) b ∧ (b = true → refOf l = 0 ∧ Int.tmod l.sum 2 = 0) := by
  have hf := (isList_small hl).1.fair
  unfold spec_deGraphic.f impl_isGraphic.f
  by_cases h2 : Int.tmod l.sum 2 = 0
  · exact ⟨_, Ev.bind (liSum_f hf) (Ev.ite (fun _ => Ev.bind (deRefuses_f hl) (Ev.now _)) (fun hh => absurd h2 hh)), Ev.bind (total_f hf) (Ev.ite (fun _ => Ev.bind (refusingK_f hl) (Ev.now _)) (fun hh => absurd h2 hh)), fun h => ⟨by simpa using h, h2⟩⟩
  · exact ⟨false, Ev.bind (liSum_f hf) (Ev.ite (fun hh => absurd hh h2) (fun _ => Ev.now _)), Ev.bind (total_f hf) (Ev.ite (fun hh => absurd hh h2) (fun _ => Ev.now _)), fun h => by cases h⟩
theorem buildG_both (l : List Int) (hl : l.length ≤ BM) : ∃ r : Int × List Int × Bool, Ev (fun k => spec_BuildGraph.f k l) r ∧ Ev (fun k => impl_BuildGraph.f k l) r ∧ r.2.1.length ≤ 8 := by
  unfold spec_BuildGraph.f impl_BuildGraph.f
  have hg := liGood_f l hl
  have hi := IsList_f l hl
  have hfail : Ev (fun k => spec_BuildGraph.j0 k l true) (0, [], false) := Ev.step (fun k => by rw [spec_BuildGraph.j0, if_pos rfl]) (Ev.now _)
  cases hb : isList l with
  | false =>
    rw [hb] at hg hi
    refine ⟨(0, [], false), Ev.bind hg ?_, Ev.bind hi ?_, by simp⟩
    · simp only [Bool.false_eq_true, if_false]; exact hfail
    · simp only [Bool.false_eq_true, if_false]; exact Ev.now _
  | true =>
    rw [hb] at hg hi
    obtain ⟨h1, h8, h3⟩ := isList_mem hb
    obtain ⟨b, g1, g2, g3⟩ := graphic_both hb
    cases b with
    | false =>
      refine ⟨(0, [], false), Ev.bind hg ?_, Ev.bind hi ?_, by simp⟩
      · simp only [if_true]
        exact Ev.bind g1 (by simpa using hfail)
      · simp only [if_true]
        exact Ev.bind g2 (by simpa using Ev.now _)
    | true =>
      obtain ⟨k1, k2⟩ := g3 rfl
      have hz : Sets l.length (List.replicate l.length 0) := ⟨h1, h8, by simp, fun x hx => by rw [(List.mem_replicate.1 hx).2]; exact Nat.two_pow_pos _⟩
      obtain ⟨m1, m2⟩ := sg_rounds h1 h8 l.length l (List.replicate l.length 0) rfl hz (fun x => by
        rw [List.getD_eq_getElem?_getD]
        cases hx : l[x]? with
        | none => simp
        | some y => have := h3 y (List.mem_of_getElem? hx); simp; omega) (fun a b _ _ => by
        unfold nb
        rw [List.getD_eq_getElem?_getD, List.getElem?_replicate]
        split <;> simp) (okG_start l h1 h8 (fun x hx => (h3 x hx).1) k1 k2)
      refine ⟨((l.length : Int), ints (bgGo l.length l (List.replicate l.length 0)), true), Ev.bind hg ?_, Ev.bind hi ?_, ?_⟩
      · simp only [if_true]
        refine Ev.bind g1 ?_
        refine Ev.step (fun k => ?_) m2
        rw [spec_BuildGraph.j0, if_neg (by decide), if_pos (by omega), if_pos (by omega), own_intsG l (by omega), Option.bind_some, Int.toNat_natCast]
        have e2 : ints (List.replicate l.length 0) = List.replicate l.length 0 := by simp [ints]
        rw [e2]
      · simp only [if_true]
        refine Ev.bind g2 ?_
        simp only [if_true]
        rw [if_pos ⟨h1, h8, h3, m1⟩]
        exact Ev.now _
      · show (ints _).length ≤ 8
        rw [ints_length, bgGo_length, List.length_replicate]
        exact h8
end Go.Proofs.Ytgfoeagphlkjkaa.K
namespace Go.Proofs.Ytgfoeagphlkjkaa.Pure
open Go.RowKit Go.Proofs.YtgfoeagphlkjkaaW.PrintWords Go.Proofs.Ytgfoeagphlkjkaa.P Go.Proofs.Ytgfoeagphlkjkaa.K
theorem FnExactBuildGraph : laws_FnExactBuildGraph.Pure := by
  intro l0 _ hb _
  have h := le_BM hb
  refine Ev.rounds (g := fun k => laws_FnExactBuildGraph.f k l0) ?_
  unfold laws_FnExactBuildGraph.f
  refine Ev.ite (fun _ => Ev.now _) (fun hl => ?_)
  obtain ⟨⟨n, m, ok⟩, hs, hi, hm⟩ := buildG_both l0 h
  simp only at hm
  have hm' : m.length ≤ BM := by simp only [BM]; omega
  refine Ev.bind (toIntS_f l0 h) (Ev.bind hs (Ev.bind (toIntS_f l0 h) (Ev.bind hi (Ev.bind (eqGraph_same n m hm') ?_))))
  simp only [if_true, bne_self_eq_false]
  refine Ev.step (fun k => by rw [laws_FnExactBuildGraph.j0]) ?_
  simp only [Bool.false_eq_true, if_false]
  refine Ev.bind (toIntS_f l0 h) (Ev.bind (eqIntS_same l0 h) ?_)
  simp only [if_true]
  refine Ev.bind (markIntS_f l0 1 h (by omega) (by simp only [BM] at h; omega)) ?_
  have e1 : ¬ (1 + (l0.length : Int) < 0) := by omega
  simp only [if_neg e1]
  refine Ev.bind (eqGraph_same n m hm') ?_
  simp only [if_true, bne_self_eq_false]
  refine Ev.step (fun k => by rw [laws_FnExactBuildGraph.j1]) ?_
  simp only [Bool.false_eq_true, if_false]
  refine Ev.bind (markGraph_f n m 1 hm' (by omega) (by omega)) ?_
  refine Ev.bind (heldGraph_f n 1 m.length hm' (by omega) (by omega)) ?_
  have e2 : ¬ (1 + (m.length : Int) < 0) := by omega
  simp only [if_neg e2, if_true]
  refine Ev.bind (toIntS_f l0 h) (Ev.bind hi (Ev.bind (eqGraph_same n m hm') ?_))
  simp only [if_true, bne_self_eq_false]
  refine Ev.step (fun k => by rw [laws_FnExactBuildGraph.j2]) ?_
  simp only [Bool.false_eq_true, if_false]
  refine Ev.bind (heldGraph_f n 1 m.length hm' (by omega) (by omega)) ?_
  simp only [if_neg e2, if_true]
  exact Ev.now true
end Go.Proofs.Ytgfoeagphlkjkaa.Pure
namespace Go.Proofs.Ytgfoeagphlkjkaa.fnExactBuildGraph
open Go.ChangeShapes Go.WideShapes Go.ChangeAt Go.RowKit
open Go.ChangeMaps (open_string shut_string)
theorem own : ownKnob Try.prog.godebug = none := by kernel_rfl
theorem laidOut : laidOutB Try.prog = true := by kernel_rfl
def IsRow (k : IntKind) (w : World) (a : Option Addr) (len cap : Nat) (zs : List Int) : Prop :=
  (a = none ∧ len = 0 ∧ cap = 0 ∧ zs = []) ∨
  ∃ x, a = some x ∧ len ≤ cap ∧ cap ≤ maxLen ∧ zs.length = cap ∧ (∀ i, i < zs.length → w.cell? (x.add i) = some (.int k (zs.getD i 0))) ∧ ∀ n ∈ zs, (Lit.int k n).wf = true
set_option maxRecDepth 100000 in
theorem lifted (os : Os) (started : os.Started) (H : Type) (enc : TypeId × Value → H) :
    ReturnsInHanded {} Try.checked os 4 .any (Rows.fnExactBuildGraphSpec.pre6 enc Try.prog Try.f4 Rows.fnExactBuildGraphRow.domain false) (Rows.fnExactBuildGraphSpec.post enc Try.prog Try.f4 false true false false) := by
  refine returnsInHanded_of_change_sized (C := Try.checked) own started (by kernel_rfl) Try.func4
    (ChangeSpec.witness6 (enc := enc) (C := Try.checked) false ⟨#[], #[.slice none 0 0], []⟩ 8 (by kernel_rfl) (by kernel_rfl) (by kernel_rfl) (by kernel_rfl)) ?_
  intro W base args ds gs before hval0 hW hcnd hsz0 _
  have hsz : (DataW.weightsEach Try.prog (Try.f4.params.toList ++ Rows.fnExactBuildGraphSpec.plain.varTypes Try.prog) (ds ++ gs)).all (· ≤ reachBytes) = true := hsz0
  have hval : ∀ (j : Nat) t v, Try.f4.params[j]? = some t → args[j]? = some v → Value.okWide Try.prog W .any base t v := hval0
  have hW' := hW
  obtain ⟨p, q, hA0, hV, rfl, hfz, hnd⟩ := hW
  have hA : DataW.TrodAll enc Try.prog W 0 (fun _ => true) true Try.f4.params.toList args.toList ds p := hA0
  rw [Try.params4] at hA hval hsz
  obtain ⟨v0, vs0, d0, ds0, p0, q0, hargs, rfl, rfl, h0, r0⟩ := trodAll_cons hA
  obtain ⟨rfl, rfl, rfl⟩ := trodAll_nil r0
  obtain rfl : args = #[v0] := by cases args; simp_all
  obtain ⟨rfl, rfl⟩ := trodVars_none hV
  obtain ⟨a0, len0, cap0, rfl⟩ := okWide_slice Try.underlying22 (hval 0 22 v0 rfl rfl)
  have k0 := h0
  have lt0 : ∀ x ∈ p0, x.block < W.heap.size := by obtain ⟨m, hm⟩ := k0; exact DataW.trod_lt m _ _ _ hm
  obtain ⟨z0, w0⟩ : ∃ zs, IsRow .i64 W a0 len0 cap0 zs := by
    obtain ⟨fuel, hf⟩ := h0
    rcases open_ints Try.underlying22 Try.underlying3 (by kernel_rfl) hf with ⟨hcs, _⟩ | ⟨x, l, c, zs, hcs, _, hl, hm, hz, _, hcell, hwz⟩
    · simp [Value.cells] at hcs
      obtain ⟨rfl, rfl, rfl⟩ := hcs
      exact ⟨[], .inl ⟨rfl, rfl, rfl, rfl⟩⟩
    · simp [Value.cells] at hcs
      obtain ⟨rfl, rfl, rfl⟩ := hcs
      exact ⟨zs, .inr ⟨_, rfl, hl, hm, by simpa using hz, hcell, hwz⟩⟩
  have y0 : len0 * 8 ≤ 140737488351232 := Go.Proofs.YtgfoeagphlkjkaaW.PrintWords.sized_ints hsz (j := 0) (t := 22) rfl rfl Try.underlying22 Try.underlying3 (by kernel_rfl) (by kernel_rfl) h0
  clear hA0 hval0 hsz0 hsz
  refine (P.laws_FnExactBuildGraph.walk Pure.FnExactBuildGraph a0 len0 cap0 z0 W w0 y0).mono fun e W' ⟨he, bel⟩ => ?_
  subst he
  exact ⟨_, rfl, _, _, _, [], _, [], hW', trodAll_mk1 (shut_bool Try.underlying4 _), (trodAll_cons_mk (Below.trod laidOut (by kernel_rfl) (of_decide_eq_true (by kernel_rfl)) k0 bel lt0) trodAll_mk0), rfl, bel.frame _, fun h => by cases h⟩
set_option maxHeartbeats 4000000 in
theorem joined : joinedFacts Try.prog 4 Try.f4 Rows.fnExactBuildGraphSpec Rows.fnExactBuildGraphRow = true := by
  unfold joinedFacts
  repeat' (with_reducible refine (Bool.and_eq_true _ _).mpr ⟨?_, ?_⟩)
  all_goals first
    | (with_reducible exact Head.mayEnter)
    | ((with_reducible rw [Head.lifts]); rfl)
    | ((with_reducible rw [Head.make]); rfl)
    | (as_aux_lemma => kernel_rfl)
theorem over : Rows.fnExactBuildGraphRow.holds Try.pinned (OpenSpec.ofChange Rows.fnExactBuildGraphSpec) :=
  OpenClaim.holds_of_wide 4 Try.f4 rfl rfl rfl rfl rfl rfl rfl ⟨rfl, rfl, rfl, rfl, rfl⟩ rfl rfl rfl rfl rfl (by kernel_rfl) Try.func4 joined
    (of_decide_eq_true (by kernel_rfl)) (by unfold Func.isWrapper; first | (rw [if_pos (by decide +kernel)]; kernel_rfl) | (rw [if_neg (by decide +kernel)]; exact ⟨rfl, rfl⟩))
    (fun os started H enc _ => lifted os started H enc)
theorem proved : Rows.FnExactBuildGraphSaid := over
#print axioms proved
end Go.Proofs.Ytgfoeagphlkjkaa.fnExactBuildGraph
namespace Go.Proofs.Ytgfoeagphlkjkaa
theorem fnExactBuildGraph_holds : Rows.FnExactBuildGraphSaid := fnExactBuildGraph.proved
end Go.Proofs.Ytgfoeagphlkjkaa
