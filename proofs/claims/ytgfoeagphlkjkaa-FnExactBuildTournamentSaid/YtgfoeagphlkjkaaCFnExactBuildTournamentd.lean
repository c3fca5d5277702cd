/- The row of the law FnExactBuildTournament: contracts and plain lemmas for the law FnExactBuildTournament, part 4 of 4 (what the Go functions answer). -/
import Derived.Test.YtgfoeagphlkjkaaRows
import Derived.WalkKit
import Derived.ProofKit
import Derived.OpenShut
import Derived.ShutString
import Derived.ChangeOld
import Derived.Below
import Derived.SizedLaws
import Derived.Test.YtgfoeagphlkjkaaCFnExactBuildTournamenta
import Derived.Test.YtgfoeagphlkjkaaCFnExactBuildTournamentb
import Derived.Test.YtgfoeagphlkjkaaCFnExactBuildTournamentc
set_option linter.unusedVariables false
set_option linter.unusedSimpArgs false
namespace Go.Proofs.Ytgfoeagphlkjkaa.P
open Go.RowKit Go.Proofs.YtgfoeagphlkjkaaW.PrintWords Go.Proofs.YtgfoeagphlkjkaaW.PrintLast Go.Proofs.YtgfoeagphlkjkaaW.PrintMore
attribute [local go_sem] max2_int min2_int max_two min_two max_three min_three max_four min_four
mutual
def laws_FnExactBuildTournament.j0 : Nat → List Int → Bool → List Int → Bool → Bool → Int → List Int → Int → List Int → Option (Bool)
 | 0, _, _, _, _, _, _, _, _, _ => none
 | k + 1, x0, x4, x5, x7, x37, x439000, x439001, x448000, x448001 => if x37 = true then (some false) else ((laws_toIntS.f k x0).bind fun t449 => ((laws_eqIntS.f k x5 t449).bind fun t452 => (if t452 = true then ((laws_markIntS.f k x5 1).bind fun bt453 => (if bt453.1 < 0 then (laws_FnExactBuildTournament.j1 k x0 x4 true x439000 x439001 x448000 x448001) else ((laws_eqTournament.f k x448000 x448001 x439000 x439001).bind fun t455 => (if t455 = true then (laws_FnExactBuildTournament.j1 k x0 x4 (x7 != x4) x439000 x439001 x448000 x448001) else (laws_FnExactBuildTournament.j1 k x0 x4 true x439000 x439001 x448000 x448001))))) else (some false))))
def laws_FnExactBuildTournament.j1 : Nat → List Int → Bool → Bool → Int → List Int → Int → List Int → Option (Bool)
 | 0, _, _, _, _, _, _, _ => none
 | k + 1, x0, x4, x58, x439000, x439001, x448000, x448001 => if x58 = true then (some false) else ((laws_markTournament.f k x448000 x448001 1).bind fun bt456 => ((laws_heldTournament.f k x448000 bt456.2 1).bind fun t458 => (if t458 < 0 then (some false) else (if t458 = bt456.1 then ((laws_toIntS.f k x0).bind fun t459 => ((impl_BuildTournament.f k t459).bind fun bt462 => ((laws_eqTournament.f k bt462.1 bt462.2.1 x439000 x439001).bind fun t468 => (if t468 = true then (laws_FnExactBuildTournament.j2 k bt456.1 (bt462.2.2 != x4) x448000 bt456.2) else (laws_FnExactBuildTournament.j2 k bt456.1 true x448000 bt456.2))))) else (some false)))))
def laws_FnExactBuildTournament.j2 : Nat → Int → Bool → Int → List Int → Option (Bool)
 | 0, _, _, _, _ => none
 | k + 1, x9, x84, x448000, x448001 => if x84 = true then (some false) else ((laws_heldTournament.f k x448000 x448001 1).bind fun t469 => (if t469 < 0 then (some false) else (if t469 = x9 then (some true) else (some false))))
end
def laws_FnExactBuildTournament.f (k : Nat) (l0 : List Int) : Option (Bool) := if (l0.length : Int) > 1048576 then (some true) else ((laws_toIntS.f k l0).bind fun t430 => ((spec_BuildTournament.f k t430).bind fun bt433 => ((laws_toIntS.f k l0).bind fun t439 => ((impl_BuildTournament.f k t439).bind fun bt442 => ((laws_eqTournament.f k bt442.1 bt442.2.1 bt433.1 bt433.2.1).bind fun t448 => (if t448 = true then (laws_FnExactBuildTournament.j0 k l0 bt433.2.2 t439 bt442.2.2 (bt442.2.2 != bt433.2.2) bt433.1 bt433.2.1 bt442.1 bt442.2.1) else (laws_FnExactBuildTournament.j0 k l0 bt433.2.2 t439 bt442.2.2 true bt433.1 bt433.2.1 bt442.1 bt442.2.1)))))))
theorem laws_FnExactBuildTournament.mono_l : ∀ k, (∀ y0 y1 y2 y3 y4 y5 y6 y7 y8, LeO (laws_FnExactBuildTournament.j0 k y0 y1 y2 y3 y4 y5 y6 y7 y8) (laws_FnExactBuildTournament.j0 (k + 1) y0 y1 y2 y3 y4 y5 y6 y7 y8)) ∧ (∀ y0 y1 y2 y3 y4 y5 y6, LeO (laws_FnExactBuildTournament.j1 k y0 y1 y2 y3 y4 y5 y6) (laws_FnExactBuildTournament.j1 (k + 1) y0 y1 y2 y3 y4 y5 y6)) ∧ (∀ y0 y1 y2 y3, LeO (laws_FnExactBuildTournament.j2 k y0 y1 y2 y3) (laws_FnExactBuildTournament.j2 (k + 1) y0 y1 y2 y3))
 | 0 => ⟨fun _ _ _ _ _ _ _ _ _ r h => by simp [laws_FnExactBuildTournament.j0] at h, fun _ _ _ _ _ _ _ r h => by simp [laws_FnExactBuildTournament.j1] at h, fun _ _ _ _ r h => by simp [laws_FnExactBuildTournament.j2] at h⟩
 | k + 1 => by
  obtain ⟨ih0, ih1, ih2⟩ := laws_FnExactBuildTournament.mono_l k
  refine ⟨?_, ?_, ?_⟩
  ·
   intro y0 y1 y2 y3 y4 y5 y6 y7 y8
   unfold laws_FnExactBuildTournament.j0
   repeat' first
   | (with_reducible exact ih0 _ _ _ _ _ _ _ _ _)
   | (with_reducible exact ih1 _ _ _ _ _ _ _)
   | (with_reducible exact ih2 _ _ _ _)
   | (with_reducible exact impl_BuildTournament.mono _ _)
   | (with_reducible exact laws_eqIntS.mono _ _ _)
   | (with_reducible exact laws_eqTournament.mono _ _ _ _ _)
   | (with_reducible exact laws_heldTournament.mono _ _ _ _)
   | (with_reducible exact laws_markIntS.mono _ _ _)
   | (with_reducible exact laws_markTournament.mono _ _ _ _)
   | (with_reducible exact laws_toIntS.mono _ _)
   | (with_reducible exact spec_BuildTournament.mono _ _)
   | (with_reducible exact LeO.refl _)
   | (with_reducible exact LeO.none _)
   | (with_reducible refine LeO.ite ?_ ?_)
   | (with_reducible refine LeO.bind ?_ (fun _ => ?_))
   | exact ih0 _ _ _ _ _ _ _ _ _
   | exact ih1 _ _ _ _ _ _ _
   | exact ih2 _ _ _ _
   | exact impl_BuildTournament.mono _ _
   | exact laws_eqIntS.mono _ _ _
   | exact laws_eqTournament.mono _ _ _ _ _
   | exact laws_heldTournament.mono _ _ _ _
   | exact laws_markIntS.mono _ _ _
   | exact laws_markTournament.mono _ _ _ _
   | exact laws_toIntS.mono _ _
   | exact spec_BuildTournament.mono _ _
   | exact LeO.none _
   | refine LeO.ite ?_ ?_
   | refine LeO.bind ?_ (fun _ => ?_)
  ·
   intro y0 y1 y2 y3 y4 y5 y6
   unfold laws_FnExactBuildTournament.j1
   repeat' first
   | (with_reducible exact ih0 _ _ _ _ _ _ _ _ _)
   | (with_reducible exact ih1 _ _ _ _ _ _ _)
   | (with_reducible exact ih2 _ _ _ _)
   | (with_reducible exact impl_BuildTournament.mono _ _)
   | (with_reducible exact laws_eqIntS.mono _ _ _)
   | (with_reducible exact laws_eqTournament.mono _ _ _ _ _)
   | (with_reducible exact laws_heldTournament.mono _ _ _ _)
   | (with_reducible exact laws_markIntS.mono _ _ _)
   | (with_reducible exact laws_markTournament.mono _ _ _ _)
   | (with_reducible exact laws_toIntS.mono _ _)
   | (with_reducible exact spec_BuildTournament.mono _ _)
   | (with_reducible exact LeO.refl _)
   | (with_reducible exact LeO.none _)
   | (with_reducible refine LeO.ite ?_ ?_)
   | (with_reducible refine LeO.bind ?_ (fun _ => ?_))
   | exact ih0 _ _ _ _ _ _ _ _ _
   | exact ih1 _ _ _ _ _ _ _
   | exact ih2 _ _ _ _
   | exact impl_BuildTournament.mono _ _
   | exact laws_eqIntS.mono _ _ _
   | exact laws_eqTournament.mono _ _ _ _ _
   | exact laws_heldTournament.mono _ _ _ _
   | exact laws_markIntS.mono _ _ _
   | exact laws_markTournament.mono _ _ _ _
   | exact laws_toIntS.mono _ _
   | exact spec_BuildTournament.mono _ _
   | exact LeO.none _
   | refine LeO.ite ?_ ?_
   | refine LeO.bind ?_ (fun _ => ?_)
  ·
   intro y0 y1 y2 y3
   unfold laws_FnExactBuildTournament.j2
   repeat' first
   | (with_reducible exact ih0 _ _ _ _ _ _ _ _ _)
   | (with_reducible exact ih1 _ _ _ _ _ _ _)
   | (with_reducible exact ih2 _ _ _ _)
   | (with_reducible exact impl_BuildTournament.mono _ _)
   | (with_reducible exact laws_eqIntS.mono _ _ _)
   | (with_reducible exact laws_eqTournament.mono _ _ _ _ _)
   | (with_reducible exact laws_heldTournament.mono _ _ _ _)
   | (with_reducible exact laws_markIntS.mono _ _ _)
   | (with_reducible exact laws_markTournament.mono _ _ _ _)
   | (with_reducible exact laws_toIntS.mono _ _)
   | (with_reducible exact spec_BuildTournament.mono _ _)
   | (with_reducible exact LeO.refl _)
   | (with_reducible exact LeO.none _)
   | (with_reducible refine LeO.ite ?_ ?_)
   | (with_reducible refine LeO.bind ?_ (fun _ => ?_))
   | exact ih0 _ _ _ _ _ _ _ _ _
   | exact ih1 _ _ _ _ _ _ _
   | exact ih2 _ _ _ _
   | exact impl_BuildTournament.mono _ _
   | exact laws_eqIntS.mono _ _ _
   | exact laws_eqTournament.mono _ _ _ _ _
   | exact laws_heldTournament.mono _ _ _ _
   | exact laws_markIntS.mono _ _ _
   | exact laws_markTournament.mono _ _ _ _
   | exact laws_toIntS.mono _ _
   | exact spec_BuildTournament.mono _ _
   | exact LeO.none _
   | refine LeO.ite ?_ ?_
   | refine LeO.bind ?_ (fun _ => ?_)
theorem laws_FnExactBuildTournament.mono : ∀ a0 k, LeO (laws_FnExactBuildTournament.f k a0) (laws_FnExactBuildTournament.f (k + 1) a0) := by
 intro a0 k
 obtain ⟨ih0, ih1, ih2⟩ := laws_FnExactBuildTournament.mono_l k
 unfold laws_FnExactBuildTournament.f
 repeat' first
   | (with_reducible exact ih0 _ _ _ _ _ _ _ _ _)
   | (with_reducible exact ih1 _ _ _ _ _ _ _)
   | (with_reducible exact ih2 _ _ _ _)
   | (with_reducible exact impl_BuildTournament.mono _ _)
   | (with_reducible exact laws_eqIntS.mono _ _ _)
   | (with_reducible exact laws_eqTournament.mono _ _ _ _ _)
   | (with_reducible exact laws_heldTournament.mono _ _ _ _)
   | (with_reducible exact laws_markIntS.mono _ _ _)
   | (with_reducible exact laws_markTournament.mono _ _ _ _)
   | (with_reducible exact laws_toIntS.mono _ _)
   | (with_reducible exact spec_BuildTournament.mono _ _)
   | (with_reducible exact LeO.refl _)
   | (with_reducible exact LeO.none _)
   | (with_reducible refine LeO.ite ?_ ?_)
   | (with_reducible refine LeO.bind ?_ (fun _ => ?_))
   | exact ih0 _ _ _ _ _ _ _ _ _
   | exact ih1 _ _ _ _ _ _ _
   | exact ih2 _ _ _ _
   | exact impl_BuildTournament.mono _ _
   | exact laws_eqIntS.mono _ _ _
   | exact laws_eqTournament.mono _ _ _ _ _
   | exact laws_heldTournament.mono _ _ _ _
   | exact laws_markIntS.mono _ _ _
   | exact laws_markTournament.mono _ _ _ _
   | exact laws_toIntS.mono _ _
   | exact spec_BuildTournament.mono _ _
   | exact LeO.none _
   | refine LeO.ite ?_ ?_
   | refine LeO.bind ?_ (fun _ => ?_)
set_option maxHeartbeats 8000000 in
set_option maxRecDepth 100000 in
theorem laws_FnExactBuildTournament.calls (k : Nat) (A0 : Option Addr) (c0 : Nat) (l0 : List Int) (r : Bool) (w : World) (hr0 : Kd.C (Kd.int .i64) w A0 l0.length l0) (hc0 : l0.length ≤ c0) (h : laws_FnExactBuildTournament.f k l0 = some r) :
  Calls Try.prog 6 #[.slice A0 l0.length c0] w fun e w' => e = .returned (.bool r) ∧ Below w.heap.size w w' := by
 have hu44 := Try.underlying44
 have HR0 := Aside0.mk hr0
 have HC0 := Aside0.mk hc0
 clear hr0 hc0
 have HB := Aside0.mk (Below.refl w.heap.size w)
 have H : (if (l0.length : Int) > 1048576 then (some true) else ((laws_toIntS.f k l0).bind fun t430 => ((spec_BuildTournament.f k t430).bind fun bt433 => ((laws_toIntS.f k l0).bind fun t439 => ((impl_BuildTournament.f k t439).bind fun bt442 => ((laws_eqTournament.f k bt442.1 bt442.2.1 bt433.1 bt433.2.1).bind fun t448 => (if t448 = true then (laws_FnExactBuildTournament.j0 k l0 bt433.2.2 t439 bt442.2.2 (bt442.2.2 != bt433.2.2) bt433.1 bt433.2.1 bt442.1 bt442.2.1) else (laws_FnExactBuildTournament.j0 k l0 bt433.2.2 t439 bt442.2.2 true bt433.1 bt433.2.1 bt442.1 bt442.2.1)))))))) = some r := h
 clear h
 by_cases c2 : (l0.length : Int) > 1048576
 ·
  rw [if_pos c2] at H
  have c2b0 : decide (1048576 < (l0.length : Int)) = true := decide_eq_true c2
  have c2b1 : decide (1048576 < l0.length) = true := decide_eq_true (by omega)
  clear c2
  obtain rfl := Option.some.inj H
  go_enter Try.func6, Try.ntmps6
  go_wp2
  go_ret
  exact ⟨by first | rfl | (simp [errW_none, errW_some] <;> rfl) | (simp [*, errW_none, errW_some] <;> rfl), by repeat (first | (with_reducible first | exact HB.out | apply below_alloc | apply pw_below_drewN | apply below_drew1) | exact HB.out)⟩
 ·
  rw [if_neg c2] at H
  have c2b0 : decide (1048576 < (l0.length : Int)) = false := decide_eq_false c2
  have c2b1 : decide (1048576 < l0.length) = false := decide_eq_false (by omega)
  clear c2
  replace H := Option.bind_eq_some_iff.mp H
  obtain ⟨t430, A30, H⟩ := H
  replace H : ((spec_BuildTournament.f k t430).bind fun bt433 => ((laws_toIntS.f k l0).bind fun t439 => ((impl_BuildTournament.f k t439).bind fun bt442 => ((laws_eqTournament.f k bt442.1 bt442.2.1 bt433.1 bt433.2.1).bind fun t448 => (if t448 = true then (laws_FnExactBuildTournament.j0 k l0 bt433.2.2 t439 bt442.2.2 (bt442.2.2 != bt433.2.2) bt433.1 bt433.2.1 bt442.1 bt442.2.1) else (laws_FnExactBuildTournament.j0 k l0 bt433.2.2 t439 bt442.2.2 true bt433.1 bt433.2.1 bt442.1 bt442.2.1)))))) = some r := H
  have A3 := Aside0.mk A30
  clear A30
  replace H := Option.bind_eq_some_iff.mp H
  obtain ⟨⟨t433, t434, t437⟩, A40, H⟩ := H
  replace H : ((laws_toIntS.f k l0).bind fun t439 => ((impl_BuildTournament.f k t439).bind fun bt442 => ((laws_eqTournament.f k bt442.1 bt442.2.1 t433 t434).bind fun t448 => (if t448 = true then (laws_FnExactBuildTournament.j0 k l0 t437 t439 bt442.2.2 (bt442.2.2 != t437) t433 t434 bt442.1 bt442.2.1) else (laws_FnExactBuildTournament.j0 k l0 t437 t439 bt442.2.2 true t433 t434 bt442.1 bt442.2.1))))) = some r := H
  have A4 := Aside0.mk A40
  clear A40
  replace H := Option.bind_eq_some_iff.mp H
  obtain ⟨t439, A50, H⟩ := H
  replace H : ((impl_BuildTournament.f k t439).bind fun bt442 => ((laws_eqTournament.f k bt442.1 bt442.2.1 t433 t434).bind fun t448 => (if t448 = true then (laws_FnExactBuildTournament.j0 k l0 t437 t439 bt442.2.2 (bt442.2.2 != t437) t433 t434 bt442.1 bt442.2.1) else (laws_FnExactBuildTournament.j0 k l0 t437 t439 bt442.2.2 true t433 t434 bt442.1 bt442.2.1)))) = some r := H
  have A5 := Aside0.mk A50
  clear A50
  replace H := Option.bind_eq_some_iff.mp H
  obtain ⟨⟨t442, t443, t446⟩, A60, H⟩ := H
  replace H : ((laws_eqTournament.f k t442 t443 t433 t434).bind fun t448 => (if t448 = true then (laws_FnExactBuildTournament.j0 k l0 t437 t439 t446 (t446 != t437) t433 t434 t442 t443) else (laws_FnExactBuildTournament.j0 k l0 t437 t439 t446 true t433 t434 t442 t443))) = some r := H
  have A6 := Aside0.mk A60
  clear A60
  have HC7 := Aside0.mk H
  clear H
  go_enter Try.func6, Try.ntmps6
  go_upto_region 6 with (first | ((with_reducible refine gate_callee (f := 8) rfl ?_); refine goesL_ (some 18) rfl rfl Try.func8 (by kernel_rfl) rfl #[.slice A0 l0.length c0] rfl (by (try simp only [List.map_toArray, List.map_cons, List.map_nil]); first | done | rfl) ?_; (with_reducible refine (laws_toIntS.calls k _ _ l0 t430 _ ?side1 ?side2 A3.out).mono ?_); (case side1 => repeat (first | exact HR0.out | (with_reducible refine Kd.C_alloc ?_ _) | (with_reducible refine Kd.C_drewN ?_ _) | (with_reducible refine Kd.C_drew ?_))); (case side2 => exact HC0.out); rintro e w8 ⟨v431, rfl, ho0, hb⟩; refine ⟨_, rfl, ?_⟩; have n0_ := Aside0.mk (Kd.R_lower ho0 (below_size (by repeat (first | (with_reducible first | exact HB.out | apply below_alloc | apply pw_below_drewN | apply below_drew1))))); have n1_ := Aside0.mk (below_step (by repeat (first | (with_reducible first | exact HB.out | apply below_alloc | apply pw_below_drewN | apply below_drew1))) hb); clear HB; have HO432 := n0_; have HB := n1_; clear n0_ n1_; (try clear hb); (try clear hb2); (try clear hk); (try clear hi); (try clear ho0); obtain ⟨Ao9, co9, eo9⟩ := Kd.R_slice HO432.out; subst eo9) | ((with_reducible refine gate_callee (f := 25) rfl ?_); refine goesL_ (some 19) rfl rfl Try.func25 (by kernel_rfl) rfl #[.slice Ao9 t430.length co9] rfl (by (try simp only [List.map_toArray, List.map_cons, List.map_nil]); first | done | rfl) ?_; (with_reducible refine (spec_BuildTournament.calls k _ _ t430 t433 t434 t437 _ ?side1 ?side2 A4.out).mono ?_); (case side1 => repeat (first | exact (Kd.R_reads' HO432.out).2.2 | (with_reducible refine Kd.C_alloc ?_ _) | (with_reducible refine Kd.C_drewN ?_ _) | (with_reducible refine Kd.C_drew ?_))); (case side2 => exact (Kd.R_reads' HO432.out).2.1); rintro e w10 ⟨v435, rfl, ho0, hb⟩; refine ⟨_, rfl, ?_⟩; have n0_ := Aside0.mk (Kd.R_elder' (by (with_reducible repeat (first | apply Kd.R_alloc | apply Kd.R_drewN | apply Kd.R_drew)); exact HO432.out) (Kd.R_base ho0) hb); have n1_ := Aside0.mk (Kd.R_lower (Kd.R_new' ho0 (Kd.R_lt (by (with_reducible repeat (first | apply Kd.R_alloc | apply Kd.R_drewN | apply Kd.R_drew)); exact HO432.out))) (below_size (by repeat (first | (with_reducible first | exact HB.out | apply below_alloc | apply pw_below_drewN | apply below_drew1))))); have n2_ := Aside0.mk (below_step (by repeat (first | (with_reducible first | exact HB.out | apply below_alloc | apply pw_below_drewN | apply below_drew1))) hb); clear HO432; clear HB; have HO432 := n0_; have HO436 := n1_; have HB := n2_; clear n0_ n1_ n2_; (try clear hb); (try clear hb2); (try clear hk); (try clear hi); (try clear ho0)) | ((with_reducible refine gate_dst (N := 3) rfl ?_); refine box_event ?hg (N := 3) ?hd (cs := #[.int .i64 0, .slice none 0 0]) (t := 44) ?hr ?_; (case hd => rfl); (case hg => rfl); (case hr => first | (go_simp; done) | (go_simp; rfl)); intro gb438 hg w11 hbox hb; have n0_ := Aside0.mk (Kd.R_below (by (with_reducible repeat (first | apply Kd.R_alloc | apply Kd.R_drewN | apply Kd.R_drew)); exact HO432.out) hb); have n1_ := Aside0.mk (Kd.R_below (by (with_reducible repeat (first | apply Kd.R_alloc | apply Kd.R_drewN | apply Kd.R_drew)); exact HO436.out) hb); have n2_ := Aside0.mk (below_step (by repeat (first | (with_reducible first | exact HB.out | apply below_alloc | apply pw_below_drewN | apply below_drew1))) hb); have n3_ := Aside0.mk (hbox); have n4_ := Aside0.mk ((by rw [hg]; exact (below_size (by repeat (first | (with_reducible first | exact HB.out | apply below_alloc | apply pw_below_drewN | apply below_drew1)))) : w.heap.size ≤ gb438)); have n5_ := Aside0.mk ((by rw [hg]; exact (below_size (by repeat (first | (with_reducible first | exact HB.out | apply below_alloc | apply pw_below_drewN | apply below_drew1)))) : w.heap.size ≤ gb438)); clear HO432; clear HO436; clear HB; have HO432 := n0_; have HO436 := n1_; have HB := n2_; have BK438 := n3_; have GW438 := n4_; have GE438 := n5_; clear n0_ n1_ n2_ n3_ n4_ n5_; clear hb hbox hg; have hcz12_0 : w11.cell? ⟨gb438, 0, none⟩ = some (.int .i64 0) := (blk_cell BK438.out 0).trans rfl; have hcz12_1 : w11.cell? ⟨gb438, 1, none⟩ = some (.slice none 0 0) := (blk_cell BK438.out 1).trans rfl; have hfz12_0 := blk_frozen BK438.out 0; have hfz12_1 := blk_frozen BK438.out 1; obtain ⟨Ao13, co13, eo13⟩ := Kd.R_slice HO436.out; subst eo13) | ((with_reducible refine gate_callee (f := 8) rfl ?_); refine goesL_ (some 23) rfl rfl Try.func8 (by kernel_rfl) rfl #[.slice A0 l0.length c0] rfl (by (try simp only [List.map_toArray, List.map_cons, List.map_nil]); first | done | rfl) ?_; (with_reducible refine (laws_toIntS.calls k _ _ l0 t439 _ ?side1 ?side2 A5.out).mono ?_); (case side1 => exact Kd.C_below HR0.out (by repeat (first | (with_reducible first | exact HB.out | apply below_alloc | apply pw_below_drewN | apply below_drew1 | refine below_set ?_ GE438.out) | exact HB.out))); (case side2 => exact HC0.out); rintro e w14 ⟨v440, rfl, ho0, hb⟩; refine ⟨_, rfl, ?_⟩; have n0_ := Aside0.mk (Kd.R_elder' (by (with_reducible repeat (first | apply Kd.R_alloc | apply Kd.R_drewN | apply Kd.R_drew)); exact (Kd.R_mono (Kd.R_far (p := ⟨gb438, 1, none⟩) (Kd.R_far (p := ⟨gb438, 0, none⟩) (Kd.R_types HO432.out BK438.out (by decide)) (fun _ hk => hk.2) (.int .i64 t433)) (fun _ hk => hk.2) (.slice Ao13 t434.length co13)) (fun _ h_ => h_.1))) (Kd.R_base ho0) hb); have n1_ := Aside0.mk (Kd.R_elder' (by (with_reducible repeat (first | apply Kd.R_alloc | apply Kd.R_drewN | apply Kd.R_drew)); exact (Kd.R_mono (Kd.R_far (p := ⟨gb438, 1, none⟩) (Kd.R_far (p := ⟨gb438, 0, none⟩) (Kd.R_types HO436.out BK438.out (by decide)) (fun _ hk => hk.2) (.int .i64 t433)) (fun _ hk => hk.2) (.slice Ao13 t434.length co13)) (fun _ h_ => h_.1))) (Kd.R_base ho0) hb); have n2_ := Aside0.mk (Kd.R_lower (Kd.R_new' (Kd.R_new' ho0 (Kd.R_lt (by (with_reducible repeat (first | apply Kd.R_alloc | apply Kd.R_drewN | apply Kd.R_drew)); exact (Kd.R_mono (Kd.R_far (p := ⟨gb438, 1, none⟩) (Kd.R_far (p := ⟨gb438, 0, none⟩) (Kd.R_types HO432.out BK438.out (by decide)) (fun _ hk => hk.2) (.int .i64 t433)) (fun _ hk => hk.2) (.slice Ao13 t434.length co13)) (fun _ h_ => h_.1))))) (Kd.R_lt (by (with_reducible repeat (first | apply Kd.R_alloc | apply Kd.R_drewN | apply Kd.R_drew)); exact (Kd.R_mono (Kd.R_far (p := ⟨gb438, 1, none⟩) (Kd.R_far (p := ⟨gb438, 0, none⟩) (Kd.R_types HO436.out BK438.out (by decide)) (fun _ hk => hk.2) (.int .i64 t433)) (fun _ hk => hk.2) (.slice Ao13 t434.length co13)) (fun _ h_ => h_.1))))) (below_size (by repeat (first | (with_reducible first | exact HB.out | apply below_alloc | apply pw_below_drewN | apply below_drew1 | refine below_set ?_ GE438.out) | exact HB.out)))); have n3_ := Aside0.mk (blk_below (g := gb438) (o := .cells #[.int .i64 t433, .slice Ao13 t434.length co13] 44 (0, 0)) (by (with_reducible repeat (first | refine blk_drewN ?_ _ | refine blk_drew ?_ | refine blk_alloc ?_ _)); refine blk_put (cs := #[.int .i64 t433, .slice none 0 0]) ?_ 1 _ rfl; (with_reducible repeat (first | refine blk_drewN ?_ _ | refine blk_drew ?_ | refine blk_alloc ?_ _)); refine blk_put (cs := #[.int .i64 0, .slice none 0 0]) ?_ 0 _ rfl; (with_reducible repeat (first | refine blk_drewN ?_ _ | refine blk_drew ?_ | refine blk_alloc ?_ _)); exact BK438.out) hb); have n4_ := Aside0.mk (below_step (by repeat (first | (with_reducible first | exact HB.out | apply below_alloc | apply pw_below_drewN | apply below_drew1 | refine below_set ?_ GE438.out) | exact HB.out)) hb); clear HO432; clear HO436; clear BK438; clear HB; have HO432 := n0_; have HO436 := n1_; have HO441 := n2_; have BK438 := n3_; have HB := n4_; clear n0_ n1_ n2_ n3_ n4_; (try clear hb); (try clear hb2); (try clear hk); (try clear hi); (try clear ho0); obtain ⟨Ao15, co15, eo15⟩ := Kd.R_slice HO441.out; subst eo15) | ((with_reducible refine gate_callee (f := 26) rfl ?_); refine goesL_ (some 26) rfl rfl Try.func26 (by kernel_rfl) rfl #[.slice Ao15 t439.length co15] rfl (by (try simp only [List.map_toArray, List.map_cons, List.map_nil]); first | done | rfl) ?_; (with_reducible refine (impl_BuildTournament.calls k _ _ t439 t442 t443 t446 _ ?side1 ?side2 A6.out).mono ?_); (case side1 => repeat (first | exact (Kd.R_reads' HO441.out).2.2 | (with_reducible refine Kd.C_alloc ?_ _) | (with_reducible refine Kd.C_drewN ?_ _) | (with_reducible refine Kd.C_drew ?_))); (case side2 => exact (Kd.R_reads' HO441.out).2.1); rintro e w16 ⟨v444, rfl, ho0, hb⟩; refine ⟨_, rfl, ?_⟩; have n0_ := Aside0.mk (Kd.R_elder' (by (with_reducible repeat (first | apply Kd.R_alloc | apply Kd.R_drewN | apply Kd.R_drew)); exact HO432.out) (Kd.R_base ho0) hb); have n1_ := Aside0.mk (Kd.R_elder' (by (with_reducible repeat (first | apply Kd.R_alloc | apply Kd.R_drewN | apply Kd.R_drew)); exact HO436.out) (Kd.R_base ho0) hb); have n2_ := Aside0.mk (Kd.R_elder' (by (with_reducible repeat (first | apply Kd.R_alloc | apply Kd.R_drewN | apply Kd.R_drew)); exact HO441.out) (Kd.R_base ho0) hb); have n3_ := Aside0.mk (Kd.R_lower (Kd.R_new' (Kd.R_new' (Kd.R_new' ho0 (Kd.R_lt (by (with_reducible repeat (first | apply Kd.R_alloc | apply Kd.R_drewN | apply Kd.R_drew)); exact HO432.out))) (Kd.R_lt (by (with_reducible repeat (first | apply Kd.R_alloc | apply Kd.R_drewN | apply Kd.R_drew)); exact HO436.out))) (Kd.R_lt (by (with_reducible repeat (first | apply Kd.R_alloc | apply Kd.R_drewN | apply Kd.R_drew)); exact HO441.out))) (below_size (by repeat (first | (with_reducible first | exact HB.out | apply below_alloc | apply pw_below_drewN | apply below_drew1 | refine below_set ?_ GE438.out) | exact HB.out)))); have n4_ := Aside0.mk (blk_below (g := gb438) (o := .cells #[.int .i64 t433, .slice Ao13 t434.length co13] 44 (0, 0)) (by (with_reducible repeat (first | refine blk_drewN ?_ _ | refine blk_drew ?_ | refine blk_alloc ?_ _)); exact BK438.out) hb); have n5_ := Aside0.mk (below_step (by repeat (first | (with_reducible first | exact HB.out | apply below_alloc | apply pw_below_drewN | apply below_drew1 | refine below_set ?_ GE438.out) | exact HB.out)) hb); clear HO432; clear HO436; clear HO441; clear BK438; clear HB; have HO432 := n0_; have HO436 := n1_; have HO441 := n2_; have HO445 := n3_; have BK438 := n4_; have HB := n5_; clear n0_ n1_ n2_ n3_ n4_ n5_; (try clear hb); (try clear hb2); (try clear hk); (try clear hi); (try clear ho0)) | ((with_reducible refine gate_dst (N := 6) rfl ?_); refine box_event ?hg (N := 6) ?hd (cs := #[.int .i64 0, .slice none 0 0]) (t := 44) ?hr ?_; (case hd => rfl); (case hg => rfl); (case hr => first | (go_simp; done) | (go_simp; rfl)); intro gb447 hg w17 hbox hb; have n0_ := Aside0.mk (Kd.R_below (by (with_reducible repeat (first | apply Kd.R_alloc | apply Kd.R_drewN | apply Kd.R_drew)); exact HO432.out) hb); have n1_ := Aside0.mk (Kd.R_below (by (with_reducible repeat (first | apply Kd.R_alloc | apply Kd.R_drewN | apply Kd.R_drew)); exact HO436.out) hb); have n2_ := Aside0.mk (Kd.R_below (by (with_reducible repeat (first | apply Kd.R_alloc | apply Kd.R_drewN | apply Kd.R_drew)); exact HO441.out) hb); have n3_ := Aside0.mk (Kd.R_below (by (with_reducible repeat (first | apply Kd.R_alloc | apply Kd.R_drewN | apply Kd.R_drew)); exact HO445.out) hb); have n4_ := Aside0.mk (blk_below (g := gb438) (o := .cells #[.int .i64 t433, .slice Ao13 t434.length co13] 44 (0, 0)) (by (with_reducible repeat (first | refine blk_drewN ?_ _ | refine blk_drew ?_ | refine blk_alloc ?_ _)); exact BK438.out) hb); have n5_ := Aside0.mk (below_step (by repeat (first | (with_reducible first | exact HB.out | apply below_alloc | apply pw_below_drewN | apply below_drew1 | refine below_set ?_ GE438.out) | exact HB.out)) hb); have n6_ := Aside0.mk (hbox); have n7_ := Aside0.mk ((by rw [hg]; exact (below_size (by repeat (first | (with_reducible first | exact HB.out | apply below_alloc | apply pw_below_drewN | apply below_drew1 | refine below_set ?_ GE438.out) | exact HB.out))) : w.heap.size ≤ gb447)); have n8_ := Aside0.mk ((by rw [hg]; exact (below_size (by repeat (first | (with_reducible first | exact HB.out | apply below_alloc | apply pw_below_drewN | apply below_drew1 | refine below_set ?_ GE438.out) | exact HB.out))) : w.heap.size ≤ gb447)); have n9_ := Aside0.mk ((by rw [hg]; exact Nat.ne_of_lt (blk_lt (g := gb438) (o := .cells #[.int .i64 t433, .slice Ao13 t434.length co13] 44 (0, 0)) (by (with_reducible repeat (first | refine blk_drewN ?_ _ | refine blk_drew ?_ | refine blk_alloc ?_ _)); exact BK438.out)) : gb438 ≠ gb447)); have n10_ := Aside0.mk ((by rw [hg]; exact Nat.ne_of_gt (blk_lt (g := gb438) (o := .cells #[.int .i64 t433, .slice Ao13 t434.length co13] 44 (0, 0)) (by (with_reducible repeat (first | refine blk_drewN ?_ _ | refine blk_drew ?_ | refine blk_alloc ?_ _)); exact BK438.out)) : gb447 ≠ gb438)); clear HO432; clear HO436; clear HO441; clear HO445; clear BK438; clear HB; have HO432 := n0_; have HO436 := n1_; have HO441 := n2_; have HO445 := n3_; have BK438 := n4_; have HB := n5_; have BK447 := n6_; have GW447 := n7_; have GE447 := n8_; have NB438_447 := n9_; have NB447_438 := n10_; clear n0_ n1_ n2_ n3_ n4_ n5_ n6_ n7_ n8_ n9_ n10_; clear hb hbox hg; have hnb18 := NB447_438.out; have hnc18 := NB438_447.out; have hcz19_0 : w17.cell? ⟨gb447, 0, none⟩ = some (.int .i64 0) := (blk_cell BK447.out 0).trans rfl; have hcz19_1 : w17.cell? ⟨gb447, 1, none⟩ = some (.slice none 0 0) := (blk_cell BK447.out 1).trans rfl; have hfz19_0 := blk_frozen BK447.out 0; have hfz19_1 := blk_frozen BK447.out 1; obtain ⟨Ao20, co20, eo20⟩ := Kd.R_slice HO445.out; subst eo20))
  (try simp only [Act.put, List.setIfInBounds_toArray, List.set_cons_zero, List.set_cons_succ])
  go_cut [37] (fun v37 wc => ∃ (kq : Nat) (x37_6 : Bool), v37 = .bool x37_6 ∧ Aside0 (laws_FnExactBuildTournament.j0 kq l0 t437 t439 t446 x37_6 t433 t434 t442 t443 = some r) ∧ Aside0 (kq ≤ k) ∧ Aside0 (Kd.R (Kd.int .i64) 3 wc w.heap.size (fun k_ => some k_ ≠ ((.slice Ao13 t434.length co13) : Value).ownBlock ∧ some k_ ≠ ((.slice Ao20 t443.length co20) : Value).ownBlock) (.slice Ao15 t439.length co15) t439) ∧ Aside0 (Kd.R (Kd.int .i64) 3 wc w.heap.size (fun k_ => some k_ ≠ ((.slice Ao15 t439.length co15) : Value).ownBlock ∧ some k_ ≠ ((.slice Ao20 t443.length co20) : Value).ownBlock) (.slice Ao13 t434.length co13) t434) ∧ Aside0 (Kd.R (Kd.int .i64) 3 wc w.heap.size (fun k_ => some k_ ≠ ((.slice Ao15 t439.length co15) : Value).ownBlock ∧ some k_ ≠ ((.slice Ao13 t434.length co13) : Value).ownBlock) (.slice Ao20 t443.length co20) t443) ∧ Aside0 (wc.heap[gb438]? = some (.cells #[.int .i64 t433, (.slice Ao13 t434.length co13)] 44 (0, 0))) ∧ Aside0 (wc.heap[gb447]? = some (.cells #[.int .i64 t442, (.slice Ao20 t443.length co20)] 44 (0, 0))) ∧ Aside0 (Below w.heap.size w wc))
  case first =>
   have H := HC7.out
   clear HC7
   replace H := Option.bind_eq_some_iff.mp H
   obtain ⟨t448, A210, H⟩ := H
   replace H : (if t448 = true then (laws_FnExactBuildTournament.j0 k l0 t437 t439 t446 (t446 != t437) t433 t434 t442 t443) else (laws_FnExactBuildTournament.j0 k l0 t437 t439 t446 true t433 t434 t442 t443)) = some r := H
   have A21 := Aside0.mk A210
   clear A210
   by_cases c22 : t448 = true
   ·
    subst c22
    have H1 : (laws_FnExactBuildTournament.j0 k l0 t437 t439 t446 (t446 != t437) t433 t434 t442 t443) = some r := by rw [if_pos rfl] at H; exact H
    clear H
    have H := H1
    clear H1
    have H' := Aside0.mk H
    clear H
    have hnb23 := NB447_438.out
    have hnc23 := NB438_447.out
    have hcz24_0 : w17.cell? ⟨gb447, 0, none⟩ = some (.int .i64 0) := (blk_cell BK447.out 0).trans rfl
    have hcz24_1 : w17.cell? ⟨gb447, 1, none⟩ = some (.slice none 0 0) := (blk_cell BK447.out 1).trans rfl
    have hfz24_0 := blk_frozen BK447.out 0
    have hfz24_1 := blk_frozen BK447.out 1
    have hcz25_0 : w17.cell? ⟨gb438, 0, none⟩ = some (.int .i64 t433) := (blk_cell BK438.out 0).trans rfl
    have hcz25_1 : w17.cell? ⟨gb438, 1, none⟩ = some (.slice Ao13 t434.length co13) := (blk_cell BK438.out 1).trans rfl
    have hfz25_0 := blk_frozen BK438.out 0
    have hfz25_1 := blk_frozen BK438.out 1
    go_wp2_with (first | ((with_reducible refine gate_callee (f := 27) rfl ?_); refine goesL_ (some 31) rfl rfl Try.func27 (by kernel_rfl) rfl #[.agg #[.int .i64 t442, .slice Ao20 t443.length co20], .agg #[.int .i64 t433, .slice Ao13 t434.length co13]] rfl (by (try simp only [List.map_toArray, List.map_cons, List.map_nil]); first | done | rfl) ?_; (with_reducible refine (laws_eqTournament.calls k t442 _ _ t443 t433 _ _ t434 true _ ?side1 ?side2 ?side3 ?side4 A21.out).mono ?_); (case side1 => refine (Kd.R_reads' (e := 3) (base := w.heap.size) (ok := fun k_ => (((True ∧ some k_ ≠ (.slice Ao9 t430.length co9 : Value).ownBlock) ∧ some k_ ≠ (.slice Ao13 t434.length co13 : Value).ownBlock) ∧ some k_ ≠ (.slice Ao15 t439.length co15 : Value).ownBlock)) (n := t443.length) (c := co20) ?_).2.2; exact (by (with_reducible repeat (first | apply Kd.R_alloc | apply Kd.R_drewN | apply Kd.R_drew)); exact (Kd.R_mono (Kd.R_far (p := ⟨gb447, 1, none⟩) (Kd.R_far (p := ⟨gb447, 0, none⟩) (Kd.R_types HO445.out BK447.out (by decide)) (fun _ hk => hk.2) (.int .i64 t442)) (fun _ hk => hk.2) (.slice Ao20 t443.length co20)) (fun _ h_ => h_.1)))); (case side2 => exact (Kd.R_reads' HO445.out).2.1); (case side3 => refine (Kd.R_reads' (e := 3) (base := w.heap.size) (ok := fun k_ => (((True ∧ some k_ ≠ (.slice Ao9 t430.length co9 : Value).ownBlock) ∧ some k_ ≠ (.slice Ao15 t439.length co15 : Value).ownBlock) ∧ some k_ ≠ (.slice Ao20 t443.length co20 : Value).ownBlock)) (n := t434.length) (c := co13) ?_).2.2; exact (by (with_reducible repeat (first | apply Kd.R_alloc | apply Kd.R_drewN | apply Kd.R_drew)); exact (Kd.R_mono (Kd.R_far (p := ⟨gb447, 1, none⟩) (Kd.R_far (p := ⟨gb447, 0, none⟩) (Kd.R_types HO436.out BK447.out (by decide)) (fun _ hk => hk.2) (.int .i64 t442)) (fun _ hk => hk.2) (.slice Ao20 t443.length co20)) (fun _ h_ => h_.1)))); (case side4 => exact (Kd.R_reads' HO436.out).2.1); rintro e w26 ⟨rfl, hb⟩; refine ⟨_, rfl, ?_⟩; have n0_ := Aside0.mk (Kd.R_below (by (with_reducible repeat (first | apply Kd.R_alloc | apply Kd.R_drewN | apply Kd.R_drew)); exact (Kd.R_mono (Kd.R_far (p := ⟨gb447, 1, none⟩) (Kd.R_far (p := ⟨gb447, 0, none⟩) (Kd.R_types HO432.out BK447.out (by decide)) (fun _ hk => hk.2) (.int .i64 t442)) (fun _ hk => hk.2) (.slice Ao20 t443.length co20)) (fun _ h_ => h_.1))) hb); have n1_ := Aside0.mk (Kd.R_below (by (with_reducible repeat (first | apply Kd.R_alloc | apply Kd.R_drewN | apply Kd.R_drew)); exact (Kd.R_mono (Kd.R_far (p := ⟨gb447, 1, none⟩) (Kd.R_far (p := ⟨gb447, 0, none⟩) (Kd.R_types HO436.out BK447.out (by decide)) (fun _ hk => hk.2) (.int .i64 t442)) (fun _ hk => hk.2) (.slice Ao20 t443.length co20)) (fun _ h_ => h_.1))) hb); have n2_ := Aside0.mk (Kd.R_below (by (with_reducible repeat (first | apply Kd.R_alloc | apply Kd.R_drewN | apply Kd.R_drew)); exact (Kd.R_mono (Kd.R_far (p := ⟨gb447, 1, none⟩) (Kd.R_far (p := ⟨gb447, 0, none⟩) (Kd.R_types HO441.out BK447.out (by decide)) (fun _ hk => hk.2) (.int .i64 t442)) (fun _ hk => hk.2) (.slice Ao20 t443.length co20)) (fun _ h_ => h_.1))) hb); have n3_ := Aside0.mk (Kd.R_below (by (with_reducible repeat (first | apply Kd.R_alloc | apply Kd.R_drewN | apply Kd.R_drew)); exact (Kd.R_mono (Kd.R_far (p := ⟨gb447, 1, none⟩) (Kd.R_far (p := ⟨gb447, 0, none⟩) (Kd.R_types HO445.out BK447.out (by decide)) (fun _ hk => hk.2) (.int .i64 t442)) (fun _ hk => hk.2) (.slice Ao20 t443.length co20)) (fun _ h_ => h_.1))) hb); have n4_ := Aside0.mk (blk_below (g := gb438) (o := .cells #[.int .i64 t433, .slice Ao13 t434.length co13] 44 (0, 0)) (by (with_reducible repeat (first | refine blk_drewN ?_ _ | refine blk_drew ?_ | refine blk_alloc ?_ _)); refine blk_far ?_ NB438_447.out _; (with_reducible repeat (first | refine blk_drewN ?_ _ | refine blk_drew ?_ | refine blk_alloc ?_ _)); refine blk_far ?_ NB438_447.out _; (with_reducible repeat (first | refine blk_drewN ?_ _ | refine blk_drew ?_ | refine blk_alloc ?_ _)); exact BK438.out) hb); have n5_ := Aside0.mk (blk_below (g := gb447) (o := .cells #[.int .i64 t442, .slice Ao20 t443.length co20] 44 (0, 0)) (by (with_reducible repeat (first | refine blk_drewN ?_ _ | refine blk_drew ?_ | refine blk_alloc ?_ _)); refine blk_put (cs := #[.int .i64 t442, .slice none 0 0]) ?_ 1 _ rfl; (with_reducible repeat (first | refine blk_drewN ?_ _ | refine blk_drew ?_ | refine blk_alloc ?_ _)); refine blk_put (cs := #[.int .i64 0, .slice none 0 0]) ?_ 0 _ rfl; (with_reducible repeat (first | refine blk_drewN ?_ _ | refine blk_drew ?_ | refine blk_alloc ?_ _)); exact BK447.out) hb); have n6_ := Aside0.mk (below_step (by repeat (first | (with_reducible first | exact HB.out | apply below_alloc | apply pw_below_drewN | apply below_drew1 | refine below_set ?_ GE438.out | refine below_set ?_ GE447.out) | exact HB.out)) hb); clear HO432; clear HO436; clear HO441; clear HO445; clear BK438; clear BK447; clear HB; have HO432 := n0_; have HO436 := n1_; have HO441 := n2_; have HO445 := n3_; have BK438 := n4_; have BK447 := n5_; have HB := n6_; clear n0_ n1_ n2_ n3_ n4_ n5_ n6_; (try clear hb); (try clear hb2); (try clear hk); (try clear hi)))
    go_meet
    case rel => exact ⟨_, ((t446 != t437)), (by first | rfl | (simp; done) | (simp [*]; done)), H', ⟨by first | omega | exact Nat.le_refl _⟩, ⟨by (with_reducible repeat (first | apply Kd.R_alloc | apply Kd.R_drewN | apply Kd.R_drew)); exact Kd.R_mono HO441.out (fun _ hk => ⟨hk.1.2, hk.2⟩)⟩, ⟨by (with_reducible repeat (first | apply Kd.R_alloc | apply Kd.R_drewN | apply Kd.R_drew)); exact Kd.R_mono HO436.out (fun _ hk => ⟨hk.1.2, hk.2⟩)⟩, ⟨by (with_reducible repeat (first | apply Kd.R_alloc | apply Kd.R_drewN | apply Kd.R_drew)); exact Kd.R_mono HO445.out (fun _ hk => ⟨hk.2, hk.1.2⟩)⟩, ⟨by (with_reducible repeat (first | refine blk_drewN ?_ _ | refine blk_drew ?_ | refine blk_alloc ?_ _)); exact BK438.out⟩, ⟨by (with_reducible repeat (first | refine blk_drewN ?_ _ | refine blk_drew ?_ | refine blk_alloc ?_ _)); exact BK447.out⟩, ⟨by repeat (first | (with_reducible first | exact HB.out | apply below_alloc | apply pw_below_drewN | apply below_drew1 | refine below_set ?_ GE438.out | refine below_set ?_ GE447.out) | exact HB.out)⟩⟩
   ·
    replace c22 := Bool.eq_false_iff.mpr c22
    subst c22
    have H1 : (laws_FnExactBuildTournament.j0 k l0 t437 t439 t446 true t433 t434 t442 t443) = some r := by rw [if_neg (show ¬ (false = true) by decide)] at H; exact H
    clear H
    have H := H1
    clear H1
    have H' := Aside0.mk H
    clear H
    have hnb27 := NB447_438.out
    have hnc27 := NB438_447.out
    have hcz28_0 : w17.cell? ⟨gb447, 0, none⟩ = some (.int .i64 0) := (blk_cell BK447.out 0).trans rfl
    have hcz28_1 : w17.cell? ⟨gb447, 1, none⟩ = some (.slice none 0 0) := (blk_cell BK447.out 1).trans rfl
    have hfz28_0 := blk_frozen BK447.out 0
    have hfz28_1 := blk_frozen BK447.out 1
    have hcz29_0 : w17.cell? ⟨gb438, 0, none⟩ = some (.int .i64 t433) := (blk_cell BK438.out 0).trans rfl
    have hcz29_1 : w17.cell? ⟨gb438, 1, none⟩ = some (.slice Ao13 t434.length co13) := (blk_cell BK438.out 1).trans rfl
    have hfz29_0 := blk_frozen BK438.out 0
    have hfz29_1 := blk_frozen BK438.out 1
    go_wp2_with (first | ((with_reducible refine gate_callee (f := 27) rfl ?_); refine goesL_ (some 31) rfl rfl Try.func27 (by kernel_rfl) rfl #[.agg #[.int .i64 t442, .slice Ao20 t443.length co20], .agg #[.int .i64 t433, .slice Ao13 t434.length co13]] rfl (by (try simp only [List.map_toArray, List.map_cons, List.map_nil]); first | done | rfl) ?_; (with_reducible refine (laws_eqTournament.calls k t442 _ _ t443 t433 _ _ t434 false _ ?side1 ?side2 ?side3 ?side4 A21.out).mono ?_); (case side1 => refine (Kd.R_reads' (e := 3) (base := w.heap.size) (ok := fun k_ => (((True ∧ some k_ ≠ (.slice Ao9 t430.length co9 : Value).ownBlock) ∧ some k_ ≠ (.slice Ao13 t434.length co13 : Value).ownBlock) ∧ some k_ ≠ (.slice Ao15 t439.length co15 : Value).ownBlock)) (n := t443.length) (c := co20) ?_).2.2; exact (by (with_reducible repeat (first | apply Kd.R_alloc | apply Kd.R_drewN | apply Kd.R_drew)); exact (Kd.R_mono (Kd.R_far (p := ⟨gb447, 1, none⟩) (Kd.R_far (p := ⟨gb447, 0, none⟩) (Kd.R_types HO445.out BK447.out (by decide)) (fun _ hk => hk.2) (.int .i64 t442)) (fun _ hk => hk.2) (.slice Ao20 t443.length co20)) (fun _ h_ => h_.1)))); (case side2 => exact (Kd.R_reads' HO445.out).2.1); (case side3 => refine (Kd.R_reads' (e := 3) (base := w.heap.size) (ok := fun k_ => (((True ∧ some k_ ≠ (.slice Ao9 t430.length co9 : Value).ownBlock) ∧ some k_ ≠ (.slice Ao15 t439.length co15 : Value).ownBlock) ∧ some k_ ≠ (.slice Ao20 t443.length co20 : Value).ownBlock)) (n := t434.length) (c := co13) ?_).2.2; exact (by (with_reducible repeat (first | apply Kd.R_alloc | apply Kd.R_drewN | apply Kd.R_drew)); exact (Kd.R_mono (Kd.R_far (p := ⟨gb447, 1, none⟩) (Kd.R_far (p := ⟨gb447, 0, none⟩) (Kd.R_types HO436.out BK447.out (by decide)) (fun _ hk => hk.2) (.int .i64 t442)) (fun _ hk => hk.2) (.slice Ao20 t443.length co20)) (fun _ h_ => h_.1)))); (case side4 => exact (Kd.R_reads' HO436.out).2.1); rintro e w30 ⟨rfl, hb⟩; refine ⟨_, rfl, ?_⟩; have n0_ := Aside0.mk (Kd.R_below (by (with_reducible repeat (first | apply Kd.R_alloc | apply Kd.R_drewN | apply Kd.R_drew)); exact (Kd.R_mono (Kd.R_far (p := ⟨gb447, 1, none⟩) (Kd.R_far (p := ⟨gb447, 0, none⟩) (Kd.R_types HO432.out BK447.out (by decide)) (fun _ hk => hk.2) (.int .i64 t442)) (fun _ hk => hk.2) (.slice Ao20 t443.length co20)) (fun _ h_ => h_.1))) hb); have n1_ := Aside0.mk (Kd.R_below (by (with_reducible repeat (first | apply Kd.R_alloc | apply Kd.R_drewN | apply Kd.R_drew)); exact (Kd.R_mono (Kd.R_far (p := ⟨gb447, 1, none⟩) (Kd.R_far (p := ⟨gb447, 0, none⟩) (Kd.R_types HO436.out BK447.out (by decide)) (fun _ hk => hk.2) (.int .i64 t442)) (fun _ hk => hk.2) (.slice Ao20 t443.length co20)) (fun _ h_ => h_.1))) hb); have n2_ := Aside0.mk (Kd.R_below (by (with_reducible repeat (first | apply Kd.R_alloc | apply Kd.R_drewN | apply Kd.R_drew)); exact (Kd.R_mono (Kd.R_far (p := ⟨gb447, 1, none⟩) (Kd.R_far (p := ⟨gb447, 0, none⟩) (Kd.R_types HO441.out BK447.out (by decide)) (fun _ hk => hk.2) (.int .i64 t442)) (fun _ hk => hk.2) (.slice Ao20 t443.length co20)) (fun _ h_ => h_.1))) hb); have n3_ := Aside0.mk (Kd.R_below (by (with_reducible repeat (first | apply Kd.R_alloc | apply Kd.R_drewN | apply Kd.R_drew)); exact (Kd.R_mono (Kd.R_far (p := ⟨gb447, 1, none⟩) (Kd.R_far (p := ⟨gb447, 0, none⟩) (Kd.R_types HO445.out BK447.out (by decide)) (fun _ hk => hk.2) (.int .i64 t442)) (fun _ hk => hk.2) (.slice Ao20 t443.length co20)) (fun _ h_ => h_.1))) hb); have n4_ := Aside0.mk (blk_below (g := gb438) (o := .cells #[.int .i64 t433, .slice Ao13 t434.length co13] 44 (0, 0)) (by (with_reducible repeat (first | refine blk_drewN ?_ _ | refine blk_drew ?_ | refine blk_alloc ?_ _)); refine blk_far ?_ NB438_447.out _; (with_reducible repeat (first | refine blk_drewN ?_ _ | refine blk_drew ?_ | refine blk_alloc ?_ _)); refine blk_far ?_ NB438_447.out _; (with_reducible repeat (first | refine blk_drewN ?_ _ | refine blk_drew ?_ | refine blk_alloc ?_ _)); exact BK438.out) hb); have n5_ := Aside0.mk (blk_below (g := gb447) (o := .cells #[.int .i64 t442, .slice Ao20 t443.length co20] 44 (0, 0)) (by (with_reducible repeat (first | refine blk_drewN ?_ _ | refine blk_drew ?_ | refine blk_alloc ?_ _)); refine blk_put (cs := #[.int .i64 t442, .slice none 0 0]) ?_ 1 _ rfl; (with_reducible repeat (first | refine blk_drewN ?_ _ | refine blk_drew ?_ | refine blk_alloc ?_ _)); refine blk_put (cs := #[.int .i64 0, .slice none 0 0]) ?_ 0 _ rfl; (with_reducible repeat (first | refine blk_drewN ?_ _ | refine blk_drew ?_ | refine blk_alloc ?_ _)); exact BK447.out) hb); have n6_ := Aside0.mk (below_step (by repeat (first | (with_reducible first | exact HB.out | apply below_alloc | apply pw_below_drewN | apply below_drew1 | refine below_set ?_ GE438.out | refine below_set ?_ GE447.out) | exact HB.out)) hb); clear HO432; clear HO436; clear HO441; clear HO445; clear BK438; clear BK447; clear HB; have HO432 := n0_; have HO436 := n1_; have HO441 := n2_; have HO445 := n3_; have BK438 := n4_; have BK447 := n5_; have HB := n6_; clear n0_ n1_ n2_ n3_ n4_ n5_ n6_; (try clear hb); (try clear hb2); (try clear hk); (try clear hi)))
    go_meet
    case rel => exact ⟨_, (true), (by first | rfl | (simp; done) | (simp [*]; done)), H', ⟨by first | omega | exact Nat.le_refl _⟩, ⟨by (with_reducible repeat (first | apply Kd.R_alloc | apply Kd.R_drewN | apply Kd.R_drew)); exact Kd.R_mono HO441.out (fun _ hk => ⟨hk.1.2, hk.2⟩)⟩, ⟨by (with_reducible repeat (first | apply Kd.R_alloc | apply Kd.R_drewN | apply Kd.R_drew)); exact Kd.R_mono HO436.out (fun _ hk => ⟨hk.1.2, hk.2⟩)⟩, ⟨by (with_reducible repeat (first | apply Kd.R_alloc | apply Kd.R_drewN | apply Kd.R_drew)); exact Kd.R_mono HO445.out (fun _ hk => ⟨hk.2, hk.1.2⟩)⟩, ⟨by (with_reducible repeat (first | refine blk_drewN ?_ _ | refine blk_drew ?_ | refine blk_alloc ?_ _)); exact BK438.out⟩, ⟨by (with_reducible repeat (first | refine blk_drewN ?_ _ | refine blk_drew ?_ | refine blk_alloc ?_ _)); exact BK447.out⟩, ⟨by repeat (first | (with_reducible first | exact HB.out | apply below_alloc | apply pw_below_drewN | apply below_drew1 | refine below_set ?_ GE438.out | refine below_set ?_ GE447.out) | exact HB.out)⟩⟩
  case rest =>
   clear HC7
   try clear c1
   try clear c2
   try clear c2b0
   try clear c2b1
   try clear p2
   try clear c6
   try clear c8
   try clear c18
   try clear c22
   try clear c23
   try clear c25
   try clear c26
   try clear c27
   try clear hcz12_0
   try clear hcz12_1
   try clear hcz19_0
   try clear hcz19_1
   try clear hcz24_0
   try clear hcz24_1
   try clear hcz25_0
   try clear hcz25_1
   try clear hcz28_0
   try clear hcz28_1
   try clear hcz29_0
   try clear hcz29_1
   try clear hfz12_0
   try clear hfz12_1
   try clear hfz19_0
   try clear hfz19_1
   try clear hfz24_0
   try clear hfz24_1
   try clear hfz25_0
   try clear hfz25_1
   try clear hfz28_0
   try clear hfz28_1
   try clear hfz29_0
   try clear hfz29_1
   obtain ⟨kq, x37_6, rfl, HA, HJ6, HO_5, HO_439001, HO_448001, BK438, BK447, HB⟩ := hcut
   cases kq with
   | zero => exact absurd HA.out (by simp [laws_FnExactBuildTournament.j0])
   | succ kj6 =>
    have H := HA.out
    clear HA
    simp only [laws_FnExactBuildTournament.j0] at H
    by_cases c31 : x37_6 = true
    ·
     subst c31
     have H1 : (some false) = some r := by rw [if_pos rfl] at H; exact H
     clear H
     have H := H1
     clear H1
     obtain rfl := Option.some.inj H
     go_wp2
     go_ret
     exact ⟨by first | rfl | (simp [errW_none, errW_some] <;> rfl) | (simp [*, errW_none, errW_some] <;> rfl), by repeat (first | (with_reducible first | exact HB.out | apply below_alloc | apply pw_below_drewN | apply below_drew1 | refine below_set ?_ GE438.out | refine below_set ?_ GE447.out) | exact HB.out)⟩
    ·
     replace c31 := Bool.eq_false_iff.mpr c31
     subst c31
     have H1 : ((laws_toIntS.f kj6 l0).bind fun t449 => ((laws_eqIntS.f kj6 t439 t449).bind fun t452 => (if t452 = true then ((laws_markIntS.f kj6 t439 1).bind fun bt453 => (if bt453.1 < 0 then (laws_FnExactBuildTournament.j1 kj6 l0 t437 true t433 t434 t442 t443) else ((laws_eqTournament.f kj6 t442 t443 t433 t434).bind fun t455 => (if t455 = true then (laws_FnExactBuildTournament.j1 kj6 l0 t437 (t446 != t437) t433 t434 t442 t443) else (laws_FnExactBuildTournament.j1 kj6 l0 t437 true t433 t434 t442 t443))))) else (some false)))) = some r := by rw [if_neg (show ¬ (false = true) by decide)] at H; exact H
     clear H
     have H := H1
     clear H1
     replace H := Option.bind_eq_some_iff.mp H
     obtain ⟨t449, A320, H⟩ := H
     replace H : ((laws_eqIntS.f kj6 t439 t449).bind fun t452 => (if t452 = true then ((laws_markIntS.f kj6 t439 1).bind fun bt453 => (if bt453.1 < 0 then (laws_FnExactBuildTournament.j1 kj6 l0 t437 true t433 t434 t442 t443) else ((laws_eqTournament.f kj6 t442 t443 t433 t434).bind fun t455 => (if t455 = true then (laws_FnExactBuildTournament.j1 kj6 l0 t437 (t446 != t437) t433 t434 t442 t443) else (laws_FnExactBuildTournament.j1 kj6 l0 t437 true t433 t434 t442 t443))))) else (some false))) = some r := H
     have A32 := Aside0.mk A320
     clear A320
     replace H := Option.bind_eq_some_iff.mp H
     obtain ⟨t452, A330, H⟩ := H
     replace H : (if t452 = true then ((laws_markIntS.f kj6 t439 1).bind fun bt453 => (if bt453.1 < 0 then (laws_FnExactBuildTournament.j1 kj6 l0 t437 true t433 t434 t442 t443) else ((laws_eqTournament.f kj6 t442 t443 t433 t434).bind fun t455 => (if t455 = true then (laws_FnExactBuildTournament.j1 kj6 l0 t437 (t446 != t437) t433 t434 t442 t443) else (laws_FnExactBuildTournament.j1 kj6 l0 t437 true t433 t434 t442 t443))))) else (some false)) = some r := H
     have A33 := Aside0.mk A330
     clear A330
     by_cases c34 : t452 = true
     ·
      subst c34
      have H1 : ((laws_markIntS.f kj6 t439 1).bind fun bt453 => (if bt453.1 < 0 then (laws_FnExactBuildTournament.j1 kj6 l0 t437 true t433 t434 t442 t443) else ((laws_eqTournament.f kj6 t442 t443 t433 t434).bind fun t455 => (if t455 = true then (laws_FnExactBuildTournament.j1 kj6 l0 t437 (t446 != t437) t433 t434 t442 t443) else (laws_FnExactBuildTournament.j1 kj6 l0 t437 true t433 t434 t442 t443))))) = some r := by rw [if_pos rfl] at H; exact H
      clear H
      have H := H1
      clear H1
      replace H := Option.bind_eq_some_iff.mp H
      obtain ⟨⟨t453, t454⟩, A350, H⟩ := H
      replace H : (if t453 < 0 then (laws_FnExactBuildTournament.j1 kj6 l0 t437 true t433 t434 t442 t443) else ((laws_eqTournament.f kj6 t442 t443 t433 t434).bind fun t455 => (if t455 = true then (laws_FnExactBuildTournament.j1 kj6 l0 t437 (t446 != t437) t433 t434 t442 t443) else (laws_FnExactBuildTournament.j1 kj6 l0 t437 true t433 t434 t442 t443)))) = some r := H
      have A35 := Aside0.mk A350
      clear A350
      have HC36 := Aside0.mk H
      clear H
      go_upto_region 12 with (first | ((with_reducible refine gate_callee (f := 8) rfl ?_); refine goesL_ (some 40) rfl rfl Try.func8 (by kernel_rfl) rfl #[.slice A0 l0.length c0] rfl (by (try simp only [List.map_toArray, List.map_cons, List.map_nil]); first | done | rfl) ?_; (with_reducible refine (laws_toIntS.calls kj6 _ _ l0 t449 _ ?side1 ?side2 A32.out).mono ?_); (case side1 => repeat (first | exact (Kd.C_below HR0.out HB.out) | (with_reducible refine Kd.C_alloc ?_ _) | (with_reducible refine Kd.C_drewN ?_ _) | (with_reducible refine Kd.C_drew ?_))); (case side2 => exact HC0.out); rintro e w37 ⟨v450, rfl, ho0, hb⟩; refine ⟨_, rfl, ?_⟩; have n0_ := Aside0.mk (Kd.R_elder' (by (with_reducible repeat (first | apply Kd.R_alloc | apply Kd.R_drewN | apply Kd.R_drew)); exact HO_5.out) (Kd.R_base ho0) hb); have n1_ := Aside0.mk (Kd.R_elder' (by (with_reducible repeat (first | apply Kd.R_alloc | apply Kd.R_drewN | apply Kd.R_drew)); exact HO_439001.out) (Kd.R_base ho0) hb); have n2_ := Aside0.mk (Kd.R_elder' (by (with_reducible repeat (first | apply Kd.R_alloc | apply Kd.R_drewN | apply Kd.R_drew)); exact HO_448001.out) (Kd.R_base ho0) hb); have n3_ := Aside0.mk (Kd.R_lower (Kd.R_new' (Kd.R_new' (Kd.R_new' ho0 (Kd.R_lt (by (with_reducible repeat (first | apply Kd.R_alloc | apply Kd.R_drewN | apply Kd.R_drew)); exact HO_5.out))) (Kd.R_lt (by (with_reducible repeat (first | apply Kd.R_alloc | apply Kd.R_drewN | apply Kd.R_drew)); exact HO_439001.out))) (Kd.R_lt (by (with_reducible repeat (first | apply Kd.R_alloc | apply Kd.R_drewN | apply Kd.R_drew)); exact HO_448001.out))) (below_size (by repeat (first | (with_reducible first | exact HB.out | apply below_alloc | apply pw_below_drewN | apply below_drew1 | refine below_set ?_ GE438.out | refine below_set ?_ GE447.out) | exact HB.out)))); have n4_ := Aside0.mk (blk_below (g := gb438) (o := .cells #[.int .i64 t433, .slice Ao13 t434.length co13] 44 (0, 0)) (by (with_reducible repeat (first | refine blk_drewN ?_ _ | refine blk_drew ?_ | refine blk_alloc ?_ _)); exact BK438.out) hb); have n5_ := Aside0.mk (blk_below (g := gb447) (o := .cells #[.int .i64 t442, .slice Ao20 t443.length co20] 44 (0, 0)) (by (with_reducible repeat (first | refine blk_drewN ?_ _ | refine blk_drew ?_ | refine blk_alloc ?_ _)); exact BK447.out) hb); have n6_ := Aside0.mk (below_step (by repeat (first | (with_reducible first | exact HB.out | apply below_alloc | apply pw_below_drewN | apply below_drew1 | refine below_set ?_ GE438.out | refine below_set ?_ GE447.out) | exact HB.out)) hb); clear HO_5; clear HO_439001; clear HO_448001; clear BK438; clear BK447; clear HB; have HO_5 := n0_; have HO_439001 := n1_; have HO_448001 := n2_; have HO451 := n3_; have BK438 := n4_; have BK447 := n5_; have HB := n6_; clear n0_ n1_ n2_ n3_ n4_ n5_ n6_; (try clear hb); (try clear hb2); (try clear hk); (try clear hi); (try clear ho0); obtain ⟨Ao38, co38, eo38⟩ := Kd.R_slice HO451.out; subst eo38) | ((with_reducible refine gate_callee (f := 11) rfl ?_); refine goesL_ (some 41) rfl rfl Try.func11 (by kernel_rfl) rfl #[.slice Ao15 t439.length co15, .slice Ao38 t449.length co38] rfl (by (try simp only [List.map_toArray, List.map_cons, List.map_nil]); first | done | rfl) ?_; (with_reducible refine (laws_eqIntS.calls kj6 _ _ t439 _ _ t449 true _ ?side1 ?side2 ?side3 ?side4 A33.out).mono ?_); (case side1 => repeat (first | exact (Kd.R_reads' HO_5.out).2.2 | (with_reducible refine Kd.C_alloc ?_ _) | (with_reducible refine Kd.C_drewN ?_ _) | (with_reducible refine Kd.C_drew ?_))); (case side2 => exact (Kd.R_reads' HO_5.out).2.1); (case side3 => repeat (first | exact (Kd.R_reads' HO451.out).2.2 | (with_reducible refine Kd.C_alloc ?_ _) | (with_reducible refine Kd.C_drewN ?_ _) | (with_reducible refine Kd.C_drew ?_))); (case side4 => exact (Kd.R_reads' HO451.out).2.1); rintro e w' ⟨rfl, ⟨nd, rfl⟩⟩; refine ⟨_, rfl, ?_⟩) | ((with_reducible refine gate_callee (f := 12) rfl ?_); refine goesL_ (some 45) rfl rfl Try.func12 (by kernel_rfl) rfl #[.slice Ao15 t439.length co15, .int .i64 1] rfl (by (try simp only [List.map_toArray, List.map_cons, List.map_nil]); first | done | rfl) ?_; (with_reducible refine (laws_markIntS.calls kj6 (fun k_ => some k_ = (.slice Ao15 t439.length co15 : Value).ownBlock) (.slice Ao15 t439.length co15) t439 1 t453 t454 w _ ?side1 ?side2 A35.out).mono ?_); (case side1 => repeat (first | (with_reducible first | exact HB.out | apply below_alloc | apply pw_below_drewN | apply below_drew1 | refine below_set ?_ GE438.out | refine below_set ?_ GE447.out) | exact HB.out)); (case side2 => exact Kd.R_tight rfl HO_5.out); rintro e w39 ⟨rfl, hy0, hb, hkp⟩; refine ⟨_, rfl, ?_⟩; have n0_ := Aside0.mk (Kd.R_reok rfl hy0 (fun k_ e_ => HO_5.out.1 k_ e_)); have n1_ := Aside0.mk (Kd.R_mono (ok' := fun k_ => some k_ ≠ (.slice Ao15 t439.length co15 : Value).ownBlock ∧ some k_ ≠ (.slice Ao20 t443.length co20 : Value).ownBlock ∧ some k_ ≠ (.slice Ao38 t449.length co38 : Value).ownBlock) (Kd.R_keptB (HO_439001.out) hkp (fun k_ hk_ hs_ => (hk_.1.1) hs_)) (fun k_ hk_ => ⟨hk_.1.1.1, hk_.1.1.2, hk_.1.2⟩)); have n2_ := Aside0.mk (Kd.R_mono (ok' := fun k_ => some k_ ≠ (.slice Ao15 t439.length co15 : Value).ownBlock ∧ some k_ ≠ (.slice Ao13 t434.length co13 : Value).ownBlock ∧ some k_ ≠ (.slice Ao38 t449.length co38 : Value).ownBlock) (Kd.R_keptB (HO_448001.out) hkp (fun k_ hk_ hs_ => (hk_.1.1) hs_)) (fun k_ hk_ => ⟨hk_.1.1.1, hk_.1.1.2, hk_.1.2⟩)); have n3_ := Aside0.mk (blk_kept (by (with_reducible repeat (first | refine blk_drewN ?_ _ | refine blk_drew ?_ | refine blk_alloc ?_ _)); exact BK438.out) hkp (fun hs_ => (fun e_ => (Kd.R_ne HO_5.out BK438.out (by decide)) e_) hs_)); have n4_ := Aside0.mk (blk_kept (by (with_reducible repeat (first | refine blk_drewN ?_ _ | refine blk_drew ?_ | refine blk_alloc ?_ _)); exact BK447.out) hkp (fun hs_ => (fun e_ => (Kd.R_ne HO_5.out BK447.out (by decide)) e_) hs_)); have n5_ := Aside0.mk (Kd.R_mono (ok' := fun k_ => some k_ ≠ (.slice Ao15 t439.length co15 : Value).ownBlock ∧ some k_ ≠ (.slice Ao13 t434.length co13 : Value).ownBlock ∧ some k_ ≠ (.slice Ao20 t443.length co20 : Value).ownBlock) (Kd.R_keptB (HO451.out) hkp (fun k_ hk_ hs_ => (hk_.1.1.2) hs_)) (fun k_ hk_ => ⟨hk_.1.1.1.2, hk_.1.1.2, hk_.1.2⟩)); have n6_ := Aside0.mk (hb); clear HO_5; clear HO_439001; clear HO_448001; clear BK438; clear BK447; clear HO451; clear HB; have HO_5 := n0_; have HO_439001 := n1_; have HO_448001 := n2_; have BK438 := n3_; have BK447 := n4_; have HO451 := n5_; have HB := n6_; clear n0_ n1_ n2_ n3_ n4_ n5_ n6_; (try clear hb); (try clear hkp); (try clear hy0)))
      (try simp only [Act.put, List.setIfInBounds_toArray, List.set_cons_zero, List.set_cons_succ])
      go_cut [58] (fun v58 wc => ∃ (kq : Nat) (x58_35 : Bool), v58 = .bool x58_35 ∧ Aside0 (laws_FnExactBuildTournament.j1 kq l0 t437 x58_35 t433 t434 t442 t443 = some r) ∧ Aside0 (kq ≤ kj6) ∧ Aside0 (Kd.R (Kd.int .i64) 3 wc w.heap.size (fun k_ => some k_ ≠ ((.slice Ao20 t443.length co20) : Value).ownBlock) (.slice Ao13 t434.length co13) t434) ∧ Aside0 (Kd.R (Kd.int .i64) 3 wc w.heap.size (fun k_ => some k_ ≠ ((.slice Ao13 t434.length co13) : Value).ownBlock) (.slice Ao20 t443.length co20) t443) ∧ Aside0 (wc.heap[gb438]? = some (.cells #[.int .i64 t433, (.slice Ao13 t434.length co13)] 44 (0, 0))) ∧ Aside0 (wc.heap[gb447]? = some (.cells #[.int .i64 t442, (.slice Ao20 t443.length co20)] 44 (0, 0))) ∧ Aside0 (Below w.heap.size w wc))
      case first =>
       have H := HC36.out
       clear HC36
       by_cases c40 : t453 < 0
       ·
        rw [if_pos c40] at H
        have c40b0 : decide (t453 < 0) = true := decide_eq_true c40
        clear c40
        (first | rw [c40b0] | (simp only [i64_w, i32_w]; rw [c40b0]) | skip)
        have H' := Aside0.mk H
        clear H
        go_wp2
        go_meet
        case rel => exact ⟨_, (true), (by first | rfl | (simp; done) | (simp [*]; done)), H', ⟨by have := HJ6.out; first | omega | exact Nat.le_refl _⟩, ⟨by (with_reducible repeat (first | apply Kd.R_alloc | apply Kd.R_drewN | apply Kd.R_drew)); exact Kd.R_mono HO_439001.out (fun _ hk => hk.2.1)⟩, ⟨by (with_reducible repeat (first | apply Kd.R_alloc | apply Kd.R_drewN | apply Kd.R_drew)); exact Kd.R_mono HO_448001.out (fun _ hk => hk.2.1)⟩, ⟨by (with_reducible repeat (first | refine blk_drewN ?_ _ | refine blk_drew ?_ | refine blk_alloc ?_ _)); exact BK438.out⟩, ⟨by (with_reducible repeat (first | refine blk_drewN ?_ _ | refine blk_drew ?_ | refine blk_alloc ?_ _)); exact BK447.out⟩, ⟨by repeat (first | (with_reducible first | exact HB.out | apply below_alloc | apply pw_below_drewN | apply below_drew1 | refine below_set ?_ GE438.out | refine below_set ?_ GE447.out) | exact HB.out)⟩⟩
       ·
        rw [if_neg c40] at H
        have c40b0 : decide (t453 < 0) = false := decide_eq_false c40
        clear c40
        (first | rw [c40b0] | (simp only [i64_w, i32_w]; rw [c40b0]) | skip)
        replace H := Option.bind_eq_some_iff.mp H
        obtain ⟨t455, A410, H⟩ := H
        replace H : (if t455 = true then (laws_FnExactBuildTournament.j1 kj6 l0 t437 (t446 != t437) t433 t434 t442 t443) else (laws_FnExactBuildTournament.j1 kj6 l0 t437 true t433 t434 t442 t443)) = some r := H
        have A41 := Aside0.mk A410
        clear A410
        by_cases c42 : t455 = true
        ·
         subst c42
         have H1 : (laws_FnExactBuildTournament.j1 kj6 l0 t437 (t446 != t437) t433 t434 t442 t443) = some r := by rw [if_pos rfl] at H; exact H
         clear H
         have H := H1
         clear H1
         have H' := Aside0.mk H
         clear H
         have hnb43 := NB447_438.out
         have hnc43 := NB438_447.out
         have hcz44_0 : w39.cell? ⟨gb447, 0, none⟩ = some (.int .i64 t442) := (blk_cell BK447.out 0).trans rfl
         have hcz44_1 : w39.cell? ⟨gb447, 1, none⟩ = some (.slice Ao20 t443.length co20) := (blk_cell BK447.out 1).trans rfl
         have hfz44_0 := blk_frozen BK447.out 0
         have hfz44_1 := blk_frozen BK447.out 1
         have hcz45_0 : w39.cell? ⟨gb438, 0, none⟩ = some (.int .i64 t433) := (blk_cell BK438.out 0).trans rfl
         have hcz45_1 : w39.cell? ⟨gb438, 1, none⟩ = some (.slice Ao13 t434.length co13) := (blk_cell BK438.out 1).trans rfl
         have hfz45_0 := blk_frozen BK438.out 0
         have hfz45_1 := blk_frozen BK438.out 1
         go_wp2_with (first | (go_at_call 27; (with_reducible refine (laws_eqTournament.calls kj6 t442 _ _ t443 t433 _ _ t434 true _ ?side1 ?side2 ?side3 ?side4 A41.out).mono ?_); (case side1 => repeat (first | exact (Kd.R_reads' HO_448001.out).2.2 | (with_reducible refine Kd.C_alloc ?_ _) | (with_reducible refine Kd.C_drewN ?_ _) | (with_reducible refine Kd.C_drew ?_))); (case side2 => exact (Kd.R_reads' HO_448001.out).2.1); (case side3 => repeat (first | exact (Kd.R_reads' HO_439001.out).2.2 | (with_reducible refine Kd.C_alloc ?_ _) | (with_reducible refine Kd.C_drewN ?_ _) | (with_reducible refine Kd.C_drew ?_))); (case side4 => exact (Kd.R_reads' HO_439001.out).2.1); rintro e w46 ⟨rfl, hb⟩; have n0_ := Aside0.mk (Kd.R_below (by (with_reducible repeat (first | apply Kd.R_alloc | apply Kd.R_drewN | apply Kd.R_drew)); exact HO_5.out) hb); have n1_ := Aside0.mk (Kd.R_below (by (with_reducible repeat (first | apply Kd.R_alloc | apply Kd.R_drewN | apply Kd.R_drew)); exact HO_439001.out) hb); have n2_ := Aside0.mk (Kd.R_below (by (with_reducible repeat (first | apply Kd.R_alloc | apply Kd.R_drewN | apply Kd.R_drew)); exact HO_448001.out) hb); have n3_ := Aside0.mk (Kd.R_below (by (with_reducible repeat (first | apply Kd.R_alloc | apply Kd.R_drewN | apply Kd.R_drew)); exact HO451.out) hb); have n4_ := Aside0.mk (blk_below (g := gb438) (o := .cells #[.int .i64 t433, .slice Ao13 t434.length co13] 44 (0, 0)) (by (with_reducible repeat (first | refine blk_drewN ?_ _ | refine blk_drew ?_ | refine blk_alloc ?_ _)); exact BK438.out) hb); have n5_ := Aside0.mk (blk_below (g := gb447) (o := .cells #[.int .i64 t442, .slice Ao20 t443.length co20] 44 (0, 0)) (by (with_reducible repeat (first | refine blk_drewN ?_ _ | refine blk_drew ?_ | refine blk_alloc ?_ _)); exact BK447.out) hb); have n6_ := Aside0.mk (below_step (by repeat (first | (with_reducible first | exact HB.out | apply below_alloc | apply pw_below_drewN | apply below_drew1 | refine below_set ?_ GE438.out | refine below_set ?_ GE447.out) | exact HB.out)) hb); clear HO_5; clear HO_439001; clear HO_448001; clear HO451; clear BK438; clear BK447; clear HB; have HO_5 := n0_; have HO_439001 := n1_; have HO_448001 := n2_; have HO451 := n3_; have BK438 := n4_; have BK447 := n5_; have HB := n6_; clear n0_ n1_ n2_ n3_ n4_ n5_ n6_; (try clear hb); (try clear hb2); (try clear hk); (try clear hi)))
         go_meet
         case rel => exact ⟨_, ((t446 != t437)), (by first | rfl | (simp; done) | (simp [*]; done)), H', ⟨by have := HJ6.out; first | omega | exact Nat.le_refl _⟩, ⟨by (with_reducible repeat (first | apply Kd.R_alloc | apply Kd.R_drewN | apply Kd.R_drew)); exact Kd.R_mono HO_439001.out (fun _ hk => hk.2.1)⟩, ⟨by (with_reducible repeat (first | apply Kd.R_alloc | apply Kd.R_drewN | apply Kd.R_drew)); exact Kd.R_mono HO_448001.out (fun _ hk => hk.2.1)⟩, ⟨by (with_reducible repeat (first | refine blk_drewN ?_ _ | refine blk_drew ?_ | refine blk_alloc ?_ _)); exact BK438.out⟩, ⟨by (with_reducible repeat (first | refine blk_drewN ?_ _ | refine blk_drew ?_ | refine blk_alloc ?_ _)); exact BK447.out⟩, ⟨by repeat (first | (with_reducible first | exact HB.out | apply below_alloc | apply pw_below_drewN | apply below_drew1 | refine below_set ?_ GE438.out | refine below_set ?_ GE447.out) | exact HB.out)⟩⟩
        ·
         replace c42 := Bool.eq_false_iff.mpr c42
         subst c42
         have H1 : (laws_FnExactBuildTournament.j1 kj6 l0 t437 true t433 t434 t442 t443) = some r := by rw [if_neg (show ¬ (false = true) by decide)] at H; exact H
         clear H
         have H := H1
         clear H1
         have H' := Aside0.mk H
         clear H
         have hnb47 := NB447_438.out
         have hnc47 := NB438_447.out
         have hcz48_0 : w39.cell? ⟨gb447, 0, none⟩ = some (.int .i64 t442) := (blk_cell BK447.out 0).trans rfl
         have hcz48_1 : w39.cell? ⟨gb447, 1, none⟩ = some (.slice Ao20 t443.length co20) := (blk_cell BK447.out 1).trans rfl
         have hfz48_0 := blk_frozen BK447.out 0
         have hfz48_1 := blk_frozen BK447.out 1
         have hcz49_0 : w39.cell? ⟨gb438, 0, none⟩ = some (.int .i64 t433) := (blk_cell BK438.out 0).trans rfl
         have hcz49_1 : w39.cell? ⟨gb438, 1, none⟩ = some (.slice Ao13 t434.length co13) := (blk_cell BK438.out 1).trans rfl
         have hfz49_0 := blk_frozen BK438.out 0
         have hfz49_1 := blk_frozen BK438.out 1
         go_wp2_with (first | (go_at_call 27; (with_reducible refine (laws_eqTournament.calls kj6 t442 _ _ t443 t433 _ _ t434 false _ ?side1 ?side2 ?side3 ?side4 A41.out).mono ?_); (case side1 => repeat (first | exact (Kd.R_reads' HO_448001.out).2.2 | (with_reducible refine Kd.C_alloc ?_ _) | (with_reducible refine Kd.C_drewN ?_ _) | (with_reducible refine Kd.C_drew ?_))); (case side2 => exact (Kd.R_reads' HO_448001.out).2.1); (case side3 => repeat (first | exact (Kd.R_reads' HO_439001.out).2.2 | (with_reducible refine Kd.C_alloc ?_ _) | (with_reducible refine Kd.C_drewN ?_ _) | (with_reducible refine Kd.C_drew ?_))); (case side4 => exact (Kd.R_reads' HO_439001.out).2.1); rintro e w50 ⟨rfl, hb⟩; have n0_ := Aside0.mk (Kd.R_below (by (with_reducible repeat (first | apply Kd.R_alloc | apply Kd.R_drewN | apply Kd.R_drew)); exact HO_5.out) hb); have n1_ := Aside0.mk (Kd.R_below (by (with_reducible repeat (first | apply Kd.R_alloc | apply Kd.R_drewN | apply Kd.R_drew)); exact HO_439001.out) hb); have n2_ := Aside0.mk (Kd.R_below (by (with_reducible repeat (first | apply Kd.R_alloc | apply Kd.R_drewN | apply Kd.R_drew)); exact HO_448001.out) hb); have n3_ := Aside0.mk (Kd.R_below (by (with_reducible repeat (first | apply Kd.R_alloc | apply Kd.R_drewN | apply Kd.R_drew)); exact HO451.out) hb); have n4_ := Aside0.mk (blk_below (g := gb438) (o := .cells #[.int .i64 t433, .slice Ao13 t434.length co13] 44 (0, 0)) (by (with_reducible repeat (first | refine blk_drewN ?_ _ | refine blk_drew ?_ | refine blk_alloc ?_ _)); exact BK438.out) hb); have n5_ := Aside0.mk (blk_below (g := gb447) (o := .cells #[.int .i64 t442, .slice Ao20 t443.length co20] 44 (0, 0)) (by (with_reducible repeat (first | refine blk_drewN ?_ _ | refine blk_drew ?_ | refine blk_alloc ?_ _)); exact BK447.out) hb); have n6_ := Aside0.mk (below_step (by repeat (first | (with_reducible first | exact HB.out | apply below_alloc | apply pw_below_drewN | apply below_drew1 | refine below_set ?_ GE438.out | refine below_set ?_ GE447.out) | exact HB.out)) hb); clear HO_5; clear HO_439001; clear HO_448001; clear HO451; clear BK438; clear BK447; clear HB; have HO_5 := n0_; have HO_439001 := n1_; have HO_448001 := n2_; have HO451 := n3_; have BK438 := n4_; have BK447 := n5_; have HB := n6_; clear n0_ n1_ n2_ n3_ n4_ n5_ n6_; (try clear hb); (try clear hb2); (try clear hk); (try clear hi)))
         go_meet
         case rel => exact ⟨_, (true), (by first | rfl | (simp; done) | (simp [*]; done)), H', ⟨by have := HJ6.out; first | omega | exact Nat.le_refl _⟩, ⟨by (with_reducible repeat (first | apply Kd.R_alloc | apply Kd.R_drewN | apply Kd.R_drew)); exact Kd.R_mono HO_439001.out (fun _ hk => hk.2.1)⟩, ⟨by (with_reducible repeat (first | apply Kd.R_alloc | apply Kd.R_drewN | apply Kd.R_drew)); exact Kd.R_mono HO_448001.out (fun _ hk => hk.2.1)⟩, ⟨by (with_reducible repeat (first | refine blk_drewN ?_ _ | refine blk_drew ?_ | refine blk_alloc ?_ _)); exact BK438.out⟩, ⟨by (with_reducible repeat (first | refine blk_drewN ?_ _ | refine blk_drew ?_ | refine blk_alloc ?_ _)); exact BK447.out⟩, ⟨by repeat (first | (with_reducible first | exact HB.out | apply below_alloc | apply pw_below_drewN | apply below_drew1 | refine below_set ?_ GE438.out | refine below_set ?_ GE447.out) | exact HB.out)⟩⟩
      case rest =>
       clear HC36
       try clear c1
       try clear c2
       try clear c2b0
       try clear c2b1
       try clear p2
       try clear c3
       try clear c4
       try clear c6
       try clear c8
       try clear c11
       try clear c12
       try clear c18
       try clear c22
       try clear c23
       try clear c25
       try clear c26
       try clear c27
       try clear c31
       try clear c34
       try clear c40
       try clear c40b0
       try clear c42
       try clear c43
       try clear c47
       try clear hcz12_0
       try clear hcz12_1
       try clear hcz19_0
       try clear hcz19_1
       try clear hcz24_0
       try clear hcz24_1
       try clear hcz25_0
       try clear hcz25_1
       try clear hcz28_0
       try clear hcz28_1
       try clear hcz29_0
       try clear hcz29_1
       try clear hcz44_0
       try clear hcz44_1
       try clear hcz45_0
       try clear hcz45_1
       try clear hcz48_0
       try clear hcz48_1
       try clear hcz49_0
       try clear hcz49_1
       try clear hfz12_0
       try clear hfz12_1
       try clear hfz19_0
       try clear hfz19_1
       try clear hfz24_0
       try clear hfz24_1
       try clear hfz25_0
       try clear hfz25_1
       try clear hfz28_0
       try clear hfz28_1
       try clear hfz29_0
       try clear hfz29_1
       try clear hfz44_0
       try clear hfz44_1
       try clear hfz45_0
       try clear hfz45_1
       try clear hfz48_0
       try clear hfz48_1
       try clear hfz49_0
       try clear hfz49_1
       try clear p2
       obtain ⟨kq, x58_35, rfl, HA, HJ35, HO_439001, HO_448001, BK438, BK447, HB⟩ := hcut
       cases kq with
       | zero => exact absurd HA.out (by simp [laws_FnExactBuildTournament.j1])
       | succ kj35 =>
        have H := HA.out
        clear HA
        simp only [laws_FnExactBuildTournament.j1] at H
        by_cases c51 : x58_35 = true
        ·
         subst c51
         have H1 : (some false) = some r := by rw [if_pos rfl] at H; exact H
         clear H
         have H := H1
         clear H1
         obtain rfl := Option.some.inj H
         go_wp2
         go_ret
         exact ⟨by first | rfl | (simp [errW_none, errW_some] <;> rfl) | (simp [*, errW_none, errW_some] <;> rfl), by repeat (first | (with_reducible first | exact HB.out | apply below_alloc | apply pw_below_drewN | apply below_drew1 | refine below_set ?_ GE438.out | refine below_set ?_ GE447.out) | exact HB.out)⟩
        ·
         replace c51 := Bool.eq_false_iff.mpr c51
         subst c51
         have H1 : ((laws_markTournament.f kj35 t442 t443 1).bind fun bt456 => ((laws_heldTournament.f kj35 t442 bt456.2 1).bind fun t458 => (if t458 < 0 then (some false) else (if t458 = bt456.1 then ((laws_toIntS.f kj35 l0).bind fun t459 => ((impl_BuildTournament.f kj35 t459).bind fun bt462 => ((laws_eqTournament.f kj35 bt462.1 bt462.2.1 t433 t434).bind fun t468 => (if t468 = true then (laws_FnExactBuildTournament.j2 kj35 bt456.1 (bt462.2.2 != t437) t442 bt456.2) else (laws_FnExactBuildTournament.j2 kj35 bt456.1 true t442 bt456.2))))) else (some false))))) = some r := by rw [if_neg (show ¬ (false = true) by decide)] at H; exact H
         clear H
         have H := H1
         clear H1
         replace H := Option.bind_eq_some_iff.mp H
         obtain ⟨⟨t456, t457⟩, A520, H⟩ := H
         replace H : ((laws_heldTournament.f kj35 t442 t457 1).bind fun t458 => (if t458 < 0 then (some false) else (if t458 = t456 then ((laws_toIntS.f kj35 l0).bind fun t459 => ((impl_BuildTournament.f kj35 t459).bind fun bt462 => ((laws_eqTournament.f kj35 bt462.1 bt462.2.1 t433 t434).bind fun t468 => (if t468 = true then (laws_FnExactBuildTournament.j2 kj35 t456 (bt462.2.2 != t437) t442 t457) else (laws_FnExactBuildTournament.j2 kj35 t456 true t442 t457))))) else (some false)))) = some r := H
         have A52 := Aside0.mk A520
         clear A520
         replace H := Option.bind_eq_some_iff.mp H
         obtain ⟨t458, A530, H⟩ := H
         replace H : (if t458 < 0 then (some false) else (if t458 = t456 then ((laws_toIntS.f kj35 l0).bind fun t459 => ((impl_BuildTournament.f kj35 t459).bind fun bt462 => ((laws_eqTournament.f kj35 bt462.1 bt462.2.1 t433 t434).bind fun t468 => (if t468 = true then (laws_FnExactBuildTournament.j2 kj35 t456 (bt462.2.2 != t437) t442 t457) else (laws_FnExactBuildTournament.j2 kj35 t456 true t442 t457))))) else (some false))) = some r := H
         have A53 := Aside0.mk A530
         clear A530
         by_cases c54 : t458 < 0
         ·
          rw [if_pos c54] at H
          have c54b0 : decide (t458 < 0) = true := decide_eq_true c54
          clear c54
          obtain rfl := Option.some.inj H
          have hnb55 := NB447_438.out
          have hnc55 := NB438_447.out
          have hcz56_0 : wc.cell? ⟨gb447, 0, none⟩ = some (.int .i64 t442) := (blk_cell BK447.out 0).trans rfl
          have hcz56_1 : wc.cell? ⟨gb447, 1, none⟩ = some (.slice Ao20 t443.length co20) := (blk_cell BK447.out 1).trans rfl
          have hfz56_0 := blk_frozen BK447.out 0
          have hfz56_1 := blk_frozen BK447.out 1
          go_wp2_with (first | ((with_reducible refine gate_callee (f := 28) rfl ?_); refine goesL_ (some 61) rfl rfl Try.func28 (by kernel_rfl) rfl #[.agg #[.int .i64 t442, .slice Ao20 t443.length co20], .int .i64 1] rfl (by (try simp only [List.map_toArray, List.map_cons, List.map_nil]); first | done | rfl) ?_; (with_reducible refine (laws_markTournament.calls kj35 t442 (fun k_ => some k_ = (.slice Ao20 t443.length co20 : Value).ownBlock) (.slice Ao20 t443.length co20) t443 1 t456 t457 w _ ?side1 ?side2 A52.out).mono ?_); (case side1 => repeat (first | (with_reducible first | exact HB.out | apply below_alloc | apply pw_below_drewN | apply below_drew1 | refine below_set ?_ GE438.out | refine below_set ?_ GE447.out) | exact HB.out)); (case side2 => exact Kd.R_tight rfl HO_448001.out); rintro e w57 ⟨rfl, hy0, hb, hkp⟩; refine ⟨_, rfl, ?_⟩; have n0_ := Aside0.mk (Kd.R_mono (ok' := fun k_ => some k_ ≠ (.slice Ao20 t443.length co20 : Value).ownBlock) (Kd.R_keptB (HO_439001.out) hkp (fun k_ hk_ hs_ => (hk_) hs_)) (fun k_ hk_ => hk_.1)); have n1_ := Aside0.mk (Kd.R_reok rfl hy0 (fun k_ e_ => HO_448001.out.1 k_ e_)); have n2_ := Aside0.mk (blk_kept (by (with_reducible repeat (first | refine blk_drewN ?_ _ | refine blk_drew ?_ | refine blk_alloc ?_ _)); exact BK438.out) hkp (fun hs_ => (fun e_ => (Kd.R_ne HO_448001.out BK438.out (by decide)) e_) hs_)); have n3_ := Aside0.mk (blk_kept (by (with_reducible repeat (first | refine blk_drewN ?_ _ | refine blk_drew ?_ | refine blk_alloc ?_ _)); exact BK447.out) hkp (fun hs_ => (fun e_ => (Kd.R_ne HO_448001.out BK447.out (by decide)) e_) hs_)); have n4_ := Aside0.mk (hb); clear HO_439001; clear HO_448001; clear BK438; clear BK447; clear HB; have HO_439001 := n0_; have HO_448001 := n1_; have BK438 := n2_; have BK447 := n3_; have HB := n4_; clear n0_ n1_ n2_ n3_ n4_; (try clear hb); (try clear hkp); (try clear hy0); have hcz58_0 : w57.cell? ⟨gb447, 0, none⟩ = some (.int .i64 t442) := (blk_cell BK447.out 0).trans rfl; have hcz58_1 : w57.cell? ⟨gb447, 1, none⟩ = some (.slice Ao20 t443.length co20) := (blk_cell BK447.out 1).trans rfl; have hfz58_0 := blk_frozen BK447.out 0; have hfz58_1 := blk_frozen BK447.out 1) | ((with_reducible refine gate_callee (f := 29) rfl ?_); refine goesL_ (some 64) rfl rfl Try.func29 (by kernel_rfl) rfl #[.agg #[.int .i64 t442, .slice Ao20 t457.length co20], .int .i64 1] rfl (by (try simp only [List.map_toArray, List.map_cons, List.map_nil]); first | done | (rw [show t457.length = t443.length from (Kd.R_reads' HO_448001.out).1.symm] <;> rfl) | rfl | (simp only [List.length_drop, List.length_take]; rfl)) ?_; (with_reducible refine (laws_heldTournament.calls kj35 t442 _ _ t457 1 t458 _ ?side1 ?side2 A53.out).mono ?_); (case side1 => repeat (first | exact (Kd.R_reads' HO_448001.out).2.2 | (with_reducible refine Kd.C_alloc ?_ _) | (with_reducible refine Kd.C_drewN ?_ _) | (with_reducible refine Kd.C_drew ?_))); (case side2 => rw [show t457.length = t443.length from (Kd.R_reads' HO_448001.out).1.symm]; exact (Kd.R_reads' HO_448001.out).2.1); rintro e w59 ⟨rfl, hb⟩; refine ⟨_, rfl, ?_⟩; have n0_ := Aside0.mk (Kd.R_below (by (with_reducible repeat (first | apply Kd.R_alloc | apply Kd.R_drewN | apply Kd.R_drew)); exact HO_439001.out) hb); have n1_ := Aside0.mk (Kd.R_below (by (with_reducible repeat (first | apply Kd.R_alloc | apply Kd.R_drewN | apply Kd.R_drew)); exact HO_448001.out) hb); have n2_ := Aside0.mk (blk_below (g := gb438) (o := .cells #[.int .i64 t433, .slice Ao13 t434.length co13] 44 (0, 0)) (by (with_reducible repeat (first | refine blk_drewN ?_ _ | refine blk_drew ?_ | refine blk_alloc ?_ _)); exact BK438.out) hb); have n3_ := Aside0.mk (blk_below (g := gb447) (o := .cells #[.int .i64 t442, .slice Ao20 t443.length co20] 44 (0, 0)) (by (with_reducible repeat (first | refine blk_drewN ?_ _ | refine blk_drew ?_ | refine blk_alloc ?_ _)); exact BK447.out) hb); have n4_ := Aside0.mk (below_step (by repeat (first | (with_reducible first | exact HB.out | apply below_alloc | apply pw_below_drewN | apply below_drew1 | refine below_set ?_ GE438.out | refine below_set ?_ GE447.out) | exact HB.out)) hb); clear HO_439001; clear HO_448001; clear BK438; clear BK447; clear HB; have HO_439001 := n0_; have HO_448001 := n1_; have BK438 := n2_; have BK447 := n3_; have HB := n4_; clear n0_ n1_ n2_ n3_ n4_; (try clear hb); (try clear hb2); (try clear hk); (try clear hi)))
          go_ret
          exact ⟨by first | rfl | (simp [errW_none, errW_some] <;> rfl) | (simp [*, errW_none, errW_some] <;> rfl), by repeat (first | (with_reducible first | exact HB.out | apply below_alloc | apply pw_below_drewN | apply below_drew1 | refine below_set ?_ GE438.out | refine below_set ?_ GE447.out) | exact HB.out)⟩
         ·
          rw [if_neg c54] at H
          have c54b0 : decide (t458 < 0) = false := decide_eq_false c54
          clear c54
          by_cases c60 : t458 = t456
          ·
           rw [if_pos c60] at H
           have c60b0 : (t458 == t456) = true := beq_iff_eq.mpr c60
           have c60b1 : (t458 != t456) = false := bne_eq_false_iff_eq.mpr c60
           clear c60
           replace H := Option.bind_eq_some_iff.mp H
           obtain ⟨t459, A610, H⟩ := H
           replace H : ((impl_BuildTournament.f kj35 t459).bind fun bt462 => ((laws_eqTournament.f kj35 bt462.1 bt462.2.1 t433 t434).bind fun t468 => (if t468 = true then (laws_FnExactBuildTournament.j2 kj35 t456 (bt462.2.2 != t437) t442 t457) else (laws_FnExactBuildTournament.j2 kj35 t456 true t442 t457)))) = some r := H
           have A61 := Aside0.mk A610
           clear A610
           replace H := Option.bind_eq_some_iff.mp H
           obtain ⟨⟨t462, t463, t466⟩, A620, H⟩ := H
           replace H : ((laws_eqTournament.f kj35 t462 t463 t433 t434).bind fun t468 => (if t468 = true then (laws_FnExactBuildTournament.j2 kj35 t456 (t466 != t437) t442 t457) else (laws_FnExactBuildTournament.j2 kj35 t456 true t442 t457))) = some r := H
           have A62 := Aside0.mk A620
           clear A620
           have HC63 := Aside0.mk H
           clear H
           have hnb64 := NB447_438.out
           have hnc64 := NB438_447.out
           have hcz65_0 : wc.cell? ⟨gb447, 0, none⟩ = some (.int .i64 t442) := (blk_cell BK447.out 0).trans rfl
           have hcz65_1 : wc.cell? ⟨gb447, 1, none⟩ = some (.slice Ao20 t443.length co20) := (blk_cell BK447.out 1).trans rfl
           have hfz65_0 := blk_frozen BK447.out 0
           have hfz65_1 := blk_frozen BK447.out 1
           go_upto_region 23 with (first | ((with_reducible refine gate_callee (f := 28) rfl ?_); refine goesL_ (some 61) rfl rfl Try.func28 (by kernel_rfl) rfl #[.agg #[.int .i64 t442, .slice Ao20 t443.length co20], .int .i64 1] rfl (by (try simp only [List.map_toArray, List.map_cons, List.map_nil]); first | done | rfl) ?_; (with_reducible refine (laws_markTournament.calls kj35 t442 (fun k_ => some k_ = (.slice Ao20 t443.length co20 : Value).ownBlock) (.slice Ao20 t443.length co20) t443 1 t456 t457 w _ ?side1 ?side2 A52.out).mono ?_); (case side1 => repeat (first | (with_reducible first | exact HB.out | apply below_alloc | apply pw_below_drewN | apply below_drew1 | refine below_set ?_ GE438.out | refine below_set ?_ GE447.out) | exact HB.out)); (case side2 => exact Kd.R_tight rfl HO_448001.out); rintro e w66 ⟨rfl, hy0, hb, hkp⟩; refine ⟨_, rfl, ?_⟩; have n0_ := Aside0.mk (Kd.R_mono (ok' := fun k_ => some k_ ≠ (.slice Ao20 t443.length co20 : Value).ownBlock) (Kd.R_keptB (HO_439001.out) hkp (fun k_ hk_ hs_ => (hk_) hs_)) (fun k_ hk_ => hk_.1)); have n1_ := Aside0.mk (Kd.R_reok rfl hy0 (fun k_ e_ => HO_448001.out.1 k_ e_)); have n2_ := Aside0.mk (blk_kept (by (with_reducible repeat (first | refine blk_drewN ?_ _ | refine blk_drew ?_ | refine blk_alloc ?_ _)); exact BK438.out) hkp (fun hs_ => (fun e_ => (Kd.R_ne HO_448001.out BK438.out (by decide)) e_) hs_)); have n3_ := Aside0.mk (blk_kept (by (with_reducible repeat (first | refine blk_drewN ?_ _ | refine blk_drew ?_ | refine blk_alloc ?_ _)); exact BK447.out) hkp (fun hs_ => (fun e_ => (Kd.R_ne HO_448001.out BK447.out (by decide)) e_) hs_)); have n4_ := Aside0.mk (hb); clear HO_439001; clear HO_448001; clear BK438; clear BK447; clear HB; have HO_439001 := n0_; have HO_448001 := n1_; have BK438 := n2_; have BK447 := n3_; have HB := n4_; clear n0_ n1_ n2_ n3_ n4_; (try clear hb); (try clear hkp); (try clear hy0); have hcz67_0 : w66.cell? ⟨gb447, 0, none⟩ = some (.int .i64 t442) := (blk_cell BK447.out 0).trans rfl; have hcz67_1 : w66.cell? ⟨gb447, 1, none⟩ = some (.slice Ao20 t443.length co20) := (blk_cell BK447.out 1).trans rfl; have hfz67_0 := blk_frozen BK447.out 0; have hfz67_1 := blk_frozen BK447.out 1) | ((with_reducible refine gate_callee (f := 29) rfl ?_); refine goesL_ (some 64) rfl rfl Try.func29 (by kernel_rfl) rfl #[.agg #[.int .i64 t442, .slice Ao20 t457.length co20], .int .i64 1] rfl (by (try simp only [List.map_toArray, List.map_cons, List.map_nil]); first | done | (rw [show t457.length = t443.length from (Kd.R_reads' HO_448001.out).1.symm] <;> rfl) | rfl | (simp only [List.length_drop, List.length_take]; rfl)) ?_; (with_reducible refine (laws_heldTournament.calls kj35 t442 _ _ t457 1 t458 _ ?side1 ?side2 A53.out).mono ?_); (case side1 => repeat (first | exact (Kd.R_reads' HO_448001.out).2.2 | (with_reducible refine Kd.C_alloc ?_ _) | (with_reducible refine Kd.C_drewN ?_ _) | (with_reducible refine Kd.C_drew ?_))); (case side2 => rw [show t457.length = t443.length from (Kd.R_reads' HO_448001.out).1.symm]; exact (Kd.R_reads' HO_448001.out).2.1); rintro e w68 ⟨rfl, hb⟩; refine ⟨_, rfl, ?_⟩; have n0_ := Aside0.mk (Kd.R_below (by (with_reducible repeat (first | apply Kd.R_alloc | apply Kd.R_drewN | apply Kd.R_drew)); exact HO_439001.out) hb); have n1_ := Aside0.mk (Kd.R_below (by (with_reducible repeat (first | apply Kd.R_alloc | apply Kd.R_drewN | apply Kd.R_drew)); exact HO_448001.out) hb); have n2_ := Aside0.mk (blk_below (g := gb438) (o := .cells #[.int .i64 t433, .slice Ao13 t434.length co13] 44 (0, 0)) (by (with_reducible repeat (first | refine blk_drewN ?_ _ | refine blk_drew ?_ | refine blk_alloc ?_ _)); exact BK438.out) hb); have n3_ := Aside0.mk (blk_below (g := gb447) (o := .cells #[.int .i64 t442, .slice Ao20 t443.length co20] 44 (0, 0)) (by (with_reducible repeat (first | refine blk_drewN ?_ _ | refine blk_drew ?_ | refine blk_alloc ?_ _)); exact BK447.out) hb); have n4_ := Aside0.mk (below_step (by repeat (first | (with_reducible first | exact HB.out | apply below_alloc | apply pw_below_drewN | apply below_drew1 | refine below_set ?_ GE438.out | refine below_set ?_ GE447.out) | exact HB.out)) hb); clear HO_439001; clear HO_448001; clear BK438; clear BK447; clear HB; have HO_439001 := n0_; have HO_448001 := n1_; have BK438 := n2_; have BK447 := n3_; have HB := n4_; clear n0_ n1_ n2_ n3_ n4_; (try clear hb); (try clear hb2); (try clear hk); (try clear hi)) | ((with_reducible refine gate_callee (f := 8) rfl ?_); refine goesL_ (some 72) rfl rfl Try.func8 (by kernel_rfl) rfl #[.slice A0 l0.length c0] rfl (by (try simp only [List.map_toArray, List.map_cons, List.map_nil]); first | done | rfl) ?_; (with_reducible refine (laws_toIntS.calls kj35 _ _ l0 t459 _ ?side1 ?side2 A61.out).mono ?_); (case side1 => repeat (first | exact (Kd.C_below HR0.out HB.out) | (with_reducible refine Kd.C_alloc ?_ _) | (with_reducible refine Kd.C_drewN ?_ _) | (with_reducible refine Kd.C_drew ?_))); (case side2 => exact HC0.out); rintro e w69 ⟨v460, rfl, ho0, hb⟩; refine ⟨_, rfl, ?_⟩; have n0_ := Aside0.mk (Kd.R_elder' (by (with_reducible repeat (first | apply Kd.R_alloc | apply Kd.R_drewN | apply Kd.R_drew)); exact HO_439001.out) (Kd.R_base ho0) hb); have n1_ := Aside0.mk (Kd.R_elder' (by (with_reducible repeat (first | apply Kd.R_alloc | apply Kd.R_drewN | apply Kd.R_drew)); exact HO_448001.out) (Kd.R_base ho0) hb); have n2_ := Aside0.mk (Kd.R_lower (Kd.R_new' (Kd.R_new' ho0 (Kd.R_lt (by (with_reducible repeat (first | apply Kd.R_alloc | apply Kd.R_drewN | apply Kd.R_drew)); exact HO_439001.out))) (Kd.R_lt (by (with_reducible repeat (first | apply Kd.R_alloc | apply Kd.R_drewN | apply Kd.R_drew)); exact HO_448001.out))) (below_size (by repeat (first | (with_reducible first | exact HB.out | apply below_alloc | apply pw_below_drewN | apply below_drew1 | refine below_set ?_ GE438.out | refine below_set ?_ GE447.out) | exact HB.out)))); have n3_ := Aside0.mk (blk_below (g := gb438) (o := .cells #[.int .i64 t433, .slice Ao13 t434.length co13] 44 (0, 0)) (by (with_reducible repeat (first | refine blk_drewN ?_ _ | refine blk_drew ?_ | refine blk_alloc ?_ _)); exact BK438.out) hb); have n4_ := Aside0.mk (blk_below (g := gb447) (o := .cells #[.int .i64 t442, .slice Ao20 t443.length co20] 44 (0, 0)) (by (with_reducible repeat (first | refine blk_drewN ?_ _ | refine blk_drew ?_ | refine blk_alloc ?_ _)); exact BK447.out) hb); have n5_ := Aside0.mk (below_step (by repeat (first | (with_reducible first | exact HB.out | apply below_alloc | apply pw_below_drewN | apply below_drew1 | refine below_set ?_ GE438.out | refine below_set ?_ GE447.out) | exact HB.out)) hb); clear HO_439001; clear HO_448001; clear BK438; clear BK447; clear HB; have HO_439001 := n0_; have HO_448001 := n1_; have HO461 := n2_; have BK438 := n3_; have BK447 := n4_; have HB := n5_; clear n0_ n1_ n2_ n3_ n4_ n5_; (try clear hb); (try clear hb2); (try clear hk); (try clear hi); (try clear ho0); obtain ⟨Ao70, co70, eo70⟩ := Kd.R_slice HO461.out; subst eo70) | ((with_reducible refine gate_callee (f := 26) rfl ?_); refine goesL_ (some 73) rfl rfl Try.func26 (by kernel_rfl) rfl #[.slice Ao70 t459.length co70] rfl (by (try simp only [List.map_toArray, List.map_cons, List.map_nil]); first | done | rfl) ?_; (with_reducible refine (impl_BuildTournament.calls kj35 _ _ t459 t462 t463 t466 _ ?side1 ?side2 A62.out).mono ?_); (case side1 => repeat (first | exact (Kd.R_reads' HO461.out).2.2 | (with_reducible refine Kd.C_alloc ?_ _) | (with_reducible refine Kd.C_drewN ?_ _) | (with_reducible refine Kd.C_drew ?_))); (case side2 => exact (Kd.R_reads' HO461.out).2.1); rintro e w71 ⟨v464, rfl, ho0, hb⟩; refine ⟨_, rfl, ?_⟩; have n0_ := Aside0.mk (Kd.R_elder' (by (with_reducible repeat (first | apply Kd.R_alloc | apply Kd.R_drewN | apply Kd.R_drew)); exact HO_439001.out) (Kd.R_base ho0) hb); have n1_ := Aside0.mk (Kd.R_elder' (by (with_reducible repeat (first | apply Kd.R_alloc | apply Kd.R_drewN | apply Kd.R_drew)); exact HO_448001.out) (Kd.R_base ho0) hb); have n2_ := Aside0.mk (Kd.R_elder' (by (with_reducible repeat (first | apply Kd.R_alloc | apply Kd.R_drewN | apply Kd.R_drew)); exact HO461.out) (Kd.R_base ho0) hb); have n3_ := Aside0.mk (Kd.R_lower (Kd.R_new' (Kd.R_new' (Kd.R_new' ho0 (Kd.R_lt (by (with_reducible repeat (first | apply Kd.R_alloc | apply Kd.R_drewN | apply Kd.R_drew)); exact HO_439001.out))) (Kd.R_lt (by (with_reducible repeat (first | apply Kd.R_alloc | apply Kd.R_drewN | apply Kd.R_drew)); exact HO_448001.out))) (Kd.R_lt (by (with_reducible repeat (first | apply Kd.R_alloc | apply Kd.R_drewN | apply Kd.R_drew)); exact HO461.out))) (below_size (by repeat (first | (with_reducible first | exact HB.out | apply below_alloc | apply pw_below_drewN | apply below_drew1 | refine below_set ?_ GE438.out | refine below_set ?_ GE447.out) | exact HB.out)))); have n4_ := Aside0.mk (blk_below (g := gb438) (o := .cells #[.int .i64 t433, .slice Ao13 t434.length co13] 44 (0, 0)) (by (with_reducible repeat (first | refine blk_drewN ?_ _ | refine blk_drew ?_ | refine blk_alloc ?_ _)); exact BK438.out) hb); have n5_ := Aside0.mk (blk_below (g := gb447) (o := .cells #[.int .i64 t442, .slice Ao20 t443.length co20] 44 (0, 0)) (by (with_reducible repeat (first | refine blk_drewN ?_ _ | refine blk_drew ?_ | refine blk_alloc ?_ _)); exact BK447.out) hb); have n6_ := Aside0.mk (below_step (by repeat (first | (with_reducible first | exact HB.out | apply below_alloc | apply pw_below_drewN | apply below_drew1 | refine below_set ?_ GE438.out | refine below_set ?_ GE447.out) | exact HB.out)) hb); clear HO_439001; clear HO_448001; clear HO461; clear BK438; clear BK447; clear HB; have HO_439001 := n0_; have HO_448001 := n1_; have HO461 := n2_; have HO465 := n3_; have BK438 := n4_; have BK447 := n5_; have HB := n6_; clear n0_ n1_ n2_ n3_ n4_ n5_ n6_; (try clear hb); (try clear hb2); (try clear hk); (try clear hi); (try clear ho0)) | ((with_reducible refine gate_dst (N := 11) rfl ?_); refine box_event ?hg (N := 11) ?hd (cs := #[.int .i64 0, .slice none 0 0]) (t := 44) ?hr ?_; (case hd => rfl); (case hg => rfl); (case hr => first | (go_simp; done) | (go_simp; rfl)); intro gb467 hg w72 hbox hb; have n0_ := Aside0.mk (Kd.R_below (by (with_reducible repeat (first | apply Kd.R_alloc | apply Kd.R_drewN | apply Kd.R_drew)); exact HO_439001.out) hb); have n1_ := Aside0.mk (Kd.R_below (by (with_reducible repeat (first | apply Kd.R_alloc | apply Kd.R_drewN | apply Kd.R_drew)); exact HO_448001.out) hb); have n2_ := Aside0.mk (Kd.R_below (by (with_reducible repeat (first | apply Kd.R_alloc | apply Kd.R_drewN | apply Kd.R_drew)); exact HO461.out) hb); have n3_ := Aside0.mk (Kd.R_below (by (with_reducible repeat (first | apply Kd.R_alloc | apply Kd.R_drewN | apply Kd.R_drew)); exact HO465.out) hb); have n4_ := Aside0.mk (blk_below (g := gb438) (o := .cells #[.int .i64 t433, .slice Ao13 t434.length co13] 44 (0, 0)) (by (with_reducible repeat (first | refine blk_drewN ?_ _ | refine blk_drew ?_ | refine blk_alloc ?_ _)); exact BK438.out) hb); have n5_ := Aside0.mk (blk_below (g := gb447) (o := .cells #[.int .i64 t442, .slice Ao20 t443.length co20] 44 (0, 0)) (by (with_reducible repeat (first | refine blk_drewN ?_ _ | refine blk_drew ?_ | refine blk_alloc ?_ _)); exact BK447.out) hb); have n6_ := Aside0.mk (below_step (by repeat (first | (with_reducible first | exact HB.out | apply below_alloc | apply pw_below_drewN | apply below_drew1 | refine below_set ?_ GE438.out | refine below_set ?_ GE447.out) | exact HB.out)) hb); have n7_ := Aside0.mk (hbox); have n8_ := Aside0.mk ((by rw [hg]; exact (below_size (by repeat (first | (with_reducible first | exact HB.out | apply below_alloc | apply pw_below_drewN | apply below_drew1 | refine below_set ?_ GE438.out | refine below_set ?_ GE447.out) | exact HB.out))) : w.heap.size ≤ gb467)); have n9_ := Aside0.mk ((by rw [hg]; exact (below_size (by repeat (first | (with_reducible first | exact HB.out | apply below_alloc | apply pw_below_drewN | apply below_drew1 | refine below_set ?_ GE438.out | refine below_set ?_ GE447.out) | exact HB.out))) : w.heap.size ≤ gb467)); have n10_ := Aside0.mk ((by rw [hg]; exact Nat.ne_of_lt (blk_lt (g := gb438) (o := .cells #[.int .i64 t433, .slice Ao13 t434.length co13] 44 (0, 0)) (by (with_reducible repeat (first | refine blk_drewN ?_ _ | refine blk_drew ?_ | refine blk_alloc ?_ _)); exact BK438.out)) : gb438 ≠ gb467)); have n11_ := Aside0.mk ((by rw [hg]; exact Nat.ne_of_gt (blk_lt (g := gb438) (o := .cells #[.int .i64 t433, .slice Ao13 t434.length co13] 44 (0, 0)) (by (with_reducible repeat (first | refine blk_drewN ?_ _ | refine blk_drew ?_ | refine blk_alloc ?_ _)); exact BK438.out)) : gb467 ≠ gb438)); have n12_ := Aside0.mk ((by rw [hg]; exact Nat.ne_of_lt (blk_lt (g := gb447) (o := .cells #[.int .i64 t442, .slice Ao20 t443.length co20] 44 (0, 0)) (by (with_reducible repeat (first | refine blk_drewN ?_ _ | refine blk_drew ?_ | refine blk_alloc ?_ _)); exact BK447.out)) : gb447 ≠ gb467)); have n13_ := Aside0.mk ((by rw [hg]; exact Nat.ne_of_gt (blk_lt (g := gb447) (o := .cells #[.int .i64 t442, .slice Ao20 t443.length co20] 44 (0, 0)) (by (with_reducible repeat (first | refine blk_drewN ?_ _ | refine blk_drew ?_ | refine blk_alloc ?_ _)); exact BK447.out)) : gb467 ≠ gb447)); clear HO_439001; clear HO_448001; clear HO461; clear HO465; clear BK438; clear BK447; clear HB; have HO_439001 := n0_; have HO_448001 := n1_; have HO461 := n2_; have HO465 := n3_; have BK438 := n4_; have BK447 := n5_; have HB := n6_; have BK467 := n7_; have GW467 := n8_; have GE467 := n9_; have NB438_467 := n10_; have NB467_438 := n11_; have NB447_467 := n12_; have NB467_447 := n13_; clear n0_ n1_ n2_ n3_ n4_ n5_ n6_ n7_ n8_ n9_ n10_ n11_ n12_ n13_; clear hb hbox hg; have hnb73 := NB467_438.out; have hnc73 := NB438_467.out; have hnb74 := NB467_447.out; have hnc74 := NB447_467.out; have hcz75_0 : w72.cell? ⟨gb467, 0, none⟩ = some (.int .i64 0) := (blk_cell BK467.out 0).trans rfl; have hcz75_1 : w72.cell? ⟨gb467, 1, none⟩ = some (.slice none 0 0) := (blk_cell BK467.out 1).trans rfl; have hfz75_0 := blk_frozen BK467.out 0; have hfz75_1 := blk_frozen BK467.out 1; obtain ⟨Ao76, co76, eo76⟩ := Kd.R_slice HO465.out; subst eo76))
           (try simp only [Act.put, List.setIfInBounds_toArray, List.set_cons_zero, List.set_cons_succ])
           go_cut [84] (fun v84 wc => ∃ (kq : Nat) (x84_62 : Bool), v84 = .bool x84_62 ∧ Aside0 (laws_FnExactBuildTournament.j2 kq t456 x84_62 t442 t457 = some r) ∧ Aside0 (kq ≤ kj35) ∧ Aside0 (Kd.R (Kd.int .i64) 3 wc w.heap.size (fun k_ => some k_ ≠ ((.slice Ao20 t443.length co20) : Value).ownBlock ∧ some k_ ≠ ((.slice Ao76 t463.length co76) : Value).ownBlock) (.slice Ao13 t434.length co13) t434) ∧ Aside0 (Kd.R (Kd.int .i64) 3 wc w.heap.size (fun k_ => some k_ ≠ ((.slice Ao13 t434.length co13) : Value).ownBlock ∧ some k_ ≠ ((.slice Ao76 t463.length co76) : Value).ownBlock) (.slice Ao20 t443.length co20) t457) ∧ Aside0 (Kd.R (Kd.int .i64) 3 wc w.heap.size (fun k_ => some k_ ≠ ((.slice Ao13 t434.length co13) : Value).ownBlock ∧ some k_ ≠ ((.slice Ao20 t443.length co20) : Value).ownBlock) (.slice Ao76 t463.length co76) t463) ∧ Aside0 (wc.heap[gb438]? = some (.cells #[.int .i64 t433, (.slice Ao13 t434.length co13)] 44 (0, 0))) ∧ Aside0 (wc.heap[gb447]? = some (.cells #[.int .i64 t442, (.slice Ao20 t443.length co20)] 44 (0, 0))) ∧ Aside0 (wc.heap[gb467]? = some (.cells #[.int .i64 t462, (.slice Ao76 t463.length co76)] 44 (0, 0))) ∧ Aside0 (Below w.heap.size w wc))
           case first =>
            have H := HC63.out
            clear HC63
            replace H := Option.bind_eq_some_iff.mp H
            obtain ⟨t468, A770, H⟩ := H
            replace H : (if t468 = true then (laws_FnExactBuildTournament.j2 kj35 t456 (t466 != t437) t442 t457) else (laws_FnExactBuildTournament.j2 kj35 t456 true t442 t457)) = some r := H
            have A77 := Aside0.mk A770
            clear A770
            by_cases c78 : t468 = true
            ·
             subst c78
             have H1 : (laws_FnExactBuildTournament.j2 kj35 t456 (t466 != t437) t442 t457) = some r := by rw [if_pos rfl] at H; exact H
             clear H
             have H := H1
             clear H1
             have H' := Aside0.mk H
             clear H
             have hnb79 := NB467_438.out
             have hnc79 := NB438_467.out
             have hnb80 := NB467_447.out
             have hnc80 := NB447_467.out
             have hcz81_0 : w72.cell? ⟨gb467, 0, none⟩ = some (.int .i64 0) := (blk_cell BK467.out 0).trans rfl
             have hcz81_1 : w72.cell? ⟨gb467, 1, none⟩ = some (.slice none 0 0) := (blk_cell BK467.out 1).trans rfl
             have hfz81_0 := blk_frozen BK467.out 0
             have hfz81_1 := blk_frozen BK467.out 1
             have hnb82 := NB438_447.out
             have hnc82 := NB447_438.out
             have hcz83_0 : w72.cell? ⟨gb438, 0, none⟩ = some (.int .i64 t433) := (blk_cell BK438.out 0).trans rfl
             have hcz83_1 : w72.cell? ⟨gb438, 1, none⟩ = some (.slice Ao13 t434.length co13) := (blk_cell BK438.out 1).trans rfl
             have hfz83_0 := blk_frozen BK438.out 0
             have hfz83_1 := blk_frozen BK438.out 1
             go_wp2_with (first | ((with_reducible refine gate_callee (f := 27) rfl ?_); refine goesL_ (some 78) rfl rfl Try.func27 (by kernel_rfl) rfl #[.agg #[.int .i64 t462, .slice Ao76 t463.length co76], .agg #[.int .i64 t433, .slice Ao13 t434.length co13]] rfl (by (try simp only [List.map_toArray, List.map_cons, List.map_nil]); first | done | rfl) ?_; (with_reducible refine (laws_eqTournament.calls kj35 t462 _ _ t463 t433 _ _ t434 true _ ?side1 ?side2 ?side3 ?side4 A77.out).mono ?_); (case side1 => refine (Kd.R_reads' (e := 3) (base := w.heap.size) (ok := fun k_ => (((True ∧ some k_ ≠ (.slice Ao13 t434.length co13 : Value).ownBlock) ∧ some k_ ≠ (.slice Ao20 t443.length co20 : Value).ownBlock) ∧ some k_ ≠ (.slice Ao70 t459.length co70 : Value).ownBlock)) (n := t463.length) (c := co76) ?_).2.2; exact (by (with_reducible repeat (first | apply Kd.R_alloc | apply Kd.R_drewN | apply Kd.R_drew)); exact (Kd.R_mono (Kd.R_far (p := ⟨gb467, 1, none⟩) (Kd.R_far (p := ⟨gb467, 0, none⟩) (Kd.R_types HO465.out BK467.out (by decide)) (fun _ hk => hk.2) (.int .i64 t462)) (fun _ hk => hk.2) (.slice Ao76 t463.length co76)) (fun _ h_ => h_.1)))); (case side2 => exact (Kd.R_reads' HO465.out).2.1); (case side3 => refine (Kd.R_reads' (e := 3) (base := w.heap.size) (ok := fun k_ => ((some k_ ≠ (.slice Ao20 t443.length co20 : Value).ownBlock ∧ some k_ ≠ (.slice Ao70 t459.length co70 : Value).ownBlock) ∧ some k_ ≠ (.slice Ao76 t463.length co76 : Value).ownBlock)) (n := t434.length) (c := co13) ?_).2.2; exact (by (with_reducible repeat (first | apply Kd.R_alloc | apply Kd.R_drewN | apply Kd.R_drew)); exact (Kd.R_mono (Kd.R_far (p := ⟨gb467, 1, none⟩) (Kd.R_far (p := ⟨gb467, 0, none⟩) (Kd.R_types HO_439001.out BK467.out (by decide)) (fun _ hk => hk.2) (.int .i64 t462)) (fun _ hk => hk.2) (.slice Ao76 t463.length co76)) (fun _ h_ => h_.1)))); (case side4 => exact (Kd.R_reads' HO_439001.out).2.1); rintro e w84 ⟨rfl, hb⟩; refine ⟨_, rfl, ?_⟩; have n0_ := Aside0.mk (Kd.R_below (by (with_reducible repeat (first | apply Kd.R_alloc | apply Kd.R_drewN | apply Kd.R_drew)); exact (Kd.R_mono (Kd.R_far (p := ⟨gb467, 1, none⟩) (Kd.R_far (p := ⟨gb467, 0, none⟩) (Kd.R_types HO_439001.out BK467.out (by decide)) (fun _ hk => hk.2) (.int .i64 t462)) (fun _ hk => hk.2) (.slice Ao76 t463.length co76)) (fun _ h_ => h_.1))) hb); have n1_ := Aside0.mk (Kd.R_below (by (with_reducible repeat (first | apply Kd.R_alloc | apply Kd.R_drewN | apply Kd.R_drew)); exact (Kd.R_mono (Kd.R_far (p := ⟨gb467, 1, none⟩) (Kd.R_far (p := ⟨gb467, 0, none⟩) (Kd.R_types HO_448001.out BK467.out (by decide)) (fun _ hk => hk.2) (.int .i64 t462)) (fun _ hk => hk.2) (.slice Ao76 t463.length co76)) (fun _ h_ => h_.1))) hb); have n2_ := Aside0.mk (Kd.R_below (by (with_reducible repeat (first | apply Kd.R_alloc | apply Kd.R_drewN | apply Kd.R_drew)); exact (Kd.R_mono (Kd.R_far (p := ⟨gb467, 1, none⟩) (Kd.R_far (p := ⟨gb467, 0, none⟩) (Kd.R_types HO461.out BK467.out (by decide)) (fun _ hk => hk.2) (.int .i64 t462)) (fun _ hk => hk.2) (.slice Ao76 t463.length co76)) (fun _ h_ => h_.1))) hb); have n3_ := Aside0.mk (Kd.R_below (by (with_reducible repeat (first | apply Kd.R_alloc | apply Kd.R_drewN | apply Kd.R_drew)); exact (Kd.R_mono (Kd.R_far (p := ⟨gb467, 1, none⟩) (Kd.R_far (p := ⟨gb467, 0, none⟩) (Kd.R_types HO465.out BK467.out (by decide)) (fun _ hk => hk.2) (.int .i64 t462)) (fun _ hk => hk.2) (.slice Ao76 t463.length co76)) (fun _ h_ => h_.1))) hb); have n4_ := Aside0.mk (blk_below (g := gb438) (o := .cells #[.int .i64 t433, .slice Ao13 t434.length co13] 44 (0, 0)) (by (with_reducible repeat (first | refine blk_drewN ?_ _ | refine blk_drew ?_ | refine blk_alloc ?_ _)); refine blk_far ?_ NB438_467.out _; (with_reducible repeat (first | refine blk_drewN ?_ _ | refine blk_drew ?_ | refine blk_alloc ?_ _)); refine blk_far ?_ NB438_467.out _; (with_reducible repeat (first | refine blk_drewN ?_ _ | refine blk_drew ?_ | refine blk_alloc ?_ _)); exact BK438.out) hb); have n5_ := Aside0.mk (blk_below (g := gb447) (o := .cells #[.int .i64 t442, .slice Ao20 t443.length co20] 44 (0, 0)) (by (with_reducible repeat (first | refine blk_drewN ?_ _ | refine blk_drew ?_ | refine blk_alloc ?_ _)); refine blk_far ?_ NB447_467.out _; (with_reducible repeat (first | refine blk_drewN ?_ _ | refine blk_drew ?_ | refine blk_alloc ?_ _)); refine blk_far ?_ NB447_467.out _; (with_reducible repeat (first | refine blk_drewN ?_ _ | refine blk_drew ?_ | refine blk_alloc ?_ _)); exact BK447.out) hb); have n6_ := Aside0.mk (blk_below (g := gb467) (o := .cells #[.int .i64 t462, .slice Ao76 t463.length co76] 44 (0, 0)) (by (with_reducible repeat (first | refine blk_drewN ?_ _ | refine blk_drew ?_ | refine blk_alloc ?_ _)); refine blk_put (cs := #[.int .i64 t462, .slice none 0 0]) ?_ 1 _ rfl; (with_reducible repeat (first | refine blk_drewN ?_ _ | refine blk_drew ?_ | refine blk_alloc ?_ _)); refine blk_put (cs := #[.int .i64 0, .slice none 0 0]) ?_ 0 _ rfl; (with_reducible repeat (first | refine blk_drewN ?_ _ | refine blk_drew ?_ | refine blk_alloc ?_ _)); exact BK467.out) hb); have n7_ := Aside0.mk (below_step (by repeat (first | (with_reducible first | exact HB.out | apply below_alloc | apply pw_below_drewN | apply below_drew1 | refine below_set ?_ GE438.out | refine below_set ?_ GE447.out | refine below_set ?_ GE467.out) | exact HB.out)) hb); clear HO_439001; clear HO_448001; clear HO461; clear HO465; clear BK438; clear BK447; clear BK467; clear HB; have HO_439001 := n0_; have HO_448001 := n1_; have HO461 := n2_; have HO465 := n3_; have BK438 := n4_; have BK447 := n5_; have BK467 := n6_; have HB := n7_; clear n0_ n1_ n2_ n3_ n4_ n5_ n6_ n7_; (try clear hb); (try clear hb2); (try clear hk); (try clear hi)))
             go_meet
             case rel => exact ⟨_, ((t466 != t437)), (by first | rfl | (simp; done) | (simp [*]; done)), H', ⟨by have := HJ6.out; have := HJ35.out; first | omega | exact Nat.le_refl _⟩, ⟨by (with_reducible repeat (first | apply Kd.R_alloc | apply Kd.R_drewN | apply Kd.R_drew)); exact Kd.R_mono HO_439001.out (fun _ hk => ⟨hk.1.1, hk.2⟩)⟩, ⟨by (with_reducible repeat (first | apply Kd.R_alloc | apply Kd.R_drewN | apply Kd.R_drew)); exact Kd.R_mono HO_448001.out (fun _ hk => ⟨hk.1.1, hk.2⟩)⟩, ⟨by (with_reducible repeat (first | apply Kd.R_alloc | apply Kd.R_drewN | apply Kd.R_drew)); exact Kd.R_mono HO465.out (fun _ hk => ⟨hk.1.1.2, hk.1.2⟩)⟩, ⟨by (with_reducible repeat (first | refine blk_drewN ?_ _ | refine blk_drew ?_ | refine blk_alloc ?_ _)); exact BK438.out⟩, ⟨by (with_reducible repeat (first | refine blk_drewN ?_ _ | refine blk_drew ?_ | refine blk_alloc ?_ _)); exact BK447.out⟩, ⟨by (with_reducible repeat (first | refine blk_drewN ?_ _ | refine blk_drew ?_ | refine blk_alloc ?_ _)); exact BK467.out⟩, ⟨by repeat (first | (with_reducible first | exact HB.out | apply below_alloc | apply pw_below_drewN | apply below_drew1 | refine below_set ?_ GE438.out | refine below_set ?_ GE447.out | refine below_set ?_ GE467.out) | exact HB.out)⟩⟩
            ·
             replace c78 := Bool.eq_false_iff.mpr c78
             subst c78
             have H1 : (laws_FnExactBuildTournament.j2 kj35 t456 true t442 t457) = some r := by rw [if_neg (show ¬ (false = true) by decide)] at H; exact H
             clear H
             have H := H1
             clear H1
             have H' := Aside0.mk H
             clear H
             have hnb85 := NB467_438.out
             have hnc85 := NB438_467.out
             have hnb86 := NB467_447.out
             have hnc86 := NB447_467.out
             have hcz87_0 : w72.cell? ⟨gb467, 0, none⟩ = some (.int .i64 0) := (blk_cell BK467.out 0).trans rfl
             have hcz87_1 : w72.cell? ⟨gb467, 1, none⟩ = some (.slice none 0 0) := (blk_cell BK467.out 1).trans rfl
             have hfz87_0 := blk_frozen BK467.out 0
             have hfz87_1 := blk_frozen BK467.out 1
             have hnb88 := NB438_447.out
             have hnc88 := NB447_438.out
             have hcz89_0 : w72.cell? ⟨gb438, 0, none⟩ = some (.int .i64 t433) := (blk_cell BK438.out 0).trans rfl
             have hcz89_1 : w72.cell? ⟨gb438, 1, none⟩ = some (.slice Ao13 t434.length co13) := (blk_cell BK438.out 1).trans rfl
             have hfz89_0 := blk_frozen BK438.out 0
             have hfz89_1 := blk_frozen BK438.out 1
             go_wp2_with (first | ((with_reducible refine gate_callee (f := 27) rfl ?_); refine goesL_ (some 78) rfl rfl Try.func27 (by kernel_rfl) rfl #[.agg #[.int .i64 t462, .slice Ao76 t463.length co76], .agg #[.int .i64 t433, .slice Ao13 t434.length co13]] rfl (by (try simp only [List.map_toArray, List.map_cons, List.map_nil]); first | done | rfl) ?_; (with_reducible refine (laws_eqTournament.calls kj35 t462 _ _ t463 t433 _ _ t434 false _ ?side1 ?side2 ?side3 ?side4 A77.out).mono ?_); (case side1 => refine (Kd.R_reads' (e := 3) (base := w.heap.size) (ok := fun k_ => (((True ∧ some k_ ≠ (.slice Ao13 t434.length co13 : Value).ownBlock) ∧ some k_ ≠ (.slice Ao20 t443.length co20 : Value).ownBlock) ∧ some k_ ≠ (.slice Ao70 t459.length co70 : Value).ownBlock)) (n := t463.length) (c := co76) ?_).2.2; exact (by (with_reducible repeat (first | apply Kd.R_alloc | apply Kd.R_drewN | apply Kd.R_drew)); exact (Kd.R_mono (Kd.R_far (p := ⟨gb467, 1, none⟩) (Kd.R_far (p := ⟨gb467, 0, none⟩) (Kd.R_types HO465.out BK467.out (by decide)) (fun _ hk => hk.2) (.int .i64 t462)) (fun _ hk => hk.2) (.slice Ao76 t463.length co76)) (fun _ h_ => h_.1)))); (case side2 => exact (Kd.R_reads' HO465.out).2.1); (case side3 => refine (Kd.R_reads' (e := 3) (base := w.heap.size) (ok := fun k_ => ((some k_ ≠ (.slice Ao20 t443.length co20 : Value).ownBlock ∧ some k_ ≠ (.slice Ao70 t459.length co70 : Value).ownBlock) ∧ some k_ ≠ (.slice Ao76 t463.length co76 : Value).ownBlock)) (n := t434.length) (c := co13) ?_).2.2; exact (by (with_reducible repeat (first | apply Kd.R_alloc | apply Kd.R_drewN | apply Kd.R_drew)); exact (Kd.R_mono (Kd.R_far (p := ⟨gb467, 1, none⟩) (Kd.R_far (p := ⟨gb467, 0, none⟩) (Kd.R_types HO_439001.out BK467.out (by decide)) (fun _ hk => hk.2) (.int .i64 t462)) (fun _ hk => hk.2) (.slice Ao76 t463.length co76)) (fun _ h_ => h_.1)))); (case side4 => exact (Kd.R_reads' HO_439001.out).2.1); rintro e w90 ⟨rfl, hb⟩; refine ⟨_, rfl, ?_⟩; have n0_ := Aside0.mk (Kd.R_below (by (with_reducible repeat (first | apply Kd.R_alloc | apply Kd.R_drewN | apply Kd.R_drew)); exact (Kd.R_mono (Kd.R_far (p := ⟨gb467, 1, none⟩) (Kd.R_far (p := ⟨gb467, 0, none⟩) (Kd.R_types HO_439001.out BK467.out (by decide)) (fun _ hk => hk.2) (.int .i64 t462)) (fun _ hk => hk.2) (.slice Ao76 t463.length co76)) (fun _ h_ => h_.1))) hb); have n1_ := Aside0.mk (Kd.R_below (by (with_reducible repeat (first | apply Kd.R_alloc | apply Kd.R_drewN | apply Kd.R_drew)); exact (Kd.R_mono (Kd.R_far (p := ⟨gb467, 1, none⟩) (Kd.R_far (p := ⟨gb467, 0, none⟩) (Kd.R_types HO_448001.out BK467.out (by decide)) (fun _ hk => hk.2) (.int .i64 t462)) (fun _ hk => hk.2) (.slice Ao76 t463.length co76)) (fun _ h_ => h_.1))) hb); have n2_ := Aside0.mk (Kd.R_below (by (with_reducible repeat (first | apply Kd.R_alloc | apply Kd.R_drewN | apply Kd.R_drew)); exact (Kd.R_mono (Kd.R_far (p := ⟨gb467, 1, none⟩) (Kd.R_far (p := ⟨gb467, 0, none⟩) (Kd.R_types HO461.out BK467.out (by decide)) (fun _ hk => hk.2) (.int .i64 t462)) (fun _ hk => hk.2) (.slice Ao76 t463.length co76)) (fun _ h_ => h_.1))) hb); have n3_ := Aside0.mk (Kd.R_below (by (with_reducible repeat (first | apply Kd.R_alloc | apply Kd.R_drewN | apply Kd.R_drew)); exact (Kd.R_mono (Kd.R_far (p := ⟨gb467, 1, none⟩) (Kd.R_far (p := ⟨gb467, 0, none⟩) (Kd.R_types HO465.out BK467.out (by decide)) (fun _ hk => hk.2) (.int .i64 t462)) (fun _ hk => hk.2) (.slice Ao76 t463.length co76)) (fun _ h_ => h_.1))) hb); have n4_ := Aside0.mk (blk_below (g := gb438) (o := .cells #[.int .i64 t433, .slice Ao13 t434.length co13] 44 (0, 0)) (by (with_reducible repeat (first | refine blk_drewN ?_ _ | refine blk_drew ?_ | refine blk_alloc ?_ _)); refine blk_far ?_ NB438_467.out _; (with_reducible repeat (first | refine blk_drewN ?_ _ | refine blk_drew ?_ | refine blk_alloc ?_ _)); refine blk_far ?_ NB438_467.out _; (with_reducible repeat (first | refine blk_drewN ?_ _ | refine blk_drew ?_ | refine blk_alloc ?_ _)); exact BK438.out) hb); have n5_ := Aside0.mk (blk_below (g := gb447) (o := .cells #[.int .i64 t442, .slice Ao20 t443.length co20] 44 (0, 0)) (by (with_reducible repeat (first | refine blk_drewN ?_ _ | refine blk_drew ?_ | refine blk_alloc ?_ _)); refine blk_far ?_ NB447_467.out _; (with_reducible repeat (first | refine blk_drewN ?_ _ | refine blk_drew ?_ | refine blk_alloc ?_ _)); refine blk_far ?_ NB447_467.out _; (with_reducible repeat (first | refine blk_drewN ?_ _ | refine blk_drew ?_ | refine blk_alloc ?_ _)); exact BK447.out) hb); have n6_ := Aside0.mk (blk_below (g := gb467) (o := .cells #[.int .i64 t462, .slice Ao76 t463.length co76] 44 (0, 0)) (by (with_reducible repeat (first | refine blk_drewN ?_ _ | refine blk_drew ?_ | refine blk_alloc ?_ _)); refine blk_put (cs := #[.int .i64 t462, .slice none 0 0]) ?_ 1 _ rfl; (with_reducible repeat (first | refine blk_drewN ?_ _ | refine blk_drew ?_ | refine blk_alloc ?_ _)); refine blk_put (cs := #[.int .i64 0, .slice none 0 0]) ?_ 0 _ rfl; (with_reducible repeat (first | refine blk_drewN ?_ _ | refine blk_drew ?_ | refine blk_alloc ?_ _)); exact BK467.out) hb); have n7_ := Aside0.mk (below_step (by repeat (first | (with_reducible first | exact HB.out | apply below_alloc | apply pw_below_drewN | apply below_drew1 | refine below_set ?_ GE438.out | refine below_set ?_ GE447.out | refine below_set ?_ GE467.out) | exact HB.out)) hb); clear HO_439001; clear HO_448001; clear HO461; clear HO465; clear BK438; clear BK447; clear BK467; clear HB; have HO_439001 := n0_; have HO_448001 := n1_; have HO461 := n2_; have HO465 := n3_; have BK438 := n4_; have BK447 := n5_; have BK467 := n6_; have HB := n7_; clear n0_ n1_ n2_ n3_ n4_ n5_ n6_ n7_; (try clear hb); (try clear hb2); (try clear hk); (try clear hi)))
             go_meet
             case rel => exact ⟨_, (true), (by first | rfl | (simp; done) | (simp [*]; done)), H', ⟨by have := HJ6.out; have := HJ35.out; first | omega | exact Nat.le_refl _⟩, ⟨by (with_reducible repeat (first | apply Kd.R_alloc | apply Kd.R_drewN | apply Kd.R_drew)); exact Kd.R_mono HO_439001.out (fun _ hk => ⟨hk.1.1, hk.2⟩)⟩, ⟨by (with_reducible repeat (first | apply Kd.R_alloc | apply Kd.R_drewN | apply Kd.R_drew)); exact Kd.R_mono HO_448001.out (fun _ hk => ⟨hk.1.1, hk.2⟩)⟩, ⟨by (with_reducible repeat (first | apply Kd.R_alloc | apply Kd.R_drewN | apply Kd.R_drew)); exact Kd.R_mono HO465.out (fun _ hk => ⟨hk.1.1.2, hk.1.2⟩)⟩, ⟨by (with_reducible repeat (first | refine blk_drewN ?_ _ | refine blk_drew ?_ | refine blk_alloc ?_ _)); exact BK438.out⟩, ⟨by (with_reducible repeat (first | refine blk_drewN ?_ _ | refine blk_drew ?_ | refine blk_alloc ?_ _)); exact BK447.out⟩, ⟨by (with_reducible repeat (first | refine blk_drewN ?_ _ | refine blk_drew ?_ | refine blk_alloc ?_ _)); exact BK467.out⟩, ⟨by repeat (first | (with_reducible first | exact HB.out | apply below_alloc | apply pw_below_drewN | apply below_drew1 | refine below_set ?_ GE438.out | refine below_set ?_ GE447.out | refine below_set ?_ GE467.out) | exact HB.out)⟩⟩
           case rest =>
            clear HC63
            try clear c1
            try clear c2
            try clear c2b0
            try clear c2b1
            try clear p2
            try clear c3
            try clear c4
            try clear c5
            try clear c6
            try clear c7
            try clear c8
            try clear c11
            try clear c12
            try clear c18
            try clear c22
            try clear c23
            try clear c25
            try clear c26
            try clear c27
            try clear c28
            try clear c29
            try clear c31
            try clear c34
            try clear c40
            try clear c40b0
            try clear c42
            try clear c43
            try clear c47
            try clear c51
            try clear c54
            try clear c54b0
            try clear c55
            try clear c60
            try clear c60b0
            try clear c60b1
            try clear c64
            try clear c73
            try clear c74
            try clear c78
            try clear c79
            try clear c80
            try clear c82
            try clear c85
            try clear c86
            try clear c88
            try clear hcz12_0
            try clear hcz12_1
            try clear hcz19_0
            try clear hcz19_1
            try clear hcz24_0
            try clear hcz24_1
            try clear hcz25_0
            try clear hcz25_1
            try clear hcz28_0
            try clear hcz28_1
            try clear hcz29_0
            try clear hcz29_1
            try clear hcz44_0
            try clear hcz44_1
            try clear hcz45_0
            try clear hcz45_1
            try clear hcz48_0
            try clear hcz48_1
            try clear hcz49_0
            try clear hcz49_1
            try clear hcz56_0
            try clear hcz56_1
            try clear hcz58_0
            try clear hcz58_1
            try clear hcz65_0
            try clear hcz65_1
            try clear hcz67_0
            try clear hcz67_1
            try clear hcz75_0
            try clear hcz75_1
            try clear hcz81_0
            try clear hcz81_1
            try clear hcz83_0
            try clear hcz83_1
            try clear hcz87_0
            try clear hcz87_1
            try clear hcz89_0
            try clear hcz89_1
            try clear hfz12_0
            try clear hfz12_1
            try clear hfz19_0
            try clear hfz19_1
            try clear hfz24_0
            try clear hfz24_1
            try clear hfz25_0
            try clear hfz25_1
            try clear hfz28_0
            try clear hfz28_1
            try clear hfz29_0
            try clear hfz29_1
            try clear hfz44_0
            try clear hfz44_1
            try clear hfz45_0
            try clear hfz45_1
            try clear hfz48_0
            try clear hfz48_1
            try clear hfz49_0
            try clear hfz49_1
            try clear hfz56_0
            try clear hfz56_1
            try clear hfz58_0
            try clear hfz58_1
            try clear hfz65_0
            try clear hfz65_1
            try clear hfz67_0
            try clear hfz67_1
            try clear hfz75_0
            try clear hfz75_1
            try clear hfz81_0
            try clear hfz81_1
            try clear hfz83_0
            try clear hfz83_1
            try clear hfz87_0
            try clear hfz87_1
            try clear hfz89_0
            try clear hfz89_1
            try clear p2
            obtain ⟨kq, x84_62, rfl, HA, HJ62, HO_439001, HO_448001, HO_468001, BK438, BK447, BK467, HB⟩ := hcut
            have hl448001_62 := (Kd.R_reads' HO_448001.out).1
            rw [hl448001_62] at HO_448001
            (try simp only [hl448001_62])
            (try simp only [hl448001_62] at BK438)
            (try simp only [hl448001_62] at BK447)
            (try simp only [hl448001_62] at BK467)
            (try simp only [hl448001_62] at HO_439001)
            (try simp only [hl448001_62] at HO_468001)
            cases kq with
            | zero => exact absurd HA.out (by simp [laws_FnExactBuildTournament.j2])
            | succ kj62 =>
             have H := HA.out
             clear HA
             simp only [laws_FnExactBuildTournament.j2] at H
             by_cases c91 : x84_62 = true
             ·
              subst c91
              have H1 : (some false) = some r := by rw [if_pos rfl] at H; exact H
              clear H
              have H := H1
              clear H1
              obtain rfl := Option.some.inj H
              go_wp2
              go_ret
              exact ⟨by first | rfl | (simp [errW_none, errW_some] <;> rfl) | (simp [*, errW_none, errW_some] <;> rfl), by repeat (first | (with_reducible first | exact HB.out | apply below_alloc | apply pw_below_drewN | apply below_drew1 | refine below_set ?_ GE438.out | refine below_set ?_ GE447.out | refine below_set ?_ GE467.out) | exact HB.out)⟩
             ·
              replace c91 := Bool.eq_false_iff.mpr c91
              subst c91
              have H1 : ((laws_heldTournament.f kj62 t442 t457 1).bind fun t469 => (if t469 < 0 then (some false) else (if t469 = t456 then (some true) else (some false)))) = some r := by rw [if_neg (show ¬ (false = true) by decide)] at H; exact H
              clear H
              have H := H1
              clear H1
              replace H := Option.bind_eq_some_iff.mp H
              obtain ⟨t469, A920, H⟩ := H
              replace H : (if t469 < 0 then (some false) else (if t469 = t456 then (some true) else (some false))) = some r := H
              have A92 := Aside0.mk A920
              clear A920
              by_cases c93 : t469 < 0
              ·
               rw [if_pos c93] at H
               have c93b0 : decide (t469 < 0) = true := decide_eq_true c93
               (try (have c93b1 := c93b0; simp only [hl448001_62] at c93b1))
               clear c93
               obtain rfl := Option.some.inj H
               have hnb94 := NB447_438.out
               have hnc94 := NB438_447.out
               have hnb95 := NB447_467.out
               have hnc95 := NB467_447.out
               have hcz96_0 : wc.cell? ⟨gb447, 0, none⟩ = some (.int .i64 t442) := (blk_cell BK447.out 0).trans rfl
               have hcz96_1 : wc.cell? ⟨gb447, 1, none⟩ = some (.slice Ao20 t457.length co20) := (blk_cell BK447.out 1).trans rfl
               have hfz96_0 := blk_frozen BK447.out 0
               have hfz96_1 := blk_frozen BK447.out 1
               go_wp2_with (first | ((with_reducible refine gate_callee (f := 29) rfl ?_); refine goesL_ (some 87) rfl rfl Try.func29 (by kernel_rfl) rfl #[.agg #[.int .i64 t442, .slice Ao20 t457.length co20], .int .i64 1] rfl (by (try simp only [List.map_toArray, List.map_cons, List.map_nil]); first | done | rfl) ?_; (with_reducible refine (laws_heldTournament.calls kj62 t442 _ _ t457 1 t469 _ ?side1 ?side2 A92.out).mono ?_); (case side1 => repeat (first | exact (Kd.R_reads' HO_448001.out).2.2 | (with_reducible refine Kd.C_alloc ?_ _) | (with_reducible refine Kd.C_drewN ?_ _) | (with_reducible refine Kd.C_drew ?_))); (case side2 => exact (Kd.R_reads' HO_448001.out).2.1); rintro e w97 ⟨rfl, hb⟩; refine ⟨_, rfl, ?_⟩; have n0_ := Aside0.mk (Kd.R_below (by (with_reducible repeat (first | apply Kd.R_alloc | apply Kd.R_drewN | apply Kd.R_drew)); exact HO_439001.out) hb); have n1_ := Aside0.mk (Kd.R_below (by (with_reducible repeat (first | apply Kd.R_alloc | apply Kd.R_drewN | apply Kd.R_drew)); exact HO_448001.out) hb); have n2_ := Aside0.mk (Kd.R_below (by (with_reducible repeat (first | apply Kd.R_alloc | apply Kd.R_drewN | apply Kd.R_drew)); exact HO_468001.out) hb); have n3_ := Aside0.mk (blk_below (g := gb438) (o := .cells #[.int .i64 t433, .slice Ao13 t434.length co13] 44 (0, 0)) (by (with_reducible repeat (first | refine blk_drewN ?_ _ | refine blk_drew ?_ | refine blk_alloc ?_ _)); exact BK438.out) hb); have n4_ := Aside0.mk (blk_below (g := gb447) (o := .cells #[.int .i64 t442, .slice Ao20 t457.length co20] 44 (0, 0)) (by (with_reducible repeat (first | refine blk_drewN ?_ _ | refine blk_drew ?_ | refine blk_alloc ?_ _)); exact BK447.out) hb); have n5_ := Aside0.mk (blk_below (g := gb467) (o := .cells #[.int .i64 t462, .slice Ao76 t463.length co76] 44 (0, 0)) (by (with_reducible repeat (first | refine blk_drewN ?_ _ | refine blk_drew ?_ | refine blk_alloc ?_ _)); exact BK467.out) hb); have n6_ := Aside0.mk (below_step (by repeat (first | (with_reducible first | exact HB.out | apply below_alloc | apply pw_below_drewN | apply below_drew1 | refine below_set ?_ GE438.out | refine below_set ?_ GE447.out | refine below_set ?_ GE467.out) | exact HB.out)) hb); clear HO_439001; clear HO_448001; clear HO_468001; clear BK438; clear BK447; clear BK467; clear HB; have HO_439001 := n0_; have HO_448001 := n1_; have HO_468001 := n2_; have BK438 := n3_; have BK447 := n4_; have BK467 := n5_; have HB := n6_; clear n0_ n1_ n2_ n3_ n4_ n5_ n6_; (try clear hb); (try clear hb2); (try clear hk); (try clear hi)))
               go_ret
               exact ⟨by first | rfl | (simp [errW_none, errW_some] <;> rfl) | (simp [*, errW_none, errW_some] <;> rfl), by repeat (first | (with_reducible first | exact HB.out | apply below_alloc | apply pw_below_drewN | apply below_drew1 | refine below_set ?_ GE438.out | refine below_set ?_ GE447.out | refine below_set ?_ GE467.out) | exact HB.out)⟩
              ·
               rw [if_neg c93] at H
               have c93b0 : decide (t469 < 0) = false := decide_eq_false c93
               (try (have c93b1 := c93b0; simp only [hl448001_62] at c93b1))
               clear c93
               by_cases c98 : t469 = t456
               ·
                rw [if_pos c98] at H
                have c98b0 : (t469 == t456) = true := beq_iff_eq.mpr c98
                have c98b1 : (t469 != t456) = false := bne_eq_false_iff_eq.mpr c98
                clear c98
                obtain rfl := Option.some.inj H
                have hnb99 := NB447_438.out
                have hnc99 := NB438_447.out
                have hnb100 := NB447_467.out
                have hnc100 := NB467_447.out
                have hcz101_0 : wc.cell? ⟨gb447, 0, none⟩ = some (.int .i64 t442) := (blk_cell BK447.out 0).trans rfl
                have hcz101_1 : wc.cell? ⟨gb447, 1, none⟩ = some (.slice Ao20 t457.length co20) := (blk_cell BK447.out 1).trans rfl
                have hfz101_0 := blk_frozen BK447.out 0
                have hfz101_1 := blk_frozen BK447.out 1
                go_wp2_with (first | ((with_reducible refine gate_callee (f := 29) rfl ?_); refine goesL_ (some 87) rfl rfl Try.func29 (by kernel_rfl) rfl #[.agg #[.int .i64 t442, .slice Ao20 t457.length co20], .int .i64 1] rfl (by (try simp only [List.map_toArray, List.map_cons, List.map_nil]); first | done | rfl) ?_; (with_reducible refine (laws_heldTournament.calls kj62 t442 _ _ t457 1 t469 _ ?side1 ?side2 A92.out).mono ?_); (case side1 => repeat (first | exact (Kd.R_reads' HO_448001.out).2.2 | (with_reducible refine Kd.C_alloc ?_ _) | (with_reducible refine Kd.C_drewN ?_ _) | (with_reducible refine Kd.C_drew ?_))); (case side2 => exact (Kd.R_reads' HO_448001.out).2.1); rintro e w102 ⟨rfl, hb⟩; refine ⟨_, rfl, ?_⟩; have n0_ := Aside0.mk (Kd.R_below (by (with_reducible repeat (first | apply Kd.R_alloc | apply Kd.R_drewN | apply Kd.R_drew)); exact HO_439001.out) hb); have n1_ := Aside0.mk (Kd.R_below (by (with_reducible repeat (first | apply Kd.R_alloc | apply Kd.R_drewN | apply Kd.R_drew)); exact HO_448001.out) hb); have n2_ := Aside0.mk (Kd.R_below (by (with_reducible repeat (first | apply Kd.R_alloc | apply Kd.R_drewN | apply Kd.R_drew)); exact HO_468001.out) hb); have n3_ := Aside0.mk (blk_below (g := gb438) (o := .cells #[.int .i64 t433, .slice Ao13 t434.length co13] 44 (0, 0)) (by (with_reducible repeat (first | refine blk_drewN ?_ _ | refine blk_drew ?_ | refine blk_alloc ?_ _)); exact BK438.out) hb); have n4_ := Aside0.mk (blk_below (g := gb447) (o := .cells #[.int .i64 t442, .slice Ao20 t457.length co20] 44 (0, 0)) (by (with_reducible repeat (first | refine blk_drewN ?_ _ | refine blk_drew ?_ | refine blk_alloc ?_ _)); exact BK447.out) hb); have n5_ := Aside0.mk (blk_below (g := gb467) (o := .cells #[.int .i64 t462, .slice Ao76 t463.length co76] 44 (0, 0)) (by (with_reducible repeat (first | refine blk_drewN ?_ _ | refine blk_drew ?_ | refine blk_alloc ?_ _)); exact BK467.out) hb); have n6_ := Aside0.mk (below_step (by repeat (first | (with_reducible first | exact HB.out | apply below_alloc | apply pw_below_drewN | apply below_drew1 | refine below_set ?_ GE438.out | refine below_set ?_ GE447.out | refine below_set ?_ GE467.out) | exact HB.out)) hb); clear HO_439001; clear HO_448001; clear HO_468001; clear BK438; clear BK447; clear BK467; clear HB; have HO_439001 := n0_; have HO_448001 := n1_; have HO_468001 := n2_; have BK438 := n3_; have BK447 := n4_; have BK467 := n5_; have HB := n6_; clear n0_ n1_ n2_ n3_ n4_ n5_ n6_; (try clear hb); (try clear hb2); (try clear hk); (try clear hi)))
                go_ret
                exact ⟨by first | rfl | (simp [errW_none, errW_some] <;> rfl) | (simp [*, errW_none, errW_some] <;> rfl), by repeat (first | (with_reducible first | exact HB.out | apply below_alloc | apply pw_below_drewN | apply below_drew1 | refine below_set ?_ GE438.out | refine below_set ?_ GE447.out | refine below_set ?_ GE467.out) | exact HB.out)⟩
               ·
                rw [if_neg c98] at H
                have c98b0 : (t469 == t456) = false := beq_eq_false_iff_ne.mpr c98
                have c98b1 : (t469 != t456) = true := bne_iff_ne.mpr c98
                obtain rfl := Option.some.inj H
                have hnb103 := NB447_438.out
                have hnc103 := NB438_447.out
                have hnb104 := NB447_467.out
                have hnc104 := NB467_447.out
                have hcz105_0 : wc.cell? ⟨gb447, 0, none⟩ = some (.int .i64 t442) := (blk_cell BK447.out 0).trans rfl
                have hcz105_1 : wc.cell? ⟨gb447, 1, none⟩ = some (.slice Ao20 t457.length co20) := (blk_cell BK447.out 1).trans rfl
                have hfz105_0 := blk_frozen BK447.out 0
                have hfz105_1 := blk_frozen BK447.out 1
                go_wp2_with (first | ((with_reducible refine gate_callee (f := 29) rfl ?_); refine goesL_ (some 87) rfl rfl Try.func29 (by kernel_rfl) rfl #[.agg #[.int .i64 t442, .slice Ao20 t457.length co20], .int .i64 1] rfl (by (try simp only [List.map_toArray, List.map_cons, List.map_nil]); first | done | rfl) ?_; (with_reducible refine (laws_heldTournament.calls kj62 t442 _ _ t457 1 t469 _ ?side1 ?side2 A92.out).mono ?_); (case side1 => repeat (first | exact (Kd.R_reads' HO_448001.out).2.2 | (with_reducible refine Kd.C_alloc ?_ _) | (with_reducible refine Kd.C_drewN ?_ _) | (with_reducible refine Kd.C_drew ?_))); (case side2 => exact (Kd.R_reads' HO_448001.out).2.1); rintro e w106 ⟨rfl, hb⟩; refine ⟨_, rfl, ?_⟩; have n0_ := Aside0.mk (Kd.R_below (by (with_reducible repeat (first | apply Kd.R_alloc | apply Kd.R_drewN | apply Kd.R_drew)); exact HO_439001.out) hb); have n1_ := Aside0.mk (Kd.R_below (by (with_reducible repeat (first | apply Kd.R_alloc | apply Kd.R_drewN | apply Kd.R_drew)); exact HO_448001.out) hb); have n2_ := Aside0.mk (Kd.R_below (by (with_reducible repeat (first | apply Kd.R_alloc | apply Kd.R_drewN | apply Kd.R_drew)); exact HO_468001.out) hb); have n3_ := Aside0.mk (blk_below (g := gb438) (o := .cells #[.int .i64 t433, .slice Ao13 t434.length co13] 44 (0, 0)) (by (with_reducible repeat (first | refine blk_drewN ?_ _ | refine blk_drew ?_ | refine blk_alloc ?_ _)); exact BK438.out) hb); have n4_ := Aside0.mk (blk_below (g := gb447) (o := .cells #[.int .i64 t442, .slice Ao20 t457.length co20] 44 (0, 0)) (by (with_reducible repeat (first | refine blk_drewN ?_ _ | refine blk_drew ?_ | refine blk_alloc ?_ _)); exact BK447.out) hb); have n5_ := Aside0.mk (blk_below (g := gb467) (o := .cells #[.int .i64 t462, .slice Ao76 t463.length co76] 44 (0, 0)) (by (with_reducible repeat (first | refine blk_drewN ?_ _ | refine blk_drew ?_ | refine blk_alloc ?_ _)); exact BK467.out) hb); have n6_ := Aside0.mk (below_step (by repeat (first | (with_reducible first | exact HB.out | apply below_alloc | apply pw_below_drewN | apply below_drew1 | refine below_set ?_ GE438.out | refine below_set ?_ GE447.out | refine below_set ?_ GE467.out) | exact HB.out)) hb); clear HO_439001; clear HO_448001; clear HO_468001; clear BK438; clear BK447; clear BK467; clear HB; have HO_439001 := n0_; have HO_448001 := n1_; have HO_468001 := n2_; have BK438 := n3_; have BK447 := n4_; have BK467 := n5_; have HB := n6_; clear n0_ n1_ n2_ n3_ n4_ n5_ n6_; (try clear hb); (try clear hb2); (try clear hk); (try clear hi)))
                go_ret
                exact ⟨by first | rfl | (simp [errW_none, errW_some] <;> rfl) | (simp [*, errW_none, errW_some] <;> rfl), by repeat (first | (with_reducible first | exact HB.out | apply below_alloc | apply pw_below_drewN | apply below_drew1 | refine below_set ?_ GE438.out | refine below_set ?_ GE447.out | refine below_set ?_ GE467.out) | exact HB.out)⟩
          ·
           rw [if_neg c60] at H
           have c60b0 : (t458 == t456) = false := beq_eq_false_iff_ne.mpr c60
           have c60b1 : (t458 != t456) = true := bne_iff_ne.mpr c60
           obtain rfl := Option.some.inj H
           have hnb107 := NB447_438.out
           have hnc107 := NB438_447.out
           have hcz108_0 : wc.cell? ⟨gb447, 0, none⟩ = some (.int .i64 t442) := (blk_cell BK447.out 0).trans rfl
           have hcz108_1 : wc.cell? ⟨gb447, 1, none⟩ = some (.slice Ao20 t443.length co20) := (blk_cell BK447.out 1).trans rfl
           have hfz108_0 := blk_frozen BK447.out 0
           have hfz108_1 := blk_frozen BK447.out 1
           go_wp2_with (first | ((with_reducible refine gate_callee (f := 28) rfl ?_); refine goesL_ (some 61) rfl rfl Try.func28 (by kernel_rfl) rfl #[.agg #[.int .i64 t442, .slice Ao20 t443.length co20], .int .i64 1] rfl (by (try simp only [List.map_toArray, List.map_cons, List.map_nil]); first | done | rfl) ?_; (with_reducible refine (laws_markTournament.calls kj35 t442 (fun k_ => some k_ = (.slice Ao20 t443.length co20 : Value).ownBlock) (.slice Ao20 t443.length co20) t443 1 t456 t457 w _ ?side1 ?side2 A52.out).mono ?_); (case side1 => repeat (first | (with_reducible first | exact HB.out | apply below_alloc | apply pw_below_drewN | apply below_drew1 | refine below_set ?_ GE438.out | refine below_set ?_ GE447.out) | exact HB.out)); (case side2 => exact Kd.R_tight rfl HO_448001.out); rintro e w109 ⟨rfl, hy0, hb, hkp⟩; refine ⟨_, rfl, ?_⟩; have n0_ := Aside0.mk (Kd.R_mono (ok' := fun k_ => some k_ ≠ (.slice Ao20 t443.length co20 : Value).ownBlock) (Kd.R_keptB (HO_439001.out) hkp (fun k_ hk_ hs_ => (hk_) hs_)) (fun k_ hk_ => hk_.1)); have n1_ := Aside0.mk (Kd.R_reok rfl hy0 (fun k_ e_ => HO_448001.out.1 k_ e_)); have n2_ := Aside0.mk (blk_kept (by (with_reducible repeat (first | refine blk_drewN ?_ _ | refine blk_drew ?_ | refine blk_alloc ?_ _)); exact BK438.out) hkp (fun hs_ => (fun e_ => (Kd.R_ne HO_448001.out BK438.out (by decide)) e_) hs_)); have n3_ := Aside0.mk (blk_kept (by (with_reducible repeat (first | refine blk_drewN ?_ _ | refine blk_drew ?_ | refine blk_alloc ?_ _)); exact BK447.out) hkp (fun hs_ => (fun e_ => (Kd.R_ne HO_448001.out BK447.out (by decide)) e_) hs_)); have n4_ := Aside0.mk (hb); clear HO_439001; clear HO_448001; clear BK438; clear BK447; clear HB; have HO_439001 := n0_; have HO_448001 := n1_; have BK438 := n2_; have BK447 := n3_; have HB := n4_; clear n0_ n1_ n2_ n3_ n4_; (try clear hb); (try clear hkp); (try clear hy0); have hcz110_0 : w109.cell? ⟨gb447, 0, none⟩ = some (.int .i64 t442) := (blk_cell BK447.out 0).trans rfl; have hcz110_1 : w109.cell? ⟨gb447, 1, none⟩ = some (.slice Ao20 t443.length co20) := (blk_cell BK447.out 1).trans rfl; have hfz110_0 := blk_frozen BK447.out 0; have hfz110_1 := blk_frozen BK447.out 1) | ((with_reducible refine gate_callee (f := 29) rfl ?_); refine goesL_ (some 64) rfl rfl Try.func29 (by kernel_rfl) rfl #[.agg #[.int .i64 t442, .slice Ao20 t457.length co20], .int .i64 1] rfl (by (try simp only [List.map_toArray, List.map_cons, List.map_nil]); first | done | (rw [show t457.length = t443.length from (Kd.R_reads' HO_448001.out).1.symm] <;> rfl) | rfl | (simp only [List.length_drop, List.length_take]; rfl)) ?_; (with_reducible refine (laws_heldTournament.calls kj35 t442 _ _ t457 1 t458 _ ?side1 ?side2 A53.out).mono ?_); (case side1 => repeat (first | exact (Kd.R_reads' HO_448001.out).2.2 | (with_reducible refine Kd.C_alloc ?_ _) | (with_reducible refine Kd.C_drewN ?_ _) | (with_reducible refine Kd.C_drew ?_))); (case side2 => rw [show t457.length = t443.length from (Kd.R_reads' HO_448001.out).1.symm]; exact (Kd.R_reads' HO_448001.out).2.1); rintro e w111 ⟨rfl, hb⟩; refine ⟨_, rfl, ?_⟩; have n0_ := Aside0.mk (Kd.R_below (by (with_reducible repeat (first | apply Kd.R_alloc | apply Kd.R_drewN | apply Kd.R_drew)); exact HO_439001.out) hb); have n1_ := Aside0.mk (Kd.R_below (by (with_reducible repeat (first | apply Kd.R_alloc | apply Kd.R_drewN | apply Kd.R_drew)); exact HO_448001.out) hb); have n2_ := Aside0.mk (blk_below (g := gb438) (o := .cells #[.int .i64 t433, .slice Ao13 t434.length co13] 44 (0, 0)) (by (with_reducible repeat (first | refine blk_drewN ?_ _ | refine blk_drew ?_ | refine blk_alloc ?_ _)); exact BK438.out) hb); have n3_ := Aside0.mk (blk_below (g := gb447) (o := .cells #[.int .i64 t442, .slice Ao20 t443.length co20] 44 (0, 0)) (by (with_reducible repeat (first | refine blk_drewN ?_ _ | refine blk_drew ?_ | refine blk_alloc ?_ _)); exact BK447.out) hb); have n4_ := Aside0.mk (below_step (by repeat (first | (with_reducible first | exact HB.out | apply below_alloc | apply pw_below_drewN | apply below_drew1 | refine below_set ?_ GE438.out | refine below_set ?_ GE447.out) | exact HB.out)) hb); clear HO_439001; clear HO_448001; clear BK438; clear BK447; clear HB; have HO_439001 := n0_; have HO_448001 := n1_; have BK438 := n2_; have BK447 := n3_; have HB := n4_; clear n0_ n1_ n2_ n3_ n4_; (try clear hb); (try clear hb2); (try clear hk); (try clear hi)))
           go_ret
           exact ⟨by first | rfl | (simp [errW_none, errW_some] <;> rfl) | (simp [*, errW_none, errW_some] <;> rfl), by repeat (first | (with_reducible first | exact HB.out | apply below_alloc | apply pw_below_drewN | apply below_drew1 | refine below_set ?_ GE438.out | refine below_set ?_ GE447.out) | exact HB.out)⟩
     ·
      replace c34 := Bool.eq_false_iff.mpr c34
      subst c34
      have H1 : (some false) = some r := by rw [if_neg (show ¬ (false = true) by decide)] at H; exact H
      clear H
      have H := H1
      clear H1
      obtain rfl := Option.some.inj H
      go_wp2_with (first | ((with_reducible refine gate_callee (f := 8) rfl ?_); refine goesL_ (some 40) rfl rfl Try.func8 (by kernel_rfl) rfl #[.slice A0 l0.length c0] rfl (by (try simp only [List.map_toArray, List.map_cons, List.map_nil]); first | done | rfl) ?_; (with_reducible refine (laws_toIntS.calls kj6 _ _ l0 t449 _ ?side1 ?side2 A32.out).mono ?_); (case side1 => repeat (first | exact (Kd.C_below HR0.out HB.out) | (with_reducible refine Kd.C_alloc ?_ _) | (with_reducible refine Kd.C_drewN ?_ _) | (with_reducible refine Kd.C_drew ?_))); (case side2 => exact HC0.out); rintro e w112 ⟨v450, rfl, ho0, hb⟩; refine ⟨_, rfl, ?_⟩; have n0_ := Aside0.mk (Kd.R_elder' (by (with_reducible repeat (first | apply Kd.R_alloc | apply Kd.R_drewN | apply Kd.R_drew)); exact HO_5.out) (Kd.R_base ho0) hb); have n1_ := Aside0.mk (Kd.R_elder' (by (with_reducible repeat (first | apply Kd.R_alloc | apply Kd.R_drewN | apply Kd.R_drew)); exact HO_439001.out) (Kd.R_base ho0) hb); have n2_ := Aside0.mk (Kd.R_elder' (by (with_reducible repeat (first | apply Kd.R_alloc | apply Kd.R_drewN | apply Kd.R_drew)); exact HO_448001.out) (Kd.R_base ho0) hb); have n3_ := Aside0.mk (Kd.R_lower (Kd.R_new' (Kd.R_new' (Kd.R_new' ho0 (Kd.R_lt (by (with_reducible repeat (first | apply Kd.R_alloc | apply Kd.R_drewN | apply Kd.R_drew)); exact HO_5.out))) (Kd.R_lt (by (with_reducible repeat (first | apply Kd.R_alloc | apply Kd.R_drewN | apply Kd.R_drew)); exact HO_439001.out))) (Kd.R_lt (by (with_reducible repeat (first | apply Kd.R_alloc | apply Kd.R_drewN | apply Kd.R_drew)); exact HO_448001.out))) (below_size (by repeat (first | (with_reducible first | exact HB.out | apply below_alloc | apply pw_below_drewN | apply below_drew1 | refine below_set ?_ GE438.out | refine below_set ?_ GE447.out) | exact HB.out)))); have n4_ := Aside0.mk (blk_below (g := gb438) (o := .cells #[.int .i64 t433, .slice Ao13 t434.length co13] 44 (0, 0)) (by (with_reducible repeat (first | refine blk_drewN ?_ _ | refine blk_drew ?_ | refine blk_alloc ?_ _)); exact BK438.out) hb); have n5_ := Aside0.mk (blk_below (g := gb447) (o := .cells #[.int .i64 t442, .slice Ao20 t443.length co20] 44 (0, 0)) (by (with_reducible repeat (first | refine blk_drewN ?_ _ | refine blk_drew ?_ | refine blk_alloc ?_ _)); exact BK447.out) hb); have n6_ := Aside0.mk (below_step (by repeat (first | (with_reducible first | exact HB.out | apply below_alloc | apply pw_below_drewN | apply below_drew1 | refine below_set ?_ GE438.out | refine below_set ?_ GE447.out) | exact HB.out)) hb); clear HO_5; clear HO_439001; clear HO_448001; clear BK438; clear BK447; clear HB; have HO_5 := n0_; have HO_439001 := n1_; have HO_448001 := n2_; have HO451 := n3_; have BK438 := n4_; have BK447 := n5_; have HB := n6_; clear n0_ n1_ n2_ n3_ n4_ n5_ n6_; (try clear hb); (try clear hb2); (try clear hk); (try clear hi); (try clear ho0); obtain ⟨Ao113, co113, eo113⟩ := Kd.R_slice HO451.out; subst eo113) | ((with_reducible refine gate_callee (f := 11) rfl ?_); refine goesL_ (some 41) rfl rfl Try.func11 (by kernel_rfl) rfl #[.slice Ao15 t439.length co15, .slice Ao113 t449.length co113] rfl (by (try simp only [List.map_toArray, List.map_cons, List.map_nil]); first | done | rfl) ?_; (with_reducible refine (laws_eqIntS.calls kj6 _ _ t439 _ _ t449 false _ ?side1 ?side2 ?side3 ?side4 A33.out).mono ?_); (case side1 => repeat (first | exact (Kd.R_reads' HO_5.out).2.2 | (with_reducible refine Kd.C_alloc ?_ _) | (with_reducible refine Kd.C_drewN ?_ _) | (with_reducible refine Kd.C_drew ?_))); (case side2 => exact (Kd.R_reads' HO_5.out).2.1); (case side3 => repeat (first | exact (Kd.R_reads' HO451.out).2.2 | (with_reducible refine Kd.C_alloc ?_ _) | (with_reducible refine Kd.C_drewN ?_ _) | (with_reducible refine Kd.C_drew ?_))); (case side4 => exact (Kd.R_reads' HO451.out).2.1); rintro e w' ⟨rfl, ⟨nd, rfl⟩⟩; refine ⟨_, rfl, ?_⟩))
      go_ret
      exact ⟨by first | rfl | (simp [errW_none, errW_some] <;> rfl) | (simp [*, errW_none, errW_some] <;> rfl), by repeat (first | (with_reducible first | exact HB.out | apply below_alloc | apply pw_below_drewN | apply below_drew1 | refine below_set ?_ GE438.out | refine below_set ?_ GE447.out) | exact HB.out)⟩
def laws_FnExactBuildTournament.Pure : Prop := ∀ (l0 : List Int), l0.length ≤ maxLen → l0.length * 8 ≤ 140737488351232 → (∀ x ∈ l0, (Lit.int .i64 x).wf = true) → ∃ k, laws_FnExactBuildTournament.f k l0 = some true
theorem laws_FnExactBuildTournament.walk (P : laws_FnExactBuildTournament.Pure) (a0 : Option Addr) (len0 cap0 : Nat) (z0 : List Int) (w : World) (w0 : (a0 = none ∧ len0 = 0 ∧ cap0 = 0 ∧ z0 = []) ∨ ∃ x, a0 = some x ∧ len0 ≤ cap0 ∧ cap0 ≤ maxLen ∧ z0.length = cap0 ∧ (∀ i, i < z0.length → w.cell? (x.add i) = some (.int .i64 (z0.getD i 0))) ∧ ∀ n ∈ z0, (Lit.int .i64 n).wf = true) (y0 : len0 * 8 ≤ 140737488351232) :
  Calls Try.prog 6 #[.slice a0 len0 cap0] w fun e w' => e = .returned (.bool true) ∧ Below w.heap.size w w' := by
 obtain ⟨l0, rfl, hr0, hm0, hw0, hc0⟩ := ReadsInt.ofRowC w0
 obtain ⟨k, h⟩ := P l0 hm0 y0 hw0
 refine (laws_FnExactBuildTournament.calls k _ _ l0 true w (Kd.C_of_reads (d := (0 : Int)) (h1 := fun _ => rfl) hr0) hc0 h).mono ?_
 rintro e w' ⟨rfl, hd⟩
 exact ⟨rfl, hd⟩
end Go.Proofs.Ytgfoeagphlkjkaa.P
namespace Go.Proofs.Ytgfoeagphlkjkaa.K
open Go.RowKit Go.Proofs.YtgfoeagphlkjkaaW.PrintWords Go.Proofs.Ytgfoeagphlkjkaa.P
theorem toIntS_l0 : ∀ (rest done : List Int) , (done ++ rest).length ≤ BM → Ev (fun k => laws_toIntS.l0 k (done ++ rest) (done ++ List.replicate rest.length 0) done.length) (done ++ rest) := by
  intro rest
  induction rest with
  | nil => intro done h; exact Ev.step (fun k => by simp [laws_toIntS.l0]; rfl) (Ev.some (by simp))
  | cons x rest ih =>
    intro done h
    have ih' := ih (done ++ [x])
    obtain ⟨h1, h2, h3, h4, h5⟩ := mid x done rest h
    rw [h5] at ih'
    refine Ev.step (fun k => by rw [laws_toIntS.l0]) ?_
    have h6 : (done.length : Int) < ((done ++ List.replicate (x :: rest).length (0:Int)).length : Int) := by simp; omega
    simp only [if_pos h1, if_pos h2, if_pos h6, h3, h4]
    rw [List.length_cons, List.replicate_succ, set_mid]
    exact ih' h
theorem toIntS_f (l : List Int) (h : l.length ≤ BM) : Ev (fun k => laws_toIntS.f k l) l := by
  unfold laws_toIntS.f
  simp only [BM] at h
  have e1 : 0 ≤ (l.length : Int) := by omega
  have e2 : (l.length : Int).toNat ≤ 35184372088832 := by omega
  simp only [if_pos e1, if_pos e2]
  exact toIntS_l0 l [] h
theorem eqIntS_l0 : ∀ (rest done rest2 done2 : List Int), done.length = done2.length → rest.length = rest2.length → (done ++ rest).length ≤ BM → Ev (fun k => laws_eqIntS.l0 k (done ++ rest) (done2 ++ rest2) done.length) (decide (rest = rest2)) := by
  intro rest
  induction rest with
  | nil =>
    intro done rest2 done2 hl hl2 h
    obtain rfl : rest2 = [] := by simpa using hl2.symm
    exact Ev.step (fun k => by simp [laws_eqIntS.l0]; rfl) (Ev.some (by simp))
  | cons x rest ih =>
    intro done rest2 done2 hl hl2 h
    obtain ⟨y, rest2, rfl⟩ : ∃ y r, rest2 = y :: r := by cases rest2 with | nil => simp at hl2 | cons y r => exact ⟨y, r, rfl⟩
    have ih' := ih (done ++ [x]) rest2 (done2 ++ [y]) (by simp [hl]) (by simpa using hl2)
    obtain ⟨h1, h2, h3, h4, h5⟩ := mid x done rest h
    have hh : (done2 ++ y :: rest2).length ≤ BM := by simp at h hl2 ⊢; omega
    obtain ⟨g1, g2, g3, g4, g5⟩ := mid y done2 rest2 hh
    rw [h5, g5] at ih'
    refine Ev.step (fun k => by rw [laws_eqIntS.l0]) ?_
    rw [← hl] at g1 g3
    simp only [if_pos h1, if_pos h2, if_pos g1, h3, h4, g3]
    refine Ev.ite (fun e => ?_) (fun e => ?_)
    · subst e; simpa using ih' h
    · exact Ev.some (by simp [e])
theorem eqIntS_f (l m : List Int) (h : l.length ≤ BM) : Ev (fun k => laws_eqIntS.f k l m) (decide (l = m)) := by
  unfold laws_eqIntS.f
  refine Ev.ite (fun e => ?_) (fun e => ?_)
  · exact eqIntS_l0 l [] m [] rfl (by omega) h
  · exact Ev.some (by symm; simp; rintro rfl; exact e rfl)
theorem eqIntS_same (l : List Int) (h : l.length ≤ BM) : Ev (fun k => laws_eqIntS.f k l l) true := by simpa using eqIntS_f l l h
theorem eqTournament_same (n : Int) (l : List Int) (h : l.length ≤ BM) : Ev (fun k => laws_eqTournament.f k n l n l) true := by
  unfold laws_eqTournament.f
  simp only [if_true]
  exact Ev.bind (eqIntS_same l h) (by simpa using Ev.now true)
def seqFrom (a : Int) : Nat → List Int
  | 0 => []
  | n + 1 => a :: seqFrom (a + 1) n
theorem seqFrom_length (a : Int) (n : Nat) : (seqFrom a n).length = n := by
  induction n generalizing a with
  | zero => rfl
  | succ n ih => simp [seqFrom, ih]
theorem markIntS_l0 : ∀ (rest done : List Int) (b : Int), (done ++ rest).length ≤ BM → 0 ≤ b → b + rest.length ≤ 4611686018427387904 → Ev (fun k => laws_markIntS.l0 k (done ++ rest) b done.length) (b + rest.length, done ++ seqFrom b rest.length) := by
  intro rest
  induction rest with
  | nil => intro done b h _ _; exact Ev.step (fun k => by simp [laws_markIntS.l0]; rfl) (Ev.some (by simp [seqFrom]))
  | cons x rest ih =>
    intro done b h hb0 hb
    obtain ⟨h1, h2, h3, h4, h5⟩ := mid x done rest h
    have ih' := ih (done ++ [b]) (b + 1) (by simpa using h) (by omega) (by simp at hb; omega)
    refine Ev.step (fun k => by rw [laws_markIntS.l0]) ?_
    have h6 : wrap64 (b + 1) = b + 1 := wrap_id (by omega) (by simp at hb; omega)
    simp only [if_pos h1, if_pos h2, h4, h6, set_mid]
    refine Ev.pair ?_ (show (b + 1 + (rest.length : Int), done ++ [b] ++ seqFrom (b + 1) rest.length) = _ by simp [seqFrom]; omega)
    simpa using ih'
theorem markIntS_f (l : List Int) (a : Int) (h : l.length ≤ BM) (h0 : 0 ≤ a) (ha : a + l.length ≤ 4611686018427387904) : Ev (fun k => laws_markIntS.f k l a) (a + l.length, seqFrom a l.length) := markIntS_l0 l [] a h h0 ha
theorem heldIntS_l0 : ∀ (n : Nat) (done : List Int) (b : Int), (done ++ seqFrom b n).length ≤ BM → 0 ≤ b → b + n ≤ 4611686018427387904 → Ev (fun k => laws_heldIntS.l0 k (done ++ seqFrom b n) b done.length) (b + n) := by
  intro n
  induction n with
  | zero => intro done b h _ _; exact Ev.step (fun k => by simp [laws_heldIntS.l0, seqFrom]; rfl) (Ev.some (by simp))
  | succ n ih =>
    intro done b h hb0 hb
    simp only [seqFrom] at h ⊢
    obtain ⟨h1, h2, h3, h4, h5⟩ := mid b done (seqFrom (b + 1) n) h
    have ih' := ih (done ++ [b]) (b + 1) (by simpa using h) (by omega) (by omega)
    rw [h5] at ih'
    refine Ev.step (fun k => by rw [laws_heldIntS.l0]) ?_
    have h6 : wrap64 (b + 1) = b + 1 := wrap_id (by omega) (by omega)
    simp only [if_pos h1, if_pos h2, h3, h4, h6, if_true]
    exact Ev.pair ih' (by omega)
theorem heldIntS_f (a : Int) (n : Nat) (h : n ≤ BM) (h0 : 0 ≤ a) (ha : a + n ≤ 4611686018427387904) : Ev (fun k => laws_heldIntS.f k (seqFrom a n) a) (a + n) := heldIntS_l0 n [] a (by simpa [seqFrom_length] using h) h0 ha
theorem markTournament_f (n : Int) (l : List Int) (a : Int) (h : l.length ≤ BM) (h0 : 0 ≤ a) (ha : a + l.length ≤ 4611686018427387904) : Ev (fun k => laws_markTournament.f k n l a) (a + l.length, seqFrom a l.length) := by
  unfold laws_markTournament.f
  exact Ev.bind (markIntS_f l a h h0 ha) (Ev.now _)
theorem heldTournament_f (m : Int) (a : Int) (n : Nat) (h : n ≤ BM) (h0 : 0 ≤ a) (ha : a + n ≤ 4611686018427387904) : Ev (fun k => laws_heldTournament.f k m (seqFrom a n) a) (a + n) := by
  unfold laws_heldTournament.f
  refine Ev.bind (heldIntS_f a n h h0 ha) ?_
  rw [if_neg (by omega)]
  exact Ev.now _
end Go.Proofs.Ytgfoeagphlkjkaa.K
namespace Go.Proofs.Ytgfoeagphlkjkaa.K
open Go.RowKit Go.Proofs.YtgfoeagphlkjkaaW.PrintWords Go.Proofs.YtgfoeagphlkjkaaW.PrintMore Go.Proofs.Ytgfoeagphlkjkaa.P
theorem filter_perm (i : Nat) : ∀ l : List Nat, l.Nodup → i ∈ l → l.Perm (i :: l.filter (fun x => decide (x ≠ i)))
  | [], _, h => by cases h
  | y :: l, hn, h => by
    obtain ⟨h1, h2⟩ := List.nodup_cons.1 hn
    by_cases c : y = i
    · subst c
      rw [List.filter_cons_of_neg (by simp), List.filter_eq_self.2 (fun x hx => by simp; exact fun e => h1 (e ▸ hx))]
    · rw [List.filter_cons_of_pos (by simpa using c)]
      have hi : i ∈ l := by
        rcases List.mem_cons.1 h with e | q
        · exact absurd e.symm c
        · exact q
      exact ((filter_perm i l h2 hi).cons y).trans (List.Perm.swap i y _)
theorem getD_ext {a b : List Int} (h : a.length = b.length) (hg : ∀ x, a.getD x 0 = b.getD x 0) : a = b := by
  apply List.ext_getElem h
  intro x h1 h2
  have := hg x
  rw [List.getD_eq_getElem?_getD, List.getD_eq_getElem?_getD, List.getElem?_eq_getElem h1, List.getElem?_eq_getElem h2] at this
  exact this
theorem sets_ext {n : Nat} {a b : List Nat} (ha : Sets n a) (hb : Sets n b) (h : ∀ x y, nb a x y = nb b x y) : a = b := by
  apply List.ext_getElem (by rw [ha.len, hb.len])
  intro x h1 h2
  have e1 : a[x] = a.getD x 0 := by rw [List.getD_eq_getElem?_getD, List.getElem?_eq_getElem h1]; rfl
  have e2 : b[x] = b.getD x 0 := by rw [List.getD_eq_getElem?_getD, List.getElem?_eq_getElem h2]; rfl
  rw [e1, e2]
  exact Nat.eq_of_testBit_eq (fun y => h x y)
theorem own_ints (y : List Int) (h : y.length ≤ 1000) : spec_l1Own.f y = some y := by
  unfold spec_l1Own.f
  simp only [Option.bind_some, List.nil_append]
  rw [if_pos (by simp; omega)]
theorem beatN_length (ns : List Nat) (i j : Nat) : (beatN ns i j).length = ns.length := by simp [beatN]
theorem btIn_length (i : Nat) (M : Int) : ∀ (o : List Nat) (k : Nat) (nd : List Int) (ns : List Nat), (btIn i M o k nd ns).2.length = ns.length
  | [], _, _, _ => rfl
  | j :: o, k, nd, ns => by
    rw [btIn]
    split
    · rw [btIn_length i M o, beatN_length]
    · rw [btIn_length i M o, beatN_length]
theorem btGo_length : ∀ (f : Nat) (nd : List Int) (ns left : List Nat), (btGo f nd ns left).length = ns.length
  | 0, _, _, _ => rfl
  | f + 1, nd, ns, left => by rw [btGo, btGo_length f, btIn_length]
theorem sb_l0 {n : Nat} (h8 : n ≤ 8) (x0 : List Int) (hx0 : x0.length = n) : ∀ d (gs left : List Nat) (nd : List Int) (ns : List Nat), left.length = d → gs.length + d = n → nd.length = n → Sets n ns → (∀ x, x < n → (x ∉ gs ↔ x ∈ left)) → (∀ x ∈ left, x < n) → left.Pairwise (fun a b => a < b) →
    (∀ a ∈ left, ∀ b ∈ left, nb ns a b = false) → (∀ x, -(gs.length : Int) ≤ nd.getD x 0 ∧ nd.getD x 0 ≤ 60) → okL d (isortI (left.map fun x => nd.getD x 0)) = true →
    Ev (fun k => spec_BuildTournament.l0 k x0 nd (ints gs) n (ints ns)) ((n : Int), ints (btGo d nd ns left), true) := by
  intro d
  induction d with
  | zero =>
    intro gs left nd ns _ hg _ _ _ _ _ _ _ _
    refine Ev.step (fun k => ?_) (Ev.now _)
    rw [spec_BuildTournament.l0, if_neg (by rw [ints_length, hx0]; omega)]
    rfl
  | succ d ih =>
    intro gs left nd ns hlen hg hnd hS hM hL hP hZ hB hok
    have hne : left ≠ [] := fun e => by rw [e] at hlen; simp at hlen
    have hNd : left.Nodup := hP.imp (fun h => Nat.ne_of_lt h)
    obtain ⟨i, hi⟩ : ∃ i, i = btFirst nd left := ⟨_, rfl⟩
    obtain ⟨f1, f2⟩ := btFirst_best nd left hne hP
    rw [← hi] at f1 f2
    have hin : i < n := hL i f1
    obtain ⟨left', hl'⟩ : ∃ left', left' = left.filter (fun x => decide (x ≠ i)) := ⟨_, rfl⟩
    obtain ⟨o, ho⟩ : ∃ o, o = btOrd nd left' := ⟨_, rfl⟩
    have hperm : left.Perm (i :: left') := by rw [hl']; exact filter_perm i left hNd f1
    have hop : o.Perm left' := by rw [ho]; exact btOrd_perm nd left'
    have hos : o.Pairwise (ahead nd false) := by rw [ho]; exact btOrd_sorted nd left'
    have hm' : ∀ x, x ∈ left' ↔ x ∈ left ∧ x ≠ i := fun x => by rw [hl', List.mem_filter]; simp
    have hlen' : left'.length = d := by have := hperm.length_eq; simp at this; omega
    have holen : o.length = d := by rw [hop.length_eq, hlen']
    have hNd' : left'.Nodup := by rw [hl']; exact hNd.sublist List.filter_sublist
    have hNo : o.Nodup := hop.nodup_iff.2 hNd'
    have hmo : ∀ x, x ∈ o ↔ x ∈ left ∧ x ≠ i := fun x => by rw [hop.mem_iff, hm']
    obtain ⟨M, hMd⟩ : ∃ M, M = nd.getD i 0 := ⟨_, rfl⟩
    -- the scores that rise
    have hsrt : isortI (left.map fun x => nd.getD x 0) = o.map (fun x => nd.getD x 0) ++ [M] := by
      refine isortI_eq ?_ ?_
      · have : (left.map fun x => nd.getD x 0).Perm ((o ++ [i]).map fun x => nd.getD x 0) := (hperm.trans ((hop.symm.cons i).trans (List.perm_append_singleton i o).symm)).map _
        rw [List.map_append] at this
        rw [hMd]
        exact this
      · rw [List.pairwise_append]
        refine ⟨?_, by simp, fun a ha b hb => ?_⟩
        · rw [List.pairwise_map]
          exact hos.imp (fun h => by unfold ahead at h; simp only [Bool.false_eq_true, if_false] at h; omega)
        · obtain ⟨x, hx, rfl⟩ := List.mem_map.1 ha
          rw [List.mem_singleton.1 hb, hMd]
          have := f2 x ((hmo x).1 hx).1
          unfold ahead at this; simp only [if_true] at this; omega
    rw [hsrt, okL, List.getLastD_concat, List.dropLast_concat, Bool.and_eq_true, decide_eq_true_eq, List.length_map] at hok
    obtain ⟨k1, k2⟩ := hok
    -- what the games make
    have hio : i ∉ o := fun h => ((hmo i).1 h).2 rfl
    have hoL : ∀ x ∈ o, x < n := fun x hx => hL x ((hmo x).1 hx).1
    obtain ⟨c1, c2, c3, c4⟩ := btIn_char (n := n) i M hin o 0 nd ns hNo hio hoL hnd hS (fun x hx => ⟨hZ i f1 x ((hmo x).1 hx).1, hZ x ((hmo x).1 hx).1 i f1⟩)
    have ht : (M - ((0 : Nat) : Int)).toNat = M.toNat := by congr 1; omega
    rw [ht] at c3 c4
    obtain ⟨B, hBd⟩ : ∃ B, B = gs ++ [i] ++ o.take M.toNat := ⟨_, rfl⟩
    have hkey : ∀ x, (0 ≤ x ∧ x < n ∧ x ∉ B) ↔ x ∈ o.drop M.toNat := by
      intro x
      rw [hBd, List.mem_append, List.mem_append, List.mem_singleton, not_or, not_or]
      constructor
      · rintro ⟨-, h2, ⟨h3, h4⟩, h5⟩
        have : x ∈ o := (hmo x).2 ⟨(hM x h2).1 h3, h4⟩
        rw [← List.take_append_drop M.toNat o, List.mem_append] at this
        rcases this with q | q
        · exact absurd q h5
        · exact q
      · intro h
        have hx : x ∈ o := List.mem_of_mem_drop h
        obtain ⟨e1, e2⟩ := (hmo x).1 hx
        refine ⟨Nat.zero_le _, hoL x hx, ⟨(hM x (hoL x hx)).2 e1, e2⟩, fun q => ?_⟩
        have hN2 := hNo
        rw [← List.take_append_drop M.toNat o, List.nodup_append] at hN2
        exact hN2.2.2 x q x h rfl
    have htl : ∀ x ∈ o.take M.toNat, x < n := fun x hx => hoL x (List.mem_of_mem_take hx)
    obtain ⟨s1, s2⟩ := setOr_char i hin (o.take M.toNat) ns htl hS
    obtain ⟨w1, w2, w3, w4⟩ := winF_char B i hin n 0 nd (setOr i (o.take M.toNat) ns) (by omega) hnd s1
    have eq1 : (winF B i n 0 nd (setOr i (o.take M.toNat) ns)).1 = (btIn i M o 0 nd ns).1 := getD_ext (by rw [w1, c1]) (fun x => by
      rw [w3, c3]
      by_cases c : x ∈ o.drop M.toNat
      · rw [if_pos c, if_pos ((hkey x).2 c)]
      · rw [if_neg c, if_neg (fun h => c ((hkey x).1 h))])
    have eq2 : (winF B i n 0 nd (setOr i (o.take M.toNat) ns)).2 = (btIn i M o 0 nd ns).2 := sets_ext w2 c2 (fun a b => by
      rw [w4, c4, s2, Bool.or_assoc]
      have : decide (0 ≤ a ∧ a < n ∧ a ∉ B) = decide (a ∈ o.drop M.toNat) := by rw [decide_eq_decide]; exact hkey a
      rw [this])
    -- the rest
    have hrest := ih (gs ++ [i]) left' (btIn i M o 0 nd ns).1 (btIn i M o 0 nd ns).2 hlen' (by simp; omega) c1 c2 (fun x hx => by
        rw [hm', ← hM x hx]; simp [not_or]) (fun x hx => hL x ((hm' x).1 hx).1) (by rw [hl']; exact hP.sublist List.filter_sublist) (fun a ha b hb => by
        obtain ⟨a1, a2⟩ := (hm' a).1 ha
        obtain ⟨b1, b2⟩ := (hm' b).1 hb
        rw [c4, hZ a a1 b b1]; simp [a2, b2]) (fun x => by
        rw [c3]
        have := hB x
        simp only [List.length_append, List.length_singleton]
        split <;> omega) (by
        rw [← k2]
        congr 1
        apply isortI_congr
        have e1 : (left'.map fun x => (btIn i M o 0 nd ns).1.getD x 0).Perm (o.map fun x => (btIn i M o 0 nd ns).1.getD x 0) := hop.symm.map _
        refine e1.trans (List.Perm.of_eq ?_)
        have e2 : (o.map fun x => (btIn i M o 0 nd ns).1.getD x 0) = ((o.take M.toNat) ++ (o.drop M.toNat)).map fun x => (btIn i M o 0 nd ns).1.getD x 0 := by rw [List.take_append_drop]
        rw [e2, List.map_append, ← List.map_take, ← List.map_drop, List.map_map]
        congr 1
        · apply List.map_congr_left
          intro x hx
          rw [c3, if_neg]
          intro q
          have hN2 := hNo
          rw [← List.take_append_drop M.toNat o, List.nodup_append] at hN2
          exact hN2.2.2 x hx x q rfl
        · apply List.map_congr_left
          intro x hx
          rw [c3, if_pos hx]
          rfl)
    have hgo : btGo (d + 1) nd ns left = btGo d (btIn i M o 0 nd ns).1 (btIn i M o 0 nd ns).2 left' := by
      rw [btGo, ← hi, ← hl', ← ho, ← hMd]
    rw [hgo]
    have hgi : i ∉ gs := (hM i hin).2 f1
    have hnx : Ev (fun k => spec_scNext.f k nd (ints gs) true) (i : Int) :=
      scNext_f nd gs true (by omega) (by omega) i (by omega) hgi (fun x hx hxg => f2 x ((hM x (by omega)).1 hxg))
    have ei : ints gs ++ [(i : Int)] = ints (gs ++ [i]) := by rw [ints_append]; rfl
    have hown : spec_l1Own.f (ints (gs ++ [i])) = some (ints (gs ++ [i])) := own_ints _ (by rw [ints_length]; simp; omega)
    refine Ev.step (fun k => by rw [spec_BuildTournament.l0, if_pos (show ((ints gs).length : Int) < (x0.length : Int) by rw [ints_length, hx0]; omega)]) (Ev.bind hnx ?_)
    simp only [if_pos (show (ints gs).length < 17592186044416 by rw [ints_length]; omega), Option.bind_some, ei, hown, if_pos (show (0 : Int) ≤ (i : Int) by omega), if_pos (show (i : Int) < (nd.length : Int) by omega), rdI, ← hMd]
    have hfin : Ev (fun k => spec_BuildTournament.l1 k x0 nd (ints (gs ++ [i])) i (ints ((gs ++ [i]) ++ [])) M n (ints ns)) ((n : Int), ints (btGo d (btIn i M o 0 nd ns).1 (btIn i M o 0 nd ns).2 left'), true) := by
      refine sb_l1 x0 nd (ints (gs ++ [i])) (gs ++ [i]) i hin hnd h8 _ o [] M ns hS hos (fun x hx => ?_) hNo hoL (by omega) (by have := (hB i).2; omega) (by simp; omega) ?_
      · rw [List.append_nil, List.mem_append, not_or, List.mem_singleton, hmo, hM x hx]
      · rw [List.append_nil, ← hBd]
        refine sb_l2 x0 (ints (gs ++ [i])) B i hin h8 (by rw [hBd]; simp; omega) _ n 0 nd _ (by omega) hnd s1 (fun x _ => by have := hB x; omega) ?_
        rw [eq1, eq2]
        exact hrest
    rw [List.append_nil] at hfin
    exact hfin
theorem buildT_both (l : List Int) (hl : l.length ≤ BM) : ∃ r : Int × List Int × Bool, Ev (fun k => spec_BuildTournament.f k l) r ∧ Ev (fun k => impl_BuildTournament.f k l) r ∧ r.2.1.length ≤ 8 := by
  unfold spec_BuildTournament.f impl_BuildTournament.f
  have hg := liGood_f l hl
  have hi := IsList_f l hl
  have hfail : Ev (fun k => spec_BuildTournament.j0 k l true) (0, [], false) := Ev.step (fun k => by rw [spec_BuildTournament.j0, if_pos rfl]) (Ev.now _)
  cases hb : isList l with
  | false =>
    rw [hb] at hg hi
    refine ⟨(0, [], false), Ev.bind hg ?_, Ev.bind hi ?_, by simp⟩
    · simp only [Bool.false_eq_true, if_false]; exact hfail
    · simp only [Bool.false_eq_true, if_false]; exact Ev.now _
  | true =>
    rw [hb] at hg hi
    obtain ⟨⟨h1, h8⟩, h3⟩ := isList_iff hb
    by_cases hr : refS l = 0
    · refine ⟨((l.length : Int), ints (btGo l.length l (List.replicate l.length 0) (List.range l.length)), true), Ev.bind hg ?_, Ev.bind hi ?_, ?_⟩
      · simp only [if_true]
        refine Ev.bind (scRefuses_f hb) ?_
        have e : decide (refS l > 0) = false := by rw [hr]; rfl
        simp only [e]
        have hz : Sets l.length (List.replicate l.length 0) := ⟨h1, h8, by simp, fun x hx => by rw [(List.mem_replicate.1 hx).2]; exact Nat.two_pow_pos _⟩
        have main := sb_l0 h8 l rfl l.length [] (List.range l.length) l (List.replicate l.length 0) (by simp) (by simp) rfl hz (fun x hx => by simp [hx]) (fun x hx => List.mem_range.1 hx) List.pairwise_lt_range
          (fun a ha b hb => by
            unfold nb
            rw [List.getD_eq_getElem?_getD, List.getElem?_replicate, if_pos (List.mem_range.1 ha), Option.getD_some, Nat.zero_testBit]) (fun x => by
            rw [List.getD_eq_getElem?_getD]
            cases hx : l[x]? with
            | none => simp
            | some y => have := h3 y (List.mem_of_getElem? hx); simp; omega) (by
            have em : ((List.range l.length).map fun x => l.getD x 0) = l := by
              apply getD_ext (by simp)
              intro x
              rw [List.getD_eq_getElem?_getD, List.getElem?_map]
              by_cases hx : x < l.length
              · rw [List.getElem?_range hx]; rfl
              · rw [List.getElem?_eq_none (by simp; omega), List.getD_eq_getElem?_getD, List.getElem?_eq_none (by omega)]; rfl
            rw [em]
            exact okL_start l h8 (fun x hx => (h3 x hx).1) hr)
        refine Ev.step (fun k => ?_) main
        rw [spec_BuildTournament.j0, if_neg (by decide), if_pos (by omega), if_pos (by omega), own_ints l (by omega), Option.bind_some, Int.toNat_natCast]
        have e2 : ints (List.replicate l.length 0) = List.replicate l.length 0 := by simp [ints]
        rw [e2]
        rfl
      · simp only [if_true, refusingScores_f hb, Option.bind_some, if_pos hr]
        rw [if_pos ⟨h1, h8, h3⟩]
        exact Ev.now _
      · show (ints _).length ≤ 8
        rw [ints_length, btGo_length, List.length_replicate]
        exact h8
    · refine ⟨(0, [], false), Ev.bind hg ?_, Ev.bind hi ?_, by simp⟩
      · simp only [if_true]
        refine Ev.bind (scRefuses_f hb) ?_
        have := refS_nonneg l
        have e : decide (refS l > 0) = true := by simp; omega
        simp only [e]
        exact hfail
      · simp only [if_true, refusingScores_f hb, Option.bind_some, if_neg hr]
        exact Ev.now _
end Go.Proofs.Ytgfoeagphlkjkaa.K
namespace Go.Proofs.Ytgfoeagphlkjkaa.Pure
open Go.RowKit Go.Proofs.YtgfoeagphlkjkaaW.PrintWords Go.Proofs.Ytgfoeagphlkjkaa.P Go.Proofs.Ytgfoeagphlkjkaa.K
theorem FnExactBuildTournament : laws_FnExactBuildTournament.Pure := by
  intro l0 _ hb _
  have h := le_BM hb
  refine Ev.rounds (g := fun k => laws_FnExactBuildTournament.f k l0) ?_
  unfold laws_FnExactBuildTournament.f
  refine Ev.ite (fun _ => Ev.now _) (fun hl => ?_)
  obtain ⟨⟨n, m, ok⟩, hs, hi, hm⟩ := buildT_both l0 h
  simp only at hm
  have hm' : m.length ≤ BM := by simp only [BM]; omega
  refine Ev.bind (toIntS_f l0 h) (Ev.bind hs (Ev.bind (toIntS_f l0 h) (Ev.bind hi (Ev.bind (eqTournament_same n m hm') ?_))))
  simp only [if_true, bne_self_eq_false]
  refine Ev.step (fun k => by rw [laws_FnExactBuildTournament.j0]) ?_
  simp only [Bool.false_eq_true, if_false]
  refine Ev.bind (toIntS_f l0 h) (Ev.bind (eqIntS_same l0 h) ?_)
  simp only [if_true]
  refine Ev.bind (markIntS_f l0 1 h (by omega) (by simp only [BM] at h; omega)) ?_
  have e1 : ¬ (1 + (l0.length : Int) < 0) := by omega
  simp only [if_neg e1]
  refine Ev.bind (eqTournament_same n m hm') ?_
  simp only [if_true, bne_self_eq_false]
  refine Ev.step (fun k => by rw [laws_FnExactBuildTournament.j1]) ?_
  simp only [Bool.false_eq_true, if_false]
  refine Ev.bind (markTournament_f n m 1 hm' (by omega) (by omega)) ?_
  refine Ev.bind (heldTournament_f n 1 m.length hm' (by omega) (by omega)) ?_
  have e2 : ¬ (1 + (m.length : Int) < 0) := by omega
  simp only [if_neg e2, if_true]
  refine Ev.bind (toIntS_f l0 h) (Ev.bind hi (Ev.bind (eqTournament_same n m hm') ?_))
  simp only [if_true, bne_self_eq_false]
  refine Ev.step (fun k => by rw [laws_FnExactBuildTournament.j2]) ?_
  simp only [Bool.false_eq_true, if_false]
  refine Ev.bind (heldTournament_f n 1 m.length hm' (by omega) (by omega)) ?_
  simp only [if_neg e2, if_true]
  exact Ev.now true
end Go.Proofs.Ytgfoeagphlkjkaa.Pure
namespace Go.Proofs.Ytgfoeagphlkjkaa.fnExactBuildTournament
open Go.ChangeShapes Go.WideShapes Go.ChangeAt Go.RowKit
open Go.ChangeMaps (open_string shut_string)
theorem own : ownKnob Try.prog.godebug = none := by kernel_rfl
theorem laidOut : laidOutB Try.prog = true := by kernel_rfl
def IsRow (k : IntKind) (w : World) (a : Option Addr) (len cap : Nat) (zs : List Int) : Prop :=
  (a = none ∧ len = 0 ∧ cap = 0 ∧ zs = []) ∨
  ∃ x, a = some x ∧ len ≤ cap ∧ cap ≤ maxLen ∧ zs.length = cap ∧ (∀ i, i < zs.length → w.cell? (x.add i) = some (.int k (zs.getD i 0))) ∧ ∀ n ∈ zs, (Lit.int k n).wf = true
set_option maxRecDepth 100000 in
theorem lifted (os : Os) (started : os.Started) (H : Type) (enc : TypeId × Value → H) :
    ReturnsInHanded {} Try.checked os 6 .any (Rows.fnExactBuildTournamentSpec.pre6 enc Try.prog Try.f6 Rows.fnExactBuildTournamentRow.domain false) (Rows.fnExactBuildTournamentSpec.post enc Try.prog Try.f6 false true false false) := by
  refine returnsInHanded_of_change_sized (C := Try.checked) own started (by kernel_rfl) Try.func6
    (ChangeSpec.witness6 (enc := enc) (C := Try.checked) false ⟨#[], #[.slice none 0 0], []⟩ 8 (by kernel_rfl) (by kernel_rfl) (by kernel_rfl) (by kernel_rfl)) ?_
  intro W base args ds gs before hval0 hW hcnd hsz0 _
  have hsz : (DataW.weightsEach Try.prog (Try.f6.params.toList ++ Rows.fnExactBuildTournamentSpec.plain.varTypes Try.prog) (ds ++ gs)).all (· ≤ reachBytes) = true := hsz0
  have hval : ∀ (j : Nat) t v, Try.f6.params[j]? = some t → args[j]? = some v → Value.okWide Try.prog W .any base t v := hval0
  have hW' := hW
  obtain ⟨p, q, hA0, hV, rfl, hfz, hnd⟩ := hW
  have hA : DataW.TrodAll enc Try.prog W 0 (fun _ => true) true Try.f6.params.toList args.toList ds p := hA0
  rw [Try.params6] at hA hval hsz
  obtain ⟨v0, vs0, d0, ds0, p0, q0, hargs, rfl, rfl, h0, r0⟩ := trodAll_cons hA
  obtain ⟨rfl, rfl, rfl⟩ := trodAll_nil r0
  obtain rfl : args = #[v0] := by cases args; simp_all
  obtain ⟨rfl, rfl⟩ := trodVars_none hV
  obtain ⟨a0, len0, cap0, rfl⟩ := okWide_slice Try.underlying22 (hval 0 22 v0 rfl rfl)
  have k0 := h0
  have lt0 : ∀ x ∈ p0, x.block < W.heap.size := by obtain ⟨m, hm⟩ := k0; exact DataW.trod_lt m _ _ _ hm
  obtain ⟨z0, w0⟩ : ∃ zs, IsRow .i64 W a0 len0 cap0 zs := by
    obtain ⟨fuel, hf⟩ := h0
    rcases open_ints Try.underlying22 Try.underlying3 (by kernel_rfl) hf with ⟨hcs, _⟩ | ⟨x, l, c, zs, hcs, _, hl, hm, hz, _, hcell, hwz⟩
    · simp [Value.cells] at hcs
      obtain ⟨rfl, rfl, rfl⟩ := hcs
      exact ⟨[], .inl ⟨rfl, rfl, rfl, rfl⟩⟩
    · simp [Value.cells] at hcs
      obtain ⟨rfl, rfl, rfl⟩ := hcs
      exact ⟨zs, .inr ⟨_, rfl, hl, hm, by simpa using hz, hcell, hwz⟩⟩
  have y0 : len0 * 8 ≤ 140737488351232 := Go.Proofs.YtgfoeagphlkjkaaW.PrintWords.sized_ints hsz (j := 0) (t := 22) rfl rfl Try.underlying22 Try.underlying3 (by kernel_rfl) (by kernel_rfl) h0
  clear hA0 hval0 hsz0 hsz
  refine (P.laws_FnExactBuildTournament.walk Pure.FnExactBuildTournament a0 len0 cap0 z0 W w0 y0).mono fun e W' ⟨he, bel⟩ => ?_
  subst he
  exact ⟨_, rfl, _, _, _, [], _, [], hW', trodAll_mk1 (shut_bool Try.underlying4 _), (trodAll_cons_mk (Below.trod laidOut (by kernel_rfl) (of_decide_eq_true (by kernel_rfl)) k0 bel lt0) trodAll_mk0), rfl, bel.frame _, fun h => by cases h⟩
set_option maxHeartbeats 4000000 in
theorem joined : joinedFacts Try.prog 6 Try.f6 Rows.fnExactBuildTournamentSpec Rows.fnExactBuildTournamentRow = true := by
  unfold joinedFacts
  repeat' (with_reducible refine (Bool.and_eq_true _ _).mpr ⟨?_, ?_⟩)
  all_goals first
    | (with_reducible exact Head.mayEnter)
    | ((with_reducible rw [Head.lifts]); rfl)
    | ((with_reducible rw [Head.make]); rfl)
    | (as_aux_lemma => kernel_rfl)
theorem over : Rows.fnExactBuildTournamentRow.holds Try.pinned (OpenSpec.ofChange Rows.fnExactBuildTournamentSpec) :=
  OpenClaim.holds_of_wide 6 Try.f6 rfl rfl rfl rfl rfl rfl rfl ⟨rfl, rfl, rfl, rfl, rfl⟩ rfl rfl rfl rfl rfl (by kernel_rfl) Try.func6 joined
    (of_decide_eq_true (by kernel_rfl)) (by unfold Func.isWrapper; first | (rw [if_pos (by decide +kernel)]; kernel_rfl) | (rw [if_neg (by decide +kernel)]; exact ⟨rfl, rfl⟩))
    (fun os started H enc _ => lifted os started H enc)
theorem proved : Rows.FnExactBuildTournamentSaid := over
#print axioms proved
end Go.Proofs.Ytgfoeagphlkjkaa.fnExactBuildTournament
namespace Go.Proofs.Ytgfoeagphlkjkaa
theorem fnExactBuildTournament_holds : Rows.FnExactBuildTournamentSaid := fnExactBuildTournament.proved
end Go.Proofs.Ytgfoeagphlkjkaa
