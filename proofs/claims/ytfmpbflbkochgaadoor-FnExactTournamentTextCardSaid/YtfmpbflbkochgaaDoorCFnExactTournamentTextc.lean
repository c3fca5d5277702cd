/- The row of the law FnExactTournamentText: contracts and plain lemmas for the law FnExactTournamentText, part 3 of 3 (what the Go functions answer). -/
import Derived.ProofKit
import Derived.OpenShut
import Derived.Deep.Matrix
import Derived.Lib.SmallJoins
import Derived.Test.YtfmpbflbkochgaaDoorRows
import Derived.Test.YtfmpbflbkochgaaDoorCards
import Derived.Test.YtfmpbflbkochgaaDoorTie
import Derived.Deep.DeepHandedRow
import Derived.Lib.LaidTab
import Derived.Stop.LaidErr
import Derived.WalkKit
import Derived.ShutString
import Derived.ChangeOld
import Derived.Below
import Derived.SizedLaws
import Derived.Test.YtfmpbflbkochgaaDoorCFnExactTournamentTexta
import Derived.Test.YtfmpbflbkochgaaDoorCFnExactTournamentTextb
set_option linter.unusedVariables false
set_option linter.unusedSimpArgs false
namespace Go.Proofs.YtfmpbflbkochgaaDoor.P
open Go.RowKit Go.Proofs.YtfmpbflbkochgaaDoorW.PrintWords Go.Proofs.YtfmpbflbkochgaaDoorW.PrintLast Go.Proofs.YtfmpbflbkochgaaDoorW.PrintMore
attribute [local go_sem] max2_int min2_int max_two min_two max_three min_three max_four min_four
def laws_FnExactTournamentText.j0 : Nat → Bool → Int → List Int → Int → List Int → Option (Bool)
 | 0, _, _, _, _, _ => none
 | k + 1, x34, x158000, x158001, x170000, x170001 => if x34 = true then (some false) else ((laws_toTournament.f k x158000 x158001).bind fun bt172 => ((laws_eqTournament.f k x170000 x170001 bt172.1 bt172.2).bind fun t176 => (if t176 = true then (some true) else (some false))))
def laws_FnExactTournamentText.f (k : Nat) (a0_0 : Int) (l0_1 : List Int) : Option (Bool) := (laws_szTournament.f a0_0 l0_1 1048576).bind fun t158 => (if t158 < 0 then (some true) else ((laws_toTournament.f k a0_0 l0_1).bind fun bt159 => ((spec_TournamentText.f k bt159.1 bt159.2).bind fun bt163 => ((laws_toTournament.f k a0_0 l0_1).bind fun bt165 => ((impl_TournamentText.f k bt165.1 bt165.2).bind fun bt170 => (if bt170.1.toList = bt163.1.toList then (laws_FnExactTournamentText.j0 k (bt170.2 != bt163.2) a0_0 l0_1 bt165.1 bt165.2) else (laws_FnExactTournamentText.j0 k true a0_0 l0_1 bt165.1 bt165.2)))))))
theorem laws_FnExactTournamentText.mono_l : ∀ k, (∀ y0 y1 y2 y3 y4, LeO (laws_FnExactTournamentText.j0 k y0 y1 y2 y3 y4) (laws_FnExactTournamentText.j0 (k + 1) y0 y1 y2 y3 y4))
 | 0 => fun _ _ _ _ _ r h => by simp [laws_FnExactTournamentText.j0] at h
 | k + 1 => by
  have ih0 := laws_FnExactTournamentText.mono_l k
  ·
   intro y0 y1 y2 y3 y4
   unfold laws_FnExactTournamentText.j0
   repeat' first
   | (with_reducible exact ih0 _ _ _ _ _)
   | (with_reducible exact impl_TournamentText.mono _ _ _)
   | (with_reducible exact laws_eqTournament.mono _ _ _ _ _)
   | (with_reducible exact laws_toTournament.mono _ _ _)
   | (with_reducible exact spec_TournamentText.mono _ _ _)
   | (with_reducible exact LeO.refl _)
   | (with_reducible exact LeO.none _)
   | (with_reducible refine LeO.ite ?_ ?_)
   | (with_reducible refine LeO.bind ?_ (fun _ => ?_))
   | exact ih0 _ _ _ _ _
   | exact impl_TournamentText.mono _ _ _
   | exact laws_eqTournament.mono _ _ _ _ _
   | exact laws_toTournament.mono _ _ _
   | exact spec_TournamentText.mono _ _ _
   | exact LeO.none _
   | refine LeO.ite ?_ ?_
   | refine LeO.bind ?_ (fun _ => ?_)
theorem laws_FnExactTournamentText.mono : ∀ a0 a1 k, LeO (laws_FnExactTournamentText.f k a0 a1) (laws_FnExactTournamentText.f (k + 1) a0 a1) := by
 intro a0 a1 k
 have ih0 := laws_FnExactTournamentText.mono_l k
 unfold laws_FnExactTournamentText.f
 repeat' first
   | (with_reducible exact ih0 _ _ _ _ _)
   | (with_reducible exact impl_TournamentText.mono _ _ _)
   | (with_reducible exact laws_eqTournament.mono _ _ _ _ _)
   | (with_reducible exact laws_toTournament.mono _ _ _)
   | (with_reducible exact spec_TournamentText.mono _ _ _)
   | (with_reducible exact LeO.refl _)
   | (with_reducible exact LeO.none _)
   | (with_reducible refine LeO.ite ?_ ?_)
   | (with_reducible refine LeO.bind ?_ (fun _ => ?_))
   | exact ih0 _ _ _ _ _
   | exact impl_TournamentText.mono _ _ _
   | exact laws_eqTournament.mono _ _ _ _ _
   | exact laws_toTournament.mono _ _ _
   | exact spec_TournamentText.mono _ _ _
   | exact LeO.none _
   | refine LeO.ite ?_ ?_
   | refine LeO.bind ?_ (fun _ => ?_)
set_option maxHeartbeats 8000000 in
set_option maxRecDepth 100000 in
theorem laws_FnExactTournamentText.calls (k : Nat) (a0_0 : Int) (A0_1 : Option Addr) (c0_1 : Nat) (l0_1 : List Int) (r : Bool) (w : World) (hr0_1 : Kd.C (Kd.int .i64) w A0_1 l0_1.length l0_1) (hc0_1 : l0_1.length ≤ c0_1) (h : laws_FnExactTournamentText.f k a0_0 l0_1 = some r) :
  Calls Tryd.prog 3 #[.agg #[.int .i64 a0_0, .slice A0_1 l0_1.length c0_1]] w fun e w' => e = .returned (.bool r) ∧ Below w.heap.size w w' := by
 have hu24 := Tryd.underlying24
 have hu28 := Tryd.underlying28
 have HR0_1 := Aside0.mk hr0_1
 have HC0_1 := Aside0.mk hc0_1
 clear hr0_1 hc0_1
 have HB := Aside0.mk (Below.refl w.heap.size w)
 have H : ((laws_szTournament.f a0_0 l0_1 1048576).bind fun t158 => (if t158 < 0 then (some true) else ((laws_toTournament.f k a0_0 l0_1).bind fun bt159 => ((spec_TournamentText.f k bt159.1 bt159.2).bind fun bt163 => ((laws_toTournament.f k a0_0 l0_1).bind fun bt165 => ((impl_TournamentText.f k bt165.1 bt165.2).bind fun bt170 => (if bt170.1.toList = bt163.1.toList then (laws_FnExactTournamentText.j0 k (bt170.2 != bt163.2) a0_0 l0_1 bt165.1 bt165.2) else (laws_FnExactTournamentText.j0 k true a0_0 l0_1 bt165.1 bt165.2)))))))) = some r := h
 clear h
 replace H := Option.bind_eq_some_iff.mp H
 obtain ⟨t158, A20, H⟩ := H
 replace H : (if t158 < 0 then (some true) else ((laws_toTournament.f k a0_0 l0_1).bind fun bt159 => ((spec_TournamentText.f k bt159.1 bt159.2).bind fun bt163 => ((laws_toTournament.f k a0_0 l0_1).bind fun bt165 => ((impl_TournamentText.f k bt165.1 bt165.2).bind fun bt170 => (if bt170.1.toList = bt163.1.toList then (laws_FnExactTournamentText.j0 k (bt170.2 != bt163.2) a0_0 l0_1 bt165.1 bt165.2) else (laws_FnExactTournamentText.j0 k true a0_0 l0_1 bt165.1 bt165.2))))))) = some r := H
 have A2 := Aside0.mk A20
 clear A20
 by_cases c3 : t158 < 0
 ·
  rw [if_pos c3] at H
  have c3b0 : decide (t158 < 0) = true := decide_eq_true c3
  clear c3
  obtain rfl := Option.some.inj H
  go_enter Tryd.func3, Tryd.ntmps3
  go_wp2_with (first | ((with_reducible refine gate_dst (N := 1) rfl ?_); refine box_event ?hg (N := 1) ?hd (cs := #[.int .i64 a0_0, .slice A0_1 l0_1.length c0_1]) (t := 24) ?hr ?_; (case hd => rfl); (case hg => rfl); (case hr => first | (go_simp; done) | (go_simp; rfl)); intro gb157 hg w4 hbox hb; have n0_ := Aside0.mk (below_step (by repeat (first | (with_reducible first | exact HB.out | apply below_alloc | apply pw_below_drewN | apply below_drew1))) hb); have n1_ := Aside0.mk (hbox); have n2_ := Aside0.mk ((by rw [hg]; exact (below_size (by repeat (first | (with_reducible first | exact HB.out | apply below_alloc | apply pw_below_drewN | apply below_drew1)))) : w.heap.size ≤ gb157)); have n3_ := Aside0.mk ((by rw [hg]; exact (below_size (by repeat (first | (with_reducible first | exact HB.out | apply below_alloc | apply pw_below_drewN | apply below_drew1)))) : w.heap.size ≤ gb157)); clear HB; have HB := n0_; have BK157 := n1_; have GW157 := n2_; have GE157 := n3_; clear n0_ n1_ n2_ n3_; clear hb hbox hg; have hcz5_0 : w4.cell? ⟨gb157, 0, none⟩ = some (.int .i64 a0_0) := (blk_cell BK157.out 0).trans rfl; have hcz5_1 : w4.cell? ⟨gb157, 1, none⟩ = some (.slice A0_1 l0_1.length c0_1) := (blk_cell BK157.out 1).trans rfl; have hfz5_0 := blk_frozen BK157.out 0; have hfz5_1 := blk_frozen BK157.out 1) | ((with_reducible refine gate_callee (f := 6) rfl ?_); refine goesL_ (some 11) rfl rfl Tryd.func6 (by kernel_rfl) rfl #[.agg #[.int .i64 a0_0, .slice A0_1 l0_1.length c0_1], .int .i64 1048576] rfl (by (try simp only [List.map_toArray, List.map_cons, List.map_nil]); first | done | rfl) ?_; (with_reducible refine (laws_szTournament.calls a0_0 _ _ l0_1 1048576 t158 _ ?side1 ?side2 A2.out).mono ?_); (case side1 => repeat (first | exact (Kd.C_below HR0_1.out HB.out) | (with_reducible refine Kd.C_alloc ?_ _) | (with_reducible refine Kd.C_drewN ?_ _) | (with_reducible refine Kd.C_drew ?_))); (case side2 => exact HC0_1.out); rintro e w6 ⟨rfl, hb⟩; refine ⟨_, rfl, ?_⟩; have n0_ := Aside0.mk (blk_below (g := gb157) (o := .cells #[.int .i64 a0_0, .slice A0_1 l0_1.length c0_1] 24 (0, 0)) (by (with_reducible repeat (first | refine blk_drewN ?_ _ | refine blk_drew ?_ | refine blk_alloc ?_ _)); exact BK157.out) hb); have n1_ := Aside0.mk (below_step (by repeat (first | (with_reducible first | exact HB.out | apply below_alloc | apply pw_below_drewN | apply below_drew1 | refine below_set ?_ GE157.out) | exact HB.out)) hb); clear BK157; clear HB; have BK157 := n0_; have HB := n1_; clear n0_ n1_; (try clear hb); (try clear hb2); (try clear hk); (try clear hi)))
  go_ret
  exact ⟨by first | rfl | (simp [errW_none, errW_some] <;> rfl) | (simp [*, errW_none, errW_some] <;> rfl), by repeat (first | (with_reducible first | exact HB.out | apply below_alloc | apply pw_below_drewN | apply below_drew1 | refine below_set ?_ GE157.out) | exact HB.out)⟩
 ·
  rw [if_neg c3] at H
  have c3b0 : decide (t158 < 0) = false := decide_eq_false c3
  clear c3
  replace H := Option.bind_eq_some_iff.mp H
  obtain ⟨⟨t159, t160⟩, A70, H⟩ := H
  replace H : ((spec_TournamentText.f k t159 t160).bind fun bt163 => ((laws_toTournament.f k a0_0 l0_1).bind fun bt165 => ((impl_TournamentText.f k bt165.1 bt165.2).bind fun bt170 => (if bt170.1.toList = bt163.1.toList then (laws_FnExactTournamentText.j0 k (bt170.2 != bt163.2) a0_0 l0_1 bt165.1 bt165.2) else (laws_FnExactTournamentText.j0 k true a0_0 l0_1 bt165.1 bt165.2))))) = some r := H
  have A7 := Aside0.mk A70
  clear A70
  replace H := Option.bind_eq_some_iff.mp H
  obtain ⟨⟨t163, t164⟩, A80, H⟩ := H
  replace H : ((laws_toTournament.f k a0_0 l0_1).bind fun bt165 => ((impl_TournamentText.f k bt165.1 bt165.2).bind fun bt170 => (if bt170.1.toList = t163.toList then (laws_FnExactTournamentText.j0 k (bt170.2 != t164) a0_0 l0_1 bt165.1 bt165.2) else (laws_FnExactTournamentText.j0 k true a0_0 l0_1 bt165.1 bt165.2)))) = some r := H
  have A8 := Aside0.mk A80
  clear A80
  replace H := Option.bind_eq_some_iff.mp H
  obtain ⟨⟨t165, t166⟩, A90, H⟩ := H
  replace H : ((impl_TournamentText.f k t165 t166).bind fun bt170 => (if bt170.1.toList = t163.toList then (laws_FnExactTournamentText.j0 k (bt170.2 != t164) a0_0 l0_1 t165 t166) else (laws_FnExactTournamentText.j0 k true a0_0 l0_1 t165 t166))) = some r := H
  have A9 := Aside0.mk A90
  clear A90
  replace H := Option.bind_eq_some_iff.mp H
  obtain ⟨⟨t170, t171⟩, A100, H⟩ := H
  replace H : (if t170.toList = t163.toList then (laws_FnExactTournamentText.j0 k (t171 != t164) a0_0 l0_1 t165 t166) else (laws_FnExactTournamentText.j0 k true a0_0 l0_1 t165 t166)) = some r := H
  have A10 := Aside0.mk A100
  clear A100
  have HC11 := Aside0.mk H
  clear H
  go_enter Tryd.func3, Tryd.ntmps3
  go_upto_region 8 with (first | ((with_reducible refine gate_dst (N := 1) rfl ?_); refine box_event ?hg (N := 1) ?hd (cs := #[.int .i64 a0_0, .slice A0_1 l0_1.length c0_1]) (t := 24) ?hr ?_; (case hd => rfl); (case hg => rfl); (case hr => first | (go_simp; done) | (go_simp; rfl)); intro gb157 hg w12 hbox hb; have n0_ := Aside0.mk (below_step (by repeat (first | (with_reducible first | exact HB.out | apply below_alloc | apply pw_below_drewN | apply below_drew1))) hb); have n1_ := Aside0.mk (hbox); have n2_ := Aside0.mk ((by rw [hg]; exact (below_size (by repeat (first | (with_reducible first | exact HB.out | apply below_alloc | apply pw_below_drewN | apply below_drew1)))) : w.heap.size ≤ gb157)); have n3_ := Aside0.mk ((by rw [hg]; exact (below_size (by repeat (first | (with_reducible first | exact HB.out | apply below_alloc | apply pw_below_drewN | apply below_drew1)))) : w.heap.size ≤ gb157)); clear HB; have HB := n0_; have BK157 := n1_; have GW157 := n2_; have GE157 := n3_; clear n0_ n1_ n2_ n3_; clear hb hbox hg; have hcz13_0 : w12.cell? ⟨gb157, 0, none⟩ = some (.int .i64 a0_0) := (blk_cell BK157.out 0).trans rfl; have hcz13_1 : w12.cell? ⟨gb157, 1, none⟩ = some (.slice A0_1 l0_1.length c0_1) := (blk_cell BK157.out 1).trans rfl; have hfz13_0 := blk_frozen BK157.out 0; have hfz13_1 := blk_frozen BK157.out 1) | ((with_reducible refine gate_callee (f := 6) rfl ?_); refine goesL_ (some 11) rfl rfl Tryd.func6 (by kernel_rfl) rfl #[.agg #[.int .i64 a0_0, .slice A0_1 l0_1.length c0_1], .int .i64 1048576] rfl (by (try simp only [List.map_toArray, List.map_cons, List.map_nil]); first | done | rfl) ?_; (with_reducible refine (laws_szTournament.calls a0_0 _ _ l0_1 1048576 t158 _ ?side1 ?side2 A2.out).mono ?_); (case side1 => repeat (first | exact (Kd.C_below HR0_1.out HB.out) | (with_reducible refine Kd.C_alloc ?_ _) | (with_reducible refine Kd.C_drewN ?_ _) | (with_reducible refine Kd.C_drew ?_))); (case side2 => exact HC0_1.out); rintro e w14 ⟨rfl, hb⟩; refine ⟨_, rfl, ?_⟩; have n0_ := Aside0.mk (blk_below (g := gb157) (o := .cells #[.int .i64 a0_0, .slice A0_1 l0_1.length c0_1] 24 (0, 0)) (by (with_reducible repeat (first | refine blk_drewN ?_ _ | refine blk_drew ?_ | refine blk_alloc ?_ _)); exact BK157.out) hb); have n1_ := Aside0.mk (below_step (by repeat (first | (with_reducible first | exact HB.out | apply below_alloc | apply pw_below_drewN | apply below_drew1 | refine below_set ?_ GE157.out) | exact HB.out)) hb); clear BK157; clear HB; have BK157 := n0_; have HB := n1_; clear n0_ n1_; (try clear hb); (try clear hb2); (try clear hk); (try clear hi); have hcz15_0 : w14.cell? ⟨gb157, 0, none⟩ = some (.int .i64 a0_0) := (blk_cell BK157.out 0).trans rfl; have hcz15_1 : w14.cell? ⟨gb157, 1, none⟩ = some (.slice A0_1 l0_1.length c0_1) := (blk_cell BK157.out 1).trans rfl; have hfz15_0 := blk_frozen BK157.out 0; have hfz15_1 := blk_frozen BK157.out 1) | ((with_reducible refine gate_callee (f := 8) rfl ?_); refine goesL_ (some 16) rfl rfl Tryd.func8 (by kernel_rfl) rfl #[.agg #[.int .i64 a0_0, .slice A0_1 l0_1.length c0_1]] rfl (by (try simp only [List.map_toArray, List.map_cons, List.map_nil]); first | done | rfl) ?_; (with_reducible refine (laws_toTournament.calls k a0_0 _ _ l0_1 t159 t160 _ ?side1 ?side2 A7.out).mono ?_); (case side1 => repeat (first | exact (Kd.C_below HR0_1.out HB.out) | (with_reducible refine Kd.C_alloc ?_ _) | (with_reducible refine Kd.C_drewN ?_ _) | (with_reducible refine Kd.C_drew ?_))); (case side2 => exact HC0_1.out); rintro e w16 ⟨v161, rfl, ho0, hb⟩; refine ⟨_, rfl, ?_⟩; have n0_ := Aside0.mk (Kd.R_lower ho0 (below_size (by repeat (first | (with_reducible first | exact HB.out | apply below_alloc | apply pw_below_drewN | apply below_drew1 | refine below_set ?_ GE157.out) | exact HB.out)))); have n1_ := Aside0.mk (blk_below (g := gb157) (o := .cells #[.int .i64 a0_0, .slice A0_1 l0_1.length c0_1] 24 (0, 0)) (by (with_reducible repeat (first | refine blk_drewN ?_ _ | refine blk_drew ?_ | refine blk_alloc ?_ _)); exact BK157.out) hb); have n2_ := Aside0.mk (below_step (by repeat (first | (with_reducible first | exact HB.out | apply below_alloc | apply pw_below_drewN | apply below_drew1 | refine below_set ?_ GE157.out) | exact HB.out)) hb); clear BK157; clear HB; have HO162 := n0_; have BK157 := n1_; have HB := n2_; clear n0_ n1_ n2_; (try clear hb); (try clear hb2); (try clear hk); (try clear hi); (try clear ho0); obtain ⟨Ao17, co17, eo17⟩ := Kd.R_slice HO162.out; subst eo17) | ((with_reducible refine gate_callee (f := 7) rfl ?_); refine goesL_ (some 17) rfl rfl Tryd.func7 (by kernel_rfl) rfl #[.agg #[.int .i64 t159, .slice Ao17 t160.length co17]] rfl (by (try simp only [List.map_toArray, List.map_cons, List.map_nil]); first | done | rfl) ?_; (with_reducible refine (spec_TournamentText.calls k t159 _ _ t160 t163 t164 _ ?side1 ?side2 A8.out).mono ?_); (case side1 => repeat (first | exact (Kd.R_reads' HO162.out).2.2 | (with_reducible refine Kd.C_alloc ?_ _) | (with_reducible refine Kd.C_drewN ?_ _) | (with_reducible refine Kd.C_drew ?_))); (case side2 => exact (Kd.R_reads' HO162.out).2.1); rintro e w18 ⟨rfl, hb⟩; refine ⟨_, rfl, ?_⟩; have n0_ := Aside0.mk (Kd.R_below (by (with_reducible repeat (first | apply Kd.R_alloc | apply Kd.R_drewN | apply Kd.R_drew)); exact HO162.out) hb); have n1_ := Aside0.mk (blk_below (g := gb157) (o := .cells #[.int .i64 a0_0, .slice A0_1 l0_1.length c0_1] 24 (0, 0)) (by (with_reducible repeat (first | refine blk_drewN ?_ _ | refine blk_drew ?_ | refine blk_alloc ?_ _)); exact BK157.out) hb); have n2_ := Aside0.mk (below_step (by repeat (first | (with_reducible first | exact HB.out | apply below_alloc | apply pw_below_drewN | apply below_drew1 | refine below_set ?_ GE157.out) | exact HB.out)) hb); clear HO162; clear BK157; clear HB; have HO162 := n0_; have BK157 := n1_; have HB := n2_; clear n0_ n1_ n2_; (try clear hb); (try clear hb2); (try clear hk); (try clear hi); have hcz19_0 : w18.cell? ⟨gb157, 0, none⟩ = some (.int .i64 a0_0) := (blk_cell BK157.out 0).trans rfl; have hcz19_1 : w18.cell? ⟨gb157, 1, none⟩ = some (.slice A0_1 l0_1.length c0_1) := (blk_cell BK157.out 1).trans rfl; have hfz19_0 := blk_frozen BK157.out 0; have hfz19_1 := blk_frozen BK157.out 1) | ((with_reducible refine gate_callee (f := 8) rfl ?_); refine goesL_ (some 21) rfl rfl Tryd.func8 (by kernel_rfl) rfl #[.agg #[.int .i64 a0_0, .slice A0_1 l0_1.length c0_1]] rfl (by (try simp only [List.map_toArray, List.map_cons, List.map_nil]); first | done | rfl) ?_; (with_reducible refine (laws_toTournament.calls k a0_0 _ _ l0_1 t165 t166 _ ?side1 ?side2 A9.out).mono ?_); (case side1 => repeat (first | exact (Kd.C_below HR0_1.out HB.out) | (with_reducible refine Kd.C_alloc ?_ _) | (with_reducible refine Kd.C_drewN ?_ _) | (with_reducible refine Kd.C_drew ?_))); (case side2 => exact HC0_1.out); rintro e w20 ⟨v167, rfl, ho0, hb⟩; refine ⟨_, rfl, ?_⟩; have n0_ := Aside0.mk (Kd.R_elder' (by (with_reducible repeat (first | apply Kd.R_alloc | apply Kd.R_drewN | apply Kd.R_drew)); exact HO162.out) (Kd.R_base ho0) hb); have n1_ := Aside0.mk (Kd.R_lower (Kd.R_new' ho0 (Kd.R_lt (by (with_reducible repeat (first | apply Kd.R_alloc | apply Kd.R_drewN | apply Kd.R_drew)); exact HO162.out))) (below_size (by repeat (first | (with_reducible first | exact HB.out | apply below_alloc | apply pw_below_drewN | apply below_drew1 | refine below_set ?_ GE157.out) | exact HB.out)))); have n2_ := Aside0.mk (blk_below (g := gb157) (o := .cells #[.int .i64 a0_0, .slice A0_1 l0_1.length c0_1] 24 (0, 0)) (by (with_reducible repeat (first | refine blk_drewN ?_ _ | refine blk_drew ?_ | refine blk_alloc ?_ _)); exact BK157.out) hb); have n3_ := Aside0.mk (below_step (by repeat (first | (with_reducible first | exact HB.out | apply below_alloc | apply pw_below_drewN | apply below_drew1 | refine below_set ?_ GE157.out) | exact HB.out)) hb); clear HO162; clear BK157; clear HB; have HO162 := n0_; have HO168 := n1_; have BK157 := n2_; have HB := n3_; clear n0_ n1_ n2_ n3_; (try clear hb); (try clear hb2); (try clear hk); (try clear hi); (try clear ho0)) | ((with_reducible refine gate_dst (N := 6) rfl ?_); refine box_event ?hg (N := 6) ?hd (cs := #[.int .i64 0, .slice none 0 0]) (t := 28) ?hr ?_; (case hd => rfl); (case hg => rfl); (case hr => first | (go_simp; done) | (go_simp; rfl)); intro gb169 hg w21 hbox hb; have n0_ := Aside0.mk (Kd.R_below (by (with_reducible repeat (first | apply Kd.R_alloc | apply Kd.R_drewN | apply Kd.R_drew)); exact HO162.out) hb); have n1_ := Aside0.mk (Kd.R_below (by (with_reducible repeat (first | apply Kd.R_alloc | apply Kd.R_drewN | apply Kd.R_drew)); exact HO168.out) hb); have n2_ := Aside0.mk (blk_below (g := gb157) (o := .cells #[.int .i64 a0_0, .slice A0_1 l0_1.length c0_1] 24 (0, 0)) (by (with_reducible repeat (first | refine blk_drewN ?_ _ | refine blk_drew ?_ | refine blk_alloc ?_ _)); exact BK157.out) hb); have n3_ := Aside0.mk (below_step (by repeat (first | (with_reducible first | exact HB.out | apply below_alloc | apply pw_below_drewN | apply below_drew1 | refine below_set ?_ GE157.out) | exact HB.out)) hb); have n4_ := Aside0.mk (hbox); have n5_ := Aside0.mk ((by rw [hg]; exact (below_size (by repeat (first | (with_reducible first | exact HB.out | apply below_alloc | apply pw_below_drewN | apply below_drew1 | refine below_set ?_ GE157.out) | exact HB.out))) : w.heap.size ≤ gb169)); have n6_ := Aside0.mk ((by rw [hg]; exact (below_size (by repeat (first | (with_reducible first | exact HB.out | apply below_alloc | apply pw_below_drewN | apply below_drew1 | refine below_set ?_ GE157.out) | exact HB.out))) : w.heap.size ≤ gb169)); have n7_ := Aside0.mk ((by rw [hg]; exact Nat.ne_of_lt (blk_lt (g := gb157) (o := .cells #[.int .i64 a0_0, .slice A0_1 l0_1.length c0_1] 24 (0, 0)) (by (with_reducible repeat (first | refine blk_drewN ?_ _ | refine blk_drew ?_ | refine blk_alloc ?_ _)); exact BK157.out)) : gb157 ≠ gb169)); have n8_ := Aside0.mk ((by rw [hg]; exact Nat.ne_of_gt (blk_lt (g := gb157) (o := .cells #[.int .i64 a0_0, .slice A0_1 l0_1.length c0_1] 24 (0, 0)) (by (with_reducible repeat (first | refine blk_drewN ?_ _ | refine blk_drew ?_ | refine blk_alloc ?_ _)); exact BK157.out)) : gb169 ≠ gb157)); clear HO162; clear HO168; clear BK157; clear HB; have HO162 := n0_; have HO168 := n1_; have BK157 := n2_; have HB := n3_; have BK169 := n4_; have GW169 := n5_; have GE169 := n6_; have NB157_169 := n7_; have NB169_157 := n8_; clear n0_ n1_ n2_ n3_ n4_ n5_ n6_ n7_ n8_; clear hb hbox hg; have hnb22 := NB169_157.out; have hnc22 := NB157_169.out; have hcz23_0 : w21.cell? ⟨gb169, 0, none⟩ = some (.int .i64 0) := (blk_cell BK169.out 0).trans rfl; have hcz23_1 : w21.cell? ⟨gb169, 1, none⟩ = some (.slice none 0 0) := (blk_cell BK169.out 1).trans rfl; have hfz23_0 := blk_frozen BK169.out 0; have hfz23_1 := blk_frozen BK169.out 1; obtain ⟨Ao24, co24, eo24⟩ := Kd.R_slice HO168.out; subst eo24) | ((with_reducible refine gate_callee (f := 9) rfl ?_); refine goesL_ (some 24) rfl rfl Tryd.func9 (by kernel_rfl) rfl #[.agg #[.int .i64 t165, .slice Ao24 t166.length co24]] rfl (by (try simp only [List.map_toArray, List.map_cons, List.map_nil]); first | done | rfl) ?_; (with_reducible refine (impl_TournamentText.calls k t165 _ _ t166 t170 t171 _ ?side1 ?side2 A10.out).mono ?_); (case side1 => refine (Kd.R_reads' (e := 3) (base := w.heap.size) (ok := fun k_ => (True ∧ some k_ ≠ (.slice Ao17 t160.length co17 : Value).ownBlock)) (n := t166.length) (c := co24) ?_).2.2; exact (by (with_reducible repeat (first | apply Kd.R_alloc | apply Kd.R_drewN | apply Kd.R_drew)); exact (Kd.R_mono (Kd.R_far (p := ⟨gb169, 1, none⟩) (Kd.R_far (p := ⟨gb169, 0, none⟩) (Kd.R_types HO168.out BK169.out (by decide)) (fun _ hk => hk.2) (.int .i64 t165)) (fun _ hk => hk.2) (.slice Ao24 t166.length co24)) (fun _ h_ => h_.1)))); (case side2 => exact (Kd.R_reads' HO168.out).2.1); rintro e w25 ⟨rfl, hb⟩; refine ⟨_, rfl, ?_⟩; have n0_ := Aside0.mk (Kd.R_below (by (with_reducible repeat (first | apply Kd.R_alloc | apply Kd.R_drewN | apply Kd.R_drew)); exact (Kd.R_mono (Kd.R_far (p := ⟨gb169, 1, none⟩) (Kd.R_far (p := ⟨gb169, 0, none⟩) (Kd.R_types HO162.out BK169.out (by decide)) (fun _ hk => hk.2) (.int .i64 t165)) (fun _ hk => hk.2) (.slice Ao24 t166.length co24)) (fun _ h_ => h_.1))) hb); have n1_ := Aside0.mk (Kd.R_below (by (with_reducible repeat (first | apply Kd.R_alloc | apply Kd.R_drewN | apply Kd.R_drew)); exact (Kd.R_mono (Kd.R_far (p := ⟨gb169, 1, none⟩) (Kd.R_far (p := ⟨gb169, 0, none⟩) (Kd.R_types HO168.out BK169.out (by decide)) (fun _ hk => hk.2) (.int .i64 t165)) (fun _ hk => hk.2) (.slice Ao24 t166.length co24)) (fun _ h_ => h_.1))) hb); have n2_ := Aside0.mk (blk_below (g := gb157) (o := .cells #[.int .i64 a0_0, .slice A0_1 l0_1.length c0_1] 24 (0, 0)) (by (with_reducible repeat (first | refine blk_drewN ?_ _ | refine blk_drew ?_ | refine blk_alloc ?_ _)); refine blk_far ?_ NB157_169.out _; (with_reducible repeat (first | refine blk_drewN ?_ _ | refine blk_drew ?_ | refine blk_alloc ?_ _)); refine blk_far ?_ NB157_169.out _; (with_reducible repeat (first | refine blk_drewN ?_ _ | refine blk_drew ?_ | refine blk_alloc ?_ _)); exact BK157.out) hb); have n3_ := Aside0.mk (blk_below (g := gb169) (o := .cells #[.int .i64 t165, .slice Ao24 t166.length co24] 28 (0, 0)) (by (with_reducible repeat (first | refine blk_drewN ?_ _ | refine blk_drew ?_ | refine blk_alloc ?_ _)); refine blk_put (cs := #[.int .i64 t165, .slice none 0 0]) ?_ 1 _ rfl; (with_reducible repeat (first | refine blk_drewN ?_ _ | refine blk_drew ?_ | refine blk_alloc ?_ _)); refine blk_put (cs := #[.int .i64 0, .slice none 0 0]) ?_ 0 _ rfl; (with_reducible repeat (first | refine blk_drewN ?_ _ | refine blk_drew ?_ | refine blk_alloc ?_ _)); exact BK169.out) hb); have n4_ := Aside0.mk (below_step (by repeat (first | (with_reducible first | exact HB.out | apply below_alloc | apply pw_below_drewN | apply below_drew1 | refine below_set ?_ GE157.out | refine below_set ?_ GE169.out) | exact HB.out)) hb); clear HO162; clear HO168; clear BK157; clear BK169; clear HB; have HO162 := n0_; have HO168 := n1_; have BK157 := n2_; have BK169 := n3_; have HB := n4_; clear n0_ n1_ n2_ n3_ n4_; (try clear hb); (try clear hb2); (try clear hk); (try clear hi)))
  (try simp only [Act.put, List.setIfInBounds_toArray, List.set_cons_zero, List.set_cons_succ])
  go_cut [34] (fun v34 wc => ∃ (kq : Nat) (x34_10 : Bool), v34 = .bool x34_10 ∧ Aside0 (laws_FnExactTournamentText.j0 kq x34_10 a0_0 l0_1 t165 t166 = some r) ∧ Aside0 (kq ≤ k) ∧ Aside0 (Kd.R (Kd.int .i64) 3 wc w.heap.size (fun _ => True) (.slice Ao24 t166.length co24) t166) ∧ Aside0 (wc.heap[gb157]? = some (.cells #[.int .i64 a0_0, (.slice A0_1 l0_1.length c0_1)] 24 (0, 0))) ∧ Aside0 (wc.heap[gb169]? = some (.cells #[.int .i64 t165, (.slice Ao24 t166.length co24)] 28 (0, 0))) ∧ Aside0 (Below w.heap.size w wc))
  case first =>
   have H := HC11.out
   clear HC11
   by_cases c26 : t170.toList = t163.toList
   ·
    rw [if_pos c26] at H
    have c26b0 : (t170.toList == t163.toList) = true := beq_iff_eq.mpr c26
    have c26b1 : (t170.toList != t163.toList) = false := bne_eq_false_iff_eq.mpr c26
    clear c26
    (first | rw [c26b0] | (simp only [i64_w, i32_w]; rw [c26b0]) | skip)
    have H' := Aside0.mk H
    clear H
    go_wp2
    go_meet
    case rel => exact ⟨_, ((t171 != t164)), (by first | rfl | (simp; done) | (simp [*]; done)), H', ⟨by first | omega | exact Nat.le_refl _⟩, ⟨by (with_reducible repeat (first | apply Kd.R_alloc | apply Kd.R_drewN | apply Kd.R_drew)); exact Kd.R_mono HO168.out (fun _ hk => trivial)⟩, ⟨by (with_reducible repeat (first | refine blk_drewN ?_ _ | refine blk_drew ?_ | refine blk_alloc ?_ _)); exact BK157.out⟩, ⟨by (with_reducible repeat (first | refine blk_drewN ?_ _ | refine blk_drew ?_ | refine blk_alloc ?_ _)); exact BK169.out⟩, ⟨by repeat (first | (with_reducible first | exact HB.out | apply below_alloc | apply pw_below_drewN | apply below_drew1 | refine below_set ?_ GE157.out | refine below_set ?_ GE169.out) | exact HB.out)⟩⟩
   ·
    rw [if_neg c26] at H
    have c26b0 : (t170.toList == t163.toList) = false := beq_eq_false_iff_ne.mpr c26
    have c26b1 : (t170.toList != t163.toList) = true := bne_iff_ne.mpr c26
    (first | rw [c26b0] | (simp only [i64_w, i32_w]; rw [c26b0]) | skip)
    have H' := Aside0.mk H
    clear H
    go_wp2
    go_meet
    case rel => exact ⟨_, (true), (by first | rfl | (simp; done) | (simp [*]; done)), H', ⟨by first | omega | exact Nat.le_refl _⟩, ⟨by (with_reducible repeat (first | apply Kd.R_alloc | apply Kd.R_drewN | apply Kd.R_drew)); exact Kd.R_mono HO168.out (fun _ hk => trivial)⟩, ⟨by (with_reducible repeat (first | refine blk_drewN ?_ _ | refine blk_drew ?_ | refine blk_alloc ?_ _)); exact BK157.out⟩, ⟨by (with_reducible repeat (first | refine blk_drewN ?_ _ | refine blk_drew ?_ | refine blk_alloc ?_ _)); exact BK169.out⟩, ⟨by repeat (first | (with_reducible first | exact HB.out | apply below_alloc | apply pw_below_drewN | apply below_drew1 | refine below_set ?_ GE157.out | refine below_set ?_ GE169.out) | exact HB.out)⟩⟩
  case rest =>
   clear HC11
   try clear c2
   try clear p2
   try clear c3
   try clear c3b0
   try clear c6
   try clear c7
   try clear c8
   try clear c9
   try clear c22
   try clear c26
   try clear c26b0
   try clear c26b1
   try clear hcz13_0
   try clear hcz13_1
   try clear hcz15_0
   try clear hcz15_1
   try clear hcz19_0
   try clear hcz19_1
   try clear hcz23_0
   try clear hcz23_1
   try clear hcz5_0
   try clear hcz5_1
   try clear hfz13_0
   try clear hfz13_1
   try clear hfz15_0
   try clear hfz15_1
   try clear hfz19_0
   try clear hfz19_1
   try clear hfz23_0
   try clear hfz23_1
   try clear hfz5_0
   try clear hfz5_1
   obtain ⟨kq, x34_10, rfl, HA, HJ10, HO_170001, BK157, BK169, HB⟩ := hcut
   cases kq with
   | zero => exact absurd HA.out (by simp [laws_FnExactTournamentText.j0])
   | succ kj10 =>
    have H := HA.out
    clear HA
    simp only [laws_FnExactTournamentText.j0] at H
    by_cases c27 : x34_10 = true
    ·
     subst c27
     have H1 : (some false) = some r := by rw [if_pos rfl] at H; exact H
     clear H
     have H := H1
     clear H1
     obtain rfl := Option.some.inj H
     go_wp2
     go_ret
     exact ⟨by first | rfl | (simp [errW_none, errW_some] <;> rfl) | (simp [*, errW_none, errW_some] <;> rfl), by repeat (first | (with_reducible first | exact HB.out | apply below_alloc | apply pw_below_drewN | apply below_drew1 | refine below_set ?_ GE157.out | refine below_set ?_ GE169.out) | exact HB.out)⟩
    ·
     replace c27 := Bool.eq_false_iff.mpr c27
     subst c27
     have H1 : ((laws_toTournament.f kj10 a0_0 l0_1).bind fun bt172 => ((laws_eqTournament.f kj10 t165 t166 bt172.1 bt172.2).bind fun t176 => (if t176 = true then (some true) else (some false)))) = some r := by rw [if_neg (show ¬ (false = true) by decide)] at H; exact H
     clear H
     have H := H1
     clear H1
     replace H := Option.bind_eq_some_iff.mp H
     obtain ⟨⟨t172, t173⟩, A280, H⟩ := H
     replace H : ((laws_eqTournament.f kj10 t165 t166 t172 t173).bind fun t176 => (if t176 = true then (some true) else (some false))) = some r := H
     have A28 := Aside0.mk A280
     clear A280
     replace H := Option.bind_eq_some_iff.mp H
     obtain ⟨t176, A290, H⟩ := H
     replace H : (if t176 = true then (some true) else (some false)) = some r := H
     have A29 := Aside0.mk A290
     clear A290
     by_cases c30 : t176 = true
     ·
      subst c30
      have H1 : (some true) = some r := by rw [if_pos rfl] at H; exact H
      clear H
      have H := H1
      clear H1
      obtain rfl := Option.some.inj H
      try go_wp2
      have n0_ := Aside0.mk (Kd.R_drew HO_170001.out)
      have n1_ := Aside0.mk (blk_drew BK157.out)
      have n2_ := Aside0.mk (blk_drew BK169.out)
      have n3_ := Aside0.mk (below_drew1 HB.out)
      clear HO_170001
      clear BK157
      clear BK169
      clear HB
      have HO_170001 := n0_
      have BK157 := n1_
      have BK169 := n2_
      have HB := n3_
      clear n0_ n1_ n2_ n3_
      refine start_ (n := 5) (S := fun w' => w'.cell? ⟨gb169, 0, none⟩ = some (.int .i64 t165) ∧ w'.cell? ⟨gb169, 1, none⟩ = some (.slice Ao24 t166.length co24) ∧ w'.cell? ⟨gb157, 0, none⟩ = some (.int .i64 a0_0) ∧ w'.cell? ⟨gb157, 1, none⟩ = some (.slice A0_1 l0_1.length c0_1)) (ds := []) #[Zz,Zz,Zz,Zz,Zz] (by kernel_rfl) rfl rfl ⟨(blk_cell BK169.out 0).trans rfl, (blk_cell BK169.out 1).trans rfl, (blk_cell BK157.out 0).trans rfl, (blk_cell BK157.out 1).trans rfl⟩ (fun hHeld => ?_)
      generalize wc.drew = w31 at HO_170001 BK157 BK169 HB hHeld ⊢
      refine take_ (i := 0) (N := some 35) (v := ?_) (a' := ?_) #[Yy,Zz,Zz,Zz,Zz] rfl rfl (by kernel_rfl) (fun _ _ _ h => h) (Or.inl ⟨by rfl, ?_⟩) hHeld ?_ ?_
      rotate_left
      ·
       rintro w' ⟨s0, s1, s2, s3⟩
       go_simp
       with_reducible rfl
      rotate_left
      ·
       simp only [Act.put, List.setIfInBounds_toArray, List.set_cons_zero, List.set_cons_succ, i64_w, i32_w]
       rfl
      refine take_ (i := 1) (N := some 36) (v := ?_) (a' := ?_) #[Yy,Yy,Zz,Zz,Zz] rfl rfl (by kernel_rfl) (fun _ _ _ h => h) (Or.inl ⟨by rfl, ?_⟩) hHeld ?_ ?_
      rotate_left
      ·
       rintro w' ⟨s0, s1, s2, s3⟩
       go_simp
       with_reducible rfl
      rotate_left
      ·
       simp only [Act.put, List.setIfInBounds_toArray, List.set_cons_zero, List.set_cons_succ, i64_w, i32_w]
       rfl
      refine one_ (i := 2) (N := some 37) #[Yy,Yy,Yy,Zz,Zz] rfl rfl (by kernel_rfl) (by decide) (fun K hK => ?_)
      refine goes_ Tryd.func8 (by kernel_rfl) rfl #[.agg #[.int .i64 a0_0, .slice A0_1 l0_1.length c0_1]] (by rfl) rfl rfl (by (try simp only [List.map_toArray, List.map_cons, List.map_nil]); first | done | rfl) ?_
      with_reducible refine (laws_toTournament.calls kj10 a0_0 _ _ l0_1 t172 t173 _ ?side1 ?side2 A28.out).mono ?_
      (case side1 => repeat (first | exact (Kd.C_below HR0_1.out HB.out) | (with_reducible refine Kd.C_alloc ?_ _) | (with_reducible refine Kd.C_drewN ?_ _) | (with_reducible refine Kd.C_drew ?_)))
      (case side2 => exact HC0_1.out)
      rintro e w32 ⟨v174, rfl, ho0, hb⟩
      refine ⟨_, rfl, ?_⟩
      have n0_ := Aside0.mk (Kd.R_elder' (by (with_reducible repeat (first | apply Kd.R_alloc | apply Kd.R_drewN | apply Kd.R_drew)); exact HO_170001.out) (Kd.R_base ho0) hb)
      have n1_ := Aside0.mk (Kd.R_lower (Kd.R_new' ho0 (Kd.R_lt (by (with_reducible repeat (first | apply Kd.R_alloc | apply Kd.R_drewN | apply Kd.R_drew)); exact HO_170001.out))) (below_size (by repeat (first | (with_reducible first | exact HB.out | apply below_alloc | apply pw_below_drewN | apply below_drew1 | refine below_set ?_ GE157.out | refine below_set ?_ GE169.out) | exact HB.out))))
      have n2_ := Aside0.mk (blk_below (g := gb157) (o := .cells #[.int .i64 a0_0, .slice A0_1 l0_1.length c0_1] 24 (0, 0)) (by (with_reducible repeat (first | refine blk_drewN ?_ _ | refine blk_drew ?_ | refine blk_alloc ?_ _)); exact BK157.out) hb)
      have n3_ := Aside0.mk (blk_below (g := gb169) (o := .cells #[.int .i64 t165, .slice Ao24 t166.length co24] 28 (0, 0)) (by (with_reducible repeat (first | refine blk_drewN ?_ _ | refine blk_drew ?_ | refine blk_alloc ?_ _)); exact BK169.out) hb)
      have n4_ := Aside0.mk (below_step (by repeat (first | (with_reducible first | exact HB.out | apply below_alloc | apply pw_below_drewN | apply below_drew1 | refine below_set ?_ GE157.out | refine below_set ?_ GE169.out) | exact HB.out)) hb)
      clear HO_170001
      clear BK157
      clear BK169
      clear HB
      have HO_170001 := n0_
      have HO175 := n1_
      have BK157 := n2_
      have BK169 := n3_
      have HB := n4_
      clear n0_ n1_ n2_ n3_ n4_
      (try clear hb)
      (try clear hb2)
      (try clear hk)
      (try clear hi)
      (try clear ho0)
      obtain ⟨Ao33, co33, eo33⟩ := Kd.R_slice HO175.out
      (first | subst eo33 | (injection eo33 with f1_ f2_ f3_; have f4_ := f1_.symm; have f5_ := f3_.symm; clear f1_ f2_ f3_; subst f4_; subst f5_))
      refine hK.out _ _ ⟨(blk_cell BK169.out 0).trans rfl, (blk_cell BK169.out 1).trans rfl, (blk_cell BK157.out 0).trans rfl, (blk_cell BK157.out 1).trans rfl⟩ (fun hHeld => ?_)
      clear hK K
      refine norm_ (a' := ?_) ?_ ?_
      rotate_left
      ·
       show Act.put _ (some 37) _ = _
       simp only [Act.put, List.setIfInBounds_toArray, List.set_cons_zero, List.set_cons_succ, i64_w, i32_w]
       rfl
      refine one_ (i := 3) (N := some 38) #[Yy,Yy,Yy,Yy,Zz] rfl rfl (by kernel_rfl) (by decide) (fun K hK => ?_)
      refine goes_ Tryd.func10 (by kernel_rfl) rfl #[.agg #[.int .i64 t165, .slice Ao24 t166.length co24], .agg #[.int .i64 t172, .slice Ao33 t173.length co33]] (by rfl) rfl rfl (by (try simp only [List.map_toArray, List.map_cons, List.map_nil]); first | done | rfl) ?_
      with_reducible refine (laws_eqTournament.calls kj10 t165 _ _ t166 t172 _ _ t173 true _ ?side1 ?side2 ?side3 ?side4 A29.out).mono ?_
      (case side1 => repeat (first | exact (Kd.R_reads' HO_170001.out).2.2 | (with_reducible refine Kd.C_alloc ?_ _) | (with_reducible refine Kd.C_drewN ?_ _) | (with_reducible refine Kd.C_drew ?_)))
      (case side2 => exact (Kd.R_reads' HO_170001.out).2.1)
      (case side3 => repeat (first | exact (Kd.R_reads' HO175.out).2.2 | (with_reducible refine Kd.C_alloc ?_ _) | (with_reducible refine Kd.C_drewN ?_ _) | (with_reducible refine Kd.C_drew ?_)))
      (case side4 => exact (Kd.R_reads' HO175.out).2.1)
      rintro e w34 ⟨rfl, hb⟩
      refine ⟨_, rfl, ?_⟩
      have n0_ := Aside0.mk (Kd.R_below (by (with_reducible repeat (first | apply Kd.R_alloc | apply Kd.R_drewN | apply Kd.R_drew)); exact HO_170001.out) hb)
      have n1_ := Aside0.mk (Kd.R_below (by (with_reducible repeat (first | apply Kd.R_alloc | apply Kd.R_drewN | apply Kd.R_drew)); exact HO175.out) hb)
      have n2_ := Aside0.mk (blk_below (g := gb157) (o := .cells #[.int .i64 a0_0, .slice A0_1 l0_1.length c0_1] 24 (0, 0)) (by (with_reducible repeat (first | refine blk_drewN ?_ _ | refine blk_drew ?_ | refine blk_alloc ?_ _)); exact BK157.out) hb)
      have n3_ := Aside0.mk (blk_below (g := gb169) (o := .cells #[.int .i64 t165, .slice Ao24 t166.length co24] 28 (0, 0)) (by (with_reducible repeat (first | refine blk_drewN ?_ _ | refine blk_drew ?_ | refine blk_alloc ?_ _)); exact BK169.out) hb)
      have n4_ := Aside0.mk (below_step (by repeat (first | (with_reducible first | exact HB.out | apply below_alloc | apply pw_below_drewN | apply below_drew1 | refine below_set ?_ GE157.out | refine below_set ?_ GE169.out) | exact HB.out)) hb)
      clear HO_170001
      clear HO175
      clear BK157
      clear BK169
      clear HB
      have HO_170001 := n0_
      have HO175 := n1_
      have BK157 := n2_
      have BK169 := n3_
      have HB := n4_
      clear n0_ n1_ n2_ n3_ n4_
      (try clear hb)
      (try clear hb2)
      (try clear hk)
      (try clear hi)
      refine hK.out _ _ ⟨(blk_cell BK169.out 0).trans rfl, (blk_cell BK169.out 1).trans rfl, (blk_cell BK157.out 0).trans rfl, (blk_cell BK157.out 1).trans rfl⟩ (fun hHeld => ?_)
      clear hK K
      refine norm_ (a' := ?_) ?_ ?_
      rotate_left
      ·
       show Act.put _ (some 38) _ = _
       simp only [Act.put, List.setIfInBounds_toArray, List.set_cons_zero, List.set_cons_succ, i64_w, i32_w]
       rfl
      refine pure_ (i := 4) (N := some 39) (v := ?_) (a' := ?_) #[Yy,Yy,Yy,Yy,Yy] rfl rfl (by kernel_rfl) (fun _ _ _ h => h) (Or.inl ⟨by rfl, ?_⟩) ?_ ?_
      rotate_left
      ·
       intro w'
       go_simp
       with_reducible rfl
      rotate_left
      ·
       simp only [Act.put, List.setIfInBounds_toArray, List.set_cons_zero, List.set_cons_succ, i64_w, i32_w]
       rfl
      refine done_ (by kernel_rfl) ?_
      try go_wp2
      go_ret
      exact ⟨by first | rfl | (simp [errW_none, errW_some] <;> rfl) | (simp [*, errW_none, errW_some] <;> rfl), by repeat (first | (with_reducible first | exact HB.out | apply below_alloc | apply pw_below_drewN | apply below_drew1 | refine below_set ?_ GE157.out | refine below_set ?_ GE169.out) | exact HB.out)⟩
     ·
      replace c30 := Bool.eq_false_iff.mpr c30
      subst c30
      have H1 : (some false) = some r := by rw [if_neg (show ¬ (false = true) by decide)] at H; exact H
      clear H
      have H := H1
      clear H1
      obtain rfl := Option.some.inj H
      try go_wp2
      have n0_ := Aside0.mk (Kd.R_drew HO_170001.out)
      have n1_ := Aside0.mk (blk_drew BK157.out)
      have n2_ := Aside0.mk (blk_drew BK169.out)
      have n3_ := Aside0.mk (below_drew1 HB.out)
      clear HO_170001
      clear BK157
      clear BK169
      clear HB
      have HO_170001 := n0_
      have BK157 := n1_
      have BK169 := n2_
      have HB := n3_
      clear n0_ n1_ n2_ n3_
      refine start_ (n := 5) (S := fun w' => w'.cell? ⟨gb169, 0, none⟩ = some (.int .i64 t165) ∧ w'.cell? ⟨gb169, 1, none⟩ = some (.slice Ao24 t166.length co24) ∧ w'.cell? ⟨gb157, 0, none⟩ = some (.int .i64 a0_0) ∧ w'.cell? ⟨gb157, 1, none⟩ = some (.slice A0_1 l0_1.length c0_1)) (ds := []) #[Zz,Zz,Zz,Zz,Zz] (by kernel_rfl) rfl rfl ⟨(blk_cell BK169.out 0).trans rfl, (blk_cell BK169.out 1).trans rfl, (blk_cell BK157.out 0).trans rfl, (blk_cell BK157.out 1).trans rfl⟩ (fun hHeld => ?_)
      generalize wc.drew = w35 at HO_170001 BK157 BK169 HB hHeld ⊢
      refine take_ (i := 0) (N := some 35) (v := ?_) (a' := ?_) #[Yy,Zz,Zz,Zz,Zz] rfl rfl (by kernel_rfl) (fun _ _ _ h => h) (Or.inl ⟨by rfl, ?_⟩) hHeld ?_ ?_
      rotate_left
      ·
       rintro w' ⟨s0, s1, s2, s3⟩
       go_simp
       with_reducible rfl
      rotate_left
      ·
       simp only [Act.put, List.setIfInBounds_toArray, List.set_cons_zero, List.set_cons_succ, i64_w, i32_w]
       rfl
      refine take_ (i := 1) (N := some 36) (v := ?_) (a' := ?_) #[Yy,Yy,Zz,Zz,Zz] rfl rfl (by kernel_rfl) (fun _ _ _ h => h) (Or.inl ⟨by rfl, ?_⟩) hHeld ?_ ?_
      rotate_left
      ·
       rintro w' ⟨s0, s1, s2, s3⟩
       go_simp
       with_reducible rfl
      rotate_left
      ·
       simp only [Act.put, List.setIfInBounds_toArray, List.set_cons_zero, List.set_cons_succ, i64_w, i32_w]
       rfl
      refine one_ (i := 2) (N := some 37) #[Yy,Yy,Yy,Zz,Zz] rfl rfl (by kernel_rfl) (by decide) (fun K hK => ?_)
      refine goes_ Tryd.func8 (by kernel_rfl) rfl #[.agg #[.int .i64 a0_0, .slice A0_1 l0_1.length c0_1]] (by rfl) rfl rfl (by (try simp only [List.map_toArray, List.map_cons, List.map_nil]); first | done | rfl) ?_
      with_reducible refine (laws_toTournament.calls kj10 a0_0 _ _ l0_1 t172 t173 _ ?side1 ?side2 A28.out).mono ?_
      (case side1 => repeat (first | exact (Kd.C_below HR0_1.out HB.out) | (with_reducible refine Kd.C_alloc ?_ _) | (with_reducible refine Kd.C_drewN ?_ _) | (with_reducible refine Kd.C_drew ?_)))
      (case side2 => exact HC0_1.out)
      rintro e w36 ⟨v174, rfl, ho0, hb⟩
      refine ⟨_, rfl, ?_⟩
      have n0_ := Aside0.mk (Kd.R_elder' (by (with_reducible repeat (first | apply Kd.R_alloc | apply Kd.R_drewN | apply Kd.R_drew)); exact HO_170001.out) (Kd.R_base ho0) hb)
      have n1_ := Aside0.mk (Kd.R_lower (Kd.R_new' ho0 (Kd.R_lt (by (with_reducible repeat (first | apply Kd.R_alloc | apply Kd.R_drewN | apply Kd.R_drew)); exact HO_170001.out))) (below_size (by repeat (first | (with_reducible first | exact HB.out | apply below_alloc | apply pw_below_drewN | apply below_drew1 | refine below_set ?_ GE157.out | refine below_set ?_ GE169.out) | exact HB.out))))
      have n2_ := Aside0.mk (blk_below (g := gb157) (o := .cells #[.int .i64 a0_0, .slice A0_1 l0_1.length c0_1] 24 (0, 0)) (by (with_reducible repeat (first | refine blk_drewN ?_ _ | refine blk_drew ?_ | refine blk_alloc ?_ _)); exact BK157.out) hb)
      have n3_ := Aside0.mk (blk_below (g := gb169) (o := .cells #[.int .i64 t165, .slice Ao24 t166.length co24] 28 (0, 0)) (by (with_reducible repeat (first | refine blk_drewN ?_ _ | refine blk_drew ?_ | refine blk_alloc ?_ _)); exact BK169.out) hb)
      have n4_ := Aside0.mk (below_step (by repeat (first | (with_reducible first | exact HB.out | apply below_alloc | apply pw_below_drewN | apply below_drew1 | refine below_set ?_ GE157.out | refine below_set ?_ GE169.out) | exact HB.out)) hb)
      clear HO_170001
      clear BK157
      clear BK169
      clear HB
      have HO_170001 := n0_
      have HO175 := n1_
      have BK157 := n2_
      have BK169 := n3_
      have HB := n4_
      clear n0_ n1_ n2_ n3_ n4_
      (try clear hb)
      (try clear hb2)
      (try clear hk)
      (try clear hi)
      (try clear ho0)
      obtain ⟨Ao37, co37, eo37⟩ := Kd.R_slice HO175.out
      (first | subst eo37 | (injection eo37 with f1_ f2_ f3_; have f4_ := f1_.symm; have f5_ := f3_.symm; clear f1_ f2_ f3_; subst f4_; subst f5_))
      refine hK.out _ _ ⟨(blk_cell BK169.out 0).trans rfl, (blk_cell BK169.out 1).trans rfl, (blk_cell BK157.out 0).trans rfl, (blk_cell BK157.out 1).trans rfl⟩ (fun hHeld => ?_)
      clear hK K
      refine norm_ (a' := ?_) ?_ ?_
      rotate_left
      ·
       show Act.put _ (some 37) _ = _
       simp only [Act.put, List.setIfInBounds_toArray, List.set_cons_zero, List.set_cons_succ, i64_w, i32_w]
       rfl
      refine one_ (i := 3) (N := some 38) #[Yy,Yy,Yy,Yy,Zz] rfl rfl (by kernel_rfl) (by decide) (fun K hK => ?_)
      refine goes_ Tryd.func10 (by kernel_rfl) rfl #[.agg #[.int .i64 t165, .slice Ao24 t166.length co24], .agg #[.int .i64 t172, .slice Ao37 t173.length co37]] (by rfl) rfl rfl (by (try simp only [List.map_toArray, List.map_cons, List.map_nil]); first | done | rfl) ?_
      with_reducible refine (laws_eqTournament.calls kj10 t165 _ _ t166 t172 _ _ t173 false _ ?side1 ?side2 ?side3 ?side4 A29.out).mono ?_
      (case side1 => repeat (first | exact (Kd.R_reads' HO_170001.out).2.2 | (with_reducible refine Kd.C_alloc ?_ _) | (with_reducible refine Kd.C_drewN ?_ _) | (with_reducible refine Kd.C_drew ?_)))
      (case side2 => exact (Kd.R_reads' HO_170001.out).2.1)
      (case side3 => repeat (first | exact (Kd.R_reads' HO175.out).2.2 | (with_reducible refine Kd.C_alloc ?_ _) | (with_reducible refine Kd.C_drewN ?_ _) | (with_reducible refine Kd.C_drew ?_)))
      (case side4 => exact (Kd.R_reads' HO175.out).2.1)
      rintro e w38 ⟨rfl, hb⟩
      refine ⟨_, rfl, ?_⟩
      have n0_ := Aside0.mk (Kd.R_below (by (with_reducible repeat (first | apply Kd.R_alloc | apply Kd.R_drewN | apply Kd.R_drew)); exact HO_170001.out) hb)
      have n1_ := Aside0.mk (Kd.R_below (by (with_reducible repeat (first | apply Kd.R_alloc | apply Kd.R_drewN | apply Kd.R_drew)); exact HO175.out) hb)
      have n2_ := Aside0.mk (blk_below (g := gb157) (o := .cells #[.int .i64 a0_0, .slice A0_1 l0_1.length c0_1] 24 (0, 0)) (by (with_reducible repeat (first | refine blk_drewN ?_ _ | refine blk_drew ?_ | refine blk_alloc ?_ _)); exact BK157.out) hb)
      have n3_ := Aside0.mk (blk_below (g := gb169) (o := .cells #[.int .i64 t165, .slice Ao24 t166.length co24] 28 (0, 0)) (by (with_reducible repeat (first | refine blk_drewN ?_ _ | refine blk_drew ?_ | refine blk_alloc ?_ _)); exact BK169.out) hb)
      have n4_ := Aside0.mk (below_step (by repeat (first | (with_reducible first | exact HB.out | apply below_alloc | apply pw_below_drewN | apply below_drew1 | refine below_set ?_ GE157.out | refine below_set ?_ GE169.out) | exact HB.out)) hb)
      clear HO_170001
      clear HO175
      clear BK157
      clear BK169
      clear HB
      have HO_170001 := n0_
      have HO175 := n1_
      have BK157 := n2_
      have BK169 := n3_
      have HB := n4_
      clear n0_ n1_ n2_ n3_ n4_
      (try clear hb)
      (try clear hb2)
      (try clear hk)
      (try clear hi)
      refine hK.out _ _ ⟨(blk_cell BK169.out 0).trans rfl, (blk_cell BK169.out 1).trans rfl, (blk_cell BK157.out 0).trans rfl, (blk_cell BK157.out 1).trans rfl⟩ (fun hHeld => ?_)
      clear hK K
      refine norm_ (a' := ?_) ?_ ?_
      rotate_left
      ·
       show Act.put _ (some 38) _ = _
       simp only [Act.put, List.setIfInBounds_toArray, List.set_cons_zero, List.set_cons_succ, i64_w, i32_w]
       rfl
      refine pure_ (i := 4) (N := some 39) (v := ?_) (a' := ?_) #[Yy,Yy,Yy,Yy,Yy] rfl rfl (by kernel_rfl) (fun _ _ _ h => h) (Or.inl ⟨by rfl, ?_⟩) ?_ ?_
      rotate_left
      ·
       intro w'
       go_simp
       with_reducible rfl
      rotate_left
      ·
       simp only [Act.put, List.setIfInBounds_toArray, List.set_cons_zero, List.set_cons_succ, i64_w, i32_w]
       rfl
      refine done_ (by kernel_rfl) ?_
      try go_wp2
      go_ret
      exact ⟨by first | rfl | (simp [errW_none, errW_some] <;> rfl) | (simp [*, errW_none, errW_some] <;> rfl), by repeat (first | (with_reducible first | exact HB.out | apply below_alloc | apply pw_below_drewN | apply below_drew1 | refine below_set ?_ GE157.out | refine below_set ?_ GE169.out) | exact HB.out)⟩
end Go.Proofs.YtfmpbflbkochgaaDoor.P
namespace Go.Proofs.YtfmpbflbkochgaaDoor.K
open Go.RowKit Go.Proofs.YtfmpbflbkochgaaDoorW.PrintWords Go.Proofs.YtfmpbflbkochgaaDoorW.PrintMore Go.Proofs.YtfmpbflbkochgaaDoor.P
theorem tour_l1 {n : Nat} {ns : List Nat} (h : Sets n ns) (i : Nat) (hi : i < n) (R : Prop) (hR : EvB (fun k => impl_IsTournament.l0 k (ints ns) n ((i + 1 : Nat) : Int) n (ints ns)) R) :
    EvB (fun k => impl_IsTournament.l1 k i ((ns.getD i 0 : Nat) : Int) (ints ns) n i i ((0 : Nat) : Int) n (ints ns)) ((∀ j, j < i → nb ns i j ≠ nb ns j i) ∧ R) := by
  have hl := h.len
  have hn := h.n8
  refine allLoop0 (fun j k => impl_IsTournament.l1 k i ((ns.getD i 0 : Nat) : Int) (ints ns) n i i (j : Int) n (ints ns)) i (fun j => nb ns i j ≠ nb ns j i) R ?_ ?_
  · refine EvB.step (fun k => ?_) hR
    rw [impl_IsTournament.l1, if_neg (by omega), wrap_nat i (by omega)]
  · intro j hj R hR
    refine EvB.step (f := fun k => if nb ns i j ≠ nb ns j i then impl_IsTournament.l1 k i ((ns.getD i 0 : Nat) : Int) (ints ns) n i i ((j + 1 : Nat) : Int) n (ints ns) else some false) (fun k => ?_) (EvB.and fun _ => hR)
    rw [impl_IsTournament.l1, if_pos (by omega), has_nb h i, Option.bind_some, if_pos (by omega), if_pos (by rw [ints_length]; omega), rd_ints, has_nb h j, Option.bind_some, wrap_nat j (by omega)]
    by_cases e : nb ns i j = nb ns j i
    · rw [if_pos (by simpa using e), if_neg (by simpa using e)]
    · rw [if_neg (by simpa using e), if_pos e]
theorem tour_l0 {n : Nat} {ns : List Nat} (h : Sets n ns) : EvB (fun k => impl_IsTournament.l0 k (ints ns) n ((0 : Nat) : Int) n (ints ns)) (∀ i, i < n → ∀ j, j < i → nb ns i j ≠ nb ns j i) := by
  have hl := h.len
  have hn := h.n8
  refine (allLoop0 (fun j k => impl_IsTournament.l0 k (ints ns) n (j : Int) n (ints ns)) n (fun i => ∀ j, j < i → nb ns i j ≠ nb ns j i) True ?_ ?_).congr (by simp)
  · exact EvB.step (fun k => by rw [impl_IsTournament.l0, if_neg (by omega)]) EvB.true_
  · intro i hi R hR
    refine EvB.step (fun k => ?_) (tour_l1 h i hi R hR)
    rw [impl_IsTournament.l0, if_pos (by omega), if_pos (by omega), if_pos (by rw [ints_length]; omega), rd_ints]
    rfl
def IsTour (a : Int) (l : List Int) : Prop := ∃ n ns, a = ((n : Nat) : Int) ∧ l = ints ns ∧ Tour n ns
theorem IsTournament_f (a : Int) (l : List Int) (hl : l.length ≤ BM) : EvB (fun k => impl_IsTournament.f k a l) (IsTour a l) := by
  unfold impl_IsTournament.f
  obtain ⟨b, hb, hbb⟩ := (areNear_f a l hl).ev
  refine EvB.bind hb ?_
  cases b with
  | false => exact ⟨fun ⟨n, ns, e1, e2, h⟩ => absurd (hbb.2 ⟨n, ns, e1, e2, h.1⟩) (by simp), fun _ => by simpa using Ev.now false⟩
  | true =>
    obtain ⟨n, ns, rfl, rfl, hn⟩ := hbb.1 rfl
    simp only [if_true, ints_length, hn.1.len]
    refine (tour_l0 hn.1).congr ⟨fun h => ⟨n, ns, rfl, rfl, hn, h⟩, ?_⟩
    rintro ⟨n', ns', e1, e2, h⟩
    obtain rfl : n = n' := by omega
    obtain rfl := ints_inj e2
    exact h.2
theorem sgood_l1 {n : Nat} {ns : List Nat} (h : Sets n ns) (i : Nat) (hi : i < n) (R : Prop) (hR : EvB (fun k => spec_scGood.l0 k (ints ns) n ((i + 1 : Nat) : Int) n (ints ns)) R) :
    EvB (fun k => spec_scGood.l1 k i ((ns.getD i 0 : Nat) : Int) (ints ns) n i (ints ns) n ((0 : Nat) : Int) n (ints ns)) ((∀ j, j < n → if i = j then nb ns i j = false else nb ns i j ≠ nb ns j i) ∧ R) := by
  have hl := h.len
  have hn := h.n8
  refine allLoop0 (fun j k => spec_scGood.l1 k i ((ns.getD i 0 : Nat) : Int) (ints ns) n i (ints ns) n (j : Int) n (ints ns)) n (fun j => if i = j then nb ns i j = false else nb ns i j ≠ nb ns j i) R ?_ ?_
  · refine EvB.step (fun k => ?_) hR
    rw [spec_scGood.l1, if_neg (by omega), wrap_nat i (by omega)]
  · intro j hj R hR
    by_cases hij : i = j
    · subst hij
      refine EvB.step (f := fun k => if nb ns i i = false then spec_scGood.l1 k i ((ns.getD i 0 : Nat) : Int) (ints ns) n i (ints ns) n ((i + 1 : Nat) : Int) n (ints ns) else some false) (fun k => ?_) ((EvB.and fun _ => hR).congr (by simp))
      rw [spec_scGood.l1, if_pos (by omega), if_pos (by omega), if_pos (by rw [ints_length]; omega), if_pos rfl, deHas_nb h i, Option.bind_some, wrap_nat i (by omega)]
      cases nb ns i i <;> rfl
    · refine EvB.step (f := fun k => if nb ns i j ≠ nb ns j i then spec_scGood.l1 k i ((ns.getD i 0 : Nat) : Int) (ints ns) n i (ints ns) n ((j + 1 : Nat) : Int) n (ints ns) else some false) (fun k => ?_) ((EvB.and fun _ => hR).congr (by simp [hij]))
      rw [spec_scGood.l1, if_pos (by omega), if_pos (by omega), if_pos (by rw [ints_length]; omega), if_neg (by omega), deHas_nb h i, Option.bind_some, rd_ints, deHas_nb h j, Option.bind_some, wrap_nat j (by omega)]
      by_cases e : nb ns i j = nb ns j i
      · rw [if_pos (by simpa using e), if_neg (by simpa using e)]
      · rw [if_neg (by simpa using e), if_pos e]
theorem sgood_l0 {n : Nat} {ns : List Nat} (h : Sets n ns) : EvB (fun k => spec_scGood.l0 k (ints ns) n ((0 : Nat) : Int) n (ints ns)) (∀ i, i < n → ∀ j, j < n → if i = j then nb ns i j = false else nb ns i j ≠ nb ns j i) := by
  have hl := h.len
  have hn := h.n8
  refine (allLoop0 (fun j k => spec_scGood.l0 k (ints ns) n (j : Int) n (ints ns)) n (fun i => ∀ j, j < n → if i = j then nb ns i j = false else nb ns i j ≠ nb ns j i) True ?_ ?_).congr (by simp)
  · exact EvB.step (fun k => by rw [spec_scGood.l0, if_neg (by omega)]) EvB.true_
  · intro i hi R hR
    refine EvB.step (fun k => ?_) (sgood_l1 h i hi R hR)
    rw [spec_scGood.l0, if_pos (by omega), if_pos (by omega), if_pos (by rw [ints_length]; omega), rd_ints, ints_length, hl]
    rfl
theorem tour_iff {n : Nat} {ns : List Nat} (h : Sets n ns) : (∀ i, i < n → ∀ j, j < n → if i = j then nb ns i j = false else nb ns i j ≠ nb ns j i) ↔ Tour n ns := by
  constructor
  · intro g
    refine ⟨⟨h, fun i hi => by simpa using g i hi i hi⟩, fun i hi j hj => ?_⟩
    have := g i hi j (by omega)
    rwa [if_neg (by omega)] at this
  · intro g i hi j hj
    by_cases e : i = j
    · subst e; simpa using g.1.2 i hi
    · rw [if_neg e]
      by_cases c : j < i
      · exact g.2 i hi j c
      · exact fun q => g.2 j hj i (by omega) q.symm
theorem scGood_f (a : Int) (l : List Int) (hl : l.length ≤ BM) : EvB (fun k => spec_scGood.f k a l) (IsTour a l) := by
  have hj : ∀ a l, Ev (fun k => spec_scGood.j0 k true a l) false := fun a l => Ev.step (fun k => by rw [spec_scGood.j0]) (by simpa using Ev.now _)
  have no : ∀ {g : Nat → Option Bool}, ¬ ((1 ≤ a ∧ a ≤ 8) ∧ (l.length : Int) = a ∧ within 0 (wrap64 (shl .i64 1 a - 1)) l = true) → Ev g false → EvB g (IsTour a l) := by
    intro g h1 h2
    exact ⟨fun ⟨n, ns, e1, e2, h⟩ => absurd ((sets_iff a l).2 ⟨n, ns, e1, e2, h.1.1⟩) h1, fun _ => h2⟩
  unfold spec_scGood.f
  simp only [l1In_f, Option.bind_some]
  by_cases h1 : 1 ≤ a ∧ a ≤ 8
  · rw [show (decide (1 ≤ a) && decide (a ≤ 8)) = true by simp; omega]
    simp only [if_true]
    by_cases h2 : (l.length : Int) = a
    · have h3 : 0 ≤ a := by omega
      simp only [if_pos h2, if_pos h3]
      refine EvB.bind (l1All_f l 0 _ hl) ?_
      cases h4 : within 0 (wrap64 (shl .i64 1 a - 1)) l with
      | false => exact no (by simp [h4]) (hj a l)
      | true =>
        obtain ⟨n, ns, rfl, rfl, hs⟩ := (sets_iff a l).1 ⟨h1, h2, h4⟩
        refine EvB.step (fun k => by rw [spec_scGood.j0]) ?_
        simp only [Bool.not_true, Bool.false_eq_true, if_false, h2]
        refine (sgood_l0 hs).congr ⟨fun h => ⟨n, ns, rfl, rfl, (tour_iff hs).1 h⟩, ?_⟩
        rintro ⟨n', ns', e1, e2, h⟩
        obtain rfl : n = n' := by omega
        obtain rfl := ints_inj e2
        exact (tour_iff hs).2 h
    · simp only [if_neg h2]
      exact no (fun h => h2 h.2.1) (hj a l)
  · rw [show (decide (1 ≤ a) && decide (a ≤ 8)) = false by simp; omega]
    exact no (fun h => h1 h.1) (by simpa using hj a l)
end Go.Proofs.YtfmpbflbkochgaaDoor.K
namespace Go.Proofs.YtfmpbflbkochgaaDoor.K
open Go.RowKit Go.Proofs.YtfmpbflbkochgaaDoorW.PrintWords Go.Proofs.YtfmpbflbkochgaaDoor.P
theorem toIntS_l0 : ∀ (rest done : List Int) , (done ++ rest).length ≤ BM → Ev (fun k => laws_toIntS.l0 k (done ++ rest) (done ++ List.replicate rest.length 0) done.length) (done ++ rest) := by
  intro rest
  induction rest with
  | nil => intro done h; exact Ev.step (fun k => by simp [laws_toIntS.l0]; rfl) (Ev.some (by simp))
  | cons x rest ih =>
    intro done h
    have ih' := ih (done ++ [x])
    obtain ⟨h1, h2, h3, h4, h5⟩ := mid x done rest h
    rw [h5] at ih'
    refine Ev.step (fun k => by rw [laws_toIntS.l0]) ?_
    have h6 : (done.length : Int) < ((done ++ List.replicate (x :: rest).length (0:Int)).length : Int) := by simp; omega
    simp only [if_pos h1, if_pos h2, if_pos h6, h3, h4]
    rw [List.length_cons, List.replicate_succ, set_mid]
    exact ih' h
theorem toIntS_f (l : List Int) (h : l.length ≤ BM) : Ev (fun k => laws_toIntS.f k l) l := by
  unfold laws_toIntS.f
  simp only [BM] at h
  have e1 : 0 ≤ (l.length : Int) := by omega
  have e2 : (l.length : Int).toNat ≤ 35184372088832 := by omega
  simp only [if_pos e1, if_pos e2]
  exact toIntS_l0 l [] h
theorem eqIntS_l0 : ∀ (rest done rest2 done2 : List Int), done.length = done2.length → rest.length = rest2.length → (done ++ rest).length ≤ BM → Ev (fun k => laws_eqIntS.l0 k (done ++ rest) (done2 ++ rest2) done.length) (decide (rest = rest2)) := by
  intro rest
  induction rest with
  | nil =>
    intro done rest2 done2 hl hl2 h
    obtain rfl : rest2 = [] := by simpa using hl2.symm
    exact Ev.step (fun k => by simp [laws_eqIntS.l0]; rfl) (Ev.some (by simp))
  | cons x rest ih =>
    intro done rest2 done2 hl hl2 h
    obtain ⟨y, rest2, rfl⟩ : ∃ y r, rest2 = y :: r := by cases rest2 with | nil => simp at hl2 | cons y r => exact ⟨y, r, rfl⟩
    have ih' := ih (done ++ [x]) rest2 (done2 ++ [y]) (by simp [hl]) (by simpa using hl2)
    obtain ⟨h1, h2, h3, h4, h5⟩ := mid x done rest h
    have hh : (done2 ++ y :: rest2).length ≤ BM := by simp at h hl2 ⊢; omega
    obtain ⟨g1, g2, g3, g4, g5⟩ := mid y done2 rest2 hh
    rw [h5, g5] at ih'
    refine Ev.step (fun k => by rw [laws_eqIntS.l0]) ?_
    rw [← hl] at g1 g3
    simp only [if_pos h1, if_pos h2, if_pos g1, h3, h4, g3]
    refine Ev.ite (fun e => ?_) (fun e => ?_)
    · subst e; simpa using ih' h
    · exact Ev.some (by simp [e])
theorem eqIntS_f (l m : List Int) (h : l.length ≤ BM) : Ev (fun k => laws_eqIntS.f k l m) (decide (l = m)) := by
  unfold laws_eqIntS.f
  refine Ev.ite (fun e => ?_) (fun e => ?_)
  · exact eqIntS_l0 l [] m [] rfl (by omega) h
  · exact Ev.some (by symm; simp; rintro rfl; exact e rfl)
theorem eqIntS_same (l : List Int) (h : l.length ≤ BM) : Ev (fun k => laws_eqIntS.f k l l) true := by simpa using eqIntS_f l l h
theorem szIntS_f (l : List Int) (a : Int) (hl : l.length ≤ maxLen) (h0 : 0 ≤ a) (h1 : a ≤ 1048576) : ∃ r, laws_szIntS.f l a = some r ∧ (0 ≤ r → l.length ≤ a ∧ r ≤ a) := by
  unfold maxLen at hl
  have e : wrap64 (a - (l.length : Int)) = a - l.length := by unfold wrap64; omega
  unfold laws_szIntS.f
  rw [e]
  by_cases h : a - (l.length : Int) < 0
  · rw [if_pos h]; exact ⟨-1, rfl, by omega⟩
  · rw [if_neg h]; exact ⟨_, rfl, by omega⟩
theorem szTournament_f (n : Int) (l : List Int) (hl : l.length ≤ maxLen) : ∃ r, laws_szTournament.f n l 1048576 = some r ∧ (0 ≤ r → l.length ≤ 1048576) := by
  obtain ⟨r, h1, h2⟩ := szIntS_f l 1048576 hl (by omega) (by omega)
  unfold laws_szTournament.f
  rw [h1, Option.bind_some]
  by_cases h : r < 0
  · rw [if_pos h]; exact ⟨-1, rfl, by omega⟩
  · rw [if_neg h]; exact ⟨r, rfl, fun h => by have := (h2 h).1; omega⟩
theorem toTournament_f (n : Int) (l : List Int) (h : l.length ≤ BM) : Ev (fun k => laws_toTournament.f k n l) (n, l) := by
  unfold laws_toTournament.f
  exact Ev.bind (toIntS_f l h) (Ev.now _)
theorem eqTournament_same (n : Int) (l : List Int) (h : l.length ≤ BM) : Ev (fun k => laws_eqTournament.f k n l n l) true := by
  unfold laws_eqTournament.f
  simp only [if_true]
  exact Ev.bind (eqIntS_same l h) (by simpa using Ev.now true)
end Go.Proofs.YtfmpbflbkochgaaDoor.K
namespace Go.Proofs.YtfmpbflbkochgaaDoor.K
open Go.RowKit Go.Proofs.YtfmpbflbkochgaaDoorW.PrintWords Go.Proofs.YtfmpbflbkochgaaDoorW.PrintMore Go.Proofs.YtfmpbflbkochgaaDoor.P
theorem ba_ext {s t : ByteArray} (h : s.data.toList = t.data.toList) : s = t := by
  cases s; cases t; congr 1; exact Array.toList_inj.1 h
theorem sn_app (a b : List Int) : strOfNums a ++ strOfNums b = strOfNums (a ++ b) := by
  apply ba_ext
  simp [strOfNums]
theorem sn_size (a : List Int) : (strOfNums a).size = a.length := by simp [strOfNums, ByteArray.size]
theorem sn_49 : (⟨#[49]⟩ : ByteArray) = strOfNums [49] := rfl
theorem sn_48 : (⟨#[48]⟩ : ByteArray) = strOfNums [48] := rfl
theorem sn_58 : (⟨#[58]⟩ : ByteArray) = strOfNums [58] := rfl
theorem rowT_length (ns : List Nat) (i : Nat) : ∀ d j, (rowT ns i j d).length = d := by
  intro d
  induction d with
  | zero => intro j; rfl
  | succ d ih => intro j; simp [rowT, ih]
theorem sct_l1 {n : Nat} {ns : List Nat} (h : Sets n ns) (i : Nat) (hi : i < 9223372036854775807) (r : ByteArray) : ∀ d j (B : ByteArray), j + d = n → B.size + d ≤ 1000 → Ev (fun k => spec_scText.l0 k (B ++ strOfNums (rowT ns i j d)) (ints ns) n ((i + 1 : Nat) : Int) n (ints ns)) r →
    Ev (fun k => spec_scText.l1 k B ((ns.getD i 0 : Nat) : Int) (j : Int) (ints ns) n i n (ints ns)) r := by
  have hn := h.n8
  intro d
  induction d with
  | zero =>
    intro j B hj hb hr
    refine Ev.step (fun k => ?_) hr
    rw [spec_scText.l1, if_neg (by omega)]
    have e : B ++ strOfNums (rowT ns i j 0) = B := by apply ba_ext; simp [rowT, strOfNums]
    rw [wrap_nat i hi, e]
  | succ d ih =>
    intro j B hj hb hr
    have e (t : List Int) (b : Int) (hb2 : (if nb ns i j then (49 : Int) else 48) = b) : B ++ strOfNums (rowT ns i j (d + 1)) = (B ++ strOfNums [b]) ++ strOfNums (rowT ns i (j + 1) d) := by
      rw [rowT, hb2, ByteArray.append_assoc, sn_app]; rfl
    cases hnb : nb ns i j with
    | true =>
      rw [e [] 49 (by rw [hnb]; rfl)] at hr
      refine Ev.step (fun k => ?_) (ih (j + 1) (B ++ strOfNums [49]) (by omega) (by rw [ByteArray.size_append, sn_size]; simp; omega) hr)
      rw [spec_scText.l1, if_pos (by omega), deHas_nb h, Option.bind_some, hnb, if_pos rfl, if_pos (by omega), wrap_nat j (by omega), sn_49]
    | false =>
      rw [e [] 48 (by rw [hnb]; rfl)] at hr
      refine Ev.step (fun k => ?_) (ih (j + 1) (B ++ strOfNums [48]) (by omega) (by rw [ByteArray.size_append, sn_size]; simp; omega) hr)
      rw [spec_scText.l1, if_pos (by omega), deHas_nb h, Option.bind_some, hnb, if_neg (by decide), if_pos (by omega), wrap_nat j (by omega), sn_48]
theorem sct_l0 {n : Nat} {ns : List Nat} (h : Sets n ns) : ∀ d i (B : ByteArray), i + d = n → B.size + 8 * d ≤ 1000 →
    Ev (fun k => spec_scText.l0 k B (ints ns) n (i : Int) n (ints ns)) (B ++ strOfNums (rowsT n ns i d)) := by
  have hn := h.n8
  have hl := h.len
  intro d
  induction d with
  | zero =>
    intro i B hi hb
    refine Ev.step (fun k => ?_) (Ev.some (r := B) (by apply ba_ext; simp [rowsT, strOfNums]))
    rw [spec_scText.l0, if_neg (by omega)]
  | succ d ih =>
    intro i B hi hb
    have e : B ++ strOfNums (rowsT n ns i (d + 1)) = (B ++ strOfNums (rowT ns i (i + 1) (n - (i + 1)))) ++ strOfNums (rowsT n ns (i + 1) d) := by
      rw [rowsT, ByteArray.append_assoc, sn_app]
    rw [e]
    refine Ev.step (fun k => ?_) (sct_l1 h i (by omega) _ (n - (i + 1)) (i + 1) B (by omega) (by omega) (ih (i + 1) _ (by omega) (by rw [ByteArray.size_append, sn_size, rowT_length]; omega)))
    rw [spec_scText.l0, if_pos (by omega), if_pos (by omega), if_pos (by rw [ints_length]; omega), rd_ints, wrap_nat i (by omega)]
theorem l1Num_f (n : Nat) (h : n < 10) : Ev (fun k => spec_l1Num.f k (n : Int)) (strOfNums [48 + (n : Int)]) := by
  refine Ev.step (fun k => ?_) (Ev.now _)
  rw [spec_l1Num.f, if_pos (by omega)]
  have e : wrap64 (48 + (n : Int)) % 256 = 48 + (n : Int) := by unfold wrap64; omega
  rw [e]
theorem scText_f {n : Nat} {ns : List Nat} (h : Sets n ns) : Ev (fun k => spec_scText.f k (n : Int) (ints ns)) (strOfNums (textT n ns)) := by
  have hn := h.n8
  unfold spec_scText.f
  refine Ev.bind (l1Num_f n (by omega)) ?_
  have e : ((ints ns).length : Int) = n := by rw [ints_length, h.len]
  simp only [e, sn_size, if_pos (show (([48 + (n : Int)].length : Nat) : Nat) + 1 ≤ 9223372036854775807 by simp)]
  have := sct_l0 h n 0 (strOfNums [48 + (n : Int), 58]) (by omega) (by rw [sn_size]; simp; omega)
  rw [sn_app] at this
  rw [sn_58, sn_app]
  exact this
theorem tournamentText_f {n : Nat} {ns : List Nat} (h : Sets n ns) : impl_tournamentText.f (n : Int) (ints ns) = some (strOfNums (textT n ns)) := by
  have hn := h.n8
  have hn1 := h.n1
  have hp := pow8 hn
  unfold impl_tournamentText.f
  rw [if_pos]
  · congr 2
    rw [Int.toNat_natCast]
    congr 1
    simp [ints, Function.comp_def]
  · refine ⟨by omega, by omega, by rw [ints_length, h.len], fun x hx => ?_⟩
    obtain ⟨y, hy, rfl⟩ := List.mem_map.1 hx
    have := h.lt y hy
    omega
end Go.Proofs.YtfmpbflbkochgaaDoor.K
namespace Go.Proofs.YtfmpbflbkochgaaDoor.Pure
open Go.RowKit Go.Proofs.YtfmpbflbkochgaaDoorW.PrintWords Go.Proofs.YtfmpbflbkochgaaDoor.P Go.Proofs.YtfmpbflbkochgaaDoor.K
theorem tourText_both (a : Int) (l : List Int) (hl : l.length ≤ BM) : ∃ r, Ev (fun k => spec_TournamentText.f k a l) r ∧ Ev (fun k => impl_TournamentText.f k a l) r := by
  unfold spec_TournamentText.f impl_TournamentText.f
  obtain ⟨b, hb, hbb⟩ := (scGood_f a l hl).ev
  obtain ⟨c, hc, hcc⟩ := (IsTournament_f a l hl).ev
  have e : b = c := by rw [Bool.eq_iff_iff, hbb, hcc]
  subst e
  cases b with
  | false => exact ⟨(⟨#[]⟩, false), Ev.bind hb (by simpa using Ev.now _), Ev.bind hc (by simpa using Ev.now _)⟩
  | true =>
    obtain ⟨n, ns, rfl, rfl, ht⟩ := hbb.1 rfl
    refine ⟨(strOfNums (textT n ns), true), Ev.bind hb ?_, Ev.bind hc ?_⟩
    · simp only [if_true]
      exact Ev.bind (scText_f ht.1.1) (Ev.now _)
    · simp only [if_true, tournamentText_f ht.1.1, Option.bind_some]
      exact Ev.now _
theorem FnExactTournamentText : ∀ (a : Int) (l : List Int), (Lit.int .i64 a).wf = true → l.length ≤ maxLen → (∀ n ∈ l, (Lit.int .i64 n).wf = true) → ∃ k, laws_FnExactTournamentText.f k a l = some true := by
  intro a l _ hl _
  refine Ev.rounds (g := fun k => laws_FnExactTournamentText.f k a l) ?_
  unfold laws_FnExactTournamentText.f
  obtain ⟨r, hr, hr'⟩ := szTournament_f a l hl
  rw [hr]
  simp only [Option.bind_some]
  refine Ev.ite (fun _ => Ev.now _) (fun h => ?_)
  have h : l.length ≤ BM := by have := hr' (by omega); simp only [BM]; omega
  obtain ⟨⟨s, ok⟩, hs, hi⟩ := tourText_both a l h
  refine Ev.bind (toTournament_f a l h) (Ev.bind hs (Ev.bind (toTournament_f a l h) (Ev.bind hi ?_)))
  repeat' first
    | exact Ev.now true
    | refine Ev.bind (toTournament_f a l h) ?_
    | refine Ev.bind (eqTournament_same _ _ h) ?_
    | simp only [if_true, bne_self_eq_false, Bool.false_eq_true, if_false]
    | refine Ev.step (fun k => by rw [laws_FnExactTournamentText.j0]) ?_
end Go.Proofs.YtfmpbflbkochgaaDoor.Pure
namespace Go.Proofs.YtfmpbflbkochgaaDoor.K
open Go.RowKit Go.ChangeShapes Go.WideShapes Go.ChangeAt Go.Deep Go.Proofs.YtfmpbflbkochgaaDoorW.PrintWords
section
variable {H : Type} {enc : TypeId × Value → H} {P : Program} {w : World}
theorem open_row {t e : TypeId} {fuel : Nat} {cs : List Value} {x : DataW H × List MemPlace} (ht : P.underlying t = some (.slice e)) (he : P.underlying e = some (.int .i64)) (hc : P.cellsOf e = 1)
    (h : DataW.trod enc P w 0 (fun _ => true) true fuel t cs = some x) :
    ∃ (A : Option Addr) (c : Nat) (l : List Int), cs = [.slice A l.length c] ∧ l.length ≤ c ∧ l.length ≤ maxLen ∧ (∀ n ∈ l, (Lit.int .i64 n).wf = true) ∧ Kd.C (Kd.int .i64) w A l.length l := by
  rcases open_ints ht he hc h with ⟨rfl, _⟩ | ⟨a, l, c, zs, rfl, _, hl, hm, hz, _, hcell, hwz⟩
  · exact ⟨none, 0, [], rfl, Nat.le_refl _, by simp [maxLen], by simp, Kd.C_nil _ _⟩
  · obtain ⟨l0, rfl, hr0, hm0, hw0, hc0⟩ := ReadsInt.ofRowC (k := .i64) (w := w) (a := some a) (len := l) (cap := c) (zs := zs) (.inr ⟨a, rfl, hl, hm, by simpa using hz, hcell, hwz⟩)
    exact ⟨some a, c, l0, rfl, hc0, hm0, hw0, Kd.C_of_reads (d := (0 : Int)) (h1 := fun _ => rfl) hr0⟩
end
end Go.Proofs.YtfmpbflbkochgaaDoor.K
namespace Go.Proofs.YtfmpbflbkochgaaDoor.fnExactTournamentText
open Go.ChangeShapes Go.WideShapes Go.ChangeAt Go.RowKit
open Go.ChangeMaps (open_string shut_string)
theorem own : ownKnob Tryd.prog.godebug = none := by kernel_rfl
theorem laidOut : laidOutB Tryd.prog = true := by kernel_rfl
theorem gTab : Tryd.prog.globalNamed "math/bits.deBruijn64tab" = some 1 := by kernel_rfl
theorem gTabType : (Tryd.prog.globals[1]?).map (·.type) = some 76 := by kernel_rfl
theorem cellsT : Tryd.prog.cellsOf 76 = 64 := by kernel_rfl
theorem cellsE : Tryd.prog.cellsOf 5 = 1 := by kernel_rfl
theorem table {W : World} (h : laidMetH Tryd.prog Rows.fnExactTournamentTextRow.laid W) : K.TabOK W := by
  have h2 : laidMet Tryd.prog [("math/bits.deBruijn32tab", Rows.laid_math_bits_deBruijn32tab), ("math/bits.deBruijn64tab", Rows.laid_math_bits_deBruijn64tab), ("internal/strconv.uint64pow10", Rows.laid_internal_strconv_uint64pow10)] W := h
  have h3 : laidMet Tryd.prog (("math/bits.deBruijn64tab", Lib.tabData .u8 K.zs64) :: [("internal/strconv.uint64pow10", Rows.laid_internal_strconv_uint64pow10)]) W := h2.tail
  have h4 := Lib.tabIs_of_head gTab gTabType Tryd.underlying76 Tryd.underlying5 cellsE cellsT h3
  intro j hj
  have h5 := h4.cell gTab j hj
  rw [h5, K.zs64_at j hj]
theorem contract (H : Type) (enc : TypeId × Value → H) (W : World) (base : Nat) (args : Array Value) (ds gs : List (DataW H)) (before : List MemPlace)
    (hval0 : ∀ (j : Nat) t v, Tryd.f3.params[j]? = some t → args[j]? = some v → Value.okWide Tryd.prog W .any base t v)
    (hW : DataW.Whole enc Tryd.prog Tryd.f3.params.toList Rows.fnExactTournamentTextSpec.vars false W args.toList ds gs before) (hsz0 : (DataW.weightsEach Tryd.prog (Tryd.f3.params.toList ++ Rows.fnExactTournamentTextSpec.plain.varTypes Tryd.prog) (ds ++ gs)).all (· ≤ reachBytes) = true) (hL : laidMetH Tryd.prog Rows.fnExactTournamentTextRow.laid W) :
    Calls Tryd.prog 3 args W fun e W' => ∃ v, e = .returned v ∧ Rows.fnExactTournamentTextSpec.post enc Tryd.prog Tryd.f3 false true false false W args v W' := by
  have hsz : (DataW.weightsEach Tryd.prog (Tryd.f3.params.toList ++ Rows.fnExactTournamentTextSpec.plain.varTypes Tryd.prog) (ds ++ gs)).all (· ≤ reachBytes) = true := hsz0
  have hval : ∀ (j : Nat) t v, Tryd.f3.params[j]? = some t → args[j]? = some v → Value.okWide Tryd.prog W .any base t v := hval0
  have hW' := hW
  obtain ⟨p, q, hA0, hV, rfl, hfz, hnd⟩ := hW
  have hA : DataW.TrodAll enc Tryd.prog W 0 (fun _ => true) true Tryd.f3.params.toList args.toList ds p := hA0
  rw [Tryd.params3] at hA hval hsz
  obtain ⟨v0, vs0, d0, ds0, p0, q0, hargs, rfl, rfl, h0, r0⟩ := trodAll_cons hA
  obtain ⟨rfl, rfl, rfl⟩ := trodAll_nil r0
  obtain rfl : args = #[v0] := by cases args; simp_all
  obtain ⟨rfl, rfl⟩ := trodVars_none hV
  have k0 := h0
  have lt0 : ∀ x ∈ p0, x.block < W.heap.size := by obtain ⟨m, hm⟩ := k0; exact DataW.trod_lt m _ _ _ hm
  obtain ⟨u0_0, u0_1, y0_0, y0_1, m0, rfl, rfl, rfl, g0_0, g0_1⟩ := Joins.open_agg2 Tryd.underlying24 (by kernel_rfl) (by kernel_rfl) (hval 0 24 v0 rfl rfl) h0
  obtain ⟨a0_0, hcs0_0, _, w0_0⟩ := DataW.trod_int Tryd.underlying3 g0_0
  obtain rfl := List.singleton_inj.1 hcs0_0
  obtain ⟨A0_1, c0_1, l0_1, hcs0_1, hc0_1, hm0_1, hw0_1, hr0_1⟩ := K.open_row Tryd.underlying22 Tryd.underlying3 (by kernel_rfl) g0_1
  obtain rfl := List.singleton_inj.1 hcs0_1
  clear hA0 hval0 hsz0 hsz
  obtain ⟨k, hk⟩ := Pure.FnExactTournamentText a0_0 l0_1 w0_0 hm0_1 hw0_1
  refine (P.laws_FnExactTournamentText.calls k a0_0 _ _ l0_1 true W hr0_1 hc0_1 hk).mono fun e W' ⟨he, bel⟩ => ?_
  subst he
  exact ⟨_, rfl, _, _, _, [], _, [], hW', trodAll_mk1 (shut_bool Tryd.underlying4 _), (trodAll_cons_mk (Below.trod laidOut (by kernel_rfl) (of_decide_eq_true (by kernel_rfl)) k0 bel lt0) trodAll_mk0), rfl, bel.frame _, fun h => by cases h⟩
noncomputable def laidWorld (os : Os) : World :=
  { World.holding Tryd.prog os ⟨#[], #[], []⟩ with heap := ((((World.holding Tryd.prog os ⟨#[], #[], []⟩).heap.modify 0 fun | .cells _ t frozen => .cells #[.int .u8 0, .int .u8 1, .int .u8 28, .int .u8 2, .int .u8 29, .int .u8 14, .int .u8 24, .int .u8 3, .int .u8 30, .int .u8 22, .int .u8 20, .int .u8 15, .int .u8 25, .int .u8 17, .int .u8 4, .int .u8 8, .int .u8 31, .int .u8 27, .int .u8 13, .int .u8 23, .int .u8 21, .int .u8 19, .int .u8 16, .int .u8 7, .int .u8 26, .int .u8 12, .int .u8 18, .int .u8 6, .int .u8 11, .int .u8 5, .int .u8 10, .int .u8 9] t frozen | o => o).modify 1 fun | .cells _ t frozen => .cells #[.int .u8 0, .int .u8 1, .int .u8 56, .int .u8 2, .int .u8 57, .int .u8 49, .int .u8 28, .int .u8 3, .int .u8 61, .int .u8 58, .int .u8 42, .int .u8 50, .int .u8 38, .int .u8 29, .int .u8 17, .int .u8 4, .int .u8 62, .int .u8 47, .int .u8 59, .int .u8 36, .int .u8 45, .int .u8 43, .int .u8 51, .int .u8 22, .int .u8 53, .int .u8 39, .int .u8 33, .int .u8 30, .int .u8 24, .int .u8 18, .int .u8 12, .int .u8 5, .int .u8 63, .int .u8 55, .int .u8 48, .int .u8 27, .int .u8 60, .int .u8 41, .int .u8 37, .int .u8 16, .int .u8 46, .int .u8 35, .int .u8 44, .int .u8 21, .int .u8 52, .int .u8 32, .int .u8 23, .int .u8 11, .int .u8 54, .int .u8 26, .int .u8 40, .int .u8 15, .int .u8 34, .int .u8 20, .int .u8 31, .int .u8 10, .int .u8 25, .int .u8 14, .int .u8 19, .int .u8 9, .int .u8 13, .int .u8 8, .int .u8 7, .int .u8 6] t frozen | o => o).modify 2 fun | .cells _ t frozen => .cells #[.int .u64 1, .int .u64 10, .int .u64 100, .int .u64 1000, .int .u64 10000, .int .u64 100000, .int .u64 1000000, .int .u64 10000000, .int .u64 100000000, .int .u64 1000000000, .int .u64 10000000000, .int .u64 100000000000, .int .u64 1000000000000, .int .u64 10000000000000, .int .u64 100000000000000, .int .u64 1000000000000000, .int .u64 10000000000000000, .int .u64 100000000000000000, .int .u64 1000000000000000000, .int .u64 10000000000000000000] t frozen | o => o) }
theorem laid_met (os : Os) : laidMet Tryd.prog Rows.fnExactTournamentTextRow.laid ((laidWorld os).forCall (fun _ _ => 0) ⟨#[], #[.agg #[.int .i64 0, .slice none 0 0]], []⟩).memory :=
  laidMet_of_run' 8 (by kernel_rfl) (by kernel_rfl)
theorem reads (os : Os) {H : Type} (enc : TypeId × Value → H) : ∃ places, DataW.whole enc Tryd.prog ((laidWorld os).forCall (fun _ _ => 0) ⟨#[], #[.agg #[.int .i64 0, .slice none 0 0]], []⟩).memory Tryd.f3.params.toList Rows.fnExactTournamentTextSpec.vars false #[.agg #[.int .i64 0, .slice none 0 0]].toList 8 = some ([.agg [.lit (.int .i64 0), .nil]], [], places) :=
  ⟨[], by kernel_rfl⟩
set_option maxRecDepth 100000 in
theorem lifted (os : Os) (started : os.Started) (H : Type) (enc : TypeId × Value → H) (F : Stop.Interp) :
    ReturnsInHanded {} Tryd.checked os 3 .any ((OpenSpec.ofChange Rows.fnExactTournamentTextSpec).preRow enc Tryd.prog Tryd.f3 Rows.fnExactTournamentTextRow.domain false Rows.fnExactTournamentTextRow.laid) (((OpenSpec.ofChange Rows.fnExactTournamentTextSpec).at F).post enc Tryd.prog Tryd.f3 false true false false) := by
  obtain ⟨places, hx⟩ := reads os enc
  refine returnsInHanded_of_row (C := Tryd.checked) (s := OpenSpec.ofChange Rows.fnExactTournamentTextSpec) own started (by kernel_rfl) Tryd.func3
    (witness_row_at (enc := enc) (C := Tryd.checked) false (laidWorld os) #[.agg #[.int .i64 0, .slice none 0 0]] rfl (by kernel_rfl) (by kernel_rfl) (by kernel_rfl)
      (OpenSpec.preRow_of_cond 8 hx (by kernel_rfl) (fun k hk => by cases hk) (by kernel_rfl) (laid_met os))) ?_
  intro W base args ds gs before hval hW _ _ hsz hL _ _
  exact contract H enc W base args ds gs before hval hW hsz hL
set_option maxHeartbeats 4000000 in
theorem said : Rows.FnExactTournamentTextSaid :=
  OpenClaim.holds_of_cond 3 Tryd.f3 rfl rfl rfl rfl rfl rfl rfl ⟨rfl, rfl, rfl, rfl, rfl⟩ rfl rfl rfl rfl rfl (by kernel_rfl) Tryd.func3 (by kernel_rfl)
    (of_decide_eq_true (by kernel_rfl)) (by unfold Func.isWrapper; first | (rw [if_pos (by decide +kernel)]; kernel_rfl) | (rw [if_neg (by decide +kernel)]; exact ⟨rfl, rfl⟩))
    (fun os started H enc _ F => by rw [OpenClaim.pre_eq_preRow]; exact lifted os started H enc F)
theorem plain (f : FuncId) (fn : Func) (hf : Tryd.pinned.checked.prog.funcNamed "loop.example/g01113/laws.FnExactTournamentText" = some f) (hfn : Tryd.pinned.checked.prog.funcs[f]? = some fn) :
    false = Tryd.pinned.checked.prog.looks [] ∧ ∀ (j : Nat) t, fn.params[j]? = some t → Tryd.pinned.checked.prog.wantsStandIn t = false := by
  obtain rfl : f = 3 := Option.some.inj ((show Tryd.prog.funcNamed "loop.example/g01113/laws.FnExactTournamentText" = some 3 by kernel_rfl).symm.trans hf) |>.symm
  obtain rfl : fn = Tryd.f3 := (Option.some.inj (Tryd.func3.symm.trans hfn)).symm
  refine ⟨by kernel_rfl, fun j t ht => ?_⟩
  rw [Tryd.params3] at ht
  have hm := Array.mem_of_getElem? ht
  simp only [List.mem_toArray, List.mem_cons, List.not_mem_nil, or_false] at hm
  subst hm
  exact (show Tryd.prog.wantsStandIn 24 = false by kernel_rfl)
theorem card : Rows.FnExactTournamentTextCardSaid :=
  Claim7.holds_tied_plain_at .later [] _ _ _ _ said (fun _ h => by cases h) (by kernel_rfl) (fun _ h => by cases h) fnExactTournamentText_row_tie rfl ⟨rfl, rfl⟩ (by kernel_rfl) rfl plain (by kernel_rfl)
#print axioms card
end Go.Proofs.YtfmpbflbkochgaaDoor.fnExactTournamentText
namespace Go.Proofs.YtfmpbflbkochgaaDoor
theorem fnExactTournamentText_holds : Rows.FnExactTournamentTextCardSaid := fnExactTournamentText.card
end Go.Proofs.YtfmpbflbkochgaaDoor
