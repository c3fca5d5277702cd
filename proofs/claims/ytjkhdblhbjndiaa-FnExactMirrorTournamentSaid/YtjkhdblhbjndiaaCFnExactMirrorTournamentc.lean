/- Parts: contracts and plain lemmas for the law FnExactMirrorTournament, part 3 of 4: what the Go functions that it reaches answer. No condition beyond those in each statement. -/
import Derived.Test.YtjkhdblhbjndiaaWWords
import Derived.Test.YtjkhdblhbjndiaaWMore
import Derived.Laws.BitsLemmas
import Derived.Test.YtjkhdblhbjndiaaCFnExactMirrorTournamenta
import Derived.Test.YtjkhdblhbjndiaaCFnExactMirrorTournamentb
namespace Go.Proofs.Ytjkhdblhbjndiaa.P
open Go.RowKit Go.Proofs.YtjkhdblhbjndiaaW.PrintWords Go.Proofs.YtjkhdblhbjndiaaW.PrintLast Go.Proofs.YtjkhdblhbjndiaaW.PrintMore
attribute [local go_sem] max2_int min2_int max_two min_two max_three min_three max_four min_four   -- for this text's walks alone
set_option linter.unusedVariables false
set_option linter.unusedSimpArgs false

/-! ### laws_FnExactMirrorTournament: function 7 -/
mutual
def laws_FnExactMirrorTournament.j0 : Nat → Bool → Bool → Bool → Int → List Int → Int → List Int → Int → List Int → Int → List Int → Option (Bool)
  | 0, _, _, _, _, _, _, _, _, _, _, _ => none
  | k + 1, x5, x8, x40, x286000, x286001, x297000, x297001, x302000, x302001, x308000, x308001 => if x40 = true then (some false) else ((laws_toTournament.f k x286000 x286001).bind fun bt309 => ((laws_eqTournament.f k x302000 x302001 bt309.1 bt309.2).bind fun t313 => (if t313 = true then ((laws_markTournament.f k x302000 x302001 1).bind fun bt314 => (if bt314.1 < 0 then (laws_FnExactMirrorTournament.j1 k x5 true x286000 x286001 x297000 x297001 x308000 x308001) else ((laws_eqTournament.f k x308000 x308001 x297000 x297001).bind fun t316 => (if t316 = true then (laws_FnExactMirrorTournament.j1 k x5 (x8 != x5) x286000 x286001 x297000 x297001 x308000 x308001) else (laws_FnExactMirrorTournament.j1 k x5 true x286000 x286001 x297000 x297001 x308000 x308001))))) else (some false))))
def laws_FnExactMirrorTournament.j1 : Nat → Bool → Bool → Int → List Int → Int → List Int → Int → List Int → Option (Bool)
  | 0, _, _, _, _, _, _, _, _ => none
  | k + 1, x5, x61, x286000, x286001, x297000, x297001, x308000, x308001 => if x61 = true then (some false) else ((laws_markTournament.f k x308000 x308001 1).bind fun bt317 => ((laws_heldTournament.f k x308000 bt317.2 1).bind fun t319 => (if t319 < 0 then (some false) else (if t319 = bt317.1 then ((laws_toTournament.f k x286000 x286001).bind fun bt320 => ((impl_MirrorTournament.f k bt320.1 bt320.2).bind fun bt324 => ((laws_eqTournament.f k bt324.1 bt324.2.1 x297000 x297001).bind fun t330 => (if t330 = true then (laws_FnExactMirrorTournament.j2 k bt317.1 (bt324.2.2 != x5) x308000 bt317.2) else (laws_FnExactMirrorTournament.j2 k bt317.1 true x308000 bt317.2))))) else (some false)))))
def laws_FnExactMirrorTournament.j2 : Nat → Int → Bool → Int → List Int → Option (Bool)
  | 0, _, _, _, _ => none
  | k + 1, x10, x87, x308000, x308001 => if x87 = true then (some false) else ((laws_heldTournament.f k x308000 x308001 1).bind fun t331 => (if t331 < 0 then (some false) else (if t331 = x10 then (some true) else (some false))))
end
def laws_FnExactMirrorTournament.f (k : Nat) (a0_0 : Int) (l0_1 : List Int) : Option (Bool) := (laws_szTournament.f a0_0 l0_1 1048576).bind fun t286 => (if t286 < 0 then (some true) else ((laws_toTournament.f k a0_0 l0_1).bind fun bt287 => ((spec_MirrorTournament.f k bt287.1 bt287.2).bind fun bt291 => ((laws_toTournament.f k a0_0 l0_1).bind fun bt297 => ((impl_MirrorTournament.f k bt297.1 bt297.2).bind fun bt302 => ((laws_eqTournament.f k bt302.1 bt302.2.1 bt291.1 bt291.2.1).bind fun t308 => (if t308 = true then (laws_FnExactMirrorTournament.j0 k bt291.2.2 bt302.2.2 (bt302.2.2 != bt291.2.2) a0_0 l0_1 bt291.1 bt291.2.1 bt297.1 bt297.2 bt302.1 bt302.2.1) else (laws_FnExactMirrorTournament.j0 k bt291.2.2 bt302.2.2 true a0_0 l0_1 bt291.1 bt291.2.1 bt297.1 bt297.2 bt302.1 bt302.2.1))))))))
theorem laws_FnExactMirrorTournament.mono_l : ∀ k, (∀ y0 y1 y2 y3 y4 y5 y6 y7 y8 y9 y10, LeO (laws_FnExactMirrorTournament.j0 k y0 y1 y2 y3 y4 y5 y6 y7 y8 y9 y10) (laws_FnExactMirrorTournament.j0 (k + 1) y0 y1 y2 y3 y4 y5 y6 y7 y8 y9 y10)) ∧ (∀ y0 y1 y2 y3 y4 y5 y6 y7, LeO (laws_FnExactMirrorTournament.j1 k y0 y1 y2 y3 y4 y5 y6 y7) (laws_FnExactMirrorTournament.j1 (k + 1) y0 y1 y2 y3 y4 y5 y6 y7)) ∧ (∀ y0 y1 y2 y3, LeO (laws_FnExactMirrorTournament.j2 k y0 y1 y2 y3) (laws_FnExactMirrorTournament.j2 (k + 1) y0 y1 y2 y3))
  | 0 => ⟨fun _ _ _ _ _ _ _ _ _ _ _ r h => by simp [laws_FnExactMirrorTournament.j0] at h, fun _ _ _ _ _ _ _ _ r h => by simp [laws_FnExactMirrorTournament.j1] at h, fun _ _ _ _ r h => by simp [laws_FnExactMirrorTournament.j2] at h⟩
  | k + 1 => by
    obtain ⟨ih0, ih1, ih2⟩ := laws_FnExactMirrorTournament.mono_l k
    refine ⟨?_, ?_, ?_⟩
    · intro y0 y1 y2 y3 y4 y5 y6 y7 y8 y9 y10
      unfold laws_FnExactMirrorTournament.j0
      repeat' first
      | (with_reducible exact ih0 _ _ _ _ _ _ _ _ _ _ _)
      | (with_reducible exact ih1 _ _ _ _ _ _ _ _)
      | (with_reducible exact ih2 _ _ _ _)
      | (with_reducible exact impl_MirrorTournament.mono _ _ _)
      | (with_reducible exact laws_eqTournament.mono _ _ _ _ _)
      | (with_reducible exact laws_heldTournament.mono _ _ _ _)
      | (with_reducible exact laws_markTournament.mono _ _ _ _)
      | (with_reducible exact laws_toTournament.mono _ _ _)
      | (with_reducible exact spec_MirrorTournament.mono _ _ _)
      | (with_reducible exact LeO.refl _)
      | (with_reducible exact LeO.none _)
      | (with_reducible refine LeO.ite ?_ ?_)
      | (with_reducible refine LeO.bind ?_ (fun _ => ?_))
      | exact ih0 _ _ _ _ _ _ _ _ _ _ _
      | exact ih1 _ _ _ _ _ _ _ _
      | exact ih2 _ _ _ _
      | exact impl_MirrorTournament.mono _ _ _
      | exact laws_eqTournament.mono _ _ _ _ _
      | exact laws_heldTournament.mono _ _ _ _
      | exact laws_markTournament.mono _ _ _ _
      | exact laws_toTournament.mono _ _ _
      | exact spec_MirrorTournament.mono _ _ _
      | exact LeO.none _
      | refine LeO.ite ?_ ?_
      | refine LeO.bind ?_ (fun _ => ?_)
    · intro y0 y1 y2 y3 y4 y5 y6 y7
      unfold laws_FnExactMirrorTournament.j1
      repeat' first
      | (with_reducible exact ih0 _ _ _ _ _ _ _ _ _ _ _)
      | (with_reducible exact ih1 _ _ _ _ _ _ _ _)
      | (with_reducible exact ih2 _ _ _ _)
      | (with_reducible exact impl_MirrorTournament.mono _ _ _)
      | (with_reducible exact laws_eqTournament.mono _ _ _ _ _)
      | (with_reducible exact laws_heldTournament.mono _ _ _ _)
      | (with_reducible exact laws_markTournament.mono _ _ _ _)
      | (with_reducible exact laws_toTournament.mono _ _ _)
      | (with_reducible exact spec_MirrorTournament.mono _ _ _)
      | (with_reducible exact LeO.refl _)
      | (with_reducible exact LeO.none _)
      | (with_reducible refine LeO.ite ?_ ?_)
      | (with_reducible refine LeO.bind ?_ (fun _ => ?_))
      | exact ih0 _ _ _ _ _ _ _ _ _ _ _
      | exact ih1 _ _ _ _ _ _ _ _
      | exact ih2 _ _ _ _
      | exact impl_MirrorTournament.mono _ _ _
      | exact laws_eqTournament.mono _ _ _ _ _
      | exact laws_heldTournament.mono _ _ _ _
      | exact laws_markTournament.mono _ _ _ _
      | exact laws_toTournament.mono _ _ _
      | exact spec_MirrorTournament.mono _ _ _
      | exact LeO.none _
      | refine LeO.ite ?_ ?_
      | refine LeO.bind ?_ (fun _ => ?_)
    · intro y0 y1 y2 y3
      unfold laws_FnExactMirrorTournament.j2
      repeat' first
      | (with_reducible exact ih0 _ _ _ _ _ _ _ _ _ _ _)
      | (with_reducible exact ih1 _ _ _ _ _ _ _ _)
      | (with_reducible exact ih2 _ _ _ _)
      | (with_reducible exact impl_MirrorTournament.mono _ _ _)
      | (with_reducible exact laws_eqTournament.mono _ _ _ _ _)
      | (with_reducible exact laws_heldTournament.mono _ _ _ _)
      | (with_reducible exact laws_markTournament.mono _ _ _ _)
      | (with_reducible exact laws_toTournament.mono _ _ _)
      | (with_reducible exact spec_MirrorTournament.mono _ _ _)
      | (with_reducible exact LeO.refl _)
      | (with_reducible exact LeO.none _)
      | (with_reducible refine LeO.ite ?_ ?_)
      | (with_reducible refine LeO.bind ?_ (fun _ => ?_))
      | exact ih0 _ _ _ _ _ _ _ _ _ _ _
      | exact ih1 _ _ _ _ _ _ _ _
      | exact ih2 _ _ _ _
      | exact impl_MirrorTournament.mono _ _ _
      | exact laws_eqTournament.mono _ _ _ _ _
      | exact laws_heldTournament.mono _ _ _ _
      | exact laws_markTournament.mono _ _ _ _
      | exact laws_toTournament.mono _ _ _
      | exact spec_MirrorTournament.mono _ _ _
      | exact LeO.none _
      | refine LeO.ite ?_ ?_
      | refine LeO.bind ?_ (fun _ => ?_)
theorem laws_FnExactMirrorTournament.mono : ∀ a0 a1 k, LeO (laws_FnExactMirrorTournament.f k a0 a1) (laws_FnExactMirrorTournament.f (k + 1) a0 a1) := by
  intro a0 a1 k
  obtain ⟨ih0, ih1, ih2⟩ := laws_FnExactMirrorTournament.mono_l k
  unfold laws_FnExactMirrorTournament.f
  repeat' first
      | (with_reducible exact ih0 _ _ _ _ _ _ _ _ _ _ _)
      | (with_reducible exact ih1 _ _ _ _ _ _ _ _)
      | (with_reducible exact ih2 _ _ _ _)
      | (with_reducible exact impl_MirrorTournament.mono _ _ _)
      | (with_reducible exact laws_eqTournament.mono _ _ _ _ _)
      | (with_reducible exact laws_heldTournament.mono _ _ _ _)
      | (with_reducible exact laws_markTournament.mono _ _ _ _)
      | (with_reducible exact laws_toTournament.mono _ _ _)
      | (with_reducible exact spec_MirrorTournament.mono _ _ _)
      | (with_reducible exact LeO.refl _)
      | (with_reducible exact LeO.none _)
      | (with_reducible refine LeO.ite ?_ ?_)
      | (with_reducible refine LeO.bind ?_ (fun _ => ?_))
      | exact ih0 _ _ _ _ _ _ _ _ _ _ _
      | exact ih1 _ _ _ _ _ _ _ _
      | exact ih2 _ _ _ _
      | exact impl_MirrorTournament.mono _ _ _
      | exact laws_eqTournament.mono _ _ _ _ _
      | exact laws_heldTournament.mono _ _ _ _
      | exact laws_markTournament.mono _ _ _ _
      | exact laws_toTournament.mono _ _ _
      | exact spec_MirrorTournament.mono _ _ _
      | exact LeO.none _
      | refine LeO.ite ?_ ?_
      | refine LeO.bind ?_ (fun _ => ?_)
set_option maxHeartbeats 8000000 in
set_option maxRecDepth 100000 in
theorem laws_FnExactMirrorTournament.calls (k : Nat) (a0_0 : Int) (A0_1 : Option Addr) (c0_1 : Nat) (l0_1 : List Int) (r : Bool) (w : World) (hr0_1 : Kd.C (Kd.int .i64) w A0_1 l0_1.length l0_1) (hc0_1 : l0_1.length ≤ c0_1) (h : laws_FnExactMirrorTournament.f k a0_0 l0_1 = some r) :
    Calls Try.prog 7 #[.agg #[.int .i64 a0_0, .slice A0_1 l0_1.length c0_1]] w fun e w' => e = .returned (.bool r) ∧ Below w.heap.size w w' := by
  have hu30 := Try.underlying30
  have hu33 := Try.underlying33
  have HR0_1 := Aside0.mk hr0_1
  have HC0_1 := Aside0.mk hc0_1
  clear hr0_1 hc0_1
  have HB := Aside0.mk (Below.refl w.heap.size w)
  have H : ((laws_szTournament.f a0_0 l0_1 1048576).bind fun t286 => (if t286 < 0 then (some true) else ((laws_toTournament.f k a0_0 l0_1).bind fun bt287 => ((spec_MirrorTournament.f k bt287.1 bt287.2).bind fun bt291 => ((laws_toTournament.f k a0_0 l0_1).bind fun bt297 => ((impl_MirrorTournament.f k bt297.1 bt297.2).bind fun bt302 => ((laws_eqTournament.f k bt302.1 bt302.2.1 bt291.1 bt291.2.1).bind fun t308 => (if t308 = true then (laws_FnExactMirrorTournament.j0 k bt291.2.2 bt302.2.2 (bt302.2.2 != bt291.2.2) a0_0 l0_1 bt291.1 bt291.2.1 bt297.1 bt297.2 bt302.1 bt302.2.1) else (laws_FnExactMirrorTournament.j0 k bt291.2.2 bt302.2.2 true a0_0 l0_1 bt291.1 bt291.2.1 bt297.1 bt297.2 bt302.1 bt302.2.1))))))))) = some r := h
  clear h
  replace H := Option.bind_eq_some_iff.mp H
  obtain ⟨t286, A20, H⟩ := H
  replace H : (if t286 < 0 then (some true) else ((laws_toTournament.f k a0_0 l0_1).bind fun bt287 => ((spec_MirrorTournament.f k bt287.1 bt287.2).bind fun bt291 => ((laws_toTournament.f k a0_0 l0_1).bind fun bt297 => ((impl_MirrorTournament.f k bt297.1 bt297.2).bind fun bt302 => ((laws_eqTournament.f k bt302.1 bt302.2.1 bt291.1 bt291.2.1).bind fun t308 => (if t308 = true then (laws_FnExactMirrorTournament.j0 k bt291.2.2 bt302.2.2 (bt302.2.2 != bt291.2.2) a0_0 l0_1 bt291.1 bt291.2.1 bt297.1 bt297.2 bt302.1 bt302.2.1) else (laws_FnExactMirrorTournament.j0 k bt291.2.2 bt302.2.2 true a0_0 l0_1 bt291.1 bt291.2.1 bt297.1 bt297.2 bt302.1 bt302.2.1)))))))) = some r := H
  have A2 := Aside0.mk A20
  clear A20
  by_cases c3 : t286 < 0
  · rw [if_pos c3] at H
    have c3b0 : decide (t286 < 0) = true := decide_eq_true c3
    clear c3
    obtain rfl := Option.some.inj H
    go_enter Try.func7, Try.ntmps7
    go_wp2_with (first | ((with_reducible refine gate_dst (N := 1) rfl ?_); refine box_event ?hg (N := 1) ?hd (cs := #[.int .i64 a0_0, .slice A0_1 l0_1.length c0_1]) (t := 30) ?hr ?_; (case hd => rfl); (case hg => rfl); (case hr => first | (go_simp; done) | (go_simp; rfl)); intro gb285 hg w4 hbox hb; have n0_ := Aside0.mk (below_step (by repeat (first | (with_reducible first | exact HB.out | apply below_alloc | apply pw_below_drewN | apply below_drew1) | exact HB.out)) hb); have n1_ := Aside0.mk (hbox); have n2_ := Aside0.mk ((by rw [hg]; exact (below_size (by repeat (first | (with_reducible first | exact HB.out | apply below_alloc | apply pw_below_drewN | apply below_drew1) | exact HB.out))) : w.heap.size ≤ gb285)); have n3_ := Aside0.mk ((by rw [hg]; exact (below_size (by repeat (first | (with_reducible first | exact HB.out | apply below_alloc | apply pw_below_drewN | apply below_drew1) | exact HB.out))) : w.heap.size ≤ gb285)); clear HB; have HB := n0_; have BK285 := n1_; have GW285 := n2_; have GE285 := n3_; clear n0_ n1_ n2_ n3_; clear hb hbox hg; have hcz5_0 : w4.cell? ⟨gb285, 0, none⟩ = some (.int .i64 a0_0) := (blk_cell BK285.out 0).trans rfl; have hcz5_1 : w4.cell? ⟨gb285, 1, none⟩ = some (.slice A0_1 l0_1.length c0_1) := (blk_cell BK285.out 1).trans rfl; have hfz5_0 := blk_frozen BK285.out 0; have hfz5_1 := blk_frozen BK285.out 1) | ((with_reducible refine gate_callee (f := 31) rfl ?_); refine goesL_ (some 16) rfl rfl Try.func31 (by kernel_rfl) rfl #[.agg #[.int .i64 a0_0, .slice A0_1 l0_1.length c0_1], .int .i64 1048576] rfl (by (try simp only [List.map_toArray, List.map_cons, List.map_nil]); first | done | rfl | (simp only [List.length_drop, List.length_take]; rfl)) ?_; (with_reducible refine (laws_szTournament.calls a0_0 _ _ l0_1 1048576 t286 _ ?side1 ?side2 A2.out).mono ?_); (case side1 => repeat (first | exact (Kd.C_below HR0_1.out HB.out) | (with_reducible refine Kd.C_alloc ?_ _) | (with_reducible refine Kd.C_drewN ?_ _) | (with_reducible refine Kd.C_drew ?_))); (case side2 => exact HC0_1.out); rintro e w6 ⟨rfl, hb⟩; refine ⟨_, rfl, ?_⟩; have n0_ := Aside0.mk (blk_below (g := gb285) (o := .cells #[.int .i64 a0_0, .slice A0_1 l0_1.length c0_1] 30 (0, 0)) (by (with_reducible repeat (first | refine blk_drewN ?_ _ | refine blk_drew ?_ | refine blk_alloc ?_ _)); exact BK285.out) hb); have n1_ := Aside0.mk (below_step (by repeat (first | (with_reducible first | exact HB.out | apply below_alloc | apply pw_below_drewN | apply below_drew1 | refine below_set ?_ GE285.out) | exact HB.out)) hb); clear BK285; clear HB; have BK285 := n0_; have HB := n1_; clear n0_ n1_; (try clear hb); (try clear hb2); (try clear hk); (try clear hi)))
    go_ret
    exact ⟨by first | rfl | (simp [errW_none, errW_some] <;> rfl) | (simp [*, errW_none, errW_some] <;> rfl), by repeat (first | (with_reducible first | exact HB.out | apply below_alloc | apply pw_below_drewN | apply below_drew1 | refine below_set ?_ GE285.out) | exact HB.out)⟩
  · rw [if_neg c3] at H
    have c3b0 : decide (t286 < 0) = false := decide_eq_false c3
    clear c3
    replace H := Option.bind_eq_some_iff.mp H
    obtain ⟨⟨t287, t288⟩, A70, H⟩ := H
    replace H : ((spec_MirrorTournament.f k t287 t288).bind fun bt291 => ((laws_toTournament.f k a0_0 l0_1).bind fun bt297 => ((impl_MirrorTournament.f k bt297.1 bt297.2).bind fun bt302 => ((laws_eqTournament.f k bt302.1 bt302.2.1 bt291.1 bt291.2.1).bind fun t308 => (if t308 = true then (laws_FnExactMirrorTournament.j0 k bt291.2.2 bt302.2.2 (bt302.2.2 != bt291.2.2) a0_0 l0_1 bt291.1 bt291.2.1 bt297.1 bt297.2 bt302.1 bt302.2.1) else (laws_FnExactMirrorTournament.j0 k bt291.2.2 bt302.2.2 true a0_0 l0_1 bt291.1 bt291.2.1 bt297.1 bt297.2 bt302.1 bt302.2.1)))))) = some r := H
    have A7 := Aside0.mk A70
    clear A70
    replace H := Option.bind_eq_some_iff.mp H
    obtain ⟨⟨t291, t292, t295⟩, A80, H⟩ := H
    replace H : ((laws_toTournament.f k a0_0 l0_1).bind fun bt297 => ((impl_MirrorTournament.f k bt297.1 bt297.2).bind fun bt302 => ((laws_eqTournament.f k bt302.1 bt302.2.1 t291 t292).bind fun t308 => (if t308 = true then (laws_FnExactMirrorTournament.j0 k t295 bt302.2.2 (bt302.2.2 != t295) a0_0 l0_1 t291 t292 bt297.1 bt297.2 bt302.1 bt302.2.1) else (laws_FnExactMirrorTournament.j0 k t295 bt302.2.2 true a0_0 l0_1 t291 t292 bt297.1 bt297.2 bt302.1 bt302.2.1))))) = some r := H
    have A8 := Aside0.mk A80
    clear A80
    replace H := Option.bind_eq_some_iff.mp H
    obtain ⟨⟨t297, t298⟩, A90, H⟩ := H
    replace H : ((impl_MirrorTournament.f k t297 t298).bind fun bt302 => ((laws_eqTournament.f k bt302.1 bt302.2.1 t291 t292).bind fun t308 => (if t308 = true then (laws_FnExactMirrorTournament.j0 k t295 bt302.2.2 (bt302.2.2 != t295) a0_0 l0_1 t291 t292 t297 t298 bt302.1 bt302.2.1) else (laws_FnExactMirrorTournament.j0 k t295 bt302.2.2 true a0_0 l0_1 t291 t292 t297 t298 bt302.1 bt302.2.1)))) = some r := H
    have A9 := Aside0.mk A90
    clear A90
    replace H := Option.bind_eq_some_iff.mp H
    obtain ⟨⟨t302, t303, t306⟩, A100, H⟩ := H
    replace H : ((laws_eqTournament.f k t302 t303 t291 t292).bind fun t308 => (if t308 = true then (laws_FnExactMirrorTournament.j0 k t295 t306 (t306 != t295) a0_0 l0_1 t291 t292 t297 t298 t302 t303) else (laws_FnExactMirrorTournament.j0 k t295 t306 true a0_0 l0_1 t291 t292 t297 t298 t302 t303))) = some r := H
    have A10 := Aside0.mk A100
    clear A100
    have HC11 := Aside0.mk H
    clear H
    go_enter Try.func7, Try.ntmps7
    go_upto_region 8 with (first | ((with_reducible refine gate_dst (N := 1) rfl ?_); refine box_event ?hg (N := 1) ?hd (cs := #[.int .i64 a0_0, .slice A0_1 l0_1.length c0_1]) (t := 30) ?hr ?_; (case hd => rfl); (case hg => rfl); (case hr => first | (go_simp; done) | (go_simp; rfl)); intro gb285 hg w12 hbox hb; have n0_ := Aside0.mk (below_step (by repeat (first | (with_reducible first | exact HB.out | apply below_alloc | apply pw_below_drewN | apply below_drew1) | exact HB.out)) hb); have n1_ := Aside0.mk (hbox); have n2_ := Aside0.mk ((by rw [hg]; exact (below_size (by repeat (first | (with_reducible first | exact HB.out | apply below_alloc | apply pw_below_drewN | apply below_drew1) | exact HB.out))) : w.heap.size ≤ gb285)); have n3_ := Aside0.mk ((by rw [hg]; exact (below_size (by repeat (first | (with_reducible first | exact HB.out | apply below_alloc | apply pw_below_drewN | apply below_drew1) | exact HB.out))) : w.heap.size ≤ gb285)); clear HB; have HB := n0_; have BK285 := n1_; have GW285 := n2_; have GE285 := n3_; clear n0_ n1_ n2_ n3_; clear hb hbox hg; have hcz13_0 : w12.cell? ⟨gb285, 0, none⟩ = some (.int .i64 a0_0) := (blk_cell BK285.out 0).trans rfl; have hcz13_1 : w12.cell? ⟨gb285, 1, none⟩ = some (.slice A0_1 l0_1.length c0_1) := (blk_cell BK285.out 1).trans rfl; have hfz13_0 := blk_frozen BK285.out 0; have hfz13_1 := blk_frozen BK285.out 1) | ((with_reducible refine gate_callee (f := 31) rfl ?_); refine goesL_ (some 16) rfl rfl Try.func31 (by kernel_rfl) rfl #[.agg #[.int .i64 a0_0, .slice A0_1 l0_1.length c0_1], .int .i64 1048576] rfl (by (try simp only [List.map_toArray, List.map_cons, List.map_nil]); first | done | rfl | (simp only [List.length_drop, List.length_take]; rfl)) ?_; (with_reducible refine (laws_szTournament.calls a0_0 _ _ l0_1 1048576 t286 _ ?side1 ?side2 A2.out).mono ?_); (case side1 => repeat (first | exact (Kd.C_below HR0_1.out HB.out) | (with_reducible refine Kd.C_alloc ?_ _) | (with_reducible refine Kd.C_drewN ?_ _) | (with_reducible refine Kd.C_drew ?_))); (case side2 => exact HC0_1.out); rintro e w14 ⟨rfl, hb⟩; refine ⟨_, rfl, ?_⟩; have n0_ := Aside0.mk (blk_below (g := gb285) (o := .cells #[.int .i64 a0_0, .slice A0_1 l0_1.length c0_1] 30 (0, 0)) (by (with_reducible repeat (first | refine blk_drewN ?_ _ | refine blk_drew ?_ | refine blk_alloc ?_ _)); exact BK285.out) hb); have n1_ := Aside0.mk (below_step (by repeat (first | (with_reducible first | exact HB.out | apply below_alloc | apply pw_below_drewN | apply below_drew1 | refine below_set ?_ GE285.out) | exact HB.out)) hb); clear BK285; clear HB; have BK285 := n0_; have HB := n1_; clear n0_ n1_; (try clear hb); (try clear hb2); (try clear hk); (try clear hi); have hcz15_0 : w14.cell? ⟨gb285, 0, none⟩ = some (.int .i64 a0_0) := (blk_cell BK285.out 0).trans rfl; have hcz15_1 : w14.cell? ⟨gb285, 1, none⟩ = some (.slice A0_1 l0_1.length c0_1) := (blk_cell BK285.out 1).trans rfl; have hfz15_0 := blk_frozen BK285.out 0; have hfz15_1 := blk_frozen BK285.out 1) | ((with_reducible refine gate_callee (f := 33) rfl ?_); refine goesL_ (some 21) rfl rfl Try.func33 (by kernel_rfl) rfl #[.agg #[.int .i64 a0_0, .slice A0_1 l0_1.length c0_1]] rfl (by (try simp only [List.map_toArray, List.map_cons, List.map_nil]); first | done | rfl | (simp only [List.length_drop, List.length_take]; rfl)) ?_; (with_reducible refine (laws_toTournament.calls k a0_0 _ _ l0_1 t287 t288 _ ?side1 ?side2 A7.out).mono ?_); (case side1 => repeat (first | exact (Kd.C_below HR0_1.out HB.out) | (with_reducible refine Kd.C_alloc ?_ _) | (with_reducible refine Kd.C_drewN ?_ _) | (with_reducible refine Kd.C_drew ?_))); (case side2 => exact HC0_1.out); rintro e w16 ⟨v289, rfl, ho0, hb⟩; refine ⟨_, rfl, ?_⟩; have n0_ := Aside0.mk (Kd.R_lower ho0 (below_size (by repeat (first | (with_reducible first | exact HB.out | apply below_alloc | apply pw_below_drewN | apply below_drew1 | refine below_set ?_ GE285.out) | exact HB.out)))); have n1_ := Aside0.mk (blk_below (g := gb285) (o := .cells #[.int .i64 a0_0, .slice A0_1 l0_1.length c0_1] 30 (0, 0)) (by (with_reducible repeat (first | refine blk_drewN ?_ _ | refine blk_drew ?_ | refine blk_alloc ?_ _)); exact BK285.out) hb); have n2_ := Aside0.mk (below_step (by repeat (first | (with_reducible first | exact HB.out | apply below_alloc | apply pw_below_drewN | apply below_drew1 | refine below_set ?_ GE285.out) | exact HB.out)) hb); clear BK285; clear HB; have HO290 := n0_; have BK285 := n1_; have HB := n2_; clear n0_ n1_ n2_; (try clear hb); (try clear hb2); (try clear hk); (try clear hi); (try clear ho0); obtain ⟨Ao17, co17, eo17⟩ := Kd.R_slice HO290.out; subst eo17) | ((with_reducible refine gate_callee (f := 36) rfl ?_); refine goesL_ (some 22) rfl rfl Try.func36 (by kernel_rfl) rfl #[.agg #[.int .i64 t287, .slice Ao17 t288.length co17]] rfl (by (try simp only [List.map_toArray, List.map_cons, List.map_nil]); first | done | rfl | (simp only [List.length_drop, List.length_take]; rfl)) ?_; (with_reducible refine (spec_MirrorTournament.calls k t287 _ _ t288 t291 t292 t295 _ ?side1 ?side2 A8.out).mono ?_); (case side1 => repeat (first | exact (Kd.R_reads' HO290.out).2.2 | (with_reducible refine Kd.C_alloc ?_ _) | (with_reducible refine Kd.C_drewN ?_ _) | (with_reducible refine Kd.C_drew ?_))); (case side2 => exact (Kd.R_reads' HO290.out).2.1); rintro e w18 ⟨v293, rfl, ho0, hb⟩; refine ⟨_, rfl, ?_⟩; have n0_ := Aside0.mk (Kd.R_elder' (by (with_reducible repeat (first | apply Kd.R_alloc | apply Kd.R_drewN | apply Kd.R_drew)); exact HO290.out) (Kd.R_base ho0) hb); have n1_ := Aside0.mk (Kd.R_lower (Kd.R_new' ho0 (Kd.R_lt (by (with_reducible repeat (first | apply Kd.R_alloc | apply Kd.R_drewN | apply Kd.R_drew)); exact HO290.out))) (below_size (by repeat (first | (with_reducible first | exact HB.out | apply below_alloc | apply pw_below_drewN | apply below_drew1 | refine below_set ?_ GE285.out) | exact HB.out)))); have n2_ := Aside0.mk (blk_below (g := gb285) (o := .cells #[.int .i64 a0_0, .slice A0_1 l0_1.length c0_1] 30 (0, 0)) (by (with_reducible repeat (first | refine blk_drewN ?_ _ | refine blk_drew ?_ | refine blk_alloc ?_ _)); exact BK285.out) hb); have n3_ := Aside0.mk (below_step (by repeat (first | (with_reducible first | exact HB.out | apply below_alloc | apply pw_below_drewN | apply below_drew1 | refine below_set ?_ GE285.out) | exact HB.out)) hb); clear HO290; clear BK285; clear HB; have HO290 := n0_; have HO294 := n1_; have BK285 := n2_; have HB := n3_; clear n0_ n1_ n2_ n3_; (try clear hb); (try clear hb2); (try clear hk); (try clear hi); (try clear ho0)) | ((with_reducible refine gate_dst (N := 4) rfl ?_); refine box_event ?hg (N := 4) ?hd (cs := #[.int .i64 0, .slice none 0 0]) (t := 33) ?hr ?_; (case hd => rfl); (case hg => rfl); (case hr => first | (go_simp; done) | (go_simp; rfl)); intro gb296 hg w19 hbox hb; have n0_ := Aside0.mk (Kd.R_below (by (with_reducible repeat (first | apply Kd.R_alloc | apply Kd.R_drewN | apply Kd.R_drew)); exact HO290.out) hb); have n1_ := Aside0.mk (Kd.R_below (by (with_reducible repeat (first | apply Kd.R_alloc | apply Kd.R_drewN | apply Kd.R_drew)); exact HO294.out) hb); have n2_ := Aside0.mk (blk_below (g := gb285) (o := .cells #[.int .i64 a0_0, .slice A0_1 l0_1.length c0_1] 30 (0, 0)) (by (with_reducible repeat (first | refine blk_drewN ?_ _ | refine blk_drew ?_ | refine blk_alloc ?_ _)); exact BK285.out) hb); have n3_ := Aside0.mk (below_step (by repeat (first | (with_reducible first | exact HB.out | apply below_alloc | apply pw_below_drewN | apply below_drew1 | refine below_set ?_ GE285.out) | exact HB.out)) hb); have n4_ := Aside0.mk (hbox); have n5_ := Aside0.mk ((by rw [hg]; exact (below_size (by repeat (first | (with_reducible first | exact HB.out | apply below_alloc | apply pw_below_drewN | apply below_drew1 | refine below_set ?_ GE285.out) | exact HB.out))) : w.heap.size ≤ gb296)); have n6_ := Aside0.mk ((by rw [hg]; exact (below_size (by repeat (first | (with_reducible first | exact HB.out | apply below_alloc | apply pw_below_drewN | apply below_drew1 | refine below_set ?_ GE285.out) | exact HB.out))) : w.heap.size ≤ gb296)); have n7_ := Aside0.mk ((by rw [hg]; exact Nat.ne_of_lt (blk_lt (g := gb285) (o := .cells #[.int .i64 a0_0, .slice A0_1 l0_1.length c0_1] 30 (0, 0)) (by (with_reducible repeat (first | refine blk_drewN ?_ _ | refine blk_drew ?_ | refine blk_alloc ?_ _)); exact BK285.out)) : gb285 ≠ gb296)); have n8_ := Aside0.mk ((by rw [hg]; exact Nat.ne_of_gt (blk_lt (g := gb285) (o := .cells #[.int .i64 a0_0, .slice A0_1 l0_1.length c0_1] 30 (0, 0)) (by (with_reducible repeat (first | refine blk_drewN ?_ _ | refine blk_drew ?_ | refine blk_alloc ?_ _)); exact BK285.out)) : gb296 ≠ gb285)); clear HO290; clear HO294; clear BK285; clear HB; have HO290 := n0_; have HO294 := n1_; have BK285 := n2_; have HB := n3_; have BK296 := n4_; have GW296 := n5_; have GE296 := n6_; have NB285_296 := n7_; have NB296_285 := n8_; clear n0_ n1_ n2_ n3_ n4_ n5_ n6_ n7_ n8_; clear hb hbox hg; have hnb20 := NB296_285.out; have hnc20 := NB285_296.out; have hcz21_0 : w19.cell? ⟨gb296, 0, none⟩ = some (.int .i64 0) := (blk_cell BK296.out 0).trans rfl; have hcz21_1 : w19.cell? ⟨gb296, 1, none⟩ = some (.slice none 0 0) := (blk_cell BK296.out 1).trans rfl; have hfz21_0 := blk_frozen BK296.out 0; have hfz21_1 := blk_frozen BK296.out 1; obtain ⟨Ao22, co22, eo22⟩ := Kd.R_slice HO294.out; subst eo22; have hcz23_0 : w19.cell? ⟨gb285, 0, none⟩ = some (.int .i64 a0_0) := (blk_cell BK285.out 0).trans rfl; have hcz23_1 : w19.cell? ⟨gb285, 1, none⟩ = some (.slice A0_1 l0_1.length c0_1) := (blk_cell BK285.out 1).trans rfl; have hfz23_0 := blk_frozen BK285.out 0; have hfz23_1 := blk_frozen BK285.out 1) | ((with_reducible refine gate_callee (f := 33) rfl ?_); refine goesL_ (some 26) rfl rfl Try.func33 (by kernel_rfl) rfl #[.agg #[.int .i64 a0_0, .slice A0_1 l0_1.length c0_1]] rfl (by (try simp only [List.map_toArray, List.map_cons, List.map_nil]); first | done | rfl | (simp only [List.length_drop, List.length_take]; rfl)) ?_; (with_reducible refine (laws_toTournament.calls k a0_0 _ _ l0_1 t297 t298 _ ?side1 ?side2 A9.out).mono ?_); (case side1 => exact Kd.C_below HR0_1.out (by repeat (first | (with_reducible first | exact HB.out | apply below_alloc | apply pw_below_drewN | apply below_drew1 | refine below_set ?_ GE285.out | refine below_set ?_ GE296.out) | exact HB.out))); (case side2 => exact HC0_1.out); rintro e w24 ⟨v299, rfl, ho0, hb⟩; refine ⟨_, rfl, ?_⟩; have n0_ := Aside0.mk (Kd.R_elder' (by (with_reducible repeat (first | apply Kd.R_alloc | apply Kd.R_drewN | apply Kd.R_drew)); exact (Kd.R_mono (Kd.R_far (p := ⟨gb296, 1, none⟩) (Kd.R_far (p := ⟨gb296, 0, none⟩) (Kd.R_types HO290.out BK296.out (by decide)) (fun _ hk => hk.2) (.int .i64 t291)) (fun _ hk => hk.2) (.slice Ao22 t292.length co22)) (fun _ h_ => h_.1))) (Kd.R_base ho0) hb); have n1_ := Aside0.mk (Kd.R_elder' (by (with_reducible repeat (first | apply Kd.R_alloc | apply Kd.R_drewN | apply Kd.R_drew)); exact (Kd.R_mono (Kd.R_far (p := ⟨gb296, 1, none⟩) (Kd.R_far (p := ⟨gb296, 0, none⟩) (Kd.R_types HO294.out BK296.out (by decide)) (fun _ hk => hk.2) (.int .i64 t291)) (fun _ hk => hk.2) (.slice Ao22 t292.length co22)) (fun _ h_ => h_.1))) (Kd.R_base ho0) hb); have n2_ := Aside0.mk (Kd.R_lower (Kd.R_new' (Kd.R_new' ho0 (Kd.R_lt (by (with_reducible repeat (first | apply Kd.R_alloc | apply Kd.R_drewN | apply Kd.R_drew)); exact (Kd.R_mono (Kd.R_far (p := ⟨gb296, 1, none⟩) (Kd.R_far (p := ⟨gb296, 0, none⟩) (Kd.R_types HO290.out BK296.out (by decide)) (fun _ hk => hk.2) (.int .i64 t291)) (fun _ hk => hk.2) (.slice Ao22 t292.length co22)) (fun _ h_ => h_.1))))) (Kd.R_lt (by (with_reducible repeat (first | apply Kd.R_alloc | apply Kd.R_drewN | apply Kd.R_drew)); exact (Kd.R_mono (Kd.R_far (p := ⟨gb296, 1, none⟩) (Kd.R_far (p := ⟨gb296, 0, none⟩) (Kd.R_types HO294.out BK296.out (by decide)) (fun _ hk => hk.2) (.int .i64 t291)) (fun _ hk => hk.2) (.slice Ao22 t292.length co22)) (fun _ h_ => h_.1))))) (below_size (by repeat (first | (with_reducible first | exact HB.out | apply below_alloc | apply pw_below_drewN | apply below_drew1 | refine below_set ?_ GE285.out | refine below_set ?_ GE296.out) | exact HB.out)))); have n3_ := Aside0.mk (blk_below (g := gb285) (o := .cells #[.int .i64 a0_0, .slice A0_1 l0_1.length c0_1] 30 (0, 0)) (by (with_reducible repeat (first | refine blk_drewN ?_ _ | refine blk_drew ?_ | refine blk_alloc ?_ _)); refine blk_far ?_ NB285_296.out _; (with_reducible repeat (first | refine blk_drewN ?_ _ | refine blk_drew ?_ | refine blk_alloc ?_ _)); refine blk_far ?_ NB285_296.out _; (with_reducible repeat (first | refine blk_drewN ?_ _ | refine blk_drew ?_ | refine blk_alloc ?_ _)); exact BK285.out) hb); have n4_ := Aside0.mk (blk_below (g := gb296) (o := .cells #[.int .i64 t291, .slice Ao22 t292.length co22] 33 (0, 0)) (by (with_reducible repeat (first | refine blk_drewN ?_ _ | refine blk_drew ?_ | refine blk_alloc ?_ _)); refine blk_put (cs := #[.int .i64 t291, .slice none 0 0]) ?_ 1 _ rfl; (with_reducible repeat (first | refine blk_drewN ?_ _ | refine blk_drew ?_ | refine blk_alloc ?_ _)); refine blk_put (cs := #[.int .i64 0, .slice none 0 0]) ?_ 0 _ rfl; (with_reducible repeat (first | refine blk_drewN ?_ _ | refine blk_drew ?_ | refine blk_alloc ?_ _)); exact BK296.out) hb); have n5_ := Aside0.mk (below_step (by repeat (first | (with_reducible first | exact HB.out | apply below_alloc | apply pw_below_drewN | apply below_drew1 | refine below_set ?_ GE285.out | refine below_set ?_ GE296.out) | exact HB.out)) hb); clear HO290; clear HO294; clear BK285; clear BK296; clear HB; have HO290 := n0_; have HO294 := n1_; have HO300 := n2_; have BK285 := n3_; have BK296 := n4_; have HB := n5_; clear n0_ n1_ n2_ n3_ n4_ n5_; (try clear hb); (try clear hb2); (try clear hk); (try clear hi); (try clear ho0)) | ((with_reducible refine gate_dst (N := 6) rfl ?_); refine box_event ?hg (N := 6) ?hd (cs := #[.int .i64 0, .slice none 0 0]) (t := 33) ?hr ?_; (case hd => rfl); (case hg => rfl); (case hr => first | (go_simp; done) | (go_simp; rfl)); intro gb301 hg w25 hbox hb; have n0_ := Aside0.mk (Kd.R_below (by (with_reducible repeat (first | apply Kd.R_alloc | apply Kd.R_drewN | apply Kd.R_drew)); exact HO290.out) hb); have n1_ := Aside0.mk (Kd.R_below (by (with_reducible repeat (first | apply Kd.R_alloc | apply Kd.R_drewN | apply Kd.R_drew)); exact HO294.out) hb); have n2_ := Aside0.mk (Kd.R_below (by (with_reducible repeat (first | apply Kd.R_alloc | apply Kd.R_drewN | apply Kd.R_drew)); exact HO300.out) hb); have n3_ := Aside0.mk (blk_below (g := gb285) (o := .cells #[.int .i64 a0_0, .slice A0_1 l0_1.length c0_1] 30 (0, 0)) (by (with_reducible repeat (first | refine blk_drewN ?_ _ | refine blk_drew ?_ | refine blk_alloc ?_ _)); exact BK285.out) hb); have n4_ := Aside0.mk (blk_below (g := gb296) (o := .cells #[.int .i64 t291, .slice Ao22 t292.length co22] 33 (0, 0)) (by (with_reducible repeat (first | refine blk_drewN ?_ _ | refine blk_drew ?_ | refine blk_alloc ?_ _)); exact BK296.out) hb); have n5_ := Aside0.mk (below_step (by repeat (first | (with_reducible first | exact HB.out | apply below_alloc | apply pw_below_drewN | apply below_drew1 | refine below_set ?_ GE285.out | refine below_set ?_ GE296.out) | exact HB.out)) hb); have n6_ := Aside0.mk (hbox); have n7_ := Aside0.mk ((by rw [hg]; exact (below_size (by repeat (first | (with_reducible first | exact HB.out | apply below_alloc | apply pw_below_drewN | apply below_drew1 | refine below_set ?_ GE285.out | refine below_set ?_ GE296.out) | exact HB.out))) : w.heap.size ≤ gb301)); have n8_ := Aside0.mk ((by rw [hg]; exact (below_size (by repeat (first | (with_reducible first | exact HB.out | apply below_alloc | apply pw_below_drewN | apply below_drew1 | refine below_set ?_ GE285.out | refine below_set ?_ GE296.out) | exact HB.out))) : w.heap.size ≤ gb301)); have n9_ := Aside0.mk ((by rw [hg]; exact Nat.ne_of_lt (blk_lt (g := gb285) (o := .cells #[.int .i64 a0_0, .slice A0_1 l0_1.length c0_1] 30 (0, 0)) (by (with_reducible repeat (first | refine blk_drewN ?_ _ | refine blk_drew ?_ | refine blk_alloc ?_ _)); exact BK285.out)) : gb285 ≠ gb301)); have n10_ := Aside0.mk ((by rw [hg]; exact Nat.ne_of_gt (blk_lt (g := gb285) (o := .cells #[.int .i64 a0_0, .slice A0_1 l0_1.length c0_1] 30 (0, 0)) (by (with_reducible repeat (first | refine blk_drewN ?_ _ | refine blk_drew ?_ | refine blk_alloc ?_ _)); exact BK285.out)) : gb301 ≠ gb285)); have n11_ := Aside0.mk ((by rw [hg]; exact Nat.ne_of_lt (blk_lt (g := gb296) (o := .cells #[.int .i64 t291, .slice Ao22 t292.length co22] 33 (0, 0)) (by (with_reducible repeat (first | refine blk_drewN ?_ _ | refine blk_drew ?_ | refine blk_alloc ?_ _)); exact BK296.out)) : gb296 ≠ gb301)); have n12_ := Aside0.mk ((by rw [hg]; exact Nat.ne_of_gt (blk_lt (g := gb296) (o := .cells #[.int .i64 t291, .slice Ao22 t292.length co22] 33 (0, 0)) (by (with_reducible repeat (first | refine blk_drewN ?_ _ | refine blk_drew ?_ | refine blk_alloc ?_ _)); exact BK296.out)) : gb301 ≠ gb296)); clear HO290; clear HO294; clear HO300; clear BK285; clear BK296; clear HB; have HO290 := n0_; have HO294 := n1_; have HO300 := n2_; have BK285 := n3_; have BK296 := n4_; have HB := n5_; have BK301 := n6_; have GW301 := n7_; have GE301 := n8_; have NB285_301 := n9_; have NB301_285 := n10_; have NB296_301 := n11_; have NB301_296 := n12_; clear n0_ n1_ n2_ n3_ n4_ n5_ n6_ n7_ n8_ n9_ n10_ n11_ n12_; clear hb hbox hg; have hnb26 := NB301_285.out; have hnc26 := NB285_301.out; have hnb27 := NB301_296.out; have hnc27 := NB296_301.out; have hcz28_0 : w25.cell? ⟨gb301, 0, none⟩ = some (.int .i64 0) := (blk_cell BK301.out 0).trans rfl; have hcz28_1 : w25.cell? ⟨gb301, 1, none⟩ = some (.slice none 0 0) := (blk_cell BK301.out 1).trans rfl; have hfz28_0 := blk_frozen BK301.out 0; have hfz28_1 := blk_frozen BK301.out 1; obtain ⟨Ao29, co29, eo29⟩ := Kd.R_slice HO300.out; subst eo29) | ((with_reducible refine gate_callee (f := 37) rfl ?_); refine goesL_ (some 29) rfl rfl Try.func37 (by kernel_rfl) rfl #[.agg #[.int .i64 t297, .slice Ao29 t298.length co29]] rfl (by (try simp only [List.map_toArray, List.map_cons, List.map_nil]); first | done | rfl | (simp only [List.length_drop, List.length_take]; rfl)) ?_; (with_reducible refine (impl_MirrorTournament.calls k t297 _ _ t298 t302 t303 t306 _ ?side1 ?side2 A10.out).mono ?_); (case side1 => refine (Kd.R_reads' (e := 3) (base := w.heap.size) (ok := fun k_ => ((True ∧ some k_ ≠ (.slice Ao17 t288.length co17 : Value).ownBlock) ∧ some k_ ≠ (.slice Ao22 t292.length co22 : Value).ownBlock)) (n := t298.length) (c := co29) ?_).2.2; exact (by (with_reducible repeat (first | apply Kd.R_alloc | apply Kd.R_drewN | apply Kd.R_drew)); exact (Kd.R_mono (Kd.R_far (p := ⟨gb301, 1, none⟩) (Kd.R_far (p := ⟨gb301, 0, none⟩) (Kd.R_types HO300.out BK301.out (by decide)) (fun _ hk => hk.2) (.int .i64 t297)) (fun _ hk => hk.2) (.slice Ao29 t298.length co29)) (fun _ h_ => h_.1)))); (case side2 => exact (Kd.R_reads' HO300.out).2.1); rintro e w30 ⟨v304, rfl, ho0, hb⟩; refine ⟨_, rfl, ?_⟩; have n0_ := Aside0.mk (Kd.R_elder' (by (with_reducible repeat (first | apply Kd.R_alloc | apply Kd.R_drewN | apply Kd.R_drew)); exact (Kd.R_mono (Kd.R_far (p := ⟨gb301, 1, none⟩) (Kd.R_far (p := ⟨gb301, 0, none⟩) (Kd.R_types HO290.out BK301.out (by decide)) (fun _ hk => hk.2) (.int .i64 t297)) (fun _ hk => hk.2) (.slice Ao29 t298.length co29)) (fun _ h_ => h_.1))) (Kd.R_base ho0) hb); have n1_ := Aside0.mk (Kd.R_elder' (by (with_reducible repeat (first | apply Kd.R_alloc | apply Kd.R_drewN | apply Kd.R_drew)); exact (Kd.R_mono (Kd.R_far (p := ⟨gb301, 1, none⟩) (Kd.R_far (p := ⟨gb301, 0, none⟩) (Kd.R_types HO294.out BK301.out (by decide)) (fun _ hk => hk.2) (.int .i64 t297)) (fun _ hk => hk.2) (.slice Ao29 t298.length co29)) (fun _ h_ => h_.1))) (Kd.R_base ho0) hb); have n2_ := Aside0.mk (Kd.R_elder' (by (with_reducible repeat (first | apply Kd.R_alloc | apply Kd.R_drewN | apply Kd.R_drew)); exact (Kd.R_mono (Kd.R_far (p := ⟨gb301, 1, none⟩) (Kd.R_far (p := ⟨gb301, 0, none⟩) (Kd.R_types HO300.out BK301.out (by decide)) (fun _ hk => hk.2) (.int .i64 t297)) (fun _ hk => hk.2) (.slice Ao29 t298.length co29)) (fun _ h_ => h_.1))) (Kd.R_base ho0) hb); have n3_ := Aside0.mk (Kd.R_lower (Kd.R_new' (Kd.R_new' (Kd.R_new' ho0 (Kd.R_lt (by (with_reducible repeat (first | apply Kd.R_alloc | apply Kd.R_drewN | apply Kd.R_drew)); exact (Kd.R_mono (Kd.R_far (p := ⟨gb301, 1, none⟩) (Kd.R_far (p := ⟨gb301, 0, none⟩) (Kd.R_types HO290.out BK301.out (by decide)) (fun _ hk => hk.2) (.int .i64 t297)) (fun _ hk => hk.2) (.slice Ao29 t298.length co29)) (fun _ h_ => h_.1))))) (Kd.R_lt (by (with_reducible repeat (first | apply Kd.R_alloc | apply Kd.R_drewN | apply Kd.R_drew)); exact (Kd.R_mono (Kd.R_far (p := ⟨gb301, 1, none⟩) (Kd.R_far (p := ⟨gb301, 0, none⟩) (Kd.R_types HO294.out BK301.out (by decide)) (fun _ hk => hk.2) (.int .i64 t297)) (fun _ hk => hk.2) (.slice Ao29 t298.length co29)) (fun _ h_ => h_.1))))) (Kd.R_lt (by (with_reducible repeat (first | apply Kd.R_alloc | apply Kd.R_drewN | apply Kd.R_drew)); exact (Kd.R_mono (Kd.R_far (p := ⟨gb301, 1, none⟩) (Kd.R_far (p := ⟨gb301, 0, none⟩) (Kd.R_types HO300.out BK301.out (by decide)) (fun _ hk => hk.2) (.int .i64 t297)) (fun _ hk => hk.2) (.slice Ao29 t298.length co29)) (fun _ h_ => h_.1))))) (below_size (by repeat (first | (with_reducible first | exact HB.out | apply below_alloc | apply pw_below_drewN | apply below_drew1 | refine below_set ?_ GE285.out | refine below_set ?_ GE296.out | refine below_set ?_ GE301.out) | exact HB.out)))); have n4_ := Aside0.mk (blk_below (g := gb285) (o := .cells #[.int .i64 a0_0, .slice A0_1 l0_1.length c0_1] 30 (0, 0)) (by (with_reducible repeat (first | refine blk_drewN ?_ _ | refine blk_drew ?_ | refine blk_alloc ?_ _)); refine blk_far ?_ NB285_301.out _; (with_reducible repeat (first | refine blk_drewN ?_ _ | refine blk_drew ?_ | refine blk_alloc ?_ _)); refine blk_far ?_ NB285_301.out _; (with_reducible repeat (first | refine blk_drewN ?_ _ | refine blk_drew ?_ | refine blk_alloc ?_ _)); exact BK285.out) hb); have n5_ := Aside0.mk (blk_below (g := gb296) (o := .cells #[.int .i64 t291, .slice Ao22 t292.length co22] 33 (0, 0)) (by (with_reducible repeat (first | refine blk_drewN ?_ _ | refine blk_drew ?_ | refine blk_alloc ?_ _)); refine blk_far ?_ NB296_301.out _; (with_reducible repeat (first | refine blk_drewN ?_ _ | refine blk_drew ?_ | refine blk_alloc ?_ _)); refine blk_far ?_ NB296_301.out _; (with_reducible repeat (first | refine blk_drewN ?_ _ | refine blk_drew ?_ | refine blk_alloc ?_ _)); exact BK296.out) hb); have n6_ := Aside0.mk (blk_below (g := gb301) (o := .cells #[.int .i64 t297, .slice Ao29 t298.length co29] 33 (0, 0)) (by (with_reducible repeat (first | refine blk_drewN ?_ _ | refine blk_drew ?_ | refine blk_alloc ?_ _)); refine blk_put (cs := #[.int .i64 t297, .slice none 0 0]) ?_ 1 _ rfl; (with_reducible repeat (first | refine blk_drewN ?_ _ | refine blk_drew ?_ | refine blk_alloc ?_ _)); refine blk_put (cs := #[.int .i64 0, .slice none 0 0]) ?_ 0 _ rfl; (with_reducible repeat (first | refine blk_drewN ?_ _ | refine blk_drew ?_ | refine blk_alloc ?_ _)); exact BK301.out) hb); have n7_ := Aside0.mk (below_step (by repeat (first | (with_reducible first | exact HB.out | apply below_alloc | apply pw_below_drewN | apply below_drew1 | refine below_set ?_ GE285.out | refine below_set ?_ GE296.out | refine below_set ?_ GE301.out) | exact HB.out)) hb); clear HO290; clear HO294; clear HO300; clear BK285; clear BK296; clear BK301; clear HB; have HO290 := n0_; have HO294 := n1_; have HO300 := n2_; have HO305 := n3_; have BK285 := n4_; have BK296 := n5_; have BK301 := n6_; have HB := n7_; clear n0_ n1_ n2_ n3_ n4_ n5_ n6_ n7_; (try clear hb); (try clear hb2); (try clear hk); (try clear hi); (try clear ho0)) | ((with_reducible refine gate_dst (N := 7) rfl ?_); refine box_event ?hg (N := 7) ?hd (cs := #[.int .i64 0, .slice none 0 0]) (t := 33) ?hr ?_; (case hd => rfl); (case hg => rfl); (case hr => first | (go_simp; done) | (go_simp; rfl)); intro gb307 hg w31 hbox hb; have n0_ := Aside0.mk (Kd.R_below (by (with_reducible repeat (first | apply Kd.R_alloc | apply Kd.R_drewN | apply Kd.R_drew)); exact HO290.out) hb); have n1_ := Aside0.mk (Kd.R_below (by (with_reducible repeat (first | apply Kd.R_alloc | apply Kd.R_drewN | apply Kd.R_drew)); exact HO294.out) hb); have n2_ := Aside0.mk (Kd.R_below (by (with_reducible repeat (first | apply Kd.R_alloc | apply Kd.R_drewN | apply Kd.R_drew)); exact HO300.out) hb); have n3_ := Aside0.mk (Kd.R_below (by (with_reducible repeat (first | apply Kd.R_alloc | apply Kd.R_drewN | apply Kd.R_drew)); exact HO305.out) hb); have n4_ := Aside0.mk (blk_below (g := gb285) (o := .cells #[.int .i64 a0_0, .slice A0_1 l0_1.length c0_1] 30 (0, 0)) (by (with_reducible repeat (first | refine blk_drewN ?_ _ | refine blk_drew ?_ | refine blk_alloc ?_ _)); exact BK285.out) hb); have n5_ := Aside0.mk (blk_below (g := gb296) (o := .cells #[.int .i64 t291, .slice Ao22 t292.length co22] 33 (0, 0)) (by (with_reducible repeat (first | refine blk_drewN ?_ _ | refine blk_drew ?_ | refine blk_alloc ?_ _)); exact BK296.out) hb); have n6_ := Aside0.mk (blk_below (g := gb301) (o := .cells #[.int .i64 t297, .slice Ao29 t298.length co29] 33 (0, 0)) (by (with_reducible repeat (first | refine blk_drewN ?_ _ | refine blk_drew ?_ | refine blk_alloc ?_ _)); exact BK301.out) hb); have n7_ := Aside0.mk (below_step (by repeat (first | (with_reducible first | exact HB.out | apply below_alloc | apply pw_below_drewN | apply below_drew1 | refine below_set ?_ GE285.out | refine below_set ?_ GE296.out | refine below_set ?_ GE301.out) | exact HB.out)) hb); have n8_ := Aside0.mk (hbox); have n9_ := Aside0.mk ((by rw [hg]; exact (below_size (by repeat (first | (with_reducible first | exact HB.out | apply below_alloc | apply pw_below_drewN | apply below_drew1 | refine below_set ?_ GE285.out | refine below_set ?_ GE296.out | refine below_set ?_ GE301.out) | exact HB.out))) : w.heap.size ≤ gb307)); have n10_ := Aside0.mk ((by rw [hg]; exact (below_size (by repeat (first | (with_reducible first | exact HB.out | apply below_alloc | apply pw_below_drewN | apply below_drew1 | refine below_set ?_ GE285.out | refine below_set ?_ GE296.out | refine below_set ?_ GE301.out) | exact HB.out))) : w.heap.size ≤ gb307)); have n11_ := Aside0.mk ((by rw [hg]; exact Nat.ne_of_lt (blk_lt (g := gb285) (o := .cells #[.int .i64 a0_0, .slice A0_1 l0_1.length c0_1] 30 (0, 0)) (by (with_reducible repeat (first | refine blk_drewN ?_ _ | refine blk_drew ?_ | refine blk_alloc ?_ _)); exact BK285.out)) : gb285 ≠ gb307)); have n12_ := Aside0.mk ((by rw [hg]; exact Nat.ne_of_gt (blk_lt (g := gb285) (o := .cells #[.int .i64 a0_0, .slice A0_1 l0_1.length c0_1] 30 (0, 0)) (by (with_reducible repeat (first | refine blk_drewN ?_ _ | refine blk_drew ?_ | refine blk_alloc ?_ _)); exact BK285.out)) : gb307 ≠ gb285)); have n13_ := Aside0.mk ((by rw [hg]; exact Nat.ne_of_lt (blk_lt (g := gb296) (o := .cells #[.int .i64 t291, .slice Ao22 t292.length co22] 33 (0, 0)) (by (with_reducible repeat (first | refine blk_drewN ?_ _ | refine blk_drew ?_ | refine blk_alloc ?_ _)); exact BK296.out)) : gb296 ≠ gb307)); have n14_ := Aside0.mk ((by rw [hg]; exact Nat.ne_of_gt (blk_lt (g := gb296) (o := .cells #[.int .i64 t291, .slice Ao22 t292.length co22] 33 (0, 0)) (by (with_reducible repeat (first | refine blk_drewN ?_ _ | refine blk_drew ?_ | refine blk_alloc ?_ _)); exact BK296.out)) : gb307 ≠ gb296)); have n15_ := Aside0.mk ((by rw [hg]; exact Nat.ne_of_lt (blk_lt (g := gb301) (o := .cells #[.int .i64 t297, .slice Ao29 t298.length co29] 33 (0, 0)) (by (with_reducible repeat (first | refine blk_drewN ?_ _ | refine blk_drew ?_ | refine blk_alloc ?_ _)); exact BK301.out)) : gb301 ≠ gb307)); have n16_ := Aside0.mk ((by rw [hg]; exact Nat.ne_of_gt (blk_lt (g := gb301) (o := .cells #[.int .i64 t297, .slice Ao29 t298.length co29] 33 (0, 0)) (by (with_reducible repeat (first | refine blk_drewN ?_ _ | refine blk_drew ?_ | refine blk_alloc ?_ _)); exact BK301.out)) : gb307 ≠ gb301)); clear HO290; clear HO294; clear HO300; clear HO305; clear BK285; clear BK296; clear BK301; clear HB; have HO290 := n0_; have HO294 := n1_; have HO300 := n2_; have HO305 := n3_; have BK285 := n4_; have BK296 := n5_; have BK301 := n6_; have HB := n7_; have BK307 := n8_; have GW307 := n9_; have GE307 := n10_; have NB285_307 := n11_; have NB307_285 := n12_; have NB296_307 := n13_; have NB307_296 := n14_; have NB301_307 := n15_; have NB307_301 := n16_; clear n0_ n1_ n2_ n3_ n4_ n5_ n6_ n7_ n8_ n9_ n10_ n11_ n12_ n13_ n14_ n15_ n16_; clear hb hbox hg; have hnb32 := NB307_285.out; have hnc32 := NB285_307.out; have hnb33 := NB307_296.out; have hnc33 := NB296_307.out; have hnb34 := NB307_301.out; have hnc34 := NB301_307.out; have hcz35_0 : w31.cell? ⟨gb307, 0, none⟩ = some (.int .i64 0) := (blk_cell BK307.out 0).trans rfl; have hcz35_1 : w31.cell? ⟨gb307, 1, none⟩ = some (.slice none 0 0) := (blk_cell BK307.out 1).trans rfl; have hfz35_0 := blk_frozen BK307.out 0; have hfz35_1 := blk_frozen BK307.out 1; obtain ⟨Ao36, co36, eo36⟩ := Kd.R_slice HO305.out; subst eo36))
    (try simp only [Act.put, List.setIfInBounds_toArray, List.set_cons_zero, List.set_cons_succ])
    go_cut [40] (fun v40 wc => ∃ (kq : Nat) (x40_10 : Bool), v40 = .bool x40_10 ∧ Aside0 (laws_FnExactMirrorTournament.j0 kq t295 t306 x40_10 a0_0 l0_1 t291 t292 t297 t298 t302 t303 = some r) ∧ Aside0 (kq ≤ k) ∧ Aside0 (Kd.R (Kd.int .i64) 3 wc w.heap.size (fun k_ => some k_ ≠ ((.slice Ao29 t298.length co29) : Value).ownBlock ∧ some k_ ≠ ((.slice Ao36 t303.length co36) : Value).ownBlock) (.slice Ao22 t292.length co22) t292) ∧ Aside0 (Kd.R (Kd.int .i64) 3 wc w.heap.size (fun k_ => some k_ ≠ ((.slice Ao22 t292.length co22) : Value).ownBlock ∧ some k_ ≠ ((.slice Ao36 t303.length co36) : Value).ownBlock) (.slice Ao29 t298.length co29) t298) ∧ Aside0 (Kd.R (Kd.int .i64) 3 wc w.heap.size (fun k_ => some k_ ≠ ((.slice Ao22 t292.length co22) : Value).ownBlock ∧ some k_ ≠ ((.slice Ao29 t298.length co29) : Value).ownBlock) (.slice Ao36 t303.length co36) t303) ∧ Aside0 (wc.heap[gb285]? = some (.cells #[.int .i64 a0_0, (.slice A0_1 l0_1.length c0_1)] 30 (0, 0))) ∧ Aside0 (wc.heap[gb296]? = some (.cells #[.int .i64 t291, (.slice Ao22 t292.length co22)] 33 (0, 0))) ∧ Aside0 (wc.heap[gb301]? = some (.cells #[.int .i64 t297, (.slice Ao29 t298.length co29)] 33 (0, 0))) ∧ Aside0 (wc.heap[gb307]? = some (.cells #[.int .i64 t302, (.slice Ao36 t303.length co36)] 33 (0, 0))) ∧ Aside0 (Below w.heap.size w wc))
    case first =>
      have H := HC11.out
      clear HC11
      replace H := Option.bind_eq_some_iff.mp H
      obtain ⟨t308, A370, H⟩ := H
      replace H : (if t308 = true then (laws_FnExactMirrorTournament.j0 k t295 t306 (t306 != t295) a0_0 l0_1 t291 t292 t297 t298 t302 t303) else (laws_FnExactMirrorTournament.j0 k t295 t306 true a0_0 l0_1 t291 t292 t297 t298 t302 t303)) = some r := H
      have A37 := Aside0.mk A370
      clear A370
      by_cases c38 : t308 = true
      · subst c38
        have H1 : (laws_FnExactMirrorTournament.j0 k t295 t306 (t306 != t295) a0_0 l0_1 t291 t292 t297 t298 t302 t303) = some r := by rw [if_pos rfl] at H; exact H
        clear H
        have H := H1
        clear H1
        have H' := Aside0.mk H
        clear H
        have hnb39 := NB307_285.out
        have hnc39 := NB285_307.out
        have hnb40 := NB307_296.out
        have hnc40 := NB296_307.out
        have hnb41 := NB307_301.out
        have hnc41 := NB301_307.out
        have hcz42_0 : w31.cell? ⟨gb307, 0, none⟩ = some (.int .i64 0) := (blk_cell BK307.out 0).trans rfl
        have hcz42_1 : w31.cell? ⟨gb307, 1, none⟩ = some (.slice none 0 0) := (blk_cell BK307.out 1).trans rfl
        have hfz42_0 := blk_frozen BK307.out 0
        have hfz42_1 := blk_frozen BK307.out 1
        have hnb43 := NB296_285.out
        have hnc43 := NB285_296.out
        have hnb44 := NB296_301.out
        have hnc44 := NB301_296.out
        have hcz45_0 : w31.cell? ⟨gb296, 0, none⟩ = some (.int .i64 t291) := (blk_cell BK296.out 0).trans rfl
        have hcz45_1 : w31.cell? ⟨gb296, 1, none⟩ = some (.slice Ao22 t292.length co22) := (blk_cell BK296.out 1).trans rfl
        have hfz45_0 := blk_frozen BK296.out 0
        have hfz45_1 := blk_frozen BK296.out 1
        go_wp2_with (first | ((with_reducible refine gate_callee (f := 35) rfl ?_); refine goesL_ (some 34) rfl rfl Try.func35 (by kernel_rfl) rfl #[.agg #[.int .i64 t302, .slice Ao36 t303.length co36], .agg #[.int .i64 t291, .slice Ao22 t292.length co22]] rfl (by (try simp only [List.map_toArray, List.map_cons, List.map_nil]); first | done | rfl | (simp only [List.length_drop, List.length_take]; rfl)) ?_; (with_reducible refine (laws_eqTournament.calls k t302 _ _ t303 t291 _ _ t292 true _ ?side1 ?side2 ?side3 ?side4 A37.out).mono ?_); (case side1 => refine (Kd.R_reads' (e := 3) (base := w.heap.size) (ok := fun k_ => (((True ∧ some k_ ≠ (.slice Ao17 t288.length co17 : Value).ownBlock) ∧ some k_ ≠ (.slice Ao22 t292.length co22 : Value).ownBlock) ∧ some k_ ≠ (.slice Ao29 t298.length co29 : Value).ownBlock)) (n := t303.length) (c := co36) ?_).2.2; exact (by (with_reducible repeat (first | apply Kd.R_alloc | apply Kd.R_drewN | apply Kd.R_drew)); exact (Kd.R_mono (Kd.R_far (p := ⟨gb307, 1, none⟩) (Kd.R_far (p := ⟨gb307, 0, none⟩) (Kd.R_types HO305.out BK307.out (by decide)) (fun _ hk => hk.2) (.int .i64 t302)) (fun _ hk => hk.2) (.slice Ao36 t303.length co36)) (fun _ h_ => h_.1)))); (case side2 => exact (Kd.R_reads' HO305.out).2.1); (case side3 => refine (Kd.R_reads' (e := 3) (base := w.heap.size) (ok := fun k_ => (((True ∧ some k_ ≠ (.slice Ao17 t288.length co17 : Value).ownBlock) ∧ some k_ ≠ (.slice Ao29 t298.length co29 : Value).ownBlock) ∧ some k_ ≠ (.slice Ao36 t303.length co36 : Value).ownBlock)) (n := t292.length) (c := co22) ?_).2.2; exact (by (with_reducible repeat (first | apply Kd.R_alloc | apply Kd.R_drewN | apply Kd.R_drew)); exact (Kd.R_mono (Kd.R_far (p := ⟨gb307, 1, none⟩) (Kd.R_far (p := ⟨gb307, 0, none⟩) (Kd.R_types HO294.out BK307.out (by decide)) (fun _ hk => hk.2) (.int .i64 t302)) (fun _ hk => hk.2) (.slice Ao36 t303.length co36)) (fun _ h_ => h_.1)))); (case side4 => exact (Kd.R_reads' HO294.out).2.1); rintro e w46 ⟨rfl, hb⟩; refine ⟨_, rfl, ?_⟩; have n0_ := Aside0.mk (Kd.R_below (by (with_reducible repeat (first | apply Kd.R_alloc | apply Kd.R_drewN | apply Kd.R_drew)); exact (Kd.R_mono (Kd.R_far (p := ⟨gb307, 1, none⟩) (Kd.R_far (p := ⟨gb307, 0, none⟩) (Kd.R_types HO290.out BK307.out (by decide)) (fun _ hk => hk.2) (.int .i64 t302)) (fun _ hk => hk.2) (.slice Ao36 t303.length co36)) (fun _ h_ => h_.1))) hb); have n1_ := Aside0.mk (Kd.R_below (by (with_reducible repeat (first | apply Kd.R_alloc | apply Kd.R_drewN | apply Kd.R_drew)); exact (Kd.R_mono (Kd.R_far (p := ⟨gb307, 1, none⟩) (Kd.R_far (p := ⟨gb307, 0, none⟩) (Kd.R_types HO294.out BK307.out (by decide)) (fun _ hk => hk.2) (.int .i64 t302)) (fun _ hk => hk.2) (.slice Ao36 t303.length co36)) (fun _ h_ => h_.1))) hb); have n2_ := Aside0.mk (Kd.R_below (by (with_reducible repeat (first | apply Kd.R_alloc | apply Kd.R_drewN | apply Kd.R_drew)); exact (Kd.R_mono (Kd.R_far (p := ⟨gb307, 1, none⟩) (Kd.R_far (p := ⟨gb307, 0, none⟩) (Kd.R_types HO300.out BK307.out (by decide)) (fun _ hk => hk.2) (.int .i64 t302)) (fun _ hk => hk.2) (.slice Ao36 t303.length co36)) (fun _ h_ => h_.1))) hb); have n3_ := Aside0.mk (Kd.R_below (by (with_reducible repeat (first | apply Kd.R_alloc | apply Kd.R_drewN | apply Kd.R_drew)); exact (Kd.R_mono (Kd.R_far (p := ⟨gb307, 1, none⟩) (Kd.R_far (p := ⟨gb307, 0, none⟩) (Kd.R_types HO305.out BK307.out (by decide)) (fun _ hk => hk.2) (.int .i64 t302)) (fun _ hk => hk.2) (.slice Ao36 t303.length co36)) (fun _ h_ => h_.1))) hb); have n4_ := Aside0.mk (blk_below (g := gb285) (o := .cells #[.int .i64 a0_0, .slice A0_1 l0_1.length c0_1] 30 (0, 0)) (by (with_reducible repeat (first | refine blk_drewN ?_ _ | refine blk_drew ?_ | refine blk_alloc ?_ _)); refine blk_far ?_ NB285_307.out _; (with_reducible repeat (first | refine blk_drewN ?_ _ | refine blk_drew ?_ | refine blk_alloc ?_ _)); refine blk_far ?_ NB285_307.out _; (with_reducible repeat (first | refine blk_drewN ?_ _ | refine blk_drew ?_ | refine blk_alloc ?_ _)); exact BK285.out) hb); have n5_ := Aside0.mk (blk_below (g := gb296) (o := .cells #[.int .i64 t291, .slice Ao22 t292.length co22] 33 (0, 0)) (by (with_reducible repeat (first | refine blk_drewN ?_ _ | refine blk_drew ?_ | refine blk_alloc ?_ _)); refine blk_far ?_ NB296_307.out _; (with_reducible repeat (first | refine blk_drewN ?_ _ | refine blk_drew ?_ | refine blk_alloc ?_ _)); refine blk_far ?_ NB296_307.out _; (with_reducible repeat (first | refine blk_drewN ?_ _ | refine blk_drew ?_ | refine blk_alloc ?_ _)); exact BK296.out) hb); have n6_ := Aside0.mk (blk_below (g := gb301) (o := .cells #[.int .i64 t297, .slice Ao29 t298.length co29] 33 (0, 0)) (by (with_reducible repeat (first | refine blk_drewN ?_ _ | refine blk_drew ?_ | refine blk_alloc ?_ _)); refine blk_far ?_ NB301_307.out _; (with_reducible repeat (first | refine blk_drewN ?_ _ | refine blk_drew ?_ | refine blk_alloc ?_ _)); refine blk_far ?_ NB301_307.out _; (with_reducible repeat (first | refine blk_drewN ?_ _ | refine blk_drew ?_ | refine blk_alloc ?_ _)); exact BK301.out) hb); have n7_ := Aside0.mk (blk_below (g := gb307) (o := .cells #[.int .i64 t302, .slice Ao36 t303.length co36] 33 (0, 0)) (by (with_reducible repeat (first | refine blk_drewN ?_ _ | refine blk_drew ?_ | refine blk_alloc ?_ _)); refine blk_put (cs := #[.int .i64 t302, .slice none 0 0]) ?_ 1 _ rfl; (with_reducible repeat (first | refine blk_drewN ?_ _ | refine blk_drew ?_ | refine blk_alloc ?_ _)); refine blk_put (cs := #[.int .i64 0, .slice none 0 0]) ?_ 0 _ rfl; (with_reducible repeat (first | refine blk_drewN ?_ _ | refine blk_drew ?_ | refine blk_alloc ?_ _)); exact BK307.out) hb); have n8_ := Aside0.mk (below_step (by repeat (first | (with_reducible first | exact HB.out | apply below_alloc | apply pw_below_drewN | apply below_drew1 | refine below_set ?_ GE285.out | refine below_set ?_ GE296.out | refine below_set ?_ GE301.out | refine below_set ?_ GE307.out) | exact HB.out)) hb); clear HO290; clear HO294; clear HO300; clear HO305; clear BK285; clear BK296; clear BK301; clear BK307; clear HB; have HO290 := n0_; have HO294 := n1_; have HO300 := n2_; have HO305 := n3_; have BK285 := n4_; have BK296 := n5_; have BK301 := n6_; have BK307 := n7_; have HB := n8_; clear n0_ n1_ n2_ n3_ n4_ n5_ n6_ n7_ n8_; (try clear hb); (try clear hb2); (try clear hk); (try clear hi)))
        go_meet
        case rel => exact ⟨_, ((t306 != t295)), (by first | rfl | (simp; done) | (simp [*]; done)), H', ⟨by first | omega | exact Nat.le_refl _⟩, ⟨by (with_reducible repeat (first | apply Kd.R_alloc | apply Kd.R_drewN | apply Kd.R_drew)); exact Kd.R_mono HO294.out (fun _ hk => ⟨hk.1.2, hk.2⟩)⟩, ⟨by (with_reducible repeat (first | apply Kd.R_alloc | apply Kd.R_drewN | apply Kd.R_drew)); exact Kd.R_mono HO300.out (fun _ hk => ⟨hk.1.2, hk.2⟩)⟩, ⟨by (with_reducible repeat (first | apply Kd.R_alloc | apply Kd.R_drewN | apply Kd.R_drew)); exact Kd.R_mono HO305.out (fun _ hk => ⟨hk.1.2, hk.2⟩)⟩, ⟨by (with_reducible repeat (first | refine blk_drewN ?_ _ | refine blk_drew ?_ | refine blk_alloc ?_ _)); exact BK285.out⟩, ⟨by (with_reducible repeat (first | refine blk_drewN ?_ _ | refine blk_drew ?_ | refine blk_alloc ?_ _)); exact BK296.out⟩, ⟨by (with_reducible repeat (first | refine blk_drewN ?_ _ | refine blk_drew ?_ | refine blk_alloc ?_ _)); exact BK301.out⟩, ⟨by (with_reducible repeat (first | refine blk_drewN ?_ _ | refine blk_drew ?_ | refine blk_alloc ?_ _)); exact BK307.out⟩, ⟨by repeat (first | (with_reducible first | exact HB.out | apply below_alloc | apply pw_below_drewN | apply below_drew1 | refine below_set ?_ GE285.out | refine below_set ?_ GE296.out | refine below_set ?_ GE301.out | refine below_set ?_ GE307.out) | exact HB.out)⟩⟩
      · replace c38 := Bool.eq_false_iff.mpr c38
        subst c38
        have H1 : (laws_FnExactMirrorTournament.j0 k t295 t306 true a0_0 l0_1 t291 t292 t297 t298 t302 t303) = some r := by rw [if_neg (show ¬ (false = true) by decide)] at H; exact H
        clear H
        have H := H1
        clear H1
        have H' := Aside0.mk H
        clear H
        have hnb47 := NB307_285.out
        have hnc47 := NB285_307.out
        have hnb48 := NB307_296.out
        have hnc48 := NB296_307.out
        have hnb49 := NB307_301.out
        have hnc49 := NB301_307.out
        have hcz50_0 : w31.cell? ⟨gb307, 0, none⟩ = some (.int .i64 0) := (blk_cell BK307.out 0).trans rfl
        have hcz50_1 : w31.cell? ⟨gb307, 1, none⟩ = some (.slice none 0 0) := (blk_cell BK307.out 1).trans rfl
        have hfz50_0 := blk_frozen BK307.out 0
        have hfz50_1 := blk_frozen BK307.out 1
        have hnb51 := NB296_285.out
        have hnc51 := NB285_296.out
        have hnb52 := NB296_301.out
        have hnc52 := NB301_296.out
        have hcz53_0 : w31.cell? ⟨gb296, 0, none⟩ = some (.int .i64 t291) := (blk_cell BK296.out 0).trans rfl
        have hcz53_1 : w31.cell? ⟨gb296, 1, none⟩ = some (.slice Ao22 t292.length co22) := (blk_cell BK296.out 1).trans rfl
        have hfz53_0 := blk_frozen BK296.out 0
        have hfz53_1 := blk_frozen BK296.out 1
        go_wp2_with (first | ((with_reducible refine gate_callee (f := 35) rfl ?_); refine goesL_ (some 34) rfl rfl Try.func35 (by kernel_rfl) rfl #[.agg #[.int .i64 t302, .slice Ao36 t303.length co36], .agg #[.int .i64 t291, .slice Ao22 t292.length co22]] rfl (by (try simp only [List.map_toArray, List.map_cons, List.map_nil]); first | done | rfl | (simp only [List.length_drop, List.length_take]; rfl)) ?_; (with_reducible refine (laws_eqTournament.calls k t302 _ _ t303 t291 _ _ t292 false _ ?side1 ?side2 ?side3 ?side4 A37.out).mono ?_); (case side1 => refine (Kd.R_reads' (e := 3) (base := w.heap.size) (ok := fun k_ => (((True ∧ some k_ ≠ (.slice Ao17 t288.length co17 : Value).ownBlock) ∧ some k_ ≠ (.slice Ao22 t292.length co22 : Value).ownBlock) ∧ some k_ ≠ (.slice Ao29 t298.length co29 : Value).ownBlock)) (n := t303.length) (c := co36) ?_).2.2; exact (by (with_reducible repeat (first | apply Kd.R_alloc | apply Kd.R_drewN | apply Kd.R_drew)); exact (Kd.R_mono (Kd.R_far (p := ⟨gb307, 1, none⟩) (Kd.R_far (p := ⟨gb307, 0, none⟩) (Kd.R_types HO305.out BK307.out (by decide)) (fun _ hk => hk.2) (.int .i64 t302)) (fun _ hk => hk.2) (.slice Ao36 t303.length co36)) (fun _ h_ => h_.1)))); (case side2 => exact (Kd.R_reads' HO305.out).2.1); (case side3 => refine (Kd.R_reads' (e := 3) (base := w.heap.size) (ok := fun k_ => (((True ∧ some k_ ≠ (.slice Ao17 t288.length co17 : Value).ownBlock) ∧ some k_ ≠ (.slice Ao29 t298.length co29 : Value).ownBlock) ∧ some k_ ≠ (.slice Ao36 t303.length co36 : Value).ownBlock)) (n := t292.length) (c := co22) ?_).2.2; exact (by (with_reducible repeat (first | apply Kd.R_alloc | apply Kd.R_drewN | apply Kd.R_drew)); exact (Kd.R_mono (Kd.R_far (p := ⟨gb307, 1, none⟩) (Kd.R_far (p := ⟨gb307, 0, none⟩) (Kd.R_types HO294.out BK307.out (by decide)) (fun _ hk => hk.2) (.int .i64 t302)) (fun _ hk => hk.2) (.slice Ao36 t303.length co36)) (fun _ h_ => h_.1)))); (case side4 => exact (Kd.R_reads' HO294.out).2.1); rintro e w54 ⟨rfl, hb⟩; refine ⟨_, rfl, ?_⟩; have n0_ := Aside0.mk (Kd.R_below (by (with_reducible repeat (first | apply Kd.R_alloc | apply Kd.R_drewN | apply Kd.R_drew)); exact (Kd.R_mono (Kd.R_far (p := ⟨gb307, 1, none⟩) (Kd.R_far (p := ⟨gb307, 0, none⟩) (Kd.R_types HO290.out BK307.out (by decide)) (fun _ hk => hk.2) (.int .i64 t302)) (fun _ hk => hk.2) (.slice Ao36 t303.length co36)) (fun _ h_ => h_.1))) hb); have n1_ := Aside0.mk (Kd.R_below (by (with_reducible repeat (first | apply Kd.R_alloc | apply Kd.R_drewN | apply Kd.R_drew)); exact (Kd.R_mono (Kd.R_far (p := ⟨gb307, 1, none⟩) (Kd.R_far (p := ⟨gb307, 0, none⟩) (Kd.R_types HO294.out BK307.out (by decide)) (fun _ hk => hk.2) (.int .i64 t302)) (fun _ hk => hk.2) (.slice Ao36 t303.length co36)) (fun _ h_ => h_.1))) hb); have n2_ := Aside0.mk (Kd.R_below (by (with_reducible repeat (first | apply Kd.R_alloc | apply Kd.R_drewN | apply Kd.R_drew)); exact (Kd.R_mono (Kd.R_far (p := ⟨gb307, 1, none⟩) (Kd.R_far (p := ⟨gb307, 0, none⟩) (Kd.R_types HO300.out BK307.out (by decide)) (fun _ hk => hk.2) (.int .i64 t302)) (fun _ hk => hk.2) (.slice Ao36 t303.length co36)) (fun _ h_ => h_.1))) hb); have n3_ := Aside0.mk (Kd.R_below (by (with_reducible repeat (first | apply Kd.R_alloc | apply Kd.R_drewN | apply Kd.R_drew)); exact (Kd.R_mono (Kd.R_far (p := ⟨gb307, 1, none⟩) (Kd.R_far (p := ⟨gb307, 0, none⟩) (Kd.R_types HO305.out BK307.out (by decide)) (fun _ hk => hk.2) (.int .i64 t302)) (fun _ hk => hk.2) (.slice Ao36 t303.length co36)) (fun _ h_ => h_.1))) hb); have n4_ := Aside0.mk (blk_below (g := gb285) (o := .cells #[.int .i64 a0_0, .slice A0_1 l0_1.length c0_1] 30 (0, 0)) (by (with_reducible repeat (first | refine blk_drewN ?_ _ | refine blk_drew ?_ | refine blk_alloc ?_ _)); refine blk_far ?_ NB285_307.out _; (with_reducible repeat (first | refine blk_drewN ?_ _ | refine blk_drew ?_ | refine blk_alloc ?_ _)); refine blk_far ?_ NB285_307.out _; (with_reducible repeat (first | refine blk_drewN ?_ _ | refine blk_drew ?_ | refine blk_alloc ?_ _)); exact BK285.out) hb); have n5_ := Aside0.mk (blk_below (g := gb296) (o := .cells #[.int .i64 t291, .slice Ao22 t292.length co22] 33 (0, 0)) (by (with_reducible repeat (first | refine blk_drewN ?_ _ | refine blk_drew ?_ | refine blk_alloc ?_ _)); refine blk_far ?_ NB296_307.out _; (with_reducible repeat (first | refine blk_drewN ?_ _ | refine blk_drew ?_ | refine blk_alloc ?_ _)); refine blk_far ?_ NB296_307.out _; (with_reducible repeat (first | refine blk_drewN ?_ _ | refine blk_drew ?_ | refine blk_alloc ?_ _)); exact BK296.out) hb); have n6_ := Aside0.mk (blk_below (g := gb301) (o := .cells #[.int .i64 t297, .slice Ao29 t298.length co29] 33 (0, 0)) (by (with_reducible repeat (first | refine blk_drewN ?_ _ | refine blk_drew ?_ | refine blk_alloc ?_ _)); refine blk_far ?_ NB301_307.out _; (with_reducible repeat (first | refine blk_drewN ?_ _ | refine blk_drew ?_ | refine blk_alloc ?_ _)); refine blk_far ?_ NB301_307.out _; (with_reducible repeat (first | refine blk_drewN ?_ _ | refine blk_drew ?_ | refine blk_alloc ?_ _)); exact BK301.out) hb); have n7_ := Aside0.mk (blk_below (g := gb307) (o := .cells #[.int .i64 t302, .slice Ao36 t303.length co36] 33 (0, 0)) (by (with_reducible repeat (first | refine blk_drewN ?_ _ | refine blk_drew ?_ | refine blk_alloc ?_ _)); refine blk_put (cs := #[.int .i64 t302, .slice none 0 0]) ?_ 1 _ rfl; (with_reducible repeat (first | refine blk_drewN ?_ _ | refine blk_drew ?_ | refine blk_alloc ?_ _)); refine blk_put (cs := #[.int .i64 0, .slice none 0 0]) ?_ 0 _ rfl; (with_reducible repeat (first | refine blk_drewN ?_ _ | refine blk_drew ?_ | refine blk_alloc ?_ _)); exact BK307.out) hb); have n8_ := Aside0.mk (below_step (by repeat (first | (with_reducible first | exact HB.out | apply below_alloc | apply pw_below_drewN | apply below_drew1 | refine below_set ?_ GE285.out | refine below_set ?_ GE296.out | refine below_set ?_ GE301.out | refine below_set ?_ GE307.out) | exact HB.out)) hb); clear HO290; clear HO294; clear HO300; clear HO305; clear BK285; clear BK296; clear BK301; clear BK307; clear HB; have HO290 := n0_; have HO294 := n1_; have HO300 := n2_; have HO305 := n3_; have BK285 := n4_; have BK296 := n5_; have BK301 := n6_; have BK307 := n7_; have HB := n8_; clear n0_ n1_ n2_ n3_ n4_ n5_ n6_ n7_ n8_; (try clear hb); (try clear hb2); (try clear hk); (try clear hi)))
        go_meet
        case rel => exact ⟨_, (true), (by first | rfl | (simp; done) | (simp [*]; done)), H', ⟨by first | omega | exact Nat.le_refl _⟩, ⟨by (with_reducible repeat (first | apply Kd.R_alloc | apply Kd.R_drewN | apply Kd.R_drew)); exact Kd.R_mono HO294.out (fun _ hk => ⟨hk.1.2, hk.2⟩)⟩, ⟨by (with_reducible repeat (first | apply Kd.R_alloc | apply Kd.R_drewN | apply Kd.R_drew)); exact Kd.R_mono HO300.out (fun _ hk => ⟨hk.1.2, hk.2⟩)⟩, ⟨by (with_reducible repeat (first | apply Kd.R_alloc | apply Kd.R_drewN | apply Kd.R_drew)); exact Kd.R_mono HO305.out (fun _ hk => ⟨hk.1.2, hk.2⟩)⟩, ⟨by (with_reducible repeat (first | refine blk_drewN ?_ _ | refine blk_drew ?_ | refine blk_alloc ?_ _)); exact BK285.out⟩, ⟨by (with_reducible repeat (first | refine blk_drewN ?_ _ | refine blk_drew ?_ | refine blk_alloc ?_ _)); exact BK296.out⟩, ⟨by (with_reducible repeat (first | refine blk_drewN ?_ _ | refine blk_drew ?_ | refine blk_alloc ?_ _)); exact BK301.out⟩, ⟨by (with_reducible repeat (first | refine blk_drewN ?_ _ | refine blk_drew ?_ | refine blk_alloc ?_ _)); exact BK307.out⟩, ⟨by repeat (first | (with_reducible first | exact HB.out | apply below_alloc | apply pw_below_drewN | apply below_drew1 | refine below_set ?_ GE285.out | refine below_set ?_ GE296.out | refine below_set ?_ GE301.out | refine below_set ?_ GE307.out) | exact HB.out)⟩⟩
    case rest =>
      clear HC11
      try clear c2
      try clear p2
      try clear c3
      try clear c3b0
      try clear c4
      try clear c5
      try clear c7
      try clear c20
      try clear c26
      try clear c27
      try clear c31
      try clear c32
      try clear c33
      try clear c34
      try clear c35
      try clear c36
      try clear c37
      try clear c38
      try clear c39
      try clear c40
      try clear c41
      try clear c43
      try clear c44
      try clear c47
      try clear c48
      try clear c49
      try clear c51
      try clear c52
      try clear hcz13_0
      try clear hcz13_1
      try clear hcz15_0
      try clear hcz15_1
      try clear hcz21_0
      try clear hcz21_1
      try clear hcz23_0
      try clear hcz23_1
      try clear hcz28_0
      try clear hcz28_1
      try clear hcz35_0
      try clear hcz35_1
      try clear hcz42_0
      try clear hcz42_1
      try clear hcz45_0
      try clear hcz45_1
      try clear hcz50_0
      try clear hcz50_1
      try clear hcz53_0
      try clear hcz53_1
      try clear hcz5_0
      try clear hcz5_1
      try clear hfz13_0
      try clear hfz13_1
      try clear hfz15_0
      try clear hfz15_1
      try clear hfz21_0
      try clear hfz21_1
      try clear hfz23_0
      try clear hfz23_1
      try clear hfz28_0
      try clear hfz28_1
      try clear hfz35_0
      try clear hfz35_1
      try clear hfz42_0
      try clear hfz42_1
      try clear hfz45_0
      try clear hfz45_1
      try clear hfz50_0
      try clear hfz50_1
      try clear hfz53_0
      try clear hfz53_1
      try clear hfz5_0
      try clear hfz5_1
      obtain ⟨kq, x40_10, rfl, HA, HJ10, HO_297001, HO_302001, HO_308001, BK285, BK296, BK301, BK307, HB⟩ := hcut
      cases kq with
      | zero => exact absurd HA.out (by simp [laws_FnExactMirrorTournament.j0])
      | succ kj10 =>
        have H := HA.out
        clear HA
        simp only [laws_FnExactMirrorTournament.j0] at H
        by_cases c55 : x40_10 = true
        · subst c55
          have H1 : (some false) = some r := by rw [if_pos rfl] at H; exact H
          clear H
          have H := H1
          clear H1
          obtain rfl := Option.some.inj H
          go_wp2
          go_ret
          exact ⟨by first | rfl | (simp [errW_none, errW_some] <;> rfl) | (simp [*, errW_none, errW_some] <;> rfl), by repeat (first | (with_reducible first | exact HB.out | apply below_alloc | apply pw_below_drewN | apply below_drew1 | refine below_set ?_ GE285.out | refine below_set ?_ GE296.out | refine below_set ?_ GE301.out | refine below_set ?_ GE307.out) | exact HB.out)⟩
        · replace c55 := Bool.eq_false_iff.mpr c55
          subst c55
          have H1 : ((laws_toTournament.f kj10 a0_0 l0_1).bind fun bt309 => ((laws_eqTournament.f kj10 t297 t298 bt309.1 bt309.2).bind fun t313 => (if t313 = true then ((laws_markTournament.f kj10 t297 t298 1).bind fun bt314 => (if bt314.1 < 0 then (laws_FnExactMirrorTournament.j1 kj10 t295 true a0_0 l0_1 t291 t292 t302 t303) else ((laws_eqTournament.f kj10 t302 t303 t291 t292).bind fun t316 => (if t316 = true then (laws_FnExactMirrorTournament.j1 kj10 t295 (t306 != t295) a0_0 l0_1 t291 t292 t302 t303) else (laws_FnExactMirrorTournament.j1 kj10 t295 true a0_0 l0_1 t291 t292 t302 t303))))) else (some false)))) = some r := by rw [if_neg (show ¬ (false = true) by decide)] at H; exact H
          clear H
          have H := H1
          clear H1
          replace H := Option.bind_eq_some_iff.mp H
          obtain ⟨⟨t309, t310⟩, A560, H⟩ := H
          replace H : ((laws_eqTournament.f kj10 t297 t298 t309 t310).bind fun t313 => (if t313 = true then ((laws_markTournament.f kj10 t297 t298 1).bind fun bt314 => (if bt314.1 < 0 then (laws_FnExactMirrorTournament.j1 kj10 t295 true a0_0 l0_1 t291 t292 t302 t303) else ((laws_eqTournament.f kj10 t302 t303 t291 t292).bind fun t316 => (if t316 = true then (laws_FnExactMirrorTournament.j1 kj10 t295 (t306 != t295) a0_0 l0_1 t291 t292 t302 t303) else (laws_FnExactMirrorTournament.j1 kj10 t295 true a0_0 l0_1 t291 t292 t302 t303))))) else (some false))) = some r := H
          have A56 := Aside0.mk A560
          clear A560
          replace H := Option.bind_eq_some_iff.mp H
          obtain ⟨t313, A570, H⟩ := H
          replace H : (if t313 = true then ((laws_markTournament.f kj10 t297 t298 1).bind fun bt314 => (if bt314.1 < 0 then (laws_FnExactMirrorTournament.j1 kj10 t295 true a0_0 l0_1 t291 t292 t302 t303) else ((laws_eqTournament.f kj10 t302 t303 t291 t292).bind fun t316 => (if t316 = true then (laws_FnExactMirrorTournament.j1 kj10 t295 (t306 != t295) a0_0 l0_1 t291 t292 t302 t303) else (laws_FnExactMirrorTournament.j1 kj10 t295 true a0_0 l0_1 t291 t292 t302 t303))))) else (some false)) = some r := H
          have A57 := Aside0.mk A570
          clear A570
          by_cases c58 : t313 = true
          · subst c58
            have H1 : ((laws_markTournament.f kj10 t297 t298 1).bind fun bt314 => (if bt314.1 < 0 then (laws_FnExactMirrorTournament.j1 kj10 t295 true a0_0 l0_1 t291 t292 t302 t303) else ((laws_eqTournament.f kj10 t302 t303 t291 t292).bind fun t316 => (if t316 = true then (laws_FnExactMirrorTournament.j1 kj10 t295 (t306 != t295) a0_0 l0_1 t291 t292 t302 t303) else (laws_FnExactMirrorTournament.j1 kj10 t295 true a0_0 l0_1 t291 t292 t302 t303))))) = some r := by rw [if_pos rfl] at H; exact H
            clear H
            have H := H1
            clear H1
            replace H := Option.bind_eq_some_iff.mp H
            obtain ⟨⟨t314, t315⟩, A590, H⟩ := H
            replace H : (if t314 < 0 then (laws_FnExactMirrorTournament.j1 kj10 t295 true a0_0 l0_1 t291 t292 t302 t303) else ((laws_eqTournament.f kj10 t302 t303 t291 t292).bind fun t316 => (if t316 = true then (laws_FnExactMirrorTournament.j1 kj10 t295 (t306 != t295) a0_0 l0_1 t291 t292 t302 t303) else (laws_FnExactMirrorTournament.j1 kj10 t295 true a0_0 l0_1 t291 t292 t302 t303)))) = some r := H
            have A59 := Aside0.mk A590
            clear A590
            have HC60 := Aside0.mk H
            clear H
            try go_wp2
            have n0_ := Aside0.mk (Kd.R_drew HO_297001.out)
            have n1_ := Aside0.mk (Kd.R_drew HO_302001.out)
            have n2_ := Aside0.mk (Kd.R_drew HO_308001.out)
            have n3_ := Aside0.mk (blk_drew BK285.out)
            have n4_ := Aside0.mk (blk_drew BK296.out)
            have n5_ := Aside0.mk (blk_drew BK301.out)
            have n6_ := Aside0.mk (blk_drew BK307.out)
            have n7_ := Aside0.mk (below_drew1 HB.out)
            clear HO_297001
            clear HO_302001
            clear HO_308001
            clear BK285
            clear BK296
            clear BK301
            clear BK307
            clear HB
            have HO_297001 := n0_
            have HO_302001 := n1_
            have HO_308001 := n2_
            have BK285 := n3_
            have BK296 := n4_
            have BK301 := n5_
            have BK307 := n6_
            have HB := n7_
            clear n0_ n1_ n2_ n3_ n4_ n5_ n6_ n7_
            refine start_ (n := 5) (S := fun w' => w'.cell? ⟨gb301, 0, none⟩ = some (.int .i64 t297) ∧ w'.cell? ⟨gb301, 1, none⟩ = some (.slice Ao29 t298.length co29) ∧ w'.cell? ⟨gb285, 0, none⟩ = some (.int .i64 a0_0) ∧ w'.cell? ⟨gb285, 1, none⟩ = some (.slice A0_1 l0_1.length c0_1)) (ds := []) #[false, false, false, false, false] (by kernel_rfl) rfl rfl ⟨(blk_cell BK301.out 0).trans rfl, (blk_cell BK301.out 1).trans rfl, (blk_cell BK285.out 0).trans rfl, (blk_cell BK285.out 1).trans rfl⟩ (fun hHeld => ?_)
            generalize wc.drew = w61 at HO_297001 HO_302001 HO_308001 BK285 BK296 BK301 BK307 HB hHeld ⊢
            refine take_ (i := 0) (N := some 41) (v := ?_) (a' := ?_) #[true, false, false, false, false] rfl rfl (by kernel_rfl) (fun _ _ _ h => h) (Or.inl ⟨by rfl, ?_⟩) hHeld ?_ ?_
            rotate_left
            · rintro w' ⟨s0, s1, s2, s3⟩
              go_simp
              with_reducible rfl
            rotate_left
            · simp only [Act.put, List.setIfInBounds_toArray, List.set_cons_zero, List.set_cons_succ, i64_w, i32_w]
              rfl
            refine take_ (i := 1) (N := some 42) (v := ?_) (a' := ?_) #[true, true, false, false, false] rfl rfl (by kernel_rfl) (fun _ _ _ h => h) (Or.inl ⟨by rfl, ?_⟩) hHeld ?_ ?_
            rotate_left
            · rintro w' ⟨s0, s1, s2, s3⟩
              go_simp
              with_reducible rfl
            rotate_left
            · simp only [Act.put, List.setIfInBounds_toArray, List.set_cons_zero, List.set_cons_succ, i64_w, i32_w]
              rfl
            refine one_ (i := 2) (N := some 43) #[true, true, true, false, false] rfl rfl (by kernel_rfl) (by decide) (fun K hK => ?_)
            refine goes_ Try.func33 (by kernel_rfl) rfl #[.agg #[.int .i64 a0_0, .slice A0_1 l0_1.length c0_1]] (by rfl) rfl rfl (by (try simp only [List.map_toArray, List.map_cons, List.map_nil]); first | done | rfl | (simp only [List.length_drop, List.length_take]; rfl)) ?_
            with_reducible refine (laws_toTournament.calls kj10 a0_0 _ _ l0_1 t309 t310 _ ?side1 ?side2 A56.out).mono ?_
            (case side1 => repeat (first | exact (Kd.C_below HR0_1.out HB.out) | (with_reducible refine Kd.C_alloc ?_ _) | (with_reducible refine Kd.C_drewN ?_ _) | (with_reducible refine Kd.C_drew ?_)))
            (case side2 => exact HC0_1.out)
            rintro e w62 ⟨v311, rfl, ho0, hb⟩
            refine ⟨_, rfl, ?_⟩
            have n0_ := Aside0.mk (Kd.R_elder' (by (with_reducible repeat (first | apply Kd.R_alloc | apply Kd.R_drewN | apply Kd.R_drew)); exact HO_297001.out) (Kd.R_base ho0) hb)
            have n1_ := Aside0.mk (Kd.R_elder' (by (with_reducible repeat (first | apply Kd.R_alloc | apply Kd.R_drewN | apply Kd.R_drew)); exact HO_302001.out) (Kd.R_base ho0) hb)
            have n2_ := Aside0.mk (Kd.R_elder' (by (with_reducible repeat (first | apply Kd.R_alloc | apply Kd.R_drewN | apply Kd.R_drew)); exact HO_308001.out) (Kd.R_base ho0) hb)
            have n3_ := Aside0.mk (Kd.R_lower (Kd.R_new' (Kd.R_new' (Kd.R_new' ho0 (Kd.R_lt (by (with_reducible repeat (first | apply Kd.R_alloc | apply Kd.R_drewN | apply Kd.R_drew)); exact HO_297001.out))) (Kd.R_lt (by (with_reducible repeat (first | apply Kd.R_alloc | apply Kd.R_drewN | apply Kd.R_drew)); exact HO_302001.out))) (Kd.R_lt (by (with_reducible repeat (first | apply Kd.R_alloc | apply Kd.R_drewN | apply Kd.R_drew)); exact HO_308001.out))) (below_size (by repeat (first | (with_reducible first | exact HB.out | apply below_alloc | apply pw_below_drewN | apply below_drew1 | refine below_set ?_ GE285.out | refine below_set ?_ GE296.out | refine below_set ?_ GE301.out | refine below_set ?_ GE307.out) | exact HB.out))))
            have n4_ := Aside0.mk (blk_below (g := gb285) (o := .cells #[.int .i64 a0_0, .slice A0_1 l0_1.length c0_1] 30 (0, 0)) (by (with_reducible repeat (first | refine blk_drewN ?_ _ | refine blk_drew ?_ | refine blk_alloc ?_ _)); exact BK285.out) hb)
            have n5_ := Aside0.mk (blk_below (g := gb296) (o := .cells #[.int .i64 t291, .slice Ao22 t292.length co22] 33 (0, 0)) (by (with_reducible repeat (first | refine blk_drewN ?_ _ | refine blk_drew ?_ | refine blk_alloc ?_ _)); exact BK296.out) hb)
            have n6_ := Aside0.mk (blk_below (g := gb301) (o := .cells #[.int .i64 t297, .slice Ao29 t298.length co29] 33 (0, 0)) (by (with_reducible repeat (first | refine blk_drewN ?_ _ | refine blk_drew ?_ | refine blk_alloc ?_ _)); exact BK301.out) hb)
            have n7_ := Aside0.mk (blk_below (g := gb307) (o := .cells #[.int .i64 t302, .slice Ao36 t303.length co36] 33 (0, 0)) (by (with_reducible repeat (first | refine blk_drewN ?_ _ | refine blk_drew ?_ | refine blk_alloc ?_ _)); exact BK307.out) hb)
            have n8_ := Aside0.mk (below_step (by repeat (first | (with_reducible first | exact HB.out | apply below_alloc | apply pw_below_drewN | apply below_drew1 | refine below_set ?_ GE285.out | refine below_set ?_ GE296.out | refine below_set ?_ GE301.out | refine below_set ?_ GE307.out) | exact HB.out)) hb)
            clear HO_297001
            clear HO_302001
            clear HO_308001
            clear BK285
            clear BK296
            clear BK301
            clear BK307
            clear HB
            have HO_297001 := n0_
            have HO_302001 := n1_
            have HO_308001 := n2_
            have HO312 := n3_
            have BK285 := n4_
            have BK296 := n5_
            have BK301 := n6_
            have BK307 := n7_
            have HB := n8_
            clear n0_ n1_ n2_ n3_ n4_ n5_ n6_ n7_ n8_
            (try clear hb)
            (try clear hb2)
            (try clear hk)
            (try clear hi)
            (try clear ho0)
            obtain ⟨Ao63, co63, eo63⟩ := Kd.R_slice HO312.out
            (first | subst eo63 | (injection eo63 with f1_ f2_ f3_; have f4_ := f1_.symm; have f5_ := f3_.symm; clear f1_ f2_ f3_; subst f4_; subst f5_))
            refine hK.out _ _ ⟨(blk_cell BK301.out 0).trans rfl, (blk_cell BK301.out 1).trans rfl, (blk_cell BK285.out 0).trans rfl, (blk_cell BK285.out 1).trans rfl⟩ (fun hHeld => ?_)
            clear hK K
            refine norm_ (a' := ?_) ?_ ?_
            rotate_left
            · show Act.put _ (some 43) _ = _
              simp only [Act.put, List.setIfInBounds_toArray, List.set_cons_zero, List.set_cons_succ, i64_w, i32_w]
              rfl
            refine one_ (i := 3) (N := some 44) #[true, true, true, true, false] rfl rfl (by kernel_rfl) (by decide) (fun K hK => ?_)
            refine goes_ Try.func35 (by kernel_rfl) rfl #[.agg #[.int .i64 t297, .slice Ao29 t298.length co29], .agg #[.int .i64 t309, .slice Ao63 t310.length co63]] (by rfl) rfl rfl (by (try simp only [List.map_toArray, List.map_cons, List.map_nil]); first | done | rfl | (simp only [List.length_drop, List.length_take]; rfl)) ?_
            with_reducible refine (laws_eqTournament.calls kj10 t297 _ _ t298 t309 _ _ t310 true _ ?side1 ?side2 ?side3 ?side4 A57.out).mono ?_
            (case side1 => repeat (first | exact (Kd.R_reads' HO_302001.out).2.2 | (with_reducible refine Kd.C_alloc ?_ _) | (with_reducible refine Kd.C_drewN ?_ _) | (with_reducible refine Kd.C_drew ?_)))
            (case side2 => exact (Kd.R_reads' HO_302001.out).2.1)
            (case side3 => repeat (first | exact (Kd.R_reads' HO312.out).2.2 | (with_reducible refine Kd.C_alloc ?_ _) | (with_reducible refine Kd.C_drewN ?_ _) | (with_reducible refine Kd.C_drew ?_)))
            (case side4 => exact (Kd.R_reads' HO312.out).2.1)
            rintro e w64 ⟨rfl, hb⟩
            refine ⟨_, rfl, ?_⟩
            have n0_ := Aside0.mk (Kd.R_below (by (with_reducible repeat (first | apply Kd.R_alloc | apply Kd.R_drewN | apply Kd.R_drew)); exact HO_297001.out) hb)
            have n1_ := Aside0.mk (Kd.R_below (by (with_reducible repeat (first | apply Kd.R_alloc | apply Kd.R_drewN | apply Kd.R_drew)); exact HO_302001.out) hb)
            have n2_ := Aside0.mk (Kd.R_below (by (with_reducible repeat (first | apply Kd.R_alloc | apply Kd.R_drewN | apply Kd.R_drew)); exact HO_308001.out) hb)
            have n3_ := Aside0.mk (Kd.R_below (by (with_reducible repeat (first | apply Kd.R_alloc | apply Kd.R_drewN | apply Kd.R_drew)); exact HO312.out) hb)
            have n4_ := Aside0.mk (blk_below (g := gb285) (o := .cells #[.int .i64 a0_0, .slice A0_1 l0_1.length c0_1] 30 (0, 0)) (by (with_reducible repeat (first | refine blk_drewN ?_ _ | refine blk_drew ?_ | refine blk_alloc ?_ _)); exact BK285.out) hb)
            have n5_ := Aside0.mk (blk_below (g := gb296) (o := .cells #[.int .i64 t291, .slice Ao22 t292.length co22] 33 (0, 0)) (by (with_reducible repeat (first | refine blk_drewN ?_ _ | refine blk_drew ?_ | refine blk_alloc ?_ _)); exact BK296.out) hb)
            have n6_ := Aside0.mk (blk_below (g := gb301) (o := .cells #[.int .i64 t297, .slice Ao29 t298.length co29] 33 (0, 0)) (by (with_reducible repeat (first | refine blk_drewN ?_ _ | refine blk_drew ?_ | refine blk_alloc ?_ _)); exact BK301.out) hb)
            have n7_ := Aside0.mk (blk_below (g := gb307) (o := .cells #[.int .i64 t302, .slice Ao36 t303.length co36] 33 (0, 0)) (by (with_reducible repeat (first | refine blk_drewN ?_ _ | refine blk_drew ?_ | refine blk_alloc ?_ _)); exact BK307.out) hb)
            have n8_ := Aside0.mk (below_step (by repeat (first | (with_reducible first | exact HB.out | apply below_alloc | apply pw_below_drewN | apply below_drew1 | refine below_set ?_ GE285.out | refine below_set ?_ GE296.out | refine below_set ?_ GE301.out | refine below_set ?_ GE307.out) | exact HB.out)) hb)
            clear HO_297001
            clear HO_302001
            clear HO_308001
            clear HO312
            clear BK285
            clear BK296
            clear BK301
            clear BK307
            clear HB
            have HO_297001 := n0_
            have HO_302001 := n1_
            have HO_308001 := n2_
            have HO312 := n3_
            have BK285 := n4_
            have BK296 := n5_
            have BK301 := n6_
            have BK307 := n7_
            have HB := n8_
            clear n0_ n1_ n2_ n3_ n4_ n5_ n6_ n7_ n8_
            (try clear hb)
            (try clear hb2)
            (try clear hk)
            (try clear hi)
            refine hK.out _ _ ⟨(blk_cell BK301.out 0).trans rfl, (blk_cell BK301.out 1).trans rfl, (blk_cell BK285.out 0).trans rfl, (blk_cell BK285.out 1).trans rfl⟩ (fun hHeld => ?_)
            clear hK K
            refine norm_ (a' := ?_) ?_ ?_
            rotate_left
            · show Act.put _ (some 44) _ = _
              simp only [Act.put, List.setIfInBounds_toArray, List.set_cons_zero, List.set_cons_succ, i64_w, i32_w]
              rfl
            refine pure_ (i := 4) (N := some 45) (v := ?_) (a' := ?_) #[true, true, true, true, true] rfl rfl (by kernel_rfl) (fun _ _ _ h => h) (Or.inl ⟨by rfl, ?_⟩) ?_ ?_
            rotate_left
            · intro w'
              go_simp
              with_reducible rfl
            rotate_left
            · simp only [Act.put, List.setIfInBounds_toArray, List.set_cons_zero, List.set_cons_succ, i64_w, i32_w]
              rfl
            refine done_ (by kernel_rfl) ?_
            have hnb65 := NB301_285.out
            have hnc65 := NB285_301.out
            have hnb66 := NB301_296.out
            have hnc66 := NB296_301.out
            have hnb67 := NB301_307.out
            have hnc67 := NB307_301.out
            have hcz68_0 : w64.cell? ⟨gb301, 0, none⟩ = some (.int .i64 t297) := (blk_cell BK301.out 0).trans rfl
            have hcz68_1 : w64.cell? ⟨gb301, 1, none⟩ = some (.slice Ao29 t298.length co29) := (blk_cell BK301.out 1).trans rfl
            have hfz68_0 := blk_frozen BK301.out 0
            have hfz68_1 := blk_frozen BK301.out 1
            go_upto_region 14 with (first | ((with_reducible refine gate_callee (f := 38) rfl ?_); refine goesL_ (some 48) rfl rfl Try.func38 (by kernel_rfl) rfl #[.agg #[.int .i64 t297, .slice Ao29 t298.length co29], .int .i64 1] rfl (by (try simp only [List.map_toArray, List.map_cons, List.map_nil]); first | done | rfl | (simp only [List.length_drop, List.length_take]; rfl)) ?_; (with_reducible refine (laws_markTournament.calls kj10 t297 (fun k_ => some k_ = (.slice Ao29 t298.length co29 : Value).ownBlock) (.slice Ao29 t298.length co29) t298 1 t314 t315 w _ ?side1 ?side2 A59.out).mono ?_); (case side1 => repeat (first | (with_reducible first | exact HB.out | apply below_alloc | apply pw_below_drewN | apply below_drew1 | refine below_set ?_ GE285.out | refine below_set ?_ GE296.out | refine below_set ?_ GE301.out | refine below_set ?_ GE307.out) | exact HB.out)); (case side2 => exact Kd.R_tight rfl HO_302001.out); rintro e w69 ⟨rfl, hy0, hb, hkp⟩; refine ⟨_, rfl, ?_⟩; have n0_ := Aside0.mk (Kd.R_mono (ok' := fun k_ => some k_ ≠ (.slice Ao29 t298.length co29 : Value).ownBlock ∧ some k_ ≠ (.slice Ao36 t303.length co36 : Value).ownBlock ∧ some k_ ≠ (.slice Ao63 t310.length co63 : Value).ownBlock) (Kd.R_keptB (HO_297001.out) hkp (fun k_ hk_ hs_ => (hk_.1.1) hs_)) (fun k_ hk_ => ⟨hk_.1.1.1, hk_.1.1.2, hk_.1.2⟩)); have n1_ := Aside0.mk (Kd.R_reok rfl hy0 (fun k_ e_ => HO_302001.out.1 k_ e_)); have n2_ := Aside0.mk (Kd.R_mono (ok' := fun k_ => some k_ ≠ (.slice Ao22 t292.length co22 : Value).ownBlock ∧ some k_ ≠ (.slice Ao29 t298.length co29 : Value).ownBlock ∧ some k_ ≠ (.slice Ao63 t310.length co63 : Value).ownBlock) (Kd.R_keptB (HO_308001.out) hkp (fun k_ hk_ hs_ => (hk_.1.2) hs_)) (fun k_ hk_ => ⟨hk_.1.1.1, hk_.1.1.2, hk_.1.2⟩)); have n3_ := Aside0.mk (blk_kept (by (with_reducible repeat (first | refine blk_drewN ?_ _ | refine blk_drew ?_ | refine blk_alloc ?_ _)); exact BK285.out) hkp (fun hs_ => (fun e_ => (Kd.R_ne HO_302001.out BK285.out (by decide)) e_) hs_)); have n4_ := Aside0.mk (blk_kept (by (with_reducible repeat (first | refine blk_drewN ?_ _ | refine blk_drew ?_ | refine blk_alloc ?_ _)); exact BK296.out) hkp (fun hs_ => (fun e_ => (Kd.R_ne HO_302001.out BK296.out (by decide)) e_) hs_)); have n5_ := Aside0.mk (blk_kept (by (with_reducible repeat (first | refine blk_drewN ?_ _ | refine blk_drew ?_ | refine blk_alloc ?_ _)); exact BK301.out) hkp (fun hs_ => (fun e_ => (Kd.R_ne HO_302001.out BK301.out (by decide)) e_) hs_)); have n6_ := Aside0.mk (blk_kept (by (with_reducible repeat (first | refine blk_drewN ?_ _ | refine blk_drew ?_ | refine blk_alloc ?_ _)); exact BK307.out) hkp (fun hs_ => (fun e_ => (Kd.R_ne HO_302001.out BK307.out (by decide)) e_) hs_)); have n7_ := Aside0.mk (Kd.R_mono (ok' := fun k_ => some k_ ≠ (.slice Ao22 t292.length co22 : Value).ownBlock ∧ some k_ ≠ (.slice Ao29 t298.length co29 : Value).ownBlock ∧ some k_ ≠ (.slice Ao36 t303.length co36 : Value).ownBlock) (Kd.R_keptB (HO312.out) hkp (fun k_ hk_ hs_ => (hk_.1.2) hs_)) (fun k_ hk_ => ⟨hk_.1.1.1.2, hk_.1.1.2, hk_.1.2⟩)); have n8_ := Aside0.mk (hb); clear HO_297001; clear HO_302001; clear HO_308001; clear BK285; clear BK296; clear BK301; clear BK307; clear HO312; clear HB; have HO_297001 := n0_; have HO_302001 := n1_; have HO_308001 := n2_; have BK285 := n3_; have BK296 := n4_; have BK301 := n5_; have BK307 := n6_; have HO312 := n7_; have HB := n8_; clear n0_ n1_ n2_ n3_ n4_ n5_ n6_ n7_ n8_; (try clear hb); (try clear hkp); (try clear hy0)))
            (try simp only [Act.put, List.setIfInBounds_toArray, List.set_cons_zero, List.set_cons_succ])
            go_cut [61] (fun v61 wc => ∃ (kq : Nat) (x61_59 : Bool), v61 = .bool x61_59 ∧ Aside0 (laws_FnExactMirrorTournament.j1 kq t295 x61_59 a0_0 l0_1 t291 t292 t302 t303 = some r) ∧ Aside0 (kq ≤ kj10) ∧ Aside0 (Kd.R (Kd.int .i64) 3 wc w.heap.size (fun k_ => some k_ ≠ ((.slice Ao29 t298.length co29) : Value).ownBlock ∧ some k_ ≠ ((.slice Ao36 t303.length co36) : Value).ownBlock) (.slice Ao22 t292.length co22) t292) ∧ Aside0 (Kd.R (Kd.int .i64) 3 wc w.heap.size (fun k_ => some k_ ≠ ((.slice Ao22 t292.length co22) : Value).ownBlock ∧ some k_ ≠ ((.slice Ao36 t303.length co36) : Value).ownBlock) (.slice Ao29 t298.length co29) t315) ∧ Aside0 (Kd.R (Kd.int .i64) 3 wc w.heap.size (fun k_ => some k_ ≠ ((.slice Ao22 t292.length co22) : Value).ownBlock ∧ some k_ ≠ ((.slice Ao29 t298.length co29) : Value).ownBlock) (.slice Ao36 t303.length co36) t303) ∧ Aside0 (wc.heap[gb285]? = some (.cells #[.int .i64 a0_0, (.slice A0_1 l0_1.length c0_1)] 30 (0, 0))) ∧ Aside0 (wc.heap[gb296]? = some (.cells #[.int .i64 t291, (.slice Ao22 t292.length co22)] 33 (0, 0))) ∧ Aside0 (wc.heap[gb301]? = some (.cells #[.int .i64 t297, (.slice Ao29 t298.length co29)] 33 (0, 0))) ∧ Aside0 (wc.heap[gb307]? = some (.cells #[.int .i64 t302, (.slice Ao36 t303.length co36)] 33 (0, 0))) ∧ Aside0 (Below w.heap.size w wc))
            case first =>
              have H := HC60.out
              clear HC60
              by_cases c70 : t314 < 0
              · rw [if_pos c70] at H
                have c70b0 : decide (t314 < 0) = true := decide_eq_true c70
                clear c70
                (first | rw [c70b0] | (simp only [i64_w, i32_w]; rw [c70b0]) | skip)
                have H' := Aside0.mk H
                clear H
                go_wp2
                go_meet
                case rel => exact ⟨_, (true), (by first | rfl | (simp; done) | (simp [*]; done)), H', ⟨by have := HJ10.out; first | omega | exact Nat.le_refl _⟩, ⟨by (with_reducible repeat (first | apply Kd.R_alloc | apply Kd.R_drewN | apply Kd.R_drew)); exact Kd.R_mono HO_297001.out (fun _ hk => ⟨hk.1, hk.2.1⟩)⟩, ⟨by (with_reducible repeat (first | apply Kd.R_alloc | apply Kd.R_drewN | apply Kd.R_drew)); exact Kd.R_mono HO_302001.out (fun _ hk => ⟨hk.1.1, hk.1.2⟩)⟩, ⟨by (with_reducible repeat (first | apply Kd.R_alloc | apply Kd.R_drewN | apply Kd.R_drew)); exact Kd.R_mono HO_308001.out (fun _ hk => ⟨hk.1, hk.2.1⟩)⟩, ⟨by (with_reducible repeat (first | refine blk_drewN ?_ _ | refine blk_drew ?_ | refine blk_alloc ?_ _)); exact BK285.out⟩, ⟨by (with_reducible repeat (first | refine blk_drewN ?_ _ | refine blk_drew ?_ | refine blk_alloc ?_ _)); exact BK296.out⟩, ⟨by (with_reducible repeat (first | refine blk_drewN ?_ _ | refine blk_drew ?_ | refine blk_alloc ?_ _)); exact BK301.out⟩, ⟨by (with_reducible repeat (first | refine blk_drewN ?_ _ | refine blk_drew ?_ | refine blk_alloc ?_ _)); exact BK307.out⟩, ⟨by repeat (first | (with_reducible first | exact HB.out | apply below_alloc | apply pw_below_drewN | apply below_drew1 | refine below_set ?_ GE285.out | refine below_set ?_ GE296.out | refine below_set ?_ GE301.out | refine below_set ?_ GE307.out) | exact HB.out)⟩⟩
              · rw [if_neg c70] at H
                have c70b0 : decide (t314 < 0) = false := decide_eq_false c70
                clear c70
                (first | rw [c70b0] | (simp only [i64_w, i32_w]; rw [c70b0]) | skip)
                replace H := Option.bind_eq_some_iff.mp H
                obtain ⟨t316, A710, H⟩ := H
                replace H : (if t316 = true then (laws_FnExactMirrorTournament.j1 kj10 t295 (t306 != t295) a0_0 l0_1 t291 t292 t302 t303) else (laws_FnExactMirrorTournament.j1 kj10 t295 true a0_0 l0_1 t291 t292 t302 t303)) = some r := H
                have A71 := Aside0.mk A710
                clear A710
                by_cases c72 : t316 = true
                · subst c72
                  have H1 : (laws_FnExactMirrorTournament.j1 kj10 t295 (t306 != t295) a0_0 l0_1 t291 t292 t302 t303) = some r := by rw [if_pos rfl] at H; exact H
                  clear H
                  have H := H1
                  clear H1
                  have H' := Aside0.mk H
                  clear H
                  have hnb73 := NB307_285.out
                  have hnc73 := NB285_307.out
                  have hnb74 := NB307_296.out
                  have hnc74 := NB296_307.out
                  have hnb75 := NB307_301.out
                  have hnc75 := NB301_307.out
                  have hcz76_0 : w69.cell? ⟨gb307, 0, none⟩ = some (.int .i64 t302) := (blk_cell BK307.out 0).trans rfl
                  have hcz76_1 : w69.cell? ⟨gb307, 1, none⟩ = some (.slice Ao36 t303.length co36) := (blk_cell BK307.out 1).trans rfl
                  have hfz76_0 := blk_frozen BK307.out 0
                  have hfz76_1 := blk_frozen BK307.out 1
                  have hnb77 := NB296_285.out
                  have hnc77 := NB285_296.out
                  have hnb78 := NB296_301.out
                  have hnc78 := NB301_296.out
                  have hcz79_0 : w69.cell? ⟨gb296, 0, none⟩ = some (.int .i64 t291) := (blk_cell BK296.out 0).trans rfl
                  have hcz79_1 : w69.cell? ⟨gb296, 1, none⟩ = some (.slice Ao22 t292.length co22) := (blk_cell BK296.out 1).trans rfl
                  have hfz79_0 := blk_frozen BK296.out 0
                  have hfz79_1 := blk_frozen BK296.out 1
                  go_wp2_with (first | (go_at_call 35; (with_reducible refine (laws_eqTournament.calls kj10 t302 _ _ t303 t291 _ _ t292 true _ ?side1 ?side2 ?side3 ?side4 A71.out).mono ?_); (case side1 => repeat (first | exact (Kd.R_reads' HO_308001.out).2.2 | (with_reducible refine Kd.C_alloc ?_ _) | (with_reducible refine Kd.C_drewN ?_ _) | (with_reducible refine Kd.C_drew ?_))); (case side2 => exact (Kd.R_reads' HO_308001.out).2.1); (case side3 => repeat (first | exact (Kd.R_reads' HO_297001.out).2.2 | (with_reducible refine Kd.C_alloc ?_ _) | (with_reducible refine Kd.C_drewN ?_ _) | (with_reducible refine Kd.C_drew ?_))); (case side4 => exact (Kd.R_reads' HO_297001.out).2.1); rintro e w80 ⟨rfl, hb⟩; have n0_ := Aside0.mk (Kd.R_below (by (with_reducible repeat (first | apply Kd.R_alloc | apply Kd.R_drewN | apply Kd.R_drew)); exact HO_297001.out) hb); have n1_ := Aside0.mk (Kd.R_below (by (with_reducible repeat (first | apply Kd.R_alloc | apply Kd.R_drewN | apply Kd.R_drew)); exact HO_302001.out) hb); have n2_ := Aside0.mk (Kd.R_below (by (with_reducible repeat (first | apply Kd.R_alloc | apply Kd.R_drewN | apply Kd.R_drew)); exact HO_308001.out) hb); have n3_ := Aside0.mk (Kd.R_below (by (with_reducible repeat (first | apply Kd.R_alloc | apply Kd.R_drewN | apply Kd.R_drew)); exact HO312.out) hb); have n4_ := Aside0.mk (blk_below (g := gb285) (o := .cells #[.int .i64 a0_0, .slice A0_1 l0_1.length c0_1] 30 (0, 0)) (by (with_reducible repeat (first | refine blk_drewN ?_ _ | refine blk_drew ?_ | refine blk_alloc ?_ _)); exact BK285.out) hb); have n5_ := Aside0.mk (blk_below (g := gb296) (o := .cells #[.int .i64 t291, .slice Ao22 t292.length co22] 33 (0, 0)) (by (with_reducible repeat (first | refine blk_drewN ?_ _ | refine blk_drew ?_ | refine blk_alloc ?_ _)); exact BK296.out) hb); have n6_ := Aside0.mk (blk_below (g := gb301) (o := .cells #[.int .i64 t297, .slice Ao29 t298.length co29] 33 (0, 0)) (by (with_reducible repeat (first | refine blk_drewN ?_ _ | refine blk_drew ?_ | refine blk_alloc ?_ _)); exact BK301.out) hb); have n7_ := Aside0.mk (blk_below (g := gb307) (o := .cells #[.int .i64 t302, .slice Ao36 t303.length co36] 33 (0, 0)) (by (with_reducible repeat (first | refine blk_drewN ?_ _ | refine blk_drew ?_ | refine blk_alloc ?_ _)); exact BK307.out) hb); have n8_ := Aside0.mk (below_step (by repeat (first | (with_reducible first | exact HB.out | apply below_alloc | apply pw_below_drewN | apply below_drew1 | refine below_set ?_ GE285.out | refine below_set ?_ GE296.out | refine below_set ?_ GE301.out | refine below_set ?_ GE307.out) | exact HB.out)) hb); clear HO_297001; clear HO_302001; clear HO_308001; clear HO312; clear BK285; clear BK296; clear BK301; clear BK307; clear HB; have HO_297001 := n0_; have HO_302001 := n1_; have HO_308001 := n2_; have HO312 := n3_; have BK285 := n4_; have BK296 := n5_; have BK301 := n6_; have BK307 := n7_; have HB := n8_; clear n0_ n1_ n2_ n3_ n4_ n5_ n6_ n7_ n8_; (try clear hb); (try clear hb2); (try clear hk); (try clear hi)))
                  go_meet
                  case rel => exact ⟨_, ((t306 != t295)), (by first | rfl | (simp; done) | (simp [*]; done)), H', ⟨by have := HJ10.out; first | omega | exact Nat.le_refl _⟩, ⟨by (with_reducible repeat (first | apply Kd.R_alloc | apply Kd.R_drewN | apply Kd.R_drew)); exact Kd.R_mono HO_297001.out (fun _ hk => ⟨hk.1, hk.2.1⟩)⟩, ⟨by (with_reducible repeat (first | apply Kd.R_alloc | apply Kd.R_drewN | apply Kd.R_drew)); exact Kd.R_mono HO_302001.out (fun _ hk => ⟨hk.1.1, hk.1.2⟩)⟩, ⟨by (with_reducible repeat (first | apply Kd.R_alloc | apply Kd.R_drewN | apply Kd.R_drew)); exact Kd.R_mono HO_308001.out (fun _ hk => ⟨hk.1, hk.2.1⟩)⟩, ⟨by (with_reducible repeat (first | refine blk_drewN ?_ _ | refine blk_drew ?_ | refine blk_alloc ?_ _)); exact BK285.out⟩, ⟨by (with_reducible repeat (first | refine blk_drewN ?_ _ | refine blk_drew ?_ | refine blk_alloc ?_ _)); exact BK296.out⟩, ⟨by (with_reducible repeat (first | refine blk_drewN ?_ _ | refine blk_drew ?_ | refine blk_alloc ?_ _)); exact BK301.out⟩, ⟨by (with_reducible repeat (first | refine blk_drewN ?_ _ | refine blk_drew ?_ | refine blk_alloc ?_ _)); exact BK307.out⟩, ⟨by repeat (first | (with_reducible first | exact HB.out | apply below_alloc | apply pw_below_drewN | apply below_drew1 | refine below_set ?_ GE285.out | refine below_set ?_ GE296.out | refine below_set ?_ GE301.out | refine below_set ?_ GE307.out) | exact HB.out)⟩⟩
                · replace c72 := Bool.eq_false_iff.mpr c72
                  subst c72
                  have H1 : (laws_FnExactMirrorTournament.j1 kj10 t295 true a0_0 l0_1 t291 t292 t302 t303) = some r := by rw [if_neg (show ¬ (false = true) by decide)] at H; exact H
                  clear H
                  have H := H1
                  clear H1
                  have H' := Aside0.mk H
                  clear H
                  have hnb81 := NB307_285.out
                  have hnc81 := NB285_307.out
                  have hnb82 := NB307_296.out
                  have hnc82 := NB296_307.out
                  have hnb83 := NB307_301.out
                  have hnc83 := NB301_307.out
                  have hcz84_0 : w69.cell? ⟨gb307, 0, none⟩ = some (.int .i64 t302) := (blk_cell BK307.out 0).trans rfl
                  have hcz84_1 : w69.cell? ⟨gb307, 1, none⟩ = some (.slice Ao36 t303.length co36) := (blk_cell BK307.out 1).trans rfl
                  have hfz84_0 := blk_frozen BK307.out 0
                  have hfz84_1 := blk_frozen BK307.out 1
                  have hnb85 := NB296_285.out
                  have hnc85 := NB285_296.out
                  have hnb86 := NB296_301.out
                  have hnc86 := NB301_296.out
                  have hcz87_0 : w69.cell? ⟨gb296, 0, none⟩ = some (.int .i64 t291) := (blk_cell BK296.out 0).trans rfl
                  have hcz87_1 : w69.cell? ⟨gb296, 1, none⟩ = some (.slice Ao22 t292.length co22) := (blk_cell BK296.out 1).trans rfl
                  have hfz87_0 := blk_frozen BK296.out 0
                  have hfz87_1 := blk_frozen BK296.out 1
                  go_wp2_with (first | (go_at_call 35; (with_reducible refine (laws_eqTournament.calls kj10 t302 _ _ t303 t291 _ _ t292 false _ ?side1 ?side2 ?side3 ?side4 A71.out).mono ?_); (case side1 => repeat (first | exact (Kd.R_reads' HO_308001.out).2.2 | (with_reducible refine Kd.C_alloc ?_ _) | (with_reducible refine Kd.C_drewN ?_ _) | (with_reducible refine Kd.C_drew ?_))); (case side2 => exact (Kd.R_reads' HO_308001.out).2.1); (case side3 => repeat (first | exact (Kd.R_reads' HO_297001.out).2.2 | (with_reducible refine Kd.C_alloc ?_ _) | (with_reducible refine Kd.C_drewN ?_ _) | (with_reducible refine Kd.C_drew ?_))); (case side4 => exact (Kd.R_reads' HO_297001.out).2.1); rintro e w88 ⟨rfl, hb⟩; have n0_ := Aside0.mk (Kd.R_below (by (with_reducible repeat (first | apply Kd.R_alloc | apply Kd.R_drewN | apply Kd.R_drew)); exact HO_297001.out) hb); have n1_ := Aside0.mk (Kd.R_below (by (with_reducible repeat (first | apply Kd.R_alloc | apply Kd.R_drewN | apply Kd.R_drew)); exact HO_302001.out) hb); have n2_ := Aside0.mk (Kd.R_below (by (with_reducible repeat (first | apply Kd.R_alloc | apply Kd.R_drewN | apply Kd.R_drew)); exact HO_308001.out) hb); have n3_ := Aside0.mk (Kd.R_below (by (with_reducible repeat (first | apply Kd.R_alloc | apply Kd.R_drewN | apply Kd.R_drew)); exact HO312.out) hb); have n4_ := Aside0.mk (blk_below (g := gb285) (o := .cells #[.int .i64 a0_0, .slice A0_1 l0_1.length c0_1] 30 (0, 0)) (by (with_reducible repeat (first | refine blk_drewN ?_ _ | refine blk_drew ?_ | refine blk_alloc ?_ _)); exact BK285.out) hb); have n5_ := Aside0.mk (blk_below (g := gb296) (o := .cells #[.int .i64 t291, .slice Ao22 t292.length co22] 33 (0, 0)) (by (with_reducible repeat (first | refine blk_drewN ?_ _ | refine blk_drew ?_ | refine blk_alloc ?_ _)); exact BK296.out) hb); have n6_ := Aside0.mk (blk_below (g := gb301) (o := .cells #[.int .i64 t297, .slice Ao29 t298.length co29] 33 (0, 0)) (by (with_reducible repeat (first | refine blk_drewN ?_ _ | refine blk_drew ?_ | refine blk_alloc ?_ _)); exact BK301.out) hb); have n7_ := Aside0.mk (blk_below (g := gb307) (o := .cells #[.int .i64 t302, .slice Ao36 t303.length co36] 33 (0, 0)) (by (with_reducible repeat (first | refine blk_drewN ?_ _ | refine blk_drew ?_ | refine blk_alloc ?_ _)); exact BK307.out) hb); have n8_ := Aside0.mk (below_step (by repeat (first | (with_reducible first | exact HB.out | apply below_alloc | apply pw_below_drewN | apply below_drew1 | refine below_set ?_ GE285.out | refine below_set ?_ GE296.out | refine below_set ?_ GE301.out | refine below_set ?_ GE307.out) | exact HB.out)) hb); clear HO_297001; clear HO_302001; clear HO_308001; clear HO312; clear BK285; clear BK296; clear BK301; clear BK307; clear HB; have HO_297001 := n0_; have HO_302001 := n1_; have HO_308001 := n2_; have HO312 := n3_; have BK285 := n4_; have BK296 := n5_; have BK301 := n6_; have BK307 := n7_; have HB := n8_; clear n0_ n1_ n2_ n3_ n4_ n5_ n6_ n7_ n8_; (try clear hb); (try clear hb2); (try clear hk); (try clear hi)))
                  go_meet
                  case rel => exact ⟨_, (true), (by first | rfl | (simp; done) | (simp [*]; done)), H', ⟨by have := HJ10.out; first | omega | exact Nat.le_refl _⟩, ⟨by (with_reducible repeat (first | apply Kd.R_alloc | apply Kd.R_drewN | apply Kd.R_drew)); exact Kd.R_mono HO_297001.out (fun _ hk => ⟨hk.1, hk.2.1⟩)⟩, ⟨by (with_reducible repeat (first | apply Kd.R_alloc | apply Kd.R_drewN | apply Kd.R_drew)); exact Kd.R_mono HO_302001.out (fun _ hk => ⟨hk.1.1, hk.1.2⟩)⟩, ⟨by (with_reducible repeat (first | apply Kd.R_alloc | apply Kd.R_drewN | apply Kd.R_drew)); exact Kd.R_mono HO_308001.out (fun _ hk => ⟨hk.1, hk.2.1⟩)⟩, ⟨by (with_reducible repeat (first | refine blk_drewN ?_ _ | refine blk_drew ?_ | refine blk_alloc ?_ _)); exact BK285.out⟩, ⟨by (with_reducible repeat (first | refine blk_drewN ?_ _ | refine blk_drew ?_ | refine blk_alloc ?_ _)); exact BK296.out⟩, ⟨by (with_reducible repeat (first | refine blk_drewN ?_ _ | refine blk_drew ?_ | refine blk_alloc ?_ _)); exact BK301.out⟩, ⟨by (with_reducible repeat (first | refine blk_drewN ?_ _ | refine blk_drew ?_ | refine blk_alloc ?_ _)); exact BK307.out⟩, ⟨by repeat (first | (with_reducible first | exact HB.out | apply below_alloc | apply pw_below_drewN | apply below_drew1 | refine below_set ?_ GE285.out | refine below_set ?_ GE296.out | refine below_set ?_ GE301.out | refine below_set ?_ GE307.out) | exact HB.out)⟩⟩
            case rest =>
              clear HC60
              try clear c2
              try clear p2
              try clear c3
              try clear c3b0
              try clear c4
              try clear c5
              try clear c6
              try clear c7
              try clear c8
              try clear c20
              try clear c26
              try clear c27
              try clear c31
              try clear c32
              try clear c33
              try clear c34
              try clear c35
              try clear c36
              try clear c37
              try clear c38
              try clear c39
              try clear c40
              try clear c41
              try clear c43
              try clear c44
              try clear c47
              try clear c48
              try clear c49
              try clear c51
              try clear c52
              try clear c55
              try clear c58
              try clear c65
              try clear c66
              try clear c67
              try clear c70
              try clear c70b0
              try clear c72
              try clear c73
              try clear c74
              try clear c75
              try clear c77
              try clear c78
              try clear c81
              try clear c82
              try clear c83
              try clear c85
              try clear c86
              try clear hcz13_0
              try clear hcz13_1
              try clear hcz15_0
              try clear hcz15_1
              try clear hcz21_0
              try clear hcz21_1
              try clear hcz23_0
              try clear hcz23_1
              try clear hcz28_0
              try clear hcz28_1
              try clear hcz35_0
              try clear hcz35_1
              try clear hcz42_0
              try clear hcz42_1
              try clear hcz45_0
              try clear hcz45_1
              try clear hcz50_0
              try clear hcz50_1
              try clear hcz53_0
              try clear hcz53_1
              try clear hcz5_0
              try clear hcz5_1
              try clear hcz68_0
              try clear hcz68_1
              try clear hcz76_0
              try clear hcz76_1
              try clear hcz79_0
              try clear hcz79_1
              try clear hcz84_0
              try clear hcz84_1
              try clear hcz87_0
              try clear hcz87_1
              try clear hfz13_0
              try clear hfz13_1
              try clear hfz15_0
              try clear hfz15_1
              try clear hfz21_0
              try clear hfz21_1
              try clear hfz23_0
              try clear hfz23_1
              try clear hfz28_0
              try clear hfz28_1
              try clear hfz35_0
              try clear hfz35_1
              try clear hfz42_0
              try clear hfz42_1
              try clear hfz45_0
              try clear hfz45_1
              try clear hfz50_0
              try clear hfz50_1
              try clear hfz53_0
              try clear hfz53_1
              try clear hfz5_0
              try clear hfz5_1
              try clear hfz68_0
              try clear hfz68_1
              try clear hfz76_0
              try clear hfz76_1
              try clear hfz79_0
              try clear hfz79_1
              try clear hfz84_0
              try clear hfz84_1
              try clear hfz87_0
              try clear hfz87_1
              try clear p2
              obtain ⟨kq, x61_59, rfl, HA, HJ59, HO_297001, HO_302001, HO_308001, BK285, BK296, BK301, BK307, HB⟩ := hcut
              have hl302001_59 := (Kd.R_reads' HO_302001.out).1
              rw [hl302001_59] at HO_302001
              (try simp only [hl302001_59])
              (try simp only [hl302001_59] at BK285)
              (try simp only [hl302001_59] at BK296)
              (try simp only [hl302001_59] at BK301)
              (try simp only [hl302001_59] at BK307)
              (try simp only [hl302001_59] at HO_297001)
              (try simp only [hl302001_59] at HO_308001)
              cases kq with
              | zero => exact absurd HA.out (by simp [laws_FnExactMirrorTournament.j1])
              | succ kj59 =>
                have H := HA.out
                clear HA
                simp only [laws_FnExactMirrorTournament.j1] at H
                by_cases c89 : x61_59 = true
                · subst c89
                  have H1 : (some false) = some r := by rw [if_pos rfl] at H; exact H
                  clear H
                  have H := H1
                  clear H1
                  obtain rfl := Option.some.inj H
                  go_wp2
                  go_ret
                  exact ⟨by first | rfl | (simp [errW_none, errW_some] <;> rfl) | (simp [*, errW_none, errW_some] <;> rfl), by repeat (first | (with_reducible first | exact HB.out | apply below_alloc | apply pw_below_drewN | apply below_drew1 | refine below_set ?_ GE285.out | refine below_set ?_ GE296.out | refine below_set ?_ GE301.out | refine below_set ?_ GE307.out) | exact HB.out)⟩
                · replace c89 := Bool.eq_false_iff.mpr c89
                  subst c89
                  have H1 : ((laws_markTournament.f kj59 t302 t303 1).bind fun bt317 => ((laws_heldTournament.f kj59 t302 bt317.2 1).bind fun t319 => (if t319 < 0 then (some false) else (if t319 = bt317.1 then ((laws_toTournament.f kj59 a0_0 l0_1).bind fun bt320 => ((impl_MirrorTournament.f kj59 bt320.1 bt320.2).bind fun bt324 => ((laws_eqTournament.f kj59 bt324.1 bt324.2.1 t291 t292).bind fun t330 => (if t330 = true then (laws_FnExactMirrorTournament.j2 kj59 bt317.1 (bt324.2.2 != t295) t302 bt317.2) else (laws_FnExactMirrorTournament.j2 kj59 bt317.1 true t302 bt317.2))))) else (some false))))) = some r := by rw [if_neg (show ¬ (false = true) by decide)] at H; exact H
                  clear H
                  have H := H1
                  clear H1
                  replace H := Option.bind_eq_some_iff.mp H
                  obtain ⟨⟨t317, t318⟩, A900, H⟩ := H
                  replace H : ((laws_heldTournament.f kj59 t302 t318 1).bind fun t319 => (if t319 < 0 then (some false) else (if t319 = t317 then ((laws_toTournament.f kj59 a0_0 l0_1).bind fun bt320 => ((impl_MirrorTournament.f kj59 bt320.1 bt320.2).bind fun bt324 => ((laws_eqTournament.f kj59 bt324.1 bt324.2.1 t291 t292).bind fun t330 => (if t330 = true then (laws_FnExactMirrorTournament.j2 kj59 t317 (bt324.2.2 != t295) t302 t318) else (laws_FnExactMirrorTournament.j2 kj59 t317 true t302 t318))))) else (some false)))) = some r := H
                  have A90 := Aside0.mk A900
                  clear A900
                  replace H := Option.bind_eq_some_iff.mp H
                  obtain ⟨t319, A910, H⟩ := H
                  replace H : (if t319 < 0 then (some false) else (if t319 = t317 then ((laws_toTournament.f kj59 a0_0 l0_1).bind fun bt320 => ((impl_MirrorTournament.f kj59 bt320.1 bt320.2).bind fun bt324 => ((laws_eqTournament.f kj59 bt324.1 bt324.2.1 t291 t292).bind fun t330 => (if t330 = true then (laws_FnExactMirrorTournament.j2 kj59 t317 (bt324.2.2 != t295) t302 t318) else (laws_FnExactMirrorTournament.j2 kj59 t317 true t302 t318))))) else (some false))) = some r := H
                  have A91 := Aside0.mk A910
                  clear A910
                  by_cases c92 : t319 < 0
                  · rw [if_pos c92] at H
                    have c92b0 : decide (t319 < 0) = true := decide_eq_true c92
                    clear c92
                    obtain rfl := Option.some.inj H
                    have hnb93 := NB307_285.out
                    have hnc93 := NB285_307.out
                    have hnb94 := NB307_296.out
                    have hnc94 := NB296_307.out
                    have hnb95 := NB307_301.out
                    have hnc95 := NB301_307.out
                    have hcz96_0 : wc.cell? ⟨gb307, 0, none⟩ = some (.int .i64 t302) := (blk_cell BK307.out 0).trans rfl
                    have hcz96_1 : wc.cell? ⟨gb307, 1, none⟩ = some (.slice Ao36 t303.length co36) := (blk_cell BK307.out 1).trans rfl
                    have hfz96_0 := blk_frozen BK307.out 0
                    have hfz96_1 := blk_frozen BK307.out 1
                    go_wp2_with (first | ((with_reducible refine gate_callee (f := 38) rfl ?_); refine goesL_ (some 64) rfl rfl Try.func38 (by kernel_rfl) rfl #[.agg #[.int .i64 t302, .slice Ao36 t303.length co36], .int .i64 1] rfl (by (try simp only [List.map_toArray, List.map_cons, List.map_nil]); first | done | rfl | (simp only [List.length_drop, List.length_take]; rfl)) ?_; (with_reducible refine (laws_markTournament.calls kj59 t302 (fun k_ => some k_ = (.slice Ao36 t303.length co36 : Value).ownBlock) (.slice Ao36 t303.length co36) t303 1 t317 t318 w _ ?side1 ?side2 A90.out).mono ?_); (case side1 => repeat (first | (with_reducible first | exact HB.out | apply below_alloc | apply pw_below_drewN | apply below_drew1 | refine below_set ?_ GE285.out | refine below_set ?_ GE296.out | refine below_set ?_ GE301.out | refine below_set ?_ GE307.out) | exact HB.out)); (case side2 => exact Kd.R_tight rfl HO_308001.out); rintro e w97 ⟨rfl, hy0, hb, hkp⟩; refine ⟨_, rfl, ?_⟩; have n0_ := Aside0.mk (Kd.R_mono (ok' := fun k_ => some k_ ≠ (.slice Ao29 t315.length co29 : Value).ownBlock ∧ some k_ ≠ (.slice Ao36 t303.length co36 : Value).ownBlock) (Kd.R_keptB (HO_297001.out) hkp (fun k_ hk_ hs_ => (hk_.2) hs_)) (fun k_ hk_ => ⟨hk_.1.1, hk_.1.2⟩)); have n1_ := Aside0.mk (Kd.R_mono (ok' := fun k_ => some k_ ≠ (.slice Ao22 t292.length co22 : Value).ownBlock ∧ some k_ ≠ (.slice Ao36 t303.length co36 : Value).ownBlock) (Kd.R_keptB (HO_302001.out) hkp (fun k_ hk_ hs_ => (hk_.2) hs_)) (fun k_ hk_ => ⟨hk_.1.1, hk_.1.2⟩)); have n2_ := Aside0.mk (Kd.R_reok rfl hy0 (fun k_ e_ => HO_308001.out.1 k_ e_)); have n3_ := Aside0.mk (blk_kept (by (with_reducible repeat (first | refine blk_drewN ?_ _ | refine blk_drew ?_ | refine blk_alloc ?_ _)); exact BK285.out) hkp (fun hs_ => (fun e_ => (Kd.R_ne HO_308001.out BK285.out (by decide)) e_) hs_)); have n4_ := Aside0.mk (blk_kept (by (with_reducible repeat (first | refine blk_drewN ?_ _ | refine blk_drew ?_ | refine blk_alloc ?_ _)); exact BK296.out) hkp (fun hs_ => (fun e_ => (Kd.R_ne HO_308001.out BK296.out (by decide)) e_) hs_)); have n5_ := Aside0.mk (blk_kept (by (with_reducible repeat (first | refine blk_drewN ?_ _ | refine blk_drew ?_ | refine blk_alloc ?_ _)); exact BK301.out) hkp (fun hs_ => (fun e_ => (Kd.R_ne HO_308001.out BK301.out (by decide)) e_) hs_)); have n6_ := Aside0.mk (blk_kept (by (with_reducible repeat (first | refine blk_drewN ?_ _ | refine blk_drew ?_ | refine blk_alloc ?_ _)); exact BK307.out) hkp (fun hs_ => (fun e_ => (Kd.R_ne HO_308001.out BK307.out (by decide)) e_) hs_)); have n7_ := Aside0.mk (hb); clear HO_297001; clear HO_302001; clear HO_308001; clear BK285; clear BK296; clear BK301; clear BK307; clear HB; have HO_297001 := n0_; have HO_302001 := n1_; have HO_308001 := n2_; have BK285 := n3_; have BK296 := n4_; have BK301 := n5_; have BK307 := n6_; have HB := n7_; clear n0_ n1_ n2_ n3_ n4_ n5_ n6_ n7_; (try clear hb); (try clear hkp); (try clear hy0); have hcz98_0 : w97.cell? ⟨gb307, 0, none⟩ = some (.int .i64 t302) := (blk_cell BK307.out 0).trans rfl; have hcz98_1 : w97.cell? ⟨gb307, 1, none⟩ = some (.slice Ao36 t303.length co36) := (blk_cell BK307.out 1).trans rfl; have hfz98_0 := blk_frozen BK307.out 0; have hfz98_1 := blk_frozen BK307.out 1) | ((with_reducible refine gate_callee (f := 39) rfl ?_); refine goesL_ (some 67) rfl rfl Try.func39 (by kernel_rfl) rfl #[.agg #[.int .i64 t302, .slice Ao36 t318.length co36], .int .i64 1] rfl (by (try simp only [List.map_toArray, List.map_cons, List.map_nil]); first | done | (rw [show t318.length = t303.length from (Kd.R_reads' HO_308001.out).1.symm] <;> rfl) | rfl | (simp only [List.length_drop, List.length_take]; rfl)) ?_; (with_reducible refine (laws_heldTournament.calls kj59 t302 _ _ t318 1 t319 _ ?side1 ?side2 A91.out).mono ?_); (case side1 => repeat (first | exact (Kd.R_reads' HO_308001.out).2.2 | (with_reducible refine Kd.C_alloc ?_ _) | (with_reducible refine Kd.C_drewN ?_ _) | (with_reducible refine Kd.C_drew ?_))); (case side2 => rw [show t318.length = t303.length from (Kd.R_reads' HO_308001.out).1.symm]; exact (Kd.R_reads' HO_308001.out).2.1); rintro e w99 ⟨rfl, hb⟩; refine ⟨_, rfl, ?_⟩; have n0_ := Aside0.mk (Kd.R_below (by (with_reducible repeat (first | apply Kd.R_alloc | apply Kd.R_drewN | apply Kd.R_drew)); exact HO_297001.out) hb); have n1_ := Aside0.mk (Kd.R_below (by (with_reducible repeat (first | apply Kd.R_alloc | apply Kd.R_drewN | apply Kd.R_drew)); exact HO_302001.out) hb); have n2_ := Aside0.mk (Kd.R_below (by (with_reducible repeat (first | apply Kd.R_alloc | apply Kd.R_drewN | apply Kd.R_drew)); exact HO_308001.out) hb); have n3_ := Aside0.mk (blk_below (g := gb285) (o := .cells #[.int .i64 a0_0, .slice A0_1 l0_1.length c0_1] 30 (0, 0)) (by (with_reducible repeat (first | refine blk_drewN ?_ _ | refine blk_drew ?_ | refine blk_alloc ?_ _)); exact BK285.out) hb); have n4_ := Aside0.mk (blk_below (g := gb296) (o := .cells #[.int .i64 t291, .slice Ao22 t292.length co22] 33 (0, 0)) (by (with_reducible repeat (first | refine blk_drewN ?_ _ | refine blk_drew ?_ | refine blk_alloc ?_ _)); exact BK296.out) hb); have n5_ := Aside0.mk (blk_below (g := gb301) (o := .cells #[.int .i64 t297, .slice Ao29 t315.length co29] 33 (0, 0)) (by (with_reducible repeat (first | refine blk_drewN ?_ _ | refine blk_drew ?_ | refine blk_alloc ?_ _)); exact BK301.out) hb); have n6_ := Aside0.mk (blk_below (g := gb307) (o := .cells #[.int .i64 t302, .slice Ao36 t303.length co36] 33 (0, 0)) (by (with_reducible repeat (first | refine blk_drewN ?_ _ | refine blk_drew ?_ | refine blk_alloc ?_ _)); exact BK307.out) hb); have n7_ := Aside0.mk (below_step (by repeat (first | (with_reducible first | exact HB.out | apply below_alloc | apply pw_below_drewN | apply below_drew1 | refine below_set ?_ GE285.out | refine below_set ?_ GE296.out | refine below_set ?_ GE301.out | refine below_set ?_ GE307.out) | exact HB.out)) hb); clear HO_297001; clear HO_302001; clear HO_308001; clear BK285; clear BK296; clear BK301; clear BK307; clear HB; have HO_297001 := n0_; have HO_302001 := n1_; have HO_308001 := n2_; have BK285 := n3_; have BK296 := n4_; have BK301 := n5_; have BK307 := n6_; have HB := n7_; clear n0_ n1_ n2_ n3_ n4_ n5_ n6_ n7_; (try clear hb); (try clear hb2); (try clear hk); (try clear hi)))
                    go_ret
                    exact ⟨by first | rfl | (simp [errW_none, errW_some] <;> rfl) | (simp [*, errW_none, errW_some] <;> rfl), by repeat (first | (with_reducible first | exact HB.out | apply below_alloc | apply pw_below_drewN | apply below_drew1 | refine below_set ?_ GE285.out | refine below_set ?_ GE296.out | refine below_set ?_ GE301.out | refine below_set ?_ GE307.out) | exact HB.out)⟩
                  · rw [if_neg c92] at H
                    have c92b0 : decide (t319 < 0) = false := decide_eq_false c92
                    clear c92
                    by_cases c100 : t319 = t317
                    · rw [if_pos c100] at H
                      have c100b0 : (t319 == t317) = true := beq_iff_eq.mpr c100
                      have c100b1 : (t319 != t317) = false := bne_eq_false_iff_eq.mpr c100
                      clear c100
                      replace H := Option.bind_eq_some_iff.mp H
                      obtain ⟨⟨t320, t321⟩, A1010, H⟩ := H
                      replace H : ((impl_MirrorTournament.f kj59 t320 t321).bind fun bt324 => ((laws_eqTournament.f kj59 bt324.1 bt324.2.1 t291 t292).bind fun t330 => (if t330 = true then (laws_FnExactMirrorTournament.j2 kj59 t317 (bt324.2.2 != t295) t302 t318) else (laws_FnExactMirrorTournament.j2 kj59 t317 true t302 t318)))) = some r := H
                      have A101 := Aside0.mk A1010
                      clear A1010
                      replace H := Option.bind_eq_some_iff.mp H
                      obtain ⟨⟨t324, t325, t328⟩, A1020, H⟩ := H
                      replace H : ((laws_eqTournament.f kj59 t324 t325 t291 t292).bind fun t330 => (if t330 = true then (laws_FnExactMirrorTournament.j2 kj59 t317 (t328 != t295) t302 t318) else (laws_FnExactMirrorTournament.j2 kj59 t317 true t302 t318))) = some r := H
                      have A102 := Aside0.mk A1020
                      clear A1020
                      have HC103 := Aside0.mk H
                      clear H
                      have hnb104 := NB307_285.out
                      have hnc104 := NB285_307.out
                      have hnb105 := NB307_296.out
                      have hnc105 := NB296_307.out
                      have hnb106 := NB307_301.out
                      have hnc106 := NB301_307.out
                      have hcz107_0 : wc.cell? ⟨gb307, 0, none⟩ = some (.int .i64 t302) := (blk_cell BK307.out 0).trans rfl
                      have hcz107_1 : wc.cell? ⟨gb307, 1, none⟩ = some (.slice Ao36 t303.length co36) := (blk_cell BK307.out 1).trans rfl
                      have hfz107_0 := blk_frozen BK307.out 0
                      have hfz107_1 := blk_frozen BK307.out 1
                      go_upto_region 25 with (first | ((with_reducible refine gate_callee (f := 38) rfl ?_); refine goesL_ (some 64) rfl rfl Try.func38 (by kernel_rfl) rfl #[.agg #[.int .i64 t302, .slice Ao36 t303.length co36], .int .i64 1] rfl (by (try simp only [List.map_toArray, List.map_cons, List.map_nil]); first | done | rfl | (simp only [List.length_drop, List.length_take]; rfl)) ?_; (with_reducible refine (laws_markTournament.calls kj59 t302 (fun k_ => some k_ = (.slice Ao36 t303.length co36 : Value).ownBlock) (.slice Ao36 t303.length co36) t303 1 t317 t318 w _ ?side1 ?side2 A90.out).mono ?_); (case side1 => repeat (first | (with_reducible first | exact HB.out | apply below_alloc | apply pw_below_drewN | apply below_drew1 | refine below_set ?_ GE285.out | refine below_set ?_ GE296.out | refine below_set ?_ GE301.out | refine below_set ?_ GE307.out) | exact HB.out)); (case side2 => exact Kd.R_tight rfl HO_308001.out); rintro e w108 ⟨rfl, hy0, hb, hkp⟩; refine ⟨_, rfl, ?_⟩; have n0_ := Aside0.mk (Kd.R_mono (ok' := fun k_ => some k_ ≠ (.slice Ao29 t315.length co29 : Value).ownBlock ∧ some k_ ≠ (.slice Ao36 t303.length co36 : Value).ownBlock) (Kd.R_keptB (HO_297001.out) hkp (fun k_ hk_ hs_ => (hk_.2) hs_)) (fun k_ hk_ => ⟨hk_.1.1, hk_.1.2⟩)); have n1_ := Aside0.mk (Kd.R_mono (ok' := fun k_ => some k_ ≠ (.slice Ao22 t292.length co22 : Value).ownBlock ∧ some k_ ≠ (.slice Ao36 t303.length co36 : Value).ownBlock) (Kd.R_keptB (HO_302001.out) hkp (fun k_ hk_ hs_ => (hk_.2) hs_)) (fun k_ hk_ => ⟨hk_.1.1, hk_.1.2⟩)); have n2_ := Aside0.mk (Kd.R_reok rfl hy0 (fun k_ e_ => HO_308001.out.1 k_ e_)); have n3_ := Aside0.mk (blk_kept (by (with_reducible repeat (first | refine blk_drewN ?_ _ | refine blk_drew ?_ | refine blk_alloc ?_ _)); exact BK285.out) hkp (fun hs_ => (fun e_ => (Kd.R_ne HO_308001.out BK285.out (by decide)) e_) hs_)); have n4_ := Aside0.mk (blk_kept (by (with_reducible repeat (first | refine blk_drewN ?_ _ | refine blk_drew ?_ | refine blk_alloc ?_ _)); exact BK296.out) hkp (fun hs_ => (fun e_ => (Kd.R_ne HO_308001.out BK296.out (by decide)) e_) hs_)); have n5_ := Aside0.mk (blk_kept (by (with_reducible repeat (first | refine blk_drewN ?_ _ | refine blk_drew ?_ | refine blk_alloc ?_ _)); exact BK301.out) hkp (fun hs_ => (fun e_ => (Kd.R_ne HO_308001.out BK301.out (by decide)) e_) hs_)); have n6_ := Aside0.mk (blk_kept (by (with_reducible repeat (first | refine blk_drewN ?_ _ | refine blk_drew ?_ | refine blk_alloc ?_ _)); exact BK307.out) hkp (fun hs_ => (fun e_ => (Kd.R_ne HO_308001.out BK307.out (by decide)) e_) hs_)); have n7_ := Aside0.mk (hb); clear HO_297001; clear HO_302001; clear HO_308001; clear BK285; clear BK296; clear BK301; clear BK307; clear HB; have HO_297001 := n0_; have HO_302001 := n1_; have HO_308001 := n2_; have BK285 := n3_; have BK296 := n4_; have BK301 := n5_; have BK307 := n6_; have HB := n7_; clear n0_ n1_ n2_ n3_ n4_ n5_ n6_ n7_; (try clear hb); (try clear hkp); (try clear hy0); have hcz109_0 : w108.cell? ⟨gb307, 0, none⟩ = some (.int .i64 t302) := (blk_cell BK307.out 0).trans rfl; have hcz109_1 : w108.cell? ⟨gb307, 1, none⟩ = some (.slice Ao36 t303.length co36) := (blk_cell BK307.out 1).trans rfl; have hfz109_0 := blk_frozen BK307.out 0; have hfz109_1 := blk_frozen BK307.out 1) | ((with_reducible refine gate_callee (f := 39) rfl ?_); refine goesL_ (some 67) rfl rfl Try.func39 (by kernel_rfl) rfl #[.agg #[.int .i64 t302, .slice Ao36 t318.length co36], .int .i64 1] rfl (by (try simp only [List.map_toArray, List.map_cons, List.map_nil]); first | done | (rw [show t318.length = t303.length from (Kd.R_reads' HO_308001.out).1.symm] <;> rfl) | rfl | (simp only [List.length_drop, List.length_take]; rfl)) ?_; (with_reducible refine (laws_heldTournament.calls kj59 t302 _ _ t318 1 t319 _ ?side1 ?side2 A91.out).mono ?_); (case side1 => repeat (first | exact (Kd.R_reads' HO_308001.out).2.2 | (with_reducible refine Kd.C_alloc ?_ _) | (with_reducible refine Kd.C_drewN ?_ _) | (with_reducible refine Kd.C_drew ?_))); (case side2 => rw [show t318.length = t303.length from (Kd.R_reads' HO_308001.out).1.symm]; exact (Kd.R_reads' HO_308001.out).2.1); rintro e w110 ⟨rfl, hb⟩; refine ⟨_, rfl, ?_⟩; have n0_ := Aside0.mk (Kd.R_below (by (with_reducible repeat (first | apply Kd.R_alloc | apply Kd.R_drewN | apply Kd.R_drew)); exact HO_297001.out) hb); have n1_ := Aside0.mk (Kd.R_below (by (with_reducible repeat (first | apply Kd.R_alloc | apply Kd.R_drewN | apply Kd.R_drew)); exact HO_302001.out) hb); have n2_ := Aside0.mk (Kd.R_below (by (with_reducible repeat (first | apply Kd.R_alloc | apply Kd.R_drewN | apply Kd.R_drew)); exact HO_308001.out) hb); have n3_ := Aside0.mk (blk_below (g := gb285) (o := .cells #[.int .i64 a0_0, .slice A0_1 l0_1.length c0_1] 30 (0, 0)) (by (with_reducible repeat (first | refine blk_drewN ?_ _ | refine blk_drew ?_ | refine blk_alloc ?_ _)); exact BK285.out) hb); have n4_ := Aside0.mk (blk_below (g := gb296) (o := .cells #[.int .i64 t291, .slice Ao22 t292.length co22] 33 (0, 0)) (by (with_reducible repeat (first | refine blk_drewN ?_ _ | refine blk_drew ?_ | refine blk_alloc ?_ _)); exact BK296.out) hb); have n5_ := Aside0.mk (blk_below (g := gb301) (o := .cells #[.int .i64 t297, .slice Ao29 t315.length co29] 33 (0, 0)) (by (with_reducible repeat (first | refine blk_drewN ?_ _ | refine blk_drew ?_ | refine blk_alloc ?_ _)); exact BK301.out) hb); have n6_ := Aside0.mk (blk_below (g := gb307) (o := .cells #[.int .i64 t302, .slice Ao36 t303.length co36] 33 (0, 0)) (by (with_reducible repeat (first | refine blk_drewN ?_ _ | refine blk_drew ?_ | refine blk_alloc ?_ _)); exact BK307.out) hb); have n7_ := Aside0.mk (below_step (by repeat (first | (with_reducible first | exact HB.out | apply below_alloc | apply pw_below_drewN | apply below_drew1 | refine below_set ?_ GE285.out | refine below_set ?_ GE296.out | refine below_set ?_ GE301.out | refine below_set ?_ GE307.out) | exact HB.out)) hb); clear HO_297001; clear HO_302001; clear HO_308001; clear BK285; clear BK296; clear BK301; clear BK307; clear HB; have HO_297001 := n0_; have HO_302001 := n1_; have HO_308001 := n2_; have BK285 := n3_; have BK296 := n4_; have BK301 := n5_; have BK307 := n6_; have HB := n7_; clear n0_ n1_ n2_ n3_ n4_ n5_ n6_ n7_; (try clear hb); (try clear hb2); (try clear hk); (try clear hi); have hnb111 := NB285_296.out; have hnc111 := NB296_285.out; have hnb112 := NB285_301.out; have hnc112 := NB301_285.out; have hcz113_0 : w110.cell? ⟨gb285, 0, none⟩ = some (.int .i64 a0_0) := (blk_cell BK285.out 0).trans rfl; have hcz113_1 : w110.cell? ⟨gb285, 1, none⟩ = some (.slice A0_1 l0_1.length c0_1) := (blk_cell BK285.out 1).trans rfl; have hfz113_0 := blk_frozen BK285.out 0; have hfz113_1 := blk_frozen BK285.out 1) | ((with_reducible refine gate_callee (f := 33) rfl ?_); refine goesL_ (some 75) rfl rfl Try.func33 (by kernel_rfl) rfl #[.agg #[.int .i64 a0_0, .slice A0_1 l0_1.length c0_1]] rfl (by (try simp only [List.map_toArray, List.map_cons, List.map_nil]); first | done | rfl | (simp only [List.length_drop, List.length_take]; rfl)) ?_; (with_reducible refine (laws_toTournament.calls kj59 a0_0 _ _ l0_1 t320 t321 _ ?side1 ?side2 A101.out).mono ?_); (case side1 => repeat (first | exact (Kd.C_below HR0_1.out HB.out) | (with_reducible refine Kd.C_alloc ?_ _) | (with_reducible refine Kd.C_drewN ?_ _) | (with_reducible refine Kd.C_drew ?_))); (case side2 => exact HC0_1.out); rintro e w114 ⟨v322, rfl, ho0, hb⟩; refine ⟨_, rfl, ?_⟩; have n0_ := Aside0.mk (Kd.R_elder' (by (with_reducible repeat (first | apply Kd.R_alloc | apply Kd.R_drewN | apply Kd.R_drew)); exact HO_297001.out) (Kd.R_base ho0) hb); have n1_ := Aside0.mk (Kd.R_elder' (by (with_reducible repeat (first | apply Kd.R_alloc | apply Kd.R_drewN | apply Kd.R_drew)); exact HO_302001.out) (Kd.R_base ho0) hb); have n2_ := Aside0.mk (Kd.R_elder' (by (with_reducible repeat (first | apply Kd.R_alloc | apply Kd.R_drewN | apply Kd.R_drew)); exact HO_308001.out) (Kd.R_base ho0) hb); have n3_ := Aside0.mk (Kd.R_lower (Kd.R_new' (Kd.R_new' (Kd.R_new' ho0 (Kd.R_lt (by (with_reducible repeat (first | apply Kd.R_alloc | apply Kd.R_drewN | apply Kd.R_drew)); exact HO_297001.out))) (Kd.R_lt (by (with_reducible repeat (first | apply Kd.R_alloc | apply Kd.R_drewN | apply Kd.R_drew)); exact HO_302001.out))) (Kd.R_lt (by (with_reducible repeat (first | apply Kd.R_alloc | apply Kd.R_drewN | apply Kd.R_drew)); exact HO_308001.out))) (below_size (by repeat (first | (with_reducible first | exact HB.out | apply below_alloc | apply pw_below_drewN | apply below_drew1 | refine below_set ?_ GE285.out | refine below_set ?_ GE296.out | refine below_set ?_ GE301.out | refine below_set ?_ GE307.out) | exact HB.out)))); have n4_ := Aside0.mk (blk_below (g := gb285) (o := .cells #[.int .i64 a0_0, .slice A0_1 l0_1.length c0_1] 30 (0, 0)) (by (with_reducible repeat (first | refine blk_drewN ?_ _ | refine blk_drew ?_ | refine blk_alloc ?_ _)); exact BK285.out) hb); have n5_ := Aside0.mk (blk_below (g := gb296) (o := .cells #[.int .i64 t291, .slice Ao22 t292.length co22] 33 (0, 0)) (by (with_reducible repeat (first | refine blk_drewN ?_ _ | refine blk_drew ?_ | refine blk_alloc ?_ _)); exact BK296.out) hb); have n6_ := Aside0.mk (blk_below (g := gb301) (o := .cells #[.int .i64 t297, .slice Ao29 t315.length co29] 33 (0, 0)) (by (with_reducible repeat (first | refine blk_drewN ?_ _ | refine blk_drew ?_ | refine blk_alloc ?_ _)); exact BK301.out) hb); have n7_ := Aside0.mk (blk_below (g := gb307) (o := .cells #[.int .i64 t302, .slice Ao36 t303.length co36] 33 (0, 0)) (by (with_reducible repeat (first | refine blk_drewN ?_ _ | refine blk_drew ?_ | refine blk_alloc ?_ _)); exact BK307.out) hb); have n8_ := Aside0.mk (below_step (by repeat (first | (with_reducible first | exact HB.out | apply below_alloc | apply pw_below_drewN | apply below_drew1 | refine below_set ?_ GE285.out | refine below_set ?_ GE296.out | refine below_set ?_ GE301.out | refine below_set ?_ GE307.out) | exact HB.out)) hb); clear HO_297001; clear HO_302001; clear HO_308001; clear BK285; clear BK296; clear BK301; clear BK307; clear HB; have HO_297001 := n0_; have HO_302001 := n1_; have HO_308001 := n2_; have HO323 := n3_; have BK285 := n4_; have BK296 := n5_; have BK301 := n6_; have BK307 := n7_; have HB := n8_; clear n0_ n1_ n2_ n3_ n4_ n5_ n6_ n7_ n8_; (try clear hb); (try clear hb2); (try clear hk); (try clear hi); (try clear ho0); obtain ⟨Ao115, co115, eo115⟩ := Kd.R_slice HO323.out; subst eo115) | ((with_reducible refine gate_callee (f := 37) rfl ?_); refine goesL_ (some 76) rfl rfl Try.func37 (by kernel_rfl) rfl #[.agg #[.int .i64 t320, .slice Ao115 t321.length co115]] rfl (by (try simp only [List.map_toArray, List.map_cons, List.map_nil]); first | done | rfl | (simp only [List.length_drop, List.length_take]; rfl)) ?_; (with_reducible refine (impl_MirrorTournament.calls kj59 t320 _ _ t321 t324 t325 t328 _ ?side1 ?side2 A102.out).mono ?_); (case side1 => repeat (first | exact (Kd.R_reads' HO323.out).2.2 | (with_reducible refine Kd.C_alloc ?_ _) | (with_reducible refine Kd.C_drewN ?_ _) | (with_reducible refine Kd.C_drew ?_))); (case side2 => exact (Kd.R_reads' HO323.out).2.1); rintro e w116 ⟨v326, rfl, ho0, hb⟩; refine ⟨_, rfl, ?_⟩; have n0_ := Aside0.mk (Kd.R_elder' (by (with_reducible repeat (first | apply Kd.R_alloc | apply Kd.R_drewN | apply Kd.R_drew)); exact HO_297001.out) (Kd.R_base ho0) hb); have n1_ := Aside0.mk (Kd.R_elder' (by (with_reducible repeat (first | apply Kd.R_alloc | apply Kd.R_drewN | apply Kd.R_drew)); exact HO_302001.out) (Kd.R_base ho0) hb); have n2_ := Aside0.mk (Kd.R_elder' (by (with_reducible repeat (first | apply Kd.R_alloc | apply Kd.R_drewN | apply Kd.R_drew)); exact HO_308001.out) (Kd.R_base ho0) hb); have n3_ := Aside0.mk (Kd.R_elder' (by (with_reducible repeat (first | apply Kd.R_alloc | apply Kd.R_drewN | apply Kd.R_drew)); exact HO323.out) (Kd.R_base ho0) hb); have n4_ := Aside0.mk (Kd.R_lower (Kd.R_new' (Kd.R_new' (Kd.R_new' (Kd.R_new' ho0 (Kd.R_lt (by (with_reducible repeat (first | apply Kd.R_alloc | apply Kd.R_drewN | apply Kd.R_drew)); exact HO_297001.out))) (Kd.R_lt (by (with_reducible repeat (first | apply Kd.R_alloc | apply Kd.R_drewN | apply Kd.R_drew)); exact HO_302001.out))) (Kd.R_lt (by (with_reducible repeat (first | apply Kd.R_alloc | apply Kd.R_drewN | apply Kd.R_drew)); exact HO_308001.out))) (Kd.R_lt (by (with_reducible repeat (first | apply Kd.R_alloc | apply Kd.R_drewN | apply Kd.R_drew)); exact HO323.out))) (below_size (by repeat (first | (with_reducible first | exact HB.out | apply below_alloc | apply pw_below_drewN | apply below_drew1 | refine below_set ?_ GE285.out | refine below_set ?_ GE296.out | refine below_set ?_ GE301.out | refine below_set ?_ GE307.out) | exact HB.out)))); have n5_ := Aside0.mk (blk_below (g := gb285) (o := .cells #[.int .i64 a0_0, .slice A0_1 l0_1.length c0_1] 30 (0, 0)) (by (with_reducible repeat (first | refine blk_drewN ?_ _ | refine blk_drew ?_ | refine blk_alloc ?_ _)); exact BK285.out) hb); have n6_ := Aside0.mk (blk_below (g := gb296) (o := .cells #[.int .i64 t291, .slice Ao22 t292.length co22] 33 (0, 0)) (by (with_reducible repeat (first | refine blk_drewN ?_ _ | refine blk_drew ?_ | refine blk_alloc ?_ _)); exact BK296.out) hb); have n7_ := Aside0.mk (blk_below (g := gb301) (o := .cells #[.int .i64 t297, .slice Ao29 t315.length co29] 33 (0, 0)) (by (with_reducible repeat (first | refine blk_drewN ?_ _ | refine blk_drew ?_ | refine blk_alloc ?_ _)); exact BK301.out) hb); have n8_ := Aside0.mk (blk_below (g := gb307) (o := .cells #[.int .i64 t302, .slice Ao36 t303.length co36] 33 (0, 0)) (by (with_reducible repeat (first | refine blk_drewN ?_ _ | refine blk_drew ?_ | refine blk_alloc ?_ _)); exact BK307.out) hb); have n9_ := Aside0.mk (below_step (by repeat (first | (with_reducible first | exact HB.out | apply below_alloc | apply pw_below_drewN | apply below_drew1 | refine below_set ?_ GE285.out | refine below_set ?_ GE296.out | refine below_set ?_ GE301.out | refine below_set ?_ GE307.out) | exact HB.out)) hb); clear HO_297001; clear HO_302001; clear HO_308001; clear HO323; clear BK285; clear BK296; clear BK301; clear BK307; clear HB; have HO_297001 := n0_; have HO_302001 := n1_; have HO_308001 := n2_; have HO323 := n3_; have HO327 := n4_; have BK285 := n5_; have BK296 := n6_; have BK301 := n7_; have BK307 := n8_; have HB := n9_; clear n0_ n1_ n2_ n3_ n4_ n5_ n6_ n7_ n8_ n9_; (try clear hb); (try clear hb2); (try clear hk); (try clear hi); (try clear ho0)) | ((with_reducible refine gate_dst (N := 12) rfl ?_); refine box_event ?hg (N := 12) ?hd (cs := #[.int .i64 0, .slice none 0 0]) (t := 33) ?hr ?_; (case hd => rfl); (case hg => rfl); (case hr => first | (go_simp; done) | (go_simp; rfl)); intro gb329 hg w117 hbox hb; have n0_ := Aside0.mk (Kd.R_below (by (with_reducible repeat (first | apply Kd.R_alloc | apply Kd.R_drewN | apply Kd.R_drew)); exact HO_297001.out) hb); have n1_ := Aside0.mk (Kd.R_below (by (with_reducible repeat (first | apply Kd.R_alloc | apply Kd.R_drewN | apply Kd.R_drew)); exact HO_302001.out) hb); have n2_ := Aside0.mk (Kd.R_below (by (with_reducible repeat (first | apply Kd.R_alloc | apply Kd.R_drewN | apply Kd.R_drew)); exact HO_308001.out) hb); have n3_ := Aside0.mk (Kd.R_below (by (with_reducible repeat (first | apply Kd.R_alloc | apply Kd.R_drewN | apply Kd.R_drew)); exact HO323.out) hb); have n4_ := Aside0.mk (Kd.R_below (by (with_reducible repeat (first | apply Kd.R_alloc | apply Kd.R_drewN | apply Kd.R_drew)); exact HO327.out) hb); have n5_ := Aside0.mk (blk_below (g := gb285) (o := .cells #[.int .i64 a0_0, .slice A0_1 l0_1.length c0_1] 30 (0, 0)) (by (with_reducible repeat (first | refine blk_drewN ?_ _ | refine blk_drew ?_ | refine blk_alloc ?_ _)); exact BK285.out) hb); have n6_ := Aside0.mk (blk_below (g := gb296) (o := .cells #[.int .i64 t291, .slice Ao22 t292.length co22] 33 (0, 0)) (by (with_reducible repeat (first | refine blk_drewN ?_ _ | refine blk_drew ?_ | refine blk_alloc ?_ _)); exact BK296.out) hb); have n7_ := Aside0.mk (blk_below (g := gb301) (o := .cells #[.int .i64 t297, .slice Ao29 t315.length co29] 33 (0, 0)) (by (with_reducible repeat (first | refine blk_drewN ?_ _ | refine blk_drew ?_ | refine blk_alloc ?_ _)); exact BK301.out) hb); have n8_ := Aside0.mk (blk_below (g := gb307) (o := .cells #[.int .i64 t302, .slice Ao36 t303.length co36] 33 (0, 0)) (by (with_reducible repeat (first | refine blk_drewN ?_ _ | refine blk_drew ?_ | refine blk_alloc ?_ _)); exact BK307.out) hb); have n9_ := Aside0.mk (below_step (by repeat (first | (with_reducible first | exact HB.out | apply below_alloc | apply pw_below_drewN | apply below_drew1 | refine below_set ?_ GE285.out | refine below_set ?_ GE296.out | refine below_set ?_ GE301.out | refine below_set ?_ GE307.out) | exact HB.out)) hb); have n10_ := Aside0.mk (hbox); have n11_ := Aside0.mk ((by rw [hg]; exact (below_size (by repeat (first | (with_reducible first | exact HB.out | apply below_alloc | apply pw_below_drewN | apply below_drew1 | refine below_set ?_ GE285.out | refine below_set ?_ GE296.out | refine below_set ?_ GE301.out | refine below_set ?_ GE307.out) | exact HB.out))) : w.heap.size ≤ gb329)); have n12_ := Aside0.mk ((by rw [hg]; exact (below_size (by repeat (first | (with_reducible first | exact HB.out | apply below_alloc | apply pw_below_drewN | apply below_drew1 | refine below_set ?_ GE285.out | refine below_set ?_ GE296.out | refine below_set ?_ GE301.out | refine below_set ?_ GE307.out) | exact HB.out))) : w.heap.size ≤ gb329)); have n13_ := Aside0.mk ((by rw [hg]; exact Nat.ne_of_lt (blk_lt (g := gb285) (o := .cells #[.int .i64 a0_0, .slice A0_1 l0_1.length c0_1] 30 (0, 0)) (by (with_reducible repeat (first | refine blk_drewN ?_ _ | refine blk_drew ?_ | refine blk_alloc ?_ _)); exact BK285.out)) : gb285 ≠ gb329)); have n14_ := Aside0.mk ((by rw [hg]; exact Nat.ne_of_gt (blk_lt (g := gb285) (o := .cells #[.int .i64 a0_0, .slice A0_1 l0_1.length c0_1] 30 (0, 0)) (by (with_reducible repeat (first | refine blk_drewN ?_ _ | refine blk_drew ?_ | refine blk_alloc ?_ _)); exact BK285.out)) : gb329 ≠ gb285)); have n15_ := Aside0.mk ((by rw [hg]; exact Nat.ne_of_lt (blk_lt (g := gb296) (o := .cells #[.int .i64 t291, .slice Ao22 t292.length co22] 33 (0, 0)) (by (with_reducible repeat (first | refine blk_drewN ?_ _ | refine blk_drew ?_ | refine blk_alloc ?_ _)); exact BK296.out)) : gb296 ≠ gb329)); have n16_ := Aside0.mk ((by rw [hg]; exact Nat.ne_of_gt (blk_lt (g := gb296) (o := .cells #[.int .i64 t291, .slice Ao22 t292.length co22] 33 (0, 0)) (by (with_reducible repeat (first | refine blk_drewN ?_ _ | refine blk_drew ?_ | refine blk_alloc ?_ _)); exact BK296.out)) : gb329 ≠ gb296)); have n17_ := Aside0.mk ((by rw [hg]; exact Nat.ne_of_lt (blk_lt (g := gb301) (o := .cells #[.int .i64 t297, .slice Ao29 t315.length co29] 33 (0, 0)) (by (with_reducible repeat (first | refine blk_drewN ?_ _ | refine blk_drew ?_ | refine blk_alloc ?_ _)); exact BK301.out)) : gb301 ≠ gb329)); have n18_ := Aside0.mk ((by rw [hg]; exact Nat.ne_of_gt (blk_lt (g := gb301) (o := .cells #[.int .i64 t297, .slice Ao29 t315.length co29] 33 (0, 0)) (by (with_reducible repeat (first | refine blk_drewN ?_ _ | refine blk_drew ?_ | refine blk_alloc ?_ _)); exact BK301.out)) : gb329 ≠ gb301)); have n19_ := Aside0.mk ((by rw [hg]; exact Nat.ne_of_lt (blk_lt (g := gb307) (o := .cells #[.int .i64 t302, .slice Ao36 t303.length co36] 33 (0, 0)) (by (with_reducible repeat (first | refine blk_drewN ?_ _ | refine blk_drew ?_ | refine blk_alloc ?_ _)); exact BK307.out)) : gb307 ≠ gb329)); have n20_ := Aside0.mk ((by rw [hg]; exact Nat.ne_of_gt (blk_lt (g := gb307) (o := .cells #[.int .i64 t302, .slice Ao36 t303.length co36] 33 (0, 0)) (by (with_reducible repeat (first | refine blk_drewN ?_ _ | refine blk_drew ?_ | refine blk_alloc ?_ _)); exact BK307.out)) : gb329 ≠ gb307)); clear HO_297001; clear HO_302001; clear HO_308001; clear HO323; clear HO327; clear BK285; clear BK296; clear BK301; clear BK307; clear HB; have HO_297001 := n0_; have HO_302001 := n1_; have HO_308001 := n2_; have HO323 := n3_; have HO327 := n4_; have BK285 := n5_; have BK296 := n6_; have BK301 := n7_; have BK307 := n8_; have HB := n9_; have BK329 := n10_; have GW329 := n11_; have GE329 := n12_; have NB285_329 := n13_; have NB329_285 := n14_; have NB296_329 := n15_; have NB329_296 := n16_; have NB301_329 := n17_; have NB329_301 := n18_; have NB307_329 := n19_; have NB329_307 := n20_; clear n0_ n1_ n2_ n3_ n4_ n5_ n6_ n7_ n8_ n9_ n10_ n11_ n12_ n13_ n14_ n15_ n16_ n17_ n18_ n19_ n20_; clear hb hbox hg; have hnb118 := NB329_285.out; have hnc118 := NB285_329.out; have hnb119 := NB329_296.out; have hnc119 := NB296_329.out; have hnb120 := NB329_301.out; have hnc120 := NB301_329.out; have hnb121 := NB329_307.out; have hnc121 := NB307_329.out; have hcz122_0 : w117.cell? ⟨gb329, 0, none⟩ = some (.int .i64 0) := (blk_cell BK329.out 0).trans rfl; have hcz122_1 : w117.cell? ⟨gb329, 1, none⟩ = some (.slice none 0 0) := (blk_cell BK329.out 1).trans rfl; have hfz122_0 := blk_frozen BK329.out 0; have hfz122_1 := blk_frozen BK329.out 1; obtain ⟨Ao123, co123, eo123⟩ := Kd.R_slice HO327.out; subst eo123))
                      (try simp only [Act.put, List.setIfInBounds_toArray, List.set_cons_zero, List.set_cons_succ])
                      go_cut [87] (fun v87 wc => ∃ (kq : Nat) (x87_102 : Bool), v87 = .bool x87_102 ∧ Aside0 (laws_FnExactMirrorTournament.j2 kq t317 x87_102 t302 t318 = some r) ∧ Aside0 (kq ≤ kj59) ∧ Aside0 (Kd.R (Kd.int .i64) 3 wc w.heap.size (fun k_ => some k_ ≠ ((.slice Ao29 t315.length co29) : Value).ownBlock ∧ some k_ ≠ ((.slice Ao36 t303.length co36) : Value).ownBlock ∧ some k_ ≠ ((.slice Ao123 t325.length co123) : Value).ownBlock) (.slice Ao22 t292.length co22) t292) ∧ Aside0 (Kd.R (Kd.int .i64) 3 wc w.heap.size (fun k_ => some k_ ≠ ((.slice Ao22 t292.length co22) : Value).ownBlock ∧ some k_ ≠ ((.slice Ao36 t303.length co36) : Value).ownBlock ∧ some k_ ≠ ((.slice Ao123 t325.length co123) : Value).ownBlock) (.slice Ao29 t315.length co29) t315) ∧ Aside0 (Kd.R (Kd.int .i64) 3 wc w.heap.size (fun k_ => some k_ ≠ ((.slice Ao22 t292.length co22) : Value).ownBlock ∧ some k_ ≠ ((.slice Ao29 t315.length co29) : Value).ownBlock ∧ some k_ ≠ ((.slice Ao123 t325.length co123) : Value).ownBlock) (.slice Ao36 t303.length co36) t318) ∧ Aside0 (Kd.R (Kd.int .i64) 3 wc w.heap.size (fun k_ => some k_ ≠ ((.slice Ao22 t292.length co22) : Value).ownBlock ∧ some k_ ≠ ((.slice Ao29 t315.length co29) : Value).ownBlock ∧ some k_ ≠ ((.slice Ao36 t303.length co36) : Value).ownBlock) (.slice Ao123 t325.length co123) t325) ∧ Aside0 (wc.heap[gb285]? = some (.cells #[.int .i64 a0_0, (.slice A0_1 l0_1.length c0_1)] 30 (0, 0))) ∧ Aside0 (wc.heap[gb296]? = some (.cells #[.int .i64 t291, (.slice Ao22 t292.length co22)] 33 (0, 0))) ∧ Aside0 (wc.heap[gb301]? = some (.cells #[.int .i64 t297, (.slice Ao29 t315.length co29)] 33 (0, 0))) ∧ Aside0 (wc.heap[gb307]? = some (.cells #[.int .i64 t302, (.slice Ao36 t303.length co36)] 33 (0, 0))) ∧ Aside0 (wc.heap[gb329]? = some (.cells #[.int .i64 t324, (.slice Ao123 t325.length co123)] 33 (0, 0))) ∧ Aside0 (Below w.heap.size w wc))
                      case first =>
                        have H := HC103.out
                        clear HC103
                        replace H := Option.bind_eq_some_iff.mp H
                        obtain ⟨t330, A1240, H⟩ := H
                        replace H : (if t330 = true then (laws_FnExactMirrorTournament.j2 kj59 t317 (t328 != t295) t302 t318) else (laws_FnExactMirrorTournament.j2 kj59 t317 true t302 t318)) = some r := H
                        have A124 := Aside0.mk A1240
                        clear A1240
                        by_cases c125 : t330 = true
                        · subst c125
                          have H1 : (laws_FnExactMirrorTournament.j2 kj59 t317 (t328 != t295) t302 t318) = some r := by rw [if_pos rfl] at H; exact H
                          clear H
                          have H := H1
                          clear H1
                          have H' := Aside0.mk H
                          clear H
                          have hnb126 := NB329_285.out
                          have hnc126 := NB285_329.out
                          have hnb127 := NB329_296.out
                          have hnc127 := NB296_329.out
                          have hnb128 := NB329_301.out
                          have hnc128 := NB301_329.out
                          have hnb129 := NB329_307.out
                          have hnc129 := NB307_329.out
                          have hcz130_0 : w117.cell? ⟨gb329, 0, none⟩ = some (.int .i64 0) := (blk_cell BK329.out 0).trans rfl
                          have hcz130_1 : w117.cell? ⟨gb329, 1, none⟩ = some (.slice none 0 0) := (blk_cell BK329.out 1).trans rfl
                          have hfz130_0 := blk_frozen BK329.out 0
                          have hfz130_1 := blk_frozen BK329.out 1
                          have hnb131 := NB296_285.out
                          have hnc131 := NB285_296.out
                          have hnb132 := NB296_301.out
                          have hnc132 := NB301_296.out
                          have hnb133 := NB296_307.out
                          have hnc133 := NB307_296.out
                          have hcz134_0 : w117.cell? ⟨gb296, 0, none⟩ = some (.int .i64 t291) := (blk_cell BK296.out 0).trans rfl
                          have hcz134_1 : w117.cell? ⟨gb296, 1, none⟩ = some (.slice Ao22 t292.length co22) := (blk_cell BK296.out 1).trans rfl
                          have hfz134_0 := blk_frozen BK296.out 0
                          have hfz134_1 := blk_frozen BK296.out 1
                          go_wp2_with (first | ((with_reducible refine gate_callee (f := 35) rfl ?_); refine goesL_ (some 81) rfl rfl Try.func35 (by kernel_rfl) rfl #[.agg #[.int .i64 t324, .slice Ao123 t325.length co123], .agg #[.int .i64 t291, .slice Ao22 t292.length co22]] rfl (by (try simp only [List.map_toArray, List.map_cons, List.map_nil]); first | done | rfl | (simp only [List.length_drop, List.length_take]; rfl)) ?_; (with_reducible refine (laws_eqTournament.calls kj59 t324 _ _ t325 t291 _ _ t292 true _ ?side1 ?side2 ?side3 ?side4 A124.out).mono ?_); (case side1 => refine (Kd.R_reads' (e := 3) (base := w.heap.size) (ok := fun k_ => ((((True ∧ some k_ ≠ (.slice Ao22 t292.length co22 : Value).ownBlock) ∧ some k_ ≠ (.slice Ao29 t315.length co29 : Value).ownBlock) ∧ some k_ ≠ (.slice Ao36 t303.length co36 : Value).ownBlock) ∧ some k_ ≠ (.slice Ao115 t321.length co115 : Value).ownBlock)) (n := t325.length) (c := co123) ?_).2.2; exact (by (with_reducible repeat (first | apply Kd.R_alloc | apply Kd.R_drewN | apply Kd.R_drew)); exact (Kd.R_mono (Kd.R_far (p := ⟨gb329, 1, none⟩) (Kd.R_far (p := ⟨gb329, 0, none⟩) (Kd.R_types HO327.out BK329.out (by decide)) (fun _ hk => hk.2) (.int .i64 t324)) (fun _ hk => hk.2) (.slice Ao123 t325.length co123)) (fun _ h_ => h_.1)))); (case side2 => exact (Kd.R_reads' HO327.out).2.1); (case side3 => refine (Kd.R_reads' (e := 3) (base := w.heap.size) (ok := fun k_ => (((some k_ ≠ (.slice Ao29 t315.length co29 : Value).ownBlock ∧ some k_ ≠ (.slice Ao36 t303.length co36 : Value).ownBlock) ∧ some k_ ≠ (.slice Ao115 t321.length co115 : Value).ownBlock) ∧ some k_ ≠ (.slice Ao123 t325.length co123 : Value).ownBlock)) (n := t292.length) (c := co22) ?_).2.2; exact (by (with_reducible repeat (first | apply Kd.R_alloc | apply Kd.R_drewN | apply Kd.R_drew)); exact (Kd.R_mono (Kd.R_far (p := ⟨gb329, 1, none⟩) (Kd.R_far (p := ⟨gb329, 0, none⟩) (Kd.R_types HO_297001.out BK329.out (by decide)) (fun _ hk => hk.2) (.int .i64 t324)) (fun _ hk => hk.2) (.slice Ao123 t325.length co123)) (fun _ h_ => h_.1)))); (case side4 => exact (Kd.R_reads' HO_297001.out).2.1); rintro e w135 ⟨rfl, hb⟩; refine ⟨_, rfl, ?_⟩; have n0_ := Aside0.mk (Kd.R_below (by (with_reducible repeat (first | apply Kd.R_alloc | apply Kd.R_drewN | apply Kd.R_drew)); exact (Kd.R_mono (Kd.R_far (p := ⟨gb329, 1, none⟩) (Kd.R_far (p := ⟨gb329, 0, none⟩) (Kd.R_types HO_297001.out BK329.out (by decide)) (fun _ hk => hk.2) (.int .i64 t324)) (fun _ hk => hk.2) (.slice Ao123 t325.length co123)) (fun _ h_ => h_.1))) hb); have n1_ := Aside0.mk (Kd.R_below (by (with_reducible repeat (first | apply Kd.R_alloc | apply Kd.R_drewN | apply Kd.R_drew)); exact (Kd.R_mono (Kd.R_far (p := ⟨gb329, 1, none⟩) (Kd.R_far (p := ⟨gb329, 0, none⟩) (Kd.R_types HO_302001.out BK329.out (by decide)) (fun _ hk => hk.2) (.int .i64 t324)) (fun _ hk => hk.2) (.slice Ao123 t325.length co123)) (fun _ h_ => h_.1))) hb); have n2_ := Aside0.mk (Kd.R_below (by (with_reducible repeat (first | apply Kd.R_alloc | apply Kd.R_drewN | apply Kd.R_drew)); exact (Kd.R_mono (Kd.R_far (p := ⟨gb329, 1, none⟩) (Kd.R_far (p := ⟨gb329, 0, none⟩) (Kd.R_types HO_308001.out BK329.out (by decide)) (fun _ hk => hk.2) (.int .i64 t324)) (fun _ hk => hk.2) (.slice Ao123 t325.length co123)) (fun _ h_ => h_.1))) hb); have n3_ := Aside0.mk (Kd.R_below (by (with_reducible repeat (first | apply Kd.R_alloc | apply Kd.R_drewN | apply Kd.R_drew)); exact (Kd.R_mono (Kd.R_far (p := ⟨gb329, 1, none⟩) (Kd.R_far (p := ⟨gb329, 0, none⟩) (Kd.R_types HO323.out BK329.out (by decide)) (fun _ hk => hk.2) (.int .i64 t324)) (fun _ hk => hk.2) (.slice Ao123 t325.length co123)) (fun _ h_ => h_.1))) hb); have n4_ := Aside0.mk (Kd.R_below (by (with_reducible repeat (first | apply Kd.R_alloc | apply Kd.R_drewN | apply Kd.R_drew)); exact (Kd.R_mono (Kd.R_far (p := ⟨gb329, 1, none⟩) (Kd.R_far (p := ⟨gb329, 0, none⟩) (Kd.R_types HO327.out BK329.out (by decide)) (fun _ hk => hk.2) (.int .i64 t324)) (fun _ hk => hk.2) (.slice Ao123 t325.length co123)) (fun _ h_ => h_.1))) hb); have n5_ := Aside0.mk (blk_below (g := gb285) (o := .cells #[.int .i64 a0_0, .slice A0_1 l0_1.length c0_1] 30 (0, 0)) (by (with_reducible repeat (first | refine blk_drewN ?_ _ | refine blk_drew ?_ | refine blk_alloc ?_ _)); refine blk_far ?_ NB285_329.out _; (with_reducible repeat (first | refine blk_drewN ?_ _ | refine blk_drew ?_ | refine blk_alloc ?_ _)); refine blk_far ?_ NB285_329.out _; (with_reducible repeat (first | refine blk_drewN ?_ _ | refine blk_drew ?_ | refine blk_alloc ?_ _)); exact BK285.out) hb); have n6_ := Aside0.mk (blk_below (g := gb296) (o := .cells #[.int .i64 t291, .slice Ao22 t292.length co22] 33 (0, 0)) (by (with_reducible repeat (first | refine blk_drewN ?_ _ | refine blk_drew ?_ | refine blk_alloc ?_ _)); refine blk_far ?_ NB296_329.out _; (with_reducible repeat (first | refine blk_drewN ?_ _ | refine blk_drew ?_ | refine blk_alloc ?_ _)); refine blk_far ?_ NB296_329.out _; (with_reducible repeat (first | refine blk_drewN ?_ _ | refine blk_drew ?_ | refine blk_alloc ?_ _)); exact BK296.out) hb); have n7_ := Aside0.mk (blk_below (g := gb301) (o := .cells #[.int .i64 t297, .slice Ao29 t315.length co29] 33 (0, 0)) (by (with_reducible repeat (first | refine blk_drewN ?_ _ | refine blk_drew ?_ | refine blk_alloc ?_ _)); refine blk_far ?_ NB301_329.out _; (with_reducible repeat (first | refine blk_drewN ?_ _ | refine blk_drew ?_ | refine blk_alloc ?_ _)); refine blk_far ?_ NB301_329.out _; (with_reducible repeat (first | refine blk_drewN ?_ _ | refine blk_drew ?_ | refine blk_alloc ?_ _)); exact BK301.out) hb); have n8_ := Aside0.mk (blk_below (g := gb307) (o := .cells #[.int .i64 t302, .slice Ao36 t303.length co36] 33 (0, 0)) (by (with_reducible repeat (first | refine blk_drewN ?_ _ | refine blk_drew ?_ | refine blk_alloc ?_ _)); refine blk_far ?_ NB307_329.out _; (with_reducible repeat (first | refine blk_drewN ?_ _ | refine blk_drew ?_ | refine blk_alloc ?_ _)); refine blk_far ?_ NB307_329.out _; (with_reducible repeat (first | refine blk_drewN ?_ _ | refine blk_drew ?_ | refine blk_alloc ?_ _)); exact BK307.out) hb); have n9_ := Aside0.mk (blk_below (g := gb329) (o := .cells #[.int .i64 t324, .slice Ao123 t325.length co123] 33 (0, 0)) (by (with_reducible repeat (first | refine blk_drewN ?_ _ | refine blk_drew ?_ | refine blk_alloc ?_ _)); refine blk_put (cs := #[.int .i64 t324, .slice none 0 0]) ?_ 1 _ rfl; (with_reducible repeat (first | refine blk_drewN ?_ _ | refine blk_drew ?_ | refine blk_alloc ?_ _)); refine blk_put (cs := #[.int .i64 0, .slice none 0 0]) ?_ 0 _ rfl; (with_reducible repeat (first | refine blk_drewN ?_ _ | refine blk_drew ?_ | refine blk_alloc ?_ _)); exact BK329.out) hb); have n10_ := Aside0.mk (below_step (by repeat (first | (with_reducible first | exact HB.out | apply below_alloc | apply pw_below_drewN | apply below_drew1 | refine below_set ?_ GE285.out | refine below_set ?_ GE296.out | refine below_set ?_ GE301.out | refine below_set ?_ GE307.out | refine below_set ?_ GE329.out) | exact HB.out)) hb); clear HO_297001; clear HO_302001; clear HO_308001; clear HO323; clear HO327; clear BK285; clear BK296; clear BK301; clear BK307; clear BK329; clear HB; have HO_297001 := n0_; have HO_302001 := n1_; have HO_308001 := n2_; have HO323 := n3_; have HO327 := n4_; have BK285 := n5_; have BK296 := n6_; have BK301 := n7_; have BK307 := n8_; have BK329 := n9_; have HB := n10_; clear n0_ n1_ n2_ n3_ n4_ n5_ n6_ n7_ n8_ n9_ n10_; (try clear hb); (try clear hb2); (try clear hk); (try clear hi)))
                          go_meet
                          case rel => exact ⟨_, ((t328 != t295)), (by first | rfl | (simp; done) | (simp [*]; done)), H', ⟨by have := HJ10.out; have := HJ59.out; first | omega | exact Nat.le_refl _⟩, ⟨by (try simp only [hl302001_59]); (with_reducible repeat (first | apply Kd.R_alloc | apply Kd.R_drewN | apply Kd.R_drew)); exact Kd.R_mono HO_297001.out (fun _ hk => ⟨hk.1.1.1, ⟨hk.1.1.2, hk.2⟩⟩)⟩, ⟨by (try simp only [hl302001_59]); (with_reducible repeat (first | apply Kd.R_alloc | apply Kd.R_drewN | apply Kd.R_drew)); exact Kd.R_mono HO_302001.out (fun _ hk => ⟨hk.1.1.1, ⟨hk.1.1.2, hk.2⟩⟩)⟩, ⟨by (try simp only [hl302001_59]); (with_reducible repeat (first | apply Kd.R_alloc | apply Kd.R_drewN | apply Kd.R_drew)); exact Kd.R_mono HO_308001.out (fun _ hk => ⟨hk.1.1.1, ⟨hk.1.1.2, hk.2⟩⟩)⟩, ⟨by (try simp only [hl302001_59]); (with_reducible repeat (first | apply Kd.R_alloc | apply Kd.R_drewN | apply Kd.R_drew)); exact Kd.R_mono HO327.out (fun _ hk => ⟨hk.1.1.1.2, ⟨hk.1.1.2, hk.1.2⟩⟩)⟩, ⟨by (try simp only [hl302001_59]); (with_reducible repeat (first | refine blk_drewN ?_ _ | refine blk_drew ?_ | refine blk_alloc ?_ _)); exact BK285.out⟩, ⟨by (try simp only [hl302001_59]); (with_reducible repeat (first | refine blk_drewN ?_ _ | refine blk_drew ?_ | refine blk_alloc ?_ _)); exact BK296.out⟩, ⟨by (try simp only [hl302001_59]); (with_reducible repeat (first | refine blk_drewN ?_ _ | refine blk_drew ?_ | refine blk_alloc ?_ _)); exact BK301.out⟩, ⟨by (try simp only [hl302001_59]); (with_reducible repeat (first | refine blk_drewN ?_ _ | refine blk_drew ?_ | refine blk_alloc ?_ _)); exact BK307.out⟩, ⟨by (try simp only [hl302001_59]); (with_reducible repeat (first | refine blk_drewN ?_ _ | refine blk_drew ?_ | refine blk_alloc ?_ _)); exact BK329.out⟩, ⟨by repeat (first | (with_reducible first | exact HB.out | apply below_alloc | apply pw_below_drewN | apply below_drew1 | refine below_set ?_ GE285.out | refine below_set ?_ GE296.out | refine below_set ?_ GE301.out | refine below_set ?_ GE307.out | refine below_set ?_ GE329.out) | exact HB.out)⟩⟩
                        · replace c125 := Bool.eq_false_iff.mpr c125
                          subst c125
                          have H1 : (laws_FnExactMirrorTournament.j2 kj59 t317 true t302 t318) = some r := by rw [if_neg (show ¬ (false = true) by decide)] at H; exact H
                          clear H
                          have H := H1
                          clear H1
                          have H' := Aside0.mk H
                          clear H
                          have hnb136 := NB329_285.out
                          have hnc136 := NB285_329.out
                          have hnb137 := NB329_296.out
                          have hnc137 := NB296_329.out
                          have hnb138 := NB329_301.out
                          have hnc138 := NB301_329.out
                          have hnb139 := NB329_307.out
                          have hnc139 := NB307_329.out
                          have hcz140_0 : w117.cell? ⟨gb329, 0, none⟩ = some (.int .i64 0) := (blk_cell BK329.out 0).trans rfl
                          have hcz140_1 : w117.cell? ⟨gb329, 1, none⟩ = some (.slice none 0 0) := (blk_cell BK329.out 1).trans rfl
                          have hfz140_0 := blk_frozen BK329.out 0
                          have hfz140_1 := blk_frozen BK329.out 1
                          have hnb141 := NB296_285.out
                          have hnc141 := NB285_296.out
                          have hnb142 := NB296_301.out
                          have hnc142 := NB301_296.out
                          have hnb143 := NB296_307.out
                          have hnc143 := NB307_296.out
                          have hcz144_0 : w117.cell? ⟨gb296, 0, none⟩ = some (.int .i64 t291) := (blk_cell BK296.out 0).trans rfl
                          have hcz144_1 : w117.cell? ⟨gb296, 1, none⟩ = some (.slice Ao22 t292.length co22) := (blk_cell BK296.out 1).trans rfl
                          have hfz144_0 := blk_frozen BK296.out 0
                          have hfz144_1 := blk_frozen BK296.out 1
                          go_wp2_with (first | ((with_reducible refine gate_callee (f := 35) rfl ?_); refine goesL_ (some 81) rfl rfl Try.func35 (by kernel_rfl) rfl #[.agg #[.int .i64 t324, .slice Ao123 t325.length co123], .agg #[.int .i64 t291, .slice Ao22 t292.length co22]] rfl (by (try simp only [List.map_toArray, List.map_cons, List.map_nil]); first | done | rfl | (simp only [List.length_drop, List.length_take]; rfl)) ?_; (with_reducible refine (laws_eqTournament.calls kj59 t324 _ _ t325 t291 _ _ t292 false _ ?side1 ?side2 ?side3 ?side4 A124.out).mono ?_); (case side1 => refine (Kd.R_reads' (e := 3) (base := w.heap.size) (ok := fun k_ => ((((True ∧ some k_ ≠ (.slice Ao22 t292.length co22 : Value).ownBlock) ∧ some k_ ≠ (.slice Ao29 t315.length co29 : Value).ownBlock) ∧ some k_ ≠ (.slice Ao36 t303.length co36 : Value).ownBlock) ∧ some k_ ≠ (.slice Ao115 t321.length co115 : Value).ownBlock)) (n := t325.length) (c := co123) ?_).2.2; exact (by (with_reducible repeat (first | apply Kd.R_alloc | apply Kd.R_drewN | apply Kd.R_drew)); exact (Kd.R_mono (Kd.R_far (p := ⟨gb329, 1, none⟩) (Kd.R_far (p := ⟨gb329, 0, none⟩) (Kd.R_types HO327.out BK329.out (by decide)) (fun _ hk => hk.2) (.int .i64 t324)) (fun _ hk => hk.2) (.slice Ao123 t325.length co123)) (fun _ h_ => h_.1)))); (case side2 => exact (Kd.R_reads' HO327.out).2.1); (case side3 => refine (Kd.R_reads' (e := 3) (base := w.heap.size) (ok := fun k_ => (((some k_ ≠ (.slice Ao29 t315.length co29 : Value).ownBlock ∧ some k_ ≠ (.slice Ao36 t303.length co36 : Value).ownBlock) ∧ some k_ ≠ (.slice Ao115 t321.length co115 : Value).ownBlock) ∧ some k_ ≠ (.slice Ao123 t325.length co123 : Value).ownBlock)) (n := t292.length) (c := co22) ?_).2.2; exact (by (with_reducible repeat (first | apply Kd.R_alloc | apply Kd.R_drewN | apply Kd.R_drew)); exact (Kd.R_mono (Kd.R_far (p := ⟨gb329, 1, none⟩) (Kd.R_far (p := ⟨gb329, 0, none⟩) (Kd.R_types HO_297001.out BK329.out (by decide)) (fun _ hk => hk.2) (.int .i64 t324)) (fun _ hk => hk.2) (.slice Ao123 t325.length co123)) (fun _ h_ => h_.1)))); (case side4 => exact (Kd.R_reads' HO_297001.out).2.1); rintro e w145 ⟨rfl, hb⟩; refine ⟨_, rfl, ?_⟩; have n0_ := Aside0.mk (Kd.R_below (by (with_reducible repeat (first | apply Kd.R_alloc | apply Kd.R_drewN | apply Kd.R_drew)); exact (Kd.R_mono (Kd.R_far (p := ⟨gb329, 1, none⟩) (Kd.R_far (p := ⟨gb329, 0, none⟩) (Kd.R_types HO_297001.out BK329.out (by decide)) (fun _ hk => hk.2) (.int .i64 t324)) (fun _ hk => hk.2) (.slice Ao123 t325.length co123)) (fun _ h_ => h_.1))) hb); have n1_ := Aside0.mk (Kd.R_below (by (with_reducible repeat (first | apply Kd.R_alloc | apply Kd.R_drewN | apply Kd.R_drew)); exact (Kd.R_mono (Kd.R_far (p := ⟨gb329, 1, none⟩) (Kd.R_far (p := ⟨gb329, 0, none⟩) (Kd.R_types HO_302001.out BK329.out (by decide)) (fun _ hk => hk.2) (.int .i64 t324)) (fun _ hk => hk.2) (.slice Ao123 t325.length co123)) (fun _ h_ => h_.1))) hb); have n2_ := Aside0.mk (Kd.R_below (by (with_reducible repeat (first | apply Kd.R_alloc | apply Kd.R_drewN | apply Kd.R_drew)); exact (Kd.R_mono (Kd.R_far (p := ⟨gb329, 1, none⟩) (Kd.R_far (p := ⟨gb329, 0, none⟩) (Kd.R_types HO_308001.out BK329.out (by decide)) (fun _ hk => hk.2) (.int .i64 t324)) (fun _ hk => hk.2) (.slice Ao123 t325.length co123)) (fun _ h_ => h_.1))) hb); have n3_ := Aside0.mk (Kd.R_below (by (with_reducible repeat (first | apply Kd.R_alloc | apply Kd.R_drewN | apply Kd.R_drew)); exact (Kd.R_mono (Kd.R_far (p := ⟨gb329, 1, none⟩) (Kd.R_far (p := ⟨gb329, 0, none⟩) (Kd.R_types HO323.out BK329.out (by decide)) (fun _ hk => hk.2) (.int .i64 t324)) (fun _ hk => hk.2) (.slice Ao123 t325.length co123)) (fun _ h_ => h_.1))) hb); have n4_ := Aside0.mk (Kd.R_below (by (with_reducible repeat (first | apply Kd.R_alloc | apply Kd.R_drewN | apply Kd.R_drew)); exact (Kd.R_mono (Kd.R_far (p := ⟨gb329, 1, none⟩) (Kd.R_far (p := ⟨gb329, 0, none⟩) (Kd.R_types HO327.out BK329.out (by decide)) (fun _ hk => hk.2) (.int .i64 t324)) (fun _ hk => hk.2) (.slice Ao123 t325.length co123)) (fun _ h_ => h_.1))) hb); have n5_ := Aside0.mk (blk_below (g := gb285) (o := .cells #[.int .i64 a0_0, .slice A0_1 l0_1.length c0_1] 30 (0, 0)) (by (with_reducible repeat (first | refine blk_drewN ?_ _ | refine blk_drew ?_ | refine blk_alloc ?_ _)); refine blk_far ?_ NB285_329.out _; (with_reducible repeat (first | refine blk_drewN ?_ _ | refine blk_drew ?_ | refine blk_alloc ?_ _)); refine blk_far ?_ NB285_329.out _; (with_reducible repeat (first | refine blk_drewN ?_ _ | refine blk_drew ?_ | refine blk_alloc ?_ _)); exact BK285.out) hb); have n6_ := Aside0.mk (blk_below (g := gb296) (o := .cells #[.int .i64 t291, .slice Ao22 t292.length co22] 33 (0, 0)) (by (with_reducible repeat (first | refine blk_drewN ?_ _ | refine blk_drew ?_ | refine blk_alloc ?_ _)); refine blk_far ?_ NB296_329.out _; (with_reducible repeat (first | refine blk_drewN ?_ _ | refine blk_drew ?_ | refine blk_alloc ?_ _)); refine blk_far ?_ NB296_329.out _; (with_reducible repeat (first | refine blk_drewN ?_ _ | refine blk_drew ?_ | refine blk_alloc ?_ _)); exact BK296.out) hb); have n7_ := Aside0.mk (blk_below (g := gb301) (o := .cells #[.int .i64 t297, .slice Ao29 t315.length co29] 33 (0, 0)) (by (with_reducible repeat (first | refine blk_drewN ?_ _ | refine blk_drew ?_ | refine blk_alloc ?_ _)); refine blk_far ?_ NB301_329.out _; (with_reducible repeat (first | refine blk_drewN ?_ _ | refine blk_drew ?_ | refine blk_alloc ?_ _)); refine blk_far ?_ NB301_329.out _; (with_reducible repeat (first | refine blk_drewN ?_ _ | refine blk_drew ?_ | refine blk_alloc ?_ _)); exact BK301.out) hb); have n8_ := Aside0.mk (blk_below (g := gb307) (o := .cells #[.int .i64 t302, .slice Ao36 t303.length co36] 33 (0, 0)) (by (with_reducible repeat (first | refine blk_drewN ?_ _ | refine blk_drew ?_ | refine blk_alloc ?_ _)); refine blk_far ?_ NB307_329.out _; (with_reducible repeat (first | refine blk_drewN ?_ _ | refine blk_drew ?_ | refine blk_alloc ?_ _)); refine blk_far ?_ NB307_329.out _; (with_reducible repeat (first | refine blk_drewN ?_ _ | refine blk_drew ?_ | refine blk_alloc ?_ _)); exact BK307.out) hb); have n9_ := Aside0.mk (blk_below (g := gb329) (o := .cells #[.int .i64 t324, .slice Ao123 t325.length co123] 33 (0, 0)) (by (with_reducible repeat (first | refine blk_drewN ?_ _ | refine blk_drew ?_ | refine blk_alloc ?_ _)); refine blk_put (cs := #[.int .i64 t324, .slice none 0 0]) ?_ 1 _ rfl; (with_reducible repeat (first | refine blk_drewN ?_ _ | refine blk_drew ?_ | refine blk_alloc ?_ _)); refine blk_put (cs := #[.int .i64 0, .slice none 0 0]) ?_ 0 _ rfl; (with_reducible repeat (first | refine blk_drewN ?_ _ | refine blk_drew ?_ | refine blk_alloc ?_ _)); exact BK329.out) hb); have n10_ := Aside0.mk (below_step (by repeat (first | (with_reducible first | exact HB.out | apply below_alloc | apply pw_below_drewN | apply below_drew1 | refine below_set ?_ GE285.out | refine below_set ?_ GE296.out | refine below_set ?_ GE301.out | refine below_set ?_ GE307.out | refine below_set ?_ GE329.out) | exact HB.out)) hb); clear HO_297001; clear HO_302001; clear HO_308001; clear HO323; clear HO327; clear BK285; clear BK296; clear BK301; clear BK307; clear BK329; clear HB; have HO_297001 := n0_; have HO_302001 := n1_; have HO_308001 := n2_; have HO323 := n3_; have HO327 := n4_; have BK285 := n5_; have BK296 := n6_; have BK301 := n7_; have BK307 := n8_; have BK329 := n9_; have HB := n10_; clear n0_ n1_ n2_ n3_ n4_ n5_ n6_ n7_ n8_ n9_ n10_; (try clear hb); (try clear hb2); (try clear hk); (try clear hi)))
                          go_meet
                          case rel => exact ⟨_, (true), (by first | rfl | (simp; done) | (simp [*]; done)), H', ⟨by have := HJ10.out; have := HJ59.out; first | omega | exact Nat.le_refl _⟩, ⟨by (try simp only [hl302001_59]); (with_reducible repeat (first | apply Kd.R_alloc | apply Kd.R_drewN | apply Kd.R_drew)); exact Kd.R_mono HO_297001.out (fun _ hk => ⟨hk.1.1.1, ⟨hk.1.1.2, hk.2⟩⟩)⟩, ⟨by (try simp only [hl302001_59]); (with_reducible repeat (first | apply Kd.R_alloc | apply Kd.R_drewN | apply Kd.R_drew)); exact Kd.R_mono HO_302001.out (fun _ hk => ⟨hk.1.1.1, ⟨hk.1.1.2, hk.2⟩⟩)⟩, ⟨by (try simp only [hl302001_59]); (with_reducible repeat (first | apply Kd.R_alloc | apply Kd.R_drewN | apply Kd.R_drew)); exact Kd.R_mono HO_308001.out (fun _ hk => ⟨hk.1.1.1, ⟨hk.1.1.2, hk.2⟩⟩)⟩, ⟨by (try simp only [hl302001_59]); (with_reducible repeat (first | apply Kd.R_alloc | apply Kd.R_drewN | apply Kd.R_drew)); exact Kd.R_mono HO327.out (fun _ hk => ⟨hk.1.1.1.2, ⟨hk.1.1.2, hk.1.2⟩⟩)⟩, ⟨by (try simp only [hl302001_59]); (with_reducible repeat (first | refine blk_drewN ?_ _ | refine blk_drew ?_ | refine blk_alloc ?_ _)); exact BK285.out⟩, ⟨by (try simp only [hl302001_59]); (with_reducible repeat (first | refine blk_drewN ?_ _ | refine blk_drew ?_ | refine blk_alloc ?_ _)); exact BK296.out⟩, ⟨by (try simp only [hl302001_59]); (with_reducible repeat (first | refine blk_drewN ?_ _ | refine blk_drew ?_ | refine blk_alloc ?_ _)); exact BK301.out⟩, ⟨by (try simp only [hl302001_59]); (with_reducible repeat (first | refine blk_drewN ?_ _ | refine blk_drew ?_ | refine blk_alloc ?_ _)); exact BK307.out⟩, ⟨by (try simp only [hl302001_59]); (with_reducible repeat (first | refine blk_drewN ?_ _ | refine blk_drew ?_ | refine blk_alloc ?_ _)); exact BK329.out⟩, ⟨by repeat (first | (with_reducible first | exact HB.out | apply below_alloc | apply pw_below_drewN | apply below_drew1 | refine below_set ?_ GE285.out | refine below_set ?_ GE296.out | refine below_set ?_ GE301.out | refine below_set ?_ GE307.out | refine below_set ?_ GE329.out) | exact HB.out)⟩⟩
                      case rest =>
                        clear HC103
                        try clear c1
                        try clear c2
                        try clear p2
                        try clear c3
                        try clear c3b0
                        try clear c4
                        try clear c5
                        try clear c6
                        try clear c7
                        try clear c8
                        try clear c9
                        try clear c10
                        try clear c11
                        try clear c12
                        try clear c13
                        try clear c14
                        try clear c20
                        try clear c26
                        try clear c27
                        try clear c31
                        try clear c32
                        try clear c33
                        try clear c34
                        try clear c35
                        try clear c36
                        try clear c37
                        try clear c38
                        try clear c39
                        try clear c40
                        try clear c41
                        try clear c43
                        try clear c44
                        try clear c47
                        try clear c48
                        try clear c49
                        try clear c51
                        try clear c52
                        try clear c55
                        try clear c58
                        try clear c65
                        try clear c66
                        try clear c67
                        try clear c70
                        try clear c70b0
                        try clear c72
                        try clear c73
                        try clear c74
                        try clear c75
                        try clear c77
                        try clear c78
                        try clear c81
                        try clear c82
                        try clear c83
                        try clear c85
                        try clear c86
                        try clear c89
                        try clear c92
                        try clear c92b0
                        try clear c93
                        try clear c94
                        try clear c95
                        try clear c100
                        try clear c100b0
                        try clear c100b1
                        try clear c104
                        try clear c105
                        try clear c106
                        try clear c111
                        try clear c112
                        try clear c118
                        try clear c119
                        try clear c120
                        try clear c121
                        try clear c125
                        try clear c126
                        try clear c127
                        try clear c128
                        try clear c129
                        try clear c131
                        try clear c132
                        try clear c133
                        try clear c136
                        try clear c137
                        try clear c138
                        try clear c139
                        try clear c141
                        try clear c142
                        try clear c143
                        try clear hcz107_0
                        try clear hcz107_1
                        try clear hcz109_0
                        try clear hcz109_1
                        try clear hcz113_0
                        try clear hcz113_1
                        try clear hcz122_0
                        try clear hcz122_1
                        try clear hcz130_0
                        try clear hcz130_1
                        try clear hcz134_0
                        try clear hcz134_1
                        try clear hcz13_0
                        try clear hcz13_1
                        try clear hcz140_0
                        try clear hcz140_1
                        try clear hcz144_0
                        try clear hcz144_1
                        try clear hcz15_0
                        try clear hcz15_1
                        try clear hcz21_0
                        try clear hcz21_1
                        try clear hcz23_0
                        try clear hcz23_1
                        try clear hcz28_0
                        try clear hcz28_1
                        try clear hcz35_0
                        try clear hcz35_1
                        try clear hcz42_0
                        try clear hcz42_1
                        try clear hcz45_0
                        try clear hcz45_1
                        try clear hcz50_0
                        try clear hcz50_1
                        try clear hcz53_0
                        try clear hcz53_1
                        try clear hcz5_0
                        try clear hcz5_1
                        try clear hcz68_0
                        try clear hcz68_1
                        try clear hcz76_0
                        try clear hcz76_1
                        try clear hcz79_0
                        try clear hcz79_1
                        try clear hcz84_0
                        try clear hcz84_1
                        try clear hcz87_0
                        try clear hcz87_1
                        try clear hcz96_0
                        try clear hcz96_1
                        try clear hcz98_0
                        try clear hcz98_1
                        try clear hfz107_0
                        try clear hfz107_1
                        try clear hfz109_0
                        try clear hfz109_1
                        try clear hfz113_0
                        try clear hfz113_1
                        try clear hfz122_0
                        try clear hfz122_1
                        try clear hfz130_0
                        try clear hfz130_1
                        try clear hfz134_0
                        try clear hfz134_1
                        try clear hfz13_0
                        try clear hfz13_1
                        try clear hfz140_0
                        try clear hfz140_1
                        try clear hfz144_0
                        try clear hfz144_1
                        try clear hfz15_0
                        try clear hfz15_1
                        try clear hfz21_0
                        try clear hfz21_1
                        try clear hfz23_0
                        try clear hfz23_1
                        try clear hfz28_0
                        try clear hfz28_1
                        try clear hfz35_0
                        try clear hfz35_1
                        try clear hfz42_0
                        try clear hfz42_1
                        try clear hfz45_0
                        try clear hfz45_1
                        try clear hfz50_0
                        try clear hfz50_1
                        try clear hfz53_0
                        try clear hfz53_1
                        try clear hfz5_0
                        try clear hfz5_1
                        try clear hfz68_0
                        try clear hfz68_1
                        try clear hfz76_0
                        try clear hfz76_1
                        try clear hfz79_0
                        try clear hfz79_1
                        try clear hfz84_0
                        try clear hfz84_1
                        try clear hfz87_0
                        try clear hfz87_1
                        try clear hfz96_0
                        try clear hfz96_1
                        try clear hfz98_0
                        try clear hfz98_1
                        try clear p2
                        obtain ⟨kq, x87_102, rfl, HA, HJ102, HO_297001, HO_302001, HO_308001, HO_330001, BK285, BK296, BK301, BK307, BK329, HB⟩ := hcut
                        have hl308001_102 := (Kd.R_reads' HO_308001.out).1
                        rw [hl308001_102] at HO_308001
                        (try simp only [hl308001_102])
                        (try simp only [hl308001_102] at BK285)
                        (try simp only [hl308001_102] at BK296)
                        (try simp only [hl308001_102] at BK301)
                        (try simp only [hl308001_102] at BK307)
                        (try simp only [hl308001_102] at BK329)
                        (try simp only [hl308001_102] at HO_297001)
                        (try simp only [hl308001_102] at HO_302001)
                        (try simp only [hl308001_102] at HO_330001)
                        cases kq with
                        | zero => exact absurd HA.out (by simp [laws_FnExactMirrorTournament.j2])
                        | succ kj102 =>
                          have H := HA.out
                          clear HA
                          simp only [laws_FnExactMirrorTournament.j2] at H
                          by_cases c146 : x87_102 = true
                          · subst c146
                            have H1 : (some false) = some r := by rw [if_pos rfl] at H; exact H
                            clear H
                            have H := H1
                            clear H1
                            obtain rfl := Option.some.inj H
                            go_wp2
                            go_ret
                            exact ⟨by first | rfl | (simp [errW_none, errW_some] <;> rfl) | (simp [*, errW_none, errW_some] <;> rfl), by repeat (first | (with_reducible first | exact HB.out | apply below_alloc | apply pw_below_drewN | apply below_drew1 | refine below_set ?_ GE285.out | refine below_set ?_ GE296.out | refine below_set ?_ GE301.out | refine below_set ?_ GE307.out | refine below_set ?_ GE329.out) | exact HB.out)⟩
                          · replace c146 := Bool.eq_false_iff.mpr c146
                            subst c146
                            have H1 : ((laws_heldTournament.f kj102 t302 t318 1).bind fun t331 => (if t331 < 0 then (some false) else (if t331 = t317 then (some true) else (some false)))) = some r := by rw [if_neg (show ¬ (false = true) by decide)] at H; exact H
                            clear H
                            have H := H1
                            clear H1
                            replace H := Option.bind_eq_some_iff.mp H
                            obtain ⟨t331, A1470, H⟩ := H
                            replace H : (if t331 < 0 then (some false) else (if t331 = t317 then (some true) else (some false))) = some r := H
                            have A147 := Aside0.mk A1470
                            clear A1470
                            by_cases c148 : t331 < 0
                            · rw [if_pos c148] at H
                              have c148b0 : decide (t331 < 0) = true := decide_eq_true c148
                              clear c148
                              obtain rfl := Option.some.inj H
                              have hnb149 := NB307_285.out
                              have hnc149 := NB285_307.out
                              have hnb150 := NB307_296.out
                              have hnc150 := NB296_307.out
                              have hnb151 := NB307_301.out
                              have hnc151 := NB301_307.out
                              have hnb152 := NB307_329.out
                              have hnc152 := NB329_307.out
                              have hcz153_0 : wc.cell? ⟨gb307, 0, none⟩ = some (.int .i64 t302) := (blk_cell BK307.out 0).trans rfl
                              have hcz153_1 : wc.cell? ⟨gb307, 1, none⟩ = some (.slice Ao36 t318.length co36) := (blk_cell BK307.out 1).trans rfl
                              have hfz153_0 := blk_frozen BK307.out 0
                              have hfz153_1 := blk_frozen BK307.out 1
                              go_wp2_with (first | ((with_reducible refine gate_callee (f := 39) rfl ?_); refine goesL_ (some 90) rfl rfl Try.func39 (by kernel_rfl) rfl #[.agg #[.int .i64 t302, .slice Ao36 t318.length co36], .int .i64 1] rfl (by (try simp only [List.map_toArray, List.map_cons, List.map_nil]); first | done | rfl | (simp only [List.length_drop, List.length_take]; rfl)) ?_; (with_reducible refine (laws_heldTournament.calls kj102 t302 _ _ t318 1 t331 _ ?side1 ?side2 A147.out).mono ?_); (case side1 => repeat (first | exact (Kd.R_reads' HO_308001.out).2.2 | (with_reducible refine Kd.C_alloc ?_ _) | (with_reducible refine Kd.C_drewN ?_ _) | (with_reducible refine Kd.C_drew ?_))); (case side2 => exact (Kd.R_reads' HO_308001.out).2.1); rintro e w154 ⟨rfl, hb⟩; refine ⟨_, rfl, ?_⟩; have n0_ := Aside0.mk (Kd.R_below (by (with_reducible repeat (first | apply Kd.R_alloc | apply Kd.R_drewN | apply Kd.R_drew)); exact HO_297001.out) hb); have n1_ := Aside0.mk (Kd.R_below (by (with_reducible repeat (first | apply Kd.R_alloc | apply Kd.R_drewN | apply Kd.R_drew)); exact HO_302001.out) hb); have n2_ := Aside0.mk (Kd.R_below (by (with_reducible repeat (first | apply Kd.R_alloc | apply Kd.R_drewN | apply Kd.R_drew)); exact HO_308001.out) hb); have n3_ := Aside0.mk (Kd.R_below (by (with_reducible repeat (first | apply Kd.R_alloc | apply Kd.R_drewN | apply Kd.R_drew)); exact HO_330001.out) hb); have n4_ := Aside0.mk (blk_below (g := gb285) (o := .cells #[.int .i64 a0_0, .slice A0_1 l0_1.length c0_1] 30 (0, 0)) (by (with_reducible repeat (first | refine blk_drewN ?_ _ | refine blk_drew ?_ | refine blk_alloc ?_ _)); exact BK285.out) hb); have n5_ := Aside0.mk (blk_below (g := gb296) (o := .cells #[.int .i64 t291, .slice Ao22 t292.length co22] 33 (0, 0)) (by (with_reducible repeat (first | refine blk_drewN ?_ _ | refine blk_drew ?_ | refine blk_alloc ?_ _)); exact BK296.out) hb); have n6_ := Aside0.mk (blk_below (g := gb301) (o := .cells #[.int .i64 t297, .slice Ao29 t315.length co29] 33 (0, 0)) (by (with_reducible repeat (first | refine blk_drewN ?_ _ | refine blk_drew ?_ | refine blk_alloc ?_ _)); exact BK301.out) hb); have n7_ := Aside0.mk (blk_below (g := gb307) (o := .cells #[.int .i64 t302, .slice Ao36 t318.length co36] 33 (0, 0)) (by (with_reducible repeat (first | refine blk_drewN ?_ _ | refine blk_drew ?_ | refine blk_alloc ?_ _)); exact BK307.out) hb); have n8_ := Aside0.mk (blk_below (g := gb329) (o := .cells #[.int .i64 t324, .slice Ao123 t325.length co123] 33 (0, 0)) (by (with_reducible repeat (first | refine blk_drewN ?_ _ | refine blk_drew ?_ | refine blk_alloc ?_ _)); exact BK329.out) hb); have n9_ := Aside0.mk (below_step (by repeat (first | (with_reducible first | exact HB.out | apply below_alloc | apply pw_below_drewN | apply below_drew1 | refine below_set ?_ GE285.out | refine below_set ?_ GE296.out | refine below_set ?_ GE301.out | refine below_set ?_ GE307.out | refine below_set ?_ GE329.out) | exact HB.out)) hb); clear HO_297001; clear HO_302001; clear HO_308001; clear HO_330001; clear BK285; clear BK296; clear BK301; clear BK307; clear BK329; clear HB; have HO_297001 := n0_; have HO_302001 := n1_; have HO_308001 := n2_; have HO_330001 := n3_; have BK285 := n4_; have BK296 := n5_; have BK301 := n6_; have BK307 := n7_; have BK329 := n8_; have HB := n9_; clear n0_ n1_ n2_ n3_ n4_ n5_ n6_ n7_ n8_ n9_; (try clear hb); (try clear hb2); (try clear hk); (try clear hi)))
                              go_ret
                              exact ⟨by first | rfl | (simp [errW_none, errW_some] <;> rfl) | (simp [*, errW_none, errW_some] <;> rfl), by repeat (first | (with_reducible first | exact HB.out | apply below_alloc | apply pw_below_drewN | apply below_drew1 | refine below_set ?_ GE285.out | refine below_set ?_ GE296.out | refine below_set ?_ GE301.out | refine below_set ?_ GE307.out | refine below_set ?_ GE329.out) | exact HB.out)⟩
                            · rw [if_neg c148] at H
                              have c148b0 : decide (t331 < 0) = false := decide_eq_false c148
                              clear c148
                              by_cases c155 : t331 = t317
                              · rw [if_pos c155] at H
                                have c155b0 : (t331 == t317) = true := beq_iff_eq.mpr c155
                                have c155b1 : (t331 != t317) = false := bne_eq_false_iff_eq.mpr c155
                                clear c155
                                obtain rfl := Option.some.inj H
                                have hnb156 := NB307_285.out
                                have hnc156 := NB285_307.out
                                have hnb157 := NB307_296.out
                                have hnc157 := NB296_307.out
                                have hnb158 := NB307_301.out
                                have hnc158 := NB301_307.out
                                have hnb159 := NB307_329.out
                                have hnc159 := NB329_307.out
                                have hcz160_0 : wc.cell? ⟨gb307, 0, none⟩ = some (.int .i64 t302) := (blk_cell BK307.out 0).trans rfl
                                have hcz160_1 : wc.cell? ⟨gb307, 1, none⟩ = some (.slice Ao36 t318.length co36) := (blk_cell BK307.out 1).trans rfl
                                have hfz160_0 := blk_frozen BK307.out 0
                                have hfz160_1 := blk_frozen BK307.out 1
                                go_wp2_with (first | ((with_reducible refine gate_callee (f := 39) rfl ?_); refine goesL_ (some 90) rfl rfl Try.func39 (by kernel_rfl) rfl #[.agg #[.int .i64 t302, .slice Ao36 t318.length co36], .int .i64 1] rfl (by (try simp only [List.map_toArray, List.map_cons, List.map_nil]); first | done | rfl | (simp only [List.length_drop, List.length_take]; rfl)) ?_; (with_reducible refine (laws_heldTournament.calls kj102 t302 _ _ t318 1 t331 _ ?side1 ?side2 A147.out).mono ?_); (case side1 => repeat (first | exact (Kd.R_reads' HO_308001.out).2.2 | (with_reducible refine Kd.C_alloc ?_ _) | (with_reducible refine Kd.C_drewN ?_ _) | (with_reducible refine Kd.C_drew ?_))); (case side2 => exact (Kd.R_reads' HO_308001.out).2.1); rintro e w161 ⟨rfl, hb⟩; refine ⟨_, rfl, ?_⟩; have n0_ := Aside0.mk (Kd.R_below (by (with_reducible repeat (first | apply Kd.R_alloc | apply Kd.R_drewN | apply Kd.R_drew)); exact HO_297001.out) hb); have n1_ := Aside0.mk (Kd.R_below (by (with_reducible repeat (first | apply Kd.R_alloc | apply Kd.R_drewN | apply Kd.R_drew)); exact HO_302001.out) hb); have n2_ := Aside0.mk (Kd.R_below (by (with_reducible repeat (first | apply Kd.R_alloc | apply Kd.R_drewN | apply Kd.R_drew)); exact HO_308001.out) hb); have n3_ := Aside0.mk (Kd.R_below (by (with_reducible repeat (first | apply Kd.R_alloc | apply Kd.R_drewN | apply Kd.R_drew)); exact HO_330001.out) hb); have n4_ := Aside0.mk (blk_below (g := gb285) (o := .cells #[.int .i64 a0_0, .slice A0_1 l0_1.length c0_1] 30 (0, 0)) (by (with_reducible repeat (first | refine blk_drewN ?_ _ | refine blk_drew ?_ | refine blk_alloc ?_ _)); exact BK285.out) hb); have n5_ := Aside0.mk (blk_below (g := gb296) (o := .cells #[.int .i64 t291, .slice Ao22 t292.length co22] 33 (0, 0)) (by (with_reducible repeat (first | refine blk_drewN ?_ _ | refine blk_drew ?_ | refine blk_alloc ?_ _)); exact BK296.out) hb); have n6_ := Aside0.mk (blk_below (g := gb301) (o := .cells #[.int .i64 t297, .slice Ao29 t315.length co29] 33 (0, 0)) (by (with_reducible repeat (first | refine blk_drewN ?_ _ | refine blk_drew ?_ | refine blk_alloc ?_ _)); exact BK301.out) hb); have n7_ := Aside0.mk (blk_below (g := gb307) (o := .cells #[.int .i64 t302, .slice Ao36 t318.length co36] 33 (0, 0)) (by (with_reducible repeat (first | refine blk_drewN ?_ _ | refine blk_drew ?_ | refine blk_alloc ?_ _)); exact BK307.out) hb); have n8_ := Aside0.mk (blk_below (g := gb329) (o := .cells #[.int .i64 t324, .slice Ao123 t325.length co123] 33 (0, 0)) (by (with_reducible repeat (first | refine blk_drewN ?_ _ | refine blk_drew ?_ | refine blk_alloc ?_ _)); exact BK329.out) hb); have n9_ := Aside0.mk (below_step (by repeat (first | (with_reducible first | exact HB.out | apply below_alloc | apply pw_below_drewN | apply below_drew1 | refine below_set ?_ GE285.out | refine below_set ?_ GE296.out | refine below_set ?_ GE301.out | refine below_set ?_ GE307.out | refine below_set ?_ GE329.out) | exact HB.out)) hb); clear HO_297001; clear HO_302001; clear HO_308001; clear HO_330001; clear BK285; clear BK296; clear BK301; clear BK307; clear BK329; clear HB; have HO_297001 := n0_; have HO_302001 := n1_; have HO_308001 := n2_; have HO_330001 := n3_; have BK285 := n4_; have BK296 := n5_; have BK301 := n6_; have BK307 := n7_; have BK329 := n8_; have HB := n9_; clear n0_ n1_ n2_ n3_ n4_ n5_ n6_ n7_ n8_ n9_; (try clear hb); (try clear hb2); (try clear hk); (try clear hi)))
                                go_ret
                                exact ⟨by first | rfl | (simp [errW_none, errW_some] <;> rfl) | (simp [*, errW_none, errW_some] <;> rfl), by repeat (first | (with_reducible first | exact HB.out | apply below_alloc | apply pw_below_drewN | apply below_drew1 | refine below_set ?_ GE285.out | refine below_set ?_ GE296.out | refine below_set ?_ GE301.out | refine below_set ?_ GE307.out | refine below_set ?_ GE329.out) | exact HB.out)⟩
                              · rw [if_neg c155] at H
                                have c155b0 : (t331 == t317) = false := beq_eq_false_iff_ne.mpr c155
                                have c155b1 : (t331 != t317) = true := bne_iff_ne.mpr c155
                                obtain rfl := Option.some.inj H
                                have hnb162 := NB307_285.out
                                have hnc162 := NB285_307.out
                                have hnb163 := NB307_296.out
                                have hnc163 := NB296_307.out
                                have hnb164 := NB307_301.out
                                have hnc164 := NB301_307.out
                                have hnb165 := NB307_329.out
                                have hnc165 := NB329_307.out
                                have hcz166_0 : wc.cell? ⟨gb307, 0, none⟩ = some (.int .i64 t302) := (blk_cell BK307.out 0).trans rfl
                                have hcz166_1 : wc.cell? ⟨gb307, 1, none⟩ = some (.slice Ao36 t318.length co36) := (blk_cell BK307.out 1).trans rfl
                                have hfz166_0 := blk_frozen BK307.out 0
                                have hfz166_1 := blk_frozen BK307.out 1
                                go_wp2_with (first | ((with_reducible refine gate_callee (f := 39) rfl ?_); refine goesL_ (some 90) rfl rfl Try.func39 (by kernel_rfl) rfl #[.agg #[.int .i64 t302, .slice Ao36 t318.length co36], .int .i64 1] rfl (by (try simp only [List.map_toArray, List.map_cons, List.map_nil]); first | done | rfl | (simp only [List.length_drop, List.length_take]; rfl)) ?_; (with_reducible refine (laws_heldTournament.calls kj102 t302 _ _ t318 1 t331 _ ?side1 ?side2 A147.out).mono ?_); (case side1 => repeat (first | exact (Kd.R_reads' HO_308001.out).2.2 | (with_reducible refine Kd.C_alloc ?_ _) | (with_reducible refine Kd.C_drewN ?_ _) | (with_reducible refine Kd.C_drew ?_))); (case side2 => exact (Kd.R_reads' HO_308001.out).2.1); rintro e w167 ⟨rfl, hb⟩; refine ⟨_, rfl, ?_⟩; have n0_ := Aside0.mk (Kd.R_below (by (with_reducible repeat (first | apply Kd.R_alloc | apply Kd.R_drewN | apply Kd.R_drew)); exact HO_297001.out) hb); have n1_ := Aside0.mk (Kd.R_below (by (with_reducible repeat (first | apply Kd.R_alloc | apply Kd.R_drewN | apply Kd.R_drew)); exact HO_302001.out) hb); have n2_ := Aside0.mk (Kd.R_below (by (with_reducible repeat (first | apply Kd.R_alloc | apply Kd.R_drewN | apply Kd.R_drew)); exact HO_308001.out) hb); have n3_ := Aside0.mk (Kd.R_below (by (with_reducible repeat (first | apply Kd.R_alloc | apply Kd.R_drewN | apply Kd.R_drew)); exact HO_330001.out) hb); have n4_ := Aside0.mk (blk_below (g := gb285) (o := .cells #[.int .i64 a0_0, .slice A0_1 l0_1.length c0_1] 30 (0, 0)) (by (with_reducible repeat (first | refine blk_drewN ?_ _ | refine blk_drew ?_ | refine blk_alloc ?_ _)); exact BK285.out) hb); have n5_ := Aside0.mk (blk_below (g := gb296) (o := .cells #[.int .i64 t291, .slice Ao22 t292.length co22] 33 (0, 0)) (by (with_reducible repeat (first | refine blk_drewN ?_ _ | refine blk_drew ?_ | refine blk_alloc ?_ _)); exact BK296.out) hb); have n6_ := Aside0.mk (blk_below (g := gb301) (o := .cells #[.int .i64 t297, .slice Ao29 t315.length co29] 33 (0, 0)) (by (with_reducible repeat (first | refine blk_drewN ?_ _ | refine blk_drew ?_ | refine blk_alloc ?_ _)); exact BK301.out) hb); have n7_ := Aside0.mk (blk_below (g := gb307) (o := .cells #[.int .i64 t302, .slice Ao36 t318.length co36] 33 (0, 0)) (by (with_reducible repeat (first | refine blk_drewN ?_ _ | refine blk_drew ?_ | refine blk_alloc ?_ _)); exact BK307.out) hb); have n8_ := Aside0.mk (blk_below (g := gb329) (o := .cells #[.int .i64 t324, .slice Ao123 t325.length co123] 33 (0, 0)) (by (with_reducible repeat (first | refine blk_drewN ?_ _ | refine blk_drew ?_ | refine blk_alloc ?_ _)); exact BK329.out) hb); have n9_ := Aside0.mk (below_step (by repeat (first | (with_reducible first | exact HB.out | apply below_alloc | apply pw_below_drewN | apply below_drew1 | refine below_set ?_ GE285.out | refine below_set ?_ GE296.out | refine below_set ?_ GE301.out | refine below_set ?_ GE307.out | refine below_set ?_ GE329.out) | exact HB.out)) hb); clear HO_297001; clear HO_302001; clear HO_308001; clear HO_330001; clear BK285; clear BK296; clear BK301; clear BK307; clear BK329; clear HB; have HO_297001 := n0_; have HO_302001 := n1_; have HO_308001 := n2_; have HO_330001 := n3_; have BK285 := n4_; have BK296 := n5_; have BK301 := n6_; have BK307 := n7_; have BK329 := n8_; have HB := n9_; clear n0_ n1_ n2_ n3_ n4_ n5_ n6_ n7_ n8_ n9_; (try clear hb); (try clear hb2); (try clear hk); (try clear hi)))
                                go_ret
                                exact ⟨by first | rfl | (simp [errW_none, errW_some] <;> rfl) | (simp [*, errW_none, errW_some] <;> rfl), by repeat (first | (with_reducible first | exact HB.out | apply below_alloc | apply pw_below_drewN | apply below_drew1 | refine below_set ?_ GE285.out | refine below_set ?_ GE296.out | refine below_set ?_ GE301.out | refine below_set ?_ GE307.out | refine below_set ?_ GE329.out) | exact HB.out)⟩
                    · rw [if_neg c100] at H
                      have c100b0 : (t319 == t317) = false := beq_eq_false_iff_ne.mpr c100
                      have c100b1 : (t319 != t317) = true := bne_iff_ne.mpr c100
                      obtain rfl := Option.some.inj H
                      have hnb168 := NB307_285.out
                      have hnc168 := NB285_307.out
                      have hnb169 := NB307_296.out
                      have hnc169 := NB296_307.out
                      have hnb170 := NB307_301.out
                      have hnc170 := NB301_307.out
                      have hcz171_0 : wc.cell? ⟨gb307, 0, none⟩ = some (.int .i64 t302) := (blk_cell BK307.out 0).trans rfl
                      have hcz171_1 : wc.cell? ⟨gb307, 1, none⟩ = some (.slice Ao36 t303.length co36) := (blk_cell BK307.out 1).trans rfl
                      have hfz171_0 := blk_frozen BK307.out 0
                      have hfz171_1 := blk_frozen BK307.out 1
                      go_wp2_with (first | ((with_reducible refine gate_callee (f := 38) rfl ?_); refine goesL_ (some 64) rfl rfl Try.func38 (by kernel_rfl) rfl #[.agg #[.int .i64 t302, .slice Ao36 t303.length co36], .int .i64 1] rfl (by (try simp only [List.map_toArray, List.map_cons, List.map_nil]); first | done | rfl | (simp only [List.length_drop, List.length_take]; rfl)) ?_; (with_reducible refine (laws_markTournament.calls kj59 t302 (fun k_ => some k_ = (.slice Ao36 t303.length co36 : Value).ownBlock) (.slice Ao36 t303.length co36) t303 1 t317 t318 w _ ?side1 ?side2 A90.out).mono ?_); (case side1 => repeat (first | (with_reducible first | exact HB.out | apply below_alloc | apply pw_below_drewN | apply below_drew1 | refine below_set ?_ GE285.out | refine below_set ?_ GE296.out | refine below_set ?_ GE301.out | refine below_set ?_ GE307.out) | exact HB.out)); (case side2 => exact Kd.R_tight rfl HO_308001.out); rintro e w172 ⟨rfl, hy0, hb, hkp⟩; refine ⟨_, rfl, ?_⟩; have n0_ := Aside0.mk (Kd.R_mono (ok' := fun k_ => some k_ ≠ (.slice Ao29 t315.length co29 : Value).ownBlock ∧ some k_ ≠ (.slice Ao36 t303.length co36 : Value).ownBlock) (Kd.R_keptB (HO_297001.out) hkp (fun k_ hk_ hs_ => (hk_.2) hs_)) (fun k_ hk_ => ⟨hk_.1.1, hk_.1.2⟩)); have n1_ := Aside0.mk (Kd.R_mono (ok' := fun k_ => some k_ ≠ (.slice Ao22 t292.length co22 : Value).ownBlock ∧ some k_ ≠ (.slice Ao36 t303.length co36 : Value).ownBlock) (Kd.R_keptB (HO_302001.out) hkp (fun k_ hk_ hs_ => (hk_.2) hs_)) (fun k_ hk_ => ⟨hk_.1.1, hk_.1.2⟩)); have n2_ := Aside0.mk (Kd.R_reok rfl hy0 (fun k_ e_ => HO_308001.out.1 k_ e_)); have n3_ := Aside0.mk (blk_kept (by (with_reducible repeat (first | refine blk_drewN ?_ _ | refine blk_drew ?_ | refine blk_alloc ?_ _)); exact BK285.out) hkp (fun hs_ => (fun e_ => (Kd.R_ne HO_308001.out BK285.out (by decide)) e_) hs_)); have n4_ := Aside0.mk (blk_kept (by (with_reducible repeat (first | refine blk_drewN ?_ _ | refine blk_drew ?_ | refine blk_alloc ?_ _)); exact BK296.out) hkp (fun hs_ => (fun e_ => (Kd.R_ne HO_308001.out BK296.out (by decide)) e_) hs_)); have n5_ := Aside0.mk (blk_kept (by (with_reducible repeat (first | refine blk_drewN ?_ _ | refine blk_drew ?_ | refine blk_alloc ?_ _)); exact BK301.out) hkp (fun hs_ => (fun e_ => (Kd.R_ne HO_308001.out BK301.out (by decide)) e_) hs_)); have n6_ := Aside0.mk (blk_kept (by (with_reducible repeat (first | refine blk_drewN ?_ _ | refine blk_drew ?_ | refine blk_alloc ?_ _)); exact BK307.out) hkp (fun hs_ => (fun e_ => (Kd.R_ne HO_308001.out BK307.out (by decide)) e_) hs_)); have n7_ := Aside0.mk (hb); clear HO_297001; clear HO_302001; clear HO_308001; clear BK285; clear BK296; clear BK301; clear BK307; clear HB; have HO_297001 := n0_; have HO_302001 := n1_; have HO_308001 := n2_; have BK285 := n3_; have BK296 := n4_; have BK301 := n5_; have BK307 := n6_; have HB := n7_; clear n0_ n1_ n2_ n3_ n4_ n5_ n6_ n7_; (try clear hb); (try clear hkp); (try clear hy0); have hcz173_0 : w172.cell? ⟨gb307, 0, none⟩ = some (.int .i64 t302) := (blk_cell BK307.out 0).trans rfl; have hcz173_1 : w172.cell? ⟨gb307, 1, none⟩ = some (.slice Ao36 t303.length co36) := (blk_cell BK307.out 1).trans rfl; have hfz173_0 := blk_frozen BK307.out 0; have hfz173_1 := blk_frozen BK307.out 1) | ((with_reducible refine gate_callee (f := 39) rfl ?_); refine goesL_ (some 67) rfl rfl Try.func39 (by kernel_rfl) rfl #[.agg #[.int .i64 t302, .slice Ao36 t318.length co36], .int .i64 1] rfl (by (try simp only [List.map_toArray, List.map_cons, List.map_nil]); first | done | (rw [show t318.length = t303.length from (Kd.R_reads' HO_308001.out).1.symm] <;> rfl) | rfl | (simp only [List.length_drop, List.length_take]; rfl)) ?_; (with_reducible refine (laws_heldTournament.calls kj59 t302 _ _ t318 1 t319 _ ?side1 ?side2 A91.out).mono ?_); (case side1 => repeat (first | exact (Kd.R_reads' HO_308001.out).2.2 | (with_reducible refine Kd.C_alloc ?_ _) | (with_reducible refine Kd.C_drewN ?_ _) | (with_reducible refine Kd.C_drew ?_))); (case side2 => rw [show t318.length = t303.length from (Kd.R_reads' HO_308001.out).1.symm]; exact (Kd.R_reads' HO_308001.out).2.1); rintro e w174 ⟨rfl, hb⟩; refine ⟨_, rfl, ?_⟩; have n0_ := Aside0.mk (Kd.R_below (by (with_reducible repeat (first | apply Kd.R_alloc | apply Kd.R_drewN | apply Kd.R_drew)); exact HO_297001.out) hb); have n1_ := Aside0.mk (Kd.R_below (by (with_reducible repeat (first | apply Kd.R_alloc | apply Kd.R_drewN | apply Kd.R_drew)); exact HO_302001.out) hb); have n2_ := Aside0.mk (Kd.R_below (by (with_reducible repeat (first | apply Kd.R_alloc | apply Kd.R_drewN | apply Kd.R_drew)); exact HO_308001.out) hb); have n3_ := Aside0.mk (blk_below (g := gb285) (o := .cells #[.int .i64 a0_0, .slice A0_1 l0_1.length c0_1] 30 (0, 0)) (by (with_reducible repeat (first | refine blk_drewN ?_ _ | refine blk_drew ?_ | refine blk_alloc ?_ _)); exact BK285.out) hb); have n4_ := Aside0.mk (blk_below (g := gb296) (o := .cells #[.int .i64 t291, .slice Ao22 t292.length co22] 33 (0, 0)) (by (with_reducible repeat (first | refine blk_drewN ?_ _ | refine blk_drew ?_ | refine blk_alloc ?_ _)); exact BK296.out) hb); have n5_ := Aside0.mk (blk_below (g := gb301) (o := .cells #[.int .i64 t297, .slice Ao29 t315.length co29] 33 (0, 0)) (by (with_reducible repeat (first | refine blk_drewN ?_ _ | refine blk_drew ?_ | refine blk_alloc ?_ _)); exact BK301.out) hb); have n6_ := Aside0.mk (blk_below (g := gb307) (o := .cells #[.int .i64 t302, .slice Ao36 t303.length co36] 33 (0, 0)) (by (with_reducible repeat (first | refine blk_drewN ?_ _ | refine blk_drew ?_ | refine blk_alloc ?_ _)); exact BK307.out) hb); have n7_ := Aside0.mk (below_step (by repeat (first | (with_reducible first | exact HB.out | apply below_alloc | apply pw_below_drewN | apply below_drew1 | refine below_set ?_ GE285.out | refine below_set ?_ GE296.out | refine below_set ?_ GE301.out | refine below_set ?_ GE307.out) | exact HB.out)) hb); clear HO_297001; clear HO_302001; clear HO_308001; clear BK285; clear BK296; clear BK301; clear BK307; clear HB; have HO_297001 := n0_; have HO_302001 := n1_; have HO_308001 := n2_; have BK285 := n3_; have BK296 := n4_; have BK301 := n5_; have BK307 := n6_; have HB := n7_; clear n0_ n1_ n2_ n3_ n4_ n5_ n6_ n7_; (try clear hb); (try clear hb2); (try clear hk); (try clear hi)))
                      go_ret
                      exact ⟨by first | rfl | (simp [errW_none, errW_some] <;> rfl) | (simp [*, errW_none, errW_some] <;> rfl), by repeat (first | (with_reducible first | exact HB.out | apply below_alloc | apply pw_below_drewN | apply below_drew1 | refine below_set ?_ GE285.out | refine below_set ?_ GE296.out | refine below_set ?_ GE301.out | refine below_set ?_ GE307.out) | exact HB.out)⟩
          · replace c58 := Bool.eq_false_iff.mpr c58
            subst c58
            have H1 : (some false) = some r := by rw [if_neg (show ¬ (false = true) by decide)] at H; exact H
            clear H
            have H := H1
            clear H1
            obtain rfl := Option.some.inj H
            try go_wp2
            have n0_ := Aside0.mk (Kd.R_drew HO_297001.out)
            have n1_ := Aside0.mk (Kd.R_drew HO_302001.out)
            have n2_ := Aside0.mk (Kd.R_drew HO_308001.out)
            have n3_ := Aside0.mk (blk_drew BK285.out)
            have n4_ := Aside0.mk (blk_drew BK296.out)
            have n5_ := Aside0.mk (blk_drew BK301.out)
            have n6_ := Aside0.mk (blk_drew BK307.out)
            have n7_ := Aside0.mk (below_drew1 HB.out)
            clear HO_297001
            clear HO_302001
            clear HO_308001
            clear BK285
            clear BK296
            clear BK301
            clear BK307
            clear HB
            have HO_297001 := n0_
            have HO_302001 := n1_
            have HO_308001 := n2_
            have BK285 := n3_
            have BK296 := n4_
            have BK301 := n5_
            have BK307 := n6_
            have HB := n7_
            clear n0_ n1_ n2_ n3_ n4_ n5_ n6_ n7_
            refine start_ (n := 5) (S := fun w' => w'.cell? ⟨gb301, 0, none⟩ = some (.int .i64 t297) ∧ w'.cell? ⟨gb301, 1, none⟩ = some (.slice Ao29 t298.length co29) ∧ w'.cell? ⟨gb285, 0, none⟩ = some (.int .i64 a0_0) ∧ w'.cell? ⟨gb285, 1, none⟩ = some (.slice A0_1 l0_1.length c0_1)) (ds := []) #[false, false, false, false, false] (by kernel_rfl) rfl rfl ⟨(blk_cell BK301.out 0).trans rfl, (blk_cell BK301.out 1).trans rfl, (blk_cell BK285.out 0).trans rfl, (blk_cell BK285.out 1).trans rfl⟩ (fun hHeld => ?_)
            generalize wc.drew = w175 at HO_297001 HO_302001 HO_308001 BK285 BK296 BK301 BK307 HB hHeld ⊢
            refine take_ (i := 0) (N := some 41) (v := ?_) (a' := ?_) #[true, false, false, false, false] rfl rfl (by kernel_rfl) (fun _ _ _ h => h) (Or.inl ⟨by rfl, ?_⟩) hHeld ?_ ?_
            rotate_left
            · rintro w' ⟨s0, s1, s2, s3⟩
              go_simp
              with_reducible rfl
            rotate_left
            · simp only [Act.put, List.setIfInBounds_toArray, List.set_cons_zero, List.set_cons_succ, i64_w, i32_w]
              rfl
            refine take_ (i := 1) (N := some 42) (v := ?_) (a' := ?_) #[true, true, false, false, false] rfl rfl (by kernel_rfl) (fun _ _ _ h => h) (Or.inl ⟨by rfl, ?_⟩) hHeld ?_ ?_
            rotate_left
            · rintro w' ⟨s0, s1, s2, s3⟩
              go_simp
              with_reducible rfl
            rotate_left
            · simp only [Act.put, List.setIfInBounds_toArray, List.set_cons_zero, List.set_cons_succ, i64_w, i32_w]
              rfl
            refine one_ (i := 2) (N := some 43) #[true, true, true, false, false] rfl rfl (by kernel_rfl) (by decide) (fun K hK => ?_)
            refine goes_ Try.func33 (by kernel_rfl) rfl #[.agg #[.int .i64 a0_0, .slice A0_1 l0_1.length c0_1]] (by rfl) rfl rfl (by (try simp only [List.map_toArray, List.map_cons, List.map_nil]); first | done | rfl | (simp only [List.length_drop, List.length_take]; rfl)) ?_
            with_reducible refine (laws_toTournament.calls kj10 a0_0 _ _ l0_1 t309 t310 _ ?side1 ?side2 A56.out).mono ?_
            (case side1 => repeat (first | exact (Kd.C_below HR0_1.out HB.out) | (with_reducible refine Kd.C_alloc ?_ _) | (with_reducible refine Kd.C_drewN ?_ _) | (with_reducible refine Kd.C_drew ?_)))
            (case side2 => exact HC0_1.out)
            rintro e w176 ⟨v311, rfl, ho0, hb⟩
            refine ⟨_, rfl, ?_⟩
            have n0_ := Aside0.mk (Kd.R_elder' (by (with_reducible repeat (first | apply Kd.R_alloc | apply Kd.R_drewN | apply Kd.R_drew)); exact HO_297001.out) (Kd.R_base ho0) hb)
            have n1_ := Aside0.mk (Kd.R_elder' (by (with_reducible repeat (first | apply Kd.R_alloc | apply Kd.R_drewN | apply Kd.R_drew)); exact HO_302001.out) (Kd.R_base ho0) hb)
            have n2_ := Aside0.mk (Kd.R_elder' (by (with_reducible repeat (first | apply Kd.R_alloc | apply Kd.R_drewN | apply Kd.R_drew)); exact HO_308001.out) (Kd.R_base ho0) hb)
            have n3_ := Aside0.mk (Kd.R_lower (Kd.R_new' (Kd.R_new' (Kd.R_new' ho0 (Kd.R_lt (by (with_reducible repeat (first | apply Kd.R_alloc | apply Kd.R_drewN | apply Kd.R_drew)); exact HO_297001.out))) (Kd.R_lt (by (with_reducible repeat (first | apply Kd.R_alloc | apply Kd.R_drewN | apply Kd.R_drew)); exact HO_302001.out))) (Kd.R_lt (by (with_reducible repeat (first | apply Kd.R_alloc | apply Kd.R_drewN | apply Kd.R_drew)); exact HO_308001.out))) (below_size (by repeat (first | (with_reducible first | exact HB.out | apply below_alloc | apply pw_below_drewN | apply below_drew1 | refine below_set ?_ GE285.out | refine below_set ?_ GE296.out | refine below_set ?_ GE301.out | refine below_set ?_ GE307.out) | exact HB.out))))
            have n4_ := Aside0.mk (blk_below (g := gb285) (o := .cells #[.int .i64 a0_0, .slice A0_1 l0_1.length c0_1] 30 (0, 0)) (by (with_reducible repeat (first | refine blk_drewN ?_ _ | refine blk_drew ?_ | refine blk_alloc ?_ _)); exact BK285.out) hb)
            have n5_ := Aside0.mk (blk_below (g := gb296) (o := .cells #[.int .i64 t291, .slice Ao22 t292.length co22] 33 (0, 0)) (by (with_reducible repeat (first | refine blk_drewN ?_ _ | refine blk_drew ?_ | refine blk_alloc ?_ _)); exact BK296.out) hb)
            have n6_ := Aside0.mk (blk_below (g := gb301) (o := .cells #[.int .i64 t297, .slice Ao29 t298.length co29] 33 (0, 0)) (by (with_reducible repeat (first | refine blk_drewN ?_ _ | refine blk_drew ?_ | refine blk_alloc ?_ _)); exact BK301.out) hb)
            have n7_ := Aside0.mk (blk_below (g := gb307) (o := .cells #[.int .i64 t302, .slice Ao36 t303.length co36] 33 (0, 0)) (by (with_reducible repeat (first | refine blk_drewN ?_ _ | refine blk_drew ?_ | refine blk_alloc ?_ _)); exact BK307.out) hb)
            have n8_ := Aside0.mk (below_step (by repeat (first | (with_reducible first | exact HB.out | apply below_alloc | apply pw_below_drewN | apply below_drew1 | refine below_set ?_ GE285.out | refine below_set ?_ GE296.out | refine below_set ?_ GE301.out | refine below_set ?_ GE307.out) | exact HB.out)) hb)
            clear HO_297001
            clear HO_302001
            clear HO_308001
            clear BK285
            clear BK296
            clear BK301
            clear BK307
            clear HB
            have HO_297001 := n0_
            have HO_302001 := n1_
            have HO_308001 := n2_
            have HO312 := n3_
            have BK285 := n4_
            have BK296 := n5_
            have BK301 := n6_
            have BK307 := n7_
            have HB := n8_
            clear n0_ n1_ n2_ n3_ n4_ n5_ n6_ n7_ n8_
            (try clear hb)
            (try clear hb2)
            (try clear hk)
            (try clear hi)
            (try clear ho0)
            obtain ⟨Ao177, co177, eo177⟩ := Kd.R_slice HO312.out
            (first | subst eo177 | (injection eo177 with f1_ f2_ f3_; have f4_ := f1_.symm; have f5_ := f3_.symm; clear f1_ f2_ f3_; subst f4_; subst f5_))
            refine hK.out _ _ ⟨(blk_cell BK301.out 0).trans rfl, (blk_cell BK301.out 1).trans rfl, (blk_cell BK285.out 0).trans rfl, (blk_cell BK285.out 1).trans rfl⟩ (fun hHeld => ?_)
            clear hK K
            refine norm_ (a' := ?_) ?_ ?_
            rotate_left
            · show Act.put _ (some 43) _ = _
              simp only [Act.put, List.setIfInBounds_toArray, List.set_cons_zero, List.set_cons_succ, i64_w, i32_w]
              rfl
            refine one_ (i := 3) (N := some 44) #[true, true, true, true, false] rfl rfl (by kernel_rfl) (by decide) (fun K hK => ?_)
            refine goes_ Try.func35 (by kernel_rfl) rfl #[.agg #[.int .i64 t297, .slice Ao29 t298.length co29], .agg #[.int .i64 t309, .slice Ao177 t310.length co177]] (by rfl) rfl rfl (by (try simp only [List.map_toArray, List.map_cons, List.map_nil]); first | done | rfl | (simp only [List.length_drop, List.length_take]; rfl)) ?_
            with_reducible refine (laws_eqTournament.calls kj10 t297 _ _ t298 t309 _ _ t310 false _ ?side1 ?side2 ?side3 ?side4 A57.out).mono ?_
            (case side1 => repeat (first | exact (Kd.R_reads' HO_302001.out).2.2 | (with_reducible refine Kd.C_alloc ?_ _) | (with_reducible refine Kd.C_drewN ?_ _) | (with_reducible refine Kd.C_drew ?_)))
            (case side2 => exact (Kd.R_reads' HO_302001.out).2.1)
            (case side3 => repeat (first | exact (Kd.R_reads' HO312.out).2.2 | (with_reducible refine Kd.C_alloc ?_ _) | (with_reducible refine Kd.C_drewN ?_ _) | (with_reducible refine Kd.C_drew ?_)))
            (case side4 => exact (Kd.R_reads' HO312.out).2.1)
            rintro e w178 ⟨rfl, hb⟩
            refine ⟨_, rfl, ?_⟩
            have n0_ := Aside0.mk (Kd.R_below (by (with_reducible repeat (first | apply Kd.R_alloc | apply Kd.R_drewN | apply Kd.R_drew)); exact HO_297001.out) hb)
            have n1_ := Aside0.mk (Kd.R_below (by (with_reducible repeat (first | apply Kd.R_alloc | apply Kd.R_drewN | apply Kd.R_drew)); exact HO_302001.out) hb)
            have n2_ := Aside0.mk (Kd.R_below (by (with_reducible repeat (first | apply Kd.R_alloc | apply Kd.R_drewN | apply Kd.R_drew)); exact HO_308001.out) hb)
            have n3_ := Aside0.mk (Kd.R_below (by (with_reducible repeat (first | apply Kd.R_alloc | apply Kd.R_drewN | apply Kd.R_drew)); exact HO312.out) hb)
            have n4_ := Aside0.mk (blk_below (g := gb285) (o := .cells #[.int .i64 a0_0, .slice A0_1 l0_1.length c0_1] 30 (0, 0)) (by (with_reducible repeat (first | refine blk_drewN ?_ _ | refine blk_drew ?_ | refine blk_alloc ?_ _)); exact BK285.out) hb)
            have n5_ := Aside0.mk (blk_below (g := gb296) (o := .cells #[.int .i64 t291, .slice Ao22 t292.length co22] 33 (0, 0)) (by (with_reducible repeat (first | refine blk_drewN ?_ _ | refine blk_drew ?_ | refine blk_alloc ?_ _)); exact BK296.out) hb)
            have n6_ := Aside0.mk (blk_below (g := gb301) (o := .cells #[.int .i64 t297, .slice Ao29 t298.length co29] 33 (0, 0)) (by (with_reducible repeat (first | refine blk_drewN ?_ _ | refine blk_drew ?_ | refine blk_alloc ?_ _)); exact BK301.out) hb)
            have n7_ := Aside0.mk (blk_below (g := gb307) (o := .cells #[.int .i64 t302, .slice Ao36 t303.length co36] 33 (0, 0)) (by (with_reducible repeat (first | refine blk_drewN ?_ _ | refine blk_drew ?_ | refine blk_alloc ?_ _)); exact BK307.out) hb)
            have n8_ := Aside0.mk (below_step (by repeat (first | (with_reducible first | exact HB.out | apply below_alloc | apply pw_below_drewN | apply below_drew1 | refine below_set ?_ GE285.out | refine below_set ?_ GE296.out | refine below_set ?_ GE301.out | refine below_set ?_ GE307.out) | exact HB.out)) hb)
            clear HO_297001
            clear HO_302001
            clear HO_308001
            clear HO312
            clear BK285
            clear BK296
            clear BK301
            clear BK307
            clear HB
            have HO_297001 := n0_
            have HO_302001 := n1_
            have HO_308001 := n2_
            have HO312 := n3_
            have BK285 := n4_
            have BK296 := n5_
            have BK301 := n6_
            have BK307 := n7_
            have HB := n8_
            clear n0_ n1_ n2_ n3_ n4_ n5_ n6_ n7_ n8_
            (try clear hb)
            (try clear hb2)
            (try clear hk)
            (try clear hi)
            refine hK.out _ _ ⟨(blk_cell BK301.out 0).trans rfl, (blk_cell BK301.out 1).trans rfl, (blk_cell BK285.out 0).trans rfl, (blk_cell BK285.out 1).trans rfl⟩ (fun hHeld => ?_)
            clear hK K
            refine norm_ (a' := ?_) ?_ ?_
            rotate_left
            · show Act.put _ (some 44) _ = _
              simp only [Act.put, List.setIfInBounds_toArray, List.set_cons_zero, List.set_cons_succ, i64_w, i32_w]
              rfl
            refine pure_ (i := 4) (N := some 45) (v := ?_) (a' := ?_) #[true, true, true, true, true] rfl rfl (by kernel_rfl) (fun _ _ _ h => h) (Or.inl ⟨by rfl, ?_⟩) ?_ ?_
            rotate_left
            · intro w'
              go_simp
              with_reducible rfl
            rotate_left
            · simp only [Act.put, List.setIfInBounds_toArray, List.set_cons_zero, List.set_cons_succ, i64_w, i32_w]
              rfl
            refine done_ (by kernel_rfl) ?_
            try go_wp2
            go_ret
            exact ⟨by first | rfl | (simp [errW_none, errW_some] <;> rfl) | (simp [*, errW_none, errW_some] <;> rfl), by repeat (first | (with_reducible first | exact HB.out | apply below_alloc | apply pw_below_drewN | apply below_drew1 | refine below_set ?_ GE285.out | refine below_set ?_ GE296.out | refine below_set ?_ GE301.out | refine below_set ?_ GE307.out) | exact HB.out)⟩

end Go.Proofs.Ytjkhdblhbjndiaa.P

namespace Go.Proofs.Ytjkhdblhbjndiaa.K
open Go.RowKit Go.Proofs.YtjkhdblhbjndiaaW.PrintWords
set_option linter.unusedVariables false
set_option linter.unusedSimpArgs false

/-- A bound on the lengths of rows that come in. -/
abbrev BM : Nat := 17592186044416
theorem le_BM {n : Nat} (h : n * 8 ≤ 140737488351232) : n ≤ BM := by simp only [BM]; omega
theorem wrap_id {x : Int} (h1 : -9223372036854775808 ≤ x) (h2 : x < 9223372036854775808) : wrap64 x = x := by unfold wrap64; omega
/-- The head of a round of a loop over a list. -/
theorem mid (x : Int) (done rest : List Int) (h : (done ++ x :: rest).length ≤ BM) :
    ((done.length : Int) < ((done ++ x :: rest).length : Int)) ∧ 0 ≤ (done.length : Int) ∧ rd (done ++ x :: rest) (done.length : Int) = x ∧ wrap64 ((done.length : Int) + 1) = ((done ++ [x]).length : Int) ∧ done ++ [x] ++ rest = done ++ x :: rest := by
  simp only [BM] at h
  refine ⟨by simp; omega, by omega, by simp [rd], ?_, by simp⟩
  simp at h ⊢
  unfold wrap64; omega
theorem Ev.ite {α : Type} {c : Prop} [Decidable c] {f g : Nat → Option α} {r : α} (h1 : c → Ev f r) (h2 : ¬ c → Ev g r) : Ev (fun k => if c then f k else g k) r := by
  by_cases h : c
  · simpa [h] using h1 h
  · simpa [h] using h2 h
theorem Ev.some {α : Type} {r r' : α} (h : r = r') : Ev (fun _ => Option.some r) r' := h ▸ Ev.now r
theorem Ev.pair {α : Type} {f : Nat → Option α} {r r' : α} (h : Ev f r) (e : r = r') : Ev f r' := e ▸ h
theorem set_mid (y x : Int) (done rest : List Int) : (done ++ y :: rest).set (done.length : Int).toNat x = done ++ [x] ++ rest := by simp

end Go.Proofs.Ytjkhdblhbjndiaa.K

namespace Go.Proofs.Ytjkhdblhbjndiaa.K
open Go.RowKit Go.Proofs.YtjkhdblhbjndiaaW.PrintWords Go.Proofs.Ytjkhdblhbjndiaa.P
set_option linter.unusedVariables false
set_option linter.unusedSimpArgs false

theorem toIntS_l0 : ∀ (rest done : List Int) , (done ++ rest).length ≤ BM → Ev (fun k => laws_toIntS.l0 k (done ++ rest) (done ++ List.replicate rest.length 0) done.length) (done ++ rest) := by
  intro rest
  induction rest with
  | nil => intro done h; exact Ev.step (fun k => by simp [laws_toIntS.l0]; rfl) (Ev.some (by simp))
  | cons x rest ih =>
    intro done h
    have ih' := ih (done ++ [x])
    obtain ⟨h1, h2, h3, h4, h5⟩ := mid x done rest h
    rw [h5] at ih'
    refine Ev.step (fun k => by rw [laws_toIntS.l0]) ?_
    have h6 : (done.length : Int) < ((done ++ List.replicate (x :: rest).length (0:Int)).length : Int) := by simp; omega
    simp only [if_pos h1, if_pos h2, if_pos h6, h3, h4]
    rw [List.length_cons, List.replicate_succ, set_mid]
    exact ih' h
theorem toIntS_f (l : List Int) (h : l.length ≤ BM) : Ev (fun k => laws_toIntS.f k l) l := by
  unfold laws_toIntS.f
  simp only [BM] at h
  have e1 : 0 ≤ (l.length : Int) := by omega
  have e2 : (l.length : Int).toNat ≤ 35184372088832 := by omega
  simp only [if_pos e1, if_pos e2]
  exact toIntS_l0 l [] h
theorem eqIntS_l0 : ∀ (rest done rest2 done2 : List Int), done.length = done2.length → rest.length = rest2.length → (done ++ rest).length ≤ BM → Ev (fun k => laws_eqIntS.l0 k (done ++ rest) (done2 ++ rest2) done.length) (decide (rest = rest2)) := by
  intro rest
  induction rest with
  | nil =>
    intro done rest2 done2 hl hl2 h
    obtain rfl : rest2 = [] := by simpa using hl2.symm
    exact Ev.step (fun k => by simp [laws_eqIntS.l0]; rfl) (Ev.some (by simp))
  | cons x rest ih =>
    intro done rest2 done2 hl hl2 h
    obtain ⟨y, rest2, rfl⟩ : ∃ y r, rest2 = y :: r := by cases rest2 with | nil => simp at hl2 | cons y r => exact ⟨y, r, rfl⟩
    have ih' := ih (done ++ [x]) rest2 (done2 ++ [y]) (by simp [hl]) (by simpa using hl2)
    obtain ⟨h1, h2, h3, h4, h5⟩ := mid x done rest h
    have hh : (done2 ++ y :: rest2).length ≤ BM := by simp at h hl2 ⊢; omega
    obtain ⟨g1, g2, g3, g4, g5⟩ := mid y done2 rest2 hh
    rw [h5, g5] at ih'
    refine Ev.step (fun k => by rw [laws_eqIntS.l0]) ?_
    rw [← hl] at g1 g3
    simp only [if_pos h1, if_pos h2, if_pos g1, h3, h4, g3]
    refine Ev.ite (fun e => ?_) (fun e => ?_)
    · subst e; simpa using ih' h
    · exact Ev.some (by simp [e])
theorem eqIntS_f (l m : List Int) (h : l.length ≤ BM) : Ev (fun k => laws_eqIntS.f k l m) (decide (l = m)) := by
  unfold laws_eqIntS.f
  refine Ev.ite (fun e => ?_) (fun e => ?_)
  · exact eqIntS_l0 l [] m [] rfl (by omega) h
  · exact Ev.some (by symm; simp; rintro rfl; exact e rfl)
theorem eqIntS_same (l : List Int) (h : l.length ≤ BM) : Ev (fun k => laws_eqIntS.f k l l) true := by simpa using eqIntS_f l l h

end Go.Proofs.Ytjkhdblhbjndiaa.K

namespace Go.Proofs.Ytjkhdblhbjndiaa.P
open Go.RowKit Go.Proofs.YtjkhdblhbjndiaaW.PrintWords Go.Proofs.YtjkhdblhbjndiaaW.PrintLast Go.Proofs.YtjkhdblhbjndiaaW.PrintMore
attribute [local go_sem] max2_int min2_int max_two min_two max_three min_three max_four min_four   -- for this text's walks alone
set_option linter.unusedVariables false
set_option linter.unusedSimpArgs false

/-! ### spec_liGood: function 85 -/
def spec_liGood.f (k : Nat) (l0 : List Int) : Option (Bool) := (spec_l1In.f (l0.length : Int) 1 8).bind fun t104 => (if t104 = true then ((spec_l1All.f k l0 0 60).bind fun t105 => (some t105)) else (some false))
theorem spec_liGood.mono : ∀ a0 k, LeO (spec_liGood.f k a0) (spec_liGood.f (k + 1) a0) := by
  intro a0 k
  unfold spec_liGood.f
  repeat' first
      | (with_reducible exact spec_l1All.mono _ _ _ _)
      | (with_reducible exact LeO.refl _)
      | (with_reducible exact LeO.none _)
      | (with_reducible refine LeO.ite ?_ ?_)
      | (with_reducible refine LeO.bind ?_ (fun _ => ?_))
      | exact spec_l1All.mono _ _ _ _
      | exact LeO.none _
      | refine LeO.ite ?_ ?_
      | refine LeO.bind ?_ (fun _ => ?_)
set_option maxHeartbeats 8000000 in
set_option maxRecDepth 100000 in
theorem spec_liGood.calls (k : Nat) (A0 : Option Addr) (c0 : Nat) (l0 : List Int) (r : Bool) (w : World) (hr0 : Kd.C (Kd.int .i64) w A0 l0.length l0) (hc0 : l0.length ≤ c0) (h : spec_liGood.f k l0 = some r) :
    Calls Try.prog 85 #[.slice A0 l0.length c0] w fun e w' => e = .returned (.bool r) ∧ Drawn0 w w' := by
  have HR0 := Aside0.mk hr0
  have HC0 := Aside0.mk hc0
  clear hr0 hc0
  have H : ((spec_l1In.f (l0.length : Int) 1 8).bind fun t104 => (if t104 = true then ((spec_l1All.f k l0 0 60).bind fun t105 => (some t105)) else (some false))) = some r := h
  clear h
  replace H := Option.bind_eq_some_iff.mp H
  obtain ⟨t104, A20, H⟩ := H
  replace H : (if t104 = true then ((spec_l1All.f k l0 0 60).bind fun t105 => (some t105)) else (some false)) = some r := H
  have A2 := Aside0.mk A20
  clear A20
  by_cases c3 : t104 = true
  · subst c3
    have H1 : ((spec_l1All.f k l0 0 60).bind fun t105 => (some t105)) = some r := by rw [if_pos rfl] at H; exact H
    clear H
    have H := H1
    clear H1
    replace H := Option.bind_eq_some_iff.mp H
    obtain ⟨t105, A40, H⟩ := H
    replace H : (some t105) = some r := H
    have A4 := Aside0.mk A40
    clear A40
    obtain rfl := Option.some.inj H
    go_enter Try.func85, Try.ntmps85
    go_wp2_with (first | ((with_reducible refine gate_callee (f := 90) rfl ?_); refine goesL_ (some 5) rfl rfl Try.func90 (by kernel_rfl) rfl #[.int .i64 (l0.length : Int), .int .i64 1, .int .i64 8] rfl (by (try simp only [List.map_toArray, List.map_cons, List.map_nil]); first | done | rfl | (simp only [List.length_drop, List.length_take]; rfl)) ?_; (with_reducible refine (spec_l1In.calls (l0.length : Int) 1 8 true _ A2.out).mono ?_); rintro e w' ⟨rfl, ⟨nd, rfl⟩⟩; refine ⟨_, rfl, ?_⟩) | (go_at_call 142; (with_reducible refine (spec_l1All.calls k _ _ l0 0 60 t105 _ ?side1 ?side2 A4.out).mono ?_); (case side1 => repeat (first | exact HR0.out | (with_reducible refine Kd.C_alloc ?_ _) | (with_reducible refine Kd.C_drewN ?_ _) | (with_reducible refine Kd.C_drew ?_))); (case side2 => exact HC0.out); rintro e w' ⟨rfl, ⟨nd, rfl⟩⟩))
    go_ret
    exact ⟨by first | rfl | (simp; done) | (simp [*]; done), by repeat (first | exact Drawn0.refl _ | apply Drawn0.step)⟩
  · replace c3 := Bool.eq_false_iff.mpr c3
    subst c3
    have H1 : (some false) = some r := by rw [if_neg (show ¬ (false = true) by decide)] at H; exact H
    clear H
    have H := H1
    clear H1
    obtain rfl := Option.some.inj H
    go_enter Try.func85, Try.ntmps85
    go_wp2_with (first | ((with_reducible refine gate_callee (f := 90) rfl ?_); refine goesL_ (some 5) rfl rfl Try.func90 (by kernel_rfl) rfl #[.int .i64 (l0.length : Int), .int .i64 1, .int .i64 8] rfl (by (try simp only [List.map_toArray, List.map_cons, List.map_nil]); first | done | rfl | (simp only [List.length_drop, List.length_take]; rfl)) ?_; (with_reducible refine (spec_l1In.calls (l0.length : Int) 1 8 false _ A2.out).mono ?_); rintro e w' ⟨rfl, ⟨nd, rfl⟩⟩; refine ⟨_, rfl, ?_⟩))
    go_ret
    exact ⟨by first | rfl | (simp; done) | (simp [*]; done), by repeat (first | exact Drawn0.refl _ | apply Drawn0.step)⟩

end Go.Proofs.Ytjkhdblhbjndiaa.P

namespace Go.Proofs.Ytjkhdblhbjndiaa.P
open Go.RowKit Go.Proofs.YtjkhdblhbjndiaaW.PrintWords Go.Proofs.YtjkhdblhbjndiaaW.PrintLast Go.Proofs.YtjkhdblhbjndiaaW.PrintMore
attribute [local go_sem] max2_int min2_int max_two min_two max_three min_three max_four min_four   -- for this text's walks alone
set_option linter.unusedVariables false
set_option linter.unusedSimpArgs false

/-! ### impl_IsList: function 75 -/
def impl_IsList.f (k : Nat) (l0 : List Int) : Option (Bool) := (impl_within.f (l0.length : Int) 1 8).bind fun t117 => (if t117 = true then ((impl_allWithin.f k l0 0 60).bind fun t118 => (some t118)) else (some false))
theorem impl_IsList.mono : ∀ a0 k, LeO (impl_IsList.f k a0) (impl_IsList.f (k + 1) a0) := by
  intro a0 k
  unfold impl_IsList.f
  repeat' first
      | (with_reducible exact impl_allWithin.mono _ _ _ _)
      | (with_reducible exact LeO.refl _)
      | (with_reducible exact LeO.none _)
      | (with_reducible refine LeO.ite ?_ ?_)
      | (with_reducible refine LeO.bind ?_ (fun _ => ?_))
      | exact impl_allWithin.mono _ _ _ _
      | exact LeO.none _
      | refine LeO.ite ?_ ?_
      | refine LeO.bind ?_ (fun _ => ?_)
set_option maxHeartbeats 8000000 in
set_option maxRecDepth 100000 in
theorem impl_IsList.calls (k : Nat) (A0 : Option Addr) (c0 : Nat) (l0 : List Int) (r : Bool) (w : World) (hr0 : Kd.C (Kd.int .i64) w A0 l0.length l0) (hc0 : l0.length ≤ c0) (h : impl_IsList.f k l0 = some r) :
    Calls Try.prog 75 #[.slice A0 l0.length c0] w fun e w' => e = .returned (.bool r) ∧ Drawn0 w w' := by
  have HR0 := Aside0.mk hr0
  have HC0 := Aside0.mk hc0
  clear hr0 hc0
  have H : ((impl_within.f (l0.length : Int) 1 8).bind fun t117 => (if t117 = true then ((impl_allWithin.f k l0 0 60).bind fun t118 => (some t118)) else (some false))) = some r := h
  clear h
  replace H := Option.bind_eq_some_iff.mp H
  obtain ⟨t117, A20, H⟩ := H
  replace H : (if t117 = true then ((impl_allWithin.f k l0 0 60).bind fun t118 => (some t118)) else (some false)) = some r := H
  have A2 := Aside0.mk A20
  clear A20
  by_cases c3 : t117 = true
  · subst c3
    have H1 : ((impl_allWithin.f k l0 0 60).bind fun t118 => (some t118)) = some r := by rw [if_pos rfl] at H; exact H
    clear H
    have H := H1
    clear H1
    replace H := Option.bind_eq_some_iff.mp H
    obtain ⟨t118, A40, H⟩ := H
    replace H : (some t118) = some r := H
    have A4 := Aside0.mk A40
    clear A40
    obtain rfl := Option.some.inj H
    go_enter Try.func75, Try.ntmps75
    go_wp2_with (first | ((with_reducible refine gate_callee (f := 92) rfl ?_); refine goesL_ (some 5) rfl rfl Try.func92 (by kernel_rfl) rfl #[.int .i64 (l0.length : Int), .int .i64 1, .int .i64 8] rfl (by (try simp only [List.map_toArray, List.map_cons, List.map_nil]); first | done | rfl | (simp only [List.length_drop, List.length_take]; rfl)) ?_; (with_reducible refine (impl_within.calls (l0.length : Int) 1 8 true _ A2.out).mono ?_); rintro e w' ⟨rfl, ⟨nd, rfl⟩⟩; refine ⟨_, rfl, ?_⟩) | (go_at_call 136; (with_reducible refine (impl_allWithin.calls k _ _ l0 0 60 t118 _ ?side1 ?side2 A4.out).mono ?_); (case side1 => repeat (first | exact HR0.out | (with_reducible refine Kd.C_alloc ?_ _) | (with_reducible refine Kd.C_drewN ?_ _) | (with_reducible refine Kd.C_drew ?_))); (case side2 => exact HC0.out); rintro e w' ⟨rfl, ⟨nd, rfl⟩⟩))
    go_ret
    exact ⟨by first | rfl | (simp; done) | (simp [*]; done), by repeat (first | exact Drawn0.refl _ | apply Drawn0.step)⟩
  · replace c3 := Bool.eq_false_iff.mpr c3
    subst c3
    have H1 : (some false) = some r := by rw [if_neg (show ¬ (false = true) by decide)] at H; exact H
    clear H
    have H := H1
    clear H1
    obtain rfl := Option.some.inj H
    go_enter Try.func75, Try.ntmps75
    go_wp2_with (first | ((with_reducible refine gate_callee (f := 92) rfl ?_); refine goesL_ (some 5) rfl rfl Try.func92 (by kernel_rfl) rfl #[.int .i64 (l0.length : Int), .int .i64 1, .int .i64 8] rfl (by (try simp only [List.map_toArray, List.map_cons, List.map_nil]); first | done | rfl | (simp only [List.length_drop, List.length_take]; rfl)) ?_; (with_reducible refine (impl_within.calls (l0.length : Int) 1 8 false _ A2.out).mono ?_); rintro e w' ⟨rfl, ⟨nd, rfl⟩⟩; refine ⟨_, rfl, ?_⟩))
    go_ret
    exact ⟨by first | rfl | (simp; done) | (simp [*]; done), by repeat (first | exact Drawn0.refl _ | apply Drawn0.step)⟩

end Go.Proofs.Ytjkhdblhbjndiaa.P

namespace Go.Proofs.Ytjkhdblhbjndiaa.K
open Go.RowKit Go.Proofs.YtjkhdblhbjndiaaW.PrintWords Go.Proofs.Ytjkhdblhbjndiaa.P
set_option linter.unusedVariables false
set_option linter.unusedSimpArgs false

/-- All numbers lie between two others. -/
def within (a b : Int) (l : List Int) : Bool := l.all fun n => decide (a ≤ n) && decide (n ≤ b)
def isList (l : List Int) : Bool := decide (1 ≤ l.length) && decide (l.length ≤ 8) && within 0 60 l
theorem l1All_l0 (a b : Int) : ∀ (rest done : List Int), (done ++ rest).length ≤ BM → Ev (fun k => spec_l1All.l0 k a b (done ++ rest) (done ++ rest).length done.length) (within a b rest) := by
  intro rest
  induction rest with
  | nil => intro done h; exact Ev.step (fun k => by simp [spec_l1All.l0]; rfl) (Ev.some (by simp [within]))
  | cons x rest ih =>
    intro done h
    have ih' := ih (done ++ [x])
    obtain ⟨h1, h2, h3, h4, h5⟩ := mid x done rest h
    rw [h5] at ih'
    refine Ev.step (fun k => by rw [spec_l1All.l0]) ?_
    simp only [if_pos h1, if_pos h2, h3, h4, spec_l1In.f]
    by_cases ha : x ≥ a
    · by_cases hb : x ≤ b
      · simpa [ha, hb, within] using ih' h
      · simpa [ha, hb, within] using Ev.now _
    · simpa [ha, within] using Ev.now _
theorem allWithin_eq : ∀ k a b xs n i, impl_allWithin.l0 k a b xs n i = spec_l1All.l0 k a b xs n i := by
  intro k
  induction k with
  | zero => intros; rfl
  | succ k ih => intros; simp only [impl_allWithin.l0, spec_l1All.l0, ih, impl_within.f, spec_l1In.f]
theorem l1All_f (l : List Int) (a b : Int) (h : l.length ≤ BM) : Ev (fun k => spec_l1All.f k l a b) (within a b l) := l1All_l0 a b l [] h
theorem allWithin_f (l : List Int) (a b : Int) (h : l.length ≤ BM) : Ev (fun k => impl_allWithin.f k l a b) (within a b l) := Ev.congr (fun k => allWithin_eq ..) (l1All_f l a b h)
theorem l1In_f (n a b : Int) : spec_l1In.f n a b = some (decide (a ≤ n) && decide (n ≤ b)) := by
  unfold spec_l1In.f; by_cases h : a ≤ n <;> simp [h]
theorem within_f (n a b : Int) : impl_within.f n a b = some (decide (a ≤ n) && decide (n ≤ b)) := l1In_f n a b
theorem liGood_f (l : List Int) (h : l.length ≤ BM) : Ev (fun k => spec_liGood.f k l) (isList l) := by
  unfold spec_liGood.f
  simp only [l1In_f, Option.bind_some]
  refine Ev.ite (fun h1 => ?_) (fun h1 => ?_)
  · exact Ev.bind (l1All_f l 0 60 h) (Ev.some (by simp at h1; simp [isList]; omega))
  · exact Ev.some (by simp at h1; simp [isList]; omega)
theorem IsList_f (l : List Int) (h : l.length ≤ BM) : Ev (fun k => impl_IsList.f k l) (isList l) := by
  unfold impl_IsList.f
  simp only [within_f, Option.bind_some]
  refine Ev.ite (fun h1 => ?_) (fun h1 => ?_)
  · exact Ev.bind (allWithin_f l 0 60 h) (Ev.some (by simp at h1; simp [isList]; omega))
  · exact Ev.some (by simp at h1; simp [isList]; omega)
theorem isList_mem {l : List Int} (h : isList l = true) : 1 ≤ l.length ∧ l.length ≤ 8 ∧ ∀ x ∈ l, 0 ≤ x ∧ x ≤ 60 := by
  simp [isList, within] at h
  exact ⟨h.1.1, h.1.2, h.2⟩

end Go.Proofs.Ytjkhdblhbjndiaa.K

namespace Go.Proofs.Ytjkhdblhbjndiaa.K
open Go.RowKit Go.Proofs.YtjkhdblhbjndiaaW.PrintWords Go.Proofs.Ytjkhdblhbjndiaa.P
set_option linter.unusedVariables false
set_option linter.unusedSimpArgs false

/-- a, a + 1, .. : n numbers. -/
def seqFrom (a : Int) : Nat → List Int
  | 0 => []
  | n + 1 => a :: seqFrom (a + 1) n
theorem seqFrom_length (a : Int) (n : Nat) : (seqFrom a n).length = n := by
  induction n generalizing a with
  | zero => rfl
  | succ n ih => simp [seqFrom, ih]
theorem markIntS_l0 : ∀ (rest done : List Int) (b : Int), (done ++ rest).length ≤ BM → 0 ≤ b → b + rest.length ≤ 4611686018427387904 → Ev (fun k => laws_markIntS.l0 k (done ++ rest) b done.length) (b + rest.length, done ++ seqFrom b rest.length) := by
  intro rest
  induction rest with
  | nil => intro done b h _ _; exact Ev.step (fun k => by simp [laws_markIntS.l0]; rfl) (Ev.some (by simp [seqFrom]))
  | cons x rest ih =>
    intro done b h hb0 hb
    obtain ⟨h1, h2, h3, h4, h5⟩ := mid x done rest h
    have ih' := ih (done ++ [b]) (b + 1) (by simpa using h) (by omega) (by simp at hb; omega)
    refine Ev.step (fun k => by rw [laws_markIntS.l0]) ?_
    have h6 : wrap64 (b + 1) = b + 1 := wrap_id (by omega) (by simp at hb; omega)
    simp only [if_pos h1, if_pos h2, h4, h6, set_mid]
    refine Ev.pair ?_ (show (b + 1 + (rest.length : Int), done ++ [b] ++ seqFrom (b + 1) rest.length) = _ by simp [seqFrom]; omega)
    simpa using ih'
theorem markIntS_f (l : List Int) (a : Int) (h : l.length ≤ BM) (h0 : 0 ≤ a) (ha : a + l.length ≤ 4611686018427387904) : Ev (fun k => laws_markIntS.f k l a) (a + l.length, seqFrom a l.length) := markIntS_l0 l [] a h h0 ha
theorem heldIntS_l0 : ∀ (n : Nat) (done : List Int) (b : Int), (done ++ seqFrom b n).length ≤ BM → 0 ≤ b → b + n ≤ 4611686018427387904 → Ev (fun k => laws_heldIntS.l0 k (done ++ seqFrom b n) b done.length) (b + n) := by
  intro n
  induction n with
  | zero => intro done b h _ _; exact Ev.step (fun k => by simp [laws_heldIntS.l0, seqFrom]; rfl) (Ev.some (by simp))
  | succ n ih =>
    intro done b h hb0 hb
    simp only [seqFrom] at h ⊢
    obtain ⟨h1, h2, h3, h4, h5⟩ := mid b done (seqFrom (b + 1) n) h
    have ih' := ih (done ++ [b]) (b + 1) (by simpa using h) (by omega) (by omega)
    rw [h5] at ih'
    refine Ev.step (fun k => by rw [laws_heldIntS.l0]) ?_
    have h6 : wrap64 (b + 1) = b + 1 := wrap_id (by omega) (by omega)
    simp only [if_pos h1, if_pos h2, h3, h4, h6, if_true]
    exact Ev.pair ih' (by omega)
theorem heldIntS_f (a : Int) (n : Nat) (h : n ≤ BM) (h0 : 0 ≤ a) (ha : a + n ≤ 4611686018427387904) : Ev (fun k => laws_heldIntS.f k (seqFrom a n) a) (a + n) := heldIntS_l0 n [] a (by simpa [seqFrom_length] using h) h0 ha

end Go.Proofs.Ytjkhdblhbjndiaa.K

namespace Go.Proofs.Ytjkhdblhbjndiaa.K
open Go.RowKit Go.Proofs.YtjkhdblhbjndiaaW.PrintWords
set_option linter.unusedVariables false
set_option linter.unusedSimpArgs false

/-- From some number of rounds on, the answer is whether P holds. -/
def EvB (g : Nat → Option Bool) (P : Prop) : Prop := (P → Ev g true) ∧ (¬ P → Ev g false)
theorem EvB.congr {g : Nat → Option Bool} {P Q : Prop} (h : EvB g P) (e : P ↔ Q) : EvB g Q := ⟨fun q => h.1 (e.2 q), fun q => h.2 (fun p => q (e.1 p))⟩
theorem EvB.ev {g : Nat → Option Bool} {P : Prop} (h : EvB g P) : ∃ b : Bool, Ev g b ∧ (b = true ↔ P) := by
  by_cases p : P
  · exact ⟨true, h.1 p, by simp [p]⟩
  · exact ⟨false, h.2 p, by simp [p]⟩
theorem EvB.of {g : Nat → Option Bool} {P : Prop} {b : Bool} (h : Ev g b) (e : b = true ↔ P) : EvB g P := by
  cases b with
  | true => exact ⟨fun _ => h, fun p => absurd (e.1 rfl) p⟩
  | false => exact ⟨fun p => absurd (e.2 p) (by simp), fun _ => h⟩
theorem EvB.true_ : EvB (fun _ => some true) True := ⟨fun _ => Ev.now _, fun h => absurd trivial h⟩
theorem EvB.false_ : EvB (fun _ => some false) False := ⟨fun h => h.elim, fun _ => Ev.now _⟩
theorem EvB.now (b : Bool) : EvB (fun _ => some b) (b = true) := EvB.of (Ev.now b) Iff.rfl
theorem EvB.fn {g f : Nat → Option Bool} {P : Prop} (h : ∀ k, g k = f k) (k : EvB f P) : EvB g P := ⟨fun p => Ev.congr h (k.1 p), fun p => Ev.congr h (k.2 p)⟩
theorem EvB.step {g f : Nat → Option Bool} {P : Prop} (h : ∀ k, g (k + 1) = f k) (k : EvB f P) : EvB g P := ⟨fun p => Ev.step h (k.1 p), fun p => Ev.step h (k.2 p)⟩
theorem EvB.ite {c : Prop} [Decidable c] {f g : Nat → Option Bool} {P Q : Prop} (h1 : c → EvB f P) (h2 : ¬ c → EvB g Q) : EvB (fun k => if c then f k else g k) ((c ∧ P) ∨ (¬ c ∧ Q)) := by
  by_cases h : c
  · simpa [h] using h1 h
  · simpa [h] using h2 h
/-- 'if test then go on else false' -/
theorem EvB.and {c : Prop} [Decidable c] {f : Nat → Option Bool} {P : Prop} (h1 : c → EvB f P) : EvB (fun k => if c then f k else some false) (c ∧ P) := by
  by_cases h : c
  · simpa [h] using h1 h
  · simpa [h] using EvB.false_
theorem EvB.bind {α : Type} {g : Nat → Option α} {f : Nat → α → Option Bool} {a : α} {P : Prop} (h : Ev g a) (k : EvB (fun n => f n a) P) : EvB (fun n => (g n).bind (f n)) P :=
  ⟨fun p => Ev.bind h (k.1 p), fun p => Ev.bind h (k.2 p)⟩
/-- a test by a call, then 'go on' or 'false' -/
theorem EvB.bindB {g : Nat → Option Bool} {f : Nat → Bool → Option Bool} {P Q : Prop} (h : EvB g P) (k1 : P → EvB (fun n => f n true) Q) (k2 : ¬ P → Ev (fun n => f n false) false) : EvB (fun n => (g n).bind (f n)) (P ∧ Q) := by
  by_cases p : P
  · exact (EvB.bind (h.1 p) (k1 p)).congr (by simp [p])
  · exact ⟨fun q => absurd q.1 p, fun _ => Ev.bind (h.2 p) (k2 p)⟩
/-- A loop that answers false where P fails, and goes on behind n. -/
theorem allLoop (g : Nat → Nat → Option Bool) (n : Nat) (P : Nat → Prop) (Q : Prop) (hend : EvB (g n) Q)
    (hs : ∀ j, j < n → ∀ R, EvB (g (j + 1)) R → EvB (g j) (P j ∧ R)) : ∀ d j, j + d = n → EvB (g j) ((∀ i, j ≤ i → i < n → P i) ∧ Q) := by
  intro d
  induction d with
  | zero =>
    intro j hj
    obtain rfl : j = n := by omega
    exact hend.congr ⟨fun q => ⟨fun i h1 h2 => by omega, q⟩, fun h => h.2⟩
  | succ d ih =>
    intro j hj
    refine (hs j (by omega) _ (ih (j + 1) (by omega))).congr ⟨?_, ?_⟩
    · rintro ⟨h1, h2, h3⟩
      refine ⟨fun i h4 h5 => ?_, h3⟩
      by_cases e : i = j
      · subst e; exact h1
      · exact h2 i (by omega) h5
    · rintro ⟨h1, h2⟩
      exact ⟨h1 j (Nat.le_refl _) (by omega), fun i h4 h5 => h1 i (by omega) h5, h2⟩
theorem allLoop0 (g : Nat → Nat → Option Bool) (n : Nat) (P : Nat → Prop) (Q : Prop) (hend : EvB (g n) Q)
    (hs : ∀ j, j < n → ∀ R, EvB (g (j + 1)) R → EvB (g j) (P j ∧ R)) : EvB (g 0) ((∀ i, i < n → P i) ∧ Q) :=
  (allLoop g n P Q hend hs n 0 (by omega)).congr ⟨fun h => ⟨fun i hi => h.1 i (Nat.zero_le _) hi, h.2⟩, fun h => ⟨fun i _ hi => h.1 i hi, h.2⟩⟩
/-- A loop over indices that carries a state. -/
theorem foldLoop {σ α : Type} (g : σ → Nat → Nat → Option α) (n : Nat) (f : σ → Nat → σ) (r : σ → α) (I : σ → Nat → Prop) (hend : ∀ s, I s n → Ev (g s n) (r s))
    (hs : ∀ s j, j < n → I s j → I (f s j) (j + 1) ∧ ∀ x, Ev (g (f s j) (j + 1)) x → Ev (g s j) x) : ∀ d s j, j + d = n → I s j → Ev (g s j) (r ((List.range' j d).foldl f s)) := by
  intro d
  induction d with
  | zero =>
    intro s j hj hi
    obtain rfl : j = n := by omega
    exact hend s hi
  | succ d ih =>
    intro s j hj hi
    obtain ⟨h1, h2⟩ := hs s j (by omega) hi
    rw [List.range'_succ, List.foldl_cons]
    exact h2 _ (ih _ _ (by omega) h1)
theorem wrap_nat (i : Nat) (h : i < 9223372036854775807) : wrap64 ((i : Int) + 1) = ((i + 1 : Nat) : Int) := by unfold wrap64; omega
/-- A list of natural numbers, as it stands in Go. -/
def ints (ns : List Nat) : List Int := ns.map (fun n : Nat => (n : Int))
theorem ints_length (ns : List Nat) : (ints ns).length = ns.length := by simp [ints]
theorem rd_ints (ns : List Nat) (i : Nat) : rd (ints ns) (i : Int) = ((ns.getD i 0 : Nat) : Int) := by
  simp only [rd, ints, Int.toNat_natCast, List.getD_eq_getElem?_getD, List.getElem?_map]
  cases ns[i]? <;> simp
theorem ints_of (l : List Int) (h : ∀ x ∈ l, 0 ≤ x) : ∃ ns, l = ints ns := by
  refine ⟨l.map Int.toNat, ?_⟩
  simp only [ints, List.map_map]
  rw [List.map_congr_left (g := id) (fun x hx => by have := h x hx; simp; omega)]
  simp
theorem ints_set (ns : List Nat) (i v : Nat) : (ints ns).set (i : Int).toNat (v : Int) = ints (ns.set i v) := by simp [ints, List.map_set]

end Go.Proofs.Ytjkhdblhbjndiaa.K

namespace Go.Proofs.Ytjkhdblhbjndiaa.K
open Go.RowKit Go.Proofs.YtjkhdblhbjndiaaW.PrintWords Go.Proofs.YtjkhdblhbjndiaaW.PrintMore
set_option linter.unusedVariables false
set_option linter.unusedSimpArgs false

theorem wrap_i64 (n : Int) (h0 : 0 ≤ n) (h1 : n < 2 ^ 62) : IntKind.i64.wrap n = n := by
  have : IntKind.i64.wrap n = wrap64 n := by simp [IntKind.wrap, IntKind.bits, IntKind.signed, wrap64]; omega
  rw [this]; unfold wrap64; omega
theorem and_nat (a b : Nat) (ha : a < 2 ^ 62) (hb : b < 2 ^ 62) : Go.bits .and .i64 (a : Int) (b : Int) = ((a &&& b : Nat) : Int) := (bits_nat .i64 62 (by decide) wrap_i64 a b ha hb).1
theorem or_nat (a b : Nat) (ha : a < 2 ^ 62) (hb : b < 2 ^ 62) : Go.bits .or .i64 (a : Int) (b : Int) = ((a ||| b : Nat) : Int) := (bits_nat .i64 62 (by decide) wrap_i64 a b ha hb).2
theorem bv_nat (a : Nat) (ha : a < 2 ^ 62) : a % 2 ^ 64 = a := Nat.mod_eq_of_lt (by omega)
theorem xor_nat (a b : Nat) (ha : a < 2 ^ 62) (hb : b < 2 ^ 62) : Go.bits .xor .i64 (a : Int) (b : Int) = ((a ^^^ b : Nat) : Int) := by
  simp only [Go.bits, show IntKind.i64.bits = 64 from rfl, BitVec.ofInt_natCast, BitVec.toNat_xor, BitVec.toNat_ofNat, bv_nat a ha, bv_nat b hb]
  exact wrap_i64 _ (by omega) (by exact_mod_cast Nat.xor_lt_two_pow ha hb)
theorem andNot_nat (a b : Nat) (ha : a < 2 ^ 62) (hb : b < 2 ^ 62) : Go.bits .andNot .i64 (a : Int) (b : Int) = ((a ^^^ (a &&& b) : Nat) : Int) := by
  simp only [Go.bits, show IntKind.i64.bits = 64 from rfl, BitVec.ofInt_natCast]
  have h1 : (BitVec.ofNat 64 a) &&& ~~~ (BitVec.ofNat 64 b) = (BitVec.ofNat 64 a) ^^^ ((BitVec.ofNat 64 a) &&& (BitVec.ofNat 64 b)) := by
    ext i hi; simp only [BitVec.getElem_and, BitVec.getElem_xor, BitVec.getElem_not]
    cases (BitVec.ofNat 64 a)[i] <;> cases (BitVec.ofNat 64 b)[i] <;> rfl
  have h2 : ((BitVec.ofNat 64 a) ^^^ ((BitVec.ofNat 64 a) &&& (BitVec.ofNat 64 b))).toNat = a ^^^ (a &&& b) := by
    rw [BitVec.toNat_xor, BitVec.toNat_and, BitVec.toNat_ofNat, BitVec.toNat_ofNat, bv_nat a ha, bv_nat b hb]
  have h3 : ((BitVec.ofNat 64 a) &&& ~~~ (BitVec.ofNat 64 b)).toNat = a ^^^ (a &&& b) := by rw [h1, h2]
  have h4 : a ^^^ (a &&& b) < 2 ^ 62 := Nat.xor_lt_two_pow ha (Nat.lt_of_le_of_lt Nat.and_le_left ha)
  refine Eq.trans (congrArg (fun n : Nat => IntKind.i64.wrap (n : Int)) h3) ?_
  exact wrap_i64 _ (by omega) (by exact_mod_cast h4)
theorem testBit_andNot (a b i : Nat) : (a ^^^ (a &&& b)).testBit i = (a.testBit i && !b.testBit i) := by
  rw [Nat.testBit_xor, Nat.testBit_and]
  cases a.testBit i <;> cases b.testBit i <;> rfl
theorem shl_one (i : Nat) (h : i ≤ 61) : shl .i64 1 (i : Int) = ((2 ^ i : Nat) : Int) := by
  unfold shl
  have h1 : min ((i : Int).toNat) IntKind.i64.bits = i := by simp [show IntKind.i64.bits = 64 from rfl]; omega
  rw [h1, Int.one_mul]
  have h2 : 2 ^ i ≤ 2 ^ 61 := Nat.pow_le_pow_right (by decide) h
  rw [wrap_i64 _ (by exact_mod_cast Nat.zero_le (2 ^ i)) (by exact_mod_cast Nat.lt_of_le_of_lt h2 (by decide))]
  exact_mod_cast rfl
theorem shr_nat (a i : Nat) (ha : a < 2 ^ 62) : shr .i64 (a : Int) (i : Int) = ((a >>> i : Nat) : Int) := by
  unfold shr
  rw [Nat.shiftRight_eq_div_pow]
  have e : min ((i : Int).toNat) IntKind.i64.bits = min i 64 := by simp [show IntKind.i64.bits = 64 from rfl]
  rw [e]
  have : a / 2 ^ i = a / 2 ^ (min i 64) := by
    by_cases h : i ≤ 64
    · rw [Nat.min_eq_left h]
    · rw [Nat.min_eq_right (by omega), Nat.div_eq_of_lt (Nat.lt_of_lt_of_le ha (Nat.pow_le_pow_right (by decide) (by omega))), Nat.div_eq_of_lt (Nat.lt_of_lt_of_le ha (by decide))]
  rw [this]
  exact_mod_cast rfl
theorem bit_one (a : Nat) (i : Nat) : (a >>> i) &&& 1 = if a.testBit i then 1 else 0 := by
  rw [Nat.and_one_is_mod, Nat.testBit, Nat.and_comm, Nat.and_one_is_mod]
  rcases Nat.mod_two_eq_zero_or_one (a >>> i) with h | h <;> simp [h]
theorem bit_mod (a : Nat) (i : Nat) : (a >>> i) % 2 = if a.testBit i then 1 else 0 := by rw [← Nat.and_one_is_mod, bit_one]
theorem hasB (a i : Nat) (ha : a < 2 ^ 62) : (Go.bits .and .i64 (shr .i64 (a : Int) (i : Int)) 1 == 1) = a.testBit i := by
  rw [shr_nat a i ha, show (1 : Int) = ((1 : Nat) : Int) from rfl, and_nat _ _ (Nat.lt_of_le_of_lt (by rw [Nat.shiftRight_eq_div_pow]; exact Nat.div_le_self _ _) ha) (by decide), bit_one]
  cases a.testBit i <;> rfl
theorem deHasB (a i : Nat) (ha : a < 2 ^ 62) : (Int.tmod (shr .i64 (a : Int) (i : Int)) 2 == 1) = a.testBit i := by
  rw [shr_nat a i ha, show (2 : Int) = ((2 : Nat) : Int) from rfl, ← Int.ofNat_tmod, bit_mod]
  cases a.testBit i <;> rfl

end Go.Proofs.Ytjkhdblhbjndiaa.K

namespace Go.Proofs.Ytjkhdblhbjndiaa.P
open Go.RowKit Go.Proofs.YtjkhdblhbjndiaaW.PrintWords Go.Proofs.YtjkhdblhbjndiaaW.PrintLast Go.Proofs.YtjkhdblhbjndiaaW.PrintMore
attribute [local go_sem] max2_int min2_int max_two min_two max_three min_three max_four min_four   -- for this text's walks alone
set_option linter.unusedVariables false
set_option linter.unusedSimpArgs false

/-! ### spec_IsTournament: function 32 -/
def spec_IsTournament.f (k : Nat) (a0_0 : Int) (l0_1 : List Int) : Option (Bool) := (spec_scGood.f k a0_0 l0_1).bind fun t219 => (some t219)
theorem spec_IsTournament.mono : ∀ a0 a1 k, LeO (spec_IsTournament.f k a0 a1) (spec_IsTournament.f (k + 1) a0 a1) := by
  intro a0 a1 k
  unfold spec_IsTournament.f
  repeat' first
      | (with_reducible exact spec_scGood.mono _ _ _)
      | (with_reducible exact LeO.refl _)
      | (with_reducible exact LeO.none _)
      | (with_reducible refine LeO.ite ?_ ?_)
      | (with_reducible refine LeO.bind ?_ (fun _ => ?_))
      | exact spec_scGood.mono _ _ _
      | exact LeO.none _
      | refine LeO.ite ?_ ?_
      | refine LeO.bind ?_ (fun _ => ?_)
set_option maxHeartbeats 8000000 in
set_option maxRecDepth 100000 in
theorem spec_IsTournament.calls (k : Nat) (a0_0 : Int) (A0_1 : Option Addr) (c0_1 : Nat) (l0_1 : List Int) (r : Bool) (w : World) (hr0_1 : Kd.C (Kd.int .i64) w A0_1 l0_1.length l0_1) (hc0_1 : l0_1.length ≤ c0_1) (h : spec_IsTournament.f k a0_0 l0_1 = some r) :
    Calls Try.prog 32 #[.agg #[.int .i64 a0_0, .slice A0_1 l0_1.length c0_1]] w fun e w' => e = .returned (.bool r) ∧ Below w.heap.size w w' := by
  have hu33 := Try.underlying33
  have HR0_1 := Aside0.mk hr0_1
  have HC0_1 := Aside0.mk hc0_1
  clear hr0_1 hc0_1
  have HB := Aside0.mk (Below.refl w.heap.size w)
  have H : ((spec_scGood.f k a0_0 l0_1).bind fun t219 => (some t219)) = some r := h
  clear h
  replace H := Option.bind_eq_some_iff.mp H
  obtain ⟨t219, A20, H⟩ := H
  replace H : (some t219) = some r := H
  have A2 := Aside0.mk A20
  clear A20
  obtain rfl := Option.some.inj H
  go_enter Try.func32, Try.ntmps32
  go_wp2_with (first | ((with_reducible refine gate_dst (N := 1) rfl ?_); refine box_event ?hg (N := 1) ?hd (cs := #[.int .i64 a0_0, .slice A0_1 l0_1.length c0_1]) (t := 33) ?hr ?_; (case hd => rfl); (case hg => rfl); (case hr => first | (go_simp; done) | (go_simp; rfl)); intro gb218 hg w3 hbox hb; have n0_ := Aside0.mk (below_step (by repeat (first | (with_reducible first | exact HB.out | apply below_alloc | apply pw_below_drewN | apply below_drew1) | exact HB.out)) hb); have n1_ := Aside0.mk (hbox); have n2_ := Aside0.mk ((by rw [hg]; exact (below_size (by repeat (first | (with_reducible first | exact HB.out | apply below_alloc | apply pw_below_drewN | apply below_drew1) | exact HB.out))) : w.heap.size ≤ gb218)); have n3_ := Aside0.mk ((by rw [hg]; exact (below_size (by repeat (first | (with_reducible first | exact HB.out | apply below_alloc | apply pw_below_drewN | apply below_drew1) | exact HB.out))) : w.heap.size ≤ gb218)); clear HB; have HB := n0_; have BK218 := n1_; have GW218 := n2_; have GE218 := n3_; clear n0_ n1_ n2_ n3_; clear hb hbox hg; have hcz4_0 : w3.cell? ⟨gb218, 0, none⟩ = some (.int .i64 a0_0) := (blk_cell BK218.out 0).trans rfl; have hcz4_1 : w3.cell? ⟨gb218, 1, none⟩ = some (.slice A0_1 l0_1.length c0_1) := (blk_cell BK218.out 1).trans rfl; have hfz4_0 := blk_frozen BK218.out 0; have hfz4_1 := blk_frozen BK218.out 1) | ((with_reducible refine gate_callee (f := 95) rfl ?_); refine goesL_ (some 4) rfl rfl Try.func95 (by kernel_rfl) rfl #[.agg #[.int .i64 a0_0, .slice A0_1 l0_1.length c0_1]] rfl (by (try simp only [List.map_toArray, List.map_cons, List.map_nil]); first | done | rfl | (simp only [List.length_drop, List.length_take]; rfl)) ?_; (with_reducible refine (spec_scGood.calls k a0_0 _ _ l0_1 t219 _ ?side1 ?side2 A2.out).mono ?_); (case side1 => repeat (first | exact (Kd.C_below HR0_1.out HB.out) | (with_reducible refine Kd.C_alloc ?_ _) | (with_reducible refine Kd.C_drewN ?_ _) | (with_reducible refine Kd.C_drew ?_))); (case side2 => exact HC0_1.out); rintro e w5 ⟨rfl, hb⟩; refine ⟨_, rfl, ?_⟩; have n0_ := Aside0.mk (blk_below (g := gb218) (o := .cells #[.int .i64 a0_0, .slice A0_1 l0_1.length c0_1] 33 (0, 0)) (by (with_reducible repeat (first | refine blk_drewN ?_ _ | refine blk_drew ?_ | refine blk_alloc ?_ _)); exact BK218.out) hb); have n1_ := Aside0.mk (below_step (by repeat (first | (with_reducible first | exact HB.out | apply below_alloc | apply pw_below_drewN | apply below_drew1 | refine below_set ?_ GE218.out) | exact HB.out)) hb); clear BK218; clear HB; have BK218 := n0_; have HB := n1_; clear n0_ n1_; (try clear hb); (try clear hb2); (try clear hk); (try clear hi)))
  go_ret
  exact ⟨by first | rfl | (simp [errW_none, errW_some] <;> rfl) | (simp [*, errW_none, errW_some] <;> rfl), by repeat (first | (with_reducible first | exact HB.out | apply below_alloc | apply pw_below_drewN | apply below_drew1 | refine below_set ?_ GE218.out) | exact HB.out)⟩

end Go.Proofs.Ytjkhdblhbjndiaa.P

namespace Go.Proofs.Ytjkhdblhbjndiaa.K
open Go.RowKit Go.Proofs.YtjkhdblhbjndiaaW.PrintWords Go.Proofs.YtjkhdblhbjndiaaW.PrintMore Go.Proofs.Ytjkhdblhbjndiaa.P
set_option linter.unusedVariables false
set_option linter.unusedSimpArgs false

/-- Does the set of point i hold j? -/
def nb (ns : List Nat) (i j : Nat) : Bool := (ns.getD i 0).testBit j
/-- Points told by sets of points. -/
structure Sets (n : Nat) (ns : List Nat) : Prop where
  n1 : 1 ≤ n
  n8 : n ≤ 8
  len : ns.length = n
  lt : ∀ x ∈ ns, x < 2 ^ n
theorem Sets.get {n : Nat} {ns : List Nat} (h : Sets n ns) (i : Nat) : ns.getD i 0 < 2 ^ n := by
  rw [List.getD_eq_getElem?_getD]
  cases e : ns[i]? with
  | none => simp; exact Nat.two_pow_pos n
  | some x => exact h.lt x (List.mem_of_getElem? e)
theorem pow8 {n : Nat} (h : n ≤ 8) : 2 ^ n ≤ 256 := Nat.le_trans (Nat.pow_le_pow_right (by decide) h) (by decide)
theorem Sets.get62 {n : Nat} {ns : List Nat} (h : Sets n ns) (i : Nat) : ns.getD i 0 < 2 ^ 62 := Nat.lt_of_lt_of_le (h.get i) (Nat.le_trans (pow8 h.n8) (by decide))
theorem Sets.nb_lt {n : Nat} {ns : List Nat} (h : Sets n ns) {i j : Nat} (hj : n ≤ j) : nb ns i j = false :=
  Nat.testBit_lt_two_pow (Nat.lt_of_lt_of_le (h.get i) (Nat.pow_le_pow_right (by decide) hj))
def Near (n : Nat) (ns : List Nat) : Prop := Sets n ns ∧ ∀ i, i < n → nb ns i i = false
def Tour (n : Nat) (ns : List Nat) : Prop := Near n ns ∧ ∀ i, i < n → ∀ j, j < i → nb ns i j ≠ nb ns j i
theorem has_f (a i : Nat) (h : a < 2 ^ 62) : impl_has.f (a : Int) (i : Int) = some (a.testBit i) := by
  unfold impl_has.f; rw [if_pos (by omega), hasB a i h]
theorem deHas_f (a i : Nat) (h : a < 2 ^ 62) : spec_deHas.f (a : Int) (i : Int) = some (a.testBit i) := by
  unfold spec_deHas.f; rw [if_pos (by omega), deHasB a i h]
theorem has_nb {n : Nat} {ns : List Nat} (h : Sets n ns) (i j : Nat) : impl_has.f ((ns.getD i 0 : Nat) : Int) (j : Int) = some (nb ns i j) := has_f _ _ (h.get62 i)
theorem deHas_nb {n : Nat} {ns : List Nat} (h : Sets n ns) (i j : Nat) : spec_deHas.f ((ns.getD i 0 : Nat) : Int) (j : Int) = some (nb ns i j) := deHas_f _ _ (h.get62 i)
/-- The bounds of sets of n points, as the program tests them. -/
theorem sets_iff (a : Int) (l : List Int) : ((1 ≤ a ∧ a ≤ 8) ∧ (l.length : Int) = a ∧ within 0 (wrap64 (shl .i64 1 a - 1)) l = true) ↔ ∃ n ns, a = ((n : Nat) : Int) ∧ l = ints ns ∧ Sets n ns := by
  constructor
  · rintro ⟨⟨h1, h2⟩, h3, h4⟩
    obtain ⟨n, rfl⟩ := Int.eq_ofNat_of_zero_le (show 0 ≤ a by omega)
    have hp := pow8 (show n ≤ 8 by omega)
    have hp0 := Nat.two_pow_pos n
    have e : wrap64 (shl .i64 1 (n : Int) - 1) = ((2 ^ n - 1 : Nat) : Int) := by
      rw [shl_one n (by omega)]; unfold wrap64; omega
    rw [e] at h4
    simp only [within, List.all_eq_true, Bool.and_eq_true, decide_eq_true_eq] at h4
    obtain ⟨ns, rfl⟩ := ints_of l (fun x hx => (h4 x hx).1)
    rw [ints_length] at h3
    exact ⟨n, ns, rfl, rfl, by omega, by omega, by omega, fun x hx => by have := (h4 x (List.mem_map.2 ⟨x, hx, rfl⟩)).2; omega⟩
  · rintro ⟨n, ns, rfl, rfl, h⟩
    have hp := pow8 h.n8
    have hp0 := Nat.two_pow_pos n
    have := h.n1; have := h.n8; have := h.len
    have e : wrap64 (shl .i64 1 (n : Int) - 1) = ((2 ^ n - 1 : Nat) : Int) := by
      rw [shl_one n (by omega)]; unfold wrap64; omega
    rw [e]
    refine ⟨⟨by omega, by omega⟩, by rw [ints_length]; omega, ?_⟩
    simp only [within, List.all_eq_true, Bool.and_eq_true, decide_eq_true_eq, ints, List.mem_map]
    rintro x ⟨y, hy, rfl⟩
    have := h.lt y hy
    omega
theorem near_l0 {n : Nat} {ns : List Nat} (h : Sets n ns) : EvB (fun k => impl_areNear.l0 k (ints ns) (n : Int) 0) (∀ i, i < n → nb ns i i = false) := by
  have hl := h.len
  have hn := h.n8
  refine (allLoop0 (fun j k => impl_areNear.l0 k (ints ns) (n : Int) (j : Int)) n (fun i => nb ns i i = false) True ?_ ?_).congr (by simp)
  · exact EvB.step (fun k => by rw [impl_areNear.l0, if_neg (by omega)]) EvB.true_
  · intro j hj R hR
    have e : _ = nb ns j j := hasB (ns.getD j 0) j (h.get62 j)
    refine EvB.step (f := fun k => if nb ns j j = false then impl_areNear.l0 k (ints ns) n ((j + 1 : Nat) : Int) else some false) (fun k => ?_) (EvB.and fun _ => hR)
    rw [impl_areNear.l0, if_pos (by omega), if_pos (by omega), if_pos (by rw [ints_length]; omega), rd_ints, wrap_nat j (by omega)]
    cases hb : nb ns j j with
    | true => rw [if_pos (by rw [hb] at e; simpa using e), if_neg (by simp)]
    | false => rw [if_neg (by rw [hb] at e; simpa using e), if_pos rfl]
theorem areNear_f (a : Int) (l : List Int) (hl : l.length ≤ BM) : EvB (fun k => impl_areNear.f k a l) (∃ n ns, a = ((n : Nat) : Int) ∧ l = ints ns ∧ Near n ns) := by
  have hj : ∀ l, Ev (fun k => impl_areNear.j0 k l true) false := fun l => Ev.step (fun k => by rw [impl_areNear.j0]) (by simpa using Ev.now _)
  have no : ∀ {g : Nat → Option Bool}, ¬ ((1 ≤ a ∧ a ≤ 8) ∧ (l.length : Int) = a ∧ within 0 (wrap64 (shl .i64 1 a - 1)) l = true) → Ev g false → EvB g (∃ n ns, a = ((n : Nat) : Int) ∧ l = ints ns ∧ Near n ns) := by
    intro g h1 h2
    exact ⟨fun ⟨n, ns, e1, e2, h⟩ => absurd ((sets_iff a l).2 ⟨n, ns, e1, e2, h.1⟩) h1, fun _ => h2⟩
  unfold impl_areNear.f
  simp only [within_f, Option.bind_some]
  by_cases h1 : 1 ≤ a ∧ a ≤ 8
  · rw [show (decide (1 ≤ a) && decide (a ≤ 8)) = true by simp; omega]
    simp only [if_true]
    by_cases h2 : (l.length : Int) = a
    · have h3 : 0 ≤ a := by omega
      simp only [if_pos h2, if_pos h3]
      refine EvB.bind (allWithin_f l 0 _ hl) ?_
      cases h4 : within 0 (wrap64 (shl .i64 1 a - 1)) l with
      | false => exact no (by simp [h4]) (hj l)
      | true =>
        obtain ⟨n, ns, rfl, rfl, hs⟩ := (sets_iff a l).1 ⟨h1, h2, h4⟩
        refine EvB.step (fun k => by rw [impl_areNear.j0]) ?_
        simp only [Bool.not_true, Bool.false_eq_true, if_false, h2]
        refine (near_l0 hs).congr ⟨fun h => ⟨n, ns, rfl, rfl, hs, h⟩, ?_⟩
        rintro ⟨n', ns', e1, e2, h⟩
        obtain rfl : n = n' := by omega
        obtain rfl : ns = ns' := by
          have := congrArg (List.map Int.toNat) e2
          simpa [ints, Function.comp_def] using this
        exact h.2
    · simp only [if_neg h2]
      exact no (fun h => h2 h.2.1) (hj l)
  · rw [show (decide (1 ≤ a) && decide (a ≤ 8)) = false by simp; omega]
    exact no (fun h => h1 h.1) (by simpa using hj l)

theorem tour_l1 {n : Nat} {ns : List Nat} (h : Sets n ns) (i : Nat) (hi : i < n) (R : Prop) (hR : EvB (fun k => impl_IsTournament.l0 k (ints ns) n ((i + 1 : Nat) : Int) n (ints ns)) R) :
    EvB (fun k => impl_IsTournament.l1 k i ((ns.getD i 0 : Nat) : Int) (ints ns) n i i ((0 : Nat) : Int) n (ints ns)) ((∀ j, j < i → nb ns i j ≠ nb ns j i) ∧ R) := by
  have hl := h.len
  have hn := h.n8
  refine allLoop0 (fun j k => impl_IsTournament.l1 k i ((ns.getD i 0 : Nat) : Int) (ints ns) n i i (j : Int) n (ints ns)) i (fun j => nb ns i j ≠ nb ns j i) R ?_ ?_
  · refine EvB.step (fun k => ?_) hR
    rw [impl_IsTournament.l1, if_neg (by omega), wrap_nat i (by omega)]
  · intro j hj R hR
    refine EvB.step (f := fun k => if nb ns i j ≠ nb ns j i then impl_IsTournament.l1 k i ((ns.getD i 0 : Nat) : Int) (ints ns) n i i ((j + 1 : Nat) : Int) n (ints ns) else some false) (fun k => ?_) (EvB.and fun _ => hR)
    rw [impl_IsTournament.l1, if_pos (by omega), has_nb h i, Option.bind_some, if_pos (by omega), if_pos (by rw [ints_length]; omega), rd_ints, has_nb h j, Option.bind_some, wrap_nat j (by omega)]
    by_cases e : nb ns i j = nb ns j i
    · rw [if_pos (by simpa using e), if_neg (by simpa using e)]
    · rw [if_neg (by simpa using e), if_pos e]
theorem tour_l0 {n : Nat} {ns : List Nat} (h : Sets n ns) : EvB (fun k => impl_IsTournament.l0 k (ints ns) n ((0 : Nat) : Int) n (ints ns)) (∀ i, i < n → ∀ j, j < i → nb ns i j ≠ nb ns j i) := by
  have hl := h.len
  have hn := h.n8
  refine (allLoop0 (fun j k => impl_IsTournament.l0 k (ints ns) n (j : Int) n (ints ns)) n (fun i => ∀ j, j < i → nb ns i j ≠ nb ns j i) True ?_ ?_).congr (by simp)
  · exact EvB.step (fun k => by rw [impl_IsTournament.l0, if_neg (by omega)]) EvB.true_
  · intro i hi R hR
    refine EvB.step (fun k => ?_) (tour_l1 h i hi R hR)
    rw [impl_IsTournament.l0, if_pos (by omega), if_pos (by omega), if_pos (by rw [ints_length]; omega), rd_ints]
    rfl
theorem ints_inj {ns ms : List Nat} (h : ints ns = ints ms) : ns = ms := by
  have := congrArg (List.map Int.toNat) h
  simpa [ints, Function.comp_def] using this
def IsTour (a : Int) (l : List Int) : Prop := ∃ n ns, a = ((n : Nat) : Int) ∧ l = ints ns ∧ Tour n ns
theorem IsTournament_f (a : Int) (l : List Int) (hl : l.length ≤ BM) : EvB (fun k => impl_IsTournament.f k a l) (IsTour a l) := by
  unfold impl_IsTournament.f
  obtain ⟨b, hb, hbb⟩ := (areNear_f a l hl).ev
  refine EvB.bind hb ?_
  cases b with
  | false => exact ⟨fun ⟨n, ns, e1, e2, h⟩ => absurd (hbb.2 ⟨n, ns, e1, e2, h.1⟩) (by simp), fun _ => by simpa using Ev.now false⟩
  | true =>
    obtain ⟨n, ns, rfl, rfl, hn⟩ := hbb.1 rfl
    simp only [if_true, ints_length, hn.1.len]
    refine (tour_l0 hn.1).congr ⟨fun h => ⟨n, ns, rfl, rfl, hn, h⟩, ?_⟩
    rintro ⟨n', ns', e1, e2, h⟩
    obtain rfl : n = n' := by omega
    obtain rfl := ints_inj e2
    exact h.2
theorem sgood_l1 {n : Nat} {ns : List Nat} (h : Sets n ns) (i : Nat) (hi : i < n) (R : Prop) (hR : EvB (fun k => spec_scGood.l0 k (ints ns) n ((i + 1 : Nat) : Int) n (ints ns)) R) :
    EvB (fun k => spec_scGood.l1 k i ((ns.getD i 0 : Nat) : Int) (ints ns) n i (ints ns) n ((0 : Nat) : Int) n (ints ns)) ((∀ j, j < n → if i = j then nb ns i j = false else nb ns i j ≠ nb ns j i) ∧ R) := by
  have hl := h.len
  have hn := h.n8
  refine allLoop0 (fun j k => spec_scGood.l1 k i ((ns.getD i 0 : Nat) : Int) (ints ns) n i (ints ns) n (j : Int) n (ints ns)) n (fun j => if i = j then nb ns i j = false else nb ns i j ≠ nb ns j i) R ?_ ?_
  · refine EvB.step (fun k => ?_) hR
    rw [spec_scGood.l1, if_neg (by omega), wrap_nat i (by omega)]
  · intro j hj R hR
    by_cases hij : i = j
    · subst hij
      refine EvB.step (f := fun k => if nb ns i i = false then spec_scGood.l1 k i ((ns.getD i 0 : Nat) : Int) (ints ns) n i (ints ns) n ((i + 1 : Nat) : Int) n (ints ns) else some false) (fun k => ?_) ((EvB.and fun _ => hR).congr (by simp))
      rw [spec_scGood.l1, if_pos (by omega), if_pos (by omega), if_pos (by rw [ints_length]; omega), if_pos rfl, deHas_nb h i, Option.bind_some, wrap_nat i (by omega)]
      cases nb ns i i <;> rfl
    · refine EvB.step (f := fun k => if nb ns i j ≠ nb ns j i then spec_scGood.l1 k i ((ns.getD i 0 : Nat) : Int) (ints ns) n i (ints ns) n ((j + 1 : Nat) : Int) n (ints ns) else some false) (fun k => ?_) ((EvB.and fun _ => hR).congr (by simp [hij]))
      rw [spec_scGood.l1, if_pos (by omega), if_pos (by omega), if_pos (by rw [ints_length]; omega), if_neg (by omega), deHas_nb h i, Option.bind_some, rd_ints, deHas_nb h j, Option.bind_some, wrap_nat j (by omega)]
      by_cases e : nb ns i j = nb ns j i
      · rw [if_pos (by simpa using e), if_neg (by simpa using e)]
      · rw [if_neg (by simpa using e), if_pos e]
theorem sgood_l0 {n : Nat} {ns : List Nat} (h : Sets n ns) : EvB (fun k => spec_scGood.l0 k (ints ns) n ((0 : Nat) : Int) n (ints ns)) (∀ i, i < n → ∀ j, j < n → if i = j then nb ns i j = false else nb ns i j ≠ nb ns j i) := by
  have hl := h.len
  have hn := h.n8
  refine (allLoop0 (fun j k => spec_scGood.l0 k (ints ns) n (j : Int) n (ints ns)) n (fun i => ∀ j, j < n → if i = j then nb ns i j = false else nb ns i j ≠ nb ns j i) True ?_ ?_).congr (by simp)
  · exact EvB.step (fun k => by rw [spec_scGood.l0, if_neg (by omega)]) EvB.true_
  · intro i hi R hR
    refine EvB.step (fun k => ?_) (sgood_l1 h i hi R hR)
    rw [spec_scGood.l0, if_pos (by omega), if_pos (by omega), if_pos (by rw [ints_length]; omega), rd_ints, ints_length, hl]
    rfl
theorem tour_iff {n : Nat} {ns : List Nat} (h : Sets n ns) : (∀ i, i < n → ∀ j, j < n → if i = j then nb ns i j = false else nb ns i j ≠ nb ns j i) ↔ Tour n ns := by
  constructor
  · intro g
    refine ⟨⟨h, fun i hi => by simpa using g i hi i hi⟩, fun i hi j hj => ?_⟩
    have := g i hi j (by omega)
    rwa [if_neg (by omega)] at this
  · intro g i hi j hj
    by_cases e : i = j
    · subst e; simpa using g.1.2 i hi
    · rw [if_neg e]
      by_cases c : j < i
      · exact g.2 i hi j c
      · exact fun q => g.2 j hj i (by omega) q.symm
theorem scGood_f (a : Int) (l : List Int) (hl : l.length ≤ BM) : EvB (fun k => spec_scGood.f k a l) (IsTour a l) := by
  have hj : ∀ a l, Ev (fun k => spec_scGood.j0 k true a l) false := fun a l => Ev.step (fun k => by rw [spec_scGood.j0]) (by simpa using Ev.now _)
  have no : ∀ {g : Nat → Option Bool}, ¬ ((1 ≤ a ∧ a ≤ 8) ∧ (l.length : Int) = a ∧ within 0 (wrap64 (shl .i64 1 a - 1)) l = true) → Ev g false → EvB g (IsTour a l) := by
    intro g h1 h2
    exact ⟨fun ⟨n, ns, e1, e2, h⟩ => absurd ((sets_iff a l).2 ⟨n, ns, e1, e2, h.1.1⟩) h1, fun _ => h2⟩
  unfold spec_scGood.f
  simp only [l1In_f, Option.bind_some]
  by_cases h1 : 1 ≤ a ∧ a ≤ 8
  · rw [show (decide (1 ≤ a) && decide (a ≤ 8)) = true by simp; omega]
    simp only [if_true]
    by_cases h2 : (l.length : Int) = a
    · have h3 : 0 ≤ a := by omega
      simp only [if_pos h2, if_pos h3]
      refine EvB.bind (l1All_f l 0 _ hl) ?_
      cases h4 : within 0 (wrap64 (shl .i64 1 a - 1)) l with
      | false => exact no (by simp [h4]) (hj a l)
      | true =>
        obtain ⟨n, ns, rfl, rfl, hs⟩ := (sets_iff a l).1 ⟨h1, h2, h4⟩
        refine EvB.step (fun k => by rw [spec_scGood.j0]) ?_
        simp only [Bool.not_true, Bool.false_eq_true, if_false, h2]
        refine (sgood_l0 hs).congr ⟨fun h => ⟨n, ns, rfl, rfl, (tour_iff hs).1 h⟩, ?_⟩
        rintro ⟨n', ns', e1, e2, h⟩
        obtain rfl : n = n' := by omega
        obtain rfl := ints_inj e2
        exact (tour_iff hs).2 h
    · simp only [if_neg h2]
      exact no (fun h => h2 h.2.1) (hj a l)
  · rw [show (decide (1 ≤ a) && decide (a ≤ 8)) = false by simp; omega]
    exact no (fun h => h1 h.1) (by simpa using hj a l)
theorem specIsTournament_f (a : Int) (l : List Int) (hl : l.length ≤ BM) : EvB (fun k => spec_IsTournament.f k a l) (IsTour a l) := by
  unfold spec_IsTournament.f
  obtain ⟨b, hb, hbb⟩ := (scGood_f a l hl).ev
  exact EvB.bind hb (EvB.of (Ev.now b) hbb)

end Go.Proofs.Ytjkhdblhbjndiaa.K

namespace Go.Proofs.Ytjkhdblhbjndiaa.K
open Go.RowKit Go.Proofs.YtjkhdblhbjndiaaW.PrintWords Go.Proofs.Ytjkhdblhbjndiaa.P
set_option linter.unusedVariables false
set_option linter.unusedSimpArgs false
theorem szIntS_f (l : List Int) (a : Int) (hl : l.length ≤ maxLen) (h0 : 0 ≤ a) (h1 : a ≤ 1048576) : ∃ r, laws_szIntS.f l a = some r ∧ (0 ≤ r → l.length ≤ a ∧ r ≤ a) := by
  unfold maxLen at hl
  have e : wrap64 (a - (l.length : Int)) = a - l.length := by unfold wrap64; omega
  unfold laws_szIntS.f
  rw [e]
  by_cases h : a - (l.length : Int) < 0
  · rw [if_pos h]; exact ⟨-1, rfl, by omega⟩
  · rw [if_neg h]; exact ⟨_, rfl, by omega⟩

end Go.Proofs.Ytjkhdblhbjndiaa.K

namespace Go.Proofs.Ytjkhdblhbjndiaa.K
open Go.RowKit Go.Proofs.YtjkhdblhbjndiaaW.PrintWords Go.Proofs.Ytjkhdblhbjndiaa.P
set_option linter.unusedVariables false
set_option linter.unusedSimpArgs false

theorem szTournament_f (n : Int) (l : List Int) (hl : l.length ≤ maxLen) : ∃ r, laws_szTournament.f n l 1048576 = some r ∧ (0 ≤ r → l.length ≤ 1048576) := by
  obtain ⟨r, h1, h2⟩ := szIntS_f l 1048576 hl (by omega) (by omega)
  unfold laws_szTournament.f
  rw [h1, Option.bind_some]
  by_cases h : r < 0
  · rw [if_pos h]; exact ⟨-1, rfl, by omega⟩
  · rw [if_neg h]; exact ⟨r, rfl, fun h => by have := (h2 h).1; omega⟩
theorem toTournament_f (n : Int) (l : List Int) (h : l.length ≤ BM) : Ev (fun k => laws_toTournament.f k n l) (n, l) := by
  unfold laws_toTournament.f
  exact Ev.bind (toIntS_f l h) (Ev.now _)
theorem eqTournament_same (n : Int) (l : List Int) (h : l.length ≤ BM) : Ev (fun k => laws_eqTournament.f k n l n l) true := by
  unfold laws_eqTournament.f
  simp only [if_true]
  exact Ev.bind (eqIntS_same l h) (by simpa using Ev.now true)

end Go.Proofs.Ytjkhdblhbjndiaa.K

namespace Go.Proofs.Ytjkhdblhbjndiaa.K
open Go.RowKit Go.Proofs.YtjkhdblhbjndiaaW.PrintWords Go.Proofs.Ytjkhdblhbjndiaa.P
set_option linter.unusedVariables false
set_option linter.unusedSimpArgs false

theorem markTournament_f (n : Int) (l : List Int) (a : Int) (h : l.length ≤ BM) (h0 : 0 ≤ a) (ha : a + l.length ≤ 4611686018427387904) : Ev (fun k => laws_markTournament.f k n l a) (a + l.length, seqFrom a l.length) := by
  unfold laws_markTournament.f
  exact Ev.bind (markIntS_f l a h h0 ha) (Ev.now _)
theorem heldTournament_f (m : Int) (a : Int) (n : Nat) (h : n ≤ BM) (h0 : 0 ≤ a) (ha : a + n ≤ 4611686018427387904) : Ev (fun k => laws_heldTournament.f k m (seqFrom a n) a) (a + n) := by
  unfold laws_heldTournament.f
  refine Ev.bind (heldIntS_f a n h h0 ha) ?_
  rw [if_neg (by omega)]
  exact Ev.now _

end Go.Proofs.Ytjkhdblhbjndiaa.K

/- The law FnExactMirrorTournament holds: the program's MirrorTournament returns what the reference's returns, for every tournament, valid or not (no condition). -/
namespace Go.Proofs.Ytjkhdblhbjndiaa.Pure
open Go.RowKit Go.Proofs.YtjkhdblhbjndiaaW.PrintWords Go.Proofs.Ytjkhdblhbjndiaa.P Go.Proofs.Ytjkhdblhbjndiaa.K
set_option linter.unusedVariables false
set_option linter.unusedSimpArgs false

theorem newTournament_f (n : Nat) (h : n ≤ 8) : impl_newTournament.f (n : Int) = some ((n : Int), ints (List.replicate n 0)) := by
  unfold impl_newTournament.f
  rw [if_pos (by omega), if_pos (by omega)]
  simp [ints]
/-- The set of those that beat i. -/
def flipSet (n : Nat) (ns : List Nat) (i : Nat) : Nat := (2 ^ n - 1) ^^^ ((2 ^ n - 1) &&& (ns.getD i 0))
def flipOf (n : Nat) (ns : List Nat) (i : Nat) : Nat := flipSet n ns i ^^^ (flipSet n ns i &&& 2 ^ i)
theorem flip_int {n : Nat} {ns : List Nat} (h : Sets n ns) (i : Nat) (hi : i < n) : Go.bits .andNot .i64 (Go.bits .andNot .i64 (wrap64 ((shl .i64 1 (n : Int)) - 1)) ((ns.getD i 0 : Nat) : Int)) (shl .i64 1 (i : Int)) = ((flipOf n ns i : Nat) : Int) := by
  have hp := pow8 h.n8
  have hp0 := Nat.two_pow_pos n
  have hn := h.n8
  have e : wrap64 (shl .i64 1 (n : Int) - 1) = ((2 ^ n - 1 : Nat) : Int) := by
    rw [shl_one n (by omega)]; unfold wrap64; omega
  have h1 : 2 ^ n - 1 < 2 ^ 62 := by have : (256 : Nat) < 2 ^ 62 := by decide
                                     omega
  rw [e, andNot_nat _ _ h1 (h.get62 i), shl_one i (by omega), andNot_nat]
  · rfl
  · exact Nat.xor_lt_two_pow h1 (Nat.lt_of_le_of_lt Nat.and_le_left h1)
  · exact Nat.pow_lt_pow_right (by decide) (by omega)
def mirrorUpto (n : Nat) (ns : List Nat) (j : Nat) : List Nat := (List.range j).map (flipOf n ns)
theorem mirror_impl {n : Nat} {ns : List Nat} (h : Sets n ns) : ∀ d j, j + d = n → Ev (fun k => impl_MirrorTournament.l0 k (ints ns) n j n (ints ns) n (ints (mirrorUpto n ns j ++ List.replicate d 0))) ((n : Int), ints (mirrorUpto n ns n), true) := by
  have hl := h.len
  have hn := h.n8
  intro d
  induction d with
  | zero =>
    intro j hj
    obtain rfl : j = n := by omega
    refine Ev.step (fun k => ?_) (Ev.some rfl)
    rw [impl_MirrorTournament.l0, if_neg (by omega)]; simp
  | succ d ih =>
    intro j hj
    refine Ev.step (fun k => ?_) (ih (j + 1) (by omega))
    rw [impl_MirrorTournament.l0, if_pos (by omega), if_pos (by omega), if_pos (by rw [ints_length]; omega), if_pos (by omega), if_pos (by simp [ints_length, mirrorUpto]; omega), rd_ints, flip_int h j (by omega), ints_set, wrap_nat j (by omega)]
    congr 2
    rw [show mirrorUpto n ns (j + 1) = mirrorUpto n ns j ++ [flipOf n ns j] by simp [mirrorUpto, List.range_succ]]
    have e : (mirrorUpto n ns j).length = j := by simp [mirrorUpto]
    rw [List.replicate_succ, List.set_append_right _ _ (by omega)]
    simp [e]
theorem mirror_spec {n : Nat} {ns : List Nat} (h : Sets n ns) : ∀ d j, j + d = n → Ev (fun k => spec_MirrorTournament.l0 k (ints ns) n j n (ints ns) n (ints (mirrorUpto n ns j))) ((n : Int), ints (mirrorUpto n ns n), true) := by
  have hl := h.len
  have hn := h.n8
  intro d
  induction d with
  | zero =>
    intro j hj
    obtain rfl : j = n := by omega
    refine Ev.step (fun k => ?_) (Ev.some rfl)
    rw [spec_MirrorTournament.l0, if_neg (by omega)]
  | succ d ih =>
    intro j hj
    refine Ev.step (fun k => ?_) (ih (j + 1) (by omega))
    have e : (mirrorUpto n ns j).length = j := by simp [mirrorUpto]
    rw [spec_MirrorTournament.l0, if_pos (by omega), if_pos (by omega), if_pos (by rw [ints_length]; omega), if_pos (by omega), if_pos (by rw [ints_length]; omega), rd_ints, flip_int h j (by omega), wrap_nat j (by omega)]
    congr 2
    rw [show mirrorUpto n ns (j + 1) = mirrorUpto n ns j ++ [flipOf n ns j] by simp [mirrorUpto, List.range_succ]]
    simp [ints]
theorem mirror_both (a : Int) (l : List Int) (hl : l.length ≤ BM) : ∃ r, Ev (fun k => spec_MirrorTournament.f k a l) r ∧ Ev (fun k => impl_MirrorTournament.f k a l) r ∧ r.2.1.length ≤ 8 := by
  unfold spec_MirrorTournament.f impl_MirrorTournament.f
  obtain ⟨b, hb, hbb⟩ := (scGood_f a l hl).ev
  obtain ⟨c, hc, hcc⟩ := (IsTournament_f a l hl).ev
  have e : b = c := by rw [Bool.eq_iff_iff, hbb, hcc]
  subst e
  cases b with
  | false => exact ⟨(0, [], false), Ev.bind hb (by simpa using Ev.now _), Ev.bind hc (by simpa using Ev.now _), by simp⟩
  | true =>
    obtain ⟨n, ns, rfl, rfl, ht⟩ := hbb.1 rfl
    have hs := ht.1.1
    have hlen := hs.len
    have hn := hs.n8
    refine ⟨((n : Int), ints (mirrorUpto n ns n), true), Ev.bind hb ?_, Ev.bind hc ?_, by simp [ints_length, mirrorUpto]; omega⟩
    · simp only [if_true, ints_length, hlen]
      exact mirror_spec hs n 0 (by omega)
    · simp only [if_true, ints_length, hlen, newTournament_f n hn, Option.bind_some]
      have := mirror_impl hs n 0 (by omega)
      simpa [mirrorUpto] using this
theorem FnExactMirrorTournament : ∀ (a : Int) (l : List Int), (Lit.int .i64 a).wf = true → l.length ≤ maxLen → (∀ n ∈ l, (Lit.int .i64 n).wf = true) → ∃ k, laws_FnExactMirrorTournament.f k a l = some true := by
  intro a l _ hl _
  refine Ev.rounds (g := fun k => laws_FnExactMirrorTournament.f k a l) ?_
  unfold laws_FnExactMirrorTournament.f
  obtain ⟨r, hr, hr'⟩ := szTournament_f a l hl
  rw [hr]
  simp only [Option.bind_some]
  refine Ev.ite (fun _ => Ev.now _) (fun h => ?_)
  have h : l.length ≤ BM := by have := hr' (by omega); simp only [BM]; omega
  obtain ⟨⟨n, m, ok⟩, hs, hi, hm⟩ := mirror_both a l h
  have hm : m.length ≤ 8 := hm
  have hm' : m.length ≤ BM := by simp only [BM]; omega
  have n1 : ¬ (1 + (l.length : Int) < 0) := by omega
  have n2 : ¬ (1 + (m.length : Int) < 0) := by omega
  have b1 : (1 : Int) + l.length ≤ 4611686018427387904 := by simp only [BM] at h; omega
  have b2 : (1 : Int) + m.length ≤ 4611686018427387904 := by omega
  refine Ev.bind (toTournament_f a l h) (Ev.bind hs (Ev.bind (toTournament_f a l h) (Ev.bind hi ?_)))
  repeat' first
    | exact Ev.now true
    | refine Ev.bind hi ?_
    | refine Ev.bind (toTournament_f a l h) ?_
    | refine Ev.bind (eqTournament_same _ _ h) ?_
    | refine Ev.bind (eqTournament_same _ _ hm') ?_
    | refine Ev.bind (markTournament_f _ l 1 h (by omega) b1) ?_
    | refine Ev.bind (markTournament_f _ m 1 hm' (by omega) b2) ?_
    | refine Ev.bind (heldTournament_f _ 1 m.length hm' (by omega) b2) ?_
    | simp only [if_true, bne_self_eq_false, Bool.false_eq_true, if_false, if_neg n1, if_neg n2]
    | refine Ev.step (fun k => by first | rw [laws_FnExactMirrorTournament.j0] | rw [laws_FnExactMirrorTournament.j1] | rw [laws_FnExactMirrorTournament.j2]) ?_

end Go.Proofs.Ytjkhdblhbjndiaa.Pure
