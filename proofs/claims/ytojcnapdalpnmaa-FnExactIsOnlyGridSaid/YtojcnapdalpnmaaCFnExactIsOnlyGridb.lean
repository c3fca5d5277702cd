/- The row of the law FnExactIsOnlyGrid: contracts and plain lemmas for the law FnExactIsOnlyGrid, part 2 of 2: what the Go functions that it reaches answer. No condition beyond those in each statement. -/
import Derived.Test.YtojcnapdalpnmaaWMore
import Derived.Test.YtojcnapdalpnmaaWWords
import Derived.ProofKit
import Derived.OpenShut
import Derived.Deep.Matrix
import Derived.Lib.SmallJoins
import Derived.Test.YtojcnapdalpnmaaRows
import Derived.WalkKit
import Derived.ShutString
import Derived.ChangeOld
import Derived.Below
import Derived.SizedLaws
import Derived.Test.YtojcnapdalpnmaaWSized
import Derived.Test.YtojcnapdalpnmaaCFnExactIsOnlyGrida
namespace Go.Proofs.Ytojcnapdalpnmaa.P
open Go.RowKit Go.Proofs.YtojcnapdalpnmaaW.PrintWords Go.Proofs.YtojcnapdalpnmaaW.PrintLast Go.Proofs.YtojcnapdalpnmaaW.PrintMore
attribute [local go_sem] max2_int min2_int max_two min_two max_three min_three max_four min_four   -- for this text's walks alone
set_option linter.unusedVariables false
set_option linter.unusedSimpArgs false

/-! ### laws_FnExactIsOnlyGrid: function 5 -/
def laws_FnExactIsOnlyGrid.j0 : Nat → List (List Int) → List (List Int) → Bool → Option (Bool)
  | 0, _, _, _ => none
  | k + 1, x0, x6, x34 => if x34 = true then (some false) else ((laws_toIntSS.f k x0).bind fun t224 => ((laws_eqIntSS.f k x6 t224).bind fun t227 => (if t227 = true then (some true) else (some false))))
def laws_FnExactIsOnlyGrid.f (k : Nat) (l0 : List (List Int)) : Option (Bool) := (laws_szIntSS.f k l0 1048576).bind fun t213 => (if t213 < 0 then (some true) else ((laws_toIntSS.f k l0).bind fun t214 => ((spec_IsOnlyGrid.f k t214).bind fun bt217 => ((laws_toIntSS.f k l0).bind fun t219 => ((impl_IsOnlyGrid.f k t219).bind fun bt222 => (if (bt222.1 != bt217.1) = true then (laws_FnExactIsOnlyGrid.j0 k l0 t219 true) else (laws_FnExactIsOnlyGrid.j0 k l0 t219 (bt222.2 != bt217.2))))))))
theorem laws_FnExactIsOnlyGrid.mono_l : ∀ k, (∀ y0 y1 y2, LeO (laws_FnExactIsOnlyGrid.j0 k y0 y1 y2) (laws_FnExactIsOnlyGrid.j0 (k + 1) y0 y1 y2))
  | 0 => fun _ _ _ r h => by simp [laws_FnExactIsOnlyGrid.j0] at h
  | k + 1 => by
    have ih0 := laws_FnExactIsOnlyGrid.mono_l k
    · intro y0 y1 y2
      unfold laws_FnExactIsOnlyGrid.j0
      repeat' first
      | (with_reducible exact ih0 _ _ _)
      | (with_reducible exact impl_IsOnlyGrid.mono _ _)
      | (with_reducible exact laws_eqIntSS.mono _ _ _)
      | (with_reducible exact laws_szIntSS.mono _ _ _)
      | (with_reducible exact laws_toIntSS.mono _ _)
      | (with_reducible exact spec_IsOnlyGrid.mono _ _)
      | (with_reducible exact LeO.refl _)
      | (with_reducible exact LeO.none _)
      | (with_reducible refine LeO.ite ?_ ?_)
      | (with_reducible refine LeO.bind ?_ (fun _ => ?_))
      | exact ih0 _ _ _
      | exact impl_IsOnlyGrid.mono _ _
      | exact laws_eqIntSS.mono _ _ _
      | exact laws_szIntSS.mono _ _ _
      | exact laws_toIntSS.mono _ _
      | exact spec_IsOnlyGrid.mono _ _
      | exact LeO.none _
      | refine LeO.ite ?_ ?_
      | refine LeO.bind ?_ (fun _ => ?_)
theorem laws_FnExactIsOnlyGrid.mono : ∀ a0 k, LeO (laws_FnExactIsOnlyGrid.f k a0) (laws_FnExactIsOnlyGrid.f (k + 1) a0) := by
  intro a0 k
  have ih0 := laws_FnExactIsOnlyGrid.mono_l k
  unfold laws_FnExactIsOnlyGrid.f
  repeat' first
      | (with_reducible exact ih0 _ _ _)
      | (with_reducible exact impl_IsOnlyGrid.mono _ _)
      | (with_reducible exact laws_eqIntSS.mono _ _ _)
      | (with_reducible exact laws_szIntSS.mono _ _ _)
      | (with_reducible exact laws_toIntSS.mono _ _)
      | (with_reducible exact spec_IsOnlyGrid.mono _ _)
      | (with_reducible exact LeO.refl _)
      | (with_reducible exact LeO.none _)
      | (with_reducible refine LeO.ite ?_ ?_)
      | (with_reducible refine LeO.bind ?_ (fun _ => ?_))
      | exact ih0 _ _ _
      | exact impl_IsOnlyGrid.mono _ _
      | exact laws_eqIntSS.mono _ _ _
      | exact laws_szIntSS.mono _ _ _
      | exact laws_toIntSS.mono _ _
      | exact spec_IsOnlyGrid.mono _ _
      | exact LeO.none _
      | refine LeO.ite ?_ ?_
      | refine LeO.bind ?_ (fun _ => ?_)
set_option maxHeartbeats 8000000 in
set_option maxRecDepth 100000 in
theorem laws_FnExactIsOnlyGrid.calls (k : Nat) (A0 : Option Addr) (c0 : Nat) (l0 : List (List Int)) (r : Bool) (w : World) (hr0 : Kd.C (Kd.slice 3 (Kd.int .i64)) w A0 l0.length l0) (hc0 : l0.length ≤ c0) (h : laws_FnExactIsOnlyGrid.f k l0 = some r) :
    Calls Try.prog 5 #[.slice A0 l0.length c0] w fun e w' => e = .returned (.bool r) ∧ Below w.heap.size w w' := by
  have HR0 := Aside0.mk hr0
  have HC0 := Aside0.mk hc0
  clear hr0 hc0
  have HB := Aside0.mk (Below.refl w.heap.size w)
  have H : ((laws_szIntSS.f k l0 1048576).bind fun t213 => (if t213 < 0 then (some true) else ((laws_toIntSS.f k l0).bind fun t214 => ((spec_IsOnlyGrid.f k t214).bind fun bt217 => ((laws_toIntSS.f k l0).bind fun t219 => ((impl_IsOnlyGrid.f k t219).bind fun bt222 => (if (bt222.1 != bt217.1) = true then (laws_FnExactIsOnlyGrid.j0 k l0 t219 true) else (laws_FnExactIsOnlyGrid.j0 k l0 t219 (bt222.2 != bt217.2))))))))) = some r := h
  clear h
  replace H := Option.bind_eq_some_iff.mp H
  obtain ⟨t213, A20, H⟩ := H
  replace H : (if t213 < 0 then (some true) else ((laws_toIntSS.f k l0).bind fun t214 => ((spec_IsOnlyGrid.f k t214).bind fun bt217 => ((laws_toIntSS.f k l0).bind fun t219 => ((impl_IsOnlyGrid.f k t219).bind fun bt222 => (if (bt222.1 != bt217.1) = true then (laws_FnExactIsOnlyGrid.j0 k l0 t219 true) else (laws_FnExactIsOnlyGrid.j0 k l0 t219 (bt222.2 != bt217.2)))))))) = some r := H
  have A2 := Aside0.mk A20
  clear A20
  by_cases c3 : t213 < 0
  · rw [if_pos c3] at H
    have c3b0 : decide (t213 < 0) = true := decide_eq_true c3
    clear c3
    obtain rfl := Option.some.inj H
    go_enter Try.func5, Try.ntmps5
    go_wp2_with (first | ((with_reducible refine gate_callee (f := 18) rfl ?_); refine goesL_ (some 11) rfl rfl Try.func18 (by kernel_rfl) rfl #[.slice A0 l0.length c0, .int .i64 1048576] rfl (by (try simp only [List.map_toArray, List.map_cons, List.map_nil]); first | done | rfl | (simp only [List.length_drop, List.length_take]; rfl)) ?_; (with_reducible refine (laws_szIntSS.calls k _ _ l0 1048576 t213 _ ?side1 ?side2 A2.out).mono ?_); (case side1 => repeat (first | exact HR0.out | (with_reducible refine Kd.C_alloc ?_ _) | (with_reducible refine Kd.C_drewN ?_ _) | (with_reducible refine Kd.C_drew ?_))); (case side2 => exact HC0.out); rintro e w' ⟨rfl, ⟨nd, rfl⟩⟩; refine ⟨_, rfl, ?_⟩))
    go_ret
    exact ⟨by first | rfl | (simp [errW_none, errW_some] <;> rfl) | (simp [*, errW_none, errW_some] <;> rfl), by repeat (first | (with_reducible first | exact HB.out | apply below_alloc | apply pw_below_drewN | apply below_drew1) | exact HB.out)⟩
  · rw [if_neg c3] at H
    have c3b0 : decide (t213 < 0) = false := decide_eq_false c3
    clear c3
    replace H := Option.bind_eq_some_iff.mp H
    obtain ⟨t214, A40, H⟩ := H
    replace H : ((spec_IsOnlyGrid.f k t214).bind fun bt217 => ((laws_toIntSS.f k l0).bind fun t219 => ((impl_IsOnlyGrid.f k t219).bind fun bt222 => (if (bt222.1 != bt217.1) = true then (laws_FnExactIsOnlyGrid.j0 k l0 t219 true) else (laws_FnExactIsOnlyGrid.j0 k l0 t219 (bt222.2 != bt217.2)))))) = some r := H
    have A4 := Aside0.mk A40
    clear A40
    replace H := Option.bind_eq_some_iff.mp H
    obtain ⟨⟨t217, t218⟩, A50, H⟩ := H
    replace H : ((laws_toIntSS.f k l0).bind fun t219 => ((impl_IsOnlyGrid.f k t219).bind fun bt222 => (if (bt222.1 != t217) = true then (laws_FnExactIsOnlyGrid.j0 k l0 t219 true) else (laws_FnExactIsOnlyGrid.j0 k l0 t219 (bt222.2 != t218))))) = some r := H
    have A5 := Aside0.mk A50
    clear A50
    replace H := Option.bind_eq_some_iff.mp H
    obtain ⟨t219, A60, H⟩ := H
    replace H : ((impl_IsOnlyGrid.f k t219).bind fun bt222 => (if (bt222.1 != t217) = true then (laws_FnExactIsOnlyGrid.j0 k l0 t219 true) else (laws_FnExactIsOnlyGrid.j0 k l0 t219 (bt222.2 != t218)))) = some r := H
    have A6 := Aside0.mk A60
    clear A60
    replace H := Option.bind_eq_some_iff.mp H
    obtain ⟨⟨t222, t223⟩, A70, H⟩ := H
    replace H : (if (t222 != t217) = true then (laws_FnExactIsOnlyGrid.j0 k l0 t219 true) else (laws_FnExactIsOnlyGrid.j0 k l0 t219 (t223 != t218))) = some r := H
    have A7 := Aside0.mk A70
    clear A70
    have HC8 := Aside0.mk H
    clear H
    go_enter Try.func5, Try.ntmps5
    go_upto_region 8 with (first | ((with_reducible refine gate_callee (f := 18) rfl ?_); refine goesL_ (some 11) rfl rfl Try.func18 (by kernel_rfl) rfl #[.slice A0 l0.length c0, .int .i64 1048576] rfl (by (try simp only [List.map_toArray, List.map_cons, List.map_nil]); first | done | rfl | (simp only [List.length_drop, List.length_take]; rfl)) ?_; (with_reducible refine (laws_szIntSS.calls k _ _ l0 1048576 t213 _ ?side1 ?side2 A2.out).mono ?_); (case side1 => repeat (first | exact HR0.out | (with_reducible refine Kd.C_alloc ?_ _) | (with_reducible refine Kd.C_drewN ?_ _) | (with_reducible refine Kd.C_drew ?_))); (case side2 => exact HC0.out); rintro e w' ⟨rfl, ⟨nd, rfl⟩⟩; refine ⟨_, rfl, ?_⟩) | ((with_reducible refine gate_callee (f := 20) rfl ?_); refine goesL_ (some 16) rfl rfl Try.func20 (by kernel_rfl) rfl #[.slice A0 l0.length c0] rfl (by (try simp only [List.map_toArray, List.map_cons, List.map_nil]); first | done | rfl | (simp only [List.length_drop, List.length_take]; rfl)) ?_; (with_reducible refine (laws_toIntSS.calls k _ _ l0 t214 _ ?side1 ?side2 A4.out).mono ?_); (case side1 => repeat (first | exact HR0.out | (with_reducible refine Kd.C_alloc ?_ _) | (with_reducible refine Kd.C_drewN ?_ _) | (with_reducible refine Kd.C_drew ?_))); (case side2 => exact HC0.out); rintro e w9 ⟨v215, rfl, ho0, hb⟩; refine ⟨_, rfl, ?_⟩; have n0_ := Aside0.mk (Kd.S_lower ho0 (below_size (by repeat (first | (with_reducible first | exact HB.out | apply below_alloc | apply pw_below_drewN | apply below_drew1) | exact HB.out)))); have n1_ := Aside0.mk (below_step (by repeat (first | (with_reducible first | exact HB.out | apply below_alloc | apply pw_below_drewN | apply below_drew1) | exact HB.out)) hb); clear HB; have HO216 := n0_; have HB := n1_; clear n0_ n1_; (try clear hb); (try clear hb2); (try clear hk); (try clear hi); (try clear ho0); obtain ⟨Ao10, co10, eo10⟩ := Kd.S_slice HO216.out; subst eo10) | ((with_reducible refine gate_callee (f := 25) rfl ?_); refine goesL_ (some 17) rfl rfl Try.func25 (by kernel_rfl) rfl #[.slice Ao10 t214.length co10] rfl (by (try simp only [List.map_toArray, List.map_cons, List.map_nil]); first | done | rfl | (simp only [List.length_drop, List.length_take]; rfl)) ?_; (with_reducible refine (spec_IsOnlyGrid.calls k _ _ t214 t217 t218 _ ?side1 ?side2 A5.out).mono ?_); (case side1 => repeat (first | exact (Kd.S_reads' HO216.out).2.2 | (with_reducible refine Kd.C_alloc ?_ _) | (with_reducible refine Kd.C_drewN ?_ _) | (with_reducible refine Kd.C_drew ?_))); (case side2 => exact (Kd.S_reads' HO216.out).2.1); rintro e w11 ⟨rfl, hb⟩; refine ⟨_, rfl, ?_⟩; have n0_ := Aside0.mk (Kd.S_below (by (with_reducible repeat (first | apply Kd.S_alloc | apply Kd.S_drewN | apply Kd.S_drew)); exact HO216.out) hb); have n1_ := Aside0.mk (below_step (by repeat (first | (with_reducible first | exact HB.out | apply below_alloc | apply pw_below_drewN | apply below_drew1) | exact HB.out)) hb); clear HO216; clear HB; have HO216 := n0_; have HB := n1_; clear n0_ n1_; (try clear hb); (try clear hb2); (try clear hk); (try clear hi)) | ((with_reducible refine gate_callee (f := 20) rfl ?_); refine goesL_ (some 21) rfl rfl Try.func20 (by kernel_rfl) rfl #[.slice A0 l0.length c0] rfl (by (try simp only [List.map_toArray, List.map_cons, List.map_nil]); first | done | rfl | (simp only [List.length_drop, List.length_take]; rfl)) ?_; (with_reducible refine (laws_toIntSS.calls k _ _ l0 t219 _ ?side1 ?side2 A6.out).mono ?_); (case side1 => repeat (first | exact (Kd.C_below HR0.out HB.out) | (with_reducible refine Kd.C_alloc ?_ _) | (with_reducible refine Kd.C_drewN ?_ _) | (with_reducible refine Kd.C_drew ?_))); (case side2 => exact HC0.out); rintro e w12 ⟨v220, rfl, ho0, hb⟩; refine ⟨_, rfl, ?_⟩; have n0_ := Aside0.mk (Kd.S_elder' (by (with_reducible repeat (first | apply Kd.S_alloc | apply Kd.S_drewN | apply Kd.S_drew)); exact HO216.out) (Kd.S_base ho0) hb); have n1_ := Aside0.mk (Kd.S_lower (Kd.S_new' ho0 (Kd.S_lt (by (with_reducible repeat (first | apply Kd.S_alloc | apply Kd.S_drewN | apply Kd.S_drew)); exact HO216.out))) (below_size (by repeat (first | (with_reducible first | exact HB.out | apply below_alloc | apply pw_below_drewN | apply below_drew1) | exact HB.out)))); have n2_ := Aside0.mk (below_step (by repeat (first | (with_reducible first | exact HB.out | apply below_alloc | apply pw_below_drewN | apply below_drew1) | exact HB.out)) hb); clear HO216; clear HB; have HO216 := n0_; have HO221 := n1_; have HB := n2_; clear n0_ n1_ n2_; (try clear hb); (try clear hb2); (try clear hk); (try clear hi); (try clear ho0); obtain ⟨Ao13, co13, eo13⟩ := Kd.S_slice HO221.out; subst eo13) | ((with_reducible refine gate_callee (f := 26) rfl ?_); refine goesL_ (some 24) rfl rfl Try.func26 (by kernel_rfl) rfl #[.slice Ao13 t219.length co13] rfl (by (try simp only [List.map_toArray, List.map_cons, List.map_nil]); first | done | rfl | (simp only [List.length_drop, List.length_take]; rfl)) ?_; (with_reducible refine (impl_IsOnlyGrid.calls k _ _ t219 t222 t223 _ ?side1 ?side2 A7.out).mono ?_); (case side1 => repeat (first | exact (Kd.S_reads' HO221.out).2.2 | (with_reducible refine Kd.C_alloc ?_ _) | (with_reducible refine Kd.C_drewN ?_ _) | (with_reducible refine Kd.C_drew ?_))); (case side2 => exact (Kd.S_reads' HO221.out).2.1); rintro e w14 ⟨rfl, hb⟩; refine ⟨_, rfl, ?_⟩; have n0_ := Aside0.mk (Kd.S_below (by (with_reducible repeat (first | apply Kd.S_alloc | apply Kd.S_drewN | apply Kd.S_drew)); exact HO216.out) hb); have n1_ := Aside0.mk (Kd.S_below (by (with_reducible repeat (first | apply Kd.S_alloc | apply Kd.S_drewN | apply Kd.S_drew)); exact HO221.out) hb); have n2_ := Aside0.mk (below_step (by repeat (first | (with_reducible first | exact HB.out | apply below_alloc | apply pw_below_drewN | apply below_drew1) | exact HB.out)) hb); clear HO216; clear HO221; clear HB; have HO216 := n0_; have HO221 := n1_; have HB := n2_; clear n0_ n1_ n2_; (try clear hb); (try clear hb2); (try clear hk); (try clear hi)))
    (try simp only [Act.put, List.setIfInBounds_toArray, List.set_cons_zero, List.set_cons_succ])
    go_cut [34] (fun v34 wc => ∃ (kq : Nat) (x34_7 : Bool), v34 = .bool x34_7 ∧ Aside0 (laws_FnExactIsOnlyGrid.j0 kq l0 t219 x34_7 = some r) ∧ Aside0 (kq ≤ k) ∧ Aside0 (Kd.S (Kd.slice 3 (Kd.int .i64)) 33 wc w.heap.size (fun _ => True) (.slice Ao13 t219.length co13) t219) ∧ Aside0 (Below w.heap.size w wc))
    case first =>
      have H := HC8.out
      clear HC8
      by_cases c15 : (t222 != t217) = true
      · rw [if_pos c15] at H
        have c15b0 : (t222 != t217) = true := c15
        (try (have c15b1 : decide (t222 = t217) = false := by simpa using c15))
        (try (have c15b2 : (t222 == t217) = false := by simpa using c15))
        (try (have c15b3 : ¬ (t222 = t217) := by simpa using c15))
        clear c15
        (first | rw [c15b0] | (simp only [i64_w, i32_w]; rw [c15b0]) | skip)
        have H' := Aside0.mk H
        clear H
        go_wp2
        go_meet
        case rel => exact ⟨_, (true), (by first | rfl | (simp; done) | (simp [*]; done)), H', ⟨by first | omega | exact Nat.le_refl _⟩, ⟨by (with_reducible repeat (first | apply Kd.S_alloc | apply Kd.S_drewN | apply Kd.S_drew)); exact Kd.S_mono HO221.out (fun _ hk => trivial)⟩, ⟨by repeat (first | (with_reducible first | exact HB.out | apply below_alloc | apply pw_below_drewN | apply below_drew1) | exact HB.out)⟩⟩
      · rw [if_neg c15] at H
        have c15b0 : (t222 != t217) = false := by simpa using c15
        (try (have c15b1 : decide (t222 = t217) = true := by simpa using c15))
        (try (have c15b2 : (t222 == t217) = true := by simpa using c15))
        clear c15
        (first | rw [c15b0] | (simp only [i64_w, i32_w]; rw [c15b0]) | skip)
        have H' := Aside0.mk H
        clear H
        go_wp2
        go_meet
        case rel => exact ⟨_, ((t223 != t218)), (by first | rfl | (simp; done) | (simp [*]; done)), H', ⟨by first | omega | exact Nat.le_refl _⟩, ⟨by (with_reducible repeat (first | apply Kd.S_alloc | apply Kd.S_drewN | apply Kd.S_drew)); exact Kd.S_mono HO221.out (fun _ hk => trivial)⟩, ⟨by repeat (first | (with_reducible first | exact HB.out | apply below_alloc | apply pw_below_drewN | apply below_drew1) | exact HB.out)⟩⟩
    case rest =>
      clear HC8
      try clear c1
      try clear c2
      try clear p2
      try clear c3
      try clear c3b0
      try clear c5
      try clear c15
      try clear c15b0
      try clear c15b1
      try clear c15b2
      obtain ⟨kq, x34_7, rfl, HA, HJ7, HO_6, HB⟩ := hcut
      cases kq with
      | zero => exact absurd HA.out (by simp [laws_FnExactIsOnlyGrid.j0])
      | succ kj7 =>
        have H := HA.out
        clear HA
        simp only [laws_FnExactIsOnlyGrid.j0] at H
        by_cases c16 : x34_7 = true
        · subst c16
          have H1 : (some false) = some r := by rw [if_pos rfl] at H; exact H
          clear H
          have H := H1
          clear H1
          obtain rfl := Option.some.inj H
          go_wp2
          go_ret
          exact ⟨by first | rfl | (simp [errW_none, errW_some] <;> rfl) | (simp [*, errW_none, errW_some] <;> rfl), by repeat (first | (with_reducible first | exact HB.out | apply below_alloc | apply pw_below_drewN | apply below_drew1) | exact HB.out)⟩
        · replace c16 := Bool.eq_false_iff.mpr c16
          subst c16
          have H1 : ((laws_toIntSS.f kj7 l0).bind fun t224 => ((laws_eqIntSS.f kj7 t219 t224).bind fun t227 => (if t227 = true then (some true) else (some false)))) = some r := by rw [if_neg (show ¬ (false = true) by decide)] at H; exact H
          clear H
          have H := H1
          clear H1
          replace H := Option.bind_eq_some_iff.mp H
          obtain ⟨t224, A170, H⟩ := H
          replace H : ((laws_eqIntSS.f kj7 t219 t224).bind fun t227 => (if t227 = true then (some true) else (some false))) = some r := H
          have A17 := Aside0.mk A170
          clear A170
          replace H := Option.bind_eq_some_iff.mp H
          obtain ⟨t227, A180, H⟩ := H
          replace H : (if t227 = true then (some true) else (some false)) = some r := H
          have A18 := Aside0.mk A180
          clear A180
          by_cases c19 : t227 = true
          · subst c19
            have H1 : (some true) = some r := by rw [if_pos rfl] at H; exact H
            clear H
            have H := H1
            clear H1
            obtain rfl := Option.some.inj H
            go_wp2_with (first | ((with_reducible refine gate_callee (f := 20) rfl ?_); refine goesL_ (some 37) rfl rfl Try.func20 (by kernel_rfl) rfl #[.slice A0 l0.length c0] rfl (by (try simp only [List.map_toArray, List.map_cons, List.map_nil]); first | done | rfl | (simp only [List.length_drop, List.length_take]; rfl)) ?_; (with_reducible refine (laws_toIntSS.calls kj7 _ _ l0 t224 _ ?side1 ?side2 A17.out).mono ?_); (case side1 => repeat (first | exact (Kd.C_below HR0.out HB.out) | (with_reducible refine Kd.C_alloc ?_ _) | (with_reducible refine Kd.C_drewN ?_ _) | (with_reducible refine Kd.C_drew ?_))); (case side2 => exact HC0.out); rintro e w20 ⟨v225, rfl, ho0, hb⟩; refine ⟨_, rfl, ?_⟩; have n0_ := Aside0.mk (Kd.S_elder' (by (with_reducible repeat (first | apply Kd.S_alloc | apply Kd.S_drewN | apply Kd.S_drew)); exact HO_6.out) (Kd.S_base ho0) hb); have n1_ := Aside0.mk (Kd.S_lower (Kd.S_new' ho0 (Kd.S_lt (by (with_reducible repeat (first | apply Kd.S_alloc | apply Kd.S_drewN | apply Kd.S_drew)); exact HO_6.out))) (below_size (by repeat (first | (with_reducible first | exact HB.out | apply below_alloc | apply pw_below_drewN | apply below_drew1) | exact HB.out)))); have n2_ := Aside0.mk (below_step (by repeat (first | (with_reducible first | exact HB.out | apply below_alloc | apply pw_below_drewN | apply below_drew1) | exact HB.out)) hb); clear HO_6; clear HB; have HO_6 := n0_; have HO226 := n1_; have HB := n2_; clear n0_ n1_ n2_; (try clear hb); (try clear hb2); (try clear hk); (try clear hi); (try clear ho0); obtain ⟨Ao21, co21, eo21⟩ := Kd.S_slice HO226.out; subst eo21) | ((with_reducible refine gate_callee (f := 22) rfl ?_); refine goesL_ (some 38) rfl rfl Try.func22 (by kernel_rfl) rfl #[.slice Ao13 t219.length co13, .slice Ao21 t224.length co21] rfl (by (try simp only [List.map_toArray, List.map_cons, List.map_nil]); first | done | rfl | (simp only [List.length_drop, List.length_take]; rfl)) ?_; (with_reducible refine (laws_eqIntSS.calls kj7 _ _ t219 _ _ t224 true _ ?side1 ?side2 ?side3 ?side4 A18.out).mono ?_); (case side1 => repeat (first | exact (Kd.S_reads' HO_6.out).2.2 | (with_reducible refine Kd.C_alloc ?_ _) | (with_reducible refine Kd.C_drewN ?_ _) | (with_reducible refine Kd.C_drew ?_))); (case side2 => exact (Kd.S_reads' HO_6.out).2.1); (case side3 => repeat (first | exact (Kd.S_reads' HO226.out).2.2 | (with_reducible refine Kd.C_alloc ?_ _) | (with_reducible refine Kd.C_drewN ?_ _) | (with_reducible refine Kd.C_drew ?_))); (case side4 => exact (Kd.S_reads' HO226.out).2.1); rintro e w' ⟨rfl, ⟨nd, rfl⟩⟩; refine ⟨_, rfl, ?_⟩))
            go_ret
            exact ⟨by first | rfl | (simp [errW_none, errW_some] <;> rfl) | (simp [*, errW_none, errW_some] <;> rfl), by repeat (first | (with_reducible first | exact HB.out | apply below_alloc | apply pw_below_drewN | apply below_drew1) | exact HB.out)⟩
          · replace c19 := Bool.eq_false_iff.mpr c19
            subst c19
            have H1 : (some false) = some r := by rw [if_neg (show ¬ (false = true) by decide)] at H; exact H
            clear H
            have H := H1
            clear H1
            obtain rfl := Option.some.inj H
            go_wp2_with (first | ((with_reducible refine gate_callee (f := 20) rfl ?_); refine goesL_ (some 37) rfl rfl Try.func20 (by kernel_rfl) rfl #[.slice A0 l0.length c0] rfl (by (try simp only [List.map_toArray, List.map_cons, List.map_nil]); first | done | rfl | (simp only [List.length_drop, List.length_take]; rfl)) ?_; (with_reducible refine (laws_toIntSS.calls kj7 _ _ l0 t224 _ ?side1 ?side2 A17.out).mono ?_); (case side1 => repeat (first | exact (Kd.C_below HR0.out HB.out) | (with_reducible refine Kd.C_alloc ?_ _) | (with_reducible refine Kd.C_drewN ?_ _) | (with_reducible refine Kd.C_drew ?_))); (case side2 => exact HC0.out); rintro e w22 ⟨v225, rfl, ho0, hb⟩; refine ⟨_, rfl, ?_⟩; have n0_ := Aside0.mk (Kd.S_elder' (by (with_reducible repeat (first | apply Kd.S_alloc | apply Kd.S_drewN | apply Kd.S_drew)); exact HO_6.out) (Kd.S_base ho0) hb); have n1_ := Aside0.mk (Kd.S_lower (Kd.S_new' ho0 (Kd.S_lt (by (with_reducible repeat (first | apply Kd.S_alloc | apply Kd.S_drewN | apply Kd.S_drew)); exact HO_6.out))) (below_size (by repeat (first | (with_reducible first | exact HB.out | apply below_alloc | apply pw_below_drewN | apply below_drew1) | exact HB.out)))); have n2_ := Aside0.mk (below_step (by repeat (first | (with_reducible first | exact HB.out | apply below_alloc | apply pw_below_drewN | apply below_drew1) | exact HB.out)) hb); clear HO_6; clear HB; have HO_6 := n0_; have HO226 := n1_; have HB := n2_; clear n0_ n1_ n2_; (try clear hb); (try clear hb2); (try clear hk); (try clear hi); (try clear ho0); obtain ⟨Ao23, co23, eo23⟩ := Kd.S_slice HO226.out; subst eo23) | ((with_reducible refine gate_callee (f := 22) rfl ?_); refine goesL_ (some 38) rfl rfl Try.func22 (by kernel_rfl) rfl #[.slice Ao13 t219.length co13, .slice Ao23 t224.length co23] rfl (by (try simp only [List.map_toArray, List.map_cons, List.map_nil]); first | done | rfl | (simp only [List.length_drop, List.length_take]; rfl)) ?_; (with_reducible refine (laws_eqIntSS.calls kj7 _ _ t219 _ _ t224 false _ ?side1 ?side2 ?side3 ?side4 A18.out).mono ?_); (case side1 => repeat (first | exact (Kd.S_reads' HO_6.out).2.2 | (with_reducible refine Kd.C_alloc ?_ _) | (with_reducible refine Kd.C_drewN ?_ _) | (with_reducible refine Kd.C_drew ?_))); (case side2 => exact (Kd.S_reads' HO_6.out).2.1); (case side3 => repeat (first | exact (Kd.S_reads' HO226.out).2.2 | (with_reducible refine Kd.C_alloc ?_ _) | (with_reducible refine Kd.C_drewN ?_ _) | (with_reducible refine Kd.C_drew ?_))); (case side4 => exact (Kd.S_reads' HO226.out).2.1); rintro e w' ⟨rfl, ⟨nd, rfl⟩⟩; refine ⟨_, rfl, ?_⟩))
            go_ret
            exact ⟨by first | rfl | (simp [errW_none, errW_some] <;> rfl) | (simp [*, errW_none, errW_some] <;> rfl), by repeat (first | (with_reducible first | exact HB.out | apply below_alloc | apply pw_below_drewN | apply below_drew1) | exact HB.out)⟩

end Go.Proofs.Ytojcnapdalpnmaa.P

namespace Go.Proofs.Ytojcnapdalpnmaa.K
open Go.RowKit Go.Proofs.YtojcnapdalpnmaaW.PrintWords Go.Proofs.Ytojcnapdalpnmaa.P
set_option linter.unusedVariables false
set_option linter.unusedSimpArgs false

/-- A loop over indices that carries a state, told as: what it goes on with answers for it. -/
theorem contLoop {σ α : Type} (g : σ → Nat → Nat → Option α) (n : Nat) (f : σ → Nat → σ) (I : σ → Nat → Prop)
    (hs : ∀ s j, j < n → I s j → I (f s j) (j + 1) ∧ ∀ x, Ev (g (f s j) (j + 1)) x → Ev (g s j) x) : ∀ d s j, j + d = n → I s j → I ((List.range' j d).foldl f s) n ∧ ∀ x, Ev (g ((List.range' j d).foldl f s) n) x → Ev (g s j) x := by
  intro d
  induction d with
  | zero =>
    intro s j hj hi
    obtain rfl : j = n := by omega
    exact ⟨hi, fun x h => h⟩
  | succ d ih =>
    intro s j hj hi
    obtain ⟨h1, h2⟩ := hs s j (by omega) hi
    obtain ⟨h3, h4⟩ := ih _ _ (by omega) h1
    rw [List.range'_succ, List.foldl_cons]
    exact ⟨h3, fun x h => h2 x (h4 x h)⟩
/-- The list, laid by four loops. -/
def sw3 {S : Type} (p : Nat → Nat → Nat → Nat → Bool) (mk : Nat → Nat → Nat → Nat → S) (n i k c : Nat) (s : List S) : List S := (List.range' (c + 1) (n - (c + 1))).foldl (fun s d => if p i k c d then s ++ [mk i k c d] else s) s
def sw2 {S : Type} (p : Nat → Nat → Nat → Nat → Bool) (mk : Nat → Nat → Nat → Nat → S) (n i k : Nat) (s : List S) : List S := (List.range' 0 n).foldl (fun s c => sw3 p mk n i k c s) s
def sw1 {S : Type} (p : Nat → Nat → Nat → Nat → Bool) (mk : Nat → Nat → Nat → Nat → S) (m n i : Nat) (s : List S) : List S := (List.range' (i + 1) (m - (i + 1))).foldl (fun s k => sw2 p mk n i k s) s
def sw0 {S : Type} (p : Nat → Nat → Nat → Nat → Bool) (mk : Nat → Nat → Nat → Nat → S) (m n : Nat) : List S := (List.range' 0 m).foldl (fun s i => sw1 p mk m n i s) []

/-- Four places make a switch. -/
def isSw (l : List (List Int)) (i k c d : Nat) : Bool :=
  let g := fun (a b : Nat) => rd (rd_L1 l (a : Int)) (b : Int)
  decide (g i c = g k d) && decide (g i d = g k c) && decide (g i c ≠ g i d)
theorem rd_mem {l : List (List Int)} {i : Nat} (h : i < l.length) : rd_L1 l (i : Int) ∈ l := by
  unfold rd_L1
  simp [List.getD_eq_getElem?_getD, List.getElem?_eq_getElem h]
theorem maIs_f {l : List (List Int)} (hg : gridB l = true) {i k c d : Nat} (h1 : i < k) (h2 : k < l.length) (h3 : c < d) (h4 : d < (rd_L1 l 0).length) : spec_maIs.f l i k c d = some (isSw l i k c d) := by
  unfold spec_maIs.f
  rw [if_pos hg]
  have e : swIn l i k c d = true := by simp only [swIn, decide_eq_true_eq]; omega
  simp only [swB, e, Bool.true_and, swAt, isSw]
theorem isSwitch_f {l : List (List Int)} (hg : gridB l = true) {i k c d : Nat} (h1 : i < k) (h2 : k < l.length) (h3 : c < d) (h4 : d < (rd_L1 l 0).length) : impl_isSwitch.f l i k c d = some (isSw l i k c d) := by
  unfold impl_isSwitch.f
  rw [if_pos hg]
  have e : swIn l i k c d = true := by simp only [swIn, decide_eq_true_eq]; omega
  simp only [swB, e, Bool.true_and, swAt, isSw]
def mkSw (i k c d : Nat) : S41 := ⟨i, k, c, d⟩
def sws (l : List (List Int)) : List S41 := sw0 (isSw l) mkSw l.length (rd_L1 l 0).length

theorem maSwitches_f {l : List (List Int)} (hg : gridB l = true) : Ev (fun k => spec_maSwitches.f k l) (sws l) := by
  obtain ⟨g1, g2, g3, g4, -⟩ := grid_get hg
  have p0 : 0 < (l.length : Int) := by omega
  unfold spec_maSwitches.f
  have L3 : ∀ (i k c : Nat) (B : Nat) (x25 : Int), i < k → k < l.length → c < (rd_L1 l 0).length → B ≤ 4096 → ∀ s : List S41, s.length ≤ B → (sw3 (isSw l) mkSw (rd_L1 l 0).length i k c s).length ≤ B + 6 ∧ ∀ x, Ev (fun n => spec_maSwitches.l2 n l (sw3 (isSw l) mkSw (rd_L1 l 0).length i k c s) i k (l.length : Int) i x25 ((c + 1 : Nat) : Int)) x → Ev (fun n => spec_maSwitches.l3 n l s i k c ((c + 1 : Nat) : Int) (l.length : Int) i x25 c) x := by
    intro i k c B x25 hik hk hc hB s hs
    obtain ⟨h1, h2⟩ := contLoop (fun s j n => spec_maSwitches.l3 n l s i k c (j : Int) (l.length : Int) i x25 c) (rd_L1 l 0).length (fun s d => if isSw l i k c d then s ++ [mkSw i k c d] else s) (fun s j => s.length ≤ B + j ∧ c < j)
      (fun s j hj hi => by
        have q : (j : Int) < ((rd_L1 l 0).length : Int) := by omega
        have hi' : s.length ≤ B + j := hi.1
        have hj' : c < j := hi.2
        refine ⟨⟨by split <;> (first | (simp only [List.length_append, List.length_cons, List.length_nil]; omega) | omega), by omega⟩, fun x hx => Ev.step (fun n => by rw [spec_maSwitches.l3]) ?_⟩
        simp only [if_pos p0, if_pos q, maIs_f hg hik hk hi.2 hj, Option.bind_some, wrap_nat j (by omega)]
        cases hb : isSw l i k c j with
        | true =>
          have q2 : s.length < 4398046511104 := by omega
          simp only [hb, if_true] at hx
          simpa only [if_true, if_pos q2, mkSw] using hx
        | false =>
          simp only [hb, Bool.false_eq_true, if_false] at hx
          simpa only [Bool.false_eq_true, if_false] using hx) ((rd_L1 l 0).length - (c + 1)) s (c + 1) (by omega) ⟨by omega, by omega⟩
    refine ⟨by have := h1.1; unfold sw3; omega, fun x hx => h2 x (Ev.step (fun n => by rw [spec_maSwitches.l3]) ?_)⟩
    have q : ¬ ((rd_L1 l 0).length : Int) < ((rd_L1 l 0).length : Int) := by omega
    simp only [if_pos p0, if_neg q, wrap_nat c (by omega)]
    exact hx
  have L2 : ∀ (i k : Nat) (B : Nat), i < k → k < l.length → B ≤ 2048 → ∀ s : List S41, s.length ≤ B → (sw2 (isSw l) mkSw (rd_L1 l 0).length i k s).length ≤ B + 36 ∧ ∀ x, Ev (fun n => spec_maSwitches.l1 n l (sw2 (isSw l) mkSw (rd_L1 l 0).length i k s) i ((k + 1 : Nat) : Int) (l.length : Int) i) x → Ev (fun n => spec_maSwitches.l1 n l s i k (l.length : Int) i) x := by
    intro i k B hik hk hB s hs
    obtain ⟨h1, h2⟩ := contLoop (fun s j n => spec_maSwitches.l2 n l s i k (l.length : Int) i ((rd_L1 l 0).length : Int) (j : Int)) (rd_L1 l 0).length (fun s c => sw3 (isSw l) mkSw (rd_L1 l 0).length i k c s) (fun s j => s.length ≤ B + 6 * j)
      (fun s j hj hi => by
        have q : (j : Int) < ((rd_L1 l 0).length : Int) := by omega
        obtain ⟨h3, h4⟩ := L3 i k j (B + 6 * j) ((rd_L1 l 0).length : Int) hik hk hj (by omega) s hi
        refine ⟨by omega, fun x hx => Ev.step (fun n => by rw [spec_maSwitches.l2]) ?_⟩
        simp only [if_pos q, wrap_nat j (by omega)]
        exact h4 x hx) (rd_L1 l 0).length s 0 (by omega) (by omega)
    refine ⟨by unfold sw2; omega, fun x hx => Ev.step (fun n => by rw [spec_maSwitches.l1]) ?_⟩
    have q : (k : Int) < (l.length : Int) := by omega
    simp only [if_pos p0, if_pos q]
    refine h2 x (Ev.step (fun n => by rw [spec_maSwitches.l2]) ?_)
    have q : ¬ ((rd_L1 l 0).length : Int) < ((rd_L1 l 0).length : Int) := by omega
    simp only [if_neg q, wrap_nat k (by omega)]
    exact hx
  have L1 : ∀ (i : Nat) (B : Nat), i < l.length → B ≤ 1500 → ∀ s : List S41, s.length ≤ B → (sw1 (isSw l) mkSw l.length (rd_L1 l 0).length i s).length ≤ B + 216 ∧ ∀ x, Ev (fun n => spec_maSwitches.l0 n l (sw1 (isSw l) mkSw l.length (rd_L1 l 0).length i s) (l.length : Int) ((i + 1 : Nat) : Int)) x → Ev (fun n => spec_maSwitches.l0 n l s (l.length : Int) i) x := by
    intro i B hik hB s hs
    obtain ⟨h1, h2⟩ := contLoop (fun s j n => spec_maSwitches.l1 n l s i (j : Int) (l.length : Int) i) l.length (fun s k => sw2 (isSw l) mkSw (rd_L1 l 0).length i k s) (fun s j => s.length ≤ B + 36 * j ∧ i < j)
      (fun s j hj hi => by
        obtain ⟨h3, h4⟩ := L2 i j (B + 36 * j) hi.2 hj (by omega) s hi.1
        exact ⟨⟨by omega, by omega⟩, h4⟩) (l.length - (i + 1)) s (i + 1) (by omega) ⟨by omega, by omega⟩
    refine ⟨by have := h1.1; unfold sw1; omega, fun x hx => Ev.step (fun n => by rw [spec_maSwitches.l0]) ?_⟩
    have q : (i : Int) < (l.length : Int) := by omega
    simp only [if_pos q, wrap_nat i (by omega)]
    refine h2 x (Ev.step (fun n => by rw [spec_maSwitches.l1]) ?_)
    have q : ¬ (l.length : Int) < (l.length : Int) := by omega
    simp only [if_neg q, wrap_nat i (by omega)]
    exact hx
  obtain ⟨h1, h2⟩ := contLoop (fun s j n => spec_maSwitches.l0 n l s (l.length : Int) (j : Int)) l.length (fun s i => sw1 (isSw l) mkSw l.length (rd_L1 l 0).length i s) (fun s j => s.length ≤ 216 * j)
    (fun s j hj hi => by
      obtain ⟨h3, h4⟩ := L1 j (216 * j) hj (by omega) s hi
      exact ⟨by omega, h4⟩) l.length [] 0 (by omega) (by simp)
  refine h2 _ (Ev.step (fun n => by rw [spec_maSwitches.l0]) ?_)
  have q : ¬ (l.length : Int) < (l.length : Int) := by omega
  simp only [if_neg q]
  exact Ev.now _

theorem switches_f {l : List (List Int)} (hg : gridB l = true) : Ev (fun k => impl_switches.f k l) (sws l) := by
  obtain ⟨g1, g2, g3, g4, -⟩ := grid_get hg
  have p0 : 0 < (l.length : Int) := by omega
  unfold impl_switches.f
  have L3 : ∀ (i k c : Nat) (B : Nat) (x25 : Int), i < k → k < l.length → c < (rd_L1 l 0).length → B ≤ 4096 → ∀ s : List S41, s.length ≤ B → (sw3 (isSw l) mkSw (rd_L1 l 0).length i k c s).length ≤ B + 6 ∧ ∀ x, Ev (fun n => impl_switches.l2 n l (sw3 (isSw l) mkSw (rd_L1 l 0).length i k c s) i k (l.length : Int) i x25 ((c + 1 : Nat) : Int)) x → Ev (fun n => impl_switches.l3 n l s i k c ((c + 1 : Nat) : Int) (l.length : Int) i x25 c) x := by
    intro i k c B x25 hik hk hc hB s hs
    obtain ⟨h1, h2⟩ := contLoop (fun s j n => impl_switches.l3 n l s i k c (j : Int) (l.length : Int) i x25 c) (rd_L1 l 0).length (fun s d => if isSw l i k c d then s ++ [mkSw i k c d] else s) (fun s j => s.length ≤ B + j ∧ c < j)
      (fun s j hj hi => by
        have q : (j : Int) < ((rd_L1 l 0).length : Int) := by omega
        have hi' : s.length ≤ B + j := hi.1
        have hj' : c < j := hi.2
        refine ⟨⟨by split <;> (first | (simp only [List.length_append, List.length_cons, List.length_nil]; omega) | omega), by omega⟩, fun x hx => Ev.step (fun n => by rw [impl_switches.l3]) ?_⟩
        simp only [if_pos p0, if_pos q, isSwitch_f hg hik hk hi.2 hj, Option.bind_some, wrap_nat j (by omega)]
        cases hb : isSw l i k c j with
        | true =>
          have q2 : s.length < 4398046511104 := by omega
          simp only [hb, if_true] at hx
          simpa only [if_true, if_pos q2, mkSw] using hx
        | false =>
          simp only [hb, Bool.false_eq_true, if_false] at hx
          simpa only [Bool.false_eq_true, if_false] using hx) ((rd_L1 l 0).length - (c + 1)) s (c + 1) (by omega) ⟨by omega, by omega⟩
    refine ⟨by have := h1.1; unfold sw3; omega, fun x hx => h2 x (Ev.step (fun n => by rw [impl_switches.l3]) ?_)⟩
    have q : ¬ ((rd_L1 l 0).length : Int) < ((rd_L1 l 0).length : Int) := by omega
    simp only [if_pos p0, if_neg q, wrap_nat c (by omega)]
    exact hx
  have L2 : ∀ (i k : Nat) (B : Nat), i < k → k < l.length → B ≤ 2048 → ∀ s : List S41, s.length ≤ B → (sw2 (isSw l) mkSw (rd_L1 l 0).length i k s).length ≤ B + 36 ∧ ∀ x, Ev (fun n => impl_switches.l1 n l (sw2 (isSw l) mkSw (rd_L1 l 0).length i k s) i ((k + 1 : Nat) : Int) (l.length : Int) i) x → Ev (fun n => impl_switches.l1 n l s i k (l.length : Int) i) x := by
    intro i k B hik hk hB s hs
    obtain ⟨h1, h2⟩ := contLoop (fun s j n => impl_switches.l2 n l s i k (l.length : Int) i ((rd_L1 l 0).length : Int) (j : Int)) (rd_L1 l 0).length (fun s c => sw3 (isSw l) mkSw (rd_L1 l 0).length i k c s) (fun s j => s.length ≤ B + 6 * j)
      (fun s j hj hi => by
        have q : (j : Int) < ((rd_L1 l 0).length : Int) := by omega
        obtain ⟨h3, h4⟩ := L3 i k j (B + 6 * j) ((rd_L1 l 0).length : Int) hik hk hj (by omega) s hi
        refine ⟨by omega, fun x hx => Ev.step (fun n => by rw [impl_switches.l2]) ?_⟩
        simp only [if_pos q, wrap_nat j (by omega)]
        exact h4 x hx) (rd_L1 l 0).length s 0 (by omega) (by omega)
    refine ⟨by unfold sw2; omega, fun x hx => Ev.step (fun n => by rw [impl_switches.l1]) ?_⟩
    have q : (k : Int) < (l.length : Int) := by omega
    simp only [if_pos p0, if_pos q]
    refine h2 x (Ev.step (fun n => by rw [impl_switches.l2]) ?_)
    have q : ¬ ((rd_L1 l 0).length : Int) < ((rd_L1 l 0).length : Int) := by omega
    simp only [if_neg q, wrap_nat k (by omega)]
    exact hx
  have L1 : ∀ (i : Nat) (B : Nat), i < l.length → B ≤ 1500 → ∀ s : List S41, s.length ≤ B → (sw1 (isSw l) mkSw l.length (rd_L1 l 0).length i s).length ≤ B + 216 ∧ ∀ x, Ev (fun n => impl_switches.l0 n l (sw1 (isSw l) mkSw l.length (rd_L1 l 0).length i s) (l.length : Int) ((i + 1 : Nat) : Int)) x → Ev (fun n => impl_switches.l0 n l s (l.length : Int) i) x := by
    intro i B hik hB s hs
    obtain ⟨h1, h2⟩ := contLoop (fun s j n => impl_switches.l1 n l s i (j : Int) (l.length : Int) i) l.length (fun s k => sw2 (isSw l) mkSw (rd_L1 l 0).length i k s) (fun s j => s.length ≤ B + 36 * j ∧ i < j)
      (fun s j hj hi => by
        obtain ⟨h3, h4⟩ := L2 i j (B + 36 * j) hi.2 hj (by omega) s hi.1
        exact ⟨⟨by omega, by omega⟩, h4⟩) (l.length - (i + 1)) s (i + 1) (by omega) ⟨by omega, by omega⟩
    refine ⟨by have := h1.1; unfold sw1; omega, fun x hx => Ev.step (fun n => by rw [impl_switches.l0]) ?_⟩
    have q : (i : Int) < (l.length : Int) := by omega
    simp only [if_pos q, wrap_nat i (by omega)]
    refine h2 x (Ev.step (fun n => by rw [impl_switches.l1]) ?_)
    have q : ¬ (l.length : Int) < (l.length : Int) := by omega
    simp only [if_neg q, wrap_nat i (by omega)]
    exact hx
  obtain ⟨h1, h2⟩ := contLoop (fun s j n => impl_switches.l0 n l s (l.length : Int) (j : Int)) l.length (fun s i => sw1 (isSw l) mkSw l.length (rd_L1 l 0).length i s) (fun s j => s.length ≤ 216 * j)
    (fun s j hj hi => by
      obtain ⟨h3, h4⟩ := L1 j (216 * j) hj (by omega) s hi
      exact ⟨by omega, h4⟩) l.length [] 0 (by omega) (by simp)
  refine h2 _ (Ev.step (fun n => by rw [impl_switches.l0]) ?_)
  have q : ¬ (l.length : Int) < (l.length : Int) := by omega
  simp only [if_neg q]
  exact Ev.now _

end Go.Proofs.Ytojcnapdalpnmaa.K

/- The law FnExactIsOnlyGrid holds: the program's IsOnlyGrid returns what the reference's returns, for all slices of rows (no condition). -/
namespace Go.Proofs.Ytojcnapdalpnmaa.Pure
open Go.RowKit Go.Proofs.YtojcnapdalpnmaaW.PrintWords Go.Proofs.Ytojcnapdalpnmaa.P Go.Proofs.Ytojcnapdalpnmaa.K
set_option linter.unusedVariables false
set_option linter.unusedSimpArgs false

theorem FnExactIsOnlyGrid : ∀ (l : List (List Int)), l.length ≤ maxLen → (∀ r ∈ l, r.length ≤ maxLen ∧ ∀ n ∈ r, (Lit.int .i64 n).wf = true) → ∃ k, laws_FnExactIsOnlyGrid.f k l = some true := by
  intro l hl hr
  refine Ev.rounds (g := fun k => laws_FnExactIsOnlyGrid.f k l) ?_
  unfold laws_FnExactIsOnlyGrid.f
  obtain ⟨r, hr1, _, hr2⟩ := szIntSS_f l 1048576 hl (fun r h => (hr r h).1) (by omega) (by omega)
  refine Ev.bind hr1 (Ev.ite (fun _ => Ev.now _) (fun h => ?_))
  obtain ⟨h1, h2⟩ := hr2 (by omega)
  have h3 : l.length ≤ 1048576 := by omega
  have h4 : l.length ≤ BM := by simp only [BM]; omega
  have h5 : ∀ r ∈ l, r.length ≤ BM := fun x hx => by have := h2 x hx; simp only [BM]; omega
  refine Ev.bind (toIntSS_f l h3 h5) ?_
  obtain ⟨v, hs, hi⟩ : ∃ v : Bool × Bool, Ev (fun k => spec_IsOnlyGrid.f k l) v ∧ Ev (fun k => impl_IsOnlyGrid.f k l) v := by
    cases hg : gridB l with
    | true =>
      refine ⟨(((sws l).length : Int) == 0, true), ?_, ?_⟩
      · unfold spec_IsOnlyGrid.f
        refine Ev.bind (maGrid_f l h4 h5) ?_
        simp only [hg, if_true]
        exact Ev.bind (maSwitches_f hg) (Ev.now _)
      · unfold impl_IsOnlyGrid.f
        simp only [IsGrid_f l h4 h5, hg, Option.bind_some, if_true]
        exact Ev.bind (switches_f hg) (Ev.now _)
    | false =>
      refine ⟨(false, false), ?_, ?_⟩
      · unfold spec_IsOnlyGrid.f
        refine Ev.bind (maGrid_f l h4 h5) ?_
        simp only [hg, Bool.false_eq_true, if_false]
        exact Ev.now _
      · unfold impl_IsOnlyGrid.f
        simp only [IsGrid_f l h4 h5, hg, Option.bind_some, Bool.false_eq_true, if_false]
        exact Ev.now _
  refine Ev.bind hs (Ev.bind (toIntSS_f l h3 h5) ?_)
  refine Ev.bind hi ?_
  simp only [bne_self_eq_false, Bool.false_eq_true, if_false]
  refine Ev.step (fun k => by rw [laws_FnExactIsOnlyGrid.j0]) ?_
  simp only [Bool.false_eq_true, if_false]
  refine Ev.bind (toIntSS_f l h3 h5) (Ev.bind (eqIntSS_same l h4 h5) ?_)
  simpa using Ev.now true

end Go.Proofs.Ytojcnapdalpnmaa.Pure

namespace Go.Proofs.Ytojcnapdalpnmaa.K
open Go.RowKit Go.ChangeShapes Go.WideShapes Go.ChangeAt Go.Deep Go.Proofs.YtojcnapdalpnmaaW.PrintWords
set_option linter.unusedVariables false
set_option linter.unusedSimpArgs false
section
variable {H : Type} {enc : TypeId × Value → H} {P : Program} {w : World}

/-- A row of whole numbers among the arguments. -/
theorem open_row {t e : TypeId} {fuel : Nat} {cs : List Value} {x : DataW H × List MemPlace} (ht : P.underlying t = some (.slice e)) (he : P.underlying e = some (.int .i64)) (hc : P.cellsOf e = 1)
    (h : DataW.trod enc P w 0 (fun _ => true) true fuel t cs = some x) :
    ∃ (A : Option Addr) (c : Nat) (l : List Int), cs = [.slice A l.length c] ∧ l.length ≤ c ∧ l.length ≤ maxLen ∧ (∀ n ∈ l, (Lit.int .i64 n).wf = true) ∧ Kd.C (Kd.int .i64) w A l.length l := by
  rcases open_ints ht he hc h with ⟨rfl, _⟩ | ⟨a, l, c, zs, rfl, _, hl, hm, hz, _, hcell, hwz⟩
  · exact ⟨none, 0, [], rfl, Nat.le_refl _, by simp [maxLen], by simp, Kd.C_nil _ _⟩
  · obtain ⟨l0, rfl, hr0, hm0, hw0, hc0⟩ := ReadsInt.ofRowC (k := .i64) (w := w) (a := some a) (len := l) (cap := c) (zs := zs) (.inr ⟨a, rfl, hl, hm, by simpa using hz, hcell, hwz⟩)
    exact ⟨some a, c, l0, rfl, hc0, hm0, hw0, Kd.C_of_reads (d := (0 : Int)) (h1 := fun _ => rfl) hr0⟩
/-- A slice of rows of whole numbers among the arguments. -/
theorem open_rows {t e q : TypeId} {fuel : Nat} {cs : List Value} {x : DataW H × List MemPlace} (ht : P.underlying t = some (.slice e)) (he : P.underlying e = some (.slice q)) (hq : P.underlying q = some (.int .i64))
    (ce : P.cellsOf e = 1) (cq : P.cellsOf q = 1) (h : DataW.trod enc P w 0 (fun _ => true) true fuel t cs = some x) :
    ∃ (A : Option Addr) (c : Nat) (l : List (List Int)), cs = [.slice A l.length c] ∧ l.length ≤ c ∧ l.length ≤ maxLen ∧ (∀ r ∈ l, r.length ≤ maxLen ∧ ∀ n ∈ r, (Lit.int .i64 n).wf = true) ∧ Kd.C (Kd.slice q (Kd.int .i64)) w A l.length l := by
  rcases open_int_rows ht he hq ce cq h with ⟨rfl, _⟩ | ⟨a, len, cap, A, L, C, Z, rfl, _, hl, hm, _, hr⟩
  · exact ⟨none, 0, [], rfl, Nat.le_refl _, by simp [maxLen], by simp, Kd.C_nil _ _⟩
  · have hrow : ∀ r, r < cap → ∃ l0 : List Int, L r = l0.length ∧ l0.length ≤ C r ∧ l0.length ≤ maxLen ∧ (∀ n ∈ l0, (Lit.int .i64 n).wf = true) ∧ Kd.C (Kd.int .i64) w (A r) l0.length l0 := by
      intro r hrc
      obtain ⟨h1, h2, h3, h4, h5, h6, h7⟩ := hr r hrc
      cases hA : A r with
      | none =>
        have hC := h6 hA
        exact ⟨[], by simp; omega, by simp, by simp [maxLen], by simp, Kd.C_nil _ _⟩
      | some a' =>
        obtain ⟨_, h8⟩ := h7 a' hA
        obtain ⟨l0, e0, hr0, hm0, hw0, hc0⟩ := ReadsInt.ofRowC (k := .i64) (w := w) (a := some a') (len := L r) (cap := C r) (zs := Z r) (.inr ⟨a', rfl, h2, h3, h4, fun i hi => h8 i (by omega), h5⟩)
        exact ⟨l0, e0, hc0, hm0, hw0, Kd.C_of_reads (d := (0 : Int)) (h1 := fun _ => rfl) hr0⟩
    let F : Nat → List Int := fun r => if h : r < cap then Classical.choose (hrow r h) else []
    have hF : ∀ r, r < cap → L r = (F r).length ∧ (F r).length ≤ C r ∧ (F r).length ≤ maxLen ∧ (∀ n ∈ F r, (Lit.int .i64 n).wf = true) ∧ Kd.C (Kd.int .i64) w (A r) (F r).length (F r) := by
      intro r h
      have := Classical.choose_spec (hrow r h)
      simpa [F, h] using this
    refine ⟨some a, cap, (List.range len).map F, by simp, by simpa using hl, by simp; omega, ?_, ?_⟩
    · intro r hmem
      obtain ⟨i, hi, rfl⟩ := List.mem_map.1 hmem
      have := hF i (by have := List.mem_range.1 hi; omega)
      exact ⟨this.2.2.1, this.2.2.2.1⟩
    · refine ⟨by simp, by simp; unfold maxLen at hm; omega, fun _ => ⟨a, rfl, ?_⟩⟩
      intro j p hp
      obtain ⟨hj, rfl⟩ : j < len ∧ F j = p := by
        rw [List.getElem?_map] at hp
        by_cases hj : j < len
        · rw [List.getElem?_range hj] at hp; simpa [hj] using hp
        · rw [List.getElem?_eq_none (by simp; omega)] at hp; simp at hp
      obtain ⟨f1, f2, f3, f4, f5⟩ := hF j (by omega)
      obtain ⟨h1, _⟩ := hr j (by omega)
      refine ⟨[.slice (A j) (F j).length (C j)], rfl, ⟨A j, C j, rfl, f2, f5⟩, ?_⟩
      intro i u hu
      cases i with
      | zero =>
        obtain rfl : Value.slice (A j) (F j).length (C j) = u := by simpa using hu
        rw [f1] at h1
        show w.cell? (a.add (j * 1 + 0)) = _
        rw [Nat.mul_one, Nat.add_zero]; exact h1
      | succ i => simp at hu
end
end Go.Proofs.Ytojcnapdalpnmaa.K

/- The row of the law FnExactIsOnlyGrid: for every input the call returns true, and the arguments read as before; out of the law's pure statement and the walk. No condition. -/
namespace Go.Proofs.Ytojcnapdalpnmaa.fnExactIsOnlyGrid
open Go.ChangeShapes Go.WideShapes Go.ChangeAt Go.RowKit
open Go.ChangeMaps (open_string shut_string)
set_option linter.unusedVariables false
set_option linter.unusedSimpArgs false
theorem own : ownKnob Try.prog.godebug = none := by kernel_rfl
theorem laidOut : laidOutB Try.prog = true := by kernel_rfl
set_option maxRecDepth 100000 in
theorem lifted (os : Os) (started : os.Started) (H : Type) (enc : TypeId × Value → H) :
    ReturnsInHanded {} Try.checked os 5 .any (Rows.fnExactIsOnlyGridSpec.pre6 enc Try.prog Try.f5 Rows.fnExactIsOnlyGridRow.domain false) (Rows.fnExactIsOnlyGridSpec.post enc Try.prog Try.f5 false true false false) := by
  refine returnsInHanded_of_change_sized (C := Try.checked) own started (by kernel_rfl) Try.func5
    (ChangeSpec.witness6 (enc := enc) (C := Try.checked) false ⟨#[], #[.slice none 0 0], []⟩ 8 (by kernel_rfl) (by kernel_rfl) (by kernel_rfl) (by kernel_rfl)) ?_
  intro W base args ds gs before hval0 hW hcnd hsz0 _
  have hsz : (DataW.weightsEach Try.prog (Try.f5.params.toList ++ Rows.fnExactIsOnlyGridSpec.plain.varTypes Try.prog) (ds ++ gs)).all (· ≤ reachBytes) = true := hsz0
  have hval : ∀ (j : Nat) t v, Try.f5.params[j]? = some t → args[j]? = some v → Value.okWide Try.prog W .any base t v := hval0
  have hW' := hW
  obtain ⟨p, q, hA0, hV, rfl, hfz, hnd⟩ := hW
  have hA : DataW.TrodAll enc Try.prog W 0 (fun _ => true) true Try.f5.params.toList args.toList ds p := hA0
  rw [Try.params5] at hA hval hsz
  obtain ⟨v0, vs0, d0, ds0, p0, q0, hargs, rfl, rfl, h0, r0⟩ := trodAll_cons hA
  obtain ⟨rfl, rfl, rfl⟩ := trodAll_nil r0
  obtain rfl : args = #[v0] := by cases args; simp_all
  obtain ⟨rfl, rfl⟩ := trodVars_none hV
  obtain ⟨a0, len0, cap0, rfl⟩ := okWide_slice Try.underlying22 (hval 0 22 v0 rfl rfl)
  have k0 := h0
  have lt0 : ∀ x ∈ p0, x.block < W.heap.size := by obtain ⟨m, hm⟩ := k0; exact DataW.trod_lt m _ _ _ hm
  obtain ⟨fuel0, hf0⟩ := h0
  obtain ⟨A0, c0, l0, hcs0, hc0, hm0, hw0, hr0⟩ := K.open_rows Try.underlying22 Try.underlying33 Try.underlying3 (by kernel_rfl) (by kernel_rfl) hf0
  simp only [Value.cells, List.cons.injEq, and_true, Value.slice.injEq] at hcs0
  obtain ⟨rfl, rfl, rfl⟩ := hcs0
  clear hA0 hval0 hsz0 hsz
  obtain ⟨k, hk⟩ := Pure.FnExactIsOnlyGrid l0 hm0 hw0
  refine (P.laws_FnExactIsOnlyGrid.calls k _ _ l0 true W hr0 hc0 hk).mono fun e W' ⟨he, bel⟩ => ?_
  subst he
  exact ⟨_, rfl, _, _, _, [], _, [], hW', trodAll_mk1 (shut_bool Try.underlying4 _), (trodAll_cons_mk (Below.trod laidOut (by kernel_rfl) (of_decide_eq_true (by kernel_rfl)) k0 bel lt0) trodAll_mk0), rfl, bel.frame _, fun h => by cases h⟩
set_option maxHeartbeats 4000000 in
theorem joined : joinedFacts Try.prog 5 Try.f5 Rows.fnExactIsOnlyGridSpec Rows.fnExactIsOnlyGridRow = true := by
  unfold joinedFacts
  repeat' (with_reducible refine (Bool.and_eq_true _ _).mpr ⟨?_, ?_⟩)
  all_goals first
    | (with_reducible exact Head.mayEnter)
    | ((with_reducible rw [Head.lifts]); rfl)
    | ((with_reducible rw [Head.make]); rfl)
    | (as_aux_lemma => kernel_rfl)
theorem over : Rows.fnExactIsOnlyGridRow.holds Try.pinned (OpenSpec.ofChange Rows.fnExactIsOnlyGridSpec) :=
  OpenClaim.holds_of_wide 5 Try.f5 rfl rfl rfl rfl rfl rfl rfl ⟨rfl, rfl, rfl, rfl, rfl⟩ rfl rfl rfl rfl rfl (by kernel_rfl) Try.func5 joined
    (of_decide_eq_true (by kernel_rfl)) (by unfold Func.isWrapper; first | (rw [if_pos (by decide +kernel)]; kernel_rfl) | (rw [if_neg (by decide +kernel)]; exact ⟨rfl, rfl⟩))
    (fun os started H enc _ => lifted os started H enc)
theorem proved : Rows.FnExactIsOnlyGridSaid := over
#print axioms proved
end Go.Proofs.Ytojcnapdalpnmaa.fnExactIsOnlyGrid
namespace Go.Proofs.Ytojcnapdalpnmaa
/-- The row, under a short name, for the claim. -/
theorem fnExactIsOnlyGrid_holds : Rows.FnExactIsOnlyGridSaid := fnExactIsOnlyGrid.proved
end Go.Proofs.Ytojcnapdalpnmaa
