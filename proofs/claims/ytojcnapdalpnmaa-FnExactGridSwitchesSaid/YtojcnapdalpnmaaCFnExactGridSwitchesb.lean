/- The row of the law FnExactGridSwitches: contracts and plain lemmas for the law FnExactGridSwitches, part 2 of 2: what the Go functions that it reaches answer. No condition beyond those in each statement. -/
import Derived.IntWalk
import Derived.Test.YtojcnapdalpnmaaWMore
import Derived.Test.YtojcnapdalpnmaaWWords
import Derived.ProofKit
import Derived.OpenShut
import Derived.Deep.Matrix
import Derived.Lib.SmallJoins
import Derived.Test.YtojcnapdalpnmaaRows
import Derived.WalkKit
import Derived.ShutString
import Derived.ChangeOld
import Derived.Below
import Derived.SizedLaws
import Derived.Test.YtojcnapdalpnmaaWSized
import Derived.Test.YtojcnapdalpnmaaCFnExactGridSwitchesa
namespace Go.Proofs.Ytojcnapdalpnmaa.P
open Go.RowKit Go.Proofs.YtojcnapdalpnmaaW.PrintWords Go.Proofs.YtojcnapdalpnmaaW.PrintLast Go.Proofs.YtojcnapdalpnmaaW.PrintMore
attribute [local go_sem] max2_int min2_int max_two min_two max_three min_three max_four min_four   -- for this text's walks alone
set_option linter.unusedVariables false
set_option linter.unusedSimpArgs false

/-! ### laws_heldSwitchS: function 45 -/
def laws_heldSwitchS.l0 : Nat → List (S41) → Int → Int → Option (Int)
  | 0, _, _, _ => none
  | k + 1, x0, x1, x5 => if x5 < (x0.length : Int) then (if 0 ≤ x5 then (if ((rd_T41 x0 x5).f0) = x1 then (if ((rd_T41 x0 x5).f1) = (wrap64 (x1 + 1)) then (if ((rd_T41 x0 x5).f2) = (wrap64 ((wrap64 (x1 + 1)) + 1)) then (if ((rd_T41 x0 x5).f3) = (wrap64 ((wrap64 ((wrap64 (x1 + 1)) + 1)) + 1)) then (laws_heldSwitchS.l0 k x0 (wrap64 ((wrap64 ((wrap64 ((wrap64 (x1 + 1)) + 1)) + 1)) + 1)) (wrap64 (x5 + 1))) else (some (-1))) else (some (-1))) else (some (-1))) else (some (-1))) else (none)) else (some x1)
def laws_heldSwitchS.f (k : Nat) (l0 : List (S41)) (a1 : Int) : Option (Int) := laws_heldSwitchS.l0 k l0 a1 0
theorem laws_heldSwitchS.mono_l : ∀ k, (∀ y0 y1 y2, LeO (laws_heldSwitchS.l0 k y0 y1 y2) (laws_heldSwitchS.l0 (k + 1) y0 y1 y2))
  | 0 => fun _ _ _ r h => by simp [laws_heldSwitchS.l0] at h
  | k + 1 => by
    have ih0 := laws_heldSwitchS.mono_l k
    · intro y0 y1 y2
      unfold laws_heldSwitchS.l0
      repeat' first
      | (with_reducible exact ih0 _ _ _)
      | (with_reducible exact LeO.refl _)
      | (with_reducible exact LeO.none _)
      | (with_reducible refine LeO.ite ?_ ?_)
      | (with_reducible refine LeO.bind ?_ (fun _ => ?_))
      | exact ih0 _ _ _
      | exact LeO.none _
      | refine LeO.ite ?_ ?_
      | refine LeO.bind ?_ (fun _ => ?_)
theorem laws_heldSwitchS.mono : ∀ a0 a1 k, LeO (laws_heldSwitchS.f k a0 a1) (laws_heldSwitchS.f (k + 1) a0 a1) := by
  intro a0 a1 k
  have ih0 := laws_heldSwitchS.mono_l k
  unfold laws_heldSwitchS.f
  repeat' first
      | (with_reducible exact ih0 _ _ _)
      | (with_reducible exact LeO.refl _)
      | (with_reducible exact LeO.none _)
      | (with_reducible refine LeO.ite ?_ ?_)
      | (with_reducible refine LeO.bind ?_ (fun _ => ?_))
      | exact ih0 _ _ _
      | exact LeO.none _
      | refine LeO.ite ?_ ?_
      | refine LeO.bind ?_ (fun _ => ?_)
set_option maxHeartbeats 8000000 in
set_option maxRecDepth 100000 in
theorem laws_heldSwitchS.calls (k : Nat) (A0 : Option Addr) (c0 : Nat) (l0 : List (S41)) (a1 : Int) (r : Int) (w : World) (hr0 : Kd.C k41 w A0 l0.length l0) (hc0 : l0.length ≤ c0) (h : laws_heldSwitchS.f k l0 a1 = some r) :
    Calls Try.prog 45 #[.slice A0 l0.length c0, .int .i64 a1] w fun e w' => e = .returned (.int .i64 r) ∧ Drawn0 w w' := by
  have HR0 := Aside0.mk hr0
  have HC0 := Aside0.mk hc0
  clear hr0 hc0
  have H : (laws_heldSwitchS.l0 k l0 a1 0) = some r := h
  clear h
  have H' := Aside0.mk H
  clear H
  go_enter Try.func45, Try.ntmps45
  go_wp2
  go_loopg [1, 5] k (fun kq v1 v5 w' => ∃ (x1_1 : Int) (x5_1 : Int), v1 = .int .i64 x1_1 ∧ v5 = .int .i64 x5_1 ∧ Aside0 (laws_heldSwitchS.l0 kq l0 x1_1 x5_1 = some r) ∧ Aside0 (kq ≤ k) ∧ Drawn0 w w')
  case atStart => exact ⟨(a1), (0), (by first | rfl | (simp; done) | (simp [*]; done)), (by first | rfl | (simp; done) | (simp [*]; done)), H', ⟨Nat.le_refl _⟩, by repeat (first | exact Drawn0.refl _ | apply Drawn0.step)⟩
  case round =>
    clear H'
    try clear p2
    obtain ⟨x1_1, x5_1, rfl, rfl, HA, HK1, ⟨m1, rfl⟩⟩ := hrel
    cases gk with
    | zero => exact absurd HA.out (by simp [laws_heldSwitchS.l0])
    | succ k1 =>
      have H := HA.out
      clear HA
      simp only [laws_heldSwitchS.l0] at H
      by_cases c3 : x5_1 < (l0.length : Int)
      · rw [if_pos c3] at H
        have c3b0 : decide (x5_1 < (l0.length : Int)) = true := decide_eq_true c3
        clear c3
        by_cases c4 : 0 ≤ x5_1
        · rw [if_pos c4] at H
          have c4b0 : decide (0 ≤ x5_1) = true := decide_eq_true c4
          clear c4
          by_cases c5 : ((rd_T41 l0 x5_1).f0) = x1_1
          · rw [if_pos c5] at H
            have c5b0 : (((rd_T41 l0 x5_1).f0) == x1_1) = true := beq_iff_eq.mpr c5
            have c5b1 : (((rd_T41 l0 x5_1).f0) != x1_1) = false := bne_eq_false_iff_eq.mpr c5
            clear c5
            by_cases c6 : ((rd_T41 l0 x5_1).f1) = (wrap64 (x1_1 + 1))
            · rw [if_pos c6] at H
              have c6b0 : (((rd_T41 l0 x5_1).f1) == (wrap64 (x1_1 + 1))) = true := beq_iff_eq.mpr c6
              have c6b1 : (((rd_T41 l0 x5_1).f1) != (wrap64 (x1_1 + 1))) = false := bne_eq_false_iff_eq.mpr c6
              clear c6
              by_cases c7 : ((rd_T41 l0 x5_1).f2) = (wrap64 ((wrap64 (x1_1 + 1)) + 1))
              · rw [if_pos c7] at H
                have c7b0 : (((rd_T41 l0 x5_1).f2) == (wrap64 ((wrap64 (x1_1 + 1)) + 1))) = true := beq_iff_eq.mpr c7
                have c7b1 : (((rd_T41 l0 x5_1).f2) != (wrap64 ((wrap64 (x1_1 + 1)) + 1))) = false := bne_eq_false_iff_eq.mpr c7
                clear c7
                by_cases c8 : ((rd_T41 l0 x5_1).f3) = (wrap64 ((wrap64 ((wrap64 (x1_1 + 1)) + 1)) + 1))
                · rw [if_pos c8] at H
                  have c8b0 : (((rd_T41 l0 x5_1).f3) == (wrap64 ((wrap64 ((wrap64 (x1_1 + 1)) + 1)) + 1))) = true := beq_iff_eq.mpr c8
                  have c8b1 : (((rd_T41 l0 x5_1).f3) != (wrap64 ((wrap64 ((wrap64 (x1_1 + 1)) + 1)) + 1))) = false := bne_eq_false_iff_eq.mpr c8
                  clear c8
                  have H' := Aside0.mk H
                  clear H
                  have p368 : 0 ≤ (x5_1 : Int) := of_decide_eq_true (by first | (with_reducible assumption) | assumption)
                  have q368 : x5_1 < (l0.length : Int) := of_decide_eq_true (by first | (with_reducible assumption) | assumption)
                  obtain ⟨ad368, e368, hx368_0, hx368_1, hx368_2, hx368_3⟩ := at_T41 HR0.out x5_1 p368 q368
                  cases e368
                  replace p368 := eq_true p368
                  replace q368 := eq_true q368
                  have p369 : 0 ≤ (x5_1 : Int) := of_decide_eq_true (by first | (with_reducible assumption) | assumption)
                  have q369 : x5_1 < (l0.length : Int) := of_decide_eq_true (by first | (with_reducible assumption) | assumption)
                  obtain ⟨ad369, e369, hx369_0, hx369_1, hx369_2, hx369_3⟩ := at_T41 HR0.out x5_1 p369 q369
                  obtain rfl : ad368 = ad369 := (by injection e369)
                  replace p369 := eq_true p369
                  replace q369 := eq_true q369
                  have p370 : 0 ≤ (x5_1 : Int) := of_decide_eq_true (by first | (with_reducible assumption) | assumption)
                  have q370 : x5_1 < (l0.length : Int) := of_decide_eq_true (by first | (with_reducible assumption) | assumption)
                  obtain ⟨ad370, e370, hx370_0, hx370_1, hx370_2, hx370_3⟩ := at_T41 HR0.out x5_1 p370 q370
                  obtain rfl : ad368 = ad370 := (by injection e370)
                  replace p370 := eq_true p370
                  replace q370 := eq_true q370
                  have p371 : 0 ≤ (x5_1 : Int) := of_decide_eq_true (by first | (with_reducible assumption) | assumption)
                  have q371 : x5_1 < (l0.length : Int) := of_decide_eq_true (by first | (with_reducible assumption) | assumption)
                  obtain ⟨ad371, e371, hx371_0, hx371_1, hx371_2, hx371_3⟩ := at_T41 HR0.out x5_1 p371 q371
                  obtain rfl : ad368 = ad371 := (by injection e371)
                  replace p371 := eq_true p371
                  replace q371 := eq_true q371
                  go_wp2
                  go_roundg k1
                  case measure => have := HK1.out; omega
                  case rel => exact ⟨(wrap64 ((wrap64 ((wrap64 ((wrap64 (x1_1 + 1)) + 1)) + 1)) + 1)), (wrap64 (x5_1 + 1)), (by first | rfl | (simp; done) | (simp [*]; done)), (by first | rfl | (simp; done) | (simp [*]; done)), H', ⟨by have := HK1.out; omega⟩, by repeat (first | exact Drawn0.refl _ | apply Drawn0.step)⟩
                · rw [if_neg c8] at H
                  have c8b0 : (((rd_T41 l0 x5_1).f3) == (wrap64 ((wrap64 ((wrap64 (x1_1 + 1)) + 1)) + 1))) = false := beq_eq_false_iff_ne.mpr c8
                  have c8b1 : (((rd_T41 l0 x5_1).f3) != (wrap64 ((wrap64 ((wrap64 (x1_1 + 1)) + 1)) + 1))) = true := bne_iff_ne.mpr c8
                  obtain rfl := Option.some.inj H
                  have p368 : 0 ≤ (x5_1 : Int) := of_decide_eq_true (by first | (with_reducible assumption) | assumption)
                  have q368 : x5_1 < (l0.length : Int) := of_decide_eq_true (by first | (with_reducible assumption) | assumption)
                  obtain ⟨ad368, e368, hx368_0, hx368_1, hx368_2, hx368_3⟩ := at_T41 HR0.out x5_1 p368 q368
                  cases e368
                  replace p368 := eq_true p368
                  replace q368 := eq_true q368
                  have p369 : 0 ≤ (x5_1 : Int) := of_decide_eq_true (by first | (with_reducible assumption) | assumption)
                  have q369 : x5_1 < (l0.length : Int) := of_decide_eq_true (by first | (with_reducible assumption) | assumption)
                  obtain ⟨ad369, e369, hx369_0, hx369_1, hx369_2, hx369_3⟩ := at_T41 HR0.out x5_1 p369 q369
                  obtain rfl : ad368 = ad369 := (by injection e369)
                  replace p369 := eq_true p369
                  replace q369 := eq_true q369
                  have p370 : 0 ≤ (x5_1 : Int) := of_decide_eq_true (by first | (with_reducible assumption) | assumption)
                  have q370 : x5_1 < (l0.length : Int) := of_decide_eq_true (by first | (with_reducible assumption) | assumption)
                  obtain ⟨ad370, e370, hx370_0, hx370_1, hx370_2, hx370_3⟩ := at_T41 HR0.out x5_1 p370 q370
                  obtain rfl : ad368 = ad370 := (by injection e370)
                  replace p370 := eq_true p370
                  replace q370 := eq_true q370
                  have p371 : 0 ≤ (x5_1 : Int) := of_decide_eq_true (by first | (with_reducible assumption) | assumption)
                  have q371 : x5_1 < (l0.length : Int) := of_decide_eq_true (by first | (with_reducible assumption) | assumption)
                  obtain ⟨ad371, e371, hx371_0, hx371_1, hx371_2, hx371_3⟩ := at_T41 HR0.out x5_1 p371 q371
                  obtain rfl : ad368 = ad371 := (by injection e371)
                  replace p371 := eq_true p371
                  replace q371 := eq_true q371
                  go_wp2
                  go_ret
                  exact ⟨by first | rfl | (simp; done) | (simp [*]; done), by repeat (first | exact Drawn0.refl _ | apply Drawn0.step)⟩
              · rw [if_neg c7] at H
                have c7b0 : (((rd_T41 l0 x5_1).f2) == (wrap64 ((wrap64 (x1_1 + 1)) + 1))) = false := beq_eq_false_iff_ne.mpr c7
                have c7b1 : (((rd_T41 l0 x5_1).f2) != (wrap64 ((wrap64 (x1_1 + 1)) + 1))) = true := bne_iff_ne.mpr c7
                obtain rfl := Option.some.inj H
                have p368 : 0 ≤ (x5_1 : Int) := of_decide_eq_true (by first | (with_reducible assumption) | assumption)
                have q368 : x5_1 < (l0.length : Int) := of_decide_eq_true (by first | (with_reducible assumption) | assumption)
                obtain ⟨ad368, e368, hx368_0, hx368_1, hx368_2, hx368_3⟩ := at_T41 HR0.out x5_1 p368 q368
                cases e368
                replace p368 := eq_true p368
                replace q368 := eq_true q368
                have p369 : 0 ≤ (x5_1 : Int) := of_decide_eq_true (by first | (with_reducible assumption) | assumption)
                have q369 : x5_1 < (l0.length : Int) := of_decide_eq_true (by first | (with_reducible assumption) | assumption)
                obtain ⟨ad369, e369, hx369_0, hx369_1, hx369_2, hx369_3⟩ := at_T41 HR0.out x5_1 p369 q369
                obtain rfl : ad368 = ad369 := (by injection e369)
                replace p369 := eq_true p369
                replace q369 := eq_true q369
                have p370 : 0 ≤ (x5_1 : Int) := of_decide_eq_true (by first | (with_reducible assumption) | assumption)
                have q370 : x5_1 < (l0.length : Int) := of_decide_eq_true (by first | (with_reducible assumption) | assumption)
                obtain ⟨ad370, e370, hx370_0, hx370_1, hx370_2, hx370_3⟩ := at_T41 HR0.out x5_1 p370 q370
                obtain rfl : ad368 = ad370 := (by injection e370)
                replace p370 := eq_true p370
                replace q370 := eq_true q370
                go_wp2
                go_ret
                exact ⟨by first | rfl | (simp; done) | (simp [*]; done), by repeat (first | exact Drawn0.refl _ | apply Drawn0.step)⟩
            · rw [if_neg c6] at H
              have c6b0 : (((rd_T41 l0 x5_1).f1) == (wrap64 (x1_1 + 1))) = false := beq_eq_false_iff_ne.mpr c6
              have c6b1 : (((rd_T41 l0 x5_1).f1) != (wrap64 (x1_1 + 1))) = true := bne_iff_ne.mpr c6
              obtain rfl := Option.some.inj H
              have p368 : 0 ≤ (x5_1 : Int) := of_decide_eq_true (by first | (with_reducible assumption) | assumption)
              have q368 : x5_1 < (l0.length : Int) := of_decide_eq_true (by first | (with_reducible assumption) | assumption)
              obtain ⟨ad368, e368, hx368_0, hx368_1, hx368_2, hx368_3⟩ := at_T41 HR0.out x5_1 p368 q368
              cases e368
              replace p368 := eq_true p368
              replace q368 := eq_true q368
              have p369 : 0 ≤ (x5_1 : Int) := of_decide_eq_true (by first | (with_reducible assumption) | assumption)
              have q369 : x5_1 < (l0.length : Int) := of_decide_eq_true (by first | (with_reducible assumption) | assumption)
              obtain ⟨ad369, e369, hx369_0, hx369_1, hx369_2, hx369_3⟩ := at_T41 HR0.out x5_1 p369 q369
              obtain rfl : ad368 = ad369 := (by injection e369)
              replace p369 := eq_true p369
              replace q369 := eq_true q369
              go_wp2
              go_ret
              exact ⟨by first | rfl | (simp; done) | (simp [*]; done), by repeat (first | exact Drawn0.refl _ | apply Drawn0.step)⟩
          · rw [if_neg c5] at H
            have c5b0 : (((rd_T41 l0 x5_1).f0) == x1_1) = false := beq_eq_false_iff_ne.mpr c5
            have c5b1 : (((rd_T41 l0 x5_1).f0) != x1_1) = true := bne_iff_ne.mpr c5
            obtain rfl := Option.some.inj H
            have p368 : 0 ≤ (x5_1 : Int) := of_decide_eq_true (by first | (with_reducible assumption) | assumption)
            have q368 : x5_1 < (l0.length : Int) := of_decide_eq_true (by first | (with_reducible assumption) | assumption)
            obtain ⟨ad368, e368, hx368_0, hx368_1, hx368_2, hx368_3⟩ := at_T41 HR0.out x5_1 p368 q368
            cases e368
            replace p368 := eq_true p368
            replace q368 := eq_true q368
            go_wp2
            go_ret
            exact ⟨by first | rfl | (simp; done) | (simp [*]; done), by repeat (first | exact Drawn0.refl _ | apply Drawn0.step)⟩
        · rw [if_neg c4] at H
          exact absurd H (by simp)
      · rw [if_neg c3] at H
        have c3b0 : decide (x5_1 < (l0.length : Int)) = false := decide_eq_false c3
        clear c3
        obtain rfl := Option.some.inj H
        go_wp2
        go_ret
        exact ⟨by first | rfl | (simp; done) | (simp [*]; done), by repeat (first | exact Drawn0.refl _ | apply Drawn0.step)⟩

end Go.Proofs.Ytojcnapdalpnmaa.P

namespace Go.Proofs.Ytojcnapdalpnmaa.P
/-- a, a + 1, .. over all rows: the next number, and the rows. -/
def seqOf (a : Int) : Nat → List Int
  | 0 => []
  | n + 1 => a :: seqOf (a + 1) n
def seqRows (a : Int) : List (List Int) → Int × List (List Int)
  | [] => (a, [])
  | r :: l => ((seqRows (a + r.length) l).1, seqOf a r.length :: (seqRows (a + r.length) l).2)
/-- laws.markIntSS: numbers on from a; of longer rows nothing is said. -/
def laws_markIntSS.f (l : List (List Int)) (a : Int) : Option (Int × List (List Int)) := if 0 ≤ a ∧ a ≤ 1048576 ∧ l.length ≤ 1048576 ∧ ∀ r ∈ l, r.length ≤ 1048576 then some (seqRows a l) else none

end Go.Proofs.Ytojcnapdalpnmaa.P

namespace Go.Proofs.Ytojcnapdalpnmaa.P
open Go.RowKit Go.Proofs.YtojcnapdalpnmaaW.PrintWords Go.Proofs.YtojcnapdalpnmaaW.PrintLast Go.Proofs.YtojcnapdalpnmaaW.PrintMore
attribute [local go_sem] max2_int min2_int max_two min_two max_three min_three max_four min_four   -- for this text's walks alone
set_option linter.unusedVariables false
set_option linter.unusedSimpArgs false

/-! ### laws_markSwitchS: function 44 -/
def laws_markSwitchS.l0 : Nat → List (S41) → Int → Int → Option (Int × (List (S41)))
  | 0, _, _, _ => none
  | k + 1, x0, x1, x5 => if x5 < (x0.length : Int) then (if 0 ≤ x5 then ((some (x0.set (x5 : Int).toNat (⟨x1, (rd_T41 x0 x5).f1, (rd_T41 x0 x5).f2, (rd_T41 x0 x5).f3⟩ : S41) : List (S41))).bind fun y364 => ((some (y364.set (x5 : Int).toNat (⟨(rd_T41 y364 x5).f0, wrap64 (x1 + 1), (rd_T41 y364 x5).f2, (rd_T41 y364 x5).f3⟩ : S41) : List (S41))).bind fun y365 => ((some (y365.set (x5 : Int).toNat (⟨(rd_T41 y365 x5).f0, (rd_T41 y365 x5).f1, wrap64 ((wrap64 (x1 + 1)) + 1), (rd_T41 y365 x5).f3⟩ : S41) : List (S41))).bind fun y366 => (laws_markSwitchS.l0 k (y366.set (x5 : Int).toNat (⟨(rd_T41 y366 x5).f0, (rd_T41 y366 x5).f1, (rd_T41 y366 x5).f2, wrap64 ((wrap64 ((wrap64 (x1 + 1)) + 1)) + 1)⟩ : S41)) (wrap64 ((wrap64 ((wrap64 ((wrap64 (x1 + 1)) + 1)) + 1)) + 1)) (wrap64 (x5 + 1)))))) else (none)) else (some (x1, x0))
def laws_markSwitchS.f (k : Nat) (l0 : List (S41)) (a1 : Int) : Option (Int × (List (S41))) := laws_markSwitchS.l0 k l0 a1 0
theorem laws_markSwitchS.mono_l : ∀ k, (∀ y0 y1 y2, LeO (laws_markSwitchS.l0 k y0 y1 y2) (laws_markSwitchS.l0 (k + 1) y0 y1 y2))
  | 0 => fun _ _ _ r h => by simp [laws_markSwitchS.l0] at h
  | k + 1 => by
    have ih0 := laws_markSwitchS.mono_l k
    · intro y0 y1 y2
      unfold laws_markSwitchS.l0
      repeat' first
      | (with_reducible exact ih0 _ _ _)
      | (with_reducible exact LeO.refl _)
      | (with_reducible exact LeO.none _)
      | (with_reducible refine LeO.ite ?_ ?_)
      | (with_reducible refine LeO.bind ?_ (fun _ => ?_))
      | exact ih0 _ _ _
      | exact LeO.none _
      | refine LeO.ite ?_ ?_
      | refine LeO.bind ?_ (fun _ => ?_)
theorem laws_markSwitchS.mono : ∀ a0 a1 k, LeO (laws_markSwitchS.f k a0 a1) (laws_markSwitchS.f (k + 1) a0 a1) := by
  intro a0 a1 k
  have ih0 := laws_markSwitchS.mono_l k
  unfold laws_markSwitchS.f
  repeat' first
      | (with_reducible exact ih0 _ _ _)
      | (with_reducible exact LeO.refl _)
      | (with_reducible exact LeO.none _)
      | (with_reducible refine LeO.ite ?_ ?_)
      | (with_reducible refine LeO.bind ?_ (fun _ => ?_))
      | exact ih0 _ _ _
      | exact LeO.none _
      | refine LeO.ite ?_ ?_
      | refine LeO.bind ?_ (fun _ => ?_)
set_option maxHeartbeats 8000000 in
set_option maxRecDepth 100000 in
theorem laws_markSwitchS.calls (k : Nat) (P0_ : Nat → Prop) (u9000_ : Value) (l0 : List (S41)) (a1 : Int) (r1 : Int) (r2 : List (S41)) (w0 w : World) (hB : Below w0.heap.size w0 w) (ho0 : Kd.R k41 41 w w0.heap.size P0_ u9000_ l0) (h : laws_markSwitchS.f k l0 a1 = some (r1, r2)) :
    Calls Try.prog 44 #[u9000_, .int .i64 a1] w fun e w' => e = .returned (.int .i64 r1) ∧ Kd.R k41 41 w' w0.heap.size (fun k_ => (P0_ k_ ∨ w.heap.size ≤ k_)) u9000_ r2 ∧ Below w0.heap.size w0 w' ∧ Kept w w' (fun k_ => P0_ k_) := by
  have HO0 := Aside0.mk (show Kd.R k41 41 w w0.heap.size (fun k_ => (P0_ k_ ∨ w.heap.size ≤ k_)) u9000_ l0 from Kd.R_mono ho0 (fun k_ hk => (.inl hk)))
  have HK := Aside0.mk (Kept.refl w (fun k_ => P0_ k_))
  have HW0 := Aside0.mk hB.size
  have HB := Aside0.mk hB
  clear hB
  have H : (laws_markSwitchS.l0 k l0 a1 0) = some (r1, r2) := h
  clear h
  have H' := Aside0.mk H
  clear H
  go_enter Try.func44, Try.ntmps44
  go_wp2
  go_loopg [1, 5] k (fun kq v1 v5 w' => ∃ (x0_1 : List (S41)) (x1_1 : Int) (x5_1 : Int), v1 = .int .i64 x1_1 ∧ v5 = .int .i64 x5_1 ∧ Aside0 (laws_markSwitchS.l0 kq x0_1 x1_1 x5_1 = some (r1, r2)) ∧ Aside0 (kq ≤ k) ∧ Aside0 (Kd.R k41 41 w' w0.heap.size (fun k_ => (P0_ k_ ∨ w.heap.size ≤ k_)) u9000_ x0_1) ∧ Aside0 (Kept w w' (fun k_ => P0_ k_)) ∧ Aside0 (Below w0.heap.size w0 w'))
  case atStart => exact ⟨(l0), (a1), (0), (by first | rfl | (simp; done) | (simp [*]; done)), (by first | rfl | (simp; done) | (simp [*]; done)), H', ⟨Nat.le_refl _⟩, ⟨by (with_reducible repeat (first | apply Kd.R_alloc | apply Kd.R_drewN | apply Kd.R_drew)); exact HO0.out⟩, ⟨by repeat (first | (with_reducible first | exact HK.out | apply Kept.alloc | apply Kept.drewN | apply Kept.drew) | exact HK.out)⟩, ⟨by repeat (first | (with_reducible first | exact HB.out | apply below_alloc | apply pw_below_drewN | apply below_drew1) | exact HB.out)⟩⟩
  case round =>
    clear H'
    try clear p2
    obtain ⟨x0_1, x1_1, x5_1, rfl, rfl, HA, HK1, HO_0, HK, HB⟩ := hrel
    cases gk with
    | zero => exact absurd HA.out (by simp [laws_markSwitchS.l0])
    | succ k1 =>
      have H := HA.out
      clear HA
      simp only [laws_markSwitchS.l0] at H
      by_cases c3 : x5_1 < (x0_1.length : Int)
      · rw [if_pos c3] at H
        have c3b0 : decide (x5_1 < (x0_1.length : Int)) = true := decide_eq_true c3
        clear c3
        by_cases c4 : 0 ≤ x5_1
        · rw [if_pos c4] at H
          have c4b0 : decide (0 ≤ x5_1) = true := decide_eq_true c4
          clear c4
          obtain ⟨y364, hy364⟩ : ∃ y_ : List (S41), y_ = (x0_1.set (x5_1 : Int).toNat (⟨x1_1, (rd_T41 x0_1 x5_1).f1, (rd_T41 x0_1 x5_1).f2, (rd_T41 x0_1 x5_1).f3⟩ : S41)) := ⟨_, rfl⟩
          replace H : ((some (y364.set (x5_1 : Int).toNat (⟨(rd_T41 y364 x5_1).f0, wrap64 (x1_1 + 1), (rd_T41 y364 x5_1).f2, (rd_T41 y364 x5_1).f3⟩ : S41) : List (S41))).bind fun y365 => ((some (y365.set (x5_1 : Int).toNat (⟨(rd_T41 y365 x5_1).f0, (rd_T41 y365 x5_1).f1, wrap64 ((wrap64 (x1_1 + 1)) + 1), (rd_T41 y365 x5_1).f3⟩ : S41) : List (S41))).bind fun y366 => (laws_markSwitchS.l0 k1 (y366.set (x5_1 : Int).toNat (⟨(rd_T41 y366 x5_1).f0, (rd_T41 y366 x5_1).f1, (rd_T41 y366 x5_1).f2, wrap64 ((wrap64 ((wrap64 (x1_1 + 1)) + 1)) + 1)⟩ : S41)) (wrap64 ((wrap64 ((wrap64 ((wrap64 (x1_1 + 1)) + 1)) + 1)) + 1)) (wrap64 (x5_1 + 1))))) = some (r1, r2) := by first | (rw [hy364]; with_reducible exact H) | (have H2_ := (Option.bind_some _ _).symm.trans H; rw [hy364]; with_reducible exact H2_) | (have H2_ := (Option.bind_some _ _).symm.trans H; with_reducible exact H2_) | with_reducible exact H | (rw [hy364]; exact H) | exact H
          have Ny364 := Aside0.mk hy364
          clear hy364
          obtain ⟨y365, hy365⟩ : ∃ y_ : List (S41), y_ = (y364.set (x5_1 : Int).toNat (⟨(rd_T41 y364 x5_1).f0, wrap64 (x1_1 + 1), (rd_T41 y364 x5_1).f2, (rd_T41 y364 x5_1).f3⟩ : S41)) := ⟨_, rfl⟩
          replace H : ((some (y365.set (x5_1 : Int).toNat (⟨(rd_T41 y365 x5_1).f0, (rd_T41 y365 x5_1).f1, wrap64 ((wrap64 (x1_1 + 1)) + 1), (rd_T41 y365 x5_1).f3⟩ : S41) : List (S41))).bind fun y366 => (laws_markSwitchS.l0 k1 (y366.set (x5_1 : Int).toNat (⟨(rd_T41 y366 x5_1).f0, (rd_T41 y366 x5_1).f1, (rd_T41 y366 x5_1).f2, wrap64 ((wrap64 ((wrap64 (x1_1 + 1)) + 1)) + 1)⟩ : S41)) (wrap64 ((wrap64 ((wrap64 ((wrap64 (x1_1 + 1)) + 1)) + 1)) + 1)) (wrap64 (x5_1 + 1)))) = some (r1, r2) := by first | (rw [hy365]; with_reducible exact H) | (have H2_ := (Option.bind_some _ _).symm.trans H; rw [hy365]; with_reducible exact H2_) | (have H2_ := (Option.bind_some _ _).symm.trans H; with_reducible exact H2_) | with_reducible exact H | (rw [hy365]; exact H) | exact H
          have Ny365 := Aside0.mk hy365
          clear hy365
          obtain ⟨y366, hy366⟩ : ∃ y_ : List (S41), y_ = (y365.set (x5_1 : Int).toNat (⟨(rd_T41 y365 x5_1).f0, (rd_T41 y365 x5_1).f1, wrap64 ((wrap64 (x1_1 + 1)) + 1), (rd_T41 y365 x5_1).f3⟩ : S41)) := ⟨_, rfl⟩
          replace H : (laws_markSwitchS.l0 k1 (y366.set (x5_1 : Int).toNat (⟨(rd_T41 y366 x5_1).f0, (rd_T41 y366 x5_1).f1, (rd_T41 y366 x5_1).f2, wrap64 ((wrap64 ((wrap64 (x1_1 + 1)) + 1)) + 1)⟩ : S41)) (wrap64 ((wrap64 ((wrap64 ((wrap64 (x1_1 + 1)) + 1)) + 1)) + 1)) (wrap64 (x5_1 + 1))) = some (r1, r2) := by first | (rw [hy366]; with_reducible exact H) | (have H2_ := (Option.bind_some _ _).symm.trans H; rw [hy366]; with_reducible exact H2_) | (have H2_ := (Option.bind_some _ _).symm.trans H; with_reducible exact H2_) | with_reducible exact H | (rw [hy366]; exact H) | exact H
          have Ny366 := Aside0.mk hy366
          clear hy366
          obtain ⟨y367, hy367⟩ : ∃ y_ : List (S41), y_ = (y366.set (x5_1 : Int).toNat (⟨(rd_T41 y366 x5_1).f0, (rd_T41 y366 x5_1).f1, (rd_T41 y366 x5_1).f2, wrap64 ((wrap64 ((wrap64 (x1_1 + 1)) + 1)) + 1)⟩ : S41)) := ⟨_, rfl⟩
          replace H : (laws_markSwitchS.l0 k1 y367 (wrap64 ((wrap64 ((wrap64 ((wrap64 (x1_1 + 1)) + 1)) + 1)) + 1)) (wrap64 (x5_1 + 1))) = some (r1, r2) := by first | (rw [hy367]; with_reducible exact H) | (have H2_ := (Option.bind_some _ _).symm.trans H; rw [hy367]; with_reducible exact H2_) | (have H2_ := (Option.bind_some _ _).symm.trans H; with_reducible exact H2_) | with_reducible exact H | (rw [hy367]; exact H) | exact H
          have Ny367 := Aside0.mk hy367
          clear hy367
          have H' := Aside0.mk H
          clear H
          obtain ⟨Ao9, co9, eo9⟩ := Kd.R_slice HO_0.out
          subst eo9
          have p5 : 0 ≤ (x5_1 : Int) := of_decide_eq_true (by first | (with_reducible assumption) | assumption)
          have q5 : (x5_1 : Int) < ((x0_1.length : Int) : Int) := of_decide_eq_true (by first | (with_reducible assumption) | assumption)
          obtain ⟨go5, co5, eo5, gb5, gl5, cl5, HG5⟩ := Kd.R_form HO_0.out (by omega)
          (first | cases eo5 | (injection eo5 with ea_ en_ ec_; (first | subst ea_ | (injection ea_ with ea_; subst ea_)); subst ec_; clear en_))
          have GB5 := Aside0.mk gb5
          have GG5 := Aside0.mk HG5
          clear gb5 gl5 HG5
          have HMgo5 := Aside0.mk (show (P0_ go5 ∨ w.heap.size ≤ go5) from (HO_0.out.1 _ rfl))
          obtain ⟨ce5, hcl5, hM5, hcc5, hfr5⟩ := Kd.R_elem HO_0.out z41 (x5_1 : Int) p5 q5
          obtain rfl := k41_openM hM5
          have hx5_0 : wr.cell? ⟨go5, (x5_1 : Int).toNat * 4, none⟩ = some (.int .i64 ((rd_T41 x0_1 x5_1).f0)) := hcc5 0 _ rfl
          have hx5_1 : wr.cell? ⟨go5, (x5_1 : Int).toNat * 4 + 1, none⟩ = some (.int .i64 ((rd_T41 x0_1 x5_1).f1)) := hcc5 1 _ rfl
          have hx5_2 : wr.cell? ⟨go5, (x5_1 : Int).toNat * 4 + 2, none⟩ = some (.int .i64 ((rd_T41 x0_1 x5_1).f2)) := hcc5 2 _ rfl
          have hx5_3 : wr.cell? ⟨go5, (x5_1 : Int).toNat * 4 + 3, none⟩ = some (.int .i64 ((rd_T41 x0_1 x5_1).f3)) := hcc5 3 _ rfl
          have hf5_0 : wr.frozen? ⟨go5, (x5_1 : Int).toNat * 4, none⟩ = false := hfr5 0
          have hf5_1 : wr.frozen? ⟨go5, (x5_1 : Int).toNat * 4 + 1, none⟩ = false := hfr5 1
          have hf5_2 : wr.frozen? ⟨go5, (x5_1 : Int).toNat * 4 + 2, none⟩ = false := hfr5 2
          have hf5_3 : wr.frozen? ⟨go5, (x5_1 : Int).toNat * 4 + 3, none⟩ = false := hfr5 3
          (try clear hcl5); (try clear hcc5); (try clear hfr5); (try clear hM5)
          replace p5 := eq_true p5
          replace q5 := eq_true q5
          have HX10 := Aside0.mk (show Kd.R k41 41 wr w0.heap.size (fun k_ => (P0_ k_ ∨ w.heap.size ≤ k_)) (.slice (some ⟨go5, 0, none⟩) x0_1.length co9) x0_1 from (by (with_reducible repeat (first | apply Kd.R_alloc | apply Kd.R_drewN | apply Kd.R_drew)); exact HO_0.out))
          obtain ⟨ce10, hcl10, hM10, hcc10, hfr10⟩ := Kd.R_elem HX10.out z41 (x5_1 : Int) (of_decide_eq_true (by first | (with_reducible assumption) | assumption)) (by have h_ : (x5_1 : Int) < ((x0_1.length : Int) : Int) := of_decide_eq_true (by first | (with_reducible assumption) | assumption); first | exact h_ | (have e_ := (Kd.R_reads' HO_0.out).1; omega) | simpa using h_)
          obtain rfl := k41_openM hM10
          have HP10 := Kd.R_seg HX10.out (x5_1 : Int) (of_decide_eq_true (by first | (with_reducible assumption) | assumption)) (by have h_ : (x5_1 : Int) < ((x0_1.length : Int) : Int) := of_decide_eq_true (by first | (with_reducible assumption) | assumption); first | exact h_ | (have e_ := (Kd.R_reads' HO_0.out).1; omega) | simpa using h_) (seg := [.int .i64 x1_1]) (j := 0) hcl10 hcc10 (show 1 ≤ 4 from by decide) (x' := (⟨x1_1, (rd_T41 x0_1 x5_1).f1, (rd_T41 x0_1 x5_1).f2, (rd_T41 x0_1 x5_1).f3⟩ : S41)) (k41_mkM _ _ _ (⟨x1_1, (rd_T41 x0_1 x5_1).f1, (rd_T41 x0_1 x5_1).f2, (rd_T41 x0_1 x5_1).f3⟩ : S41) ) (fun _ hk => hk)
          have hx10_0 := hcc10 0 _ rfl
          (try simp only [show (k41).sz = 4 from rfl, Nat.mul_one, Nat.add_zero] at hx10_0)
          have hf10_0 := hfr10 0
          (try simp only [show (k41).sz = 4 from rfl, Nat.mul_one, Nat.add_zero] at hf10_0)
          (try clear hcl10); (try clear hcc10); (try clear hfr10); (try clear hM10)
          go_wp2_with (first | ((with_reducible refine gate_store (t := 3) (p := 16) rfl ?_); refine store_event (t := 3) (p := 16) (v := ?vo_w11) (w1 := (wr.setCell ⟨go5, (x5_1 : Int).toNat * 4, none⟩ (.int .i64 x1_1))) ?hg ?ho ?hn ?hr ?_; (case ho => rfl); (case hg => rfl); (case hn => rfl); (case hr => first | (go_simp; done) | (go_simp; rfl)); intro w11 hw; have hg : wr.grownBy w11 (some go5) := (by rw [hw]; exact HP10.2); have hp_ : Kd.R k41 41 w11 w0.heap.size (fun k_ => (P0_ k_ ∨ w.heap.size ≤ k_)) (.slice (some ⟨go5, 0, none⟩) x0_1.length co9) y364 := (by rw [hw, Ny364.out]; exact HP10.1); clear HP10; have n0_ := Aside0.mk (hp_); have n1_ := Aside0.mk ((by rw [hw]; exact below_set (HB.out) GB5.out : Below w0.heap.size w0 w11)); have n2_ := Aside0.mk (Kept.of_grown (S := (fun k_ => P0_ k_)) hg (by repeat (first | (with_reducible first | exact HK.out | apply Kept.alloc | apply Kept.drewN | apply Kept.drew) | exact HK.out)) (fun k_ e_ => (HO_0.out.1 k_ e_))); clear HO_0; clear HB; clear HK; have HO_0 := n0_; have HB := n1_; have HK := n2_; clear n0_ n1_ n2_; clear hg hw hp_; have p6 : 0 ≤ (x5_1 : Int) := of_decide_eq_true (by first | (with_reducible assumption) | assumption); have q6 : (x5_1 : Int) < ((x0_1.length : Int) : Int) := of_decide_eq_true (by first | (with_reducible assumption) | assumption); obtain ⟨ce6, hcl6, hM6, hcc6, hfr6⟩ := Kd.R_elem HO_0.out z41 (x5_1 : Int) p6 q6; obtain rfl := k41_openM hM6; have hx6_0 : w11.cell? ⟨go5, (x5_1 : Int).toNat * 4, none⟩ = some (.int .i64 ((rd_T41 y364 x5_1).f0)) := hcc6 0 _ rfl; have hx6_1 : w11.cell? ⟨go5, (x5_1 : Int).toNat * 4 + 1, none⟩ = some (.int .i64 ((rd_T41 y364 x5_1).f1)) := hcc6 1 _ rfl; have hx6_2 : w11.cell? ⟨go5, (x5_1 : Int).toNat * 4 + 2, none⟩ = some (.int .i64 ((rd_T41 y364 x5_1).f2)) := hcc6 2 _ rfl; have hx6_3 : w11.cell? ⟨go5, (x5_1 : Int).toNat * 4 + 3, none⟩ = some (.int .i64 ((rd_T41 y364 x5_1).f3)) := hcc6 3 _ rfl; have hf6_0 : w11.frozen? ⟨go5, (x5_1 : Int).toNat * 4, none⟩ = false := hfr6 0; have hf6_1 : w11.frozen? ⟨go5, (x5_1 : Int).toNat * 4 + 1, none⟩ = false := hfr6 1; have hf6_2 : w11.frozen? ⟨go5, (x5_1 : Int).toNat * 4 + 2, none⟩ = false := hfr6 2; have hf6_3 : w11.frozen? ⟨go5, (x5_1 : Int).toNat * 4 + 3, none⟩ = false := hfr6 3; (try clear hcl6); (try clear hcc6); (try clear hfr6); (try clear hM6); replace p6 := eq_true p6; replace q6 := eq_true q6; have HX12 := Aside0.mk (show Kd.R k41 41 w11 w0.heap.size (fun k_ => (P0_ k_ ∨ w.heap.size ≤ k_)) (.slice (some ⟨go5, 0, none⟩) x0_1.length co9) y364 from (by (with_reducible repeat (first | apply Kd.R_alloc | apply Kd.R_drewN | apply Kd.R_drew)); exact HO_0.out)); obtain ⟨ce12, hcl12, hM12, hcc12, hfr12⟩ := Kd.R_elem HX12.out z41 (x5_1 : Int) (of_decide_eq_true (by first | (with_reducible assumption) | assumption)) (by have h_ : (x5_1 : Int) < ((x0_1.length : Int) : Int) := of_decide_eq_true (by first | (with_reducible assumption) | assumption); first | exact h_ | (have e_ := (Kd.R_reads' HO_0.out).1; omega) | simpa using h_); obtain rfl := k41_openM hM12; have HP12 := Kd.R_seg HX12.out (x5_1 : Int) (of_decide_eq_true (by first | (with_reducible assumption) | assumption)) (by have h_ : (x5_1 : Int) < ((x0_1.length : Int) : Int) := of_decide_eq_true (by first | (with_reducible assumption) | assumption); first | exact h_ | (have e_ := (Kd.R_reads' HO_0.out).1; omega) | simpa using h_) (seg := [.int .i64 (wrap64 (x1_1 + 1))]) (j := 1) hcl12 hcc12 (show 2 ≤ 4 from by decide) (x' := (⟨(rd_T41 y364 x5_1).f0, wrap64 (x1_1 + 1), (rd_T41 y364 x5_1).f2, (rd_T41 y364 x5_1).f3⟩ : S41)) (k41_mkM _ _ _ (⟨(rd_T41 y364 x5_1).f0, wrap64 (x1_1 + 1), (rd_T41 y364 x5_1).f2, (rd_T41 y364 x5_1).f3⟩ : S41) ) (fun _ hk => hk); have hx12_1 := hcc12 1 _ rfl; (try simp only [show (k41).sz = 4 from rfl, Nat.mul_one, Nat.add_zero] at hx12_1); have hf12_1 := hfr12 1; (try simp only [show (k41).sz = 4 from rfl, Nat.mul_one, Nat.add_zero] at hf12_1); (try clear hcl12); (try clear hcc12); (try clear hfr12); (try clear hM12)) | ((with_reducible refine gate_store (t := 3) (p := 23) rfl ?_); refine store_event (t := 3) (p := 23) (v := ?vo_w13) (w1 := (w11.setCell ⟨go5, (x5_1 : Int).toNat * 4 + 1, none⟩ (.int .i64 (wrap64 (x1_1 + 1))))) ?hg ?ho ?hn ?hr ?_; (case ho => rfl); (case hg => rfl); (case hn => rfl); (case hr => first | (go_simp; done) | (go_simp; rfl)); intro w13 hw; have hg : w11.grownBy w13 (some go5) := (by rw [hw]; exact HP12.2); have hp_ : Kd.R k41 41 w13 w0.heap.size (fun k_ => (P0_ k_ ∨ w.heap.size ≤ k_)) (.slice (some ⟨go5, 0, none⟩) x0_1.length co9) y365 := (by rw [hw, Ny365.out]; exact HP12.1); clear HP12; have n0_ := Aside0.mk (hp_); have n1_ := Aside0.mk ((by rw [hw]; exact below_set (HB.out) GB5.out : Below w0.heap.size w0 w13)); have n2_ := Aside0.mk (Kept.of_grown (S := (fun k_ => P0_ k_)) hg (by repeat (first | (with_reducible first | exact HK.out | apply Kept.alloc | apply Kept.drewN | apply Kept.drew) | exact HK.out)) (fun k_ e_ => (HO_0.out.1 k_ e_))); clear HO_0; clear HB; clear HK; have HO_0 := n0_; have HB := n1_; have HK := n2_; clear n0_ n1_ n2_; clear hg hw hp_; have p7 : 0 ≤ (x5_1 : Int) := of_decide_eq_true (by first | (with_reducible assumption) | assumption); have q7 : (x5_1 : Int) < ((x0_1.length : Int) : Int) := of_decide_eq_true (by first | (with_reducible assumption) | assumption); obtain ⟨ce7, hcl7, hM7, hcc7, hfr7⟩ := Kd.R_elem HO_0.out z41 (x5_1 : Int) p7 q7; obtain rfl := k41_openM hM7; have hx7_0 : w13.cell? ⟨go5, (x5_1 : Int).toNat * 4, none⟩ = some (.int .i64 ((rd_T41 y365 x5_1).f0)) := hcc7 0 _ rfl; have hx7_1 : w13.cell? ⟨go5, (x5_1 : Int).toNat * 4 + 1, none⟩ = some (.int .i64 ((rd_T41 y365 x5_1).f1)) := hcc7 1 _ rfl; have hx7_2 : w13.cell? ⟨go5, (x5_1 : Int).toNat * 4 + 2, none⟩ = some (.int .i64 ((rd_T41 y365 x5_1).f2)) := hcc7 2 _ rfl; have hx7_3 : w13.cell? ⟨go5, (x5_1 : Int).toNat * 4 + 3, none⟩ = some (.int .i64 ((rd_T41 y365 x5_1).f3)) := hcc7 3 _ rfl; have hf7_0 : w13.frozen? ⟨go5, (x5_1 : Int).toNat * 4, none⟩ = false := hfr7 0; have hf7_1 : w13.frozen? ⟨go5, (x5_1 : Int).toNat * 4 + 1, none⟩ = false := hfr7 1; have hf7_2 : w13.frozen? ⟨go5, (x5_1 : Int).toNat * 4 + 2, none⟩ = false := hfr7 2; have hf7_3 : w13.frozen? ⟨go5, (x5_1 : Int).toNat * 4 + 3, none⟩ = false := hfr7 3; (try clear hcl7); (try clear hcc7); (try clear hfr7); (try clear hM7); replace p7 := eq_true p7; replace q7 := eq_true q7; have HX14 := Aside0.mk (show Kd.R k41 41 w13 w0.heap.size (fun k_ => (P0_ k_ ∨ w.heap.size ≤ k_)) (.slice (some ⟨go5, 0, none⟩) x0_1.length co9) y365 from (by (with_reducible repeat (first | apply Kd.R_alloc | apply Kd.R_drewN | apply Kd.R_drew)); exact HO_0.out)); obtain ⟨ce14, hcl14, hM14, hcc14, hfr14⟩ := Kd.R_elem HX14.out z41 (x5_1 : Int) (of_decide_eq_true (by first | (with_reducible assumption) | assumption)) (by have h_ : (x5_1 : Int) < ((x0_1.length : Int) : Int) := of_decide_eq_true (by first | (with_reducible assumption) | assumption); first | exact h_ | (have e_ := (Kd.R_reads' HO_0.out).1; omega) | simpa using h_); obtain rfl := k41_openM hM14; have HP14 := Kd.R_seg HX14.out (x5_1 : Int) (of_decide_eq_true (by first | (with_reducible assumption) | assumption)) (by have h_ : (x5_1 : Int) < ((x0_1.length : Int) : Int) := of_decide_eq_true (by first | (with_reducible assumption) | assumption); first | exact h_ | (have e_ := (Kd.R_reads' HO_0.out).1; omega) | simpa using h_) (seg := [.int .i64 (wrap64 ((wrap64 (x1_1 + 1)) + 1))]) (j := 2) hcl14 hcc14 (show 3 ≤ 4 from by decide) (x' := (⟨(rd_T41 y365 x5_1).f0, (rd_T41 y365 x5_1).f1, wrap64 ((wrap64 (x1_1 + 1)) + 1), (rd_T41 y365 x5_1).f3⟩ : S41)) (k41_mkM _ _ _ (⟨(rd_T41 y365 x5_1).f0, (rd_T41 y365 x5_1).f1, wrap64 ((wrap64 (x1_1 + 1)) + 1), (rd_T41 y365 x5_1).f3⟩ : S41) ) (fun _ hk => hk); have hx14_2 := hcc14 2 _ rfl; (try simp only [show (k41).sz = 4 from rfl, Nat.mul_one, Nat.add_zero] at hx14_2); have hf14_2 := hfr14 2; (try simp only [show (k41).sz = 4 from rfl, Nat.mul_one, Nat.add_zero] at hf14_2); (try clear hcl14); (try clear hcc14); (try clear hfr14); (try clear hM14)) | ((with_reducible refine gate_store (t := 3) (p := 30) rfl ?_); refine store_event (t := 3) (p := 30) (v := ?vo_w15) (w1 := (w13.setCell ⟨go5, (x5_1 : Int).toNat * 4 + 2, none⟩ (.int .i64 (wrap64 ((wrap64 (x1_1 + 1)) + 1))))) ?hg ?ho ?hn ?hr ?_; (case ho => rfl); (case hg => rfl); (case hn => rfl); (case hr => first | (go_simp; done) | (go_simp; rfl)); intro w15 hw; have hg : w13.grownBy w15 (some go5) := (by rw [hw]; exact HP14.2); have hp_ : Kd.R k41 41 w15 w0.heap.size (fun k_ => (P0_ k_ ∨ w.heap.size ≤ k_)) (.slice (some ⟨go5, 0, none⟩) x0_1.length co9) y366 := (by rw [hw, Ny366.out]; exact HP14.1); clear HP14; have n0_ := Aside0.mk (hp_); have n1_ := Aside0.mk ((by rw [hw]; exact below_set (HB.out) GB5.out : Below w0.heap.size w0 w15)); have n2_ := Aside0.mk (Kept.of_grown (S := (fun k_ => P0_ k_)) hg (by repeat (first | (with_reducible first | exact HK.out | apply Kept.alloc | apply Kept.drewN | apply Kept.drew) | exact HK.out)) (fun k_ e_ => (HO_0.out.1 k_ e_))); clear HO_0; clear HB; clear HK; have HO_0 := n0_; have HB := n1_; have HK := n2_; clear n0_ n1_ n2_; clear hg hw hp_; have p8 : 0 ≤ (x5_1 : Int) := of_decide_eq_true (by first | (with_reducible assumption) | assumption); have q8 : (x5_1 : Int) < ((x0_1.length : Int) : Int) := of_decide_eq_true (by first | (with_reducible assumption) | assumption); obtain ⟨ce8, hcl8, hM8, hcc8, hfr8⟩ := Kd.R_elem HO_0.out z41 (x5_1 : Int) p8 q8; obtain rfl := k41_openM hM8; have hx8_0 : w15.cell? ⟨go5, (x5_1 : Int).toNat * 4, none⟩ = some (.int .i64 ((rd_T41 y366 x5_1).f0)) := hcc8 0 _ rfl; have hx8_1 : w15.cell? ⟨go5, (x5_1 : Int).toNat * 4 + 1, none⟩ = some (.int .i64 ((rd_T41 y366 x5_1).f1)) := hcc8 1 _ rfl; have hx8_2 : w15.cell? ⟨go5, (x5_1 : Int).toNat * 4 + 2, none⟩ = some (.int .i64 ((rd_T41 y366 x5_1).f2)) := hcc8 2 _ rfl; have hx8_3 : w15.cell? ⟨go5, (x5_1 : Int).toNat * 4 + 3, none⟩ = some (.int .i64 ((rd_T41 y366 x5_1).f3)) := hcc8 3 _ rfl; have hf8_0 : w15.frozen? ⟨go5, (x5_1 : Int).toNat * 4, none⟩ = false := hfr8 0; have hf8_1 : w15.frozen? ⟨go5, (x5_1 : Int).toNat * 4 + 1, none⟩ = false := hfr8 1; have hf8_2 : w15.frozen? ⟨go5, (x5_1 : Int).toNat * 4 + 2, none⟩ = false := hfr8 2; have hf8_3 : w15.frozen? ⟨go5, (x5_1 : Int).toNat * 4 + 3, none⟩ = false := hfr8 3; (try clear hcl8); (try clear hcc8); (try clear hfr8); (try clear hM8); replace p8 := eq_true p8; replace q8 := eq_true q8; have HX16 := Aside0.mk (show Kd.R k41 41 w15 w0.heap.size (fun k_ => (P0_ k_ ∨ w.heap.size ≤ k_)) (.slice (some ⟨go5, 0, none⟩) x0_1.length co9) y366 from (by (with_reducible repeat (first | apply Kd.R_alloc | apply Kd.R_drewN | apply Kd.R_drew)); exact HO_0.out)); obtain ⟨ce16, hcl16, hM16, hcc16, hfr16⟩ := Kd.R_elem HX16.out z41 (x5_1 : Int) (of_decide_eq_true (by first | (with_reducible assumption) | assumption)) (by have h_ : (x5_1 : Int) < ((x0_1.length : Int) : Int) := of_decide_eq_true (by first | (with_reducible assumption) | assumption); first | exact h_ | (have e_ := (Kd.R_reads' HO_0.out).1; omega) | simpa using h_); obtain rfl := k41_openM hM16; have HP16 := Kd.R_seg HX16.out (x5_1 : Int) (of_decide_eq_true (by first | (with_reducible assumption) | assumption)) (by have h_ : (x5_1 : Int) < ((x0_1.length : Int) : Int) := of_decide_eq_true (by first | (with_reducible assumption) | assumption); first | exact h_ | (have e_ := (Kd.R_reads' HO_0.out).1; omega) | simpa using h_) (seg := [.int .i64 (wrap64 ((wrap64 ((wrap64 (x1_1 + 1)) + 1)) + 1))]) (j := 3) hcl16 hcc16 (show 4 ≤ 4 from by decide) (x' := (⟨(rd_T41 y366 x5_1).f0, (rd_T41 y366 x5_1).f1, (rd_T41 y366 x5_1).f2, wrap64 ((wrap64 ((wrap64 (x1_1 + 1)) + 1)) + 1)⟩ : S41)) (k41_mkM _ _ _ (⟨(rd_T41 y366 x5_1).f0, (rd_T41 y366 x5_1).f1, (rd_T41 y366 x5_1).f2, wrap64 ((wrap64 ((wrap64 (x1_1 + 1)) + 1)) + 1)⟩ : S41) ) (fun _ hk => hk); have hx16_3 := hcc16 3 _ rfl; (try simp only [show (k41).sz = 4 from rfl, Nat.mul_one, Nat.add_zero] at hx16_3); have hf16_3 := hfr16 3; (try simp only [show (k41).sz = 4 from rfl, Nat.mul_one, Nat.add_zero] at hf16_3); (try clear hcl16); (try clear hcc16); (try clear hfr16); (try clear hM16)) | ((with_reducible refine gate_store (t := 3) (p := 37) rfl ?_); refine store_event (t := 3) (p := 37) (v := ?vo_w17) (w1 := (w15.setCell ⟨go5, (x5_1 : Int).toNat * 4 + 3, none⟩ (.int .i64 (wrap64 ((wrap64 ((wrap64 (x1_1 + 1)) + 1)) + 1))))) ?hg ?ho ?hn ?hr ?_; (case ho => rfl); (case hg => rfl); (case hn => rfl); (case hr => first | (go_simp; done) | (go_simp; rfl)); intro w17 hw; have hg : w15.grownBy w17 (some go5) := (by rw [hw]; exact HP16.2); have hp_ : Kd.R k41 41 w17 w0.heap.size (fun k_ => (P0_ k_ ∨ w.heap.size ≤ k_)) (.slice (some ⟨go5, 0, none⟩) x0_1.length co9) y367 := (by rw [hw, Ny367.out]; exact HP16.1); clear HP16; have n0_ := Aside0.mk (hp_); have n1_ := Aside0.mk ((by rw [hw]; exact below_set (HB.out) GB5.out : Below w0.heap.size w0 w17)); have n2_ := Aside0.mk (Kept.of_grown (S := (fun k_ => P0_ k_)) hg (by repeat (first | (with_reducible first | exact HK.out | apply Kept.alloc | apply Kept.drewN | apply Kept.drew) | exact HK.out)) (fun k_ e_ => (HO_0.out.1 k_ e_))); clear HO_0; clear HB; clear HK; have HO_0 := n0_; have HB := n1_; have HK := n2_; clear n0_ n1_ n2_; clear hg hw hp_))
          go_roundg k1
          case measure => have := HK1.out; omega
          case rel => exact ⟨(y367), (wrap64 ((wrap64 ((wrap64 ((wrap64 (x1_1 + 1)) + 1)) + 1)) + 1)), (wrap64 (x5_1 + 1)), (by first | rfl | (simp; done) | (simp [*]; done)), (by first | rfl | (simp; done) | (simp [*]; done)), H', ⟨by have := HK1.out; omega⟩, ⟨by (with_reducible repeat (first | apply Kd.R_alloc | apply Kd.R_drewN | apply Kd.R_drew)); exact HO_0.out⟩, ⟨by repeat (first | (with_reducible first | exact HK.out | apply Kept.alloc | apply Kept.drewN | apply Kept.drew) | exact HK.out)⟩, ⟨by repeat (first | (with_reducible first | exact HB.out | apply below_alloc | apply pw_below_drewN | apply below_drew1) | exact HB.out)⟩⟩
        · rw [if_neg c4] at H
          exact absurd H (by simp)
      · rw [if_neg c3] at H
        have c3b0 : decide (x5_1 < (x0_1.length : Int)) = false := decide_eq_false c3
        clear c3
        simp only [Option.some.injEq, Prod.mk.injEq] at H
        obtain ⟨rfl, rfl⟩ := H
        obtain ⟨Ao18, co18, eo18⟩ := Kd.R_slice HO_0.out
        subst eo18
        go_wp2
        go_ret
        exact ⟨by first | rfl | (simp [errW_none, errW_some] <;> rfl) | (simp [*, errW_none, errW_some] <;> rfl), by (with_reducible repeat (first | apply Kd.R_alloc | apply Kd.R_drewN | apply Kd.R_drew)); exact HO_0.out, by repeat (first | (with_reducible first | exact HB.out | apply below_alloc | apply pw_below_drewN | apply below_drew1) | exact HB.out), by repeat (first | (with_reducible first | exact HK.out | apply Kept.alloc | apply Kept.drewN | apply Kept.drew) | exact HK.out)⟩

end Go.Proofs.Ytojcnapdalpnmaa.P

namespace Go.Proofs.Ytojcnapdalpnmaa.P
open Go.RowKit Go.Proofs.YtojcnapdalpnmaaW.PrintWords Go.Proofs.Ytojcnapdalpnmaa.K
/-- spec.maIs: of what is no grid nothing is said. -/
def spec_maIs.f (l : List (List Int)) (r o c b : Int) : Option Bool := if gridB l = true then some (swB l r o c b) else none

end Go.Proofs.Ytojcnapdalpnmaa.P

/- Walked by hand: spec.maIs, at grids. -/
namespace Go.Proofs.Ytojcnapdalpnmaa.P
open Go.RowKit Go.Proofs.YtojcnapdalpnmaaW.PrintWords Go.Proofs.YtojcnapdalpnmaaW.PrintLast Go.Proofs.YtojcnapdalpnmaaW.PrintMore Go.Proofs.Ytojcnapdalpnmaa.K
set_option linter.unusedVariables false
set_option linter.unusedSimpArgs false
theorem hs_l1In (w : World) (n : Nat) (a0 a1 a2 : Int) (v : Bool) (h : (decide (a1 ≤ a0) && decide (a0 ≤ a2)) = v) :
    Calls Try.prog 115 #[.int .i64 a0, .int .i64 a1, .int .i64 a2] (w.drewN n) fun e w' => e = .returned (.bool v) ∧ ∃ m, w' = w.drewN m := by
  refine Calls.quiet_of ((spec_l1In.calls a0 a1 a2 v (w.drewN n) (by rw [l1In_f, h])).mono ?_)
  rintro e w' ⟨rfl, ⟨m, rfl⟩⟩
  exact ⟨rfl, m, rfl⟩
set_option maxHeartbeats 800000 in
set_option maxRecDepth 100000 in
theorem maIs_in (A0 : Option Addr) (c0 : Nat) (l0 : List (List Int)) (r o c b : Nat) (w : World) (hr0 : Kd.C (Kd.slice 3 (Kd.int .i64)) w A0 l0.length l0) (hc0 : l0.length ≤ c0) (hg : gridB l0 = true)
    (h1 : r < o) (h2 : o < l0.length) (h3 : c < b) (h4 : b < (rd_L1 l0 0).length) :
    Calls Try.prog 80 #[.slice A0 l0.length c0, .agg #[.int .i64 r, .int .i64 o, .int .i64 c, .int .i64 b]] w fun e w' => e = .returned (.bool (swAt l0 r o c b)) ∧ Below w.heap.size w w' := by
  obtain ⟨g1, g2, g3, g4, g5⟩ := grid_get hg
  have HC0 := Aside0.mk hc0
  clear hc0 hg
  have hq := Kd.C_alloc hr0 (.cells #[.int .i64 (r : Int), .int .i64 (o : Int), .int .i64 (c : Int), .int .i64 (b : Int)] 41)
  have hm : ∀ i : Nat, i < l0.length → (rd_L1 l0 (i : Int)).length = (rd_L1 l0 0).length := fun i hi => (g5 _ (by unfold rd_L1; simp [List.getD_eq_getElem?_getD, List.getElem?_eq_getElem hi])).1
  have er := hm r (by omega)
  have eo := hm o h2
  clear hm g5
  obtain ⟨ad, A2, c2, e2, hx0, hl2, hi2⟩ := at_L1 hq (0 : Int) (by omega) (by omega)
  cases e2
  obtain ⟨ad', A3, c3, e3, hx3, hl3, hi3⟩ := at_L1 hq (r : Int) (by omega) (by omega)
  cases e3
  obtain ⟨ad', A4, c4, e4, hx4, hl4, hi4⟩ := at_L1 hq (o : Int) (by omega) (by omega)
  cases e4
  rw [show ((0 : Int)).toNat = 0 from rfl, Addr.add_zero'] at hx0
  rw [er] at hx3 hl3
  rw [eo] at hx4 hl4
  obtain ⟨ad3, e3, y1⟩ := Kd.at_int hi3 (c : Int) (by omega) (by omega)
  cases e3
  obtain ⟨ad', e3, y2⟩ := Kd.at_int hi3 (b : Int) (by omega) (by omega)
  cases e3
  obtain ⟨ad4, e4, y3⟩ := Kd.at_int hi4 (c : Int) (by omega) (by omega)
  cases e4
  obtain ⟨ad', e4, y4⟩ := Kd.at_int hi4 (b : Int) (by omega) (by omega)
  cases e4
  clear hi2 hi3 hi4 hl2 hl3 hl4 hq hr0 er eo
  simp only [Int.toNat_natCast] at hx3 hx4 y1 y2 y3 y4
  generalize hn : (rd_L1 l0 0).length = n at *
  unfold swAt
  generalize rd (rd_L1 l0 r) c = t1 at *
  generalize rd (rd_L1 l0 r) b = t2 at *
  generalize rd (rd_L1 l0 o) c = t3 at *
  generalize rd (rd_L1 l0 o) b = t4 at *
  have HN := Aside0.mk hn
  clear hn
  have B1 : Aside0 ((decide ((1 : Int) ≤ (o : Int)) && decide ((o : Int) ≤ (l0.length : Int) - 1)) = true) := ⟨by simp; omega⟩
  have B2 : Aside0 ((decide ((0 : Int) ≤ (r : Int)) && decide ((r : Int) ≤ (o : Int) - 1)) = true) := ⟨by simp; omega⟩
  have B3 : Aside0 ((decide ((1 : Int) ≤ (b : Int)) && decide ((b : Int) ≤ (n : Int) - 1)) = true) := ⟨by simp; omega⟩
  have B4 : Aside0 ((decide ((0 : Int) ≤ (c : Int)) && decide ((c : Int) ≤ (b : Int) - 1)) = true) := ⟨by simp; omega⟩
  have w1 : IntKind.i64.wrap ((l0.length : Int) - 1) = (l0.length : Int) - 1 := IntWalk.i64_in _ (by omega)
  have w2 : IntKind.i64.wrap ((o : Int) - 1) = (o : Int) - 1 := IntWalk.i64_in _ (by omega)
  have w3 : IntKind.i64.wrap ((n : Int) - 1) = (n : Int) - 1 := IntWalk.i64_in _ (by omega)
  have w4 : IntKind.i64.wrap ((b : Int) - 1) = (b : Int) - 1 := IntWalk.i64_in _ (by omega)
  have q1 : (r : Int) < (l0.length : Int) := by omega
  have q2 : (o : Int) < (l0.length : Int) := by omega
  have q3 : (c : Int) < (n : Int) := by omega
  have q4 : (b : Int) < (n : Int) := by omega
  have q5 : (0 : Int) < (l0.length : Int) := by omega
  by_cases u1 : t1 = t2
  · have d1 : (t1 != t2) = false := by simp [u1]
    have U1 := Aside0.mk u1
    clear u1
    go_enter Try.func80, Try.ntmps80
    go_wp2
    go_quiet ((go_at_call 115; first | exact hs_l1In _ _ _ _ _ _ B1.out | exact hs_l1In _ _ _ _ _ _ B2.out | exact hs_l1In _ _ _ _ _ _ B3.out | exact hs_l1In _ _ _ _ _ _ B4.out))
    go_wp2
    go_quiet (fail)
    go_wp2
    go_quiet (fail)
    go_wp2
    go_ret
    exact ⟨by (have u1 := U1.out; subst u1; simp), (by repeat (first | (with_reducible first | exact Below.refl _ _ | apply below_alloc | apply pw_below_drewN | apply below_drew1)))⟩
  · have d1 : (t1 != t2) = true := by simpa using u1
    have U1 := Aside0.mk u1
    clear u1
    by_cases u2 : t3 = t2
    · have d2 : (t3 == t2) = true := by simpa using u2
      have U2 := Aside0.mk u2
      clear u2
      go_enter Try.func80, Try.ntmps80
      go_wp2
      go_quiet ((go_at_call 115; first | exact hs_l1In _ _ _ _ _ _ B1.out | exact hs_l1In _ _ _ _ _ _ B2.out | exact hs_l1In _ _ _ _ _ _ B3.out | exact hs_l1In _ _ _ _ _ _ B4.out))
      go_wp2
      go_quiet (fail)
      go_wp2
      go_quiet (fail)
      go_wp2
      go_ret
      exact ⟨by (have a1 := U1.out; have a2 := U2.out; subst a2; simp [a1, eq_comm, Bool.beq_eq_decide_eq]), (by repeat (first | (with_reducible first | exact Below.refl _ _ | apply below_alloc | apply pw_below_drewN | apply below_drew1)))⟩
    · have d2 : (t3 == t2) = false := by simpa using u2
      have U2 := Aside0.mk u2
      clear u2
      go_enter Try.func80, Try.ntmps80
      go_wp2
      go_quiet ((go_at_call 115; first | exact hs_l1In _ _ _ _ _ _ B1.out | exact hs_l1In _ _ _ _ _ _ B2.out | exact hs_l1In _ _ _ _ _ _ B3.out | exact hs_l1In _ _ _ _ _ _ B4.out))
      go_wp2
      go_quiet (fail)
      go_wp2
      go_quiet (fail)
      go_wp2
      go_ret
      exact ⟨by (have a1 := U1.out; have a2 := U2.out; simp [a1, a2, show ¬ t2 = t3 from fun e => a2 e.symm]), (by repeat (first | (with_reducible first | exact Below.refl _ _ | apply below_alloc | apply pw_below_drewN | apply below_drew1)))⟩
set_option maxHeartbeats 800000 in
set_option maxRecDepth 100000 in
theorem maIs_out (A0 : Option Addr) (c0 : Nat) (l0 : List (List Int)) (r o c b : Int) (w : World) (hr0 : Kd.C (Kd.slice 3 (Kd.int .i64)) w A0 l0.length l0) (hc0 : l0.length ≤ c0) (hg : gridB l0 = true) (h : swIn l0 r o c b = false) :
    Calls Try.prog 80 #[.slice A0 l0.length c0, .agg #[.int .i64 r, .int .i64 o, .int .i64 c, .int .i64 b]] w fun e w' => e = .returned (.bool false) ∧ Below w.heap.size w w' := by
  obtain ⟨g1, g2, g3, g4, -⟩ := grid_get hg
  have HC0 := Aside0.mk hc0
  clear hc0 hg
  have hq := Kd.C_alloc hr0 (.cells #[.int .i64 r, .int .i64 o, .int .i64 c, .int .i64 b] 41)
  obtain ⟨ad, A2, c2, e2, hx0, hl2, hi2⟩ := at_L1 hq (0 : Int) (by omega) (by omega)
  cases e2
  rw [show ((0 : Int)).toNat = 0 from rfl, Addr.add_zero'] at hx0
  clear hi2 hl2 hq hr0
  simp only [swIn, decide_eq_false_iff_not] at h
  generalize hn : (rd_L1 l0 0).length = n at *
  have HN := Aside0.mk hn
  clear hn
  have w1 : IntKind.i64.wrap ((l0.length : Int) - 1) = (l0.length : Int) - 1 := IntWalk.i64_in _ (by omega)
  have w3 : IntKind.i64.wrap ((n : Int) - 1) = (n : Int) - 1 := IntWalk.i64_in _ (by omega)
  have q5 : (0 : Int) < (l0.length : Int) := by omega
  by_cases h1 : 1 ≤ o ∧ o ≤ (l0.length : Int) - 1
  · have B1 : Aside0 ((decide ((1 : Int) ≤ o) && decide (o ≤ (l0.length : Int) - 1)) = true) := ⟨by simp; omega⟩
    have w2 : IntKind.i64.wrap (o - 1) = o - 1 := IntWalk.i64_in _ (by omega)
    by_cases h2 : 0 ≤ r ∧ r ≤ o - 1
    · have B2 : Aside0 ((decide ((0 : Int) ≤ r) && decide (r ≤ o - 1)) = true) := ⟨by simp; omega⟩
      by_cases h3 : 1 ≤ b ∧ b ≤ (n : Int) - 1
      · have B3 : Aside0 ((decide ((1 : Int) ≤ b) && decide (b ≤ (n : Int) - 1)) = true) := ⟨by simp; omega⟩
        have B4 : Aside0 ((decide ((0 : Int) ≤ c) && decide (c ≤ b - 1)) = false) := ⟨by simp; omega⟩
        have w4 : IntKind.i64.wrap (b - 1) = b - 1 := IntWalk.i64_in _ (by omega)
        clear h h1 h2 h3
        go_enter Try.func80, Try.ntmps80
        go_wp2
        go_quiet ((go_at_call 115; first | exact hs_l1In _ _ _ _ _ _ B1.out | exact hs_l1In _ _ _ _ _ _ B2.out | exact hs_l1In _ _ _ _ _ _ B3.out | exact hs_l1In _ _ _ _ _ _ B4.out))
        go_wp2
        go_ret
        exact ⟨rfl, (by repeat (first | (with_reducible first | exact Below.refl _ _ | apply below_alloc | apply pw_below_drewN | apply below_drew1)))⟩
      · have B3 : Aside0 ((decide ((1 : Int) ≤ b) && decide (b ≤ (n : Int) - 1)) = false) := ⟨by simp; omega⟩
        clear h h1 h2 h3
        go_enter Try.func80, Try.ntmps80
        go_wp2
        go_quiet ((go_at_call 115; first | exact hs_l1In _ _ _ _ _ _ B1.out | exact hs_l1In _ _ _ _ _ _ B2.out | exact hs_l1In _ _ _ _ _ _ B3.out))
        go_wp2
        go_ret
        exact ⟨rfl, (by repeat (first | (with_reducible first | exact Below.refl _ _ | apply below_alloc | apply pw_below_drewN | apply below_drew1)))⟩
    · have B2 : Aside0 ((decide ((0 : Int) ≤ r) && decide (r ≤ o - 1)) = false) := ⟨by simp; omega⟩
      clear h h1 h2
      go_enter Try.func80, Try.ntmps80
      go_wp2
      go_quiet ((go_at_call 115; first | exact hs_l1In _ _ _ _ _ _ B1.out | exact hs_l1In _ _ _ _ _ _ B2.out))
      go_wp2
      go_ret
      exact ⟨rfl, (by repeat (first | (with_reducible first | exact Below.refl _ _ | apply below_alloc | apply pw_below_drewN | apply below_drew1)))⟩
  · have B1 : Aside0 ((decide ((1 : Int) ≤ o) && decide (o ≤ (l0.length : Int) - 1)) = false) := ⟨by simp; omega⟩
    clear h h1
    go_enter Try.func80, Try.ntmps80
    go_wp2
    go_quiet ((go_at_call 115; exact hs_l1In _ _ _ _ _ _ B1.out))
    go_wp2
    go_ret
    exact ⟨rfl, (by repeat (first | (with_reducible first | exact Below.refl _ _ | apply below_alloc | apply pw_below_drewN | apply below_drew1)))⟩
theorem spec_maIs.calls (A0 : Option Addr) (c0 : Nat) (l0 : List (List Int)) (r o c b : Int) (res : Bool) (w : World) (hr0 : Kd.C (Kd.slice 3 (Kd.int .i64)) w A0 l0.length l0) (hc0 : l0.length ≤ c0) (h : spec_maIs.f l0 r o c b = some res) :
    Calls Try.prog 80 #[.slice A0 l0.length c0, .agg #[.int .i64 r, .int .i64 o, .int .i64 c, .int .i64 b]] w fun e w' => e = .returned (.bool res) ∧ Below w.heap.size w w' := by
  unfold spec_maIs.f at h
  split at h
  case isFalse => cases h
  rename_i hg
  obtain rfl := Option.some.inj h
  cases hs : swIn l0 r o c b with
  | false => rw [show swB l0 r o c b = false by simp [swB, hs]]; exact maIs_out A0 c0 l0 r o c b w hr0 hc0 hg hs
  | true =>
    rw [show swB l0 r o c b = swAt l0 r o c b by simp [swB, hs]]
    simp only [swIn, decide_eq_true_eq] at hs
    obtain ⟨s1, s2, s3, s4, s5, s6⟩ := hs
    obtain ⟨r, rfl⟩ := Int.eq_ofNat_of_zero_le s1
    obtain ⟨o, rfl⟩ := Int.eq_ofNat_of_zero_le (show 0 ≤ o by omega)
    obtain ⟨c, rfl⟩ := Int.eq_ofNat_of_zero_le s4
    obtain ⟨b, rfl⟩ := Int.eq_ofNat_of_zero_le (show 0 ≤ b by omega)
    exact maIs_in A0 c0 l0 r o c b w hr0 hc0 hg (by omega) (by omega) (by omega) (by omega)

end Go.Proofs.Ytojcnapdalpnmaa.P

namespace Go.Proofs.Ytojcnapdalpnmaa.P
open Go.RowKit Go.Proofs.YtojcnapdalpnmaaW.PrintWords Go.Proofs.YtojcnapdalpnmaaW.PrintLast Go.Proofs.YtojcnapdalpnmaaW.PrintMore
attribute [local go_sem] max2_int min2_int max_two min_two max_three min_three max_four min_four   -- for this text's walks alone
set_option linter.unusedVariables false
set_option linter.unusedSimpArgs false

/-! ### spec_maSwitches: function 73 -/
mutual
def spec_maSwitches.l0 : Nat → List (List Int) → List (S41) → Int → Int → Option ((List (S41)))
  | 0, _, _, _, _ => none
  | k + 1, x0, x3, x10, x11 => if x11 < x10 then (spec_maSwitches.l1 k x0 x3 x11 (wrap64 (x11 + 1)) x10 x11) else (some x3)
def spec_maSwitches.l1 : Nat → List (List Int) → List (S41) → Int → Int → Int → Int → Option ((List (S41)))
  | 0, _, _, _, _, _, _ => none
  | k + 1, x0, x3, x4, x5, x10, x11 => if x5 < (x0.length : Int) then (if 0 < (x0.length : Int) then (spec_maSwitches.l2 k x0 x3 x4 x5 x10 x11 ((rd_L1 x0 0).length : Int) 0) else (none)) else (spec_maSwitches.l0 k x0 x3 x10 (wrap64 (x11 + 1)))
def spec_maSwitches.l2 : Nat → List (List Int) → List (S41) → Int → Int → Int → Int → Int → Int → Option ((List (S41)))
  | 0, _, _, _, _, _, _, _, _ => none
  | k + 1, x0, x3, x4, x5, x10, x11, x25, x26 => if x26 < x25 then (spec_maSwitches.l3 k x0 x3 x4 x5 x26 (wrap64 (x26 + 1)) x10 x11 x25 x26) else (spec_maSwitches.l1 k x0 x3 x4 (wrap64 (x5 + 1)) x10 x11)
def spec_maSwitches.l3 : Nat → List (List Int) → List (S41) → Int → Int → Int → Int → Int → Int → Int → Int → Option ((List (S41)))
  | 0, _, _, _, _, _, _, _, _, _, _ => none
  | k + 1, x0, x3, x4, x5, x6, x7, x10, x11, x25, x26 => if 0 < (x0.length : Int) then (if x7 < ((rd_L1 x0 0).length : Int) then ((spec_maIs.f x0 x4 x5 x6 x7).bind fun t191 => (if t191 = true then (if x3.length < 4398046511104 then (spec_maSwitches.l3 k x0 (x3 ++ [(⟨x4, x5, x6, x7⟩ : S41)]) x4 x5 x6 (wrap64 (x7 + 1)) x10 x11 x25 x26) else (none)) else (spec_maSwitches.l3 k x0 x3 x4 x5 x6 (wrap64 (x7 + 1)) x10 x11 x25 x26))) else (spec_maSwitches.l2 k x0 x3 x4 x5 x10 x11 x25 (wrap64 (x26 + 1)))) else (none)
end
def spec_maSwitches.f (k : Nat) (l0 : List (List Int)) : Option ((List (S41))) := spec_maSwitches.l0 k l0 ([] : List (S41)) (l0.length : Int) 0
theorem spec_maSwitches.mono_l : ∀ k, (∀ y0 y1 y2 y3, LeO (spec_maSwitches.l0 k y0 y1 y2 y3) (spec_maSwitches.l0 (k + 1) y0 y1 y2 y3)) ∧ (∀ y0 y1 y2 y3 y4 y5, LeO (spec_maSwitches.l1 k y0 y1 y2 y3 y4 y5) (spec_maSwitches.l1 (k + 1) y0 y1 y2 y3 y4 y5)) ∧ (∀ y0 y1 y2 y3 y4 y5 y6 y7, LeO (spec_maSwitches.l2 k y0 y1 y2 y3 y4 y5 y6 y7) (spec_maSwitches.l2 (k + 1) y0 y1 y2 y3 y4 y5 y6 y7)) ∧ (∀ y0 y1 y2 y3 y4 y5 y6 y7 y8 y9, LeO (spec_maSwitches.l3 k y0 y1 y2 y3 y4 y5 y6 y7 y8 y9) (spec_maSwitches.l3 (k + 1) y0 y1 y2 y3 y4 y5 y6 y7 y8 y9))
  | 0 => ⟨fun _ _ _ _ r h => by simp [spec_maSwitches.l0] at h, fun _ _ _ _ _ _ r h => by simp [spec_maSwitches.l1] at h, fun _ _ _ _ _ _ _ _ r h => by simp [spec_maSwitches.l2] at h, fun _ _ _ _ _ _ _ _ _ _ r h => by simp [spec_maSwitches.l3] at h⟩
  | k + 1 => by
    obtain ⟨ih0, ih1, ih2, ih3⟩ := spec_maSwitches.mono_l k
    refine ⟨?_, ?_, ?_, ?_⟩
    · intro y0 y1 y2 y3
      unfold spec_maSwitches.l0
      repeat' first
      | (with_reducible exact ih0 _ _ _ _)
      | (with_reducible exact ih1 _ _ _ _ _ _)
      | (with_reducible exact ih2 _ _ _ _ _ _ _ _)
      | (with_reducible exact ih3 _ _ _ _ _ _ _ _ _ _)
      | (with_reducible exact LeO.refl _)
      | (with_reducible exact LeO.none _)
      | (with_reducible refine LeO.ite ?_ ?_)
      | (with_reducible refine LeO.bind ?_ (fun _ => ?_))
      | exact ih0 _ _ _ _
      | exact ih1 _ _ _ _ _ _
      | exact ih2 _ _ _ _ _ _ _ _
      | exact ih3 _ _ _ _ _ _ _ _ _ _
      | exact LeO.none _
      | refine LeO.ite ?_ ?_
      | refine LeO.bind ?_ (fun _ => ?_)
    · intro y0 y1 y2 y3 y4 y5
      unfold spec_maSwitches.l1
      repeat' first
      | (with_reducible exact ih0 _ _ _ _)
      | (with_reducible exact ih1 _ _ _ _ _ _)
      | (with_reducible exact ih2 _ _ _ _ _ _ _ _)
      | (with_reducible exact ih3 _ _ _ _ _ _ _ _ _ _)
      | (with_reducible exact LeO.refl _)
      | (with_reducible exact LeO.none _)
      | (with_reducible refine LeO.ite ?_ ?_)
      | (with_reducible refine LeO.bind ?_ (fun _ => ?_))
      | exact ih0 _ _ _ _
      | exact ih1 _ _ _ _ _ _
      | exact ih2 _ _ _ _ _ _ _ _
      | exact ih3 _ _ _ _ _ _ _ _ _ _
      | exact LeO.none _
      | refine LeO.ite ?_ ?_
      | refine LeO.bind ?_ (fun _ => ?_)
    · intro y0 y1 y2 y3 y4 y5 y6 y7
      unfold spec_maSwitches.l2
      repeat' first
      | (with_reducible exact ih0 _ _ _ _)
      | (with_reducible exact ih1 _ _ _ _ _ _)
      | (with_reducible exact ih2 _ _ _ _ _ _ _ _)
      | (with_reducible exact ih3 _ _ _ _ _ _ _ _ _ _)
      | (with_reducible exact LeO.refl _)
      | (with_reducible exact LeO.none _)
      | (with_reducible refine LeO.ite ?_ ?_)
      | (with_reducible refine LeO.bind ?_ (fun _ => ?_))
      | exact ih0 _ _ _ _
      | exact ih1 _ _ _ _ _ _
      | exact ih2 _ _ _ _ _ _ _ _
      | exact ih3 _ _ _ _ _ _ _ _ _ _
      | exact LeO.none _
      | refine LeO.ite ?_ ?_
      | refine LeO.bind ?_ (fun _ => ?_)
    · intro y0 y1 y2 y3 y4 y5 y6 y7 y8 y9
      unfold spec_maSwitches.l3
      repeat' first
      | (with_reducible exact ih0 _ _ _ _)
      | (with_reducible exact ih1 _ _ _ _ _ _)
      | (with_reducible exact ih2 _ _ _ _ _ _ _ _)
      | (with_reducible exact ih3 _ _ _ _ _ _ _ _ _ _)
      | (with_reducible exact LeO.refl _)
      | (with_reducible exact LeO.none _)
      | (with_reducible refine LeO.ite ?_ ?_)
      | (with_reducible refine LeO.bind ?_ (fun _ => ?_))
      | exact ih0 _ _ _ _
      | exact ih1 _ _ _ _ _ _
      | exact ih2 _ _ _ _ _ _ _ _
      | exact ih3 _ _ _ _ _ _ _ _ _ _
      | exact LeO.none _
      | refine LeO.ite ?_ ?_
      | refine LeO.bind ?_ (fun _ => ?_)
theorem spec_maSwitches.mono : ∀ a0 k, LeO (spec_maSwitches.f k a0) (spec_maSwitches.f (k + 1) a0) := by
  intro a0 k
  obtain ⟨ih0, ih1, ih2, ih3⟩ := spec_maSwitches.mono_l k
  unfold spec_maSwitches.f
  repeat' first
      | (with_reducible exact ih0 _ _ _ _)
      | (with_reducible exact ih1 _ _ _ _ _ _)
      | (with_reducible exact ih2 _ _ _ _ _ _ _ _)
      | (with_reducible exact ih3 _ _ _ _ _ _ _ _ _ _)
      | (with_reducible exact LeO.refl _)
      | (with_reducible exact LeO.none _)
      | (with_reducible refine LeO.ite ?_ ?_)
      | (with_reducible refine LeO.bind ?_ (fun _ => ?_))
      | exact ih0 _ _ _ _
      | exact ih1 _ _ _ _ _ _
      | exact ih2 _ _ _ _ _ _ _ _
      | exact ih3 _ _ _ _ _ _ _ _ _ _
      | exact LeO.none _
      | refine LeO.ite ?_ ?_
      | refine LeO.bind ?_ (fun _ => ?_)
set_option maxHeartbeats 8000000 in
set_option maxRecDepth 100000 in
theorem spec_maSwitches.calls (k : Nat) (A0 : Option Addr) (c0 : Nat) (l0 : List (List Int)) (r : List (S41)) (w : World) (hr0 : Kd.C (Kd.slice 3 (Kd.int .i64)) w A0 l0.length l0) (hc0 : l0.length ≤ c0) (h : spec_maSwitches.f k l0 = some r) :
    Calls Try.prog 73 #[.slice A0 l0.length c0] w fun e w' => ∃ v0_ : Value, e = .returned (v0_) ∧ Kd.R k41 41 w' w.heap.size (fun _ => True) v0_ r ∧ Below w.heap.size w w' := by
  have hu41 := Try.underlying41
  have HR0 := Aside0.mk hr0
  have HC0 := Aside0.mk hc0
  clear hr0 hc0
  have HB := Aside0.mk (Below.refl w.heap.size w)
  have H : (spec_maSwitches.l0 k l0 ([] : List (S41)) (l0.length : Int) 0) = some r := h
  clear h
  have H' := Aside0.mk H
  clear H
  go_enter Try.func73, Try.ntmps73
  go_wp2
  go_loopg [3, 11] k (fun kq v3 v11 w' => ∃ (x3_1 : List (S41)) (x11_1 : Int), v11 = .int .i64 x11_1 ∧ Aside0 (spec_maSwitches.l0 kq l0 x3_1 (l0.length : Int) x11_1 = some r) ∧ Aside0 (kq ≤ k) ∧ Aside0 (Kd.R k41 41 w' w.heap.size (fun _ => True) v3 x3_1) ∧ Aside0 (Below w.heap.size w w'))
  case atStart => exact ⟨(([] : List (S41))), (0), (by first | rfl | (simp; done) | (simp [*]; done)), H', ⟨Nat.le_refl _⟩, ⟨by first | exact Kd.R_nil _ _ _ _ _ | exact Kd.N_nil _ _ _ _ _ | exact Kd.V_nil _ _ _ _ _ | exact Kd.Q_nil _ _ _ _ _ | exact Kd.S_nil _ _ _ _ _⟩, ⟨by repeat (first | (with_reducible first | exact HB.out | apply below_alloc | apply pw_below_drewN | apply below_drew1) | exact HB.out)⟩⟩
  case round =>
    clear H'
    obtain ⟨x3_1, x11_1, rfl, HA, HK1, HO_3, HB⟩ := hrel
    cases gk with
    | zero => exact absurd HA.out (by simp [spec_maSwitches.l0])
    | succ k1 =>
      have H := HA.out
      clear HA
      simp only [spec_maSwitches.l0] at H
      by_cases c2 : x11_1 < (l0.length : Int)
      · rw [if_pos c2] at H
        have c2b0 : decide (x11_1 < (l0.length : Int)) = true := decide_eq_true c2
        clear c2
        have H' := Aside0.mk H
        clear H
        go_wp2
        go_loopg [3, 5] k1 (fun kq v3 v5 w' => ∃ (x3_2 : List (S41)) (x5_2 : Int), v5 = .int .i64 x5_2 ∧ Aside0 (spec_maSwitches.l1 kq l0 x3_2 x11_1 x5_2 (l0.length : Int) x11_1 = some r) ∧ Aside0 (kq ≤ k1) ∧ Aside0 (Kd.R k41 41 w' w.heap.size (fun _ => True) v3 x3_2) ∧ Aside0 (Below w.heap.size w w'))
        case atStart => exact ⟨(x3_1), (wrap64 (x11_1 + 1)), (by first | rfl | (simp; done) | (simp [*]; done)), H', ⟨Nat.le_refl _⟩, ⟨by (with_reducible repeat (first | apply Kd.R_alloc | apply Kd.R_drewN | apply Kd.R_drew)); exact HO_3.out⟩, ⟨by repeat (first | (with_reducible first | exact HB.out | apply below_alloc | apply pw_below_drewN | apply below_drew1) | exact HB.out)⟩⟩
        case round =>
          clear H'
          try clear c2
          try clear c2b0
          try clear p2
          obtain ⟨x3_2, x5_2, rfl, HA, HK2, HO_3, HB⟩ := hrel
          cases gk with
          | zero => exact absurd HA.out (by simp [spec_maSwitches.l1])
          | succ k2 =>
            have H := HA.out
            clear HA
            simp only [spec_maSwitches.l1] at H
            by_cases c3 : x5_2 < (l0.length : Int)
            · rw [if_pos c3] at H
              have c3b0 : decide (x5_2 < (l0.length : Int)) = true := decide_eq_true c3
              clear c3
              by_cases c4 : 0 < (l0.length : Int)
              · rw [if_pos c4] at H
                have c4b0 : decide (0 < (l0.length : Int)) = true := decide_eq_true c4
                have c4b1 : decide (0 < l0.length) = true := decide_eq_true (by omega)
                clear c4
                have H' := Aside0.mk H
                clear H
                have p188 : 0 ≤ (0 : Int) := (by omega)
                have q188 : 0 < (l0.length : Int) := of_decide_eq_true (by first | (with_reducible assumption) | assumption)
                obtain ⟨ad188, A188_0, c188_0, e188, hx188_0, hl188_0, hi188_0⟩ := at_L1 HR0.out 0 p188 q188
                cases e188
                have qi188 : (0 < l0.length) = True := eq_true (by omega)
                (try rw [show ((0 : Int)).toNat = 0 from rfl] at hx188_0)
                (try rw [Addr.add_zero'] at hx188_0)
                replace hx188_0 := (HB.out.cell (World.block_lt_of_cell? w _ hx188_0)).trans hx188_0
                have HR188_0 := Aside0.mk hi188_0
                have HC188_0 := Aside0.mk hl188_0
                clear hi188_0 hl188_0
                replace p188 := eq_true p188
                replace q188 := eq_true q188
                go_wp2
                go_loopg [3, 26] k2 (fun kq v3 v26 w' => ∃ (x3_3 : List (S41)) (x26_3 : Int), v26 = .int .i64 x26_3 ∧ Aside0 (spec_maSwitches.l2 kq l0 x3_3 x11_1 x5_2 (l0.length : Int) x11_1 ((rd_L1 l0 0).length : Int) x26_3 = some r) ∧ Aside0 (kq ≤ k2) ∧ Aside0 (Kd.R k41 41 w' w.heap.size (fun _ => True) v3 x3_3) ∧ Aside0 (Below w.heap.size w w'))
                case atStart => exact ⟨(x3_2), (0), (by first | rfl | (simp; done) | (simp [*]; done)), H', ⟨Nat.le_refl _⟩, ⟨by (with_reducible repeat (first | apply Kd.R_alloc | apply Kd.R_drewN | apply Kd.R_drew)); exact HO_3.out⟩, ⟨by repeat (first | (with_reducible first | exact HB.out | apply below_alloc | apply pw_below_drewN | apply below_drew1) | exact HB.out)⟩⟩
                case round =>
                  clear H'
                  try clear c1
                  try clear p1
                  try clear q1
                  try clear hx1
                  try clear qi1
                  try clear c2
                  try clear c2b0
                  try clear p2
                  try clear c3
                  try clear c3b0
                  try clear c4
                  try clear c4b0
                  try clear c4b1
                  try clear hx188_0
                  try clear p188
                  try clear p2
                  try clear q188
                  obtain ⟨x3_3, x26_3, rfl, HA, HK3, HO_3, HB⟩ := hrel
                  cases gk with
                  | zero => exact absurd HA.out (by simp [spec_maSwitches.l2])
                  | succ k3 =>
                    have H := HA.out
                    clear HA
                    simp only [spec_maSwitches.l2] at H
                    by_cases c5 : x26_3 < ((rd_L1 l0 0).length : Int)
                    · rw [if_pos c5] at H
                      have c5b0 : decide (x26_3 < ((rd_L1 l0 0).length : Int)) = true := decide_eq_true c5
                      clear c5
                      have H' := Aside0.mk H
                      clear H
                      go_wp2
                      go_loopg [3, 7] k3 (fun kq v3 v7 w' => ∃ (x3_4 : List (S41)) (x7_4 : Int), v7 = .int .i64 x7_4 ∧ Aside0 (spec_maSwitches.l3 kq l0 x3_4 x11_1 x5_2 x26_3 x7_4 (l0.length : Int) x11_1 ((rd_L1 l0 0).length : Int) x26_3 = some r) ∧ Aside0 (kq ≤ k3) ∧ Aside0 (Kd.R k41 41 w' w.heap.size (fun _ => True) v3 x3_4) ∧ Aside0 (Below w.heap.size w w'))
                      case atStart => exact ⟨(x3_3), (wrap64 (x26_3 + 1)), (by first | rfl | (simp; done) | (simp [*]; done)), H', ⟨Nat.le_refl _⟩, ⟨by (with_reducible repeat (first | apply Kd.R_alloc | apply Kd.R_drewN | apply Kd.R_drew)); exact HO_3.out⟩, ⟨by repeat (first | (with_reducible first | exact HB.out | apply below_alloc | apply pw_below_drewN | apply below_drew1) | exact HB.out)⟩⟩
                      case round =>
                        clear H'
                        try clear c1
                        try clear p1
                        try clear q1
                        try clear hx1
                        try clear qi1
                        try clear c2
                        try clear c2b0
                        try clear p2
                        try clear c3
                        try clear c3b0
                        try clear c4
                        try clear c4b0
                        try clear c4b1
                        try clear c5
                        try clear c5b0
                        try clear hx188_0
                        try clear p1
                        try clear p188
                        try clear p2
                        try clear q1
                        try clear q188
                        obtain ⟨x3_4, x7_4, rfl, HA, HK4, HO_3, HB⟩ := hrel
                        cases gk with
                        | zero => exact absurd HA.out (by simp [spec_maSwitches.l3])
                        | succ k4 =>
                          have H := HA.out
                          clear HA
                          simp only [spec_maSwitches.l3] at H
                          by_cases c6 : 0 < (l0.length : Int)
                          · rw [if_pos c6] at H
                            have c6b0 : decide (0 < (l0.length : Int)) = true := decide_eq_true c6
                            have c6b1 : decide (0 < l0.length) = true := decide_eq_true (by omega)
                            clear c6
                            by_cases c7 : x7_4 < ((rd_L1 l0 0).length : Int)
                            · rw [if_pos c7] at H
                              have c7b0 : decide (x7_4 < ((rd_L1 l0 0).length : Int)) = true := decide_eq_true c7
                              clear c7
                              replace H := Option.bind_eq_some_iff.mp H
                              obtain ⟨t191, A80, H⟩ := H
                              replace H : (if t191 = true then (if x3_4.length < 4398046511104 then (spec_maSwitches.l3 k4 l0 (x3_4 ++ [(⟨x11_1, x5_2, x26_3, x7_4⟩ : S41)]) x11_1 x5_2 x26_3 (wrap64 (x7_4 + 1)) (l0.length : Int) x11_1 ((rd_L1 l0 0).length : Int) x26_3) else (none)) else (spec_maSwitches.l3 k4 l0 x3_4 x11_1 x5_2 x26_3 (wrap64 (x7_4 + 1)) (l0.length : Int) x11_1 ((rd_L1 l0 0).length : Int) x26_3)) = some r := H
                              have A8 := Aside0.mk A80
                              clear A80
                              by_cases c9 : t191 = true
                              · subst c9
                                have H1 : (if x3_4.length < 4398046511104 then (spec_maSwitches.l3 k4 l0 (x3_4 ++ [(⟨x11_1, x5_2, x26_3, x7_4⟩ : S41)]) x11_1 x5_2 x26_3 (wrap64 (x7_4 + 1)) (l0.length : Int) x11_1 ((rd_L1 l0 0).length : Int) x26_3) else (none)) = some r := by rw [if_pos rfl] at H; exact H
                                clear H
                                have H := H1
                                clear H1
                                by_cases c10 : x3_4.length < 4398046511104
                                · rw [if_pos c10] at H
                                  have LMc10 := Aside0.mk c10
                                  clear c10
                                  obtain ⟨y192, hy192⟩ : ∃ y_ : List (S41), y_ = (x3_4 ++ [(⟨x11_1, x5_2, x26_3, x7_4⟩ : S41)]) := ⟨_, rfl⟩
                                  replace H : (spec_maSwitches.l3 k4 l0 y192 x11_1 x5_2 x26_3 (wrap64 (x7_4 + 1)) (l0.length : Int) x11_1 ((rd_L1 l0 0).length : Int) x26_3) = some r := by first | (rw [hy192]; with_reducible exact H) | (have H2_ := (Option.bind_some _ _).symm.trans H; rw [hy192]; with_reducible exact H2_) | (have H2_ := (Option.bind_some _ _).symm.trans H; with_reducible exact H2_) | with_reducible exact H | (rw [hy192]; exact H) | exact H
                                  have Ny192 := Aside0.mk hy192
                                  clear hy192
                                  have H' := Aside0.mk H
                                  clear H
                                  have p189 : 0 ≤ (0 : Int) := (by omega)
                                  have q189 : 0 < (l0.length : Int) := of_decide_eq_true (by first | (with_reducible assumption) | assumption)
                                  obtain ⟨ad189, A189_0, c189_0, e189, hx189_0, hl189_0, hi189_0⟩ := at_L1 HR0.out 0 p189 q189
                                  obtain rfl : ad188 = ad189 := (by injection e189)
                                  have qi189 : (0 < l0.length) = True := eq_true (by omega)
                                  (try rw [show ((0 : Int)).toNat = 0 from rfl] at hx189_0)
                                  (try rw [Addr.add_zero'] at hx189_0)
                                  replace hx189_0 := (HB.out.cell (World.block_lt_of_cell? w _ hx189_0)).trans hx189_0
                                  have HR189_0 := Aside0.mk hi189_0
                                  have HC189_0 := Aside0.mk hl189_0
                                  clear hi189_0 hl189_0
                                  replace p189 := eq_true p189
                                  replace q189 := eq_true q189
                                  go_wp2_with (first | ((with_reducible refine gate_dst (N := 8) rfl ?_); refine box_event ?hg (N := 8) ?hd (cs := #[.int .i64 0, .int .i64 0, .int .i64 0, .int .i64 0]) (t := 41) ?hr ?_; (case hd => rfl); (case hg => rfl); (case hr => first | (go_simp; done) | (go_simp; rfl)); intro gb190 hg w11 hbox hb; have n0_ := Aside0.mk (Kd.R_below (Kd.R_elderB (by (with_reducible repeat (first | apply Kd.R_alloc | apply Kd.R_drewN | apply Kd.R_drew)); exact HO_3.out) gb190 (Nat.le_of_eq hg.symm)) hb); have n1_ := Aside0.mk (below_step (by repeat (first | (with_reducible first | exact HB.out | apply below_alloc | apply pw_below_drewN | apply below_drew1) | exact HB.out)) hb); have n2_ := Aside0.mk (hbox); have n3_ := Aside0.mk ((by rw [hg]; exact (below_size (by repeat (first | (with_reducible first | exact HB.out | apply below_alloc | apply pw_below_drewN | apply below_drew1) | exact HB.out))) : w.heap.size ≤ gb190)); have n4_ := Aside0.mk ((by rw [hg]; exact (below_size (by repeat (first | (with_reducible first | exact HB.out | apply below_alloc | apply pw_below_drewN | apply below_drew1) | exact HB.out))) : w.heap.size ≤ gb190)); clear HO_3; clear HB; have HO_3 := n0_; have HB := n1_; have BK190 := n2_; have GW190 := n3_; have GE190 := n4_; clear n0_ n1_ n2_ n3_ n4_; clear hb hbox hg; have hcz12_0 : w11.cell? ⟨gb190, 0, none⟩ = some (.int .i64 0) := (blk_cell BK190.out 0).trans rfl; have hcz12_1 : w11.cell? ⟨gb190, 1, none⟩ = some (.int .i64 0) := (blk_cell BK190.out 1).trans rfl; have hcz12_2 : w11.cell? ⟨gb190, 2, none⟩ = some (.int .i64 0) := (blk_cell BK190.out 2).trans rfl; have hcz12_3 : w11.cell? ⟨gb190, 3, none⟩ = some (.int .i64 0) := (blk_cell BK190.out 3).trans rfl; have hfz12_0 := blk_frozen BK190.out 0; have hfz12_1 := blk_frozen BK190.out 1; have hfz12_2 := blk_frozen BK190.out 2; have hfz12_3 := blk_frozen BK190.out 3) | ((with_reducible refine gate_callee (f := 80) rfl ?_); refine goesL_ (some 46) rfl rfl Try.func80 (by kernel_rfl) rfl #[.slice (some ad188) l0.length c0, .agg #[.int .i64 x11_1, .int .i64 x5_2, .int .i64 x26_3, .int .i64 x7_4]] rfl (by (try simp only [List.map_toArray, List.map_cons, List.map_nil]); first | done | rfl | (simp only [List.length_drop, List.length_take]; rfl)) ?_; (with_reducible refine (spec_maIs.calls _ _ l0 x11_1 x5_2 x26_3 x7_4 true _ ?side1 ?side2 A8.out).mono ?_); (case side1 => exact Kd.C_below HR0.out (by repeat (first | (with_reducible first | exact HB.out | apply below_alloc | apply pw_below_drewN | apply below_drew1 | refine below_set ?_ GE190.out) | exact HB.out))); (case side2 => exact HC0.out); rintro e w13 ⟨rfl, hb⟩; refine ⟨_, rfl, ?_⟩; have n0_ := Aside0.mk (Kd.R_below (by (with_reducible repeat (first | apply Kd.R_alloc | apply Kd.R_drewN | apply Kd.R_drew)); exact (Kd.R_mono (Kd.R_far (p := ⟨gb190, 3, none⟩) (Kd.R_far (p := ⟨gb190, 2, none⟩) (Kd.R_far (p := ⟨gb190, 1, none⟩) (Kd.R_far (p := ⟨gb190, 0, none⟩) (Kd.R_mono HO_3.out (fun k_ hk => (⟨hk, hk.2⟩ : _ ∧ k_ ≠ gb190))) (fun _ hk => hk.2) (.int .i64 x11_1)) (fun _ hk => hk.2) (.int .i64 x5_2)) (fun _ hk => hk.2) (.int .i64 x26_3)) (fun _ hk => hk.2) (.int .i64 x7_4)) (fun _ h_ => h_.1))) hb); have n1_ := Aside0.mk (blk_below (g := gb190) (o := .cells #[.int .i64 x11_1, .int .i64 x5_2, .int .i64 x26_3, .int .i64 x7_4] 41 (0, 0)) (by (with_reducible repeat (first | refine blk_drewN ?_ _ | refine blk_drew ?_ | refine blk_alloc ?_ _)); refine blk_put (cs := #[.int .i64 x11_1, .int .i64 x5_2, .int .i64 x26_3, .int .i64 0]) ?_ 3 _ rfl; (with_reducible repeat (first | refine blk_drewN ?_ _ | refine blk_drew ?_ | refine blk_alloc ?_ _)); refine blk_put (cs := #[.int .i64 x11_1, .int .i64 x5_2, .int .i64 0, .int .i64 0]) ?_ 2 _ rfl; (with_reducible repeat (first | refine blk_drewN ?_ _ | refine blk_drew ?_ | refine blk_alloc ?_ _)); refine blk_put (cs := #[.int .i64 x11_1, .int .i64 0, .int .i64 0, .int .i64 0]) ?_ 1 _ rfl; (with_reducible repeat (first | refine blk_drewN ?_ _ | refine blk_drew ?_ | refine blk_alloc ?_ _)); refine blk_put (cs := #[.int .i64 0, .int .i64 0, .int .i64 0, .int .i64 0]) ?_ 0 _ rfl; (with_reducible repeat (first | refine blk_drewN ?_ _ | refine blk_drew ?_ | refine blk_alloc ?_ _)); exact BK190.out) hb); have n2_ := Aside0.mk (below_step (by repeat (first | (with_reducible first | exact HB.out | apply below_alloc | apply pw_below_drewN | apply below_drew1 | refine below_set ?_ GE190.out) | exact HB.out)) hb); clear HO_3; clear BK190; clear HB; have HO_3 := n0_; have BK190 := n1_; have HB := n2_; clear n0_ n1_ n2_; (try clear hb); (try clear hb2); (try clear hk); (try clear hi); have hcz14_0 : w13.cell? ⟨gb190, 0, none⟩ = some (.int .i64 x11_1) := (blk_cell BK190.out 0).trans rfl; have hcz14_1 : w13.cell? ⟨gb190, 1, none⟩ = some (.int .i64 x5_2) := (blk_cell BK190.out 1).trans rfl; have hcz14_2 : w13.cell? ⟨gb190, 2, none⟩ = some (.int .i64 x26_3) := (blk_cell BK190.out 2).trans rfl; have hcz14_3 : w13.cell? ⟨gb190, 3, none⟩ = some (.int .i64 x7_4) := (blk_cell BK190.out 3).trans rfl; have hfz14_0 := blk_frozen BK190.out 0; have hfz14_1 := blk_frozen BK190.out 1; have hfz14_2 := blk_frozen BK190.out 2; have hfz14_3 := blk_frozen BK190.out 3) | ((with_reducible refine gate_builtin (b := .append) (xs := #[.tmp 47, .tmp 49]) rfl ?_); at_builtin; refine Kd.R_append k41 (w0 := w) w.heap.size rfl (.tmp 47) (.tmp 49) 44 41 (.agg #[(.int .i64 0), (.int .i64 0), (.int .i64 0), (.int .i64 0)]) 32 rfl Try.underlying44 info41 rfl (by decide) (by omega) u3 x3_4 (⟨x11_1, x5_2, x26_3, x7_4⟩ : S41) [.int .i64 x11_1, .int .i64 x5_2, .int .i64 x26_3, .int .i64 x7_4] (fun k_ => k_ ≠ gb190) (fun _ => False) rfl rfl ?aP (fun _ hk => hk.elim) ?aF ?aO ?aB ?aS ?aL ?_; (case aP => exact k41_mkM _ _ _ (⟨x11_1, x5_2, x26_3, x7_4⟩ : S41)); (case aB => exact (by repeat (first | (with_reducible first | exact HB.out | apply below_alloc | apply pw_below_drewN | apply below_drew1 | refine below_set ?_ GE190.out) | exact HB.out))); (case aF => exact (fun k_ hk => Kd.freshB (g := gb190) (o := .cells #[.int .i64 x11_1, .int .i64 x5_2, .int .i64 x26_3, .int .i64 x7_4] 41 (0, 0)) (by (with_reducible repeat (first | refine blk_drewN ?_ _ | refine blk_drew ?_ | refine blk_alloc ?_ _)); exact BK190.out) k_ hk)); (case aO => exact (by (with_reducible repeat (first | apply Kd.R_alloc | apply Kd.R_drewN | apply Kd.R_drew)); exact Kd.R_mono HO_3.out (fun _ hk => hk.2))); (case aS => exact (below_size (by repeat (first | (with_reducible first | exact HB.out | apply below_alloc | apply pw_below_drewN | apply below_drew1 | refine below_set ?_ GE190.out) | exact HB.out)))); (case aL => have := LMc10.out; omega); intro v193 w15 ho hb hg hat; rw [← Ny192.out] at ho; have n0_ := Aside0.mk (blk_grown (g := gb190) (o := .cells #[.int .i64 x11_1, .int .i64 x5_2, .int .i64 x26_3, .int .i64 x7_4] 41 (0, 0)) (by (with_reducible repeat (first | refine blk_drewN ?_ _ | refine blk_drew ?_ | refine blk_alloc ?_ _)); exact BK190.out) hg (Kd.R_away HO_3.out (fun _ hk => hk.2))); have n1_ := Aside0.mk (hb); have n2_ := Aside0.mk (ho); clear BK190; clear HB; clear HO_3; have BK190 := n0_; have HB := n1_; have HO194 := n2_; clear n0_ n1_ n2_; clear ho hb hg hat))
                                  go_roundg k4
                                  case measure => have := HK1.out; have := HK2.out; have := HK3.out; have := HK4.out; omega
                                  case rel => exact ⟨(y192), (wrap64 (x7_4 + 1)), (by first | rfl | (simp; done) | (simp [*]; done)), H', ⟨by have := HK1.out; have := HK2.out; have := HK3.out; have := HK4.out; omega⟩, ⟨by (with_reducible repeat (first | apply Kd.R_alloc | apply Kd.R_drewN | apply Kd.R_drew)); exact Kd.R_mono HO194.out (fun _ hk => trivial)⟩, ⟨by repeat (first | (with_reducible first | exact HB.out | apply below_alloc | apply pw_below_drewN | apply below_drew1 | refine below_set ?_ GE190.out) | exact HB.out)⟩⟩
                                · rw [if_neg c10] at H
                                  exact absurd H (by simp)
                              · replace c9 := Bool.eq_false_iff.mpr c9
                                subst c9
                                have H1 : (spec_maSwitches.l3 k4 l0 x3_4 x11_1 x5_2 x26_3 (wrap64 (x7_4 + 1)) (l0.length : Int) x11_1 ((rd_L1 l0 0).length : Int) x26_3) = some r := by rw [if_neg (show ¬ (false = true) by decide)] at H; exact H
                                clear H
                                have H := H1
                                clear H1
                                have H' := Aside0.mk H
                                clear H
                                have p189 : 0 ≤ (0 : Int) := (by omega)
                                have q189 : 0 < (l0.length : Int) := of_decide_eq_true (by first | (with_reducible assumption) | assumption)
                                obtain ⟨ad189, A189_0, c189_0, e189, hx189_0, hl189_0, hi189_0⟩ := at_L1 HR0.out 0 p189 q189
                                obtain rfl : ad188 = ad189 := (by injection e189)
                                have qi189 : (0 < l0.length) = True := eq_true (by omega)
                                (try rw [show ((0 : Int)).toNat = 0 from rfl] at hx189_0)
                                (try rw [Addr.add_zero'] at hx189_0)
                                replace hx189_0 := (HB.out.cell (World.block_lt_of_cell? w _ hx189_0)).trans hx189_0
                                have HR189_0 := Aside0.mk hi189_0
                                have HC189_0 := Aside0.mk hl189_0
                                clear hi189_0 hl189_0
                                replace p189 := eq_true p189
                                replace q189 := eq_true q189
                                go_wp2_with (first | ((with_reducible refine gate_dst (N := 8) rfl ?_); refine box_event ?hg (N := 8) ?hd (cs := #[.int .i64 0, .int .i64 0, .int .i64 0, .int .i64 0]) (t := 41) ?hr ?_; (case hd => rfl); (case hg => rfl); (case hr => first | (go_simp; done) | (go_simp; rfl)); intro gb190 hg w16 hbox hb; have n0_ := Aside0.mk (Kd.R_below (Kd.R_elderB (by (with_reducible repeat (first | apply Kd.R_alloc | apply Kd.R_drewN | apply Kd.R_drew)); exact HO_3.out) gb190 (Nat.le_of_eq hg.symm)) hb); have n1_ := Aside0.mk (below_step (by repeat (first | (with_reducible first | exact HB.out | apply below_alloc | apply pw_below_drewN | apply below_drew1) | exact HB.out)) hb); have n2_ := Aside0.mk (hbox); have n3_ := Aside0.mk ((by rw [hg]; exact (below_size (by repeat (first | (with_reducible first | exact HB.out | apply below_alloc | apply pw_below_drewN | apply below_drew1) | exact HB.out))) : w.heap.size ≤ gb190)); have n4_ := Aside0.mk ((by rw [hg]; exact (below_size (by repeat (first | (with_reducible first | exact HB.out | apply below_alloc | apply pw_below_drewN | apply below_drew1) | exact HB.out))) : w.heap.size ≤ gb190)); clear HO_3; clear HB; have HO_3 := n0_; have HB := n1_; have BK190 := n2_; have GW190 := n3_; have GE190 := n4_; clear n0_ n1_ n2_ n3_ n4_; clear hb hbox hg; have hcz17_0 : w16.cell? ⟨gb190, 0, none⟩ = some (.int .i64 0) := (blk_cell BK190.out 0).trans rfl; have hcz17_1 : w16.cell? ⟨gb190, 1, none⟩ = some (.int .i64 0) := (blk_cell BK190.out 1).trans rfl; have hcz17_2 : w16.cell? ⟨gb190, 2, none⟩ = some (.int .i64 0) := (blk_cell BK190.out 2).trans rfl; have hcz17_3 : w16.cell? ⟨gb190, 3, none⟩ = some (.int .i64 0) := (blk_cell BK190.out 3).trans rfl; have hfz17_0 := blk_frozen BK190.out 0; have hfz17_1 := blk_frozen BK190.out 1; have hfz17_2 := blk_frozen BK190.out 2; have hfz17_3 := blk_frozen BK190.out 3) | ((with_reducible refine gate_callee (f := 80) rfl ?_); refine goesL_ (some 46) rfl rfl Try.func80 (by kernel_rfl) rfl #[.slice (some ad188) l0.length c0, .agg #[.int .i64 x11_1, .int .i64 x5_2, .int .i64 x26_3, .int .i64 x7_4]] rfl (by (try simp only [List.map_toArray, List.map_cons, List.map_nil]); first | done | rfl | (simp only [List.length_drop, List.length_take]; rfl)) ?_; (with_reducible refine (spec_maIs.calls _ _ l0 x11_1 x5_2 x26_3 x7_4 false _ ?side1 ?side2 A8.out).mono ?_); (case side1 => exact Kd.C_below HR0.out (by repeat (first | (with_reducible first | exact HB.out | apply below_alloc | apply pw_below_drewN | apply below_drew1 | refine below_set ?_ GE190.out) | exact HB.out))); (case side2 => exact HC0.out); rintro e w18 ⟨rfl, hb⟩; refine ⟨_, rfl, ?_⟩; have n0_ := Aside0.mk (Kd.R_below (by (with_reducible repeat (first | apply Kd.R_alloc | apply Kd.R_drewN | apply Kd.R_drew)); exact (Kd.R_mono (Kd.R_far (p := ⟨gb190, 3, none⟩) (Kd.R_far (p := ⟨gb190, 2, none⟩) (Kd.R_far (p := ⟨gb190, 1, none⟩) (Kd.R_far (p := ⟨gb190, 0, none⟩) (Kd.R_mono HO_3.out (fun k_ hk => (⟨hk, hk.2⟩ : _ ∧ k_ ≠ gb190))) (fun _ hk => hk.2) (.int .i64 x11_1)) (fun _ hk => hk.2) (.int .i64 x5_2)) (fun _ hk => hk.2) (.int .i64 x26_3)) (fun _ hk => hk.2) (.int .i64 x7_4)) (fun _ h_ => h_.1))) hb); have n1_ := Aside0.mk (blk_below (g := gb190) (o := .cells #[.int .i64 x11_1, .int .i64 x5_2, .int .i64 x26_3, .int .i64 x7_4] 41 (0, 0)) (by (with_reducible repeat (first | refine blk_drewN ?_ _ | refine blk_drew ?_ | refine blk_alloc ?_ _)); refine blk_put (cs := #[.int .i64 x11_1, .int .i64 x5_2, .int .i64 x26_3, .int .i64 0]) ?_ 3 _ rfl; (with_reducible repeat (first | refine blk_drewN ?_ _ | refine blk_drew ?_ | refine blk_alloc ?_ _)); refine blk_put (cs := #[.int .i64 x11_1, .int .i64 x5_2, .int .i64 0, .int .i64 0]) ?_ 2 _ rfl; (with_reducible repeat (first | refine blk_drewN ?_ _ | refine blk_drew ?_ | refine blk_alloc ?_ _)); refine blk_put (cs := #[.int .i64 x11_1, .int .i64 0, .int .i64 0, .int .i64 0]) ?_ 1 _ rfl; (with_reducible repeat (first | refine blk_drewN ?_ _ | refine blk_drew ?_ | refine blk_alloc ?_ _)); refine blk_put (cs := #[.int .i64 0, .int .i64 0, .int .i64 0, .int .i64 0]) ?_ 0 _ rfl; (with_reducible repeat (first | refine blk_drewN ?_ _ | refine blk_drew ?_ | refine blk_alloc ?_ _)); exact BK190.out) hb); have n2_ := Aside0.mk (below_step (by repeat (first | (with_reducible first | exact HB.out | apply below_alloc | apply pw_below_drewN | apply below_drew1 | refine below_set ?_ GE190.out) | exact HB.out)) hb); clear HO_3; clear BK190; clear HB; have HO_3 := n0_; have BK190 := n1_; have HB := n2_; clear n0_ n1_ n2_; (try clear hb); (try clear hb2); (try clear hk); (try clear hi)))
                                go_roundg k4
                                case measure => have := HK1.out; have := HK2.out; have := HK3.out; have := HK4.out; omega
                                case rel => exact ⟨(x3_4), (wrap64 (x7_4 + 1)), (by first | rfl | (simp; done) | (simp [*]; done)), H', ⟨by have := HK1.out; have := HK2.out; have := HK3.out; have := HK4.out; omega⟩, ⟨by (with_reducible repeat (first | apply Kd.R_alloc | apply Kd.R_drewN | apply Kd.R_drew)); exact Kd.R_mono HO_3.out (fun _ hk => trivial)⟩, ⟨by repeat (first | (with_reducible first | exact HB.out | apply below_alloc | apply pw_below_drewN | apply below_drew1 | refine below_set ?_ GE190.out) | exact HB.out)⟩⟩
                            · rw [if_neg c7] at H
                              have c7b0 : decide (x7_4 < ((rd_L1 l0 0).length : Int)) = false := decide_eq_false c7
                              clear c7
                              have H' := Aside0.mk H
                              clear H
                              have p189 : 0 ≤ (0 : Int) := (by omega)
                              have q189 : 0 < (l0.length : Int) := of_decide_eq_true (by first | (with_reducible assumption) | assumption)
                              obtain ⟨ad189, A189_0, c189_0, e189, hx189_0, hl189_0, hi189_0⟩ := at_L1 HR0.out 0 p189 q189
                              obtain rfl : ad188 = ad189 := (by injection e189)
                              have qi189 : (0 < l0.length) = True := eq_true (by omega)
                              (try rw [show ((0 : Int)).toNat = 0 from rfl] at hx189_0)
                              (try rw [Addr.add_zero'] at hx189_0)
                              replace hx189_0 := (HB.out.cell (World.block_lt_of_cell? w _ hx189_0)).trans hx189_0
                              have HR189_0 := Aside0.mk hi189_0
                              have HC189_0 := Aside0.mk hl189_0
                              clear hi189_0 hl189_0
                              replace p189 := eq_true p189
                              replace q189 := eq_true q189
                              go_wp2
                              go_roundg k4
                              case measure => have := HK1.out; have := HK2.out; have := HK3.out; have := HK4.out; omega
                              case rel => exact ⟨(x3_4), (wrap64 (x26_3 + 1)), (by first | rfl | (simp; done) | (simp [*]; done)), H', ⟨by have := HK1.out; have := HK2.out; have := HK3.out; have := HK4.out; omega⟩, ⟨by (with_reducible repeat (first | apply Kd.R_alloc | apply Kd.R_drewN | apply Kd.R_drew)); exact HO_3.out⟩, ⟨by repeat (first | (with_reducible first | exact HB.out | apply below_alloc | apply pw_below_drewN | apply below_drew1) | exact HB.out)⟩⟩
                          · rw [if_neg c6] at H
                            exact absurd H (by simp)
                    · rw [if_neg c5] at H
                      have c5b0 : decide (x26_3 < ((rd_L1 l0 0).length : Int)) = false := decide_eq_false c5
                      clear c5
                      have H' := Aside0.mk H
                      clear H
                      go_wp2
                      go_roundg k3
                      case measure => have := HK1.out; have := HK2.out; have := HK3.out; omega
                      case rel => exact ⟨(x3_3), (wrap64 (x5_2 + 1)), (by first | rfl | (simp; done) | (simp [*]; done)), H', ⟨by have := HK1.out; have := HK2.out; have := HK3.out; omega⟩, ⟨by (with_reducible repeat (first | apply Kd.R_alloc | apply Kd.R_drewN | apply Kd.R_drew)); exact HO_3.out⟩, ⟨by repeat (first | (with_reducible first | exact HB.out | apply below_alloc | apply pw_below_drewN | apply below_drew1) | exact HB.out)⟩⟩
              · rw [if_neg c4] at H
                exact absurd H (by simp)
            · rw [if_neg c3] at H
              have c3b0 : decide (x5_2 < (l0.length : Int)) = false := decide_eq_false c3
              clear c3
              have H' := Aside0.mk H
              clear H
              go_wp2
              go_roundg k2
              case measure => have := HK1.out; have := HK2.out; omega
              case rel => exact ⟨(x3_2), (wrap64 (x11_1 + 1)), (by first | rfl | (simp; done) | (simp [*]; done)), H', ⟨by have := HK1.out; have := HK2.out; omega⟩, ⟨by (with_reducible repeat (first | apply Kd.R_alloc | apply Kd.R_drewN | apply Kd.R_drew)); exact HO_3.out⟩, ⟨by repeat (first | (with_reducible first | exact HB.out | apply below_alloc | apply pw_below_drewN | apply below_drew1) | exact HB.out)⟩⟩
      · rw [if_neg c2] at H
        have c2b0 : decide (x11_1 < (l0.length : Int)) = false := decide_eq_false c2
        clear c2
        obtain rfl := Option.some.inj H
        go_wp2
        go_ret
        exact ⟨_, by first | rfl | (simp [errW_none, errW_some] <;> rfl) | (simp [*, errW_none, errW_some] <;> rfl), by (with_reducible repeat (first | apply Kd.R_alloc | apply Kd.R_drewN | apply Kd.R_drew)); exact HO_3.out, by repeat (first | (with_reducible first | exact HB.out | apply below_alloc | apply pw_below_drewN | apply below_drew1) | exact HB.out)⟩

end Go.Proofs.Ytojcnapdalpnmaa.P

namespace Go.Proofs.Ytojcnapdalpnmaa.P
open Go.RowKit Go.Proofs.YtojcnapdalpnmaaW.PrintWords Go.Proofs.YtojcnapdalpnmaaW.PrintLast Go.Proofs.YtojcnapdalpnmaaW.PrintMore
attribute [local go_sem] max2_int min2_int max_two min_two max_three min_three max_four min_four   -- for this text's walks alone
set_option linter.unusedVariables false
set_option linter.unusedSimpArgs false

/-! ### spec_GridSwitches: function 41 -/
def spec_GridSwitches.f (k : Nat) (l0 : List (List Int)) : Option ((List (S41)) × Bool) := (spec_maGrid.f k l0).bind fun t351 => (if t351 = true then ((spec_maSwitches.f k l0).bind fun t352 => (some (t352, true))) else (some (([] : List (S41)), false)))
theorem spec_GridSwitches.mono : ∀ a0 k, LeO (spec_GridSwitches.f k a0) (spec_GridSwitches.f (k + 1) a0) := by
  intro a0 k
  unfold spec_GridSwitches.f
  repeat' first
      | (with_reducible exact spec_maGrid.mono _ _)
      | (with_reducible exact spec_maSwitches.mono _ _)
      | (with_reducible exact LeO.refl _)
      | (with_reducible exact LeO.none _)
      | (with_reducible refine LeO.ite ?_ ?_)
      | (with_reducible refine LeO.bind ?_ (fun _ => ?_))
      | exact spec_maGrid.mono _ _
      | exact spec_maSwitches.mono _ _
      | exact LeO.none _
      | refine LeO.ite ?_ ?_
      | refine LeO.bind ?_ (fun _ => ?_)
set_option maxHeartbeats 8000000 in
set_option maxRecDepth 100000 in
theorem spec_GridSwitches.calls (k : Nat) (A0 : Option Addr) (c0 : Nat) (l0 : List (List Int)) (r1 : List (S41)) (r2 : Bool) (w : World) (hr0 : Kd.C (Kd.slice 3 (Kd.int .i64)) w A0 l0.length l0) (hc0 : l0.length ≤ c0) (h : spec_GridSwitches.f k l0 = some (r1, r2)) :
    Calls Try.prog 41 #[.slice A0 l0.length c0] w fun e w' => ∃ v0_ : Value, e = .returned (.tuple #[v0_, .bool r2]) ∧ Kd.R k41 41 w' w.heap.size (fun _ => True) v0_ r1 ∧ Below w.heap.size w w' := by
  have HR0 := Aside0.mk hr0
  have HC0 := Aside0.mk hc0
  clear hr0 hc0
  have HB := Aside0.mk (Below.refl w.heap.size w)
  have H : ((spec_maGrid.f k l0).bind fun t351 => (if t351 = true then ((spec_maSwitches.f k l0).bind fun t352 => (some (t352, true))) else (some (([] : List (S41)), false)))) = some (r1, r2) := h
  clear h
  replace H := Option.bind_eq_some_iff.mp H
  obtain ⟨t351, A20, H⟩ := H
  replace H : (if t351 = true then ((spec_maSwitches.f k l0).bind fun t352 => (some (t352, true))) else (some (([] : List (S41)), false))) = some (r1, r2) := H
  have A2 := Aside0.mk A20
  clear A20
  by_cases c3 : t351 = true
  · subst c3
    have H1 : ((spec_maSwitches.f k l0).bind fun t352 => (some (t352, true))) = some (r1, r2) := by rw [if_pos rfl] at H; exact H
    clear H
    have H := H1
    clear H1
    replace H := Option.bind_eq_some_iff.mp H
    obtain ⟨t352, A40, H⟩ := H
    replace H : (some (t352, true)) = some (r1, r2) := H
    have A4 := Aside0.mk A40
    clear A40
    simp only [Option.some.injEq, Prod.mk.injEq] at H
    obtain ⟨rfl, rfl⟩ := H
    go_enter Try.func41, Try.ntmps41
    go_wp2_with (first | ((with_reducible refine gate_callee (f := 67) rfl ?_); refine goesL_ (some 5) rfl rfl Try.func67 (by kernel_rfl) rfl #[.slice A0 l0.length c0] rfl (by (try simp only [List.map_toArray, List.map_cons, List.map_nil]); first | done | rfl | (simp only [List.length_drop, List.length_take]; rfl)) ?_; (with_reducible refine (spec_maGrid.calls k _ _ l0 true _ ?side1 ?side2 A2.out).mono ?_); (case side1 => repeat (first | exact HR0.out | (with_reducible refine Kd.C_alloc ?_ _) | (with_reducible refine Kd.C_drewN ?_ _) | (with_reducible refine Kd.C_drew ?_))); (case side2 => exact HC0.out); rintro e w' ⟨rfl, ⟨nd, rfl⟩⟩; refine ⟨_, rfl, ?_⟩) | ((with_reducible refine gate_callee (f := 73) rfl ?_); refine goesL_ (some 8) rfl rfl Try.func73 (by kernel_rfl) rfl #[.slice A0 l0.length c0] rfl (by (try simp only [List.map_toArray, List.map_cons, List.map_nil]); first | done | rfl | (simp only [List.length_drop, List.length_take]; rfl)) ?_; (with_reducible refine (spec_maSwitches.calls k _ _ l0 t352 _ ?side1 ?side2 A4.out).mono ?_); (case side1 => repeat (first | exact HR0.out | (with_reducible refine Kd.C_alloc ?_ _) | (with_reducible refine Kd.C_drewN ?_ _) | (with_reducible refine Kd.C_drew ?_))); (case side2 => exact HC0.out); rintro e w5 ⟨v353, rfl, ho0, hb⟩; refine ⟨_, rfl, ?_⟩; have n0_ := Aside0.mk (Kd.R_lower ho0 (below_size (by repeat (first | (with_reducible first | exact HB.out | apply below_alloc | apply pw_below_drewN | apply below_drew1) | exact HB.out)))); have n1_ := Aside0.mk (below_step (by repeat (first | (with_reducible first | exact HB.out | apply below_alloc | apply pw_below_drewN | apply below_drew1) | exact HB.out)) hb); clear HB; have HO354 := n0_; have HB := n1_; clear n0_ n1_; (try clear hb); (try clear hb2); (try clear hk); (try clear hi); (try clear ho0)))
    go_ret2
    exact ⟨_, by first | rfl | (simp [errW_none, errW_some] <;> rfl) | (simp [*, errW_none, errW_some] <;> rfl), by (with_reducible repeat (first | apply Kd.R_alloc | apply Kd.R_drewN | apply Kd.R_drew)); exact HO354.out, by repeat (first | (with_reducible first | exact HB.out | apply below_alloc | apply pw_below_drewN | apply below_drew1) | exact HB.out)⟩
  · replace c3 := Bool.eq_false_iff.mpr c3
    subst c3
    have H1 : (some (([] : List (S41)), false)) = some (r1, r2) := by rw [if_neg (show ¬ (false = true) by decide)] at H; exact H
    clear H
    have H := H1
    clear H1
    simp only [Option.some.injEq, Prod.mk.injEq] at H
    obtain ⟨rfl, rfl⟩ := H
    go_enter Try.func41, Try.ntmps41
    go_wp2_with (first | ((with_reducible refine gate_callee (f := 67) rfl ?_); refine goesL_ (some 5) rfl rfl Try.func67 (by kernel_rfl) rfl #[.slice A0 l0.length c0] rfl (by (try simp only [List.map_toArray, List.map_cons, List.map_nil]); first | done | rfl | (simp only [List.length_drop, List.length_take]; rfl)) ?_; (with_reducible refine (spec_maGrid.calls k _ _ l0 false _ ?side1 ?side2 A2.out).mono ?_); (case side1 => repeat (first | exact HR0.out | (with_reducible refine Kd.C_alloc ?_ _) | (with_reducible refine Kd.C_drewN ?_ _) | (with_reducible refine Kd.C_drew ?_))); (case side2 => exact HC0.out); rintro e w' ⟨rfl, ⟨nd, rfl⟩⟩; refine ⟨_, rfl, ?_⟩))
    go_ret2
    exact ⟨_, by first | rfl | (simp [errW_none, errW_some] <;> rfl) | (simp [*, errW_none, errW_some] <;> rfl), by first | exact Kd.R_nil _ _ _ _ _ | exact Kd.N_nil _ _ _ _ _ | exact Kd.V_nil _ _ _ _ _ | exact Kd.Q_nil _ _ _ _ _ | exact Kd.S_nil _ _ _ _ _, by repeat (first | (with_reducible first | exact HB.out | apply below_alloc | apply pw_below_drewN | apply below_drew1) | exact HB.out)⟩

end Go.Proofs.Ytojcnapdalpnmaa.P

/- What the law FnExactGridSwitches asks of the functions that it calls: the pure part shows it (Q), the walk uses it (H). -/
namespace Go.Proofs.Ytojcnapdalpnmaa.P
open Go.RowKit Go.Proofs.YtojcnapdalpnmaaW.PrintWords Go.Proofs.YtojcnapdalpnmaaW.PrintLast Go.Proofs.YtojcnapdalpnmaaW.PrintMore
set_option linter.unusedVariables false
set_option linter.unusedSimpArgs false

/-- r = true, and: the input is too large, or both functions answer the same, and all comparisons, marks and looks go well. -/
def laws_FnExactGridSwitches.Good (l0 : List (List Int)) (r : Bool) : Prop := r = true ∧ ∃ n0 : Int, (∃ k, laws_szIntSS.f k l0 1048576 = some n0) ∧ (n0 < 0 ∨ 0 ≤ n0 ∧ ∃ (w0 w0' : List S41) (l0' : List (List Int)) (wb : Bool) (k0 : Int) (m0 : Int), (∃ k, laws_toIntSS.f k l0 = some l0) ∧ (∃ k, spec_GridSwitches.f k l0 = some (w0, wb)) ∧ (∃ k, impl_GridSwitches.f k l0 = some (w0, wb)) ∧ (∃ k, laws_eqSwitchS.f k w0 w0 = some true) ∧ (∃ k, laws_eqIntSS.f k l0 l0 = some true) ∧ (laws_markIntSS.f l0 1 = some (k0, l0')) ∧ (∃ k, laws_markSwitchS.f k w0 1 = some (m0, w0')) ∧ (∃ k, laws_heldSwitchS.f k w0' 1 = some m0) ∧ 0 ≤ k0 ∧ 0 ≤ m0 ∧ w0'.length = w0.length)

end Go.Proofs.Ytojcnapdalpnmaa.P

namespace Go.Proofs.Ytojcnapdalpnmaa.K
open Go.RowKit Go.Proofs.YtojcnapdalpnmaaW.PrintWords Go.Proofs.YtojcnapdalpnmaaW.PrintLast Go.Proofs.YtojcnapdalpnmaaW.PrintMore Go.Proofs.Ytojcnapdalpnmaa.P
set_option linter.unusedVariables false
set_option linter.unusedSimpArgs false

/-- What a law holds in memory: a set of blocks, and what is known of them. -/
structure Ob where
  S : Nat → Prop
  P : World → Prop
def Loc (o : Ob) : Prop := ∀ W W2 : World, (∀ k, o.S k → W2.heap[k]? = W.heap[k]?) → o.P W → o.P W2
/-- The things held, the youngest first; none lies in another's blocks. -/
def St (W : World) : List Ob → Prop
  | [] => True
  | o :: os => ((∀ k, o.S k → k < W.heap.size) ∧ o.P W ∧ Loc o ∧ ∀ p ∈ os, ∀ k, o.S k → ¬ p.S k) ∧ St W os
theorem St.move {W W2 : World} (hs : W.heap.size ≤ W2.heap.size) : ∀ {os : List Ob}, St W os → (∀ o ∈ os, ∀ k, o.S k → W2.heap[k]? = W.heap[k]?) → St W2 os
  | [], _, _ => trivial
  | o :: os, ⟨⟨h1, h2, h3, h4⟩, h5⟩, hm => ⟨⟨fun k hk => Nat.lt_of_lt_of_le (h1 k hk) hs, h3 W W2 (hm o (by simp)) h2, h3, h4⟩, St.move hs h5 (fun p hp => hm p (by simp [hp]))⟩
theorem St.bound {W : World} : ∀ {os : List Ob}, St W os → ∀ o ∈ os, ∀ k, o.S k → k < W.heap.size
  | [], _, _, ho => by cases ho
  | p :: os, ⟨⟨h1, _⟩, h5⟩, o, ho => by
    rcases List.mem_cons.1 ho with rfl | ho
    · exact h1
    · exact St.bound h5 o ho
theorem St.below {W W2 : World} {os : List Ob} (h : St W os) (hb : Below W.heap.size W W2) : St W2 os :=
  St.move hb.size h (fun o ho k hk => hb.block k (h.bound o ho k hk))
theorem St.get {W : World} : ∀ {os : List Ob}, St W os → ∀ {o : Ob}, o ∈ os → o.P W
  | [], _, _, ho => by cases ho
  | p :: os, ⟨⟨_, h2, _⟩, h5⟩, o, ho => by
    rcases List.mem_cons.1 ho with rfl | ho
    · exact h2
    · exact St.get h5 ho
theorem St.push {W W2 : World} {os : List Ob} (h : St W os) (hb : Below W.heap.size W W2) {o : Ob} (hS : ∀ k, o.S k → W.heap.size ≤ k ∧ k < W2.heap.size) (hP : o.P W2) (hl : Loc o) : St W2 (o :: os) :=
  ⟨⟨fun k hk => (hS k hk).2, hP, hl, fun p hp k hk hk2 => Nat.lt_irrefl _ (Nat.lt_of_lt_of_le (h.bound p hp k hk2) (hS k hk).1)⟩, h.below hb⟩
/-- Two things that one call has made. -/
theorem St.push2 {W W2 : World} {os : List Ob} (h : St W os) (hb : Below W.heap.size W W2) {o p : Ob} (hS : ∀ k, o.S k → W.heap.size ≤ k ∧ k < W2.heap.size) (hP : o.P W2) (hl : Loc o) (hS2 : ∀ k, p.S k → W.heap.size ≤ k ∧ k < W2.heap.size) (hP2 : p.P W2) (hl2 : Loc p) (hne : ∀ k, o.S k → ¬ p.S k) : St W2 (o :: p :: os) := by
  have h2 := St.push h hb hS2 hP2 hl2
  refine ⟨⟨fun k hk => (hS k hk).2, hP, hl, fun q hq k hk hk2 => ?_⟩, h2⟩
  rcases List.mem_cons.1 hq with rfl | hq
  · exact hne k hk hk2
  · exact Nat.lt_irrefl _ (Nat.lt_of_lt_of_le (h.bound q hq k hk2) (hS k hk).1)
/-- A thing is written. -/
theorem St.put {W W2 : World} {S : Nat → Prop} {Q P : World → Prop} {post : List Ob} (hk : Kept W W2 S) (hP : P W2) (hl : Loc ⟨S, P⟩) : ∀ (pre : List Ob), St W (pre ++ ⟨S, Q⟩ :: post) → St W2 (pre ++ ⟨S, P⟩ :: post)
  | [], ⟨⟨h1, h2, h3, h4⟩, h5⟩ => ⟨⟨fun k hk1 => Nat.lt_of_lt_of_le (h1 k hk1) hk.1, hP, hl, h4⟩, St.move hk.1 h5 (fun p hp k hk1 => hk.2 k (h5.bound p hp k hk1) (fun h => h4 p hp k h hk1))⟩
  | o :: pre, ⟨⟨h1, h2, h3, h4⟩, h5⟩ => by
    refine ⟨⟨fun k hk1 => Nat.lt_of_lt_of_le (h1 k hk1) hk.1, h3 W W2 (fun k hk1 => hk.2 k (h1 k hk1) (fun h => h4 ⟨S, Q⟩ (by simp) k hk1 h)) h2, h3, fun p hp => ?_⟩, St.put hk hP hl pre h5⟩
    rcases List.mem_append.1 hp with hp | hp
    · exact h4 p (by simp [hp])
    · rcases List.mem_cons.1 hp with rfl | hp
      · exact fun k hk1 hk2 => h4 ⟨S, Q⟩ (by simp) k hk1 hk2
      · exact h4 p (by simp [hp])
/-- A slice of rows of whole numbers. -/
def obSS (b : Nat) (S : Nat → Prop) (v : Value) (l : List (List Int)) : Ob := ⟨S, fun W => Kd.S (Kd.slice 3 (Kd.int .i64)) 33 W b S v l⟩
theorem obSS_loc (b : Nat) (S : Nat → Prop) (v : Value) (l : List (List Int)) : Loc (obSS b S v l) := fun W W2 h hS => Kd.S_move hS h
theorem St.pushSS {W W2 : World} {os : List Ob} (h : St W os) (hb : Below W.heap.size W W2) {b : Nat} (hle : b ≤ W.heap.size) {v : Value} {l : List (List Int)} (hS : Kd.S (Kd.slice 3 (Kd.int .i64)) 33 W2 W.heap.size (fun _ => True) v l) : ∃ S, St W2 (obSS b S v l :: os) :=
  ⟨fun k => W.heap.size ≤ k ∧ k < W2.heap.size, St.push h hb (o := obSS b _ v l) (fun k hk => hk) (Kd.S_mono (Kd.S_lower (Kd.S_bound hS) hle) (fun k hk => ⟨hk.2.1, hk.2.2.1⟩)) (obSS_loc _ _ _ _)⟩
theorem St.getSS {W : World} {os : List Ob} {b : Nat} {S : Nat → Prop} {v : Value} {l : List (List Int)} (h : St W os) (ho : obSS b S v l ∈ os) : Kd.S (Kd.slice 3 (Kd.int .i64)) 33 W b S v l := St.get h ho
theorem St.sizeSS {W : World} {os : List Ob} {b : Nat} {S : Nat → Prop} {A : Option Addr} {n c : Nat} {l : List (List Int)} (h : St W os) (ho : obSS b S (.slice A n c) l ∈ os) : n ≤ c := (Kd.S_reads' (h.getSS ho)).2.1
theorem St.readSS {W : World} {os : List Ob} {b : Nat} {S : Nat → Prop} {A : Option Addr} {n c : Nat} {l : List (List Int)} (h : St W os) (ho : obSS b S (.slice A n c) l ∈ os) : Kd.C (Kd.slice 3 (Kd.int .i64)) W A l.length l := (Kd.S_reads' (h.getSS ho)).2.2
/-- A slice of things that hold no further blocks. -/
def obF {α : Type} (d : Kd α) (e b : Nat) (v : Value) (l : List α) : Ob := ⟨fun k => some k = v.ownBlock, fun W => d.R e W b (fun k => some k = v.ownBlock) v l⟩
section
variable {α β : Type} {d : Kd α} {e b : Nat} {d2 : Kd β} {e2 b2 : Nat}
theorem obF_loc (d : Kd α) (e b : Nat) (v : Value) (l : List α) : Loc (obF d e b v l) := fun W W2 h hS => Kd.R_move hS h
theorem obF_in {W W2 : World} {ok : Nat → Prop} {v : Value} {l : List α} (h : d.R e W2 W.heap.size ok v l) : ∀ k, (obF d e b v l).S k → W.heap.size ≤ k ∧ k < W2.heap.size := fun k hk => ⟨Kd.R_base h k hk.symm, Kd.R_lt h k hk.symm⟩
theorem St.pushF {W W2 : World} {os : List Ob} (h : St W os) (hb : Below W.heap.size W W2) (hE : d.E = []) (hle : b ≤ W.heap.size) {ok : Nat → Prop} {v : Value} {l : List α} (hS : d.R e W2 W.heap.size ok v l) : St W2 (obF d e b v l :: os) :=
  St.push h hb (obF_in hS) (Kd.R_lower (Kd.R_tight hE hS) hle) (obF_loc _ _ _ _ _)
theorem St.pushF2 {W W2 : World} {os : List Ob} (h : St W os) (hb : Below W.heap.size W W2) (hE : d.E = []) (hE2 : d2.E = []) (hle : b ≤ W.heap.size) {v v2 : Value} {l : List α} {l2 : List β} (hS : d.R e W2 W.heap.size (fun k => some k ≠ v2.ownBlock) v l) {ok2 : Nat → Prop} (hS2 : d2.R e2 W2 W.heap.size ok2 v2 l2) : St W2 (obF d e b v l :: obF d2 e2 b v2 l2 :: os) :=
  St.push2 h hb (obF_in hS) (Kd.R_lower (Kd.R_tight hE hS) hle) (obF_loc _ _ _ _ _) (obF_in hS2) (Kd.R_lower (Kd.R_tight hE2 hS2) hle) (obF_loc _ _ _ _ _) (fun k hk hk2 => hS.1 k hk.symm hk2)
theorem St.getF {W : World} {os : List Ob} {v : Value} {l : List α} (h : St W os) (ho : obF d e b v l ∈ os) : d.R e W b (fun k => some k = v.ownBlock) v l := St.get h ho
theorem St.sizeF {W : World} {os : List Ob} {A : Option Addr} {n c : Nat} {l : List α} (h : St W os) (ho : obF d e b (.slice A n c) l ∈ os) : n ≤ c := (Kd.R_reads' (h.getF ho)).2.1
theorem St.readF {W : World} {os : List Ob} {A : Option Addr} {n c : Nat} {l : List α} (h : St W os) (ho : obF d e b (.slice A n c) l ∈ os) : d.C W A l.length l := (Kd.R_reads' (h.getF ho)).2.2
theorem St.putF {W W2 : World} {v : Value} {l l2 : List α} {post : List Ob} (pre : List Ob) (h : St W (pre ++ obF d e b v l :: post)) (hE : d.E = []) {ok : Nat → Prop} (hk : Kept W W2 (fun k => some k = v.ownBlock)) (hP : d.R e W2 b ok v l2) : St W2 (pre ++ obF d e b v l2 :: post) :=
  St.put hk (Kd.R_tight hE hP) (obF_loc _ _ _ _ _) pre h
end
theorem St.putSS {W W2 : World} {b : Nat} {S : Nat → Prop} {v : Value} {l l2 : List (List Int)} {post : List Ob} (pre : List Ob) (h : St W (pre ++ obSS b S v l :: post)) (hk : Kept W W2 S) (hP : Kd.S (Kd.slice 3 (Kd.int .i64)) 33 W2 b S v l2) : St W2 (pre ++ obSS b S v l2 :: post) :=
  St.put hk hP (obSS_loc _ _ _ _) pre h
/-- A boxed struct of two cells. -/
def obB (g : Nat) (u0 u1 : Value) : Ob := ⟨fun k => k = g, fun W => W.cell? ⟨g, 0, none⟩ = some u0 ∧ W.cell? ⟨g, 1, none⟩ = some u1⟩
theorem cell_same {W W2 : World} {g i : Nat} (h : W2.heap[g]? = W.heap[g]?) : W2.cell? ⟨g, i, none⟩ = W.cell? ⟨g, i, none⟩ := by
  unfold World.cell?
  simp only [h]
theorem obB_loc (g : Nat) (u0 u1 : Value) : Loc (obB g u0 u1) := fun W W2 h hS => by
  have e := h g rfl
  exact ⟨(cell_same e).trans hS.1, (cell_same e).trans hS.2⟩
theorem St.getB {W : World} {os : List Ob} {g : Nat} {u0 u1 : Value} (h : St W os) (ho : obB g u0 u1 ∈ os) : W.cell? ⟨g, 0, none⟩ = some u0 ∧ W.cell? ⟨g, 1, none⟩ = some u1 := St.get h ho
theorem St.pushBox {W : World} {os : List Ob} {u0 u1 : Value} {t : Nat} (h : St W os) : St (W.alloc (.cells #[u0, u1] t)) (obB W.heap.size u0 u1 :: os) := by
  have h1 : (W.alloc (.cells #[u0, u1] t)).heap.size = W.heap.size + 1 := by rw [← World.alloc_eq]; simp
  refine St.push h (below_alloc (Below.refl W.heap.size W) _) (fun k hk => ?_) ⟨by simp, by simp⟩ (obB_loc _ _ _)
  obtain rfl : k = W.heap.size := hk
  omega
/-- A boxed struct of four cells. -/
def obB4 (g : Nat) (u0 u1 u2 u3 : Value) : Ob := ⟨fun k => k = g, fun W => W.cell? ⟨g, 0, none⟩ = some u0 ∧ W.cell? ⟨g, 1, none⟩ = some u1 ∧ W.cell? ⟨g, 2, none⟩ = some u2 ∧ W.cell? ⟨g, 3, none⟩ = some u3⟩
theorem obB4_loc (g : Nat) (u0 u1 u2 u3 : Value) : Loc (obB4 g u0 u1 u2 u3) := fun W W2 h hS => by
  have e := h g rfl
  exact ⟨(cell_same e).trans hS.1, (cell_same e).trans hS.2.1, (cell_same e).trans hS.2.2.1, (cell_same e).trans hS.2.2.2⟩
theorem St.getB4 {W : World} {os : List Ob} {g : Nat} {u0 u1 u2 u3 : Value} (h : St W os) (ho : obB4 g u0 u1 u2 u3 ∈ os) : W.cell? ⟨g, 0, none⟩ = some u0 ∧ W.cell? ⟨g, 1, none⟩ = some u1 ∧ W.cell? ⟨g, 2, none⟩ = some u2 ∧ W.cell? ⟨g, 3, none⟩ = some u3 := St.get h ho
theorem St.pushBox4 {W : World} {os : List Ob} {u0 u1 u2 u3 : Value} {t : Nat} (h : St W os) : St (W.alloc (.cells #[u0, u1, u2, u3] t)) (obB4 W.heap.size u0 u1 u2 u3 :: os) := by
  have h1 : (W.alloc (.cells #[u0, u1, u2, u3] t)).heap.size = W.heap.size + 1 := by rw [← World.alloc_eq]; simp
  refine St.push h (below_alloc (Below.refl W.heap.size W) _) (fun k hk => ?_) ⟨by simp, by simp, by simp, by simp⟩ (obB4_loc _ _ _ _ _)
  obtain rfl : k = W.heap.size := hk
  omega

end Go.Proofs.Ytojcnapdalpnmaa.K

namespace Go.Proofs.Ytojcnapdalpnmaa.P
open Go.RowKit Go.Proofs.YtojcnapdalpnmaaW.PrintWords Go.Proofs.YtojcnapdalpnmaaW.PrintLast Go.Proofs.YtojcnapdalpnmaaW.PrintMore
attribute [local go_sem] max2_int min2_int max_two min_two max_three min_three max_four min_four   -- for this text's walks alone
set_option linter.unusedVariables false
set_option linter.unusedSimpArgs false

/-! ### laws_heldIntS: function 37 -/
def laws_heldIntS.l0 : Nat → List Int → Int → Int → Option (Int)
  | 0, _, _, _ => none
  | k + 1, x0, x1, x5 => if x5 < (x0.length : Int) then (if 0 ≤ x5 then (if (rd x0 x5) = x1 then (laws_heldIntS.l0 k x0 (wrap64 (x1 + 1)) (wrap64 (x5 + 1))) else (some (-1))) else (none)) else (some x1)
def laws_heldIntS.f (k : Nat) (l0 : List Int) (a1 : Int) : Option (Int) := laws_heldIntS.l0 k l0 a1 0
theorem laws_heldIntS.mono_l : ∀ k, (∀ y0 y1 y2, LeO (laws_heldIntS.l0 k y0 y1 y2) (laws_heldIntS.l0 (k + 1) y0 y1 y2))
  | 0 => fun _ _ _ r h => by simp [laws_heldIntS.l0] at h
  | k + 1 => by
    have ih0 := laws_heldIntS.mono_l k
    · intro y0 y1 y2
      unfold laws_heldIntS.l0
      repeat' first
      | (with_reducible exact ih0 _ _ _)
      | (with_reducible exact LeO.refl _)
      | (with_reducible exact LeO.none _)
      | (with_reducible refine LeO.ite ?_ ?_)
      | (with_reducible refine LeO.bind ?_ (fun _ => ?_))
      | exact ih0 _ _ _
      | exact LeO.none _
      | refine LeO.ite ?_ ?_
      | refine LeO.bind ?_ (fun _ => ?_)
theorem laws_heldIntS.mono : ∀ a0 a1 k, LeO (laws_heldIntS.f k a0 a1) (laws_heldIntS.f (k + 1) a0 a1) := by
  intro a0 a1 k
  have ih0 := laws_heldIntS.mono_l k
  unfold laws_heldIntS.f
  repeat' first
      | (with_reducible exact ih0 _ _ _)
      | (with_reducible exact LeO.refl _)
      | (with_reducible exact LeO.none _)
      | (with_reducible refine LeO.ite ?_ ?_)
      | (with_reducible refine LeO.bind ?_ (fun _ => ?_))
      | exact ih0 _ _ _
      | exact LeO.none _
      | refine LeO.ite ?_ ?_
      | refine LeO.bind ?_ (fun _ => ?_)
set_option maxHeartbeats 8000000 in
set_option maxRecDepth 100000 in
theorem laws_heldIntS.calls (k : Nat) (A0 : Option Addr) (c0 : Nat) (l0 : List Int) (a1 : Int) (r : Int) (w : World) (hr0 : Kd.C (Kd.int .i64) w A0 l0.length l0) (hc0 : l0.length ≤ c0) (h : laws_heldIntS.f k l0 a1 = some r) :
    Calls Try.prog 37 #[.slice A0 l0.length c0, .int .i64 a1] w fun e w' => e = .returned (.int .i64 r) ∧ Drawn0 w w' := by
  have HR0 := Aside0.mk hr0
  have HC0 := Aside0.mk hc0
  clear hr0 hc0
  have H : (laws_heldIntS.l0 k l0 a1 0) = some r := h
  clear h
  have H' := Aside0.mk H
  clear H
  go_enter Try.func37, Try.ntmps37
  go_wp2
  go_loopg [1, 5] k (fun kq v1 v5 w' => ∃ (x1_1 : Int) (x5_1 : Int), v1 = .int .i64 x1_1 ∧ v5 = .int .i64 x5_1 ∧ Aside0 (laws_heldIntS.l0 kq l0 x1_1 x5_1 = some r) ∧ Aside0 (kq ≤ k) ∧ Drawn0 w w')
  case atStart => exact ⟨(a1), (0), (by first | rfl | (simp; done) | (simp [*]; done)), (by first | rfl | (simp; done) | (simp [*]; done)), H', ⟨Nat.le_refl _⟩, by repeat (first | exact Drawn0.refl _ | apply Drawn0.step)⟩
  case round =>
    clear H'
    try clear p2
    obtain ⟨x1_1, x5_1, rfl, rfl, HA, HK1, ⟨m1, rfl⟩⟩ := hrel
    cases gk with
    | zero => exact absurd HA.out (by simp [laws_heldIntS.l0])
    | succ k1 =>
      have H := HA.out
      clear HA
      simp only [laws_heldIntS.l0] at H
      by_cases c3 : x5_1 < (l0.length : Int)
      · rw [if_pos c3] at H
        have c3b0 : decide (x5_1 < (l0.length : Int)) = true := decide_eq_true c3
        clear c3
        by_cases c4 : 0 ≤ x5_1
        · rw [if_pos c4] at H
          have c4b0 : decide (0 ≤ x5_1) = true := decide_eq_true c4
          clear c4
          by_cases c5 : (rd l0 x5_1) = x1_1
          · rw [if_pos c5] at H
            have c5b0 : ((rd l0 x5_1) == x1_1) = true := beq_iff_eq.mpr c5
            have c5b1 : ((rd l0 x5_1) != x1_1) = false := bne_eq_false_iff_eq.mpr c5
            clear c5
            have H' := Aside0.mk H
            clear H
            have p253 : 0 ≤ (x5_1 : Int) := of_decide_eq_true (by first | (with_reducible assumption) | assumption)
            have q253 : x5_1 < (l0.length : Int) := of_decide_eq_true (by first | (with_reducible assumption) | assumption)
            obtain ⟨ad253, e253, hx253_0⟩ := Kd.at_int HR0.out x5_1 p253 q253
            cases e253
            replace p253 := eq_true p253
            replace q253 := eq_true q253
            go_wp2
            go_roundg k1
            case measure => have := HK1.out; omega
            case rel => exact ⟨(wrap64 (x1_1 + 1)), (wrap64 (x5_1 + 1)), (by first | rfl | (simp; done) | (simp [*]; done)), (by first | rfl | (simp; done) | (simp [*]; done)), H', ⟨by have := HK1.out; omega⟩, by repeat (first | exact Drawn0.refl _ | apply Drawn0.step)⟩
          · rw [if_neg c5] at H
            have c5b0 : ((rd l0 x5_1) == x1_1) = false := beq_eq_false_iff_ne.mpr c5
            have c5b1 : ((rd l0 x5_1) != x1_1) = true := bne_iff_ne.mpr c5
            obtain rfl := Option.some.inj H
            have p253 : 0 ≤ (x5_1 : Int) := of_decide_eq_true (by first | (with_reducible assumption) | assumption)
            have q253 : x5_1 < (l0.length : Int) := of_decide_eq_true (by first | (with_reducible assumption) | assumption)
            obtain ⟨ad253, e253, hx253_0⟩ := Kd.at_int HR0.out x5_1 p253 q253
            cases e253
            replace p253 := eq_true p253
            replace q253 := eq_true q253
            go_wp2
            go_ret
            exact ⟨by first | rfl | (simp; done) | (simp [*]; done), by repeat (first | exact Drawn0.refl _ | apply Drawn0.step)⟩
        · rw [if_neg c4] at H
          exact absurd H (by simp)
      · rw [if_neg c3] at H
        have c3b0 : decide (x5_1 < (l0.length : Int)) = false := decide_eq_false c3
        clear c3
        obtain rfl := Option.some.inj H
        go_wp2
        go_ret
        exact ⟨by first | rfl | (simp; done) | (simp [*]; done), by repeat (first | exact Drawn0.refl _ | apply Drawn0.step)⟩

end Go.Proofs.Ytojcnapdalpnmaa.P

namespace Go.Proofs.Ytojcnapdalpnmaa.P
open Go.RowKit Go.Proofs.YtojcnapdalpnmaaW.PrintWords Go.Proofs.YtojcnapdalpnmaaW.PrintLast Go.Proofs.YtojcnapdalpnmaaW.PrintMore
attribute [local go_sem] max2_int min2_int max_two min_two max_three min_three max_four min_four   -- for this text's walks alone
set_option linter.unusedVariables false
set_option linter.unusedSimpArgs false

/-! ### laws_heldIntSS: function 30 -/
def laws_heldIntSS.l0 : Nat → List (List Int) → Int → Int → Option (Int)
  | 0, _, _, _ => none
  | k + 1, x0, x1, x5 => if x5 < (x0.length : Int) then (if 0 ≤ x5 then ((laws_heldIntS.f k (rd_L1 x0 x5) x1).bind fun t255 => (if t255 < 0 then (some (-1)) else (laws_heldIntSS.l0 k x0 t255 (wrap64 (x5 + 1))))) else (none)) else (some x1)
def laws_heldIntSS.f (k : Nat) (l0 : List (List Int)) (a1 : Int) : Option (Int) := laws_heldIntSS.l0 k l0 a1 0
theorem laws_heldIntSS.mono_l : ∀ k, (∀ y0 y1 y2, LeO (laws_heldIntSS.l0 k y0 y1 y2) (laws_heldIntSS.l0 (k + 1) y0 y1 y2))
  | 0 => fun _ _ _ r h => by simp [laws_heldIntSS.l0] at h
  | k + 1 => by
    have ih0 := laws_heldIntSS.mono_l k
    · intro y0 y1 y2
      unfold laws_heldIntSS.l0
      repeat' first
      | (with_reducible exact ih0 _ _ _)
      | (with_reducible exact laws_heldIntS.mono _ _ _)
      | (with_reducible exact LeO.refl _)
      | (with_reducible exact LeO.none _)
      | (with_reducible refine LeO.ite ?_ ?_)
      | (with_reducible refine LeO.bind ?_ (fun _ => ?_))
      | exact ih0 _ _ _
      | exact laws_heldIntS.mono _ _ _
      | exact LeO.none _
      | refine LeO.ite ?_ ?_
      | refine LeO.bind ?_ (fun _ => ?_)
theorem laws_heldIntSS.mono : ∀ a0 a1 k, LeO (laws_heldIntSS.f k a0 a1) (laws_heldIntSS.f (k + 1) a0 a1) := by
  intro a0 a1 k
  have ih0 := laws_heldIntSS.mono_l k
  unfold laws_heldIntSS.f
  repeat' first
      | (with_reducible exact ih0 _ _ _)
      | (with_reducible exact laws_heldIntS.mono _ _ _)
      | (with_reducible exact LeO.refl _)
      | (with_reducible exact LeO.none _)
      | (with_reducible refine LeO.ite ?_ ?_)
      | (with_reducible refine LeO.bind ?_ (fun _ => ?_))
      | exact ih0 _ _ _
      | exact laws_heldIntS.mono _ _ _
      | exact LeO.none _
      | refine LeO.ite ?_ ?_
      | refine LeO.bind ?_ (fun _ => ?_)
set_option maxHeartbeats 8000000 in
set_option maxRecDepth 100000 in
theorem laws_heldIntSS.calls (k : Nat) (A0 : Option Addr) (c0 : Nat) (l0 : List (List Int)) (a1 : Int) (r : Int) (w : World) (hr0 : Kd.C (Kd.slice 3 (Kd.int .i64)) w A0 l0.length l0) (hc0 : l0.length ≤ c0) (h : laws_heldIntSS.f k l0 a1 = some r) :
    Calls Try.prog 30 #[.slice A0 l0.length c0, .int .i64 a1] w fun e w' => e = .returned (.int .i64 r) ∧ Drawn0 w w' := by
  have HR0 := Aside0.mk hr0
  have HC0 := Aside0.mk hc0
  clear hr0 hc0
  have H : (laws_heldIntSS.l0 k l0 a1 0) = some r := h
  clear h
  have H' := Aside0.mk H
  clear H
  go_enter Try.func30, Try.ntmps30
  go_wp2
  go_loopg [1, 5] k (fun kq v1 v5 w' => ∃ (x1_1 : Int) (x5_1 : Int), v1 = .int .i64 x1_1 ∧ v5 = .int .i64 x5_1 ∧ Aside0 (laws_heldIntSS.l0 kq l0 x1_1 x5_1 = some r) ∧ Aside0 (kq ≤ k) ∧ Drawn0 w w')
  case atStart => exact ⟨(a1), (0), (by first | rfl | (simp; done) | (simp [*]; done)), (by first | rfl | (simp; done) | (simp [*]; done)), H', ⟨Nat.le_refl _⟩, by repeat (first | exact Drawn0.refl _ | apply Drawn0.step)⟩
  case round =>
    clear H'
    try clear p2
    obtain ⟨x1_1, x5_1, rfl, rfl, HA, HK1, ⟨m1, rfl⟩⟩ := hrel
    cases gk with
    | zero => exact absurd HA.out (by simp [laws_heldIntSS.l0])
    | succ k1 =>
      have H := HA.out
      clear HA
      simp only [laws_heldIntSS.l0] at H
      by_cases c3 : x5_1 < (l0.length : Int)
      · rw [if_pos c3] at H
        have c3b0 : decide (x5_1 < (l0.length : Int)) = true := decide_eq_true c3
        clear c3
        by_cases c4 : 0 ≤ x5_1
        · rw [if_pos c4] at H
          have c4b0 : decide (0 ≤ x5_1) = true := decide_eq_true c4
          clear c4
          replace H := Option.bind_eq_some_iff.mp H
          obtain ⟨t255, A50, H⟩ := H
          replace H : (if t255 < 0 then (some (-1)) else (laws_heldIntSS.l0 k1 l0 t255 (wrap64 (x5_1 + 1)))) = some r := H
          have A5 := Aside0.mk A50
          clear A50
          by_cases c6 : t255 < 0
          · rw [if_pos c6] at H
            have c6b0 : decide (t255 < 0) = true := decide_eq_true c6
            clear c6
            obtain rfl := Option.some.inj H
            have p254 : 0 ≤ (x5_1 : Int) := of_decide_eq_true (by first | (with_reducible assumption) | assumption)
            have q254 : x5_1 < (l0.length : Int) := of_decide_eq_true (by first | (with_reducible assumption) | assumption)
            obtain ⟨ad254, A254_0, c254_0, e254, hx254_0, hl254_0, hi254_0⟩ := at_L1 HR0.out x5_1 p254 q254
            cases e254
            have HR254_0 := Aside0.mk hi254_0
            have HC254_0 := Aside0.mk hl254_0
            clear hi254_0 hl254_0
            replace p254 := eq_true p254
            replace q254 := eq_true q254
            go_wp2_with (first | ((with_reducible refine gate_callee (f := 37) rfl ?_); refine goesL_ (some 17) rfl rfl Try.func37 (by kernel_rfl) rfl #[.slice A254_0 (rd_L1 l0 x5_1).length c254_0, .int .i64 x1_1] rfl (by (try simp only [List.map_toArray, List.map_cons, List.map_nil]); first | done | rfl | (simp only [List.length_drop, List.length_take]; rfl)) ?_; (with_reducible refine (laws_heldIntS.calls k1 _ _ (rd_L1 l0 x5_1) x1_1 t255 _ ?side1 ?side2 A5.out).mono ?_); (case side1 => repeat (first | exact HR254_0.out | (with_reducible refine Kd.C_alloc ?_ _) | (with_reducible refine Kd.C_drewN ?_ _) | (with_reducible refine Kd.C_drew ?_))); (case side2 => exact HC254_0.out); rintro e w' ⟨rfl, ⟨nd, rfl⟩⟩; refine ⟨_, rfl, ?_⟩))
            go_ret
            exact ⟨by first | rfl | (simp; done) | (simp [*]; done), by repeat (first | exact Drawn0.refl _ | apply Drawn0.step)⟩
          · rw [if_neg c6] at H
            have c6b0 : decide (t255 < 0) = false := decide_eq_false c6
            clear c6
            have H' := Aside0.mk H
            clear H
            have p254 : 0 ≤ (x5_1 : Int) := of_decide_eq_true (by first | (with_reducible assumption) | assumption)
            have q254 : x5_1 < (l0.length : Int) := of_decide_eq_true (by first | (with_reducible assumption) | assumption)
            obtain ⟨ad254, A254_0, c254_0, e254, hx254_0, hl254_0, hi254_0⟩ := at_L1 HR0.out x5_1 p254 q254
            cases e254
            have HR254_0 := Aside0.mk hi254_0
            have HC254_0 := Aside0.mk hl254_0
            clear hi254_0 hl254_0
            replace p254 := eq_true p254
            replace q254 := eq_true q254
            go_wp2_with (first | ((with_reducible refine gate_callee (f := 37) rfl ?_); refine goesL_ (some 17) rfl rfl Try.func37 (by kernel_rfl) rfl #[.slice A254_0 (rd_L1 l0 x5_1).length c254_0, .int .i64 x1_1] rfl (by (try simp only [List.map_toArray, List.map_cons, List.map_nil]); first | done | rfl | (simp only [List.length_drop, List.length_take]; rfl)) ?_; (with_reducible refine (laws_heldIntS.calls k1 _ _ (rd_L1 l0 x5_1) x1_1 t255 _ ?side1 ?side2 A5.out).mono ?_); (case side1 => repeat (first | exact HR254_0.out | (with_reducible refine Kd.C_alloc ?_ _) | (with_reducible refine Kd.C_drewN ?_ _) | (with_reducible refine Kd.C_drew ?_))); (case side2 => exact HC254_0.out); rintro e w' ⟨rfl, ⟨nd, rfl⟩⟩; refine ⟨_, rfl, ?_⟩))
            go_roundg k1
            case measure => have := HK1.out; omega
            case rel => exact ⟨(t255), (wrap64 (x5_1 + 1)), (by first | rfl | (simp; done) | (simp [*]; done)), (by first | rfl | (simp; done) | (simp [*]; done)), H', ⟨by have := HK1.out; omega⟩, by repeat (first | exact Drawn0.refl _ | apply Drawn0.step)⟩
        · rw [if_neg c4] at H
          exact absurd H (by simp)
      · rw [if_neg c3] at H
        have c3b0 : decide (x5_1 < (l0.length : Int)) = false := decide_eq_false c3
        clear c3
        obtain rfl := Option.some.inj H
        go_wp2
        go_ret
        exact ⟨by first | rfl | (simp; done) | (simp [*]; done), by repeat (first | exact Drawn0.refl _ | apply Drawn0.step)⟩

end Go.Proofs.Ytojcnapdalpnmaa.P

namespace Go.Proofs.Ytojcnapdalpnmaa.K
open Go.RowKit Go.Proofs.YtojcnapdalpnmaaW.PrintWords Go.Proofs.YtojcnapdalpnmaaW.PrintLast Go.Proofs.YtojcnapdalpnmaaW.PrintMore Go.Proofs.Ytojcnapdalpnmaa.P
theorem heldNIntSS (k : Nat) (A0 : Option Addr) (c0 n : Nat) (l0 : List (List Int)) (a1 : Int) (r : Int) (w : World) (hr0 : Kd.C (Kd.slice 3 (Kd.int .i64)) w A0 l0.length l0) (hc0 : n ≤ c0) (h : laws_heldIntSS.f k l0 a1 = some r) (hn : n = l0.length) :
    Calls Try.prog 30 #[.slice A0 n c0, .int .i64 a1] w fun e w' => e = .returned (.int .i64 r) ∧ Drawn0 w w' := by subst hn; exact laws_heldIntSS.calls k A0 c0 l0 a1 r w hr0 hc0 h
theorem heldNIntS (k : Nat) (A0 : Option Addr) (c0 n : Nat) (l0 : List Int) (a1 : Int) (r : Int) (w : World) (hr0 : Kd.C (Kd.int .i64) w A0 l0.length l0) (hc0 : n ≤ c0) (h : laws_heldIntS.f k l0 a1 = some r) (hn : n = l0.length) :
    Calls Try.prog 37 #[.slice A0 n c0, .int .i64 a1] w fun e w' => e = .returned (.int .i64 r) ∧ Drawn0 w w' := by subst hn; exact laws_heldIntS.calls k A0 c0 l0 a1 r w hr0 hc0 h
theorem heldNSwitchS (k : Nat) (A0 : Option Addr) (c0 n : Nat) (l0 : List S41) (a1 : Int) (r : Int) (w : World) (hr0 : Kd.C k41 w A0 l0.length l0) (hc0 : n ≤ c0) (h : laws_heldSwitchS.f k l0 a1 = some r) (hn : n = l0.length) :
    Calls Try.prog 45 #[.slice A0 n c0, .int .i64 a1] w fun e w' => e = .returned (.int .i64 r) ∧ Drawn0 w w' := by subst hn; exact laws_heldSwitchS.calls k A0 c0 l0 a1 r w hr0 hc0 h

end Go.Proofs.Ytojcnapdalpnmaa.K

namespace Go.Proofs.Ytojcnapdalpnmaa.P
open Go.RowKit Go.Proofs.YtojcnapdalpnmaaW.PrintWords Go.Proofs.YtojcnapdalpnmaaW.PrintLast Go.Proofs.YtojcnapdalpnmaaW.PrintMore
attribute [local go_sem] max2_int min2_int max_two min_two max_three min_three max_four min_four   -- for this text's walks alone
set_option linter.unusedVariables false
set_option linter.unusedSimpArgs false

/-! ### laws_markIntS: function 36 -/
def laws_markIntS.l0 : Nat → List Int → Int → Int → Option (Int × List Int)
  | 0, _, _, _ => none
  | k + 1, x0, x1, x5 => if x5 < (x0.length : Int) then (if 0 ≤ x5 then (laws_markIntS.l0 k (x0.set (x5 : Int).toNat x1) (wrap64 (x1 + 1)) (wrap64 (x5 + 1))) else (none)) else (some (x1, x0))
def laws_markIntS.f (k : Nat) (l0 : List Int) (a1 : Int) : Option (Int × List Int) := laws_markIntS.l0 k l0 a1 0
theorem laws_markIntS.mono_l : ∀ k, (∀ y0 y1 y2, LeO (laws_markIntS.l0 k y0 y1 y2) (laws_markIntS.l0 (k + 1) y0 y1 y2))
  | 0 => fun _ _ _ r h => by simp [laws_markIntS.l0] at h
  | k + 1 => by
    have ih0 := laws_markIntS.mono_l k
    · intro y0 y1 y2
      unfold laws_markIntS.l0
      repeat' first
      | (with_reducible exact ih0 _ _ _)
      | (with_reducible exact LeO.refl _)
      | (with_reducible exact LeO.none _)
      | (with_reducible refine LeO.ite ?_ ?_)
      | (with_reducible refine LeO.bind ?_ (fun _ => ?_))
      | exact ih0 _ _ _
      | exact LeO.none _
      | refine LeO.ite ?_ ?_
      | refine LeO.bind ?_ (fun _ => ?_)
theorem laws_markIntS.mono : ∀ a0 a1 k, LeO (laws_markIntS.f k a0 a1) (laws_markIntS.f (k + 1) a0 a1) := by
  intro a0 a1 k
  have ih0 := laws_markIntS.mono_l k
  unfold laws_markIntS.f
  repeat' first
      | (with_reducible exact ih0 _ _ _)
      | (with_reducible exact LeO.refl _)
      | (with_reducible exact LeO.none _)
      | (with_reducible refine LeO.ite ?_ ?_)
      | (with_reducible refine LeO.bind ?_ (fun _ => ?_))
      | exact ih0 _ _ _
      | exact LeO.none _
      | refine LeO.ite ?_ ?_
      | refine LeO.bind ?_ (fun _ => ?_)
set_option maxHeartbeats 8000000 in
set_option maxRecDepth 100000 in
theorem laws_markIntS.calls (k : Nat) (P0_ : Nat → Prop) (u9000_ : Value) (l0 : List Int) (a1 : Int) (r1 : Int) (r2 : List Int) (w0 w : World) (hB : Below w0.heap.size w0 w) (ho0 : Kd.R (Kd.int .i64) 3 w w0.heap.size P0_ u9000_ l0) (h : laws_markIntS.f k l0 a1 = some (r1, r2)) :
    Calls Try.prog 36 #[u9000_, .int .i64 a1] w fun e w' => e = .returned (.int .i64 r1) ∧ Kd.R (Kd.int .i64) 3 w' w0.heap.size (fun k_ => (P0_ k_ ∨ w.heap.size ≤ k_)) u9000_ r2 ∧ Below w0.heap.size w0 w' ∧ Kept w w' (fun k_ => P0_ k_) := by
  have HO0 := Aside0.mk (show Kd.R (Kd.int .i64) 3 w w0.heap.size (fun k_ => (P0_ k_ ∨ w.heap.size ≤ k_)) u9000_ l0 from Kd.R_mono ho0 (fun k_ hk => (.inl hk)))
  have HK := Aside0.mk (Kept.refl w (fun k_ => P0_ k_))
  have HW0 := Aside0.mk hB.size
  have HB := Aside0.mk hB
  clear hB
  have H : (laws_markIntS.l0 k l0 a1 0) = some (r1, r2) := h
  clear h
  have H' := Aside0.mk H
  clear H
  go_enter Try.func36, Try.ntmps36
  go_wp2
  go_loopg [1, 5] k (fun kq v1 v5 w' => ∃ (x0_1 : List Int) (x1_1 : Int) (x5_1 : Int), v1 = .int .i64 x1_1 ∧ v5 = .int .i64 x5_1 ∧ Aside0 (laws_markIntS.l0 kq x0_1 x1_1 x5_1 = some (r1, r2)) ∧ Aside0 (kq ≤ k) ∧ Aside0 (Kd.R (Kd.int .i64) 3 w' w0.heap.size (fun k_ => (P0_ k_ ∨ w.heap.size ≤ k_)) u9000_ x0_1) ∧ Aside0 (Kept w w' (fun k_ => P0_ k_)) ∧ Aside0 (Below w0.heap.size w0 w'))
  case atStart => exact ⟨(l0), (a1), (0), (by first | rfl | (simp; done) | (simp [*]; done)), (by first | rfl | (simp; done) | (simp [*]; done)), H', ⟨Nat.le_refl _⟩, ⟨by (with_reducible repeat (first | apply Kd.R_alloc | apply Kd.R_drewN | apply Kd.R_drew)); exact HO0.out⟩, ⟨by repeat (first | (with_reducible first | exact HK.out | apply Kept.alloc | apply Kept.drewN | apply Kept.drew) | exact HK.out)⟩, ⟨by repeat (first | (with_reducible first | exact HB.out | apply below_alloc | apply pw_below_drewN | apply below_drew1) | exact HB.out)⟩⟩
  case round =>
    clear H'
    try clear p2
    obtain ⟨x0_1, x1_1, x5_1, rfl, rfl, HA, HK1, HO_0, HK, HB⟩ := hrel
    cases gk with
    | zero => exact absurd HA.out (by simp [laws_markIntS.l0])
    | succ k1 =>
      have H := HA.out
      clear HA
      simp only [laws_markIntS.l0] at H
      by_cases c3 : x5_1 < (x0_1.length : Int)
      · rw [if_pos c3] at H
        have c3b0 : decide (x5_1 < (x0_1.length : Int)) = true := decide_eq_true c3
        clear c3
        by_cases c4 : 0 ≤ x5_1
        · rw [if_pos c4] at H
          have c4b0 : decide (0 ≤ x5_1) = true := decide_eq_true c4
          clear c4
          obtain ⟨y304, hy304⟩ : ∃ y_ : List Int, y_ = (x0_1.set (x5_1 : Int).toNat x1_1) := ⟨_, rfl⟩
          replace H : (laws_markIntS.l0 k1 y304 (wrap64 (x1_1 + 1)) (wrap64 (x5_1 + 1))) = some (r1, r2) := by first | (rw [hy304]; with_reducible exact H) | (have H2_ := (Option.bind_some _ _).symm.trans H; rw [hy304]; with_reducible exact H2_) | (have H2_ := (Option.bind_some _ _).symm.trans H; with_reducible exact H2_) | with_reducible exact H | (rw [hy304]; exact H) | exact H
          have Ny304 := Aside0.mk hy304
          clear hy304
          have H' := Aside0.mk H
          clear H
          obtain ⟨Ao6, co6, eo6⟩ := Kd.R_slice HO_0.out
          subst eo6
          have p5 : 0 ≤ (x5_1 : Int) := of_decide_eq_true (by first | (with_reducible assumption) | assumption)
          have q5 : (x5_1 : Int) < ((x0_1.length : Int) : Int) := of_decide_eq_true (by first | (with_reducible assumption) | assumption)
          obtain ⟨go5, co5, eo5, gb5, gl5, cl5, HG5⟩ := Kd.R_form HO_0.out (by omega)
          (first | cases eo5 | (injection eo5 with ea_ en_ ec_; (first | subst ea_ | (injection ea_ with ea_; subst ea_)); subst ec_; clear en_))
          have GB5 := Aside0.mk gb5
          have GG5 := Aside0.mk HG5
          clear gb5 gl5 HG5
          have HMgo5 := Aside0.mk (show (P0_ go5 ∨ w.heap.size ≤ go5) from (HO_0.out.1 _ rfl))
          obtain ⟨hx5_0, hf5_0⟩ := Kd.R_celln 0 HO_0.out (x5_1 : Int) p5 q5
          replace p5 := eq_true p5
          replace q5 := eq_true q5
          have HP7 := Kd.R_putg HO_0.out (x5_1 : Int) x1_1
          go_wp2_with (first | ((with_reducible refine gate_store (t := 3) (p := 15) rfl ?_); refine store_event (t := 3) (p := 15) (v := ?vo_w8) (w1 := (wr.setCell ⟨go5, (x5_1 : Int).toNat, none⟩ (.int .i64 x1_1))) ?hg ?ho ?hn ?hr ?_; (case ho => rfl); (case hg => rfl); (case hn => rfl); (case hr => first | (go_simp; done) | (go_simp; rfl)); intro w8 hw; have hg : wr.grownBy w8 (some go5) := (by rw [hw]; exact HP7.2); have hp_ : Kd.R (Kd.int .i64) 3 w8 w0.heap.size (fun k_ => (P0_ k_ ∨ w.heap.size ≤ k_)) (.slice (some ⟨go5, 0, none⟩) x0_1.length co6) y304 := (by rw [hw, Ny304.out]; exact HP7.1); clear HP7; have n0_ := Aside0.mk (hp_); have n1_ := Aside0.mk ((by rw [hw]; exact below_set (HB.out) GB5.out : Below w0.heap.size w0 w8)); have n2_ := Aside0.mk (Kept.of_grown (S := (fun k_ => P0_ k_)) hg (by repeat (first | (with_reducible first | exact HK.out | apply Kept.alloc | apply Kept.drewN | apply Kept.drew) | exact HK.out)) (fun k_ e_ => (HO_0.out.1 k_ e_))); clear HO_0; clear HB; clear HK; have HO_0 := n0_; have HB := n1_; have HK := n2_; clear n0_ n1_ n2_; clear hg hw hp_))
          go_roundg k1
          case measure => have := HK1.out; omega
          case rel => exact ⟨(y304), (wrap64 (x1_1 + 1)), (wrap64 (x5_1 + 1)), (by first | rfl | (simp; done) | (simp [*]; done)), (by first | rfl | (simp; done) | (simp [*]; done)), H', ⟨by have := HK1.out; omega⟩, ⟨by (with_reducible repeat (first | apply Kd.R_alloc | apply Kd.R_drewN | apply Kd.R_drew)); exact HO_0.out⟩, ⟨by repeat (first | (with_reducible first | exact HK.out | apply Kept.alloc | apply Kept.drewN | apply Kept.drew) | exact HK.out)⟩, ⟨by repeat (first | (with_reducible first | exact HB.out | apply below_alloc | apply pw_below_drewN | apply below_drew1) | exact HB.out)⟩⟩
        · rw [if_neg c4] at H
          exact absurd H (by simp)
      · rw [if_neg c3] at H
        have c3b0 : decide (x5_1 < (x0_1.length : Int)) = false := decide_eq_false c3
        clear c3
        simp only [Option.some.injEq, Prod.mk.injEq] at H
        obtain ⟨rfl, rfl⟩ := H
        obtain ⟨Ao9, co9, eo9⟩ := Kd.R_slice HO_0.out
        subst eo9
        go_wp2
        go_ret
        exact ⟨by first | rfl | (simp [errW_none, errW_some] <;> rfl) | (simp [*, errW_none, errW_some] <;> rfl), by (with_reducible repeat (first | apply Kd.R_alloc | apply Kd.R_drewN | apply Kd.R_drew)); exact HO_0.out, by repeat (first | (with_reducible first | exact HB.out | apply below_alloc | apply pw_below_drewN | apply below_drew1) | exact HB.out), by repeat (first | (with_reducible first | exact HK.out | apply Kept.alloc | apply Kept.drewN | apply Kept.drew) | exact HK.out)⟩

end Go.Proofs.Ytojcnapdalpnmaa.P

namespace Go.Proofs.Ytojcnapdalpnmaa.K
open Go.RowKit Go.Proofs.YtojcnapdalpnmaaW.PrintWords Go.Proofs.Ytojcnapdalpnmaa.P
set_option linter.unusedVariables false
set_option linter.unusedSimpArgs false

/-- a, a + 1, .. : n numbers. -/
def seqFrom (a : Int) : Nat → List Int
  | 0 => []
  | n + 1 => a :: seqFrom (a + 1) n
theorem seqFrom_length (a : Int) (n : Nat) : (seqFrom a n).length = n := by
  induction n generalizing a with
  | zero => rfl
  | succ n ih => simp [seqFrom, ih]
theorem markIntS_l0 : ∀ (rest done : List Int) (b : Int), (done ++ rest).length ≤ BM → 0 ≤ b → b + rest.length ≤ 4611686018427387904 → Ev (fun k => laws_markIntS.l0 k (done ++ rest) b done.length) (b + rest.length, done ++ seqFrom b rest.length) := by
  intro rest
  induction rest with
  | nil => intro done b h _ _; exact Ev.step (fun k => by simp [laws_markIntS.l0]; rfl) (Ev.some (by simp [seqFrom]))
  | cons x rest ih =>
    intro done b h hb0 hb
    obtain ⟨h1, h2, h3, h4, h5⟩ := mid x done rest h
    have ih' := ih (done ++ [b]) (b + 1) (by simpa using h) (by omega) (by simp at hb; omega)
    refine Ev.step (fun k => by rw [laws_markIntS.l0]) ?_
    have h6 : wrap64 (b + 1) = b + 1 := wrap_id (by omega) (by simp at hb; omega)
    simp only [if_pos h1, if_pos h2, h4, h6, set_mid]
    refine Ev.pair ?_ (show (b + 1 + (rest.length : Int), done ++ [b] ++ seqFrom (b + 1) rest.length) = _ by simp [seqFrom]; omega)
    simpa using ih'
theorem markIntS_f (l : List Int) (a : Int) (h : l.length ≤ BM) (h0 : 0 ≤ a) (ha : a + l.length ≤ 4611686018427387904) : Ev (fun k => laws_markIntS.f k l a) (a + l.length, seqFrom a l.length) := markIntS_l0 l [] a h h0 ha
theorem heldIntS_l0 : ∀ (n : Nat) (done : List Int) (b : Int), (done ++ seqFrom b n).length ≤ BM → 0 ≤ b → b + n ≤ 4611686018427387904 → Ev (fun k => laws_heldIntS.l0 k (done ++ seqFrom b n) b done.length) (b + n) := by
  intro n
  induction n with
  | zero => intro done b h _ _; exact Ev.step (fun k => by simp [laws_heldIntS.l0, seqFrom]; rfl) (Ev.some (by simp))
  | succ n ih =>
    intro done b h hb0 hb
    simp only [seqFrom] at h ⊢
    obtain ⟨h1, h2, h3, h4, h5⟩ := mid b done (seqFrom (b + 1) n) h
    have ih' := ih (done ++ [b]) (b + 1) (by simpa using h) (by omega) (by omega)
    rw [h5] at ih'
    refine Ev.step (fun k => by rw [laws_heldIntS.l0]) ?_
    have h6 : wrap64 (b + 1) = b + 1 := wrap_id (by omega) (by omega)
    simp only [if_pos h1, if_pos h2, h3, h4, h6, if_true]
    exact Ev.pair ih' (by omega)
theorem heldIntS_f (a : Int) (n : Nat) (h : n ≤ BM) (h0 : 0 ≤ a) (ha : a + n ≤ 4611686018427387904) : Ev (fun k => laws_heldIntS.f k (seqFrom a n) a) (a + n) := heldIntS_l0 n [] a (by simpa [seqFrom_length] using h) h0 ha

end Go.Proofs.Ytojcnapdalpnmaa.K

/- Walked by hand: laws.markIntSS, which writes into the rows of a slice of rows that it is handed. -/
namespace Go.Proofs.Ytojcnapdalpnmaa.P
open Go.RowKit Go.Proofs.YtojcnapdalpnmaaW.PrintWords Go.Proofs.YtojcnapdalpnmaaW.PrintLast Go.Proofs.YtojcnapdalpnmaaW.PrintMore Go.Proofs.Ytojcnapdalpnmaa.K
set_option linter.unusedVariables false
set_option linter.unusedSimpArgs false
theorem seqOf_eq (a : Int) (n : Nat) : seqOf a n = seqFrom a n := by
  induction n generalizing a with
  | zero => rfl
  | succ n ih => simp [seqOf, seqFrom, ih]
theorem seqOf_length (a : Int) (n : Nat) : (seqOf a n).length = n := by rw [seqOf_eq, seqFrom_length]
theorem hm_markIntS (P0_ : Nat → Prop) (u : Value) (l0 : List Int) (a1 : Int) (w0 w : World) (hl : l0.length ≤ 1048576) (h0 : 0 ≤ a1) (h1 : a1 ≤ 1099512676352) (hB : Below w0.heap.size w0 w) (ho0 : Kd.R (Kd.int .i64) 3 w w0.heap.size P0_ u l0) :
    Calls Try.prog 36 #[u, .int .i64 a1] w fun e w' => e = .returned (.int .i64 (a1 + l0.length)) ∧ Kd.R (Kd.int .i64) 3 w' w0.heap.size (fun k_ => some k_ = u.ownBlock) u (seqOf a1 l0.length) ∧ Below w0.heap.size w0 w' ∧ Kept w w' (fun k_ => some k_ = u.ownBlock) := by
  obtain ⟨k, hk⟩ := Ev.rounds (markIntS_f l0 a1 (by simp only [BM]; omega) h0 (by omega))
  refine (laws_markIntS.calls k (fun k_ => some k_ = u.ownBlock) u l0 a1 _ _ w0 w hB (Kd.R_tight rfl ho0) hk).mono ?_
  rintro e w' ⟨rfl, h2, h3, h4⟩
  exact ⟨rfl, by rw [seqOf_eq]; exact Kd.R_tight rfl h2, h3, h4⟩
set_option maxHeartbeats 400000 in
set_option maxRecDepth 100000 in
theorem laws_markIntSS.calls (P0_ : Nat → Prop) (u9000_ : Value) (l0 : List (List Int)) (a1 : Int) (r1 : Int) (r2 : List (List Int)) (w0 w : World) (hB : Below w0.heap.size w0 w) (ho0 : Kd.S (Kd.slice 3 (Kd.int .i64)) 33 w w0.heap.size P0_ u9000_ l0) (h : laws_markIntSS.f l0 a1 = some (r1, r2)) :
    Calls Try.prog 29 #[u9000_, .int .i64 a1] w fun e w' => e = .returned (.int .i64 r1) ∧ Kd.S (Kd.slice 3 (Kd.int .i64)) 33 w' w0.heap.size P0_ u9000_ r2 ∧ Below w0.heap.size w0 w' ∧ Kept w w' (fun k_ => P0_ k_) := by
  unfold laws_markIntSS.f at h
  split at h
  case isFalse => cases h
  rename_i hb
  have h := Option.some.inj h
  obtain ⟨hb0, hb1, hb2, hb3⟩ := hb
  obtain ⟨A, c, rfl, hlc, hC⟩ := Kd.S_reads ho0
  have HR := Aside0.mk h
  have HB := Aside0.mk hB
  have HS := Aside0.mk ho0
  have H3 := Aside0.mk hb3
  clear h hB ho0 hb3 hC
  go_enter Try.func29, Try.ntmps29
  go_wp2
  go_loopg [1, 5] l0.length (fun kq v1 v5 w' => ∃ (done rest md : List (List Int)) (b : Int), Aside0 (l0 = done ++ rest) ∧ v1 = .int .i64 b ∧ v5 = .int .i64 (done.length : Int) ∧ Aside0 (md.length = done.length) ∧ Aside0 (0 ≤ b ∧ b ≤ 1048576 + 1048576 * done.length) ∧ Aside0 (r1 = (seqRows b rest).1 ∧ r2 = md ++ (seqRows b rest).2) ∧ Aside0 (kq = rest.length) ∧ Aside0 (Kd.S (Kd.slice 3 (Kd.int .i64)) 33 w' w0.heap.size P0_ (.slice A l0.length c) (md ++ rest)) ∧ Aside0 (Below w0.heap.size w0 w') ∧ Aside0 (Kept w w' (fun k_ => P0_ k_)))
  case atStart => exact ⟨[], l0, [], a1, ⟨rfl⟩, rfl, rfl, ⟨rfl⟩, ⟨⟨hb0, by simp; omega⟩⟩, ⟨by rw [HR.out]; exact ⟨rfl, rfl⟩⟩, ⟨rfl⟩, ⟨HS.out⟩, ⟨HB.out⟩, ⟨Kept.refl _ _⟩⟩
  case round =>
    obtain ⟨done, rest, md, b, HE, rfl, rfl, HM, HBD, HRR, HK, HS1, HB1, HKP⟩ := hrel
    clear HS HB
    cases rest with
    | nil =>
      have hl : done.length = l0.length := by rw [HE.out]; simp
      have c4 : decide ((done.length : Int) < (l0.length : Int)) = false := by simp; omega
      have c5 : decide (done.length < l0.length) = false := by simp; omega
      clear hl
      go_wp2
      go_ret
      have e1 := HRR.out.1
      have e2 := HRR.out.2
      simp only [seqRows] at e1 e2
      subst e1 e2
      refine ⟨rfl, ?_, ?_, ?_⟩
      · repeat (first | exact HS1.out | (with_reducible refine Kd.S_drewN ?_ _) | (with_reducible refine Kd.S_drew ?_))
      · exact below_step HB1.out (by repeat (first | (with_reducible first | exact Below.refl _ _ | apply below_alloc | apply pw_below_drewN | apply below_drew1)))
      · exact HKP.out.below (by repeat (first | (with_reducible first | exact Below.refl _ _ | apply below_alloc | apply pw_below_drewN | apply below_drew1)))
    | cons x rest =>
      have hl : done.length < l0.length := by rw [HE.out]; simp
      cases A with
      | none =>
        exfalso
        have := (Kd.S_reads' HS1.out).2.2
        obtain ⟨_, _, h3⟩ := this
        obtain ⟨ad, h4, _⟩ := h3 (by simp only [List.length_append, List.length_cons]; omega)
        cases h4
      | some ad =>
      obtain ⟨g, rfl⟩ := Kd.R_head (Kd.S_R HS1.out)
      obtain ⟨oki, cs, hcl, hM, hcc, hfr, hok, hH⟩ := Kd.S_elem HS1.out ([] : List Int) (done.length : Int) (by omega) (by omega)
      obtain ⟨v, rfl, hv⟩ := hM
      have hx := hcc 0 v rfl
      simp only [Kd.slice, Nat.mul_one, Nat.add_zero, Int.toNat_natCast] at hx
      have hg : ((md ++ x :: rest).getD (done.length : Int).toNat []) = x := by rw [Int.toNat_natCast, ← HM.out]; simp
      rw [hg] at hv
      have HV := Aside0.mk hv
      have HH := Aside0.mk hH
      clear hv hH hcc hfr hg
      have HX : Aside0 (x.length ≤ 1048576) := ⟨H3.out x (by rw [HE.out]; simp)⟩
      have c4 : decide ((done.length : Int) < (l0.length : Int)) = true := by simp; omega
      have c5 : decide (done.length < l0.length) = true := by simp; omega
      have c6 : (done.length : Int) + 1 ≤ 9223372036854775807 := by omega
      have HB2 : Aside0 (b ≤ 1099512676352) := ⟨by have := HBD.out; omega⟩
      go_wp2_with (first | (go_at_call 36; (with_reducible refine (hm_markIntS oki v x b w0 _ HX.out HBD.out.1 HB2.out ?side1 ?side2).mono ?_); (case side1 => exact below_step HB1.out (by repeat (first | (with_reducible first | exact Below.refl _ _ | apply below_alloc | apply pw_below_drewN | apply below_drew1)))); (case side2 => repeat (first | exact HV.out | (with_reducible refine Kd.R_drewN ?_ _) | (with_reducible refine Kd.R_drew ?_))); rintro e w2 ⟨rfl, hq1, hq2, hq3⟩; have HQ1 := Aside0.mk hq1; have HQ2 := Aside0.mk hq2; have HQ3 := Aside0.mk hq3; clear hq1 hq2 hq3))
      go_roundg rest.length
      case measure => have := HK.out; simp at this; omega
      case rel =>
        have hset : (md ++ x :: rest).set (done.length : Int).toNat (seqOf b x.length) = (md ++ [seqOf b x.length]) ++ rest := by
          rw [Int.toNat_natCast, ← HM.out, List.set_append_right _ _ (Nat.le_refl _), Nat.sub_self]; simp
        have hS2 := Kd.H_back (Kd.H_step HH.out (fun k hk hn hlt => HQ3.out.2 k hlt (fun e => hn (HV.out.1 k e.symm)))) (x' := seqOf b x.length) (okp := fun k_ => some k_ = v.ownBlock) ⟨v, rfl, HQ1.out⟩ (fun k hk => HV.out.1 k hk.symm)
        rw [hset] at hS2
        have hK2 := HKP.out.then_ HQ3.out (fun k hk => .inl (hok k (HV.out.1 k hk.symm)).1)
        have hb := HBD.out
        have hx2 := HX.out
        have hm := HM.out
        have hr := HRR.out
        simp only [seqRows] at hr
        refine ⟨done ++ [x], rest, md ++ [seqOf b x.length], b + x.length, ⟨by rw [HE.out]; simp⟩, rfl, by simp, ⟨by simp [hm]⟩, ⟨⟨by omega, by rw [List.length_append, List.length_singleton]; omega⟩⟩, ⟨⟨hr.1, by rw [hr.2]; simp⟩⟩, ⟨rfl⟩, ⟨?_⟩, ⟨?_⟩, ⟨?_⟩⟩
        · repeat (first | exact hS2 | (with_reducible refine Kd.S_drewN ?_ _) | (with_reducible refine Kd.S_drew ?_))
        · exact below_step HQ2.out (by repeat (first | (with_reducible first | exact Below.refl _ _ | apply below_alloc | apply pw_below_drewN | apply below_drew1)))
        · exact hK2.below (by repeat (first | (with_reducible first | exact Below.refl _ _ | apply below_alloc | apply pw_below_drewN | apply below_drew1)))

end Go.Proofs.Ytojcnapdalpnmaa.P

/- Walked by hand (printed by a program of mine): the law FnExactGridSwitches: with what Good says of the functions that it calls, the call returns true. -/
namespace Go.Proofs.Ytojcnapdalpnmaa.P
open Go.RowKit Go.Proofs.YtojcnapdalpnmaaW.PrintWords Go.Proofs.YtojcnapdalpnmaaW.PrintLast Go.Proofs.YtojcnapdalpnmaaW.PrintMore
set_option linter.unusedVariables false
set_option linter.unusedSimpArgs false

set_option maxHeartbeats 2000000 in
set_option maxRecDepth 100000 in
theorem laws_FnExactGridSwitches.calls (A0 : Option Addr) (c0 : Nat) (l0 : List (List Int)) (rr : Bool) (w : World) (hr0 : Kd.C (Kd.slice 3 (Kd.int .i64)) w A0 l0.length l0) (hc0 : l0.length ≤ c0) (h : laws_FnExactGridSwitches.Good l0 rr) :
    Calls Try.prog 10 #[.slice A0 l0.length c0] w fun e w' => e = .returned (.bool rr) ∧ Below w.heap.size w w' := by
  obtain ⟨rfl, h⟩ := h
  have HR0 := Aside0.mk hr0
  have HC0 := Aside0.mk hc0
  have HB := Aside0.mk (Below.refl w.heap.size w)
  have HST : Aside0 (K.St w []) := ⟨trivial⟩
  clear hr0 hc0
  obtain ⟨n0, hsz0, h⟩ := h
  obtain ⟨k0_, hsz0⟩ := hsz0
  have HSZ0 := Aside0.mk hsz0
  clear hsz0
  rcases h with hneg | ⟨hpos0, h⟩
  · have b0 : decide (n0 < 0) = true := decide_eq_true hneg
    clear hneg
    go_enter Try.func10, Try.ntmps10
    go_wp2_with (first | (go_at_call 18; (with_reducible refine (laws_szIntSS.calls _ _ _ l0 _ _ _ ?c0 ?l0 HSZ0.out).mono ?_); (case c0 => first | exact Kd.C_below HR0.out (below_step HB.out (by repeat (first | (with_reducible first | exact Below.refl _ _ | apply below_alloc | apply pw_below_drewN | apply below_drew1)))) | exact K.St.readSS (HST.out.below (by repeat (first | (with_reducible first | exact Below.refl _ _ | apply below_alloc | apply pw_below_drewN | apply below_drew1)))) (by repeat (first | (with_reducible exact List.mem_cons_self) | apply List.mem_cons_of_mem)) | exact K.St.readF (HST.out.below (by repeat (first | (with_reducible first | exact Below.refl _ _ | apply below_alloc | apply pw_below_drewN | apply below_drew1)))) (by repeat (first | (with_reducible exact List.mem_cons_self) | apply List.mem_cons_of_mem))); (case l0 => first | exact HC0.out | exact K.St.sizeSS (HST.out.below (by repeat (first | (with_reducible first | exact Below.refl _ _ | apply below_alloc | apply pw_below_drewN | apply below_drew1)))) (by repeat (first | (with_reducible exact List.mem_cons_self) | apply List.mem_cons_of_mem)) | exact K.St.sizeF (HST.out.below (by repeat (first | (with_reducible first | exact Below.refl _ _ | apply below_alloc | apply pw_below_drewN | apply below_drew1)))) (by repeat (first | (with_reducible exact List.mem_cons_self) | apply List.mem_cons_of_mem))); rintro e w' ⟨rfl, ⟨nd, rfl⟩⟩))
    go_ret
    exact ⟨rfl, below_step HB.out (by repeat (first | (with_reducible first | exact Below.refl _ _ | apply below_alloc | apply pw_below_drewN | apply below_drew1)))⟩
  · have f0 : decide (n0 < 0) = false := decide_eq_false (by omega)
    clear hpos0
    obtain ⟨w0, w0', l0', wb, k0, m0, ⟨k_hto0, hto0⟩, ⟨k_hsp, hsp⟩, ⟨k_him, him⟩, ⟨k_hew0, hew0⟩, ⟨k_hel0, hel0⟩, hmk0, ⟨k_hmm0, hmm0⟩, ⟨k_hh0, hh0⟩, hkk, hp0, hlw0⟩ := h
    have HTO0 := Aside0.mk hto0
    have HSP := Aside0.mk hsp
    have HIM := Aside0.mk him
    have HEW0 := Aside0.mk hew0
    have HEL0 := Aside0.mk hel0
    have HMK0 := Aside0.mk hmk0
    have HMM0 := Aside0.mk hmm0
    have HH0 := Aside0.mk hh0
    have HLEN0 := Aside0.mk hlw0
    have b1 : decide (k0 < 0) = false := decide_eq_false (by omega)
    have b2_0 : decide (m0 < 0) = false := decide_eq_false (by omega)
    have b3 : (m0 != m0) = false := bne_self_eq_false _
    have b4 : (wb != wb) = false := bne_self_eq_false wb
    clear hto0 hsp him hew0 hel0 hmk0 hmm0 hh0 hkk hp0 hlw0
    go_enter Try.func10, Try.ntmps10
    go_wp2_with (first | (go_at_call 18; (with_reducible refine (laws_szIntSS.calls _ _ _ l0 _ _ _ ?c0 ?l0 HSZ0.out).mono ?_); (case c0 => first | exact Kd.C_below HR0.out (below_step HB.out (by repeat (first | (with_reducible first | exact Below.refl _ _ | apply below_alloc | apply pw_below_drewN | apply below_drew1)))) | exact K.St.readSS (HST.out.below (by repeat (first | (with_reducible first | exact Below.refl _ _ | apply below_alloc | apply pw_below_drewN | apply below_drew1)))) (by repeat (first | (with_reducible exact List.mem_cons_self) | apply List.mem_cons_of_mem)) | exact K.St.readF (HST.out.below (by repeat (first | (with_reducible first | exact Below.refl _ _ | apply below_alloc | apply pw_below_drewN | apply below_drew1)))) (by repeat (first | (with_reducible exact List.mem_cons_self) | apply List.mem_cons_of_mem))); (case l0 => first | exact HC0.out | exact K.St.sizeSS (HST.out.below (by repeat (first | (with_reducible first | exact Below.refl _ _ | apply below_alloc | apply pw_below_drewN | apply below_drew1)))) (by repeat (first | (with_reducible exact List.mem_cons_self) | apply List.mem_cons_of_mem)) | exact K.St.sizeF (HST.out.below (by repeat (first | (with_reducible first | exact Below.refl _ _ | apply below_alloc | apply pw_below_drewN | apply below_drew1)))) (by repeat (first | (with_reducible exact List.mem_cons_self) | apply List.mem_cons_of_mem))); rintro e w' ⟨rfl, ⟨nd, rfl⟩⟩) | (go_at_call 20; (with_reducible refine (laws_toIntSS.calls _ _ _ l0 _ _ ?c0 ?l0 HTO0.out).mono ?_); (case c0 => first | exact Kd.C_below HR0.out (below_step HB.out (by repeat (first | (with_reducible first | exact Below.refl _ _ | apply below_alloc | apply pw_below_drewN | apply below_drew1)))) | exact K.St.readSS (HST.out.below (by repeat (first | (with_reducible first | exact Below.refl _ _ | apply below_alloc | apply pw_below_drewN | apply below_drew1)))) (by repeat (first | (with_reducible exact List.mem_cons_self) | apply List.mem_cons_of_mem)) | exact K.St.readF (HST.out.below (by repeat (first | (with_reducible first | exact Below.refl _ _ | apply below_alloc | apply pw_below_drewN | apply below_drew1)))) (by repeat (first | (with_reducible exact List.mem_cons_self) | apply List.mem_cons_of_mem))); (case l0 => first | exact HC0.out | exact K.St.sizeSS (HST.out.below (by repeat (first | (with_reducible first | exact Below.refl _ _ | apply below_alloc | apply pw_below_drewN | apply below_drew1)))) (by repeat (first | (with_reducible exact List.mem_cons_self) | apply List.mem_cons_of_mem)) | exact K.St.sizeF (HST.out.below (by repeat (first | (with_reducible first | exact Below.refl _ _ | apply below_alloc | apply pw_below_drewN | apply below_drew1)))) (by repeat (first | (with_reducible exact List.mem_cons_self) | apply List.mem_cons_of_mem))); rintro e w' ⟨v0, rfl, hs0, hb⟩; obtain ⟨A0_, c0_, rfl, -, -⟩ := Kd.S_reads hs0; obtain ⟨S1_, n0_⟩ := K.St.pushSS (b := w.heap.size) (HST.out.below (by repeat (first | (with_reducible first | exact Below.refl _ _ | apply below_alloc | apply pw_below_drewN | apply below_drew1)))) hb (below_size (below_step HB.out (by repeat (first | (with_reducible first | exact Below.refl _ _ | apply below_alloc | apply pw_below_drewN | apply below_drew1))))) hs0; replace n0_ := Aside0.mk n0_; have n1_ := Aside0.mk (below_step (below_step HB.out (by repeat (first | (with_reducible first | exact Below.refl _ _ | apply below_alloc | apply pw_below_drewN | apply below_drew1)))) hb); clear HST HB hs0 hb; have HST := n0_; have HB := n1_; clear n0_ n1_) | (go_at_call 41; (with_reducible refine (spec_GridSwitches.calls _ _ _ l0 _ _ _ ?c0 ?l0 HSP.out).mono ?_); (case c0 => first | exact Kd.C_below HR0.out (below_step HB.out (by repeat (first | (with_reducible first | exact Below.refl _ _ | apply below_alloc | apply pw_below_drewN | apply below_drew1)))) | exact K.St.readSS (HST.out.below (by repeat (first | (with_reducible first | exact Below.refl _ _ | apply below_alloc | apply pw_below_drewN | apply below_drew1)))) (by repeat (first | (with_reducible exact List.mem_cons_self) | apply List.mem_cons_of_mem)) | exact K.St.readF (HST.out.below (by repeat (first | (with_reducible first | exact Below.refl _ _ | apply below_alloc | apply pw_below_drewN | apply below_drew1)))) (by repeat (first | (with_reducible exact List.mem_cons_self) | apply List.mem_cons_of_mem))); (case l0 => first | exact HC0.out | exact K.St.sizeSS (HST.out.below (by repeat (first | (with_reducible first | exact Below.refl _ _ | apply below_alloc | apply pw_below_drewN | apply below_drew1)))) (by repeat (first | (with_reducible exact List.mem_cons_self) | apply List.mem_cons_of_mem)) | exact K.St.sizeF (HST.out.below (by repeat (first | (with_reducible first | exact Below.refl _ _ | apply below_alloc | apply pw_below_drewN | apply below_drew1)))) (by repeat (first | (with_reducible exact List.mem_cons_self) | apply List.mem_cons_of_mem))); rintro e w' ⟨v0, rfl, hs0, hb⟩; obtain ⟨A0_, c0_, rfl, -, -⟩ := Kd.R_reads hs0; have n0_ := Aside0.mk (K.St.pushF (b := w.heap.size) (HST.out.below (by repeat (first | (with_reducible first | exact Below.refl _ _ | apply below_alloc | apply pw_below_drewN | apply below_drew1)))) hb rfl (below_size (below_step HB.out (by repeat (first | (with_reducible first | exact Below.refl _ _ | apply below_alloc | apply pw_below_drewN | apply below_drew1))))) hs0); have n1_ := Aside0.mk (below_step (below_step HB.out (by repeat (first | (with_reducible first | exact Below.refl _ _ | apply below_alloc | apply pw_below_drewN | apply below_drew1)))) hb); clear HST HB hs0 hb; have HST := n0_; have HB := n1_; clear n0_ n1_) | (go_at_call 42; (with_reducible refine (impl_GridSwitches.calls _ _ _ l0 _ _ _ ?c0 ?l0 HIM.out).mono ?_); (case c0 => first | exact Kd.C_below HR0.out (below_step HB.out (by repeat (first | (with_reducible first | exact Below.refl _ _ | apply below_alloc | apply pw_below_drewN | apply below_drew1)))) | exact K.St.readSS (HST.out.below (by repeat (first | (with_reducible first | exact Below.refl _ _ | apply below_alloc | apply pw_below_drewN | apply below_drew1)))) (by repeat (first | (with_reducible exact List.mem_cons_self) | apply List.mem_cons_of_mem)) | exact K.St.readF (HST.out.below (by repeat (first | (with_reducible first | exact Below.refl _ _ | apply below_alloc | apply pw_below_drewN | apply below_drew1)))) (by repeat (first | (with_reducible exact List.mem_cons_self) | apply List.mem_cons_of_mem))); (case l0 => first | exact HC0.out | exact K.St.sizeSS (HST.out.below (by repeat (first | (with_reducible first | exact Below.refl _ _ | apply below_alloc | apply pw_below_drewN | apply below_drew1)))) (by repeat (first | (with_reducible exact List.mem_cons_self) | apply List.mem_cons_of_mem)) | exact K.St.sizeF (HST.out.below (by repeat (first | (with_reducible first | exact Below.refl _ _ | apply below_alloc | apply pw_below_drewN | apply below_drew1)))) (by repeat (first | (with_reducible exact List.mem_cons_self) | apply List.mem_cons_of_mem))); rintro e w' ⟨v0, rfl, hs0, hb⟩; obtain ⟨A0_, c0_, rfl, -, -⟩ := Kd.R_reads hs0; have n0_ := Aside0.mk (K.St.pushF (b := w.heap.size) (HST.out.below (by repeat (first | (with_reducible first | exact Below.refl _ _ | apply below_alloc | apply pw_below_drewN | apply below_drew1)))) hb rfl (below_size (below_step HB.out (by repeat (first | (with_reducible first | exact Below.refl _ _ | apply below_alloc | apply pw_below_drewN | apply below_drew1))))) hs0); have n1_ := Aside0.mk (below_step (below_step HB.out (by repeat (first | (with_reducible first | exact Below.refl _ _ | apply below_alloc | apply pw_below_drewN | apply below_drew1)))) hb); clear HST HB hs0 hb; have HST := n0_; have HB := n1_; clear n0_ n1_) | (go_at_call 43; (with_reducible refine (laws_eqSwitchS.calls _ _ _ w0 _ _ w0 _ _ ?c0 ?l0 ?c1 ?l1 HEW0.out).mono ?_); (case c0 => first | exact Kd.C_below HR0.out (below_step HB.out (by repeat (first | (with_reducible first | exact Below.refl _ _ | apply below_alloc | apply pw_below_drewN | apply below_drew1)))) | exact K.St.readSS (HST.out.below (by repeat (first | (with_reducible first | exact Below.refl _ _ | apply below_alloc | apply pw_below_drewN | apply below_drew1)))) (by repeat (first | (with_reducible exact List.mem_cons_self) | apply List.mem_cons_of_mem)) | exact K.St.readF (HST.out.below (by repeat (first | (with_reducible first | exact Below.refl _ _ | apply below_alloc | apply pw_below_drewN | apply below_drew1)))) (by repeat (first | (with_reducible exact List.mem_cons_self) | apply List.mem_cons_of_mem))); (case l0 => first | exact HC0.out | exact K.St.sizeSS (HST.out.below (by repeat (first | (with_reducible first | exact Below.refl _ _ | apply below_alloc | apply pw_below_drewN | apply below_drew1)))) (by repeat (first | (with_reducible exact List.mem_cons_self) | apply List.mem_cons_of_mem)) | exact K.St.sizeF (HST.out.below (by repeat (first | (with_reducible first | exact Below.refl _ _ | apply below_alloc | apply pw_below_drewN | apply below_drew1)))) (by repeat (first | (with_reducible exact List.mem_cons_self) | apply List.mem_cons_of_mem))); (case c1 => first | exact Kd.C_below HR0.out (below_step HB.out (by repeat (first | (with_reducible first | exact Below.refl _ _ | apply below_alloc | apply pw_below_drewN | apply below_drew1)))) | exact K.St.readSS (HST.out.below (by repeat (first | (with_reducible first | exact Below.refl _ _ | apply below_alloc | apply pw_below_drewN | apply below_drew1)))) (by repeat (first | (with_reducible exact List.mem_cons_self) | apply List.mem_cons_of_mem)) | exact K.St.readF (HST.out.below (by repeat (first | (with_reducible first | exact Below.refl _ _ | apply below_alloc | apply pw_below_drewN | apply below_drew1)))) (by repeat (first | (with_reducible exact List.mem_cons_self) | apply List.mem_cons_of_mem))); (case l1 => first | exact HC0.out | exact K.St.sizeSS (HST.out.below (by repeat (first | (with_reducible first | exact Below.refl _ _ | apply below_alloc | apply pw_below_drewN | apply below_drew1)))) (by repeat (first | (with_reducible exact List.mem_cons_self) | apply List.mem_cons_of_mem)) | exact K.St.sizeF (HST.out.below (by repeat (first | (with_reducible first | exact Below.refl _ _ | apply below_alloc | apply pw_below_drewN | apply below_drew1)))) (by repeat (first | (with_reducible exact List.mem_cons_self) | apply List.mem_cons_of_mem))); rintro e w' ⟨rfl, hb⟩; have n0_ := Aside0.mk ((HST.out.below (by repeat (first | (with_reducible first | exact Below.refl _ _ | apply below_alloc | apply pw_below_drewN | apply below_drew1)))).below hb); have n1_ := Aside0.mk (below_step (below_step HB.out (by repeat (first | (with_reducible first | exact Below.refl _ _ | apply below_alloc | apply pw_below_drewN | apply below_drew1)))) hb); clear HST HB hb; have HST := n0_; have HB := n1_; clear n0_ n1_) | (go_at_call 22; (with_reducible refine (laws_eqIntSS.calls _ _ _ l0 _ _ l0 _ _ ?c0 ?l0 ?c1 ?l1 HEL0.out).mono ?_); (case c0 => first | exact Kd.C_below HR0.out (below_step HB.out (by repeat (first | (with_reducible first | exact Below.refl _ _ | apply below_alloc | apply pw_below_drewN | apply below_drew1)))) | exact K.St.readSS (HST.out.below (by repeat (first | (with_reducible first | exact Below.refl _ _ | apply below_alloc | apply pw_below_drewN | apply below_drew1)))) (by repeat (first | (with_reducible exact List.mem_cons_self) | apply List.mem_cons_of_mem)) | exact K.St.readF (HST.out.below (by repeat (first | (with_reducible first | exact Below.refl _ _ | apply below_alloc | apply pw_below_drewN | apply below_drew1)))) (by repeat (first | (with_reducible exact List.mem_cons_self) | apply List.mem_cons_of_mem))); (case l0 => first | exact HC0.out | exact K.St.sizeSS (HST.out.below (by repeat (first | (with_reducible first | exact Below.refl _ _ | apply below_alloc | apply pw_below_drewN | apply below_drew1)))) (by repeat (first | (with_reducible exact List.mem_cons_self) | apply List.mem_cons_of_mem)) | exact K.St.sizeF (HST.out.below (by repeat (first | (with_reducible first | exact Below.refl _ _ | apply below_alloc | apply pw_below_drewN | apply below_drew1)))) (by repeat (first | (with_reducible exact List.mem_cons_self) | apply List.mem_cons_of_mem))); (case c1 => first | exact Kd.C_below HR0.out (below_step HB.out (by repeat (first | (with_reducible first | exact Below.refl _ _ | apply below_alloc | apply pw_below_drewN | apply below_drew1)))) | exact K.St.readSS (HST.out.below (by repeat (first | (with_reducible first | exact Below.refl _ _ | apply below_alloc | apply pw_below_drewN | apply below_drew1)))) (by repeat (first | (with_reducible exact List.mem_cons_self) | apply List.mem_cons_of_mem)) | exact K.St.readF (HST.out.below (by repeat (first | (with_reducible first | exact Below.refl _ _ | apply below_alloc | apply pw_below_drewN | apply below_drew1)))) (by repeat (first | (with_reducible exact List.mem_cons_self) | apply List.mem_cons_of_mem))); (case l1 => first | exact HC0.out | exact K.St.sizeSS (HST.out.below (by repeat (first | (with_reducible first | exact Below.refl _ _ | apply below_alloc | apply pw_below_drewN | apply below_drew1)))) (by repeat (first | (with_reducible exact List.mem_cons_self) | apply List.mem_cons_of_mem)) | exact K.St.sizeF (HST.out.below (by repeat (first | (with_reducible first | exact Below.refl _ _ | apply below_alloc | apply pw_below_drewN | apply below_drew1)))) (by repeat (first | (with_reducible exact List.mem_cons_self) | apply List.mem_cons_of_mem))); rintro e w' ⟨rfl, ⟨nd, rfl⟩⟩) | (go_at_call 29; (with_reducible refine (laws_markIntSS.calls _ _ l0 _ _ _ w _ (below_step HB.out (by repeat (first | (with_reducible first | exact Below.refl _ _ | apply below_alloc | apply pw_below_drewN | apply below_drew1)))) (K.St.getSS (HST.out.below (by repeat (first | (with_reducible first | exact Below.refl _ _ | apply below_alloc | apply pw_below_drewN | apply below_drew1)))) (List.mem_cons_of_mem _ (List.mem_cons_of_mem _ List.mem_cons_self))) HMK0.out).mono ?_); rintro e w' ⟨rfl, hs, hb, hk⟩; have n0_ := (K.St.putSS [_, _] (HST.out.below (by repeat (first | (with_reducible first | exact Below.refl _ _ | apply below_alloc | apply pw_below_drewN | apply below_drew1)))) hk hs); simp only [List.cons_append, List.nil_append] at n0_; replace n0_ := Aside0.mk n0_; have n1_ := Aside0.mk hb; clear HST HB hs hb hk; have HST := n0_; have HB := n1_; clear n0_ n1_) | (go_at_call 44; (with_reducible refine (laws_markSwitchS.calls _ _ _ w0 _ _ _ w _ (below_step HB.out (by repeat (first | (with_reducible first | exact Below.refl _ _ | apply below_alloc | apply pw_below_drewN | apply below_drew1)))) (K.St.getF (HST.out.below (by repeat (first | (with_reducible first | exact Below.refl _ _ | apply below_alloc | apply pw_below_drewN | apply below_drew1)))) (List.mem_cons_of_mem _ List.mem_cons_self)) HMM0.out).mono ?_); rintro e w' ⟨rfl, hs, hb, hk⟩; have n0_ := (K.St.putF [_] (HST.out.below (by repeat (first | (with_reducible first | exact Below.refl _ _ | apply below_alloc | apply pw_below_drewN | apply below_drew1)))) rfl hk hs); simp only [List.cons_append, List.nil_append] at n0_; replace n0_ := Aside0.mk n0_; have n1_ := Aside0.mk hb; clear HST HB hs hb hk; have HST := n0_; have HB := n1_; clear n0_ n1_) | (go_at_call 45; (with_reducible refine (K.heldNSwitchS _ _ _ w0.length w0' _ _ _ ?c0 ?l0 HH0.out HLEN0.out.symm).mono ?_); (case c0 => first | exact Kd.C_below HR0.out (below_step HB.out (by repeat (first | (with_reducible first | exact Below.refl _ _ | apply below_alloc | apply pw_below_drewN | apply below_drew1)))) | exact K.St.readSS (HST.out.below (by repeat (first | (with_reducible first | exact Below.refl _ _ | apply below_alloc | apply pw_below_drewN | apply below_drew1)))) (by repeat (first | (with_reducible exact List.mem_cons_self) | apply List.mem_cons_of_mem)) | exact K.St.readF (HST.out.below (by repeat (first | (with_reducible first | exact Below.refl _ _ | apply below_alloc | apply pw_below_drewN | apply below_drew1)))) (by repeat (first | (with_reducible exact List.mem_cons_self) | apply List.mem_cons_of_mem))); (case l0 => first | exact HC0.out | exact K.St.sizeSS (HST.out.below (by repeat (first | (with_reducible first | exact Below.refl _ _ | apply below_alloc | apply pw_below_drewN | apply below_drew1)))) (by repeat (first | (with_reducible exact List.mem_cons_self) | apply List.mem_cons_of_mem)) | exact K.St.sizeF (HST.out.below (by repeat (first | (with_reducible first | exact Below.refl _ _ | apply below_alloc | apply pw_below_drewN | apply below_drew1)))) (by repeat (first | (with_reducible exact List.mem_cons_self) | apply List.mem_cons_of_mem))); rintro e w' ⟨rfl, ⟨nd, rfl⟩⟩))
    go_ret
    exact ⟨rfl, below_step HB.out (by repeat (first | (with_reducible first | exact Below.refl _ _ | apply below_alloc | apply pw_below_drewN | apply below_drew1)))⟩

end Go.Proofs.Ytojcnapdalpnmaa.P

namespace Go.Proofs.Ytojcnapdalpnmaa.K
open Go.RowKit Go.Proofs.YtojcnapdalpnmaaW.PrintWords Go.Proofs.Ytojcnapdalpnmaa.P
set_option linter.unusedVariables false
set_option linter.unusedSimpArgs false

/-- A loop over indices that carries a state, told as: what it goes on with answers for it. -/
theorem contLoop {σ α : Type} (g : σ → Nat → Nat → Option α) (n : Nat) (f : σ → Nat → σ) (I : σ → Nat → Prop)
    (hs : ∀ s j, j < n → I s j → I (f s j) (j + 1) ∧ ∀ x, Ev (g (f s j) (j + 1)) x → Ev (g s j) x) : ∀ d s j, j + d = n → I s j → I ((List.range' j d).foldl f s) n ∧ ∀ x, Ev (g ((List.range' j d).foldl f s) n) x → Ev (g s j) x := by
  intro d
  induction d with
  | zero =>
    intro s j hj hi
    obtain rfl : j = n := by omega
    exact ⟨hi, fun x h => h⟩
  | succ d ih =>
    intro s j hj hi
    obtain ⟨h1, h2⟩ := hs s j (by omega) hi
    obtain ⟨h3, h4⟩ := ih _ _ (by omega) h1
    rw [List.range'_succ, List.foldl_cons]
    exact ⟨h3, fun x h => h2 x (h4 x h)⟩
/-- The list, laid by four loops. -/
def sw3 {S : Type} (p : Nat → Nat → Nat → Nat → Bool) (mk : Nat → Nat → Nat → Nat → S) (n i k c : Nat) (s : List S) : List S := (List.range' (c + 1) (n - (c + 1))).foldl (fun s d => if p i k c d then s ++ [mk i k c d] else s) s
def sw2 {S : Type} (p : Nat → Nat → Nat → Nat → Bool) (mk : Nat → Nat → Nat → Nat → S) (n i k : Nat) (s : List S) : List S := (List.range' 0 n).foldl (fun s c => sw3 p mk n i k c s) s
def sw1 {S : Type} (p : Nat → Nat → Nat → Nat → Bool) (mk : Nat → Nat → Nat → Nat → S) (m n i : Nat) (s : List S) : List S := (List.range' (i + 1) (m - (i + 1))).foldl (fun s k => sw2 p mk n i k s) s
def sw0 {S : Type} (p : Nat → Nat → Nat → Nat → Bool) (mk : Nat → Nat → Nat → Nat → S) (m n : Nat) : List S := (List.range' 0 m).foldl (fun s i => sw1 p mk m n i s) []

/-- Four places make a switch. -/
def isSw (l : List (List Int)) (i k c d : Nat) : Bool :=
  let g := fun (a b : Nat) => rd (rd_L1 l (a : Int)) (b : Int)
  decide (g i c = g k d) && decide (g i d = g k c) && decide (g i c ≠ g i d)
theorem rd_mem {l : List (List Int)} {i : Nat} (h : i < l.length) : rd_L1 l (i : Int) ∈ l := by
  unfold rd_L1
  simp [List.getD_eq_getElem?_getD, List.getElem?_eq_getElem h]
theorem maIs_f {l : List (List Int)} (hg : gridB l = true) {i k c d : Nat} (h1 : i < k) (h2 : k < l.length) (h3 : c < d) (h4 : d < (rd_L1 l 0).length) : spec_maIs.f l i k c d = some (isSw l i k c d) := by
  unfold spec_maIs.f
  rw [if_pos hg]
  have e : swIn l i k c d = true := by simp only [swIn, decide_eq_true_eq]; omega
  simp only [swB, e, Bool.true_and, swAt, isSw]
theorem isSwitch_f {l : List (List Int)} (hg : gridB l = true) {i k c d : Nat} (h1 : i < k) (h2 : k < l.length) (h3 : c < d) (h4 : d < (rd_L1 l 0).length) : impl_isSwitch.f l i k c d = some (isSw l i k c d) := by
  unfold impl_isSwitch.f
  rw [if_pos hg]
  have e : swIn l i k c d = true := by simp only [swIn, decide_eq_true_eq]; omega
  simp only [swB, e, Bool.true_and, swAt, isSw]
def mkSw (i k c d : Nat) : S41 := ⟨i, k, c, d⟩
def sws (l : List (List Int)) : List S41 := sw0 (isSw l) mkSw l.length (rd_L1 l 0).length

theorem maSwitches_f {l : List (List Int)} (hg : gridB l = true) : Ev (fun k => spec_maSwitches.f k l) (sws l) := by
  obtain ⟨g1, g2, g3, g4, -⟩ := grid_get hg
  have p0 : 0 < (l.length : Int) := by omega
  unfold spec_maSwitches.f
  have L3 : ∀ (i k c : Nat) (B : Nat) (x25 : Int), i < k → k < l.length → c < (rd_L1 l 0).length → B ≤ 4096 → ∀ s : List S41, s.length ≤ B → (sw3 (isSw l) mkSw (rd_L1 l 0).length i k c s).length ≤ B + 6 ∧ ∀ x, Ev (fun n => spec_maSwitches.l2 n l (sw3 (isSw l) mkSw (rd_L1 l 0).length i k c s) i k (l.length : Int) i x25 ((c + 1 : Nat) : Int)) x → Ev (fun n => spec_maSwitches.l3 n l s i k c ((c + 1 : Nat) : Int) (l.length : Int) i x25 c) x := by
    intro i k c B x25 hik hk hc hB s hs
    obtain ⟨h1, h2⟩ := contLoop (fun s j n => spec_maSwitches.l3 n l s i k c (j : Int) (l.length : Int) i x25 c) (rd_L1 l 0).length (fun s d => if isSw l i k c d then s ++ [mkSw i k c d] else s) (fun s j => s.length ≤ B + j ∧ c < j)
      (fun s j hj hi => by
        have q : (j : Int) < ((rd_L1 l 0).length : Int) := by omega
        have hi' : s.length ≤ B + j := hi.1
        have hj' : c < j := hi.2
        refine ⟨⟨by split <;> (first | (simp only [List.length_append, List.length_cons, List.length_nil]; omega) | omega), by omega⟩, fun x hx => Ev.step (fun n => by rw [spec_maSwitches.l3]) ?_⟩
        simp only [if_pos p0, if_pos q, maIs_f hg hik hk hi.2 hj, Option.bind_some, wrap_nat j (by omega)]
        cases hb : isSw l i k c j with
        | true =>
          have q2 : s.length < 4398046511104 := by omega
          simp only [hb, if_true] at hx
          simpa only [if_true, if_pos q2, mkSw] using hx
        | false =>
          simp only [hb, Bool.false_eq_true, if_false] at hx
          simpa only [Bool.false_eq_true, if_false] using hx) ((rd_L1 l 0).length - (c + 1)) s (c + 1) (by omega) ⟨by omega, by omega⟩
    refine ⟨by have := h1.1; unfold sw3; omega, fun x hx => h2 x (Ev.step (fun n => by rw [spec_maSwitches.l3]) ?_)⟩
    have q : ¬ ((rd_L1 l 0).length : Int) < ((rd_L1 l 0).length : Int) := by omega
    simp only [if_pos p0, if_neg q, wrap_nat c (by omega)]
    exact hx
  have L2 : ∀ (i k : Nat) (B : Nat), i < k → k < l.length → B ≤ 2048 → ∀ s : List S41, s.length ≤ B → (sw2 (isSw l) mkSw (rd_L1 l 0).length i k s).length ≤ B + 36 ∧ ∀ x, Ev (fun n => spec_maSwitches.l1 n l (sw2 (isSw l) mkSw (rd_L1 l 0).length i k s) i ((k + 1 : Nat) : Int) (l.length : Int) i) x → Ev (fun n => spec_maSwitches.l1 n l s i k (l.length : Int) i) x := by
    intro i k B hik hk hB s hs
    obtain ⟨h1, h2⟩ := contLoop (fun s j n => spec_maSwitches.l2 n l s i k (l.length : Int) i ((rd_L1 l 0).length : Int) (j : Int)) (rd_L1 l 0).length (fun s c => sw3 (isSw l) mkSw (rd_L1 l 0).length i k c s) (fun s j => s.length ≤ B + 6 * j)
      (fun s j hj hi => by
        have q : (j : Int) < ((rd_L1 l 0).length : Int) := by omega
        obtain ⟨h3, h4⟩ := L3 i k j (B + 6 * j) ((rd_L1 l 0).length : Int) hik hk hj (by omega) s hi
        refine ⟨by omega, fun x hx => Ev.step (fun n => by rw [spec_maSwitches.l2]) ?_⟩
        simp only [if_pos q, wrap_nat j (by omega)]
        exact h4 x hx) (rd_L1 l 0).length s 0 (by omega) (by omega)
    refine ⟨by unfold sw2; omega, fun x hx => Ev.step (fun n => by rw [spec_maSwitches.l1]) ?_⟩
    have q : (k : Int) < (l.length : Int) := by omega
    simp only [if_pos p0, if_pos q]
    refine h2 x (Ev.step (fun n => by rw [spec_maSwitches.l2]) ?_)
    have q : ¬ ((rd_L1 l 0).length : Int) < ((rd_L1 l 0).length : Int) := by omega
    simp only [if_neg q, wrap_nat k (by omega)]
    exact hx
  have L1 : ∀ (i : Nat) (B : Nat), i < l.length → B ≤ 1500 → ∀ s : List S41, s.length ≤ B → (sw1 (isSw l) mkSw l.length (rd_L1 l 0).length i s).length ≤ B + 216 ∧ ∀ x, Ev (fun n => spec_maSwitches.l0 n l (sw1 (isSw l) mkSw l.length (rd_L1 l 0).length i s) (l.length : Int) ((i + 1 : Nat) : Int)) x → Ev (fun n => spec_maSwitches.l0 n l s (l.length : Int) i) x := by
    intro i B hik hB s hs
    obtain ⟨h1, h2⟩ := contLoop (fun s j n => spec_maSwitches.l1 n l s i (j : Int) (l.length : Int) i) l.length (fun s k => sw2 (isSw l) mkSw (rd_L1 l 0).length i k s) (fun s j => s.length ≤ B + 36 * j ∧ i < j)
      (fun s j hj hi => by
        obtain ⟨h3, h4⟩ := L2 i j (B + 36 * j) hi.2 hj (by omega) s hi.1
        exact ⟨⟨by omega, by omega⟩, h4⟩) (l.length - (i + 1)) s (i + 1) (by omega) ⟨by omega, by omega⟩
    refine ⟨by have := h1.1; unfold sw1; omega, fun x hx => Ev.step (fun n => by rw [spec_maSwitches.l0]) ?_⟩
    have q : (i : Int) < (l.length : Int) := by omega
    simp only [if_pos q, wrap_nat i (by omega)]
    refine h2 x (Ev.step (fun n => by rw [spec_maSwitches.l1]) ?_)
    have q : ¬ (l.length : Int) < (l.length : Int) := by omega
    simp only [if_neg q, wrap_nat i (by omega)]
    exact hx
  obtain ⟨h1, h2⟩ := contLoop (fun s j n => spec_maSwitches.l0 n l s (l.length : Int) (j : Int)) l.length (fun s i => sw1 (isSw l) mkSw l.length (rd_L1 l 0).length i s) (fun s j => s.length ≤ 216 * j)
    (fun s j hj hi => by
      obtain ⟨h3, h4⟩ := L1 j (216 * j) hj (by omega) s hi
      exact ⟨by omega, h4⟩) l.length [] 0 (by omega) (by simp)
  refine h2 _ (Ev.step (fun n => by rw [spec_maSwitches.l0]) ?_)
  have q : ¬ (l.length : Int) < (l.length : Int) := by omega
  simp only [if_neg q]
  exact Ev.now _

theorem switches_f {l : List (List Int)} (hg : gridB l = true) : Ev (fun k => impl_switches.f k l) (sws l) := by
  obtain ⟨g1, g2, g3, g4, -⟩ := grid_get hg
  have p0 : 0 < (l.length : Int) := by omega
  unfold impl_switches.f
  have L3 : ∀ (i k c : Nat) (B : Nat) (x25 : Int), i < k → k < l.length → c < (rd_L1 l 0).length → B ≤ 4096 → ∀ s : List S41, s.length ≤ B → (sw3 (isSw l) mkSw (rd_L1 l 0).length i k c s).length ≤ B + 6 ∧ ∀ x, Ev (fun n => impl_switches.l2 n l (sw3 (isSw l) mkSw (rd_L1 l 0).length i k c s) i k (l.length : Int) i x25 ((c + 1 : Nat) : Int)) x → Ev (fun n => impl_switches.l3 n l s i k c ((c + 1 : Nat) : Int) (l.length : Int) i x25 c) x := by
    intro i k c B x25 hik hk hc hB s hs
    obtain ⟨h1, h2⟩ := contLoop (fun s j n => impl_switches.l3 n l s i k c (j : Int) (l.length : Int) i x25 c) (rd_L1 l 0).length (fun s d => if isSw l i k c d then s ++ [mkSw i k c d] else s) (fun s j => s.length ≤ B + j ∧ c < j)
      (fun s j hj hi => by
        have q : (j : Int) < ((rd_L1 l 0).length : Int) := by omega
        have hi' : s.length ≤ B + j := hi.1
        have hj' : c < j := hi.2
        refine ⟨⟨by split <;> (first | (simp only [List.length_append, List.length_cons, List.length_nil]; omega) | omega), by omega⟩, fun x hx => Ev.step (fun n => by rw [impl_switches.l3]) ?_⟩
        simp only [if_pos p0, if_pos q, isSwitch_f hg hik hk hi.2 hj, Option.bind_some, wrap_nat j (by omega)]
        cases hb : isSw l i k c j with
        | true =>
          have q2 : s.length < 4398046511104 := by omega
          simp only [hb, if_true] at hx
          simpa only [if_true, if_pos q2, mkSw] using hx
        | false =>
          simp only [hb, Bool.false_eq_true, if_false] at hx
          simpa only [Bool.false_eq_true, if_false] using hx) ((rd_L1 l 0).length - (c + 1)) s (c + 1) (by omega) ⟨by omega, by omega⟩
    refine ⟨by have := h1.1; unfold sw3; omega, fun x hx => h2 x (Ev.step (fun n => by rw [impl_switches.l3]) ?_)⟩
    have q : ¬ ((rd_L1 l 0).length : Int) < ((rd_L1 l 0).length : Int) := by omega
    simp only [if_pos p0, if_neg q, wrap_nat c (by omega)]
    exact hx
  have L2 : ∀ (i k : Nat) (B : Nat), i < k → k < l.length → B ≤ 2048 → ∀ s : List S41, s.length ≤ B → (sw2 (isSw l) mkSw (rd_L1 l 0).length i k s).length ≤ B + 36 ∧ ∀ x, Ev (fun n => impl_switches.l1 n l (sw2 (isSw l) mkSw (rd_L1 l 0).length i k s) i ((k + 1 : Nat) : Int) (l.length : Int) i) x → Ev (fun n => impl_switches.l1 n l s i k (l.length : Int) i) x := by
    intro i k B hik hk hB s hs
    obtain ⟨h1, h2⟩ := contLoop (fun s j n => impl_switches.l2 n l s i k (l.length : Int) i ((rd_L1 l 0).length : Int) (j : Int)) (rd_L1 l 0).length (fun s c => sw3 (isSw l) mkSw (rd_L1 l 0).length i k c s) (fun s j => s.length ≤ B + 6 * j)
      (fun s j hj hi => by
        have q : (j : Int) < ((rd_L1 l 0).length : Int) := by omega
        obtain ⟨h3, h4⟩ := L3 i k j (B + 6 * j) ((rd_L1 l 0).length : Int) hik hk hj (by omega) s hi
        refine ⟨by omega, fun x hx => Ev.step (fun n => by rw [impl_switches.l2]) ?_⟩
        simp only [if_pos q, wrap_nat j (by omega)]
        exact h4 x hx) (rd_L1 l 0).length s 0 (by omega) (by omega)
    refine ⟨by unfold sw2; omega, fun x hx => Ev.step (fun n => by rw [impl_switches.l1]) ?_⟩
    have q : (k : Int) < (l.length : Int) := by omega
    simp only [if_pos p0, if_pos q]
    refine h2 x (Ev.step (fun n => by rw [impl_switches.l2]) ?_)
    have q : ¬ ((rd_L1 l 0).length : Int) < ((rd_L1 l 0).length : Int) := by omega
    simp only [if_neg q, wrap_nat k (by omega)]
    exact hx
  have L1 : ∀ (i : Nat) (B : Nat), i < l.length → B ≤ 1500 → ∀ s : List S41, s.length ≤ B → (sw1 (isSw l) mkSw l.length (rd_L1 l 0).length i s).length ≤ B + 216 ∧ ∀ x, Ev (fun n => impl_switches.l0 n l (sw1 (isSw l) mkSw l.length (rd_L1 l 0).length i s) (l.length : Int) ((i + 1 : Nat) : Int)) x → Ev (fun n => impl_switches.l0 n l s (l.length : Int) i) x := by
    intro i B hik hB s hs
    obtain ⟨h1, h2⟩ := contLoop (fun s j n => impl_switches.l1 n l s i (j : Int) (l.length : Int) i) l.length (fun s k => sw2 (isSw l) mkSw (rd_L1 l 0).length i k s) (fun s j => s.length ≤ B + 36 * j ∧ i < j)
      (fun s j hj hi => by
        obtain ⟨h3, h4⟩ := L2 i j (B + 36 * j) hi.2 hj (by omega) s hi.1
        exact ⟨⟨by omega, by omega⟩, h4⟩) (l.length - (i + 1)) s (i + 1) (by omega) ⟨by omega, by omega⟩
    refine ⟨by have := h1.1; unfold sw1; omega, fun x hx => Ev.step (fun n => by rw [impl_switches.l0]) ?_⟩
    have q : (i : Int) < (l.length : Int) := by omega
    simp only [if_pos q, wrap_nat i (by omega)]
    refine h2 x (Ev.step (fun n => by rw [impl_switches.l1]) ?_)
    have q : ¬ (l.length : Int) < (l.length : Int) := by omega
    simp only [if_neg q, wrap_nat i (by omega)]
    exact hx
  obtain ⟨h1, h2⟩ := contLoop (fun s j n => impl_switches.l0 n l s (l.length : Int) (j : Int)) l.length (fun s i => sw1 (isSw l) mkSw l.length (rd_L1 l 0).length i s) (fun s j => s.length ≤ 216 * j)
    (fun s j hj hi => by
      obtain ⟨h3, h4⟩ := L1 j (216 * j) hj (by omega) s hi
      exact ⟨by omega, h4⟩) l.length [] 0 (by omega) (by simp)
  refine h2 _ (Ev.step (fun n => by rw [impl_switches.l0]) ?_)
  have q : ¬ (l.length : Int) < (l.length : Int) := by omega
  simp only [if_neg q]
  exact Ev.now _

end Go.Proofs.Ytojcnapdalpnmaa.K

namespace Go.Proofs.Ytojcnapdalpnmaa.K
open Go.RowKit Go.Proofs.YtojcnapdalpnmaaW.PrintWords Go.Proofs.Ytojcnapdalpnmaa.P
set_option linter.unusedVariables false
set_option linter.unusedSimpArgs false
theorem fold_le {S : Type} (f : List S → Nat → List S) (c : Nat) : ∀ (L : List Nat) (s : List S), (∀ s, ∀ j ∈ L, (f s j).length ≤ s.length + c) → (L.foldl f s).length ≤ s.length + c * L.length
  | [], s, _ => by simp
  | j :: L, s, h => by
    have h1 := h s j (by simp)
    have h2 := fold_le f c L (f s j) (fun s j hj => h s j (by simp [hj]))
    simp only [List.foldl_cons, List.length_cons, Nat.mul_add, Nat.mul_one]
    omega
theorem sws_le {l : List (List Int)} (hg : gridB l = true) : (sws l).length ≤ 1296 := by
  obtain ⟨g1, g2, g3, g4, g5⟩ := grid_get hg
  generalize hn : (rd_L1 l 0).length = n at *
  have L3 : ∀ i k c (s : List S41), (sw3 (isSw l) mkSw n i k c s).length ≤ s.length + 6 := fun i k c s => by
    have := fold_le (fun s d => if isSw l i k c d then s ++ [mkSw i k c d] else s) 1 (List.range' (c + 1) (n - (c + 1))) s (fun s j _ => by split <;> simp)
    unfold sw3; simp only [List.length_range', Nat.one_mul] at this; omega
  have L2 : ∀ i k (s : List S41), (sw2 (isSw l) mkSw n i k s).length ≤ s.length + 36 := fun i k s => by
    have := fold_le (fun s c => sw3 (isSw l) mkSw n i k c s) 6 (List.range' 0 n) s (fun s j _ => L3 i k j s)
    unfold sw2; simp only [List.length_range'] at this; omega
  have L1 : ∀ i (s : List S41), (sw1 (isSw l) mkSw l.length n i s).length ≤ s.length + 216 := fun i s => by
    have := fold_le (fun s k => sw2 (isSw l) mkSw n i k s) 36 (List.range' (i + 1) (l.length - (i + 1))) s (fun s j _ => L2 i j s)
    unfold sw1; simp only [List.length_range'] at this; omega
  have := fold_le (fun s i => sw1 (isSw l) mkSw l.length n i s) 216 (List.range' 0 l.length) [] (fun s j _ => L1 j s)
  unfold sws sw0; rw [hn]; simp only [List.length_range', List.length_nil] at this; omega
theorem GridSwitches_ans (l0 : List (List Int)) (h0 : l0.length ≤ 1048576 ∧ ∀ r ∈ l0, r.length ≤ 1048576) :
    ∃ (w0 : List S41) (wb : Bool), Ev (fun k => spec_GridSwitches.f k l0) (w0, wb) ∧ Ev (fun k => impl_GridSwitches.f k l0) (w0, wb) ∧ w0.length ≤ 1048576 := by
  have h4 : l0.length ≤ BM := by have := h0.1; simp only [BM]; omega
  have h5 : ∀ r ∈ l0, r.length ≤ BM := fun x hx => by have := h0.2 x hx; simp only [BM]; omega
  by_cases hg : gridB l0 = true
  · refine ⟨sws l0, true, ?_, ?_, by have := sws_le hg; omega⟩
    · unfold spec_GridSwitches.f
      refine Ev.bind (maGrid_f l0 h4 h5) ?_
      simp only [if_pos hg]
      exact Ev.bind (maSwitches_f hg) (Ev.now _)
    · unfold impl_GridSwitches.f
      simp only [IsGrid_f l0 h4 h5, Option.bind_some, if_pos hg]
      exact Ev.bind (switches_f hg) (Ev.now _)
  · refine ⟨[], false, ?_, ?_, by simp⟩
    · unfold spec_GridSwitches.f
      refine Ev.bind (maGrid_f l0 h4 h5) ?_
      simp only [if_neg hg]
      exact Ev.now _
    · unfold impl_GridSwitches.f
      simp only [IsGrid_f l0 h4 h5, Option.bind_some, if_neg hg]
      exact Ev.now _

end Go.Proofs.Ytojcnapdalpnmaa.K

namespace Go.Proofs.Ytojcnapdalpnmaa.K
open Go.RowKit Go.Proofs.YtojcnapdalpnmaaW.PrintWords Go.Proofs.Ytojcnapdalpnmaa.P
set_option linter.unusedVariables false
set_option linter.unusedSimpArgs false

theorem seqOf_from (a : Int) (n : Nat) : seqOf a n = seqFrom a n := by
  induction n generalizing a with
  | zero => rfl
  | succ n ih => simp [seqOf, seqFrom, ih]
theorem seqRows_length (a : Int) (l : List (List Int)) : (seqRows a l).2.length = l.length := by
  induction l generalizing a with
  | nil => rfl
  | cons r l ih => simp [seqRows, ih]
theorem seqRows_le (a : Int) (l : List (List Int)) : a ≤ (seqRows a l).1 := by
  induction l generalizing a with
  | nil => simp [seqRows]
  | cons r l ih => have := ih (a + r.length); simp only [seqRows]; omega
theorem markSS_f (l : List (List Int)) (h : l.length ≤ 1048576) (hr : ∀ r ∈ l, r.length ≤ 1048576) : laws_markIntSS.f l 1 = some (seqRows 1 l) := by
  unfold laws_markIntSS.f
  rw [if_pos ⟨by omega, by omega, h, hr⟩]
theorem markSS_f' (l : List (List Int)) (a : Int) (h0 : 0 ≤ a) (h1 : a ≤ 1048576) (h : l.length ≤ 1048576) (hr : ∀ r ∈ l, r.length ≤ 1048576) : laws_markIntSS.f l a = some (seqRows a l) := by
  unfold laws_markIntSS.f
  rw [if_pos ⟨h0, h1, h, hr⟩]
theorem heldSS_l0 : ∀ (rest : List (List Int)) (done : List (List Int)) (b : Int), (done ++ (seqRows b rest).2).length ≤ 1048576 → (∀ r ∈ rest, r.length ≤ 1048576) → 0 ≤ b → b ≤ 1048576 + 1048576 * done.length → Ev (fun k => laws_heldIntSS.l0 k (done ++ (seqRows b rest).2) b done.length) (seqRows b rest).1 := by
  intro rest
  induction rest with
  | nil => intro done b h _ _ _; exact Ev.step (fun k => by simp [laws_heldIntSS.l0, seqRows]; rfl) (Ev.some (by simp [seqRows]))
  | cons x rest ih =>
    intro done b h hr h0 hb
    simp only [seqRows] at h ⊢
    have hx := hr x (by simp)
    have hlen : (done ++ seqOf b x.length :: (seqRows (b + x.length) rest).2).length = done.length + 1 + rest.length := by simp [seqRows_length]; omega
    have ih' := ih (done ++ [seqOf b x.length]) (b + x.length) (by simpa using h) (fun r h => hr r (by simp [h])) (by omega) (by rw [List.length_append, List.length_singleton]; omega)
    have h1 : (done.length : Int) < ((done ++ seqOf b x.length :: (seqRows (b + x.length) rest).2).length : Int) := by omega
    have h2 : 0 ≤ (done.length : Int) := by omega
    have h3 : rd_L1 (done ++ seqOf b x.length :: (seqRows (b + x.length) rest).2) (done.length : Int) = seqOf b x.length := by simp [rd_L1]
    have h4 : wrap64 ((done.length : Int) + 1) = ((done ++ [seqOf b x.length]).length : Int) := by rw [wrap_nat _ (by omega)]; simp
    refine Ev.step (fun k => by rw [laws_heldIntSS.l0]) ?_
    simp only [if_pos h1, if_pos h2, h3, h4]
    have hd : Ev (fun k => laws_heldIntS.f k (seqOf b x.length) b) (b + x.length) := by rw [seqOf_from]; exact heldIntS_f b x.length (by simp only [BM]; omega) h0 (by omega)
    refine Ev.bind hd ?_
    have h5 : ¬ (b + (x.length : Int) < 0) := by omega
    simp only [if_neg h5]
    simpa using ih'
theorem heldSS_f (l : List (List Int)) (h : l.length ≤ 1048576) (hr : ∀ r ∈ l, r.length ≤ 1048576) : Ev (fun k => laws_heldIntSS.f k (seqRows 1 l).2 1) (seqRows 1 l).1 := by
  unfold laws_heldIntSS.f
  exact heldSS_l0 l [] 1 (by simpa [seqRows_length] using h) hr (by omega) (by simp)

end Go.Proofs.Ytojcnapdalpnmaa.K

namespace Go.Proofs.Ytojcnapdalpnmaa.K
open Go.RowKit Go.Proofs.YtojcnapdalpnmaaW.PrintWords Go.Proofs.Ytojcnapdalpnmaa.P
set_option linter.unusedVariables false
set_option linter.unusedSimpArgs false
theorem midW (x : S41) (done rest : List S41) (h : (done ++ x :: rest).length ≤ 1048576) :
    ((done.length : Int) < ((done ++ x :: rest).length : Int)) ∧ 0 ≤ (done.length : Int) ∧ rd_T41 (done ++ x :: rest) (done.length : Int) = x ∧ wrap64 ((done.length : Int) + 1) = ((done ++ [x]).length : Int) ∧ done ++ [x] ++ rest = done ++ x :: rest := by
  refine ⟨by simp; omega, by omega, by simp [rd_T41], ?_, by simp⟩
  simp at h ⊢
  unfold wrap64; omega
theorem setW_mid (y x : S41) (done rest : List S41) : (done ++ y :: rest).set (done.length : Int).toNat x = done ++ [x] ++ rest := by simp
def seqSw (a : Int) : Nat → List S41
  | 0 => []
  | n + 1 => ⟨a, a + 1, a + 2, a + 3⟩ :: seqSw (a + 4) n
theorem seqSw_length (a : Int) (n : Nat) : (seqSw a n).length = n := by
  induction n generalizing a with
  | zero => rfl
  | succ n ih => simp [seqSw, ih]
theorem eqSwitchS_l0 : ∀ (rest done : List S41), (done ++ rest).length ≤ 1048576 → Ev (fun k => laws_eqSwitchS.l0 k (done ++ rest) (done ++ rest) (done.length : Int)) true := by
  intro rest
  induction rest with
  | nil => intro done h; exact Ev.step (f := fun _ => some true) (fun k => by simp [laws_eqSwitchS.l0]) (Ev.now _)
  | cons x rest ih =>
    intro done h
    obtain ⟨q1, q2, q3, q4, q5⟩ := midW x done rest h
    have ih' := ih (done ++ [x]) (by rw [q5]; exact h)
    rw [q5] at ih'
    refine Ev.step (fun k => by rw [laws_eqSwitchS.l0]) ?_
    simp only [if_pos q1, if_pos q2, q3, q4, laws_eqSwitch.f, if_true, Option.bind_some]
    exact ih'
theorem eqSwitchS_same (l : List S41) (h : l.length ≤ 1048576) : Ev (fun k => laws_eqSwitchS.f k l l) true := by
  unfold laws_eqSwitchS.f
  simp only [if_true]
  exact eqSwitchS_l0 l [] h
theorem w4 {a : Int} (h0 : 0 ≤ a) (h : a ≤ 4611686018427387904) : wrap64 (a + 1) = a + 1 ∧ wrap64 (a + 1 + 1) = a + 2 ∧ wrap64 (a + 2 + 1) = a + 3 ∧ wrap64 (a + 3 + 1) = a + 4 := by unfold wrap64; omega
theorem markSwitchS_l0 : ∀ (rest done : List S41) (a : Int), (done ++ rest).length ≤ 1048576 → 0 ≤ a → a + 4 * rest.length ≤ 4611686018427387904 → Ev (fun k => laws_markSwitchS.l0 k (done ++ rest) a (done.length : Int)) (a + 4 * rest.length, done ++ seqSw a rest.length) := by
  intro rest
  induction rest with
  | nil => intro done a h h0 h1; exact Ev.step (fun k => by simp [laws_markSwitchS.l0]; rfl) (Ev.some (by simp [seqSw]))
  | cons x rest ih =>
    intro done a h h0 h1
    have hl : (x :: rest).length = rest.length + 1 := rfl
    have hlen : ∀ y : S41, (done ++ y :: rest).length ≤ 1048576 := fun y => by simp at h ⊢; omega
    obtain ⟨q1, q2, q3, q4, q5⟩ := midW x done rest h
    obtain ⟨e1, e2, e3, e4⟩ := w4 h0 (by rw [hl] at h1; omega)
    have hr : ∀ y : S41, rd_T41 (done ++ [y] ++ rest) (done.length : Int) = y := fun y => by simp [rd_T41]
    have hs : ∀ y z : S41, (done ++ [y] ++ rest).set (done.length : Int).toNat z = done ++ [z] ++ rest := fun y z => by simp
    have ih' := ih (done ++ [⟨a, a + 1, a + 2, a + 3⟩]) (a + 4) (by rw [List.append_assoc]; exact hlen _) (by omega) (by rw [hl] at h1; omega)
    refine Ev.step (fun k => by rw [laws_markSwitchS.l0]) ?_
    simp only [if_pos q1, if_pos q2, q3, q4, Option.bind_some, e1, e2, e3, e4, setW_mid, hr, hs]
    have hd : ((done ++ [(⟨a, a + 1, a + 2, a + 3⟩ : S41)]).length : Int) = ((done ++ [x]).length : Int) := by simp
    rw [hd] at ih'
    refine Ev.pair ih' ?_
    simp only [seqSw, hl]
    refine Prod.ext ?_ (by simp)
    simp only; omega
theorem markSwitchS_f (l : List S41) (a : Int) (h : l.length ≤ 1048576) (h0 : 0 ≤ a) (h1 : a ≤ 1099511627776) : Ev (fun k => laws_markSwitchS.f k l a) (a + 4 * l.length, seqSw a l.length) := by
  unfold laws_markSwitchS.f
  exact markSwitchS_l0 l [] a h h0 (by omega)
theorem heldSwitchS_l0 : ∀ (n : Nat) (done : List S41) (a : Int), (done ++ seqSw a n).length ≤ 1048576 → 0 ≤ a → a + 4 * n ≤ 4611686018427387904 → Ev (fun k => laws_heldSwitchS.l0 k (done ++ seqSw a n) a (done.length : Int)) (a + 4 * n) := by
  intro n
  induction n with
  | zero => intro done a h h0 h1; exact Ev.step (fun k => by simp [laws_heldSwitchS.l0, seqSw]; rfl) (Ev.some (by simp))
  | succ n ih =>
    intro done a h h0 h1
    simp only [seqSw] at h ⊢
    obtain ⟨q1, q2, q3, q4, q5⟩ := midW ⟨a, a + 1, a + 2, a + 3⟩ done (seqSw (a + 4) n) h
    obtain ⟨e1, e2, e3, e4⟩ := w4 h0 (by omega)
    have ih' := ih (done ++ [⟨a, a + 1, a + 2, a + 3⟩]) (a + 4) (by rw [q5]; exact h) (by omega) (by omega)
    rw [q5] at ih'
    refine Ev.step (fun k => by rw [laws_heldSwitchS.l0]) ?_
    simp only [if_pos q1, if_pos q2, q3, q4, e1, e2, e3, e4, if_true]
    refine Ev.pair ih' ?_
    omega
theorem heldSwitchS_f (n : Nat) (a : Int) (h : n ≤ 1048576) (h0 : 0 ≤ a) (h1 : a ≤ 1099511627776) : Ev (fun k => laws_heldSwitchS.f k (seqSw a n) a) (a + 4 * n) := by
  unfold laws_heldSwitchS.f
  exact heldSwitchS_l0 n [] a (by simpa [seqSw_length] using h) h0 (by omega)

end Go.Proofs.Ytojcnapdalpnmaa.K

/- The law FnExactGridSwitches: the program's GridSwitches answers as the reference's, for all arguments (no condition); what the walk asks of the functions that it calls. -/
namespace Go.Proofs.Ytojcnapdalpnmaa.Pure
open Go.RowKit Go.Proofs.YtojcnapdalpnmaaW.PrintWords Go.Proofs.Ytojcnapdalpnmaa.P Go.Proofs.Ytojcnapdalpnmaa.K
set_option linter.unusedVariables false
set_option linter.unusedSimpArgs false
set_option maxRecDepth 10000 in
theorem FnExactGridSwitches : ∀ (l0 : List (List Int)), l0.length ≤ maxLen → (∀ r ∈ l0, r.length ≤ maxLen ∧ ∀ n ∈ r, (Lit.int .i64 n).wf = true) → laws_FnExactGridSwitches.Good l0 true := by
  intro l0 hm0 hw0
  refine ⟨rfl, ?_⟩
  obtain ⟨n0, hs0, hle0, hb0⟩ := szIntSS_f l0 1048576 hm0 (fun r h => (hw0 r h).1) (by omega) (by omega)
  refine ⟨n0, Ev.rounds hs0, ?_⟩
  by_cases hn0 : n0 < 0
  · exact Or.inl hn0
  refine Or.inr ⟨by omega, ?_⟩
  obtain ⟨b1_0, b2_0⟩ := hb0 (by omega)
  have B0 : l0.length ≤ 1048576 ∧ ∀ r ∈ l0, r.length ≤ 1048576 := ⟨by omega, fun x hx => by have := b2_0 x hx; omega⟩
  obtain ⟨w0, wb, hsp, him, W0⟩ := GridSwitches_ans l0 B0
  have le0 := seqRows_le 1 l0
  exact ⟨w0, (seqSw 1 w0.length), (seqRows 1 l0).2, wb, (seqRows 1 l0).1, (1 + 4 * (w0.length : Int)), Ev.rounds (toIntSS_f l0 B0.1 (fun r hr => by have := B0.2 r hr; simp only [BM]; omega)), Ev.rounds (hsp), Ev.rounds (him), Ev.rounds (eqSwitchS_same w0 W0), Ev.rounds (eqIntSS_same l0 (by have := B0.1; simp only [BM]; omega) (fun r hr => by have := B0.2 r hr; simp only [BM]; omega)), markSS_f' l0 1 (by omega) (by omega) B0.1 B0.2, Ev.rounds (markSwitchS_f w0 1 W0 (by omega) (by have := W0; omega)), Ev.rounds (heldSwitchS_f w0.length 1 W0 (by omega) (by have := W0; omega)), by omega, by omega, seqSw_length _ _⟩

end Go.Proofs.Ytojcnapdalpnmaa.Pure

namespace Go.Proofs.Ytojcnapdalpnmaa.K
open Go.RowKit Go.ChangeShapes Go.WideShapes Go.ChangeAt Go.Deep Go.Proofs.YtojcnapdalpnmaaW.PrintWords
set_option linter.unusedVariables false
set_option linter.unusedSimpArgs false
section
variable {H : Type} {enc : TypeId × Value → H} {P : Program} {w : World}

/-- A row of whole numbers among the arguments. -/
theorem open_row {t e : TypeId} {fuel : Nat} {cs : List Value} {x : DataW H × List MemPlace} (ht : P.underlying t = some (.slice e)) (he : P.underlying e = some (.int .i64)) (hc : P.cellsOf e = 1)
    (h : DataW.trod enc P w 0 (fun _ => true) true fuel t cs = some x) :
    ∃ (A : Option Addr) (c : Nat) (l : List Int), cs = [.slice A l.length c] ∧ l.length ≤ c ∧ l.length ≤ maxLen ∧ (∀ n ∈ l, (Lit.int .i64 n).wf = true) ∧ Kd.C (Kd.int .i64) w A l.length l := by
  rcases open_ints ht he hc h with ⟨rfl, _⟩ | ⟨a, l, c, zs, rfl, _, hl, hm, hz, _, hcell, hwz⟩
  · exact ⟨none, 0, [], rfl, Nat.le_refl _, by simp [maxLen], by simp, Kd.C_nil _ _⟩
  · obtain ⟨l0, rfl, hr0, hm0, hw0, hc0⟩ := ReadsInt.ofRowC (k := .i64) (w := w) (a := some a) (len := l) (cap := c) (zs := zs) (.inr ⟨a, rfl, hl, hm, by simpa using hz, hcell, hwz⟩)
    exact ⟨some a, c, l0, rfl, hc0, hm0, hw0, Kd.C_of_reads (d := (0 : Int)) (h1 := fun _ => rfl) hr0⟩
/-- A slice of rows of whole numbers among the arguments. -/
theorem open_rows {t e q : TypeId} {fuel : Nat} {cs : List Value} {x : DataW H × List MemPlace} (ht : P.underlying t = some (.slice e)) (he : P.underlying e = some (.slice q)) (hq : P.underlying q = some (.int .i64))
    (ce : P.cellsOf e = 1) (cq : P.cellsOf q = 1) (h : DataW.trod enc P w 0 (fun _ => true) true fuel t cs = some x) :
    ∃ (A : Option Addr) (c : Nat) (l : List (List Int)), cs = [.slice A l.length c] ∧ l.length ≤ c ∧ l.length ≤ maxLen ∧ (∀ r ∈ l, r.length ≤ maxLen ∧ ∀ n ∈ r, (Lit.int .i64 n).wf = true) ∧ Kd.C (Kd.slice q (Kd.int .i64)) w A l.length l := by
  rcases open_int_rows ht he hq ce cq h with ⟨rfl, _⟩ | ⟨a, len, cap, A, L, C, Z, rfl, _, hl, hm, _, hr⟩
  · exact ⟨none, 0, [], rfl, Nat.le_refl _, by simp [maxLen], by simp, Kd.C_nil _ _⟩
  · have hrow : ∀ r, r < cap → ∃ l0 : List Int, L r = l0.length ∧ l0.length ≤ C r ∧ l0.length ≤ maxLen ∧ (∀ n ∈ l0, (Lit.int .i64 n).wf = true) ∧ Kd.C (Kd.int .i64) w (A r) l0.length l0 := by
      intro r hrc
      obtain ⟨h1, h2, h3, h4, h5, h6, h7⟩ := hr r hrc
      cases hA : A r with
      | none =>
        have hC := h6 hA
        exact ⟨[], by simp; omega, by simp, by simp [maxLen], by simp, Kd.C_nil _ _⟩
      | some a' =>
        obtain ⟨_, h8⟩ := h7 a' hA
        obtain ⟨l0, e0, hr0, hm0, hw0, hc0⟩ := ReadsInt.ofRowC (k := .i64) (w := w) (a := some a') (len := L r) (cap := C r) (zs := Z r) (.inr ⟨a', rfl, h2, h3, h4, fun i hi => h8 i (by omega), h5⟩)
        exact ⟨l0, e0, hc0, hm0, hw0, Kd.C_of_reads (d := (0 : Int)) (h1 := fun _ => rfl) hr0⟩
    let F : Nat → List Int := fun r => if h : r < cap then Classical.choose (hrow r h) else []
    have hF : ∀ r, r < cap → L r = (F r).length ∧ (F r).length ≤ C r ∧ (F r).length ≤ maxLen ∧ (∀ n ∈ F r, (Lit.int .i64 n).wf = true) ∧ Kd.C (Kd.int .i64) w (A r) (F r).length (F r) := by
      intro r h
      have := Classical.choose_spec (hrow r h)
      simpa [F, h] using this
    refine ⟨some a, cap, (List.range len).map F, by simp, by simpa using hl, by simp; omega, ?_, ?_⟩
    · intro r hmem
      obtain ⟨i, hi, rfl⟩ := List.mem_map.1 hmem
      have := hF i (by have := List.mem_range.1 hi; omega)
      exact ⟨this.2.2.1, this.2.2.2.1⟩
    · refine ⟨by simp, by simp; unfold maxLen at hm; omega, fun _ => ⟨a, rfl, ?_⟩⟩
      intro j p hp
      obtain ⟨hj, rfl⟩ : j < len ∧ F j = p := by
        rw [List.getElem?_map] at hp
        by_cases hj : j < len
        · rw [List.getElem?_range hj] at hp; simpa [hj] using hp
        · rw [List.getElem?_eq_none (by simp; omega)] at hp; simp at hp
      obtain ⟨f1, f2, f3, f4, f5⟩ := hF j (by omega)
      obtain ⟨h1, _⟩ := hr j (by omega)
      refine ⟨[.slice (A j) (F j).length (C j)], rfl, ⟨A j, C j, rfl, f2, f5⟩, ?_⟩
      intro i u hu
      cases i with
      | zero =>
        obtain rfl : Value.slice (A j) (F j).length (C j) = u := by simpa using hu
        rw [f1] at h1
        show w.cell? (a.add (j * 1 + 0)) = _
        rw [Nat.mul_one, Nat.add_zero]; exact h1
      | succ i => simp at hu
end
end Go.Proofs.Ytojcnapdalpnmaa.K

/- The row of the law FnExactGridSwitches: for every input the call returns true, and the arguments read as before; out of the law's pure statement and the walk. No condition. -/
namespace Go.Proofs.Ytojcnapdalpnmaa.fnExactGridSwitches
open Go.ChangeShapes Go.WideShapes Go.ChangeAt Go.RowKit
open Go.ChangeMaps (open_string shut_string)
set_option linter.unusedVariables false
set_option linter.unusedSimpArgs false
theorem own : ownKnob Try.prog.godebug = none := by kernel_rfl
theorem laidOut : laidOutB Try.prog = true := by kernel_rfl
set_option maxRecDepth 100000 in
theorem lifted (os : Os) (started : os.Started) (H : Type) (enc : TypeId × Value → H) :
    ReturnsInHanded {} Try.checked os 10 .any (Rows.fnExactGridSwitchesSpec.pre6 enc Try.prog Try.f10 Rows.fnExactGridSwitchesRow.domain false) (Rows.fnExactGridSwitchesSpec.post enc Try.prog Try.f10 false true false false) := by
  refine returnsInHanded_of_change_sized (C := Try.checked) own started (by kernel_rfl) Try.func10
    (ChangeSpec.witness6 (enc := enc) (C := Try.checked) false ⟨#[], #[.slice none 0 0], []⟩ 8 (by kernel_rfl) (by kernel_rfl) (by kernel_rfl) (by kernel_rfl)) ?_
  intro W base args ds gs before hval0 hW hcnd hsz0 _
  have hsz : (DataW.weightsEach Try.prog (Try.f10.params.toList ++ Rows.fnExactGridSwitchesSpec.plain.varTypes Try.prog) (ds ++ gs)).all (· ≤ reachBytes) = true := hsz0
  have hval : ∀ (j : Nat) t v, Try.f10.params[j]? = some t → args[j]? = some v → Value.okWide Try.prog W .any base t v := hval0
  have hW' := hW
  obtain ⟨p, q, hA0, hV, rfl, hfz, hnd⟩ := hW
  have hA : DataW.TrodAll enc Try.prog W 0 (fun _ => true) true Try.f10.params.toList args.toList ds p := hA0
  rw [Try.params10] at hA hval hsz
  obtain ⟨v0, vs0, d0, ds0, p0, q0, hargs, rfl, rfl, h0, r0⟩ := trodAll_cons hA
  obtain ⟨rfl, rfl, rfl⟩ := trodAll_nil r0
  obtain rfl : args = #[v0] := by cases args; simp_all
  obtain ⟨rfl, rfl⟩ := trodVars_none hV
  obtain ⟨a0, len0, cap0, rfl⟩ := okWide_slice Try.underlying22 (hval 0 22 v0 rfl rfl)
  have k0 := h0
  have lt0 : ∀ x ∈ p0, x.block < W.heap.size := by obtain ⟨m, hm⟩ := k0; exact DataW.trod_lt m _ _ _ hm
  obtain ⟨fuel0, hf0⟩ := h0
  obtain ⟨A0, c0, l0, hcs0, hc0, hm0, hw0, hr0⟩ := K.open_rows Try.underlying22 Try.underlying33 Try.underlying3 (by kernel_rfl) (by kernel_rfl) hf0
  simp only [Value.cells, List.cons.injEq, and_true, Value.slice.injEq] at hcs0
  obtain ⟨rfl, rfl, rfl⟩ := hcs0
  clear hA0 hval0 hsz0 hsz
  have hk := Pure.FnExactGridSwitches l0 hm0 hw0
  refine (P.laws_FnExactGridSwitches.calls _ _ l0 true W hr0 hc0 hk).mono fun e W' ⟨he, bel⟩ => ?_
  subst he
  exact ⟨_, rfl, _, _, _, [], _, [], hW', trodAll_mk1 (shut_bool Try.underlying4 _), (trodAll_cons_mk (Below.trod laidOut (by kernel_rfl) (of_decide_eq_true (by kernel_rfl)) k0 bel lt0) trodAll_mk0), rfl, bel.frame _, fun h => by cases h⟩
set_option maxHeartbeats 4000000 in
theorem joined : joinedFacts Try.prog 10 Try.f10 Rows.fnExactGridSwitchesSpec Rows.fnExactGridSwitchesRow = true := by
  unfold joinedFacts
  repeat' (with_reducible refine (Bool.and_eq_true _ _).mpr ⟨?_, ?_⟩)
  all_goals first
    | (with_reducible exact Head.mayEnter)
    | ((with_reducible rw [Head.lifts]); rfl)
    | ((with_reducible rw [Head.make]); rfl)
    | (as_aux_lemma => kernel_rfl)
theorem over : Rows.fnExactGridSwitchesRow.holds Try.pinned (OpenSpec.ofChange Rows.fnExactGridSwitchesSpec) :=
  OpenClaim.holds_of_wide 10 Try.f10 rfl rfl rfl rfl rfl rfl rfl ⟨rfl, rfl, rfl, rfl, rfl⟩ rfl rfl rfl rfl rfl (by kernel_rfl) Try.func10 joined
    (of_decide_eq_true (by kernel_rfl)) (by unfold Func.isWrapper; first | (rw [if_pos (by decide +kernel)]; kernel_rfl) | (rw [if_neg (by decide +kernel)]; exact ⟨rfl, rfl⟩))
    (fun os started H enc _ => lifted os started H enc)
theorem proved : Rows.FnExactGridSwitchesSaid := over
#print axioms proved
end Go.Proofs.Ytojcnapdalpnmaa.fnExactGridSwitches
namespace Go.Proofs.Ytojcnapdalpnmaa
/-- The row, under a short name, for the claim. -/
theorem fnExactGridSwitches_holds : Rows.FnExactGridSwitchesSaid := fnExactGridSwitches.proved
end Go.Proofs.Ytojcnapdalpnmaa
