/- Parts: contracts and plain lemmas for the law FnExactGridPath, part 4 of 5 (what the Go functions answer). -/
import Derived.Test.YtojcnapdalpnmaaCFnExactGridPatha
import Derived.Test.YtojcnapdalpnmaaCFnExactGridPathb
import Derived.Test.YtojcnapdalpnmaaCFnExactGridPathc
set_option linter.unusedVariables false
set_option linter.unusedSimpArgs false
namespace Go.Proofs.Ytojcnapdalpnmaa.P
open Go.RowKit Go.Proofs.YtojcnapdalpnmaaW.PrintWords Go.Proofs.YtojcnapdalpnmaaW.PrintLast Go.Proofs.YtojcnapdalpnmaaW.PrintMore
attribute [local go_sem] max2_int min2_int max_two min_two max_three min_three max_four min_four
def spec_maBeside.l0 : Nat → List (List Int) → Int → Int → Int → Option (Int)
 | 0, _, _, _, _ => none
 | k + 1, x0, x1, x2, x9 => if 0 < (x0.length : Int) then (if x9 < ((rd_L1 x0 0).length : Int) then (if 0 ≤ x1 then (if x1 < (x0.length : Int) then (if 0 ≤ x9 then (if x9 < ((rd_L1 x0 x1).length : Int) then (if (rd (rd_L1 x0 x1) x9) = 0 then (if 0 ≤ x2 then (if x2 < (x0.length : Int) then (if x9 < ((rd_L1 x0 x2).length : Int) then (if (rd (rd_L1 x0 x2) x9) = 1 then (some x9) else (spec_maBeside.l0 k x0 x1 x2 (wrap64 (x9 + 1)))) else (none)) else (none)) else (none)) else (spec_maBeside.l0 k x0 x1 x2 (wrap64 (x9 + 1)))) else (none)) else (none)) else (none)) else (none)) else (some (-1))) else (none)
def spec_maBeside.f (k : Nat) (l0 : List (List Int)) (a1 : Int) (a2 : Int) (a3 : Int) : Option (Int) := spec_maBeside.l0 k l0 a1 a2 (wrap64 (a3 + 1))
theorem spec_maBeside.mono_l : ∀ k, (∀ y0 y1 y2 y3, LeO (spec_maBeside.l0 k y0 y1 y2 y3) (spec_maBeside.l0 (k + 1) y0 y1 y2 y3))
 | 0 => fun _ _ _ _ r h => by simp [spec_maBeside.l0] at h
 | k + 1 => by
  have ih0 := spec_maBeside.mono_l k
  ·
   intro y0 y1 y2 y3
   unfold spec_maBeside.l0
   repeat' first
   | (with_reducible exact ih0 _ _ _ _)
   | (with_reducible exact LeO.refl _)
   | (with_reducible exact LeO.none _)
   | (with_reducible refine LeO.ite ?_ ?_)
   | (with_reducible refine LeO.bind ?_ (fun _ => ?_))
   | exact ih0 _ _ _ _
   | exact LeO.none _
   | refine LeO.ite ?_ ?_
   | refine LeO.bind ?_ (fun _ => ?_)
theorem spec_maBeside.mono : ∀ a0 a1 a2 a3 k, LeO (spec_maBeside.f k a0 a1 a2 a3) (spec_maBeside.f (k + 1) a0 a1 a2 a3) := by
 intro a0 a1 a2 a3 k
 have ih0 := spec_maBeside.mono_l k
 unfold spec_maBeside.f
 repeat' first
   | (with_reducible exact ih0 _ _ _ _)
   | (with_reducible exact LeO.refl _)
   | (with_reducible exact LeO.none _)
   | (with_reducible refine LeO.ite ?_ ?_)
   | (with_reducible refine LeO.bind ?_ (fun _ => ?_))
   | exact ih0 _ _ _ _
   | exact LeO.none _
   | refine LeO.ite ?_ ?_
   | refine LeO.bind ?_ (fun _ => ?_)
set_option maxHeartbeats 8000000 in
set_option maxRecDepth 100000 in
theorem spec_maBeside.calls (k : Nat) (A0 : Option Addr) (c0 : Nat) (l0 : List (List Int)) (a1 : Int) (a2 : Int) (a3 : Int) (r : Int) (w : World) (hr0 : Kd.C (Kd.slice 3 (Kd.int .i64)) w A0 l0.length l0) (hc0 : l0.length ≤ c0) (h : spec_maBeside.f k l0 a1 a2 a3 = some r) :
  Calls Try.prog 88 #[.slice A0 l0.length c0, .int .i64 a1, .int .i64 a2, .int .i64 a3] w fun e w' => e = .returned (.int .i64 r) ∧ Drawn0 w w' := by
 have HR0 := Aside0.mk hr0
 have HC0 := Aside0.mk hc0
 clear hr0 hc0
 have H : (spec_maBeside.l0 k l0 a1 a2 (wrap64 (a3 + 1))) = some r := h
 clear h
 have H' := Aside0.mk H
 clear H
 go_enter Try.func88, Try.ntmps88
 go_wp2
 go_loopg [9] k (fun kq v9 w' => ∃ (x9_1 : Int), v9 = .int .i64 x9_1 ∧ Aside0 (spec_maBeside.l0 kq l0 a1 a2 x9_1 = some r) ∧ Aside0 (kq ≤ k) ∧ Drawn0 w w')
 case atStart => exact ⟨(wrap64 (a3 + 1)), (by first | rfl | (simp; done) | (simp [*]; done)), H', ⟨Nat.le_refl _⟩, by repeat (first | exact Drawn0.refl _ | apply Drawn0.step)⟩
 case round =>
  clear H'
  try clear p2
  obtain ⟨x9_1, rfl, HA, HK1, ⟨m1, rfl⟩⟩ := hrel
  cases gk with
  | zero => exact absurd HA.out (by simp [spec_maBeside.l0])
  | succ k1 =>
   have H := HA.out
   clear HA
   simp only [spec_maBeside.l0] at H
   by_cases c5 : 0 < (l0.length : Int)
   ·
    rw [if_pos c5] at H
    have c5b0 : decide (0 < (l0.length : Int)) = true := decide_eq_true c5
    have c5b1 : decide (0 < l0.length) = true := decide_eq_true (by omega)
    clear c5
    by_cases c6 : x9_1 < ((rd_L1 l0 0).length : Int)
    ·
     rw [if_pos c6] at H
     have c6b0 : decide (x9_1 < ((rd_L1 l0 0).length : Int)) = true := decide_eq_true c6
     clear c6
     by_cases c7 : 0 ≤ a1
     ·
      rw [if_pos c7] at H
      have c7b0 : decide (0 ≤ a1) = true := decide_eq_true c7
      clear c7
      by_cases c8 : a1 < (l0.length : Int)
      ·
       rw [if_pos c8] at H
       have c8b0 : decide (a1 < (l0.length : Int)) = true := decide_eq_true c8
       clear c8
       by_cases c9 : 0 ≤ x9_1
       ·
        rw [if_pos c9] at H
        have c9b0 : decide (0 ≤ x9_1) = true := decide_eq_true c9
        clear c9
        by_cases c10 : x9_1 < ((rd_L1 l0 a1).length : Int)
        ·
         rw [if_pos c10] at H
         have c10b0 : decide (x9_1 < ((rd_L1 l0 a1).length : Int)) = true := decide_eq_true c10
         clear c10
         by_cases c11 : (rd (rd_L1 l0 a1) x9_1) = 0
         ·
          rw [if_pos c11] at H
          have c11b0 : ((rd (rd_L1 l0 a1) x9_1) == 0) = true := beq_iff_eq.mpr c11
          have c11b1 : ((rd (rd_L1 l0 a1) x9_1) != 0) = false := bne_eq_false_iff_eq.mpr c11
          clear c11
          by_cases c12 : 0 ≤ a2
          ·
           rw [if_pos c12] at H
           have c12b0 : decide (0 ≤ a2) = true := decide_eq_true c12
           clear c12
           by_cases c13 : a2 < (l0.length : Int)
           ·
            rw [if_pos c13] at H
            have c13b0 : decide (a2 < (l0.length : Int)) = true := decide_eq_true c13
            clear c13
            by_cases c14 : x9_1 < ((rd_L1 l0 a2).length : Int)
            ·
             rw [if_pos c14] at H
             have c14b0 : decide (x9_1 < ((rd_L1 l0 a2).length : Int)) = true := decide_eq_true c14
             clear c14
             by_cases c15 : (rd (rd_L1 l0 a2) x9_1) = 1
             ·
              rw [if_pos c15] at H
              have c15b0 : ((rd (rd_L1 l0 a2) x9_1) == 1) = true := beq_iff_eq.mpr c15
              have c15b1 : ((rd (rd_L1 l0 a2) x9_1) != 1) = false := bne_eq_false_iff_eq.mpr c15
              clear c15
              obtain rfl := Option.some.inj H
              have p392 : 0 ≤ (0 : Int) := (by omega)
              have q392 : 0 < (l0.length : Int) := of_decide_eq_true (by first | (with_reducible assumption) | assumption)
              obtain ⟨ad392, A392_0, c392_0, e392, hx392_0, hl392_0, hi392_0⟩ := at_L1 HR0.out 0 p392 q392
              cases e392
              have qi392 : (0 < l0.length) = True := eq_true (by omega)
              (try rw [show ((0 : Int)).toNat = 0 from rfl] at hx392_0)
              (try rw [Addr.add_zero'] at hx392_0)
              have HR392_0 := Aside0.mk hi392_0
              have HC392_0 := Aside0.mk hl392_0
              clear hi392_0 hl392_0
              replace p392 := eq_true p392
              replace q392 := eq_true q392
              have p393 : 0 ≤ (a1 : Int) := of_decide_eq_true (by first | (with_reducible assumption) | assumption)
              have q393 : a1 < (l0.length : Int) := of_decide_eq_true (by first | (with_reducible assumption) | assumption)
              obtain ⟨ad393, A393_0, c393_0, e393, hx393_0, hl393_0, hi393_0⟩ := at_L1 HR0.out a1 p393 q393
              obtain rfl : ad392 = ad393 := (by injection e393)
              have HR393_0 := Aside0.mk hi393_0
              have HC393_0 := Aside0.mk hl393_0
              clear hi393_0 hl393_0
              replace p393 := eq_true p393
              replace q393 := eq_true q393
              have p394 : 0 ≤ (x9_1 : Int) := of_decide_eq_true (by first | (with_reducible assumption) | assumption)
              have q394 : x9_1 < ((rd_L1 l0 a1).length : Int) := of_decide_eq_true (by first | (with_reducible assumption) | assumption)
              obtain ⟨ad394, e394, hx394_0⟩ := Kd.at_int HR393_0.out x9_1 p394 q394
              cases e394
              replace p394 := eq_true p394
              replace q394 := eq_true q394
              have p395 : 0 ≤ (a2 : Int) := of_decide_eq_true (by first | (with_reducible assumption) | assumption)
              have q395 : a2 < (l0.length : Int) := of_decide_eq_true (by first | (with_reducible assumption) | assumption)
              obtain ⟨ad395, A395_0, c395_0, e395, hx395_0, hl395_0, hi395_0⟩ := at_L1 HR0.out a2 p395 q395
              obtain rfl : ad392 = ad395 := (by injection e395)
              have HR395_0 := Aside0.mk hi395_0
              have HC395_0 := Aside0.mk hl395_0
              clear hi395_0 hl395_0
              replace p395 := eq_true p395
              replace q395 := eq_true q395
              have p396 : 0 ≤ (x9_1 : Int) := of_decide_eq_true (by first | (with_reducible assumption) | assumption)
              have q396 : x9_1 < ((rd_L1 l0 a2).length : Int) := of_decide_eq_true (by first | (with_reducible assumption) | assumption)
              obtain ⟨ad396, e396, hx396_0⟩ := Kd.at_int HR395_0.out x9_1 p396 q396
              cases e396
              replace p396 := eq_true p396
              replace q396 := eq_true q396
              go_wp2
              go_ret
              exact ⟨by first | rfl | (simp; done) | (simp [*]; done), by repeat (first | exact Drawn0.refl _ | apply Drawn0.step)⟩
             ·
              rw [if_neg c15] at H
              have c15b0 : ((rd (rd_L1 l0 a2) x9_1) == 1) = false := beq_eq_false_iff_ne.mpr c15
              have c15b1 : ((rd (rd_L1 l0 a2) x9_1) != 1) = true := bne_iff_ne.mpr c15
              have H' := Aside0.mk H
              clear H
              have p392 : 0 ≤ (0 : Int) := (by omega)
              have q392 : 0 < (l0.length : Int) := of_decide_eq_true (by first | (with_reducible assumption) | assumption)
              obtain ⟨ad392, A392_0, c392_0, e392, hx392_0, hl392_0, hi392_0⟩ := at_L1 HR0.out 0 p392 q392
              cases e392
              have qi392 : (0 < l0.length) = True := eq_true (by omega)
              (try rw [show ((0 : Int)).toNat = 0 from rfl] at hx392_0)
              (try rw [Addr.add_zero'] at hx392_0)
              have HR392_0 := Aside0.mk hi392_0
              have HC392_0 := Aside0.mk hl392_0
              clear hi392_0 hl392_0
              replace p392 := eq_true p392
              replace q392 := eq_true q392
              have p393 : 0 ≤ (a1 : Int) := of_decide_eq_true (by first | (with_reducible assumption) | assumption)
              have q393 : a1 < (l0.length : Int) := of_decide_eq_true (by first | (with_reducible assumption) | assumption)
              obtain ⟨ad393, A393_0, c393_0, e393, hx393_0, hl393_0, hi393_0⟩ := at_L1 HR0.out a1 p393 q393
              obtain rfl : ad392 = ad393 := (by injection e393)
              have HR393_0 := Aside0.mk hi393_0
              have HC393_0 := Aside0.mk hl393_0
              clear hi393_0 hl393_0
              replace p393 := eq_true p393
              replace q393 := eq_true q393
              have p394 : 0 ≤ (x9_1 : Int) := of_decide_eq_true (by first | (with_reducible assumption) | assumption)
              have q394 : x9_1 < ((rd_L1 l0 a1).length : Int) := of_decide_eq_true (by first | (with_reducible assumption) | assumption)
              obtain ⟨ad394, e394, hx394_0⟩ := Kd.at_int HR393_0.out x9_1 p394 q394
              cases e394
              replace p394 := eq_true p394
              replace q394 := eq_true q394
              have p395 : 0 ≤ (a2 : Int) := of_decide_eq_true (by first | (with_reducible assumption) | assumption)
              have q395 : a2 < (l0.length : Int) := of_decide_eq_true (by first | (with_reducible assumption) | assumption)
              obtain ⟨ad395, A395_0, c395_0, e395, hx395_0, hl395_0, hi395_0⟩ := at_L1 HR0.out a2 p395 q395
              obtain rfl : ad392 = ad395 := (by injection e395)
              have HR395_0 := Aside0.mk hi395_0
              have HC395_0 := Aside0.mk hl395_0
              clear hi395_0 hl395_0
              replace p395 := eq_true p395
              replace q395 := eq_true q395
              have p396 : 0 ≤ (x9_1 : Int) := of_decide_eq_true (by first | (with_reducible assumption) | assumption)
              have q396 : x9_1 < ((rd_L1 l0 a2).length : Int) := of_decide_eq_true (by first | (with_reducible assumption) | assumption)
              obtain ⟨ad396, e396, hx396_0⟩ := Kd.at_int HR395_0.out x9_1 p396 q396
              cases e396
              replace p396 := eq_true p396
              replace q396 := eq_true q396
              go_wp2
              go_roundg k1
              case measure => have := HK1.out; omega
              case rel => exact ⟨(wrap64 (x9_1 + 1)), (by first | rfl | (simp; done) | (simp [*]; done)), H', ⟨by have := HK1.out; omega⟩, by repeat (first | exact Drawn0.refl _ | apply Drawn0.step)⟩
            ·
             rw [if_neg c14] at H
             exact absurd H (by simp)
           ·
            rw [if_neg c13] at H
            exact absurd H (by simp)
          ·
           rw [if_neg c12] at H
           exact absurd H (by simp)
         ·
          rw [if_neg c11] at H
          have c11b0 : ((rd (rd_L1 l0 a1) x9_1) == 0) = false := beq_eq_false_iff_ne.mpr c11
          have c11b1 : ((rd (rd_L1 l0 a1) x9_1) != 0) = true := bne_iff_ne.mpr c11
          have H' := Aside0.mk H
          clear H
          have p392 : 0 ≤ (0 : Int) := (by omega)
          have q392 : 0 < (l0.length : Int) := of_decide_eq_true (by first | (with_reducible assumption) | assumption)
          obtain ⟨ad392, A392_0, c392_0, e392, hx392_0, hl392_0, hi392_0⟩ := at_L1 HR0.out 0 p392 q392
          cases e392
          have qi392 : (0 < l0.length) = True := eq_true (by omega)
          (try rw [show ((0 : Int)).toNat = 0 from rfl] at hx392_0)
          (try rw [Addr.add_zero'] at hx392_0)
          have HR392_0 := Aside0.mk hi392_0
          have HC392_0 := Aside0.mk hl392_0
          clear hi392_0 hl392_0
          replace p392 := eq_true p392
          replace q392 := eq_true q392
          have p393 : 0 ≤ (a1 : Int) := of_decide_eq_true (by first | (with_reducible assumption) | assumption)
          have q393 : a1 < (l0.length : Int) := of_decide_eq_true (by first | (with_reducible assumption) | assumption)
          obtain ⟨ad393, A393_0, c393_0, e393, hx393_0, hl393_0, hi393_0⟩ := at_L1 HR0.out a1 p393 q393
          obtain rfl : ad392 = ad393 := (by injection e393)
          have HR393_0 := Aside0.mk hi393_0
          have HC393_0 := Aside0.mk hl393_0
          clear hi393_0 hl393_0
          replace p393 := eq_true p393
          replace q393 := eq_true q393
          have p394 : 0 ≤ (x9_1 : Int) := of_decide_eq_true (by first | (with_reducible assumption) | assumption)
          have q394 : x9_1 < ((rd_L1 l0 a1).length : Int) := of_decide_eq_true (by first | (with_reducible assumption) | assumption)
          obtain ⟨ad394, e394, hx394_0⟩ := Kd.at_int HR393_0.out x9_1 p394 q394
          cases e394
          replace p394 := eq_true p394
          replace q394 := eq_true q394
          go_wp2
          go_roundg k1
          case measure => have := HK1.out; omega
          case rel => exact ⟨(wrap64 (x9_1 + 1)), (by first | rfl | (simp; done) | (simp [*]; done)), H', ⟨by have := HK1.out; omega⟩, by repeat (first | exact Drawn0.refl _ | apply Drawn0.step)⟩
        ·
         rw [if_neg c10] at H
         exact absurd H (by simp)
       ·
        rw [if_neg c9] at H
        exact absurd H (by simp)
      ·
       rw [if_neg c8] at H
       exact absurd H (by simp)
     ·
      rw [if_neg c7] at H
      exact absurd H (by simp)
    ·
     rw [if_neg c6] at H
     have c6b0 : decide (x9_1 < ((rd_L1 l0 0).length : Int)) = false := decide_eq_false c6
     clear c6
     obtain rfl := Option.some.inj H
     have p392 : 0 ≤ (0 : Int) := (by omega)
     have q392 : 0 < (l0.length : Int) := of_decide_eq_true (by first | (with_reducible assumption) | assumption)
     obtain ⟨ad392, A392_0, c392_0, e392, hx392_0, hl392_0, hi392_0⟩ := at_L1 HR0.out 0 p392 q392
     cases e392
     have qi392 : (0 < l0.length) = True := eq_true (by omega)
     (try rw [show ((0 : Int)).toNat = 0 from rfl] at hx392_0)
     (try rw [Addr.add_zero'] at hx392_0)
     have HR392_0 := Aside0.mk hi392_0
     have HC392_0 := Aside0.mk hl392_0
     clear hi392_0 hl392_0
     replace p392 := eq_true p392
     replace q392 := eq_true q392
     go_wp2
     go_ret
     exact ⟨by first | rfl | (simp; done) | (simp [*]; done), by repeat (first | exact Drawn0.refl _ | apply Drawn0.step)⟩
   ·
    rw [if_neg c5] at H
    exact absurd H (by simp)
end Go.Proofs.Ytojcnapdalpnmaa.P

namespace Go.Proofs.Ytojcnapdalpnmaa.P
open Go.RowKit Go.Proofs.YtojcnapdalpnmaaW.PrintWords Go.Proofs.YtojcnapdalpnmaaW.PrintLast Go.Proofs.YtojcnapdalpnmaaW.PrintMore
attribute [local go_sem] max2_int min2_int max_two min_two max_three min_three max_four min_four
theorem cell_twice_46 (w : World) (a : Addr) (u v : Value) : ((w.setCell a u).setCell a v).cell? a = (w.setCell a v).cell? a := by
 cases a with
 | mk b o s =>
  simp only [World.setCell, World.cell?, Array.getElem?_modify, if_true]
  cases w.heap[b]? with
  | none => rfl
  | some x =>
   cases x with
   | cells c e f => cases s <;> simp [Array.getElem?_setIfInBounds]
   | _ => rfl
theorem setCell_drewN_46 (w : World) (n : Nat) (a : Addr) (v : Value) : (w.drewN n).setCell a v = (w.setCell a v).drewN n := rfl
attribute [local go_sem] cell_twice_46 setCell_drewN_46
mutual
def spec_GridPath.j0 : Nat → List (List Int) → List (List Int) → Bool → Option ((List (S41)) × Bool)
 | 0, _, _, _ => none
 | k + 1, x0, x1, x25 => if x25 = true then (some (([] : List (S41)), false)) else (if 0 < (x0.length : Int) then (spec_GridPath.l0 k x0 x1 ([] : List (S41)) ([] : List (S41)) ((rd_L1 x0 0).length : Int) 0) else (none))
def spec_GridPath.l0 : Nat → List (List Int) → List (List Int) → List (S41) → List (S41) → Int → Int → Option ((List (S41)) × Bool)
 | 0, _, _, _, _, _, _ => none
 | k + 1, x0, x1, x6, x7, x29, x30 => if x30 < x29 then (spec_GridPath.l1 k x0 x1 x6 x7 x30 x29 x30) else (if x6.length + x7.length < 4398046511104 then (some ((x6 ++ x7), true)) else (none))
def spec_GridPath.l1 : Nat → List (List Int) → List (List Int) → List (S41) → List (S41) → Int → Int → Int → Option ((List (S41)) × Bool)
 | 0, _, _, _, _, _, _, _ => none
 | k + 1, x0, x1, x6, x7, x8, x29, x30 => (spec_maFirst.f k x0 x1 x8).bind fun t404 => (if t404 ≥ 0 then ((spec_maFirst.f k x0 x1 x8).bind fun t405 => ((spec_maFirst.f k x1 x0 x8).bind fun t406 => ((spec_l1Least.f t405 t406).bind fun t407 => ((spec_l1Most.f t405 t406).bind fun t408 => ((spec_maBeside.f k x0 t405 t406 x8).bind fun t409 => (if t409 ≥ 0 then ((spec_maDo.f k x0 t407 t408 x8 t409).bind fun t411 => (if x6.length < 4398046511104 then (spec_GridPath.l1 k t411 x1 (x6 ++ [(⟨t407, t408, x8, t409⟩ : S41)]) x7 x8 x29 x30) else (none))) else ((spec_maBeside.f k x1 t406 t405 x8).bind fun t417 => ((spec_maDo.f k x1 t407 t408 x8 t417).bind fun t418 => ((some (([(⟨t407, t408, x8, t417⟩ : S41)] : List (S41)) : List (S41))).bind fun y421 => (if y421.length + x7.length < 4398046511104 then (spec_GridPath.l1 k x0 t418 x6 (y421 ++ x7) x8 x29 x30) else (none))))))))))) else (spec_GridPath.l0 k x0 x1 x6 x7 x29 (wrap64 (x30 + 1))))
end
def spec_GridPath.f (k : Nat) (l0 : List (List Int)) (l1 : List (List Int)) : Option ((List (S41)) × Bool) := (spec_maGrid.f k l0).bind fun t397 => (if t397 = true then ((spec_maGrid.f k l1).bind fun t398 => (if t398 = true then ((spec_maAlike.f k l0 l1).bind fun t399 => (spec_GridPath.j0 k l0 l1 (!t399))) else (spec_GridPath.j0 k l0 l1 true))) else (spec_GridPath.j0 k l0 l1 true))
theorem spec_GridPath.mono_l : ∀ k, (∀ y0 y1 y2, LeO (spec_GridPath.j0 k y0 y1 y2) (spec_GridPath.j0 (k + 1) y0 y1 y2)) ∧ (∀ y0 y1 y2 y3 y4 y5, LeO (spec_GridPath.l0 k y0 y1 y2 y3 y4 y5) (spec_GridPath.l0 (k + 1) y0 y1 y2 y3 y4 y5)) ∧ (∀ y0 y1 y2 y3 y4 y5 y6, LeO (spec_GridPath.l1 k y0 y1 y2 y3 y4 y5 y6) (spec_GridPath.l1 (k + 1) y0 y1 y2 y3 y4 y5 y6))
 | 0 => ⟨fun _ _ _ r h => by simp [spec_GridPath.j0] at h, fun _ _ _ _ _ _ r h => by simp [spec_GridPath.l0] at h, fun _ _ _ _ _ _ _ r h => by simp [spec_GridPath.l1] at h⟩
 | k + 1 => by
  obtain ⟨ih0, ih1, ih2⟩ := spec_GridPath.mono_l k
  refine ⟨?_, ?_, ?_⟩
  ·
   intro y0 y1 y2
   unfold spec_GridPath.j0
   repeat' first
   | (with_reducible exact ih0 _ _ _)
   | (with_reducible exact ih1 _ _ _ _ _ _)
   | (with_reducible exact ih2 _ _ _ _ _ _ _)
   | (with_reducible exact spec_maAlike.mono _ _ _)
   | (with_reducible exact spec_maBeside.mono _ _ _ _ _)
   | (with_reducible exact spec_maDo.mono _ _ _ _ _ _)
   | (with_reducible exact spec_maFirst.mono _ _ _ _)
   | (with_reducible exact spec_maGrid.mono _ _)
   | (with_reducible exact LeO.refl _)
   | (with_reducible exact LeO.none _)
   | (with_reducible refine LeO.ite ?_ ?_)
   | (with_reducible refine LeO.bind ?_ (fun _ => ?_))
   | exact ih0 _ _ _
   | exact ih1 _ _ _ _ _ _
   | exact ih2 _ _ _ _ _ _ _
   | exact spec_maAlike.mono _ _ _
   | exact spec_maBeside.mono _ _ _ _ _
   | exact spec_maDo.mono _ _ _ _ _ _
   | exact spec_maFirst.mono _ _ _ _
   | exact spec_maGrid.mono _ _
   | exact LeO.none _
   | refine LeO.ite ?_ ?_
   | refine LeO.bind ?_ (fun _ => ?_)
  ·
   intro y0 y1 y2 y3 y4 y5
   unfold spec_GridPath.l0
   repeat' first
   | (with_reducible exact ih0 _ _ _)
   | (with_reducible exact ih1 _ _ _ _ _ _)
   | (with_reducible exact ih2 _ _ _ _ _ _ _)
   | (with_reducible exact spec_maAlike.mono _ _ _)
   | (with_reducible exact spec_maBeside.mono _ _ _ _ _)
   | (with_reducible exact spec_maDo.mono _ _ _ _ _ _)
   | (with_reducible exact spec_maFirst.mono _ _ _ _)
   | (with_reducible exact spec_maGrid.mono _ _)
   | (with_reducible exact LeO.refl _)
   | (with_reducible exact LeO.none _)
   | (with_reducible refine LeO.ite ?_ ?_)
   | (with_reducible refine LeO.bind ?_ (fun _ => ?_))
   | exact ih0 _ _ _
   | exact ih1 _ _ _ _ _ _
   | exact ih2 _ _ _ _ _ _ _
   | exact spec_maAlike.mono _ _ _
   | exact spec_maBeside.mono _ _ _ _ _
   | exact spec_maDo.mono _ _ _ _ _ _
   | exact spec_maFirst.mono _ _ _ _
   | exact spec_maGrid.mono _ _
   | exact LeO.none _
   | refine LeO.ite ?_ ?_
   | refine LeO.bind ?_ (fun _ => ?_)
  ·
   intro y0 y1 y2 y3 y4 y5 y6
   unfold spec_GridPath.l1
   repeat' first
   | (with_reducible exact ih0 _ _ _)
   | (with_reducible exact ih1 _ _ _ _ _ _)
   | (with_reducible exact ih2 _ _ _ _ _ _ _)
   | (with_reducible exact spec_maAlike.mono _ _ _)
   | (with_reducible exact spec_maBeside.mono _ _ _ _ _)
   | (with_reducible exact spec_maDo.mono _ _ _ _ _ _)
   | (with_reducible exact spec_maFirst.mono _ _ _ _)
   | (with_reducible exact spec_maGrid.mono _ _)
   | (with_reducible exact LeO.refl _)
   | (with_reducible exact LeO.none _)
   | (with_reducible refine LeO.ite ?_ ?_)
   | (with_reducible refine LeO.bind ?_ (fun _ => ?_))
   | exact ih0 _ _ _
   | exact ih1 _ _ _ _ _ _
   | exact ih2 _ _ _ _ _ _ _
   | exact spec_maAlike.mono _ _ _
   | exact spec_maBeside.mono _ _ _ _ _
   | exact spec_maDo.mono _ _ _ _ _ _
   | exact spec_maFirst.mono _ _ _ _
   | exact spec_maGrid.mono _ _
   | exact LeO.none _
   | refine LeO.ite ?_ ?_
   | refine LeO.bind ?_ (fun _ => ?_)
theorem spec_GridPath.mono : ∀ a0 a1 k, LeO (spec_GridPath.f k a0 a1) (spec_GridPath.f (k + 1) a0 a1) := by
 intro a0 a1 k
 obtain ⟨ih0, ih1, ih2⟩ := spec_GridPath.mono_l k
 unfold spec_GridPath.f
 repeat' first
   | (with_reducible exact ih0 _ _ _)
   | (with_reducible exact ih1 _ _ _ _ _ _)
   | (with_reducible exact ih2 _ _ _ _ _ _ _)
   | (with_reducible exact spec_maAlike.mono _ _ _)
   | (with_reducible exact spec_maBeside.mono _ _ _ _ _)
   | (with_reducible exact spec_maDo.mono _ _ _ _ _ _)
   | (with_reducible exact spec_maFirst.mono _ _ _ _)
   | (with_reducible exact spec_maGrid.mono _ _)
   | (with_reducible exact LeO.refl _)
   | (with_reducible exact LeO.none _)
   | (with_reducible refine LeO.ite ?_ ?_)
   | (with_reducible refine LeO.bind ?_ (fun _ => ?_))
   | exact ih0 _ _ _
   | exact ih1 _ _ _ _ _ _
   | exact ih2 _ _ _ _ _ _ _
   | exact spec_maAlike.mono _ _ _
   | exact spec_maBeside.mono _ _ _ _ _
   | exact spec_maDo.mono _ _ _ _ _ _
   | exact spec_maFirst.mono _ _ _ _
   | exact spec_maGrid.mono _ _
   | exact LeO.none _
   | refine LeO.ite ?_ ?_
   | refine LeO.bind ?_ (fun _ => ?_)
set_option maxHeartbeats 8000000 in
set_option maxRecDepth 100000 in
theorem spec_GridPath.calls (k : Nat) (P0_ : Nat → Prop) (A0 : Option Addr) (c0 : Nat) (l0 : List (List Int)) (P1_ : Nat → Prop) (A1 : Option Addr) (c1 : Nat) (l1 : List (List Int)) (r1 : List (S41)) (r2 : Bool) (w : World) (hs0 : Kd.V (Kd.slice 3 (Kd.int .i64)) 33 w w.heap.size (fun k_ => P0_ k_) (.slice A0 l0.length c0) l0) (hs1 : Kd.V (Kd.slice 3 (Kd.int .i64)) 33 w w.heap.size (fun k_ => P1_ k_) (.slice A1 l1.length c1) l1) (h : spec_GridPath.f k l0 l1 = some (r1, r2)) :
  Calls Try.prog 46 #[.slice A0 l0.length c0, .slice A1 l1.length c1] w fun e w' => ∃ v0_ : Value, e = .returned (.tuple #[v0_, .bool r2]) ∧ Kd.R k41 41 w' w.heap.size (fun k_ => (w.heap.size ≤ k_)) v0_ r1 ∧ Below w.heap.size w w' := by
 have hu41 := Try.underlying41
 have HO0 := Aside0.mk (show Kd.V (Kd.slice 3 (Kd.int .i64)) 33 w w.heap.size (fun k_ => ((P0_ k_ ∨ P1_ k_) ∨ w.heap.size ≤ k_)) (.slice A0 l0.length c0) l0 from Kd.V_mono hs0 (fun k_ hk => .inl (.inl hk)))
 have HO1 := Aside0.mk (show Kd.V (Kd.slice 3 (Kd.int .i64)) 33 w w.heap.size (fun k_ => ((P0_ k_ ∨ P1_ k_) ∨ w.heap.size ≤ k_)) (.slice A1 l1.length c1) l1 from Kd.V_mono hs1 (fun k_ hk => .inl (.inr hk)))
 have HB := Aside0.mk (Below.refl w.heap.size w)
 have H : ((spec_maGrid.f k l0).bind fun t397 => (if t397 = true then ((spec_maGrid.f k l1).bind fun t398 => (if t398 = true then ((spec_maAlike.f k l0 l1).bind fun t399 => (spec_GridPath.j0 k l0 l1 (!t399))) else (spec_GridPath.j0 k l0 l1 true))) else (spec_GridPath.j0 k l0 l1 true))) = some (r1, r2) := h
 clear h
 have HC3 := Aside0.mk H
 clear H
 go_enter Try.func46, Try.ntmps46
 go_upto_region 1 with (fail)
 go_cut [25] (fun v25 wc => ∃ (kq : Nat) (x25_2 : Bool), v25 = .bool x25_2 ∧ Aside0 (spec_GridPath.j0 kq l0 l1 x25_2 = some (r1, r2)) ∧ Aside0 (kq ≤ k) ∧ Aside0 (Kd.V (Kd.slice 3 (Kd.int .i64)) 33 wc w.heap.size (fun k_ => ((P0_ k_ ∨ P1_ k_) ∨ w.heap.size ≤ k_)) (.slice A0 l0.length c0) l0) ∧ Aside0 (Kd.V (Kd.slice 3 (Kd.int .i64)) 33 wc w.heap.size (fun k_ => ((P0_ k_ ∨ P1_ k_) ∨ w.heap.size ≤ k_)) (.slice A1 l1.length c1) l1) ∧ Aside0 (Below w.heap.size w wc))
 case first =>
  have H := HC3.out
  clear HC3
  replace H := Option.bind_eq_some_iff.mp H
  obtain ⟨t397, A40, H⟩ := H
  replace H : (if t397 = true then ((spec_maGrid.f k l1).bind fun t398 => (if t398 = true then ((spec_maAlike.f k l0 l1).bind fun t399 => (spec_GridPath.j0 k l0 l1 (!t399))) else (spec_GridPath.j0 k l0 l1 true))) else (spec_GridPath.j0 k l0 l1 true)) = some (r1, r2) := H
  have A4 := Aside0.mk A40
  clear A40
  by_cases c5 : t397 = true
  ·
   subst c5
   have H1 : ((spec_maGrid.f k l1).bind fun t398 => (if t398 = true then ((spec_maAlike.f k l0 l1).bind fun t399 => (spec_GridPath.j0 k l0 l1 (!t399))) else (spec_GridPath.j0 k l0 l1 true))) = some (r1, r2) := by rw [if_pos rfl] at H; exact H
   clear H
   have H := H1
   clear H1
   replace H := Option.bind_eq_some_iff.mp H
   obtain ⟨t398, A60, H⟩ := H
   replace H : (if t398 = true then ((spec_maAlike.f k l0 l1).bind fun t399 => (spec_GridPath.j0 k l0 l1 (!t399))) else (spec_GridPath.j0 k l0 l1 true)) = some (r1, r2) := H
   have A6 := Aside0.mk A60
   clear A60
   by_cases c7 : t398 = true
   ·
    subst c7
    have H1 : ((spec_maAlike.f k l0 l1).bind fun t399 => (spec_GridPath.j0 k l0 l1 (!t399))) = some (r1, r2) := by rw [if_pos rfl] at H; exact H
    clear H
    have H := H1
    clear H1
    replace H := Option.bind_eq_some_iff.mp H
    obtain ⟨t399, A80, H⟩ := H
    replace H : (spec_GridPath.j0 k l0 l1 (!t399)) = some (r1, r2) := H
    have A8 := Aside0.mk A80
    clear A80
    have H' := Aside0.mk H
    clear H
    go_wp2_with (first | ((with_reducible refine gate_callee (f := 67) rfl ?_); refine goesL_ (some 13) rfl rfl Try.func67 (by kernel_rfl) rfl #[.slice A0 l0.length c0] rfl (by (try simp only [List.map_toArray, List.map_cons, List.map_nil]); first | done | rfl) ?_; (with_reducible refine (spec_maGrid.calls k _ _ l0 true _ ?side1 ?side2 A4.out).mono ?_); (case side1 => repeat (first | exact (Kd.V_reads' HO0.out).2.2 | (with_reducible refine Kd.C_alloc ?_ _) | (with_reducible refine Kd.C_drewN ?_ _) | (with_reducible refine Kd.C_drew ?_))); (case side2 => exact (Kd.V_reads' HO0.out).2.1); rintro e w' ⟨rfl, ⟨nd, rfl⟩⟩; refine ⟨_, rfl, ?_⟩) | (go_at_call 67; (with_reducible refine (spec_maGrid.calls k _ _ l1 true _ ?side1 ?side2 A6.out).mono ?_); (case side1 => repeat (first | exact (Kd.V_reads' HO1.out).2.2 | (with_reducible refine Kd.C_alloc ?_ _) | (with_reducible refine Kd.C_drewN ?_ _) | (with_reducible refine Kd.C_drew ?_))); (case side2 => exact (Kd.V_reads' HO1.out).2.1); rintro e w' ⟨rfl, ⟨nd, rfl⟩⟩) | (go_at_call 85; (with_reducible refine (spec_maAlike.calls k _ _ l0 _ _ l1 t399 _ ?side1 ?side2 ?side3 ?side4 A8.out).mono ?_); (case side1 => repeat (first | exact (Kd.V_reads' HO0.out).2.2 | (with_reducible refine Kd.C_alloc ?_ _) | (with_reducible refine Kd.C_drewN ?_ _) | (with_reducible refine Kd.C_drew ?_))); (case side2 => exact (Kd.V_reads' HO0.out).2.1); (case side3 => repeat (first | exact (Kd.V_reads' HO1.out).2.2 | (with_reducible refine Kd.C_alloc ?_ _) | (with_reducible refine Kd.C_drewN ?_ _) | (with_reducible refine Kd.C_drew ?_))); (case side4 => exact (Kd.V_reads' HO1.out).2.1); rintro e w9 ⟨rfl, hb⟩; have n0_ := Aside0.mk (Kd.V_below (by (with_reducible repeat (first | apply Kd.V_alloc | apply Kd.V_drewN | apply Kd.V_drew)); exact HO0.out) hb); have n1_ := Aside0.mk (Kd.V_below (by (with_reducible repeat (first | apply Kd.V_alloc | apply Kd.V_drewN | apply Kd.V_drew)); exact HO1.out) hb); have n2_ := Aside0.mk (below_step (by repeat (first | (with_reducible first | exact HB.out | apply below_alloc | apply pw_below_drewN | apply below_drew1))) hb); clear HO0; clear HO1; clear HB; have HO0 := n0_; have HO1 := n1_; have HB := n2_; clear n0_ n1_ n2_; (try clear hb); (try clear hb2); (try clear hk); (try clear hi)))
    go_meet
    case rel => exact ⟨_, (!t399), (by first | rfl | (simp; done) | (simp [*]; done)), H', ⟨by first | omega | exact Nat.le_refl _⟩, ⟨by (with_reducible repeat (first | apply Kd.V_alloc | apply Kd.V_drewN | apply Kd.V_drew)); exact HO0.out⟩, ⟨by (with_reducible repeat (first | apply Kd.V_alloc | apply Kd.V_drewN | apply Kd.V_drew)); exact HO1.out⟩, ⟨by repeat (first | (with_reducible first | exact HB.out | apply below_alloc | apply pw_below_drewN | apply below_drew1) | exact HB.out)⟩⟩
   ·
    replace c7 := Bool.eq_false_iff.mpr c7
    subst c7
    have H1 : (spec_GridPath.j0 k l0 l1 true) = some (r1, r2) := by rw [if_neg (show ¬ (false = true) by decide)] at H; exact H
    clear H
    have H := H1
    clear H1
    have H' := Aside0.mk H
    clear H
    go_wp2_with (first | ((with_reducible refine gate_callee (f := 67) rfl ?_); refine goesL_ (some 13) rfl rfl Try.func67 (by kernel_rfl) rfl #[.slice A0 l0.length c0] rfl (by (try simp only [List.map_toArray, List.map_cons, List.map_nil]); first | done | rfl) ?_; (with_reducible refine (spec_maGrid.calls k _ _ l0 true _ ?side1 ?side2 A4.out).mono ?_); (case side1 => repeat (first | exact (Kd.V_reads' HO0.out).2.2 | (with_reducible refine Kd.C_alloc ?_ _) | (with_reducible refine Kd.C_drewN ?_ _) | (with_reducible refine Kd.C_drew ?_))); (case side2 => exact (Kd.V_reads' HO0.out).2.1); rintro e w' ⟨rfl, ⟨nd, rfl⟩⟩; refine ⟨_, rfl, ?_⟩) | (go_at_call 67; (with_reducible refine (spec_maGrid.calls k _ _ l1 false _ ?side1 ?side2 A6.out).mono ?_); (case side1 => repeat (first | exact (Kd.V_reads' HO1.out).2.2 | (with_reducible refine Kd.C_alloc ?_ _) | (with_reducible refine Kd.C_drewN ?_ _) | (with_reducible refine Kd.C_drew ?_))); (case side2 => exact (Kd.V_reads' HO1.out).2.1); rintro e w' ⟨rfl, ⟨nd, rfl⟩⟩))
    go_meet
    case rel => exact ⟨_, (true), (by first | rfl | (simp; done) | (simp [*]; done)), H', ⟨by first | omega | exact Nat.le_refl _⟩, ⟨by (with_reducible repeat (first | apply Kd.V_alloc | apply Kd.V_drewN | apply Kd.V_drew)); exact HO0.out⟩, ⟨by (with_reducible repeat (first | apply Kd.V_alloc | apply Kd.V_drewN | apply Kd.V_drew)); exact HO1.out⟩, ⟨by repeat (first | (with_reducible first | exact HB.out | apply below_alloc | apply pw_below_drewN | apply below_drew1) | exact HB.out)⟩⟩
  ·
   replace c5 := Bool.eq_false_iff.mpr c5
   subst c5
   have H1 : (spec_GridPath.j0 k l0 l1 true) = some (r1, r2) := by rw [if_neg (show ¬ (false = true) by decide)] at H; exact H
   clear H
   have H := H1
   clear H1
   have H' := Aside0.mk H
   clear H
   go_wp2_with (first | ((with_reducible refine gate_callee (f := 67) rfl ?_); refine goesL_ (some 13) rfl rfl Try.func67 (by kernel_rfl) rfl #[.slice A0 l0.length c0] rfl (by (try simp only [List.map_toArray, List.map_cons, List.map_nil]); first | done | rfl) ?_; (with_reducible refine (spec_maGrid.calls k _ _ l0 false _ ?side1 ?side2 A4.out).mono ?_); (case side1 => repeat (first | exact (Kd.V_reads' HO0.out).2.2 | (with_reducible refine Kd.C_alloc ?_ _) | (with_reducible refine Kd.C_drewN ?_ _) | (with_reducible refine Kd.C_drew ?_))); (case side2 => exact (Kd.V_reads' HO0.out).2.1); rintro e w' ⟨rfl, ⟨nd, rfl⟩⟩; refine ⟨_, rfl, ?_⟩))
   go_meet
   case rel => exact ⟨_, (true), (by first | rfl | (simp; done) | (simp [*]; done)), H', ⟨by first | omega | exact Nat.le_refl _⟩, ⟨by (with_reducible repeat (first | apply Kd.V_alloc | apply Kd.V_drewN | apply Kd.V_drew)); exact HO0.out⟩, ⟨by (with_reducible repeat (first | apply Kd.V_alloc | apply Kd.V_drewN | apply Kd.V_drew)); exact HO1.out⟩, ⟨by repeat (first | (with_reducible first | exact HB.out | apply below_alloc | apply pw_below_drewN | apply below_drew1) | exact HB.out)⟩⟩
 case rest =>
  clear HC3
  try clear c1
  try clear p2
  try clear c4
  try clear c5
  try clear c6
  try clear c7
  obtain ⟨kq, x25_2, rfl, HA, HJ2, HO_0, HO_1, HB⟩ := hcut
  cases kq with
  | zero => exact absurd HA.out (by simp [spec_GridPath.j0])
  | succ kj2 =>
   have H := HA.out
   clear HA
   simp only [spec_GridPath.j0] at H
   by_cases c10 : x25_2 = true
   ·
    subst c10
    have H1 : (some (([] : List (S41)), false)) = some (r1, r2) := by rw [if_pos rfl] at H; exact H
    clear H
    have H := H1
    clear H1
    simp only [Option.some.injEq, Prod.mk.injEq] at H
    obtain ⟨rfl, rfl⟩ := H
    go_wp2
    go_ret2
    exact ⟨_, by first | rfl | (simp [errW_none, errW_some] <;> rfl) | (simp [*, errW_none, errW_some] <;> rfl), by first | exact Kd.R_nil _ _ _ _ _ | exact Kd.N_nil _ _ _ _ _ | exact Kd.V_nil _ _ _ _ _ | exact Kd.Q_nil _ _ _ _ _ | exact Kd.S_nil _ _ _ _ _, by repeat (first | (with_reducible first | exact HB.out | apply below_alloc | apply pw_below_drewN | apply below_drew1) | exact HB.out)⟩
   ·
    replace c10 := Bool.eq_false_iff.mpr c10
    subst c10
    have H1 : (if 0 < (l0.length : Int) then (spec_GridPath.l0 kj2 l0 l1 ([] : List (S41)) ([] : List (S41)) ((rd_L1 l0 0).length : Int) 0) else (none)) = some (r1, r2) := by rw [if_neg (show ¬ (false = true) by decide)] at H; exact H
    clear H
    have H := H1
    clear H1
    by_cases c11 : 0 < (l0.length : Int)
    ·
     rw [if_pos c11] at H
     have c11b0 : decide (0 < (l0.length : Int)) = true := decide_eq_true c11
     have c11b1 : decide (0 < l0.length) = true := decide_eq_true (by omega)
     clear c11
     have H' := Aside0.mk H
     clear H
     have p400 : 0 ≤ (0 : Int) := (by omega)
     have q400 : 0 < (l0.length : Int) := of_decide_eq_true (by first | (with_reducible assumption) | assumption)
     obtain ⟨ad400, A400_0, c400_0, e400, hx400_0, hl400_0, hi400_0⟩ := at_L1 (Kd.V_reads' HO_0.out).2.2 0 p400 q400
     cases e400
     obtain ⟨ce400, hce400, hMe400, hcc400⟩ := Kd.V_get HO_0.out [] 0 p400 (by first | exact q400 | exact of_decide_eq_true (by first | (with_reducible assumption) | assumption) | (have e_ := (Kd.V_reads' HO_0.out).1; omega))
     obtain ⟨ua400_0, uc400_0, rfl, ul400_0, ge400_0⟩ := Kd.FK_slice_open hMe400
     have hv400_0 := hcc400 0 _ rfl
     rw [Nat.add_zero, show ((Kd.slice 3 (Kd.int .i64))).sz = 1 from rfl, Nat.mul_one] at hv400_0
     replace hv400_0 := Option.some.inj (hv400_0.symm.trans hx400_0)
     injection hv400_0 with hva_ hvn_ hvc_
     rw [hva_] at ge400_0
     rw [hvc_] at ul400_0
     have HL400_0 := Aside0.mk (show Kd.V (Kd.int .i64) 3 _ w.heap.size _ _ (rd_L1 l0 0) from Kd.V_mk ul400_0 ge400_0)
     clear hva_ hvn_ hvc_ ge400_0 ul400_0
     clear hcc400 hce400
     have qi400 : (0 < l0.length) = True := eq_true (by omega)
     (try rw [show ((0 : Int)).toNat = 0 from rfl] at hx400_0)
     (try rw [Addr.add_zero'] at hx400_0)
     have HR400_0 := Aside0.mk hi400_0
     have HC400_0 := Aside0.mk hl400_0
     clear hi400_0 hl400_0
     replace p400 := eq_true p400
     replace q400 := eq_true q400
     go_wp2
     go_loopg [0, 1, 6, 7, 30] kj2 (fun kq v0 v1 v6 v7 v30 w' => ∃ (x0_2 : List (List Int)) (x1_2 : List (List Int)) (x6_2 : List (S41)) (x7_2 : List (S41)) (x30_2 : Int), v30 = .int .i64 x30_2 ∧ Aside0 (spec_GridPath.l0 kq x0_2 x1_2 x6_2 x7_2 ((rd_L1 l0 0).length : Int) x30_2 = some (r1, r2)) ∧ Aside0 (kq ≤ kj2) ∧ Aside0 (Kd.V (Kd.slice 3 (Kd.int .i64)) 33 w' w.heap.size (fun k_ => ((P0_ k_ ∨ P1_ k_) ∨ w.heap.size ≤ k_) ∧ some k_ ≠ (v6 : Value).ownBlock ∧ some k_ ≠ (v7 : Value).ownBlock) v0 x0_2) ∧ Aside0 (Kd.V (Kd.slice 3 (Kd.int .i64)) 33 w' w.heap.size (fun k_ => ((P0_ k_ ∨ P1_ k_) ∨ w.heap.size ≤ k_) ∧ some k_ ≠ (v6 : Value).ownBlock ∧ some k_ ≠ (v7 : Value).ownBlock) v1 x1_2) ∧ Aside0 (Kd.R k41 41 w' w.heap.size (fun k_ => (w.heap.size ≤ k_) ∧ some k_ ≠ (v7 : Value).ownBlock) v6 x6_2) ∧ Aside0 (Kd.R k41 41 w' w.heap.size (fun k_ => (w.heap.size ≤ k_) ∧ some k_ ≠ (v6 : Value).ownBlock) v7 x7_2) ∧ Aside0 (Below w.heap.size w w'))
     case atStart => exact ⟨(l0), (l1), (([] : List (S41))), (([] : List (S41))), (0), (by first | rfl | (simp; done) | (simp [*]; done)), H', ⟨Nat.le_refl _⟩, ⟨by (with_reducible repeat (first | apply Kd.V_alloc | apply Kd.V_drewN | apply Kd.V_drew)); exact Kd.V_mono HO_0.out (fun _ hk => ⟨hk, ⟨(by simp [Value.ownBlock]), (by simp [Value.ownBlock])⟩⟩)⟩, ⟨by (with_reducible repeat (first | apply Kd.V_alloc | apply Kd.V_drewN | apply Kd.V_drew)); exact Kd.V_mono HO_1.out (fun _ hk => ⟨hk, ⟨(by simp [Value.ownBlock]), (by simp [Value.ownBlock])⟩⟩)⟩, ⟨by first | exact Kd.R_nil _ _ _ _ _ | exact Kd.N_nil _ _ _ _ _ | exact Kd.V_nil _ _ _ _ _ | exact Kd.Q_nil _ _ _ _ _ | exact Kd.S_nil _ _ _ _ _⟩, ⟨by first | exact Kd.R_nil _ _ _ _ _ | exact Kd.N_nil _ _ _ _ _ | exact Kd.V_nil _ _ _ _ _ | exact Kd.Q_nil _ _ _ _ _ | exact Kd.S_nil _ _ _ _ _⟩, ⟨by repeat (first | (with_reducible first | exact HB.out | apply below_alloc | apply pw_below_drewN | apply below_drew1) | exact HB.out)⟩⟩
     case round =>
      clear H'
      try clear c1
      try clear p2
      try clear c4
      try clear p4
      try clear q4
      try clear hx4
      try clear qi4
      try clear c5
      try clear c6
      try clear c7
      try clear c10
      try clear c11
      try clear c11b0
      try clear c11b1
      try clear hx400_0
      try clear p2
      try clear p400
      try clear q400
      obtain ⟨x0_2, x1_2, x6_2, x7_2, x30_2, rfl, HA, HK2, HO_0, HO_1, HO_6, HO_7, HB⟩ := hrel
      cases gk with
      | zero => exact absurd HA.out (by simp [spec_GridPath.l0])
      | succ k2 =>
       have H := HA.out
       clear HA
       simp only [spec_GridPath.l0] at H
       by_cases c12 : x30_2 < ((rd_L1 l0 0).length : Int)
       ·
        rw [if_pos c12] at H
        have c12b0 : decide (x30_2 < ((rd_L1 l0 0).length : Int)) = true := decide_eq_true c12
        clear c12
        have H' := Aside0.mk H
        clear H
        go_wp2
        go_loopg [0, 1, 6, 7] k2 (fun kq v0 v1 v6 v7 w' => ∃ (x0_3 : List (List Int)) (x1_3 : List (List Int)) (x6_3 : List (S41)) (x7_3 : List (S41)), Aside0 (spec_GridPath.l1 kq x0_3 x1_3 x6_3 x7_3 x30_2 ((rd_L1 l0 0).length : Int) x30_2 = some (r1, r2)) ∧ Aside0 (kq ≤ k2) ∧ Aside0 (Kd.V (Kd.slice 3 (Kd.int .i64)) 33 w' w.heap.size (fun k_ => ((P0_ k_ ∨ P1_ k_) ∨ w.heap.size ≤ k_) ∧ some k_ ≠ (v6 : Value).ownBlock ∧ some k_ ≠ (v7 : Value).ownBlock) v0 x0_3) ∧ Aside0 (Kd.V (Kd.slice 3 (Kd.int .i64)) 33 w' w.heap.size (fun k_ => ((P0_ k_ ∨ P1_ k_) ∨ w.heap.size ≤ k_) ∧ some k_ ≠ (v6 : Value).ownBlock ∧ some k_ ≠ (v7 : Value).ownBlock) v1 x1_3) ∧ Aside0 (Kd.R k41 41 w' w.heap.size (fun k_ => (w.heap.size ≤ k_) ∧ some k_ ≠ (v7 : Value).ownBlock) v6 x6_3) ∧ Aside0 (Kd.R k41 41 w' w.heap.size (fun k_ => (w.heap.size ≤ k_) ∧ some k_ ≠ (v6 : Value).ownBlock) v7 x7_3) ∧ Aside0 (Below w.heap.size w w'))
        case atStart => exact ⟨(x0_2), (x1_2), (x6_2), (x7_2), H', ⟨Nat.le_refl _⟩, ⟨by (with_reducible repeat (first | apply Kd.V_alloc | apply Kd.V_drewN | apply Kd.V_drew)); exact HO_0.out⟩, ⟨by (with_reducible repeat (first | apply Kd.V_alloc | apply Kd.V_drewN | apply Kd.V_drew)); exact HO_1.out⟩, ⟨by (with_reducible repeat (first | apply Kd.R_alloc | apply Kd.R_drewN | apply Kd.R_drew)); exact HO_6.out⟩, ⟨by (with_reducible repeat (first | apply Kd.R_alloc | apply Kd.R_drewN | apply Kd.R_drew)); exact HO_7.out⟩, ⟨by repeat (first | (with_reducible first | exact HB.out | apply below_alloc | apply pw_below_drewN | apply below_drew1) | exact HB.out)⟩⟩
        case round =>
         clear H'
         try clear c1
         try clear p2
         try clear c4
         try clear p4
         try clear q4
         try clear hx4
         try clear qi4
         try clear c5
         try clear c6
         try clear c7
         try clear c10
         try clear c11
         try clear c11b0
         try clear c11b1
         try clear c12
         try clear c12b0
         try clear hx400_0
         try clear p2
         try clear p4
         try clear p400
         try clear q4
         try clear q400
         obtain ⟨x0_3, x1_3, x6_3, x7_3, HA, HK3, HO_0, HO_1, HO_6, HO_7, HB⟩ := hrel
         cases gk with
         | zero => exact absurd HA.out (by simp [spec_GridPath.l1])
         | succ k3 =>
          have H := HA.out
          clear HA
          simp only [spec_GridPath.l1] at H
          replace H := Option.bind_eq_some_iff.mp H
          obtain ⟨t404, A130, H⟩ := H
          replace H : (if t404 ≥ 0 then ((spec_maFirst.f k3 x0_3 x1_3 x30_2).bind fun t405 => ((spec_maFirst.f k3 x1_3 x0_3 x30_2).bind fun t406 => ((spec_l1Least.f t405 t406).bind fun t407 => ((spec_l1Most.f t405 t406).bind fun t408 => ((spec_maBeside.f k3 x0_3 t405 t406 x30_2).bind fun t409 => (if t409 ≥ 0 then ((spec_maDo.f k3 x0_3 t407 t408 x30_2 t409).bind fun t411 => (if x6_3.length < 4398046511104 then (spec_GridPath.l1 k3 t411 x1_3 (x6_3 ++ [(⟨t407, t408, x30_2, t409⟩ : S41)]) x7_3 x30_2 ((rd_L1 l0 0).length : Int) x30_2) else (none))) else ((spec_maBeside.f k3 x1_3 t406 t405 x30_2).bind fun t417 => ((spec_maDo.f k3 x1_3 t407 t408 x30_2 t417).bind fun t418 => ((some (([(⟨t407, t408, x30_2, t417⟩ : S41)] : List (S41)) : List (S41))).bind fun y421 => (if y421.length + x7_3.length < 4398046511104 then (spec_GridPath.l1 k3 x0_3 t418 x6_3 (y421 ++ x7_3) x30_2 ((rd_L1 l0 0).length : Int) x30_2) else (none))))))))))) else (spec_GridPath.l0 k3 x0_3 x1_3 x6_3 x7_3 ((rd_L1 l0 0).length : Int) (wrap64 (x30_2 + 1)))) = some (r1, r2) := H
          have A13 := Aside0.mk A130
          clear A130
          by_cases c14 : t404 ≥ 0
          ·
           rw [if_pos c14] at H
           have c14b0 : decide (0 ≤ t404) = true := decide_eq_true c14
           clear c14
           replace H := Option.bind_eq_some_iff.mp H
           obtain ⟨t405, A150, H⟩ := H
           replace H : ((spec_maFirst.f k3 x1_3 x0_3 x30_2).bind fun t406 => ((spec_l1Least.f t405 t406).bind fun t407 => ((spec_l1Most.f t405 t406).bind fun t408 => ((spec_maBeside.f k3 x0_3 t405 t406 x30_2).bind fun t409 => (if t409 ≥ 0 then ((spec_maDo.f k3 x0_3 t407 t408 x30_2 t409).bind fun t411 => (if x6_3.length < 4398046511104 then (spec_GridPath.l1 k3 t411 x1_3 (x6_3 ++ [(⟨t407, t408, x30_2, t409⟩ : S41)]) x7_3 x30_2 ((rd_L1 l0 0).length : Int) x30_2) else (none))) else ((spec_maBeside.f k3 x1_3 t406 t405 x30_2).bind fun t417 => ((spec_maDo.f k3 x1_3 t407 t408 x30_2 t417).bind fun t418 => ((some (([(⟨t407, t408, x30_2, t417⟩ : S41)] : List (S41)) : List (S41))).bind fun y421 => (if y421.length + x7_3.length < 4398046511104 then (spec_GridPath.l1 k3 x0_3 t418 x6_3 (y421 ++ x7_3) x30_2 ((rd_L1 l0 0).length : Int) x30_2) else (none)))))))))) = some (r1, r2) := H
           have A15 := Aside0.mk A150
           clear A150
           replace H := Option.bind_eq_some_iff.mp H
           obtain ⟨t406, A160, H⟩ := H
           replace H : ((spec_l1Least.f t405 t406).bind fun t407 => ((spec_l1Most.f t405 t406).bind fun t408 => ((spec_maBeside.f k3 x0_3 t405 t406 x30_2).bind fun t409 => (if t409 ≥ 0 then ((spec_maDo.f k3 x0_3 t407 t408 x30_2 t409).bind fun t411 => (if x6_3.length < 4398046511104 then (spec_GridPath.l1 k3 t411 x1_3 (x6_3 ++ [(⟨t407, t408, x30_2, t409⟩ : S41)]) x7_3 x30_2 ((rd_L1 l0 0).length : Int) x30_2) else (none))) else ((spec_maBeside.f k3 x1_3 t406 t405 x30_2).bind fun t417 => ((spec_maDo.f k3 x1_3 t407 t408 x30_2 t417).bind fun t418 => ((some (([(⟨t407, t408, x30_2, t417⟩ : S41)] : List (S41)) : List (S41))).bind fun y421 => (if y421.length + x7_3.length < 4398046511104 then (spec_GridPath.l1 k3 x0_3 t418 x6_3 (y421 ++ x7_3) x30_2 ((rd_L1 l0 0).length : Int) x30_2) else (none))))))))) = some (r1, r2) := H
           have A16 := Aside0.mk A160
           clear A160
           replace H := Option.bind_eq_some_iff.mp H
           obtain ⟨t407, A170, H⟩ := H
           replace H : ((spec_l1Most.f t405 t406).bind fun t408 => ((spec_maBeside.f k3 x0_3 t405 t406 x30_2).bind fun t409 => (if t409 ≥ 0 then ((spec_maDo.f k3 x0_3 t407 t408 x30_2 t409).bind fun t411 => (if x6_3.length < 4398046511104 then (spec_GridPath.l1 k3 t411 x1_3 (x6_3 ++ [(⟨t407, t408, x30_2, t409⟩ : S41)]) x7_3 x30_2 ((rd_L1 l0 0).length : Int) x30_2) else (none))) else ((spec_maBeside.f k3 x1_3 t406 t405 x30_2).bind fun t417 => ((spec_maDo.f k3 x1_3 t407 t408 x30_2 t417).bind fun t418 => ((some (([(⟨t407, t408, x30_2, t417⟩ : S41)] : List (S41)) : List (S41))).bind fun y421 => (if y421.length + x7_3.length < 4398046511104 then (spec_GridPath.l1 k3 x0_3 t418 x6_3 (y421 ++ x7_3) x30_2 ((rd_L1 l0 0).length : Int) x30_2) else (none)))))))) = some (r1, r2) := H
           have A17 := Aside0.mk A170
           clear A170
           replace H := Option.bind_eq_some_iff.mp H
           obtain ⟨t408, A180, H⟩ := H
           replace H : ((spec_maBeside.f k3 x0_3 t405 t406 x30_2).bind fun t409 => (if t409 ≥ 0 then ((spec_maDo.f k3 x0_3 t407 t408 x30_2 t409).bind fun t411 => (if x6_3.length < 4398046511104 then (spec_GridPath.l1 k3 t411 x1_3 (x6_3 ++ [(⟨t407, t408, x30_2, t409⟩ : S41)]) x7_3 x30_2 ((rd_L1 l0 0).length : Int) x30_2) else (none))) else ((spec_maBeside.f k3 x1_3 t406 t405 x30_2).bind fun t417 => ((spec_maDo.f k3 x1_3 t407 t408 x30_2 t417).bind fun t418 => ((some (([(⟨t407, t408, x30_2, t417⟩ : S41)] : List (S41)) : List (S41))).bind fun y421 => (if y421.length + x7_3.length < 4398046511104 then (spec_GridPath.l1 k3 x0_3 t418 x6_3 (y421 ++ x7_3) x30_2 ((rd_L1 l0 0).length : Int) x30_2) else (none))))))) = some (r1, r2) := H
           have A18 := Aside0.mk A180
           clear A180
           replace H := Option.bind_eq_some_iff.mp H
           obtain ⟨t409, A190, H⟩ := H
           replace H : (if t409 ≥ 0 then ((spec_maDo.f k3 x0_3 t407 t408 x30_2 t409).bind fun t411 => (if x6_3.length < 4398046511104 then (spec_GridPath.l1 k3 t411 x1_3 (x6_3 ++ [(⟨t407, t408, x30_2, t409⟩ : S41)]) x7_3 x30_2 ((rd_L1 l0 0).length : Int) x30_2) else (none))) else ((spec_maBeside.f k3 x1_3 t406 t405 x30_2).bind fun t417 => ((spec_maDo.f k3 x1_3 t407 t408 x30_2 t417).bind fun t418 => ((some (([(⟨t407, t408, x30_2, t417⟩ : S41)] : List (S41)) : List (S41))).bind fun y421 => (if y421.length + x7_3.length < 4398046511104 then (spec_GridPath.l1 k3 x0_3 t418 x6_3 (y421 ++ x7_3) x30_2 ((rd_L1 l0 0).length : Int) x30_2) else (none)))))) = some (r1, r2) := H
           have A19 := Aside0.mk A190
           clear A190
           by_cases c20 : t409 ≥ 0
           ·
            rw [if_pos c20] at H
            have c20b0 : decide (0 ≤ t409) = true := decide_eq_true c20
            clear c20
            replace H := Option.bind_eq_some_iff.mp H
            obtain ⟨t411, A210, H⟩ := H
            replace H : (if x6_3.length < 4398046511104 then (spec_GridPath.l1 k3 t411 x1_3 (x6_3 ++ [(⟨t407, t408, x30_2, t409⟩ : S41)]) x7_3 x30_2 ((rd_L1 l0 0).length : Int) x30_2) else (none)) = some (r1, r2) := H
            have A21 := Aside0.mk A210
            clear A210
            by_cases c22 : x6_3.length < 4398046511104
            ·
             rw [if_pos c22] at H
             have LMc22 := Aside0.mk c22
             clear c22
             obtain ⟨y414, hy414⟩ : ∃ y_ : List (S41), y_ = (x6_3 ++ [(⟨t407, t408, x30_2, t409⟩ : S41)]) := ⟨_, rfl⟩
             replace H : (spec_GridPath.l1 k3 t411 x1_3 y414 x7_3 x30_2 ((rd_L1 l0 0).length : Int) x30_2) = some (r1, r2) := by first | (rw [hy414]; with_reducible exact H) | (have H2_ := (Option.bind_some _ _).symm.trans H; rw [hy414]; with_reducible exact H2_) | (have H2_ := (Option.bind_some _ _).symm.trans H; with_reducible exact H2_) | with_reducible exact H | (rw [hy414]; exact H) | exact H
             have Ny414 := Aside0.mk hy414
             clear hy414
             have H' := Aside0.mk H
             clear H
             obtain ⟨Ao23, co23, eo23⟩ := Kd.V_slice HO_0.out
             subst eo23
             obtain ⟨Ao24, co24, eo24⟩ := Kd.V_slice HO_1.out
             subst eo24
             go_wp2_with (first | ((with_reducible refine gate_callee (f := 86) rfl ?_); refine goesL_ (some 36) rfl rfl Try.func86 (by kernel_rfl) rfl #[.slice Ao23 x0_3.length co23, .slice Ao24 x1_3.length co24, .int .i64 x30_2] rfl (by (try simp only [List.map_toArray, List.map_cons, List.map_nil]); first | done | rfl) ?_; (with_reducible refine (spec_maFirst.calls k3 _ _ x0_3 _ _ x1_3 x30_2 t404 _ ?side1 ?side2 ?side3 ?side4 A13.out).mono ?_); (case side1 => repeat (first | exact (Kd.V_reads' HO_0.out).2.2 | (with_reducible refine Kd.C_alloc ?_ _) | (with_reducible refine Kd.C_drewN ?_ _) | (with_reducible refine Kd.C_drew ?_))); (case side2 => exact (Kd.V_reads' HO_0.out).2.1); (case side3 => repeat (first | exact (Kd.V_reads' HO_1.out).2.2 | (with_reducible refine Kd.C_alloc ?_ _) | (with_reducible refine Kd.C_drewN ?_ _) | (with_reducible refine Kd.C_drew ?_))); (case side4 => exact (Kd.V_reads' HO_1.out).2.1); rintro e w' ⟨rfl, ⟨nd, rfl⟩⟩; refine ⟨_, rfl, ?_⟩; (try (rw [drewN_self wr]; generalize hq_ : World.drewN wr _ = wr; have n0_ : Aside0 (Kd.V (Kd.slice 3 (Kd.int .i64)) 33 wr w.heap.size (fun k_ => ((P0_ k_ ∨ P1_ k_) ∨ w.heap.size ≤ k_) ∧ some k_ ≠ (u6 : Value).ownBlock ∧ some k_ ≠ (u7 : Value).ownBlock) (.slice Ao23 x0_3.length co23) x0_3) := ⟨by rw [← hq_]; exact (by (with_reducible repeat (first | apply Kd.V_alloc | apply Kd.V_drewN | apply Kd.V_drew)); exact HO_0.out)⟩; have n1_ : Aside0 (Kd.V (Kd.slice 3 (Kd.int .i64)) 33 wr w.heap.size (fun k_ => ((P0_ k_ ∨ P1_ k_) ∨ w.heap.size ≤ k_) ∧ some k_ ≠ (u6 : Value).ownBlock ∧ some k_ ≠ (u7 : Value).ownBlock) (.slice Ao24 x1_3.length co24) x1_3) := ⟨by rw [← hq_]; exact (by (with_reducible repeat (first | apply Kd.V_alloc | apply Kd.V_drewN | apply Kd.V_drew)); exact HO_1.out)⟩; have n2_ : Aside0 (Kd.R k41 41 wr w.heap.size (fun k_ => (w.heap.size ≤ k_) ∧ some k_ ≠ (u7 : Value).ownBlock) u6 x6_3) := ⟨by rw [← hq_]; exact (by (with_reducible repeat (first | apply Kd.R_alloc | apply Kd.R_drewN | apply Kd.R_drew)); exact HO_6.out)⟩; have n3_ : Aside0 (Kd.R k41 41 wr w.heap.size (fun k_ => (w.heap.size ≤ k_) ∧ some k_ ≠ (u6 : Value).ownBlock) u7 x7_3) := ⟨by rw [← hq_]; exact (by (with_reducible repeat (first | apply Kd.R_alloc | apply Kd.R_drewN | apply Kd.R_drew)); exact HO_7.out)⟩; have n4_ : Aside0 (Below w.heap.size w wr) := ⟨by rw [← hq_]; exact (by repeat (first | (with_reducible first | exact HB.out | apply below_alloc | apply pw_below_drewN | apply below_drew1)))⟩; clear HO_0 HO_1 HO_6 HO_7 HB hq_; have HO_0 := n0_; have HO_1 := n1_; have HO_6 := n2_; have HO_7 := n3_; have HB := n4_; clear n0_ n1_ n2_ n3_ n4_))) | ((with_reducible refine gate_callee (f := 86) rfl ?_); refine goesL_ (some 41) rfl rfl Try.func86 (by kernel_rfl) rfl #[.slice Ao23 x0_3.length co23, .slice Ao24 x1_3.length co24, .int .i64 x30_2] rfl (by (try simp only [List.map_toArray, List.map_cons, List.map_nil]); first | done | rfl) ?_; (with_reducible refine (spec_maFirst.calls k3 _ _ x0_3 _ _ x1_3 x30_2 t405 _ ?side1 ?side2 ?side3 ?side4 A15.out).mono ?_); (case side1 => repeat (first | exact (Kd.V_reads' HO_0.out).2.2 | (with_reducible refine Kd.C_alloc ?_ _) | (with_reducible refine Kd.C_drewN ?_ _) | (with_reducible refine Kd.C_drew ?_))); (case side2 => exact (Kd.V_reads' HO_0.out).2.1); (case side3 => repeat (first | exact (Kd.V_reads' HO_1.out).2.2 | (with_reducible refine Kd.C_alloc ?_ _) | (with_reducible refine Kd.C_drewN ?_ _) | (with_reducible refine Kd.C_drew ?_))); (case side4 => exact (Kd.V_reads' HO_1.out).2.1); rintro e w' ⟨rfl, ⟨nd, rfl⟩⟩; refine ⟨_, rfl, ?_⟩; (try (rw [drewN_self wr]; generalize hq_ : World.drewN wr _ = wr; have n0_ : Aside0 (Kd.V (Kd.slice 3 (Kd.int .i64)) 33 wr w.heap.size (fun k_ => ((P0_ k_ ∨ P1_ k_) ∨ w.heap.size ≤ k_) ∧ some k_ ≠ (u6 : Value).ownBlock ∧ some k_ ≠ (u7 : Value).ownBlock) (.slice Ao23 x0_3.length co23) x0_3) := ⟨by rw [← hq_]; exact (by (with_reducible repeat (first | apply Kd.V_alloc | apply Kd.V_drewN | apply Kd.V_drew)); exact HO_0.out)⟩; have n1_ : Aside0 (Kd.V (Kd.slice 3 (Kd.int .i64)) 33 wr w.heap.size (fun k_ => ((P0_ k_ ∨ P1_ k_) ∨ w.heap.size ≤ k_) ∧ some k_ ≠ (u6 : Value).ownBlock ∧ some k_ ≠ (u7 : Value).ownBlock) (.slice Ao24 x1_3.length co24) x1_3) := ⟨by rw [← hq_]; exact (by (with_reducible repeat (first | apply Kd.V_alloc | apply Kd.V_drewN | apply Kd.V_drew)); exact HO_1.out)⟩; have n2_ : Aside0 (Kd.R k41 41 wr w.heap.size (fun k_ => (w.heap.size ≤ k_) ∧ some k_ ≠ (u7 : Value).ownBlock) u6 x6_3) := ⟨by rw [← hq_]; exact (by (with_reducible repeat (first | apply Kd.R_alloc | apply Kd.R_drewN | apply Kd.R_drew)); exact HO_6.out)⟩; have n3_ : Aside0 (Kd.R k41 41 wr w.heap.size (fun k_ => (w.heap.size ≤ k_) ∧ some k_ ≠ (u6 : Value).ownBlock) u7 x7_3) := ⟨by rw [← hq_]; exact (by (with_reducible repeat (first | apply Kd.R_alloc | apply Kd.R_drewN | apply Kd.R_drew)); exact HO_7.out)⟩; have n4_ : Aside0 (Below w.heap.size w wr) := ⟨by rw [← hq_]; exact (by repeat (first | (with_reducible first | exact HB.out | apply below_alloc | apply pw_below_drewN | apply below_drew1)))⟩; clear HO_0 HO_1 HO_6 HO_7 HB hq_; have HO_0 := n0_; have HO_1 := n1_; have HO_6 := n2_; have HO_7 := n3_; have HB := n4_; clear n0_ n1_ n2_ n3_ n4_))) | ((with_reducible refine gate_callee (f := 86) rfl ?_); refine goesL_ (some 45) rfl rfl Try.func86 (by kernel_rfl) rfl #[.slice Ao24 x1_3.length co24, .slice Ao23 x0_3.length co23, .int .i64 x30_2] rfl (by (try simp only [List.map_toArray, List.map_cons, List.map_nil]); first | done | rfl) ?_; (with_reducible refine (spec_maFirst.calls k3 _ _ x1_3 _ _ x0_3 x30_2 t406 _ ?side1 ?side2 ?side3 ?side4 A16.out).mono ?_); (case side1 => repeat (first | exact (Kd.V_reads' HO_1.out).2.2 | (with_reducible refine Kd.C_alloc ?_ _) | (with_reducible refine Kd.C_drewN ?_ _) | (with_reducible refine Kd.C_drew ?_))); (case side2 => exact (Kd.V_reads' HO_1.out).2.1); (case side3 => repeat (first | exact (Kd.V_reads' HO_0.out).2.2 | (with_reducible refine Kd.C_alloc ?_ _) | (with_reducible refine Kd.C_drewN ?_ _) | (with_reducible refine Kd.C_drew ?_))); (case side4 => exact (Kd.V_reads' HO_0.out).2.1); rintro e w' ⟨rfl, ⟨nd, rfl⟩⟩; refine ⟨_, rfl, ?_⟩; (try (rw [drewN_self wr]; generalize hq_ : World.drewN wr _ = wr; have n0_ : Aside0 (Kd.V (Kd.slice 3 (Kd.int .i64)) 33 wr w.heap.size (fun k_ => ((P0_ k_ ∨ P1_ k_) ∨ w.heap.size ≤ k_) ∧ some k_ ≠ (u6 : Value).ownBlock ∧ some k_ ≠ (u7 : Value).ownBlock) (.slice Ao23 x0_3.length co23) x0_3) := ⟨by rw [← hq_]; exact (by (with_reducible repeat (first | apply Kd.V_alloc | apply Kd.V_drewN | apply Kd.V_drew)); exact HO_0.out)⟩; have n1_ : Aside0 (Kd.V (Kd.slice 3 (Kd.int .i64)) 33 wr w.heap.size (fun k_ => ((P0_ k_ ∨ P1_ k_) ∨ w.heap.size ≤ k_) ∧ some k_ ≠ (u6 : Value).ownBlock ∧ some k_ ≠ (u7 : Value).ownBlock) (.slice Ao24 x1_3.length co24) x1_3) := ⟨by rw [← hq_]; exact (by (with_reducible repeat (first | apply Kd.V_alloc | apply Kd.V_drewN | apply Kd.V_drew)); exact HO_1.out)⟩; have n2_ : Aside0 (Kd.R k41 41 wr w.heap.size (fun k_ => (w.heap.size ≤ k_) ∧ some k_ ≠ (u7 : Value).ownBlock) u6 x6_3) := ⟨by rw [← hq_]; exact (by (with_reducible repeat (first | apply Kd.R_alloc | apply Kd.R_drewN | apply Kd.R_drew)); exact HO_6.out)⟩; have n3_ : Aside0 (Kd.R k41 41 wr w.heap.size (fun k_ => (w.heap.size ≤ k_) ∧ some k_ ≠ (u6 : Value).ownBlock) u7 x7_3) := ⟨by rw [← hq_]; exact (by (with_reducible repeat (first | apply Kd.R_alloc | apply Kd.R_drewN | apply Kd.R_drew)); exact HO_7.out)⟩; have n4_ : Aside0 (Below w.heap.size w wr) := ⟨by rw [← hq_]; exact (by repeat (first | (with_reducible first | exact HB.out | apply below_alloc | apply pw_below_drewN | apply below_drew1)))⟩; clear HO_0 HO_1 HO_6 HO_7 HB hq_; have HO_0 := n0_; have HO_1 := n1_; have HO_6 := n2_; have HO_7 := n3_; have HB := n4_; clear n0_ n1_ n2_ n3_ n4_))) | ((with_reducible refine gate_callee (f := 87) rfl ?_); refine goesL_ (some 48) rfl rfl Try.func87 (by kernel_rfl) rfl #[.int .i64 t405, .int .i64 t406] rfl (by (try simp only [List.map_toArray, List.map_cons, List.map_nil]); first | done | rfl) ?_; (with_reducible refine (spec_l1Least.calls t405 t406 t407 _ A17.out).mono ?_); rintro e w' ⟨rfl, ⟨nd, rfl⟩⟩; refine ⟨_, rfl, ?_⟩; (try (rw [drewN_self wr]; generalize hq_ : World.drewN wr _ = wr; have n0_ : Aside0 (Kd.V (Kd.slice 3 (Kd.int .i64)) 33 wr w.heap.size (fun k_ => ((P0_ k_ ∨ P1_ k_) ∨ w.heap.size ≤ k_) ∧ some k_ ≠ (u6 : Value).ownBlock ∧ some k_ ≠ (u7 : Value).ownBlock) (.slice Ao23 x0_3.length co23) x0_3) := ⟨by rw [← hq_]; exact (by (with_reducible repeat (first | apply Kd.V_alloc | apply Kd.V_drewN | apply Kd.V_drew)); exact HO_0.out)⟩; have n1_ : Aside0 (Kd.V (Kd.slice 3 (Kd.int .i64)) 33 wr w.heap.size (fun k_ => ((P0_ k_ ∨ P1_ k_) ∨ w.heap.size ≤ k_) ∧ some k_ ≠ (u6 : Value).ownBlock ∧ some k_ ≠ (u7 : Value).ownBlock) (.slice Ao24 x1_3.length co24) x1_3) := ⟨by rw [← hq_]; exact (by (with_reducible repeat (first | apply Kd.V_alloc | apply Kd.V_drewN | apply Kd.V_drew)); exact HO_1.out)⟩; have n2_ : Aside0 (Kd.R k41 41 wr w.heap.size (fun k_ => (w.heap.size ≤ k_) ∧ some k_ ≠ (u7 : Value).ownBlock) u6 x6_3) := ⟨by rw [← hq_]; exact (by (with_reducible repeat (first | apply Kd.R_alloc | apply Kd.R_drewN | apply Kd.R_drew)); exact HO_6.out)⟩; have n3_ : Aside0 (Kd.R k41 41 wr w.heap.size (fun k_ => (w.heap.size ≤ k_) ∧ some k_ ≠ (u6 : Value).ownBlock) u7 x7_3) := ⟨by rw [← hq_]; exact (by (with_reducible repeat (first | apply Kd.R_alloc | apply Kd.R_drewN | apply Kd.R_drew)); exact HO_7.out)⟩; have n4_ : Aside0 (Below w.heap.size w wr) := ⟨by rw [← hq_]; exact (by repeat (first | (with_reducible first | exact HB.out | apply below_alloc | apply pw_below_drewN | apply below_drew1)))⟩; clear HO_0 HO_1 HO_6 HO_7 HB hq_; have HO_0 := n0_; have HO_1 := n1_; have HO_6 := n2_; have HO_7 := n3_; have HB := n4_; clear n0_ n1_ n2_ n3_ n4_))) | ((with_reducible refine gate_callee (f := 72) rfl ?_); refine goesL_ (some 51) rfl rfl Try.func72 (by kernel_rfl) rfl #[.int .i64 t405, .int .i64 t406] rfl (by (try simp only [List.map_toArray, List.map_cons, List.map_nil]); first | done | rfl) ?_; (with_reducible refine (spec_l1Most.calls t405 t406 t408 _ A18.out).mono ?_); rintro e w' ⟨rfl, ⟨nd, rfl⟩⟩; refine ⟨_, rfl, ?_⟩; (try (rw [drewN_self wr]; generalize hq_ : World.drewN wr _ = wr; have n0_ : Aside0 (Kd.V (Kd.slice 3 (Kd.int .i64)) 33 wr w.heap.size (fun k_ => ((P0_ k_ ∨ P1_ k_) ∨ w.heap.size ≤ k_) ∧ some k_ ≠ (u6 : Value).ownBlock ∧ some k_ ≠ (u7 : Value).ownBlock) (.slice Ao23 x0_3.length co23) x0_3) := ⟨by rw [← hq_]; exact (by (with_reducible repeat (first | apply Kd.V_alloc | apply Kd.V_drewN | apply Kd.V_drew)); exact HO_0.out)⟩; have n1_ : Aside0 (Kd.V (Kd.slice 3 (Kd.int .i64)) 33 wr w.heap.size (fun k_ => ((P0_ k_ ∨ P1_ k_) ∨ w.heap.size ≤ k_) ∧ some k_ ≠ (u6 : Value).ownBlock ∧ some k_ ≠ (u7 : Value).ownBlock) (.slice Ao24 x1_3.length co24) x1_3) := ⟨by rw [← hq_]; exact (by (with_reducible repeat (first | apply Kd.V_alloc | apply Kd.V_drewN | apply Kd.V_drew)); exact HO_1.out)⟩; have n2_ : Aside0 (Kd.R k41 41 wr w.heap.size (fun k_ => (w.heap.size ≤ k_) ∧ some k_ ≠ (u7 : Value).ownBlock) u6 x6_3) := ⟨by rw [← hq_]; exact (by (with_reducible repeat (first | apply Kd.R_alloc | apply Kd.R_drewN | apply Kd.R_drew)); exact HO_6.out)⟩; have n3_ : Aside0 (Kd.R k41 41 wr w.heap.size (fun k_ => (w.heap.size ≤ k_) ∧ some k_ ≠ (u6 : Value).ownBlock) u7 x7_3) := ⟨by rw [← hq_]; exact (by (with_reducible repeat (first | apply Kd.R_alloc | apply Kd.R_drewN | apply Kd.R_drew)); exact HO_7.out)⟩; have n4_ : Aside0 (Below w.heap.size w wr) := ⟨by rw [← hq_]; exact (by repeat (first | (with_reducible first | exact HB.out | apply below_alloc | apply pw_below_drewN | apply below_drew1)))⟩; clear HO_0 HO_1 HO_6 HO_7 HB hq_; have HO_0 := n0_; have HO_1 := n1_; have HO_6 := n2_; have HO_7 := n3_; have HB := n4_; clear n0_ n1_ n2_ n3_ n4_))) | ((with_reducible refine gate_callee (f := 88) rfl ?_); refine goesL_ (some 57) rfl rfl Try.func88 (by kernel_rfl) rfl #[.slice Ao23 x0_3.length co23, .int .i64 t405, .int .i64 t406, .int .i64 x30_2] rfl (by (try simp only [List.map_toArray, List.map_cons, List.map_nil]); first | done | rfl) ?_; (with_reducible refine (spec_maBeside.calls k3 _ _ x0_3 t405 t406 x30_2 t409 _ ?side1 ?side2 A19.out).mono ?_); (case side1 => repeat (first | exact (Kd.V_reads' HO_0.out).2.2 | (with_reducible refine Kd.C_alloc ?_ _) | (with_reducible refine Kd.C_drewN ?_ _) | (with_reducible refine Kd.C_drew ?_))); (case side2 => exact (Kd.V_reads' HO_0.out).2.1); rintro e w' ⟨rfl, ⟨nd, rfl⟩⟩; refine ⟨_, rfl, ?_⟩; (try (rw [drewN_self wr]; generalize hq_ : World.drewN wr _ = wr; have n0_ : Aside0 (Kd.V (Kd.slice 3 (Kd.int .i64)) 33 wr w.heap.size (fun k_ => ((P0_ k_ ∨ P1_ k_) ∨ w.heap.size ≤ k_) ∧ some k_ ≠ (u6 : Value).ownBlock ∧ some k_ ≠ (u7 : Value).ownBlock) (.slice Ao23 x0_3.length co23) x0_3) := ⟨by rw [← hq_]; exact (by (with_reducible repeat (first | apply Kd.V_alloc | apply Kd.V_drewN | apply Kd.V_drew)); exact HO_0.out)⟩; have n1_ : Aside0 (Kd.V (Kd.slice 3 (Kd.int .i64)) 33 wr w.heap.size (fun k_ => ((P0_ k_ ∨ P1_ k_) ∨ w.heap.size ≤ k_) ∧ some k_ ≠ (u6 : Value).ownBlock ∧ some k_ ≠ (u7 : Value).ownBlock) (.slice Ao24 x1_3.length co24) x1_3) := ⟨by rw [← hq_]; exact (by (with_reducible repeat (first | apply Kd.V_alloc | apply Kd.V_drewN | apply Kd.V_drew)); exact HO_1.out)⟩; have n2_ : Aside0 (Kd.R k41 41 wr w.heap.size (fun k_ => (w.heap.size ≤ k_) ∧ some k_ ≠ (u7 : Value).ownBlock) u6 x6_3) := ⟨by rw [← hq_]; exact (by (with_reducible repeat (first | apply Kd.R_alloc | apply Kd.R_drewN | apply Kd.R_drew)); exact HO_6.out)⟩; have n3_ : Aside0 (Kd.R k41 41 wr w.heap.size (fun k_ => (w.heap.size ≤ k_) ∧ some k_ ≠ (u6 : Value).ownBlock) u7 x7_3) := ⟨by rw [← hq_]; exact (by (with_reducible repeat (first | apply Kd.R_alloc | apply Kd.R_drewN | apply Kd.R_drew)); exact HO_7.out)⟩; have n4_ : Aside0 (Below w.heap.size w wr) := ⟨by rw [← hq_]; exact (by repeat (first | (with_reducible first | exact HB.out | apply below_alloc | apply pw_below_drewN | apply below_drew1)))⟩; clear HO_0 HO_1 HO_6 HO_7 HB hq_; have HO_0 := n0_; have HO_1 := n1_; have HO_6 := n2_; have HO_7 := n3_; have HB := n4_; clear n0_ n1_ n2_ n3_ n4_))) | ((with_reducible refine gate_dst (N := 11) rfl ?_); refine box_event ?hg (N := 11) ?hd (cs := #[.int .i64 0, .int .i64 0, .int .i64 0, .int .i64 0]) (t := 41) ?hr ?_; (case hd => rfl); (case hg => rfl); (case hr => first | (go_simp; done) | (go_simp; rfl)); intro gb410 hg w25 hbox hb; have n0_ := Aside0.mk (Kd.V_below (Kd.V_elderB (by (with_reducible repeat (first | apply Kd.V_alloc | apply Kd.V_drewN | apply Kd.V_drew)); exact HO_0.out) gb410 (Nat.le_of_eq hg.symm)) hb); have n1_ := Aside0.mk (Kd.V_below (Kd.V_elderB (by (with_reducible repeat (first | apply Kd.V_alloc | apply Kd.V_drewN | apply Kd.V_drew)); exact HO_1.out) gb410 (Nat.le_of_eq hg.symm)) hb); have n2_ := Aside0.mk (Kd.R_below (Kd.R_elderB (by (with_reducible repeat (first | apply Kd.R_alloc | apply Kd.R_drewN | apply Kd.R_drew)); exact HO_6.out) gb410 (Nat.le_of_eq hg.symm)) hb); have n3_ := Aside0.mk (Kd.R_below (Kd.R_elderB (by (with_reducible repeat (first | apply Kd.R_alloc | apply Kd.R_drewN | apply Kd.R_drew)); exact HO_7.out) gb410 (Nat.le_of_eq hg.symm)) hb); have n4_ := Aside0.mk (below_step (by repeat (first | (with_reducible first | exact HB.out | apply below_alloc | apply pw_below_drewN | apply below_drew1))) hb); have n5_ := Aside0.mk (hbox); have n6_ := Aside0.mk ((by rw [hg]; exact (below_size (by repeat (first | (with_reducible first | exact HB.out | apply below_alloc | apply pw_below_drewN | apply below_drew1)))) : w.heap.size ≤ gb410)); have n7_ := Aside0.mk ((by rw [hg]; exact (below_size (by repeat (first | (with_reducible first | exact HB.out | apply below_alloc | apply pw_below_drewN | apply below_drew1)))) : w.heap.size ≤ gb410)); clear HO_0; clear HO_1; clear HO_6; clear HO_7; clear HB; have HO_0 := n0_; have HO_1 := n1_; have HO_6 := n2_; have HO_7 := n3_; have HB := n4_; have BK410 := n5_; have GW410 := n6_; have GE410 := n7_; clear n0_ n1_ n2_ n3_ n4_ n5_ n6_ n7_; clear hb hbox hg; have hcz26_0 : w25.cell? ⟨gb410, 0, none⟩ = some (.int .i64 0) := (blk_cell BK410.out 0).trans rfl; have hcz26_1 : w25.cell? ⟨gb410, 1, none⟩ = some (.int .i64 0) := (blk_cell BK410.out 1).trans rfl; have hcz26_2 : w25.cell? ⟨gb410, 2, none⟩ = some (.int .i64 0) := (blk_cell BK410.out 2).trans rfl; have hcz26_3 : w25.cell? ⟨gb410, 3, none⟩ = some (.int .i64 0) := (blk_cell BK410.out 3).trans rfl; have hfz26_0 := blk_frozen BK410.out 0; have hfz26_1 := blk_frozen BK410.out 1; have hfz26_2 := blk_frozen BK410.out 2; have hfz26_3 := blk_frozen BK410.out 3) | ((with_reducible refine gate_callee (f := 81) rfl ?_); refine goesL_ (some 64) rfl rfl Try.func81 (by kernel_rfl) rfl #[.slice Ao23 x0_3.length co23, .agg #[.int .i64 t407, .int .i64 t408, .int .i64 x30_2, .int .i64 t409]] rfl (by (try simp only [List.map_toArray, List.map_cons, List.map_nil]); first | done | rfl) ?_; (with_reducible refine (spec_maDo.calls k3 _ _ x0_3 t407 t408 x30_2 t409 t411 _ ?side1 ?side2 A21.out).mono ?_); (case side1 => refine (Kd.V_reads' (e := 33) (base := w.heap.size) (ok := fun k_ => (((((P0_ k_ ∨ P1_ k_) ∨ w.heap.size ≤ k_)) ∧ (some k_ ≠ (u6 : Value).ownBlock ∧ some k_ ≠ (u7 : Value).ownBlock)) ∧ k_ ≠ gb410)) (n := x0_3.length) (c := co23) ?_).2.2; exact (by (with_reducible repeat (first | apply Kd.V_alloc | apply Kd.V_drewN | apply Kd.V_drew)); exact (Kd.V_mono (Kd.V_far (p := ⟨gb410, 3, none⟩) (Kd.V_far (p := ⟨gb410, 2, none⟩) (Kd.V_far (p := ⟨gb410, 1, none⟩) (Kd.V_far (p := ⟨gb410, 0, none⟩) (Kd.V_mono HO_0.out (fun k_ hk => (⟨hk, hk.2⟩ : _ ∧ k_ ≠ gb410))) (fun _ hk => hk.2) (.int .i64 t407)) (fun _ hk => hk.2) (.int .i64 t408)) (fun _ hk => hk.2) (.int .i64 x30_2)) (fun _ hk => hk.2) (.int .i64 t409)) (fun _ h_ => h_.1)))); (case side2 => exact (Kd.V_reads' HO_0.out).2.1); rintro e w27 ⟨v412, rfl, ho0, hb⟩; refine ⟨_, rfl, ?_⟩; have n0_ := Aside0.mk (Kd.V_elder' (by (with_reducible repeat (first | apply Kd.V_alloc | apply Kd.V_drewN | apply Kd.V_drew)); exact (Kd.V_mono (Kd.V_far (p := ⟨gb410, 3, none⟩) (Kd.V_far (p := ⟨gb410, 2, none⟩) (Kd.V_far (p := ⟨gb410, 1, none⟩) (Kd.V_far (p := ⟨gb410, 0, none⟩) (Kd.V_mono HO_0.out (fun k_ hk => (⟨hk, hk.2⟩ : _ ∧ k_ ≠ gb410))) (fun _ hk => hk.2) (.int .i64 t407)) (fun _ hk => hk.2) (.int .i64 t408)) (fun _ hk => hk.2) (.int .i64 x30_2)) (fun _ hk => hk.2) (.int .i64 t409)) (fun _ h_ => h_.1))) (Kd.S_base ho0) hb); have n1_ := Aside0.mk (Kd.V_elder' (by (with_reducible repeat (first | apply Kd.V_alloc | apply Kd.V_drewN | apply Kd.V_drew)); exact (Kd.V_mono (Kd.V_far (p := ⟨gb410, 3, none⟩) (Kd.V_far (p := ⟨gb410, 2, none⟩) (Kd.V_far (p := ⟨gb410, 1, none⟩) (Kd.V_far (p := ⟨gb410, 0, none⟩) (Kd.V_mono HO_1.out (fun k_ hk => (⟨hk, hk.2⟩ : _ ∧ k_ ≠ gb410))) (fun _ hk => hk.2) (.int .i64 t407)) (fun _ hk => hk.2) (.int .i64 t408)) (fun _ hk => hk.2) (.int .i64 x30_2)) (fun _ hk => hk.2) (.int .i64 t409)) (fun _ h_ => h_.1))) (Kd.S_base ho0) hb); have n2_ := Aside0.mk (Kd.R_below (by (with_reducible repeat (first | apply Kd.R_alloc | apply Kd.R_drewN | apply Kd.R_drew)); exact (Kd.R_mono (Kd.R_far (p := ⟨gb410, 3, none⟩) (Kd.R_far (p := ⟨gb410, 2, none⟩) (Kd.R_far (p := ⟨gb410, 1, none⟩) (Kd.R_far (p := ⟨gb410, 0, none⟩) (Kd.R_mono HO_6.out (fun k_ hk => (⟨hk, hk.2⟩ : _ ∧ k_ ≠ gb410))) (fun _ hk => hk.2) (.int .i64 t407)) (fun _ hk => hk.2) (.int .i64 t408)) (fun _ hk => hk.2) (.int .i64 x30_2)) (fun _ hk => hk.2) (.int .i64 t409)) (fun _ h_ => h_.1))) hb); have n3_ := Aside0.mk (Kd.R_below (by (with_reducible repeat (first | apply Kd.R_alloc | apply Kd.R_drewN | apply Kd.R_drew)); exact (Kd.R_mono (Kd.R_far (p := ⟨gb410, 3, none⟩) (Kd.R_far (p := ⟨gb410, 2, none⟩) (Kd.R_far (p := ⟨gb410, 1, none⟩) (Kd.R_far (p := ⟨gb410, 0, none⟩) (Kd.R_mono HO_7.out (fun k_ hk => (⟨hk, hk.2⟩ : _ ∧ k_ ≠ gb410))) (fun _ hk => hk.2) (.int .i64 t407)) (fun _ hk => hk.2) (.int .i64 t408)) (fun _ hk => hk.2) (.int .i64 x30_2)) (fun _ hk => hk.2) (.int .i64 t409)) (fun _ h_ => h_.1))) hb); have n4_ := Aside0.mk (Kd.S_lower (Kd.S_newM (M := fun k_ => (w.heap.size ≤ k_)) ho0 (below_size (by repeat (first | (with_reducible first | exact HB.out | apply below_alloc | apply pw_below_drewN | apply below_drew1 | refine below_set ?_ GE410.out) | exact HB.out))) (fun k_ h_ => h_)) (below_size (by repeat (first | (with_reducible first | exact HB.out | apply below_alloc | apply pw_below_drewN | apply below_drew1 | refine below_set ?_ GE410.out) | exact HB.out)))); have n5_ := Aside0.mk (blk_below (g := gb410) (o := .cells #[.int .i64 t407, .int .i64 t408, .int .i64 x30_2, .int .i64 t409] 41 (0, 0)) (by (with_reducible repeat (first | refine blk_drewN ?_ _ | refine blk_drew ?_ | refine blk_alloc ?_ _)); refine blk_put (cs := #[.int .i64 t407, .int .i64 t408, .int .i64 x30_2, .int .i64 0]) ?_ 3 _ rfl; (with_reducible repeat (first | refine blk_drewN ?_ _ | refine blk_drew ?_ | refine blk_alloc ?_ _)); refine blk_put (cs := #[.int .i64 t407, .int .i64 t408, .int .i64 0, .int .i64 0]) ?_ 2 _ rfl; (with_reducible repeat (first | refine blk_drewN ?_ _ | refine blk_drew ?_ | refine blk_alloc ?_ _)); refine blk_put (cs := #[.int .i64 t407, .int .i64 0, .int .i64 0, .int .i64 0]) ?_ 1 _ rfl; (with_reducible repeat (first | refine blk_drewN ?_ _ | refine blk_drew ?_ | refine blk_alloc ?_ _)); refine blk_put (cs := #[.int .i64 0, .int .i64 0, .int .i64 0, .int .i64 0]) ?_ 0 _ rfl; (with_reducible repeat (first | refine blk_drewN ?_ _ | refine blk_drew ?_ | refine blk_alloc ?_ _)); exact BK410.out) hb); have n6_ := Aside0.mk (below_step (by repeat (first | (with_reducible first | exact HB.out | apply below_alloc | apply pw_below_drewN | apply below_drew1 | refine below_set ?_ GE410.out) | exact HB.out)) hb); clear HO_0; clear HO_1; clear HO_6; clear HO_7; clear BK410; clear HB; have HO_0 := n0_; have HO_1 := n1_; have HO_6 := n2_; have HO_7 := n3_; have HO413 := n4_; have BK410 := n5_; have HB := n6_; clear n0_ n1_ n2_ n3_ n4_ n5_ n6_; (try clear hb); (try clear hb2); (try clear hk); (try clear hi); (try clear ho0); have hcz28_0 : w27.cell? ⟨gb410, 0, none⟩ = some (.int .i64 t407) := (blk_cell BK410.out 0).trans rfl; have hcz28_1 : w27.cell? ⟨gb410, 1, none⟩ = some (.int .i64 t408) := (blk_cell BK410.out 1).trans rfl; have hcz28_2 : w27.cell? ⟨gb410, 2, none⟩ = some (.int .i64 x30_2) := (blk_cell BK410.out 2).trans rfl; have hcz28_3 : w27.cell? ⟨gb410, 3, none⟩ = some (.int .i64 t409) := (blk_cell BK410.out 3).trans rfl; have hfz28_0 := blk_frozen BK410.out 0; have hfz28_1 := blk_frozen BK410.out 1; have hfz28_2 := blk_frozen BK410.out 2; have hfz28_3 := blk_frozen BK410.out 3) | ((with_reducible refine gate_builtin (b := .append) (xs := #[.tmp 65, .tmp 67]) rfl ?_); at_builtin; refine Kd.R_append k41 (w0 := w) w.heap.size rfl (.tmp 65) (.tmp 67) 44 41 (.agg #[(.int .i64 0), (.int .i64 0), (.int .i64 0), (.int .i64 0)]) 32 rfl Try.underlying44 info41 rfl (by decide) (by omega) u6 x6_3 (⟨t407, t408, x30_2, t409⟩ : S41) [.int .i64 t407, .int .i64 t408, .int .i64 x30_2, .int .i64 t409] (fun k_ => (w.heap.size ≤ k_) ∧ some k_ ≠ (u7 : Value).ownBlock ∧ k_ ≠ gb410) (fun _ => False) rfl rfl ?aP (fun _ hk => hk.elim) ?aF ?aO ?aB ?aS ?aL ?_; (case aP => exact k41_mkM _ _ _ (⟨t407, t408, x30_2, t409⟩ : S41)); (case aB => exact (by repeat (first | (with_reducible first | exact HB.out | apply below_alloc | apply pw_below_drewN | apply below_drew1 | refine below_set ?_ GE410.out) | exact HB.out))); (case aF => exact (fun k_ hk => ⟨(Nat.le_trans (below_size (by repeat (first | (with_reducible first | exact HB.out | apply below_alloc | apply pw_below_drewN | apply below_drew1 | refine below_set ?_ GE410.out) | exact HB.out))) hk), Kd.fresh' (Kd.R_lt (by (with_reducible repeat (first | apply Kd.R_alloc | apply Kd.R_drewN | apply Kd.R_drew)); exact HO_7.out)) k_ hk, Kd.freshB (g := gb410) (o := .cells #[.int .i64 t407, .int .i64 t408, .int .i64 x30_2, .int .i64 t409] 41 (0, 0)) (by (with_reducible repeat (first | refine blk_drewN ?_ _ | refine blk_drew ?_ | refine blk_alloc ?_ _)); exact BK410.out) k_ hk⟩)); (case aO => exact (by (with_reducible repeat (first | apply Kd.R_alloc | apply Kd.R_drewN | apply Kd.R_drew)); exact Kd.R_mono HO_6.out (fun _ hk => ⟨hk.1.1, ⟨hk.1.2, hk.2⟩⟩))); (case aS => exact (below_size (by repeat (first | (with_reducible first | exact HB.out | apply below_alloc | apply pw_below_drewN | apply below_drew1 | refine below_set ?_ GE410.out) | exact HB.out)))); (case aL => have := LMc22.out; omega); intro v415 w29 ho hb hg hat; rw [← Ny414.out] at ho; have n0_ := Aside0.mk (Kd.V_afterv (ok := (fun k_ => ((P0_ k_ ∨ P1_ k_) ∨ w.heap.size ≤ k_) ∧ some k_ ≠ (u7 : Value).ownBlock ∧ some k_ ≠ (v412 : Value).ownBlock ∧ k_ ≠ gb410)) (by (with_reducible repeat (first | apply Kd.V_alloc | apply Kd.V_drewN | apply Kd.V_drew)); exact Kd.V_mono HO_0.out (fun _ hk => ⟨⟨hk.1.1.1, ⟨hk.1.1.2.2, ⟨hk.2, hk.1.2⟩⟩⟩, hk.1.1.2.1⟩)) hg hat); have n1_ := Aside0.mk (Kd.V_afterv (ok := (fun k_ => ((P0_ k_ ∨ P1_ k_) ∨ w.heap.size ≤ k_) ∧ some k_ ≠ (u7 : Value).ownBlock ∧ some k_ ≠ (v412 : Value).ownBlock ∧ k_ ≠ gb410)) (by (with_reducible repeat (first | apply Kd.V_alloc | apply Kd.V_drewN | apply Kd.V_drew)); exact Kd.V_mono HO_1.out (fun _ hk => ⟨⟨hk.1.1.1, ⟨hk.1.1.2.2, ⟨hk.2, hk.1.2⟩⟩⟩, hk.1.1.2.1⟩)) hg hat); have n2_ := Aside0.mk (Kd.R_after (ok := (fun k_ => (w.heap.size ≤ k_) ∧ k_ ≠ gb410)) (by (with_reducible repeat (first | apply Kd.R_alloc | apply Kd.R_drewN | apply Kd.R_drew)); exact Kd.R_mono HO_7.out (fun _ hk => ⟨⟨hk.1.1, hk.2⟩, hk.1.2⟩)) hg hat); have n3_ := Aside0.mk (blk_grown (g := gb410) (o := .cells #[.int .i64 t407, .int .i64 t408, .int .i64 x30_2, .int .i64 t409] 41 (0, 0)) (by (with_reducible repeat (first | refine blk_drewN ?_ _ | refine blk_drew ?_ | refine blk_alloc ?_ _)); exact BK410.out) hg (Kd.R_away HO_6.out (fun _ hk => hk.2))); have n4_ := Aside0.mk (Kd.S_over' (by (with_reducible repeat (first | apply Kd.S_alloc | apply Kd.S_drewN | apply Kd.S_drew)); exact HO413.out) (Kd.R_typed (by (with_reducible repeat (first | apply Kd.R_alloc | apply Kd.R_drewN | apply Kd.R_drew)); exact HO_6.out)) (by decide) hg); have n5_ := Aside0.mk (hb); have n6_ := Aside0.mk (ho); clear HO_0; clear HO_1; clear HO_7; clear BK410; clear HO413; clear HB; clear HO_6; have HO_0 := n0_; have HO_1 := n1_; have HO_7 := n2_; have BK410 := n3_; have HO413 := n4_; have HB := n5_; have HO416 := n6_; clear n0_ n1_ n2_ n3_ n4_ n5_ n6_; clear ho hb hg hat))
             go_roundg k3
             case measure => have := HJ2.out; have := HK2.out; have := HK3.out; omega
             case rel => exact ⟨(t411), (x1_3), (y414), (x7_3), H', ⟨by have := HJ2.out; have := HK2.out; have := HK3.out; omega⟩, ⟨by (with_reducible repeat (first | apply Kd.V_alloc | apply Kd.V_drewN | apply Kd.V_drew)); exact Kd.V_mono (Kd.S_V ((Kd.S_apart' (Kd.S_apart' HO413.out (Kd.R_typed HO416.out) (by decide)) (Kd.R_typed HO_7.out) (by decide)))) (fun _ hk => ⟨(.inr (hk.1.1.1)), ⟨hk.1.2, hk.2⟩⟩)⟩, ⟨by (with_reducible repeat (first | apply Kd.V_alloc | apply Kd.V_drewN | apply Kd.V_drew)); exact Kd.V_mono HO_1.out (fun _ hk => ⟨hk.1.1, ⟨hk.2, hk.1.2.1⟩⟩)⟩, ⟨by (with_reducible repeat (first | apply Kd.R_alloc | apply Kd.R_drewN | apply Kd.R_drew)); exact Kd.R_mono HO416.out (fun _ hk => ⟨hk.1, hk.2.1⟩)⟩, ⟨by (with_reducible repeat (first | apply Kd.R_alloc | apply Kd.R_drewN | apply Kd.R_drew)); exact Kd.R_mono HO_7.out (fun _ hk => ⟨hk.1.1, hk.2⟩)⟩, ⟨by repeat (first | (with_reducible first | exact HB.out | apply below_alloc | apply pw_below_drewN | apply below_drew1 | refine below_set ?_ GE410.out) | exact HB.out)⟩⟩
            ·
             rw [if_neg c22] at H
             exact absurd H (by simp)
           ·
            rw [if_neg c20] at H
            have c20b0 : decide (0 ≤ t409) = false := decide_eq_false c20
            clear c20
            replace H := Option.bind_eq_some_iff.mp H
            obtain ⟨t417, A300, H⟩ := H
            replace H : ((spec_maDo.f k3 x1_3 t407 t408 x30_2 t417).bind fun t418 => ((some (([(⟨t407, t408, x30_2, t417⟩ : S41)] : List (S41)) : List (S41))).bind fun y421 => (if y421.length + x7_3.length < 4398046511104 then (spec_GridPath.l1 k3 x0_3 t418 x6_3 (y421 ++ x7_3) x30_2 ((rd_L1 l0 0).length : Int) x30_2) else (none)))) = some (r1, r2) := H
            have A30 := Aside0.mk A300
            clear A300
            replace H := Option.bind_eq_some_iff.mp H
            obtain ⟨t418, A310, H⟩ := H
            replace H : ((some (([(⟨t407, t408, x30_2, t417⟩ : S41)] : List (S41)) : List (S41))).bind fun y421 => (if y421.length + x7_3.length < 4398046511104 then (spec_GridPath.l1 k3 x0_3 t418 x6_3 (y421 ++ x7_3) x30_2 ((rd_L1 l0 0).length : Int) x30_2) else (none))) = some (r1, r2) := H
            have A31 := Aside0.mk A310
            clear A310
            obtain ⟨y421, hy421⟩ : ∃ y_ : List (S41), y_ = (([(⟨t407, t408, x30_2, t417⟩ : S41)] : List (S41))) := ⟨_, rfl⟩
            replace H : (if y421.length + x7_3.length < 4398046511104 then (spec_GridPath.l1 k3 x0_3 t418 x6_3 (y421 ++ x7_3) x30_2 ((rd_L1 l0 0).length : Int) x30_2) else (none)) = some (r1, r2) := by first | (rw [hy421]; with_reducible exact H) | (have H2_ := (Option.bind_some _ _).symm.trans H; rw [hy421]; with_reducible exact H2_) | (have H2_ := (Option.bind_some _ _).symm.trans H; with_reducible exact H2_) | with_reducible exact H | (rw [hy421]; exact H) | exact H
            have Ny421 := Aside0.mk hy421
            clear hy421
            by_cases c32 : y421.length + x7_3.length < 4398046511104
            ·
             rw [if_pos c32] at H
             have LMc32 := Aside0.mk c32
             clear c32
             obtain ⟨y424, hy424⟩ : ∃ y_ : List (S41), y_ = (y421 ++ x7_3) := ⟨_, rfl⟩
             replace H : (spec_GridPath.l1 k3 x0_3 t418 x6_3 y424 x30_2 ((rd_L1 l0 0).length : Int) x30_2) = some (r1, r2) := by first | (rw [hy424]; with_reducible exact H) | (have H2_ := (Option.bind_some _ _).symm.trans H; rw [hy424]; with_reducible exact H2_) | (have H2_ := (Option.bind_some _ _).symm.trans H; with_reducible exact H2_) | with_reducible exact H | (rw [hy424]; exact H) | exact H
             have Ny424 := Aside0.mk hy424
             clear hy424
             have H' := Aside0.mk H
             clear H
             obtain ⟨Ao33, co33, eo33⟩ := Kd.V_slice HO_0.out
             subst eo33
             obtain ⟨Ao34, co34, eo34⟩ := Kd.V_slice HO_1.out
             subst eo34
             go_wp2_with (first | ((with_reducible refine gate_callee (f := 86) rfl ?_); refine goesL_ (some 36) rfl rfl Try.func86 (by kernel_rfl) rfl #[.slice Ao33 x0_3.length co33, .slice Ao34 x1_3.length co34, .int .i64 x30_2] rfl (by (try simp only [List.map_toArray, List.map_cons, List.map_nil]); first | done | rfl) ?_; (with_reducible refine (spec_maFirst.calls k3 _ _ x0_3 _ _ x1_3 x30_2 t404 _ ?side1 ?side2 ?side3 ?side4 A13.out).mono ?_); (case side1 => repeat (first | exact (Kd.V_reads' HO_0.out).2.2 | (with_reducible refine Kd.C_alloc ?_ _) | (with_reducible refine Kd.C_drewN ?_ _) | (with_reducible refine Kd.C_drew ?_))); (case side2 => exact (Kd.V_reads' HO_0.out).2.1); (case side3 => repeat (first | exact (Kd.V_reads' HO_1.out).2.2 | (with_reducible refine Kd.C_alloc ?_ _) | (with_reducible refine Kd.C_drewN ?_ _) | (with_reducible refine Kd.C_drew ?_))); (case side4 => exact (Kd.V_reads' HO_1.out).2.1); rintro e w' ⟨rfl, ⟨nd, rfl⟩⟩; refine ⟨_, rfl, ?_⟩; (try (rw [drewN_self wr]; generalize hq_ : World.drewN wr _ = wr; have n0_ : Aside0 (Kd.V (Kd.slice 3 (Kd.int .i64)) 33 wr w.heap.size (fun k_ => ((P0_ k_ ∨ P1_ k_) ∨ w.heap.size ≤ k_) ∧ some k_ ≠ (u6 : Value).ownBlock ∧ some k_ ≠ (u7 : Value).ownBlock) (.slice Ao33 x0_3.length co33) x0_3) := ⟨by rw [← hq_]; exact (by (with_reducible repeat (first | apply Kd.V_alloc | apply Kd.V_drewN | apply Kd.V_drew)); exact HO_0.out)⟩; have n1_ : Aside0 (Kd.V (Kd.slice 3 (Kd.int .i64)) 33 wr w.heap.size (fun k_ => ((P0_ k_ ∨ P1_ k_) ∨ w.heap.size ≤ k_) ∧ some k_ ≠ (u6 : Value).ownBlock ∧ some k_ ≠ (u7 : Value).ownBlock) (.slice Ao34 x1_3.length co34) x1_3) := ⟨by rw [← hq_]; exact (by (with_reducible repeat (first | apply Kd.V_alloc | apply Kd.V_drewN | apply Kd.V_drew)); exact HO_1.out)⟩; have n2_ : Aside0 (Kd.R k41 41 wr w.heap.size (fun k_ => (w.heap.size ≤ k_) ∧ some k_ ≠ (u7 : Value).ownBlock) u6 x6_3) := ⟨by rw [← hq_]; exact (by (with_reducible repeat (first | apply Kd.R_alloc | apply Kd.R_drewN | apply Kd.R_drew)); exact HO_6.out)⟩; have n3_ : Aside0 (Kd.R k41 41 wr w.heap.size (fun k_ => (w.heap.size ≤ k_) ∧ some k_ ≠ (u6 : Value).ownBlock) u7 x7_3) := ⟨by rw [← hq_]; exact (by (with_reducible repeat (first | apply Kd.R_alloc | apply Kd.R_drewN | apply Kd.R_drew)); exact HO_7.out)⟩; have n4_ : Aside0 (Below w.heap.size w wr) := ⟨by rw [← hq_]; exact (by repeat (first | (with_reducible first | exact HB.out | apply below_alloc | apply pw_below_drewN | apply below_drew1)))⟩; clear HO_0 HO_1 HO_6 HO_7 HB hq_; have HO_0 := n0_; have HO_1 := n1_; have HO_6 := n2_; have HO_7 := n3_; have HB := n4_; clear n0_ n1_ n2_ n3_ n4_))) | ((with_reducible refine gate_callee (f := 86) rfl ?_); refine goesL_ (some 41) rfl rfl Try.func86 (by kernel_rfl) rfl #[.slice Ao33 x0_3.length co33, .slice Ao34 x1_3.length co34, .int .i64 x30_2] rfl (by (try simp only [List.map_toArray, List.map_cons, List.map_nil]); first | done | rfl) ?_; (with_reducible refine (spec_maFirst.calls k3 _ _ x0_3 _ _ x1_3 x30_2 t405 _ ?side1 ?side2 ?side3 ?side4 A15.out).mono ?_); (case side1 => repeat (first | exact (Kd.V_reads' HO_0.out).2.2 | (with_reducible refine Kd.C_alloc ?_ _) | (with_reducible refine Kd.C_drewN ?_ _) | (with_reducible refine Kd.C_drew ?_))); (case side2 => exact (Kd.V_reads' HO_0.out).2.1); (case side3 => repeat (first | exact (Kd.V_reads' HO_1.out).2.2 | (with_reducible refine Kd.C_alloc ?_ _) | (with_reducible refine Kd.C_drewN ?_ _) | (with_reducible refine Kd.C_drew ?_))); (case side4 => exact (Kd.V_reads' HO_1.out).2.1); rintro e w' ⟨rfl, ⟨nd, rfl⟩⟩; refine ⟨_, rfl, ?_⟩; (try (rw [drewN_self wr]; generalize hq_ : World.drewN wr _ = wr; have n0_ : Aside0 (Kd.V (Kd.slice 3 (Kd.int .i64)) 33 wr w.heap.size (fun k_ => ((P0_ k_ ∨ P1_ k_) ∨ w.heap.size ≤ k_) ∧ some k_ ≠ (u6 : Value).ownBlock ∧ some k_ ≠ (u7 : Value).ownBlock) (.slice Ao33 x0_3.length co33) x0_3) := ⟨by rw [← hq_]; exact (by (with_reducible repeat (first | apply Kd.V_alloc | apply Kd.V_drewN | apply Kd.V_drew)); exact HO_0.out)⟩; have n1_ : Aside0 (Kd.V (Kd.slice 3 (Kd.int .i64)) 33 wr w.heap.size (fun k_ => ((P0_ k_ ∨ P1_ k_) ∨ w.heap.size ≤ k_) ∧ some k_ ≠ (u6 : Value).ownBlock ∧ some k_ ≠ (u7 : Value).ownBlock) (.slice Ao34 x1_3.length co34) x1_3) := ⟨by rw [← hq_]; exact (by (with_reducible repeat (first | apply Kd.V_alloc | apply Kd.V_drewN | apply Kd.V_drew)); exact HO_1.out)⟩; have n2_ : Aside0 (Kd.R k41 41 wr w.heap.size (fun k_ => (w.heap.size ≤ k_) ∧ some k_ ≠ (u7 : Value).ownBlock) u6 x6_3) := ⟨by rw [← hq_]; exact (by (with_reducible repeat (first | apply Kd.R_alloc | apply Kd.R_drewN | apply Kd.R_drew)); exact HO_6.out)⟩; have n3_ : Aside0 (Kd.R k41 41 wr w.heap.size (fun k_ => (w.heap.size ≤ k_) ∧ some k_ ≠ (u6 : Value).ownBlock) u7 x7_3) := ⟨by rw [← hq_]; exact (by (with_reducible repeat (first | apply Kd.R_alloc | apply Kd.R_drewN | apply Kd.R_drew)); exact HO_7.out)⟩; have n4_ : Aside0 (Below w.heap.size w wr) := ⟨by rw [← hq_]; exact (by repeat (first | (with_reducible first | exact HB.out | apply below_alloc | apply pw_below_drewN | apply below_drew1)))⟩; clear HO_0 HO_1 HO_6 HO_7 HB hq_; have HO_0 := n0_; have HO_1 := n1_; have HO_6 := n2_; have HO_7 := n3_; have HB := n4_; clear n0_ n1_ n2_ n3_ n4_))) | ((with_reducible refine gate_callee (f := 86) rfl ?_); refine goesL_ (some 45) rfl rfl Try.func86 (by kernel_rfl) rfl #[.slice Ao34 x1_3.length co34, .slice Ao33 x0_3.length co33, .int .i64 x30_2] rfl (by (try simp only [List.map_toArray, List.map_cons, List.map_nil]); first | done | rfl) ?_; (with_reducible refine (spec_maFirst.calls k3 _ _ x1_3 _ _ x0_3 x30_2 t406 _ ?side1 ?side2 ?side3 ?side4 A16.out).mono ?_); (case side1 => repeat (first | exact (Kd.V_reads' HO_1.out).2.2 | (with_reducible refine Kd.C_alloc ?_ _) | (with_reducible refine Kd.C_drewN ?_ _) | (with_reducible refine Kd.C_drew ?_))); (case side2 => exact (Kd.V_reads' HO_1.out).2.1); (case side3 => repeat (first | exact (Kd.V_reads' HO_0.out).2.2 | (with_reducible refine Kd.C_alloc ?_ _) | (with_reducible refine Kd.C_drewN ?_ _) | (with_reducible refine Kd.C_drew ?_))); (case side4 => exact (Kd.V_reads' HO_0.out).2.1); rintro e w' ⟨rfl, ⟨nd, rfl⟩⟩; refine ⟨_, rfl, ?_⟩; (try (rw [drewN_self wr]; generalize hq_ : World.drewN wr _ = wr; have n0_ : Aside0 (Kd.V (Kd.slice 3 (Kd.int .i64)) 33 wr w.heap.size (fun k_ => ((P0_ k_ ∨ P1_ k_) ∨ w.heap.size ≤ k_) ∧ some k_ ≠ (u6 : Value).ownBlock ∧ some k_ ≠ (u7 : Value).ownBlock) (.slice Ao33 x0_3.length co33) x0_3) := ⟨by rw [← hq_]; exact (by (with_reducible repeat (first | apply Kd.V_alloc | apply Kd.V_drewN | apply Kd.V_drew)); exact HO_0.out)⟩; have n1_ : Aside0 (Kd.V (Kd.slice 3 (Kd.int .i64)) 33 wr w.heap.size (fun k_ => ((P0_ k_ ∨ P1_ k_) ∨ w.heap.size ≤ k_) ∧ some k_ ≠ (u6 : Value).ownBlock ∧ some k_ ≠ (u7 : Value).ownBlock) (.slice Ao34 x1_3.length co34) x1_3) := ⟨by rw [← hq_]; exact (by (with_reducible repeat (first | apply Kd.V_alloc | apply Kd.V_drewN | apply Kd.V_drew)); exact HO_1.out)⟩; have n2_ : Aside0 (Kd.R k41 41 wr w.heap.size (fun k_ => (w.heap.size ≤ k_) ∧ some k_ ≠ (u7 : Value).ownBlock) u6 x6_3) := ⟨by rw [← hq_]; exact (by (with_reducible repeat (first | apply Kd.R_alloc | apply Kd.R_drewN | apply Kd.R_drew)); exact HO_6.out)⟩; have n3_ : Aside0 (Kd.R k41 41 wr w.heap.size (fun k_ => (w.heap.size ≤ k_) ∧ some k_ ≠ (u6 : Value).ownBlock) u7 x7_3) := ⟨by rw [← hq_]; exact (by (with_reducible repeat (first | apply Kd.R_alloc | apply Kd.R_drewN | apply Kd.R_drew)); exact HO_7.out)⟩; have n4_ : Aside0 (Below w.heap.size w wr) := ⟨by rw [← hq_]; exact (by repeat (first | (with_reducible first | exact HB.out | apply below_alloc | apply pw_below_drewN | apply below_drew1)))⟩; clear HO_0 HO_1 HO_6 HO_7 HB hq_; have HO_0 := n0_; have HO_1 := n1_; have HO_6 := n2_; have HO_7 := n3_; have HB := n4_; clear n0_ n1_ n2_ n3_ n4_))) | ((with_reducible refine gate_callee (f := 87) rfl ?_); refine goesL_ (some 48) rfl rfl Try.func87 (by kernel_rfl) rfl #[.int .i64 t405, .int .i64 t406] rfl (by (try simp only [List.map_toArray, List.map_cons, List.map_nil]); first | done | rfl) ?_; (with_reducible refine (spec_l1Least.calls t405 t406 t407 _ A17.out).mono ?_); rintro e w' ⟨rfl, ⟨nd, rfl⟩⟩; refine ⟨_, rfl, ?_⟩; (try (rw [drewN_self wr]; generalize hq_ : World.drewN wr _ = wr; have n0_ : Aside0 (Kd.V (Kd.slice 3 (Kd.int .i64)) 33 wr w.heap.size (fun k_ => ((P0_ k_ ∨ P1_ k_) ∨ w.heap.size ≤ k_) ∧ some k_ ≠ (u6 : Value).ownBlock ∧ some k_ ≠ (u7 : Value).ownBlock) (.slice Ao33 x0_3.length co33) x0_3) := ⟨by rw [← hq_]; exact (by (with_reducible repeat (first | apply Kd.V_alloc | apply Kd.V_drewN | apply Kd.V_drew)); exact HO_0.out)⟩; have n1_ : Aside0 (Kd.V (Kd.slice 3 (Kd.int .i64)) 33 wr w.heap.size (fun k_ => ((P0_ k_ ∨ P1_ k_) ∨ w.heap.size ≤ k_) ∧ some k_ ≠ (u6 : Value).ownBlock ∧ some k_ ≠ (u7 : Value).ownBlock) (.slice Ao34 x1_3.length co34) x1_3) := ⟨by rw [← hq_]; exact (by (with_reducible repeat (first | apply Kd.V_alloc | apply Kd.V_drewN | apply Kd.V_drew)); exact HO_1.out)⟩; have n2_ : Aside0 (Kd.R k41 41 wr w.heap.size (fun k_ => (w.heap.size ≤ k_) ∧ some k_ ≠ (u7 : Value).ownBlock) u6 x6_3) := ⟨by rw [← hq_]; exact (by (with_reducible repeat (first | apply Kd.R_alloc | apply Kd.R_drewN | apply Kd.R_drew)); exact HO_6.out)⟩; have n3_ : Aside0 (Kd.R k41 41 wr w.heap.size (fun k_ => (w.heap.size ≤ k_) ∧ some k_ ≠ (u6 : Value).ownBlock) u7 x7_3) := ⟨by rw [← hq_]; exact (by (with_reducible repeat (first | apply Kd.R_alloc | apply Kd.R_drewN | apply Kd.R_drew)); exact HO_7.out)⟩; have n4_ : Aside0 (Below w.heap.size w wr) := ⟨by rw [← hq_]; exact (by repeat (first | (with_reducible first | exact HB.out | apply below_alloc | apply pw_below_drewN | apply below_drew1)))⟩; clear HO_0 HO_1 HO_6 HO_7 HB hq_; have HO_0 := n0_; have HO_1 := n1_; have HO_6 := n2_; have HO_7 := n3_; have HB := n4_; clear n0_ n1_ n2_ n3_ n4_))) | ((with_reducible refine gate_callee (f := 72) rfl ?_); refine goesL_ (some 51) rfl rfl Try.func72 (by kernel_rfl) rfl #[.int .i64 t405, .int .i64 t406] rfl (by (try simp only [List.map_toArray, List.map_cons, List.map_nil]); first | done | rfl) ?_; (with_reducible refine (spec_l1Most.calls t405 t406 t408 _ A18.out).mono ?_); rintro e w' ⟨rfl, ⟨nd, rfl⟩⟩; refine ⟨_, rfl, ?_⟩; (try (rw [drewN_self wr]; generalize hq_ : World.drewN wr _ = wr; have n0_ : Aside0 (Kd.V (Kd.slice 3 (Kd.int .i64)) 33 wr w.heap.size (fun k_ => ((P0_ k_ ∨ P1_ k_) ∨ w.heap.size ≤ k_) ∧ some k_ ≠ (u6 : Value).ownBlock ∧ some k_ ≠ (u7 : Value).ownBlock) (.slice Ao33 x0_3.length co33) x0_3) := ⟨by rw [← hq_]; exact (by (with_reducible repeat (first | apply Kd.V_alloc | apply Kd.V_drewN | apply Kd.V_drew)); exact HO_0.out)⟩; have n1_ : Aside0 (Kd.V (Kd.slice 3 (Kd.int .i64)) 33 wr w.heap.size (fun k_ => ((P0_ k_ ∨ P1_ k_) ∨ w.heap.size ≤ k_) ∧ some k_ ≠ (u6 : Value).ownBlock ∧ some k_ ≠ (u7 : Value).ownBlock) (.slice Ao34 x1_3.length co34) x1_3) := ⟨by rw [← hq_]; exact (by (with_reducible repeat (first | apply Kd.V_alloc | apply Kd.V_drewN | apply Kd.V_drew)); exact HO_1.out)⟩; have n2_ : Aside0 (Kd.R k41 41 wr w.heap.size (fun k_ => (w.heap.size ≤ k_) ∧ some k_ ≠ (u7 : Value).ownBlock) u6 x6_3) := ⟨by rw [← hq_]; exact (by (with_reducible repeat (first | apply Kd.R_alloc | apply Kd.R_drewN | apply Kd.R_drew)); exact HO_6.out)⟩; have n3_ : Aside0 (Kd.R k41 41 wr w.heap.size (fun k_ => (w.heap.size ≤ k_) ∧ some k_ ≠ (u6 : Value).ownBlock) u7 x7_3) := ⟨by rw [← hq_]; exact (by (with_reducible repeat (first | apply Kd.R_alloc | apply Kd.R_drewN | apply Kd.R_drew)); exact HO_7.out)⟩; have n4_ : Aside0 (Below w.heap.size w wr) := ⟨by rw [← hq_]; exact (by repeat (first | (with_reducible first | exact HB.out | apply below_alloc | apply pw_below_drewN | apply below_drew1)))⟩; clear HO_0 HO_1 HO_6 HO_7 HB hq_; have HO_0 := n0_; have HO_1 := n1_; have HO_6 := n2_; have HO_7 := n3_; have HB := n4_; clear n0_ n1_ n2_ n3_ n4_))) | ((with_reducible refine gate_callee (f := 88) rfl ?_); refine goesL_ (some 57) rfl rfl Try.func88 (by kernel_rfl) rfl #[.slice Ao33 x0_3.length co33, .int .i64 t405, .int .i64 t406, .int .i64 x30_2] rfl (by (try simp only [List.map_toArray, List.map_cons, List.map_nil]); first | done | rfl) ?_; (with_reducible refine (spec_maBeside.calls k3 _ _ x0_3 t405 t406 x30_2 t409 _ ?side1 ?side2 A19.out).mono ?_); (case side1 => repeat (first | exact (Kd.V_reads' HO_0.out).2.2 | (with_reducible refine Kd.C_alloc ?_ _) | (with_reducible refine Kd.C_drewN ?_ _) | (with_reducible refine Kd.C_drew ?_))); (case side2 => exact (Kd.V_reads' HO_0.out).2.1); rintro e w' ⟨rfl, ⟨nd, rfl⟩⟩; refine ⟨_, rfl, ?_⟩; (try (rw [drewN_self wr]; generalize hq_ : World.drewN wr _ = wr; have n0_ : Aside0 (Kd.V (Kd.slice 3 (Kd.int .i64)) 33 wr w.heap.size (fun k_ => ((P0_ k_ ∨ P1_ k_) ∨ w.heap.size ≤ k_) ∧ some k_ ≠ (u6 : Value).ownBlock ∧ some k_ ≠ (u7 : Value).ownBlock) (.slice Ao33 x0_3.length co33) x0_3) := ⟨by rw [← hq_]; exact (by (with_reducible repeat (first | apply Kd.V_alloc | apply Kd.V_drewN | apply Kd.V_drew)); exact HO_0.out)⟩; have n1_ : Aside0 (Kd.V (Kd.slice 3 (Kd.int .i64)) 33 wr w.heap.size (fun k_ => ((P0_ k_ ∨ P1_ k_) ∨ w.heap.size ≤ k_) ∧ some k_ ≠ (u6 : Value).ownBlock ∧ some k_ ≠ (u7 : Value).ownBlock) (.slice Ao34 x1_3.length co34) x1_3) := ⟨by rw [← hq_]; exact (by (with_reducible repeat (first | apply Kd.V_alloc | apply Kd.V_drewN | apply Kd.V_drew)); exact HO_1.out)⟩; have n2_ : Aside0 (Kd.R k41 41 wr w.heap.size (fun k_ => (w.heap.size ≤ k_) ∧ some k_ ≠ (u7 : Value).ownBlock) u6 x6_3) := ⟨by rw [← hq_]; exact (by (with_reducible repeat (first | apply Kd.R_alloc | apply Kd.R_drewN | apply Kd.R_drew)); exact HO_6.out)⟩; have n3_ : Aside0 (Kd.R k41 41 wr w.heap.size (fun k_ => (w.heap.size ≤ k_) ∧ some k_ ≠ (u6 : Value).ownBlock) u7 x7_3) := ⟨by rw [← hq_]; exact (by (with_reducible repeat (first | apply Kd.R_alloc | apply Kd.R_drewN | apply Kd.R_drew)); exact HO_7.out)⟩; have n4_ : Aside0 (Below w.heap.size w wr) := ⟨by rw [← hq_]; exact (by repeat (first | (with_reducible first | exact HB.out | apply below_alloc | apply pw_below_drewN | apply below_drew1)))⟩; clear HO_0 HO_1 HO_6 HO_7 HB hq_; have HO_0 := n0_; have HO_1 := n1_; have HO_6 := n2_; have HO_7 := n3_; have HB := n4_; clear n0_ n1_ n2_ n3_ n4_))) | ((with_reducible refine gate_dst (N := 11) rfl ?_); refine box_event ?hg (N := 11) ?hd (cs := #[.int .i64 0, .int .i64 0, .int .i64 0, .int .i64 0]) (t := 41) ?hr ?_; (case hd => rfl); (case hg => rfl); (case hr => first | (go_simp; done) | (go_simp; rfl)); intro gb410 hg w35 hbox hb; have n0_ := Aside0.mk (Kd.V_below (Kd.V_elderB (by (with_reducible repeat (first | apply Kd.V_alloc | apply Kd.V_drewN | apply Kd.V_drew)); exact HO_0.out) gb410 (Nat.le_of_eq hg.symm)) hb); have n1_ := Aside0.mk (Kd.V_below (Kd.V_elderB (by (with_reducible repeat (first | apply Kd.V_alloc | apply Kd.V_drewN | apply Kd.V_drew)); exact HO_1.out) gb410 (Nat.le_of_eq hg.symm)) hb); have n2_ := Aside0.mk (Kd.R_below (Kd.R_elderB (by (with_reducible repeat (first | apply Kd.R_alloc | apply Kd.R_drewN | apply Kd.R_drew)); exact HO_6.out) gb410 (Nat.le_of_eq hg.symm)) hb); have n3_ := Aside0.mk (Kd.R_below (Kd.R_elderB (by (with_reducible repeat (first | apply Kd.R_alloc | apply Kd.R_drewN | apply Kd.R_drew)); exact HO_7.out) gb410 (Nat.le_of_eq hg.symm)) hb); have n4_ := Aside0.mk (below_step (by repeat (first | (with_reducible first | exact HB.out | apply below_alloc | apply pw_below_drewN | apply below_drew1))) hb); have n5_ := Aside0.mk (hbox); have n6_ := Aside0.mk ((by rw [hg]; exact (below_size (by repeat (first | (with_reducible first | exact HB.out | apply below_alloc | apply pw_below_drewN | apply below_drew1)))) : w.heap.size ≤ gb410)); have n7_ := Aside0.mk ((by rw [hg]; exact (below_size (by repeat (first | (with_reducible first | exact HB.out | apply below_alloc | apply pw_below_drewN | apply below_drew1)))) : w.heap.size ≤ gb410)); clear HO_0; clear HO_1; clear HO_6; clear HO_7; clear HB; have HO_0 := n0_; have HO_1 := n1_; have HO_6 := n2_; have HO_7 := n3_; have HB := n4_; have BK410 := n5_; have GW410 := n6_; have GE410 := n7_; clear n0_ n1_ n2_ n3_ n4_ n5_ n6_ n7_; clear hb hbox hg; have hcz36_0 : w35.cell? ⟨gb410, 0, none⟩ = some (.int .i64 0) := (blk_cell BK410.out 0).trans rfl; have hcz36_1 : w35.cell? ⟨gb410, 1, none⟩ = some (.int .i64 0) := (blk_cell BK410.out 1).trans rfl; have hcz36_2 : w35.cell? ⟨gb410, 2, none⟩ = some (.int .i64 0) := (blk_cell BK410.out 2).trans rfl; have hcz36_3 : w35.cell? ⟨gb410, 3, none⟩ = some (.int .i64 0) := (blk_cell BK410.out 3).trans rfl; have hfz36_0 := blk_frozen BK410.out 0; have hfz36_1 := blk_frozen BK410.out 1; have hfz36_2 := blk_frozen BK410.out 2; have hfz36_3 := blk_frozen BK410.out 3) | ((with_reducible refine gate_callee (f := 88) rfl ?_); refine goesL_ (some 73) rfl rfl Try.func88 (by kernel_rfl) rfl #[.slice Ao34 x1_3.length co34, .int .i64 t406, .int .i64 t405, .int .i64 x30_2] rfl (by (try simp only [List.map_toArray, List.map_cons, List.map_nil]); first | done | rfl) ?_; (with_reducible refine (spec_maBeside.calls k3 _ _ x1_3 t406 t405 x30_2 t417 _ ?side1 ?side2 A30.out).mono ?_); (case side1 => refine (Kd.V_reads' (e := 33) (base := w.heap.size) (ok := fun k_ => (((((P0_ k_ ∨ P1_ k_) ∨ w.heap.size ≤ k_)) ∧ (some k_ ≠ (u6 : Value).ownBlock ∧ some k_ ≠ (u7 : Value).ownBlock)) ∧ k_ ≠ gb410)) (n := x1_3.length) (c := co34) ?_).2.2; exact (by (with_reducible repeat (first | apply Kd.V_alloc | apply Kd.V_drewN | apply Kd.V_drew)); exact (Kd.V_mono (Kd.V_far (p := ⟨gb410, 3, none⟩) (Kd.V_far (p := ⟨gb410, 2, none⟩) (Kd.V_far (p := ⟨gb410, 1, none⟩) (Kd.V_far (p := ⟨gb410, 0, none⟩) (Kd.V_mono HO_1.out (fun k_ hk => (⟨hk, hk.2⟩ : _ ∧ k_ ≠ gb410))) (fun _ hk => hk.2) (.int .i64 t407)) (fun _ hk => hk.2) (.int .i64 t408)) (fun _ hk => hk.2) (.int .i64 x30_2)) (fun _ hk => hk.2) (.int .i64 t409)) (fun _ h_ => h_.1)))); (case side2 => exact (Kd.V_reads' HO_1.out).2.1); rintro e w' ⟨rfl, ⟨nd, rfl⟩⟩; refine ⟨_, rfl, ?_⟩) | ((with_reducible refine gate_callee (f := 81) rfl ?_); refine goesL_ (some 77) rfl rfl Try.func81 (by kernel_rfl) rfl #[.slice Ao34 x1_3.length co34, .agg #[.int .i64 t407, .int .i64 t408, .int .i64 x30_2, .int .i64 t417]] rfl (by (try simp only [List.map_toArray, List.map_cons, List.map_nil]); first | done | rfl) ?_; (with_reducible refine (spec_maDo.calls k3 _ _ x1_3 t407 t408 x30_2 t417 t418 _ ?side1 ?side2 A31.out).mono ?_); (case side1 => refine (Kd.V_reads' (e := 33) (base := w.heap.size) (ok := fun k_ => (((((P0_ k_ ∨ P1_ k_) ∨ w.heap.size ≤ k_)) ∧ (some k_ ≠ (u6 : Value).ownBlock ∧ some k_ ≠ (u7 : Value).ownBlock)) ∧ k_ ≠ gb410)) (n := x1_3.length) (c := co34) ?_).2.2; exact (by (with_reducible repeat (first | apply Kd.V_alloc | apply Kd.V_drewN | apply Kd.V_drew)); exact (Kd.V_mono (Kd.V_far (p := ⟨gb410, 3, none⟩) (Kd.V_far (p := ⟨gb410, 3, none⟩) (Kd.V_far (p := ⟨gb410, 2, none⟩) (Kd.V_far (p := ⟨gb410, 1, none⟩) (Kd.V_far (p := ⟨gb410, 0, none⟩) (Kd.V_mono HO_1.out (fun k_ hk => (⟨hk, hk.2⟩ : _ ∧ k_ ≠ gb410))) (fun _ hk => hk.2) (.int .i64 t407)) (fun _ hk => hk.2) (.int .i64 t408)) (fun _ hk => hk.2) (.int .i64 x30_2)) (fun _ hk => hk.2) (.int .i64 t409)) (fun _ hk => hk.2) (.int .i64 t417)) (fun _ h_ => h_.1)))); (case side2 => exact (Kd.V_reads' HO_1.out).2.1); rintro e w37 ⟨v419, rfl, ho0, hb⟩; refine ⟨_, rfl, ?_⟩; have n0_ := Aside0.mk (Kd.V_elder' (by (with_reducible repeat (first | apply Kd.V_alloc | apply Kd.V_drewN | apply Kd.V_drew)); exact (Kd.V_mono (Kd.V_far (p := ⟨gb410, 3, none⟩) (Kd.V_far (p := ⟨gb410, 3, none⟩) (Kd.V_far (p := ⟨gb410, 2, none⟩) (Kd.V_far (p := ⟨gb410, 1, none⟩) (Kd.V_far (p := ⟨gb410, 0, none⟩) (Kd.V_mono HO_0.out (fun k_ hk => (⟨hk, hk.2⟩ : _ ∧ k_ ≠ gb410))) (fun _ hk => hk.2) (.int .i64 t407)) (fun _ hk => hk.2) (.int .i64 t408)) (fun _ hk => hk.2) (.int .i64 x30_2)) (fun _ hk => hk.2) (.int .i64 t409)) (fun _ hk => hk.2) (.int .i64 t417)) (fun _ h_ => h_.1))) (Kd.S_base ho0) hb); have n1_ := Aside0.mk (Kd.V_elder' (by (with_reducible repeat (first | apply Kd.V_alloc | apply Kd.V_drewN | apply Kd.V_drew)); exact (Kd.V_mono (Kd.V_far (p := ⟨gb410, 3, none⟩) (Kd.V_far (p := ⟨gb410, 3, none⟩) (Kd.V_far (p := ⟨gb410, 2, none⟩) (Kd.V_far (p := ⟨gb410, 1, none⟩) (Kd.V_far (p := ⟨gb410, 0, none⟩) (Kd.V_mono HO_1.out (fun k_ hk => (⟨hk, hk.2⟩ : _ ∧ k_ ≠ gb410))) (fun _ hk => hk.2) (.int .i64 t407)) (fun _ hk => hk.2) (.int .i64 t408)) (fun _ hk => hk.2) (.int .i64 x30_2)) (fun _ hk => hk.2) (.int .i64 t409)) (fun _ hk => hk.2) (.int .i64 t417)) (fun _ h_ => h_.1))) (Kd.S_base ho0) hb); have n2_ := Aside0.mk (Kd.R_below (by (with_reducible repeat (first | apply Kd.R_alloc | apply Kd.R_drewN | apply Kd.R_drew)); exact (Kd.R_mono (Kd.R_far (p := ⟨gb410, 3, none⟩) (Kd.R_far (p := ⟨gb410, 3, none⟩) (Kd.R_far (p := ⟨gb410, 2, none⟩) (Kd.R_far (p := ⟨gb410, 1, none⟩) (Kd.R_far (p := ⟨gb410, 0, none⟩) (Kd.R_mono HO_6.out (fun k_ hk => (⟨hk, hk.2⟩ : _ ∧ k_ ≠ gb410))) (fun _ hk => hk.2) (.int .i64 t407)) (fun _ hk => hk.2) (.int .i64 t408)) (fun _ hk => hk.2) (.int .i64 x30_2)) (fun _ hk => hk.2) (.int .i64 t409)) (fun _ hk => hk.2) (.int .i64 t417)) (fun _ h_ => h_.1))) hb); have n3_ := Aside0.mk (Kd.R_below (by (with_reducible repeat (first | apply Kd.R_alloc | apply Kd.R_drewN | apply Kd.R_drew)); exact (Kd.R_mono (Kd.R_far (p := ⟨gb410, 3, none⟩) (Kd.R_far (p := ⟨gb410, 3, none⟩) (Kd.R_far (p := ⟨gb410, 2, none⟩) (Kd.R_far (p := ⟨gb410, 1, none⟩) (Kd.R_far (p := ⟨gb410, 0, none⟩) (Kd.R_mono HO_7.out (fun k_ hk => (⟨hk, hk.2⟩ : _ ∧ k_ ≠ gb410))) (fun _ hk => hk.2) (.int .i64 t407)) (fun _ hk => hk.2) (.int .i64 t408)) (fun _ hk => hk.2) (.int .i64 x30_2)) (fun _ hk => hk.2) (.int .i64 t409)) (fun _ hk => hk.2) (.int .i64 t417)) (fun _ h_ => h_.1))) hb); have n4_ := Aside0.mk (Kd.S_lower (Kd.S_newM (M := fun k_ => (w.heap.size ≤ k_)) ho0 (below_size (by repeat (first | (with_reducible first | exact HB.out | apply below_alloc | apply pw_below_drewN | apply below_drew1 | refine below_set ?_ GE410.out) | exact HB.out))) (fun k_ h_ => h_)) (below_size (by repeat (first | (with_reducible first | exact HB.out | apply below_alloc | apply pw_below_drewN | apply below_drew1 | refine below_set ?_ GE410.out) | exact HB.out)))); have n5_ := Aside0.mk (blk_below (g := gb410) (o := .cells #[.int .i64 t407, .int .i64 t408, .int .i64 x30_2, .int .i64 t417] 41 (0, 0)) (by (with_reducible repeat (first | refine blk_drewN ?_ _ | refine blk_drew ?_ | refine blk_alloc ?_ _)); refine blk_put (cs := #[.int .i64 t407, .int .i64 t408, .int .i64 x30_2, .int .i64 t409]) ?_ 3 _ rfl; (with_reducible repeat (first | refine blk_drewN ?_ _ | refine blk_drew ?_ | refine blk_alloc ?_ _)); refine blk_put (cs := #[.int .i64 t407, .int .i64 t408, .int .i64 x30_2, .int .i64 0]) ?_ 3 _ rfl; (with_reducible repeat (first | refine blk_drewN ?_ _ | refine blk_drew ?_ | refine blk_alloc ?_ _)); refine blk_put (cs := #[.int .i64 t407, .int .i64 t408, .int .i64 0, .int .i64 0]) ?_ 2 _ rfl; (with_reducible repeat (first | refine blk_drewN ?_ _ | refine blk_drew ?_ | refine blk_alloc ?_ _)); refine blk_put (cs := #[.int .i64 t407, .int .i64 0, .int .i64 0, .int .i64 0]) ?_ 1 _ rfl; (with_reducible repeat (first | refine blk_drewN ?_ _ | refine blk_drew ?_ | refine blk_alloc ?_ _)); refine blk_put (cs := #[.int .i64 0, .int .i64 0, .int .i64 0, .int .i64 0]) ?_ 0 _ rfl; (with_reducible repeat (first | refine blk_drewN ?_ _ | refine blk_drew ?_ | refine blk_alloc ?_ _)); exact BK410.out) hb); have n6_ := Aside0.mk (below_step (by repeat (first | (with_reducible first | exact HB.out | apply below_alloc | apply pw_below_drewN | apply below_drew1 | refine below_set ?_ GE410.out) | exact HB.out)) hb); clear HO_0; clear HO_1; clear HO_6; clear HO_7; clear BK410; clear HB; have HO_0 := n0_; have HO_1 := n1_; have HO_6 := n2_; have HO_7 := n3_; have HO420 := n4_; have BK410 := n5_; have HB := n6_; clear n0_ n1_ n2_ n3_ n4_ n5_ n6_; (try clear hb); (try clear hb2); (try clear hk); (try clear hi); (try clear ho0); have hcz38_0 : w37.cell? ⟨gb410, 0, none⟩ = some (.int .i64 t407) := (blk_cell BK410.out 0).trans rfl; have hcz38_1 : w37.cell? ⟨gb410, 1, none⟩ = some (.int .i64 t408) := (blk_cell BK410.out 1).trans rfl; have hcz38_2 : w37.cell? ⟨gb410, 2, none⟩ = some (.int .i64 x30_2) := (blk_cell BK410.out 2).trans rfl; have hcz38_3 : w37.cell? ⟨gb410, 3, none⟩ = some (.int .i64 t417) := (blk_cell BK410.out 3).trans rfl; have hfz38_0 := blk_frozen BK410.out 0; have hfz38_1 := blk_frozen BK410.out 1; have hfz38_2 := blk_frozen BK410.out 2; have hfz38_3 := blk_frozen BK410.out 3) | ((with_reducible refine gate_dst (N := 79) rfl ?_); refine Kd.R_lit k41 _ 41 ?hg (N := 79) ?hd (xs := ([(⟨t407, t408, x30_2, t417⟩ : S41)] : List (S41))) (inner := [.int .i64 t407, .int .i64 t408, .int .i64 x30_2, .int .i64 t417]) (ok := fun _ => True) (okp := fun _ => True) ?hr ?hp (fun _ hk => hk) trivial (Below.refl _ _) (Nat.le_refl _) (by simp) ?_; (case hd => rfl); (case hg => rfl); (case hr => first | (go_simp; done) | (go_simp; rfl)); (case hp => exact (Reps.c4 (show Kd.M k41 _ _ _ (⟨t407, t408, x30_2, t417⟩ : S41) [.int .i64 t407, .int .i64 t408, .int .i64 x30_2, .int .i64 t417] from (k41_mkM _ _ _ (⟨t407, t408, x30_2, t417⟩ : S41) )) (Reps.none _ _))); intro v422 w39 ho40 hb hg_ hnew_; clear hg_ hnew_; (first | rw [← Ny421.out] at ho40 | (simp only [Int.reduceToNat] at ho40; rw [← Ny421.out] at ho40)); have n0_ := Aside0.mk (Kd.V_elder' (by (with_reducible repeat (first | apply Kd.V_alloc | apply Kd.V_drewN | apply Kd.V_drew)); exact HO_0.out) (Kd.R_base ho40) hb); have n1_ := Aside0.mk (Kd.V_elder' (by (with_reducible repeat (first | apply Kd.V_alloc | apply Kd.V_drewN | apply Kd.V_drew)); exact HO_1.out) (Kd.R_base ho40) hb); have n2_ := Aside0.mk (Kd.R_elder' (by (with_reducible repeat (first | apply Kd.R_alloc | apply Kd.R_drewN | apply Kd.R_drew)); exact HO_6.out) (Kd.R_base ho40) hb); have n3_ := Aside0.mk (Kd.R_elder' (by (with_reducible repeat (first | apply Kd.R_alloc | apply Kd.R_drewN | apply Kd.R_drew)); exact HO_7.out) (Kd.R_base ho40) hb); have n4_ := Aside0.mk (Kd.S_below (by (with_reducible repeat (first | apply Kd.S_alloc | apply Kd.S_drewN | apply Kd.S_drew)); exact HO420.out) hb); have n5_ := Aside0.mk (Kd.R_lower (Kd.R_newB (Kd.R_new' (Kd.R_new' (Kd.R_newM (M := fun k_ => (w.heap.size ≤ k_)) ho40 (below_size (by repeat (first | (with_reducible first | exact HB.out | apply below_alloc | apply pw_below_drewN | apply below_drew1 | refine below_set ?_ GE410.out) | exact HB.out))) (fun k_ h_ => h_)) (Kd.R_lt (by (with_reducible repeat (first | apply Kd.R_alloc | apply Kd.R_drewN | apply Kd.R_drew)); exact HO_6.out))) (Kd.R_lt (by (with_reducible repeat (first | apply Kd.R_alloc | apply Kd.R_drewN | apply Kd.R_drew)); exact HO_7.out))) (g := gb410) (o := .cells #[.int .i64 t407, .int .i64 t408, .int .i64 x30_2, .int .i64 t417] 41 (0, 0)) (by (with_reducible repeat (first | refine blk_drewN ?_ _ | refine blk_drew ?_ | refine blk_alloc ?_ _)); exact BK410.out)) (below_size (by repeat (first | (with_reducible first | exact HB.out | apply below_alloc | apply pw_below_drewN | apply below_drew1 | refine below_set ?_ GE410.out) | exact HB.out)))); have n6_ := Aside0.mk (blk_below (g := gb410) (o := .cells #[.int .i64 t407, .int .i64 t408, .int .i64 x30_2, .int .i64 t417] 41 (0, 0)) (by (with_reducible repeat (first | refine blk_drewN ?_ _ | refine blk_drew ?_ | refine blk_alloc ?_ _)); exact BK410.out) hb); have n7_ := Aside0.mk (below_step (by repeat (first | (with_reducible first | exact HB.out | apply below_alloc | apply pw_below_drewN | apply below_drew1 | refine below_set ?_ GE410.out) | exact HB.out)) hb); clear HO_0; clear HO_1; clear HO_6; clear HO_7; clear HO420; clear BK410; clear HB; have HO_0 := n0_; have HO_1 := n1_; have HO_6 := n2_; have HO_7 := n3_; have HO420 := n4_; have HO423 := n5_; have BK410 := n6_; have HB := n7_; clear n0_ n1_ n2_ n3_ n4_ n5_ n6_ n7_; clear hb ho40; obtain ⟨Ao42, co42, eo42⟩ := Kd.R_slice HO_7.out; subst eo42) | ((with_reducible refine gate_builtin (b := .append) (xs := #[.tmp 79, .tmp 80]) rfl ?_); at_builtin; refine Kd.R_append_rows k41 (w0 := w) w.heap.size rfl (.tmp 79) (.tmp 80) 44 41 (.agg #[(.int .i64 0), (.int .i64 0), (.int .i64 0), (.int .i64 0)]) 32 rfl Try.underlying44 info41 rfl (by decide) (by omega) v422 y421 x7_3 _ _ _ (fun k_ => (w.heap.size ≤ k_) ∧ some k_ ≠ (u6 : Value).ownBlock ∧ some k_ ≠ (.slice Ao42 x7_3.length co42 : Value).ownBlock ∧ k_ ≠ gb410) (fun _ => False) rfl rfl ?aO ?aR (fun _ _ h => h) (fun _ h => h.elim) ?aF ?aB ?aS ?aL ?_; (case aR => repeat (first | exact (Kd.R_reads' HO_7.out).2.2 | (with_reducible refine Kd.C_alloc ?_ _) | (with_reducible refine Kd.C_drewN ?_ _) | (with_reducible refine Kd.C_drew ?_))); (case aB => exact (by repeat (first | (with_reducible first | exact HB.out | apply below_alloc | apply pw_below_drewN | apply below_drew1 | refine below_set ?_ GE410.out) | exact HB.out))); (case aF => exact (fun k_ hk => ⟨(Nat.le_trans (below_size (by repeat (first | (with_reducible first | exact HB.out | apply below_alloc | apply pw_below_drewN | apply below_drew1 | refine below_set ?_ GE410.out) | exact HB.out))) hk), Kd.fresh' (Kd.R_lt (by (with_reducible repeat (first | apply Kd.R_alloc | apply Kd.R_drewN | apply Kd.R_drew)); exact HO_6.out)) k_ hk, Kd.fresh' (Kd.R_lt (by (with_reducible repeat (first | apply Kd.R_alloc | apply Kd.R_drewN | apply Kd.R_drew)); exact HO_7.out)) k_ hk, Kd.freshB (g := gb410) (o := .cells #[.int .i64 t407, .int .i64 t408, .int .i64 x30_2, .int .i64 t417] 41 (0, 0)) (by (with_reducible repeat (first | refine blk_drewN ?_ _ | refine blk_drew ?_ | refine blk_alloc ?_ _)); exact BK410.out) k_ hk⟩)); (case aO => exact (by (with_reducible repeat (first | apply Kd.R_alloc | apply Kd.R_drewN | apply Kd.R_drew)); exact Kd.R_mono HO423.out (fun _ hk => ⟨hk.1.1.1.1, ⟨hk.1.1.2, ⟨hk.1.2, hk.2⟩⟩⟩))); (case aS => exact (below_size (by repeat (first | (with_reducible first | exact HB.out | apply below_alloc | apply pw_below_drewN | apply below_drew1 | refine below_set ?_ GE410.out) | exact HB.out)))); (case aL => have := LMc32.out; omega); intro v425 w41 ho hb hg hat; rw [← Ny424.out] at ho; have n0_ := Aside0.mk (Kd.V_afterv (ok := (fun k_ => ((P0_ k_ ∨ P1_ k_) ∨ w.heap.size ≤ k_) ∧ some k_ ≠ (u6 : Value).ownBlock ∧ some k_ ≠ (.slice Ao42 x7_3.length co42 : Value).ownBlock ∧ some k_ ≠ (v419 : Value).ownBlock ∧ k_ ≠ gb410)) (by (with_reducible repeat (first | apply Kd.V_alloc | apply Kd.V_drewN | apply Kd.V_drew)); exact Kd.V_mono HO_0.out (fun _ hk => ⟨⟨hk.1.1.1.1, ⟨hk.1.1.1.2.1, ⟨hk.1.1.1.2.2, ⟨hk.1.2, hk.1.1.2⟩⟩⟩⟩, hk.2⟩)) hg hat); have n1_ := Aside0.mk (Kd.V_afterv (ok := (fun k_ => ((P0_ k_ ∨ P1_ k_) ∨ w.heap.size ≤ k_) ∧ some k_ ≠ (u6 : Value).ownBlock ∧ some k_ ≠ (.slice Ao42 x7_3.length co42 : Value).ownBlock ∧ some k_ ≠ (v419 : Value).ownBlock ∧ k_ ≠ gb410)) (by (with_reducible repeat (first | apply Kd.V_alloc | apply Kd.V_drewN | apply Kd.V_drew)); exact Kd.V_mono HO_1.out (fun _ hk => ⟨⟨hk.1.1.1.1, ⟨hk.1.1.1.2.1, ⟨hk.1.1.1.2.2, ⟨hk.1.2, hk.1.1.2⟩⟩⟩⟩, hk.2⟩)) hg hat); have n2_ := Aside0.mk (Kd.R_after (ok := (fun k_ => (w.heap.size ≤ k_) ∧ some k_ ≠ (.slice Ao42 x7_3.length co42 : Value).ownBlock ∧ k_ ≠ gb410)) (by (with_reducible repeat (first | apply Kd.R_alloc | apply Kd.R_drewN | apply Kd.R_drew)); exact Kd.R_mono HO_6.out (fun _ hk => ⟨⟨hk.1.1.1, ⟨hk.1.1.2, hk.1.2⟩⟩, hk.2⟩)) hg hat); have n3_ := Aside0.mk (Kd.R_after (ok := (fun k_ => (w.heap.size ≤ k_) ∧ some k_ ≠ (u6 : Value).ownBlock ∧ k_ ≠ gb410)) (by (with_reducible repeat (first | apply Kd.R_alloc | apply Kd.R_drewN | apply Kd.R_drew)); exact Kd.R_mono HO_7.out (fun _ hk => ⟨⟨hk.1.1.1, ⟨hk.1.1.2, hk.1.2⟩⟩, hk.2⟩)) hg hat); have n4_ := Aside0.mk (blk_grown (g := gb410) (o := .cells #[.int .i64 t407, .int .i64 t408, .int .i64 x30_2, .int .i64 t417] 41 (0, 0)) (by (with_reducible repeat (first | refine blk_drewN ?_ _ | refine blk_drew ?_ | refine blk_alloc ?_ _)); exact BK410.out) hg (Kd.R_away HO423.out (fun _ hk => hk.2))); have n5_ := Aside0.mk (Kd.S_over' (by (with_reducible repeat (first | apply Kd.S_alloc | apply Kd.S_drewN | apply Kd.S_drew)); exact HO420.out) (Kd.R_typed (by (with_reducible repeat (first | apply Kd.R_alloc | apply Kd.R_drewN | apply Kd.R_drew)); exact HO423.out)) (by decide) hg); have n6_ := Aside0.mk (hb); have n7_ := Aside0.mk (ho); clear HO_0; clear HO_1; clear HO_6; clear HO_7; clear BK410; clear HO420; clear HB; clear HO423; have HO_0 := n0_; have HO_1 := n1_; have HO_6 := n2_; have HO_7 := n3_; have BK410 := n4_; have HO420 := n5_; have HB := n6_; have HO426 := n7_; clear n0_ n1_ n2_ n3_ n4_ n5_ n6_ n7_; clear ho hb hg hat))
             go_roundg k3
             case measure => have := HJ2.out; have := HK2.out; have := HK3.out; omega
             case rel => exact ⟨(x0_3), (t418), (x6_3), (y424), H', ⟨by have := HJ2.out; have := HK2.out; have := HK3.out; omega⟩, ⟨by (with_reducible repeat (first | apply Kd.V_alloc | apply Kd.V_drewN | apply Kd.V_drew)); exact Kd.V_mono HO_0.out (fun _ hk => ⟨hk.1.1, ⟨hk.1.2.1, hk.2⟩⟩)⟩, ⟨by (with_reducible repeat (first | apply Kd.V_alloc | apply Kd.V_drewN | apply Kd.V_drew)); exact Kd.V_mono (Kd.S_V ((Kd.S_apart' (Kd.S_apart' HO420.out (Kd.R_typed HO_6.out) (by decide)) (Kd.R_typed HO426.out) (by decide)))) (fun _ hk => ⟨(.inr (hk.1.1.1)), ⟨hk.1.2, hk.2⟩⟩)⟩, ⟨by (with_reducible repeat (first | apply Kd.R_alloc | apply Kd.R_drewN | apply Kd.R_drew)); exact Kd.R_mono HO_6.out (fun _ hk => ⟨hk.1.1, hk.2⟩)⟩, ⟨by (with_reducible repeat (first | apply Kd.R_alloc | apply Kd.R_drewN | apply Kd.R_drew)); exact Kd.R_mono HO426.out (fun _ hk => ⟨hk.1, hk.2.1⟩)⟩, ⟨by repeat (first | (with_reducible first | exact HB.out | apply below_alloc | apply pw_below_drewN | apply below_drew1 | refine below_set ?_ GE410.out) | exact HB.out)⟩⟩
            ·
             rw [if_neg c32] at H
             exact absurd H (by simp)
          ·
           rw [if_neg c14] at H
           have c14b0 : decide (0 ≤ t404) = false := decide_eq_false c14
           clear c14
           have H' := Aside0.mk H
           clear H
           obtain ⟨Ao43, co43, eo43⟩ := Kd.V_slice HO_0.out
           subst eo43
           obtain ⟨Ao44, co44, eo44⟩ := Kd.V_slice HO_1.out
           subst eo44
           go_wp2_with (first | ((with_reducible refine gate_callee (f := 86) rfl ?_); refine goesL_ (some 36) rfl rfl Try.func86 (by kernel_rfl) rfl #[.slice Ao43 x0_3.length co43, .slice Ao44 x1_3.length co44, .int .i64 x30_2] rfl (by (try simp only [List.map_toArray, List.map_cons, List.map_nil]); first | done | rfl) ?_; (with_reducible refine (spec_maFirst.calls k3 _ _ x0_3 _ _ x1_3 x30_2 t404 _ ?side1 ?side2 ?side3 ?side4 A13.out).mono ?_); (case side1 => repeat (first | exact (Kd.V_reads' HO_0.out).2.2 | (with_reducible refine Kd.C_alloc ?_ _) | (with_reducible refine Kd.C_drewN ?_ _) | (with_reducible refine Kd.C_drew ?_))); (case side2 => exact (Kd.V_reads' HO_0.out).2.1); (case side3 => repeat (first | exact (Kd.V_reads' HO_1.out).2.2 | (with_reducible refine Kd.C_alloc ?_ _) | (with_reducible refine Kd.C_drewN ?_ _) | (with_reducible refine Kd.C_drew ?_))); (case side4 => exact (Kd.V_reads' HO_1.out).2.1); rintro e w' ⟨rfl, ⟨nd, rfl⟩⟩; refine ⟨_, rfl, ?_⟩))
           go_roundg k3
           case measure => have := HJ2.out; have := HK2.out; have := HK3.out; omega
           case rel => exact ⟨(x0_3), (x1_3), (x6_3), (x7_3), (wrap64 (x30_2 + 1)), (by first | rfl | (simp; done) | (simp [*]; done)), H', ⟨by have := HJ2.out; have := HK2.out; have := HK3.out; omega⟩, ⟨by (with_reducible repeat (first | apply Kd.V_alloc | apply Kd.V_drewN | apply Kd.V_drew)); exact HO_0.out⟩, ⟨by (with_reducible repeat (first | apply Kd.V_alloc | apply Kd.V_drewN | apply Kd.V_drew)); exact HO_1.out⟩, ⟨by (with_reducible repeat (first | apply Kd.R_alloc | apply Kd.R_drewN | apply Kd.R_drew)); exact HO_6.out⟩, ⟨by (with_reducible repeat (first | apply Kd.R_alloc | apply Kd.R_drewN | apply Kd.R_drew)); exact HO_7.out⟩, ⟨by repeat (first | (with_reducible first | exact HB.out | apply below_alloc | apply pw_below_drewN | apply below_drew1) | exact HB.out)⟩⟩
       ·
        rw [if_neg c12] at H
        have c12b0 : decide (x30_2 < ((rd_L1 l0 0).length : Int)) = false := decide_eq_false c12
        clear c12
        by_cases c45 : x6_2.length + x7_2.length < 4398046511104
        ·
         rw [if_pos c45] at H
         have LMc45 := Aside0.mk c45
         clear c45
         obtain ⟨y401, hy401⟩ : ∃ y_ : List (S41), y_ = (x6_2 ++ x7_2) := ⟨_, rfl⟩
         replace H : (some (y401, true)) = some (r1, r2) := by first | (rw [hy401]; with_reducible exact H) | (have H2_ := (Option.bind_some _ _).symm.trans H; rw [hy401]; with_reducible exact H2_) | (have H2_ := (Option.bind_some _ _).symm.trans H; with_reducible exact H2_) | with_reducible exact H | (rw [hy401]; exact H) | exact H
         have Ny401 := Aside0.mk hy401
         clear hy401
         simp only [Option.some.injEq, Prod.mk.injEq] at H
         obtain ⟨rfl, rfl⟩ := H
         obtain ⟨Ao47, co47, eo47⟩ := Kd.R_slice HO_7.out
         subst eo47
         go_wp2_with (first | ((with_reducible refine gate_builtin (b := .append) (xs := #[.tmp 83, .tmp 84]) rfl ?_); at_builtin; refine Kd.R_append_rows k41 (w0 := w) w.heap.size rfl (.tmp 83) (.tmp 84) 44 41 (.agg #[(.int .i64 0), (.int .i64 0), (.int .i64 0), (.int .i64 0)]) 32 rfl Try.underlying44 info41 rfl (by decide) (by omega) u6 x6_2 x7_2 _ _ _ (fun k_ => (w.heap.size ≤ k_) ∧ some k_ ≠ (.slice Ao47 x7_2.length co47 : Value).ownBlock) (fun _ => False) rfl rfl ?aO ?aR (fun _ _ h => h) (fun _ h => h.elim) ?aF ?aB ?aS ?aL ?_; (case aR => repeat (first | exact (Kd.R_reads' HO_7.out).2.2 | (with_reducible refine Kd.C_alloc ?_ _) | (with_reducible refine Kd.C_drewN ?_ _) | (with_reducible refine Kd.C_drew ?_))); (case aB => exact (by repeat (first | (with_reducible first | exact HB.out | apply below_alloc | apply pw_below_drewN | apply below_drew1)))); (case aF => exact (fun k_ hk => ⟨(Nat.le_trans (below_size (by repeat (first | (with_reducible first | exact HB.out | apply below_alloc | apply pw_below_drewN | apply below_drew1)))) hk), Kd.fresh' (Kd.R_lt (by (with_reducible repeat (first | apply Kd.R_alloc | apply Kd.R_drewN | apply Kd.R_drew)); exact HO_7.out)) k_ hk⟩)); (case aO => exact (by (with_reducible repeat (first | apply Kd.R_alloc | apply Kd.R_drewN | apply Kd.R_drew)); exact HO_6.out)); (case aS => exact (below_size (by repeat (first | (with_reducible first | exact HB.out | apply below_alloc | apply pw_below_drewN | apply below_drew1))))); (case aL => have := LMc45.out; omega); intro v402 w46 ho hb hg hat; rw [← Ny401.out] at ho; have n0_ := Aside0.mk (Kd.V_afterv (ok := (fun k_ => ((P0_ k_ ∨ P1_ k_) ∨ w.heap.size ≤ k_) ∧ some k_ ≠ (.slice Ao47 x7_2.length co47 : Value).ownBlock)) (by (with_reducible repeat (first | apply Kd.V_alloc | apply Kd.V_drewN | apply Kd.V_drew)); exact Kd.V_mono HO_0.out (fun _ hk => ⟨⟨hk.1, hk.2.2⟩, hk.2.1⟩)) hg hat); have n1_ := Aside0.mk (Kd.V_afterv (ok := (fun k_ => ((P0_ k_ ∨ P1_ k_) ∨ w.heap.size ≤ k_) ∧ some k_ ≠ (.slice Ao47 x7_2.length co47 : Value).ownBlock)) (by (with_reducible repeat (first | apply Kd.V_alloc | apply Kd.V_drewN | apply Kd.V_drew)); exact Kd.V_mono HO_1.out (fun _ hk => ⟨⟨hk.1, hk.2.2⟩, hk.2.1⟩)) hg hat); have n2_ := Aside0.mk (Kd.R_after (ok := (fun k_ => (w.heap.size ≤ k_))) (by (with_reducible repeat (first | apply Kd.R_alloc | apply Kd.R_drewN | apply Kd.R_drew)); exact HO_7.out) hg hat); have n3_ := Aside0.mk (hb); have n4_ := Aside0.mk (ho); clear HO_0; clear HO_1; clear HO_7; clear HB; clear HO_6; have HO_0 := n0_; have HO_1 := n1_; have HO_7 := n2_; have HB := n3_; have HO403 := n4_; clear n0_ n1_ n2_ n3_ n4_; clear ho hb hg hat))
         go_ret2
         exact ⟨_, by first | rfl | (simp [errW_none, errW_some] <;> rfl) | (simp [*, errW_none, errW_some] <;> rfl), by (with_reducible repeat (first | apply Kd.R_alloc | apply Kd.R_drewN | apply Kd.R_drew)); exact Kd.R_mono HO403.out (fun _ hk => hk.1), by repeat (first | (with_reducible first | exact HB.out | apply below_alloc | apply pw_below_drewN | apply below_drew1) | exact HB.out)⟩
        ·
         rw [if_neg c45] at H
         exact absurd H (by simp)
    ·
     rw [if_neg c11] at H
     exact absurd H (by simp)
end Go.Proofs.Ytojcnapdalpnmaa.P

/- What the law FnExactGridPath asks of the functions that it calls: the pure part shows it (Q), the walk uses it (H). -/
namespace Go.Proofs.Ytojcnapdalpnmaa.P
open Go.RowKit Go.Proofs.YtojcnapdalpnmaaW.PrintWords Go.Proofs.YtojcnapdalpnmaaW.PrintLast Go.Proofs.YtojcnapdalpnmaaW.PrintMore
/-- r = true, and: the input is too large, or both functions answer the same, and all comparisons, marks and looks go well. -/
def laws_FnExactGridPath.Good (l0 : List (List Int)) (l1 : List (List Int)) (r : Bool) : Prop := r = true ∧ ∃ n0 : Int, (∃ k, laws_szIntSS.f k l0 1048576 = some n0) ∧ (n0 < 0 ∨ 0 ≤ n0 ∧ ∃ n1 : Int, (∃ k, laws_szIntSS.f k l1 n0 = some n1) ∧ (n1 < 0 ∨ 0 ≤ n1 ∧ ∃ (w0 w0' : List S41) (l0' : List (List Int)) (l1' : List (List Int)) (wb : Bool) (k0 : Int) (k1 : Int) (m0 : Int), (∃ k, laws_toIntSS.f k l0 = some l0) ∧ (∃ k, laws_toIntSS.f k l1 = some l1) ∧ (∃ k, spec_GridPath.f k l0 l1 = some (w0, wb)) ∧ (∃ k, impl_GridPath.f k l0 l1 = some (w0, wb)) ∧ (∃ k, laws_eqSwitchS.f k w0 w0 = some true) ∧ (∃ k, laws_eqIntSS.f k l0 l0 = some true) ∧ (∃ k, laws_eqIntSS.f k l1 l1 = some true) ∧ (laws_markIntSS.f l0 1 = some (k0, l0')) ∧ (laws_markIntSS.f l1 k0 = some (k1, l1')) ∧ (∃ k, laws_markSwitchS.f k w0 1 = some (m0, w0')) ∧ (∃ k, laws_heldSwitchS.f k w0' 1 = some m0) ∧ 0 ≤ k1 ∧ 0 ≤ m0 ∧ w0'.length = w0.length))
end Go.Proofs.Ytojcnapdalpnmaa.P

namespace Go.Proofs.Ytojcnapdalpnmaa.K
open Go.RowKit Go.Proofs.YtojcnapdalpnmaaW.PrintWords Go.Proofs.YtojcnapdalpnmaaW.PrintLast Go.Proofs.YtojcnapdalpnmaaW.PrintMore Go.Proofs.Ytojcnapdalpnmaa.P
/-- What a law holds in memory: a set of blocks, and what is known of them. -/
structure Ob where
  S : Nat → Prop
  P : World → Prop
def Loc (o : Ob) : Prop := ∀ W W2 : World, (∀ k, o.S k → W2.heap[k]? = W.heap[k]?) → o.P W → o.P W2
/-- The things held, the youngest first; none lies in another's blocks. -/
def St (W : World) : List Ob → Prop
  | [] => True
  | o :: os => ((∀ k, o.S k → k < W.heap.size) ∧ o.P W ∧ Loc o ∧ ∀ p ∈ os, ∀ k, o.S k → ¬ p.S k) ∧ St W os
theorem St.move {W W2 : World} (hs : W.heap.size ≤ W2.heap.size) : ∀ {os : List Ob}, St W os → (∀ o ∈ os, ∀ k, o.S k → W2.heap[k]? = W.heap[k]?) → St W2 os
  | [], _, _ => trivial
  | o :: os, ⟨⟨h1, h2, h3, h4⟩, h5⟩, hm => ⟨⟨fun k hk => Nat.lt_of_lt_of_le (h1 k hk) hs, h3 W W2 (hm o (by simp)) h2, h3, h4⟩, St.move hs h5 (fun p hp => hm p (by simp [hp]))⟩
theorem St.bound {W : World} : ∀ {os : List Ob}, St W os → ∀ o ∈ os, ∀ k, o.S k → k < W.heap.size
  | [], _, _, ho => by cases ho
  | p :: os, ⟨⟨h1, _⟩, h5⟩, o, ho => by
    rcases List.mem_cons.1 ho with rfl | ho
    · exact h1
    · exact St.bound h5 o ho
theorem St.below {W W2 : World} {os : List Ob} (h : St W os) (hb : Below W.heap.size W W2) : St W2 os :=
  St.move hb.size h (fun o ho k hk => hb.block k (h.bound o ho k hk))
theorem St.get {W : World} : ∀ {os : List Ob}, St W os → ∀ {o : Ob}, o ∈ os → o.P W
  | [], _, _, ho => by cases ho
  | p :: os, ⟨⟨_, h2, _⟩, h5⟩, o, ho => by
    rcases List.mem_cons.1 ho with rfl | ho
    · exact h2
    · exact St.get h5 ho
theorem St.push {W W2 : World} {os : List Ob} (h : St W os) (hb : Below W.heap.size W W2) {o : Ob} (hS : ∀ k, o.S k → W.heap.size ≤ k ∧ k < W2.heap.size) (hP : o.P W2) (hl : Loc o) : St W2 (o :: os) :=
  ⟨⟨fun k hk => (hS k hk).2, hP, hl, fun p hp k hk hk2 => Nat.lt_irrefl _ (Nat.lt_of_lt_of_le (h.bound p hp k hk2) (hS k hk).1)⟩, h.below hb⟩
/-- Two things that one call has made. -/
theorem St.push2 {W W2 : World} {os : List Ob} (h : St W os) (hb : Below W.heap.size W W2) {o p : Ob} (hS : ∀ k, o.S k → W.heap.size ≤ k ∧ k < W2.heap.size) (hP : o.P W2) (hl : Loc o) (hS2 : ∀ k, p.S k → W.heap.size ≤ k ∧ k < W2.heap.size) (hP2 : p.P W2) (hl2 : Loc p) (hne : ∀ k, o.S k → ¬ p.S k) : St W2 (o :: p :: os) := by
  have h2 := St.push h hb hS2 hP2 hl2
  refine ⟨⟨fun k hk => (hS k hk).2, hP, hl, fun q hq k hk hk2 => ?_⟩, h2⟩
  rcases List.mem_cons.1 hq with rfl | hq
  · exact hne k hk hk2
  · exact Nat.lt_irrefl _ (Nat.lt_of_lt_of_le (h.bound q hq k hk2) (hS k hk).1)
/-- A thing is written. -/
theorem St.put {W W2 : World} {S : Nat → Prop} {Q P : World → Prop} {post : List Ob} (hk : Kept W W2 S) (hP : P W2) (hl : Loc ⟨S, P⟩) : ∀ (pre : List Ob), St W (pre ++ ⟨S, Q⟩ :: post) → St W2 (pre ++ ⟨S, P⟩ :: post)
  | [], ⟨⟨h1, h2, h3, h4⟩, h5⟩ => ⟨⟨fun k hk1 => Nat.lt_of_lt_of_le (h1 k hk1) hk.1, hP, hl, h4⟩, St.move hk.1 h5 (fun p hp k hk1 => hk.2 k (h5.bound p hp k hk1) (fun h => h4 p hp k h hk1))⟩
  | o :: pre, ⟨⟨h1, h2, h3, h4⟩, h5⟩ => by
    refine ⟨⟨fun k hk1 => Nat.lt_of_lt_of_le (h1 k hk1) hk.1, h3 W W2 (fun k hk1 => hk.2 k (h1 k hk1) (fun h => h4 ⟨S, Q⟩ (by simp) k hk1 h)) h2, h3, fun p hp => ?_⟩, St.put hk hP hl pre h5⟩
    rcases List.mem_append.1 hp with hp | hp
    · exact h4 p (by simp [hp])
    · rcases List.mem_cons.1 hp with rfl | hp
      · exact fun k hk1 hk2 => h4 ⟨S, Q⟩ (by simp) k hk1 hk2
      · exact h4 p (by simp [hp])
/-- A slice of rows of whole numbers. -/
def obSS (b : Nat) (S : Nat → Prop) (v : Value) (l : List (List Int)) : Ob := ⟨S, fun W => Kd.S (Kd.slice 3 (Kd.int .i64)) 33 W b S v l⟩
theorem obSS_loc (b : Nat) (S : Nat → Prop) (v : Value) (l : List (List Int)) : Loc (obSS b S v l) := fun W W2 h hS => Kd.S_move hS h
theorem St.pushSS {W W2 : World} {os : List Ob} (h : St W os) (hb : Below W.heap.size W W2) {b : Nat} (hle : b ≤ W.heap.size) {v : Value} {l : List (List Int)} (hS : Kd.S (Kd.slice 3 (Kd.int .i64)) 33 W2 W.heap.size (fun _ => True) v l) : ∃ S, St W2 (obSS b S v l :: os) :=
  ⟨fun k => W.heap.size ≤ k ∧ k < W2.heap.size, St.push h hb (o := obSS b _ v l) (fun k hk => hk) (Kd.S_mono (Kd.S_lower (Kd.S_bound hS) hle) (fun k hk => ⟨hk.2.1, hk.2.2.1⟩)) (obSS_loc _ _ _ _)⟩
theorem St.getSS {W : World} {os : List Ob} {b : Nat} {S : Nat → Prop} {v : Value} {l : List (List Int)} (h : St W os) (ho : obSS b S v l ∈ os) : Kd.S (Kd.slice 3 (Kd.int .i64)) 33 W b S v l := St.get h ho
theorem St.sizeSS {W : World} {os : List Ob} {b : Nat} {S : Nat → Prop} {A : Option Addr} {n c : Nat} {l : List (List Int)} (h : St W os) (ho : obSS b S (.slice A n c) l ∈ os) : n ≤ c := (Kd.S_reads' (h.getSS ho)).2.1
theorem St.readSS {W : World} {os : List Ob} {b : Nat} {S : Nat → Prop} {A : Option Addr} {n c : Nat} {l : List (List Int)} (h : St W os) (ho : obSS b S (.slice A n c) l ∈ os) : Kd.C (Kd.slice 3 (Kd.int .i64)) W A l.length l := (Kd.S_reads' (h.getSS ho)).2.2
/-- A slice of things that hold no further blocks. -/
def obF {α : Type} (d : Kd α) (e b : Nat) (v : Value) (l : List α) : Ob := ⟨fun k => some k = v.ownBlock, fun W => d.R e W b (fun k => some k = v.ownBlock) v l⟩
section
variable {α β : Type} {d : Kd α} {e b : Nat} {d2 : Kd β} {e2 b2 : Nat}
theorem obF_loc (d : Kd α) (e b : Nat) (v : Value) (l : List α) : Loc (obF d e b v l) := fun W W2 h hS => Kd.R_move hS h
theorem obF_in {W W2 : World} {ok : Nat → Prop} {v : Value} {l : List α} (h : d.R e W2 W.heap.size ok v l) : ∀ k, (obF d e b v l).S k → W.heap.size ≤ k ∧ k < W2.heap.size := fun k hk => ⟨Kd.R_base h k hk.symm, Kd.R_lt h k hk.symm⟩
theorem St.pushF {W W2 : World} {os : List Ob} (h : St W os) (hb : Below W.heap.size W W2) (hE : d.E = []) (hle : b ≤ W.heap.size) {ok : Nat → Prop} {v : Value} {l : List α} (hS : d.R e W2 W.heap.size ok v l) : St W2 (obF d e b v l :: os) :=
  St.push h hb (obF_in hS) (Kd.R_lower (Kd.R_tight hE hS) hle) (obF_loc _ _ _ _ _)
theorem St.pushF2 {W W2 : World} {os : List Ob} (h : St W os) (hb : Below W.heap.size W W2) (hE : d.E = []) (hE2 : d2.E = []) (hle : b ≤ W.heap.size) {v v2 : Value} {l : List α} {l2 : List β} (hS : d.R e W2 W.heap.size (fun k => some k ≠ v2.ownBlock) v l) {ok2 : Nat → Prop} (hS2 : d2.R e2 W2 W.heap.size ok2 v2 l2) : St W2 (obF d e b v l :: obF d2 e2 b v2 l2 :: os) :=
  St.push2 h hb (obF_in hS) (Kd.R_lower (Kd.R_tight hE hS) hle) (obF_loc _ _ _ _ _) (obF_in hS2) (Kd.R_lower (Kd.R_tight hE2 hS2) hle) (obF_loc _ _ _ _ _) (fun k hk hk2 => hS.1 k hk.symm hk2)
theorem St.getF {W : World} {os : List Ob} {v : Value} {l : List α} (h : St W os) (ho : obF d e b v l ∈ os) : d.R e W b (fun k => some k = v.ownBlock) v l := St.get h ho
theorem St.sizeF {W : World} {os : List Ob} {A : Option Addr} {n c : Nat} {l : List α} (h : St W os) (ho : obF d e b (.slice A n c) l ∈ os) : n ≤ c := (Kd.R_reads' (h.getF ho)).2.1
theorem St.readF {W : World} {os : List Ob} {A : Option Addr} {n c : Nat} {l : List α} (h : St W os) (ho : obF d e b (.slice A n c) l ∈ os) : d.C W A l.length l := (Kd.R_reads' (h.getF ho)).2.2
theorem St.putF {W W2 : World} {v : Value} {l l2 : List α} {post : List Ob} (pre : List Ob) (h : St W (pre ++ obF d e b v l :: post)) (hE : d.E = []) {ok : Nat → Prop} (hk : Kept W W2 (fun k => some k = v.ownBlock)) (hP : d.R e W2 b ok v l2) : St W2 (pre ++ obF d e b v l2 :: post) :=
  St.put hk (Kd.R_tight hE hP) (obF_loc _ _ _ _ _) pre h
end
theorem St.putSS {W W2 : World} {b : Nat} {S : Nat → Prop} {v : Value} {l l2 : List (List Int)} {post : List Ob} (pre : List Ob) (h : St W (pre ++ obSS b S v l :: post)) (hk : Kept W W2 S) (hP : Kd.S (Kd.slice 3 (Kd.int .i64)) 33 W2 b S v l2) : St W2 (pre ++ obSS b S v l2 :: post) :=
  St.put hk hP (obSS_loc _ _ _ _) pre h
/-- A boxed struct of two cells. -/
def obB (g : Nat) (u0 u1 : Value) : Ob := ⟨fun k => k = g, fun W => W.cell? ⟨g, 0, none⟩ = some u0 ∧ W.cell? ⟨g, 1, none⟩ = some u1⟩
theorem cell_same {W W2 : World} {g i : Nat} (h : W2.heap[g]? = W.heap[g]?) : W2.cell? ⟨g, i, none⟩ = W.cell? ⟨g, i, none⟩ := by
  unfold World.cell?
  simp only [h]
theorem obB_loc (g : Nat) (u0 u1 : Value) : Loc (obB g u0 u1) := fun W W2 h hS => by
  have e := h g rfl
  exact ⟨(cell_same e).trans hS.1, (cell_same e).trans hS.2⟩
theorem St.getB {W : World} {os : List Ob} {g : Nat} {u0 u1 : Value} (h : St W os) (ho : obB g u0 u1 ∈ os) : W.cell? ⟨g, 0, none⟩ = some u0 ∧ W.cell? ⟨g, 1, none⟩ = some u1 := St.get h ho
theorem St.pushBox {W : World} {os : List Ob} {u0 u1 : Value} {t : Nat} (h : St W os) : St (W.alloc (.cells #[u0, u1] t)) (obB W.heap.size u0 u1 :: os) := by
  have h1 : (W.alloc (.cells #[u0, u1] t)).heap.size = W.heap.size + 1 := by rw [← World.alloc_eq]; simp
  refine St.push h (below_alloc (Below.refl W.heap.size W) _) (fun k hk => ?_) ⟨by simp, by simp⟩ (obB_loc _ _ _)
  obtain rfl : k = W.heap.size := hk
  omega
/-- A boxed struct of four cells. -/
def obB4 (g : Nat) (u0 u1 u2 u3 : Value) : Ob := ⟨fun k => k = g, fun W => W.cell? ⟨g, 0, none⟩ = some u0 ∧ W.cell? ⟨g, 1, none⟩ = some u1 ∧ W.cell? ⟨g, 2, none⟩ = some u2 ∧ W.cell? ⟨g, 3, none⟩ = some u3⟩
theorem obB4_loc (g : Nat) (u0 u1 u2 u3 : Value) : Loc (obB4 g u0 u1 u2 u3) := fun W W2 h hS => by
  have e := h g rfl
  exact ⟨(cell_same e).trans hS.1, (cell_same e).trans hS.2.1, (cell_same e).trans hS.2.2.1, (cell_same e).trans hS.2.2.2⟩
theorem St.getB4 {W : World} {os : List Ob} {g : Nat} {u0 u1 u2 u3 : Value} (h : St W os) (ho : obB4 g u0 u1 u2 u3 ∈ os) : W.cell? ⟨g, 0, none⟩ = some u0 ∧ W.cell? ⟨g, 1, none⟩ = some u1 ∧ W.cell? ⟨g, 2, none⟩ = some u2 ∧ W.cell? ⟨g, 3, none⟩ = some u3 := St.get h ho
theorem St.pushBox4 {W : World} {os : List Ob} {u0 u1 u2 u3 : Value} {t : Nat} (h : St W os) : St (W.alloc (.cells #[u0, u1, u2, u3] t)) (obB4 W.heap.size u0 u1 u2 u3 :: os) := by
  have h1 : (W.alloc (.cells #[u0, u1, u2, u3] t)).heap.size = W.heap.size + 1 := by rw [← World.alloc_eq]; simp
  refine St.push h (below_alloc (Below.refl W.heap.size W) _) (fun k hk => ?_) ⟨by simp, by simp, by simp, by simp⟩ (obB4_loc _ _ _ _ _)
  obtain rfl : k = W.heap.size := hk
  omega
end Go.Proofs.Ytojcnapdalpnmaa.K

namespace Go.Proofs.Ytojcnapdalpnmaa.P
open Go.RowKit Go.Proofs.YtojcnapdalpnmaaW.PrintWords Go.Proofs.YtojcnapdalpnmaaW.PrintLast Go.Proofs.YtojcnapdalpnmaaW.PrintMore
attribute [local go_sem] max2_int min2_int max_two min_two max_three min_three max_four min_four
def laws_heldIntS.l0 : Nat → List Int → Int → Int → Option (Int)
 | 0, _, _, _ => none
 | k + 1, x0, x1, x5 => if x5 < (x0.length : Int) then (if 0 ≤ x5 then (if (rd x0 x5) = x1 then (laws_heldIntS.l0 k x0 (wrap64 (x1 + 1)) (wrap64 (x5 + 1))) else (some (-1))) else (none)) else (some x1)
def laws_heldIntS.f (k : Nat) (l0 : List Int) (a1 : Int) : Option (Int) := laws_heldIntS.l0 k l0 a1 0
theorem laws_heldIntS.mono_l : ∀ k, (∀ y0 y1 y2, LeO (laws_heldIntS.l0 k y0 y1 y2) (laws_heldIntS.l0 (k + 1) y0 y1 y2))
 | 0 => fun _ _ _ r h => by simp [laws_heldIntS.l0] at h
 | k + 1 => by
  have ih0 := laws_heldIntS.mono_l k
  ·
   intro y0 y1 y2
   unfold laws_heldIntS.l0
   repeat' first
   | (with_reducible exact ih0 _ _ _)
   | (with_reducible exact LeO.refl _)
   | (with_reducible exact LeO.none _)
   | (with_reducible refine LeO.ite ?_ ?_)
   | (with_reducible refine LeO.bind ?_ (fun _ => ?_))
   | exact ih0 _ _ _
   | exact LeO.none _
   | refine LeO.ite ?_ ?_
   | refine LeO.bind ?_ (fun _ => ?_)
theorem laws_heldIntS.mono : ∀ a0 a1 k, LeO (laws_heldIntS.f k a0 a1) (laws_heldIntS.f (k + 1) a0 a1) := by
 intro a0 a1 k
 have ih0 := laws_heldIntS.mono_l k
 unfold laws_heldIntS.f
 repeat' first
   | (with_reducible exact ih0 _ _ _)
   | (with_reducible exact LeO.refl _)
   | (with_reducible exact LeO.none _)
   | (with_reducible refine LeO.ite ?_ ?_)
   | (with_reducible refine LeO.bind ?_ (fun _ => ?_))
   | exact ih0 _ _ _
   | exact LeO.none _
   | refine LeO.ite ?_ ?_
   | refine LeO.bind ?_ (fun _ => ?_)
set_option maxHeartbeats 8000000 in
set_option maxRecDepth 100000 in
theorem laws_heldIntS.calls (k : Nat) (A0 : Option Addr) (c0 : Nat) (l0 : List Int) (a1 : Int) (r : Int) (w : World) (hr0 : Kd.C (Kd.int .i64) w A0 l0.length l0) (hc0 : l0.length ≤ c0) (h : laws_heldIntS.f k l0 a1 = some r) :
  Calls Try.prog 37 #[.slice A0 l0.length c0, .int .i64 a1] w fun e w' => e = .returned (.int .i64 r) ∧ Drawn0 w w' := by
 have HR0 := Aside0.mk hr0
 have HC0 := Aside0.mk hc0
 clear hr0 hc0
 have H : (laws_heldIntS.l0 k l0 a1 0) = some r := h
 clear h
 have H' := Aside0.mk H
 clear H
 go_enter Try.func37, Try.ntmps37
 go_wp2
 go_loopg [1, 5] k (fun kq v1 v5 w' => ∃ (x1_1 : Int) (x5_1 : Int), v1 = .int .i64 x1_1 ∧ v5 = .int .i64 x5_1 ∧ Aside0 (laws_heldIntS.l0 kq l0 x1_1 x5_1 = some r) ∧ Aside0 (kq ≤ k) ∧ Drawn0 w w')
 case atStart => exact ⟨(a1), (0), (by first | rfl | (simp; done) | (simp [*]; done)), (by first | rfl | (simp; done) | (simp [*]; done)), H', ⟨Nat.le_refl _⟩, by repeat (first | exact Drawn0.refl _ | apply Drawn0.step)⟩
 case round =>
  clear H'
  try clear p2
  obtain ⟨x1_1, x5_1, rfl, rfl, HA, HK1, ⟨m1, rfl⟩⟩ := hrel
  cases gk with
  | zero => exact absurd HA.out (by simp [laws_heldIntS.l0])
  | succ k1 =>
   have H := HA.out
   clear HA
   simp only [laws_heldIntS.l0] at H
   by_cases c3 : x5_1 < (l0.length : Int)
   ·
    rw [if_pos c3] at H
    have c3b0 : decide (x5_1 < (l0.length : Int)) = true := decide_eq_true c3
    clear c3
    by_cases c4 : 0 ≤ x5_1
    ·
     rw [if_pos c4] at H
     have c4b0 : decide (0 ≤ x5_1) = true := decide_eq_true c4
     clear c4
     by_cases c5 : (rd l0 x5_1) = x1_1
     ·
      rw [if_pos c5] at H
      have c5b0 : ((rd l0 x5_1) == x1_1) = true := beq_iff_eq.mpr c5
      have c5b1 : ((rd l0 x5_1) != x1_1) = false := bne_eq_false_iff_eq.mpr c5
      clear c5
      have H' := Aside0.mk H
      clear H
      have p253 : 0 ≤ (x5_1 : Int) := of_decide_eq_true (by first | (with_reducible assumption) | assumption)
      have q253 : x5_1 < (l0.length : Int) := of_decide_eq_true (by first | (with_reducible assumption) | assumption)
      obtain ⟨ad253, e253, hx253_0⟩ := Kd.at_int HR0.out x5_1 p253 q253
      cases e253
      replace p253 := eq_true p253
      replace q253 := eq_true q253
      go_wp2
      go_roundg k1
      case measure => have := HK1.out; omega
      case rel => exact ⟨(wrap64 (x1_1 + 1)), (wrap64 (x5_1 + 1)), (by first | rfl | (simp; done) | (simp [*]; done)), (by first | rfl | (simp; done) | (simp [*]; done)), H', ⟨by have := HK1.out; omega⟩, by repeat (first | exact Drawn0.refl _ | apply Drawn0.step)⟩
     ·
      rw [if_neg c5] at H
      have c5b0 : ((rd l0 x5_1) == x1_1) = false := beq_eq_false_iff_ne.mpr c5
      have c5b1 : ((rd l0 x5_1) != x1_1) = true := bne_iff_ne.mpr c5
      obtain rfl := Option.some.inj H
      have p253 : 0 ≤ (x5_1 : Int) := of_decide_eq_true (by first | (with_reducible assumption) | assumption)
      have q253 : x5_1 < (l0.length : Int) := of_decide_eq_true (by first | (with_reducible assumption) | assumption)
      obtain ⟨ad253, e253, hx253_0⟩ := Kd.at_int HR0.out x5_1 p253 q253
      cases e253
      replace p253 := eq_true p253
      replace q253 := eq_true q253
      go_wp2
      go_ret
      exact ⟨by first | rfl | (simp; done) | (simp [*]; done), by repeat (first | exact Drawn0.refl _ | apply Drawn0.step)⟩
    ·
     rw [if_neg c4] at H
     exact absurd H (by simp)
   ·
    rw [if_neg c3] at H
    have c3b0 : decide (x5_1 < (l0.length : Int)) = false := decide_eq_false c3
    clear c3
    obtain rfl := Option.some.inj H
    go_wp2
    go_ret
    exact ⟨by first | rfl | (simp; done) | (simp [*]; done), by repeat (first | exact Drawn0.refl _ | apply Drawn0.step)⟩
end Go.Proofs.Ytojcnapdalpnmaa.P

namespace Go.Proofs.Ytojcnapdalpnmaa.P
open Go.RowKit Go.Proofs.YtojcnapdalpnmaaW.PrintWords Go.Proofs.YtojcnapdalpnmaaW.PrintLast Go.Proofs.YtojcnapdalpnmaaW.PrintMore
attribute [local go_sem] max2_int min2_int max_two min_two max_three min_three max_four min_four
def laws_heldIntSS.l0 : Nat → List (List Int) → Int → Int → Option (Int)
 | 0, _, _, _ => none
 | k + 1, x0, x1, x5 => if x5 < (x0.length : Int) then (if 0 ≤ x5 then ((laws_heldIntS.f k (rd_L1 x0 x5) x1).bind fun t255 => (if t255 < 0 then (some (-1)) else (laws_heldIntSS.l0 k x0 t255 (wrap64 (x5 + 1))))) else (none)) else (some x1)
def laws_heldIntSS.f (k : Nat) (l0 : List (List Int)) (a1 : Int) : Option (Int) := laws_heldIntSS.l0 k l0 a1 0
theorem laws_heldIntSS.mono_l : ∀ k, (∀ y0 y1 y2, LeO (laws_heldIntSS.l0 k y0 y1 y2) (laws_heldIntSS.l0 (k + 1) y0 y1 y2))
 | 0 => fun _ _ _ r h => by simp [laws_heldIntSS.l0] at h
 | k + 1 => by
  have ih0 := laws_heldIntSS.mono_l k
  ·
   intro y0 y1 y2
   unfold laws_heldIntSS.l0
   repeat' first
   | (with_reducible exact ih0 _ _ _)
   | (with_reducible exact laws_heldIntS.mono _ _ _)
   | (with_reducible exact LeO.refl _)
   | (with_reducible exact LeO.none _)
   | (with_reducible refine LeO.ite ?_ ?_)
   | (with_reducible refine LeO.bind ?_ (fun _ => ?_))
   | exact ih0 _ _ _
   | exact laws_heldIntS.mono _ _ _
   | exact LeO.none _
   | refine LeO.ite ?_ ?_
   | refine LeO.bind ?_ (fun _ => ?_)
theorem laws_heldIntSS.mono : ∀ a0 a1 k, LeO (laws_heldIntSS.f k a0 a1) (laws_heldIntSS.f (k + 1) a0 a1) := by
 intro a0 a1 k
 have ih0 := laws_heldIntSS.mono_l k
 unfold laws_heldIntSS.f
 repeat' first
   | (with_reducible exact ih0 _ _ _)
   | (with_reducible exact laws_heldIntS.mono _ _ _)
   | (with_reducible exact LeO.refl _)
   | (with_reducible exact LeO.none _)
   | (with_reducible refine LeO.ite ?_ ?_)
   | (with_reducible refine LeO.bind ?_ (fun _ => ?_))
   | exact ih0 _ _ _
   | exact laws_heldIntS.mono _ _ _
   | exact LeO.none _
   | refine LeO.ite ?_ ?_
   | refine LeO.bind ?_ (fun _ => ?_)
set_option maxHeartbeats 8000000 in
set_option maxRecDepth 100000 in
theorem laws_heldIntSS.calls (k : Nat) (A0 : Option Addr) (c0 : Nat) (l0 : List (List Int)) (a1 : Int) (r : Int) (w : World) (hr0 : Kd.C (Kd.slice 3 (Kd.int .i64)) w A0 l0.length l0) (hc0 : l0.length ≤ c0) (h : laws_heldIntSS.f k l0 a1 = some r) :
  Calls Try.prog 30 #[.slice A0 l0.length c0, .int .i64 a1] w fun e w' => e = .returned (.int .i64 r) ∧ Drawn0 w w' := by
 have HR0 := Aside0.mk hr0
 have HC0 := Aside0.mk hc0
 clear hr0 hc0
 have H : (laws_heldIntSS.l0 k l0 a1 0) = some r := h
 clear h
 have H' := Aside0.mk H
 clear H
 go_enter Try.func30, Try.ntmps30
 go_wp2
 go_loopg [1, 5] k (fun kq v1 v5 w' => ∃ (x1_1 : Int) (x5_1 : Int), v1 = .int .i64 x1_1 ∧ v5 = .int .i64 x5_1 ∧ Aside0 (laws_heldIntSS.l0 kq l0 x1_1 x5_1 = some r) ∧ Aside0 (kq ≤ k) ∧ Drawn0 w w')
 case atStart => exact ⟨(a1), (0), (by first | rfl | (simp; done) | (simp [*]; done)), (by first | rfl | (simp; done) | (simp [*]; done)), H', ⟨Nat.le_refl _⟩, by repeat (first | exact Drawn0.refl _ | apply Drawn0.step)⟩
 case round =>
  clear H'
  try clear p2
  obtain ⟨x1_1, x5_1, rfl, rfl, HA, HK1, ⟨m1, rfl⟩⟩ := hrel
  cases gk with
  | zero => exact absurd HA.out (by simp [laws_heldIntSS.l0])
  | succ k1 =>
   have H := HA.out
   clear HA
   simp only [laws_heldIntSS.l0] at H
   by_cases c3 : x5_1 < (l0.length : Int)
   ·
    rw [if_pos c3] at H
    have c3b0 : decide (x5_1 < (l0.length : Int)) = true := decide_eq_true c3
    clear c3
    by_cases c4 : 0 ≤ x5_1
    ·
     rw [if_pos c4] at H
     have c4b0 : decide (0 ≤ x5_1) = true := decide_eq_true c4
     clear c4
     replace H := Option.bind_eq_some_iff.mp H
     obtain ⟨t255, A50, H⟩ := H
     replace H : (if t255 < 0 then (some (-1)) else (laws_heldIntSS.l0 k1 l0 t255 (wrap64 (x5_1 + 1)))) = some r := H
     have A5 := Aside0.mk A50
     clear A50
     by_cases c6 : t255 < 0
     ·
      rw [if_pos c6] at H
      have c6b0 : decide (t255 < 0) = true := decide_eq_true c6
      clear c6
      obtain rfl := Option.some.inj H
      have p254 : 0 ≤ (x5_1 : Int) := of_decide_eq_true (by first | (with_reducible assumption) | assumption)
      have q254 : x5_1 < (l0.length : Int) := of_decide_eq_true (by first | (with_reducible assumption) | assumption)
      obtain ⟨ad254, A254_0, c254_0, e254, hx254_0, hl254_0, hi254_0⟩ := at_L1 HR0.out x5_1 p254 q254
      cases e254
      have HR254_0 := Aside0.mk hi254_0
      have HC254_0 := Aside0.mk hl254_0
      clear hi254_0 hl254_0
      replace p254 := eq_true p254
      replace q254 := eq_true q254
      go_wp2_with (first | ((with_reducible refine gate_callee (f := 37) rfl ?_); refine goesL_ (some 17) rfl rfl Try.func37 (by kernel_rfl) rfl #[.slice A254_0 (rd_L1 l0 x5_1).length c254_0, .int .i64 x1_1] rfl (by (try simp only [List.map_toArray, List.map_cons, List.map_nil]); first | done | rfl) ?_; (with_reducible refine (laws_heldIntS.calls k1 _ _ (rd_L1 l0 x5_1) x1_1 t255 _ ?side1 ?side2 A5.out).mono ?_); (case side1 => repeat (first | exact HR254_0.out | (with_reducible refine Kd.C_alloc ?_ _) | (with_reducible refine Kd.C_drewN ?_ _) | (with_reducible refine Kd.C_drew ?_))); (case side2 => exact HC254_0.out); rintro e w' ⟨rfl, ⟨nd, rfl⟩⟩; refine ⟨_, rfl, ?_⟩))
      go_ret
      exact ⟨by first | rfl | (simp; done) | (simp [*]; done), by repeat (first | exact Drawn0.refl _ | apply Drawn0.step)⟩
     ·
      rw [if_neg c6] at H
      have c6b0 : decide (t255 < 0) = false := decide_eq_false c6
      clear c6
      have H' := Aside0.mk H
      clear H
      have p254 : 0 ≤ (x5_1 : Int) := of_decide_eq_true (by first | (with_reducible assumption) | assumption)
      have q254 : x5_1 < (l0.length : Int) := of_decide_eq_true (by first | (with_reducible assumption) | assumption)
      obtain ⟨ad254, A254_0, c254_0, e254, hx254_0, hl254_0, hi254_0⟩ := at_L1 HR0.out x5_1 p254 q254
      cases e254
      have HR254_0 := Aside0.mk hi254_0
      have HC254_0 := Aside0.mk hl254_0
      clear hi254_0 hl254_0
      replace p254 := eq_true p254
      replace q254 := eq_true q254
      go_wp2_with (first | ((with_reducible refine gate_callee (f := 37) rfl ?_); refine goesL_ (some 17) rfl rfl Try.func37 (by kernel_rfl) rfl #[.slice A254_0 (rd_L1 l0 x5_1).length c254_0, .int .i64 x1_1] rfl (by (try simp only [List.map_toArray, List.map_cons, List.map_nil]); first | done | rfl) ?_; (with_reducible refine (laws_heldIntS.calls k1 _ _ (rd_L1 l0 x5_1) x1_1 t255 _ ?side1 ?side2 A5.out).mono ?_); (case side1 => repeat (first | exact HR254_0.out | (with_reducible refine Kd.C_alloc ?_ _) | (with_reducible refine Kd.C_drewN ?_ _) | (with_reducible refine Kd.C_drew ?_))); (case side2 => exact HC254_0.out); rintro e w' ⟨rfl, ⟨nd, rfl⟩⟩; refine ⟨_, rfl, ?_⟩))
      go_roundg k1
      case measure => have := HK1.out; omega
      case rel => exact ⟨(t255), (wrap64 (x5_1 + 1)), (by first | rfl | (simp; done) | (simp [*]; done)), (by first | rfl | (simp; done) | (simp [*]; done)), H', ⟨by have := HK1.out; omega⟩, by repeat (first | exact Drawn0.refl _ | apply Drawn0.step)⟩
    ·
     rw [if_neg c4] at H
     exact absurd H (by simp)
   ·
    rw [if_neg c3] at H
    have c3b0 : decide (x5_1 < (l0.length : Int)) = false := decide_eq_false c3
    clear c3
    obtain rfl := Option.some.inj H
    go_wp2
    go_ret
    exact ⟨by first | rfl | (simp; done) | (simp [*]; done), by repeat (first | exact Drawn0.refl _ | apply Drawn0.step)⟩
end Go.Proofs.Ytojcnapdalpnmaa.P

namespace Go.Proofs.Ytojcnapdalpnmaa.K
open Go.RowKit Go.Proofs.YtojcnapdalpnmaaW.PrintWords Go.Proofs.YtojcnapdalpnmaaW.PrintLast Go.Proofs.YtojcnapdalpnmaaW.PrintMore Go.Proofs.Ytojcnapdalpnmaa.P
theorem heldNIntSS (k : Nat) (A0 : Option Addr) (c0 n : Nat) (l0 : List (List Int)) (a1 : Int) (r : Int) (w : World) (hr0 : Kd.C (Kd.slice 3 (Kd.int .i64)) w A0 l0.length l0) (hc0 : n ≤ c0) (h : laws_heldIntSS.f k l0 a1 = some r) (hn : n = l0.length) :
    Calls Try.prog 30 #[.slice A0 n c0, .int .i64 a1] w fun e w' => e = .returned (.int .i64 r) ∧ Drawn0 w w' := by subst hn; exact laws_heldIntSS.calls k A0 c0 l0 a1 r w hr0 hc0 h
theorem heldNIntS (k : Nat) (A0 : Option Addr) (c0 n : Nat) (l0 : List Int) (a1 : Int) (r : Int) (w : World) (hr0 : Kd.C (Kd.int .i64) w A0 l0.length l0) (hc0 : n ≤ c0) (h : laws_heldIntS.f k l0 a1 = some r) (hn : n = l0.length) :
    Calls Try.prog 37 #[.slice A0 n c0, .int .i64 a1] w fun e w' => e = .returned (.int .i64 r) ∧ Drawn0 w w' := by subst hn; exact laws_heldIntS.calls k A0 c0 l0 a1 r w hr0 hc0 h
theorem heldNSwitchS (k : Nat) (A0 : Option Addr) (c0 n : Nat) (l0 : List S41) (a1 : Int) (r : Int) (w : World) (hr0 : Kd.C k41 w A0 l0.length l0) (hc0 : n ≤ c0) (h : laws_heldSwitchS.f k l0 a1 = some r) (hn : n = l0.length) :
    Calls Try.prog 45 #[.slice A0 n c0, .int .i64 a1] w fun e w' => e = .returned (.int .i64 r) ∧ Drawn0 w w' := by subst hn; exact laws_heldSwitchS.calls k A0 c0 l0 a1 r w hr0 hc0 h
end Go.Proofs.Ytojcnapdalpnmaa.K

namespace Go.Proofs.Ytojcnapdalpnmaa.P
open Go.RowKit Go.Proofs.YtojcnapdalpnmaaW.PrintWords Go.Proofs.YtojcnapdalpnmaaW.PrintLast Go.Proofs.YtojcnapdalpnmaaW.PrintMore
attribute [local go_sem] max2_int min2_int max_two min_two max_three min_three max_four min_four
def laws_markIntS.l0 : Nat → List Int → Int → Int → Option (Int × List Int)
 | 0, _, _, _ => none
 | k + 1, x0, x1, x5 => if x5 < (x0.length : Int) then (if 0 ≤ x5 then (laws_markIntS.l0 k (x0.set (x5 : Int).toNat x1) (wrap64 (x1 + 1)) (wrap64 (x5 + 1))) else (none)) else (some (x1, x0))
def laws_markIntS.f (k : Nat) (l0 : List Int) (a1 : Int) : Option (Int × List Int) := laws_markIntS.l0 k l0 a1 0
theorem laws_markIntS.mono_l : ∀ k, (∀ y0 y1 y2, LeO (laws_markIntS.l0 k y0 y1 y2) (laws_markIntS.l0 (k + 1) y0 y1 y2))
 | 0 => fun _ _ _ r h => by simp [laws_markIntS.l0] at h
 | k + 1 => by
  have ih0 := laws_markIntS.mono_l k
  ·
   intro y0 y1 y2
   unfold laws_markIntS.l0
   repeat' first
   | (with_reducible exact ih0 _ _ _)
   | (with_reducible exact LeO.refl _)
   | (with_reducible exact LeO.none _)
   | (with_reducible refine LeO.ite ?_ ?_)
   | (with_reducible refine LeO.bind ?_ (fun _ => ?_))
   | exact ih0 _ _ _
   | exact LeO.none _
   | refine LeO.ite ?_ ?_
   | refine LeO.bind ?_ (fun _ => ?_)
theorem laws_markIntS.mono : ∀ a0 a1 k, LeO (laws_markIntS.f k a0 a1) (laws_markIntS.f (k + 1) a0 a1) := by
 intro a0 a1 k
 have ih0 := laws_markIntS.mono_l k
 unfold laws_markIntS.f
 repeat' first
   | (with_reducible exact ih0 _ _ _)
   | (with_reducible exact LeO.refl _)
   | (with_reducible exact LeO.none _)
   | (with_reducible refine LeO.ite ?_ ?_)
   | (with_reducible refine LeO.bind ?_ (fun _ => ?_))
   | exact ih0 _ _ _
   | exact LeO.none _
   | refine LeO.ite ?_ ?_
   | refine LeO.bind ?_ (fun _ => ?_)
set_option maxHeartbeats 8000000 in
set_option maxRecDepth 100000 in
theorem laws_markIntS.calls (k : Nat) (P0_ : Nat → Prop) (u9000_ : Value) (l0 : List Int) (a1 : Int) (r1 : Int) (r2 : List Int) (w0 w : World) (hB : Below w0.heap.size w0 w) (ho0 : Kd.R (Kd.int .i64) 3 w w0.heap.size P0_ u9000_ l0) (h : laws_markIntS.f k l0 a1 = some (r1, r2)) :
  Calls Try.prog 36 #[u9000_, .int .i64 a1] w fun e w' => e = .returned (.int .i64 r1) ∧ Kd.R (Kd.int .i64) 3 w' w0.heap.size (fun k_ => (P0_ k_ ∨ w.heap.size ≤ k_)) u9000_ r2 ∧ Below w0.heap.size w0 w' ∧ Kept w w' (fun k_ => P0_ k_) := by
 have HO0 := Aside0.mk (show Kd.R (Kd.int .i64) 3 w w0.heap.size (fun k_ => (P0_ k_ ∨ w.heap.size ≤ k_)) u9000_ l0 from Kd.R_mono ho0 (fun k_ hk => (.inl hk)))
 have HK := Aside0.mk (Kept.refl w (fun k_ => P0_ k_))
 have HW0 := Aside0.mk hB.size
 have HB := Aside0.mk hB
 clear hB
 have H : (laws_markIntS.l0 k l0 a1 0) = some (r1, r2) := h
 clear h
 have H' := Aside0.mk H
 clear H
 go_enter Try.func36, Try.ntmps36
 go_wp2
 go_loopg [1, 5] k (fun kq v1 v5 w' => ∃ (x0_1 : List Int) (x1_1 : Int) (x5_1 : Int), v1 = .int .i64 x1_1 ∧ v5 = .int .i64 x5_1 ∧ Aside0 (laws_markIntS.l0 kq x0_1 x1_1 x5_1 = some (r1, r2)) ∧ Aside0 (kq ≤ k) ∧ Aside0 (Kd.R (Kd.int .i64) 3 w' w0.heap.size (fun k_ => (P0_ k_ ∨ w.heap.size ≤ k_)) u9000_ x0_1) ∧ Aside0 (Kept w w' (fun k_ => P0_ k_)) ∧ Aside0 (Below w0.heap.size w0 w'))
 case atStart => exact ⟨(l0), (a1), (0), (by first | rfl | (simp; done) | (simp [*]; done)), (by first | rfl | (simp; done) | (simp [*]; done)), H', ⟨Nat.le_refl _⟩, ⟨by (with_reducible repeat (first | apply Kd.R_alloc | apply Kd.R_drewN | apply Kd.R_drew)); exact HO0.out⟩, ⟨by repeat (first | (with_reducible first | exact HK.out | apply Kept.alloc | apply Kept.drewN | apply Kept.drew) | exact HK.out)⟩, ⟨by repeat (first | (with_reducible first | exact HB.out | apply below_alloc | apply pw_below_drewN | apply below_drew1) | exact HB.out)⟩⟩
 case round =>
  clear H'
  try clear p2
  obtain ⟨x0_1, x1_1, x5_1, rfl, rfl, HA, HK1, HO_0, HK, HB⟩ := hrel
  cases gk with
  | zero => exact absurd HA.out (by simp [laws_markIntS.l0])
  | succ k1 =>
   have H := HA.out
   clear HA
   simp only [laws_markIntS.l0] at H
   by_cases c3 : x5_1 < (x0_1.length : Int)
   ·
    rw [if_pos c3] at H
    have c3b0 : decide (x5_1 < (x0_1.length : Int)) = true := decide_eq_true c3
    clear c3
    by_cases c4 : 0 ≤ x5_1
    ·
     rw [if_pos c4] at H
     have c4b0 : decide (0 ≤ x5_1) = true := decide_eq_true c4
     clear c4
     obtain ⟨y304, hy304⟩ : ∃ y_ : List Int, y_ = (x0_1.set (x5_1 : Int).toNat x1_1) := ⟨_, rfl⟩
     replace H : (laws_markIntS.l0 k1 y304 (wrap64 (x1_1 + 1)) (wrap64 (x5_1 + 1))) = some (r1, r2) := by first | (rw [hy304]; with_reducible exact H) | (have H2_ := (Option.bind_some _ _).symm.trans H; rw [hy304]; with_reducible exact H2_) | (have H2_ := (Option.bind_some _ _).symm.trans H; with_reducible exact H2_) | with_reducible exact H | (rw [hy304]; exact H) | exact H
     have Ny304 := Aside0.mk hy304
     clear hy304
     have H' := Aside0.mk H
     clear H
     obtain ⟨Ao6, co6, eo6⟩ := Kd.R_slice HO_0.out
     subst eo6
     have p5 : 0 ≤ (x5_1 : Int) := of_decide_eq_true (by first | (with_reducible assumption) | assumption)
     have q5 : (x5_1 : Int) < ((x0_1.length : Int) : Int) := of_decide_eq_true (by first | (with_reducible assumption) | assumption)
     obtain ⟨go5, co5, eo5, gb5, gl5, cl5, HG5⟩ := Kd.R_form HO_0.out (by omega)
     (first | cases eo5 | (injection eo5 with ea_ en_ ec_; (first | subst ea_ | (injection ea_ with ea_; subst ea_)); subst ec_; clear en_))
     have GB5 := Aside0.mk gb5
     have GG5 := Aside0.mk HG5
     clear gb5 gl5 HG5
     have HMgo5 := Aside0.mk (show (P0_ go5 ∨ w.heap.size ≤ go5) from (HO_0.out.1 _ rfl))
     obtain ⟨hx5_0, hf5_0⟩ := Kd.R_celln 0 HO_0.out (x5_1 : Int) p5 q5
     replace p5 := eq_true p5
     replace q5 := eq_true q5
     have HP7 := Kd.R_putg HO_0.out (x5_1 : Int) x1_1
     go_wp2_with (first | ((with_reducible refine gate_store (t := 3) (p := 15) rfl ?_); refine store_event (t := 3) (p := 15) (v := ?vo_w8) (w1 := (wr.setCell ⟨go5, (x5_1 : Int).toNat, none⟩ (.int .i64 x1_1))) ?hg ?ho ?hn ?hr ?_; (case ho => rfl); (case hg => rfl); (case hn => rfl); (case hr => first | (go_simp; done) | (go_simp; rfl)); intro w8 hw; have hg : wr.grownBy w8 (some go5) := (by rw [hw]; exact HP7.2); have hp_ : Kd.R (Kd.int .i64) 3 w8 w0.heap.size (fun k_ => (P0_ k_ ∨ w.heap.size ≤ k_)) (.slice (some ⟨go5, 0, none⟩) x0_1.length co6) y304 := (by rw [hw, Ny304.out]; exact HP7.1); clear HP7; have n0_ := Aside0.mk (hp_); have n1_ := Aside0.mk ((by rw [hw]; exact below_set (HB.out) GB5.out : Below w0.heap.size w0 w8)); have n2_ := Aside0.mk (Kept.of_grown (S := (fun k_ => P0_ k_)) hg (by repeat (first | (with_reducible first | exact HK.out | apply Kept.alloc | apply Kept.drewN | apply Kept.drew) | exact HK.out)) (fun k_ e_ => (HO_0.out.1 k_ e_))); clear HO_0; clear HB; clear HK; have HO_0 := n0_; have HB := n1_; have HK := n2_; clear n0_ n1_ n2_; clear hg hw hp_))
     go_roundg k1
     case measure => have := HK1.out; omega
     case rel => exact ⟨(y304), (wrap64 (x1_1 + 1)), (wrap64 (x5_1 + 1)), (by first | rfl | (simp; done) | (simp [*]; done)), (by first | rfl | (simp; done) | (simp [*]; done)), H', ⟨by have := HK1.out; omega⟩, ⟨by (with_reducible repeat (first | apply Kd.R_alloc | apply Kd.R_drewN | apply Kd.R_drew)); exact HO_0.out⟩, ⟨by repeat (first | (with_reducible first | exact HK.out | apply Kept.alloc | apply Kept.drewN | apply Kept.drew) | exact HK.out)⟩, ⟨by repeat (first | (with_reducible first | exact HB.out | apply below_alloc | apply pw_below_drewN | apply below_drew1) | exact HB.out)⟩⟩
    ·
     rw [if_neg c4] at H
     exact absurd H (by simp)
   ·
    rw [if_neg c3] at H
    have c3b0 : decide (x5_1 < (x0_1.length : Int)) = false := decide_eq_false c3
    clear c3
    simp only [Option.some.injEq, Prod.mk.injEq] at H
    obtain ⟨rfl, rfl⟩ := H
    obtain ⟨Ao9, co9, eo9⟩ := Kd.R_slice HO_0.out
    subst eo9
    go_wp2
    go_ret
    exact ⟨by first | rfl | (simp [errW_none, errW_some] <;> rfl) | (simp [*, errW_none, errW_some] <;> rfl), by (with_reducible repeat (first | apply Kd.R_alloc | apply Kd.R_drewN | apply Kd.R_drew)); exact HO_0.out, by repeat (first | (with_reducible first | exact HB.out | apply below_alloc | apply pw_below_drewN | apply below_drew1) | exact HB.out), by repeat (first | (with_reducible first | exact HK.out | apply Kept.alloc | apply Kept.drewN | apply Kept.drew) | exact HK.out)⟩
end Go.Proofs.Ytojcnapdalpnmaa.P

namespace Go.Proofs.Ytojcnapdalpnmaa.K
open Go.RowKit Go.Proofs.YtojcnapdalpnmaaW.PrintWords Go.Proofs.Ytojcnapdalpnmaa.P
/-- a, a + 1, .. : n numbers. -/
def seqFrom (a : Int) : Nat → List Int
  | 0 => []
  | n + 1 => a :: seqFrom (a + 1) n
theorem seqFrom_length (a : Int) (n : Nat) : (seqFrom a n).length = n := by
  induction n generalizing a with
  | zero => rfl
  | succ n ih => simp [seqFrom, ih]
theorem markIntS_l0 : ∀ (rest done : List Int) (b : Int), (done ++ rest).length ≤ BM → 0 ≤ b → b + rest.length ≤ 4611686018427387904 → Ev (fun k => laws_markIntS.l0 k (done ++ rest) b done.length) (b + rest.length, done ++ seqFrom b rest.length) := by
  intro rest
  induction rest with
  | nil => intro done b h _ _; exact Ev.step (fun k => by simp [laws_markIntS.l0]; rfl) (Ev.some (by simp [seqFrom]))
  | cons x rest ih =>
    intro done b h hb0 hb
    obtain ⟨h1, h2, h3, h4, h5⟩ := mid x done rest h
    have ih' := ih (done ++ [b]) (b + 1) (by simpa using h) (by omega) (by simp at hb; omega)
    refine Ev.step (fun k => by rw [laws_markIntS.l0]) ?_
    have h6 : wrap64 (b + 1) = b + 1 := wrap_id (by omega) (by simp at hb; omega)
    simp only [if_pos h1, if_pos h2, h4, h6, set_mid]
    refine Ev.pair ?_ (show (b + 1 + (rest.length : Int), done ++ [b] ++ seqFrom (b + 1) rest.length) = _ by simp [seqFrom]; omega)
    simpa using ih'
theorem markIntS_f (l : List Int) (a : Int) (h : l.length ≤ BM) (h0 : 0 ≤ a) (ha : a + l.length ≤ 4611686018427387904) : Ev (fun k => laws_markIntS.f k l a) (a + l.length, seqFrom a l.length) := markIntS_l0 l [] a h h0 ha
theorem heldIntS_l0 : ∀ (n : Nat) (done : List Int) (b : Int), (done ++ seqFrom b n).length ≤ BM → 0 ≤ b → b + n ≤ 4611686018427387904 → Ev (fun k => laws_heldIntS.l0 k (done ++ seqFrom b n) b done.length) (b + n) := by
  intro n
  induction n with
  | zero => intro done b h _ _; exact Ev.step (fun k => by simp [laws_heldIntS.l0, seqFrom]; rfl) (Ev.some (by simp))
  | succ n ih =>
    intro done b h hb0 hb
    simp only [seqFrom] at h ⊢
    obtain ⟨h1, h2, h3, h4, h5⟩ := mid b done (seqFrom (b + 1) n) h
    have ih' := ih (done ++ [b]) (b + 1) (by simpa using h) (by omega) (by omega)
    rw [h5] at ih'
    refine Ev.step (fun k => by rw [laws_heldIntS.l0]) ?_
    have h6 : wrap64 (b + 1) = b + 1 := wrap_id (by omega) (by omega)
    simp only [if_pos h1, if_pos h2, h3, h4, h6, if_true]
    exact Ev.pair ih' (by omega)
theorem heldIntS_f (a : Int) (n : Nat) (h : n ≤ BM) (h0 : 0 ≤ a) (ha : a + n ≤ 4611686018427387904) : Ev (fun k => laws_heldIntS.f k (seqFrom a n) a) (a + n) := heldIntS_l0 n [] a (by simpa [seqFrom_length] using h) h0 ha
end Go.Proofs.Ytojcnapdalpnmaa.K

/- Walked by hand: laws.markIntSS, which writes into the rows of a slice of rows that it is handed. -/
namespace Go.Proofs.Ytojcnapdalpnmaa.P
open Go.RowKit Go.Proofs.YtojcnapdalpnmaaW.PrintWords Go.Proofs.YtojcnapdalpnmaaW.PrintLast Go.Proofs.YtojcnapdalpnmaaW.PrintMore Go.Proofs.Ytojcnapdalpnmaa.K
theorem seqOf_eq (a : Int) (n : Nat) : seqOf a n = seqFrom a n := by
  induction n generalizing a with
  | zero => rfl
  | succ n ih => simp [seqOf, seqFrom, ih]
theorem seqOf_length (a : Int) (n : Nat) : (seqOf a n).length = n := by rw [seqOf_eq, seqFrom_length]
theorem hm_markIntS (P0_ : Nat → Prop) (u : Value) (l0 : List Int) (a1 : Int) (w0 w : World) (hl : l0.length ≤ 1048576) (h0 : 0 ≤ a1) (h1 : a1 ≤ 1099512676352) (hB : Below w0.heap.size w0 w) (ho0 : Kd.R (Kd.int .i64) 3 w w0.heap.size P0_ u l0) :
    Calls Try.prog 36 #[u, .int .i64 a1] w fun e w' => e = .returned (.int .i64 (a1 + l0.length)) ∧ Kd.R (Kd.int .i64) 3 w' w0.heap.size (fun k_ => some k_ = u.ownBlock) u (seqOf a1 l0.length) ∧ Below w0.heap.size w0 w' ∧ Kept w w' (fun k_ => some k_ = u.ownBlock) := by
  obtain ⟨k, hk⟩ := Ev.rounds (markIntS_f l0 a1 (by simp only [BM]; omega) h0 (by omega))
  refine (laws_markIntS.calls k (fun k_ => some k_ = u.ownBlock) u l0 a1 _ _ w0 w hB (Kd.R_tight rfl ho0) hk).mono ?_
  rintro e w' ⟨rfl, h2, h3, h4⟩
  exact ⟨rfl, by rw [seqOf_eq]; exact Kd.R_tight rfl h2, h3, h4⟩
set_option maxHeartbeats 400000 in
set_option maxRecDepth 100000 in
theorem laws_markIntSS.calls (P0_ : Nat → Prop) (u9000_ : Value) (l0 : List (List Int)) (a1 : Int) (r1 : Int) (r2 : List (List Int)) (w0 w : World) (hB : Below w0.heap.size w0 w) (ho0 : Kd.S (Kd.slice 3 (Kd.int .i64)) 33 w w0.heap.size P0_ u9000_ l0) (h : laws_markIntSS.f l0 a1 = some (r1, r2)) :
    Calls Try.prog 29 #[u9000_, .int .i64 a1] w fun e w' => e = .returned (.int .i64 r1) ∧ Kd.S (Kd.slice 3 (Kd.int .i64)) 33 w' w0.heap.size P0_ u9000_ r2 ∧ Below w0.heap.size w0 w' ∧ Kept w w' (fun k_ => P0_ k_) := by
  unfold laws_markIntSS.f at h
  split at h
  case isFalse => cases h
  rename_i hb
  have h := Option.some.inj h
  obtain ⟨hb0, hb1, hb2, hb3⟩ := hb
  obtain ⟨A, c, rfl, hlc, hC⟩ := Kd.S_reads ho0
  have HR := Aside0.mk h
  have HB := Aside0.mk hB
  have HS := Aside0.mk ho0
  have H3 := Aside0.mk hb3
  clear h hB ho0 hb3 hC
  go_enter Try.func29, Try.ntmps29
  go_wp2
  go_loopg [1, 5] l0.length (fun kq v1 v5 w' => ∃ (done rest md : List (List Int)) (b : Int), Aside0 (l0 = done ++ rest) ∧ v1 = .int .i64 b ∧ v5 = .int .i64 (done.length : Int) ∧ Aside0 (md.length = done.length) ∧ Aside0 (0 ≤ b ∧ b ≤ 1048576 + 1048576 * done.length) ∧ Aside0 (r1 = (seqRows b rest).1 ∧ r2 = md ++ (seqRows b rest).2) ∧ Aside0 (kq = rest.length) ∧ Aside0 (Kd.S (Kd.slice 3 (Kd.int .i64)) 33 w' w0.heap.size P0_ (.slice A l0.length c) (md ++ rest)) ∧ Aside0 (Below w0.heap.size w0 w') ∧ Aside0 (Kept w w' (fun k_ => P0_ k_)))
  case atStart => exact ⟨[], l0, [], a1, ⟨rfl⟩, rfl, rfl, ⟨rfl⟩, ⟨⟨hb0, by simp; omega⟩⟩, ⟨by rw [HR.out]; exact ⟨rfl, rfl⟩⟩, ⟨rfl⟩, ⟨HS.out⟩, ⟨HB.out⟩, ⟨Kept.refl _ _⟩⟩
  case round =>
    obtain ⟨done, rest, md, b, HE, rfl, rfl, HM, HBD, HRR, HK, HS1, HB1, HKP⟩ := hrel
    clear HS HB
    cases rest with
    | nil =>
      have hl : done.length = l0.length := by rw [HE.out]; simp
      have c4 : decide ((done.length : Int) < (l0.length : Int)) = false := by simp; omega
      have c5 : decide (done.length < l0.length) = false := by simp; omega
      clear hl
      go_wp2
      go_ret
      have e1 := HRR.out.1
      have e2 := HRR.out.2
      simp only [seqRows] at e1 e2
      subst e1 e2
      refine ⟨rfl, ?_, ?_, ?_⟩
      · repeat (first | exact HS1.out | (with_reducible refine Kd.S_drewN ?_ _) | (with_reducible refine Kd.S_drew ?_))
      · exact below_step HB1.out (by repeat (first | (with_reducible first | exact Below.refl _ _ | apply below_alloc | apply pw_below_drewN | apply below_drew1)))
      · exact HKP.out.below (by repeat (first | (with_reducible first | exact Below.refl _ _ | apply below_alloc | apply pw_below_drewN | apply below_drew1)))
    | cons x rest =>
      have hl : done.length < l0.length := by rw [HE.out]; simp
      cases A with
      | none =>
        exfalso
        have := (Kd.S_reads' HS1.out).2.2
        obtain ⟨_, _, h3⟩ := this
        obtain ⟨ad, h4, _⟩ := h3 (by simp only [List.length_append, List.length_cons]; omega)
        cases h4
      | some ad =>
      obtain ⟨g, rfl⟩ := Kd.R_head (Kd.S_R HS1.out)
      obtain ⟨oki, cs, hcl, hM, hcc, hfr, hok, hH⟩ := Kd.S_elem HS1.out ([] : List Int) (done.length : Int) (by omega) (by omega)
      obtain ⟨v, rfl, hv⟩ := hM
      have hx := hcc 0 v rfl
      simp only [Kd.slice, Nat.mul_one, Nat.add_zero, Int.toNat_natCast] at hx
      have hg : ((md ++ x :: rest).getD (done.length : Int).toNat []) = x := by rw [Int.toNat_natCast, ← HM.out]; simp
      rw [hg] at hv
      have HV := Aside0.mk hv
      have HH := Aside0.mk hH
      clear hv hH hcc hfr hg
      have HX : Aside0 (x.length ≤ 1048576) := ⟨H3.out x (by rw [HE.out]; simp)⟩
      have c4 : decide ((done.length : Int) < (l0.length : Int)) = true := by simp; omega
      have c5 : decide (done.length < l0.length) = true := by simp; omega
      have c6 : (done.length : Int) + 1 ≤ 9223372036854775807 := by omega
      have HB2 : Aside0 (b ≤ 1099512676352) := ⟨by have := HBD.out; omega⟩
      go_wp2_with (first | (go_at_call 36; (with_reducible refine (hm_markIntS oki v x b w0 _ HX.out HBD.out.1 HB2.out ?side1 ?side2).mono ?_); (case side1 => exact below_step HB1.out (by repeat (first | (with_reducible first | exact Below.refl _ _ | apply below_alloc | apply pw_below_drewN | apply below_drew1)))); (case side2 => repeat (first | exact HV.out | (with_reducible refine Kd.R_drewN ?_ _) | (with_reducible refine Kd.R_drew ?_))); rintro e w2 ⟨rfl, hq1, hq2, hq3⟩; have HQ1 := Aside0.mk hq1; have HQ2 := Aside0.mk hq2; have HQ3 := Aside0.mk hq3; clear hq1 hq2 hq3))
      go_roundg rest.length
      case measure => have := HK.out; simp at this; omega
      case rel =>
        have hset : (md ++ x :: rest).set (done.length : Int).toNat (seqOf b x.length) = (md ++ [seqOf b x.length]) ++ rest := by
          rw [Int.toNat_natCast, ← HM.out, List.set_append_right _ _ (Nat.le_refl _), Nat.sub_self]; simp
        have hS2 := Kd.H_back (Kd.H_step HH.out (fun k hk hn hlt => HQ3.out.2 k hlt (fun e => hn (HV.out.1 k e.symm)))) (x' := seqOf b x.length) (okp := fun k_ => some k_ = v.ownBlock) ⟨v, rfl, HQ1.out⟩ (fun k hk => HV.out.1 k hk.symm)
        rw [hset] at hS2
        have hK2 := HKP.out.then_ HQ3.out (fun k hk => .inl (hok k (HV.out.1 k hk.symm)).1)
        have hb := HBD.out
        have hx2 := HX.out
        have hm := HM.out
        have hr := HRR.out
        simp only [seqRows] at hr
        refine ⟨done ++ [x], rest, md ++ [seqOf b x.length], b + x.length, ⟨by rw [HE.out]; simp⟩, rfl, by simp, ⟨by simp [hm]⟩, ⟨⟨by omega, by rw [List.length_append, List.length_singleton]; omega⟩⟩, ⟨⟨hr.1, by rw [hr.2]; simp⟩⟩, ⟨rfl⟩, ⟨?_⟩, ⟨?_⟩, ⟨?_⟩⟩
        · repeat (first | exact hS2 | (with_reducible refine Kd.S_drewN ?_ _) | (with_reducible refine Kd.S_drew ?_))
        · exact below_step HQ2.out (by repeat (first | (with_reducible first | exact Below.refl _ _ | apply below_alloc | apply pw_below_drewN | apply below_drew1)))
        · exact hK2.below (by repeat (first | (with_reducible first | exact Below.refl _ _ | apply below_alloc | apply pw_below_drewN | apply below_drew1)))
end Go.Proofs.Ytojcnapdalpnmaa.P

/- Walked by hand (printed by a program of mine): the law FnExactGridPath: with what Good says of the functions that it calls, the call returns true. -/
namespace Go.Proofs.Ytojcnapdalpnmaa.P
open Go.RowKit Go.Proofs.YtojcnapdalpnmaaW.PrintWords Go.Proofs.YtojcnapdalpnmaaW.PrintLast Go.Proofs.YtojcnapdalpnmaaW.PrintMore
set_option maxHeartbeats 2000000 in
set_option maxRecDepth 100000 in
theorem laws_FnExactGridPath.calls (A0 : Option Addr) (c0 : Nat) (l0 : List (List Int)) (A1 : Option Addr) (c1 : Nat) (l1 : List (List Int)) (rr : Bool) (w : World) (hr0 : Kd.C (Kd.slice 3 (Kd.int .i64)) w A0 l0.length l0) (hc0 : l0.length ≤ c0) (hr1 : Kd.C (Kd.slice 3 (Kd.int .i64)) w A1 l1.length l1) (hc1 : l1.length ≤ c1) (h : laws_FnExactGridPath.Good l0 l1 rr) :
    Calls Try.prog 11 #[.slice A0 l0.length c0, .slice A1 l1.length c1] w fun e w' => e = .returned (.bool rr) ∧ Below w.heap.size w w' := by
  obtain ⟨rfl, h⟩ := h
  have HR0 := Aside0.mk hr0
  have HC0 := Aside0.mk hc0
  have HR1 := Aside0.mk hr1
  have HC1 := Aside0.mk hc1
  have HB := Aside0.mk (Below.refl w.heap.size w)
  have HST : Aside0 (K.St w []) := ⟨trivial⟩
  clear hr0 hc0 hr1 hc1
  obtain ⟨n0, hsz0, h⟩ := h
  obtain ⟨k0_, hsz0⟩ := hsz0
  have HSZ0 := Aside0.mk hsz0
  clear hsz0
  rcases h with hneg | ⟨hpos0, h⟩
  · have b0 : decide (n0 < 0) = true := decide_eq_true hneg
    clear hneg
    go_enter Try.func11, Try.ntmps11
    go_wp2_with (first | (go_at_call 18; (with_reducible refine (laws_szIntSS.calls _ _ _ l0 _ _ _ ?c0 ?l0 HSZ0.out).mono ?_); (case c0 => first | exact Kd.C_below HR0.out (below_step HB.out (by repeat (first | (with_reducible first | exact Below.refl _ _ | apply below_alloc | apply pw_below_drewN | apply below_drew1)))) | exact Kd.C_below HR1.out (below_step HB.out (by repeat (first | (with_reducible first | exact Below.refl _ _ | apply below_alloc | apply pw_below_drewN | apply below_drew1)))) | exact K.St.readSS (HST.out.below (by repeat (first | (with_reducible first | exact Below.refl _ _ | apply below_alloc | apply pw_below_drewN | apply below_drew1)))) (by repeat (first | (with_reducible exact List.mem_cons_self) | apply List.mem_cons_of_mem)) | exact K.St.readF (HST.out.below (by repeat (first | (with_reducible first | exact Below.refl _ _ | apply below_alloc | apply pw_below_drewN | apply below_drew1)))) (by repeat (first | (with_reducible exact List.mem_cons_self) | apply List.mem_cons_of_mem))); (case l0 => first | exact HC0.out | exact HC1.out | exact K.St.sizeSS (HST.out.below (by repeat (first | (with_reducible first | exact Below.refl _ _ | apply below_alloc | apply pw_below_drewN | apply below_drew1)))) (by repeat (first | (with_reducible exact List.mem_cons_self) | apply List.mem_cons_of_mem)) | exact K.St.sizeF (HST.out.below (by repeat (first | (with_reducible first | exact Below.refl _ _ | apply below_alloc | apply pw_below_drewN | apply below_drew1)))) (by repeat (first | (with_reducible exact List.mem_cons_self) | apply List.mem_cons_of_mem))); rintro e w' ⟨rfl, ⟨nd, rfl⟩⟩))
    go_ret
    exact ⟨rfl, below_step HB.out (by repeat (first | (with_reducible first | exact Below.refl _ _ | apply below_alloc | apply pw_below_drewN | apply below_drew1)))⟩
  · have f0 : decide (n0 < 0) = false := decide_eq_false (by omega)
    clear hpos0
    obtain ⟨n1, hsz1, h⟩ := h
    obtain ⟨k1_, hsz1⟩ := hsz1
    have HSZ1 := Aside0.mk hsz1
    clear hsz1
    rcases h with hneg | ⟨hpos1, h⟩
    · have b0 : decide (n1 < 0) = true := decide_eq_true hneg
      clear hneg
      go_enter Try.func11, Try.ntmps11
      go_wp2_with (first | (go_at_call 18; (with_reducible refine (laws_szIntSS.calls _ _ _ l0 _ _ _ ?c0 ?l0 HSZ0.out).mono ?_); (case c0 => first | exact Kd.C_below HR0.out (below_step HB.out (by repeat (first | (with_reducible first | exact Below.refl _ _ | apply below_alloc | apply pw_below_drewN | apply below_drew1)))) | exact Kd.C_below HR1.out (below_step HB.out (by repeat (first | (with_reducible first | exact Below.refl _ _ | apply below_alloc | apply pw_below_drewN | apply below_drew1)))) | exact K.St.readSS (HST.out.below (by repeat (first | (with_reducible first | exact Below.refl _ _ | apply below_alloc | apply pw_below_drewN | apply below_drew1)))) (by repeat (first | (with_reducible exact List.mem_cons_self) | apply List.mem_cons_of_mem)) | exact K.St.readF (HST.out.below (by repeat (first | (with_reducible first | exact Below.refl _ _ | apply below_alloc | apply pw_below_drewN | apply below_drew1)))) (by repeat (first | (with_reducible exact List.mem_cons_self) | apply List.mem_cons_of_mem))); (case l0 => first | exact HC0.out | exact HC1.out | exact K.St.sizeSS (HST.out.below (by repeat (first | (with_reducible first | exact Below.refl _ _ | apply below_alloc | apply pw_below_drewN | apply below_drew1)))) (by repeat (first | (with_reducible exact List.mem_cons_self) | apply List.mem_cons_of_mem)) | exact K.St.sizeF (HST.out.below (by repeat (first | (with_reducible first | exact Below.refl _ _ | apply below_alloc | apply pw_below_drewN | apply below_drew1)))) (by repeat (first | (with_reducible exact List.mem_cons_self) | apply List.mem_cons_of_mem))); rintro e w' ⟨rfl, ⟨nd, rfl⟩⟩) | (go_at_call 18; (with_reducible refine (laws_szIntSS.calls _ _ _ l1 _ _ _ ?c0 ?l0 HSZ1.out).mono ?_); (case c0 => first | exact Kd.C_below HR0.out (below_step HB.out (by repeat (first | (with_reducible first | exact Below.refl _ _ | apply below_alloc | apply pw_below_drewN | apply below_drew1)))) | exact Kd.C_below HR1.out (below_step HB.out (by repeat (first | (with_reducible first | exact Below.refl _ _ | apply below_alloc | apply pw_below_drewN | apply below_drew1)))) | exact K.St.readSS (HST.out.below (by repeat (first | (with_reducible first | exact Below.refl _ _ | apply below_alloc | apply pw_below_drewN | apply below_drew1)))) (by repeat (first | (with_reducible exact List.mem_cons_self) | apply List.mem_cons_of_mem)) | exact K.St.readF (HST.out.below (by repeat (first | (with_reducible first | exact Below.refl _ _ | apply below_alloc | apply pw_below_drewN | apply below_drew1)))) (by repeat (first | (with_reducible exact List.mem_cons_self) | apply List.mem_cons_of_mem))); (case l0 => first | exact HC0.out | exact HC1.out | exact K.St.sizeSS (HST.out.below (by repeat (first | (with_reducible first | exact Below.refl _ _ | apply below_alloc | apply pw_below_drewN | apply below_drew1)))) (by repeat (first | (with_reducible exact List.mem_cons_self) | apply List.mem_cons_of_mem)) | exact K.St.sizeF (HST.out.below (by repeat (first | (with_reducible first | exact Below.refl _ _ | apply below_alloc | apply pw_below_drewN | apply below_drew1)))) (by repeat (first | (with_reducible exact List.mem_cons_self) | apply List.mem_cons_of_mem))); rintro e w' ⟨rfl, ⟨nd, rfl⟩⟩))
      go_ret
      exact ⟨rfl, below_step HB.out (by repeat (first | (with_reducible first | exact Below.refl _ _ | apply below_alloc | apply pw_below_drewN | apply below_drew1)))⟩
    · have f1 : decide (n1 < 0) = false := decide_eq_false (by omega)
      clear hpos1
      obtain ⟨w0, w0', l0', l1', wb, k0, k1, m0, ⟨k_hto0, hto0⟩, ⟨k_hto1, hto1⟩, ⟨k_hsp, hsp⟩, ⟨k_him, him⟩, ⟨k_hew0, hew0⟩, ⟨k_hel0, hel0⟩, ⟨k_hel1, hel1⟩, hmk0, hmk1, ⟨k_hmm0, hmm0⟩, ⟨k_hh0, hh0⟩, hkk, hp0, hlw0⟩ := h
      have HTO0 := Aside0.mk hto0
      have HTO1 := Aside0.mk hto1
      have HSP := Aside0.mk hsp
      have HIM := Aside0.mk him
      have HEW0 := Aside0.mk hew0
      have HEL0 := Aside0.mk hel0
      have HEL1 := Aside0.mk hel1
      have HMK0 := Aside0.mk hmk0
      have HMK1 := Aside0.mk hmk1
      have HMM0 := Aside0.mk hmm0
      have HH0 := Aside0.mk hh0
      have HLEN0 := Aside0.mk hlw0
      have b1 : decide (k1 < 0) = false := decide_eq_false (by omega)
      have b2_0 : decide (m0 < 0) = false := decide_eq_false (by omega)
      have b3 : (m0 != m0) = false := bne_self_eq_false _
      have b4 : (wb != wb) = false := bne_self_eq_false wb
      clear hto0 hto1 hsp him hew0 hel0 hel1 hmk0 hmk1 hmm0 hh0 hkk hp0 hlw0
      go_enter Try.func11, Try.ntmps11
      go_wp2_with (first | (go_at_call 18; (with_reducible refine (laws_szIntSS.calls _ _ _ l0 _ _ _ ?c0 ?l0 HSZ0.out).mono ?_); (case c0 => first | exact Kd.C_below HR0.out (below_step HB.out (by repeat (first | (with_reducible first | exact Below.refl _ _ | apply below_alloc | apply pw_below_drewN | apply below_drew1)))) | exact Kd.C_below HR1.out (below_step HB.out (by repeat (first | (with_reducible first | exact Below.refl _ _ | apply below_alloc | apply pw_below_drewN | apply below_drew1)))) | exact K.St.readSS (HST.out.below (by repeat (first | (with_reducible first | exact Below.refl _ _ | apply below_alloc | apply pw_below_drewN | apply below_drew1)))) (by repeat (first | (with_reducible exact List.mem_cons_self) | apply List.mem_cons_of_mem)) | exact K.St.readF (HST.out.below (by repeat (first | (with_reducible first | exact Below.refl _ _ | apply below_alloc | apply pw_below_drewN | apply below_drew1)))) (by repeat (first | (with_reducible exact List.mem_cons_self) | apply List.mem_cons_of_mem))); (case l0 => first | exact HC0.out | exact HC1.out | exact K.St.sizeSS (HST.out.below (by repeat (first | (with_reducible first | exact Below.refl _ _ | apply below_alloc | apply pw_below_drewN | apply below_drew1)))) (by repeat (first | (with_reducible exact List.mem_cons_self) | apply List.mem_cons_of_mem)) | exact K.St.sizeF (HST.out.below (by repeat (first | (with_reducible first | exact Below.refl _ _ | apply below_alloc | apply pw_below_drewN | apply below_drew1)))) (by repeat (first | (with_reducible exact List.mem_cons_self) | apply List.mem_cons_of_mem))); rintro e w' ⟨rfl, ⟨nd, rfl⟩⟩) | (go_at_call 18; (with_reducible refine (laws_szIntSS.calls _ _ _ l1 _ _ _ ?c0 ?l0 HSZ1.out).mono ?_); (case c0 => first | exact Kd.C_below HR0.out (below_step HB.out (by repeat (first | (with_reducible first | exact Below.refl _ _ | apply below_alloc | apply pw_below_drewN | apply below_drew1)))) | exact Kd.C_below HR1.out (below_step HB.out (by repeat (first | (with_reducible first | exact Below.refl _ _ | apply below_alloc | apply pw_below_drewN | apply below_drew1)))) | exact K.St.readSS (HST.out.below (by repeat (first | (with_reducible first | exact Below.refl _ _ | apply below_alloc | apply pw_below_drewN | apply below_drew1)))) (by repeat (first | (with_reducible exact List.mem_cons_self) | apply List.mem_cons_of_mem)) | exact K.St.readF (HST.out.below (by repeat (first | (with_reducible first | exact Below.refl _ _ | apply below_alloc | apply pw_below_drewN | apply below_drew1)))) (by repeat (first | (with_reducible exact List.mem_cons_self) | apply List.mem_cons_of_mem))); (case l0 => first | exact HC0.out | exact HC1.out | exact K.St.sizeSS (HST.out.below (by repeat (first | (with_reducible first | exact Below.refl _ _ | apply below_alloc | apply pw_below_drewN | apply below_drew1)))) (by repeat (first | (with_reducible exact List.mem_cons_self) | apply List.mem_cons_of_mem)) | exact K.St.sizeF (HST.out.below (by repeat (first | (with_reducible first | exact Below.refl _ _ | apply below_alloc | apply pw_below_drewN | apply below_drew1)))) (by repeat (first | (with_reducible exact List.mem_cons_self) | apply List.mem_cons_of_mem))); rintro e w' ⟨rfl, ⟨nd, rfl⟩⟩) | (go_at_call 20; (with_reducible refine (laws_toIntSS.calls _ _ _ l0 _ _ ?c0 ?l0 HTO0.out).mono ?_); (case c0 => first | exact Kd.C_below HR0.out (below_step HB.out (by repeat (first | (with_reducible first | exact Below.refl _ _ | apply below_alloc | apply pw_below_drewN | apply below_drew1)))) | exact Kd.C_below HR1.out (below_step HB.out (by repeat (first | (with_reducible first | exact Below.refl _ _ | apply below_alloc | apply pw_below_drewN | apply below_drew1)))) | exact K.St.readSS (HST.out.below (by repeat (first | (with_reducible first | exact Below.refl _ _ | apply below_alloc | apply pw_below_drewN | apply below_drew1)))) (by repeat (first | (with_reducible exact List.mem_cons_self) | apply List.mem_cons_of_mem)) | exact K.St.readF (HST.out.below (by repeat (first | (with_reducible first | exact Below.refl _ _ | apply below_alloc | apply pw_below_drewN | apply below_drew1)))) (by repeat (first | (with_reducible exact List.mem_cons_self) | apply List.mem_cons_of_mem))); (case l0 => first | exact HC0.out | exact HC1.out | exact K.St.sizeSS (HST.out.below (by repeat (first | (with_reducible first | exact Below.refl _ _ | apply below_alloc | apply pw_below_drewN | apply below_drew1)))) (by repeat (first | (with_reducible exact List.mem_cons_self) | apply List.mem_cons_of_mem)) | exact K.St.sizeF (HST.out.below (by repeat (first | (with_reducible first | exact Below.refl _ _ | apply below_alloc | apply pw_below_drewN | apply below_drew1)))) (by repeat (first | (with_reducible exact List.mem_cons_self) | apply List.mem_cons_of_mem))); rintro e w' ⟨v0, rfl, hs0, hb⟩; obtain ⟨A0_, c0_, rfl, -, -⟩ := Kd.S_reads hs0; obtain ⟨S1_, n0_⟩ := K.St.pushSS (b := w.heap.size) (HST.out.below (by repeat (first | (with_reducible first | exact Below.refl _ _ | apply below_alloc | apply pw_below_drewN | apply below_drew1)))) hb (below_size (below_step HB.out (by repeat (first | (with_reducible first | exact Below.refl _ _ | apply below_alloc | apply pw_below_drewN | apply below_drew1))))) hs0; replace n0_ := Aside0.mk n0_; have n1_ := Aside0.mk (below_step (below_step HB.out (by repeat (first | (with_reducible first | exact Below.refl _ _ | apply below_alloc | apply pw_below_drewN | apply below_drew1)))) hb); clear HST HB hs0 hb; have HST := n0_; have HB := n1_; clear n0_ n1_) | (go_at_call 20; (with_reducible refine (laws_toIntSS.calls _ _ _ l1 _ _ ?c0 ?l0 HTO1.out).mono ?_); (case c0 => first | exact Kd.C_below HR0.out (below_step HB.out (by repeat (first | (with_reducible first | exact Below.refl _ _ | apply below_alloc | apply pw_below_drewN | apply below_drew1)))) | exact Kd.C_below HR1.out (below_step HB.out (by repeat (first | (with_reducible first | exact Below.refl _ _ | apply below_alloc | apply pw_below_drewN | apply below_drew1)))) | exact K.St.readSS (HST.out.below (by repeat (first | (with_reducible first | exact Below.refl _ _ | apply below_alloc | apply pw_below_drewN | apply below_drew1)))) (by repeat (first | (with_reducible exact List.mem_cons_self) | apply List.mem_cons_of_mem)) | exact K.St.readF (HST.out.below (by repeat (first | (with_reducible first | exact Below.refl _ _ | apply below_alloc | apply pw_below_drewN | apply below_drew1)))) (by repeat (first | (with_reducible exact List.mem_cons_self) | apply List.mem_cons_of_mem))); (case l0 => first | exact HC0.out | exact HC1.out | exact K.St.sizeSS (HST.out.below (by repeat (first | (with_reducible first | exact Below.refl _ _ | apply below_alloc | apply pw_below_drewN | apply below_drew1)))) (by repeat (first | (with_reducible exact List.mem_cons_self) | apply List.mem_cons_of_mem)) | exact K.St.sizeF (HST.out.below (by repeat (first | (with_reducible first | exact Below.refl _ _ | apply below_alloc | apply pw_below_drewN | apply below_drew1)))) (by repeat (first | (with_reducible exact List.mem_cons_self) | apply List.mem_cons_of_mem))); rintro e w' ⟨v0, rfl, hs0, hb⟩; obtain ⟨A0_, c0_, rfl, -, -⟩ := Kd.S_reads hs0; obtain ⟨S1_, n0_⟩ := K.St.pushSS (b := w.heap.size) (HST.out.below (by repeat (first | (with_reducible first | exact Below.refl _ _ | apply below_alloc | apply pw_below_drewN | apply below_drew1)))) hb (below_size (below_step HB.out (by repeat (first | (with_reducible first | exact Below.refl _ _ | apply below_alloc | apply pw_below_drewN | apply below_drew1))))) hs0; replace n0_ := Aside0.mk n0_; have n1_ := Aside0.mk (below_step (below_step HB.out (by repeat (first | (with_reducible first | exact Below.refl _ _ | apply below_alloc | apply pw_below_drewN | apply below_drew1)))) hb); clear HST HB hs0 hb; have HST := n0_; have HB := n1_; clear n0_ n1_) | (go_at_call 46; (with_reducible refine (spec_GridPath.calls _ ?_ _ _ l0 ?_ _ _ l1 _ _ _ ?v0 ?v1 HSP.out).mono ?_); (case v0 => exact Kd.S_V (K.St.getSS (HST.out.below (by repeat (first | (with_reducible first | exact Below.refl _ _ | apply below_alloc | apply pw_below_drewN | apply below_drew1)))) (by repeat (first | (with_reducible exact List.mem_cons_self) | apply List.mem_cons_of_mem)))); (case v1 => exact Kd.S_V (K.St.getSS (HST.out.below (by repeat (first | (with_reducible first | exact Below.refl _ _ | apply below_alloc | apply pw_below_drewN | apply below_drew1)))) (by repeat (first | (with_reducible exact List.mem_cons_self) | apply List.mem_cons_of_mem)))); rintro e w' ⟨v0, rfl, hs0, hb⟩; obtain ⟨A0_, c0_, rfl, -, -⟩ := Kd.R_reads hs0; have n0_ := Aside0.mk (K.St.pushF (b := w.heap.size) (HST.out.below (by repeat (first | (with_reducible first | exact Below.refl _ _ | apply below_alloc | apply pw_below_drewN | apply below_drew1)))) hb rfl (below_size (below_step HB.out (by repeat (first | (with_reducible first | exact Below.refl _ _ | apply below_alloc | apply pw_below_drewN | apply below_drew1))))) hs0); have n1_ := Aside0.mk (below_step (below_step HB.out (by repeat (first | (with_reducible first | exact Below.refl _ _ | apply below_alloc | apply pw_below_drewN | apply below_drew1)))) hb); clear HST HB hs0 hb; have HST := n0_; have HB := n1_; clear n0_ n1_) | (go_at_call 47; (with_reducible refine (impl_GridPath.calls _ ?_ _ _ l0 ?_ _ _ l1 _ _ _ ?v0 ?v1 HIM.out).mono ?_); (case v0 => exact Kd.S_V (K.St.getSS (HST.out.below (by repeat (first | (with_reducible first | exact Below.refl _ _ | apply below_alloc | apply pw_below_drewN | apply below_drew1)))) (by repeat (first | (with_reducible exact List.mem_cons_self) | apply List.mem_cons_of_mem)))); (case v1 => exact Kd.S_V (K.St.getSS (HST.out.below (by repeat (first | (with_reducible first | exact Below.refl _ _ | apply below_alloc | apply pw_below_drewN | apply below_drew1)))) (by repeat (first | (with_reducible exact List.mem_cons_self) | apply List.mem_cons_of_mem)))); rintro e w' ⟨v0, rfl, hs0, hb⟩; obtain ⟨A0_, c0_, rfl, -, -⟩ := Kd.R_reads hs0; have n0_ := Aside0.mk (K.St.pushF (b := w.heap.size) (HST.out.below (by repeat (first | (with_reducible first | exact Below.refl _ _ | apply below_alloc | apply pw_below_drewN | apply below_drew1)))) hb rfl (below_size (below_step HB.out (by repeat (first | (with_reducible first | exact Below.refl _ _ | apply below_alloc | apply pw_below_drewN | apply below_drew1))))) hs0); have n1_ := Aside0.mk (below_step (below_step HB.out (by repeat (first | (with_reducible first | exact Below.refl _ _ | apply below_alloc | apply pw_below_drewN | apply below_drew1)))) hb); clear HST HB hs0 hb; have HST := n0_; have HB := n1_; clear n0_ n1_) | (go_at_call 43; (with_reducible refine (laws_eqSwitchS.calls _ _ _ w0 _ _ w0 _ _ ?c0 ?l0 ?c1 ?l1 HEW0.out).mono ?_); (case c0 => first | exact Kd.C_below HR0.out (below_step HB.out (by repeat (first | (with_reducible first | exact Below.refl _ _ | apply below_alloc | apply pw_below_drewN | apply below_drew1)))) | exact Kd.C_below HR1.out (below_step HB.out (by repeat (first | (with_reducible first | exact Below.refl _ _ | apply below_alloc | apply pw_below_drewN | apply below_drew1)))) | exact K.St.readSS (HST.out.below (by repeat (first | (with_reducible first | exact Below.refl _ _ | apply below_alloc | apply pw_below_drewN | apply below_drew1)))) (by repeat (first | (with_reducible exact List.mem_cons_self) | apply List.mem_cons_of_mem)) | exact K.St.readF (HST.out.below (by repeat (first | (with_reducible first | exact Below.refl _ _ | apply below_alloc | apply pw_below_drewN | apply below_drew1)))) (by repeat (first | (with_reducible exact List.mem_cons_self) | apply List.mem_cons_of_mem))); (case l0 => first | exact HC0.out | exact HC1.out | exact K.St.sizeSS (HST.out.below (by repeat (first | (with_reducible first | exact Below.refl _ _ | apply below_alloc | apply pw_below_drewN | apply below_drew1)))) (by repeat (first | (with_reducible exact List.mem_cons_self) | apply List.mem_cons_of_mem)) | exact K.St.sizeF (HST.out.below (by repeat (first | (with_reducible first | exact Below.refl _ _ | apply below_alloc | apply pw_below_drewN | apply below_drew1)))) (by repeat (first | (with_reducible exact List.mem_cons_self) | apply List.mem_cons_of_mem))); (case c1 => first | exact Kd.C_below HR0.out (below_step HB.out (by repeat (first | (with_reducible first | exact Below.refl _ _ | apply below_alloc | apply pw_below_drewN | apply below_drew1)))) | exact Kd.C_below HR1.out (below_step HB.out (by repeat (first | (with_reducible first | exact Below.refl _ _ | apply below_alloc | apply pw_below_drewN | apply below_drew1)))) | exact K.St.readSS (HST.out.below (by repeat (first | (with_reducible first | exact Below.refl _ _ | apply below_alloc | apply pw_below_drewN | apply below_drew1)))) (by repeat (first | (with_reducible exact List.mem_cons_self) | apply List.mem_cons_of_mem)) | exact K.St.readF (HST.out.below (by repeat (first | (with_reducible first | exact Below.refl _ _ | apply below_alloc | apply pw_below_drewN | apply below_drew1)))) (by repeat (first | (with_reducible exact List.mem_cons_self) | apply List.mem_cons_of_mem))); (case l1 => first | exact HC0.out | exact HC1.out | exact K.St.sizeSS (HST.out.below (by repeat (first | (with_reducible first | exact Below.refl _ _ | apply below_alloc | apply pw_below_drewN | apply below_drew1)))) (by repeat (first | (with_reducible exact List.mem_cons_self) | apply List.mem_cons_of_mem)) | exact K.St.sizeF (HST.out.below (by repeat (first | (with_reducible first | exact Below.refl _ _ | apply below_alloc | apply pw_below_drewN | apply below_drew1)))) (by repeat (first | (with_reducible exact List.mem_cons_self) | apply List.mem_cons_of_mem))); rintro e w' ⟨rfl, hb⟩; have n0_ := Aside0.mk ((HST.out.below (by repeat (first | (with_reducible first | exact Below.refl _ _ | apply below_alloc | apply pw_below_drewN | apply below_drew1)))).below hb); have n1_ := Aside0.mk (below_step (below_step HB.out (by repeat (first | (with_reducible first | exact Below.refl _ _ | apply below_alloc | apply pw_below_drewN | apply below_drew1)))) hb); clear HST HB hb; have HST := n0_; have HB := n1_; clear n0_ n1_) | (go_at_call 22; (with_reducible refine (laws_eqIntSS.calls _ _ _ l0 _ _ l0 _ _ ?c0 ?l0 ?c1 ?l1 HEL0.out).mono ?_); (case c0 => first | exact Kd.C_below HR0.out (below_step HB.out (by repeat (first | (with_reducible first | exact Below.refl _ _ | apply below_alloc | apply pw_below_drewN | apply below_drew1)))) | exact Kd.C_below HR1.out (below_step HB.out (by repeat (first | (with_reducible first | exact Below.refl _ _ | apply below_alloc | apply pw_below_drewN | apply below_drew1)))) | exact K.St.readSS (HST.out.below (by repeat (first | (with_reducible first | exact Below.refl _ _ | apply below_alloc | apply pw_below_drewN | apply below_drew1)))) (by repeat (first | (with_reducible exact List.mem_cons_self) | apply List.mem_cons_of_mem)) | exact K.St.readF (HST.out.below (by repeat (first | (with_reducible first | exact Below.refl _ _ | apply below_alloc | apply pw_below_drewN | apply below_drew1)))) (by repeat (first | (with_reducible exact List.mem_cons_self) | apply List.mem_cons_of_mem))); (case l0 => first | exact HC0.out | exact HC1.out | exact K.St.sizeSS (HST.out.below (by repeat (first | (with_reducible first | exact Below.refl _ _ | apply below_alloc | apply pw_below_drewN | apply below_drew1)))) (by repeat (first | (with_reducible exact List.mem_cons_self) | apply List.mem_cons_of_mem)) | exact K.St.sizeF (HST.out.below (by repeat (first | (with_reducible first | exact Below.refl _ _ | apply below_alloc | apply pw_below_drewN | apply below_drew1)))) (by repeat (first | (with_reducible exact List.mem_cons_self) | apply List.mem_cons_of_mem))); (case c1 => first | exact Kd.C_below HR0.out (below_step HB.out (by repeat (first | (with_reducible first | exact Below.refl _ _ | apply below_alloc | apply pw_below_drewN | apply below_drew1)))) | exact Kd.C_below HR1.out (below_step HB.out (by repeat (first | (with_reducible first | exact Below.refl _ _ | apply below_alloc | apply pw_below_drewN | apply below_drew1)))) | exact K.St.readSS (HST.out.below (by repeat (first | (with_reducible first | exact Below.refl _ _ | apply below_alloc | apply pw_below_drewN | apply below_drew1)))) (by repeat (first | (with_reducible exact List.mem_cons_self) | apply List.mem_cons_of_mem)) | exact K.St.readF (HST.out.below (by repeat (first | (with_reducible first | exact Below.refl _ _ | apply below_alloc | apply pw_below_drewN | apply below_drew1)))) (by repeat (first | (with_reducible exact List.mem_cons_self) | apply List.mem_cons_of_mem))); (case l1 => first | exact HC0.out | exact HC1.out | exact K.St.sizeSS (HST.out.below (by repeat (first | (with_reducible first | exact Below.refl _ _ | apply below_alloc | apply pw_below_drewN | apply below_drew1)))) (by repeat (first | (with_reducible exact List.mem_cons_self) | apply List.mem_cons_of_mem)) | exact K.St.sizeF (HST.out.below (by repeat (first | (with_reducible first | exact Below.refl _ _ | apply below_alloc | apply pw_below_drewN | apply below_drew1)))) (by repeat (first | (with_reducible exact List.mem_cons_self) | apply List.mem_cons_of_mem))); rintro e w' ⟨rfl, ⟨nd, rfl⟩⟩) | (go_at_call 22; (with_reducible refine (laws_eqIntSS.calls _ _ _ l1 _ _ l1 _ _ ?c0 ?l0 ?c1 ?l1 HEL1.out).mono ?_); (case c0 => first | exact Kd.C_below HR0.out (below_step HB.out (by repeat (first | (with_reducible first | exact Below.refl _ _ | apply below_alloc | apply pw_below_drewN | apply below_drew1)))) | exact Kd.C_below HR1.out (below_step HB.out (by repeat (first | (with_reducible first | exact Below.refl _ _ | apply below_alloc | apply pw_below_drewN | apply below_drew1)))) | exact K.St.readSS (HST.out.below (by repeat (first | (with_reducible first | exact Below.refl _ _ | apply below_alloc | apply pw_below_drewN | apply below_drew1)))) (by repeat (first | (with_reducible exact List.mem_cons_self) | apply List.mem_cons_of_mem)) | exact K.St.readF (HST.out.below (by repeat (first | (with_reducible first | exact Below.refl _ _ | apply below_alloc | apply pw_below_drewN | apply below_drew1)))) (by repeat (first | (with_reducible exact List.mem_cons_self) | apply List.mem_cons_of_mem))); (case l0 => first | exact HC0.out | exact HC1.out | exact K.St.sizeSS (HST.out.below (by repeat (first | (with_reducible first | exact Below.refl _ _ | apply below_alloc | apply pw_below_drewN | apply below_drew1)))) (by repeat (first | (with_reducible exact List.mem_cons_self) | apply List.mem_cons_of_mem)) | exact K.St.sizeF (HST.out.below (by repeat (first | (with_reducible first | exact Below.refl _ _ | apply below_alloc | apply pw_below_drewN | apply below_drew1)))) (by repeat (first | (with_reducible exact List.mem_cons_self) | apply List.mem_cons_of_mem))); (case c1 => first | exact Kd.C_below HR0.out (below_step HB.out (by repeat (first | (with_reducible first | exact Below.refl _ _ | apply below_alloc | apply pw_below_drewN | apply below_drew1)))) | exact Kd.C_below HR1.out (below_step HB.out (by repeat (first | (with_reducible first | exact Below.refl _ _ | apply below_alloc | apply pw_below_drewN | apply below_drew1)))) | exact K.St.readSS (HST.out.below (by repeat (first | (with_reducible first | exact Below.refl _ _ | apply below_alloc | apply pw_below_drewN | apply below_drew1)))) (by repeat (first | (with_reducible exact List.mem_cons_self) | apply List.mem_cons_of_mem)) | exact K.St.readF (HST.out.below (by repeat (first | (with_reducible first | exact Below.refl _ _ | apply below_alloc | apply pw_below_drewN | apply below_drew1)))) (by repeat (first | (with_reducible exact List.mem_cons_self) | apply List.mem_cons_of_mem))); (case l1 => first | exact HC0.out | exact HC1.out | exact K.St.sizeSS (HST.out.below (by repeat (first | (with_reducible first | exact Below.refl _ _ | apply below_alloc | apply pw_below_drewN | apply below_drew1)))) (by repeat (first | (with_reducible exact List.mem_cons_self) | apply List.mem_cons_of_mem)) | exact K.St.sizeF (HST.out.below (by repeat (first | (with_reducible first | exact Below.refl _ _ | apply below_alloc | apply pw_below_drewN | apply below_drew1)))) (by repeat (first | (with_reducible exact List.mem_cons_self) | apply List.mem_cons_of_mem))); rintro e w' ⟨rfl, ⟨nd, rfl⟩⟩) | (go_at_call 29; (with_reducible refine (laws_markIntSS.calls _ _ l0 _ _ _ w _ (below_step HB.out (by repeat (first | (with_reducible first | exact Below.refl _ _ | apply below_alloc | apply pw_below_drewN | apply below_drew1)))) (K.St.getSS (HST.out.below (by repeat (first | (with_reducible first | exact Below.refl _ _ | apply below_alloc | apply pw_below_drewN | apply below_drew1)))) (List.mem_cons_of_mem _ (List.mem_cons_of_mem _ (List.mem_cons_of_mem _ (List.mem_cons_of_mem _ List.mem_cons_self))))) HMK0.out).mono ?_); rintro e w' ⟨rfl, hs, hb, hk⟩; have n0_ := (K.St.putSS [_, _, _, _] (HST.out.below (by repeat (first | (with_reducible first | exact Below.refl _ _ | apply below_alloc | apply pw_below_drewN | apply below_drew1)))) hk hs); simp only [List.cons_append, List.nil_append] at n0_; replace n0_ := Aside0.mk n0_; have n1_ := Aside0.mk hb; clear HST HB hs hb hk; have HST := n0_; have HB := n1_; clear n0_ n1_) | (go_at_call 29; (with_reducible refine (laws_markIntSS.calls _ _ l1 _ _ _ w _ (below_step HB.out (by repeat (first | (with_reducible first | exact Below.refl _ _ | apply below_alloc | apply pw_below_drewN | apply below_drew1)))) (K.St.getSS (HST.out.below (by repeat (first | (with_reducible first | exact Below.refl _ _ | apply below_alloc | apply pw_below_drewN | apply below_drew1)))) (List.mem_cons_of_mem _ (List.mem_cons_of_mem _ (List.mem_cons_of_mem _ List.mem_cons_self)))) HMK1.out).mono ?_); rintro e w' ⟨rfl, hs, hb, hk⟩; have n0_ := (K.St.putSS [_, _, _] (HST.out.below (by repeat (first | (with_reducible first | exact Below.refl _ _ | apply below_alloc | apply pw_below_drewN | apply below_drew1)))) hk hs); simp only [List.cons_append, List.nil_append] at n0_; replace n0_ := Aside0.mk n0_; have n1_ := Aside0.mk hb; clear HST HB hs hb hk; have HST := n0_; have HB := n1_; clear n0_ n1_) | (go_at_call 44; (with_reducible refine (laws_markSwitchS.calls _ _ _ w0 _ _ _ w _ (below_step HB.out (by repeat (first | (with_reducible first | exact Below.refl _ _ | apply below_alloc | apply pw_below_drewN | apply below_drew1)))) (K.St.getF (HST.out.below (by repeat (first | (with_reducible first | exact Below.refl _ _ | apply below_alloc | apply pw_below_drewN | apply below_drew1)))) (List.mem_cons_of_mem _ (List.mem_cons_of_mem _ List.mem_cons_self))) HMM0.out).mono ?_); rintro e w' ⟨rfl, hs, hb, hk⟩; have n0_ := (K.St.putF [_, _] (HST.out.below (by repeat (first | (with_reducible first | exact Below.refl _ _ | apply below_alloc | apply pw_below_drewN | apply below_drew1)))) rfl hk hs); simp only [List.cons_append, List.nil_append] at n0_; replace n0_ := Aside0.mk n0_; have n1_ := Aside0.mk hb; clear HST HB hs hb hk; have HST := n0_; have HB := n1_; clear n0_ n1_) | (go_at_call 45; (with_reducible refine (K.heldNSwitchS _ _ _ w0.length w0' _ _ _ ?c0 ?l0 HH0.out HLEN0.out.symm).mono ?_); (case c0 => first | exact Kd.C_below HR0.out (below_step HB.out (by repeat (first | (with_reducible first | exact Below.refl _ _ | apply below_alloc | apply pw_below_drewN | apply below_drew1)))) | exact Kd.C_below HR1.out (below_step HB.out (by repeat (first | (with_reducible first | exact Below.refl _ _ | apply below_alloc | apply pw_below_drewN | apply below_drew1)))) | exact K.St.readSS (HST.out.below (by repeat (first | (with_reducible first | exact Below.refl _ _ | apply below_alloc | apply pw_below_drewN | apply below_drew1)))) (by repeat (first | (with_reducible exact List.mem_cons_self) | apply List.mem_cons_of_mem)) | exact K.St.readF (HST.out.below (by repeat (first | (with_reducible first | exact Below.refl _ _ | apply below_alloc | apply pw_below_drewN | apply below_drew1)))) (by repeat (first | (with_reducible exact List.mem_cons_self) | apply List.mem_cons_of_mem))); (case l0 => first | exact HC0.out | exact HC1.out | exact K.St.sizeSS (HST.out.below (by repeat (first | (with_reducible first | exact Below.refl _ _ | apply below_alloc | apply pw_below_drewN | apply below_drew1)))) (by repeat (first | (with_reducible exact List.mem_cons_self) | apply List.mem_cons_of_mem)) | exact K.St.sizeF (HST.out.below (by repeat (first | (with_reducible first | exact Below.refl _ _ | apply below_alloc | apply pw_below_drewN | apply below_drew1)))) (by repeat (first | (with_reducible exact List.mem_cons_self) | apply List.mem_cons_of_mem))); rintro e w' ⟨rfl, ⟨nd, rfl⟩⟩))
      go_ret
      exact ⟨rfl, below_step HB.out (by repeat (first | (with_reducible first | exact Below.refl _ _ | apply below_alloc | apply pw_below_drewN | apply below_drew1)))⟩
end Go.Proofs.Ytojcnapdalpnmaa.P

namespace Go.Proofs.Ytojcnapdalpnmaa.K
open Go.RowKit Go.Proofs.YtojcnapdalpnmaaW.PrintWords Go.Proofs.Ytojcnapdalpnmaa.P
theorem toIntS_l0 : ∀ (rest done : List Int) , (done ++ rest).length ≤ BM → Ev (fun k => laws_toIntS.l0 k (done ++ rest) (done ++ List.replicate rest.length 0) done.length) (done ++ rest) := by
  intro rest
  induction rest with
  | nil => intro done h; exact Ev.step (fun k => by simp [laws_toIntS.l0]; rfl) (Ev.some (by simp))
  | cons x rest ih =>
    intro done h
    have ih' := ih (done ++ [x])
    obtain ⟨h1, h2, h3, h4, h5⟩ := mid x done rest h
    rw [h5] at ih'
    refine Ev.step (fun k => by rw [laws_toIntS.l0]) ?_
    have h6 : (done.length : Int) < ((done ++ List.replicate (x :: rest).length (0:Int)).length : Int) := by simp; omega
    simp only [if_pos h1, if_pos h2, if_pos h6, h3, h4]
    rw [List.length_cons, List.replicate_succ, set_mid]
    exact ih' h
theorem toIntS_f (l : List Int) (h : l.length ≤ BM) : Ev (fun k => laws_toIntS.f k l) l := by
  unfold laws_toIntS.f
  simp only [BM] at h
  have e1 : 0 ≤ (l.length : Int) := by omega
  have e2 : (l.length : Int).toNat ≤ 35184372088832 := by omega
  simp only [if_pos e1, if_pos e2]
  exact toIntS_l0 l [] h
theorem eqIntS_l0 : ∀ (rest done rest2 done2 : List Int), done.length = done2.length → rest.length = rest2.length → (done ++ rest).length ≤ BM → Ev (fun k => laws_eqIntS.l0 k (done ++ rest) (done2 ++ rest2) done.length) (decide (rest = rest2)) := by
  intro rest
  induction rest with
  | nil =>
    intro done rest2 done2 hl hl2 h
    obtain rfl : rest2 = [] := by simpa using hl2.symm
    exact Ev.step (fun k => by simp [laws_eqIntS.l0]; rfl) (Ev.some (by simp))
  | cons x rest ih =>
    intro done rest2 done2 hl hl2 h
    obtain ⟨y, rest2, rfl⟩ : ∃ y r, rest2 = y :: r := by cases rest2 with | nil => simp at hl2 | cons y r => exact ⟨y, r, rfl⟩
    have ih' := ih (done ++ [x]) rest2 (done2 ++ [y]) (by simp [hl]) (by simpa using hl2)
    obtain ⟨h1, h2, h3, h4, h5⟩ := mid x done rest h
    have hh : (done2 ++ y :: rest2).length ≤ BM := by simp at h hl2 ⊢; omega
    obtain ⟨g1, g2, g3, g4, g5⟩ := mid y done2 rest2 hh
    rw [h5, g5] at ih'
    refine Ev.step (fun k => by rw [laws_eqIntS.l0]) ?_
    rw [← hl] at g1 g3
    simp only [if_pos h1, if_pos h2, if_pos g1, h3, h4, g3]
    refine Ev.ite (fun e => ?_) (fun e => ?_)
    · subst e; simpa using ih' h
    · exact Ev.some (by simp [e])
theorem eqIntS_f (l m : List Int) (h : l.length ≤ BM) : Ev (fun k => laws_eqIntS.f k l m) (decide (l = m)) := by
  unfold laws_eqIntS.f
  refine Ev.ite (fun e => ?_) (fun e => ?_)
  · exact eqIntS_l0 l [] m [] rfl (by omega) h
  · exact Ev.some (by symm; simp; rintro rfl; exact e rfl)
theorem eqIntS_same (l : List Int) (h : l.length ≤ BM) : Ev (fun k => laws_eqIntS.f k l l) true := by simpa using eqIntS_f l l h
end Go.Proofs.Ytojcnapdalpnmaa.K

namespace Go.Proofs.Ytojcnapdalpnmaa.K
open Go.RowKit Go.Proofs.YtojcnapdalpnmaaW.PrintWords Go.Proofs.Ytojcnapdalpnmaa.P
theorem szIntS_f (l : List Int) (a : Int) (hl : l.length ≤ maxLen) (h0 : 0 ≤ a) (h1 : a ≤ 1048576) : ∃ r, laws_szIntS.f l a = some r ∧ (0 ≤ r → l.length ≤ a ∧ r ≤ a) := by
  unfold maxLen at hl
  have e : wrap64 (a - (l.length : Int)) = a - l.length := by unfold wrap64; omega
  unfold laws_szIntS.f
  rw [e]
  by_cases h : a - (l.length : Int) < 0
  · rw [if_pos h]; exact ⟨-1, rfl, by omega⟩
  · rw [if_neg h]; exact ⟨_, rfl, by omega⟩
end Go.Proofs.Ytojcnapdalpnmaa.K

namespace Go.Proofs.Ytojcnapdalpnmaa.K
open Go.RowKit Go.Proofs.YtojcnapdalpnmaaW.PrintWords Go.Proofs.Ytojcnapdalpnmaa.P
/-- The head of a round of a loop over a list of lists. -/
theorem midL (x : List Int) (done rest : List (List Int)) (h : (done ++ x :: rest).length ≤ maxLen) :
    ((done.length : Int) < ((done ++ x :: rest).length : Int)) ∧ 0 ≤ (done.length : Int) ∧ rd_L1 (done ++ x :: rest) (done.length : Int) = x ∧ wrap64 ((done.length : Int) + 1) = ((done ++ [x]).length : Int) ∧ done ++ [x] ++ rest = done ++ x :: rest := by
  unfold maxLen at h
  refine ⟨by simp; omega, by omega, by simp [rd_L1], ?_, by simp⟩
  simp at h ⊢
  unfold wrap64; omega
theorem setL_mid (y x : List Int) (done rest : List (List Int)) : (done ++ y :: rest).set (done.length : Int).toNat x = done ++ [x] ++ rest := by simp
theorem szIntSS_l0 : ∀ (rest done : List (List Int)) (a : Int), (done ++ rest).length ≤ maxLen → (∀ r ∈ rest, r.length ≤ maxLen) → 0 ≤ a → a ≤ 1048576 → ∃ r, Ev (fun k => laws_szIntSS.l0 k (done ++ rest) a done.length) r ∧ r ≤ a ∧ (0 ≤ r → ∀ x ∈ rest, (x.length : Int) ≤ a) := by
  intro rest
  induction rest with
  | nil => intro done a h _ h0 _; exact ⟨a, Ev.step (fun k => by simp [laws_szIntSS.l0]; rfl) (Ev.some (by simp)), Int.le_refl _, by simp⟩
  | cons x rest ih =>
    intro done a h hr h0 h1'
    obtain ⟨h1, h2, h3, h4, h5⟩ := midL x done rest h
    obtain ⟨s, hs, hs'⟩ := szIntS_f x a (hr x (by simp)) h0 h1'
    by_cases hn : s < 0
    · refine ⟨-1, Ev.step (fun k => by rw [laws_szIntSS.l0]) ?_, by omega, by omega⟩
      simp only [if_pos h1, if_pos h2, h3, hs, Option.bind_some, if_pos hn]
      exact Ev.now _
    · obtain ⟨hs1, hs2⟩ := hs' (by omega)
      obtain ⟨r, hr1, hr2, hr3⟩ := ih (done ++ [x]) s (by rw [h5]; exact h) (fun y hy => hr y (by simp [hy])) (by omega) (by omega)
      rw [h5] at hr1
      refine ⟨r, Ev.step (fun k => by rw [laws_szIntSS.l0]) ?_, by omega, fun hr0 y hy => ?_⟩
      · simp only [if_pos h1, if_pos h2, h3, hs, Option.bind_some, if_neg hn, h4]
        exact hr1
      · rcases List.mem_cons.1 hy with e | e
        · rw [e]; exact hs1
        · have := hr3 hr0 y e; omega
theorem szIntSS_f (l : List (List Int)) (a : Int) (hl : l.length ≤ maxLen) (hr : ∀ r ∈ l, r.length ≤ maxLen) (h0 : 0 ≤ a) (h1 : a ≤ 1048576) : ∃ r, Ev (fun k => laws_szIntSS.f k l a) r ∧ (r ≤ a) ∧ (0 ≤ r → (l.length : Int) ≤ a ∧ ∀ x ∈ l, (x.length : Int) ≤ a) := by
  have e : wrap64 (a - (l.length : Int)) = a - l.length := by unfold maxLen at hl; unfold wrap64; omega
  unfold laws_szIntSS.f
  simp only [e]
  by_cases h : a - (l.length : Int) < 0
  · simp only [if_pos h]; exact ⟨-1, Ev.now _, by omega, by omega⟩
  · simp only [if_neg h]
    obtain ⟨r, hr1, hr2, hr3⟩ := szIntSS_l0 l [] (a - l.length) hl hr (by omega) (by omega)
    exact ⟨r, hr1, by omega, fun h0 => ⟨by omega, fun x hx => by have := hr3 h0 x hx; omega⟩⟩
theorem toIntSS_l0 : ∀ (rest done : List (List Int)), (done ++ rest).length ≤ BM → (∀ r ∈ rest, r.length ≤ BM) → Ev (fun k => laws_toIntSS.l0 k (done ++ rest) (done ++ List.replicate rest.length []) done.length) (done ++ rest) := by
  intro rest
  induction rest with
  | nil => intro done h _; exact Ev.step (fun k => by simp [laws_toIntSS.l0]; rfl) (Ev.some (by simp))
  | cons x rest ih =>
    intro done h hr
    have ih' := ih (done ++ [x])
    obtain ⟨h1, h2, h3, h4, h5⟩ := midL x done rest (by unfold maxLen; simp only [BM] at h; omega)
    rw [h5] at ih'
    refine Ev.step (fun k => by rw [laws_toIntSS.l0]) ?_
    have h6 : (done.length : Int) < ((done ++ List.replicate (x :: rest).length ([] : List Int)).length : Int) := by simp; omega
    simp only [if_pos h1, if_pos h2, h3, h4]
    refine Ev.bind (toIntS_f x (hr x (by simp))) ?_
    simp only [if_pos h6]
    rw [List.length_cons, List.replicate_succ, setL_mid]
    exact ih' h (fun y hy => hr y (by simp [hy]))
theorem toIntSS_f (l : List (List Int)) (h : l.length ≤ 1048576) (hr : ∀ r ∈ l, r.length ≤ BM) : Ev (fun k => laws_toIntSS.f k l) l := by
  unfold laws_toIntSS.f
  have e1 : 0 ≤ (l.length : Int) := by omega
  have e2 : (l.length : Int).toNat ≤ 11728124029610 := by omega
  simp only [if_pos e1, if_pos e2]
  exact toIntSS_l0 l [] (by simp only [BM]; simp; omega) hr
theorem eqIntSS_l0 : ∀ (rest done rest2 done2 : List (List Int)), done.length = done2.length → rest.length = rest2.length → (done ++ rest).length ≤ BM → (∀ r ∈ rest, r.length ≤ BM) → Ev (fun k => laws_eqIntSS.l0 k (done ++ rest) (done2 ++ rest2) done.length) (decide (rest = rest2)) := by
  intro rest
  induction rest with
  | nil =>
    intro done rest2 done2 hl hl2 h _
    obtain rfl : rest2 = [] := by simpa using hl2.symm
    exact Ev.step (fun k => by simp [laws_eqIntSS.l0]; rfl) (Ev.some (by simp))
  | cons x rest ih =>
    intro done rest2 done2 hl hl2 h hr
    obtain ⟨y, rest2, rfl⟩ : ∃ y r, rest2 = y :: r := by cases rest2 with | nil => simp at hl2 | cons y r => exact ⟨y, r, rfl⟩
    have ih' := ih (done ++ [x]) rest2 (done2 ++ [y]) (by simp [hl]) (by simpa using hl2)
    have hm : (done ++ x :: rest).length ≤ maxLen := by unfold maxLen; simp only [BM] at h; omega
    obtain ⟨h1, h2, h3, h4, h5⟩ := midL x done rest hm
    have hh : (done2 ++ y :: rest2).length ≤ maxLen := by simp at hm hl2 ⊢; omega
    obtain ⟨g1, g2, g3, g4, g5⟩ := midL y done2 rest2 hh
    rw [h5, g5] at ih'
    refine Ev.step (fun k => by rw [laws_eqIntSS.l0]) ?_
    rw [← hl] at g1 g3
    simp only [if_pos h1, if_pos h2, if_pos g1, h3, h4, g3]
    refine Ev.bind (eqIntS_f x y (hr x (by simp))) ?_
    by_cases e : x = y
    · subst e; simpa using ih' h (fun y hy => hr y (by simp [hy]))
    · simpa [e] using Ev.now false
theorem eqIntSS_f (l m : List (List Int)) (h : l.length ≤ BM) (hr : ∀ r ∈ l, r.length ≤ BM) : Ev (fun k => laws_eqIntSS.f k l m) (decide (l = m)) := by
  unfold laws_eqIntSS.f
  refine Ev.ite (fun e => ?_) (fun e => ?_)
  · exact eqIntSS_l0 l [] m [] rfl (by omega) h hr
  · exact Ev.some (by symm; simp; rintro rfl; exact e rfl)
theorem eqIntSS_same (l : List (List Int)) (h : l.length ≤ BM) (hr : ∀ r ∈ l, r.length ≤ BM) : Ev (fun k => laws_eqIntSS.f k l l) true := by simpa using eqIntSS_f l l h hr
end Go.Proofs.Ytojcnapdalpnmaa.K

namespace Go.Proofs.Ytojcnapdalpnmaa.K
open Go.RowKit Go.Proofs.YtojcnapdalpnmaaW.PrintWords
/-- From some number of rounds on, the answer is whether P holds. -/
def EvB (g : Nat → Option Bool) (P : Prop) : Prop := (P → Ev g true) ∧ (¬ P → Ev g false)
theorem EvB.congr {g : Nat → Option Bool} {P Q : Prop} (h : EvB g P) (e : P ↔ Q) : EvB g Q := ⟨fun q => h.1 (e.2 q), fun q => h.2 (fun p => q (e.1 p))⟩
theorem EvB.ev {g : Nat → Option Bool} {P : Prop} (h : EvB g P) : ∃ b : Bool, Ev g b ∧ (b = true ↔ P) := by
  by_cases p : P
  · exact ⟨true, h.1 p, by simp [p]⟩
  · exact ⟨false, h.2 p, by simp [p]⟩
theorem EvB.of {g : Nat → Option Bool} {P : Prop} {b : Bool} (h : Ev g b) (e : b = true ↔ P) : EvB g P := by
  cases b with
  | true => exact ⟨fun _ => h, fun p => absurd (e.1 rfl) p⟩
  | false => exact ⟨fun p => absurd (e.2 p) (by simp), fun _ => h⟩
theorem EvB.true_ : EvB (fun _ => some true) True := ⟨fun _ => Ev.now _, fun h => absurd trivial h⟩
theorem EvB.false_ : EvB (fun _ => some false) False := ⟨fun h => h.elim, fun _ => Ev.now _⟩
theorem EvB.now (b : Bool) : EvB (fun _ => some b) (b = true) := EvB.of (Ev.now b) Iff.rfl
theorem EvB.fn {g f : Nat → Option Bool} {P : Prop} (h : ∀ k, g k = f k) (k : EvB f P) : EvB g P := ⟨fun p => Ev.congr h (k.1 p), fun p => Ev.congr h (k.2 p)⟩
theorem EvB.step {g f : Nat → Option Bool} {P : Prop} (h : ∀ k, g (k + 1) = f k) (k : EvB f P) : EvB g P := ⟨fun p => Ev.step h (k.1 p), fun p => Ev.step h (k.2 p)⟩
theorem EvB.ite {c : Prop} [Decidable c] {f g : Nat → Option Bool} {P Q : Prop} (h1 : c → EvB f P) (h2 : ¬ c → EvB g Q) : EvB (fun k => if c then f k else g k) ((c ∧ P) ∨ (¬ c ∧ Q)) := by
  by_cases h : c
  · simpa [h] using h1 h
  · simpa [h] using h2 h
/-- 'if test then go on else false' -/
theorem EvB.and {c : Prop} [Decidable c] {f : Nat → Option Bool} {P : Prop} (h1 : c → EvB f P) : EvB (fun k => if c then f k else some false) (c ∧ P) := by
  by_cases h : c
  · simpa [h] using h1 h
  · simpa [h] using EvB.false_
theorem EvB.bind {α : Type} {g : Nat → Option α} {f : Nat → α → Option Bool} {a : α} {P : Prop} (h : Ev g a) (k : EvB (fun n => f n a) P) : EvB (fun n => (g n).bind (f n)) P :=
  ⟨fun p => Ev.bind h (k.1 p), fun p => Ev.bind h (k.2 p)⟩
/-- a test by a call, then 'go on' or 'false' -/
theorem EvB.bindB {g : Nat → Option Bool} {f : Nat → Bool → Option Bool} {P Q : Prop} (h : EvB g P) (k1 : P → EvB (fun n => f n true) Q) (k2 : ¬ P → Ev (fun n => f n false) false) : EvB (fun n => (g n).bind (f n)) (P ∧ Q) := by
  by_cases p : P
  · exact (EvB.bind (h.1 p) (k1 p)).congr (by simp [p])
  · exact ⟨fun q => absurd q.1 p, fun _ => Ev.bind (h.2 p) (k2 p)⟩
/-- A loop that answers false where P fails, and goes on behind n. -/
theorem allLoop (g : Nat → Nat → Option Bool) (n : Nat) (P : Nat → Prop) (Q : Prop) (hend : EvB (g n) Q)
    (hs : ∀ j, j < n → ∀ R, EvB (g (j + 1)) R → EvB (g j) (P j ∧ R)) : ∀ d j, j + d = n → EvB (g j) ((∀ i, j ≤ i → i < n → P i) ∧ Q) := by
  intro d
  induction d with
  | zero =>
    intro j hj
    obtain rfl : j = n := by omega
    exact hend.congr ⟨fun q => ⟨fun i h1 h2 => by omega, q⟩, fun h => h.2⟩
  | succ d ih =>
    intro j hj
    refine (hs j (by omega) _ (ih (j + 1) (by omega))).congr ⟨?_, ?_⟩
    · rintro ⟨h1, h2, h3⟩
      refine ⟨fun i h4 h5 => ?_, h3⟩
      by_cases e : i = j
      · subst e; exact h1
      · exact h2 i (by omega) h5
    · rintro ⟨h1, h2⟩
      exact ⟨h1 j (Nat.le_refl _) (by omega), fun i h4 h5 => h1 i (by omega) h5, h2⟩
theorem allLoop0 (g : Nat → Nat → Option Bool) (n : Nat) (P : Nat → Prop) (Q : Prop) (hend : EvB (g n) Q)
    (hs : ∀ j, j < n → ∀ R, EvB (g (j + 1)) R → EvB (g j) (P j ∧ R)) : EvB (g 0) ((∀ i, i < n → P i) ∧ Q) :=
  (allLoop g n P Q hend hs n 0 (by omega)).congr ⟨fun h => ⟨fun i hi => h.1 i (Nat.zero_le _) hi, h.2⟩, fun h => ⟨fun i _ hi => h.1 i hi, h.2⟩⟩
/-- A loop over indices that carries a state. -/
theorem foldLoop {σ α : Type} (g : σ → Nat → Nat → Option α) (n : Nat) (f : σ → Nat → σ) (r : σ → α) (I : σ → Nat → Prop) (hend : ∀ s, I s n → Ev (g s n) (r s))
    (hs : ∀ s j, j < n → I s j → I (f s j) (j + 1) ∧ ∀ x, Ev (g (f s j) (j + 1)) x → Ev (g s j) x) : ∀ d s j, j + d = n → I s j → Ev (g s j) (r ((List.range' j d).foldl f s)) := by
  intro d
  induction d with
  | zero =>
    intro s j hj hi
    obtain rfl : j = n := by omega
    exact hend s hi
  | succ d ih =>
    intro s j hj hi
    obtain ⟨h1, h2⟩ := hs s j (by omega) hi
    rw [List.range'_succ, List.foldl_cons]
    exact h2 _ (ih _ _ (by omega) h1)
theorem wrap_nat (i : Nat) (h : i < 9223372036854775807) : wrap64 ((i : Int) + 1) = ((i + 1 : Nat) : Int) := by unfold wrap64; omega
/-- A list of natural numbers, as it stands in Go. -/
def ints (ns : List Nat) : List Int := ns.map (fun n : Nat => (n : Int))
theorem ints_length (ns : List Nat) : (ints ns).length = ns.length := by simp [ints]
theorem rd_ints (ns : List Nat) (i : Nat) : rd (ints ns) (i : Int) = ((ns.getD i 0 : Nat) : Int) := by
  simp only [rd, ints, Int.toNat_natCast, List.getD_eq_getElem?_getD, List.getElem?_map]
  cases ns[i]? <;> simp
theorem ints_of (l : List Int) (h : ∀ x ∈ l, 0 ≤ x) : ∃ ns, l = ints ns := by
  refine ⟨l.map Int.toNat, ?_⟩
  simp only [ints, List.map_map]
  rw [List.map_congr_left (g := id) (fun x hx => by have := h x hx; simp; omega)]
  simp
theorem ints_set (ns : List Nat) (i v : Nat) : (ints ns).set (i : Int).toNat (v : Int) = ints (ns.set i v) := by simp [ints, List.map_set]
end Go.Proofs.Ytojcnapdalpnmaa.K

namespace Go.Proofs.Ytojcnapdalpnmaa.K
open Go.RowKit Go.Proofs.YtojcnapdalpnmaaW.PrintWords Go.Proofs.Ytojcnapdalpnmaa.P
theorem maGrid_l0 (l : List (List Int)) (h0 : 0 < l.length) : ∀ (rest done : List (List Int)), (done ++ rest).length ≤ BM → (∀ r ∈ rest, r.length ≤ BM) → Ev (fun k => spec_maGrid.l0 k l (done ++ rest) (done ++ rest).length done.length) (!rest.any (rowBad (rd_L1 l 0).length)) := by
  intro rest
  induction rest with
  | nil => intro done h _; exact Ev.step (fun k => by simp [spec_maGrid.l0]; rfl) (Ev.some (by simp))
  | cons x rest ih =>
    intro done h hr
    have ih' := ih (done ++ [x])
    obtain ⟨h1, h2, h3, h4, h5⟩ := midL x done rest (by unfold maxLen; simp only [BM] at h; omega)
    rw [h5] at ih'
    have h6 : 0 < (l.length : Int) := by omega
    refine Ev.step (fun k => by rw [spec_maGrid.l0]) ?_
    simp only [if_pos h1, if_pos h2, if_pos h6, h3, h4]
    by_cases e : (x.length : Int) = ((rd_L1 l 0).length : Int)
    · simp only [if_pos e]
      have e' : x.length = (rd_L1 l 0).length := by omega
      refine Ev.bind (l1All_f x 0 1 (hr x (by simp))) ?_
      cases hw : within 0 1 x with
      | true => simp only [if_true]; exact Ev.pair (ih' h (fun y hy => hr y (by simp [hy]))) (by simp [rowBad, hw, e'])
      | false => simpa [rowBad, hw] using Ev.now false
    · simp only [if_neg e]
      have e' : ¬ x.length = (rd_L1 l 0).length := by omega
      exact Ev.some (by simp [rowBad, e'])
theorem maGrid_f (l : List (List Int)) (h : l.length ≤ BM) (hr : ∀ r ∈ l, r.length ≤ BM) : Ev (fun k => spec_maGrid.f k l) (gridB l) := by
  unfold spec_maGrid.f
  simp only [l1In_f, Option.bind_some]
  have hj : ∀ l, Ev (fun k => spec_maGrid.j0 k l true) false := fun l => Ev.step (fun k => by rw [spec_maGrid.j0]) (by simpa using Ev.now _)
  by_cases h1 : 1 ≤ l.length ∧ l.length ≤ 6
  · rw [show (decide (1 ≤ (l.length : Int)) && decide ((l.length : Int) ≤ 6)) = true by simp; omega]
    have h2 : 0 < (l.length : Int) := by omega
    simp only [if_true, if_pos h2]
    by_cases h3 : 1 ≤ (rd_L1 l 0).length ∧ (rd_L1 l 0).length ≤ 6
    · rw [show (decide (1 ≤ ((rd_L1 l 0).length : Int)) && decide (((rd_L1 l 0).length : Int) ≤ 6)) = true by simp; omega]
      refine Ev.step (fun k => by rw [spec_maGrid.j0]) ?_
      simp only [Bool.not_true, Bool.false_eq_true, if_false]
      refine Ev.pair (maGrid_l0 l (by omega) l [] h hr) ?_
      unfold gridB
      rw [show decide (1 ≤ l.length) = true by simp; omega, show decide (l.length ≤ 6) = true by simp; omega, show decide (1 ≤ (rd_L1 l 0).length) = true by simp; omega, show decide ((rd_L1 l 0).length ≤ 6) = true by simp; omega]; simp
    · rw [show (decide (1 ≤ ((rd_L1 l 0).length : Int)) && decide (((rd_L1 l 0).length : Int) ≤ 6)) = false by simp; omega]
      exact Ev.pair (hj l) (by symm; simp [gridB]; omega)
  · rw [show (decide (1 ≤ (l.length : Int)) && decide ((l.length : Int) ≤ 6)) = false by simp; omega]
    simp only [Bool.false_eq_true, if_false]
    exact Ev.pair (hj l) (by symm; simp [gridB]; omega)
theorem IsGrid_f (l : List (List Int)) (h : l.length ≤ BM) (hr : ∀ r ∈ l, r.length ≤ BM) : impl_IsGrid.f l = some (gridB l) := by unfold impl_IsGrid.f; rw [if_pos ⟨h, hr⟩]
theorem grid_get {l : List (List Int)} (h : gridB l = true) : 1 ≤ l.length ∧ l.length ≤ 6 ∧ 1 ≤ (rd_L1 l 0).length ∧ (rd_L1 l 0).length ≤ 6 ∧ ∀ r ∈ l, r.length = (rd_L1 l 0).length ∧ ∀ x ∈ r, x = 0 ∨ x = 1 := by
  unfold gridB at h
  simp only [Bool.and_eq_true, decide_eq_true_eq, Bool.not_eq_true', List.any_eq_false] at h
  refine ⟨h.1.1, h.1.2, h.2.1.1, h.2.1.2, fun r hr => ?_⟩
  have := h.2.2 r hr
  simp only [rowBad, Bool.or_eq_true, Bool.not_eq_true', not_or, Bool.not_eq_false, decide_eq_true_eq, within, List.all_eq_true, Bool.and_eq_true] at this
  exact ⟨this.1, fun x hx => by have := this.2 x hx; omega⟩
end Go.Proofs.Ytojcnapdalpnmaa.K

namespace Go.Proofs.Ytojcnapdalpnmaa.K
open Go.RowKit Go.Proofs.YtojcnapdalpnmaaW.PrintWords
/-- A loop over indices that carries a state with an invariant; what goes on behind it answers for it. -/
theorem contLoopI {σ α : Type} (g : σ → Nat → Nat → Option α) (n : Nat) (I : σ → Nat → Prop)
    (hs : ∀ s j, j < n → I s j → ∃ s', I s' (j + 1) ∧ ∀ x, Ev (g s' (j + 1)) x → Ev (g s j) x) : ∀ d s j, j + d = n → I s j → ∃ s', I s' n ∧ ∀ x, Ev (g s' n) x → Ev (g s j) x := by
  intro d
  induction d with
  | zero =>
    intro s j hj hi
    obtain rfl : j = n := by omega
    exact ⟨s, hi, fun x h => h⟩
  | succ d ih =>
    intro s j hj hi
    obtain ⟨s1, h1, h2⟩ := hs s j (by omega) hi
    obtain ⟨s2, h3, h4⟩ := ih _ _ (by omega) h1
    exact ⟨s2, h3, fun x h => h2 x (h4 x h)⟩
end Go.Proofs.Ytojcnapdalpnmaa.K

namespace Go.Proofs.Ytojcnapdalpnmaa.K
open Go.RowKit Go.Proofs.YtojcnapdalpnmaaW.PrintWords Go.Proofs.Ytojcnapdalpnmaa.P
theorem mapRow_length (g : Int → Int → Int → Int) (i : Nat) : ∀ (l : List Int) (j : Nat), (mapRow g i j l).length = l.length
  | [], _ => rfl
  | _ :: l, j => by simp [mapRow, mapRow_length g i l (j + 1)]
theorem mapRows_length (g : Int → Int → Int → Int) : ∀ (l : List (List Int)) (i : Nat), (mapRows g i l).length = l.length
  | [], _ => rfl
  | _ :: l, i => by simp [mapRows, mapRows_length g l (i + 1)]
theorem mapRows_mem (g : Int → Int → Int → Int) : ∀ (l : List (List Int)) (i : Nat) (r : List Int), r ∈ mapRows g i l → ∃ r0 ∈ l, r.length = r0.length
  | [], _, _, h => by cases h
  | x :: l, i, r, h => by
    rcases List.mem_cons.1 h with rfl | h
    · exact ⟨x, by simp, mapRow_length ..⟩
    · obtain ⟨r0, h1, h2⟩ := mapRows_mem g l (i + 1) r h
      exact ⟨r0, by simp [h1], h2⟩
theorem mapRow_map (f : Int → Int) (i : Nat) : ∀ (l : List Int) (j : Nat), mapRow (fun _ _ n => f n) i j l = l.map f
  | [], _ => rfl
  | _ :: l, j => by simp [mapRow, mapRow_map f i l (j + 1)]
theorem mapRows_map (f : Int → Int) : ∀ (l : List (List Int)) (i : Nat), mapRows (fun _ _ n => f n) i l = l.map (List.map f)
  | [], _ => rfl
  | _ :: l, i => by simp [mapRows, mapRow_map, mapRows_map f l (i + 1)]
end Go.Proofs.Ytojcnapdalpnmaa.K

namespace Go.Proofs.Ytojcnapdalpnmaa.K
open Go.RowKit Go.Proofs.YtojcnapdalpnmaaW.PrintWords Go.Proofs.Ytojcnapdalpnmaa.P
/-- The number in row i and column j; row i. -/
def rowN (l : List (List Int)) (i : Nat) : List Int := rd_L1 l (i : Int)
def at2 (l : List (List Int)) (i j : Nat) : Int := rd (rowN l i) (j : Int)
theorem rowN_at {l : List (List Int)} {i : Nat} (h : i < l.length) : rowN l i = l[i] := by
  unfold rowN rd_L1; simp [List.getD_eq_getElem?_getD, List.getElem?_eq_getElem h]
theorem rdN_at {l : List Int} {i : Nat} (h : i < l.length) : rd l (i : Int) = l[i] := by
  unfold rd; simp [List.getD_eq_getElem?_getD, List.getElem?_eq_getElem h]
theorem rowN_mem {l : List (List Int)} {i : Nat} (h : i < l.length) : rowN l i ∈ l := by rw [rowN_at h]; exact List.getElem_mem _
theorem rows_ext {l l' : List (List Int)} (h : l.length = l'.length) (hr : ∀ i, i < l.length → (rowN l i).length = (rowN l' i).length) (ha : ∀ i j, i < l.length → j < (rowN l i).length → at2 l i j = at2 l' i j) : l = l' := by
  apply List.ext_getElem h
  intro i h1 h2
  have e1 := rowN_at h1
  have e2 := rowN_at h2
  rw [← e1, ← e2]
  apply List.ext_getElem (hr i h1)
  intro j h3 h4
  have := ha i j h1 h3
  unfold at2 at this
  rwa [rdN_at h3, rdN_at h4] at this
theorem mapRow_at (g : Int → Int → Int → Int) (i : Nat) : ∀ (l : List Int) (j0 j : Nat), j < l.length → rd (mapRow g i j0 l) (j : Int) = g (i : Int) ((j0 + j : Nat) : Int) (rd l (j : Int))
  | [], _, _, h => by simp at h
  | x :: l, j0, 0, _ => by simp [mapRow, rd]
  | x :: l, j0, j + 1, h => by
    have := mapRow_at g i l (j0 + 1) j (by simpa using h)
    have e : ∀ (y : Int) (m : List Int), rd (y :: m) ((j + 1 : Nat) : Int) = rd m (j : Int) := fun y m => by simp [rd]
    rw [mapRow, e, e, this]; congr 2; omega
theorem mapRows_row (g : Int → Int → Int → Int) : ∀ (l : List (List Int)) (i0 i : Nat), i < l.length → rowN (mapRows g i0 l) i = mapRow g (i0 + i) 0 (rowN l i)
  | [], _, _, h => by simp at h
  | x :: l, i0, 0, _ => by simp [mapRows, rowN, rd_L1]
  | x :: l, i0, i + 1, h => by
    have := mapRows_row g l (i0 + 1) i (by simpa using h)
    have e : ∀ (y : List Int) (m : List (List Int)), rowN (y :: m) (i + 1) = rowN m i := fun y m => by simp [rowN, rd_L1]
    rw [mapRows, e, e, this]; congr 1; omega
theorem mapRows_at (g : Int → Int → Int → Int) (l : List (List Int)) (i j : Nat) (hi : i < l.length) (hj : j < (rowN l i).length) : at2 (mapRows g 0 l) i j = g (i : Int) (j : Int) (at2 l i j) := by
  unfold at2
  rw [mapRows_row g l 0 i hi, mapRow_at g _ _ 0 j hj]
  simp
/-- One place's number is turned. -/
def flip2 (l : List (List Int)) (i j : Nat) : List (List Int) := l.set i ((rowN l i).set j (wrap64 (1 - at2 l i j)))
theorem flip2_length (l : List (List Int)) (i j : Nat) : (flip2 l i j).length = l.length := by simp [flip2]
theorem flip2_row (l : List (List Int)) (i j i' : Nat) (hi : i < l.length) : rowN (flip2 l i j) i' = if i' = i then (rowN l i).set j (wrap64 (1 - at2 l i j)) else rowN l i' := by
  unfold flip2 rowN rd_L1
  simp only [Int.toNat_natCast, List.getD_eq_getElem?_getD, List.getElem?_set]
  by_cases e : i = i'
  · subst e; simp [hi]
  · rw [if_neg e, if_neg (fun h => e h.symm)]
theorem flip2_rowlen (l : List (List Int)) (i j i' : Nat) (hi : i < l.length) : (rowN (flip2 l i j) i').length = (rowN l i').length := by
  rw [flip2_row l i j i' hi]
  by_cases e : i' = i
  · subst e; simp
  · rw [if_neg e]
theorem flip2_at (l : List (List Int)) (i j i' j' : Nat) (hi : i < l.length) (hj : j < (rowN l i).length) : at2 (flip2 l i j) i' j' = if i' = i ∧ j' = j then wrap64 (1 - at2 l i j) else at2 l i' j' := by
  unfold at2
  rw [flip2_row l i j i' hi]
  by_cases e : i' = i
  · subst e
    simp only [if_true, true_and, rd, Int.toNat_natCast, List.getD_eq_getElem?_getD, List.getElem?_set]
    by_cases e2 : j = j'
    · subst e2; simp [hj, at2, rd]
    · rw [if_neg e2, if_neg (fun h => e2 h.symm)]
  · rw [if_neg e, if_neg (fun h => e h.1)]
theorem grid_rowN {l : List (List Int)} (hg : gridB l = true) : ∀ i, i < l.length → (rowN l i).length = (rd_L1 l 0).length := fun i hi => ((grid_get hg).2.2.2.2 _ (rowN_mem hi)).1
end Go.Proofs.Ytojcnapdalpnmaa.K

namespace Go.Proofs.Ytojcnapdalpnmaa.P
open Go.RowKit Go.Proofs.YtojcnapdalpnmaaW.PrintWords Go.Proofs.Ytojcnapdalpnmaa.K
/-- The four places of a switch: its rows and columns lie in order within the grid, and the numbers alternate. -/
def swIn (l : List (List Int)) (r o c b : Int) : Bool := decide (0 ≤ r ∧ r < o ∧ o < (l.length : Int) ∧ 0 ≤ c ∧ c < b ∧ b < ((rd_L1 l 0).length : Int))
def swAt (l : List (List Int)) (r o c b : Int) : Bool := decide (rd (rd_L1 l r) c = rd (rd_L1 l o) b) && decide (rd (rd_L1 l r) b = rd (rd_L1 l o) c) && decide (rd (rd_L1 l r) c ≠ rd (rd_L1 l r) b)
def swB (l : List (List Int)) (r o c b : Int) : Bool := swIn l r o c b && swAt l r o c b
end Go.Proofs.Ytojcnapdalpnmaa.P

namespace Go.Proofs.Ytojcnapdalpnmaa.K
open Go.RowKit Go.Proofs.YtojcnapdalpnmaaW.PrintWords Go.Proofs.Ytojcnapdalpnmaa.P
/-- The first place from i on, among d places, at which P holds. -/
def firstI (P : Nat → Bool) : Nat → Nat → Option Nat
  | _, 0 => none
  | i, d + 1 => if P i then some i else firstI P (i + 1) d
theorem firstI_some {P : Nat → Bool} : ∀ {d i j : Nat}, firstI P i d = some j → i ≤ j ∧ j < i + d ∧ P j = true ∧ ∀ k, i ≤ k → k < j → P k = false
  | 0, _, _, h => by cases h
  | d + 1, i, j, h => by
    simp only [firstI] at h
    split at h
    · rename_i hp
      obtain rfl := Option.some.inj h
      exact ⟨Nat.le_refl _, by omega, hp, fun k h1 h2 => by omega⟩
    · rename_i hp
      obtain ⟨h1, h2, h3, h4⟩ := firstI_some h
      refine ⟨by omega, by omega, h3, fun k hk1 hk2 => ?_⟩
      by_cases e : k = i
      · subst e; simpa using hp
      · exact h4 k (by omega) hk2
theorem firstI_none {P : Nat → Bool} : ∀ {d i : Nat}, firstI P i d = none → ∀ k, i ≤ k → k < i + d → P k = false
  | 0, _, _, k, h1, h2 => by omega
  | d + 1, i, h, k, h1, h2 => by
    simp only [firstI] at h
    split at h
    · cases h
    · rename_i hp
      by_cases e : k = i
      · subst e; simpa using hp
      · exact firstI_none h k (by omega) (by omega)
/-- Sums over places. -/
def sumR : Nat → (Nat → Int) → Int
  | 0, _ => 0
  | n + 1, f => sumR n f + f n
theorem sumR_congr : ∀ {n : Nat} {f g : Nat → Int}, (∀ i, i < n → f i = g i) → sumR n f = sumR n g
  | 0, _, _, _ => rfl
  | n + 1, f, g, h => by simp only [sumR]; rw [sumR_congr (fun i hi => h i (by omega)), h n (by omega)]
theorem sumR_sub : ∀ (n : Nat) (f g : Nat → Int), sumR n (fun i => f i - g i) = sumR n f - sumR n g
  | 0, _, _ => by simp [sumR]
  | n + 1, f, g => by simp only [sumR]; rw [sumR_sub n f g]; omega
theorem sumR_nonpos : ∀ {n : Nat} {f : Nat → Int}, (∀ i, i < n → f i ≤ 0) → sumR n f ≤ 0
  | 0, _, _ => by simp [sumR]
  | n + 1, f, h => by have := sumR_nonpos (fun i hi => h i (by omega)) (n := n) (f := f); have := h n (by omega); simp only [sumR]; omega
theorem sumR_at : ∀ {n : Nat} {f : Nat → Int} {a : Nat}, (∀ i, i < n → f i ≤ 0) → a < n → sumR n f ≤ f a
  | 0, _, _, _, h => by omega
  | n + 1, f, a, h, ha => by
    simp only [sumR]
    by_cases e : a = n
    · subst e
      have := sumR_nonpos (n := a) (f := f) (fun i hi => h i (by omega)); omega
    · have := sumR_at (n := n) (f := f) (fun i hi => h i (by omega)) (show a < n by omega)
      have := h n (by omega); omega
/-- One place turned. -/
theorem sumR_set : ∀ (n : Nat) (f : Nat → Int) (a : Nat) (v : Int), a < n → sumR n (fun i => if i = a then v else f i) = sumR n f + (v - f a)
  | 0, _, _, _, h => by omega
  | n + 1, f, a, v, ha => by
    simp only [sumR]
    by_cases e : a = n
    · subst e
      rw [sumR_congr (g := f) (fun i hi => by rw [if_neg (by omega)])]; simp; omega
    · rw [sumR_set n f a v (by omega), if_neg (fun h => e h.symm)]; omega
/-- Two grids of the same shape. -/
structure GP where
  t : List (List Int)
  u : List (List Int)
  fst : List S41
  snd : List S41
def pRow (t u : List (List Int)) (n c : Nat) : Option Nat := firstI (fun i => decide (at2 t i c = 1) && decide (at2 u i c = 0)) 0 n
def pCol (t : List (List Int)) (m c r s : Nat) (inR inS : Int) : Option Nat := firstI (fun d => decide (at2 t r d = inR) && decide (at2 t s d = inS)) (c + 1) (m - (c + 1))
def pSw (t : List (List Int)) (r s c d : Nat) : List (List Int) := mapRows (swNum ((min r s : Nat) : Int) ((max r s : Nat) : Int) (c : Int) (d : Int)) 0 t
def pX (r s c d : Nat) : S41 := ⟨((min r s : Nat) : Int), ((max r s : Nat) : Int), (c : Int), (d : Int)⟩
def gpStep (n m c : Nat) (g : GP) : Option GP :=
  match pRow g.t g.u n c, pRow g.u g.t n c with
  | some r, some s =>
    match pCol g.t m c r s 0 1 with
    | some d => some ⟨pSw g.t r s c d, g.u, g.fst ++ [pX r s c d], g.snd⟩
    | none =>
      match pCol g.u m c r s 1 0 with
      | some d => some ⟨g.t, pSw g.u r s c d, g.fst, pX r s c d :: g.snd⟩
      | none => none
  | _, _ => none
def gpCol (n m c : Nat) : Nat → GP → GP
  | 0, g => g
  | f + 1, g => match gpStep n m c g with | some g' => gpCol n m c f g' | none => g
def gpAll (n m : Nat) : Nat → Nat → GP → GP
  | _, 0, g => g
  | c, d + 1, g => gpAll n m (c + 1) d (gpCol n m c (n + 1) g)
/-- Zeros and ones, n rows of m. -/
def Shape (n m : Nat) (t : List (List Int)) : Prop := t.length = n ∧ (∀ i, i < n → (rowN t i).length = m) ∧ ∀ i j, i < n → j < m → at2 t i j = 0 ∨ at2 t i j = 1
structure PInv (n m c : Nat) (g : GP) : Prop where
  st : Shape n m g.t
  su : Shape n m g.u
  rows : ∀ i, i < n → sumR m (at2 g.t i) = sumR m (at2 g.u i)
  cols : ∀ j, j < m → sumR n (fun i => at2 g.t i j) = sumR n (fun i => at2 g.u i j)
  eqs : ∀ i j, i < n → j < c → at2 g.t i j = at2 g.u i j
def dOff (n c : Nat) (g : GP) : Int := sumR n (fun i => if at2 g.t i c = at2 g.u i c then 0 else 1)
theorem pSw_at {n m : Nat} {t : List (List Int)} (h : Shape n m t) {r s c d : Nat} (hr : r < n) (hs : s < n) (hc : c < m) (hd : d < m) (i j : Nat) (hi : i < n) (hj : j < m) :
    at2 (pSw t r s c d) i j = if (i = r ∨ i = s) ∧ (j = c ∨ j = d) then 1 - at2 t i j else at2 t i j := by
  obtain ⟨h1, h2, h3⟩ := h
  unfold pSw
  rw [mapRows_at _ _ _ _ (by omega) (by rw [h2 i hi]; exact hj)]
  unfold swNum
  have hx := h3 i j hi hj
  have hw : wrap64 (1 - at2 t i j) = 1 - at2 t i j := by unfold wrap64; omega
  rw [hw]
  have e : ((i : Int) = ((min r s : Nat) : Int) ∨ (i : Int) = ((max r s : Nat) : Int)) ↔ (i = r ∨ i = s) := by omega
  have e2 : ((j : Int) = (c : Int) ∨ (j : Int) = (d : Int)) ↔ (j = c ∨ j = d) := by omega
  simp only [e, e2]
theorem pSw_shape {n m : Nat} {t : List (List Int)} (h : Shape n m t) {r s c d : Nat} (hr : r < n) (hs : s < n) (hc : c < m) (hd : d < m) : Shape n m (pSw t r s c d) := by
  have h' := h
  obtain ⟨h1, h2, h3⟩ := h
  refine ⟨by unfold pSw; rw [mapRows_length]; exact h1, fun i hi => ?_, fun i j hi hj => ?_⟩
  · unfold pSw; rw [mapRows_row _ _ _ _ (by omega), mapRow_length]; exact h2 i hi
  · rw [pSw_at h' hr hs hc hd i j hi hj]
    have := h3 i j hi hj
    split <;> omega
/-- The sums of a row and of a column behind a switch. -/
theorem pSw_rows {n m : Nat} {t : List (List Int)} (h : Shape n m t) {r s c d : Nat} (hr : r < n) (hs : s < n) (hc : c < m) (hd : d < m) (hcd : c ≠ d) (h1 : at2 t r c + at2 t r d = 1) (h2 : at2 t s c + at2 t s d = 1) (i : Nat) (hi : i < n) :
    sumR m (at2 (pSw t r s c d) i) = sumR m (at2 t i) := by
  by_cases hrs : i = r ∨ i = s
  · have e : ∀ j, j < m → at2 (pSw t r s c d) i j = (fun j => if j = c then 1 - at2 t i c else (fun j => if j = d then 1 - at2 t i d else at2 t i j) j) j := fun j hj => by
      rw [pSw_at h hr hs hc hd i j hi hj]
      by_cases e1 : j = c
      · subst e1; simp [hrs]
      · by_cases e2 : j = d
        · subst e2; simp [hrs, e1]
        · simp [e1, e2]
    rw [sumR_congr e, sumR_set m _ c _ hc, sumR_set m _ d _ hd]
    rw [if_neg hcd]
    rcases hrs with rfl | rfl <;> omega
  · exact sumR_congr (fun j hj => by rw [pSw_at h hr hs hc hd i j hi hj, if_neg (fun hh => hrs hh.1)])
theorem pSw_cols {n m : Nat} {t : List (List Int)} (h : Shape n m t) {r s c d : Nat} (hr : r < n) (hs : s < n) (hc : c < m) (hd : d < m) (hrs : r ≠ s) (h1 : at2 t r c + at2 t s c = 1) (h2 : at2 t r d + at2 t s d = 1) (j : Nat) (hj : j < m) :
    sumR n (fun i => at2 (pSw t r s c d) i j) = sumR n (fun i => at2 t i j) := by
  by_cases hcd : j = c ∨ j = d
  · have e : ∀ i, i < n → (fun i => at2 (pSw t r s c d) i j) i = (fun i => if i = r then 1 - at2 t r j else (fun i => if i = s then 1 - at2 t s j else at2 t i j) i) i := fun i hi => by
      (try dsimp only)
      rw [pSw_at h hr hs hc hd i j hi hj]
      by_cases e1 : i = r
      · subst e1; simp [hcd]
      · by_cases e2 : i = s
        · subst e2; simp [hcd, e1]
        · simp [e1, e2]
    rw [sumR_congr e, sumR_set n _ r _ hr, sumR_set n _ s _ hs]
    rw [if_neg hrs]
    rcases hcd with rfl | rfl <;> omega
  · exact sumR_congr (fun i hi => by rw [pSw_at h hr hs hc hd i j hi hj, if_neg (fun hh => hcd hh.2)])
theorem pRow_some {t u : List (List Int)} {n c r : Nat} (h : pRow t u n c = some r) : r < n ∧ at2 t r c = 1 ∧ at2 u r c = 0 := by
  obtain ⟨-, h2, h3, -⟩ := firstI_some h
  simp only [Bool.and_eq_true, decide_eq_true_eq] at h3
  exact ⟨by omega, h3⟩
theorem pRow_none {t u : List (List Int)} {n c : Nat} (h : pRow t u n c = none) : ∀ i, i < n → ¬ (at2 t i c = 1 ∧ at2 u i c = 0) := fun i hi => by
  have := firstI_none h i (Nat.zero_le _) (by omega)
  intro hh
  simp [hh.1, hh.2] at this
theorem pCol_some {t : List (List Int)} {m c r s d : Nat} {a b : Int} (h : pCol t m c r s a b = some d) : c < d ∧ d < m ∧ at2 t r d = a ∧ at2 t s d = b := by
  obtain ⟨h1, h2, h3, -⟩ := firstI_some h
  simp only [Bool.and_eq_true, decide_eq_true_eq] at h3
  exact ⟨by omega, by omega, h3⟩
theorem pCol_none {t : List (List Int)} {m c r s : Nat} {a b : Int} (h : pCol t m c r s a b = none) : ∀ d, c < d → d < m → ¬ (at2 t r d = a ∧ at2 t s d = b) := fun d h1 h2 => by
  have := firstI_none h d (by omega) (by omega)
  intro hh
  simp [hh.1, hh.2] at this
/-- Where one grid is greater in a column, the other one is somewhere, too. -/
theorem pRow_back {n m c : Nat} {g : GP} (hI : PInv n m c g) (hc : c < m) (h : pRow g.u g.t n c = none) : pRow g.t g.u n c = none := by
  cases h2 : pRow g.t g.u n c with
  | none => rfl
  | some r =>
    exfalso
    obtain ⟨q1, q2, q3⟩ := pRow_some h2
    have e := hI.cols c hc
    have hle : ∀ i, i < n → (fun i => at2 g.u i c - at2 g.t i c) i ≤ 0 := fun i hi => by
      have a := hI.st.2.2 i c hi hc
      have b := hI.su.2.2 i c hi hc
      have := pRow_none h i hi
      (try dsimp only)
      omega
    have := sumR_at hle q1
    rw [sumR_sub n (fun i => at2 g.u i c) (fun i => at2 g.t i c)] at this
    (try dsimp only at this)
    omega
theorem pRow_fwd {n m c : Nat} {g : GP} (hI : PInv n m c g) (hc : c < m) (h : pRow g.t g.u n c = none) : pRow g.u g.t n c = none :=
  pRow_back (g := ⟨g.u, g.t, [], []⟩) ⟨hI.su, hI.st, fun i hi => (hI.rows i hi).symm, fun j hj => (hI.cols j hj).symm, fun i j hi hj => (hI.eqs i j hi hj).symm⟩ hc h
/-- Nothing is left in this column. -/
theorem col_done {n m c : Nat} {g : GP} (hI : PInv n m c g) (hc : c < m) (h : pRow g.t g.u n c = none) : PInv n m (c + 1) g := by
  refine ⟨hI.st, hI.su, hI.rows, hI.cols, fun i j hi hj => ?_⟩
  by_cases e : j = c
  · subst e
    have a := hI.st.2.2 i j hi hc
    have b := hI.su.2.2 i j hi hc
    have h1 := pRow_none h i hi
    have h2 := pRow_none (pRow_fwd hI hc h) i hi
    omega
  · exact hI.eqs i j hi (by omega)
/-- One of the two grids has a switch. -/
theorem col_switch {n m c r s : Nat} {g : GP} (hI : PInv n m c g) (hc : c < m) (hr : pRow g.t g.u n c = some r) (hs : pRow g.u g.t n c = some s) (h1 : pCol g.t m c r s 0 1 = none) : pCol g.u m c r s 1 0 ≠ none := by
  intro h2
  obtain ⟨r1, r2, r3⟩ := pRow_some hr
  obtain ⟨s1, s2, s3⟩ := pRow_some hs
  have e1 := hI.rows r r1
  have e2 := hI.rows s s1
  have hle : ∀ d, d < m → (fun d => (fun d => at2 g.u r d - at2 g.t r d) d - (fun d => at2 g.u s d - at2 g.t s d) d) d ≤ 0 := fun d hd => by
    (try dsimp only)
    by_cases k1 : d < c
    · have := hI.eqs r d r1 k1
      have := hI.eqs s d s1 k1
      omega
    · by_cases k2 : d = c
      · subst k2; omega
      · have q1 := pCol_none h1 d (by omega) hd
        have q2 := pCol_none h2 d (by omega) hd
        have a1 := hI.st.2.2 r d r1 hd
        have a2 := hI.st.2.2 s d s1 hd
        have a3 := hI.su.2.2 r d r1 hd
        have a4 := hI.su.2.2 s d s1 hd
        omega
  have := sumR_at hle hc
  rw [sumR_sub m (fun d => at2 g.u r d - at2 g.t r d) (fun d => at2 g.u s d - at2 g.t s d), sumR_sub m (fun d => at2 g.u r d) (fun d => at2 g.t r d), sumR_sub m (fun d => at2 g.u s d) (fun d => at2 g.t s d)] at this
  (try dsimp only at this)
  have z1 : sumR m (fun d => at2 g.u r d) = sumR m (at2 g.u r) := rfl
  have z2 : sumR m (fun d => at2 g.t r d) = sumR m (at2 g.t r) := rfl
  have z3 : sumR m (fun d => at2 g.u s d) = sumR m (at2 g.u s) := rfl
  have z4 : sumR m (fun d => at2 g.t s d) = sumR m (at2 g.t s) := rfl
  omega
theorem stepT {n m c r s d : Nat} {g : GP} {x : List S41} (hI : PInv n m c g) (hc : c < m) (hr : pRow g.t g.u n c = some r) (hs : pRow g.u g.t n c = some s) (h1 : pCol g.t m c r s 0 1 = some d) :
    PInv n m c ⟨pSw g.t r s c d, g.u, x, g.snd⟩ ∧ dOff n c ⟨pSw g.t r s c d, g.u, x, g.snd⟩ + 2 = dOff n c g := by
  obtain ⟨r1, r2, r3⟩ := pRow_some hr
  obtain ⟨s1, s2, s3⟩ := pRow_some hs
  obtain ⟨d1, d2, d3, d4⟩ := pCol_some h1
  have hrs : r ≠ s := fun e => by subst e; omega
  refine ⟨⟨pSw_shape hI.st r1 s1 hc d2, hI.su, fun i hi => ?_, fun j hj => ?_, fun i j hi hj => ?_⟩, ?_⟩
  · exact (pSw_rows hI.st r1 s1 hc d2 (by omega) (by omega) (by omega) i hi).trans (hI.rows i hi)
  · exact (pSw_cols hI.st r1 s1 hc d2 hrs (by omega) (by omega) j hj).trans (hI.cols j hj)
  · have := pSw_at hI.st r1 s1 hc d2 i j hi (by omega)
    rw [if_neg (by omega)] at this
    exact this.trans (hI.eqs i j hi hj)
  · unfold dOff
    have e : ∀ i, i < n → (fun i => if at2 (pSw g.t r s c d) i c = at2 g.u i c then (0 : Int) else 1) i = (fun i => if i = r then (0 : Int) else (fun i => if i = s then (0 : Int) else (fun i => if at2 g.t i c = at2 g.u i c then (0 : Int) else 1) i) i) i := fun i hi => by
      (try dsimp only)
      rw [pSw_at hI.st r1 s1 hc d2 i c hi hc]
      by_cases e1 : i = r
      · subst e1; simp [r2, r3]
      · by_cases e2 : i = s
        · subst e2; simp [s2, s3]
        · simp [e1, e2]
    (try dsimp only)
    rw [sumR_congr e, sumR_set n _ r _ r1, sumR_set n _ s _ s1]
    have k1 : ¬ at2 g.t r c = at2 g.u r c := by omega
    have k2 : ¬ at2 g.t s c = at2 g.u s c := by omega
    simp [hrs, k1, k2]
    omega
theorem stepU {n m c r s d : Nat} {g : GP} {x : List S41} (hI : PInv n m c g) (hc : c < m) (hr : pRow g.t g.u n c = some r) (hs : pRow g.u g.t n c = some s) (h1 : pCol g.u m c r s 1 0 = some d) :
    PInv n m c ⟨g.t, pSw g.u r s c d, g.fst, x⟩ ∧ dOff n c ⟨g.t, pSw g.u r s c d, g.fst, x⟩ + 2 = dOff n c g := by
  obtain ⟨r1, r2, r3⟩ := pRow_some hr
  obtain ⟨s1, s2, s3⟩ := pRow_some hs
  obtain ⟨d1, d2, d3, d4⟩ := pCol_some h1
  have hrs : r ≠ s := fun e => by subst e; omega
  refine ⟨⟨hI.st, pSw_shape hI.su r1 s1 hc d2, fun i hi => ?_, fun j hj => ?_, fun i j hi hj => ?_⟩, ?_⟩
  · exact (hI.rows i hi).trans (pSw_rows hI.su r1 s1 hc d2 (by omega) (by omega) (by omega) i hi).symm
  · exact (hI.cols j hj).trans (pSw_cols hI.su r1 s1 hc d2 hrs (by omega) (by omega) j hj).symm
  · have := pSw_at hI.su r1 s1 hc d2 i j hi (by omega)
    rw [if_neg (by omega)] at this
    exact (hI.eqs i j hi hj).trans this.symm
  · unfold dOff
    have e : ∀ i, i < n → (fun i => if at2 g.t i c = at2 (pSw g.u r s c d) i c then (0 : Int) else 1) i = (fun i => if i = r then (0 : Int) else (fun i => if i = s then (0 : Int) else (fun i => if at2 g.t i c = at2 g.u i c then (0 : Int) else 1) i) i) i := fun i hi => by
      (try dsimp only)
      rw [pSw_at hI.su r1 s1 hc d2 i c hi hc]
      by_cases e1 : i = r
      · subst e1; simp [r2, r3]
      · by_cases e2 : i = s
        · subst e2; simp [s2, s3]
        · simp [e1, e2]
    (try dsimp only)
    rw [sumR_congr e, sumR_set n _ r _ r1, sumR_set n _ s _ s1]
    have k1 : ¬ at2 g.t r c = at2 g.u r c := by omega
    have k2 : ¬ at2 g.t s c = at2 g.u s c := by omega
    simp [hrs, k1, k2]
    omega
theorem dOff_nonneg : ∀ (n c : Nat) (g : GP), 0 ≤ dOff n c g
  | 0, c, g => by simp [dOff, sumR]
  | n + 1, c, g => by
    have := dOff_nonneg n c g
    simp only [dOff, sumR] at this ⊢
    split <;> omega
theorem dOff_le : ∀ (n c : Nat) (g : GP), dOff n c g ≤ n
  | 0, c, g => by simp [dOff, sumR]
  | n + 1, c, g => by
    have := dOff_le n c g
    simp only [dOff, sumR] at this ⊢
    split <;> omega
end Go.Proofs.Ytojcnapdalpnmaa.K

namespace Go.Proofs.Ytojcnapdalpnmaa.K
open Go.RowKit Go.Proofs.YtojcnapdalpnmaaW.PrintWords Go.Proofs.Ytojcnapdalpnmaa.P
theorem l1Own_f (l : List Int) (h : l.length ≤ 1048576) : spec_l1Own.f l = some l := by
  unfold spec_l1Own.f
  simp only [Option.bind_some, List.length_nil, List.nil_append]
  rw [if_pos (by omega)]
theorem maOwn_l0 : ∀ (rest done x3 : List (List Int)), (done ++ rest).length ≤ 1048576 → (∀ r ∈ rest, r.length ≤ 1048576) → x3.length = done.length → Ev (fun k => spec_maOwn.l0 k x3 (done ++ rest) ((done ++ rest).length : Int) (done.length : Int)) (x3 ++ rest) := by
  intro rest
  induction rest with
  | nil => intro done x3 h _ _; exact Ev.step (fun k => by simp [spec_maOwn.l0]; rfl) (Ev.some (by simp))
  | cons r rest ih =>
    intro done x3 h hr hx
    obtain ⟨q1, q2, q3, q4, q5⟩ := midL r done rest (by unfold maxLen; omega)
    have ih' := ih (done ++ [r]) (x3 ++ [r]) (by rw [q5]; exact h) (fun y hy => hr y (by simp [hy])) (by simp [hx])
    rw [q5] at ih'
    have hl : x3.length < 5864062014805 := by simp at h; omega
    refine Ev.step (fun k => by rw [spec_maOwn.l0]) ?_
    simp only [if_pos q1, if_pos q2, q3, q4, l1Own_f r (hr r (by simp)), Option.bind_some, if_pos hl]
    exact Ev.pair ih' (by simp)
theorem maOwn_f (l : List (List Int)) (h : l.length ≤ 1048576) (hr : ∀ r ∈ l, r.length ≤ 1048576) : Ev (fun k => spec_maOwn.f k l) l := by
  unfold spec_maOwn.f
  exact maOwn_l0 l [] [] h hr rfl
theorem maDo_l1 (l : List (List Int)) (i c b : Nat) (x16 : List Int) (x17 x18 u0 u1 u2 u3 : Int) (hi : i < l.length) (hc : c < (rowN l i).length) (hb : b < (rowN l i).length) (y : List (List Int))
    (h : Ev (fun k => spec_maDo.l0 k (flip2 (flip2 l i c) i b) x16 x17 (wrap64 (x18 + 1)) u0 u1 u2 u3) y) :
    Ev (fun k => spec_maDo.l1 k l (i : Int) x16 x17 x18 [(c : Int), (b : Int)] 2 0 u0 u1 u2 u3) y := by
  have step : ∀ (l : List (List Int)) (j : Nat) (x28 : Int) (m : Nat), x28 = m → m < 2 → rd [(c : Int), (b : Int)] x28 = (j : Int) → i < l.length → j < (rowN l i).length → Ev (fun k => spec_maDo.l1 k (flip2 l i j) (i : Int) x16 x17 x18 [(c : Int), (b : Int)] 2 (wrap64 (x28 + 1)) u0 u1 u2 u3) y → Ev (fun k => spec_maDo.l1 k l (i : Int) x16 x17 x18 [(c : Int), (b : Int)] 2 x28 u0 u1 u2 u3) y := by
    intro l j x28 m hm hm2 hrd hi hj hy
    refine Ev.step (fun k => by rw [spec_maDo.l1]) ?_
    have q1 : x28 < 2 := by omega
    have q2 : 0 ≤ x28 := by omega
    have q3 : x28 < ([(c : Int), (b : Int)].length : Int) := by simp; omega
    have q4 : 0 ≤ (i : Int) := by omega
    have q5 : (i : Int) < (l.length : Int) := by omega
    have q6 : 0 ≤ (j : Int) := by omega
    have q7 : (j : Int) < ((rd_L1 l (i : Int)).length : Int) := by have : (rowN l i).length = (rd_L1 l (i : Int)).length := rfl; omega
    simp only [if_pos q1, if_pos q2, if_pos q3, if_pos q4, if_pos q5, hrd, if_pos q6, if_pos q7, Int.toNat_natCast]
    exact hy
  refine step l c 0 0 rfl (by omega) (by simp [rd]) hi hc ?_
  rw [show wrap64 (0 + 1) = ((1 : Nat) : Int) by unfold wrap64; omega]
  refine step (flip2 l i c) b _ 1 rfl (by omega) (by simp [rd]) (by rw [flip2_length]; exact hi) (by rw [flip2_rowlen _ _ _ _ hi]; exact hb) ?_
  rw [show wrap64 (((1 : Nat) : Int) + 1) = 2 by unfold wrap64; omega]
  refine Ev.step (fun k => by rw [spec_maDo.l1]) ?_
  simp only [if_neg (show ¬ (2 : Int) < 2 by omega)]
  exact h
/-- The switch, place by place. -/
def flips (l : List (List Int)) (r o c b : Nat) : List (List Int) := flip2 (flip2 (flip2 (flip2 l r c) r b) o c) o b
theorem flips_eq (l : List (List Int)) (r o c b m : Nat) (h1 : r < o) (h2 : o < l.length) (h3 : c < b) (h4 : b < m) (hm : ∀ i, i < l.length → (rowN l i).length = m) : flips l r o c b = mapRows (swNum r o c b) 0 l := by
  have z : ∀ (l : List (List Int)) (i j : Nat), i < l.length → ∀ i', (rowN (flip2 l i j) i').length = (rowN l i').length := fun l i j hi i' => flip2_rowlen l i j i' hi
  have e1 : ∀ i', (rowN (flip2 l r c) i').length = (rowN l i').length := z l r c (by omega)
  have e2 : ∀ i', (rowN (flip2 (flip2 l r c) r b) i').length = (rowN l i').length := fun i' => (z _ r b (by rw [flip2_length]; omega) i').trans (e1 i')
  have e3 : ∀ i', (rowN (flip2 (flip2 (flip2 l r c) r b) o c) i').length = (rowN l i').length := fun i' => (z _ o c (by simp only [flip2_length]; omega) i').trans (e2 i')
  have e4 : ∀ i', (rowN (flips l r o c b) i').length = (rowN l i').length := fun i' => (z _ o b (by simp only [flip2_length]; omega) i').trans (e3 i')
  have hr := hm r (by omega)
  have ho := hm o h2
  apply rows_ext
  · simp only [flips, flip2_length, mapRows_length]
  · intro i hi
    simp only [flips, flip2_length] at hi
    rw [e4, mapRows_row _ _ _ _ hi, mapRow_length]
  · intro i j hi hj
    simp only [flips, flip2_length] at hi
    rw [e4] at hj
    rw [mapRows_at _ _ _ _ hi hj]
    unfold flips
    rw [flip2_at _ o b i j (by simp only [flip2_length]; omega) (by rw [e3]; omega), flip2_at _ o c i j (by simp only [flip2_length]; omega) (by rw [e2]; omega), flip2_at _ o c o b (by simp only [flip2_length]; omega) (by rw [e2]; omega),
      flip2_at _ r b i j (by simp only [flip2_length]; omega) (by rw [e1]; omega), flip2_at _ r b o c (by simp only [flip2_length]; omega) (by rw [e1]; omega), flip2_at _ r b o b (by simp only [flip2_length]; omega) (by rw [e1]; omega),
      flip2_at _ r c i j (by omega) (by omega), flip2_at _ r c o c (by omega) (by omega), flip2_at _ r c o b (by omega) (by omega), flip2_at _ r c r b (by omega) (by omega)]
    unfold swNum
    have n1 : ¬ o = r := by omega
    have n2 : ¬ b = c := by omega
    simp only [n1, n2, false_and, and_false, if_false]
    have w : ∀ a b : Nat, ((a : Int) = (b : Int)) ↔ a = b := fun a b => by omega
    simp only [w]
    by_cases a1 : i = o
    · subst a1
      by_cases a3 : j = b
      · subst a3; simp
      · by_cases a4 : j = c
        · subst a4; simp [a3]
        · simp [a3, a4]
    · by_cases a2 : i = r
      · subst a2
        by_cases a3 : j = b
        · subst a3; simp [a1]
        · by_cases a4 : j = c
          · subst a4; simp [a1, a3]
          · simp [a1, a3, a4]
      · simp [a1, a2]
theorem maDo_f (l : List (List Int)) (r o c b m : Nat) (h0 : l.length ≤ 1048576) (h1 : r < o) (h2 : o < l.length) (h3 : c < b) (h4 : b < m) (hm1 : m ≤ 1048576) (hm : ∀ i, i < l.length → (rowN l i).length = m) : Ev (fun k => spec_maDo.f k l r o c b) (mapRows (swNum r o c b) 0 l) := by
  unfold spec_maDo.f
  refine Ev.bind (maOwn_f l h0 (fun x hx => ?_)) ?_
  · obtain ⟨i, hi, rfl⟩ := List.getElem_of_mem hx
    rw [← rowN_at hi, hm i hi]; exact hm1
  simp only [Option.bind_some]
  have hl : (([(r : Int), (o : Int)] : List Int).length : Int) = 2 := rfl
  have hl2 : (([(c : Int), (b : Int)] : List Int).length : Int) = 2 := rfl
  rw [hl]
  refine Ev.step (fun k => by rw [spec_maDo.l0]) ?_
  simp only [if_pos (show (0 : Int) < 2 by omega), if_pos (show (0 : Int) ≤ 0 by omega), hl, Option.bind_some, hl2, show rd [(r : Int), (o : Int)] 0 = (r : Int) by simp [rd]]
  refine maDo_l1 l r c b _ _ _ _ _ _ _ (by omega) (by rw [hm r (by omega)]; omega) (by rw [hm r (by omega)]; omega) _ ?_
  rw [show wrap64 (0 + 1) = 1 by unfold wrap64; omega]
  refine Ev.step (fun k => by rw [spec_maDo.l0]) ?_
  simp only [if_pos (show (1 : Int) < 2 by omega), if_pos (show (0 : Int) ≤ 1 by omega), hl, Option.bind_some, hl2, show rd [(r : Int), (o : Int)] 1 = (o : Int) by simp [rd]]
  have hlen : ∀ i', (rowN (flip2 (flip2 l r c) r b) i').length = (rowN l i').length := fun i' => (flip2_rowlen _ r b i' (by rw [flip2_length]; omega)).trans (flip2_rowlen l r c i' (by omega))
  refine maDo_l1 _ o c b _ _ _ _ _ _ _ (by simp only [flip2_length]; omega) (by rw [hlen, hm o h2]; omega) (by rw [hlen, hm o h2]; omega) _ ?_
  rw [show wrap64 (1 + 1) = 2 by unfold wrap64; omega]
  refine Ev.step (fun k => by rw [spec_maDo.l0]) ?_
  simp only [if_neg (show ¬ (2 : Int) < 2 by omega)]
  exact Ev.some (flips_eq l r o c b m h1 h2 h3 h4 hm)
end Go.Proofs.Ytojcnapdalpnmaa.K

namespace Go.Proofs.Ytojcnapdalpnmaa.K
open Go.RowKit Go.Proofs.YtojcnapdalpnmaaW.PrintWords Go.Proofs.Ytojcnapdalpnmaa.P
/-- Numbers of a size at which nothing wraps. -/
def Fair (l : List Int) : Prop := l.length ≤ 1048576 ∧ ∀ x ∈ l, -1048576 ≤ x ∧ x ≤ 1048576
theorem liSum_l0 : ∀ (rest done : List Int) (a : Int), (done ++ rest).length ≤ 1048576 → (∀ x ∈ rest, -1048576 ≤ x ∧ x ≤ 1048576) → -(1048576 * (done.length : Int)) ≤ a → a ≤ 1048576 * (done.length : Int) → Ev (fun k => spec_liSum.l0 k a (done ++ rest) ((done ++ rest).length : Int) (done.length : Int)) (a + rest.sum) := by
  intro rest
  induction rest with
  | nil => intro done a h _ _ _; exact Ev.step (fun k => by simp [spec_liSum.l0]; rfl) (Ev.some (by simp))
  | cons x rest ih =>
    intro done a h hx h0 h1
    have hx1 := hx x (by simp)
    obtain ⟨q1, q2, q3, q4, q5⟩ := mid x done rest (by simp only [BM]; omega)
    have hl : (done.length : Int) < 1048576 := by simp at h; omega
    have hw : wrap64 (a + x) = a + x := wrap_id (by omega) (by omega)
    have ih' := ih (done ++ [x]) (a + x) (by rw [q5]; exact h) (fun y hy => hx y (by simp [hy])) (by rw [List.length_append, List.length_singleton]; omega) (by rw [List.length_append, List.length_singleton]; omega)
    rw [q5] at ih'
    refine Ev.step (fun k => by rw [spec_liSum.l0]) ?_
    simp only [if_pos q1, if_pos q2, q3, q4, hw]
    refine Ev.pair ih' ?_
    simp only [List.sum_cons]; omega
theorem liSum_f {l : List Int} (h : Fair l) : Ev (fun k => spec_liSum.f k l) l.sum := by
  unfold spec_liSum.f
  exact Ev.pair (liSum_l0 l [] 0 h.1 h.2 (by simp) (by simp)) (by simp)
theorem total_l0 : ∀ k a xs n i, impl_total.l0 k a xs n i = spec_liSum.l0 k a xs n i := by
  intro k
  induction k with
  | zero => intros; rfl
  | succ k ih => intros; simp only [impl_total.l0, spec_liSum.l0, ih]
theorem total_f {l : List Int} (h : Fair l) : Ev (fun k => impl_total.f k l) l.sum := Ev.congr (fun k => total_l0 ..) (liSum_f h)
end Go.Proofs.Ytojcnapdalpnmaa.K

namespace Go.Proofs.Ytojcnapdalpnmaa.K
open Go.RowKit Go.Proofs.YtojcnapdalpnmaaW.PrintWords Go.Proofs.Ytojcnapdalpnmaa.P
/-- The first i places of column j; the first n columns with i places each. -/
def colI (l : List (List Int)) (j i : Nat) : List Int := (List.range i).map fun (i' : Nat) => rd (rd_L1 l (i' : Int)) (j : Int)
def colsI (l : List (List Int)) (n i : Nat) : List (List Int) := (List.range n).map fun j => colI l j i
theorem colI_succ (l : List (List Int)) (j i : Nat) : colI l j (i + 1) = colI l j i ++ [rd (rd_L1 l (i : Int)) (j : Int)] := by simp [colI, List.range_succ]
theorem colI_length (l : List (List Int)) (j i : Nat) : (colI l j i).length = i := by simp [colI]
theorem colsI_length (l : List (List Int)) (n i : Nat) : (colsI l n i).length = n := by simp [colsI]
theorem rdL_mem {l : List (List Int)} {i : Nat} (h : i < l.length) : rd_L1 l (i : Int) ∈ l := by
  unfold rd_L1
  simp [List.getD_eq_getElem?_getD, List.getElem?_eq_getElem h]
theorem turnI_f {l : List (List Int)} (hg : gridB l = true) (h4 : l.length ≤ BM) (h5 : ∀ r ∈ l, r.length ≤ BM) : Ev (fun k => impl_turn.f k l) (colsI l (rd_L1 l 0).length l.length) := by
  obtain ⟨g1, g2, g3, g4, g5⟩ := grid_get hg
  have p0 : 0 < (l.length : Int) := by omega
  unfold impl_turn.f
  have p1 : 0 ≤ ((rd_L1 l 0).length : Int) := by omega
  have p2 : (((rd_L1 l 0).length : Int) : Int).toNat ≤ 11728124029610 := by omega
  simp only [if_pos p0, if_pos p1, if_pos p2]
  generalize hn : (rd_L1 l 0).length = n at *
  have hst : List.replicate ((n : Int)).toNat ([] : List Int) = colsI l n 0 := by
    simp [colsI, colI, List.map_const']
  rw [hst]
  obtain ⟨s', rfl, h2⟩ := contLoopI (fun s i k => impl_turn.l0 k s l (l.length : Int) (i : Int)) l.length (fun s i => s = colsI l n i)
    (fun s i hi hs => by
      subst hs
      refine ⟨colsI l n (i + 1), rfl, fun x hx => Ev.step (fun k => by rw [impl_turn.l0]) ?_⟩
      have e1 : (rd_L1 l (i : Int)).length = n := (g5 _ (rdL_mem hi)).1
      have q1 : (i : Int) < (l.length : Int) := by omega
      have q2 : 0 ≤ (i : Int) := by omega
      simp only [if_pos q1, if_pos q2]
      obtain ⟨s', hs', h2⟩ := contLoopI (fun s j k => impl_turn.l1 k s l (l.length : Int) i (rd_L1 l (i : Int)) ((rd_L1 l (i : Int)).length : Int) (j : Int)) n (fun s j => s = (List.range n).map fun j' => colI l j' (if j' < j then i + 1 else i))
        (fun s j hj hs => by
          refine ⟨_, rfl, fun x hx => Ev.step (fun k => by rw [impl_turn.l1]) ?_⟩
          have hsl : s.length = n := by rw [hs]; simp
          have q1 : (j : Int) < ((rd_L1 l (i : Int)).length : Int) := by omega
          have q2 : 0 ≤ (j : Int) := by omega
          have q3 : (j : Int) < (s.length : Int) := by omega
          have hr : rd_L1 s (j : Int) = colI l j i := by
            rw [hs]; unfold rd_L1; simp [List.getD_eq_getElem?_getD, hj]
          have q4 : (rd_L1 s (j : Int)).length < 17592186044416 := by rw [hr, colI_length]; omega
          simp only [if_pos q1, if_pos q2, if_pos q3, if_pos q4, wrap_nat j (by omega)]
          have hset : s.set (j : Int).toNat (rd_L1 s (j : Int) ++ [rd (rd_L1 l (i : Int)) (j : Int)]) = (List.range n).map fun j' => colI l j' (if j' < j + 1 then i + 1 else i) := by
            rw [hr, ← colI_succ, Int.toNat_natCast]
            apply List.ext_getElem
            · simp [hsl]
            · intro m hm1 hm2
              subst hs
              simp only [List.getElem_set, List.getElem_map, List.getElem_range]
              by_cases e : j = m
              · subst e; simp
              · rw [if_neg e]
                by_cases e2 : m < j
                · rw [if_pos e2, if_pos (by omega)]
                · rw [if_neg e2, if_neg (by omega)]
          rw [hset]; exact hx) n (colsI l n i) 0 (by omega) (by simp [colsI])
      have hs2 : s' = colsI l n (i + 1) := by
        rw [hs']; unfold colsI; apply List.map_congr_left; intro j' hj'; rw [if_pos (List.mem_range.1 hj')]
      subst hs2
      refine h2 x (Ev.step (fun k => by rw [impl_turn.l1]) ?_)
      have q1 : ¬ (n : Int) < ((rd_L1 l (i : Int)).length : Int) := by omega
      simp only [if_neg q1, wrap_nat i (by omega)]
      exact hx) l.length (colsI l n 0) 0 (by omega) rfl
  refine h2 _ (Ev.step (fun k => by rw [impl_turn.l0]) ?_)
  have q1 : ¬ (l.length : Int) < (l.length : Int) := by omega
  simp only [if_neg q1]
  exact Ev.now _
end Go.Proofs.Ytojcnapdalpnmaa.K
