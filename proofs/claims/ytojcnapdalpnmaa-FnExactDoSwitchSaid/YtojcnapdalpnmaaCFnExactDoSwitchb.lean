/- The row of the law FnExactDoSwitch: contracts and plain lemmas for the law FnExactDoSwitch, part 2 of 2: what the Go functions that it reaches answer. No condition beyond those in each statement. -/
import Derived.IntWalk
import Derived.Test.YtojcnapdalpnmaaWMore
import Derived.Test.YtojcnapdalpnmaaWWords
import Derived.ProofKit
import Derived.OpenShut
import Derived.Deep.Matrix
import Derived.Lib.SmallJoins
import Derived.Test.YtojcnapdalpnmaaRows
import Derived.WalkKit
import Derived.ShutString
import Derived.ChangeOld
import Derived.Below
import Derived.SizedLaws
import Derived.Test.YtojcnapdalpnmaaWSized
import Derived.Test.YtojcnapdalpnmaaCFnExactDoSwitcha
namespace Go.Proofs.Ytojcnapdalpnmaa.P
open Go.RowKit Go.Proofs.YtojcnapdalpnmaaW.PrintWords Go.Proofs.YtojcnapdalpnmaaW.PrintLast Go.Proofs.YtojcnapdalpnmaaW.PrintMore
attribute [local go_sem] max2_int min2_int max_two min_two max_three min_three max_four min_four   -- for this text's walks alone
set_option linter.unusedVariables false
set_option linter.unusedSimpArgs false

/-! ### spec_maDo: function 81 -/
mutual
def spec_maDo.l0 : Nat → List (List Int) → List Int → Int → Int → Int → Int → Int → Int → Option ((List (List Int)))
  | 0, _, _, _, _, _, _, _, _ => none
  | k + 1, x5, x16, x17, x18, x319000, x319001, x319002, x319003 => if x18 < x17 then (if 0 ≤ x18 then (if x18 < (x16.length : Int) then ((some (([x319002, x319003] : List Int) : List Int)).bind fun y326 => (spec_maDo.l1 k x5 (rd x16 x18) x16 x17 x18 y326 (y326.length : Int) 0 x319000 x319001 x319002 x319003)) else (none)) else (none)) else (some x5)
def spec_maDo.l1 : Nat → List (List Int) → Int → List Int → Int → Int → List Int → Int → Int → Int → Int → Int → Int → Option ((List (List Int)))
  | 0, _, _, _, _, _, _, _, _, _, _, _, _ => none
  | k + 1, x5, x7, x16, x17, x18, x26, x27, x28, x319000, x319001, x319002, x319003 => if x28 < x27 then (if 0 ≤ x28 then (if x28 < (x26.length : Int) then (if 0 ≤ x7 then (if x7 < (x5.length : Int) then (if 0 ≤ (rd x26 x28) then (if (rd x26 x28) < ((rd_L1 x5 x7).length : Int) then (spec_maDo.l1 k (x5.set (x7 : Int).toNat ((rd_L1 x5 x7).set ((rd x26 x28) : Int).toNat (wrap64 (1 - (rd (rd_L1 x5 x7) (rd x26 x28)))))) x7 x16 x17 x18 x26 x27 (wrap64 (x28 + 1)) x319000 x319001 x319002 x319003) else (none)) else (none)) else (none)) else (none)) else (none)) else (none)) else (spec_maDo.l0 k x5 x16 x17 (wrap64 (x18 + 1)) x319000 x319001 x319002 x319003)
end
def spec_maDo.f (k : Nat) (l0 : List (List Int)) (a1_0 : Int) (a1_1 : Int) (a1_2 : Int) (a1_3 : Int) : Option ((List (List Int))) := (spec_maOwn.f k l0).bind fun t319 => ((some (([a1_0, a1_1] : List Int) : List Int)).bind fun y322 => (spec_maDo.l0 k t319 y322 (y322.length : Int) 0 a1_0 a1_1 a1_2 a1_3))
theorem spec_maDo.mono_l : ∀ k, (∀ y0 y1 y2 y3 y4 y5 y6 y7, LeO (spec_maDo.l0 k y0 y1 y2 y3 y4 y5 y6 y7) (spec_maDo.l0 (k + 1) y0 y1 y2 y3 y4 y5 y6 y7)) ∧ (∀ y0 y1 y2 y3 y4 y5 y6 y7 y8 y9 y10 y11, LeO (spec_maDo.l1 k y0 y1 y2 y3 y4 y5 y6 y7 y8 y9 y10 y11) (spec_maDo.l1 (k + 1) y0 y1 y2 y3 y4 y5 y6 y7 y8 y9 y10 y11))
  | 0 => ⟨fun _ _ _ _ _ _ _ _ r h => by simp [spec_maDo.l0] at h, fun _ _ _ _ _ _ _ _ _ _ _ _ r h => by simp [spec_maDo.l1] at h⟩
  | k + 1 => by
    obtain ⟨ih0, ih1⟩ := spec_maDo.mono_l k
    refine ⟨?_, ?_⟩
    · intro y0 y1 y2 y3 y4 y5 y6 y7
      unfold spec_maDo.l0
      repeat' first
      | (with_reducible exact ih0 _ _ _ _ _ _ _ _)
      | (with_reducible exact ih1 _ _ _ _ _ _ _ _ _ _ _ _)
      | (with_reducible exact spec_maOwn.mono _ _)
      | (with_reducible exact LeO.refl _)
      | (with_reducible exact LeO.none _)
      | (with_reducible refine LeO.ite ?_ ?_)
      | (with_reducible refine LeO.bind ?_ (fun _ => ?_))
      | exact ih0 _ _ _ _ _ _ _ _
      | exact ih1 _ _ _ _ _ _ _ _ _ _ _ _
      | exact spec_maOwn.mono _ _
      | exact LeO.none _
      | refine LeO.ite ?_ ?_
      | refine LeO.bind ?_ (fun _ => ?_)
    · intro y0 y1 y2 y3 y4 y5 y6 y7 y8 y9 y10 y11
      unfold spec_maDo.l1
      repeat' first
      | (with_reducible exact ih0 _ _ _ _ _ _ _ _)
      | (with_reducible exact ih1 _ _ _ _ _ _ _ _ _ _ _ _)
      | (with_reducible exact spec_maOwn.mono _ _)
      | (with_reducible exact LeO.refl _)
      | (with_reducible exact LeO.none _)
      | (with_reducible refine LeO.ite ?_ ?_)
      | (with_reducible refine LeO.bind ?_ (fun _ => ?_))
      | exact ih0 _ _ _ _ _ _ _ _
      | exact ih1 _ _ _ _ _ _ _ _ _ _ _ _
      | exact spec_maOwn.mono _ _
      | exact LeO.none _
      | refine LeO.ite ?_ ?_
      | refine LeO.bind ?_ (fun _ => ?_)
theorem spec_maDo.mono : ∀ a0 a1 a2 a3 a4 k, LeO (spec_maDo.f k a0 a1 a2 a3 a4) (spec_maDo.f (k + 1) a0 a1 a2 a3 a4) := by
  intro a0 a1 a2 a3 a4 k
  obtain ⟨ih0, ih1⟩ := spec_maDo.mono_l k
  unfold spec_maDo.f
  repeat' first
      | (with_reducible exact ih0 _ _ _ _ _ _ _ _)
      | (with_reducible exact ih1 _ _ _ _ _ _ _ _ _ _ _ _)
      | (with_reducible exact spec_maOwn.mono _ _)
      | (with_reducible exact LeO.refl _)
      | (with_reducible exact LeO.none _)
      | (with_reducible refine LeO.ite ?_ ?_)
      | (with_reducible refine LeO.bind ?_ (fun _ => ?_))
      | exact ih0 _ _ _ _ _ _ _ _
      | exact ih1 _ _ _ _ _ _ _ _ _ _ _ _
      | exact spec_maOwn.mono _ _
      | exact LeO.none _
      | refine LeO.ite ?_ ?_
      | refine LeO.bind ?_ (fun _ => ?_)
def spec_maDo.T8 : Bool × List (List Nat × List Nat) := (true, [([], []), ([], []), ([0, 1], [0, 1]), ([2], [2]), ([], []), ([], []), ([], []), ([5, 6], [5, 6]), ([7], [7]), ([], []), ([8, 9], [8, 9]), ([10], [10]), ([11], [11]), ([3, 4, 0, 1, 2, 3, 4, 5, 6, 7, 8, 9, 10, 11, 12], [3, 4]), ([13, 12, 0, 1, 2, 3, 4, 5, 6, 7, 8, 9, 10, 11, 12], [12, 13])])
def spec_maDo.B8 : List Nat := [0, 0, 3, 7, 0, 0, 0, 96, 224, 0, 992, 2016, 4064, 8191, 16383]
theorem spec_maDo.tab8 : rtab .any (opsOf Try.f81 8) = spec_maDo.T8 := by kernel_rfl
theorem spec_maDo.bits8 : waitsOk spec_maDo.T8.2 spec_maDo.B8 = true := by kernel_rfl
set_option maxHeartbeats 8000000 in
set_option maxRecDepth 100000 in
theorem spec_maDo.calls (k : Nat) (A0 : Option Addr) (c0 : Nat) (l0 : List (List Int)) (a1_0 : Int) (a1_1 : Int) (a1_2 : Int) (a1_3 : Int) (r : List (List Int)) (w : World) (hr0 : Kd.C (Kd.slice 3 (Kd.int .i64)) w A0 l0.length l0) (hc0 : l0.length ≤ c0) (h : spec_maDo.f k l0 a1_0 a1_1 a1_2 a1_3 = some r) :
    Calls Try.prog 81 #[.slice A0 l0.length c0, .agg #[.int .i64 a1_0, .int .i64 a1_1, .int .i64 a1_2, .int .i64 a1_3]] w fun e w' => ∃ v0_ : Value, e = .returned (v0_) ∧ Kd.S (Kd.slice 3 (Kd.int .i64)) 33 w' w.heap.size (fun _ => True) v0_ r ∧ Below w.heap.size w w' := by
  have hu41 := Try.underlying41
  have HR0 := Aside0.mk hr0
  have HC0 := Aside0.mk hc0
  clear hr0 hc0
  have HB := Aside0.mk (Below.refl w.heap.size w)
  have H : ((spec_maOwn.f k l0).bind fun t319 => ((some (([a1_0, a1_1] : List Int) : List Int)).bind fun y322 => (spec_maDo.l0 k t319 y322 (y322.length : Int) 0 a1_0 a1_1 a1_2 a1_3))) = some r := h
  clear h
  replace H := Option.bind_eq_some_iff.mp H
  obtain ⟨t319, A30, H⟩ := H
  replace H : ((some (([a1_0, a1_1] : List Int) : List Int)).bind fun y322 => (spec_maDo.l0 k t319 y322 (y322.length : Int) 0 a1_0 a1_1 a1_2 a1_3)) = some r := H
  have A3 := Aside0.mk A30
  clear A30
  obtain ⟨y322, hy322⟩ : ∃ y_ : List Int, y_ = (([a1_0, a1_1] : List Int)) := ⟨_, rfl⟩
  replace H : (spec_maDo.l0 k t319 y322 (y322.length : Int) 0 a1_0 a1_1 a1_2 a1_3) = some r := by first | (rw [hy322]; with_reducible exact H) | (have H2_ := (Option.bind_some _ _).symm.trans H; rw [hy322]; with_reducible exact H2_) | (have H2_ := (Option.bind_some _ _).symm.trans H; with_reducible exact H2_) | with_reducible exact H | (rw [hy322]; exact H) | exact H
  have Ny322 := Aside0.mk hy322
  clear hy322
  have H' := Aside0.mk H
  clear H
  go_enter Try.func81, Try.ntmps81
  go_wp2_with (first | ((with_reducible refine gate_dst (N := 3) rfl ?_); refine box_event ?hg (N := 3) ?hd (cs := #[.int .i64 a1_0, .int .i64 a1_1, .int .i64 a1_2, .int .i64 a1_3]) (t := 41) ?hr ?_; (case hd => rfl); (case hg => rfl); (case hr => first | (go_simp; done) | (go_simp; rfl)); intro gb318 hg w4 hbox hb; have n0_ := Aside0.mk (below_step (by repeat (first | (with_reducible first | exact HB.out | apply below_alloc | apply pw_below_drewN | apply below_drew1) | exact HB.out)) hb); have n1_ := Aside0.mk (hbox); have n2_ := Aside0.mk ((by rw [hg]; exact (below_size (by repeat (first | (with_reducible first | exact HB.out | apply below_alloc | apply pw_below_drewN | apply below_drew1) | exact HB.out))) : w.heap.size ≤ gb318)); have n3_ := Aside0.mk ((by rw [hg]; exact (below_size (by repeat (first | (with_reducible first | exact HB.out | apply below_alloc | apply pw_below_drewN | apply below_drew1) | exact HB.out))) : w.heap.size ≤ gb318)); clear HB; have HB := n0_; have BK318 := n1_; have GW318 := n2_; have GE318 := n3_; clear n0_ n1_ n2_ n3_; clear hb hbox hg) | ((with_reducible refine gate_callee (f := 100) rfl ?_); refine goesL_ (some 11) rfl rfl Try.func100 (by kernel_rfl) rfl #[.slice A0 l0.length c0] rfl (by (try simp only [List.map_toArray, List.map_cons, List.map_nil]); first | done | rfl | (simp only [List.length_drop, List.length_take]; rfl)) ?_; (with_reducible refine (spec_maOwn.calls k _ _ l0 t319 _ ?side1 ?side2 A3.out).mono ?_); (case side1 => repeat (first | exact (Kd.C_below HR0.out HB.out) | (with_reducible refine Kd.C_alloc ?_ _) | (with_reducible refine Kd.C_drewN ?_ _) | (with_reducible refine Kd.C_drew ?_))); (case side2 => exact HC0.out); rintro e w5 ⟨v320, rfl, ho0, hb⟩; refine ⟨_, rfl, ?_⟩; have n0_ := Aside0.mk (Kd.S_lower ho0 (below_size (by repeat (first | (with_reducible first | exact HB.out | apply below_alloc | apply pw_below_drewN | apply below_drew1 | refine below_set ?_ GE318.out) | exact HB.out)))); have n1_ := Aside0.mk (blk_below (g := gb318) (o := .cells #[.int .i64 a1_0, .int .i64 a1_1, .int .i64 a1_2, .int .i64 a1_3] 41 (0, 0)) (by (with_reducible repeat (first | refine blk_drewN ?_ _ | refine blk_drew ?_ | refine blk_alloc ?_ _)); exact BK318.out) hb); have n2_ := Aside0.mk (below_step (by repeat (first | (with_reducible first | exact HB.out | apply below_alloc | apply pw_below_drewN | apply below_drew1 | refine below_set ?_ GE318.out) | exact HB.out)) hb); clear BK318; clear HB; have HO321 := n0_; have BK318 := n1_; have HB := n2_; clear n0_ n1_ n2_; (try clear hb); (try clear hb2); (try clear hk); (try clear hi); (try clear ho0); have hcz6_0 : w5.cell? ⟨gb318, 0, none⟩ = some (.int .i64 a1_0) := (blk_cell BK318.out 0).trans rfl; have hcz6_1 : w5.cell? ⟨gb318, 1, none⟩ = some (.int .i64 a1_1) := (blk_cell BK318.out 1).trans rfl; have hcz6_2 : w5.cell? ⟨gb318, 2, none⟩ = some (.int .i64 a1_2) := (blk_cell BK318.out 2).trans rfl; have hcz6_3 : w5.cell? ⟨gb318, 3, none⟩ = some (.int .i64 a1_3) := (blk_cell BK318.out 3).trans rfl; have hfz6_0 := blk_frozen BK318.out 0; have hfz6_1 := blk_frozen BK318.out 1; have hfz6_2 := blk_frozen BK318.out 2; have hfz6_3 := blk_frozen BK318.out 3) | ((with_reducible refine gate_dst (N := 16) rfl ?_); refine Kd.R_lit (Kd.int .i64) _ 3 ?hg (N := 16) ?hd (xs := ([a1_0, a1_1] : List Int)) (inner := [.int .i64 a1_0, .int .i64 a1_1]) (ok := fun _ => True) (okp := fun _ => True) ?hr ?hp (fun _ hk => hk) trivial (Below.refl _ _) (Nat.le_refl _) (by simp) ?_; (case hd => rfl); (case hg => rfl); (case hr => first | (go_simp; done) | (go_simp; rfl)); (case hp => exact (Reps.one (show Kd.M (Kd.int .i64) _ _ _ a1_0 [.int .i64 a1_0] from rfl) (Reps.one (show Kd.M (Kd.int .i64) _ _ _ a1_1 [.int .i64 a1_1] from rfl) (Reps.none _ _)))); intro v323 w7 ho8 hb hg_ hnew_; clear hg_ hnew_; (first | rw [← Ny322.out] at ho8 | (simp only [Int.reduceToNat] at ho8; rw [← Ny322.out] at ho8)); have n0_ := Aside0.mk (Kd.S_elder' (by (with_reducible repeat (first | apply Kd.S_alloc | apply Kd.S_drewN | apply Kd.S_drew)); exact HO321.out) (Kd.R_base ho8) hb); have n1_ := Aside0.mk (Kd.R_lower ho8 (below_size (by repeat (first | (with_reducible first | exact HB.out | apply below_alloc | apply pw_below_drewN | apply below_drew1 | refine below_set ?_ GE318.out) | exact HB.out)))); have n2_ := Aside0.mk (blk_below (g := gb318) (o := .cells #[.int .i64 a1_0, .int .i64 a1_1, .int .i64 a1_2, .int .i64 a1_3] 41 (0, 0)) (by (with_reducible repeat (first | refine blk_drewN ?_ _ | refine blk_drew ?_ | refine blk_alloc ?_ _)); exact BK318.out) hb); have n3_ := Aside0.mk (below_step (by repeat (first | (with_reducible first | exact HB.out | apply below_alloc | apply pw_below_drewN | apply below_drew1 | refine below_set ?_ GE318.out) | exact HB.out)) hb); clear HO321; clear BK318; clear HB; have HO321 := n0_; have HO324 := n1_; have BK318 := n2_; have HB := n3_; clear n0_ n1_ n2_ n3_; clear hb ho8; obtain ⟨Ao9, co9, eo9⟩ := Kd.R_slice HO324.out; subst eo9))
  go_loopg [18] k (fun kq v18 w' => ∃ (x5_1 : List (List Int)) (x16_1 : List Int) (x18_1 : Int), v18 = .int .i64 x18_1 ∧ Aside0 (spec_maDo.l0 kq x5_1 x16_1 (y322.length : Int) x18_1 a1_0 a1_1 a1_2 a1_3 = some r) ∧ Aside0 (kq ≤ k) ∧ Aside0 (Kd.S (Kd.slice 3 (Kd.int .i64)) 33 w' w.heap.size (fun k_ => some k_ ≠ ((.slice Ao9 y322.length co9) : Value).ownBlock) v320 x5_1) ∧ Aside0 (Kd.R (Kd.int .i64) 3 w' w.heap.size (fun _ => True) (.slice Ao9 y322.length co9) x16_1) ∧ Aside0 (w'.heap[gb318]? = some (.cells #[.int .i64 a1_0, .int .i64 a1_1, .int .i64 a1_2, .int .i64 a1_3] 41 (0, 0))) ∧ Aside0 (Below w.heap.size w w'))
  case atStart => exact ⟨(t319), (y322), (0), (by first | rfl | (simp; done) | (simp [*]; done)), H', ⟨Nat.le_refl _⟩, ⟨by (with_reducible repeat (first | apply Kd.S_alloc | apply Kd.S_drewN | apply Kd.S_drew)); exact Kd.S_mono HO321.out (fun _ hk => hk.2)⟩, ⟨by (with_reducible repeat (first | apply Kd.R_alloc | apply Kd.R_drewN | apply Kd.R_drew)); exact HO324.out⟩, ⟨by (with_reducible repeat (first | refine blk_drewN ?_ _ | refine blk_drew ?_ | refine blk_alloc ?_ _)); exact BK318.out⟩, ⟨by repeat (first | (with_reducible first | exact HB.out | apply below_alloc | apply pw_below_drewN | apply below_drew1 | refine below_set ?_ GE318.out) | exact HB.out)⟩⟩
  case round =>
    clear H'
    try clear c1
    try clear p2
    try clear c8
    try clear hcz6_0
    try clear hcz6_1
    try clear hcz6_2
    try clear hcz6_3
    try clear hfz6_0
    try clear hfz6_1
    try clear hfz6_2
    try clear hfz6_3
    obtain ⟨x5_1, x16_1, x18_1, rfl, HA, HK1, HO_5, HO_16, BK318, HB⟩ := hrel
    have hl16_1 := (Kd.R_reads' HO_16.out).1
    rw [hl16_1] at HO_16
    (try simp only [hl16_1])
    (try simp only [hl16_1] at BK318)
    (try simp only [hl16_1] at HO_5)
    cases gk with
    | zero => exact absurd HA.out (by simp [spec_maDo.l0])
    | succ k1 =>
      have H := HA.out
      clear HA
      simp only [spec_maDo.l0] at H
      by_cases c10 : x18_1 < (y322.length : Int)
      · rw [if_pos c10] at H
        have c10b0 : decide (x18_1 < (y322.length : Int)) = true := decide_eq_true c10
        clear c10
        by_cases c11 : 0 ≤ x18_1
        · rw [if_pos c11] at H
          have c11b0 : decide (0 ≤ x18_1) = true := decide_eq_true c11
          clear c11
          by_cases c12 : x18_1 < (x16_1.length : Int)
          · rw [if_pos c12] at H
            have c12b0 : decide (x18_1 < (x16_1.length : Int)) = true := decide_eq_true c12
            clear c12
            obtain ⟨y326, hy326⟩ : ∃ y_ : List Int, y_ = (([a1_2, a1_3] : List Int)) := ⟨_, rfl⟩
            replace H : (spec_maDo.l1 k1 x5_1 (rd x16_1 x18_1) x16_1 (y322.length : Int) x18_1 y326 (y326.length : Int) 0 a1_0 a1_1 a1_2 a1_3) = some r := by first | (rw [hy326]; with_reducible exact H) | (have H2_ := (Option.bind_some _ _).symm.trans H; rw [hy326]; with_reducible exact H2_) | (have H2_ := (Option.bind_some _ _).symm.trans H; with_reducible exact H2_) | with_reducible exact H | (rw [hy326]; exact H) | exact H
            have Ny326 := Aside0.mk hy326
            clear hy326
            have H' := Aside0.mk H
            clear H
            have p325 : 0 ≤ (x18_1 : Int) := of_decide_eq_true (by first | (with_reducible assumption) | assumption)
            have q325 : x18_1 < (x16_1.length : Int) := of_decide_eq_true (by first | (with_reducible assumption) | assumption)
            obtain ⟨ad325, e325, hx325_0⟩ := Kd.at_int (Kd.R_reads' HO_16.out).2.2 x18_1 p325 q325
            cases e325
            replace p325 := eq_true p325
            replace q325 := eq_true q325
            have hcz13_0 : wr.cell? ⟨gb318, 0, none⟩ = some (.int .i64 a1_0) := (blk_cell BK318.out 0).trans rfl
            have hcz13_1 : wr.cell? ⟨gb318, 1, none⟩ = some (.int .i64 a1_1) := (blk_cell BK318.out 1).trans rfl
            have hcz13_2 : wr.cell? ⟨gb318, 2, none⟩ = some (.int .i64 a1_2) := (blk_cell BK318.out 2).trans rfl
            have hcz13_3 : wr.cell? ⟨gb318, 3, none⟩ = some (.int .i64 a1_3) := (blk_cell BK318.out 3).trans rfl
            have hfz13_0 := blk_frozen BK318.out 0
            have hfz13_1 := blk_frozen BK318.out 1
            have hfz13_2 := blk_frozen BK318.out 2
            have hfz13_3 := blk_frozen BK318.out 3
            go_wp2_with (first | ((with_reducible refine gate_dst (N := 26) rfl ?_); refine Kd.R_lit (Kd.int .i64) _ 3 ?hg (N := 26) ?hd (xs := ([a1_2, a1_3] : List Int)) (inner := [.int .i64 a1_2, .int .i64 a1_3]) (ok := fun _ => True) (okp := fun _ => True) ?hr ?hp (fun _ hk => hk) trivial (Below.refl _ _) (Nat.le_refl _) (by simp) ?_; (case hd => rfl); (case hg => rfl); (case hr => first | (go_simp; done) | (go_simp; rfl)); (case hp => exact (Reps.one (show Kd.M (Kd.int .i64) _ _ _ a1_2 [.int .i64 a1_2] from rfl) (Reps.one (show Kd.M (Kd.int .i64) _ _ _ a1_3 [.int .i64 a1_3] from rfl) (Reps.none _ _)))); intro v327 w14 ho15 hb hg_ hnew_; clear hg_ hnew_; (first | rw [← Ny326.out] at ho15 | (simp only [Int.reduceToNat] at ho15; rw [← Ny326.out] at ho15)); have n0_ := Aside0.mk (Kd.S_elder' (by (with_reducible repeat (first | apply Kd.S_alloc | apply Kd.S_drewN | apply Kd.S_drew)); exact HO_5.out) (Kd.R_base ho15) hb); have n1_ := Aside0.mk (Kd.R_elder' (by (with_reducible repeat (first | apply Kd.R_alloc | apply Kd.R_drewN | apply Kd.R_drew)); exact HO_16.out) (Kd.R_base ho15) hb); have n2_ := Aside0.mk (Kd.R_lower (Kd.R_new' ho15 (Kd.R_lt (by (with_reducible repeat (first | apply Kd.R_alloc | apply Kd.R_drewN | apply Kd.R_drew)); exact HO_16.out))) (below_size (by repeat (first | (with_reducible first | exact HB.out | apply below_alloc | apply pw_below_drewN | apply below_drew1 | refine below_set ?_ GE318.out) | exact HB.out)))); have n3_ := Aside0.mk (blk_below (g := gb318) (o := .cells #[.int .i64 a1_0, .int .i64 a1_1, .int .i64 a1_2, .int .i64 a1_3] 41 (0, 0)) (by (with_reducible repeat (first | refine blk_drewN ?_ _ | refine blk_drew ?_ | refine blk_alloc ?_ _)); exact BK318.out) hb); have n4_ := Aside0.mk (below_step (by repeat (first | (with_reducible first | exact HB.out | apply below_alloc | apply pw_below_drewN | apply below_drew1 | refine below_set ?_ GE318.out) | exact HB.out)) hb); clear HO_5; clear HO_16; clear BK318; clear HB; have HO_5 := n0_; have HO_16 := n1_; have HO328 := n2_; have BK318 := n3_; have HB := n4_; clear n0_ n1_ n2_ n3_ n4_; clear hb ho15; obtain ⟨Ao16, co16, eo16⟩ := Kd.R_slice HO328.out; subst eo16))
            go_loopg [28] k1 (fun kq v28 w' => ∃ (x5_2 : List (List Int)) (x16_2 : List Int) (x26_2 : List Int) (x28_2 : Int), v28 = .int .i64 x28_2 ∧ Aside0 (spec_maDo.l1 kq x5_2 (rd x16_1 x18_1) x16_2 (y322.length : Int) x18_1 x26_2 (y326.length : Int) x28_2 a1_0 a1_1 a1_2 a1_3 = some r) ∧ Aside0 (kq ≤ k1) ∧ Aside0 (Kd.S (Kd.slice 3 (Kd.int .i64)) 33 w' w.heap.size (fun k_ => some k_ ≠ ((.slice (some ad325) x16_1.length co9) : Value).ownBlock ∧ some k_ ≠ ((.slice Ao16 y326.length co16) : Value).ownBlock) v320 x5_2) ∧ Aside0 (Kd.R (Kd.int .i64) 3 w' w.heap.size (fun k_ => some k_ ≠ ((.slice Ao16 y326.length co16) : Value).ownBlock) (.slice (some ad325) x16_1.length co9) x16_2) ∧ Aside0 (Kd.R (Kd.int .i64) 3 w' w.heap.size (fun k_ => some k_ ≠ ((.slice (some ad325) x16_1.length co9) : Value).ownBlock) (.slice Ao16 y326.length co16) x26_2) ∧ Aside0 (w'.heap[gb318]? = some (.cells #[.int .i64 a1_0, .int .i64 a1_1, .int .i64 a1_2, .int .i64 a1_3] 41 (0, 0))) ∧ Aside0 (Below w.heap.size w w'))
            case atStart => exact ⟨(x5_1), (x16_1), (y326), (0), (by first | rfl | (simp; done) | (simp [*]; done)), H', ⟨Nat.le_refl _⟩, ⟨by (try simp only [hl16_1]); (with_reducible repeat (first | apply Kd.S_alloc | apply Kd.S_drewN | apply Kd.S_drew)); exact HO_5.out⟩, ⟨by (try simp only [hl16_1]); (with_reducible repeat (first | apply Kd.R_alloc | apply Kd.R_drewN | apply Kd.R_drew)); exact Kd.R_mono HO_16.out (fun _ hk => hk.2)⟩, ⟨by (try simp only [hl16_1]); (with_reducible repeat (first | apply Kd.R_alloc | apply Kd.R_drewN | apply Kd.R_drew)); exact Kd.R_mono HO328.out (fun _ hk => hk.2)⟩, ⟨by (try simp only [hl16_1]); (with_reducible repeat (first | refine blk_drewN ?_ _ | refine blk_drew ?_ | refine blk_alloc ?_ _)); exact BK318.out⟩, ⟨by repeat (first | (with_reducible first | exact HB.out | apply below_alloc | apply pw_below_drewN | apply below_drew1 | refine below_set ?_ GE318.out) | exact HB.out)⟩⟩
            case round =>
              clear H'
              try clear c1
              try clear p2
              try clear p3
              try clear q3
              try clear hx3
              try clear c8
              try clear c10
              try clear c10b0
              try clear c11
              try clear c11b0
              try clear c12
              try clear c12b0
              try clear hcz13_0
              try clear hcz13_1
              try clear hcz13_2
              try clear hcz13_3
              try clear hcz6_0
              try clear hcz6_1
              try clear hcz6_2
              try clear hcz6_3
              try clear hfz13_0
              try clear hfz13_1
              try clear hfz13_2
              try clear hfz13_3
              try clear hfz6_0
              try clear hfz6_1
              try clear hfz6_2
              try clear hfz6_3
              try clear hx325_0
              try clear p2
              try clear p325
              try clear q325
              obtain ⟨x5_2, x16_2, x26_2, x28_2, rfl, HA, HK2, HO_5, HO_16, HO_26, BK318, HB⟩ := hrel
              have hl16_2 := (Kd.R_reads' HO_16.out).1
              rw [hl16_2] at HO_16
              (try simp only [hl16_2])
              (try simp only [hl16_2] at BK318)
              (try simp only [hl16_2] at HO_5)
              (try simp only [hl16_2] at HO_26)
              have hl26_2 := (Kd.R_reads' HO_26.out).1
              rw [hl26_2] at HO_26
              (try simp only [hl26_2])
              (try simp only [hl26_2] at BK318)
              (try simp only [hl26_2] at HO_5)
              (try simp only [hl26_2] at HO_16)
              cases gk with
              | zero => exact absurd HA.out (by simp [spec_maDo.l1])
              | succ k2 =>
                have H := HA.out
                clear HA
                simp only [spec_maDo.l1] at H
                by_cases c17 : x28_2 < (y326.length : Int)
                · rw [if_pos c17] at H
                  have c17b0 : decide (x28_2 < (y326.length : Int)) = true := decide_eq_true c17
                  clear c17
                  by_cases c18 : 0 ≤ x28_2
                  · rw [if_pos c18] at H
                    have c18b0 : decide (0 ≤ x28_2) = true := decide_eq_true c18
                    clear c18
                    by_cases c19 : x28_2 < (x26_2.length : Int)
                    · rw [if_pos c19] at H
                      have c19b0 : decide (x28_2 < (x26_2.length : Int)) = true := decide_eq_true c19
                      clear c19
                      by_cases c20 : 0 ≤ (rd x16_1 x18_1)
                      · rw [if_pos c20] at H
                        have c20b0 : decide (0 ≤ (rd x16_1 x18_1)) = true := decide_eq_true c20
                        clear c20
                        by_cases c21 : (rd x16_1 x18_1) < (x5_2.length : Int)
                        · rw [if_pos c21] at H
                          have c21b0 : decide ((rd x16_1 x18_1) < (x5_2.length : Int)) = true := decide_eq_true c21
                          clear c21
                          by_cases c22 : 0 ≤ (rd x26_2 x28_2)
                          · rw [if_pos c22] at H
                            have c22b0 : decide (0 ≤ (rd x26_2 x28_2)) = true := decide_eq_true c22
                            clear c22
                            by_cases c23 : (rd x26_2 x28_2) < ((rd_L1 x5_2 (rd x16_1 x18_1)).length : Int)
                            · rw [if_pos c23] at H
                              have c23b0 : decide ((rd x26_2 x28_2) < ((rd_L1 x5_2 (rd x16_1 x18_1)).length : Int)) = true := decide_eq_true c23
                              clear c23
                              obtain ⟨y333, hy333⟩ : ∃ y_ : List Int, y_ = ((rd_L1 x5_2 (rd x16_1 x18_1)).set ((rd x26_2 x28_2) : Int).toNat (wrap64 (1 - (rd (rd_L1 x5_2 (rd x16_1 x18_1)) (rd x26_2 x28_2))))) := ⟨_, rfl⟩
                              replace H : (spec_maDo.l1 k2 (x5_2.set ((rd x16_1 x18_1) : Int).toNat y333) (rd x16_1 x18_1) x16_2 (y322.length : Int) x18_1 x26_2 (y326.length : Int) (wrap64 (x28_2 + 1)) a1_0 a1_1 a1_2 a1_3) = some r := by first | (rw [hy333]; with_reducible exact H) | (have H2_ := (Option.bind_some _ _).symm.trans H; rw [hy333]; with_reducible exact H2_) | (have H2_ := (Option.bind_some _ _).symm.trans H; with_reducible exact H2_) | with_reducible exact H | (rw [hy333]; exact H) | exact H
                              have Ny333 := Aside0.mk hy333
                              clear hy333
                              obtain ⟨y335, hy335⟩ : ∃ y_ : List (List Int), y_ = (x5_2.set ((rd x16_1 x18_1) : Int).toNat y333) := ⟨_, rfl⟩
                              replace H : (spec_maDo.l1 k2 y335 (rd x16_1 x18_1) x16_2 (y322.length : Int) x18_1 x26_2 (y326.length : Int) (wrap64 (x28_2 + 1)) a1_0 a1_1 a1_2 a1_3) = some r := by first | (rw [hy335]; with_reducible exact H) | (have H2_ := (Option.bind_some _ _).symm.trans H; rw [hy335]; with_reducible exact H2_) | (have H2_ := (Option.bind_some _ _).symm.trans H; with_reducible exact H2_) | with_reducible exact H | (rw [hy335]; exact H) | exact H
                              have Ny335 := Aside0.mk hy335
                              clear hy335
                              have H' := Aside0.mk H
                              clear H
                              have p329 : 0 ≤ (x28_2 : Int) := of_decide_eq_true (by first | (with_reducible assumption) | assumption)
                              have q329 : x28_2 < (x26_2.length : Int) := of_decide_eq_true (by first | (with_reducible assumption) | assumption)
                              obtain ⟨ad329, e329, hx329_0⟩ := Kd.at_int (Kd.R_reads' HO_26.out).2.2 x28_2 p329 q329
                              cases e329
                              replace p329 := eq_true p329
                              replace q329 := eq_true q329
                              try go_wp2
                              have n0_ := Aside0.mk (Kd.S_drew HO_5.out)
                              have n1_ := Aside0.mk (Kd.R_drew HO_16.out)
                              have n2_ := Aside0.mk (Kd.R_drew HO_26.out)
                              have n3_ := Aside0.mk (blk_drew BK318.out)
                              have n4_ := Aside0.mk (below_drew1 HB.out)
                              clear HO_5
                              clear HO_16
                              clear HO_26
                              clear BK318
                              clear HB
                              have HO_5 := n0_
                              have HO_16 := n1_
                              have HO_26 := n2_
                              have BK318 := n3_
                              have HB := n4_
                              clear n0_ n1_ n2_ n3_ n4_
                              obtain ⟨Ao26, co26, eo26⟩ := Kd.S_slice HO_5.out
                              (first | subst eo26 | (injection eo26 with f1_ f2_ f3_; have f4_ := f1_.symm; have f5_ := f3_.symm; clear f1_ f2_ f3_; subst f4_; subst f5_))
                              have p330 : 0 ≤ ((rd x16_1 x18_1) : Int) := of_decide_eq_true (by first | (with_reducible assumption) | assumption)
                              have q330 : (rd x16_1 x18_1) < (x5_2.length : Int) := of_decide_eq_true (by first | (with_reducible assumption) | assumption)
                              obtain ⟨ad330, A330_0, c330_0, e330, hx330_0, hl330_0, hi330_0⟩ := at_L1 (Kd.S_reads' HO_5.out).2.2 (rd x16_1 x18_1) p330 q330
                              cases e330
                              obtain ⟨ce330, hce330, hMe330, hcc330⟩ := Kd.S_get HO_5.out [] (rd x16_1 x18_1) p330 (by first | exact q330 | exact of_decide_eq_true (by first | (with_reducible assumption) | assumption) | (have e_ := (Kd.S_reads' HO_5.out).1; omega))
                              obtain ⟨ve330_0, rfl, ge330_0⟩ := hMe330
                              have hv330_0 := hcc330 0 _ rfl
                              rw [Nat.add_zero, show ((Kd.slice 3 (Kd.int .i64))).sz = 1 from rfl, Nat.mul_one] at hv330_0
                              replace hv330_0 := Option.some.inj (hv330_0.symm.trans hx330_0)
                              rw [hv330_0] at ge330_0
                              have HL330_0 := Aside0.mk (show Kd.R (Kd.int .i64) 3 _ _ _ _ (rd_L1 x5_2 (rd x16_1 x18_1)) from ge330_0)
                              clear hv330_0 ge330_0
                              have HX330_0 := Aside0.mk hx330_0
                              clear hcc330 hce330
                              have HR330_0 := Aside0.mk hi330_0
                              have HC330_0 := Aside0.mk hl330_0
                              clear hi330_0 hl330_0
                              replace p330 := eq_true p330
                              replace q330 := eq_true q330
                              have p331 : 0 ≤ ((rd x16_1 x18_1) : Int) := of_decide_eq_true (by first | (with_reducible assumption) | assumption)
                              have q331 : (rd x16_1 x18_1) < (x5_2.length : Int) := of_decide_eq_true (by first | (with_reducible assumption) | assumption)
                              obtain ⟨ad331, A331_0, c331_0, e331, hx331_0, hl331_0, hi331_0⟩ := at_L1 (Kd.S_reads' HO_5.out).2.2 (rd x16_1 x18_1) p331 q331
                              obtain rfl : ad330 = ad331 := (by injection e331)
                              obtain ⟨ce331, hce331, hMe331, hcc331⟩ := Kd.S_get HO_5.out [] (rd x16_1 x18_1) p331 (by first | exact q331 | exact of_decide_eq_true (by first | (with_reducible assumption) | assumption) | (have e_ := (Kd.S_reads' HO_5.out).1; omega))
                              obtain ⟨ve331_0, rfl, ge331_0⟩ := hMe331
                              have hv331_0 := hcc331 0 _ rfl
                              rw [Nat.add_zero, show ((Kd.slice 3 (Kd.int .i64))).sz = 1 from rfl, Nat.mul_one] at hv331_0
                              replace hv331_0 := Option.some.inj (hv331_0.symm.trans hx331_0)
                              rw [hv331_0] at ge331_0
                              have HL331_0 := Aside0.mk (show Kd.R (Kd.int .i64) 3 _ _ _ _ (rd_L1 x5_2 (rd x16_1 x18_1)) from ge331_0)
                              clear hv331_0 ge331_0
                              have HX331_0 := Aside0.mk hx331_0
                              clear hcc331 hce331
                              have HR331_0 := Aside0.mk hi331_0
                              have HC331_0 := Aside0.mk hl331_0
                              clear hi331_0 hl331_0
                              replace p331 := eq_true p331
                              replace q331 := eq_true q331
                              have ea_ := Option.some.inj (hx330_0.symm.trans hx331_0)
                              injection ea_ with ea_ en_ ec_
                              subst ea_
                              subst ec_
                              clear en_
                              have p332 : 0 ≤ ((rd x26_2 x28_2) : Int) := of_decide_eq_true (by first | (with_reducible assumption) | assumption)
                              have q332 : (rd x26_2 x28_2) < ((rd_L1 x5_2 (rd x16_1 x18_1)).length : Int) := of_decide_eq_true (by first | (with_reducible assumption) | assumption)
                              obtain ⟨ad332, e332, hx332_0⟩ := Kd.at_int (by repeat (first | (with_reducible exact HR331_0.out) | (with_reducible refine Kd.C_alloc ?_ _) | (with_reducible refine Kd.C_drewN ?_ _) | (with_reducible refine Kd.C_drew ?_) | exact HR331_0.out)) (rd x26_2 x28_2) p332 q332
                              cases e332
                              replace p332 := eq_true p332
                              replace q332 := eq_true q332
                              have p24 : 0 ≤ ((rd x26_2 x28_2) : Int) := of_decide_eq_true (by first | (with_reducible assumption) | assumption)
                              have q24 : ((rd x26_2 x28_2) : Int) < (((rd_L1 x5_2 (rd x16_1 x18_1)).length : Int) : Int) := of_decide_eq_true (by first | (with_reducible assumption) | assumption)
                              obtain ⟨go24, co24, eo24, gb24, gl24, cl24, HG24⟩ := Kd.R_form HL330_0.out (by omega)
                              (first | cases eo24 | (injection eo24 with ea_ en_ ec_; (first | subst ea_ | (injection ea_ with ea_; subst ea_)); subst ec_; clear en_))
                              have GB24 := Aside0.mk gb24
                              have GG24 := Aside0.mk HG24
                              clear gb24 gl24 HG24
                              (first | simp only [add_plain] at hx332_0 | skip)
                              obtain ⟨hx24_0, hf24_0⟩ := Kd.R_celln 0 HL330_0.out ((rd x26_2 x28_2) : Int) p24 q24
                              replace p24 := eq_true p24
                              replace q24 := eq_true q24
                              have hq27 : ((rd x16_1 x18_1) : Int) < (x5_2.length : Int) := (by have h_ : ((rd x16_1 x18_1) : Int) < ((x5_2.length : Int) : Int) := of_decide_eq_true (by first | (with_reducible assumption) | assumption); first | exact h_ | (have e_ := (Kd.S_reads' HO_5.out).1; omega) | simpa only [List.length_set, List.length_set] using h_)
                              obtain ⟨oki27, ce27, hcl27, hM27, hcc27, hok27, hbk27⟩ := Kd.S_borrow HO_5.out [] ((rd x16_1 x18_1) : Int) (of_decide_eq_true (by first | (with_reducible assumption) | assumption)) hq27
                              obtain ⟨ve27_0, rfl, ge27_0⟩ := hM27
                              have hv27 := hcc27 0 _ rfl
                              rw [Nat.add_zero, show ((Kd.slice 3 (Kd.int .i64))).sz = 1 from rfl, Nat.mul_one] at hv27
                              replace hv27 := Option.some.inj (hv27.symm.trans HX330_0.out)
                              subst hv27
                              (try clear hcc27); (try clear hcl27)
                              replace ge27_0 := (show Kd.R (Kd.int .i64) 3 _ _ _ _ (rd_L1 x5_2 (rd x16_1 x18_1)) from ge27_0)
                              have HP27 := Kd.R_putg ge27_0 ((rd x26_2 x28_2) : Int) (wrap64 (1 - (rd (rd_L1 x5_2 (rd x16_1 x18_1)) (rd x26_2 x28_2))))
                              rw [← Ny333.out] at HP27
                              have HS27 := hbk27 HP27.2 (fun k_ e_ => by injection e_ with e_; subst e_; exact ge27_0.1 _ rfl) (x' := y333) (Kd.M_row HP27.1)
                              rw [← Ny335.out] at HS27
                              have HQ27 := Aside0.mk HS27
                              clear HP27 HS27 hbk27 hok27
                              refine start_ (n := 15) (S := fun w' => w'.cell? (ad330.add ((rd x16_1 x18_1)).toNat) = some (.slice (some ⟨go24, 0, none⟩) (rd_L1 x5_2 (rd x16_1 x18_1)).length c330_0) ∧ w'.cell? (ad330.add ((rd x16_1 x18_1)).toNat) = some (.slice (some ⟨go24, 0, none⟩) (rd_L1 x5_2 (rd x16_1 x18_1)).length c330_0) ∧ w'.cell? ⟨go24, ((rd x26_2 x28_2)).toNat, none⟩ = some (.int .i64 (rd (rd_L1 x5_2 (rd x16_1 x18_1)) (rd x26_2 x28_2)))) (ds := [14]) #[false, false, false, false, false, false, false, false, false, false, false, false, false, false, false] (by kernel_rfl) rfl rfl ⟨hx330_0, hx331_0, hx332_0⟩ (fun hHeld => ?_); refine with_tabW spec_maDo.tab8 spec_maDo.bits8 (fun HT_ HW_ => ?_)
                              generalize wr.drew = w25 at HO_5 HO_16 HO_26 BK318 HB GG24 HL330_0 HL331_0 HQ27 HR330_0 HR331_0 HX330_0 HX331_0 hf24_0 hx24_0 hx330_0 hx331_0 hx332_0 hHeld ⊢
                              refine pure_ (i := 0) (N := some 32) (v := ?_) (a' := ?_) #[true, false, false, false, false, false, false, false, false, false, false, false, false, false, false] rfl rfl (any_of HT_.out (by kernel_rfl)) (fun _ _ _ h => h) (Or.inl ⟨by rfl, ?_⟩) ?_ ?_
                              rotate_left
                              · intro w'
                                go_simp
                                with_reducible rfl
                              rotate_left
                              · simp only [Act.put, List.setIfInBounds_toArray, List.set_cons_zero, List.set_cons_succ, i64_w, i32_w]
                                rfl
                              refine pure_ (i := 1) (N := some 33) (v := ?_) (a' := ?_) #[true, true, false, false, false, false, false, false, false, false, false, false, false, false, false] rfl rfl (any_of HT_.out (by kernel_rfl)) (fun _ _ _ h => h) (Or.inl ⟨by rfl, ?_⟩) ?_ ?_
                              rotate_left
                              · intro w'
                                go_simp
                                with_reducible rfl
                              rotate_left
                              · simp only [Act.put, List.setIfInBounds_toArray, List.set_cons_zero, List.set_cons_succ, i64_w, i32_w]
                                rfl
                              refine pure_ (i := 2) (N := some 34) (v := ?_) (a' := ?_) #[true, true, true, false, false, false, false, false, false, false, false, false, false, false, false] rfl rfl (any_of HT_.out (by kernel_rfl)) (fun _ _ _ h => h) (Or.inl ⟨by rfl, ?_⟩) ?_ ?_
                              rotate_left
                              · intro w'
                                go_simp
                                with_reducible rfl
                              rotate_left
                              · simp only [Act.put, List.setIfInBounds_toArray, List.set_cons_zero, List.set_cons_succ, i64_w, i32_w]
                                rfl
                              refine pure_ (i := 4) (N := some 36) (v := ?_) (a' := ?_) #[true, true, true, false, true, false, false, false, false, false, false, false, false, false, false] rfl rfl (any_of HT_.out (by kernel_rfl)) (fun _ _ _ h => h) (Or.inl ⟨by rfl, ?_⟩) ?_ ?_
                              rotate_left
                              · intro w'
                                go_simp
                                with_reducible rfl
                              rotate_left
                              · simp only [Act.put, List.setIfInBounds_toArray, List.set_cons_zero, List.set_cons_succ, i64_w, i32_w]
                                rfl
                              refine pure_ (i := 5) (N := some 37) (v := ?_) (a' := ?_) #[true, true, true, false, true, true, false, false, false, false, false, false, false, false, false] rfl rfl (any_of HT_.out (by kernel_rfl)) (fun _ _ _ h => h) (Or.inl ⟨by rfl, ?_⟩) ?_ ?_
                              rotate_left
                              · intro w'
                                go_simp
                                with_reducible rfl
                              rotate_left
                              · simp only [Act.put, List.setIfInBounds_toArray, List.set_cons_zero, List.set_cons_succ, i64_w, i32_w]
                                rfl
                              refine pure_ (i := 6) (N := some 38) (v := ?_) (a' := ?_) #[true, true, true, false, true, true, true, false, false, false, false, false, false, false, false] rfl rfl (any_of HT_.out (by kernel_rfl)) (fun _ _ _ h => h) (Or.inl ⟨by rfl, ?_⟩) ?_ ?_
                              rotate_left
                              · intro w'
                                go_simp
                                with_reducible rfl
                              rotate_left
                              · simp only [Act.put, List.setIfInBounds_toArray, List.set_cons_zero, List.set_cons_succ, i64_w, i32_w]
                                rfl
                              refine pure_ (i := 7) (N := some 39) (v := ?_) (a' := ?_) #[true, true, true, false, true, true, true, true, false, false, false, false, false, false, false] rfl rfl (any_of HT_.out (by kernel_rfl)) (fun _ _ _ h => h) (Or.inl ⟨by rfl, ?_⟩) ?_ ?_
                              rotate_left
                              · intro w'
                                go_simp
                                with_reducible rfl
                              rotate_left
                              · simp only [Act.put, List.setIfInBounds_toArray, List.set_cons_zero, List.set_cons_succ, i64_w, i32_w]
                                rfl
                              refine pure_ (i := 9) (N := some 41) (v := ?_) (a' := ?_) #[true, true, true, false, true, true, true, true, false, true, false, false, false, false, false] rfl rfl (any_of HT_.out (by kernel_rfl)) (fun _ _ _ h => h) (Or.inl ⟨by rfl, ?_⟩) ?_ ?_
                              rotate_left
                              · intro w'
                                go_simp
                                with_reducible rfl
                              rotate_left
                              · simp only [Act.put, List.setIfInBounds_toArray, List.set_cons_zero, List.set_cons_succ, i64_w, i32_w]
                                rfl
                              refine take_ (i := 3) (N := some 35) (v := ?_) (a' := ?_) #[true, true, true, true, true, true, true, true, false, true, false, false, false, false, false] rfl rfl (take_ofW HT_.out HW_.out (by kernel_rfl)) (fun _ _ _ h => h) (Or.inl ⟨by rfl, ?_⟩) hHeld ?_ ?_
                              rotate_left
                              · rintro w' ⟨s0, s1, s2⟩
                                go_simp
                                with_reducible rfl
                              rotate_left
                              · simp only [Act.put, List.setIfInBounds_toArray, List.set_cons_zero, List.set_cons_succ, i64_w, i32_w]
                                rfl
                              refine take_ (i := 8) (N := some 40) (v := ?_) (a' := ?_) #[true, true, true, true, true, true, true, true, true, true, false, false, false, false, false] rfl rfl (take_ofW HT_.out HW_.out (by kernel_rfl)) (fun _ _ _ h => h) (Or.inl ⟨by rfl, ?_⟩) hHeld ?_ ?_
                              rotate_left
                              · rintro w' ⟨s0, s1, s2⟩
                                go_simp
                                with_reducible rfl
                              rotate_left
                              · simp only [Act.put, List.setIfInBounds_toArray, List.set_cons_zero, List.set_cons_succ, i64_w, i32_w]
                                rfl
                              refine pure_ (i := 10) (N := some 42) (v := ?_) (a' := ?_) #[true, true, true, true, true, true, true, true, true, true, true, false, false, false, false] rfl rfl (any_of HT_.out (by kernel_rfl)) (fun _ _ _ h => h) (Or.inl ⟨by rfl, ?_⟩) ?_ ?_
                              rotate_left
                              · intro w'
                                go_simp
                                with_reducible rfl
                              rotate_left
                              · simp only [Act.put, List.setIfInBounds_toArray, List.set_cons_zero, List.set_cons_succ, i64_w, i32_w]
                                rfl
                              refine take_ (i := 11) (N := some 43) (v := ?_) (a' := ?_) #[true, true, true, true, true, true, true, true, true, true, true, true, false, false, false] rfl rfl (take_ofW HT_.out HW_.out (by kernel_rfl)) (fun _ _ _ h => h) (Or.inl ⟨by rfl, ?_⟩) hHeld ?_ ?_
                              rotate_left
                              · rintro w' ⟨s0, s1, s2⟩
                                go_simp
                                with_reducible rfl
                              rotate_left
                              · simp only [Act.put, List.setIfInBounds_toArray, List.set_cons_zero, List.set_cons_succ, i64_w, i32_w]
                                rfl
                              refine pure_ (i := 12) (N := some 44) (v := ?_) (a' := ?_) #[true, true, true, true, true, true, true, true, true, true, true, true, true, false, false] rfl rfl (any_of HT_.out (by kernel_rfl)) (fun _ _ _ h => h) (Or.inl ⟨by rfl, ?_⟩) ?_ ?_
                              rotate_left
                              · intro w'
                                go_simp
                                with_reducible rfl
                              rotate_left
                              · simp only [Act.put, List.setIfInBounds_toArray, List.set_cons_zero, List.set_cons_succ, i64_w, i32_w]
                                rfl
                              refine pure_ (i := 13) (N := some 45) (v := ?_) (a' := ?_) #[true, true, true, true, true, true, true, true, true, true, true, true, true, true, false] rfl rfl (any_of HT_.out (by kernel_rfl)) (fun _ _ _ h => h) (Or.inl ⟨by rfl, ?_⟩) ?_ ?_
                              rotate_left
                              · intro w'
                                go_simp
                                with_reducible rfl
                              rotate_left
                              · simp only [Act.put, List.setIfInBounds_toArray, List.set_cons_zero, List.set_cons_succ, i64_w, i32_w]
                                rfl
                              refine last_ (i := 14) (N := none) #[true, true, true, true, true, true, true, true, true, true, true, true, true, true, true] rfl rfl (one_of HT_.out (by kernel_rfl)) (by decide) (fun K hK => ?_)
                              refine skip_ (w1 := ?_) (by rfl) rfl ?_ ?_
                              rotate_left
                              · go_simp
                                rfl
                              refine hK.out _ _ ?_
                              clear hK K
                              refine done_ (done_of HT_.out (by kernel_rfl)) ?_
                              try go_wp2
                              (try simp only [← hl16_2, ← hl26_2])
                              go_roundg k2
                              case measure => have := HK1.out; have := HK2.out; omega
                              case rel => exact ⟨(y335), (x16_2), (x26_2), (wrap64 (x28_2 + 1)), (by first | rfl | (simp; done) | (simp [*]; done)), H', ⟨by have := HK1.out; have := HK2.out; omega⟩, ⟨by (try simp only [hl16_1]); (try simp only [hl16_2]); (try simp only [hl26_2]); (with_reducible repeat (first | apply Kd.S_alloc | apply Kd.S_drewN | apply Kd.S_drew)); exact HQ27.out⟩, ⟨by (try simp only [hl16_1]); (try simp only [hl16_2]); (try simp only [hl26_2]); (with_reducible repeat (first | apply Kd.R_alloc | apply Kd.R_drewN | apply Kd.R_drew)); exact Kd.R_mono (Kd.R_far (p := ⟨go24, ((rd x26_2 x28_2) : Int).toNat, none⟩) (Kd.R_far1 HO_16.out rfl ((HL330_0.out.1 _ rfl).1.1)) (fun _ hk => hk.2) (.int .i64 (wrap64 (1 - (rd (rd_L1 x5_2 (rd x16_1 x18_1)) (rd x26_2 x28_2)))))) (fun _ hk => hk.1)⟩, ⟨by (try simp only [hl16_1]); (try simp only [hl16_2]); (try simp only [hl26_2]); (with_reducible repeat (first | apply Kd.R_alloc | apply Kd.R_drewN | apply Kd.R_drew)); exact Kd.R_mono (Kd.R_far (p := ⟨go24, ((rd x26_2 x28_2) : Int).toNat, none⟩) (Kd.R_far1 HO_26.out rfl ((HL330_0.out.1 _ rfl).1.2)) (fun _ hk => hk.2) (.int .i64 (wrap64 (1 - (rd (rd_L1 x5_2 (rd x16_1 x18_1)) (rd x26_2 x28_2)))))) (fun _ hk => hk.1)⟩, ⟨by (try simp only [hl16_1]); (try simp only [hl16_2]); (try simp only [hl26_2]); (with_reducible repeat (first | refine blk_drewN ?_ _ | refine blk_drew ?_ | refine blk_alloc ?_ _)); refine blk_far ?_ (by have h_ := Kd.R_ne HL330_0.out BK318.out (by decide); intro e_; exact h_ (by rw [e_]; rfl)) _; (with_reducible repeat (first | refine blk_drewN ?_ _ | refine blk_drew ?_ | refine blk_alloc ?_ _)); exact BK318.out⟩, ⟨by repeat (first | (with_reducible first | exact HB.out | apply below_alloc | apply pw_below_drewN | apply below_drew1 | refine below_set ?_ GB24.out | refine below_set ?_ GE318.out) | exact HB.out)⟩⟩
                            · rw [if_neg c23] at H
                              exact absurd H (by simp)
                          · rw [if_neg c22] at H
                            exact absurd H (by simp)
                        · rw [if_neg c21] at H
                          exact absurd H (by simp)
                      · rw [if_neg c20] at H
                        exact absurd H (by simp)
                    · rw [if_neg c19] at H
                      exact absurd H (by simp)
                  · rw [if_neg c18] at H
                    exact absurd H (by simp)
                · rw [if_neg c17] at H
                  have c17b0 : decide (x28_2 < (y326.length : Int)) = false := decide_eq_false c17
                  (try (have c17b1 := c17b0; simp only [hl16_1, hl16_2, hl26_2] at c17b1))
                  clear c17
                  have H' := Aside0.mk H
                  clear H
                  go_wp2
                  (try simp only [← hl16_1, ← hl16_2, ← hl26_2])
                  go_roundg k2
                  case measure => have := HK1.out; have := HK2.out; omega
                  case rel => exact ⟨(x5_2), (x16_2), (wrap64 (x18_1 + 1)), (by first | rfl | (simp; done) | (simp [*]; done)), H', ⟨by have := HK1.out; have := HK2.out; omega⟩, ⟨by (try simp only [hl16_1]); (try simp only [hl16_2]); (try simp only [hl26_2]); (with_reducible repeat (first | apply Kd.S_alloc | apply Kd.S_drewN | apply Kd.S_drew)); exact Kd.S_mono HO_5.out (fun _ hk => hk.1)⟩, ⟨by (try simp only [hl16_1]); (try simp only [hl16_2]); (try simp only [hl26_2]); (with_reducible repeat (first | apply Kd.R_alloc | apply Kd.R_drewN | apply Kd.R_drew)); exact Kd.R_mono HO_16.out (fun _ hk => trivial)⟩, ⟨by (try simp only [hl16_1]); (try simp only [hl16_2]); (try simp only [hl26_2]); (with_reducible repeat (first | refine blk_drewN ?_ _ | refine blk_drew ?_ | refine blk_alloc ?_ _)); exact BK318.out⟩, ⟨by repeat (first | (with_reducible first | exact HB.out | apply below_alloc | apply pw_below_drewN | apply below_drew1 | refine below_set ?_ GE318.out) | exact HB.out)⟩⟩
          · rw [if_neg c12] at H
            exact absurd H (by simp)
        · rw [if_neg c11] at H
          exact absurd H (by simp)
      · rw [if_neg c10] at H
        have c10b0 : decide (x18_1 < (y322.length : Int)) = false := decide_eq_false c10
        (try (have c10b1 := c10b0; simp only [hl16_1] at c10b1))
        clear c10
        obtain rfl := Option.some.inj H
        go_wp2
        go_ret
        exact ⟨_, by first | rfl | (simp [errW_none, errW_some] <;> rfl) | (simp [*, errW_none, errW_some] <;> rfl), by (with_reducible repeat (first | apply Kd.S_alloc | apply Kd.S_drewN | apply Kd.S_drew)); exact Kd.S_mono HO_5.out (fun _ hk => trivial), by repeat (first | (with_reducible first | exact HB.out | apply below_alloc | apply pw_below_drewN | apply below_drew1 | refine below_set ?_ GE318.out) | exact HB.out)⟩

end Go.Proofs.Ytojcnapdalpnmaa.P

/- Walked by hand: spec.maIs, at grids. -/
namespace Go.Proofs.Ytojcnapdalpnmaa.P
open Go.RowKit Go.Proofs.YtojcnapdalpnmaaW.PrintWords Go.Proofs.YtojcnapdalpnmaaW.PrintLast Go.Proofs.YtojcnapdalpnmaaW.PrintMore Go.Proofs.Ytojcnapdalpnmaa.K
set_option linter.unusedVariables false
set_option linter.unusedSimpArgs false
theorem hs_l1In (w : World) (n : Nat) (a0 a1 a2 : Int) (v : Bool) (h : (decide (a1 ≤ a0) && decide (a0 ≤ a2)) = v) :
    Calls Try.prog 115 #[.int .i64 a0, .int .i64 a1, .int .i64 a2] (w.drewN n) fun e w' => e = .returned (.bool v) ∧ ∃ m, w' = w.drewN m := by
  refine Calls.quiet_of ((spec_l1In.calls a0 a1 a2 v (w.drewN n) (by rw [l1In_f, h])).mono ?_)
  rintro e w' ⟨rfl, ⟨m, rfl⟩⟩
  exact ⟨rfl, m, rfl⟩
set_option maxHeartbeats 800000 in
set_option maxRecDepth 100000 in
theorem maIs_in (A0 : Option Addr) (c0 : Nat) (l0 : List (List Int)) (r o c b : Nat) (w : World) (hr0 : Kd.C (Kd.slice 3 (Kd.int .i64)) w A0 l0.length l0) (hc0 : l0.length ≤ c0) (hg : gridB l0 = true)
    (h1 : r < o) (h2 : o < l0.length) (h3 : c < b) (h4 : b < (rd_L1 l0 0).length) :
    Calls Try.prog 80 #[.slice A0 l0.length c0, .agg #[.int .i64 r, .int .i64 o, .int .i64 c, .int .i64 b]] w fun e w' => e = .returned (.bool (swAt l0 r o c b)) ∧ Below w.heap.size w w' := by
  obtain ⟨g1, g2, g3, g4, g5⟩ := grid_get hg
  have HC0 := Aside0.mk hc0
  clear hc0 hg
  have hq := Kd.C_alloc hr0 (.cells #[.int .i64 (r : Int), .int .i64 (o : Int), .int .i64 (c : Int), .int .i64 (b : Int)] 41)
  have hm : ∀ i : Nat, i < l0.length → (rd_L1 l0 (i : Int)).length = (rd_L1 l0 0).length := fun i hi => (g5 _ (by unfold rd_L1; simp [List.getD_eq_getElem?_getD, List.getElem?_eq_getElem hi])).1
  have er := hm r (by omega)
  have eo := hm o h2
  clear hm g5
  obtain ⟨ad, A2, c2, e2, hx0, hl2, hi2⟩ := at_L1 hq (0 : Int) (by omega) (by omega)
  cases e2
  obtain ⟨ad', A3, c3, e3, hx3, hl3, hi3⟩ := at_L1 hq (r : Int) (by omega) (by omega)
  cases e3
  obtain ⟨ad', A4, c4, e4, hx4, hl4, hi4⟩ := at_L1 hq (o : Int) (by omega) (by omega)
  cases e4
  rw [show ((0 : Int)).toNat = 0 from rfl, Addr.add_zero'] at hx0
  rw [er] at hx3 hl3
  rw [eo] at hx4 hl4
  obtain ⟨ad3, e3, y1⟩ := Kd.at_int hi3 (c : Int) (by omega) (by omega)
  cases e3
  obtain ⟨ad', e3, y2⟩ := Kd.at_int hi3 (b : Int) (by omega) (by omega)
  cases e3
  obtain ⟨ad4, e4, y3⟩ := Kd.at_int hi4 (c : Int) (by omega) (by omega)
  cases e4
  obtain ⟨ad', e4, y4⟩ := Kd.at_int hi4 (b : Int) (by omega) (by omega)
  cases e4
  clear hi2 hi3 hi4 hl2 hl3 hl4 hq hr0 er eo
  simp only [Int.toNat_natCast] at hx3 hx4 y1 y2 y3 y4
  generalize hn : (rd_L1 l0 0).length = n at *
  unfold swAt
  generalize rd (rd_L1 l0 r) c = t1 at *
  generalize rd (rd_L1 l0 r) b = t2 at *
  generalize rd (rd_L1 l0 o) c = t3 at *
  generalize rd (rd_L1 l0 o) b = t4 at *
  have HN := Aside0.mk hn
  clear hn
  have B1 : Aside0 ((decide ((1 : Int) ≤ (o : Int)) && decide ((o : Int) ≤ (l0.length : Int) - 1)) = true) := ⟨by simp; omega⟩
  have B2 : Aside0 ((decide ((0 : Int) ≤ (r : Int)) && decide ((r : Int) ≤ (o : Int) - 1)) = true) := ⟨by simp; omega⟩
  have B3 : Aside0 ((decide ((1 : Int) ≤ (b : Int)) && decide ((b : Int) ≤ (n : Int) - 1)) = true) := ⟨by simp; omega⟩
  have B4 : Aside0 ((decide ((0 : Int) ≤ (c : Int)) && decide ((c : Int) ≤ (b : Int) - 1)) = true) := ⟨by simp; omega⟩
  have w1 : IntKind.i64.wrap ((l0.length : Int) - 1) = (l0.length : Int) - 1 := IntWalk.i64_in _ (by omega)
  have w2 : IntKind.i64.wrap ((o : Int) - 1) = (o : Int) - 1 := IntWalk.i64_in _ (by omega)
  have w3 : IntKind.i64.wrap ((n : Int) - 1) = (n : Int) - 1 := IntWalk.i64_in _ (by omega)
  have w4 : IntKind.i64.wrap ((b : Int) - 1) = (b : Int) - 1 := IntWalk.i64_in _ (by omega)
  have q1 : (r : Int) < (l0.length : Int) := by omega
  have q2 : (o : Int) < (l0.length : Int) := by omega
  have q3 : (c : Int) < (n : Int) := by omega
  have q4 : (b : Int) < (n : Int) := by omega
  have q5 : (0 : Int) < (l0.length : Int) := by omega
  by_cases u1 : t1 = t2
  · have d1 : (t1 != t2) = false := by simp [u1]
    have U1 := Aside0.mk u1
    clear u1
    go_enter Try.func80, Try.ntmps80
    go_wp2
    go_quiet ((go_at_call 115; first | exact hs_l1In _ _ _ _ _ _ B1.out | exact hs_l1In _ _ _ _ _ _ B2.out | exact hs_l1In _ _ _ _ _ _ B3.out | exact hs_l1In _ _ _ _ _ _ B4.out))
    go_wp2
    go_quiet (fail)
    go_wp2
    go_quiet (fail)
    go_wp2
    go_ret
    exact ⟨by (have u1 := U1.out; subst u1; simp), (by repeat (first | (with_reducible first | exact Below.refl _ _ | apply below_alloc | apply pw_below_drewN | apply below_drew1)))⟩
  · have d1 : (t1 != t2) = true := by simpa using u1
    have U1 := Aside0.mk u1
    clear u1
    by_cases u2 : t3 = t2
    · have d2 : (t3 == t2) = true := by simpa using u2
      have U2 := Aside0.mk u2
      clear u2
      go_enter Try.func80, Try.ntmps80
      go_wp2
      go_quiet ((go_at_call 115; first | exact hs_l1In _ _ _ _ _ _ B1.out | exact hs_l1In _ _ _ _ _ _ B2.out | exact hs_l1In _ _ _ _ _ _ B3.out | exact hs_l1In _ _ _ _ _ _ B4.out))
      go_wp2
      go_quiet (fail)
      go_wp2
      go_quiet (fail)
      go_wp2
      go_ret
      exact ⟨by (have a1 := U1.out; have a2 := U2.out; subst a2; simp [a1, eq_comm, Bool.beq_eq_decide_eq]), (by repeat (first | (with_reducible first | exact Below.refl _ _ | apply below_alloc | apply pw_below_drewN | apply below_drew1)))⟩
    · have d2 : (t3 == t2) = false := by simpa using u2
      have U2 := Aside0.mk u2
      clear u2
      go_enter Try.func80, Try.ntmps80
      go_wp2
      go_quiet ((go_at_call 115; first | exact hs_l1In _ _ _ _ _ _ B1.out | exact hs_l1In _ _ _ _ _ _ B2.out | exact hs_l1In _ _ _ _ _ _ B3.out | exact hs_l1In _ _ _ _ _ _ B4.out))
      go_wp2
      go_quiet (fail)
      go_wp2
      go_quiet (fail)
      go_wp2
      go_ret
      exact ⟨by (have a1 := U1.out; have a2 := U2.out; simp [a1, a2, show ¬ t2 = t3 from fun e => a2 e.symm]), (by repeat (first | (with_reducible first | exact Below.refl _ _ | apply below_alloc | apply pw_below_drewN | apply below_drew1)))⟩
set_option maxHeartbeats 800000 in
set_option maxRecDepth 100000 in
theorem maIs_out (A0 : Option Addr) (c0 : Nat) (l0 : List (List Int)) (r o c b : Int) (w : World) (hr0 : Kd.C (Kd.slice 3 (Kd.int .i64)) w A0 l0.length l0) (hc0 : l0.length ≤ c0) (hg : gridB l0 = true) (h : swIn l0 r o c b = false) :
    Calls Try.prog 80 #[.slice A0 l0.length c0, .agg #[.int .i64 r, .int .i64 o, .int .i64 c, .int .i64 b]] w fun e w' => e = .returned (.bool false) ∧ Below w.heap.size w w' := by
  obtain ⟨g1, g2, g3, g4, -⟩ := grid_get hg
  have HC0 := Aside0.mk hc0
  clear hc0 hg
  have hq := Kd.C_alloc hr0 (.cells #[.int .i64 r, .int .i64 o, .int .i64 c, .int .i64 b] 41)
  obtain ⟨ad, A2, c2, e2, hx0, hl2, hi2⟩ := at_L1 hq (0 : Int) (by omega) (by omega)
  cases e2
  rw [show ((0 : Int)).toNat = 0 from rfl, Addr.add_zero'] at hx0
  clear hi2 hl2 hq hr0
  simp only [swIn, decide_eq_false_iff_not] at h
  generalize hn : (rd_L1 l0 0).length = n at *
  have HN := Aside0.mk hn
  clear hn
  have w1 : IntKind.i64.wrap ((l0.length : Int) - 1) = (l0.length : Int) - 1 := IntWalk.i64_in _ (by omega)
  have w3 : IntKind.i64.wrap ((n : Int) - 1) = (n : Int) - 1 := IntWalk.i64_in _ (by omega)
  have q5 : (0 : Int) < (l0.length : Int) := by omega
  by_cases h1 : 1 ≤ o ∧ o ≤ (l0.length : Int) - 1
  · have B1 : Aside0 ((decide ((1 : Int) ≤ o) && decide (o ≤ (l0.length : Int) - 1)) = true) := ⟨by simp; omega⟩
    have w2 : IntKind.i64.wrap (o - 1) = o - 1 := IntWalk.i64_in _ (by omega)
    by_cases h2 : 0 ≤ r ∧ r ≤ o - 1
    · have B2 : Aside0 ((decide ((0 : Int) ≤ r) && decide (r ≤ o - 1)) = true) := ⟨by simp; omega⟩
      by_cases h3 : 1 ≤ b ∧ b ≤ (n : Int) - 1
      · have B3 : Aside0 ((decide ((1 : Int) ≤ b) && decide (b ≤ (n : Int) - 1)) = true) := ⟨by simp; omega⟩
        have B4 : Aside0 ((decide ((0 : Int) ≤ c) && decide (c ≤ b - 1)) = false) := ⟨by simp; omega⟩
        have w4 : IntKind.i64.wrap (b - 1) = b - 1 := IntWalk.i64_in _ (by omega)
        clear h h1 h2 h3
        go_enter Try.func80, Try.ntmps80
        go_wp2
        go_quiet ((go_at_call 115; first | exact hs_l1In _ _ _ _ _ _ B1.out | exact hs_l1In _ _ _ _ _ _ B2.out | exact hs_l1In _ _ _ _ _ _ B3.out | exact hs_l1In _ _ _ _ _ _ B4.out))
        go_wp2
        go_ret
        exact ⟨rfl, (by repeat (first | (with_reducible first | exact Below.refl _ _ | apply below_alloc | apply pw_below_drewN | apply below_drew1)))⟩
      · have B3 : Aside0 ((decide ((1 : Int) ≤ b) && decide (b ≤ (n : Int) - 1)) = false) := ⟨by simp; omega⟩
        clear h h1 h2 h3
        go_enter Try.func80, Try.ntmps80
        go_wp2
        go_quiet ((go_at_call 115; first | exact hs_l1In _ _ _ _ _ _ B1.out | exact hs_l1In _ _ _ _ _ _ B2.out | exact hs_l1In _ _ _ _ _ _ B3.out))
        go_wp2
        go_ret
        exact ⟨rfl, (by repeat (first | (with_reducible first | exact Below.refl _ _ | apply below_alloc | apply pw_below_drewN | apply below_drew1)))⟩
    · have B2 : Aside0 ((decide ((0 : Int) ≤ r) && decide (r ≤ o - 1)) = false) := ⟨by simp; omega⟩
      clear h h1 h2
      go_enter Try.func80, Try.ntmps80
      go_wp2
      go_quiet ((go_at_call 115; first | exact hs_l1In _ _ _ _ _ _ B1.out | exact hs_l1In _ _ _ _ _ _ B2.out))
      go_wp2
      go_ret
      exact ⟨rfl, (by repeat (first | (with_reducible first | exact Below.refl _ _ | apply below_alloc | apply pw_below_drewN | apply below_drew1)))⟩
  · have B1 : Aside0 ((decide ((1 : Int) ≤ o) && decide (o ≤ (l0.length : Int) - 1)) = false) := ⟨by simp; omega⟩
    clear h h1
    go_enter Try.func80, Try.ntmps80
    go_wp2
    go_quiet ((go_at_call 115; exact hs_l1In _ _ _ _ _ _ B1.out))
    go_wp2
    go_ret
    exact ⟨rfl, (by repeat (first | (with_reducible first | exact Below.refl _ _ | apply below_alloc | apply pw_below_drewN | apply below_drew1)))⟩
theorem spec_maIs.calls (A0 : Option Addr) (c0 : Nat) (l0 : List (List Int)) (r o c b : Int) (res : Bool) (w : World) (hr0 : Kd.C (Kd.slice 3 (Kd.int .i64)) w A0 l0.length l0) (hc0 : l0.length ≤ c0) (h : spec_maIs.f l0 r o c b = some res) :
    Calls Try.prog 80 #[.slice A0 l0.length c0, .agg #[.int .i64 r, .int .i64 o, .int .i64 c, .int .i64 b]] w fun e w' => e = .returned (.bool res) ∧ Below w.heap.size w w' := by
  unfold spec_maIs.f at h
  split at h
  case isFalse => cases h
  rename_i hg
  obtain rfl := Option.some.inj h
  cases hs : swIn l0 r o c b with
  | false => rw [show swB l0 r o c b = false by simp [swB, hs]]; exact maIs_out A0 c0 l0 r o c b w hr0 hc0 hg hs
  | true =>
    rw [show swB l0 r o c b = swAt l0 r o c b by simp [swB, hs]]
    simp only [swIn, decide_eq_true_eq] at hs
    obtain ⟨s1, s2, s3, s4, s5, s6⟩ := hs
    obtain ⟨r, rfl⟩ := Int.eq_ofNat_of_zero_le s1
    obtain ⟨o, rfl⟩ := Int.eq_ofNat_of_zero_le (show 0 ≤ o by omega)
    obtain ⟨c, rfl⟩ := Int.eq_ofNat_of_zero_le s4
    obtain ⟨b, rfl⟩ := Int.eq_ofNat_of_zero_le (show 0 ≤ b by omega)
    exact maIs_in A0 c0 l0 r o c b w hr0 hc0 hg (by omega) (by omega) (by omega) (by omega)

end Go.Proofs.Ytojcnapdalpnmaa.P

namespace Go.Proofs.Ytojcnapdalpnmaa.P
open Go.RowKit Go.Proofs.YtojcnapdalpnmaaW.PrintWords Go.Proofs.YtojcnapdalpnmaaW.PrintLast Go.Proofs.YtojcnapdalpnmaaW.PrintMore
attribute [local go_sem] max2_int min2_int max_two min_two max_three min_three max_four min_four   -- for this text's walks alone
set_option linter.unusedVariables false
set_option linter.unusedSimpArgs false

/-! ### spec_DoSwitch: function 38 -/
def spec_DoSwitch.f (k : Nat) (l0 : List (List Int)) (a1_0 : Int) (a1_1 : Int) (a1_2 : Int) (a1_3 : Int) : Option ((List (List Int)) × Bool) := (spec_maGrid.f k l0).bind fun t337 => (if t337 = true then ((spec_maIs.f l0 a1_0 a1_1 a1_2 a1_3).bind fun t338 => (if t338 = true then ((spec_maDo.f k l0 a1_0 a1_1 a1_2 a1_3).bind fun t339 => (some (t339, true))) else (some (([] : List (List Int)), false)))) else (some (([] : List (List Int)), false)))
theorem spec_DoSwitch.mono : ∀ a0 a1 a2 a3 a4 k, LeO (spec_DoSwitch.f k a0 a1 a2 a3 a4) (spec_DoSwitch.f (k + 1) a0 a1 a2 a3 a4) := by
  intro a0 a1 a2 a3 a4 k
  unfold spec_DoSwitch.f
  repeat' first
      | (with_reducible exact spec_maDo.mono _ _ _ _ _ _)
      | (with_reducible exact spec_maGrid.mono _ _)
      | (with_reducible exact LeO.refl _)
      | (with_reducible exact LeO.none _)
      | (with_reducible refine LeO.ite ?_ ?_)
      | (with_reducible refine LeO.bind ?_ (fun _ => ?_))
      | exact spec_maDo.mono _ _ _ _ _ _
      | exact spec_maGrid.mono _ _
      | exact LeO.none _
      | refine LeO.ite ?_ ?_
      | refine LeO.bind ?_ (fun _ => ?_)
set_option maxHeartbeats 8000000 in
set_option maxRecDepth 100000 in
theorem spec_DoSwitch.calls (k : Nat) (A0 : Option Addr) (c0 : Nat) (l0 : List (List Int)) (a1_0 : Int) (a1_1 : Int) (a1_2 : Int) (a1_3 : Int) (r1 : List (List Int)) (r2 : Bool) (w : World) (hr0 : Kd.C (Kd.slice 3 (Kd.int .i64)) w A0 l0.length l0) (hc0 : l0.length ≤ c0) (h : spec_DoSwitch.f k l0 a1_0 a1_1 a1_2 a1_3 = some (r1, r2)) :
    Calls Try.prog 38 #[.slice A0 l0.length c0, .agg #[.int .i64 a1_0, .int .i64 a1_1, .int .i64 a1_2, .int .i64 a1_3]] w fun e w' => ∃ v0_ : Value, e = .returned (.tuple #[v0_, .bool r2]) ∧ Kd.S (Kd.slice 3 (Kd.int .i64)) 33 w' w.heap.size (fun _ => True) v0_ r1 ∧ Below w.heap.size w w' := by
  have hu41 := Try.underlying41
  have HR0 := Aside0.mk hr0
  have HC0 := Aside0.mk hc0
  clear hr0 hc0
  have HB := Aside0.mk (Below.refl w.heap.size w)
  have H : ((spec_maGrid.f k l0).bind fun t337 => (if t337 = true then ((spec_maIs.f l0 a1_0 a1_1 a1_2 a1_3).bind fun t338 => (if t338 = true then ((spec_maDo.f k l0 a1_0 a1_1 a1_2 a1_3).bind fun t339 => (some (t339, true))) else (some (([] : List (List Int)), false)))) else (some (([] : List (List Int)), false)))) = some (r1, r2) := h
  clear h
  replace H := Option.bind_eq_some_iff.mp H
  obtain ⟨t337, A30, H⟩ := H
  replace H : (if t337 = true then ((spec_maIs.f l0 a1_0 a1_1 a1_2 a1_3).bind fun t338 => (if t338 = true then ((spec_maDo.f k l0 a1_0 a1_1 a1_2 a1_3).bind fun t339 => (some (t339, true))) else (some (([] : List (List Int)), false)))) else (some (([] : List (List Int)), false))) = some (r1, r2) := H
  have A3 := Aside0.mk A30
  clear A30
  by_cases c4 : t337 = true
  · subst c4
    have H1 : ((spec_maIs.f l0 a1_0 a1_1 a1_2 a1_3).bind fun t338 => (if t338 = true then ((spec_maDo.f k l0 a1_0 a1_1 a1_2 a1_3).bind fun t339 => (some (t339, true))) else (some (([] : List (List Int)), false)))) = some (r1, r2) := by rw [if_pos rfl] at H; exact H
    clear H
    have H := H1
    clear H1
    replace H := Option.bind_eq_some_iff.mp H
    obtain ⟨t338, A50, H⟩ := H
    replace H : (if t338 = true then ((spec_maDo.f k l0 a1_0 a1_1 a1_2 a1_3).bind fun t339 => (some (t339, true))) else (some (([] : List (List Int)), false))) = some (r1, r2) := H
    have A5 := Aside0.mk A50
    clear A50
    by_cases c6 : t338 = true
    · subst c6
      have H1 : ((spec_maDo.f k l0 a1_0 a1_1 a1_2 a1_3).bind fun t339 => (some (t339, true))) = some (r1, r2) := by rw [if_pos rfl] at H; exact H
      clear H
      have H := H1
      clear H1
      replace H := Option.bind_eq_some_iff.mp H
      obtain ⟨t339, A70, H⟩ := H
      replace H : (some (t339, true)) = some (r1, r2) := H
      have A7 := Aside0.mk A70
      clear A70
      simp only [Option.some.injEq, Prod.mk.injEq] at H
      obtain ⟨rfl, rfl⟩ := H
      go_enter Try.func38, Try.ntmps38
      go_wp2_with (first | ((with_reducible refine gate_dst (N := 3) rfl ?_); refine box_event ?hg (N := 3) ?hd (cs := #[.int .i64 a1_0, .int .i64 a1_1, .int .i64 a1_2, .int .i64 a1_3]) (t := 41) ?hr ?_; (case hd => rfl); (case hg => rfl); (case hr => first | (go_simp; done) | (go_simp; rfl)); intro gb336 hg w8 hbox hb; have n0_ := Aside0.mk (below_step (by repeat (first | (with_reducible first | exact HB.out | apply below_alloc | apply pw_below_drewN | apply below_drew1) | exact HB.out)) hb); have n1_ := Aside0.mk (hbox); have n2_ := Aside0.mk ((by rw [hg]; exact (below_size (by repeat (first | (with_reducible first | exact HB.out | apply below_alloc | apply pw_below_drewN | apply below_drew1) | exact HB.out))) : w.heap.size ≤ gb336)); have n3_ := Aside0.mk ((by rw [hg]; exact (below_size (by repeat (first | (with_reducible first | exact HB.out | apply below_alloc | apply pw_below_drewN | apply below_drew1) | exact HB.out))) : w.heap.size ≤ gb336)); clear HB; have HB := n0_; have BK336 := n1_; have GW336 := n2_; have GE336 := n3_; clear n0_ n1_ n2_ n3_; clear hb hbox hg) | ((with_reducible refine gate_callee (f := 67) rfl ?_); refine goesL_ (some 7) rfl rfl Try.func67 (by kernel_rfl) rfl #[.slice A0 l0.length c0] rfl (by (try simp only [List.map_toArray, List.map_cons, List.map_nil]); first | done | rfl | (simp only [List.length_drop, List.length_take]; rfl)) ?_; (with_reducible refine (spec_maGrid.calls k _ _ l0 true _ ?side1 ?side2 A3.out).mono ?_); (case side1 => repeat (first | exact (Kd.C_below HR0.out HB.out) | (with_reducible refine Kd.C_alloc ?_ _) | (with_reducible refine Kd.C_drewN ?_ _) | (with_reducible refine Kd.C_drew ?_))); (case side2 => exact HC0.out); rintro e w' ⟨rfl, ⟨nd, rfl⟩⟩; refine ⟨_, rfl, ?_⟩; have hcz9_0 : w8.cell? ⟨gb336, 0, none⟩ = some (.int .i64 a1_0) := (blk_cell BK336.out 0).trans rfl; have hcz9_1 : w8.cell? ⟨gb336, 1, none⟩ = some (.int .i64 a1_1) := (blk_cell BK336.out 1).trans rfl; have hcz9_2 : w8.cell? ⟨gb336, 2, none⟩ = some (.int .i64 a1_2) := (blk_cell BK336.out 2).trans rfl; have hcz9_3 : w8.cell? ⟨gb336, 3, none⟩ = some (.int .i64 a1_3) := (blk_cell BK336.out 3).trans rfl; have hfz9_0 := blk_frozen BK336.out 0; have hfz9_1 := blk_frozen BK336.out 1; have hfz9_2 := blk_frozen BK336.out 2; have hfz9_3 := blk_frozen BK336.out 3) | (go_at_call 80; (with_reducible refine (spec_maIs.calls _ _ l0 a1_0 a1_1 a1_2 a1_3 true _ ?side1 ?side2 A5.out).mono ?_); (case side1 => repeat (first | exact (Kd.C_below HR0.out (by repeat (first | (with_reducible first | exact HB.out | apply below_alloc | apply pw_below_drewN | apply below_drew1 | refine below_set ?_ GE336.out) | exact HB.out))) | (with_reducible refine Kd.C_alloc ?_ _) | (with_reducible refine Kd.C_drewN ?_ _) | (with_reducible refine Kd.C_drew ?_))); (case side2 => exact HC0.out); rintro e w10 ⟨rfl, hb⟩; have n0_ := Aside0.mk (blk_below (g := gb336) (o := .cells #[.int .i64 a1_0, .int .i64 a1_1, .int .i64 a1_2, .int .i64 a1_3] 41 (0, 0)) (by (with_reducible repeat (first | refine blk_drewN ?_ _ | refine blk_drew ?_ | refine blk_alloc ?_ _)); exact BK336.out) hb); have n1_ := Aside0.mk (below_step (by repeat (first | (with_reducible first | exact HB.out | apply below_alloc | apply pw_below_drewN | apply below_drew1 | refine below_set ?_ GE336.out) | exact HB.out)) hb); clear BK336; clear HB; have BK336 := n0_; have HB := n1_; clear n0_ n1_; (try clear hb); (try clear hb2); (try clear hk); (try clear hi); have hcz11_0 : w10.cell? ⟨gb336, 0, none⟩ = some (.int .i64 a1_0) := (blk_cell BK336.out 0).trans rfl; have hcz11_1 : w10.cell? ⟨gb336, 1, none⟩ = some (.int .i64 a1_1) := (blk_cell BK336.out 1).trans rfl; have hcz11_2 : w10.cell? ⟨gb336, 2, none⟩ = some (.int .i64 a1_2) := (blk_cell BK336.out 2).trans rfl; have hcz11_3 : w10.cell? ⟨gb336, 3, none⟩ = some (.int .i64 a1_3) := (blk_cell BK336.out 3).trans rfl; have hfz11_0 := blk_frozen BK336.out 0; have hfz11_1 := blk_frozen BK336.out 1; have hfz11_2 := blk_frozen BK336.out 2; have hfz11_3 := blk_frozen BK336.out 3) | ((with_reducible refine gate_callee (f := 81) rfl ?_); refine goesL_ (some 17) rfl rfl Try.func81 (by kernel_rfl) rfl #[.slice A0 l0.length c0, .agg #[.int .i64 a1_0, .int .i64 a1_1, .int .i64 a1_2, .int .i64 a1_3]] rfl (by (try simp only [List.map_toArray, List.map_cons, List.map_nil]); first | done | rfl | (simp only [List.length_drop, List.length_take]; rfl)) ?_; (with_reducible refine (spec_maDo.calls k _ _ l0 a1_0 a1_1 a1_2 a1_3 t339 _ ?side1 ?side2 A7.out).mono ?_); (case side1 => repeat (first | exact (Kd.C_below HR0.out HB.out) | (with_reducible refine Kd.C_alloc ?_ _) | (with_reducible refine Kd.C_drewN ?_ _) | (with_reducible refine Kd.C_drew ?_))); (case side2 => exact HC0.out); rintro e w12 ⟨v340, rfl, ho0, hb⟩; refine ⟨_, rfl, ?_⟩; have n0_ := Aside0.mk (Kd.S_lower ho0 (below_size (by repeat (first | (with_reducible first | exact HB.out | apply below_alloc | apply pw_below_drewN | apply below_drew1 | refine below_set ?_ GE336.out) | exact HB.out)))); have n1_ := Aside0.mk (blk_below (g := gb336) (o := .cells #[.int .i64 a1_0, .int .i64 a1_1, .int .i64 a1_2, .int .i64 a1_3] 41 (0, 0)) (by (with_reducible repeat (first | refine blk_drewN ?_ _ | refine blk_drew ?_ | refine blk_alloc ?_ _)); exact BK336.out) hb); have n2_ := Aside0.mk (below_step (by repeat (first | (with_reducible first | exact HB.out | apply below_alloc | apply pw_below_drewN | apply below_drew1 | refine below_set ?_ GE336.out) | exact HB.out)) hb); clear BK336; clear HB; have HO341 := n0_; have BK336 := n1_; have HB := n2_; clear n0_ n1_ n2_; (try clear hb); (try clear hb2); (try clear hk); (try clear hi); (try clear ho0)))
      go_ret2
      exact ⟨_, by first | rfl | (simp [errW_none, errW_some] <;> rfl) | (simp [*, errW_none, errW_some] <;> rfl), by (with_reducible repeat (first | apply Kd.S_alloc | apply Kd.S_drewN | apply Kd.S_drew)); exact HO341.out, by repeat (first | (with_reducible first | exact HB.out | apply below_alloc | apply pw_below_drewN | apply below_drew1 | refine below_set ?_ GE336.out) | exact HB.out)⟩
    · replace c6 := Bool.eq_false_iff.mpr c6
      subst c6
      have H1 : (some (([] : List (List Int)), false)) = some (r1, r2) := by rw [if_neg (show ¬ (false = true) by decide)] at H; exact H
      clear H
      have H := H1
      clear H1
      simp only [Option.some.injEq, Prod.mk.injEq] at H
      obtain ⟨rfl, rfl⟩ := H
      go_enter Try.func38, Try.ntmps38
      go_wp2_with (first | ((with_reducible refine gate_dst (N := 3) rfl ?_); refine box_event ?hg (N := 3) ?hd (cs := #[.int .i64 a1_0, .int .i64 a1_1, .int .i64 a1_2, .int .i64 a1_3]) (t := 41) ?hr ?_; (case hd => rfl); (case hg => rfl); (case hr => first | (go_simp; done) | (go_simp; rfl)); intro gb336 hg w13 hbox hb; have n0_ := Aside0.mk (below_step (by repeat (first | (with_reducible first | exact HB.out | apply below_alloc | apply pw_below_drewN | apply below_drew1) | exact HB.out)) hb); have n1_ := Aside0.mk (hbox); have n2_ := Aside0.mk ((by rw [hg]; exact (below_size (by repeat (first | (with_reducible first | exact HB.out | apply below_alloc | apply pw_below_drewN | apply below_drew1) | exact HB.out))) : w.heap.size ≤ gb336)); have n3_ := Aside0.mk ((by rw [hg]; exact (below_size (by repeat (first | (with_reducible first | exact HB.out | apply below_alloc | apply pw_below_drewN | apply below_drew1) | exact HB.out))) : w.heap.size ≤ gb336)); clear HB; have HB := n0_; have BK336 := n1_; have GW336 := n2_; have GE336 := n3_; clear n0_ n1_ n2_ n3_; clear hb hbox hg) | ((with_reducible refine gate_callee (f := 67) rfl ?_); refine goesL_ (some 7) rfl rfl Try.func67 (by kernel_rfl) rfl #[.slice A0 l0.length c0] rfl (by (try simp only [List.map_toArray, List.map_cons, List.map_nil]); first | done | rfl | (simp only [List.length_drop, List.length_take]; rfl)) ?_; (with_reducible refine (spec_maGrid.calls k _ _ l0 true _ ?side1 ?side2 A3.out).mono ?_); (case side1 => repeat (first | exact (Kd.C_below HR0.out HB.out) | (with_reducible refine Kd.C_alloc ?_ _) | (with_reducible refine Kd.C_drewN ?_ _) | (with_reducible refine Kd.C_drew ?_))); (case side2 => exact HC0.out); rintro e w' ⟨rfl, ⟨nd, rfl⟩⟩; refine ⟨_, rfl, ?_⟩; have hcz14_0 : w13.cell? ⟨gb336, 0, none⟩ = some (.int .i64 a1_0) := (blk_cell BK336.out 0).trans rfl; have hcz14_1 : w13.cell? ⟨gb336, 1, none⟩ = some (.int .i64 a1_1) := (blk_cell BK336.out 1).trans rfl; have hcz14_2 : w13.cell? ⟨gb336, 2, none⟩ = some (.int .i64 a1_2) := (blk_cell BK336.out 2).trans rfl; have hcz14_3 : w13.cell? ⟨gb336, 3, none⟩ = some (.int .i64 a1_3) := (blk_cell BK336.out 3).trans rfl; have hfz14_0 := blk_frozen BK336.out 0; have hfz14_1 := blk_frozen BK336.out 1; have hfz14_2 := blk_frozen BK336.out 2; have hfz14_3 := blk_frozen BK336.out 3) | (go_at_call 80; (with_reducible refine (spec_maIs.calls _ _ l0 a1_0 a1_1 a1_2 a1_3 false _ ?side1 ?side2 A5.out).mono ?_); (case side1 => repeat (first | exact (Kd.C_below HR0.out (by repeat (first | (with_reducible first | exact HB.out | apply below_alloc | apply pw_below_drewN | apply below_drew1 | refine below_set ?_ GE336.out) | exact HB.out))) | (with_reducible refine Kd.C_alloc ?_ _) | (with_reducible refine Kd.C_drewN ?_ _) | (with_reducible refine Kd.C_drew ?_))); (case side2 => exact HC0.out); rintro e w15 ⟨rfl, hb⟩; have n0_ := Aside0.mk (blk_below (g := gb336) (o := .cells #[.int .i64 a1_0, .int .i64 a1_1, .int .i64 a1_2, .int .i64 a1_3] 41 (0, 0)) (by (with_reducible repeat (first | refine blk_drewN ?_ _ | refine blk_drew ?_ | refine blk_alloc ?_ _)); exact BK336.out) hb); have n1_ := Aside0.mk (below_step (by repeat (first | (with_reducible first | exact HB.out | apply below_alloc | apply pw_below_drewN | apply below_drew1 | refine below_set ?_ GE336.out) | exact HB.out)) hb); clear BK336; clear HB; have BK336 := n0_; have HB := n1_; clear n0_ n1_; (try clear hb); (try clear hb2); (try clear hk); (try clear hi)))
      go_ret2
      exact ⟨_, by first | rfl | (simp [errW_none, errW_some] <;> rfl) | (simp [*, errW_none, errW_some] <;> rfl), by first | exact Kd.S_nil _ _ _ _ _ | exact Kd.N_nil _ _ _ _ _ | exact Kd.V_nil _ _ _ _ _ | exact Kd.Q_nil _ _ _ _ _ | exact Kd.R_nil _ _ _ _ _, by repeat (first | (with_reducible first | exact HB.out | apply below_alloc | apply pw_below_drewN | apply below_drew1 | refine below_set ?_ GE336.out) | exact HB.out)⟩
  · replace c4 := Bool.eq_false_iff.mpr c4
    subst c4
    have H1 : (some (([] : List (List Int)), false)) = some (r1, r2) := by rw [if_neg (show ¬ (false = true) by decide)] at H; exact H
    clear H
    have H := H1
    clear H1
    simp only [Option.some.injEq, Prod.mk.injEq] at H
    obtain ⟨rfl, rfl⟩ := H
    go_enter Try.func38, Try.ntmps38
    go_wp2_with (first | ((with_reducible refine gate_dst (N := 3) rfl ?_); refine box_event ?hg (N := 3) ?hd (cs := #[.int .i64 a1_0, .int .i64 a1_1, .int .i64 a1_2, .int .i64 a1_3]) (t := 41) ?hr ?_; (case hd => rfl); (case hg => rfl); (case hr => first | (go_simp; done) | (go_simp; rfl)); intro gb336 hg w16 hbox hb; have n0_ := Aside0.mk (below_step (by repeat (first | (with_reducible first | exact HB.out | apply below_alloc | apply pw_below_drewN | apply below_drew1) | exact HB.out)) hb); have n1_ := Aside0.mk (hbox); have n2_ := Aside0.mk ((by rw [hg]; exact (below_size (by repeat (first | (with_reducible first | exact HB.out | apply below_alloc | apply pw_below_drewN | apply below_drew1) | exact HB.out))) : w.heap.size ≤ gb336)); have n3_ := Aside0.mk ((by rw [hg]; exact (below_size (by repeat (first | (with_reducible first | exact HB.out | apply below_alloc | apply pw_below_drewN | apply below_drew1) | exact HB.out))) : w.heap.size ≤ gb336)); clear HB; have HB := n0_; have BK336 := n1_; have GW336 := n2_; have GE336 := n3_; clear n0_ n1_ n2_ n3_; clear hb hbox hg) | ((with_reducible refine gate_callee (f := 67) rfl ?_); refine goesL_ (some 7) rfl rfl Try.func67 (by kernel_rfl) rfl #[.slice A0 l0.length c0] rfl (by (try simp only [List.map_toArray, List.map_cons, List.map_nil]); first | done | rfl | (simp only [List.length_drop, List.length_take]; rfl)) ?_; (with_reducible refine (spec_maGrid.calls k _ _ l0 false _ ?side1 ?side2 A3.out).mono ?_); (case side1 => repeat (first | exact (Kd.C_below HR0.out HB.out) | (with_reducible refine Kd.C_alloc ?_ _) | (with_reducible refine Kd.C_drewN ?_ _) | (with_reducible refine Kd.C_drew ?_))); (case side2 => exact HC0.out); rintro e w' ⟨rfl, ⟨nd, rfl⟩⟩; refine ⟨_, rfl, ?_⟩))
    go_ret2
    exact ⟨_, by first | rfl | (simp [errW_none, errW_some] <;> rfl) | (simp [*, errW_none, errW_some] <;> rfl), by first | exact Kd.S_nil _ _ _ _ _ | exact Kd.N_nil _ _ _ _ _ | exact Kd.V_nil _ _ _ _ _ | exact Kd.Q_nil _ _ _ _ _ | exact Kd.R_nil _ _ _ _ _, by repeat (first | (with_reducible first | exact HB.out | apply below_alloc | apply pw_below_drewN | apply below_drew1 | refine below_set ?_ GE336.out) | exact HB.out)⟩

end Go.Proofs.Ytojcnapdalpnmaa.P

/- What the law FnExactDoSwitch asks of the functions that it calls: the pure part shows it (Q), the walk uses it (H). -/
namespace Go.Proofs.Ytojcnapdalpnmaa.P
open Go.RowKit Go.Proofs.YtojcnapdalpnmaaW.PrintWords Go.Proofs.YtojcnapdalpnmaaW.PrintLast Go.Proofs.YtojcnapdalpnmaaW.PrintMore
set_option linter.unusedVariables false
set_option linter.unusedSimpArgs false

/-- r = true, and: the input is too large, or both functions answer the same, and all comparisons, marks and looks go well. -/
def laws_FnExactDoSwitch.Good (l0 : List (List Int)) (a1_0 : Int) (a1_1 : Int) (a1_2 : Int) (a1_3 : Int) (r : Bool) : Prop := r = true ∧ ∃ n0 : Int, (∃ k, laws_szIntSS.f k l0 1048576 = some n0) ∧ (n0 < 0 ∨ 0 ≤ n0 ∧ ∃ (w0 w0' : List (List Int)) (l0' : List (List Int)) (wb : Bool) (k0 : Int) (m0 : Int), (∃ k, laws_toIntSS.f k l0 = some l0) ∧ (laws_toSwitch.f a1_0 a1_1 a1_2 a1_3 = some (a1_0, a1_1, a1_2, a1_3)) ∧ (∃ k, spec_DoSwitch.f k l0 a1_0 a1_1 a1_2 a1_3 = some (w0, wb)) ∧ (impl_DoSwitch.f l0 a1_0 a1_1 a1_2 a1_3 = some (w0, wb)) ∧ (∃ k, laws_eqIntSS.f k w0 w0 = some true) ∧ (∃ k, laws_eqIntSS.f k l0 l0 = some true) ∧ (laws_markIntSS.f l0 1 = some (k0, l0')) ∧ (laws_markIntSS.f w0 1 = some (m0, w0')) ∧ (∃ k, laws_heldIntSS.f k w0' 1 = some m0) ∧ 0 ≤ k0 ∧ 0 ≤ m0 ∧ w0'.length = w0.length)

end Go.Proofs.Ytojcnapdalpnmaa.P

namespace Go.Proofs.Ytojcnapdalpnmaa.K
open Go.RowKit Go.Proofs.YtojcnapdalpnmaaW.PrintWords Go.Proofs.YtojcnapdalpnmaaW.PrintLast Go.Proofs.YtojcnapdalpnmaaW.PrintMore Go.Proofs.Ytojcnapdalpnmaa.P
set_option linter.unusedVariables false
set_option linter.unusedSimpArgs false

/-- What a law holds in memory: a set of blocks, and what is known of them. -/
structure Ob where
  S : Nat → Prop
  P : World → Prop
def Loc (o : Ob) : Prop := ∀ W W2 : World, (∀ k, o.S k → W2.heap[k]? = W.heap[k]?) → o.P W → o.P W2
/-- The things held, the youngest first; none lies in another's blocks. -/
def St (W : World) : List Ob → Prop
  | [] => True
  | o :: os => ((∀ k, o.S k → k < W.heap.size) ∧ o.P W ∧ Loc o ∧ ∀ p ∈ os, ∀ k, o.S k → ¬ p.S k) ∧ St W os
theorem St.move {W W2 : World} (hs : W.heap.size ≤ W2.heap.size) : ∀ {os : List Ob}, St W os → (∀ o ∈ os, ∀ k, o.S k → W2.heap[k]? = W.heap[k]?) → St W2 os
  | [], _, _ => trivial
  | o :: os, ⟨⟨h1, h2, h3, h4⟩, h5⟩, hm => ⟨⟨fun k hk => Nat.lt_of_lt_of_le (h1 k hk) hs, h3 W W2 (hm o (by simp)) h2, h3, h4⟩, St.move hs h5 (fun p hp => hm p (by simp [hp]))⟩
theorem St.bound {W : World} : ∀ {os : List Ob}, St W os → ∀ o ∈ os, ∀ k, o.S k → k < W.heap.size
  | [], _, _, ho => by cases ho
  | p :: os, ⟨⟨h1, _⟩, h5⟩, o, ho => by
    rcases List.mem_cons.1 ho with rfl | ho
    · exact h1
    · exact St.bound h5 o ho
theorem St.below {W W2 : World} {os : List Ob} (h : St W os) (hb : Below W.heap.size W W2) : St W2 os :=
  St.move hb.size h (fun o ho k hk => hb.block k (h.bound o ho k hk))
theorem St.get {W : World} : ∀ {os : List Ob}, St W os → ∀ {o : Ob}, o ∈ os → o.P W
  | [], _, _, ho => by cases ho
  | p :: os, ⟨⟨_, h2, _⟩, h5⟩, o, ho => by
    rcases List.mem_cons.1 ho with rfl | ho
    · exact h2
    · exact St.get h5 ho
theorem St.push {W W2 : World} {os : List Ob} (h : St W os) (hb : Below W.heap.size W W2) {o : Ob} (hS : ∀ k, o.S k → W.heap.size ≤ k ∧ k < W2.heap.size) (hP : o.P W2) (hl : Loc o) : St W2 (o :: os) :=
  ⟨⟨fun k hk => (hS k hk).2, hP, hl, fun p hp k hk hk2 => Nat.lt_irrefl _ (Nat.lt_of_lt_of_le (h.bound p hp k hk2) (hS k hk).1)⟩, h.below hb⟩
/-- Two things that one call has made. -/
theorem St.push2 {W W2 : World} {os : List Ob} (h : St W os) (hb : Below W.heap.size W W2) {o p : Ob} (hS : ∀ k, o.S k → W.heap.size ≤ k ∧ k < W2.heap.size) (hP : o.P W2) (hl : Loc o) (hS2 : ∀ k, p.S k → W.heap.size ≤ k ∧ k < W2.heap.size) (hP2 : p.P W2) (hl2 : Loc p) (hne : ∀ k, o.S k → ¬ p.S k) : St W2 (o :: p :: os) := by
  have h2 := St.push h hb hS2 hP2 hl2
  refine ⟨⟨fun k hk => (hS k hk).2, hP, hl, fun q hq k hk hk2 => ?_⟩, h2⟩
  rcases List.mem_cons.1 hq with rfl | hq
  · exact hne k hk hk2
  · exact Nat.lt_irrefl _ (Nat.lt_of_lt_of_le (h.bound q hq k hk2) (hS k hk).1)
/-- A thing is written. -/
theorem St.put {W W2 : World} {S : Nat → Prop} {Q P : World → Prop} {post : List Ob} (hk : Kept W W2 S) (hP : P W2) (hl : Loc ⟨S, P⟩) : ∀ (pre : List Ob), St W (pre ++ ⟨S, Q⟩ :: post) → St W2 (pre ++ ⟨S, P⟩ :: post)
  | [], ⟨⟨h1, h2, h3, h4⟩, h5⟩ => ⟨⟨fun k hk1 => Nat.lt_of_lt_of_le (h1 k hk1) hk.1, hP, hl, h4⟩, St.move hk.1 h5 (fun p hp k hk1 => hk.2 k (h5.bound p hp k hk1) (fun h => h4 p hp k h hk1))⟩
  | o :: pre, ⟨⟨h1, h2, h3, h4⟩, h5⟩ => by
    refine ⟨⟨fun k hk1 => Nat.lt_of_lt_of_le (h1 k hk1) hk.1, h3 W W2 (fun k hk1 => hk.2 k (h1 k hk1) (fun h => h4 ⟨S, Q⟩ (by simp) k hk1 h)) h2, h3, fun p hp => ?_⟩, St.put hk hP hl pre h5⟩
    rcases List.mem_append.1 hp with hp | hp
    · exact h4 p (by simp [hp])
    · rcases List.mem_cons.1 hp with rfl | hp
      · exact fun k hk1 hk2 => h4 ⟨S, Q⟩ (by simp) k hk1 hk2
      · exact h4 p (by simp [hp])
/-- A slice of rows of whole numbers. -/
def obSS (b : Nat) (S : Nat → Prop) (v : Value) (l : List (List Int)) : Ob := ⟨S, fun W => Kd.S (Kd.slice 3 (Kd.int .i64)) 33 W b S v l⟩
theorem obSS_loc (b : Nat) (S : Nat → Prop) (v : Value) (l : List (List Int)) : Loc (obSS b S v l) := fun W W2 h hS => Kd.S_move hS h
theorem St.pushSS {W W2 : World} {os : List Ob} (h : St W os) (hb : Below W.heap.size W W2) {b : Nat} (hle : b ≤ W.heap.size) {v : Value} {l : List (List Int)} (hS : Kd.S (Kd.slice 3 (Kd.int .i64)) 33 W2 W.heap.size (fun _ => True) v l) : ∃ S, St W2 (obSS b S v l :: os) :=
  ⟨fun k => W.heap.size ≤ k ∧ k < W2.heap.size, St.push h hb (o := obSS b _ v l) (fun k hk => hk) (Kd.S_mono (Kd.S_lower (Kd.S_bound hS) hle) (fun k hk => ⟨hk.2.1, hk.2.2.1⟩)) (obSS_loc _ _ _ _)⟩
theorem St.getSS {W : World} {os : List Ob} {b : Nat} {S : Nat → Prop} {v : Value} {l : List (List Int)} (h : St W os) (ho : obSS b S v l ∈ os) : Kd.S (Kd.slice 3 (Kd.int .i64)) 33 W b S v l := St.get h ho
theorem St.sizeSS {W : World} {os : List Ob} {b : Nat} {S : Nat → Prop} {A : Option Addr} {n c : Nat} {l : List (List Int)} (h : St W os) (ho : obSS b S (.slice A n c) l ∈ os) : n ≤ c := (Kd.S_reads' (h.getSS ho)).2.1
theorem St.readSS {W : World} {os : List Ob} {b : Nat} {S : Nat → Prop} {A : Option Addr} {n c : Nat} {l : List (List Int)} (h : St W os) (ho : obSS b S (.slice A n c) l ∈ os) : Kd.C (Kd.slice 3 (Kd.int .i64)) W A l.length l := (Kd.S_reads' (h.getSS ho)).2.2
/-- A slice of things that hold no further blocks. -/
def obF {α : Type} (d : Kd α) (e b : Nat) (v : Value) (l : List α) : Ob := ⟨fun k => some k = v.ownBlock, fun W => d.R e W b (fun k => some k = v.ownBlock) v l⟩
section
variable {α β : Type} {d : Kd α} {e b : Nat} {d2 : Kd β} {e2 b2 : Nat}
theorem obF_loc (d : Kd α) (e b : Nat) (v : Value) (l : List α) : Loc (obF d e b v l) := fun W W2 h hS => Kd.R_move hS h
theorem obF_in {W W2 : World} {ok : Nat → Prop} {v : Value} {l : List α} (h : d.R e W2 W.heap.size ok v l) : ∀ k, (obF d e b v l).S k → W.heap.size ≤ k ∧ k < W2.heap.size := fun k hk => ⟨Kd.R_base h k hk.symm, Kd.R_lt h k hk.symm⟩
theorem St.pushF {W W2 : World} {os : List Ob} (h : St W os) (hb : Below W.heap.size W W2) (hE : d.E = []) (hle : b ≤ W.heap.size) {ok : Nat → Prop} {v : Value} {l : List α} (hS : d.R e W2 W.heap.size ok v l) : St W2 (obF d e b v l :: os) :=
  St.push h hb (obF_in hS) (Kd.R_lower (Kd.R_tight hE hS) hle) (obF_loc _ _ _ _ _)
theorem St.pushF2 {W W2 : World} {os : List Ob} (h : St W os) (hb : Below W.heap.size W W2) (hE : d.E = []) (hE2 : d2.E = []) (hle : b ≤ W.heap.size) {v v2 : Value} {l : List α} {l2 : List β} (hS : d.R e W2 W.heap.size (fun k => some k ≠ v2.ownBlock) v l) {ok2 : Nat → Prop} (hS2 : d2.R e2 W2 W.heap.size ok2 v2 l2) : St W2 (obF d e b v l :: obF d2 e2 b v2 l2 :: os) :=
  St.push2 h hb (obF_in hS) (Kd.R_lower (Kd.R_tight hE hS) hle) (obF_loc _ _ _ _ _) (obF_in hS2) (Kd.R_lower (Kd.R_tight hE2 hS2) hle) (obF_loc _ _ _ _ _) (fun k hk hk2 => hS.1 k hk.symm hk2)
theorem St.getF {W : World} {os : List Ob} {v : Value} {l : List α} (h : St W os) (ho : obF d e b v l ∈ os) : d.R e W b (fun k => some k = v.ownBlock) v l := St.get h ho
theorem St.sizeF {W : World} {os : List Ob} {A : Option Addr} {n c : Nat} {l : List α} (h : St W os) (ho : obF d e b (.slice A n c) l ∈ os) : n ≤ c := (Kd.R_reads' (h.getF ho)).2.1
theorem St.readF {W : World} {os : List Ob} {A : Option Addr} {n c : Nat} {l : List α} (h : St W os) (ho : obF d e b (.slice A n c) l ∈ os) : d.C W A l.length l := (Kd.R_reads' (h.getF ho)).2.2
theorem St.putF {W W2 : World} {v : Value} {l l2 : List α} {post : List Ob} (pre : List Ob) (h : St W (pre ++ obF d e b v l :: post)) (hE : d.E = []) {ok : Nat → Prop} (hk : Kept W W2 (fun k => some k = v.ownBlock)) (hP : d.R e W2 b ok v l2) : St W2 (pre ++ obF d e b v l2 :: post) :=
  St.put hk (Kd.R_tight hE hP) (obF_loc _ _ _ _ _) pre h
end
theorem St.putSS {W W2 : World} {b : Nat} {S : Nat → Prop} {v : Value} {l l2 : List (List Int)} {post : List Ob} (pre : List Ob) (h : St W (pre ++ obSS b S v l :: post)) (hk : Kept W W2 S) (hP : Kd.S (Kd.slice 3 (Kd.int .i64)) 33 W2 b S v l2) : St W2 (pre ++ obSS b S v l2 :: post) :=
  St.put hk hP (obSS_loc _ _ _ _) pre h
/-- A boxed struct of two cells. -/
def obB (g : Nat) (u0 u1 : Value) : Ob := ⟨fun k => k = g, fun W => W.cell? ⟨g, 0, none⟩ = some u0 ∧ W.cell? ⟨g, 1, none⟩ = some u1⟩
theorem cell_same {W W2 : World} {g i : Nat} (h : W2.heap[g]? = W.heap[g]?) : W2.cell? ⟨g, i, none⟩ = W.cell? ⟨g, i, none⟩ := by
  unfold World.cell?
  simp only [h]
theorem obB_loc (g : Nat) (u0 u1 : Value) : Loc (obB g u0 u1) := fun W W2 h hS => by
  have e := h g rfl
  exact ⟨(cell_same e).trans hS.1, (cell_same e).trans hS.2⟩
theorem St.getB {W : World} {os : List Ob} {g : Nat} {u0 u1 : Value} (h : St W os) (ho : obB g u0 u1 ∈ os) : W.cell? ⟨g, 0, none⟩ = some u0 ∧ W.cell? ⟨g, 1, none⟩ = some u1 := St.get h ho
theorem St.pushBox {W : World} {os : List Ob} {u0 u1 : Value} {t : Nat} (h : St W os) : St (W.alloc (.cells #[u0, u1] t)) (obB W.heap.size u0 u1 :: os) := by
  have h1 : (W.alloc (.cells #[u0, u1] t)).heap.size = W.heap.size + 1 := by rw [← World.alloc_eq]; simp
  refine St.push h (below_alloc (Below.refl W.heap.size W) _) (fun k hk => ?_) ⟨by simp, by simp⟩ (obB_loc _ _ _)
  obtain rfl : k = W.heap.size := hk
  omega
/-- A boxed struct of four cells. -/
def obB4 (g : Nat) (u0 u1 u2 u3 : Value) : Ob := ⟨fun k => k = g, fun W => W.cell? ⟨g, 0, none⟩ = some u0 ∧ W.cell? ⟨g, 1, none⟩ = some u1 ∧ W.cell? ⟨g, 2, none⟩ = some u2 ∧ W.cell? ⟨g, 3, none⟩ = some u3⟩
theorem obB4_loc (g : Nat) (u0 u1 u2 u3 : Value) : Loc (obB4 g u0 u1 u2 u3) := fun W W2 h hS => by
  have e := h g rfl
  exact ⟨(cell_same e).trans hS.1, (cell_same e).trans hS.2.1, (cell_same e).trans hS.2.2.1, (cell_same e).trans hS.2.2.2⟩
theorem St.getB4 {W : World} {os : List Ob} {g : Nat} {u0 u1 u2 u3 : Value} (h : St W os) (ho : obB4 g u0 u1 u2 u3 ∈ os) : W.cell? ⟨g, 0, none⟩ = some u0 ∧ W.cell? ⟨g, 1, none⟩ = some u1 ∧ W.cell? ⟨g, 2, none⟩ = some u2 ∧ W.cell? ⟨g, 3, none⟩ = some u3 := St.get h ho
theorem St.pushBox4 {W : World} {os : List Ob} {u0 u1 u2 u3 : Value} {t : Nat} (h : St W os) : St (W.alloc (.cells #[u0, u1, u2, u3] t)) (obB4 W.heap.size u0 u1 u2 u3 :: os) := by
  have h1 : (W.alloc (.cells #[u0, u1, u2, u3] t)).heap.size = W.heap.size + 1 := by rw [← World.alloc_eq]; simp
  refine St.push h (below_alloc (Below.refl W.heap.size W) _) (fun k hk => ?_) ⟨by simp, by simp, by simp, by simp⟩ (obB4_loc _ _ _ _ _)
  obtain rfl : k = W.heap.size := hk
  omega

end Go.Proofs.Ytojcnapdalpnmaa.K

namespace Go.Proofs.Ytojcnapdalpnmaa.P
open Go.RowKit Go.Proofs.YtojcnapdalpnmaaW.PrintWords Go.Proofs.YtojcnapdalpnmaaW.PrintLast Go.Proofs.YtojcnapdalpnmaaW.PrintMore
attribute [local go_sem] max2_int min2_int max_two min_two max_three min_three max_four min_four   -- for this text's walks alone
set_option linter.unusedVariables false
set_option linter.unusedSimpArgs false

/-! ### laws_heldSwitchS: function 45 -/
def laws_heldSwitchS.l0 : Nat → List (S41) → Int → Int → Option (Int)
  | 0, _, _, _ => none
  | k + 1, x0, x1, x5 => if x5 < (x0.length : Int) then (if 0 ≤ x5 then (if ((rd_T41 x0 x5).f0) = x1 then (if ((rd_T41 x0 x5).f1) = (wrap64 (x1 + 1)) then (if ((rd_T41 x0 x5).f2) = (wrap64 ((wrap64 (x1 + 1)) + 1)) then (if ((rd_T41 x0 x5).f3) = (wrap64 ((wrap64 ((wrap64 (x1 + 1)) + 1)) + 1)) then (laws_heldSwitchS.l0 k x0 (wrap64 ((wrap64 ((wrap64 ((wrap64 (x1 + 1)) + 1)) + 1)) + 1)) (wrap64 (x5 + 1))) else (some (-1))) else (some (-1))) else (some (-1))) else (some (-1))) else (none)) else (some x1)
def laws_heldSwitchS.f (k : Nat) (l0 : List (S41)) (a1 : Int) : Option (Int) := laws_heldSwitchS.l0 k l0 a1 0
theorem laws_heldSwitchS.mono_l : ∀ k, (∀ y0 y1 y2, LeO (laws_heldSwitchS.l0 k y0 y1 y2) (laws_heldSwitchS.l0 (k + 1) y0 y1 y2))
  | 0 => fun _ _ _ r h => by simp [laws_heldSwitchS.l0] at h
  | k + 1 => by
    have ih0 := laws_heldSwitchS.mono_l k
    · intro y0 y1 y2
      unfold laws_heldSwitchS.l0
      repeat' first
      | (with_reducible exact ih0 _ _ _)
      | (with_reducible exact LeO.refl _)
      | (with_reducible exact LeO.none _)
      | (with_reducible refine LeO.ite ?_ ?_)
      | (with_reducible refine LeO.bind ?_ (fun _ => ?_))
      | exact ih0 _ _ _
      | exact LeO.none _
      | refine LeO.ite ?_ ?_
      | refine LeO.bind ?_ (fun _ => ?_)
theorem laws_heldSwitchS.mono : ∀ a0 a1 k, LeO (laws_heldSwitchS.f k a0 a1) (laws_heldSwitchS.f (k + 1) a0 a1) := by
  intro a0 a1 k
  have ih0 := laws_heldSwitchS.mono_l k
  unfold laws_heldSwitchS.f
  repeat' first
      | (with_reducible exact ih0 _ _ _)
      | (with_reducible exact LeO.refl _)
      | (with_reducible exact LeO.none _)
      | (with_reducible refine LeO.ite ?_ ?_)
      | (with_reducible refine LeO.bind ?_ (fun _ => ?_))
      | exact ih0 _ _ _
      | exact LeO.none _
      | refine LeO.ite ?_ ?_
      | refine LeO.bind ?_ (fun _ => ?_)
set_option maxHeartbeats 8000000 in
set_option maxRecDepth 100000 in
theorem laws_heldSwitchS.calls (k : Nat) (A0 : Option Addr) (c0 : Nat) (l0 : List (S41)) (a1 : Int) (r : Int) (w : World) (hr0 : Kd.C k41 w A0 l0.length l0) (hc0 : l0.length ≤ c0) (h : laws_heldSwitchS.f k l0 a1 = some r) :
    Calls Try.prog 45 #[.slice A0 l0.length c0, .int .i64 a1] w fun e w' => e = .returned (.int .i64 r) ∧ Drawn0 w w' := by
  have HR0 := Aside0.mk hr0
  have HC0 := Aside0.mk hc0
  clear hr0 hc0
  have H : (laws_heldSwitchS.l0 k l0 a1 0) = some r := h
  clear h
  have H' := Aside0.mk H
  clear H
  go_enter Try.func45, Try.ntmps45
  go_wp2
  go_loopg [1, 5] k (fun kq v1 v5 w' => ∃ (x1_1 : Int) (x5_1 : Int), v1 = .int .i64 x1_1 ∧ v5 = .int .i64 x5_1 ∧ Aside0 (laws_heldSwitchS.l0 kq l0 x1_1 x5_1 = some r) ∧ Aside0 (kq ≤ k) ∧ Drawn0 w w')
  case atStart => exact ⟨(a1), (0), (by first | rfl | (simp; done) | (simp [*]; done)), (by first | rfl | (simp; done) | (simp [*]; done)), H', ⟨Nat.le_refl _⟩, by repeat (first | exact Drawn0.refl _ | apply Drawn0.step)⟩
  case round =>
    clear H'
    try clear p2
    obtain ⟨x1_1, x5_1, rfl, rfl, HA, HK1, ⟨m1, rfl⟩⟩ := hrel
    cases gk with
    | zero => exact absurd HA.out (by simp [laws_heldSwitchS.l0])
    | succ k1 =>
      have H := HA.out
      clear HA
      simp only [laws_heldSwitchS.l0] at H
      by_cases c3 : x5_1 < (l0.length : Int)
      · rw [if_pos c3] at H
        have c3b0 : decide (x5_1 < (l0.length : Int)) = true := decide_eq_true c3
        clear c3
        by_cases c4 : 0 ≤ x5_1
        · rw [if_pos c4] at H
          have c4b0 : decide (0 ≤ x5_1) = true := decide_eq_true c4
          clear c4
          by_cases c5 : ((rd_T41 l0 x5_1).f0) = x1_1
          · rw [if_pos c5] at H
            have c5b0 : (((rd_T41 l0 x5_1).f0) == x1_1) = true := beq_iff_eq.mpr c5
            have c5b1 : (((rd_T41 l0 x5_1).f0) != x1_1) = false := bne_eq_false_iff_eq.mpr c5
            clear c5
            by_cases c6 : ((rd_T41 l0 x5_1).f1) = (wrap64 (x1_1 + 1))
            · rw [if_pos c6] at H
              have c6b0 : (((rd_T41 l0 x5_1).f1) == (wrap64 (x1_1 + 1))) = true := beq_iff_eq.mpr c6
              have c6b1 : (((rd_T41 l0 x5_1).f1) != (wrap64 (x1_1 + 1))) = false := bne_eq_false_iff_eq.mpr c6
              clear c6
              by_cases c7 : ((rd_T41 l0 x5_1).f2) = (wrap64 ((wrap64 (x1_1 + 1)) + 1))
              · rw [if_pos c7] at H
                have c7b0 : (((rd_T41 l0 x5_1).f2) == (wrap64 ((wrap64 (x1_1 + 1)) + 1))) = true := beq_iff_eq.mpr c7
                have c7b1 : (((rd_T41 l0 x5_1).f2) != (wrap64 ((wrap64 (x1_1 + 1)) + 1))) = false := bne_eq_false_iff_eq.mpr c7
                clear c7
                by_cases c8 : ((rd_T41 l0 x5_1).f3) = (wrap64 ((wrap64 ((wrap64 (x1_1 + 1)) + 1)) + 1))
                · rw [if_pos c8] at H
                  have c8b0 : (((rd_T41 l0 x5_1).f3) == (wrap64 ((wrap64 ((wrap64 (x1_1 + 1)) + 1)) + 1))) = true := beq_iff_eq.mpr c8
                  have c8b1 : (((rd_T41 l0 x5_1).f3) != (wrap64 ((wrap64 ((wrap64 (x1_1 + 1)) + 1)) + 1))) = false := bne_eq_false_iff_eq.mpr c8
                  clear c8
                  have H' := Aside0.mk H
                  clear H
                  have p368 : 0 ≤ (x5_1 : Int) := of_decide_eq_true (by first | (with_reducible assumption) | assumption)
                  have q368 : x5_1 < (l0.length : Int) := of_decide_eq_true (by first | (with_reducible assumption) | assumption)
                  obtain ⟨ad368, e368, hx368_0, hx368_1, hx368_2, hx368_3⟩ := at_T41 HR0.out x5_1 p368 q368
                  cases e368
                  replace p368 := eq_true p368
                  replace q368 := eq_true q368
                  have p369 : 0 ≤ (x5_1 : Int) := of_decide_eq_true (by first | (with_reducible assumption) | assumption)
                  have q369 : x5_1 < (l0.length : Int) := of_decide_eq_true (by first | (with_reducible assumption) | assumption)
                  obtain ⟨ad369, e369, hx369_0, hx369_1, hx369_2, hx369_3⟩ := at_T41 HR0.out x5_1 p369 q369
                  obtain rfl : ad368 = ad369 := (by injection e369)
                  replace p369 := eq_true p369
                  replace q369 := eq_true q369
                  have p370 : 0 ≤ (x5_1 : Int) := of_decide_eq_true (by first | (with_reducible assumption) | assumption)
                  have q370 : x5_1 < (l0.length : Int) := of_decide_eq_true (by first | (with_reducible assumption) | assumption)
                  obtain ⟨ad370, e370, hx370_0, hx370_1, hx370_2, hx370_3⟩ := at_T41 HR0.out x5_1 p370 q370
                  obtain rfl : ad368 = ad370 := (by injection e370)
                  replace p370 := eq_true p370
                  replace q370 := eq_true q370
                  have p371 : 0 ≤ (x5_1 : Int) := of_decide_eq_true (by first | (with_reducible assumption) | assumption)
                  have q371 : x5_1 < (l0.length : Int) := of_decide_eq_true (by first | (with_reducible assumption) | assumption)
                  obtain ⟨ad371, e371, hx371_0, hx371_1, hx371_2, hx371_3⟩ := at_T41 HR0.out x5_1 p371 q371
                  obtain rfl : ad368 = ad371 := (by injection e371)
                  replace p371 := eq_true p371
                  replace q371 := eq_true q371
                  go_wp2
                  go_roundg k1
                  case measure => have := HK1.out; omega
                  case rel => exact ⟨(wrap64 ((wrap64 ((wrap64 ((wrap64 (x1_1 + 1)) + 1)) + 1)) + 1)), (wrap64 (x5_1 + 1)), (by first | rfl | (simp; done) | (simp [*]; done)), (by first | rfl | (simp; done) | (simp [*]; done)), H', ⟨by have := HK1.out; omega⟩, by repeat (first | exact Drawn0.refl _ | apply Drawn0.step)⟩
                · rw [if_neg c8] at H
                  have c8b0 : (((rd_T41 l0 x5_1).f3) == (wrap64 ((wrap64 ((wrap64 (x1_1 + 1)) + 1)) + 1))) = false := beq_eq_false_iff_ne.mpr c8
                  have c8b1 : (((rd_T41 l0 x5_1).f3) != (wrap64 ((wrap64 ((wrap64 (x1_1 + 1)) + 1)) + 1))) = true := bne_iff_ne.mpr c8
                  obtain rfl := Option.some.inj H
                  have p368 : 0 ≤ (x5_1 : Int) := of_decide_eq_true (by first | (with_reducible assumption) | assumption)
                  have q368 : x5_1 < (l0.length : Int) := of_decide_eq_true (by first | (with_reducible assumption) | assumption)
                  obtain ⟨ad368, e368, hx368_0, hx368_1, hx368_2, hx368_3⟩ := at_T41 HR0.out x5_1 p368 q368
                  cases e368
                  replace p368 := eq_true p368
                  replace q368 := eq_true q368
                  have p369 : 0 ≤ (x5_1 : Int) := of_decide_eq_true (by first | (with_reducible assumption) | assumption)
                  have q369 : x5_1 < (l0.length : Int) := of_decide_eq_true (by first | (with_reducible assumption) | assumption)
                  obtain ⟨ad369, e369, hx369_0, hx369_1, hx369_2, hx369_3⟩ := at_T41 HR0.out x5_1 p369 q369
                  obtain rfl : ad368 = ad369 := (by injection e369)
                  replace p369 := eq_true p369
                  replace q369 := eq_true q369
                  have p370 : 0 ≤ (x5_1 : Int) := of_decide_eq_true (by first | (with_reducible assumption) | assumption)
                  have q370 : x5_1 < (l0.length : Int) := of_decide_eq_true (by first | (with_reducible assumption) | assumption)
                  obtain ⟨ad370, e370, hx370_0, hx370_1, hx370_2, hx370_3⟩ := at_T41 HR0.out x5_1 p370 q370
                  obtain rfl : ad368 = ad370 := (by injection e370)
                  replace p370 := eq_true p370
                  replace q370 := eq_true q370
                  have p371 : 0 ≤ (x5_1 : Int) := of_decide_eq_true (by first | (with_reducible assumption) | assumption)
                  have q371 : x5_1 < (l0.length : Int) := of_decide_eq_true (by first | (with_reducible assumption) | assumption)
                  obtain ⟨ad371, e371, hx371_0, hx371_1, hx371_2, hx371_3⟩ := at_T41 HR0.out x5_1 p371 q371
                  obtain rfl : ad368 = ad371 := (by injection e371)
                  replace p371 := eq_true p371
                  replace q371 := eq_true q371
                  go_wp2
                  go_ret
                  exact ⟨by first | rfl | (simp; done) | (simp [*]; done), by repeat (first | exact Drawn0.refl _ | apply Drawn0.step)⟩
              · rw [if_neg c7] at H
                have c7b0 : (((rd_T41 l0 x5_1).f2) == (wrap64 ((wrap64 (x1_1 + 1)) + 1))) = false := beq_eq_false_iff_ne.mpr c7
                have c7b1 : (((rd_T41 l0 x5_1).f2) != (wrap64 ((wrap64 (x1_1 + 1)) + 1))) = true := bne_iff_ne.mpr c7
                obtain rfl := Option.some.inj H
                have p368 : 0 ≤ (x5_1 : Int) := of_decide_eq_true (by first | (with_reducible assumption) | assumption)
                have q368 : x5_1 < (l0.length : Int) := of_decide_eq_true (by first | (with_reducible assumption) | assumption)
                obtain ⟨ad368, e368, hx368_0, hx368_1, hx368_2, hx368_3⟩ := at_T41 HR0.out x5_1 p368 q368
                cases e368
                replace p368 := eq_true p368
                replace q368 := eq_true q368
                have p369 : 0 ≤ (x5_1 : Int) := of_decide_eq_true (by first | (with_reducible assumption) | assumption)
                have q369 : x5_1 < (l0.length : Int) := of_decide_eq_true (by first | (with_reducible assumption) | assumption)
                obtain ⟨ad369, e369, hx369_0, hx369_1, hx369_2, hx369_3⟩ := at_T41 HR0.out x5_1 p369 q369
                obtain rfl : ad368 = ad369 := (by injection e369)
                replace p369 := eq_true p369
                replace q369 := eq_true q369
                have p370 : 0 ≤ (x5_1 : Int) := of_decide_eq_true (by first | (with_reducible assumption) | assumption)
                have q370 : x5_1 < (l0.length : Int) := of_decide_eq_true (by first | (with_reducible assumption) | assumption)
                obtain ⟨ad370, e370, hx370_0, hx370_1, hx370_2, hx370_3⟩ := at_T41 HR0.out x5_1 p370 q370
                obtain rfl : ad368 = ad370 := (by injection e370)
                replace p370 := eq_true p370
                replace q370 := eq_true q370
                go_wp2
                go_ret
                exact ⟨by first | rfl | (simp; done) | (simp [*]; done), by repeat (first | exact Drawn0.refl _ | apply Drawn0.step)⟩
            · rw [if_neg c6] at H
              have c6b0 : (((rd_T41 l0 x5_1).f1) == (wrap64 (x1_1 + 1))) = false := beq_eq_false_iff_ne.mpr c6
              have c6b1 : (((rd_T41 l0 x5_1).f1) != (wrap64 (x1_1 + 1))) = true := bne_iff_ne.mpr c6
              obtain rfl := Option.some.inj H
              have p368 : 0 ≤ (x5_1 : Int) := of_decide_eq_true (by first | (with_reducible assumption) | assumption)
              have q368 : x5_1 < (l0.length : Int) := of_decide_eq_true (by first | (with_reducible assumption) | assumption)
              obtain ⟨ad368, e368, hx368_0, hx368_1, hx368_2, hx368_3⟩ := at_T41 HR0.out x5_1 p368 q368
              cases e368
              replace p368 := eq_true p368
              replace q368 := eq_true q368
              have p369 : 0 ≤ (x5_1 : Int) := of_decide_eq_true (by first | (with_reducible assumption) | assumption)
              have q369 : x5_1 < (l0.length : Int) := of_decide_eq_true (by first | (with_reducible assumption) | assumption)
              obtain ⟨ad369, e369, hx369_0, hx369_1, hx369_2, hx369_3⟩ := at_T41 HR0.out x5_1 p369 q369
              obtain rfl : ad368 = ad369 := (by injection e369)
              replace p369 := eq_true p369
              replace q369 := eq_true q369
              go_wp2
              go_ret
              exact ⟨by first | rfl | (simp; done) | (simp [*]; done), by repeat (first | exact Drawn0.refl _ | apply Drawn0.step)⟩
          · rw [if_neg c5] at H
            have c5b0 : (((rd_T41 l0 x5_1).f0) == x1_1) = false := beq_eq_false_iff_ne.mpr c5
            have c5b1 : (((rd_T41 l0 x5_1).f0) != x1_1) = true := bne_iff_ne.mpr c5
            obtain rfl := Option.some.inj H
            have p368 : 0 ≤ (x5_1 : Int) := of_decide_eq_true (by first | (with_reducible assumption) | assumption)
            have q368 : x5_1 < (l0.length : Int) := of_decide_eq_true (by first | (with_reducible assumption) | assumption)
            obtain ⟨ad368, e368, hx368_0, hx368_1, hx368_2, hx368_3⟩ := at_T41 HR0.out x5_1 p368 q368
            cases e368
            replace p368 := eq_true p368
            replace q368 := eq_true q368
            go_wp2
            go_ret
            exact ⟨by first | rfl | (simp; done) | (simp [*]; done), by repeat (first | exact Drawn0.refl _ | apply Drawn0.step)⟩
        · rw [if_neg c4] at H
          exact absurd H (by simp)
      · rw [if_neg c3] at H
        have c3b0 : decide (x5_1 < (l0.length : Int)) = false := decide_eq_false c3
        clear c3
        obtain rfl := Option.some.inj H
        go_wp2
        go_ret
        exact ⟨by first | rfl | (simp; done) | (simp [*]; done), by repeat (first | exact Drawn0.refl _ | apply Drawn0.step)⟩

end Go.Proofs.Ytojcnapdalpnmaa.P

namespace Go.Proofs.Ytojcnapdalpnmaa.K
open Go.RowKit Go.Proofs.YtojcnapdalpnmaaW.PrintWords Go.Proofs.YtojcnapdalpnmaaW.PrintLast Go.Proofs.YtojcnapdalpnmaaW.PrintMore Go.Proofs.Ytojcnapdalpnmaa.P
theorem heldNIntSS (k : Nat) (A0 : Option Addr) (c0 n : Nat) (l0 : List (List Int)) (a1 : Int) (r : Int) (w : World) (hr0 : Kd.C (Kd.slice 3 (Kd.int .i64)) w A0 l0.length l0) (hc0 : n ≤ c0) (h : laws_heldIntSS.f k l0 a1 = some r) (hn : n = l0.length) :
    Calls Try.prog 30 #[.slice A0 n c0, .int .i64 a1] w fun e w' => e = .returned (.int .i64 r) ∧ Drawn0 w w' := by subst hn; exact laws_heldIntSS.calls k A0 c0 l0 a1 r w hr0 hc0 h
theorem heldNIntS (k : Nat) (A0 : Option Addr) (c0 n : Nat) (l0 : List Int) (a1 : Int) (r : Int) (w : World) (hr0 : Kd.C (Kd.int .i64) w A0 l0.length l0) (hc0 : n ≤ c0) (h : laws_heldIntS.f k l0 a1 = some r) (hn : n = l0.length) :
    Calls Try.prog 37 #[.slice A0 n c0, .int .i64 a1] w fun e w' => e = .returned (.int .i64 r) ∧ Drawn0 w w' := by subst hn; exact laws_heldIntS.calls k A0 c0 l0 a1 r w hr0 hc0 h
theorem heldNSwitchS (k : Nat) (A0 : Option Addr) (c0 n : Nat) (l0 : List S41) (a1 : Int) (r : Int) (w : World) (hr0 : Kd.C k41 w A0 l0.length l0) (hc0 : n ≤ c0) (h : laws_heldSwitchS.f k l0 a1 = some r) (hn : n = l0.length) :
    Calls Try.prog 45 #[.slice A0 n c0, .int .i64 a1] w fun e w' => e = .returned (.int .i64 r) ∧ Drawn0 w w' := by subst hn; exact laws_heldSwitchS.calls k A0 c0 l0 a1 r w hr0 hc0 h

end Go.Proofs.Ytojcnapdalpnmaa.K

namespace Go.Proofs.Ytojcnapdalpnmaa.P
open Go.RowKit Go.Proofs.YtojcnapdalpnmaaW.PrintWords Go.Proofs.YtojcnapdalpnmaaW.PrintLast Go.Proofs.YtojcnapdalpnmaaW.PrintMore
attribute [local go_sem] max2_int min2_int max_two min_two max_three min_three max_four min_four   -- for this text's walks alone
set_option linter.unusedVariables false
set_option linter.unusedSimpArgs false

/-! ### laws_markIntS: function 36 -/
def laws_markIntS.l0 : Nat → List Int → Int → Int → Option (Int × List Int)
  | 0, _, _, _ => none
  | k + 1, x0, x1, x5 => if x5 < (x0.length : Int) then (if 0 ≤ x5 then (laws_markIntS.l0 k (x0.set (x5 : Int).toNat x1) (wrap64 (x1 + 1)) (wrap64 (x5 + 1))) else (none)) else (some (x1, x0))
def laws_markIntS.f (k : Nat) (l0 : List Int) (a1 : Int) : Option (Int × List Int) := laws_markIntS.l0 k l0 a1 0
theorem laws_markIntS.mono_l : ∀ k, (∀ y0 y1 y2, LeO (laws_markIntS.l0 k y0 y1 y2) (laws_markIntS.l0 (k + 1) y0 y1 y2))
  | 0 => fun _ _ _ r h => by simp [laws_markIntS.l0] at h
  | k + 1 => by
    have ih0 := laws_markIntS.mono_l k
    · intro y0 y1 y2
      unfold laws_markIntS.l0
      repeat' first
      | (with_reducible exact ih0 _ _ _)
      | (with_reducible exact LeO.refl _)
      | (with_reducible exact LeO.none _)
      | (with_reducible refine LeO.ite ?_ ?_)
      | (with_reducible refine LeO.bind ?_ (fun _ => ?_))
      | exact ih0 _ _ _
      | exact LeO.none _
      | refine LeO.ite ?_ ?_
      | refine LeO.bind ?_ (fun _ => ?_)
theorem laws_markIntS.mono : ∀ a0 a1 k, LeO (laws_markIntS.f k a0 a1) (laws_markIntS.f (k + 1) a0 a1) := by
  intro a0 a1 k
  have ih0 := laws_markIntS.mono_l k
  unfold laws_markIntS.f
  repeat' first
      | (with_reducible exact ih0 _ _ _)
      | (with_reducible exact LeO.refl _)
      | (with_reducible exact LeO.none _)
      | (with_reducible refine LeO.ite ?_ ?_)
      | (with_reducible refine LeO.bind ?_ (fun _ => ?_))
      | exact ih0 _ _ _
      | exact LeO.none _
      | refine LeO.ite ?_ ?_
      | refine LeO.bind ?_ (fun _ => ?_)
set_option maxHeartbeats 8000000 in
set_option maxRecDepth 100000 in
theorem laws_markIntS.calls (k : Nat) (P0_ : Nat → Prop) (u9000_ : Value) (l0 : List Int) (a1 : Int) (r1 : Int) (r2 : List Int) (w0 w : World) (hB : Below w0.heap.size w0 w) (ho0 : Kd.R (Kd.int .i64) 3 w w0.heap.size P0_ u9000_ l0) (h : laws_markIntS.f k l0 a1 = some (r1, r2)) :
    Calls Try.prog 36 #[u9000_, .int .i64 a1] w fun e w' => e = .returned (.int .i64 r1) ∧ Kd.R (Kd.int .i64) 3 w' w0.heap.size (fun k_ => (P0_ k_ ∨ w.heap.size ≤ k_)) u9000_ r2 ∧ Below w0.heap.size w0 w' ∧ Kept w w' (fun k_ => P0_ k_) := by
  have HO0 := Aside0.mk (show Kd.R (Kd.int .i64) 3 w w0.heap.size (fun k_ => (P0_ k_ ∨ w.heap.size ≤ k_)) u9000_ l0 from Kd.R_mono ho0 (fun k_ hk => (.inl hk)))
  have HK := Aside0.mk (Kept.refl w (fun k_ => P0_ k_))
  have HW0 := Aside0.mk hB.size
  have HB := Aside0.mk hB
  clear hB
  have H : (laws_markIntS.l0 k l0 a1 0) = some (r1, r2) := h
  clear h
  have H' := Aside0.mk H
  clear H
  go_enter Try.func36, Try.ntmps36
  go_wp2
  go_loopg [1, 5] k (fun kq v1 v5 w' => ∃ (x0_1 : List Int) (x1_1 : Int) (x5_1 : Int), v1 = .int .i64 x1_1 ∧ v5 = .int .i64 x5_1 ∧ Aside0 (laws_markIntS.l0 kq x0_1 x1_1 x5_1 = some (r1, r2)) ∧ Aside0 (kq ≤ k) ∧ Aside0 (Kd.R (Kd.int .i64) 3 w' w0.heap.size (fun k_ => (P0_ k_ ∨ w.heap.size ≤ k_)) u9000_ x0_1) ∧ Aside0 (Kept w w' (fun k_ => P0_ k_)) ∧ Aside0 (Below w0.heap.size w0 w'))
  case atStart => exact ⟨(l0), (a1), (0), (by first | rfl | (simp; done) | (simp [*]; done)), (by first | rfl | (simp; done) | (simp [*]; done)), H', ⟨Nat.le_refl _⟩, ⟨by (with_reducible repeat (first | apply Kd.R_alloc | apply Kd.R_drewN | apply Kd.R_drew)); exact HO0.out⟩, ⟨by repeat (first | (with_reducible first | exact HK.out | apply Kept.alloc | apply Kept.drewN | apply Kept.drew) | exact HK.out)⟩, ⟨by repeat (first | (with_reducible first | exact HB.out | apply below_alloc | apply pw_below_drewN | apply below_drew1) | exact HB.out)⟩⟩
  case round =>
    clear H'
    try clear p2
    obtain ⟨x0_1, x1_1, x5_1, rfl, rfl, HA, HK1, HO_0, HK, HB⟩ := hrel
    cases gk with
    | zero => exact absurd HA.out (by simp [laws_markIntS.l0])
    | succ k1 =>
      have H := HA.out
      clear HA
      simp only [laws_markIntS.l0] at H
      by_cases c3 : x5_1 < (x0_1.length : Int)
      · rw [if_pos c3] at H
        have c3b0 : decide (x5_1 < (x0_1.length : Int)) = true := decide_eq_true c3
        clear c3
        by_cases c4 : 0 ≤ x5_1
        · rw [if_pos c4] at H
          have c4b0 : decide (0 ≤ x5_1) = true := decide_eq_true c4
          clear c4
          obtain ⟨y304, hy304⟩ : ∃ y_ : List Int, y_ = (x0_1.set (x5_1 : Int).toNat x1_1) := ⟨_, rfl⟩
          replace H : (laws_markIntS.l0 k1 y304 (wrap64 (x1_1 + 1)) (wrap64 (x5_1 + 1))) = some (r1, r2) := by first | (rw [hy304]; with_reducible exact H) | (have H2_ := (Option.bind_some _ _).symm.trans H; rw [hy304]; with_reducible exact H2_) | (have H2_ := (Option.bind_some _ _).symm.trans H; with_reducible exact H2_) | with_reducible exact H | (rw [hy304]; exact H) | exact H
          have Ny304 := Aside0.mk hy304
          clear hy304
          have H' := Aside0.mk H
          clear H
          obtain ⟨Ao6, co6, eo6⟩ := Kd.R_slice HO_0.out
          subst eo6
          have p5 : 0 ≤ (x5_1 : Int) := of_decide_eq_true (by first | (with_reducible assumption) | assumption)
          have q5 : (x5_1 : Int) < ((x0_1.length : Int) : Int) := of_decide_eq_true (by first | (with_reducible assumption) | assumption)
          obtain ⟨go5, co5, eo5, gb5, gl5, cl5, HG5⟩ := Kd.R_form HO_0.out (by omega)
          (first | cases eo5 | (injection eo5 with ea_ en_ ec_; (first | subst ea_ | (injection ea_ with ea_; subst ea_)); subst ec_; clear en_))
          have GB5 := Aside0.mk gb5
          have GG5 := Aside0.mk HG5
          clear gb5 gl5 HG5
          have HMgo5 := Aside0.mk (show (P0_ go5 ∨ w.heap.size ≤ go5) from (HO_0.out.1 _ rfl))
          obtain ⟨hx5_0, hf5_0⟩ := Kd.R_celln 0 HO_0.out (x5_1 : Int) p5 q5
          replace p5 := eq_true p5
          replace q5 := eq_true q5
          have HP7 := Kd.R_putg HO_0.out (x5_1 : Int) x1_1
          go_wp2_with (first | ((with_reducible refine gate_store (t := 3) (p := 15) rfl ?_); refine store_event (t := 3) (p := 15) (v := ?vo_w8) (w1 := (wr.setCell ⟨go5, (x5_1 : Int).toNat, none⟩ (.int .i64 x1_1))) ?hg ?ho ?hn ?hr ?_; (case ho => rfl); (case hg => rfl); (case hn => rfl); (case hr => first | (go_simp; done) | (go_simp; rfl)); intro w8 hw; have hg : wr.grownBy w8 (some go5) := (by rw [hw]; exact HP7.2); have hp_ : Kd.R (Kd.int .i64) 3 w8 w0.heap.size (fun k_ => (P0_ k_ ∨ w.heap.size ≤ k_)) (.slice (some ⟨go5, 0, none⟩) x0_1.length co6) y304 := (by rw [hw, Ny304.out]; exact HP7.1); clear HP7; have n0_ := Aside0.mk (hp_); have n1_ := Aside0.mk ((by rw [hw]; exact below_set (HB.out) GB5.out : Below w0.heap.size w0 w8)); have n2_ := Aside0.mk (Kept.of_grown (S := (fun k_ => P0_ k_)) hg (by repeat (first | (with_reducible first | exact HK.out | apply Kept.alloc | apply Kept.drewN | apply Kept.drew) | exact HK.out)) (fun k_ e_ => (HO_0.out.1 k_ e_))); clear HO_0; clear HB; clear HK; have HO_0 := n0_; have HB := n1_; have HK := n2_; clear n0_ n1_ n2_; clear hg hw hp_))
          go_roundg k1
          case measure => have := HK1.out; omega
          case rel => exact ⟨(y304), (wrap64 (x1_1 + 1)), (wrap64 (x5_1 + 1)), (by first | rfl | (simp; done) | (simp [*]; done)), (by first | rfl | (simp; done) | (simp [*]; done)), H', ⟨by have := HK1.out; omega⟩, ⟨by (with_reducible repeat (first | apply Kd.R_alloc | apply Kd.R_drewN | apply Kd.R_drew)); exact HO_0.out⟩, ⟨by repeat (first | (with_reducible first | exact HK.out | apply Kept.alloc | apply Kept.drewN | apply Kept.drew) | exact HK.out)⟩, ⟨by repeat (first | (with_reducible first | exact HB.out | apply below_alloc | apply pw_below_drewN | apply below_drew1) | exact HB.out)⟩⟩
        · rw [if_neg c4] at H
          exact absurd H (by simp)
      · rw [if_neg c3] at H
        have c3b0 : decide (x5_1 < (x0_1.length : Int)) = false := decide_eq_false c3
        clear c3
        simp only [Option.some.injEq, Prod.mk.injEq] at H
        obtain ⟨rfl, rfl⟩ := H
        obtain ⟨Ao9, co9, eo9⟩ := Kd.R_slice HO_0.out
        subst eo9
        go_wp2
        go_ret
        exact ⟨by first | rfl | (simp [errW_none, errW_some] <;> rfl) | (simp [*, errW_none, errW_some] <;> rfl), by (with_reducible repeat (first | apply Kd.R_alloc | apply Kd.R_drewN | apply Kd.R_drew)); exact HO_0.out, by repeat (first | (with_reducible first | exact HB.out | apply below_alloc | apply pw_below_drewN | apply below_drew1) | exact HB.out), by repeat (first | (with_reducible first | exact HK.out | apply Kept.alloc | apply Kept.drewN | apply Kept.drew) | exact HK.out)⟩

end Go.Proofs.Ytojcnapdalpnmaa.P

namespace Go.Proofs.Ytojcnapdalpnmaa.K
open Go.RowKit Go.Proofs.YtojcnapdalpnmaaW.PrintWords Go.Proofs.Ytojcnapdalpnmaa.P
set_option linter.unusedVariables false
set_option linter.unusedSimpArgs false

/-- a, a + 1, .. : n numbers. -/
def seqFrom (a : Int) : Nat → List Int
  | 0 => []
  | n + 1 => a :: seqFrom (a + 1) n
theorem seqFrom_length (a : Int) (n : Nat) : (seqFrom a n).length = n := by
  induction n generalizing a with
  | zero => rfl
  | succ n ih => simp [seqFrom, ih]
theorem markIntS_l0 : ∀ (rest done : List Int) (b : Int), (done ++ rest).length ≤ BM → 0 ≤ b → b + rest.length ≤ 4611686018427387904 → Ev (fun k => laws_markIntS.l0 k (done ++ rest) b done.length) (b + rest.length, done ++ seqFrom b rest.length) := by
  intro rest
  induction rest with
  | nil => intro done b h _ _; exact Ev.step (fun k => by simp [laws_markIntS.l0]; rfl) (Ev.some (by simp [seqFrom]))
  | cons x rest ih =>
    intro done b h hb0 hb
    obtain ⟨h1, h2, h3, h4, h5⟩ := mid x done rest h
    have ih' := ih (done ++ [b]) (b + 1) (by simpa using h) (by omega) (by simp at hb; omega)
    refine Ev.step (fun k => by rw [laws_markIntS.l0]) ?_
    have h6 : wrap64 (b + 1) = b + 1 := wrap_id (by omega) (by simp at hb; omega)
    simp only [if_pos h1, if_pos h2, h4, h6, set_mid]
    refine Ev.pair ?_ (show (b + 1 + (rest.length : Int), done ++ [b] ++ seqFrom (b + 1) rest.length) = _ by simp [seqFrom]; omega)
    simpa using ih'
theorem markIntS_f (l : List Int) (a : Int) (h : l.length ≤ BM) (h0 : 0 ≤ a) (ha : a + l.length ≤ 4611686018427387904) : Ev (fun k => laws_markIntS.f k l a) (a + l.length, seqFrom a l.length) := markIntS_l0 l [] a h h0 ha
theorem heldIntS_l0 : ∀ (n : Nat) (done : List Int) (b : Int), (done ++ seqFrom b n).length ≤ BM → 0 ≤ b → b + n ≤ 4611686018427387904 → Ev (fun k => laws_heldIntS.l0 k (done ++ seqFrom b n) b done.length) (b + n) := by
  intro n
  induction n with
  | zero => intro done b h _ _; exact Ev.step (fun k => by simp [laws_heldIntS.l0, seqFrom]; rfl) (Ev.some (by simp))
  | succ n ih =>
    intro done b h hb0 hb
    simp only [seqFrom] at h ⊢
    obtain ⟨h1, h2, h3, h4, h5⟩ := mid b done (seqFrom (b + 1) n) h
    have ih' := ih (done ++ [b]) (b + 1) (by simpa using h) (by omega) (by omega)
    rw [h5] at ih'
    refine Ev.step (fun k => by rw [laws_heldIntS.l0]) ?_
    have h6 : wrap64 (b + 1) = b + 1 := wrap_id (by omega) (by omega)
    simp only [if_pos h1, if_pos h2, h3, h4, h6, if_true]
    exact Ev.pair ih' (by omega)
theorem heldIntS_f (a : Int) (n : Nat) (h : n ≤ BM) (h0 : 0 ≤ a) (ha : a + n ≤ 4611686018427387904) : Ev (fun k => laws_heldIntS.f k (seqFrom a n) a) (a + n) := heldIntS_l0 n [] a (by simpa [seqFrom_length] using h) h0 ha

end Go.Proofs.Ytojcnapdalpnmaa.K

/- Walked by hand: laws.markIntSS, which writes into the rows of a slice of rows that it is handed. -/
namespace Go.Proofs.Ytojcnapdalpnmaa.P
open Go.RowKit Go.Proofs.YtojcnapdalpnmaaW.PrintWords Go.Proofs.YtojcnapdalpnmaaW.PrintLast Go.Proofs.YtojcnapdalpnmaaW.PrintMore Go.Proofs.Ytojcnapdalpnmaa.K
set_option linter.unusedVariables false
set_option linter.unusedSimpArgs false
theorem seqOf_eq (a : Int) (n : Nat) : seqOf a n = seqFrom a n := by
  induction n generalizing a with
  | zero => rfl
  | succ n ih => simp [seqOf, seqFrom, ih]
theorem seqOf_length (a : Int) (n : Nat) : (seqOf a n).length = n := by rw [seqOf_eq, seqFrom_length]
theorem hm_markIntS (P0_ : Nat → Prop) (u : Value) (l0 : List Int) (a1 : Int) (w0 w : World) (hl : l0.length ≤ 1048576) (h0 : 0 ≤ a1) (h1 : a1 ≤ 1099512676352) (hB : Below w0.heap.size w0 w) (ho0 : Kd.R (Kd.int .i64) 3 w w0.heap.size P0_ u l0) :
    Calls Try.prog 36 #[u, .int .i64 a1] w fun e w' => e = .returned (.int .i64 (a1 + l0.length)) ∧ Kd.R (Kd.int .i64) 3 w' w0.heap.size (fun k_ => some k_ = u.ownBlock) u (seqOf a1 l0.length) ∧ Below w0.heap.size w0 w' ∧ Kept w w' (fun k_ => some k_ = u.ownBlock) := by
  obtain ⟨k, hk⟩ := Ev.rounds (markIntS_f l0 a1 (by simp only [BM]; omega) h0 (by omega))
  refine (laws_markIntS.calls k (fun k_ => some k_ = u.ownBlock) u l0 a1 _ _ w0 w hB (Kd.R_tight rfl ho0) hk).mono ?_
  rintro e w' ⟨rfl, h2, h3, h4⟩
  exact ⟨rfl, by rw [seqOf_eq]; exact Kd.R_tight rfl h2, h3, h4⟩
set_option maxHeartbeats 400000 in
set_option maxRecDepth 100000 in
theorem laws_markIntSS.calls (P0_ : Nat → Prop) (u9000_ : Value) (l0 : List (List Int)) (a1 : Int) (r1 : Int) (r2 : List (List Int)) (w0 w : World) (hB : Below w0.heap.size w0 w) (ho0 : Kd.S (Kd.slice 3 (Kd.int .i64)) 33 w w0.heap.size P0_ u9000_ l0) (h : laws_markIntSS.f l0 a1 = some (r1, r2)) :
    Calls Try.prog 29 #[u9000_, .int .i64 a1] w fun e w' => e = .returned (.int .i64 r1) ∧ Kd.S (Kd.slice 3 (Kd.int .i64)) 33 w' w0.heap.size P0_ u9000_ r2 ∧ Below w0.heap.size w0 w' ∧ Kept w w' (fun k_ => P0_ k_) := by
  unfold laws_markIntSS.f at h
  split at h
  case isFalse => cases h
  rename_i hb
  have h := Option.some.inj h
  obtain ⟨hb0, hb1, hb2, hb3⟩ := hb
  obtain ⟨A, c, rfl, hlc, hC⟩ := Kd.S_reads ho0
  have HR := Aside0.mk h
  have HB := Aside0.mk hB
  have HS := Aside0.mk ho0
  have H3 := Aside0.mk hb3
  clear h hB ho0 hb3 hC
  go_enter Try.func29, Try.ntmps29
  go_wp2
  go_loopg [1, 5] l0.length (fun kq v1 v5 w' => ∃ (done rest md : List (List Int)) (b : Int), Aside0 (l0 = done ++ rest) ∧ v1 = .int .i64 b ∧ v5 = .int .i64 (done.length : Int) ∧ Aside0 (md.length = done.length) ∧ Aside0 (0 ≤ b ∧ b ≤ 1048576 + 1048576 * done.length) ∧ Aside0 (r1 = (seqRows b rest).1 ∧ r2 = md ++ (seqRows b rest).2) ∧ Aside0 (kq = rest.length) ∧ Aside0 (Kd.S (Kd.slice 3 (Kd.int .i64)) 33 w' w0.heap.size P0_ (.slice A l0.length c) (md ++ rest)) ∧ Aside0 (Below w0.heap.size w0 w') ∧ Aside0 (Kept w w' (fun k_ => P0_ k_)))
  case atStart => exact ⟨[], l0, [], a1, ⟨rfl⟩, rfl, rfl, ⟨rfl⟩, ⟨⟨hb0, by simp; omega⟩⟩, ⟨by rw [HR.out]; exact ⟨rfl, rfl⟩⟩, ⟨rfl⟩, ⟨HS.out⟩, ⟨HB.out⟩, ⟨Kept.refl _ _⟩⟩
  case round =>
    obtain ⟨done, rest, md, b, HE, rfl, rfl, HM, HBD, HRR, HK, HS1, HB1, HKP⟩ := hrel
    clear HS HB
    cases rest with
    | nil =>
      have hl : done.length = l0.length := by rw [HE.out]; simp
      have c4 : decide ((done.length : Int) < (l0.length : Int)) = false := by simp; omega
      have c5 : decide (done.length < l0.length) = false := by simp; omega
      clear hl
      go_wp2
      go_ret
      have e1 := HRR.out.1
      have e2 := HRR.out.2
      simp only [seqRows] at e1 e2
      subst e1 e2
      refine ⟨rfl, ?_, ?_, ?_⟩
      · repeat (first | exact HS1.out | (with_reducible refine Kd.S_drewN ?_ _) | (with_reducible refine Kd.S_drew ?_))
      · exact below_step HB1.out (by repeat (first | (with_reducible first | exact Below.refl _ _ | apply below_alloc | apply pw_below_drewN | apply below_drew1)))
      · exact HKP.out.below (by repeat (first | (with_reducible first | exact Below.refl _ _ | apply below_alloc | apply pw_below_drewN | apply below_drew1)))
    | cons x rest =>
      have hl : done.length < l0.length := by rw [HE.out]; simp
      cases A with
      | none =>
        exfalso
        have := (Kd.S_reads' HS1.out).2.2
        obtain ⟨_, _, h3⟩ := this
        obtain ⟨ad, h4, _⟩ := h3 (by simp only [List.length_append, List.length_cons]; omega)
        cases h4
      | some ad =>
      obtain ⟨g, rfl⟩ := Kd.R_head (Kd.S_R HS1.out)
      obtain ⟨oki, cs, hcl, hM, hcc, hfr, hok, hH⟩ := Kd.S_elem HS1.out ([] : List Int) (done.length : Int) (by omega) (by omega)
      obtain ⟨v, rfl, hv⟩ := hM
      have hx := hcc 0 v rfl
      simp only [Kd.slice, Nat.mul_one, Nat.add_zero, Int.toNat_natCast] at hx
      have hg : ((md ++ x :: rest).getD (done.length : Int).toNat []) = x := by rw [Int.toNat_natCast, ← HM.out]; simp
      rw [hg] at hv
      have HV := Aside0.mk hv
      have HH := Aside0.mk hH
      clear hv hH hcc hfr hg
      have HX : Aside0 (x.length ≤ 1048576) := ⟨H3.out x (by rw [HE.out]; simp)⟩
      have c4 : decide ((done.length : Int) < (l0.length : Int)) = true := by simp; omega
      have c5 : decide (done.length < l0.length) = true := by simp; omega
      have c6 : (done.length : Int) + 1 ≤ 9223372036854775807 := by omega
      have HB2 : Aside0 (b ≤ 1099512676352) := ⟨by have := HBD.out; omega⟩
      go_wp2_with (first | (go_at_call 36; (with_reducible refine (hm_markIntS oki v x b w0 _ HX.out HBD.out.1 HB2.out ?side1 ?side2).mono ?_); (case side1 => exact below_step HB1.out (by repeat (first | (with_reducible first | exact Below.refl _ _ | apply below_alloc | apply pw_below_drewN | apply below_drew1)))); (case side2 => repeat (first | exact HV.out | (with_reducible refine Kd.R_drewN ?_ _) | (with_reducible refine Kd.R_drew ?_))); rintro e w2 ⟨rfl, hq1, hq2, hq3⟩; have HQ1 := Aside0.mk hq1; have HQ2 := Aside0.mk hq2; have HQ3 := Aside0.mk hq3; clear hq1 hq2 hq3))
      go_roundg rest.length
      case measure => have := HK.out; simp at this; omega
      case rel =>
        have hset : (md ++ x :: rest).set (done.length : Int).toNat (seqOf b x.length) = (md ++ [seqOf b x.length]) ++ rest := by
          rw [Int.toNat_natCast, ← HM.out, List.set_append_right _ _ (Nat.le_refl _), Nat.sub_self]; simp
        have hS2 := Kd.H_back (Kd.H_step HH.out (fun k hk hn hlt => HQ3.out.2 k hlt (fun e => hn (HV.out.1 k e.symm)))) (x' := seqOf b x.length) (okp := fun k_ => some k_ = v.ownBlock) ⟨v, rfl, HQ1.out⟩ (fun k hk => HV.out.1 k hk.symm)
        rw [hset] at hS2
        have hK2 := HKP.out.then_ HQ3.out (fun k hk => .inl (hok k (HV.out.1 k hk.symm)).1)
        have hb := HBD.out
        have hx2 := HX.out
        have hm := HM.out
        have hr := HRR.out
        simp only [seqRows] at hr
        refine ⟨done ++ [x], rest, md ++ [seqOf b x.length], b + x.length, ⟨by rw [HE.out]; simp⟩, rfl, by simp, ⟨by simp [hm]⟩, ⟨⟨by omega, by rw [List.length_append, List.length_singleton]; omega⟩⟩, ⟨⟨hr.1, by rw [hr.2]; simp⟩⟩, ⟨rfl⟩, ⟨?_⟩, ⟨?_⟩, ⟨?_⟩⟩
        · repeat (first | exact hS2 | (with_reducible refine Kd.S_drewN ?_ _) | (with_reducible refine Kd.S_drew ?_))
        · exact below_step HQ2.out (by repeat (first | (with_reducible first | exact Below.refl _ _ | apply below_alloc | apply pw_below_drewN | apply below_drew1)))
        · exact hK2.below (by repeat (first | (with_reducible first | exact Below.refl _ _ | apply below_alloc | apply pw_below_drewN | apply below_drew1)))

end Go.Proofs.Ytojcnapdalpnmaa.P

/- Walked by hand (printed by a program of mine): the law FnExactDoSwitch: with what Good says of the functions that it calls, the call returns true. -/
namespace Go.Proofs.Ytojcnapdalpnmaa.P
open Go.RowKit Go.Proofs.YtojcnapdalpnmaaW.PrintWords Go.Proofs.YtojcnapdalpnmaaW.PrintLast Go.Proofs.YtojcnapdalpnmaaW.PrintMore
set_option linter.unusedVariables false
set_option linter.unusedSimpArgs false

set_option maxHeartbeats 2000000 in
set_option maxRecDepth 100000 in
theorem laws_FnExactDoSwitch.calls (A0 : Option Addr) (c0 : Nat) (l0 : List (List Int)) (a1_0 : Int) (a1_1 : Int) (a1_2 : Int) (a1_3 : Int) (rr : Bool) (w : World) (hr0 : Kd.C (Kd.slice 3 (Kd.int .i64)) w A0 l0.length l0) (hc0 : l0.length ≤ c0) (h : laws_FnExactDoSwitch.Good l0 a1_0 a1_1 a1_2 a1_3 rr) :
    Calls Try.prog 9 #[.slice A0 l0.length c0, .agg #[.int .i64 a1_0, .int .i64 a1_1, .int .i64 a1_2, .int .i64 a1_3]] w fun e w' => e = .returned (.bool rr) ∧ Below w.heap.size w w' := by
  obtain ⟨rfl, h⟩ := h
  have HR0 := Aside0.mk hr0
  have HC0 := Aside0.mk hc0
  have HB := Aside0.mk (Below.refl w.heap.size w)
  have HST := Aside0.mk (K.St.pushBox4 (t := 39) (u0 := .int .i64 a1_0) (u1 := .int .i64 a1_1) (u2 := .int .i64 a1_2) (u3 := .int .i64 a1_3) (show K.St w [] from trivial))
  clear hr0 hc0
  obtain ⟨n0, hsz0, h⟩ := h
  obtain ⟨k0_, hsz0⟩ := hsz0
  have HSZ0 := Aside0.mk hsz0
  clear hsz0
  rcases h with hneg | ⟨hpos0, h⟩
  · have b0 : decide (n0 < 0) = true := decide_eq_true hneg
    clear hneg
    go_enter Try.func9, Try.ntmps9
    go_wp2_with (first | (go_at_call 18; (with_reducible refine (laws_szIntSS.calls _ _ _ l0 _ _ _ ?c0 ?l0 HSZ0.out).mono ?_); (case c0 => first | exact Kd.C_below HR0.out (below_step HB.out (by repeat (first | (with_reducible first | exact Below.refl _ _ | apply below_alloc | apply pw_below_drewN | apply below_drew1)))) | exact K.St.readSS (HST.out.below (by repeat (first | (with_reducible first | exact Below.refl _ _ | apply below_alloc | apply pw_below_drewN | apply below_drew1)))) (by repeat (first | (with_reducible exact List.mem_cons_self) | apply List.mem_cons_of_mem))); (case l0 => first | exact HC0.out | exact K.St.sizeSS (HST.out.below (by repeat (first | (with_reducible first | exact Below.refl _ _ | apply below_alloc | apply pw_below_drewN | apply below_drew1)))) (by repeat (first | (with_reducible exact List.mem_cons_self) | apply List.mem_cons_of_mem))); rintro e w' ⟨rfl, ⟨nd, rfl⟩⟩))
    go_ret
    exact ⟨rfl, below_step HB.out (by repeat (first | (with_reducible first | exact Below.refl _ _ | apply below_alloc | apply pw_below_drewN | apply below_drew1)))⟩
  · have f0 : decide (n0 < 0) = false := decide_eq_false (by omega)
    clear hpos0
    obtain ⟨w0, w0', l0', wb, k0, m0, ⟨k_hto0, hto0⟩, hto1, ⟨k_hsp, hsp⟩, him, ⟨k_hew0, hew0⟩, ⟨k_hel0, hel0⟩, hmk0, hmm0, ⟨k_hh0, hh0⟩, hkk, hp0, hlw0⟩ := h
    have HTO0 := Aside0.mk hto0
    have HTO1 := Aside0.mk hto1
    have HSP := Aside0.mk hsp
    have HIM := Aside0.mk him
    have HEW0 := Aside0.mk hew0
    have HEL0 := Aside0.mk hel0
    have HMK0 := Aside0.mk hmk0
    have HMM0 := Aside0.mk hmm0
    have HH0 := Aside0.mk hh0
    have HLEN0 := Aside0.mk hlw0
    have b1 : decide (k0 < 0) = false := decide_eq_false (by omega)
    have b2_0 : decide (m0 < 0) = false := decide_eq_false (by omega)
    have b3 : (m0 != m0) = false := bne_self_eq_false _
    have b4 : (wb != wb) = false := bne_self_eq_false wb
    clear hto0 hto1 hsp him hew0 hel0 hmk0 hmm0 hh0 hkk hp0 hlw0
    go_enter Try.func9, Try.ntmps9
    go_wp2_with (first | (go_at_call 18; (with_reducible refine (laws_szIntSS.calls _ _ _ l0 _ _ _ ?c0 ?l0 HSZ0.out).mono ?_); (case c0 => first | exact Kd.C_below HR0.out (below_step HB.out (by repeat (first | (with_reducible first | exact Below.refl _ _ | apply below_alloc | apply pw_below_drewN | apply below_drew1)))) | exact K.St.readSS (HST.out.below (by repeat (first | (with_reducible first | exact Below.refl _ _ | apply below_alloc | apply pw_below_drewN | apply below_drew1)))) (by repeat (first | (with_reducible exact List.mem_cons_self) | apply List.mem_cons_of_mem))); (case l0 => first | exact HC0.out | exact K.St.sizeSS (HST.out.below (by repeat (first | (with_reducible first | exact Below.refl _ _ | apply below_alloc | apply pw_below_drewN | apply below_drew1)))) (by repeat (first | (with_reducible exact List.mem_cons_self) | apply List.mem_cons_of_mem))); rintro e w' ⟨rfl, ⟨nd, rfl⟩⟩) | (go_at_call 20; (with_reducible refine (laws_toIntSS.calls _ _ _ l0 _ _ ?c0 ?l0 HTO0.out).mono ?_); (case c0 => first | exact Kd.C_below HR0.out (below_step HB.out (by repeat (first | (with_reducible first | exact Below.refl _ _ | apply below_alloc | apply pw_below_drewN | apply below_drew1)))) | exact K.St.readSS (HST.out.below (by repeat (first | (with_reducible first | exact Below.refl _ _ | apply below_alloc | apply pw_below_drewN | apply below_drew1)))) (by repeat (first | (with_reducible exact List.mem_cons_self) | apply List.mem_cons_of_mem))); (case l0 => first | exact HC0.out | exact K.St.sizeSS (HST.out.below (by repeat (first | (with_reducible first | exact Below.refl _ _ | apply below_alloc | apply pw_below_drewN | apply below_drew1)))) (by repeat (first | (with_reducible exact List.mem_cons_self) | apply List.mem_cons_of_mem))); rintro e w' ⟨v0, rfl, hs0, hb⟩; obtain ⟨A0_, c0_, rfl, -, -⟩ := Kd.S_reads hs0; obtain ⟨S1_, n0_⟩ := K.St.pushSS (b := w.heap.size) (HST.out.below (by repeat (first | (with_reducible first | exact Below.refl _ _ | apply below_alloc | apply pw_below_drewN | apply below_drew1)))) hb (below_size (below_step HB.out (by repeat (first | (with_reducible first | exact Below.refl _ _ | apply below_alloc | apply pw_below_drewN | apply below_drew1))))) hs0; replace n0_ := Aside0.mk n0_; have n1_ := Aside0.mk (below_step (below_step HB.out (by repeat (first | (with_reducible first | exact Below.refl _ _ | apply below_alloc | apply pw_below_drewN | apply below_drew1)))) hb); clear HST HB hs0 hb; have HST := n0_; have HB := n1_; clear n0_ n1_; (try clear hx0 hx1 hx2 hx3); obtain ⟨hx0, hx1, hx2, hx3⟩ := K.St.getB4 (g := w.heap.size) HST.out (by repeat (first | (with_reducible exact List.mem_cons_self) | apply List.mem_cons_of_mem))) | (go_at_call 39; (with_reducible refine (laws_toSwitch.calls a1_0 a1_1 a1_2 a1_3 _ _ _ _ _ HTO1.out).mono ?_); rintro e w' ⟨rfl, hb⟩; have n0_ := Aside0.mk ((HST.out.below (by repeat (first | (with_reducible first | exact Below.refl _ _ | apply below_alloc | apply pw_below_drewN | apply below_drew1)))).below hb); have n1_ := Aside0.mk (below_step (below_step HB.out (by repeat (first | (with_reducible first | exact Below.refl _ _ | apply below_alloc | apply pw_below_drewN | apply below_drew1)))) hb); clear HST HB hb; have HST := n0_; have HB := n1_; clear n0_ n1_; (try clear hx0 hx1 hx2 hx3); obtain ⟨hx0, hx1, hx2, hx3⟩ := K.St.getB4 (g := w.heap.size) HST.out (by repeat (first | (with_reducible exact List.mem_cons_self) | apply List.mem_cons_of_mem))) | (go_at_call 38; (with_reducible refine (spec_DoSwitch.calls _ _ _ l0 a1_0 a1_1 a1_2 a1_3 _ _ _ ?c0 ?l0 HSP.out).mono ?_); (case c0 => first | exact Kd.C_below HR0.out (below_step HB.out (by repeat (first | (with_reducible first | exact Below.refl _ _ | apply below_alloc | apply pw_below_drewN | apply below_drew1)))) | exact K.St.readSS (HST.out.below (by repeat (first | (with_reducible first | exact Below.refl _ _ | apply below_alloc | apply pw_below_drewN | apply below_drew1)))) (by repeat (first | (with_reducible exact List.mem_cons_self) | apply List.mem_cons_of_mem))); (case l0 => first | exact HC0.out | exact K.St.sizeSS (HST.out.below (by repeat (first | (with_reducible first | exact Below.refl _ _ | apply below_alloc | apply pw_below_drewN | apply below_drew1)))) (by repeat (first | (with_reducible exact List.mem_cons_self) | apply List.mem_cons_of_mem))); rintro e w' ⟨v0, rfl, hs0, hb⟩; obtain ⟨A0_, c0_, rfl, -, -⟩ := Kd.S_reads hs0; obtain ⟨S1_, n0_⟩ := K.St.pushSS (b := w.heap.size) (HST.out.below (by repeat (first | (with_reducible first | exact Below.refl _ _ | apply below_alloc | apply pw_below_drewN | apply below_drew1)))) hb (below_size (below_step HB.out (by repeat (first | (with_reducible first | exact Below.refl _ _ | apply below_alloc | apply pw_below_drewN | apply below_drew1))))) hs0; replace n0_ := Aside0.mk n0_; have n1_ := Aside0.mk (below_step (below_step HB.out (by repeat (first | (with_reducible first | exact Below.refl _ _ | apply below_alloc | apply pw_below_drewN | apply below_drew1)))) hb); clear HST HB hs0 hb; have HST := n0_; have HB := n1_; clear n0_ n1_; (try clear hx0 hx1 hx2 hx3); obtain ⟨hx0, hx1, hx2, hx3⟩ := K.St.getB4 (g := w.heap.size) HST.out (by repeat (first | (with_reducible exact List.mem_cons_self) | apply List.mem_cons_of_mem))) | (go_at_call 40; (with_reducible refine (impl_DoSwitch.calls _ _ l0 a1_0 a1_1 a1_2 a1_3 _ _ _ ?c0 ?l0 HIM.out).mono ?_); (case c0 => first | exact Kd.C_below HR0.out (below_step HB.out (by repeat (first | (with_reducible first | exact Below.refl _ _ | apply below_alloc | apply pw_below_drewN | apply below_drew1)))) | exact K.St.readSS (HST.out.below (by repeat (first | (with_reducible first | exact Below.refl _ _ | apply below_alloc | apply pw_below_drewN | apply below_drew1)))) (by repeat (first | (with_reducible exact List.mem_cons_self) | apply List.mem_cons_of_mem))); (case l0 => first | exact HC0.out | exact K.St.sizeSS (HST.out.below (by repeat (first | (with_reducible first | exact Below.refl _ _ | apply below_alloc | apply pw_below_drewN | apply below_drew1)))) (by repeat (first | (with_reducible exact List.mem_cons_self) | apply List.mem_cons_of_mem))); rintro e w' ⟨v0, rfl, hs0, hb⟩; obtain ⟨A0_, c0_, rfl, -, -⟩ := Kd.S_reads hs0; obtain ⟨S1_, n0_⟩ := K.St.pushSS (b := w.heap.size) (HST.out.below (by repeat (first | (with_reducible first | exact Below.refl _ _ | apply below_alloc | apply pw_below_drewN | apply below_drew1)))) hb (below_size (below_step HB.out (by repeat (first | (with_reducible first | exact Below.refl _ _ | apply below_alloc | apply pw_below_drewN | apply below_drew1))))) hs0; replace n0_ := Aside0.mk n0_; have n1_ := Aside0.mk (below_step (below_step HB.out (by repeat (first | (with_reducible first | exact Below.refl _ _ | apply below_alloc | apply pw_below_drewN | apply below_drew1)))) hb); clear HST HB hs0 hb; have HST := n0_; have HB := n1_; clear n0_ n1_; (try clear hx0 hx1 hx2 hx3); obtain ⟨hx0, hx1, hx2, hx3⟩ := K.St.getB4 (g := w.heap.size) HST.out (by repeat (first | (with_reducible exact List.mem_cons_self) | apply List.mem_cons_of_mem))) | (go_at_call 22; (with_reducible refine (laws_eqIntSS.calls _ _ _ w0 _ _ w0 _ _ ?c0 ?l0 ?c1 ?l1 HEW0.out).mono ?_); (case c0 => first | exact Kd.C_below HR0.out (below_step HB.out (by repeat (first | (with_reducible first | exact Below.refl _ _ | apply below_alloc | apply pw_below_drewN | apply below_drew1)))) | exact K.St.readSS (HST.out.below (by repeat (first | (with_reducible first | exact Below.refl _ _ | apply below_alloc | apply pw_below_drewN | apply below_drew1)))) (by repeat (first | (with_reducible exact List.mem_cons_self) | apply List.mem_cons_of_mem))); (case l0 => first | exact HC0.out | exact K.St.sizeSS (HST.out.below (by repeat (first | (with_reducible first | exact Below.refl _ _ | apply below_alloc | apply pw_below_drewN | apply below_drew1)))) (by repeat (first | (with_reducible exact List.mem_cons_self) | apply List.mem_cons_of_mem))); (case c1 => first | exact Kd.C_below HR0.out (below_step HB.out (by repeat (first | (with_reducible first | exact Below.refl _ _ | apply below_alloc | apply pw_below_drewN | apply below_drew1)))) | exact K.St.readSS (HST.out.below (by repeat (first | (with_reducible first | exact Below.refl _ _ | apply below_alloc | apply pw_below_drewN | apply below_drew1)))) (by repeat (first | (with_reducible exact List.mem_cons_self) | apply List.mem_cons_of_mem))); (case l1 => first | exact HC0.out | exact K.St.sizeSS (HST.out.below (by repeat (first | (with_reducible first | exact Below.refl _ _ | apply below_alloc | apply pw_below_drewN | apply below_drew1)))) (by repeat (first | (with_reducible exact List.mem_cons_self) | apply List.mem_cons_of_mem))); rintro e w' ⟨rfl, ⟨nd, rfl⟩⟩) | (go_at_call 22; (with_reducible refine (laws_eqIntSS.calls _ _ _ l0 _ _ l0 _ _ ?c0 ?l0 ?c1 ?l1 HEL0.out).mono ?_); (case c0 => first | exact Kd.C_below HR0.out (below_step HB.out (by repeat (first | (with_reducible first | exact Below.refl _ _ | apply below_alloc | apply pw_below_drewN | apply below_drew1)))) | exact K.St.readSS (HST.out.below (by repeat (first | (with_reducible first | exact Below.refl _ _ | apply below_alloc | apply pw_below_drewN | apply below_drew1)))) (by repeat (first | (with_reducible exact List.mem_cons_self) | apply List.mem_cons_of_mem))); (case l0 => first | exact HC0.out | exact K.St.sizeSS (HST.out.below (by repeat (first | (with_reducible first | exact Below.refl _ _ | apply below_alloc | apply pw_below_drewN | apply below_drew1)))) (by repeat (first | (with_reducible exact List.mem_cons_self) | apply List.mem_cons_of_mem))); (case c1 => first | exact Kd.C_below HR0.out (below_step HB.out (by repeat (first | (with_reducible first | exact Below.refl _ _ | apply below_alloc | apply pw_below_drewN | apply below_drew1)))) | exact K.St.readSS (HST.out.below (by repeat (first | (with_reducible first | exact Below.refl _ _ | apply below_alloc | apply pw_below_drewN | apply below_drew1)))) (by repeat (first | (with_reducible exact List.mem_cons_self) | apply List.mem_cons_of_mem))); (case l1 => first | exact HC0.out | exact K.St.sizeSS (HST.out.below (by repeat (first | (with_reducible first | exact Below.refl _ _ | apply below_alloc | apply pw_below_drewN | apply below_drew1)))) (by repeat (first | (with_reducible exact List.mem_cons_self) | apply List.mem_cons_of_mem))); rintro e w' ⟨rfl, ⟨nd, rfl⟩⟩) | (go_at_call 29; (with_reducible refine (laws_markIntSS.calls _ _ l0 _ _ _ w _ (below_step HB.out (by repeat (first | (with_reducible first | exact Below.refl _ _ | apply below_alloc | apply pw_below_drewN | apply below_drew1)))) (K.St.getSS (HST.out.below (by repeat (first | (with_reducible first | exact Below.refl _ _ | apply below_alloc | apply pw_below_drewN | apply below_drew1)))) (List.mem_cons_of_mem _ (List.mem_cons_of_mem _ List.mem_cons_self))) HMK0.out).mono ?_); rintro e w' ⟨rfl, hs, hb, hk⟩; have n0_ := (K.St.putSS [_, _] (HST.out.below (by repeat (first | (with_reducible first | exact Below.refl _ _ | apply below_alloc | apply pw_below_drewN | apply below_drew1)))) hk hs); simp only [List.cons_append, List.nil_append] at n0_; replace n0_ := Aside0.mk n0_; have n1_ := Aside0.mk hb; clear HST HB hs hb hk; have HST := n0_; have HB := n1_; clear n0_ n1_; (try clear hx0 hx1 hx2 hx3); obtain ⟨hx0, hx1, hx2, hx3⟩ := K.St.getB4 (g := w.heap.size) HST.out (by repeat (first | (with_reducible exact List.mem_cons_self) | apply List.mem_cons_of_mem))) | (go_at_call 29; (with_reducible refine (laws_markIntSS.calls _ _ w0 _ _ _ w _ (below_step HB.out (by repeat (first | (with_reducible first | exact Below.refl _ _ | apply below_alloc | apply pw_below_drewN | apply below_drew1)))) (K.St.getSS (HST.out.below (by repeat (first | (with_reducible first | exact Below.refl _ _ | apply below_alloc | apply pw_below_drewN | apply below_drew1)))) (List.mem_cons_of_mem _ List.mem_cons_self)) HMM0.out).mono ?_); rintro e w' ⟨rfl, hs, hb, hk⟩; have n0_ := (K.St.putSS [_] (HST.out.below (by repeat (first | (with_reducible first | exact Below.refl _ _ | apply below_alloc | apply pw_below_drewN | apply below_drew1)))) hk hs); simp only [List.cons_append, List.nil_append] at n0_; replace n0_ := Aside0.mk n0_; have n1_ := Aside0.mk hb; clear HST HB hs hb hk; have HST := n0_; have HB := n1_; clear n0_ n1_; (try clear hx0 hx1 hx2 hx3); obtain ⟨hx0, hx1, hx2, hx3⟩ := K.St.getB4 (g := w.heap.size) HST.out (by repeat (first | (with_reducible exact List.mem_cons_self) | apply List.mem_cons_of_mem))) | (go_at_call 30; (with_reducible refine (K.heldNIntSS _ _ _ w0.length w0' _ _ _ ?c0 ?l0 HH0.out HLEN0.out.symm).mono ?_); (case c0 => first | exact Kd.C_below HR0.out (below_step HB.out (by repeat (first | (with_reducible first | exact Below.refl _ _ | apply below_alloc | apply pw_below_drewN | apply below_drew1)))) | exact K.St.readSS (HST.out.below (by repeat (first | (with_reducible first | exact Below.refl _ _ | apply below_alloc | apply pw_below_drewN | apply below_drew1)))) (by repeat (first | (with_reducible exact List.mem_cons_self) | apply List.mem_cons_of_mem))); (case l0 => first | exact HC0.out | exact K.St.sizeSS (HST.out.below (by repeat (first | (with_reducible first | exact Below.refl _ _ | apply below_alloc | apply pw_below_drewN | apply below_drew1)))) (by repeat (first | (with_reducible exact List.mem_cons_self) | apply List.mem_cons_of_mem))); rintro e w' ⟨rfl, ⟨nd, rfl⟩⟩))
    go_region_held3 (fun w' => w'.cell? ⟨w.heap.size, 0, none⟩ = some (.int .i64 a1_0) ∧ w'.cell? ⟨w.heap.size, 1, none⟩ = some (.int .i64 a1_1) ∧ w'.cell? ⟨w.heap.size, 2, none⟩ = some (.int .i64 a1_2) ∧ w'.cell? ⟨w.heap.size, 3, none⟩ = some (.int .i64 a1_3)) (exact K.St.getB4 (HST.out.below (by repeat (first | (with_reducible first | exact Below.refl _ _ | apply below_alloc | apply pw_below_drewN | apply below_drew1)))) (by repeat (first | (with_reducible exact List.mem_cons_self) | apply List.mem_cons_of_mem))) (first | (go_at_call 18; (with_reducible refine (laws_szIntSS.calls _ _ _ l0 _ _ _ ?c0 ?l0 HSZ0.out).mono ?_); (case c0 => first | exact Kd.C_below HR0.out (below_step HB.out (by repeat (first | (with_reducible first | exact Below.refl _ _ | apply below_alloc | apply pw_below_drewN | apply below_drew1)))) | exact K.St.readSS (HST.out.below (by repeat (first | (with_reducible first | exact Below.refl _ _ | apply below_alloc | apply pw_below_drewN | apply below_drew1)))) (by repeat (first | (with_reducible exact List.mem_cons_self) | apply List.mem_cons_of_mem))); (case l0 => first | exact HC0.out | exact K.St.sizeSS (HST.out.below (by repeat (first | (with_reducible first | exact Below.refl _ _ | apply below_alloc | apply pw_below_drewN | apply below_drew1)))) (by repeat (first | (with_reducible exact List.mem_cons_self) | apply List.mem_cons_of_mem))); rintro e w' ⟨rfl, ⟨nd, rfl⟩⟩) | (go_at_call 20; (with_reducible refine (laws_toIntSS.calls _ _ _ l0 _ _ ?c0 ?l0 HTO0.out).mono ?_); (case c0 => first | exact Kd.C_below HR0.out (below_step HB.out (by repeat (first | (with_reducible first | exact Below.refl _ _ | apply below_alloc | apply pw_below_drewN | apply below_drew1)))) | exact K.St.readSS (HST.out.below (by repeat (first | (with_reducible first | exact Below.refl _ _ | apply below_alloc | apply pw_below_drewN | apply below_drew1)))) (by repeat (first | (with_reducible exact List.mem_cons_self) | apply List.mem_cons_of_mem))); (case l0 => first | exact HC0.out | exact K.St.sizeSS (HST.out.below (by repeat (first | (with_reducible first | exact Below.refl _ _ | apply below_alloc | apply pw_below_drewN | apply below_drew1)))) (by repeat (first | (with_reducible exact List.mem_cons_self) | apply List.mem_cons_of_mem))); rintro e w' ⟨v0, rfl, hs0, hb⟩; obtain ⟨A0_, c0_, rfl, -, -⟩ := Kd.S_reads hs0; obtain ⟨S1_, n0_⟩ := K.St.pushSS (b := w.heap.size) (HST.out.below (by repeat (first | (with_reducible first | exact Below.refl _ _ | apply below_alloc | apply pw_below_drewN | apply below_drew1)))) hb (below_size (below_step HB.out (by repeat (first | (with_reducible first | exact Below.refl _ _ | apply below_alloc | apply pw_below_drewN | apply below_drew1))))) hs0; replace n0_ := Aside0.mk n0_; have n1_ := Aside0.mk (below_step (below_step HB.out (by repeat (first | (with_reducible first | exact Below.refl _ _ | apply below_alloc | apply pw_below_drewN | apply below_drew1)))) hb); clear HST HB hs0 hb; have HST := n0_; have HB := n1_; clear n0_ n1_; (try clear hx0 hx1 hx2 hx3); obtain ⟨hx0, hx1, hx2, hx3⟩ := K.St.getB4 (g := w.heap.size) HST.out (by repeat (first | (with_reducible exact List.mem_cons_self) | apply List.mem_cons_of_mem))) | (go_at_call 39; (with_reducible refine (laws_toSwitch.calls a1_0 a1_1 a1_2 a1_3 _ _ _ _ _ HTO1.out).mono ?_); rintro e w' ⟨rfl, hb⟩; have n0_ := Aside0.mk ((HST.out.below (by repeat (first | (with_reducible first | exact Below.refl _ _ | apply below_alloc | apply pw_below_drewN | apply below_drew1)))).below hb); have n1_ := Aside0.mk (below_step (below_step HB.out (by repeat (first | (with_reducible first | exact Below.refl _ _ | apply below_alloc | apply pw_below_drewN | apply below_drew1)))) hb); clear HST HB hb; have HST := n0_; have HB := n1_; clear n0_ n1_; (try clear hx0 hx1 hx2 hx3); obtain ⟨hx0, hx1, hx2, hx3⟩ := K.St.getB4 (g := w.heap.size) HST.out (by repeat (first | (with_reducible exact List.mem_cons_self) | apply List.mem_cons_of_mem))) | (go_at_call 38; (with_reducible refine (spec_DoSwitch.calls _ _ _ l0 a1_0 a1_1 a1_2 a1_3 _ _ _ ?c0 ?l0 HSP.out).mono ?_); (case c0 => first | exact Kd.C_below HR0.out (below_step HB.out (by repeat (first | (with_reducible first | exact Below.refl _ _ | apply below_alloc | apply pw_below_drewN | apply below_drew1)))) | exact K.St.readSS (HST.out.below (by repeat (first | (with_reducible first | exact Below.refl _ _ | apply below_alloc | apply pw_below_drewN | apply below_drew1)))) (by repeat (first | (with_reducible exact List.mem_cons_self) | apply List.mem_cons_of_mem))); (case l0 => first | exact HC0.out | exact K.St.sizeSS (HST.out.below (by repeat (first | (with_reducible first | exact Below.refl _ _ | apply below_alloc | apply pw_below_drewN | apply below_drew1)))) (by repeat (first | (with_reducible exact List.mem_cons_self) | apply List.mem_cons_of_mem))); rintro e w' ⟨v0, rfl, hs0, hb⟩; obtain ⟨A0_, c0_, rfl, -, -⟩ := Kd.S_reads hs0; obtain ⟨S1_, n0_⟩ := K.St.pushSS (b := w.heap.size) (HST.out.below (by repeat (first | (with_reducible first | exact Below.refl _ _ | apply below_alloc | apply pw_below_drewN | apply below_drew1)))) hb (below_size (below_step HB.out (by repeat (first | (with_reducible first | exact Below.refl _ _ | apply below_alloc | apply pw_below_drewN | apply below_drew1))))) hs0; replace n0_ := Aside0.mk n0_; have n1_ := Aside0.mk (below_step (below_step HB.out (by repeat (first | (with_reducible first | exact Below.refl _ _ | apply below_alloc | apply pw_below_drewN | apply below_drew1)))) hb); clear HST HB hs0 hb; have HST := n0_; have HB := n1_; clear n0_ n1_; (try clear hx0 hx1 hx2 hx3); obtain ⟨hx0, hx1, hx2, hx3⟩ := K.St.getB4 (g := w.heap.size) HST.out (by repeat (first | (with_reducible exact List.mem_cons_self) | apply List.mem_cons_of_mem))) | (go_at_call 40; (with_reducible refine (impl_DoSwitch.calls _ _ l0 a1_0 a1_1 a1_2 a1_3 _ _ _ ?c0 ?l0 HIM.out).mono ?_); (case c0 => first | exact Kd.C_below HR0.out (below_step HB.out (by repeat (first | (with_reducible first | exact Below.refl _ _ | apply below_alloc | apply pw_below_drewN | apply below_drew1)))) | exact K.St.readSS (HST.out.below (by repeat (first | (with_reducible first | exact Below.refl _ _ | apply below_alloc | apply pw_below_drewN | apply below_drew1)))) (by repeat (first | (with_reducible exact List.mem_cons_self) | apply List.mem_cons_of_mem))); (case l0 => first | exact HC0.out | exact K.St.sizeSS (HST.out.below (by repeat (first | (with_reducible first | exact Below.refl _ _ | apply below_alloc | apply pw_below_drewN | apply below_drew1)))) (by repeat (first | (with_reducible exact List.mem_cons_self) | apply List.mem_cons_of_mem))); rintro e w' ⟨v0, rfl, hs0, hb⟩; obtain ⟨A0_, c0_, rfl, -, -⟩ := Kd.S_reads hs0; obtain ⟨S1_, n0_⟩ := K.St.pushSS (b := w.heap.size) (HST.out.below (by repeat (first | (with_reducible first | exact Below.refl _ _ | apply below_alloc | apply pw_below_drewN | apply below_drew1)))) hb (below_size (below_step HB.out (by repeat (first | (with_reducible first | exact Below.refl _ _ | apply below_alloc | apply pw_below_drewN | apply below_drew1))))) hs0; replace n0_ := Aside0.mk n0_; have n1_ := Aside0.mk (below_step (below_step HB.out (by repeat (first | (with_reducible first | exact Below.refl _ _ | apply below_alloc | apply pw_below_drewN | apply below_drew1)))) hb); clear HST HB hs0 hb; have HST := n0_; have HB := n1_; clear n0_ n1_; (try clear hx0 hx1 hx2 hx3); obtain ⟨hx0, hx1, hx2, hx3⟩ := K.St.getB4 (g := w.heap.size) HST.out (by repeat (first | (with_reducible exact List.mem_cons_self) | apply List.mem_cons_of_mem))) | (go_at_call 22; (with_reducible refine (laws_eqIntSS.calls _ _ _ w0 _ _ w0 _ _ ?c0 ?l0 ?c1 ?l1 HEW0.out).mono ?_); (case c0 => first | exact Kd.C_below HR0.out (below_step HB.out (by repeat (first | (with_reducible first | exact Below.refl _ _ | apply below_alloc | apply pw_below_drewN | apply below_drew1)))) | exact K.St.readSS (HST.out.below (by repeat (first | (with_reducible first | exact Below.refl _ _ | apply below_alloc | apply pw_below_drewN | apply below_drew1)))) (by repeat (first | (with_reducible exact List.mem_cons_self) | apply List.mem_cons_of_mem))); (case l0 => first | exact HC0.out | exact K.St.sizeSS (HST.out.below (by repeat (first | (with_reducible first | exact Below.refl _ _ | apply below_alloc | apply pw_below_drewN | apply below_drew1)))) (by repeat (first | (with_reducible exact List.mem_cons_self) | apply List.mem_cons_of_mem))); (case c1 => first | exact Kd.C_below HR0.out (below_step HB.out (by repeat (first | (with_reducible first | exact Below.refl _ _ | apply below_alloc | apply pw_below_drewN | apply below_drew1)))) | exact K.St.readSS (HST.out.below (by repeat (first | (with_reducible first | exact Below.refl _ _ | apply below_alloc | apply pw_below_drewN | apply below_drew1)))) (by repeat (first | (with_reducible exact List.mem_cons_self) | apply List.mem_cons_of_mem))); (case l1 => first | exact HC0.out | exact K.St.sizeSS (HST.out.below (by repeat (first | (with_reducible first | exact Below.refl _ _ | apply below_alloc | apply pw_below_drewN | apply below_drew1)))) (by repeat (first | (with_reducible exact List.mem_cons_self) | apply List.mem_cons_of_mem))); rintro e w' ⟨rfl, ⟨nd, rfl⟩⟩) | (go_at_call 22; (with_reducible refine (laws_eqIntSS.calls _ _ _ l0 _ _ l0 _ _ ?c0 ?l0 ?c1 ?l1 HEL0.out).mono ?_); (case c0 => first | exact Kd.C_below HR0.out (below_step HB.out (by repeat (first | (with_reducible first | exact Below.refl _ _ | apply below_alloc | apply pw_below_drewN | apply below_drew1)))) | exact K.St.readSS (HST.out.below (by repeat (first | (with_reducible first | exact Below.refl _ _ | apply below_alloc | apply pw_below_drewN | apply below_drew1)))) (by repeat (first | (with_reducible exact List.mem_cons_self) | apply List.mem_cons_of_mem))); (case l0 => first | exact HC0.out | exact K.St.sizeSS (HST.out.below (by repeat (first | (with_reducible first | exact Below.refl _ _ | apply below_alloc | apply pw_below_drewN | apply below_drew1)))) (by repeat (first | (with_reducible exact List.mem_cons_self) | apply List.mem_cons_of_mem))); (case c1 => first | exact Kd.C_below HR0.out (below_step HB.out (by repeat (first | (with_reducible first | exact Below.refl _ _ | apply below_alloc | apply pw_below_drewN | apply below_drew1)))) | exact K.St.readSS (HST.out.below (by repeat (first | (with_reducible first | exact Below.refl _ _ | apply below_alloc | apply pw_below_drewN | apply below_drew1)))) (by repeat (first | (with_reducible exact List.mem_cons_self) | apply List.mem_cons_of_mem))); (case l1 => first | exact HC0.out | exact K.St.sizeSS (HST.out.below (by repeat (first | (with_reducible first | exact Below.refl _ _ | apply below_alloc | apply pw_below_drewN | apply below_drew1)))) (by repeat (first | (with_reducible exact List.mem_cons_self) | apply List.mem_cons_of_mem))); rintro e w' ⟨rfl, ⟨nd, rfl⟩⟩) | (go_at_call 29; (with_reducible refine (laws_markIntSS.calls _ _ l0 _ _ _ w _ (below_step HB.out (by repeat (first | (with_reducible first | exact Below.refl _ _ | apply below_alloc | apply pw_below_drewN | apply below_drew1)))) (K.St.getSS (HST.out.below (by repeat (first | (with_reducible first | exact Below.refl _ _ | apply below_alloc | apply pw_below_drewN | apply below_drew1)))) (List.mem_cons_of_mem _ (List.mem_cons_of_mem _ List.mem_cons_self))) HMK0.out).mono ?_); rintro e w' ⟨rfl, hs, hb, hk⟩; have n0_ := (K.St.putSS [_, _] (HST.out.below (by repeat (first | (with_reducible first | exact Below.refl _ _ | apply below_alloc | apply pw_below_drewN | apply below_drew1)))) hk hs); simp only [List.cons_append, List.nil_append] at n0_; replace n0_ := Aside0.mk n0_; have n1_ := Aside0.mk hb; clear HST HB hs hb hk; have HST := n0_; have HB := n1_; clear n0_ n1_; (try clear hx0 hx1 hx2 hx3); obtain ⟨hx0, hx1, hx2, hx3⟩ := K.St.getB4 (g := w.heap.size) HST.out (by repeat (first | (with_reducible exact List.mem_cons_self) | apply List.mem_cons_of_mem))) | (go_at_call 29; (with_reducible refine (laws_markIntSS.calls _ _ w0 _ _ _ w _ (below_step HB.out (by repeat (first | (with_reducible first | exact Below.refl _ _ | apply below_alloc | apply pw_below_drewN | apply below_drew1)))) (K.St.getSS (HST.out.below (by repeat (first | (with_reducible first | exact Below.refl _ _ | apply below_alloc | apply pw_below_drewN | apply below_drew1)))) (List.mem_cons_of_mem _ List.mem_cons_self)) HMM0.out).mono ?_); rintro e w' ⟨rfl, hs, hb, hk⟩; have n0_ := (K.St.putSS [_] (HST.out.below (by repeat (first | (with_reducible first | exact Below.refl _ _ | apply below_alloc | apply pw_below_drewN | apply below_drew1)))) hk hs); simp only [List.cons_append, List.nil_append] at n0_; replace n0_ := Aside0.mk n0_; have n1_ := Aside0.mk hb; clear HST HB hs hb hk; have HST := n0_; have HB := n1_; clear n0_ n1_; (try clear hx0 hx1 hx2 hx3); obtain ⟨hx0, hx1, hx2, hx3⟩ := K.St.getB4 (g := w.heap.size) HST.out (by repeat (first | (with_reducible exact List.mem_cons_self) | apply List.mem_cons_of_mem))) | (go_at_call 30; (with_reducible refine (K.heldNIntSS _ _ _ w0.length w0' _ _ _ ?c0 ?l0 HH0.out HLEN0.out.symm).mono ?_); (case c0 => first | exact Kd.C_below HR0.out (below_step HB.out (by repeat (first | (with_reducible first | exact Below.refl _ _ | apply below_alloc | apply pw_below_drewN | apply below_drew1)))) | exact K.St.readSS (HST.out.below (by repeat (first | (with_reducible first | exact Below.refl _ _ | apply below_alloc | apply pw_below_drewN | apply below_drew1)))) (by repeat (first | (with_reducible exact List.mem_cons_self) | apply List.mem_cons_of_mem))); (case l0 => first | exact HC0.out | exact K.St.sizeSS (HST.out.below (by repeat (first | (with_reducible first | exact Below.refl _ _ | apply below_alloc | apply pw_below_drewN | apply below_drew1)))) (by repeat (first | (with_reducible exact List.mem_cons_self) | apply List.mem_cons_of_mem))); rintro e w' ⟨rfl, ⟨nd, rfl⟩⟩))
    all_goals (go_wp2_with (first | (go_at_call 18; (with_reducible refine (laws_szIntSS.calls _ _ _ l0 _ _ _ ?c0 ?l0 HSZ0.out).mono ?_); (case c0 => first | exact Kd.C_below HR0.out (below_step HB.out (by repeat (first | (with_reducible first | exact Below.refl _ _ | apply below_alloc | apply pw_below_drewN | apply below_drew1)))) | exact K.St.readSS (HST.out.below (by repeat (first | (with_reducible first | exact Below.refl _ _ | apply below_alloc | apply pw_below_drewN | apply below_drew1)))) (by repeat (first | (with_reducible exact List.mem_cons_self) | apply List.mem_cons_of_mem))); (case l0 => first | exact HC0.out | exact K.St.sizeSS (HST.out.below (by repeat (first | (with_reducible first | exact Below.refl _ _ | apply below_alloc | apply pw_below_drewN | apply below_drew1)))) (by repeat (first | (with_reducible exact List.mem_cons_self) | apply List.mem_cons_of_mem))); rintro e w' ⟨rfl, ⟨nd, rfl⟩⟩) | (go_at_call 20; (with_reducible refine (laws_toIntSS.calls _ _ _ l0 _ _ ?c0 ?l0 HTO0.out).mono ?_); (case c0 => first | exact Kd.C_below HR0.out (below_step HB.out (by repeat (first | (with_reducible first | exact Below.refl _ _ | apply below_alloc | apply pw_below_drewN | apply below_drew1)))) | exact K.St.readSS (HST.out.below (by repeat (first | (with_reducible first | exact Below.refl _ _ | apply below_alloc | apply pw_below_drewN | apply below_drew1)))) (by repeat (first | (with_reducible exact List.mem_cons_self) | apply List.mem_cons_of_mem))); (case l0 => first | exact HC0.out | exact K.St.sizeSS (HST.out.below (by repeat (first | (with_reducible first | exact Below.refl _ _ | apply below_alloc | apply pw_below_drewN | apply below_drew1)))) (by repeat (first | (with_reducible exact List.mem_cons_self) | apply List.mem_cons_of_mem))); rintro e w' ⟨v0, rfl, hs0, hb⟩; obtain ⟨A0_, c0_, rfl, -, -⟩ := Kd.S_reads hs0; obtain ⟨S1_, n0_⟩ := K.St.pushSS (b := w.heap.size) (HST.out.below (by repeat (first | (with_reducible first | exact Below.refl _ _ | apply below_alloc | apply pw_below_drewN | apply below_drew1)))) hb (below_size (below_step HB.out (by repeat (first | (with_reducible first | exact Below.refl _ _ | apply below_alloc | apply pw_below_drewN | apply below_drew1))))) hs0; replace n0_ := Aside0.mk n0_; have n1_ := Aside0.mk (below_step (below_step HB.out (by repeat (first | (with_reducible first | exact Below.refl _ _ | apply below_alloc | apply pw_below_drewN | apply below_drew1)))) hb); clear HST HB hs0 hb; have HST := n0_; have HB := n1_; clear n0_ n1_; (try clear hx0 hx1 hx2 hx3); obtain ⟨hx0, hx1, hx2, hx3⟩ := K.St.getB4 (g := w.heap.size) HST.out (by repeat (first | (with_reducible exact List.mem_cons_self) | apply List.mem_cons_of_mem))) | (go_at_call 39; (with_reducible refine (laws_toSwitch.calls a1_0 a1_1 a1_2 a1_3 _ _ _ _ _ HTO1.out).mono ?_); rintro e w' ⟨rfl, hb⟩; have n0_ := Aside0.mk ((HST.out.below (by repeat (first | (with_reducible first | exact Below.refl _ _ | apply below_alloc | apply pw_below_drewN | apply below_drew1)))).below hb); have n1_ := Aside0.mk (below_step (below_step HB.out (by repeat (first | (with_reducible first | exact Below.refl _ _ | apply below_alloc | apply pw_below_drewN | apply below_drew1)))) hb); clear HST HB hb; have HST := n0_; have HB := n1_; clear n0_ n1_; (try clear hx0 hx1 hx2 hx3); obtain ⟨hx0, hx1, hx2, hx3⟩ := K.St.getB4 (g := w.heap.size) HST.out (by repeat (first | (with_reducible exact List.mem_cons_self) | apply List.mem_cons_of_mem))) | (go_at_call 38; (with_reducible refine (spec_DoSwitch.calls _ _ _ l0 a1_0 a1_1 a1_2 a1_3 _ _ _ ?c0 ?l0 HSP.out).mono ?_); (case c0 => first | exact Kd.C_below HR0.out (below_step HB.out (by repeat (first | (with_reducible first | exact Below.refl _ _ | apply below_alloc | apply pw_below_drewN | apply below_drew1)))) | exact K.St.readSS (HST.out.below (by repeat (first | (with_reducible first | exact Below.refl _ _ | apply below_alloc | apply pw_below_drewN | apply below_drew1)))) (by repeat (first | (with_reducible exact List.mem_cons_self) | apply List.mem_cons_of_mem))); (case l0 => first | exact HC0.out | exact K.St.sizeSS (HST.out.below (by repeat (first | (with_reducible first | exact Below.refl _ _ | apply below_alloc | apply pw_below_drewN | apply below_drew1)))) (by repeat (first | (with_reducible exact List.mem_cons_self) | apply List.mem_cons_of_mem))); rintro e w' ⟨v0, rfl, hs0, hb⟩; obtain ⟨A0_, c0_, rfl, -, -⟩ := Kd.S_reads hs0; obtain ⟨S1_, n0_⟩ := K.St.pushSS (b := w.heap.size) (HST.out.below (by repeat (first | (with_reducible first | exact Below.refl _ _ | apply below_alloc | apply pw_below_drewN | apply below_drew1)))) hb (below_size (below_step HB.out (by repeat (first | (with_reducible first | exact Below.refl _ _ | apply below_alloc | apply pw_below_drewN | apply below_drew1))))) hs0; replace n0_ := Aside0.mk n0_; have n1_ := Aside0.mk (below_step (below_step HB.out (by repeat (first | (with_reducible first | exact Below.refl _ _ | apply below_alloc | apply pw_below_drewN | apply below_drew1)))) hb); clear HST HB hs0 hb; have HST := n0_; have HB := n1_; clear n0_ n1_; (try clear hx0 hx1 hx2 hx3); obtain ⟨hx0, hx1, hx2, hx3⟩ := K.St.getB4 (g := w.heap.size) HST.out (by repeat (first | (with_reducible exact List.mem_cons_self) | apply List.mem_cons_of_mem))) | (go_at_call 40; (with_reducible refine (impl_DoSwitch.calls _ _ l0 a1_0 a1_1 a1_2 a1_3 _ _ _ ?c0 ?l0 HIM.out).mono ?_); (case c0 => first | exact Kd.C_below HR0.out (below_step HB.out (by repeat (first | (with_reducible first | exact Below.refl _ _ | apply below_alloc | apply pw_below_drewN | apply below_drew1)))) | exact K.St.readSS (HST.out.below (by repeat (first | (with_reducible first | exact Below.refl _ _ | apply below_alloc | apply pw_below_drewN | apply below_drew1)))) (by repeat (first | (with_reducible exact List.mem_cons_self) | apply List.mem_cons_of_mem))); (case l0 => first | exact HC0.out | exact K.St.sizeSS (HST.out.below (by repeat (first | (with_reducible first | exact Below.refl _ _ | apply below_alloc | apply pw_below_drewN | apply below_drew1)))) (by repeat (first | (with_reducible exact List.mem_cons_self) | apply List.mem_cons_of_mem))); rintro e w' ⟨v0, rfl, hs0, hb⟩; obtain ⟨A0_, c0_, rfl, -, -⟩ := Kd.S_reads hs0; obtain ⟨S1_, n0_⟩ := K.St.pushSS (b := w.heap.size) (HST.out.below (by repeat (first | (with_reducible first | exact Below.refl _ _ | apply below_alloc | apply pw_below_drewN | apply below_drew1)))) hb (below_size (below_step HB.out (by repeat (first | (with_reducible first | exact Below.refl _ _ | apply below_alloc | apply pw_below_drewN | apply below_drew1))))) hs0; replace n0_ := Aside0.mk n0_; have n1_ := Aside0.mk (below_step (below_step HB.out (by repeat (first | (with_reducible first | exact Below.refl _ _ | apply below_alloc | apply pw_below_drewN | apply below_drew1)))) hb); clear HST HB hs0 hb; have HST := n0_; have HB := n1_; clear n0_ n1_; (try clear hx0 hx1 hx2 hx3); obtain ⟨hx0, hx1, hx2, hx3⟩ := K.St.getB4 (g := w.heap.size) HST.out (by repeat (first | (with_reducible exact List.mem_cons_self) | apply List.mem_cons_of_mem))) | (go_at_call 22; (with_reducible refine (laws_eqIntSS.calls _ _ _ w0 _ _ w0 _ _ ?c0 ?l0 ?c1 ?l1 HEW0.out).mono ?_); (case c0 => first | exact Kd.C_below HR0.out (below_step HB.out (by repeat (first | (with_reducible first | exact Below.refl _ _ | apply below_alloc | apply pw_below_drewN | apply below_drew1)))) | exact K.St.readSS (HST.out.below (by repeat (first | (with_reducible first | exact Below.refl _ _ | apply below_alloc | apply pw_below_drewN | apply below_drew1)))) (by repeat (first | (with_reducible exact List.mem_cons_self) | apply List.mem_cons_of_mem))); (case l0 => first | exact HC0.out | exact K.St.sizeSS (HST.out.below (by repeat (first | (with_reducible first | exact Below.refl _ _ | apply below_alloc | apply pw_below_drewN | apply below_drew1)))) (by repeat (first | (with_reducible exact List.mem_cons_self) | apply List.mem_cons_of_mem))); (case c1 => first | exact Kd.C_below HR0.out (below_step HB.out (by repeat (first | (with_reducible first | exact Below.refl _ _ | apply below_alloc | apply pw_below_drewN | apply below_drew1)))) | exact K.St.readSS (HST.out.below (by repeat (first | (with_reducible first | exact Below.refl _ _ | apply below_alloc | apply pw_below_drewN | apply below_drew1)))) (by repeat (first | (with_reducible exact List.mem_cons_self) | apply List.mem_cons_of_mem))); (case l1 => first | exact HC0.out | exact K.St.sizeSS (HST.out.below (by repeat (first | (with_reducible first | exact Below.refl _ _ | apply below_alloc | apply pw_below_drewN | apply below_drew1)))) (by repeat (first | (with_reducible exact List.mem_cons_self) | apply List.mem_cons_of_mem))); rintro e w' ⟨rfl, ⟨nd, rfl⟩⟩) | (go_at_call 22; (with_reducible refine (laws_eqIntSS.calls _ _ _ l0 _ _ l0 _ _ ?c0 ?l0 ?c1 ?l1 HEL0.out).mono ?_); (case c0 => first | exact Kd.C_below HR0.out (below_step HB.out (by repeat (first | (with_reducible first | exact Below.refl _ _ | apply below_alloc | apply pw_below_drewN | apply below_drew1)))) | exact K.St.readSS (HST.out.below (by repeat (first | (with_reducible first | exact Below.refl _ _ | apply below_alloc | apply pw_below_drewN | apply below_drew1)))) (by repeat (first | (with_reducible exact List.mem_cons_self) | apply List.mem_cons_of_mem))); (case l0 => first | exact HC0.out | exact K.St.sizeSS (HST.out.below (by repeat (first | (with_reducible first | exact Below.refl _ _ | apply below_alloc | apply pw_below_drewN | apply below_drew1)))) (by repeat (first | (with_reducible exact List.mem_cons_self) | apply List.mem_cons_of_mem))); (case c1 => first | exact Kd.C_below HR0.out (below_step HB.out (by repeat (first | (with_reducible first | exact Below.refl _ _ | apply below_alloc | apply pw_below_drewN | apply below_drew1)))) | exact K.St.readSS (HST.out.below (by repeat (first | (with_reducible first | exact Below.refl _ _ | apply below_alloc | apply pw_below_drewN | apply below_drew1)))) (by repeat (first | (with_reducible exact List.mem_cons_self) | apply List.mem_cons_of_mem))); (case l1 => first | exact HC0.out | exact K.St.sizeSS (HST.out.below (by repeat (first | (with_reducible first | exact Below.refl _ _ | apply below_alloc | apply pw_below_drewN | apply below_drew1)))) (by repeat (first | (with_reducible exact List.mem_cons_self) | apply List.mem_cons_of_mem))); rintro e w' ⟨rfl, ⟨nd, rfl⟩⟩) | (go_at_call 29; (with_reducible refine (laws_markIntSS.calls _ _ l0 _ _ _ w _ (below_step HB.out (by repeat (first | (with_reducible first | exact Below.refl _ _ | apply below_alloc | apply pw_below_drewN | apply below_drew1)))) (K.St.getSS (HST.out.below (by repeat (first | (with_reducible first | exact Below.refl _ _ | apply below_alloc | apply pw_below_drewN | apply below_drew1)))) (List.mem_cons_of_mem _ (List.mem_cons_of_mem _ List.mem_cons_self))) HMK0.out).mono ?_); rintro e w' ⟨rfl, hs, hb, hk⟩; have n0_ := (K.St.putSS [_, _] (HST.out.below (by repeat (first | (with_reducible first | exact Below.refl _ _ | apply below_alloc | apply pw_below_drewN | apply below_drew1)))) hk hs); simp only [List.cons_append, List.nil_append] at n0_; replace n0_ := Aside0.mk n0_; have n1_ := Aside0.mk hb; clear HST HB hs hb hk; have HST := n0_; have HB := n1_; clear n0_ n1_; (try clear hx0 hx1 hx2 hx3); obtain ⟨hx0, hx1, hx2, hx3⟩ := K.St.getB4 (g := w.heap.size) HST.out (by repeat (first | (with_reducible exact List.mem_cons_self) | apply List.mem_cons_of_mem))) | (go_at_call 29; (with_reducible refine (laws_markIntSS.calls _ _ w0 _ _ _ w _ (below_step HB.out (by repeat (first | (with_reducible first | exact Below.refl _ _ | apply below_alloc | apply pw_below_drewN | apply below_drew1)))) (K.St.getSS (HST.out.below (by repeat (first | (with_reducible first | exact Below.refl _ _ | apply below_alloc | apply pw_below_drewN | apply below_drew1)))) (List.mem_cons_of_mem _ List.mem_cons_self)) HMM0.out).mono ?_); rintro e w' ⟨rfl, hs, hb, hk⟩; have n0_ := (K.St.putSS [_] (HST.out.below (by repeat (first | (with_reducible first | exact Below.refl _ _ | apply below_alloc | apply pw_below_drewN | apply below_drew1)))) hk hs); simp only [List.cons_append, List.nil_append] at n0_; replace n0_ := Aside0.mk n0_; have n1_ := Aside0.mk hb; clear HST HB hs hb hk; have HST := n0_; have HB := n1_; clear n0_ n1_; (try clear hx0 hx1 hx2 hx3); obtain ⟨hx0, hx1, hx2, hx3⟩ := K.St.getB4 (g := w.heap.size) HST.out (by repeat (first | (with_reducible exact List.mem_cons_self) | apply List.mem_cons_of_mem))) | (go_at_call 30; (with_reducible refine (K.heldNIntSS _ _ _ w0.length w0' _ _ _ ?c0 ?l0 HH0.out HLEN0.out.symm).mono ?_); (case c0 => first | exact Kd.C_below HR0.out (below_step HB.out (by repeat (first | (with_reducible first | exact Below.refl _ _ | apply below_alloc | apply pw_below_drewN | apply below_drew1)))) | exact K.St.readSS (HST.out.below (by repeat (first | (with_reducible first | exact Below.refl _ _ | apply below_alloc | apply pw_below_drewN | apply below_drew1)))) (by repeat (first | (with_reducible exact List.mem_cons_self) | apply List.mem_cons_of_mem))); (case l0 => first | exact HC0.out | exact K.St.sizeSS (HST.out.below (by repeat (first | (with_reducible first | exact Below.refl _ _ | apply below_alloc | apply pw_below_drewN | apply below_drew1)))) (by repeat (first | (with_reducible exact List.mem_cons_self) | apply List.mem_cons_of_mem))); rintro e w' ⟨rfl, ⟨nd, rfl⟩⟩)))
    all_goals (go_region_held3 (fun w' => w'.cell? ⟨w.heap.size, 0, none⟩ = some (.int .i64 a1_0) ∧ w'.cell? ⟨w.heap.size, 1, none⟩ = some (.int .i64 a1_1) ∧ w'.cell? ⟨w.heap.size, 2, none⟩ = some (.int .i64 a1_2) ∧ w'.cell? ⟨w.heap.size, 3, none⟩ = some (.int .i64 a1_3)) (exact K.St.getB4 (HST.out.below (by repeat (first | (with_reducible first | exact Below.refl _ _ | apply below_alloc | apply pw_below_drewN | apply below_drew1)))) (by repeat (first | (with_reducible exact List.mem_cons_self) | apply List.mem_cons_of_mem))) (first | (go_at_call 18; (with_reducible refine (laws_szIntSS.calls _ _ _ l0 _ _ _ ?c0 ?l0 HSZ0.out).mono ?_); (case c0 => first | exact Kd.C_below HR0.out (below_step HB.out (by repeat (first | (with_reducible first | exact Below.refl _ _ | apply below_alloc | apply pw_below_drewN | apply below_drew1)))) | exact K.St.readSS (HST.out.below (by repeat (first | (with_reducible first | exact Below.refl _ _ | apply below_alloc | apply pw_below_drewN | apply below_drew1)))) (by repeat (first | (with_reducible exact List.mem_cons_self) | apply List.mem_cons_of_mem))); (case l0 => first | exact HC0.out | exact K.St.sizeSS (HST.out.below (by repeat (first | (with_reducible first | exact Below.refl _ _ | apply below_alloc | apply pw_below_drewN | apply below_drew1)))) (by repeat (first | (with_reducible exact List.mem_cons_self) | apply List.mem_cons_of_mem))); rintro e w' ⟨rfl, ⟨nd, rfl⟩⟩) | (go_at_call 20; (with_reducible refine (laws_toIntSS.calls _ _ _ l0 _ _ ?c0 ?l0 HTO0.out).mono ?_); (case c0 => first | exact Kd.C_below HR0.out (below_step HB.out (by repeat (first | (with_reducible first | exact Below.refl _ _ | apply below_alloc | apply pw_below_drewN | apply below_drew1)))) | exact K.St.readSS (HST.out.below (by repeat (first | (with_reducible first | exact Below.refl _ _ | apply below_alloc | apply pw_below_drewN | apply below_drew1)))) (by repeat (first | (with_reducible exact List.mem_cons_self) | apply List.mem_cons_of_mem))); (case l0 => first | exact HC0.out | exact K.St.sizeSS (HST.out.below (by repeat (first | (with_reducible first | exact Below.refl _ _ | apply below_alloc | apply pw_below_drewN | apply below_drew1)))) (by repeat (first | (with_reducible exact List.mem_cons_self) | apply List.mem_cons_of_mem))); rintro e w' ⟨v0, rfl, hs0, hb⟩; obtain ⟨A0_, c0_, rfl, -, -⟩ := Kd.S_reads hs0; obtain ⟨S1_, n0_⟩ := K.St.pushSS (b := w.heap.size) (HST.out.below (by repeat (first | (with_reducible first | exact Below.refl _ _ | apply below_alloc | apply pw_below_drewN | apply below_drew1)))) hb (below_size (below_step HB.out (by repeat (first | (with_reducible first | exact Below.refl _ _ | apply below_alloc | apply pw_below_drewN | apply below_drew1))))) hs0; replace n0_ := Aside0.mk n0_; have n1_ := Aside0.mk (below_step (below_step HB.out (by repeat (first | (with_reducible first | exact Below.refl _ _ | apply below_alloc | apply pw_below_drewN | apply below_drew1)))) hb); clear HST HB hs0 hb; have HST := n0_; have HB := n1_; clear n0_ n1_; (try clear hx0 hx1 hx2 hx3); obtain ⟨hx0, hx1, hx2, hx3⟩ := K.St.getB4 (g := w.heap.size) HST.out (by repeat (first | (with_reducible exact List.mem_cons_self) | apply List.mem_cons_of_mem))) | (go_at_call 39; (with_reducible refine (laws_toSwitch.calls a1_0 a1_1 a1_2 a1_3 _ _ _ _ _ HTO1.out).mono ?_); rintro e w' ⟨rfl, hb⟩; have n0_ := Aside0.mk ((HST.out.below (by repeat (first | (with_reducible first | exact Below.refl _ _ | apply below_alloc | apply pw_below_drewN | apply below_drew1)))).below hb); have n1_ := Aside0.mk (below_step (below_step HB.out (by repeat (first | (with_reducible first | exact Below.refl _ _ | apply below_alloc | apply pw_below_drewN | apply below_drew1)))) hb); clear HST HB hb; have HST := n0_; have HB := n1_; clear n0_ n1_; (try clear hx0 hx1 hx2 hx3); obtain ⟨hx0, hx1, hx2, hx3⟩ := K.St.getB4 (g := w.heap.size) HST.out (by repeat (first | (with_reducible exact List.mem_cons_self) | apply List.mem_cons_of_mem))) | (go_at_call 38; (with_reducible refine (spec_DoSwitch.calls _ _ _ l0 a1_0 a1_1 a1_2 a1_3 _ _ _ ?c0 ?l0 HSP.out).mono ?_); (case c0 => first | exact Kd.C_below HR0.out (below_step HB.out (by repeat (first | (with_reducible first | exact Below.refl _ _ | apply below_alloc | apply pw_below_drewN | apply below_drew1)))) | exact K.St.readSS (HST.out.below (by repeat (first | (with_reducible first | exact Below.refl _ _ | apply below_alloc | apply pw_below_drewN | apply below_drew1)))) (by repeat (first | (with_reducible exact List.mem_cons_self) | apply List.mem_cons_of_mem))); (case l0 => first | exact HC0.out | exact K.St.sizeSS (HST.out.below (by repeat (first | (with_reducible first | exact Below.refl _ _ | apply below_alloc | apply pw_below_drewN | apply below_drew1)))) (by repeat (first | (with_reducible exact List.mem_cons_self) | apply List.mem_cons_of_mem))); rintro e w' ⟨v0, rfl, hs0, hb⟩; obtain ⟨A0_, c0_, rfl, -, -⟩ := Kd.S_reads hs0; obtain ⟨S1_, n0_⟩ := K.St.pushSS (b := w.heap.size) (HST.out.below (by repeat (first | (with_reducible first | exact Below.refl _ _ | apply below_alloc | apply pw_below_drewN | apply below_drew1)))) hb (below_size (below_step HB.out (by repeat (first | (with_reducible first | exact Below.refl _ _ | apply below_alloc | apply pw_below_drewN | apply below_drew1))))) hs0; replace n0_ := Aside0.mk n0_; have n1_ := Aside0.mk (below_step (below_step HB.out (by repeat (first | (with_reducible first | exact Below.refl _ _ | apply below_alloc | apply pw_below_drewN | apply below_drew1)))) hb); clear HST HB hs0 hb; have HST := n0_; have HB := n1_; clear n0_ n1_; (try clear hx0 hx1 hx2 hx3); obtain ⟨hx0, hx1, hx2, hx3⟩ := K.St.getB4 (g := w.heap.size) HST.out (by repeat (first | (with_reducible exact List.mem_cons_self) | apply List.mem_cons_of_mem))) | (go_at_call 40; (with_reducible refine (impl_DoSwitch.calls _ _ l0 a1_0 a1_1 a1_2 a1_3 _ _ _ ?c0 ?l0 HIM.out).mono ?_); (case c0 => first | exact Kd.C_below HR0.out (below_step HB.out (by repeat (first | (with_reducible first | exact Below.refl _ _ | apply below_alloc | apply pw_below_drewN | apply below_drew1)))) | exact K.St.readSS (HST.out.below (by repeat (first | (with_reducible first | exact Below.refl _ _ | apply below_alloc | apply pw_below_drewN | apply below_drew1)))) (by repeat (first | (with_reducible exact List.mem_cons_self) | apply List.mem_cons_of_mem))); (case l0 => first | exact HC0.out | exact K.St.sizeSS (HST.out.below (by repeat (first | (with_reducible first | exact Below.refl _ _ | apply below_alloc | apply pw_below_drewN | apply below_drew1)))) (by repeat (first | (with_reducible exact List.mem_cons_self) | apply List.mem_cons_of_mem))); rintro e w' ⟨v0, rfl, hs0, hb⟩; obtain ⟨A0_, c0_, rfl, -, -⟩ := Kd.S_reads hs0; obtain ⟨S1_, n0_⟩ := K.St.pushSS (b := w.heap.size) (HST.out.below (by repeat (first | (with_reducible first | exact Below.refl _ _ | apply below_alloc | apply pw_below_drewN | apply below_drew1)))) hb (below_size (below_step HB.out (by repeat (first | (with_reducible first | exact Below.refl _ _ | apply below_alloc | apply pw_below_drewN | apply below_drew1))))) hs0; replace n0_ := Aside0.mk n0_; have n1_ := Aside0.mk (below_step (below_step HB.out (by repeat (first | (with_reducible first | exact Below.refl _ _ | apply below_alloc | apply pw_below_drewN | apply below_drew1)))) hb); clear HST HB hs0 hb; have HST := n0_; have HB := n1_; clear n0_ n1_; (try clear hx0 hx1 hx2 hx3); obtain ⟨hx0, hx1, hx2, hx3⟩ := K.St.getB4 (g := w.heap.size) HST.out (by repeat (first | (with_reducible exact List.mem_cons_self) | apply List.mem_cons_of_mem))) | (go_at_call 22; (with_reducible refine (laws_eqIntSS.calls _ _ _ w0 _ _ w0 _ _ ?c0 ?l0 ?c1 ?l1 HEW0.out).mono ?_); (case c0 => first | exact Kd.C_below HR0.out (below_step HB.out (by repeat (first | (with_reducible first | exact Below.refl _ _ | apply below_alloc | apply pw_below_drewN | apply below_drew1)))) | exact K.St.readSS (HST.out.below (by repeat (first | (with_reducible first | exact Below.refl _ _ | apply below_alloc | apply pw_below_drewN | apply below_drew1)))) (by repeat (first | (with_reducible exact List.mem_cons_self) | apply List.mem_cons_of_mem))); (case l0 => first | exact HC0.out | exact K.St.sizeSS (HST.out.below (by repeat (first | (with_reducible first | exact Below.refl _ _ | apply below_alloc | apply pw_below_drewN | apply below_drew1)))) (by repeat (first | (with_reducible exact List.mem_cons_self) | apply List.mem_cons_of_mem))); (case c1 => first | exact Kd.C_below HR0.out (below_step HB.out (by repeat (first | (with_reducible first | exact Below.refl _ _ | apply below_alloc | apply pw_below_drewN | apply below_drew1)))) | exact K.St.readSS (HST.out.below (by repeat (first | (with_reducible first | exact Below.refl _ _ | apply below_alloc | apply pw_below_drewN | apply below_drew1)))) (by repeat (first | (with_reducible exact List.mem_cons_self) | apply List.mem_cons_of_mem))); (case l1 => first | exact HC0.out | exact K.St.sizeSS (HST.out.below (by repeat (first | (with_reducible first | exact Below.refl _ _ | apply below_alloc | apply pw_below_drewN | apply below_drew1)))) (by repeat (first | (with_reducible exact List.mem_cons_self) | apply List.mem_cons_of_mem))); rintro e w' ⟨rfl, ⟨nd, rfl⟩⟩) | (go_at_call 22; (with_reducible refine (laws_eqIntSS.calls _ _ _ l0 _ _ l0 _ _ ?c0 ?l0 ?c1 ?l1 HEL0.out).mono ?_); (case c0 => first | exact Kd.C_below HR0.out (below_step HB.out (by repeat (first | (with_reducible first | exact Below.refl _ _ | apply below_alloc | apply pw_below_drewN | apply below_drew1)))) | exact K.St.readSS (HST.out.below (by repeat (first | (with_reducible first | exact Below.refl _ _ | apply below_alloc | apply pw_below_drewN | apply below_drew1)))) (by repeat (first | (with_reducible exact List.mem_cons_self) | apply List.mem_cons_of_mem))); (case l0 => first | exact HC0.out | exact K.St.sizeSS (HST.out.below (by repeat (first | (with_reducible first | exact Below.refl _ _ | apply below_alloc | apply pw_below_drewN | apply below_drew1)))) (by repeat (first | (with_reducible exact List.mem_cons_self) | apply List.mem_cons_of_mem))); (case c1 => first | exact Kd.C_below HR0.out (below_step HB.out (by repeat (first | (with_reducible first | exact Below.refl _ _ | apply below_alloc | apply pw_below_drewN | apply below_drew1)))) | exact K.St.readSS (HST.out.below (by repeat (first | (with_reducible first | exact Below.refl _ _ | apply below_alloc | apply pw_below_drewN | apply below_drew1)))) (by repeat (first | (with_reducible exact List.mem_cons_self) | apply List.mem_cons_of_mem))); (case l1 => first | exact HC0.out | exact K.St.sizeSS (HST.out.below (by repeat (first | (with_reducible first | exact Below.refl _ _ | apply below_alloc | apply pw_below_drewN | apply below_drew1)))) (by repeat (first | (with_reducible exact List.mem_cons_self) | apply List.mem_cons_of_mem))); rintro e w' ⟨rfl, ⟨nd, rfl⟩⟩) | (go_at_call 29; (with_reducible refine (laws_markIntSS.calls _ _ l0 _ _ _ w _ (below_step HB.out (by repeat (first | (with_reducible first | exact Below.refl _ _ | apply below_alloc | apply pw_below_drewN | apply below_drew1)))) (K.St.getSS (HST.out.below (by repeat (first | (with_reducible first | exact Below.refl _ _ | apply below_alloc | apply pw_below_drewN | apply below_drew1)))) (List.mem_cons_of_mem _ (List.mem_cons_of_mem _ List.mem_cons_self))) HMK0.out).mono ?_); rintro e w' ⟨rfl, hs, hb, hk⟩; have n0_ := (K.St.putSS [_, _] (HST.out.below (by repeat (first | (with_reducible first | exact Below.refl _ _ | apply below_alloc | apply pw_below_drewN | apply below_drew1)))) hk hs); simp only [List.cons_append, List.nil_append] at n0_; replace n0_ := Aside0.mk n0_; have n1_ := Aside0.mk hb; clear HST HB hs hb hk; have HST := n0_; have HB := n1_; clear n0_ n1_; (try clear hx0 hx1 hx2 hx3); obtain ⟨hx0, hx1, hx2, hx3⟩ := K.St.getB4 (g := w.heap.size) HST.out (by repeat (first | (with_reducible exact List.mem_cons_self) | apply List.mem_cons_of_mem))) | (go_at_call 29; (with_reducible refine (laws_markIntSS.calls _ _ w0 _ _ _ w _ (below_step HB.out (by repeat (first | (with_reducible first | exact Below.refl _ _ | apply below_alloc | apply pw_below_drewN | apply below_drew1)))) (K.St.getSS (HST.out.below (by repeat (first | (with_reducible first | exact Below.refl _ _ | apply below_alloc | apply pw_below_drewN | apply below_drew1)))) (List.mem_cons_of_mem _ List.mem_cons_self)) HMM0.out).mono ?_); rintro e w' ⟨rfl, hs, hb, hk⟩; have n0_ := (K.St.putSS [_] (HST.out.below (by repeat (first | (with_reducible first | exact Below.refl _ _ | apply below_alloc | apply pw_below_drewN | apply below_drew1)))) hk hs); simp only [List.cons_append, List.nil_append] at n0_; replace n0_ := Aside0.mk n0_; have n1_ := Aside0.mk hb; clear HST HB hs hb hk; have HST := n0_; have HB := n1_; clear n0_ n1_; (try clear hx0 hx1 hx2 hx3); obtain ⟨hx0, hx1, hx2, hx3⟩ := K.St.getB4 (g := w.heap.size) HST.out (by repeat (first | (with_reducible exact List.mem_cons_self) | apply List.mem_cons_of_mem))) | (go_at_call 30; (with_reducible refine (K.heldNIntSS _ _ _ w0.length w0' _ _ _ ?c0 ?l0 HH0.out HLEN0.out.symm).mono ?_); (case c0 => first | exact Kd.C_below HR0.out (below_step HB.out (by repeat (first | (with_reducible first | exact Below.refl _ _ | apply below_alloc | apply pw_below_drewN | apply below_drew1)))) | exact K.St.readSS (HST.out.below (by repeat (first | (with_reducible first | exact Below.refl _ _ | apply below_alloc | apply pw_below_drewN | apply below_drew1)))) (by repeat (first | (with_reducible exact List.mem_cons_self) | apply List.mem_cons_of_mem))); (case l0 => first | exact HC0.out | exact K.St.sizeSS (HST.out.below (by repeat (first | (with_reducible first | exact Below.refl _ _ | apply below_alloc | apply pw_below_drewN | apply below_drew1)))) (by repeat (first | (with_reducible exact List.mem_cons_self) | apply List.mem_cons_of_mem))); rintro e w' ⟨rfl, ⟨nd, rfl⟩⟩)))
    all_goals (go_wp2_with (first | (go_at_call 18; (with_reducible refine (laws_szIntSS.calls _ _ _ l0 _ _ _ ?c0 ?l0 HSZ0.out).mono ?_); (case c0 => first | exact Kd.C_below HR0.out (below_step HB.out (by repeat (first | (with_reducible first | exact Below.refl _ _ | apply below_alloc | apply pw_below_drewN | apply below_drew1)))) | exact K.St.readSS (HST.out.below (by repeat (first | (with_reducible first | exact Below.refl _ _ | apply below_alloc | apply pw_below_drewN | apply below_drew1)))) (by repeat (first | (with_reducible exact List.mem_cons_self) | apply List.mem_cons_of_mem))); (case l0 => first | exact HC0.out | exact K.St.sizeSS (HST.out.below (by repeat (first | (with_reducible first | exact Below.refl _ _ | apply below_alloc | apply pw_below_drewN | apply below_drew1)))) (by repeat (first | (with_reducible exact List.mem_cons_self) | apply List.mem_cons_of_mem))); rintro e w' ⟨rfl, ⟨nd, rfl⟩⟩) | (go_at_call 20; (with_reducible refine (laws_toIntSS.calls _ _ _ l0 _ _ ?c0 ?l0 HTO0.out).mono ?_); (case c0 => first | exact Kd.C_below HR0.out (below_step HB.out (by repeat (first | (with_reducible first | exact Below.refl _ _ | apply below_alloc | apply pw_below_drewN | apply below_drew1)))) | exact K.St.readSS (HST.out.below (by repeat (first | (with_reducible first | exact Below.refl _ _ | apply below_alloc | apply pw_below_drewN | apply below_drew1)))) (by repeat (first | (with_reducible exact List.mem_cons_self) | apply List.mem_cons_of_mem))); (case l0 => first | exact HC0.out | exact K.St.sizeSS (HST.out.below (by repeat (first | (with_reducible first | exact Below.refl _ _ | apply below_alloc | apply pw_below_drewN | apply below_drew1)))) (by repeat (first | (with_reducible exact List.mem_cons_self) | apply List.mem_cons_of_mem))); rintro e w' ⟨v0, rfl, hs0, hb⟩; obtain ⟨A0_, c0_, rfl, -, -⟩ := Kd.S_reads hs0; obtain ⟨S1_, n0_⟩ := K.St.pushSS (b := w.heap.size) (HST.out.below (by repeat (first | (with_reducible first | exact Below.refl _ _ | apply below_alloc | apply pw_below_drewN | apply below_drew1)))) hb (below_size (below_step HB.out (by repeat (first | (with_reducible first | exact Below.refl _ _ | apply below_alloc | apply pw_below_drewN | apply below_drew1))))) hs0; replace n0_ := Aside0.mk n0_; have n1_ := Aside0.mk (below_step (below_step HB.out (by repeat (first | (with_reducible first | exact Below.refl _ _ | apply below_alloc | apply pw_below_drewN | apply below_drew1)))) hb); clear HST HB hs0 hb; have HST := n0_; have HB := n1_; clear n0_ n1_; (try clear hx0 hx1 hx2 hx3); obtain ⟨hx0, hx1, hx2, hx3⟩ := K.St.getB4 (g := w.heap.size) HST.out (by repeat (first | (with_reducible exact List.mem_cons_self) | apply List.mem_cons_of_mem))) | (go_at_call 39; (with_reducible refine (laws_toSwitch.calls a1_0 a1_1 a1_2 a1_3 _ _ _ _ _ HTO1.out).mono ?_); rintro e w' ⟨rfl, hb⟩; have n0_ := Aside0.mk ((HST.out.below (by repeat (first | (with_reducible first | exact Below.refl _ _ | apply below_alloc | apply pw_below_drewN | apply below_drew1)))).below hb); have n1_ := Aside0.mk (below_step (below_step HB.out (by repeat (first | (with_reducible first | exact Below.refl _ _ | apply below_alloc | apply pw_below_drewN | apply below_drew1)))) hb); clear HST HB hb; have HST := n0_; have HB := n1_; clear n0_ n1_; (try clear hx0 hx1 hx2 hx3); obtain ⟨hx0, hx1, hx2, hx3⟩ := K.St.getB4 (g := w.heap.size) HST.out (by repeat (first | (with_reducible exact List.mem_cons_self) | apply List.mem_cons_of_mem))) | (go_at_call 38; (with_reducible refine (spec_DoSwitch.calls _ _ _ l0 a1_0 a1_1 a1_2 a1_3 _ _ _ ?c0 ?l0 HSP.out).mono ?_); (case c0 => first | exact Kd.C_below HR0.out (below_step HB.out (by repeat (first | (with_reducible first | exact Below.refl _ _ | apply below_alloc | apply pw_below_drewN | apply below_drew1)))) | exact K.St.readSS (HST.out.below (by repeat (first | (with_reducible first | exact Below.refl _ _ | apply below_alloc | apply pw_below_drewN | apply below_drew1)))) (by repeat (first | (with_reducible exact List.mem_cons_self) | apply List.mem_cons_of_mem))); (case l0 => first | exact HC0.out | exact K.St.sizeSS (HST.out.below (by repeat (first | (with_reducible first | exact Below.refl _ _ | apply below_alloc | apply pw_below_drewN | apply below_drew1)))) (by repeat (first | (with_reducible exact List.mem_cons_self) | apply List.mem_cons_of_mem))); rintro e w' ⟨v0, rfl, hs0, hb⟩; obtain ⟨A0_, c0_, rfl, -, -⟩ := Kd.S_reads hs0; obtain ⟨S1_, n0_⟩ := K.St.pushSS (b := w.heap.size) (HST.out.below (by repeat (first | (with_reducible first | exact Below.refl _ _ | apply below_alloc | apply pw_below_drewN | apply below_drew1)))) hb (below_size (below_step HB.out (by repeat (first | (with_reducible first | exact Below.refl _ _ | apply below_alloc | apply pw_below_drewN | apply below_drew1))))) hs0; replace n0_ := Aside0.mk n0_; have n1_ := Aside0.mk (below_step (below_step HB.out (by repeat (first | (with_reducible first | exact Below.refl _ _ | apply below_alloc | apply pw_below_drewN | apply below_drew1)))) hb); clear HST HB hs0 hb; have HST := n0_; have HB := n1_; clear n0_ n1_; (try clear hx0 hx1 hx2 hx3); obtain ⟨hx0, hx1, hx2, hx3⟩ := K.St.getB4 (g := w.heap.size) HST.out (by repeat (first | (with_reducible exact List.mem_cons_self) | apply List.mem_cons_of_mem))) | (go_at_call 40; (with_reducible refine (impl_DoSwitch.calls _ _ l0 a1_0 a1_1 a1_2 a1_3 _ _ _ ?c0 ?l0 HIM.out).mono ?_); (case c0 => first | exact Kd.C_below HR0.out (below_step HB.out (by repeat (first | (with_reducible first | exact Below.refl _ _ | apply below_alloc | apply pw_below_drewN | apply below_drew1)))) | exact K.St.readSS (HST.out.below (by repeat (first | (with_reducible first | exact Below.refl _ _ | apply below_alloc | apply pw_below_drewN | apply below_drew1)))) (by repeat (first | (with_reducible exact List.mem_cons_self) | apply List.mem_cons_of_mem))); (case l0 => first | exact HC0.out | exact K.St.sizeSS (HST.out.below (by repeat (first | (with_reducible first | exact Below.refl _ _ | apply below_alloc | apply pw_below_drewN | apply below_drew1)))) (by repeat (first | (with_reducible exact List.mem_cons_self) | apply List.mem_cons_of_mem))); rintro e w' ⟨v0, rfl, hs0, hb⟩; obtain ⟨A0_, c0_, rfl, -, -⟩ := Kd.S_reads hs0; obtain ⟨S1_, n0_⟩ := K.St.pushSS (b := w.heap.size) (HST.out.below (by repeat (first | (with_reducible first | exact Below.refl _ _ | apply below_alloc | apply pw_below_drewN | apply below_drew1)))) hb (below_size (below_step HB.out (by repeat (first | (with_reducible first | exact Below.refl _ _ | apply below_alloc | apply pw_below_drewN | apply below_drew1))))) hs0; replace n0_ := Aside0.mk n0_; have n1_ := Aside0.mk (below_step (below_step HB.out (by repeat (first | (with_reducible first | exact Below.refl _ _ | apply below_alloc | apply pw_below_drewN | apply below_drew1)))) hb); clear HST HB hs0 hb; have HST := n0_; have HB := n1_; clear n0_ n1_; (try clear hx0 hx1 hx2 hx3); obtain ⟨hx0, hx1, hx2, hx3⟩ := K.St.getB4 (g := w.heap.size) HST.out (by repeat (first | (with_reducible exact List.mem_cons_self) | apply List.mem_cons_of_mem))) | (go_at_call 22; (with_reducible refine (laws_eqIntSS.calls _ _ _ w0 _ _ w0 _ _ ?c0 ?l0 ?c1 ?l1 HEW0.out).mono ?_); (case c0 => first | exact Kd.C_below HR0.out (below_step HB.out (by repeat (first | (with_reducible first | exact Below.refl _ _ | apply below_alloc | apply pw_below_drewN | apply below_drew1)))) | exact K.St.readSS (HST.out.below (by repeat (first | (with_reducible first | exact Below.refl _ _ | apply below_alloc | apply pw_below_drewN | apply below_drew1)))) (by repeat (first | (with_reducible exact List.mem_cons_self) | apply List.mem_cons_of_mem))); (case l0 => first | exact HC0.out | exact K.St.sizeSS (HST.out.below (by repeat (first | (with_reducible first | exact Below.refl _ _ | apply below_alloc | apply pw_below_drewN | apply below_drew1)))) (by repeat (first | (with_reducible exact List.mem_cons_self) | apply List.mem_cons_of_mem))); (case c1 => first | exact Kd.C_below HR0.out (below_step HB.out (by repeat (first | (with_reducible first | exact Below.refl _ _ | apply below_alloc | apply pw_below_drewN | apply below_drew1)))) | exact K.St.readSS (HST.out.below (by repeat (first | (with_reducible first | exact Below.refl _ _ | apply below_alloc | apply pw_below_drewN | apply below_drew1)))) (by repeat (first | (with_reducible exact List.mem_cons_self) | apply List.mem_cons_of_mem))); (case l1 => first | exact HC0.out | exact K.St.sizeSS (HST.out.below (by repeat (first | (with_reducible first | exact Below.refl _ _ | apply below_alloc | apply pw_below_drewN | apply below_drew1)))) (by repeat (first | (with_reducible exact List.mem_cons_self) | apply List.mem_cons_of_mem))); rintro e w' ⟨rfl, ⟨nd, rfl⟩⟩) | (go_at_call 22; (with_reducible refine (laws_eqIntSS.calls _ _ _ l0 _ _ l0 _ _ ?c0 ?l0 ?c1 ?l1 HEL0.out).mono ?_); (case c0 => first | exact Kd.C_below HR0.out (below_step HB.out (by repeat (first | (with_reducible first | exact Below.refl _ _ | apply below_alloc | apply pw_below_drewN | apply below_drew1)))) | exact K.St.readSS (HST.out.below (by repeat (first | (with_reducible first | exact Below.refl _ _ | apply below_alloc | apply pw_below_drewN | apply below_drew1)))) (by repeat (first | (with_reducible exact List.mem_cons_self) | apply List.mem_cons_of_mem))); (case l0 => first | exact HC0.out | exact K.St.sizeSS (HST.out.below (by repeat (first | (with_reducible first | exact Below.refl _ _ | apply below_alloc | apply pw_below_drewN | apply below_drew1)))) (by repeat (first | (with_reducible exact List.mem_cons_self) | apply List.mem_cons_of_mem))); (case c1 => first | exact Kd.C_below HR0.out (below_step HB.out (by repeat (first | (with_reducible first | exact Below.refl _ _ | apply below_alloc | apply pw_below_drewN | apply below_drew1)))) | exact K.St.readSS (HST.out.below (by repeat (first | (with_reducible first | exact Below.refl _ _ | apply below_alloc | apply pw_below_drewN | apply below_drew1)))) (by repeat (first | (with_reducible exact List.mem_cons_self) | apply List.mem_cons_of_mem))); (case l1 => first | exact HC0.out | exact K.St.sizeSS (HST.out.below (by repeat (first | (with_reducible first | exact Below.refl _ _ | apply below_alloc | apply pw_below_drewN | apply below_drew1)))) (by repeat (first | (with_reducible exact List.mem_cons_self) | apply List.mem_cons_of_mem))); rintro e w' ⟨rfl, ⟨nd, rfl⟩⟩) | (go_at_call 29; (with_reducible refine (laws_markIntSS.calls _ _ l0 _ _ _ w _ (below_step HB.out (by repeat (first | (with_reducible first | exact Below.refl _ _ | apply below_alloc | apply pw_below_drewN | apply below_drew1)))) (K.St.getSS (HST.out.below (by repeat (first | (with_reducible first | exact Below.refl _ _ | apply below_alloc | apply pw_below_drewN | apply below_drew1)))) (List.mem_cons_of_mem _ (List.mem_cons_of_mem _ List.mem_cons_self))) HMK0.out).mono ?_); rintro e w' ⟨rfl, hs, hb, hk⟩; have n0_ := (K.St.putSS [_, _] (HST.out.below (by repeat (first | (with_reducible first | exact Below.refl _ _ | apply below_alloc | apply pw_below_drewN | apply below_drew1)))) hk hs); simp only [List.cons_append, List.nil_append] at n0_; replace n0_ := Aside0.mk n0_; have n1_ := Aside0.mk hb; clear HST HB hs hb hk; have HST := n0_; have HB := n1_; clear n0_ n1_; (try clear hx0 hx1 hx2 hx3); obtain ⟨hx0, hx1, hx2, hx3⟩ := K.St.getB4 (g := w.heap.size) HST.out (by repeat (first | (with_reducible exact List.mem_cons_self) | apply List.mem_cons_of_mem))) | (go_at_call 29; (with_reducible refine (laws_markIntSS.calls _ _ w0 _ _ _ w _ (below_step HB.out (by repeat (first | (with_reducible first | exact Below.refl _ _ | apply below_alloc | apply pw_below_drewN | apply below_drew1)))) (K.St.getSS (HST.out.below (by repeat (first | (with_reducible first | exact Below.refl _ _ | apply below_alloc | apply pw_below_drewN | apply below_drew1)))) (List.mem_cons_of_mem _ List.mem_cons_self)) HMM0.out).mono ?_); rintro e w' ⟨rfl, hs, hb, hk⟩; have n0_ := (K.St.putSS [_] (HST.out.below (by repeat (first | (with_reducible first | exact Below.refl _ _ | apply below_alloc | apply pw_below_drewN | apply below_drew1)))) hk hs); simp only [List.cons_append, List.nil_append] at n0_; replace n0_ := Aside0.mk n0_; have n1_ := Aside0.mk hb; clear HST HB hs hb hk; have HST := n0_; have HB := n1_; clear n0_ n1_; (try clear hx0 hx1 hx2 hx3); obtain ⟨hx0, hx1, hx2, hx3⟩ := K.St.getB4 (g := w.heap.size) HST.out (by repeat (first | (with_reducible exact List.mem_cons_self) | apply List.mem_cons_of_mem))) | (go_at_call 30; (with_reducible refine (K.heldNIntSS _ _ _ w0.length w0' _ _ _ ?c0 ?l0 HH0.out HLEN0.out.symm).mono ?_); (case c0 => first | exact Kd.C_below HR0.out (below_step HB.out (by repeat (first | (with_reducible first | exact Below.refl _ _ | apply below_alloc | apply pw_below_drewN | apply below_drew1)))) | exact K.St.readSS (HST.out.below (by repeat (first | (with_reducible first | exact Below.refl _ _ | apply below_alloc | apply pw_below_drewN | apply below_drew1)))) (by repeat (first | (with_reducible exact List.mem_cons_self) | apply List.mem_cons_of_mem))); (case l0 => first | exact HC0.out | exact K.St.sizeSS (HST.out.below (by repeat (first | (with_reducible first | exact Below.refl _ _ | apply below_alloc | apply pw_below_drewN | apply below_drew1)))) (by repeat (first | (with_reducible exact List.mem_cons_self) | apply List.mem_cons_of_mem))); rintro e w' ⟨rfl, ⟨nd, rfl⟩⟩)))
    all_goals go_ret
    all_goals exact ⟨rfl, below_step HB.out (by repeat (first | (with_reducible first | exact Below.refl _ _ | apply below_alloc | apply pw_below_drewN | apply below_drew1)))⟩

end Go.Proofs.Ytojcnapdalpnmaa.P

namespace Go.Proofs.Ytojcnapdalpnmaa.K
open Go.RowKit Go.Proofs.YtojcnapdalpnmaaW.PrintWords
set_option linter.unusedVariables false
/-- A loop over indices that carries a state with an invariant; what goes on behind it answers for it. -/
theorem contLoopI {σ α : Type} (g : σ → Nat → Nat → Option α) (n : Nat) (I : σ → Nat → Prop)
    (hs : ∀ s j, j < n → I s j → ∃ s', I s' (j + 1) ∧ ∀ x, Ev (g s' (j + 1)) x → Ev (g s j) x) : ∀ d s j, j + d = n → I s j → ∃ s', I s' n ∧ ∀ x, Ev (g s' n) x → Ev (g s j) x := by
  intro d
  induction d with
  | zero =>
    intro s j hj hi
    obtain rfl : j = n := by omega
    exact ⟨s, hi, fun x h => h⟩
  | succ d ih =>
    intro s j hj hi
    obtain ⟨s1, h1, h2⟩ := hs s j (by omega) hi
    obtain ⟨s2, h3, h4⟩ := ih _ _ (by omega) h1
    exact ⟨s2, h3, fun x h => h2 x (h4 x h)⟩

end Go.Proofs.Ytojcnapdalpnmaa.K

namespace Go.Proofs.Ytojcnapdalpnmaa.P
open Go.RowKit
/-- impl.OppositeGrid; of rows that no machine holds nothing is said. -/
def impl_OppositeGrid.f (l : List (List Int)) : Option (List (List Int) × Bool) := if l.length ≤ 1048576 ∧ ∀ x ∈ l, x.length ≤ 1048576 then some (if gridB l = true then (mapRows (fun _ _ n => wrap64 (1 - n)) 0 l, true) else ([], false)) else none

end Go.Proofs.Ytojcnapdalpnmaa.P

namespace Go.Proofs.Ytojcnapdalpnmaa.P
open Go.RowKit Go.Proofs.YtojcnapdalpnmaaW.PrintWords Go.Proofs.YtojcnapdalpnmaaW.PrintLast Go.Proofs.YtojcnapdalpnmaaW.PrintMore
attribute [local go_sem] max2_int min2_int max_two min_two max_three min_three max_four min_four   -- for this text's walks alone
set_option linter.unusedVariables false
set_option linter.unusedSimpArgs false

/-! ### spec_OppositeGrid: function 31 -/
mutual
def spec_OppositeGrid.l0 : Nat → List (List Int) → List (List Int) → Int → Int → Option ((List (List Int)) × Bool)
  | 0, _, _, _, _ => none
  | k + 1, x4, x13, x14, x15 => if x15 < x14 then (if 0 ≤ x15 then (if x15 < (x13.length : Int) then (spec_OppositeGrid.l1 k x4 ([] : List Int) x13 x14 x15 (rd_L1 x13 x15) ((rd_L1 x13 x15).length : Int) 0) else (none)) else (none)) else (some (x4, true))
def spec_OppositeGrid.l1 : Nat → List (List Int) → List Int → List (List Int) → Int → Int → List Int → Int → Int → Option ((List (List Int)) × Bool)
  | 0, _, _, _, _, _, _, _, _ => none
  | k + 1, x4, x7, x13, x14, x15, x19, x20, x21 => if x21 < x20 then (if 0 ≤ x21 then (if x21 < (x19.length : Int) then (if x7.length < 17592186044416 then (spec_OppositeGrid.l1 k x4 (x7 ++ [wrap64 (1 - (rd x19 x21))]) x13 x14 x15 x19 x20 (wrap64 (x21 + 1))) else (none)) else (none)) else (none)) else (if x4.length < 5864062014805 then (spec_OppositeGrid.l0 k (x4 ++ [x7]) x13 x14 (wrap64 (x15 + 1))) else (none))
end
def spec_OppositeGrid.f (k : Nat) (l0 : List (List Int)) : Option ((List (List Int)) × Bool) := (spec_maGrid.f k l0).bind fun t256 => (if t256 = true then (spec_OppositeGrid.l0 k ([] : List (List Int)) l0 (l0.length : Int) 0) else (some (([] : List (List Int)), false)))
theorem spec_OppositeGrid.mono_l : ∀ k, (∀ y0 y1 y2 y3, LeO (spec_OppositeGrid.l0 k y0 y1 y2 y3) (spec_OppositeGrid.l0 (k + 1) y0 y1 y2 y3)) ∧ (∀ y0 y1 y2 y3 y4 y5 y6 y7, LeO (spec_OppositeGrid.l1 k y0 y1 y2 y3 y4 y5 y6 y7) (spec_OppositeGrid.l1 (k + 1) y0 y1 y2 y3 y4 y5 y6 y7))
  | 0 => ⟨fun _ _ _ _ r h => by simp [spec_OppositeGrid.l0] at h, fun _ _ _ _ _ _ _ _ r h => by simp [spec_OppositeGrid.l1] at h⟩
  | k + 1 => by
    obtain ⟨ih0, ih1⟩ := spec_OppositeGrid.mono_l k
    refine ⟨?_, ?_⟩
    · intro y0 y1 y2 y3
      unfold spec_OppositeGrid.l0
      repeat' first
      | (with_reducible exact ih0 _ _ _ _)
      | (with_reducible exact ih1 _ _ _ _ _ _ _ _)
      | (with_reducible exact spec_maGrid.mono _ _)
      | (with_reducible exact LeO.refl _)
      | (with_reducible exact LeO.none _)
      | (with_reducible refine LeO.ite ?_ ?_)
      | (with_reducible refine LeO.bind ?_ (fun _ => ?_))
      | exact ih0 _ _ _ _
      | exact ih1 _ _ _ _ _ _ _ _
      | exact spec_maGrid.mono _ _
      | exact LeO.none _
      | refine LeO.ite ?_ ?_
      | refine LeO.bind ?_ (fun _ => ?_)
    · intro y0 y1 y2 y3 y4 y5 y6 y7
      unfold spec_OppositeGrid.l1
      repeat' first
      | (with_reducible exact ih0 _ _ _ _)
      | (with_reducible exact ih1 _ _ _ _ _ _ _ _)
      | (with_reducible exact spec_maGrid.mono _ _)
      | (with_reducible exact LeO.refl _)
      | (with_reducible exact LeO.none _)
      | (with_reducible refine LeO.ite ?_ ?_)
      | (with_reducible refine LeO.bind ?_ (fun _ => ?_))
      | exact ih0 _ _ _ _
      | exact ih1 _ _ _ _ _ _ _ _
      | exact spec_maGrid.mono _ _
      | exact LeO.none _
      | refine LeO.ite ?_ ?_
      | refine LeO.bind ?_ (fun _ => ?_)
theorem spec_OppositeGrid.mono : ∀ a0 k, LeO (spec_OppositeGrid.f k a0) (spec_OppositeGrid.f (k + 1) a0) := by
  intro a0 k
  obtain ⟨ih0, ih1⟩ := spec_OppositeGrid.mono_l k
  unfold spec_OppositeGrid.f
  repeat' first
      | (with_reducible exact ih0 _ _ _ _)
      | (with_reducible exact ih1 _ _ _ _ _ _ _ _)
      | (with_reducible exact spec_maGrid.mono _ _)
      | (with_reducible exact LeO.refl _)
      | (with_reducible exact LeO.none _)
      | (with_reducible refine LeO.ite ?_ ?_)
      | (with_reducible refine LeO.bind ?_ (fun _ => ?_))
      | exact ih0 _ _ _ _
      | exact ih1 _ _ _ _ _ _ _ _
      | exact spec_maGrid.mono _ _
      | exact LeO.none _
      | refine LeO.ite ?_ ?_
      | refine LeO.bind ?_ (fun _ => ?_)
set_option maxHeartbeats 8000000 in
set_option maxRecDepth 100000 in
theorem spec_OppositeGrid.calls (k : Nat) (A0 : Option Addr) (c0 : Nat) (l0 : List (List Int)) (r1 : List (List Int)) (r2 : Bool) (w : World) (hr0 : Kd.C (Kd.slice 3 (Kd.int .i64)) w A0 l0.length l0) (hc0 : l0.length ≤ c0) (h : spec_OppositeGrid.f k l0 = some (r1, r2)) :
    Calls Try.prog 31 #[.slice A0 l0.length c0] w fun e w' => ∃ v0_ : Value, e = .returned (.tuple #[v0_, .bool r2]) ∧ Kd.S (Kd.slice 3 (Kd.int .i64)) 33 w' w.heap.size (fun _ => True) v0_ r1 ∧ Below w.heap.size w w' := by
  have HR0 := Aside0.mk hr0
  have HC0 := Aside0.mk hc0
  clear hr0 hc0
  have HB := Aside0.mk (Below.refl w.heap.size w)
  have H : ((spec_maGrid.f k l0).bind fun t256 => (if t256 = true then (spec_OppositeGrid.l0 k ([] : List (List Int)) l0 (l0.length : Int) 0) else (some (([] : List (List Int)), false)))) = some (r1, r2) := h
  clear h
  replace H := Option.bind_eq_some_iff.mp H
  obtain ⟨t256, A20, H⟩ := H
  replace H : (if t256 = true then (spec_OppositeGrid.l0 k ([] : List (List Int)) l0 (l0.length : Int) 0) else (some (([] : List (List Int)), false))) = some (r1, r2) := H
  have A2 := Aside0.mk A20
  clear A20
  by_cases c3 : t256 = true
  · subst c3
    have H1 : (spec_OppositeGrid.l0 k ([] : List (List Int)) l0 (l0.length : Int) 0) = some (r1, r2) := by rw [if_pos rfl] at H; exact H
    clear H
    have H := H1
    clear H1
    have H' := Aside0.mk H
    clear H
    go_enter Try.func31, Try.ntmps31
    go_wp2_with (first | ((with_reducible refine gate_callee (f := 67) rfl ?_); refine goesL_ (some 11) rfl rfl Try.func67 (by kernel_rfl) rfl #[.slice A0 l0.length c0] rfl (by (try simp only [List.map_toArray, List.map_cons, List.map_nil]); first | done | rfl | (simp only [List.length_drop, List.length_take]; rfl)) ?_; (with_reducible refine (spec_maGrid.calls k _ _ l0 true _ ?side1 ?side2 A2.out).mono ?_); (case side1 => repeat (first | exact HR0.out | (with_reducible refine Kd.C_alloc ?_ _) | (with_reducible refine Kd.C_drewN ?_ _) | (with_reducible refine Kd.C_drew ?_))); (case side2 => exact HC0.out); rintro e w' ⟨rfl, ⟨nd, rfl⟩⟩; refine ⟨_, rfl, ?_⟩))
    go_loopg [4, 15] k (fun kq v4 v15 w' => ∃ (x4_1 : List (List Int)) (x15_1 : Int), v15 = .int .i64 x15_1 ∧ Aside0 (spec_OppositeGrid.l0 kq x4_1 l0 (l0.length : Int) x15_1 = some (r1, r2)) ∧ Aside0 (kq ≤ k) ∧ Aside0 (Kd.S (Kd.slice 3 (Kd.int .i64)) 33 w' w.heap.size (fun _ => True) v4 x4_1) ∧ Aside0 (Below w.heap.size w w'))
    case atStart => exact ⟨(([] : List (List Int))), (0), (by first | rfl | (simp; done) | (simp [*]; done)), H', ⟨Nat.le_refl _⟩, ⟨by first | exact Kd.S_nil _ _ _ _ _ | exact Kd.N_nil _ _ _ _ _ | exact Kd.V_nil _ _ _ _ _ | exact Kd.Q_nil _ _ _ _ _ | exact Kd.R_nil _ _ _ _ _⟩, ⟨by repeat (first | (with_reducible first | exact HB.out | apply below_alloc | apply pw_below_drewN | apply below_drew1) | exact HB.out)⟩⟩
    case round =>
      clear H'
      try clear p2
      try clear c3
      obtain ⟨x4_1, x15_1, rfl, HA, HK1, HO_4, HB⟩ := hrel
      cases gk with
      | zero => exact absurd HA.out (by simp [spec_OppositeGrid.l0])
      | succ k1 =>
        have H := HA.out
        clear HA
        simp only [spec_OppositeGrid.l0] at H
        by_cases c4 : x15_1 < (l0.length : Int)
        · rw [if_pos c4] at H
          have c4b0 : decide (x15_1 < (l0.length : Int)) = true := decide_eq_true c4
          clear c4
          by_cases c5 : 0 ≤ x15_1
          · rw [if_pos c5] at H
            have c5b0 : decide (0 ≤ x15_1) = true := decide_eq_true c5
            clear c5
            by_cases c6 : x15_1 < (l0.length : Int)
            · rw [if_pos c6] at H
              have c6b0 : decide (x15_1 < (l0.length : Int)) = true := decide_eq_true c6
              clear c6
              have H' := Aside0.mk H
              clear H
              have p257 : 0 ≤ (x15_1 : Int) := of_decide_eq_true (by first | (with_reducible assumption) | assumption)
              have q257 : x15_1 < (l0.length : Int) := of_decide_eq_true (by first | (with_reducible assumption) | assumption)
              obtain ⟨ad257, A257_0, c257_0, e257, hx257_0, hl257_0, hi257_0⟩ := at_L1 HR0.out x15_1 p257 q257
              cases e257
              replace hx257_0 := (HB.out.cell (World.block_lt_of_cell? w _ hx257_0)).trans hx257_0
              have HR257_0 := Aside0.mk hi257_0
              have HC257_0 := Aside0.mk hl257_0
              clear hi257_0 hl257_0
              replace p257 := eq_true p257
              replace q257 := eq_true q257
              go_wp2
              go_loopg [7, 21] k1 (fun kq v7 v21 w' => ∃ (x7_2 : List Int) (x21_2 : Int), v21 = .int .i64 x21_2 ∧ Aside0 (spec_OppositeGrid.l1 kq x4_1 x7_2 l0 (l0.length : Int) x15_1 (rd_L1 l0 x15_1) ((rd_L1 l0 x15_1).length : Int) x21_2 = some (r1, r2)) ∧ Aside0 (kq ≤ k1) ∧ Aside0 (Kd.S (Kd.slice 3 (Kd.int .i64)) 33 w' w.heap.size (fun k_ => some k_ ≠ (v7 : Value).ownBlock) u4 x4_1) ∧ Aside0 (Kd.R (Kd.int .i64) 3 w' w.heap.size (fun _ => True) v7 x7_2) ∧ Aside0 (Below w.heap.size w w'))
              case atStart => exact ⟨(([] : List Int)), (0), (by first | rfl | (simp; done) | (simp [*]; done)), H', ⟨Nat.le_refl _⟩, ⟨by (with_reducible repeat (first | apply Kd.S_alloc | apply Kd.S_drewN | apply Kd.S_drew)); exact Kd.S_mono HO_4.out (fun _ hk => (by simp [Value.ownBlock]))⟩, ⟨by first | exact Kd.R_nil _ _ _ _ _ | exact Kd.N_nil _ _ _ _ _ | exact Kd.V_nil _ _ _ _ _ | exact Kd.Q_nil _ _ _ _ _ | exact Kd.S_nil _ _ _ _ _⟩, ⟨by repeat (first | (with_reducible first | exact HB.out | apply below_alloc | apply pw_below_drewN | apply below_drew1) | exact HB.out)⟩⟩
              case round =>
                clear H'
                try clear c2
                try clear p2
                try clear q2
                try clear hx2
                try clear c3
                try clear c4
                try clear c4b0
                try clear c5
                try clear c5b0
                try clear c6
                try clear c6b0
                try clear hx257_0
                try clear p2
                try clear p257
                try clear q257
                obtain ⟨x7_2, x21_2, rfl, HA, HK2, HO_4, HO_7, HB⟩ := hrel
                cases gk with
                | zero => exact absurd HA.out (by simp [spec_OppositeGrid.l1])
                | succ k2 =>
                  have H := HA.out
                  clear HA
                  simp only [spec_OppositeGrid.l1] at H
                  by_cases c7 : x21_2 < ((rd_L1 l0 x15_1).length : Int)
                  · rw [if_pos c7] at H
                    have c7b0 : decide (x21_2 < ((rd_L1 l0 x15_1).length : Int)) = true := decide_eq_true c7
                    clear c7
                    by_cases c8 : 0 ≤ x21_2
                    · rw [if_pos c8] at H
                      have c8b0 : decide (0 ≤ x21_2) = true := decide_eq_true c8
                      clear c8
                      by_cases c9 : x21_2 < ((rd_L1 l0 x15_1).length : Int)
                      · rw [if_pos c9] at H
                        have c9b0 : decide (x21_2 < ((rd_L1 l0 x15_1).length : Int)) = true := decide_eq_true c9
                        clear c9
                        by_cases c10 : x7_2.length < 17592186044416
                        · rw [if_pos c10] at H
                          have LMc10 := Aside0.mk c10
                          clear c10
                          obtain ⟨y259, hy259⟩ : ∃ y_ : List Int, y_ = (x7_2 ++ [wrap64 (1 - (rd (rd_L1 l0 x15_1) x21_2))]) := ⟨_, rfl⟩
                          replace H : (spec_OppositeGrid.l1 k2 x4_1 y259 l0 (l0.length : Int) x15_1 (rd_L1 l0 x15_1) ((rd_L1 l0 x15_1).length : Int) (wrap64 (x21_2 + 1))) = some (r1, r2) := by first | (rw [hy259]; with_reducible exact H) | (have H2_ := (Option.bind_some _ _).symm.trans H; rw [hy259]; with_reducible exact H2_) | (have H2_ := (Option.bind_some _ _).symm.trans H; with_reducible exact H2_) | with_reducible exact H | (rw [hy259]; exact H) | exact H
                          have Ny259 := Aside0.mk hy259
                          clear hy259
                          have H' := Aside0.mk H
                          clear H
                          have p258 : 0 ≤ (x21_2 : Int) := of_decide_eq_true (by first | (with_reducible assumption) | assumption)
                          have q258 : x21_2 < ((rd_L1 l0 x15_1).length : Int) := of_decide_eq_true (by first | (with_reducible assumption) | assumption)
                          obtain ⟨ad258, e258, hx258_0⟩ := Kd.at_int HR257_0.out x21_2 p258 q258
                          cases e258
                          replace hx258_0 := (HB.out.cell (World.block_lt_of_cell? w _ hx258_0)).trans hx258_0
                          replace p258 := eq_true p258
                          replace q258 := eq_true q258
                          go_wp2_with (first | ((with_reducible refine gate_builtin (b := .append) (xs := #[.tmp 25, .tmp 28]) rfl ?_); at_builtin; refine Kd.R_append (Kd.int .i64) (w0 := w) w.heap.size rfl (.tmp 25) (.tmp 28) 33 3 (.int .i64 0) 8 rfl Try.underlying33 info3 rfl (by decide) (by omega) u7 x7_2 (wrap64 (1 - (rd (rd_L1 l0 x15_1) x21_2))) [.int .i64 (wrap64 (1 - (rd (rd_L1 l0 x15_1) x21_2)))] (fun _ => True) (fun _ => False) rfl rfl ?aP (fun _ hk => hk.elim) ?aF ?aO ?aB ?aS ?aL ?_; (case aP => exact rfl); (case aB => exact (by repeat (first | (with_reducible first | exact HB.out | apply below_alloc | apply pw_below_drewN | apply below_drew1) | exact HB.out))); (case aF => exact (fun _ _ => trivial)); (case aO => exact (by (with_reducible repeat (first | apply Kd.R_alloc | apply Kd.R_drewN | apply Kd.R_drew)); exact HO_7.out)); (case aS => exact (below_size (by repeat (first | (with_reducible first | exact HB.out | apply below_alloc | apply pw_below_drewN | apply below_drew1) | exact HB.out)))); (case aL => have := LMc10.out; omega); intro v260 w11 ho hb hg hat; rw [← Ny259.out] at ho; have n0_ := Aside0.mk (Kd.S_after (ok := (fun _ => True)) (by (with_reducible repeat (first | apply Kd.S_alloc | apply Kd.S_drewN | apply Kd.S_drew)); exact Kd.S_mono HO_4.out (fun _ hk => ⟨trivial, hk⟩)) hg hat); have n1_ := Aside0.mk (hb); have n2_ := Aside0.mk (ho); clear HO_4; clear HB; clear HO_7; have HO_4 := n0_; have HB := n1_; have HO261 := n2_; clear n0_ n1_ n2_; clear ho hb hg hat))
                          go_roundg k2
                          case measure => have := HK1.out; have := HK2.out; omega
                          case rel => exact ⟨(y259), (wrap64 (x21_2 + 1)), (by first | rfl | (simp; done) | (simp [*]; done)), H', ⟨by have := HK1.out; have := HK2.out; omega⟩, ⟨by (with_reducible repeat (first | apply Kd.S_alloc | apply Kd.S_drewN | apply Kd.S_drew)); exact Kd.S_mono HO_4.out (fun _ hk => hk.2)⟩, ⟨by (with_reducible repeat (first | apply Kd.R_alloc | apply Kd.R_drewN | apply Kd.R_drew)); exact HO261.out⟩, ⟨by repeat (first | (with_reducible first | exact HB.out | apply below_alloc | apply pw_below_drewN | apply below_drew1) | exact HB.out)⟩⟩
                        · rw [if_neg c10] at H
                          exact absurd H (by simp)
                      · rw [if_neg c9] at H
                        exact absurd H (by simp)
                    · rw [if_neg c8] at H
                      exact absurd H (by simp)
                  · rw [if_neg c7] at H
                    have c7b0 : decide (x21_2 < ((rd_L1 l0 x15_1).length : Int)) = false := decide_eq_false c7
                    clear c7
                    by_cases c12 : x4_1.length < 5864062014805
                    · rw [if_pos c12] at H
                      have LMc12 := Aside0.mk c12
                      clear c12
                      obtain ⟨y262, hy262⟩ : ∃ y_ : List (List Int), y_ = (x4_1 ++ [x7_2]) := ⟨_, rfl⟩
                      replace H : (spec_OppositeGrid.l0 k2 y262 l0 (l0.length : Int) (wrap64 (x15_1 + 1))) = some (r1, r2) := by first | (rw [hy262]; with_reducible exact H) | (have H2_ := (Option.bind_some _ _).symm.trans H; rw [hy262]; with_reducible exact H2_) | (have H2_ := (Option.bind_some _ _).symm.trans H; with_reducible exact H2_) | with_reducible exact H | (rw [hy262]; exact H) | exact H
                      have Ny262 := Aside0.mk hy262
                      clear hy262
                      have H' := Aside0.mk H
                      clear H
                      obtain ⟨Ao14, co14, eo14⟩ := Kd.R_slice HO_7.out
                      subst eo14
                      go_wp2_with (first | ((with_reducible refine gate_builtin (b := .append) (xs := #[.tmp 31, .tmp 33]) rfl ?_); at_builtin; refine Kd.S_append (Kd.slice 3 (Kd.int .i64)) (w0 := w) w.heap.size rfl (.tmp 31) (.tmp 33) 22 33 (.slice none 0 0) 24 rfl Try.underlying22 info33 rfl (by decide) (by omega) u4 x4_1 x7_2 [.slice Ao14 x7_2.length co14] (fun _ => True) (fun k_ => some k_ = (.slice Ao14 x7_2.length co14 : Value).ownBlock) rfl rfl ?aP (fun k_ hk_ => ((Kd.R_mono (ok' := fun k_ => ((fun _ => True)) k_ ∧ some k_ ≠ (u4 : Value).ownBlock) (Kd.R_apart' (HO_7.out) (Kd.S_typed HO_4.out) (by decide)) (fun k_ hk => ⟨trivial, hk.2⟩))).1 k_ hk_.symm) ?aF ?aO ?aB ?aS ?aL ?_; (case aP => exact Kd.M_row (Kd.R_mono (Kd.R_tight rfl (Kd.R_mono (ok' := fun k_ => ((fun _ => True)) k_ ∧ some k_ ≠ (u4 : Value).ownBlock) (Kd.R_apart' (HO_7.out) (Kd.S_typed HO_4.out) (by decide)) (fun k_ hk => ⟨trivial, hk.2⟩))) (fun _ h_ => h_))); (case aB => exact (by repeat (first | (with_reducible first | exact HB.out | apply below_alloc | apply pw_below_drewN | apply below_drew1) | exact HB.out))); (case aF => exact (fun _ _ => trivial)); (case aO => exact (by (with_reducible repeat (first | apply Kd.S_alloc | apply Kd.S_drewN | apply Kd.S_drew)); exact Kd.S_mono HO_4.out (fun k_ hk => ⟨trivial, fun e_ => hk e_⟩))); (case aS => exact (below_size (by repeat (first | (with_reducible first | exact HB.out | apply below_alloc | apply pw_below_drewN | apply below_drew1) | exact HB.out)))); (case aL => have := LMc12.out; omega); intro v263 w13 ho hb hg hat; rw [← Ny262.out] at ho; have n0_ := Aside0.mk (hb); have n1_ := Aside0.mk (ho); clear HB; clear HO_4; clear HO_7; have HB := n0_; have HO264 := n1_; clear n0_ n1_; clear ho hb hg hat))
                      go_roundg k2
                      case measure => have := HK1.out; have := HK2.out; omega
                      case rel => exact ⟨(y262), (wrap64 (x15_1 + 1)), (by first | rfl | (simp; done) | (simp [*]; done)), H', ⟨by have := HK1.out; have := HK2.out; omega⟩, ⟨by (with_reducible repeat (first | apply Kd.S_alloc | apply Kd.S_drewN | apply Kd.S_drew)); exact HO264.out⟩, ⟨by repeat (first | (with_reducible first | exact HB.out | apply below_alloc | apply pw_below_drewN | apply below_drew1) | exact HB.out)⟩⟩
                    · rw [if_neg c12] at H
                      exact absurd H (by simp)
            · rw [if_neg c6] at H
              exact absurd H (by simp)
          · rw [if_neg c5] at H
            exact absurd H (by simp)
        · rw [if_neg c4] at H
          have c4b0 : decide (x15_1 < (l0.length : Int)) = false := decide_eq_false c4
          clear c4
          simp only [Option.some.injEq, Prod.mk.injEq] at H
          obtain ⟨rfl, rfl⟩ := H
          go_wp2
          go_ret2
          exact ⟨_, by first | rfl | (simp [errW_none, errW_some] <;> rfl) | (simp [*, errW_none, errW_some] <;> rfl), by (with_reducible repeat (first | apply Kd.S_alloc | apply Kd.S_drewN | apply Kd.S_drew)); exact HO_4.out, by repeat (first | (with_reducible first | exact HB.out | apply below_alloc | apply pw_below_drewN | apply below_drew1) | exact HB.out)⟩
  · replace c3 := Bool.eq_false_iff.mpr c3
    subst c3
    have H1 : (some (([] : List (List Int)), false)) = some (r1, r2) := by rw [if_neg (show ¬ (false = true) by decide)] at H; exact H
    clear H
    have H := H1
    clear H1
    simp only [Option.some.injEq, Prod.mk.injEq] at H
    obtain ⟨rfl, rfl⟩ := H
    go_enter Try.func31, Try.ntmps31
    go_wp2_with (first | ((with_reducible refine gate_callee (f := 67) rfl ?_); refine goesL_ (some 11) rfl rfl Try.func67 (by kernel_rfl) rfl #[.slice A0 l0.length c0] rfl (by (try simp only [List.map_toArray, List.map_cons, List.map_nil]); first | done | rfl | (simp only [List.length_drop, List.length_take]; rfl)) ?_; (with_reducible refine (spec_maGrid.calls k _ _ l0 false _ ?side1 ?side2 A2.out).mono ?_); (case side1 => repeat (first | exact HR0.out | (with_reducible refine Kd.C_alloc ?_ _) | (with_reducible refine Kd.C_drewN ?_ _) | (with_reducible refine Kd.C_drew ?_))); (case side2 => exact HC0.out); rintro e w' ⟨rfl, ⟨nd, rfl⟩⟩; refine ⟨_, rfl, ?_⟩))
    go_ret2
    exact ⟨_, by first | rfl | (simp [errW_none, errW_some] <;> rfl) | (simp [*, errW_none, errW_some] <;> rfl), by first | exact Kd.S_nil _ _ _ _ _ | exact Kd.N_nil _ _ _ _ _ | exact Kd.V_nil _ _ _ _ _ | exact Kd.Q_nil _ _ _ _ _ | exact Kd.R_nil _ _ _ _ _, by repeat (first | (with_reducible first | exact HB.out | apply below_alloc | apply pw_below_drewN | apply below_drew1) | exact HB.out)⟩

end Go.Proofs.Ytojcnapdalpnmaa.P

namespace Go.Proofs.Ytojcnapdalpnmaa.K
open Go.RowKit Go.Proofs.YtojcnapdalpnmaaW.PrintWords Go.Proofs.Ytojcnapdalpnmaa.P
set_option linter.unusedVariables false
set_option linter.unusedSimpArgs false
theorem mapRow_length (g : Int → Int → Int → Int) (i : Nat) : ∀ (l : List Int) (j : Nat), (mapRow g i j l).length = l.length
  | [], _ => rfl
  | _ :: l, j => by simp [mapRow, mapRow_length g i l (j + 1)]
theorem mapRows_length (g : Int → Int → Int → Int) : ∀ (l : List (List Int)) (i : Nat), (mapRows g i l).length = l.length
  | [], _ => rfl
  | _ :: l, i => by simp [mapRows, mapRows_length g l (i + 1)]
theorem mapRows_mem (g : Int → Int → Int → Int) : ∀ (l : List (List Int)) (i : Nat) (r : List Int), r ∈ mapRows g i l → ∃ r0 ∈ l, r.length = r0.length
  | [], _, _, h => by cases h
  | x :: l, i, r, h => by
    rcases List.mem_cons.1 h with rfl | h
    · exact ⟨x, by simp, mapRow_length ..⟩
    · obtain ⟨r0, h1, h2⟩ := mapRows_mem g l (i + 1) r h
      exact ⟨r0, by simp [h1], h2⟩
theorem mapRow_map (f : Int → Int) (i : Nat) : ∀ (l : List Int) (j : Nat), mapRow (fun _ _ n => f n) i j l = l.map f
  | [], _ => rfl
  | _ :: l, j => by simp [mapRow, mapRow_map f i l (j + 1)]
theorem mapRows_map (f : Int → Int) : ∀ (l : List (List Int)) (i : Nat), mapRows (fun _ _ n => f n) i l = l.map (List.map f)
  | [], _ => rfl
  | _ :: l, i => by simp [mapRows, mapRow_map, mapRows_map f l (i + 1)]
theorem opp_l1 (f : Nat → Nat) (l : List (List Int)) (x14 x15 : Int) (x4 : List (List Int)) (h4 : x4.length < 5864062014805) (y : List (List Int) × Bool) : ∀ (rest done x7 : List Int), (done ++ rest).length ≤ 1048576 → x7.length = done.length →
    Ev (fun k => spec_OppositeGrid.l0 k (x4 ++ [x7 ++ rest.map fun n => wrap64 (1 - n)]) l x14 (wrap64 (x15 + 1))) y →
    Ev (fun k => spec_OppositeGrid.l1 k x4 x7 l x14 x15 (done ++ rest) ((done ++ rest).length : Int) (done.length : Int)) y := by
  intro rest
  induction rest with
  | nil =>
    intro done x7 h hx hy
    refine Ev.step (fun k => by rw [spec_OppositeGrid.l1]) ?_
    simp only [List.append_nil, List.map_nil] at hy ⊢
    simp only [if_neg (show ¬ (done.length : Int) < (done.length : Int) by omega), if_pos h4]
    exact hy
  | cons x rest ih =>
    intro done x7 h hx hy
    obtain ⟨q1, q2, q3, q4, q5⟩ := mid x done rest (by simp only [BM]; omega)
    have ih' := ih (done ++ [x]) (x7 ++ [wrap64 (1 - x)]) (by rw [q5]; exact h) (by simp [hx]) (by simpa using hy)
    rw [q5] at ih'
    have hl : x7.length < 17592186044416 := by simp at h; omega
    refine Ev.step (fun k => by rw [spec_OppositeGrid.l1]) ?_
    simp only [if_pos q1, if_pos q2, q3, q4, if_pos hl]
    exact ih'
theorem opp_l0 : ∀ (rest done x4 : List (List Int)), (done ++ rest).length ≤ 1048576 → (∀ r ∈ rest, r.length ≤ 1048576) → x4.length = done.length →
    Ev (fun k => spec_OppositeGrid.l0 k x4 (done ++ rest) ((done ++ rest).length : Int) (done.length : Int)) (x4 ++ rest.map (List.map fun n => wrap64 (1 - n)), true) := by
  intro rest
  induction rest with
  | nil => intro done x4 h _ _; exact Ev.step (fun k => by simp [spec_OppositeGrid.l0]; rfl) (Ev.some (by simp))
  | cons r rest ih =>
    intro done x4 h hr hx
    obtain ⟨q1, q2, q3, q4, q5⟩ := midL r done rest (by unfold maxLen; omega)
    have ih' := ih (done ++ [r]) (x4 ++ [r.map fun n => wrap64 (1 - n)]) (by rw [q5]; exact h) (fun y hy => hr y (by simp [hy])) (by simp [hx])
    rw [q5] at ih'
    refine Ev.step (fun k => by rw [spec_OppositeGrid.l0]) ?_
    simp only [if_pos q1, if_pos q2, q3]
    refine opp_l1 id _ _ _ x4 (by simp at h; omega) _ r [] [] (hr r (by simp)) rfl ?_
    rw [q4]
    refine Ev.pair ih' (by simp)
theorem OppositeGrid_ans (l0 : List (List Int)) (h0 : l0.length ≤ 1048576 ∧ ∀ r ∈ l0, r.length ≤ 1048576) :
    ∃ (w0 : List (List Int)) (wb : Bool), Ev (fun k => spec_OppositeGrid.f k l0) (w0, wb) ∧ impl_OppositeGrid.f l0 = some (w0, wb) ∧ w0.length ≤ 1048576 ∧ ∀ r ∈ w0, r.length ≤ 1048576 := by
  have h4 : l0.length ≤ BM := by have := h0.1; simp only [BM]; omega
  have h5 : ∀ r ∈ l0, r.length ≤ BM := fun x hx => by have := h0.2 x hx; simp only [BM]; omega
  unfold impl_OppositeGrid.f
  rw [if_pos h0]
  by_cases hg : gridB l0 = true
  · rw [if_pos hg]
    refine ⟨_, _, ?_, rfl, by rw [mapRows_length]; exact h0.1, fun r hr => ?_⟩
    · unfold spec_OppositeGrid.f
      refine Ev.bind (maGrid_f l0 h4 h5) ?_
      simp only [if_pos hg]
      refine Ev.pair (opp_l0 l0 [] [] h0.1 h0.2 rfl) ?_
      rw [mapRows_map (fun n => wrap64 (1 - n))]; rfl
    · obtain ⟨r0, h1, h2⟩ := mapRows_mem _ _ _ r hr
      have := h0.2 r0 h1; omega
  · rw [if_neg hg]
    refine ⟨_, _, ?_, rfl, by simp, by simp⟩
    unfold spec_OppositeGrid.f
    refine Ev.bind (maGrid_f l0 h4 h5) ?_
    simp only [if_neg hg]
    exact Ev.now _

end Go.Proofs.Ytojcnapdalpnmaa.K

namespace Go.Proofs.Ytojcnapdalpnmaa.K
open Go.RowKit Go.Proofs.YtojcnapdalpnmaaW.PrintWords Go.Proofs.Ytojcnapdalpnmaa.P
set_option linter.unusedVariables false
set_option linter.unusedSimpArgs false
/-- The number in row i and column j; row i. -/
def rowN (l : List (List Int)) (i : Nat) : List Int := rd_L1 l (i : Int)
def at2 (l : List (List Int)) (i j : Nat) : Int := rd (rowN l i) (j : Int)
theorem rowN_at {l : List (List Int)} {i : Nat} (h : i < l.length) : rowN l i = l[i] := by
  unfold rowN rd_L1; simp [List.getD_eq_getElem?_getD, List.getElem?_eq_getElem h]
theorem rdN_at {l : List Int} {i : Nat} (h : i < l.length) : rd l (i : Int) = l[i] := by
  unfold rd; simp [List.getD_eq_getElem?_getD, List.getElem?_eq_getElem h]
theorem rowN_mem {l : List (List Int)} {i : Nat} (h : i < l.length) : rowN l i ∈ l := by rw [rowN_at h]; exact List.getElem_mem _
theorem rows_ext {l l' : List (List Int)} (h : l.length = l'.length) (hr : ∀ i, i < l.length → (rowN l i).length = (rowN l' i).length) (ha : ∀ i j, i < l.length → j < (rowN l i).length → at2 l i j = at2 l' i j) : l = l' := by
  apply List.ext_getElem h
  intro i h1 h2
  have e1 := rowN_at h1
  have e2 := rowN_at h2
  rw [← e1, ← e2]
  apply List.ext_getElem (hr i h1)
  intro j h3 h4
  have := ha i j h1 h3
  unfold at2 at this
  rwa [rdN_at h3, rdN_at h4] at this
theorem mapRow_at (g : Int → Int → Int → Int) (i : Nat) : ∀ (l : List Int) (j0 j : Nat), j < l.length → rd (mapRow g i j0 l) (j : Int) = g (i : Int) ((j0 + j : Nat) : Int) (rd l (j : Int))
  | [], _, _, h => by simp at h
  | x :: l, j0, 0, _ => by simp [mapRow, rd]
  | x :: l, j0, j + 1, h => by
    have := mapRow_at g i l (j0 + 1) j (by simpa using h)
    have e : ∀ (y : Int) (m : List Int), rd (y :: m) ((j + 1 : Nat) : Int) = rd m (j : Int) := fun y m => by simp [rd]
    rw [mapRow, e, e, this]; congr 2; omega
theorem mapRows_row (g : Int → Int → Int → Int) : ∀ (l : List (List Int)) (i0 i : Nat), i < l.length → rowN (mapRows g i0 l) i = mapRow g (i0 + i) 0 (rowN l i)
  | [], _, _, h => by simp at h
  | x :: l, i0, 0, _ => by simp [mapRows, rowN, rd_L1]
  | x :: l, i0, i + 1, h => by
    have := mapRows_row g l (i0 + 1) i (by simpa using h)
    have e : ∀ (y : List Int) (m : List (List Int)), rowN (y :: m) (i + 1) = rowN m i := fun y m => by simp [rowN, rd_L1]
    rw [mapRows, e, e, this]; congr 1; omega
theorem mapRows_at (g : Int → Int → Int → Int) (l : List (List Int)) (i j : Nat) (hi : i < l.length) (hj : j < (rowN l i).length) : at2 (mapRows g 0 l) i j = g (i : Int) (j : Int) (at2 l i j) := by
  unfold at2
  rw [mapRows_row g l 0 i hi, mapRow_at g _ _ 0 j hj]
  simp
/-- One place's number is turned. -/
def flip2 (l : List (List Int)) (i j : Nat) : List (List Int) := l.set i ((rowN l i).set j (wrap64 (1 - at2 l i j)))
theorem flip2_length (l : List (List Int)) (i j : Nat) : (flip2 l i j).length = l.length := by simp [flip2]
theorem flip2_row (l : List (List Int)) (i j i' : Nat) (hi : i < l.length) : rowN (flip2 l i j) i' = if i' = i then (rowN l i).set j (wrap64 (1 - at2 l i j)) else rowN l i' := by
  unfold flip2 rowN rd_L1
  simp only [Int.toNat_natCast, List.getD_eq_getElem?_getD, List.getElem?_set]
  by_cases e : i = i'
  · subst e; simp [hi]
  · rw [if_neg e, if_neg (fun h => e h.symm)]
theorem flip2_rowlen (l : List (List Int)) (i j i' : Nat) (hi : i < l.length) : (rowN (flip2 l i j) i').length = (rowN l i').length := by
  rw [flip2_row l i j i' hi]
  by_cases e : i' = i
  · subst e; simp
  · rw [if_neg e]
theorem flip2_at (l : List (List Int)) (i j i' j' : Nat) (hi : i < l.length) (hj : j < (rowN l i).length) : at2 (flip2 l i j) i' j' = if i' = i ∧ j' = j then wrap64 (1 - at2 l i j) else at2 l i' j' := by
  unfold at2
  rw [flip2_row l i j i' hi]
  by_cases e : i' = i
  · subst e
    simp only [if_true, true_and, rd, Int.toNat_natCast, List.getD_eq_getElem?_getD, List.getElem?_set]
    by_cases e2 : j = j'
    · subst e2; simp [hj, at2, rd]
    · rw [if_neg e2, if_neg (fun h => e2 h.symm)]
  · rw [if_neg e, if_neg (fun h => e h.1)]

end Go.Proofs.Ytojcnapdalpnmaa.K

namespace Go.Proofs.Ytojcnapdalpnmaa.K
open Go.RowKit Go.Proofs.YtojcnapdalpnmaaW.PrintWords Go.Proofs.Ytojcnapdalpnmaa.P
set_option linter.unusedVariables false
set_option linter.unusedSimpArgs false
theorem l1Own_f (l : List Int) (h : l.length ≤ 1048576) : spec_l1Own.f l = some l := by
  unfold spec_l1Own.f
  simp only [Option.bind_some, List.length_nil, List.nil_append]
  rw [if_pos (by omega)]
theorem maOwn_l0 : ∀ (rest done x3 : List (List Int)), (done ++ rest).length ≤ 1048576 → (∀ r ∈ rest, r.length ≤ 1048576) → x3.length = done.length → Ev (fun k => spec_maOwn.l0 k x3 (done ++ rest) ((done ++ rest).length : Int) (done.length : Int)) (x3 ++ rest) := by
  intro rest
  induction rest with
  | nil => intro done x3 h _ _; exact Ev.step (fun k => by simp [spec_maOwn.l0]; rfl) (Ev.some (by simp))
  | cons r rest ih =>
    intro done x3 h hr hx
    obtain ⟨q1, q2, q3, q4, q5⟩ := midL r done rest (by unfold maxLen; omega)
    have ih' := ih (done ++ [r]) (x3 ++ [r]) (by rw [q5]; exact h) (fun y hy => hr y (by simp [hy])) (by simp [hx])
    rw [q5] at ih'
    have hl : x3.length < 5864062014805 := by simp at h; omega
    refine Ev.step (fun k => by rw [spec_maOwn.l0]) ?_
    simp only [if_pos q1, if_pos q2, q3, q4, l1Own_f r (hr r (by simp)), Option.bind_some, if_pos hl]
    exact Ev.pair ih' (by simp)
theorem maOwn_f (l : List (List Int)) (h : l.length ≤ 1048576) (hr : ∀ r ∈ l, r.length ≤ 1048576) : Ev (fun k => spec_maOwn.f k l) l := by
  unfold spec_maOwn.f
  exact maOwn_l0 l [] [] h hr rfl
theorem maDo_l1 (l : List (List Int)) (i c b : Nat) (x16 : List Int) (x17 x18 u0 u1 u2 u3 : Int) (hi : i < l.length) (hc : c < (rowN l i).length) (hb : b < (rowN l i).length) (y : List (List Int))
    (h : Ev (fun k => spec_maDo.l0 k (flip2 (flip2 l i c) i b) x16 x17 (wrap64 (x18 + 1)) u0 u1 u2 u3) y) :
    Ev (fun k => spec_maDo.l1 k l (i : Int) x16 x17 x18 [(c : Int), (b : Int)] 2 0 u0 u1 u2 u3) y := by
  have step : ∀ (l : List (List Int)) (j : Nat) (x28 : Int) (m : Nat), x28 = m → m < 2 → rd [(c : Int), (b : Int)] x28 = (j : Int) → i < l.length → j < (rowN l i).length → Ev (fun k => spec_maDo.l1 k (flip2 l i j) (i : Int) x16 x17 x18 [(c : Int), (b : Int)] 2 (wrap64 (x28 + 1)) u0 u1 u2 u3) y → Ev (fun k => spec_maDo.l1 k l (i : Int) x16 x17 x18 [(c : Int), (b : Int)] 2 x28 u0 u1 u2 u3) y := by
    intro l j x28 m hm hm2 hrd hi hj hy
    refine Ev.step (fun k => by rw [spec_maDo.l1]) ?_
    have q1 : x28 < 2 := by omega
    have q2 : 0 ≤ x28 := by omega
    have q3 : x28 < ([(c : Int), (b : Int)].length : Int) := by simp; omega
    have q4 : 0 ≤ (i : Int) := by omega
    have q5 : (i : Int) < (l.length : Int) := by omega
    have q6 : 0 ≤ (j : Int) := by omega
    have q7 : (j : Int) < ((rd_L1 l (i : Int)).length : Int) := by have : (rowN l i).length = (rd_L1 l (i : Int)).length := rfl; omega
    simp only [if_pos q1, if_pos q2, if_pos q3, if_pos q4, if_pos q5, hrd, if_pos q6, if_pos q7, Int.toNat_natCast]
    exact hy
  refine step l c 0 0 rfl (by omega) (by simp [rd]) hi hc ?_
  rw [show wrap64 (0 + 1) = ((1 : Nat) : Int) by unfold wrap64; omega]
  refine step (flip2 l i c) b _ 1 rfl (by omega) (by simp [rd]) (by rw [flip2_length]; exact hi) (by rw [flip2_rowlen _ _ _ _ hi]; exact hb) ?_
  rw [show wrap64 (((1 : Nat) : Int) + 1) = 2 by unfold wrap64; omega]
  refine Ev.step (fun k => by rw [spec_maDo.l1]) ?_
  simp only [if_neg (show ¬ (2 : Int) < 2 by omega)]
  exact h
/-- The switch, place by place. -/
def flips (l : List (List Int)) (r o c b : Nat) : List (List Int) := flip2 (flip2 (flip2 (flip2 l r c) r b) o c) o b
theorem flips_eq (l : List (List Int)) (r o c b m : Nat) (h1 : r < o) (h2 : o < l.length) (h3 : c < b) (h4 : b < m) (hm : ∀ i, i < l.length → (rowN l i).length = m) : flips l r o c b = mapRows (swNum r o c b) 0 l := by
  have z : ∀ (l : List (List Int)) (i j : Nat), i < l.length → ∀ i', (rowN (flip2 l i j) i').length = (rowN l i').length := fun l i j hi i' => flip2_rowlen l i j i' hi
  have e1 : ∀ i', (rowN (flip2 l r c) i').length = (rowN l i').length := z l r c (by omega)
  have e2 : ∀ i', (rowN (flip2 (flip2 l r c) r b) i').length = (rowN l i').length := fun i' => (z _ r b (by rw [flip2_length]; omega) i').trans (e1 i')
  have e3 : ∀ i', (rowN (flip2 (flip2 (flip2 l r c) r b) o c) i').length = (rowN l i').length := fun i' => (z _ o c (by simp only [flip2_length]; omega) i').trans (e2 i')
  have e4 : ∀ i', (rowN (flips l r o c b) i').length = (rowN l i').length := fun i' => (z _ o b (by simp only [flip2_length]; omega) i').trans (e3 i')
  have hr := hm r (by omega)
  have ho := hm o h2
  apply rows_ext
  · simp only [flips, flip2_length, mapRows_length]
  · intro i hi
    simp only [flips, flip2_length] at hi
    rw [e4, mapRows_row _ _ _ _ hi, mapRow_length]
  · intro i j hi hj
    simp only [flips, flip2_length] at hi
    rw [e4] at hj
    rw [mapRows_at _ _ _ _ hi hj]
    unfold flips
    rw [flip2_at _ o b i j (by simp only [flip2_length]; omega) (by rw [e3]; omega), flip2_at _ o c i j (by simp only [flip2_length]; omega) (by rw [e2]; omega), flip2_at _ o c o b (by simp only [flip2_length]; omega) (by rw [e2]; omega),
      flip2_at _ r b i j (by simp only [flip2_length]; omega) (by rw [e1]; omega), flip2_at _ r b o c (by simp only [flip2_length]; omega) (by rw [e1]; omega), flip2_at _ r b o b (by simp only [flip2_length]; omega) (by rw [e1]; omega),
      flip2_at _ r c i j (by omega) (by omega), flip2_at _ r c o c (by omega) (by omega), flip2_at _ r c o b (by omega) (by omega), flip2_at _ r c r b (by omega) (by omega)]
    unfold swNum
    have n1 : ¬ o = r := by omega
    have n2 : ¬ b = c := by omega
    simp only [n1, n2, false_and, and_false, if_false]
    have w : ∀ a b : Nat, ((a : Int) = (b : Int)) ↔ a = b := fun a b => by omega
    simp only [w]
    by_cases a1 : i = o
    · subst a1
      by_cases a3 : j = b
      · subst a3; simp
      · by_cases a4 : j = c
        · subst a4; simp [a3]
        · simp [a3, a4]
    · by_cases a2 : i = r
      · subst a2
        by_cases a3 : j = b
        · subst a3; simp [a1]
        · by_cases a4 : j = c
          · subst a4; simp [a1, a3]
          · simp [a1, a3, a4]
      · simp [a1, a2]
theorem maDo_f (l : List (List Int)) (r o c b m : Nat) (h0 : l.length ≤ 1048576) (h1 : r < o) (h2 : o < l.length) (h3 : c < b) (h4 : b < m) (hm1 : m ≤ 1048576) (hm : ∀ i, i < l.length → (rowN l i).length = m) : Ev (fun k => spec_maDo.f k l r o c b) (mapRows (swNum r o c b) 0 l) := by
  unfold spec_maDo.f
  refine Ev.bind (maOwn_f l h0 (fun x hx => ?_)) ?_
  · obtain ⟨i, hi, rfl⟩ := List.getElem_of_mem hx
    rw [← rowN_at hi, hm i hi]; exact hm1
  simp only [Option.bind_some]
  have hl : (([(r : Int), (o : Int)] : List Int).length : Int) = 2 := rfl
  have hl2 : (([(c : Int), (b : Int)] : List Int).length : Int) = 2 := rfl
  rw [hl]
  refine Ev.step (fun k => by rw [spec_maDo.l0]) ?_
  simp only [if_pos (show (0 : Int) < 2 by omega), if_pos (show (0 : Int) ≤ 0 by omega), hl, Option.bind_some, hl2, show rd [(r : Int), (o : Int)] 0 = (r : Int) by simp [rd]]
  refine maDo_l1 l r c b _ _ _ _ _ _ _ (by omega) (by rw [hm r (by omega)]; omega) (by rw [hm r (by omega)]; omega) _ ?_
  rw [show wrap64 (0 + 1) = 1 by unfold wrap64; omega]
  refine Ev.step (fun k => by rw [spec_maDo.l0]) ?_
  simp only [if_pos (show (1 : Int) < 2 by omega), if_pos (show (0 : Int) ≤ 1 by omega), hl, Option.bind_some, hl2, show rd [(r : Int), (o : Int)] 1 = (o : Int) by simp [rd]]
  have hlen : ∀ i', (rowN (flip2 (flip2 l r c) r b) i').length = (rowN l i').length := fun i' => (flip2_rowlen _ r b i' (by rw [flip2_length]; omega)).trans (flip2_rowlen l r c i' (by omega))
  refine maDo_l1 _ o c b _ _ _ _ _ _ _ (by simp only [flip2_length]; omega) (by rw [hlen, hm o h2]; omega) (by rw [hlen, hm o h2]; omega) _ ?_
  rw [show wrap64 (1 + 1) = 2 by unfold wrap64; omega]
  refine Ev.step (fun k => by rw [spec_maDo.l0]) ?_
  simp only [if_neg (show ¬ (2 : Int) < 2 by omega)]
  exact Ev.some (flips_eq l r o c b m h1 h2 h3 h4 hm)

end Go.Proofs.Ytojcnapdalpnmaa.K

namespace Go.Proofs.Ytojcnapdalpnmaa.K
open Go.RowKit Go.Proofs.YtojcnapdalpnmaaW.PrintWords Go.Proofs.Ytojcnapdalpnmaa.P
set_option linter.unusedVariables false
set_option linter.unusedSimpArgs false
theorem grid_rowN {l : List (List Int)} (hg : gridB l = true) : ∀ i, i < l.length → (rowN l i).length = (rd_L1 l 0).length := fun i hi => ((grid_get hg).2.2.2.2 _ (rowN_mem hi)).1
/-- The places of a switch, as natural numbers. -/
theorem swIn_nat {l : List (List Int)} {r o c b : Int} (h : swIn l r o c b = true) : ∃ r' o' c' b' : Nat, r = r' ∧ o = o' ∧ c = c' ∧ b = b' ∧ r' < o' ∧ o' < l.length ∧ c' < b' ∧ b' < (rd_L1 l 0).length := by
  simp only [swIn, decide_eq_true_eq] at h
  obtain ⟨s1, s2, s3, s4, s5, s6⟩ := h
  exact ⟨r.toNat, o.toNat, c.toNat, b.toNat, by omega, by omega, by omega, by omega, by omega, by omega, by omega, by omega⟩
theorem spec_DoSwitch_f {l : List (List Int)} (r o c b : Int) (h0 : l.length ≤ 1048576 ∧ ∀ x ∈ l, x.length ≤ 1048576) : Ev (fun k => spec_DoSwitch.f k l r o c b) (if gridB l = true ∧ swB l r o c b = true then (mapRows (swNum r o c b) 0 l, true) else ([], false)) := by
  have h4 : l.length ≤ BM := by have := h0.1; simp only [BM]; omega
  have h5 : ∀ r ∈ l, r.length ≤ BM := fun x hx => by have := h0.2 x hx; simp only [BM]; omega
  unfold spec_DoSwitch.f
  refine Ev.bind (maGrid_f l h4 h5) (Ev.ite (fun hg => ?_) (fun hg => ?_))
  · have hs : spec_maIs.f l r o c b = some (swB l r o c b) := by unfold spec_maIs.f; rw [if_pos hg]
    simp only [hs, Option.bind_some]
    refine Ev.ite (fun hb => ?_) (fun hb => ?_)
    · rw [if_pos ⟨hg, hb⟩]
      have hi : swIn l r o c b = true := by simp only [swB, Bool.and_eq_true] at hb; exact hb.1
      obtain ⟨r', o', c', b', rfl, rfl, rfl, rfl, q1, q2, q3, q4⟩ := swIn_nat hi
      obtain ⟨g1, g2, g3, g4, g5⟩ := grid_get hg
      exact Ev.bind (maDo_f l r' o' c' b' _ h0.1 q1 q2 q3 q4 (by omega) (grid_rowN hg)) (Ev.now _)
    · rw [if_neg (fun h => hb h.2)]; exact Ev.now _
  · rw [if_neg (fun h => hg h.1)]; exact Ev.now _
theorem impl_DoSwitch_f {l : List (List Int)} (r o c b : Int) (h0 : l.length ≤ 1048576 ∧ ∀ x ∈ l, x.length ≤ 1048576) : impl_DoSwitch.f l r o c b = some (if gridB l = true ∧ swB l r o c b = true then (mapRows (swNum r o c b) 0 l, true) else ([], false)) := by
  have h4 : l.length ≤ BM := by have := h0.1; simp only [BM]; omega
  have h5 : ∀ r ∈ l, r.length ≤ BM := fun x hx => by have := h0.2 x hx; simp only [BM]; omega
  unfold impl_DoSwitch.f impl_switched.f
  simp only [IsGrid_f l h4 h5, Option.bind_some]
  by_cases hg : gridB l = true
  · have hs : impl_isSwitch.f l r o c b = some (swB l r o c b) := by unfold impl_isSwitch.f; rw [if_pos hg]
    rw [if_pos hg, hs, Option.bind_some, if_pos h0, Option.bind_some]
    by_cases hb : swB l r o c b = true
    · rw [if_pos hb, if_pos ⟨hg, hb⟩]
    · rw [if_neg hb, if_neg (fun h => hb h.2)]
  · rw [if_neg hg, if_neg (fun h => hg h.1)]
theorem mapRows_bd {g : Int → Int → Int → Int} {l : List (List Int)} (h0 : l.length ≤ 1048576 ∧ ∀ x ∈ l, x.length ≤ 1048576) : (mapRows g 0 l).length ≤ 1048576 ∧ ∀ x ∈ mapRows g 0 l, x.length ≤ 1048576 :=
  ⟨by rw [mapRows_length]; exact h0.1, fun x hx => by obtain ⟨r0, h1, h2⟩ := mapRows_mem _ _ _ x hx; have := h0.2 r0 h1; omega⟩
theorem DoSwitch_ans (l0 : List (List Int)) (a1_0 a1_1 a1_2 a1_3 : Int) (h0 : l0.length ≤ 1048576 ∧ ∀ r ∈ l0, r.length ≤ 1048576) :
    ∃ (w0 : List (List Int)) (wb : Bool), Ev (fun k => spec_DoSwitch.f k l0 a1_0 a1_1 a1_2 a1_3) (w0, wb) ∧ impl_DoSwitch.f l0 a1_0 a1_1 a1_2 a1_3 = some (w0, wb) ∧ w0.length ≤ 1048576 ∧ ∀ r ∈ w0, r.length ≤ 1048576 := by
  have e1 := spec_DoSwitch_f a1_0 a1_1 a1_2 a1_3 h0
  have e2 := impl_DoSwitch_f a1_0 a1_1 a1_2 a1_3 h0
  by_cases hg : gridB l0 = true ∧ swB l0 a1_0 a1_1 a1_2 a1_3 = true
  · rw [if_pos hg] at e1 e2
    exact ⟨_, _, e1, e2, mapRows_bd h0⟩
  · rw [if_neg hg] at e1 e2
    exact ⟨_, _, e1, e2, by simp, by simp⟩

end Go.Proofs.Ytojcnapdalpnmaa.K

namespace Go.Proofs.Ytojcnapdalpnmaa.K
open Go.RowKit Go.Proofs.YtojcnapdalpnmaaW.PrintWords Go.Proofs.Ytojcnapdalpnmaa.P
set_option linter.unusedVariables false
set_option linter.unusedSimpArgs false

theorem seqOf_from (a : Int) (n : Nat) : seqOf a n = seqFrom a n := by
  induction n generalizing a with
  | zero => rfl
  | succ n ih => simp [seqOf, seqFrom, ih]
theorem seqRows_length (a : Int) (l : List (List Int)) : (seqRows a l).2.length = l.length := by
  induction l generalizing a with
  | nil => rfl
  | cons r l ih => simp [seqRows, ih]
theorem seqRows_le (a : Int) (l : List (List Int)) : a ≤ (seqRows a l).1 := by
  induction l generalizing a with
  | nil => simp [seqRows]
  | cons r l ih => have := ih (a + r.length); simp only [seqRows]; omega
theorem markSS_f (l : List (List Int)) (h : l.length ≤ 1048576) (hr : ∀ r ∈ l, r.length ≤ 1048576) : laws_markIntSS.f l 1 = some (seqRows 1 l) := by
  unfold laws_markIntSS.f
  rw [if_pos ⟨by omega, by omega, h, hr⟩]
theorem markSS_f' (l : List (List Int)) (a : Int) (h0 : 0 ≤ a) (h1 : a ≤ 1048576) (h : l.length ≤ 1048576) (hr : ∀ r ∈ l, r.length ≤ 1048576) : laws_markIntSS.f l a = some (seqRows a l) := by
  unfold laws_markIntSS.f
  rw [if_pos ⟨h0, h1, h, hr⟩]
theorem heldSS_l0 : ∀ (rest : List (List Int)) (done : List (List Int)) (b : Int), (done ++ (seqRows b rest).2).length ≤ 1048576 → (∀ r ∈ rest, r.length ≤ 1048576) → 0 ≤ b → b ≤ 1048576 + 1048576 * done.length → Ev (fun k => laws_heldIntSS.l0 k (done ++ (seqRows b rest).2) b done.length) (seqRows b rest).1 := by
  intro rest
  induction rest with
  | nil => intro done b h _ _ _; exact Ev.step (fun k => by simp [laws_heldIntSS.l0, seqRows]; rfl) (Ev.some (by simp [seqRows]))
  | cons x rest ih =>
    intro done b h hr h0 hb
    simp only [seqRows] at h ⊢
    have hx := hr x (by simp)
    have hlen : (done ++ seqOf b x.length :: (seqRows (b + x.length) rest).2).length = done.length + 1 + rest.length := by simp [seqRows_length]; omega
    have ih' := ih (done ++ [seqOf b x.length]) (b + x.length) (by simpa using h) (fun r h => hr r (by simp [h])) (by omega) (by rw [List.length_append, List.length_singleton]; omega)
    have h1 : (done.length : Int) < ((done ++ seqOf b x.length :: (seqRows (b + x.length) rest).2).length : Int) := by omega
    have h2 : 0 ≤ (done.length : Int) := by omega
    have h3 : rd_L1 (done ++ seqOf b x.length :: (seqRows (b + x.length) rest).2) (done.length : Int) = seqOf b x.length := by simp [rd_L1]
    have h4 : wrap64 ((done.length : Int) + 1) = ((done ++ [seqOf b x.length]).length : Int) := by rw [wrap_nat _ (by omega)]; simp
    refine Ev.step (fun k => by rw [laws_heldIntSS.l0]) ?_
    simp only [if_pos h1, if_pos h2, h3, h4]
    have hd : Ev (fun k => laws_heldIntS.f k (seqOf b x.length) b) (b + x.length) := by rw [seqOf_from]; exact heldIntS_f b x.length (by simp only [BM]; omega) h0 (by omega)
    refine Ev.bind hd ?_
    have h5 : ¬ (b + (x.length : Int) < 0) := by omega
    simp only [if_neg h5]
    simpa using ih'
theorem heldSS_f (l : List (List Int)) (h : l.length ≤ 1048576) (hr : ∀ r ∈ l, r.length ≤ 1048576) : Ev (fun k => laws_heldIntSS.f k (seqRows 1 l).2 1) (seqRows 1 l).1 := by
  unfold laws_heldIntSS.f
  exact heldSS_l0 l [] 1 (by simpa [seqRows_length] using h) hr (by omega) (by simp)

end Go.Proofs.Ytojcnapdalpnmaa.K

/- The law FnExactDoSwitch: the program's DoSwitch answers as the reference's, for all arguments (no condition); what the walk asks of the functions that it calls. -/
namespace Go.Proofs.Ytojcnapdalpnmaa.Pure
open Go.RowKit Go.Proofs.YtojcnapdalpnmaaW.PrintWords Go.Proofs.Ytojcnapdalpnmaa.P Go.Proofs.Ytojcnapdalpnmaa.K
set_option linter.unusedVariables false
set_option linter.unusedSimpArgs false
set_option maxRecDepth 10000 in
theorem FnExactDoSwitch : ∀ (l0 : List (List Int)) (a1_0 : Int) (a1_1 : Int) (a1_2 : Int) (a1_3 : Int), l0.length ≤ maxLen → (∀ r ∈ l0, r.length ≤ maxLen ∧ ∀ n ∈ r, (Lit.int .i64 n).wf = true) → (Lit.int .i64 a1_0).wf = true → (Lit.int .i64 a1_1).wf = true → (Lit.int .i64 a1_2).wf = true → (Lit.int .i64 a1_3).wf = true → laws_FnExactDoSwitch.Good l0 a1_0 a1_1 a1_2 a1_3 true := by
  intro l0 a1_0 a1_1 a1_2 a1_3 hm0 hw0 hw_a1_0 hw_a1_1 hw_a1_2 hw_a1_3
  refine ⟨rfl, ?_⟩
  obtain ⟨n0, hs0, hle0, hb0⟩ := szIntSS_f l0 1048576 hm0 (fun r h => (hw0 r h).1) (by omega) (by omega)
  refine ⟨n0, Ev.rounds hs0, ?_⟩
  by_cases hn0 : n0 < 0
  · exact Or.inl hn0
  refine Or.inr ⟨by omega, ?_⟩
  obtain ⟨b1_0, b2_0⟩ := hb0 (by omega)
  have B0 : l0.length ≤ 1048576 ∧ ∀ r ∈ l0, r.length ≤ 1048576 := ⟨by omega, fun x hx => by have := b2_0 x hx; omega⟩
  obtain ⟨w0, wb, hsp, him, W0⟩ := DoSwitch_ans l0 a1_0 a1_1 a1_2 a1_3 B0
  have le0 := seqRows_le 1 l0
  have lw0 := seqRows_le 1 w0
  exact ⟨w0, (seqRows 1 w0).2, (seqRows 1 l0).2, wb, (seqRows 1 l0).1, (seqRows 1 w0).1, Ev.rounds (toIntSS_f l0 B0.1 (fun r hr => by have := B0.2 r hr; simp only [BM]; omega)), rfl, Ev.rounds (hsp), him, Ev.rounds (eqIntSS_same w0 (by have := W0.1; simp only [BM]; omega) (fun r hr => by have := W0.2 r hr; simp only [BM]; omega)), Ev.rounds (eqIntSS_same l0 (by have := B0.1; simp only [BM]; omega) (fun r hr => by have := B0.2 r hr; simp only [BM]; omega)), markSS_f' l0 1 (by omega) (by omega) B0.1 B0.2, markSS_f' w0 1 (by omega) (by omega) W0.1 W0.2, Ev.rounds (heldSS_f w0 W0.1 W0.2), by omega, by omega, seqRows_length _ _⟩

end Go.Proofs.Ytojcnapdalpnmaa.Pure

namespace Go.Proofs.Ytojcnapdalpnmaa.K
open Go.RowKit Go.ChangeShapes Go.WideShapes Go.ChangeAt Go.Deep Go.Proofs.YtojcnapdalpnmaaW.PrintWords
set_option linter.unusedVariables false
set_option linter.unusedSimpArgs false
section
variable {H : Type} {enc : TypeId × Value → H} {P : Program} {w : World}

/-- A row of whole numbers among the arguments. -/
theorem open_row {t e : TypeId} {fuel : Nat} {cs : List Value} {x : DataW H × List MemPlace} (ht : P.underlying t = some (.slice e)) (he : P.underlying e = some (.int .i64)) (hc : P.cellsOf e = 1)
    (h : DataW.trod enc P w 0 (fun _ => true) true fuel t cs = some x) :
    ∃ (A : Option Addr) (c : Nat) (l : List Int), cs = [.slice A l.length c] ∧ l.length ≤ c ∧ l.length ≤ maxLen ∧ (∀ n ∈ l, (Lit.int .i64 n).wf = true) ∧ Kd.C (Kd.int .i64) w A l.length l := by
  rcases open_ints ht he hc h with ⟨rfl, _⟩ | ⟨a, l, c, zs, rfl, _, hl, hm, hz, _, hcell, hwz⟩
  · exact ⟨none, 0, [], rfl, Nat.le_refl _, by simp [maxLen], by simp, Kd.C_nil _ _⟩
  · obtain ⟨l0, rfl, hr0, hm0, hw0, hc0⟩ := ReadsInt.ofRowC (k := .i64) (w := w) (a := some a) (len := l) (cap := c) (zs := zs) (.inr ⟨a, rfl, hl, hm, by simpa using hz, hcell, hwz⟩)
    exact ⟨some a, c, l0, rfl, hc0, hm0, hw0, Kd.C_of_reads (d := (0 : Int)) (h1 := fun _ => rfl) hr0⟩
/-- A slice of rows of whole numbers among the arguments. -/
theorem open_rows {t e q : TypeId} {fuel : Nat} {cs : List Value} {x : DataW H × List MemPlace} (ht : P.underlying t = some (.slice e)) (he : P.underlying e = some (.slice q)) (hq : P.underlying q = some (.int .i64))
    (ce : P.cellsOf e = 1) (cq : P.cellsOf q = 1) (h : DataW.trod enc P w 0 (fun _ => true) true fuel t cs = some x) :
    ∃ (A : Option Addr) (c : Nat) (l : List (List Int)), cs = [.slice A l.length c] ∧ l.length ≤ c ∧ l.length ≤ maxLen ∧ (∀ r ∈ l, r.length ≤ maxLen ∧ ∀ n ∈ r, (Lit.int .i64 n).wf = true) ∧ Kd.C (Kd.slice q (Kd.int .i64)) w A l.length l := by
  rcases open_int_rows ht he hq ce cq h with ⟨rfl, _⟩ | ⟨a, len, cap, A, L, C, Z, rfl, _, hl, hm, _, hr⟩
  · exact ⟨none, 0, [], rfl, Nat.le_refl _, by simp [maxLen], by simp, Kd.C_nil _ _⟩
  · have hrow : ∀ r, r < cap → ∃ l0 : List Int, L r = l0.length ∧ l0.length ≤ C r ∧ l0.length ≤ maxLen ∧ (∀ n ∈ l0, (Lit.int .i64 n).wf = true) ∧ Kd.C (Kd.int .i64) w (A r) l0.length l0 := by
      intro r hrc
      obtain ⟨h1, h2, h3, h4, h5, h6, h7⟩ := hr r hrc
      cases hA : A r with
      | none =>
        have hC := h6 hA
        exact ⟨[], by simp; omega, by simp, by simp [maxLen], by simp, Kd.C_nil _ _⟩
      | some a' =>
        obtain ⟨_, h8⟩ := h7 a' hA
        obtain ⟨l0, e0, hr0, hm0, hw0, hc0⟩ := ReadsInt.ofRowC (k := .i64) (w := w) (a := some a') (len := L r) (cap := C r) (zs := Z r) (.inr ⟨a', rfl, h2, h3, h4, fun i hi => h8 i (by omega), h5⟩)
        exact ⟨l0, e0, hc0, hm0, hw0, Kd.C_of_reads (d := (0 : Int)) (h1 := fun _ => rfl) hr0⟩
    let F : Nat → List Int := fun r => if h : r < cap then Classical.choose (hrow r h) else []
    have hF : ∀ r, r < cap → L r = (F r).length ∧ (F r).length ≤ C r ∧ (F r).length ≤ maxLen ∧ (∀ n ∈ F r, (Lit.int .i64 n).wf = true) ∧ Kd.C (Kd.int .i64) w (A r) (F r).length (F r) := by
      intro r h
      have := Classical.choose_spec (hrow r h)
      simpa [F, h] using this
    refine ⟨some a, cap, (List.range len).map F, by simp, by simpa using hl, by simp; omega, ?_, ?_⟩
    · intro r hmem
      obtain ⟨i, hi, rfl⟩ := List.mem_map.1 hmem
      have := hF i (by have := List.mem_range.1 hi; omega)
      exact ⟨this.2.2.1, this.2.2.2.1⟩
    · refine ⟨by simp, by simp; unfold maxLen at hm; omega, fun _ => ⟨a, rfl, ?_⟩⟩
      intro j p hp
      obtain ⟨hj, rfl⟩ : j < len ∧ F j = p := by
        rw [List.getElem?_map] at hp
        by_cases hj : j < len
        · rw [List.getElem?_range hj] at hp; simpa [hj] using hp
        · rw [List.getElem?_eq_none (by simp; omega)] at hp; simp at hp
      obtain ⟨f1, f2, f3, f4, f5⟩ := hF j (by omega)
      obtain ⟨h1, _⟩ := hr j (by omega)
      refine ⟨[.slice (A j) (F j).length (C j)], rfl, ⟨A j, C j, rfl, f2, f5⟩, ?_⟩
      intro i u hu
      cases i with
      | zero =>
        obtain rfl : Value.slice (A j) (F j).length (C j) = u := by simpa using hu
        rw [f1] at h1
        show w.cell? (a.add (j * 1 + 0)) = _
        rw [Nat.mul_one, Nat.add_zero]; exact h1
      | succ i => simp at hu
end
end Go.Proofs.Ytojcnapdalpnmaa.K

/- The row of the law FnExactDoSwitch: for every input the call returns true, and the arguments read as before; out of the law's pure statement and the walk. No condition. -/
namespace Go.Proofs.Ytojcnapdalpnmaa.fnExactDoSwitch
open Go.ChangeShapes Go.WideShapes Go.ChangeAt Go.RowKit
open Go.ChangeMaps (open_string shut_string)
set_option linter.unusedVariables false
set_option linter.unusedSimpArgs false
theorem own : ownKnob Try.prog.godebug = none := by kernel_rfl
theorem laidOut : laidOutB Try.prog = true := by kernel_rfl
set_option maxRecDepth 100000 in
theorem lifted (os : Os) (started : os.Started) (H : Type) (enc : TypeId × Value → H) :
    ReturnsInHanded {} Try.checked os 9 .any (Rows.fnExactDoSwitchSpec.pre6 enc Try.prog Try.f9 Rows.fnExactDoSwitchRow.domain false) (Rows.fnExactDoSwitchSpec.post enc Try.prog Try.f9 false true false false) := by
  refine returnsInHanded_of_change_sized (C := Try.checked) own started (by kernel_rfl) Try.func9
    (ChangeSpec.witness6 (enc := enc) (C := Try.checked) false ⟨#[], #[.slice none 0 0, .agg #[.int .i64 0, .int .i64 0, .int .i64 0, .int .i64 0]], []⟩ 8 (by kernel_rfl) (by kernel_rfl) (by kernel_rfl) (by kernel_rfl)) ?_
  intro W base args ds gs before hval0 hW hcnd hsz0 _
  have hsz : (DataW.weightsEach Try.prog (Try.f9.params.toList ++ Rows.fnExactDoSwitchSpec.plain.varTypes Try.prog) (ds ++ gs)).all (· ≤ reachBytes) = true := hsz0
  have hval : ∀ (j : Nat) t v, Try.f9.params[j]? = some t → args[j]? = some v → Value.okWide Try.prog W .any base t v := hval0
  have hW' := hW
  obtain ⟨p, q, hA0, hV, rfl, hfz, hnd⟩ := hW
  have hA : DataW.TrodAll enc Try.prog W 0 (fun _ => true) true Try.f9.params.toList args.toList ds p := hA0
  rw [Try.params9] at hA hval hsz
  obtain ⟨v0, vs0, d0, ds0, p0, q0, hargs, rfl, rfl, h0, r0⟩ := trodAll_cons hA
  obtain ⟨v1, vs1, d1, ds1, p1, q1, rfl, rfl, rfl, h1, r1⟩ := trodAll_cons r0
  obtain ⟨rfl, rfl, rfl⟩ := trodAll_nil r1
  obtain rfl : args = #[v0, v1] := by cases args; simp_all
  obtain ⟨rfl, rfl⟩ := trodVars_none hV
  obtain ⟨a0, len0, cap0, rfl⟩ := okWide_slice Try.underlying22 (hval 0 22 v0 rfl rfl)
  have k0 := h0
  have lt0 : ∀ x ∈ p0, x.block < W.heap.size := by obtain ⟨m, hm⟩ := k0; exact DataW.trod_lt m _ _ _ hm
  obtain ⟨fuel0, hf0⟩ := h0
  obtain ⟨A0, c0, l0, hcs0, hc0, hm0, hw0, hr0⟩ := K.open_rows Try.underlying22 Try.underlying33 Try.underlying3 (by kernel_rfl) (by kernel_rfl) hf0
  simp only [Value.cells, List.cons.injEq, and_true, Value.slice.injEq] at hcs0
  obtain ⟨rfl, rfl, rfl⟩ := hcs0
  have k1 := h1
  have lt1 : ∀ x ∈ p1, x.block < W.heap.size := by obtain ⟨m, hm⟩ := k1; exact DataW.trod_lt m _ _ _ hm
  obtain ⟨u1_0, u1_1, u1_2, u1_3, y1_0, y1_1, y1_2, y1_3, m1, rfl, rfl, rfl, g1_0, g1_1, g1_2, g1_3⟩ := Joins.open_agg4 Try.underlying39 (by kernel_rfl) (by kernel_rfl) (hval 1 39 v1 rfl rfl) h1
  obtain ⟨a1_0, hcs1_0, _, w1_0⟩ := DataW.trod_int Try.underlying3 g1_0
  obtain rfl := List.singleton_inj.1 hcs1_0
  obtain ⟨a1_1, hcs1_1, _, w1_1⟩ := DataW.trod_int Try.underlying3 g1_1
  obtain rfl := List.singleton_inj.1 hcs1_1
  obtain ⟨a1_2, hcs1_2, _, w1_2⟩ := DataW.trod_int Try.underlying3 g1_2
  obtain rfl := List.singleton_inj.1 hcs1_2
  obtain ⟨a1_3, hcs1_3, _, w1_3⟩ := DataW.trod_int Try.underlying3 g1_3
  obtain rfl := List.singleton_inj.1 hcs1_3
  clear hA0 hval0 hsz0 hsz
  have hk := Pure.FnExactDoSwitch l0 a1_0 a1_1 a1_2 a1_3 hm0 hw0 w1_0 w1_1 w1_2 w1_3
  refine (P.laws_FnExactDoSwitch.calls _ _ l0 a1_0 a1_1 a1_2 a1_3 true W hr0 hc0 hk).mono fun e W' ⟨he, bel⟩ => ?_
  subst he
  exact ⟨_, rfl, _, _, _, [], _, [], hW', trodAll_mk1 (shut_bool Try.underlying4 _), (trodAll_cons_mk (Below.trod laidOut (by kernel_rfl) (of_decide_eq_true (by kernel_rfl)) k0 bel lt0) (trodAll_cons_mk (Below.trod laidOut (by kernel_rfl) (of_decide_eq_true (by kernel_rfl)) k1 bel lt1) trodAll_mk0)), rfl, bel.frame _, fun h => by cases h⟩
set_option maxHeartbeats 4000000 in
theorem joined : joinedFacts Try.prog 9 Try.f9 Rows.fnExactDoSwitchSpec Rows.fnExactDoSwitchRow = true := by
  unfold joinedFacts
  repeat' (with_reducible refine (Bool.and_eq_true _ _).mpr ⟨?_, ?_⟩)
  all_goals first
    | (with_reducible exact Head.mayEnter)
    | ((with_reducible rw [Head.lifts]); rfl)
    | ((with_reducible rw [Head.make]); rfl)
    | (as_aux_lemma => kernel_rfl)
theorem over : Rows.fnExactDoSwitchRow.holds Try.pinned (OpenSpec.ofChange Rows.fnExactDoSwitchSpec) :=
  OpenClaim.holds_of_wide 9 Try.f9 rfl rfl rfl rfl rfl rfl rfl ⟨rfl, rfl, rfl, rfl, rfl⟩ rfl rfl rfl rfl rfl (by kernel_rfl) Try.func9 joined
    (of_decide_eq_true (by kernel_rfl)) (by unfold Func.isWrapper; first | (rw [if_pos (by decide +kernel)]; kernel_rfl) | (rw [if_neg (by decide +kernel)]; exact ⟨rfl, rfl⟩))
    (fun os started H enc _ => lifted os started H enc)
theorem proved : Rows.FnExactDoSwitchSaid := over
#print axioms proved
end Go.Proofs.Ytojcnapdalpnmaa.fnExactDoSwitch
namespace Go.Proofs.Ytojcnapdalpnmaa
/-- The row, under a short name, for the claim. -/
theorem fnExactDoSwitch_holds : Rows.FnExactDoSwitchSaid := fnExactDoSwitch.proved
end Go.Proofs.Ytojcnapdalpnmaa
