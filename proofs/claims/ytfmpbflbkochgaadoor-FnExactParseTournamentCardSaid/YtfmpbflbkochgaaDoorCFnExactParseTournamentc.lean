/- The row of the law FnExactParseTournament: contracts and plain lemmas for the law FnExactParseTournament, part 3 of 3 (what the Go functions answer). -/
import Derived.Test.YtfmpbflbkochgaaDoorRows
import Derived.Test.YtfmpbflbkochgaaDoorCards
import Derived.Test.YtfmpbflbkochgaaDoorTie
import Derived.Deep.DeepHandedRow
import Derived.Lib.LaidTab
import Derived.Stop.LaidErr
import Derived.WalkKit
import Derived.ProofKit
import Derived.OpenShut
import Derived.ShutString
import Derived.ChangeOld
import Derived.Below
import Derived.SizedLaws
import Derived.Test.YtfmpbflbkochgaaDoorCFnExactParseTournamenta
import Derived.Test.YtfmpbflbkochgaaDoorCFnExactParseTournamentb
set_option linter.unusedVariables false
set_option linter.unusedSimpArgs false
namespace Go.Proofs.YtfmpbflbkochgaaDoor.P
open Go.RowKit Go.Proofs.YtfmpbflbkochgaaDoorW.PrintWords Go.Proofs.YtfmpbflbkochgaaDoorW.PrintLast Go.Proofs.YtfmpbflbkochgaaDoorW.PrintMore
attribute [local go_sem] max2_int min2_int max_two min_two max_three min_three max_four min_four
mutual
def impl_ParseTournament.j0 : Nat → ByteArray → Bool → Option (Int × List Int × Bool)
 | 0, _, _ => none
 | k + 1, x0, x20 => if x20 = true then (some (0, ([] : List Int), false)) else (if 0 < (x0.size : Int) then ((impl_newTournament.f (((bt x0 0) - 48) % 256)).bind fun bt212 => (impl_ParseTournament.l0 k x0 2 bt212.1 0 bt212.1 bt212.2)) else (none))
def impl_ParseTournament.l0 : Nat → ByteArray → Int → Int → Int → Int → List Int → Option (Int × List Int × Bool)
 | 0, _, _, _, _, _, _ => none
 | k + 1, x0, x5, x28, x29, x217000, x217001 => if x29 < x28 then (impl_ParseTournament.l1 k x0 x5 x29 (wrap64 (x29 + 1)) x28 x29 x217000 x217001) else ((impl_tournamentText.f x217000 x217001).bind fun t217 => (if t217.toList = x0.toList then (some (x217000, x217001, true)) else (some (0, ([] : List Int), false))))
def impl_ParseTournament.l1 : Nat → ByteArray → Int → Int → Int → Int → Int → Int → List Int → Option (Int × List Int × Bool)
 | 0, _, _, _, _, _, _, _, _ => none
 | k + 1, x0, x5, x6, x7, x28, x29, x217000, x217001 => if x7 < x217000 then (if x5 < (x0.size : Int) then (if 0 ≤ x5 then (impl_ParseTournament.j3 k x0 x5 x6 x7 x28 x29 ((bt x0 x5) == 49) x217000 x217001) else (none)) else (impl_ParseTournament.j3 k x0 x5 x6 x7 x28 x29 false x217000 x217001)) else (impl_ParseTournament.l0 k x0 x5 x28 (wrap64 (x29 + 1)) x217000 x217001)
def impl_ParseTournament.j3 : Nat → ByteArray → Int → Int → Int → Int → Int → Bool → Int → List Int → Option (Int × List Int × Bool)
 | 0, _, _, _, _, _, _, _, _, _ => none
 | k + 1, x0, x5, x6, x7, x28, x29, x49, x217000, x217001 => if x49 = true then ((impl_Tournament_beat.f x217000 x217001 x6 x7).bind fun t218 => (impl_ParseTournament.l1 k x0 (wrap64 (x5 + 1)) x6 (wrap64 (x7 + 1)) x28 x29 x217000 t218)) else ((impl_Tournament_beat.f x217000 x217001 x7 x6).bind fun t219 => (impl_ParseTournament.l1 k x0 (wrap64 (x5 + 1)) x6 (wrap64 (x7 + 1)) x28 x29 x217000 t219))
end
def impl_ParseTournament.f (k : Nat) (a0 : ByteArray) : Option (Int × List Int × Bool) := if (a0.size : Int) < 2 then (impl_ParseTournament.j0 k a0 true) else (if 0 < (a0.size : Int) then (if (bt a0 0) < 49 then (impl_ParseTournament.j0 k a0 true) else (impl_ParseTournament.j0 k a0 (decide ((bt a0 0) > 56)))) else (none))
theorem impl_ParseTournament.mono_l : ∀ k, (∀ y0 y1, LeO (impl_ParseTournament.j0 k y0 y1) (impl_ParseTournament.j0 (k + 1) y0 y1)) ∧ (∀ y0 y1 y2 y3 y4 y5, LeO (impl_ParseTournament.l0 k y0 y1 y2 y3 y4 y5) (impl_ParseTournament.l0 (k + 1) y0 y1 y2 y3 y4 y5)) ∧ (∀ y0 y1 y2 y3 y4 y5 y6 y7, LeO (impl_ParseTournament.l1 k y0 y1 y2 y3 y4 y5 y6 y7) (impl_ParseTournament.l1 (k + 1) y0 y1 y2 y3 y4 y5 y6 y7)) ∧ (∀ y0 y1 y2 y3 y4 y5 y6 y7 y8, LeO (impl_ParseTournament.j3 k y0 y1 y2 y3 y4 y5 y6 y7 y8) (impl_ParseTournament.j3 (k + 1) y0 y1 y2 y3 y4 y5 y6 y7 y8))
 | 0 => ⟨fun _ _ r h => by simp [impl_ParseTournament.j0] at h, fun _ _ _ _ _ _ r h => by simp [impl_ParseTournament.l0] at h, fun _ _ _ _ _ _ _ _ r h => by simp [impl_ParseTournament.l1] at h, fun _ _ _ _ _ _ _ _ _ r h => by simp [impl_ParseTournament.j3] at h⟩
 | k + 1 => by
  obtain ⟨ih0, ih1, ih2, ih3⟩ := impl_ParseTournament.mono_l k
  refine ⟨?_, ?_, ?_, ?_⟩
  ·
   intro y0 y1
   unfold impl_ParseTournament.j0
   repeat' first
   | (with_reducible exact ih0 _ _)
   | (with_reducible exact ih1 _ _ _ _ _ _)
   | (with_reducible exact ih2 _ _ _ _ _ _ _ _)
   | (with_reducible exact ih3 _ _ _ _ _ _ _ _ _)
   | (with_reducible exact LeO.refl _)
   | (with_reducible exact LeO.none _)
   | (with_reducible refine LeO.ite ?_ ?_)
   | (with_reducible refine LeO.bind ?_ (fun _ => ?_))
   | exact ih0 _ _
   | exact ih1 _ _ _ _ _ _
   | exact ih2 _ _ _ _ _ _ _ _
   | exact ih3 _ _ _ _ _ _ _ _ _
   | exact LeO.none _
   | refine LeO.ite ?_ ?_
   | refine LeO.bind ?_ (fun _ => ?_)
  ·
   intro y0 y1 y2 y3 y4 y5
   unfold impl_ParseTournament.l0
   repeat' first
   | (with_reducible exact ih0 _ _)
   | (with_reducible exact ih1 _ _ _ _ _ _)
   | (with_reducible exact ih2 _ _ _ _ _ _ _ _)
   | (with_reducible exact ih3 _ _ _ _ _ _ _ _ _)
   | (with_reducible exact LeO.refl _)
   | (with_reducible exact LeO.none _)
   | (with_reducible refine LeO.ite ?_ ?_)
   | (with_reducible refine LeO.bind ?_ (fun _ => ?_))
   | exact ih0 _ _
   | exact ih1 _ _ _ _ _ _
   | exact ih2 _ _ _ _ _ _ _ _
   | exact ih3 _ _ _ _ _ _ _ _ _
   | exact LeO.none _
   | refine LeO.ite ?_ ?_
   | refine LeO.bind ?_ (fun _ => ?_)
  ·
   intro y0 y1 y2 y3 y4 y5 y6 y7
   unfold impl_ParseTournament.l1
   repeat' first
   | (with_reducible exact ih0 _ _)
   | (with_reducible exact ih1 _ _ _ _ _ _)
   | (with_reducible exact ih2 _ _ _ _ _ _ _ _)
   | (with_reducible exact ih3 _ _ _ _ _ _ _ _ _)
   | (with_reducible exact LeO.refl _)
   | (with_reducible exact LeO.none _)
   | (with_reducible refine LeO.ite ?_ ?_)
   | (with_reducible refine LeO.bind ?_ (fun _ => ?_))
   | exact ih0 _ _
   | exact ih1 _ _ _ _ _ _
   | exact ih2 _ _ _ _ _ _ _ _
   | exact ih3 _ _ _ _ _ _ _ _ _
   | exact LeO.none _
   | refine LeO.ite ?_ ?_
   | refine LeO.bind ?_ (fun _ => ?_)
  ·
   intro y0 y1 y2 y3 y4 y5 y6 y7 y8
   unfold impl_ParseTournament.j3
   repeat' first
   | (with_reducible exact ih0 _ _)
   | (with_reducible exact ih1 _ _ _ _ _ _)
   | (with_reducible exact ih2 _ _ _ _ _ _ _ _)
   | (with_reducible exact ih3 _ _ _ _ _ _ _ _ _)
   | (with_reducible exact LeO.refl _)
   | (with_reducible exact LeO.none _)
   | (with_reducible refine LeO.ite ?_ ?_)
   | (with_reducible refine LeO.bind ?_ (fun _ => ?_))
   | exact ih0 _ _
   | exact ih1 _ _ _ _ _ _
   | exact ih2 _ _ _ _ _ _ _ _
   | exact ih3 _ _ _ _ _ _ _ _ _
   | exact LeO.none _
   | refine LeO.ite ?_ ?_
   | refine LeO.bind ?_ (fun _ => ?_)
theorem impl_ParseTournament.mono : ∀ a0 k, LeO (impl_ParseTournament.f k a0) (impl_ParseTournament.f (k + 1) a0) := by
 intro a0 k
 obtain ⟨ih0, ih1, ih2, ih3⟩ := impl_ParseTournament.mono_l k
 unfold impl_ParseTournament.f
 repeat' first
   | (with_reducible exact ih0 _ _)
   | (with_reducible exact ih1 _ _ _ _ _ _)
   | (with_reducible exact ih2 _ _ _ _ _ _ _ _)
   | (with_reducible exact ih3 _ _ _ _ _ _ _ _ _)
   | (with_reducible exact LeO.refl _)
   | (with_reducible exact LeO.none _)
   | (with_reducible refine LeO.ite ?_ ?_)
   | (with_reducible refine LeO.bind ?_ (fun _ => ?_))
   | exact ih0 _ _
   | exact ih1 _ _ _ _ _ _
   | exact ih2 _ _ _ _ _ _ _ _
   | exact ih3 _ _ _ _ _ _ _ _ _
   | exact LeO.none _
   | refine LeO.ite ?_ ?_
   | refine LeO.bind ?_ (fun _ => ?_)
set_option maxHeartbeats 8000000 in
set_option maxRecDepth 100000 in
theorem impl_ParseTournament.calls (k : Nat) (a0 : ByteArray) (r1 : Int) (r2 : List Int) (r3 : Bool) (w : World) (h : impl_ParseTournament.f k a0 = some (r1, r2, r3)) :
  Calls Tryd.prog 12 #[.string a0] w fun e w' => ∃ v1_ : Value, e = .returned (.tuple #[.agg #[.int .i64 r1, v1_], .bool r3]) ∧ Kd.R (Kd.int .i64) 3 w' w.heap.size (fun _ => True) v1_ r2 ∧ Below w.heap.size w w' := by
 have hu28 := Tryd.underlying28
 have HB := Aside0.mk (Below.refl w.heap.size w)
 have H : (if (a0.size : Int) < 2 then (impl_ParseTournament.j0 k a0 true) else (if 0 < (a0.size : Int) then (if (bt a0 0) < 49 then (impl_ParseTournament.j0 k a0 true) else (impl_ParseTournament.j0 k a0 (decide ((bt a0 0) > 56)))) else (none))) = some (r1, r2, r3) := h
 clear h
 have HC2 := Aside0.mk H
 clear H
 go_enter Tryd.func12, Tryd.ntmps12
 go_upto_region 1 with (first | ((with_reducible refine gate_dst (N := 2) rfl ?_); refine box_event ?hg (N := 2) ?hd (cs := #[.int .i64 0, .slice none 0 0]) (t := 28) ?hr ?_; (case hd => rfl); (case hg => rfl); (case hr => first | (go_simp; done) | (go_simp; rfl)); intro gb211 hg w3 hbox hb; have n0_ := Aside0.mk (below_step (by repeat (first | (with_reducible first | exact HB.out | apply below_alloc | apply pw_below_drewN | apply below_drew1))) hb); have n1_ := Aside0.mk (hbox); have n2_ := Aside0.mk ((by rw [hg]; exact (below_size (by repeat (first | (with_reducible first | exact HB.out | apply below_alloc | apply pw_below_drewN | apply below_drew1)))) : w.heap.size ≤ gb211)); have n3_ := Aside0.mk ((by rw [hg]; exact (below_size (by repeat (first | (with_reducible first | exact HB.out | apply below_alloc | apply pw_below_drewN | apply below_drew1)))) : w.heap.size ≤ gb211)); clear HB; have HB := n0_; have BK211 := n1_; have GW211 := n2_; have GE211 := n3_; clear n0_ n1_ n2_ n3_; clear hb hbox hg))
 (try simp only [Act.put, List.setIfInBounds_toArray, List.set_cons_zero, List.set_cons_succ])
 go_cut [20] (fun v20 wc => ∃ (kq : Nat) (x20_1 : Bool), v20 = .bool x20_1 ∧ Aside0 (impl_ParseTournament.j0 kq a0 x20_1 = some (r1, r2, r3)) ∧ Aside0 (kq ≤ k) ∧ Aside0 (wc.heap[gb211]? = some (.cells #[.int .i64 0, (.slice none 0 0)] 28 (0, 0))) ∧ Aside0 (Below w.heap.size w wc))
 case first =>
  have H := HC2.out
  clear HC2
  by_cases c4 : (a0.size : Int) < 2
  ·
   rw [if_pos c4] at H
   have c4b0 : decide ((a0.size : Int) < 2) = true := decide_eq_true c4
   have c4b1 : decide (a0.size < 2) = true := decide_eq_true (by omega)
   clear c4
   (first | rw [c4b0] | (simp only [i64_w, i32_w]; rw [c4b0]) | skip)
   have H' := Aside0.mk H
   clear H
   go_wp2
   go_meet
   case rel => exact ⟨_, (true), (by first | rfl | (simp; done) | (simp [*]; done)), H', ⟨by first | omega | exact Nat.le_refl _⟩, ⟨by (with_reducible repeat (first | refine blk_drewN ?_ _ | refine blk_drew ?_ | refine blk_alloc ?_ _)); exact BK211.out⟩, ⟨by repeat (first | (with_reducible first | exact HB.out | apply below_alloc | apply pw_below_drewN | apply below_drew1 | refine below_set ?_ GE211.out) | exact HB.out)⟩⟩
  ·
   rw [if_neg c4] at H
   have c4b0 : decide ((a0.size : Int) < 2) = false := decide_eq_false c4
   have c4b1 : decide (a0.size < 2) = false := decide_eq_false (by omega)
   clear c4
   (first | rw [c4b0] | (simp only [i64_w, i32_w]; rw [c4b0]) | skip)
   by_cases c5 : 0 < (a0.size : Int)
   ·
    rw [if_pos c5] at H
    have c5b0 : decide (0 < (a0.size : Int)) = true := decide_eq_true c5
    have c5b1 : decide (0 < a0.size) = true := decide_eq_true (by omega)
    clear c5
    by_cases c7 : (bt a0 0) < 49
    ·
     rw [if_pos c7] at H
     have c7b0 : decide ((bt a0 0) < 49) = true := decide_eq_true c7
     clear c7
     have H' := Aside0.mk H
     clear H
     have p6 : 0 ≤ (0 : Int) := (by omega)
     have q6 : 0 < a0.size := (by have : (0 : Int) < (a0.size : Int) := of_decide_eq_true (by first | (with_reducible assumption) | assumption); omega)
     have hx6 : ∀ h : 0 < a0.size, ((a0[0]'h).toNat : Int) = bt a0 0 := bt_at a0 0
     clear p6
     have qi6 : (0 < (a0.size : Int)) = True := eq_true (of_decide_eq_true (by first | (with_reducible assumption) | assumption))
     replace q6 := eq_true q6
     go_wp2
     go_meet
     case rel => exact ⟨_, (true), (by first | rfl | (simp; done) | (simp [*]; done)), H', ⟨by first | omega | exact Nat.le_refl _⟩, ⟨by (with_reducible repeat (first | refine blk_drewN ?_ _ | refine blk_drew ?_ | refine blk_alloc ?_ _)); exact BK211.out⟩, ⟨by repeat (first | (with_reducible first | exact HB.out | apply below_alloc | apply pw_below_drewN | apply below_drew1 | refine below_set ?_ GE211.out) | exact HB.out)⟩⟩
    ·
     rw [if_neg c7] at H
     have c7b0 : decide ((bt a0 0) < 49) = false := decide_eq_false c7
     clear c7
     have H' := Aside0.mk H
     clear H
     have p6 : 0 ≤ (0 : Int) := (by omega)
     have q6 : 0 < a0.size := (by have : (0 : Int) < (a0.size : Int) := of_decide_eq_true (by first | (with_reducible assumption) | assumption); omega)
     have hx6 : ∀ h : 0 < a0.size, ((a0[0]'h).toNat : Int) = bt a0 0 := bt_at a0 0
     clear p6
     have qi6 : (0 < (a0.size : Int)) = True := eq_true (of_decide_eq_true (by first | (with_reducible assumption) | assumption))
     replace q6 := eq_true q6
     have p8 : 0 ≤ (0 : Int) := (by omega)
     have q8 : 0 < a0.size := (by have : (0 : Int) < (a0.size : Int) := of_decide_eq_true (by first | (with_reducible assumption) | assumption); omega)
     have hx8 : ∀ h : 0 < a0.size, ((a0[0]'h).toNat : Int) = bt a0 0 := bt_at a0 0
     clear p8
     have qi8 : (0 < (a0.size : Int)) = True := eq_true (of_decide_eq_true (by first | (with_reducible assumption) | assumption))
     replace q8 := eq_true q8
     go_wp2
     go_meet
     case rel => exact ⟨_, (decide ((bt a0 0) > 56)), (by first | rfl | (simp; done) | (simp [*]; done)), H', ⟨by first | omega | exact Nat.le_refl _⟩, ⟨by (with_reducible repeat (first | refine blk_drewN ?_ _ | refine blk_drew ?_ | refine blk_alloc ?_ _)); exact BK211.out⟩, ⟨by repeat (first | (with_reducible first | exact HB.out | apply below_alloc | apply pw_below_drewN | apply below_drew1 | refine below_set ?_ GE211.out) | exact HB.out)⟩⟩
   ·
    rw [if_neg c5] at H
    exact absurd H (by simp)
 case rest =>
  clear HC2
  try clear c1
  try clear p2
  try clear c4
  try clear c4b0
  try clear c4b1
  try clear c5
  try clear c5b0
  try clear c5b1
  try clear p6
  try clear q6
  try clear hx6
  try clear qi6
  try clear c7
  try clear c7b0
  try clear p8
  try clear q8
  try clear hx8
  try clear qi8
  try clear p6
  try clear p8
  try clear q6
  try clear q8
  obtain ⟨kq, x20_1, rfl, HA, HJ1, BK211, HB⟩ := hcut
  cases kq with
  | zero => exact absurd HA.out (by simp [impl_ParseTournament.j0])
  | succ kj1 =>
   have H := HA.out
   clear HA
   simp only [impl_ParseTournament.j0] at H
   by_cases c9 : x20_1 = true
   ·
    subst c9
    have H1 : (some (0, ([] : List Int), false)) = some (r1, r2, r3) := by rw [if_pos rfl] at H; exact H
    clear H
    have H := H1
    clear H1
    simp only [Option.some.injEq, Prod.mk.injEq] at H
    obtain ⟨rfl, rfl, rfl⟩ := H
    have hcz10_0 : wc.cell? ⟨gb211, 0, none⟩ = some (.int .i64 0) := (blk_cell BK211.out 0).trans rfl
    have hcz10_1 : wc.cell? ⟨gb211, 1, none⟩ = some (.slice none 0 0) := (blk_cell BK211.out 1).trans rfl
    have hfz10_0 := blk_frozen BK211.out 0
    have hfz10_1 := blk_frozen BK211.out 1
    go_wp2
    refine bodyPost_ret (results_ct rfl _ _ gb211 28 #[.int .i64 0, .slice none 0 0] (0, 0) _ rfl (by (with_reducible repeat (first | refine blk_drewN ?_ _ | refine blk_drew ?_ | refine blk_alloc ?_ _)); refine blk_put (cs := #[.int .i64 0, .slice none 0 0]) ?_ 1 _ rfl; (with_reducible repeat (first | refine blk_drewN ?_ _ | refine blk_drew ?_ | refine blk_alloc ?_ _)); refine blk_put (cs := #[.int .i64 0, .slice none 0 0]) ?_ 0 _ rfl; (with_reducible repeat (first | refine blk_drewN ?_ _ | refine blk_drew ?_ | refine blk_alloc ?_ _)); exact BK211.out) Tryd.underlying28 rfl (by kernel_rfl)) rfl ?_
    exact ⟨_, by first | rfl | (simp [errW_none, errW_some] <;> rfl) | (simp [*, errW_none, errW_some] <;> rfl), by first | exact Kd.R_nil _ _ _ _ _ | exact Kd.N_nil _ _ _ _ _ | exact Kd.V_nil _ _ _ _ _ | exact Kd.Q_nil _ _ _ _ _ | exact Kd.S_nil _ _ _ _ _, by repeat (first | (with_reducible first | exact HB.out | apply below_alloc | apply pw_below_drewN | apply below_drew1 | refine below_set ?_ GE211.out) | exact HB.out)⟩
   ·
    replace c9 := Bool.eq_false_iff.mpr c9
    subst c9
    have H1 : (if 0 < (a0.size : Int) then ((impl_newTournament.f (((bt a0 0) - 48) % 256)).bind fun bt212 => (impl_ParseTournament.l0 kj1 a0 2 bt212.1 0 bt212.1 bt212.2)) else (none)) = some (r1, r2, r3) := by rw [if_neg (show ¬ (false = true) by decide)] at H; exact H
    clear H
    have H := H1
    clear H1
    by_cases c11 : 0 < (a0.size : Int)
    ·
     rw [if_pos c11] at H
     have c11b0 : decide (0 < (a0.size : Int)) = true := decide_eq_true c11
     have c11b1 : decide (0 < a0.size) = true := decide_eq_true (by omega)
     clear c11
     replace H := Option.bind_eq_some_iff.mp H
     obtain ⟨⟨t212, t213⟩, A130, H⟩ := H
     replace H : (impl_ParseTournament.l0 kj1 a0 2 t212 0 t212 t213) = some (r1, r2, r3) := H
     have A13 := Aside0.mk A130
     clear A130
     have H' := Aside0.mk H
     clear H
     have p12 : 0 ≤ (0 : Int) := (by omega)
     have q12 : 0 < a0.size := (by have : (0 : Int) < (a0.size : Int) := of_decide_eq_true (by first | (with_reducible assumption) | assumption); omega)
     have hx12 : ∀ h : 0 < a0.size, ((a0[0]'h).toNat : Int) = bt a0 0 := bt_at a0 0
     clear p12
     have qi12 : (0 < (a0.size : Int)) = True := eq_true (of_decide_eq_true (by first | (with_reducible assumption) | assumption))
     replace q12 := eq_true q12
     go_wp2_with (first | ((with_reducible refine gate_callee (f := 38) rfl ?_); refine goesL_ (some 26) rfl rfl Tryd.func38 (by kernel_rfl) rfl #[.int .i64 (((bt a0 0) - 48) % 256)] rfl (by (try simp only [List.map_toArray, List.map_cons, List.map_nil]); first | done | rfl) ?_; (with_reducible refine (impl_newTournament.calls (((bt a0 0) - 48) % 256) t212 t213 _ A13.out).mono ?_); rintro e w14 ⟨v214, rfl, ho0, hb⟩; refine ⟨_, rfl, ?_⟩; have n0_ := Aside0.mk (Kd.R_lower ho0 (below_size (by repeat (first | (with_reducible first | exact HB.out | apply below_alloc | apply pw_below_drewN | apply below_drew1 | refine below_set ?_ GE211.out) | exact HB.out)))); have n1_ := Aside0.mk (blk_below (g := gb211) (o := .cells #[.int .i64 0, .slice none 0 0] 28 (0, 0)) (by (with_reducible repeat (first | refine blk_drewN ?_ _ | refine blk_drew ?_ | refine blk_alloc ?_ _)); exact BK211.out) hb); have n2_ := Aside0.mk (below_step (by repeat (first | (with_reducible first | exact HB.out | apply below_alloc | apply pw_below_drewN | apply below_drew1 | refine below_set ?_ GE211.out) | exact HB.out)) hb); clear BK211; clear HB; have HO215 := n0_; have BK211 := n1_; have HB := n2_; clear n0_ n1_ n2_; (try clear hb); (try clear hb2); (try clear hk); (try clear hi); (try clear ho0)) | ((with_reducible refine gate_dst (N := 4) rfl ?_); refine box_event ?hg (N := 4) ?hd (cs := #[.int .i64 0, .slice none 0 0]) (t := 28) ?hr ?_; (case hd => rfl); (case hg => rfl); (case hr => first | (go_simp; done) | (go_simp; rfl)); intro gb216 hg w15 hbox hb; have n0_ := Aside0.mk (Kd.R_below (by (with_reducible repeat (first | apply Kd.R_alloc | apply Kd.R_drewN | apply Kd.R_drew)); exact HO215.out) hb); have n1_ := Aside0.mk (blk_below (g := gb211) (o := .cells #[.int .i64 0, .slice none 0 0] 28 (0, 0)) (by (with_reducible repeat (first | refine blk_drewN ?_ _ | refine blk_drew ?_ | refine blk_alloc ?_ _)); exact BK211.out) hb); have n2_ := Aside0.mk (below_step (by repeat (first | (with_reducible first | exact HB.out | apply below_alloc | apply pw_below_drewN | apply below_drew1 | refine below_set ?_ GE211.out) | exact HB.out)) hb); have n3_ := Aside0.mk (hbox); have n4_ := Aside0.mk ((by rw [hg]; exact (below_size (by repeat (first | (with_reducible first | exact HB.out | apply below_alloc | apply pw_below_drewN | apply below_drew1 | refine below_set ?_ GE211.out) | exact HB.out))) : w.heap.size ≤ gb216)); have n5_ := Aside0.mk ((by rw [hg]; exact (below_size (by repeat (first | (with_reducible first | exact HB.out | apply below_alloc | apply pw_below_drewN | apply below_drew1 | refine below_set ?_ GE211.out) | exact HB.out))) : w.heap.size ≤ gb216)); have n6_ := Aside0.mk ((by rw [hg]; exact Nat.ne_of_lt (blk_lt (g := gb211) (o := .cells #[.int .i64 0, .slice none 0 0] 28 (0, 0)) (by (with_reducible repeat (first | refine blk_drewN ?_ _ | refine blk_drew ?_ | refine blk_alloc ?_ _)); exact BK211.out)) : gb211 ≠ gb216)); have n7_ := Aside0.mk ((by rw [hg]; exact Nat.ne_of_gt (blk_lt (g := gb211) (o := .cells #[.int .i64 0, .slice none 0 0] 28 (0, 0)) (by (with_reducible repeat (first | refine blk_drewN ?_ _ | refine blk_drew ?_ | refine blk_alloc ?_ _)); exact BK211.out)) : gb216 ≠ gb211)); clear HO215; clear BK211; clear HB; have HO215 := n0_; have BK211 := n1_; have HB := n2_; have BK216 := n3_; have GW216 := n4_; have GE216 := n5_; have NB211_216 := n6_; have NB216_211 := n7_; clear n0_ n1_ n2_ n3_ n4_ n5_ n6_ n7_; clear hb hbox hg; have hnb16 := NB216_211.out; have hnc16 := NB211_216.out; have hcz17_0 : w15.cell? ⟨gb216, 0, none⟩ = some (.int .i64 0) := (blk_cell BK216.out 0).trans rfl; have hcz17_1 : w15.cell? ⟨gb216, 1, none⟩ = some (.slice none 0 0) := (blk_cell BK216.out 1).trans rfl; have hfz17_0 := blk_frozen BK216.out 0; have hfz17_1 := blk_frozen BK216.out 1; obtain ⟨Ao18, co18, eo18⟩ := Kd.R_slice HO215.out; subst eo18))
     go_loopg [5, 29] kj1 (fun kq v5 v29 w' => ∃ (x5_2 : Int) (x29_2 : Int) (x217001_2 : List Int) (u217001 : Value), v5 = .int .i64 x5_2 ∧ v29 = .int .i64 x29_2 ∧ Aside0 (impl_ParseTournament.l0 kq a0 x5_2 t212 x29_2 t212 x217001_2 = some (r1, r2, r3)) ∧ Aside0 (kq ≤ kj1) ∧ Aside0 (Kd.R (Kd.int .i64) 3 w' w.heap.size (fun _ => True) u217001 x217001_2) ∧ Aside0 (w'.heap[gb211]? = some (.cells #[.int .i64 0, (.slice none 0 0)] 28 (0, 0))) ∧ Aside0 (w'.heap[gb216]? = some (.cells #[.int .i64 t212, u217001] 28 (0, 0))) ∧ Aside0 (Below w.heap.size w w'))
     case atStart => exact ⟨(2), (0), (t213), (.slice Ao18 t213.length co18), (by first | rfl | (simp; done) | (simp [*]; done)), (by first | rfl | (simp; done) | (simp [*]; done)), H', ⟨Nat.le_refl _⟩, ⟨by (with_reducible repeat (first | apply Kd.R_alloc | apply Kd.R_drewN | apply Kd.R_drew)); exact Kd.R_mono (Kd.R_far (p := ⟨gb216, 1, none⟩) (Kd.R_far (p := ⟨gb216, 0, none⟩) (Kd.R_types HO215.out BK216.out (by decide)) (fun _ hk => hk.2) (.int .i64 t212)) (fun _ hk => hk.2) (.slice Ao18 t213.length co18)) (fun _ hk => trivial)⟩, ⟨by (with_reducible repeat (first | refine blk_drewN ?_ _ | refine blk_drew ?_ | refine blk_alloc ?_ _)); refine blk_far ?_ NB211_216.out _; (with_reducible repeat (first | refine blk_drewN ?_ _ | refine blk_drew ?_ | refine blk_alloc ?_ _)); refine blk_far ?_ NB211_216.out _; (with_reducible repeat (first | refine blk_drewN ?_ _ | refine blk_drew ?_ | refine blk_alloc ?_ _)); exact BK211.out⟩, ⟨by (with_reducible repeat (first | refine blk_drewN ?_ _ | refine blk_drew ?_ | refine blk_alloc ?_ _)); refine blk_put (cs := #[.int .i64 t212, .slice none 0 0]) ?_ 1 _ rfl; (with_reducible repeat (first | refine blk_drewN ?_ _ | refine blk_drew ?_ | refine blk_alloc ?_ _)); refine blk_put (cs := #[.int .i64 0, .slice none 0 0]) ?_ 0 _ rfl; (with_reducible repeat (first | refine blk_drewN ?_ _ | refine blk_drew ?_ | refine blk_alloc ?_ _)); exact BK216.out⟩, ⟨by repeat (first | (with_reducible first | exact HB.out | apply below_alloc | apply pw_below_drewN | apply below_drew1 | refine below_set ?_ GE211.out | refine below_set ?_ GE216.out) | exact HB.out)⟩⟩
     case round =>
      clear H'
      try clear c1
      try clear p1
      try clear q1
      try clear hx1
      try clear qi1
      try clear p2
      try clear c3
      try clear c4
      try clear c4b0
      try clear c4b1
      try clear c5
      try clear c5b0
      try clear c5b1
      try clear p6
      try clear q6
      try clear hx6
      try clear qi6
      try clear c7
      try clear c7b0
      try clear p8
      try clear q8
      try clear hx8
      try clear qi8
      try clear c9
      try clear c11
      try clear c11b0
      try clear c11b1
      try clear c12
      try clear p12
      try clear q12
      try clear hx12
      try clear qi12
      try clear c16
      try clear hcz10_0
      try clear hcz10_1
      try clear hcz17_0
      try clear hcz17_1
      try clear hfz10_0
      try clear hfz10_1
      try clear hfz17_0
      try clear hfz17_1
      try clear p12
      try clear p2
      try clear p6
      try clear p8
      try clear q12
      try clear q6
      try clear q8
      obtain ⟨x5_2, x29_2, x217001_2, u217001, rfl, rfl, HA, HK2, HO_217001, BK211, BK216, HB⟩ := hrel
      cases gk with
      | zero => exact absurd HA.out (by simp [impl_ParseTournament.l0])
      | succ k2 =>
       have H := HA.out
       clear HA
       simp only [impl_ParseTournament.l0] at H
       by_cases c19 : x29_2 < t212
       ·
        rw [if_pos c19] at H
        have c19b0 : decide (x29_2 < t212) = true := decide_eq_true c19
        clear c19
        have H' := Aside0.mk H
        clear H
        go_wp2
        go_loopg [5, 7] k2 (fun kq v5 v7 w' => ∃ (x5_3 : Int) (x7_3 : Int) (x217001_3 : List Int) (u217001 : Value), v5 = .int .i64 x5_3 ∧ v7 = .int .i64 x7_3 ∧ Aside0 (impl_ParseTournament.l1 kq a0 x5_3 x29_2 x7_3 t212 x29_2 t212 x217001_3 = some (r1, r2, r3)) ∧ Aside0 (kq ≤ k2) ∧ Aside0 (Kd.R (Kd.int .i64) 3 w' w.heap.size (fun _ => True) u217001 x217001_3) ∧ Aside0 (w'.heap[gb211]? = some (.cells #[.int .i64 0, (.slice none 0 0)] 28 (0, 0))) ∧ Aside0 (w'.heap[gb216]? = some (.cells #[.int .i64 t212, u217001] 28 (0, 0))) ∧ Aside0 (Below w.heap.size w w'))
        case atStart => exact ⟨(x5_2), (wrap64 (x29_2 + 1)), (x217001_2), (u217001), (by first | rfl | (simp; done) | (simp [*]; done)), (by first | rfl | (simp; done) | (simp [*]; done)), H', ⟨Nat.le_refl _⟩, ⟨by (with_reducible repeat (first | apply Kd.R_alloc | apply Kd.R_drewN | apply Kd.R_drew)); exact HO_217001.out⟩, ⟨by (with_reducible repeat (first | refine blk_drewN ?_ _ | refine blk_drew ?_ | refine blk_alloc ?_ _)); exact BK211.out⟩, ⟨by (with_reducible repeat (first | refine blk_drewN ?_ _ | refine blk_drew ?_ | refine blk_alloc ?_ _)); exact BK216.out⟩, ⟨by repeat (first | (with_reducible first | exact HB.out | apply below_alloc | apply pw_below_drewN | apply below_drew1 | refine below_set ?_ GE211.out | refine below_set ?_ GE216.out) | exact HB.out)⟩⟩
        case round =>
         clear H'
         try clear c1
         try clear p1
         try clear q1
         try clear hx1
         try clear qi1
         try clear p2
         try clear c3
         try clear c4
         try clear c4b0
         try clear c4b1
         try clear c5
         try clear c5b0
         try clear c5b1
         try clear p6
         try clear q6
         try clear hx6
         try clear qi6
         try clear c7
         try clear c7b0
         try clear p8
         try clear q8
         try clear hx8
         try clear qi8
         try clear c9
         try clear c11
         try clear c11b0
         try clear c11b1
         try clear c12
         try clear p12
         try clear q12
         try clear hx12
         try clear qi12
         try clear c16
         try clear c19
         try clear c19b0
         try clear hcz10_0
         try clear hcz10_1
         try clear hcz17_0
         try clear hcz17_1
         try clear hfz10_0
         try clear hfz10_1
         try clear hfz17_0
         try clear hfz17_1
         try clear p1
         try clear p12
         try clear p2
         try clear p6
         try clear p8
         try clear q1
         try clear q12
         try clear q6
         try clear q8
         obtain ⟨x5_3, x7_3, x217001_3, u217001, rfl, rfl, HA, HK3, HO_217001, BK211, BK216, HB⟩ := hrel
         cases gk with
         | zero => exact absurd HA.out (by simp [impl_ParseTournament.l1])
         | succ k3 =>
          have H := HA.out
          clear HA
          simp only [impl_ParseTournament.l1] at H
          by_cases c20 : x7_3 < t212
          ·
           rw [if_pos c20] at H
           have c20b0 : decide (x7_3 < t212) = true := decide_eq_true c20
           clear c20
           have HC21 := Aside0.mk H
           clear H
           have hnb22 := NB216_211.out
           have hnc22 := NB211_216.out
           have hcz23_0 : wr.cell? ⟨gb216, 0, none⟩ = some (.int .i64 t212) := (blk_cell BK216.out 0).trans rfl
           have hcz23_1 : wr.cell? ⟨gb216, 1, none⟩ = some (u217001) := (blk_cell BK216.out 1).trans rfl
           have hfz23_0 := blk_frozen BK216.out 0
           have hfz23_1 := blk_frozen BK216.out 1
           go_upto_region 10 with (fail)
           go_cut [49] (fun v49 wc => ∃ (kq : Nat) (x49_20 : Bool), v49 = .bool x49_20 ∧ Aside0 (impl_ParseTournament.j3 kq a0 x5_3 x29_2 x7_3 t212 x29_2 x49_20 t212 x217001_3 = some (r1, r2, r3)) ∧ Aside0 (kq ≤ k3) ∧ Aside0 (Kd.R (Kd.int .i64) 3 wc w.heap.size (fun _ => True) u217001 x217001_3) ∧ Aside0 (wc.heap[gb211]? = some (.cells #[.int .i64 0, (.slice none 0 0)] 28 (0, 0))) ∧ Aside0 (wc.heap[gb216]? = some (.cells #[.int .i64 t212, u217001] 28 (0, 0))) ∧ Aside0 (Below w.heap.size w wc))
           case first =>
            have H := HC21.out
            clear HC21
            by_cases c24 : x5_3 < (a0.size : Int)
            ·
             rw [if_pos c24] at H
             have c24b0 : decide (x5_3 < (a0.size : Int)) = true := decide_eq_true c24
             clear c24
             (first | rw [c24b0] | (simp only [i64_w, i32_w]; rw [c24b0]) | skip)
             by_cases c25 : 0 ≤ x5_3
             ·
              rw [if_pos c25] at H
              have c25b0 : decide (0 ≤ x5_3) = true := decide_eq_true c25
              clear c25
              have H' := Aside0.mk H
              clear H
              have p26 : 0 ≤ (x5_3 : Int) := of_decide_eq_true (by first | (with_reducible assumption) | assumption)
              have q26 : x5_3 < (a0.size : Int) := of_decide_eq_true (by first | (with_reducible assumption) | assumption)
              have hx26 := bt_at a0 x5_3
              replace p26 := eq_true p26
              replace q26 := eq_true q26
              go_wp2
              go_meet
              case rel => exact ⟨_, (((bt a0 x5_3) == 49)), (by first | rfl | (simp; done) | (simp [*]; done)), H', ⟨by have := HJ1.out; have := HK2.out; have := HK3.out; first | omega | exact Nat.le_refl _⟩, ⟨by (with_reducible repeat (first | apply Kd.R_alloc | apply Kd.R_drewN | apply Kd.R_drew)); exact HO_217001.out⟩, ⟨by (with_reducible repeat (first | refine blk_drewN ?_ _ | refine blk_drew ?_ | refine blk_alloc ?_ _)); exact BK211.out⟩, ⟨by (with_reducible repeat (first | refine blk_drewN ?_ _ | refine blk_drew ?_ | refine blk_alloc ?_ _)); exact BK216.out⟩, ⟨by repeat (first | (with_reducible first | exact HB.out | apply below_alloc | apply pw_below_drewN | apply below_drew1 | refine below_set ?_ GE211.out | refine below_set ?_ GE216.out) | exact HB.out)⟩⟩
             ·
              rw [if_neg c25] at H
              exact absurd H (by simp)
            ·
             rw [if_neg c24] at H
             have c24b0 : decide (x5_3 < (a0.size : Int)) = false := decide_eq_false c24
             clear c24
             (first | rw [c24b0] | (simp only [i64_w, i32_w]; rw [c24b0]) | skip)
             have H' := Aside0.mk H
             clear H
             go_wp2
             go_meet
             case rel => exact ⟨_, (false), (by first | rfl | (simp; done) | (simp [*]; done)), H', ⟨by have := HJ1.out; have := HK2.out; have := HK3.out; first | omega | exact Nat.le_refl _⟩, ⟨by (with_reducible repeat (first | apply Kd.R_alloc | apply Kd.R_drewN | apply Kd.R_drew)); exact HO_217001.out⟩, ⟨by (with_reducible repeat (first | refine blk_drewN ?_ _ | refine blk_drew ?_ | refine blk_alloc ?_ _)); exact BK211.out⟩, ⟨by (with_reducible repeat (first | refine blk_drewN ?_ _ | refine blk_drew ?_ | refine blk_alloc ?_ _)); exact BK216.out⟩, ⟨by repeat (first | (with_reducible first | exact HB.out | apply below_alloc | apply pw_below_drewN | apply below_drew1 | refine below_set ?_ GE211.out | refine below_set ?_ GE216.out) | exact HB.out)⟩⟩
           case rest =>
            clear HC21
            try clear c1
            try clear p1
            try clear q1
            try clear hx1
            try clear qi1
            try clear c2
            try clear p2
            try clear q2
            try clear hx2
            try clear c3
            try clear c4
            try clear c4b0
            try clear c4b1
            try clear c5
            try clear c5b0
            try clear c5b1
            try clear p6
            try clear q6
            try clear hx6
            try clear qi6
            try clear c7
            try clear c7b0
            try clear p8
            try clear q8
            try clear hx8
            try clear qi8
            try clear c9
            try clear c11
            try clear c11b0
            try clear c11b1
            try clear c12
            try clear p12
            try clear q12
            try clear hx12
            try clear qi12
            try clear c16
            try clear c19
            try clear c19b0
            try clear c20
            try clear c20b0
            try clear c22
            try clear c24
            try clear c24b0
            try clear c25
            try clear c25b0
            try clear p26
            try clear q26
            try clear hx26
            try clear hcz10_0
            try clear hcz10_1
            try clear hcz17_0
            try clear hcz17_1
            try clear hcz23_0
            try clear hcz23_1
            try clear hfz10_0
            try clear hfz10_1
            try clear hfz17_0
            try clear hfz17_1
            try clear hfz23_0
            try clear hfz23_1
            try clear p1
            try clear p12
            try clear p2
            try clear p26
            try clear p6
            try clear p8
            try clear q1
            try clear q12
            try clear q26
            try clear q6
            try clear q8
            obtain ⟨kq, x49_20, rfl, HA, HJ20, HO_217001, BK211, BK216, HB⟩ := hcut
            cases kq with
            | zero => exact absurd HA.out (by simp [impl_ParseTournament.j3])
            | succ kj20 =>
             have H := HA.out
             clear HA
             simp only [impl_ParseTournament.j3] at H
             by_cases c27 : x49_20 = true
             ·
              subst c27
              have H1 : ((impl_Tournament_beat.f t212 x217001_3 x29_2 x7_3).bind fun t218 => (impl_ParseTournament.l1 kj20 a0 (wrap64 (x5_3 + 1)) x29_2 (wrap64 (x7_3 + 1)) t212 x29_2 t212 t218)) = some (r1, r2, r3) := by rw [if_pos rfl] at H; exact H
              clear H
              have H := H1
              clear H1
              replace H := Option.bind_eq_some_iff.mp H
              obtain ⟨t218, A280, H⟩ := H
              replace H : (impl_ParseTournament.l1 kj20 a0 (wrap64 (x5_3 + 1)) x29_2 (wrap64 (x7_3 + 1)) t212 x29_2 t212 t218) = some (r1, r2, r3) := H
              have A28 := Aside0.mk A280
              clear A280
              have H' := Aside0.mk H
              clear H
              have hnb29 := NB216_211.out
              have hnc29 := NB211_216.out
              have hcz30_0 : wc.cell? ⟨gb216, 0, none⟩ = some (.int .i64 t212) := (blk_cell BK216.out 0).trans rfl
              have hcz30_1 : wc.cell? ⟨gb216, 1, none⟩ = some (u217001) := (blk_cell BK216.out 1).trans rfl
              have hfz30_0 := blk_frozen BK216.out 0
              have hfz30_1 := blk_frozen BK216.out 1
              obtain ⟨Ao31, co31, eo31⟩ := Kd.R_slice HO_217001.out
              subst eo31
              go_wp2_with (first | ((with_reducible refine gate_callee (f := 39) rfl ?_); refine goesL_ (some 53) rfl rfl Tryd.func39 (by kernel_rfl) rfl #[.agg #[.int .i64 t212, .slice Ao31 x217001_3.length co31], .int .i64 x29_2, .int .i64 x7_3] rfl (by (try simp only [List.map_toArray, List.map_cons, List.map_nil]); first | done | rfl) ?_; (with_reducible refine (impl_Tournament_beat.calls t212 (fun k_ => some k_ = (.slice Ao31 x217001_3.length co31 : Value).ownBlock) (.slice Ao31 x217001_3.length co31) x217001_3 x29_2 x7_3 t218 w _ ?side1 ?side2 A28.out).mono ?_); (case side1 => repeat (first | (with_reducible first | exact HB.out | apply below_alloc | apply pw_below_drewN | apply below_drew1 | refine below_set ?_ GE211.out | refine below_set ?_ GE216.out) | exact HB.out)); (case side2 => exact Kd.R_tight rfl HO_217001.out); rintro e w32 ⟨rfl, hy0, hb, hkp⟩; refine ⟨_, rfl, ?_⟩; have n0_ := Aside0.mk (Kd.R_reok rfl hy0 (fun k_ e_ => HO_217001.out.1 k_ e_)); have n1_ := Aside0.mk (blk_kept (by (with_reducible repeat (first | refine blk_drewN ?_ _ | refine blk_drew ?_ | refine blk_alloc ?_ _)); exact BK211.out) hkp (fun hs_ => (fun e_ => (Kd.R_ne HO_217001.out BK211.out (by decide)) e_) hs_)); have n2_ := Aside0.mk (blk_kept (by (with_reducible repeat (first | refine blk_drewN ?_ _ | refine blk_drew ?_ | refine blk_alloc ?_ _)); exact BK216.out) hkp (fun hs_ => (fun e_ => (Kd.R_ne HO_217001.out BK216.out (by decide)) e_) hs_)); have n3_ := Aside0.mk (hb); clear HO_217001; clear BK211; clear BK216; clear HB; have HO_217001 := n0_; have BK211 := n1_; have BK216 := n2_; have HB := n3_; clear n0_ n1_ n2_ n3_; (try clear hb); (try clear hkp); (try clear hy0)))
              go_roundg kj20
              case measure => have := HJ1.out; have := HK2.out; have := HK3.out; have := HJ20.out; omega
              case rel => exact ⟨(wrap64 (x5_3 + 1)), (wrap64 (x7_3 + 1)), (t218), (.slice Ao31 x217001_3.length co31), (by first | rfl | (simp; done) | (simp [*]; done)), (by first | rfl | (simp; done) | (simp [*]; done)), H', ⟨by have := HJ1.out; have := HK2.out; have := HK3.out; have := HJ20.out; omega⟩, ⟨by (with_reducible repeat (first | apply Kd.R_alloc | apply Kd.R_drewN | apply Kd.R_drew)); exact HO_217001.out⟩, ⟨by (with_reducible repeat (first | refine blk_drewN ?_ _ | refine blk_drew ?_ | refine blk_alloc ?_ _)); exact BK211.out⟩, ⟨by (with_reducible repeat (first | refine blk_drewN ?_ _ | refine blk_drew ?_ | refine blk_alloc ?_ _)); exact BK216.out⟩, ⟨by repeat (first | (with_reducible first | exact HB.out | apply below_alloc | apply pw_below_drewN | apply below_drew1 | refine below_set ?_ GE211.out | refine below_set ?_ GE216.out) | exact HB.out)⟩⟩
             ·
              replace c27 := Bool.eq_false_iff.mpr c27
              subst c27
              have H1 : ((impl_Tournament_beat.f t212 x217001_3 x7_3 x29_2).bind fun t219 => (impl_ParseTournament.l1 kj20 a0 (wrap64 (x5_3 + 1)) x29_2 (wrap64 (x7_3 + 1)) t212 x29_2 t212 t219)) = some (r1, r2, r3) := by rw [if_neg (show ¬ (false = true) by decide)] at H; exact H
              clear H
              have H := H1
              clear H1
              replace H := Option.bind_eq_some_iff.mp H
              obtain ⟨t219, A330, H⟩ := H
              replace H : (impl_ParseTournament.l1 kj20 a0 (wrap64 (x5_3 + 1)) x29_2 (wrap64 (x7_3 + 1)) t212 x29_2 t212 t219) = some (r1, r2, r3) := H
              have A33 := Aside0.mk A330
              clear A330
              have H' := Aside0.mk H
              clear H
              have hnb34 := NB216_211.out
              have hnc34 := NB211_216.out
              have hcz35_0 : wc.cell? ⟨gb216, 0, none⟩ = some (.int .i64 t212) := (blk_cell BK216.out 0).trans rfl
              have hcz35_1 : wc.cell? ⟨gb216, 1, none⟩ = some (u217001) := (blk_cell BK216.out 1).trans rfl
              have hfz35_0 := blk_frozen BK216.out 0
              have hfz35_1 := blk_frozen BK216.out 1
              obtain ⟨Ao36, co36, eo36⟩ := Kd.R_slice HO_217001.out
              subst eo36
              go_wp2_with (first | ((with_reducible refine gate_callee (f := 39) rfl ?_); refine goesL_ (some 57) rfl rfl Tryd.func39 (by kernel_rfl) rfl #[.agg #[.int .i64 t212, .slice Ao36 x217001_3.length co36], .int .i64 x7_3, .int .i64 x29_2] rfl (by (try simp only [List.map_toArray, List.map_cons, List.map_nil]); first | done | rfl) ?_; (with_reducible refine (impl_Tournament_beat.calls t212 (fun k_ => some k_ = (.slice Ao36 x217001_3.length co36 : Value).ownBlock) (.slice Ao36 x217001_3.length co36) x217001_3 x7_3 x29_2 t219 w _ ?side1 ?side2 A33.out).mono ?_); (case side1 => repeat (first | (with_reducible first | exact HB.out | apply below_alloc | apply pw_below_drewN | apply below_drew1 | refine below_set ?_ GE211.out | refine below_set ?_ GE216.out) | exact HB.out)); (case side2 => exact Kd.R_tight rfl HO_217001.out); rintro e w37 ⟨rfl, hy0, hb, hkp⟩; refine ⟨_, rfl, ?_⟩; have n0_ := Aside0.mk (Kd.R_reok rfl hy0 (fun k_ e_ => HO_217001.out.1 k_ e_)); have n1_ := Aside0.mk (blk_kept (by (with_reducible repeat (first | refine blk_drewN ?_ _ | refine blk_drew ?_ | refine blk_alloc ?_ _)); exact BK211.out) hkp (fun hs_ => (fun e_ => (Kd.R_ne HO_217001.out BK211.out (by decide)) e_) hs_)); have n2_ := Aside0.mk (blk_kept (by (with_reducible repeat (first | refine blk_drewN ?_ _ | refine blk_drew ?_ | refine blk_alloc ?_ _)); exact BK216.out) hkp (fun hs_ => (fun e_ => (Kd.R_ne HO_217001.out BK216.out (by decide)) e_) hs_)); have n3_ := Aside0.mk (hb); clear HO_217001; clear BK211; clear BK216; clear HB; have HO_217001 := n0_; have BK211 := n1_; have BK216 := n2_; have HB := n3_; clear n0_ n1_ n2_ n3_; (try clear hb); (try clear hkp); (try clear hy0)))
              go_roundg kj20
              case measure => have := HJ1.out; have := HK2.out; have := HK3.out; have := HJ20.out; omega
              case rel => exact ⟨(wrap64 (x5_3 + 1)), (wrap64 (x7_3 + 1)), (t219), (.slice Ao36 x217001_3.length co36), (by first | rfl | (simp; done) | (simp [*]; done)), (by first | rfl | (simp; done) | (simp [*]; done)), H', ⟨by have := HJ1.out; have := HK2.out; have := HK3.out; have := HJ20.out; omega⟩, ⟨by (with_reducible repeat (first | apply Kd.R_alloc | apply Kd.R_drewN | apply Kd.R_drew)); exact HO_217001.out⟩, ⟨by (with_reducible repeat (first | refine blk_drewN ?_ _ | refine blk_drew ?_ | refine blk_alloc ?_ _)); exact BK211.out⟩, ⟨by (with_reducible repeat (first | refine blk_drewN ?_ _ | refine blk_drew ?_ | refine blk_alloc ?_ _)); exact BK216.out⟩, ⟨by repeat (first | (with_reducible first | exact HB.out | apply below_alloc | apply pw_below_drewN | apply below_drew1 | refine below_set ?_ GE211.out | refine below_set ?_ GE216.out) | exact HB.out)⟩⟩
          ·
           rw [if_neg c20] at H
           have c20b0 : decide (x7_3 < t212) = false := decide_eq_false c20
           clear c20
           have H' := Aside0.mk H
           clear H
           have hnb38 := NB216_211.out
           have hnc38 := NB211_216.out
           have hcz39_0 : wr.cell? ⟨gb216, 0, none⟩ = some (.int .i64 t212) := (blk_cell BK216.out 0).trans rfl
           have hcz39_1 : wr.cell? ⟨gb216, 1, none⟩ = some (u217001) := (blk_cell BK216.out 1).trans rfl
           have hfz39_0 := blk_frozen BK216.out 0
           have hfz39_1 := blk_frozen BK216.out 1
           go_wp2
           go_roundg k3
           case measure => have := HJ1.out; have := HK2.out; have := HK3.out; omega
           case rel => exact ⟨(x5_3), (wrap64 (x29_2 + 1)), (x217001_3), (u217001), (by first | rfl | (simp; done) | (simp [*]; done)), (by first | rfl | (simp; done) | (simp [*]; done)), H', ⟨by have := HJ1.out; have := HK2.out; have := HK3.out; omega⟩, ⟨by (with_reducible repeat (first | apply Kd.R_alloc | apply Kd.R_drewN | apply Kd.R_drew)); exact HO_217001.out⟩, ⟨by (with_reducible repeat (first | refine blk_drewN ?_ _ | refine blk_drew ?_ | refine blk_alloc ?_ _)); exact BK211.out⟩, ⟨by (with_reducible repeat (first | refine blk_drewN ?_ _ | refine blk_drew ?_ | refine blk_alloc ?_ _)); exact BK216.out⟩, ⟨by repeat (first | (with_reducible first | exact HB.out | apply below_alloc | apply pw_below_drewN | apply below_drew1 | refine below_set ?_ GE211.out | refine below_set ?_ GE216.out) | exact HB.out)⟩⟩
       ·
        rw [if_neg c19] at H
        have c19b0 : decide (x29_2 < t212) = false := decide_eq_false c19
        clear c19
        replace H := Option.bind_eq_some_iff.mp H
        obtain ⟨t217, A400, H⟩ := H
        replace H : (if t217.toList = a0.toList then (some (t212, x217001_2, true)) else (some (0, ([] : List Int), false))) = some (r1, r2, r3) := H
        have A40 := Aside0.mk A400
        clear A400
        by_cases c41 : t217.toList = a0.toList
        ·
         rw [if_pos c41] at H
         have c41b0 : (t217.toList == a0.toList) = true := beq_iff_eq.mpr c41
         have c41b1 : (t217.toList != a0.toList) = false := bne_eq_false_iff_eq.mpr c41
         clear c41
         simp only [Option.some.injEq, Prod.mk.injEq] at H
         obtain ⟨rfl, rfl, rfl⟩ := H
         have hnb42 := NB216_211.out
         have hnc42 := NB211_216.out
         have hcz43_0 : wr.cell? ⟨gb216, 0, none⟩ = some (.int .i64 t212) := (blk_cell BK216.out 0).trans rfl
         have hcz43_1 : wr.cell? ⟨gb216, 1, none⟩ = some (u217001) := (blk_cell BK216.out 1).trans rfl
         have hfz43_0 := blk_frozen BK216.out 0
         have hfz43_1 := blk_frozen BK216.out 1
         obtain ⟨Ao44, co44, eo44⟩ := Kd.R_slice HO_217001.out
         subst eo44
         go_wp2_with (first | ((with_reducible refine gate_callee (f := 33) rfl ?_); refine goesL_ (some 62) rfl rfl Tryd.func33 (by kernel_rfl) rfl #[.agg #[.int .i64 t212, .slice Ao44 x217001_2.length co44]] rfl (by (try simp only [List.map_toArray, List.map_cons, List.map_nil]); first | done | rfl) ?_; (with_reducible refine (impl_tournamentText.calls t212 _ _ x217001_2 t217 _ ?side1 ?side2 A40.out).mono ?_); (case side1 => repeat (first | exact (Kd.R_reads' HO_217001.out).2.2 | (with_reducible refine Kd.C_alloc ?_ _) | (with_reducible refine Kd.C_drewN ?_ _) | (with_reducible refine Kd.C_drew ?_))); (case side2 => exact (Kd.R_reads' HO_217001.out).2.1); rintro e w45 ⟨rfl, hb⟩; refine ⟨_, rfl, ?_⟩; have n0_ := Aside0.mk (Kd.R_below (by (with_reducible repeat (first | apply Kd.R_alloc | apply Kd.R_drewN | apply Kd.R_drew)); exact HO_217001.out) hb); have n1_ := Aside0.mk (blk_below (g := gb211) (o := .cells #[.int .i64 0, .slice none 0 0] 28 (0, 0)) (by (with_reducible repeat (first | refine blk_drewN ?_ _ | refine blk_drew ?_ | refine blk_alloc ?_ _)); exact BK211.out) hb); have n2_ := Aside0.mk (blk_below (g := gb216) (o := .cells #[.int .i64 t212, .slice Ao44 x217001_2.length co44] 28 (0, 0)) (by (with_reducible repeat (first | refine blk_drewN ?_ _ | refine blk_drew ?_ | refine blk_alloc ?_ _)); exact BK216.out) hb); have n3_ := Aside0.mk (below_step (by repeat (first | (with_reducible first | exact HB.out | apply below_alloc | apply pw_below_drewN | apply below_drew1 | refine below_set ?_ GE211.out | refine below_set ?_ GE216.out) | exact HB.out)) hb); clear HO_217001; clear BK211; clear BK216; clear HB; have HO_217001 := n0_; have BK211 := n1_; have BK216 := n2_; have HB := n3_; clear n0_ n1_ n2_ n3_; (try clear hb); (try clear hb2); (try clear hk); (try clear hi); have hcz46_0 : w45.cell? ⟨gb216, 0, none⟩ = some (.int .i64 t212) := (blk_cell BK216.out 0).trans rfl; have hcz46_1 : w45.cell? ⟨gb216, 1, none⟩ = some (.slice Ao44 x217001_2.length co44) := (blk_cell BK216.out 1).trans rfl; have hfz46_0 := blk_frozen BK216.out 0; have hfz46_1 := blk_frozen BK216.out 1; have hcz47_0 : w45.cell? ⟨gb211, 0, none⟩ = some (.int .i64 0) := (blk_cell BK211.out 0).trans rfl; have hcz47_1 : w45.cell? ⟨gb211, 1, none⟩ = some (.slice none 0 0) := (blk_cell BK211.out 1).trans rfl; have hfz47_0 := blk_frozen BK211.out 0; have hfz47_1 := blk_frozen BK211.out 1))
         refine bodyPost_ret (results_ct rfl _ _ gb211 28 #[.int .i64 t212, .slice Ao44 x217001_2.length co44] (0, 0) _ rfl (by (with_reducible repeat (first | refine blk_drewN ?_ _ | refine blk_drew ?_ | refine blk_alloc ?_ _)); refine blk_put (cs := #[.int .i64 t212, .slice none 0 0]) ?_ 1 _ rfl; (with_reducible repeat (first | refine blk_drewN ?_ _ | refine blk_drew ?_ | refine blk_alloc ?_ _)); refine blk_put (cs := #[.int .i64 0, .slice none 0 0]) ?_ 0 _ rfl; (with_reducible repeat (first | refine blk_drewN ?_ _ | refine blk_drew ?_ | refine blk_alloc ?_ _)); exact BK211.out) Tryd.underlying28 rfl (by kernel_rfl)) rfl ?_
         exact ⟨_, by first | rfl | (simp [errW_none, errW_some] <;> rfl) | (simp [*, errW_none, errW_some] <;> rfl), by (with_reducible repeat (first | apply Kd.R_alloc | apply Kd.R_drewN | apply Kd.R_drew)); exact Kd.R_mono (Kd.R_far (p := ⟨gb211, 1, none⟩) (Kd.R_far (p := ⟨gb211, 0, none⟩) (Kd.R_types HO_217001.out BK211.out (by decide)) (fun _ hk => hk.2) (.int .i64 t212)) (fun _ hk => hk.2) (.slice Ao44 x217001_2.length co44)) (fun _ hk => trivial), by repeat (first | (with_reducible first | exact HB.out | apply below_alloc | apply pw_below_drewN | apply below_drew1 | refine below_set ?_ GE211.out | refine below_set ?_ GE216.out) | exact HB.out)⟩
        ·
         rw [if_neg c41] at H
         have c41b0 : (t217.toList == a0.toList) = false := beq_eq_false_iff_ne.mpr c41
         have c41b1 : (t217.toList != a0.toList) = true := bne_iff_ne.mpr c41
         simp only [Option.some.injEq, Prod.mk.injEq] at H
         obtain ⟨rfl, rfl, rfl⟩ := H
         have hnb48 := NB216_211.out
         have hnc48 := NB211_216.out
         have hcz49_0 : wr.cell? ⟨gb216, 0, none⟩ = some (.int .i64 t212) := (blk_cell BK216.out 0).trans rfl
         have hcz49_1 : wr.cell? ⟨gb216, 1, none⟩ = some (u217001) := (blk_cell BK216.out 1).trans rfl
         have hfz49_0 := blk_frozen BK216.out 0
         have hfz49_1 := blk_frozen BK216.out 1
         obtain ⟨Ao50, co50, eo50⟩ := Kd.R_slice HO_217001.out
         subst eo50
         go_wp2_with (first | ((with_reducible refine gate_callee (f := 33) rfl ?_); refine goesL_ (some 62) rfl rfl Tryd.func33 (by kernel_rfl) rfl #[.agg #[.int .i64 t212, .slice Ao50 x217001_2.length co50]] rfl (by (try simp only [List.map_toArray, List.map_cons, List.map_nil]); first | done | rfl) ?_; (with_reducible refine (impl_tournamentText.calls t212 _ _ x217001_2 t217 _ ?side1 ?side2 A40.out).mono ?_); (case side1 => repeat (first | exact (Kd.R_reads' HO_217001.out).2.2 | (with_reducible refine Kd.C_alloc ?_ _) | (with_reducible refine Kd.C_drewN ?_ _) | (with_reducible refine Kd.C_drew ?_))); (case side2 => exact (Kd.R_reads' HO_217001.out).2.1); rintro e w51 ⟨rfl, hb⟩; refine ⟨_, rfl, ?_⟩; have n0_ := Aside0.mk (Kd.R_below (by (with_reducible repeat (first | apply Kd.R_alloc | apply Kd.R_drewN | apply Kd.R_drew)); exact HO_217001.out) hb); have n1_ := Aside0.mk (blk_below (g := gb211) (o := .cells #[.int .i64 0, .slice none 0 0] 28 (0, 0)) (by (with_reducible repeat (first | refine blk_drewN ?_ _ | refine blk_drew ?_ | refine blk_alloc ?_ _)); exact BK211.out) hb); have n2_ := Aside0.mk (blk_below (g := gb216) (o := .cells #[.int .i64 t212, .slice Ao50 x217001_2.length co50] 28 (0, 0)) (by (with_reducible repeat (first | refine blk_drewN ?_ _ | refine blk_drew ?_ | refine blk_alloc ?_ _)); exact BK216.out) hb); have n3_ := Aside0.mk (below_step (by repeat (first | (with_reducible first | exact HB.out | apply below_alloc | apply pw_below_drewN | apply below_drew1 | refine below_set ?_ GE211.out | refine below_set ?_ GE216.out) | exact HB.out)) hb); clear HO_217001; clear BK211; clear BK216; clear HB; have HO_217001 := n0_; have BK211 := n1_; have BK216 := n2_; have HB := n3_; clear n0_ n1_ n2_ n3_; (try clear hb); (try clear hb2); (try clear hk); (try clear hi); have hcz52_0 : w51.cell? ⟨gb211, 0, none⟩ = some (.int .i64 0) := (blk_cell BK211.out 0).trans rfl; have hcz52_1 : w51.cell? ⟨gb211, 1, none⟩ = some (.slice none 0 0) := (blk_cell BK211.out 1).trans rfl; have hfz52_0 := blk_frozen BK211.out 0; have hfz52_1 := blk_frozen BK211.out 1))
         refine bodyPost_ret (results_ct rfl _ _ gb211 28 #[.int .i64 0, .slice none 0 0] (0, 0) _ rfl (by (with_reducible repeat (first | refine blk_drewN ?_ _ | refine blk_drew ?_ | refine blk_alloc ?_ _)); refine blk_put (cs := #[.int .i64 0, .slice none 0 0]) ?_ 1 _ rfl; (with_reducible repeat (first | refine blk_drewN ?_ _ | refine blk_drew ?_ | refine blk_alloc ?_ _)); refine blk_put (cs := #[.int .i64 0, .slice none 0 0]) ?_ 0 _ rfl; (with_reducible repeat (first | refine blk_drewN ?_ _ | refine blk_drew ?_ | refine blk_alloc ?_ _)); exact BK211.out) Tryd.underlying28 rfl (by kernel_rfl)) rfl ?_
         exact ⟨_, by first | rfl | (simp [errW_none, errW_some] <;> rfl) | (simp [*, errW_none, errW_some] <;> rfl), by first | exact Kd.R_nil _ _ _ _ _ | exact Kd.N_nil _ _ _ _ _ | exact Kd.V_nil _ _ _ _ _ | exact Kd.Q_nil _ _ _ _ _ | exact Kd.S_nil _ _ _ _ _, by repeat (first | (with_reducible first | exact HB.out | apply below_alloc | apply pw_below_drewN | apply below_drew1 | refine below_set ?_ GE211.out | refine below_set ?_ GE216.out) | exact HB.out)⟩
    ·
     rw [if_neg c11] at H
     exact absurd H (by simp)
def laws_markIntS.l0 : Nat → List Int → Int → Int → Option (Int × List Int)
 | 0, _, _, _ => none
 | k + 1, x0, x1, x5 => if x5 < (x0.length : Int) then (if 0 ≤ x5 then (laws_markIntS.l0 k (x0.set (x5 : Int).toNat x1) (wrap64 (x1 + 1)) (wrap64 (x5 + 1))) else (none)) else (some (x1, x0))
def laws_markIntS.f (k : Nat) (l0 : List Int) (a1 : Int) : Option (Int × List Int) := laws_markIntS.l0 k l0 a1 0
theorem laws_markIntS.mono_l : ∀ k, (∀ y0 y1 y2, LeO (laws_markIntS.l0 k y0 y1 y2) (laws_markIntS.l0 (k + 1) y0 y1 y2))
 | 0 => fun _ _ _ r h => by simp [laws_markIntS.l0] at h
 | k + 1 => by
  have ih0 := laws_markIntS.mono_l k
  ·
   intro y0 y1 y2
   unfold laws_markIntS.l0
   repeat' first
   | (with_reducible exact ih0 _ _ _)
   | (with_reducible exact LeO.refl _)
   | (with_reducible exact LeO.none _)
   | (with_reducible refine LeO.ite ?_ ?_)
   | (with_reducible refine LeO.bind ?_ (fun _ => ?_))
   | exact ih0 _ _ _
   | exact LeO.none _
   | refine LeO.ite ?_ ?_
   | refine LeO.bind ?_ (fun _ => ?_)
theorem laws_markIntS.mono : ∀ a0 a1 k, LeO (laws_markIntS.f k a0 a1) (laws_markIntS.f (k + 1) a0 a1) := by
 intro a0 a1 k
 have ih0 := laws_markIntS.mono_l k
 unfold laws_markIntS.f
 repeat' first
   | (with_reducible exact ih0 _ _ _)
   | (with_reducible exact LeO.refl _)
   | (with_reducible exact LeO.none _)
   | (with_reducible refine LeO.ite ?_ ?_)
   | (with_reducible refine LeO.bind ?_ (fun _ => ?_))
   | exact ih0 _ _ _
   | exact LeO.none _
   | refine LeO.ite ?_ ?_
   | refine LeO.bind ?_ (fun _ => ?_)
set_option maxHeartbeats 8000000 in
set_option maxRecDepth 100000 in
theorem laws_markIntS.calls (k : Nat) (P0_ : Nat → Prop) (u9000_ : Value) (l0 : List Int) (a1 : Int) (r1 : Int) (r2 : List Int) (w0 w : World) (hB : Below w0.heap.size w0 w) (ho0 : Kd.R (Kd.int .i64) 3 w w0.heap.size P0_ u9000_ l0) (h : laws_markIntS.f k l0 a1 = some (r1, r2)) :
  Calls Tryd.prog 40 #[u9000_, .int .i64 a1] w fun e w' => e = .returned (.int .i64 r1) ∧ Kd.R (Kd.int .i64) 3 w' w0.heap.size (fun k_ => (P0_ k_ ∨ w.heap.size ≤ k_)) u9000_ r2 ∧ Below w0.heap.size w0 w' ∧ Kept w w' (fun k_ => P0_ k_) := by
 have HO0 := Aside0.mk (show Kd.R (Kd.int .i64) 3 w w0.heap.size (fun k_ => (P0_ k_ ∨ w.heap.size ≤ k_)) u9000_ l0 from Kd.R_mono ho0 (fun k_ hk => (.inl hk)))
 have HK := Aside0.mk (Kept.refl w (fun k_ => P0_ k_))
 have HW0 := Aside0.mk hB.size
 have HB := Aside0.mk hB
 clear hB
 have H : (laws_markIntS.l0 k l0 a1 0) = some (r1, r2) := h
 clear h
 have H' := Aside0.mk H
 clear H
 go_enter Tryd.func40, Tryd.ntmps40
 go_wp2
 go_loopg [1, 5] k (fun kq v1 v5 w' => ∃ (x0_1 : List Int) (x1_1 : Int) (x5_1 : Int), v1 = .int .i64 x1_1 ∧ v5 = .int .i64 x5_1 ∧ Aside0 (laws_markIntS.l0 kq x0_1 x1_1 x5_1 = some (r1, r2)) ∧ Aside0 (kq ≤ k) ∧ Aside0 (Kd.R (Kd.int .i64) 3 w' w0.heap.size (fun k_ => (P0_ k_ ∨ w.heap.size ≤ k_)) u9000_ x0_1) ∧ Aside0 (Kept w w' (fun k_ => P0_ k_)) ∧ Aside0 (Below w0.heap.size w0 w'))
 case atStart => exact ⟨(l0), (a1), (0), (by first | rfl | (simp; done) | (simp [*]; done)), (by first | rfl | (simp; done) | (simp [*]; done)), H', ⟨Nat.le_refl _⟩, ⟨by (with_reducible repeat (first | apply Kd.R_alloc | apply Kd.R_drewN | apply Kd.R_drew)); exact HO0.out⟩, ⟨by repeat (first | (with_reducible first | exact HK.out | apply Kept.alloc | apply Kept.drewN | apply Kept.drew) | exact HK.out)⟩, ⟨by repeat (first | (with_reducible first | exact HB.out | apply below_alloc | apply pw_below_drewN | apply below_drew1) | exact HB.out)⟩⟩
 case round =>
  clear H'
  try clear p2
  obtain ⟨x0_1, x1_1, x5_1, rfl, rfl, HA, HK1, HO_0, HK, HB⟩ := hrel
  cases gk with
  | zero => exact absurd HA.out (by simp [laws_markIntS.l0])
  | succ k1 =>
   have H := HA.out
   clear HA
   simp only [laws_markIntS.l0] at H
   by_cases c3 : x5_1 < (x0_1.length : Int)
   ·
    rw [if_pos c3] at H
    have c3b0 : decide (x5_1 < (x0_1.length : Int)) = true := decide_eq_true c3
    clear c3
    by_cases c4 : 0 ≤ x5_1
    ·
     rw [if_pos c4] at H
     have c4b0 : decide (0 ≤ x5_1) = true := decide_eq_true c4
     clear c4
     obtain ⟨y220, hy220⟩ : ∃ y_ : List Int, y_ = (x0_1.set (x5_1 : Int).toNat x1_1) := ⟨_, rfl⟩
     replace H : (laws_markIntS.l0 k1 y220 (wrap64 (x1_1 + 1)) (wrap64 (x5_1 + 1))) = some (r1, r2) := by first | (rw [hy220]; with_reducible exact H) | (have H2_ := (Option.bind_some _ _).symm.trans H; rw [hy220]; with_reducible exact H2_) | (have H2_ := (Option.bind_some _ _).symm.trans H; with_reducible exact H2_) | with_reducible exact H | (rw [hy220]; exact H) | exact H
     have Ny220 := Aside0.mk hy220
     clear hy220
     have H' := Aside0.mk H
     clear H
     obtain ⟨Ao6, co6, eo6⟩ := Kd.R_slice HO_0.out
     subst eo6
     have p5 : 0 ≤ (x5_1 : Int) := of_decide_eq_true (by first | (with_reducible assumption) | assumption)
     have q5 : (x5_1 : Int) < ((x0_1.length : Int) : Int) := of_decide_eq_true (by first | (with_reducible assumption) | assumption)
     obtain ⟨go5, co5, eo5, gb5, gl5, cl5, HG5⟩ := Kd.R_form HO_0.out (by omega)
     (first | cases eo5 | (injection eo5 with ea_ en_ ec_; (first | subst ea_ | (injection ea_ with ea_; subst ea_)); subst ec_; clear en_))
     have GB5 := Aside0.mk gb5
     have GG5 := Aside0.mk HG5
     clear gb5 gl5 HG5
     have HMgo5 := Aside0.mk (show (P0_ go5 ∨ w.heap.size ≤ go5) from (HO_0.out.1 _ rfl))
     obtain ⟨hx5_0, hf5_0⟩ := Kd.R_celln 0 HO_0.out (x5_1 : Int) p5 q5
     replace p5 := eq_true p5
     replace q5 := eq_true q5
     have HP7 := Kd.R_putg HO_0.out (x5_1 : Int) x1_1
     go_wp2_with (first | ((with_reducible refine gate_store (t := 3) (p := 15) rfl ?_); refine store_event (t := 3) (p := 15) (v := ?vo_w8) (w1 := (wr.setCell ⟨go5, (x5_1 : Int).toNat, none⟩ (.int .i64 x1_1))) ?hg ?ho ?hn ?hr ?_; (case ho => rfl); (case hg => rfl); (case hn => rfl); (case hr => first | (go_simp; done) | (go_simp; rfl)); intro w8 hw; have hg : wr.grownBy w8 (some go5) := (by rw [hw]; exact HP7.2); have hp_ : Kd.R (Kd.int .i64) 3 w8 w0.heap.size (fun k_ => (P0_ k_ ∨ w.heap.size ≤ k_)) (.slice (some ⟨go5, 0, none⟩) x0_1.length co6) y220 := (by rw [hw, Ny220.out]; exact HP7.1); clear HP7; have n0_ := Aside0.mk (hp_); have n1_ := Aside0.mk ((by rw [hw]; exact below_set (HB.out) GB5.out : Below w0.heap.size w0 w8)); have n2_ := Aside0.mk (Kept.of_grown (S := (fun k_ => P0_ k_)) hg (by repeat (first | (with_reducible first | exact HK.out | apply Kept.alloc | apply Kept.drewN | apply Kept.drew) | exact HK.out)) (fun k_ e_ => (HO_0.out.1 k_ e_))); clear HO_0; clear HB; clear HK; have HO_0 := n0_; have HB := n1_; have HK := n2_; clear n0_ n1_ n2_; clear hg hw hp_))
     go_roundg k1
     case measure => have := HK1.out; omega
     case rel => exact ⟨(y220), (wrap64 (x1_1 + 1)), (wrap64 (x5_1 + 1)), (by first | rfl | (simp; done) | (simp [*]; done)), (by first | rfl | (simp; done) | (simp [*]; done)), H', ⟨by have := HK1.out; omega⟩, ⟨by (with_reducible repeat (first | apply Kd.R_alloc | apply Kd.R_drewN | apply Kd.R_drew)); exact HO_0.out⟩, ⟨by repeat (first | (with_reducible first | exact HK.out | apply Kept.alloc | apply Kept.drewN | apply Kept.drew) | exact HK.out)⟩, ⟨by repeat (first | (with_reducible first | exact HB.out | apply below_alloc | apply pw_below_drewN | apply below_drew1) | exact HB.out)⟩⟩
    ·
     rw [if_neg c4] at H
     exact absurd H (by simp)
   ·
    rw [if_neg c3] at H
    have c3b0 : decide (x5_1 < (x0_1.length : Int)) = false := decide_eq_false c3
    clear c3
    simp only [Option.some.injEq, Prod.mk.injEq] at H
    obtain ⟨rfl, rfl⟩ := H
    obtain ⟨Ao9, co9, eo9⟩ := Kd.R_slice HO_0.out
    subst eo9
    go_wp2
    go_ret
    exact ⟨by first | rfl | (simp [errW_none, errW_some] <;> rfl) | (simp [*, errW_none, errW_some] <;> rfl), by (with_reducible repeat (first | apply Kd.R_alloc | apply Kd.R_drewN | apply Kd.R_drew)); exact HO_0.out, by repeat (first | (with_reducible first | exact HB.out | apply below_alloc | apply pw_below_drewN | apply below_drew1) | exact HB.out), by repeat (first | (with_reducible first | exact HK.out | apply Kept.alloc | apply Kept.drewN | apply Kept.drew) | exact HK.out)⟩
def laws_markTournament.f (k : Nat) (a0_0 : Int) (l0_1 : List Int) (a1 : Int) : Option (Int × List Int) := (laws_markIntS.f k l0_1 a1).bind fun bt222 => (some (bt222.1, bt222.2))
theorem laws_markTournament.mono : ∀ a0 a1 a2 k, LeO (laws_markTournament.f k a0 a1 a2) (laws_markTournament.f (k + 1) a0 a1 a2) := by
 intro a0 a1 a2 k
 unfold laws_markTournament.f
 repeat' first
   | (with_reducible exact laws_markIntS.mono _ _ _)
   | (with_reducible exact LeO.refl _)
   | (with_reducible exact LeO.none _)
   | (with_reducible refine LeO.ite ?_ ?_)
   | (with_reducible refine LeO.bind ?_ (fun _ => ?_))
   | exact laws_markIntS.mono _ _ _
   | exact LeO.none _
   | refine LeO.ite ?_ ?_
   | refine LeO.bind ?_ (fun _ => ?_)
set_option maxHeartbeats 8000000 in
set_option maxRecDepth 100000 in
theorem laws_markTournament.calls (k : Nat) (a0_0 : Int) (P0_1_ : Nat → Prop) (u9000_ : Value) (l0_1 : List Int) (a1 : Int) (r1 : Int) (r2 : List Int) (w0 w : World) (hB : Below w0.heap.size w0 w) (ho0_1 : Kd.R (Kd.int .i64) 3 w w0.heap.size P0_1_ u9000_ l0_1) (h : laws_markTournament.f k a0_0 l0_1 a1 = some (r1, r2)) :
  Calls Tryd.prog 13 #[.agg #[.int .i64 a0_0, u9000_], .int .i64 a1] w fun e w' => e = .returned (.int .i64 r1) ∧ Kd.R (Kd.int .i64) 3 w' w0.heap.size (fun k_ => (P0_1_ k_ ∨ w.heap.size ≤ k_)) u9000_ r2 ∧ Below w0.heap.size w0 w' ∧ Kept w w' (fun k_ => P0_1_ k_) := by
 have hu28 := Tryd.underlying28
 have HO0_1 := Aside0.mk (show Kd.R (Kd.int .i64) 3 w w0.heap.size (fun k_ => (P0_1_ k_ ∨ w.heap.size ≤ k_)) u9000_ l0_1 from Kd.R_mono ho0_1 (fun k_ hk => (.inl hk)))
 have HK := Aside0.mk (Kept.refl w (fun k_ => P0_1_ k_))
 have HW0 := Aside0.mk hB.size
 have HB := Aside0.mk hB
 clear hB
 have H : ((laws_markIntS.f k l0_1 a1).bind fun bt222 => (some (bt222.1, bt222.2))) = some (r1, r2) := h
 clear h
 replace H := Option.bind_eq_some_iff.mp H
 obtain ⟨⟨t222, t223⟩, A30, H⟩ := H
 replace H : (some (t222, t223)) = some (r1, r2) := H
 have A3 := Aside0.mk A30
 clear A30
 simp only [Option.some.injEq, Prod.mk.injEq] at H
 obtain ⟨rfl, rfl⟩ := H
 obtain ⟨Ao4, co4, eo4⟩ := Kd.R_slice HO0_1.out
 subst eo4
 go_enter Tryd.func13, Tryd.ntmps13
 go_wp2_with (first | ((with_reducible refine gate_dst (N := 2) rfl ?_); refine box_event ?hg (N := 2) ?hd (cs := #[.int .i64 a0_0, .slice Ao4 l0_1.length co4]) (t := 28) ?hr ?_; (case hd => rfl); (case hg => rfl); (case hr => first | (go_simp; done) | (go_simp; rfl)); intro gb221 hg w5 hbox hb; have n0_ := Aside0.mk (Kd.R_below (by (with_reducible repeat (first | apply Kd.R_alloc | apply Kd.R_drewN | apply Kd.R_drew)); exact HO0_1.out) hb); have n1_ := Aside0.mk (Kept.below (S := (fun k_ => P0_1_ k_)) (by repeat (first | (with_reducible first | exact HK.out | apply Kept.alloc | apply Kept.drewN | apply Kept.drew) | exact HK.out)) hb); have n2_ := Aside0.mk (below_step (by repeat (first | (with_reducible first | exact HB.out | apply below_alloc | apply pw_below_drewN | apply below_drew1))) hb); have n3_ := Aside0.mk (hbox); have n4_ := Aside0.mk ((by rw [hg]; exact (by first | exact HK.out.1 | exact (show Kept w _ (fun k_ => P0_1_ k_) from by repeat (first | (with_reducible first | exact HK.out | apply Kept.alloc | apply Kept.drewN | apply Kept.drew) | exact HK.out)).1) : w.heap.size ≤ gb221)); have n5_ := Aside0.mk ((by rw [hg]; exact (below_size (by repeat (first | (with_reducible first | exact HB.out | apply below_alloc | apply pw_below_drewN | apply below_drew1)))) : w0.heap.size ≤ gb221)); clear HO0_1; clear HK; clear HB; have HO0_1 := n0_; have HK := n1_; have HB := n2_; have BK221 := n3_; have GW221 := n4_; have GE221 := n5_; clear n0_ n1_ n2_ n3_ n4_ n5_; clear hb hbox hg; have hcz6_0 : w5.cell? ⟨gb221, 0, none⟩ = some (.int .i64 a0_0) := (blk_cell BK221.out 0).trans rfl; have hcz6_1 : w5.cell? ⟨gb221, 1, none⟩ = some (.slice Ao4 l0_1.length co4) := (blk_cell BK221.out 1).trans rfl; have hfz6_0 := blk_frozen BK221.out 0; have hfz6_1 := blk_frozen BK221.out 1) | ((with_reducible refine gate_callee (f := 40) rfl ?_); refine goesL_ (some 8) rfl rfl Tryd.func40 (by kernel_rfl) rfl #[.slice Ao4 l0_1.length co4, .int .i64 a1] rfl (by (try simp only [List.map_toArray, List.map_cons, List.map_nil]); first | done | rfl) ?_; (with_reducible refine (laws_markIntS.calls k (fun k_ => some k_ = (.slice Ao4 l0_1.length co4 : Value).ownBlock) (.slice Ao4 l0_1.length co4) l0_1 a1 t222 t223 w0 _ ?side1 ?side2 A3.out).mono ?_); (case side1 => repeat (first | (with_reducible first | exact HB.out | apply below_alloc | apply pw_below_drewN | apply below_drew1 | refine below_set ?_ GE221.out) | exact HB.out)); (case side2 => exact Kd.R_tight rfl HO0_1.out); rintro e w7 ⟨rfl, hy0, hb, hkp⟩; refine ⟨_, rfl, ?_⟩; have n0_ := Aside0.mk (Kd.R_reok rfl hy0 (fun k_ e_ => HO0_1.out.1 k_ e_)); have n1_ := Aside0.mk (blk_kept (by (with_reducible repeat (first | refine blk_drewN ?_ _ | refine blk_drew ?_ | refine blk_alloc ?_ _)); exact BK221.out) hkp (fun hs_ => (fun e_ => (Kd.R_ne HO0_1.out BK221.out (by decide)) e_) hs_)); have n2_ := Aside0.mk (Kept.then_ (S := (fun k_ => P0_1_ k_)) (by repeat (first | (with_reducible first | exact HK.out | apply Kept.alloc | apply Kept.drewN | apply Kept.drew | refine Kept.setCell ?_ (.inr GW221.out) _) | exact HK.out)) hkp (fun k_ hs_ => (fun e_ => (HO0_1.out.1 k_ e_.symm)) hs_)); have n3_ := Aside0.mk (hb); clear HO0_1; clear BK221; clear HK; clear HB; have HO0_1 := n0_; have BK221 := n1_; have HK := n2_; have HB := n3_; clear n0_ n1_ n2_ n3_; (try clear hb); (try clear hkp); (try clear hy0)))
 go_ret
 exact ⟨by first | rfl | (simp [errW_none, errW_some] <;> rfl) | (simp [*, errW_none, errW_some] <;> rfl), by (with_reducible repeat (first | apply Kd.R_alloc | apply Kd.R_drewN | apply Kd.R_drew)); exact HO0_1.out, by repeat (first | (with_reducible first | exact HB.out | apply below_alloc | apply pw_below_drewN | apply below_drew1 | refine below_set ?_ GE221.out) | exact HB.out), by repeat (first | (with_reducible first | exact HK.out | apply Kept.alloc | apply Kept.drewN | apply Kept.drew | refine Kept.setCell ?_ (.inr GW221.out) _) | exact HK.out)⟩
def laws_heldIntS.l0 : Nat → List Int → Int → Int → Option (Int)
 | 0, _, _, _ => none
 | k + 1, x0, x1, x5 => if x5 < (x0.length : Int) then (if 0 ≤ x5 then (if (rd x0 x5) = x1 then (laws_heldIntS.l0 k x0 (wrap64 (x1 + 1)) (wrap64 (x5 + 1))) else (some (-1))) else (none)) else (some x1)
def laws_heldIntS.f (k : Nat) (l0 : List Int) (a1 : Int) : Option (Int) := laws_heldIntS.l0 k l0 a1 0
theorem laws_heldIntS.mono_l : ∀ k, (∀ y0 y1 y2, LeO (laws_heldIntS.l0 k y0 y1 y2) (laws_heldIntS.l0 (k + 1) y0 y1 y2))
 | 0 => fun _ _ _ r h => by simp [laws_heldIntS.l0] at h
 | k + 1 => by
  have ih0 := laws_heldIntS.mono_l k
  ·
   intro y0 y1 y2
   unfold laws_heldIntS.l0
   repeat' first
   | (with_reducible exact ih0 _ _ _)
   | (with_reducible exact LeO.refl _)
   | (with_reducible exact LeO.none _)
   | (with_reducible refine LeO.ite ?_ ?_)
   | (with_reducible refine LeO.bind ?_ (fun _ => ?_))
   | exact ih0 _ _ _
   | exact LeO.none _
   | refine LeO.ite ?_ ?_
   | refine LeO.bind ?_ (fun _ => ?_)
theorem laws_heldIntS.mono : ∀ a0 a1 k, LeO (laws_heldIntS.f k a0 a1) (laws_heldIntS.f (k + 1) a0 a1) := by
 intro a0 a1 k
 have ih0 := laws_heldIntS.mono_l k
 unfold laws_heldIntS.f
 repeat' first
   | (with_reducible exact ih0 _ _ _)
   | (with_reducible exact LeO.refl _)
   | (with_reducible exact LeO.none _)
   | (with_reducible refine LeO.ite ?_ ?_)
   | (with_reducible refine LeO.bind ?_ (fun _ => ?_))
   | exact ih0 _ _ _
   | exact LeO.none _
   | refine LeO.ite ?_ ?_
   | refine LeO.bind ?_ (fun _ => ?_)
set_option maxHeartbeats 8000000 in
set_option maxRecDepth 100000 in
theorem laws_heldIntS.calls (k : Nat) (A0 : Option Addr) (c0 : Nat) (l0 : List Int) (a1 : Int) (r : Int) (w : World) (hr0 : Kd.C (Kd.int .i64) w A0 l0.length l0) (hc0 : l0.length ≤ c0) (h : laws_heldIntS.f k l0 a1 = some r) :
  Calls Tryd.prog 41 #[.slice A0 l0.length c0, .int .i64 a1] w fun e w' => e = .returned (.int .i64 r) ∧ Drawn0 w w' := by
 have HR0 := Aside0.mk hr0
 have HC0 := Aside0.mk hc0
 clear hr0 hc0
 have H : (laws_heldIntS.l0 k l0 a1 0) = some r := h
 clear h
 have H' := Aside0.mk H
 clear H
 go_enter Tryd.func41, Tryd.ntmps41
 go_wp2
 go_loopg [1, 5] k (fun kq v1 v5 w' => ∃ (x1_1 : Int) (x5_1 : Int), v1 = .int .i64 x1_1 ∧ v5 = .int .i64 x5_1 ∧ Aside0 (laws_heldIntS.l0 kq l0 x1_1 x5_1 = some r) ∧ Aside0 (kq ≤ k) ∧ Drawn0 w w')
 case atStart => exact ⟨(a1), (0), (by first | rfl | (simp; done) | (simp [*]; done)), (by first | rfl | (simp; done) | (simp [*]; done)), H', ⟨Nat.le_refl _⟩, by repeat (first | exact Drawn0.refl _ | apply Drawn0.step)⟩
 case round =>
  clear H'
  try clear p2
  obtain ⟨x1_1, x5_1, rfl, rfl, HA, HK1, ⟨m1, rfl⟩⟩ := hrel
  cases gk with
  | zero => exact absurd HA.out (by simp [laws_heldIntS.l0])
  | succ k1 =>
   have H := HA.out
   clear HA
   simp only [laws_heldIntS.l0] at H
   by_cases c3 : x5_1 < (l0.length : Int)
   ·
    rw [if_pos c3] at H
    have c3b0 : decide (x5_1 < (l0.length : Int)) = true := decide_eq_true c3
    clear c3
    by_cases c4 : 0 ≤ x5_1
    ·
     rw [if_pos c4] at H
     have c4b0 : decide (0 ≤ x5_1) = true := decide_eq_true c4
     clear c4
     by_cases c5 : (rd l0 x5_1) = x1_1
     ·
      rw [if_pos c5] at H
      have c5b0 : ((rd l0 x5_1) == x1_1) = true := beq_iff_eq.mpr c5
      have c5b1 : ((rd l0 x5_1) != x1_1) = false := bne_eq_false_iff_eq.mpr c5
      clear c5
      have H' := Aside0.mk H
      clear H
      have p224 : 0 ≤ (x5_1 : Int) := of_decide_eq_true (by first | (with_reducible assumption) | assumption)
      have q224 : x5_1 < (l0.length : Int) := of_decide_eq_true (by first | (with_reducible assumption) | assumption)
      obtain ⟨ad224, e224, hx224_0⟩ := Kd.at_int HR0.out x5_1 p224 q224
      cases e224
      replace p224 := eq_true p224
      replace q224 := eq_true q224
      go_wp2
      go_roundg k1
      case measure => have := HK1.out; omega
      case rel => exact ⟨(wrap64 (x1_1 + 1)), (wrap64 (x5_1 + 1)), (by first | rfl | (simp; done) | (simp [*]; done)), (by first | rfl | (simp; done) | (simp [*]; done)), H', ⟨by have := HK1.out; omega⟩, by repeat (first | exact Drawn0.refl _ | apply Drawn0.step)⟩
     ·
      rw [if_neg c5] at H
      have c5b0 : ((rd l0 x5_1) == x1_1) = false := beq_eq_false_iff_ne.mpr c5
      have c5b1 : ((rd l0 x5_1) != x1_1) = true := bne_iff_ne.mpr c5
      obtain rfl := Option.some.inj H
      have p224 : 0 ≤ (x5_1 : Int) := of_decide_eq_true (by first | (with_reducible assumption) | assumption)
      have q224 : x5_1 < (l0.length : Int) := of_decide_eq_true (by first | (with_reducible assumption) | assumption)
      obtain ⟨ad224, e224, hx224_0⟩ := Kd.at_int HR0.out x5_1 p224 q224
      cases e224
      replace p224 := eq_true p224
      replace q224 := eq_true q224
      go_wp2
      go_ret
      exact ⟨by first | rfl | (simp; done) | (simp [*]; done), by repeat (first | exact Drawn0.refl _ | apply Drawn0.step)⟩
    ·
     rw [if_neg c4] at H
     exact absurd H (by simp)
   ·
    rw [if_neg c3] at H
    have c3b0 : decide (x5_1 < (l0.length : Int)) = false := decide_eq_false c3
    clear c3
    obtain rfl := Option.some.inj H
    go_wp2
    go_ret
    exact ⟨by first | rfl | (simp; done) | (simp [*]; done), by repeat (first | exact Drawn0.refl _ | apply Drawn0.step)⟩
def laws_heldTournament.f (k : Nat) (a0_0 : Int) (l0_1 : List Int) (a1 : Int) : Option (Int) := (laws_heldIntS.f k l0_1 a1).bind fun t226 => (if t226 < 0 then (some (-1)) else (some t226))
theorem laws_heldTournament.mono : ∀ a0 a1 a2 k, LeO (laws_heldTournament.f k a0 a1 a2) (laws_heldTournament.f (k + 1) a0 a1 a2) := by
 intro a0 a1 a2 k
 unfold laws_heldTournament.f
 repeat' first
   | (with_reducible exact laws_heldIntS.mono _ _ _)
   | (with_reducible exact LeO.refl _)
   | (with_reducible exact LeO.none _)
   | (with_reducible refine LeO.ite ?_ ?_)
   | (with_reducible refine LeO.bind ?_ (fun _ => ?_))
   | exact laws_heldIntS.mono _ _ _
   | exact LeO.none _
   | refine LeO.ite ?_ ?_
   | refine LeO.bind ?_ (fun _ => ?_)
set_option maxHeartbeats 8000000 in
set_option maxRecDepth 100000 in
theorem laws_heldTournament.calls (k : Nat) (a0_0 : Int) (A0_1 : Option Addr) (c0_1 : Nat) (l0_1 : List Int) (a1 : Int) (r : Int) (w : World) (hr0_1 : Kd.C (Kd.int .i64) w A0_1 l0_1.length l0_1) (hc0_1 : l0_1.length ≤ c0_1) (h : laws_heldTournament.f k a0_0 l0_1 a1 = some r) :
  Calls Tryd.prog 14 #[.agg #[.int .i64 a0_0, .slice A0_1 l0_1.length c0_1], .int .i64 a1] w fun e w' => e = .returned (.int .i64 r) ∧ Below w.heap.size w w' := by
 have hu28 := Tryd.underlying28
 have HR0_1 := Aside0.mk hr0_1
 have HC0_1 := Aside0.mk hc0_1
 clear hr0_1 hc0_1
 have HB := Aside0.mk (Below.refl w.heap.size w)
 have H : ((laws_heldIntS.f k l0_1 a1).bind fun t226 => (if t226 < 0 then (some (-1)) else (some t226))) = some r := h
 clear h
 replace H := Option.bind_eq_some_iff.mp H
 obtain ⟨t226, A30, H⟩ := H
 replace H : (if t226 < 0 then (some (-1)) else (some t226)) = some r := H
 have A3 := Aside0.mk A30
 clear A30
 by_cases c4 : t226 < 0
 ·
  rw [if_pos c4] at H
  have c4b0 : decide (t226 < 0) = true := decide_eq_true c4
  clear c4
  obtain rfl := Option.some.inj H
  go_enter Tryd.func14, Tryd.ntmps14
  go_wp2_with (first | ((with_reducible refine gate_dst (N := 2) rfl ?_); refine box_event ?hg (N := 2) ?hd (cs := #[.int .i64 a0_0, .slice A0_1 l0_1.length c0_1]) (t := 28) ?hr ?_; (case hd => rfl); (case hg => rfl); (case hr => first | (go_simp; done) | (go_simp; rfl)); intro gb225 hg w5 hbox hb; have n0_ := Aside0.mk (below_step (by repeat (first | (with_reducible first | exact HB.out | apply below_alloc | apply pw_below_drewN | apply below_drew1))) hb); have n1_ := Aside0.mk (hbox); have n2_ := Aside0.mk ((by rw [hg]; exact (below_size (by repeat (first | (with_reducible first | exact HB.out | apply below_alloc | apply pw_below_drewN | apply below_drew1)))) : w.heap.size ≤ gb225)); have n3_ := Aside0.mk ((by rw [hg]; exact (below_size (by repeat (first | (with_reducible first | exact HB.out | apply below_alloc | apply pw_below_drewN | apply below_drew1)))) : w.heap.size ≤ gb225)); clear HB; have HB := n0_; have BK225 := n1_; have GW225 := n2_; have GE225 := n3_; clear n0_ n1_ n2_ n3_; clear hb hbox hg; have hcz6_0 : w5.cell? ⟨gb225, 0, none⟩ = some (.int .i64 a0_0) := (blk_cell BK225.out 0).trans rfl; have hcz6_1 : w5.cell? ⟨gb225, 1, none⟩ = some (.slice A0_1 l0_1.length c0_1) := (blk_cell BK225.out 1).trans rfl; have hfz6_0 := blk_frozen BK225.out 0; have hfz6_1 := blk_frozen BK225.out 1) | ((with_reducible refine gate_callee (f := 41) rfl ?_); refine goesL_ (some 8) rfl rfl Tryd.func41 (by kernel_rfl) rfl #[.slice A0_1 l0_1.length c0_1, .int .i64 a1] rfl (by (try simp only [List.map_toArray, List.map_cons, List.map_nil]); first | done | rfl) ?_; (with_reducible refine (laws_heldIntS.calls k _ _ l0_1 a1 t226 _ ?side1 ?side2 A3.out).mono ?_); (case side1 => repeat (first | exact (Kd.C_below HR0_1.out HB.out) | (with_reducible refine Kd.C_alloc ?_ _) | (with_reducible refine Kd.C_drewN ?_ _) | (with_reducible refine Kd.C_drew ?_))); (case side2 => exact HC0_1.out); rintro e w' ⟨rfl, ⟨nd, rfl⟩⟩; refine ⟨_, rfl, ?_⟩))
  go_ret
  exact ⟨by first | rfl | (simp [errW_none, errW_some] <;> rfl) | (simp [*, errW_none, errW_some] <;> rfl), by repeat (first | (with_reducible first | exact HB.out | apply below_alloc | apply pw_below_drewN | apply below_drew1 | refine below_set ?_ GE225.out) | exact HB.out)⟩
 ·
  rw [if_neg c4] at H
  have c4b0 : decide (t226 < 0) = false := decide_eq_false c4
  clear c4
  obtain rfl := Option.some.inj H
  go_enter Tryd.func14, Tryd.ntmps14
  go_wp2_with (first | ((with_reducible refine gate_dst (N := 2) rfl ?_); refine box_event ?hg (N := 2) ?hd (cs := #[.int .i64 a0_0, .slice A0_1 l0_1.length c0_1]) (t := 28) ?hr ?_; (case hd => rfl); (case hg => rfl); (case hr => first | (go_simp; done) | (go_simp; rfl)); intro gb225 hg w7 hbox hb; have n0_ := Aside0.mk (below_step (by repeat (first | (with_reducible first | exact HB.out | apply below_alloc | apply pw_below_drewN | apply below_drew1))) hb); have n1_ := Aside0.mk (hbox); have n2_ := Aside0.mk ((by rw [hg]; exact (below_size (by repeat (first | (with_reducible first | exact HB.out | apply below_alloc | apply pw_below_drewN | apply below_drew1)))) : w.heap.size ≤ gb225)); have n3_ := Aside0.mk ((by rw [hg]; exact (below_size (by repeat (first | (with_reducible first | exact HB.out | apply below_alloc | apply pw_below_drewN | apply below_drew1)))) : w.heap.size ≤ gb225)); clear HB; have HB := n0_; have BK225 := n1_; have GW225 := n2_; have GE225 := n3_; clear n0_ n1_ n2_ n3_; clear hb hbox hg; have hcz8_0 : w7.cell? ⟨gb225, 0, none⟩ = some (.int .i64 a0_0) := (blk_cell BK225.out 0).trans rfl; have hcz8_1 : w7.cell? ⟨gb225, 1, none⟩ = some (.slice A0_1 l0_1.length c0_1) := (blk_cell BK225.out 1).trans rfl; have hfz8_0 := blk_frozen BK225.out 0; have hfz8_1 := blk_frozen BK225.out 1) | ((with_reducible refine gate_callee (f := 41) rfl ?_); refine goesL_ (some 8) rfl rfl Tryd.func41 (by kernel_rfl) rfl #[.slice A0_1 l0_1.length c0_1, .int .i64 a1] rfl (by (try simp only [List.map_toArray, List.map_cons, List.map_nil]); first | done | rfl) ?_; (with_reducible refine (laws_heldIntS.calls k _ _ l0_1 a1 t226 _ ?side1 ?side2 A3.out).mono ?_); (case side1 => repeat (first | exact (Kd.C_below HR0_1.out HB.out) | (with_reducible refine Kd.C_alloc ?_ _) | (with_reducible refine Kd.C_drewN ?_ _) | (with_reducible refine Kd.C_drew ?_))); (case side2 => exact HC0_1.out); rintro e w' ⟨rfl, ⟨nd, rfl⟩⟩; refine ⟨_, rfl, ?_⟩))
  go_ret
  exact ⟨by first | rfl | (simp [errW_none, errW_some] <;> rfl) | (simp [*, errW_none, errW_some] <;> rfl), by repeat (first | (with_reducible first | exact HB.out | apply below_alloc | apply pw_below_drewN | apply below_drew1 | refine below_set ?_ GE225.out) | exact HB.out)⟩
mutual
def laws_FnExactParseTournament.j0 : Nat → ByteArray → Bool → Bool → Int → List Int → Int → List Int → Option (Bool)
 | 0, _, _, _, _, _, _, _ => none
 | k + 1, x0, x4, x32, x233000, x233001, x239000, x239001 => if x32 = true then (some false) else ((laws_markTournament.f k x239000 x239001 1).bind fun bt240 => ((laws_heldTournament.f k x239000 bt240.2 1).bind fun t242 => (if t242 < 0 then (some false) else (if t242 = bt240.1 then ((impl_ParseTournament.f k x0).bind fun bt243 => ((laws_eqTournament.f k bt243.1 bt243.2.1 x233000 x233001).bind fun t249 => (if t249 = true then (laws_FnExactParseTournament.j1 k bt240.1 (bt243.2.2 != x4) x239000 bt240.2) else (laws_FnExactParseTournament.j1 k bt240.1 true x239000 bt240.2)))) else (some false)))))
def laws_FnExactParseTournament.j1 : Nat → Int → Bool → Int → List Int → Option (Bool)
 | 0, _, _, _, _ => none
 | k + 1, x7, x57, x239000, x239001 => if x57 = true then (some false) else ((laws_heldTournament.f k x239000 x239001 1).bind fun t250 => (if t250 < 0 then (some false) else (if t250 = x7 then (some true) else (some false))))
end
def laws_FnExactParseTournament.f (k : Nat) (a0 : ByteArray) : Option (Bool) := if (a0.size : Int) > 1048576 then (some true) else ((spec_ParseTournament.f k a0).bind fun bt227 => ((impl_ParseTournament.f k a0).bind fun bt233 => ((laws_eqTournament.f k bt233.1 bt233.2.1 bt227.1 bt227.2.1).bind fun t239 => (if t239 = true then (laws_FnExactParseTournament.j0 k a0 bt227.2.2 (bt233.2.2 != bt227.2.2) bt227.1 bt227.2.1 bt233.1 bt233.2.1) else (laws_FnExactParseTournament.j0 k a0 bt227.2.2 true bt227.1 bt227.2.1 bt233.1 bt233.2.1)))))
theorem laws_FnExactParseTournament.mono_l : ∀ k, (∀ y0 y1 y2 y3 y4 y5 y6, LeO (laws_FnExactParseTournament.j0 k y0 y1 y2 y3 y4 y5 y6) (laws_FnExactParseTournament.j0 (k + 1) y0 y1 y2 y3 y4 y5 y6)) ∧ (∀ y0 y1 y2 y3, LeO (laws_FnExactParseTournament.j1 k y0 y1 y2 y3) (laws_FnExactParseTournament.j1 (k + 1) y0 y1 y2 y3))
 | 0 => ⟨fun _ _ _ _ _ _ _ r h => by simp [laws_FnExactParseTournament.j0] at h, fun _ _ _ _ r h => by simp [laws_FnExactParseTournament.j1] at h⟩
 | k + 1 => by
  obtain ⟨ih0, ih1⟩ := laws_FnExactParseTournament.mono_l k
  refine ⟨?_, ?_⟩
  ·
   intro y0 y1 y2 y3 y4 y5 y6
   unfold laws_FnExactParseTournament.j0
   repeat' first
   | (with_reducible exact ih0 _ _ _ _ _ _ _)
   | (with_reducible exact ih1 _ _ _ _)
   | (with_reducible exact impl_ParseTournament.mono _ _)
   | (with_reducible exact laws_eqTournament.mono _ _ _ _ _)
   | (with_reducible exact laws_heldTournament.mono _ _ _ _)
   | (with_reducible exact laws_markTournament.mono _ _ _ _)
   | (with_reducible exact spec_ParseTournament.mono _ _)
   | (with_reducible exact LeO.refl _)
   | (with_reducible exact LeO.none _)
   | (with_reducible refine LeO.ite ?_ ?_)
   | (with_reducible refine LeO.bind ?_ (fun _ => ?_))
   | exact ih0 _ _ _ _ _ _ _
   | exact ih1 _ _ _ _
   | exact impl_ParseTournament.mono _ _
   | exact laws_eqTournament.mono _ _ _ _ _
   | exact laws_heldTournament.mono _ _ _ _
   | exact laws_markTournament.mono _ _ _ _
   | exact spec_ParseTournament.mono _ _
   | exact LeO.none _
   | refine LeO.ite ?_ ?_
   | refine LeO.bind ?_ (fun _ => ?_)
  ·
   intro y0 y1 y2 y3
   unfold laws_FnExactParseTournament.j1
   repeat' first
   | (with_reducible exact ih0 _ _ _ _ _ _ _)
   | (with_reducible exact ih1 _ _ _ _)
   | (with_reducible exact impl_ParseTournament.mono _ _)
   | (with_reducible exact laws_eqTournament.mono _ _ _ _ _)
   | (with_reducible exact laws_heldTournament.mono _ _ _ _)
   | (with_reducible exact laws_markTournament.mono _ _ _ _)
   | (with_reducible exact spec_ParseTournament.mono _ _)
   | (with_reducible exact LeO.refl _)
   | (with_reducible exact LeO.none _)
   | (with_reducible refine LeO.ite ?_ ?_)
   | (with_reducible refine LeO.bind ?_ (fun _ => ?_))
   | exact ih0 _ _ _ _ _ _ _
   | exact ih1 _ _ _ _
   | exact impl_ParseTournament.mono _ _
   | exact laws_eqTournament.mono _ _ _ _ _
   | exact laws_heldTournament.mono _ _ _ _
   | exact laws_markTournament.mono _ _ _ _
   | exact spec_ParseTournament.mono _ _
   | exact LeO.none _
   | refine LeO.ite ?_ ?_
   | refine LeO.bind ?_ (fun _ => ?_)
theorem laws_FnExactParseTournament.mono : ∀ a0 k, LeO (laws_FnExactParseTournament.f k a0) (laws_FnExactParseTournament.f (k + 1) a0) := by
 intro a0 k
 obtain ⟨ih0, ih1⟩ := laws_FnExactParseTournament.mono_l k
 unfold laws_FnExactParseTournament.f
 repeat' first
   | (with_reducible exact ih0 _ _ _ _ _ _ _)
   | (with_reducible exact ih1 _ _ _ _)
   | (with_reducible exact impl_ParseTournament.mono _ _)
   | (with_reducible exact laws_eqTournament.mono _ _ _ _ _)
   | (with_reducible exact laws_heldTournament.mono _ _ _ _)
   | (with_reducible exact laws_markTournament.mono _ _ _ _)
   | (with_reducible exact spec_ParseTournament.mono _ _)
   | (with_reducible exact LeO.refl _)
   | (with_reducible exact LeO.none _)
   | (with_reducible refine LeO.ite ?_ ?_)
   | (with_reducible refine LeO.bind ?_ (fun _ => ?_))
   | exact ih0 _ _ _ _ _ _ _
   | exact ih1 _ _ _ _
   | exact impl_ParseTournament.mono _ _
   | exact laws_eqTournament.mono _ _ _ _ _
   | exact laws_heldTournament.mono _ _ _ _
   | exact laws_markTournament.mono _ _ _ _
   | exact spec_ParseTournament.mono _ _
   | exact LeO.none _
   | refine LeO.ite ?_ ?_
   | refine LeO.bind ?_ (fun _ => ?_)
set_option maxHeartbeats 8000000 in
set_option maxRecDepth 100000 in
theorem laws_FnExactParseTournament.calls (k : Nat) (a0 : ByteArray) (r : Bool) (w : World) (h : laws_FnExactParseTournament.f k a0 = some r) :
  Calls Tryd.prog 4 #[.string a0] w fun e w' => e = .returned (.bool r) ∧ Below w.heap.size w w' := by
 have hu28 := Tryd.underlying28
 have HB := Aside0.mk (Below.refl w.heap.size w)
 have H : (if (a0.size : Int) > 1048576 then (some true) else ((spec_ParseTournament.f k a0).bind fun bt227 => ((impl_ParseTournament.f k a0).bind fun bt233 => ((laws_eqTournament.f k bt233.1 bt233.2.1 bt227.1 bt227.2.1).bind fun t239 => (if t239 = true then (laws_FnExactParseTournament.j0 k a0 bt227.2.2 (bt233.2.2 != bt227.2.2) bt227.1 bt227.2.1 bt233.1 bt233.2.1) else (laws_FnExactParseTournament.j0 k a0 bt227.2.2 true bt227.1 bt227.2.1 bt233.1 bt233.2.1)))))) = some r := h
 clear h
 by_cases c2 : (a0.size : Int) > 1048576
 ·
  rw [if_pos c2] at H
  have c2b0 : decide (1048576 < (a0.size : Int)) = true := decide_eq_true c2
  have c2b1 : decide (1048576 < a0.size) = true := decide_eq_true (by omega)
  clear c2
  obtain rfl := Option.some.inj H
  go_enter Tryd.func4, Tryd.ntmps4
  go_wp2
  go_ret
  exact ⟨by first | rfl | (simp [errW_none, errW_some] <;> rfl) | (simp [*, errW_none, errW_some] <;> rfl), by repeat (first | (with_reducible first | exact HB.out | apply below_alloc | apply pw_below_drewN | apply below_drew1) | exact HB.out)⟩
 ·
  rw [if_neg c2] at H
  have c2b0 : decide (1048576 < (a0.size : Int)) = false := decide_eq_false c2
  have c2b1 : decide (1048576 < a0.size) = false := decide_eq_false (by omega)
  clear c2
  replace H := Option.bind_eq_some_iff.mp H
  obtain ⟨⟨t227, t228, t231⟩, A30, H⟩ := H
  replace H : ((impl_ParseTournament.f k a0).bind fun bt233 => ((laws_eqTournament.f k bt233.1 bt233.2.1 t227 t228).bind fun t239 => (if t239 = true then (laws_FnExactParseTournament.j0 k a0 t231 (bt233.2.2 != t231) t227 t228 bt233.1 bt233.2.1) else (laws_FnExactParseTournament.j0 k a0 t231 true t227 t228 bt233.1 bt233.2.1)))) = some r := H
  have A3 := Aside0.mk A30
  clear A30
  replace H := Option.bind_eq_some_iff.mp H
  obtain ⟨⟨t233, t234, t237⟩, A40, H⟩ := H
  replace H : ((laws_eqTournament.f k t233 t234 t227 t228).bind fun t239 => (if t239 = true then (laws_FnExactParseTournament.j0 k a0 t231 (t237 != t231) t227 t228 t233 t234) else (laws_FnExactParseTournament.j0 k a0 t231 true t227 t228 t233 t234))) = some r := H
  have A4 := Aside0.mk A40
  clear A40
  have HC5 := Aside0.mk H
  clear H
  go_enter Tryd.func4, Tryd.ntmps4
  go_upto_region 5 with (first | ((with_reducible refine gate_callee (f := 11) rfl ?_); refine goesL_ (some 16) rfl rfl Tryd.func11 (by kernel_rfl) rfl #[.string a0] rfl (by (try simp only [List.map_toArray, List.map_cons, List.map_nil]); first | done | rfl) ?_; (with_reducible refine (spec_ParseTournament.calls k a0 t227 t228 t231 _ A3.out).mono ?_); rintro e w6 ⟨v229, rfl, ho0, hb⟩; refine ⟨_, rfl, ?_⟩; have n0_ := Aside0.mk (Kd.R_lower ho0 (below_size (by repeat (first | (with_reducible first | exact HB.out | apply below_alloc | apply pw_below_drewN | apply below_drew1))))); have n1_ := Aside0.mk (below_step (by repeat (first | (with_reducible first | exact HB.out | apply below_alloc | apply pw_below_drewN | apply below_drew1))) hb); clear HB; have HO230 := n0_; have HB := n1_; clear n0_ n1_; (try clear hb); (try clear hb2); (try clear hk); (try clear hi); (try clear ho0)) | ((with_reducible refine gate_dst (N := 3) rfl ?_); refine box_event ?hg (N := 3) ?hd (cs := #[.int .i64 0, .slice none 0 0]) (t := 28) ?hr ?_; (case hd => rfl); (case hg => rfl); (case hr => first | (go_simp; done) | (go_simp; rfl)); intro gb232 hg w7 hbox hb; have n0_ := Aside0.mk (Kd.R_below (by (with_reducible repeat (first | apply Kd.R_alloc | apply Kd.R_drewN | apply Kd.R_drew)); exact HO230.out) hb); have n1_ := Aside0.mk (below_step (by repeat (first | (with_reducible first | exact HB.out | apply below_alloc | apply pw_below_drewN | apply below_drew1))) hb); have n2_ := Aside0.mk (hbox); have n3_ := Aside0.mk ((by rw [hg]; exact (below_size (by repeat (first | (with_reducible first | exact HB.out | apply below_alloc | apply pw_below_drewN | apply below_drew1)))) : w.heap.size ≤ gb232)); have n4_ := Aside0.mk ((by rw [hg]; exact (below_size (by repeat (first | (with_reducible first | exact HB.out | apply below_alloc | apply pw_below_drewN | apply below_drew1)))) : w.heap.size ≤ gb232)); clear HO230; clear HB; have HO230 := n0_; have HB := n1_; have BK232 := n2_; have GW232 := n3_; have GE232 := n4_; clear n0_ n1_ n2_ n3_ n4_; clear hb hbox hg; have hcz8_0 : w7.cell? ⟨gb232, 0, none⟩ = some (.int .i64 0) := (blk_cell BK232.out 0).trans rfl; have hcz8_1 : w7.cell? ⟨gb232, 1, none⟩ = some (.slice none 0 0) := (blk_cell BK232.out 1).trans rfl; have hfz8_0 := blk_frozen BK232.out 0; have hfz8_1 := blk_frozen BK232.out 1; obtain ⟨Ao9, co9, eo9⟩ := Kd.R_slice HO230.out; subst eo9) | ((with_reducible refine gate_callee (f := 12) rfl ?_); refine goesL_ (some 21) rfl rfl Tryd.func12 (by kernel_rfl) rfl #[.string a0] rfl (by (try simp only [List.map_toArray, List.map_cons, List.map_nil]); first | done | rfl) ?_; (with_reducible refine (impl_ParseTournament.calls k a0 t233 t234 t237 _ A4.out).mono ?_); rintro e w10 ⟨v235, rfl, ho0, hb⟩; refine ⟨_, rfl, ?_⟩; have n0_ := Aside0.mk (Kd.R_elder' (by (with_reducible repeat (first | apply Kd.R_alloc | apply Kd.R_drewN | apply Kd.R_drew)); exact (Kd.R_mono (Kd.R_far (p := ⟨gb232, 1, none⟩) (Kd.R_far (p := ⟨gb232, 0, none⟩) (Kd.R_types HO230.out BK232.out (by decide)) (fun _ hk => hk.2) (.int .i64 t227)) (fun _ hk => hk.2) (.slice Ao9 t228.length co9)) (fun _ h_ => h_.1))) (Kd.R_base ho0) hb); have n1_ := Aside0.mk (Kd.R_lower (Kd.R_new' ho0 (Kd.R_lt (by (with_reducible repeat (first | apply Kd.R_alloc | apply Kd.R_drewN | apply Kd.R_drew)); exact (Kd.R_mono (Kd.R_far (p := ⟨gb232, 1, none⟩) (Kd.R_far (p := ⟨gb232, 0, none⟩) (Kd.R_types HO230.out BK232.out (by decide)) (fun _ hk => hk.2) (.int .i64 t227)) (fun _ hk => hk.2) (.slice Ao9 t228.length co9)) (fun _ h_ => h_.1))))) (below_size (by repeat (first | (with_reducible first | exact HB.out | apply below_alloc | apply pw_below_drewN | apply below_drew1 | refine below_set ?_ GE232.out) | exact HB.out)))); have n2_ := Aside0.mk (blk_below (g := gb232) (o := .cells #[.int .i64 t227, .slice Ao9 t228.length co9] 28 (0, 0)) (by (with_reducible repeat (first | refine blk_drewN ?_ _ | refine blk_drew ?_ | refine blk_alloc ?_ _)); refine blk_put (cs := #[.int .i64 t227, .slice none 0 0]) ?_ 1 _ rfl; (with_reducible repeat (first | refine blk_drewN ?_ _ | refine blk_drew ?_ | refine blk_alloc ?_ _)); refine blk_put (cs := #[.int .i64 0, .slice none 0 0]) ?_ 0 _ rfl; (with_reducible repeat (first | refine blk_drewN ?_ _ | refine blk_drew ?_ | refine blk_alloc ?_ _)); exact BK232.out) hb); have n3_ := Aside0.mk (below_step (by repeat (first | (with_reducible first | exact HB.out | apply below_alloc | apply pw_below_drewN | apply below_drew1 | refine below_set ?_ GE232.out) | exact HB.out)) hb); clear HO230; clear BK232; clear HB; have HO230 := n0_; have HO236 := n1_; have BK232 := n2_; have HB := n3_; clear n0_ n1_ n2_ n3_; (try clear hb); (try clear hb2); (try clear hk); (try clear hi); (try clear ho0)) | ((with_reducible refine gate_dst (N := 5) rfl ?_); refine box_event ?hg (N := 5) ?hd (cs := #[.int .i64 0, .slice none 0 0]) (t := 28) ?hr ?_; (case hd => rfl); (case hg => rfl); (case hr => first | (go_simp; done) | (go_simp; rfl)); intro gb238 hg w11 hbox hb; have n0_ := Aside0.mk (Kd.R_below (by (with_reducible repeat (first | apply Kd.R_alloc | apply Kd.R_drewN | apply Kd.R_drew)); exact HO230.out) hb); have n1_ := Aside0.mk (Kd.R_below (by (with_reducible repeat (first | apply Kd.R_alloc | apply Kd.R_drewN | apply Kd.R_drew)); exact HO236.out) hb); have n2_ := Aside0.mk (blk_below (g := gb232) (o := .cells #[.int .i64 t227, .slice Ao9 t228.length co9] 28 (0, 0)) (by (with_reducible repeat (first | refine blk_drewN ?_ _ | refine blk_drew ?_ | refine blk_alloc ?_ _)); exact BK232.out) hb); have n3_ := Aside0.mk (below_step (by repeat (first | (with_reducible first | exact HB.out | apply below_alloc | apply pw_below_drewN | apply below_drew1 | refine below_set ?_ GE232.out) | exact HB.out)) hb); have n4_ := Aside0.mk (hbox); have n5_ := Aside0.mk ((by rw [hg]; exact (below_size (by repeat (first | (with_reducible first | exact HB.out | apply below_alloc | apply pw_below_drewN | apply below_drew1 | refine below_set ?_ GE232.out) | exact HB.out))) : w.heap.size ≤ gb238)); have n6_ := Aside0.mk ((by rw [hg]; exact (below_size (by repeat (first | (with_reducible first | exact HB.out | apply below_alloc | apply pw_below_drewN | apply below_drew1 | refine below_set ?_ GE232.out) | exact HB.out))) : w.heap.size ≤ gb238)); have n7_ := Aside0.mk ((by rw [hg]; exact Nat.ne_of_lt (blk_lt (g := gb232) (o := .cells #[.int .i64 t227, .slice Ao9 t228.length co9] 28 (0, 0)) (by (with_reducible repeat (first | refine blk_drewN ?_ _ | refine blk_drew ?_ | refine blk_alloc ?_ _)); exact BK232.out)) : gb232 ≠ gb238)); have n8_ := Aside0.mk ((by rw [hg]; exact Nat.ne_of_gt (blk_lt (g := gb232) (o := .cells #[.int .i64 t227, .slice Ao9 t228.length co9] 28 (0, 0)) (by (with_reducible repeat (first | refine blk_drewN ?_ _ | refine blk_drew ?_ | refine blk_alloc ?_ _)); exact BK232.out)) : gb238 ≠ gb232)); clear HO230; clear HO236; clear BK232; clear HB; have HO230 := n0_; have HO236 := n1_; have BK232 := n2_; have HB := n3_; have BK238 := n4_; have GW238 := n5_; have GE238 := n6_; have NB232_238 := n7_; have NB238_232 := n8_; clear n0_ n1_ n2_ n3_ n4_ n5_ n6_ n7_ n8_; clear hb hbox hg; have hnb12 := NB238_232.out; have hnc12 := NB232_238.out; have hcz13_0 : w11.cell? ⟨gb238, 0, none⟩ = some (.int .i64 0) := (blk_cell BK238.out 0).trans rfl; have hcz13_1 : w11.cell? ⟨gb238, 1, none⟩ = some (.slice none 0 0) := (blk_cell BK238.out 1).trans rfl; have hfz13_0 := blk_frozen BK238.out 0; have hfz13_1 := blk_frozen BK238.out 1; obtain ⟨Ao14, co14, eo14⟩ := Kd.R_slice HO236.out; subst eo14))
  (try simp only [Act.put, List.setIfInBounds_toArray, List.set_cons_zero, List.set_cons_succ])
  go_cut [32] (fun v32 wc => ∃ (kq : Nat) (x32_4 : Bool), v32 = .bool x32_4 ∧ Aside0 (laws_FnExactParseTournament.j0 kq a0 t231 x32_4 t227 t228 t233 t234 = some r) ∧ Aside0 (kq ≤ k) ∧ Aside0 (Kd.R (Kd.int .i64) 3 wc w.heap.size (fun k_ => some k_ ≠ ((.slice Ao14 t234.length co14) : Value).ownBlock) (.slice Ao9 t228.length co9) t228) ∧ Aside0 (Kd.R (Kd.int .i64) 3 wc w.heap.size (fun k_ => some k_ ≠ ((.slice Ao9 t228.length co9) : Value).ownBlock) (.slice Ao14 t234.length co14) t234) ∧ Aside0 (wc.heap[gb232]? = some (.cells #[.int .i64 t227, (.slice Ao9 t228.length co9)] 28 (0, 0))) ∧ Aside0 (wc.heap[gb238]? = some (.cells #[.int .i64 t233, (.slice Ao14 t234.length co14)] 28 (0, 0))) ∧ Aside0 (Below w.heap.size w wc))
  case first =>
   have H := HC5.out
   clear HC5
   replace H := Option.bind_eq_some_iff.mp H
   obtain ⟨t239, A150, H⟩ := H
   replace H : (if t239 = true then (laws_FnExactParseTournament.j0 k a0 t231 (t237 != t231) t227 t228 t233 t234) else (laws_FnExactParseTournament.j0 k a0 t231 true t227 t228 t233 t234)) = some r := H
   have A15 := Aside0.mk A150
   clear A150
   by_cases c16 : t239 = true
   ·
    subst c16
    have H1 : (laws_FnExactParseTournament.j0 k a0 t231 (t237 != t231) t227 t228 t233 t234) = some r := by rw [if_pos rfl] at H; exact H
    clear H
    have H := H1
    clear H1
    have H' := Aside0.mk H
    clear H
    have hnb17 := NB238_232.out
    have hnc17 := NB232_238.out
    have hcz18_0 : w11.cell? ⟨gb238, 0, none⟩ = some (.int .i64 0) := (blk_cell BK238.out 0).trans rfl
    have hcz18_1 : w11.cell? ⟨gb238, 1, none⟩ = some (.slice none 0 0) := (blk_cell BK238.out 1).trans rfl
    have hfz18_0 := blk_frozen BK238.out 0
    have hfz18_1 := blk_frozen BK238.out 1
    have hcz19_0 : w11.cell? ⟨gb232, 0, none⟩ = some (.int .i64 t227) := (blk_cell BK232.out 0).trans rfl
    have hcz19_1 : w11.cell? ⟨gb232, 1, none⟩ = some (.slice Ao9 t228.length co9) := (blk_cell BK232.out 1).trans rfl
    have hfz19_0 := blk_frozen BK232.out 0
    have hfz19_1 := blk_frozen BK232.out 1
    go_wp2_with (first | ((with_reducible refine gate_callee (f := 10) rfl ?_); refine goesL_ (some 26) rfl rfl Tryd.func10 (by kernel_rfl) rfl #[.agg #[.int .i64 t233, .slice Ao14 t234.length co14], .agg #[.int .i64 t227, .slice Ao9 t228.length co9]] rfl (by (try simp only [List.map_toArray, List.map_cons, List.map_nil]); first | done | rfl) ?_; (with_reducible refine (laws_eqTournament.calls k t233 _ _ t234 t227 _ _ t228 true _ ?side1 ?side2 ?side3 ?side4 A15.out).mono ?_); (case side1 => refine (Kd.R_reads' (e := 3) (base := w.heap.size) (ok := fun k_ => (True ∧ some k_ ≠ (.slice Ao9 t228.length co9 : Value).ownBlock)) (n := t234.length) (c := co14) ?_).2.2; exact (by (with_reducible repeat (first | apply Kd.R_alloc | apply Kd.R_drewN | apply Kd.R_drew)); exact (Kd.R_mono (Kd.R_far (p := ⟨gb238, 1, none⟩) (Kd.R_far (p := ⟨gb238, 0, none⟩) (Kd.R_types HO236.out BK238.out (by decide)) (fun _ hk => hk.2) (.int .i64 t233)) (fun _ hk => hk.2) (.slice Ao14 t234.length co14)) (fun _ h_ => h_.1)))); (case side2 => exact (Kd.R_reads' HO236.out).2.1); (case side3 => refine (Kd.R_reads' (e := 3) (base := w.heap.size) (ok := fun k_ => (True ∧ some k_ ≠ (.slice Ao14 t234.length co14 : Value).ownBlock)) (n := t228.length) (c := co9) ?_).2.2; exact (by (with_reducible repeat (first | apply Kd.R_alloc | apply Kd.R_drewN | apply Kd.R_drew)); exact (Kd.R_mono (Kd.R_far (p := ⟨gb238, 1, none⟩) (Kd.R_far (p := ⟨gb238, 0, none⟩) (Kd.R_types HO230.out BK238.out (by decide)) (fun _ hk => hk.2) (.int .i64 t233)) (fun _ hk => hk.2) (.slice Ao14 t234.length co14)) (fun _ h_ => h_.1)))); (case side4 => exact (Kd.R_reads' HO230.out).2.1); rintro e w20 ⟨rfl, hb⟩; refine ⟨_, rfl, ?_⟩; have n0_ := Aside0.mk (Kd.R_below (by (with_reducible repeat (first | apply Kd.R_alloc | apply Kd.R_drewN | apply Kd.R_drew)); exact (Kd.R_mono (Kd.R_far (p := ⟨gb238, 1, none⟩) (Kd.R_far (p := ⟨gb238, 0, none⟩) (Kd.R_types HO230.out BK238.out (by decide)) (fun _ hk => hk.2) (.int .i64 t233)) (fun _ hk => hk.2) (.slice Ao14 t234.length co14)) (fun _ h_ => h_.1))) hb); have n1_ := Aside0.mk (Kd.R_below (by (with_reducible repeat (first | apply Kd.R_alloc | apply Kd.R_drewN | apply Kd.R_drew)); exact (Kd.R_mono (Kd.R_far (p := ⟨gb238, 1, none⟩) (Kd.R_far (p := ⟨gb238, 0, none⟩) (Kd.R_types HO236.out BK238.out (by decide)) (fun _ hk => hk.2) (.int .i64 t233)) (fun _ hk => hk.2) (.slice Ao14 t234.length co14)) (fun _ h_ => h_.1))) hb); have n2_ := Aside0.mk (blk_below (g := gb232) (o := .cells #[.int .i64 t227, .slice Ao9 t228.length co9] 28 (0, 0)) (by (with_reducible repeat (first | refine blk_drewN ?_ _ | refine blk_drew ?_ | refine blk_alloc ?_ _)); refine blk_far ?_ NB232_238.out _; (with_reducible repeat (first | refine blk_drewN ?_ _ | refine blk_drew ?_ | refine blk_alloc ?_ _)); refine blk_far ?_ NB232_238.out _; (with_reducible repeat (first | refine blk_drewN ?_ _ | refine blk_drew ?_ | refine blk_alloc ?_ _)); exact BK232.out) hb); have n3_ := Aside0.mk (blk_below (g := gb238) (o := .cells #[.int .i64 t233, .slice Ao14 t234.length co14] 28 (0, 0)) (by (with_reducible repeat (first | refine blk_drewN ?_ _ | refine blk_drew ?_ | refine blk_alloc ?_ _)); refine blk_put (cs := #[.int .i64 t233, .slice none 0 0]) ?_ 1 _ rfl; (with_reducible repeat (first | refine blk_drewN ?_ _ | refine blk_drew ?_ | refine blk_alloc ?_ _)); refine blk_put (cs := #[.int .i64 0, .slice none 0 0]) ?_ 0 _ rfl; (with_reducible repeat (first | refine blk_drewN ?_ _ | refine blk_drew ?_ | refine blk_alloc ?_ _)); exact BK238.out) hb); have n4_ := Aside0.mk (below_step (by repeat (first | (with_reducible first | exact HB.out | apply below_alloc | apply pw_below_drewN | apply below_drew1 | refine below_set ?_ GE232.out | refine below_set ?_ GE238.out) | exact HB.out)) hb); clear HO230; clear HO236; clear BK232; clear BK238; clear HB; have HO230 := n0_; have HO236 := n1_; have BK232 := n2_; have BK238 := n3_; have HB := n4_; clear n0_ n1_ n2_ n3_ n4_; (try clear hb); (try clear hb2); (try clear hk); (try clear hi)))
    go_meet
    case rel => exact ⟨_, ((t237 != t231)), (by first | rfl | (simp; done) | (simp [*]; done)), H', ⟨by first | omega | exact Nat.le_refl _⟩, ⟨by (with_reducible repeat (first | apply Kd.R_alloc | apply Kd.R_drewN | apply Kd.R_drew)); exact Kd.R_mono HO230.out (fun _ hk => hk.2)⟩, ⟨by (with_reducible repeat (first | apply Kd.R_alloc | apply Kd.R_drewN | apply Kd.R_drew)); exact Kd.R_mono HO236.out (fun _ hk => hk.2)⟩, ⟨by (with_reducible repeat (first | refine blk_drewN ?_ _ | refine blk_drew ?_ | refine blk_alloc ?_ _)); exact BK232.out⟩, ⟨by (with_reducible repeat (first | refine blk_drewN ?_ _ | refine blk_drew ?_ | refine blk_alloc ?_ _)); exact BK238.out⟩, ⟨by repeat (first | (with_reducible first | exact HB.out | apply below_alloc | apply pw_below_drewN | apply below_drew1 | refine below_set ?_ GE232.out | refine below_set ?_ GE238.out) | exact HB.out)⟩⟩
   ·
    replace c16 := Bool.eq_false_iff.mpr c16
    subst c16
    have H1 : (laws_FnExactParseTournament.j0 k a0 t231 true t227 t228 t233 t234) = some r := by rw [if_neg (show ¬ (false = true) by decide)] at H; exact H
    clear H
    have H := H1
    clear H1
    have H' := Aside0.mk H
    clear H
    have hnb21 := NB238_232.out
    have hnc21 := NB232_238.out
    have hcz22_0 : w11.cell? ⟨gb238, 0, none⟩ = some (.int .i64 0) := (blk_cell BK238.out 0).trans rfl
    have hcz22_1 : w11.cell? ⟨gb238, 1, none⟩ = some (.slice none 0 0) := (blk_cell BK238.out 1).trans rfl
    have hfz22_0 := blk_frozen BK238.out 0
    have hfz22_1 := blk_frozen BK238.out 1
    have hcz23_0 : w11.cell? ⟨gb232, 0, none⟩ = some (.int .i64 t227) := (blk_cell BK232.out 0).trans rfl
    have hcz23_1 : w11.cell? ⟨gb232, 1, none⟩ = some (.slice Ao9 t228.length co9) := (blk_cell BK232.out 1).trans rfl
    have hfz23_0 := blk_frozen BK232.out 0
    have hfz23_1 := blk_frozen BK232.out 1
    go_wp2_with (first | ((with_reducible refine gate_callee (f := 10) rfl ?_); refine goesL_ (some 26) rfl rfl Tryd.func10 (by kernel_rfl) rfl #[.agg #[.int .i64 t233, .slice Ao14 t234.length co14], .agg #[.int .i64 t227, .slice Ao9 t228.length co9]] rfl (by (try simp only [List.map_toArray, List.map_cons, List.map_nil]); first | done | rfl) ?_; (with_reducible refine (laws_eqTournament.calls k t233 _ _ t234 t227 _ _ t228 false _ ?side1 ?side2 ?side3 ?side4 A15.out).mono ?_); (case side1 => refine (Kd.R_reads' (e := 3) (base := w.heap.size) (ok := fun k_ => (True ∧ some k_ ≠ (.slice Ao9 t228.length co9 : Value).ownBlock)) (n := t234.length) (c := co14) ?_).2.2; exact (by (with_reducible repeat (first | apply Kd.R_alloc | apply Kd.R_drewN | apply Kd.R_drew)); exact (Kd.R_mono (Kd.R_far (p := ⟨gb238, 1, none⟩) (Kd.R_far (p := ⟨gb238, 0, none⟩) (Kd.R_types HO236.out BK238.out (by decide)) (fun _ hk => hk.2) (.int .i64 t233)) (fun _ hk => hk.2) (.slice Ao14 t234.length co14)) (fun _ h_ => h_.1)))); (case side2 => exact (Kd.R_reads' HO236.out).2.1); (case side3 => refine (Kd.R_reads' (e := 3) (base := w.heap.size) (ok := fun k_ => (True ∧ some k_ ≠ (.slice Ao14 t234.length co14 : Value).ownBlock)) (n := t228.length) (c := co9) ?_).2.2; exact (by (with_reducible repeat (first | apply Kd.R_alloc | apply Kd.R_drewN | apply Kd.R_drew)); exact (Kd.R_mono (Kd.R_far (p := ⟨gb238, 1, none⟩) (Kd.R_far (p := ⟨gb238, 0, none⟩) (Kd.R_types HO230.out BK238.out (by decide)) (fun _ hk => hk.2) (.int .i64 t233)) (fun _ hk => hk.2) (.slice Ao14 t234.length co14)) (fun _ h_ => h_.1)))); (case side4 => exact (Kd.R_reads' HO230.out).2.1); rintro e w24 ⟨rfl, hb⟩; refine ⟨_, rfl, ?_⟩; have n0_ := Aside0.mk (Kd.R_below (by (with_reducible repeat (first | apply Kd.R_alloc | apply Kd.R_drewN | apply Kd.R_drew)); exact (Kd.R_mono (Kd.R_far (p := ⟨gb238, 1, none⟩) (Kd.R_far (p := ⟨gb238, 0, none⟩) (Kd.R_types HO230.out BK238.out (by decide)) (fun _ hk => hk.2) (.int .i64 t233)) (fun _ hk => hk.2) (.slice Ao14 t234.length co14)) (fun _ h_ => h_.1))) hb); have n1_ := Aside0.mk (Kd.R_below (by (with_reducible repeat (first | apply Kd.R_alloc | apply Kd.R_drewN | apply Kd.R_drew)); exact (Kd.R_mono (Kd.R_far (p := ⟨gb238, 1, none⟩) (Kd.R_far (p := ⟨gb238, 0, none⟩) (Kd.R_types HO236.out BK238.out (by decide)) (fun _ hk => hk.2) (.int .i64 t233)) (fun _ hk => hk.2) (.slice Ao14 t234.length co14)) (fun _ h_ => h_.1))) hb); have n2_ := Aside0.mk (blk_below (g := gb232) (o := .cells #[.int .i64 t227, .slice Ao9 t228.length co9] 28 (0, 0)) (by (with_reducible repeat (first | refine blk_drewN ?_ _ | refine blk_drew ?_ | refine blk_alloc ?_ _)); refine blk_far ?_ NB232_238.out _; (with_reducible repeat (first | refine blk_drewN ?_ _ | refine blk_drew ?_ | refine blk_alloc ?_ _)); refine blk_far ?_ NB232_238.out _; (with_reducible repeat (first | refine blk_drewN ?_ _ | refine blk_drew ?_ | refine blk_alloc ?_ _)); exact BK232.out) hb); have n3_ := Aside0.mk (blk_below (g := gb238) (o := .cells #[.int .i64 t233, .slice Ao14 t234.length co14] 28 (0, 0)) (by (with_reducible repeat (first | refine blk_drewN ?_ _ | refine blk_drew ?_ | refine blk_alloc ?_ _)); refine blk_put (cs := #[.int .i64 t233, .slice none 0 0]) ?_ 1 _ rfl; (with_reducible repeat (first | refine blk_drewN ?_ _ | refine blk_drew ?_ | refine blk_alloc ?_ _)); refine blk_put (cs := #[.int .i64 0, .slice none 0 0]) ?_ 0 _ rfl; (with_reducible repeat (first | refine blk_drewN ?_ _ | refine blk_drew ?_ | refine blk_alloc ?_ _)); exact BK238.out) hb); have n4_ := Aside0.mk (below_step (by repeat (first | (with_reducible first | exact HB.out | apply below_alloc | apply pw_below_drewN | apply below_drew1 | refine below_set ?_ GE232.out | refine below_set ?_ GE238.out) | exact HB.out)) hb); clear HO230; clear HO236; clear BK232; clear BK238; clear HB; have HO230 := n0_; have HO236 := n1_; have BK232 := n2_; have BK238 := n3_; have HB := n4_; clear n0_ n1_ n2_ n3_ n4_; (try clear hb); (try clear hb2); (try clear hk); (try clear hi)))
    go_meet
    case rel => exact ⟨_, (true), (by first | rfl | (simp; done) | (simp [*]; done)), H', ⟨by first | omega | exact Nat.le_refl _⟩, ⟨by (with_reducible repeat (first | apply Kd.R_alloc | apply Kd.R_drewN | apply Kd.R_drew)); exact Kd.R_mono HO230.out (fun _ hk => hk.2)⟩, ⟨by (with_reducible repeat (first | apply Kd.R_alloc | apply Kd.R_drewN | apply Kd.R_drew)); exact Kd.R_mono HO236.out (fun _ hk => hk.2)⟩, ⟨by (with_reducible repeat (first | refine blk_drewN ?_ _ | refine blk_drew ?_ | refine blk_alloc ?_ _)); exact BK232.out⟩, ⟨by (with_reducible repeat (first | refine blk_drewN ?_ _ | refine blk_drew ?_ | refine blk_alloc ?_ _)); exact BK238.out⟩, ⟨by repeat (first | (with_reducible first | exact HB.out | apply below_alloc | apply pw_below_drewN | apply below_drew1 | refine below_set ?_ GE232.out | refine below_set ?_ GE238.out) | exact HB.out)⟩⟩
  case rest =>
   clear HC5
   try clear c1
   try clear c2
   try clear c2b0
   try clear c2b1
   try clear p2
   try clear c4
   try clear c10
   try clear c11
   try clear c12
   try clear c16
   try clear c17
   try clear c21
   try clear hcz13_0
   try clear hcz13_1
   try clear hcz18_0
   try clear hcz18_1
   try clear hcz19_0
   try clear hcz19_1
   try clear hcz22_0
   try clear hcz22_1
   try clear hcz23_0
   try clear hcz23_1
   try clear hcz8_0
   try clear hcz8_1
   try clear hfz13_0
   try clear hfz13_1
   try clear hfz18_0
   try clear hfz18_1
   try clear hfz19_0
   try clear hfz19_1
   try clear hfz22_0
   try clear hfz22_1
   try clear hfz23_0
   try clear hfz23_1
   try clear hfz8_0
   try clear hfz8_1
   obtain ⟨kq, x32_4, rfl, HA, HJ4, HO_233001, HO_239001, BK232, BK238, HB⟩ := hcut
   cases kq with
   | zero => exact absurd HA.out (by simp [laws_FnExactParseTournament.j0])
   | succ kj4 =>
    have H := HA.out
    clear HA
    simp only [laws_FnExactParseTournament.j0] at H
    by_cases c25 : x32_4 = true
    ·
     subst c25
     have H1 : (some false) = some r := by rw [if_pos rfl] at H; exact H
     clear H
     have H := H1
     clear H1
     obtain rfl := Option.some.inj H
     go_wp2
     go_ret
     exact ⟨by first | rfl | (simp [errW_none, errW_some] <;> rfl) | (simp [*, errW_none, errW_some] <;> rfl), by repeat (first | (with_reducible first | exact HB.out | apply below_alloc | apply pw_below_drewN | apply below_drew1 | refine below_set ?_ GE232.out | refine below_set ?_ GE238.out) | exact HB.out)⟩
    ·
     replace c25 := Bool.eq_false_iff.mpr c25
     subst c25
     have H1 : ((laws_markTournament.f kj4 t233 t234 1).bind fun bt240 => ((laws_heldTournament.f kj4 t233 bt240.2 1).bind fun t242 => (if t242 < 0 then (some false) else (if t242 = bt240.1 then ((impl_ParseTournament.f kj4 a0).bind fun bt243 => ((laws_eqTournament.f kj4 bt243.1 bt243.2.1 t227 t228).bind fun t249 => (if t249 = true then (laws_FnExactParseTournament.j1 kj4 bt240.1 (bt243.2.2 != t231) t233 bt240.2) else (laws_FnExactParseTournament.j1 kj4 bt240.1 true t233 bt240.2)))) else (some false))))) = some r := by rw [if_neg (show ¬ (false = true) by decide)] at H; exact H
     clear H
     have H := H1
     clear H1
     replace H := Option.bind_eq_some_iff.mp H
     obtain ⟨⟨t240, t241⟩, A260, H⟩ := H
     replace H : ((laws_heldTournament.f kj4 t233 t241 1).bind fun t242 => (if t242 < 0 then (some false) else (if t242 = t240 then ((impl_ParseTournament.f kj4 a0).bind fun bt243 => ((laws_eqTournament.f kj4 bt243.1 bt243.2.1 t227 t228).bind fun t249 => (if t249 = true then (laws_FnExactParseTournament.j1 kj4 t240 (bt243.2.2 != t231) t233 t241) else (laws_FnExactParseTournament.j1 kj4 t240 true t233 t241)))) else (some false)))) = some r := H
     have A26 := Aside0.mk A260
     clear A260
     replace H := Option.bind_eq_some_iff.mp H
     obtain ⟨t242, A270, H⟩ := H
     replace H : (if t242 < 0 then (some false) else (if t242 = t240 then ((impl_ParseTournament.f kj4 a0).bind fun bt243 => ((laws_eqTournament.f kj4 bt243.1 bt243.2.1 t227 t228).bind fun t249 => (if t249 = true then (laws_FnExactParseTournament.j1 kj4 t240 (bt243.2.2 != t231) t233 t241) else (laws_FnExactParseTournament.j1 kj4 t240 true t233 t241)))) else (some false))) = some r := H
     have A27 := Aside0.mk A270
     clear A270
     by_cases c28 : t242 < 0
     ·
      rw [if_pos c28] at H
      have c28b0 : decide (t242 < 0) = true := decide_eq_true c28
      clear c28
      obtain rfl := Option.some.inj H
      have hnb29 := NB238_232.out
      have hnc29 := NB232_238.out
      have hcz30_0 : wc.cell? ⟨gb238, 0, none⟩ = some (.int .i64 t233) := (blk_cell BK238.out 0).trans rfl
      have hcz30_1 : wc.cell? ⟨gb238, 1, none⟩ = some (.slice Ao14 t234.length co14) := (blk_cell BK238.out 1).trans rfl
      have hfz30_0 := blk_frozen BK238.out 0
      have hfz30_1 := blk_frozen BK238.out 1
      go_wp2_with (first | ((with_reducible refine gate_callee (f := 13) rfl ?_); refine goesL_ (some 35) rfl rfl Tryd.func13 (by kernel_rfl) rfl #[.agg #[.int .i64 t233, .slice Ao14 t234.length co14], .int .i64 1] rfl (by (try simp only [List.map_toArray, List.map_cons, List.map_nil]); first | done | rfl) ?_; (with_reducible refine (laws_markTournament.calls kj4 t233 (fun k_ => some k_ = (.slice Ao14 t234.length co14 : Value).ownBlock) (.slice Ao14 t234.length co14) t234 1 t240 t241 w _ ?side1 ?side2 A26.out).mono ?_); (case side1 => repeat (first | (with_reducible first | exact HB.out | apply below_alloc | apply pw_below_drewN | apply below_drew1 | refine below_set ?_ GE232.out | refine below_set ?_ GE238.out) | exact HB.out)); (case side2 => exact Kd.R_tight rfl HO_239001.out); rintro e w31 ⟨rfl, hy0, hb, hkp⟩; refine ⟨_, rfl, ?_⟩; have n0_ := Aside0.mk (Kd.R_mono (ok' := fun k_ => some k_ ≠ (.slice Ao14 t234.length co14 : Value).ownBlock) (Kd.R_keptB (HO_233001.out) hkp (fun k_ hk_ hs_ => (hk_) hs_)) (fun k_ hk_ => hk_.1)); have n1_ := Aside0.mk (Kd.R_reok rfl hy0 (fun k_ e_ => HO_239001.out.1 k_ e_)); have n2_ := Aside0.mk (blk_kept (by (with_reducible repeat (first | refine blk_drewN ?_ _ | refine blk_drew ?_ | refine blk_alloc ?_ _)); exact BK232.out) hkp (fun hs_ => (fun e_ => (Kd.R_ne HO_239001.out BK232.out (by decide)) e_) hs_)); have n3_ := Aside0.mk (blk_kept (by (with_reducible repeat (first | refine blk_drewN ?_ _ | refine blk_drew ?_ | refine blk_alloc ?_ _)); exact BK238.out) hkp (fun hs_ => (fun e_ => (Kd.R_ne HO_239001.out BK238.out (by decide)) e_) hs_)); have n4_ := Aside0.mk (hb); clear HO_233001; clear HO_239001; clear BK232; clear BK238; clear HB; have HO_233001 := n0_; have HO_239001 := n1_; have BK232 := n2_; have BK238 := n3_; have HB := n4_; clear n0_ n1_ n2_ n3_ n4_; (try clear hb); (try clear hkp); (try clear hy0); have hcz32_0 : w31.cell? ⟨gb238, 0, none⟩ = some (.int .i64 t233) := (blk_cell BK238.out 0).trans rfl; have hcz32_1 : w31.cell? ⟨gb238, 1, none⟩ = some (.slice Ao14 t234.length co14) := (blk_cell BK238.out 1).trans rfl; have hfz32_0 := blk_frozen BK238.out 0; have hfz32_1 := blk_frozen BK238.out 1) | ((with_reducible refine gate_callee (f := 14) rfl ?_); refine goesL_ (some 38) rfl rfl Tryd.func14 (by kernel_rfl) rfl #[.agg #[.int .i64 t233, .slice Ao14 t241.length co14], .int .i64 1] rfl (by (try simp only [List.map_toArray, List.map_cons, List.map_nil]); first | done | (rw [show t241.length = t234.length from (Kd.R_reads' HO_239001.out).1.symm] <;> rfl) | rfl | (simp only [List.length_drop, List.length_take]; rfl)) ?_; (with_reducible refine (laws_heldTournament.calls kj4 t233 _ _ t241 1 t242 _ ?side1 ?side2 A27.out).mono ?_); (case side1 => repeat (first | exact (Kd.R_reads' HO_239001.out).2.2 | (with_reducible refine Kd.C_alloc ?_ _) | (with_reducible refine Kd.C_drewN ?_ _) | (with_reducible refine Kd.C_drew ?_))); (case side2 => rw [show t241.length = t234.length from (Kd.R_reads' HO_239001.out).1.symm]; exact (Kd.R_reads' HO_239001.out).2.1); rintro e w33 ⟨rfl, hb⟩; refine ⟨_, rfl, ?_⟩; have n0_ := Aside0.mk (Kd.R_below (by (with_reducible repeat (first | apply Kd.R_alloc | apply Kd.R_drewN | apply Kd.R_drew)); exact HO_233001.out) hb); have n1_ := Aside0.mk (Kd.R_below (by (with_reducible repeat (first | apply Kd.R_alloc | apply Kd.R_drewN | apply Kd.R_drew)); exact HO_239001.out) hb); have n2_ := Aside0.mk (blk_below (g := gb232) (o := .cells #[.int .i64 t227, .slice Ao9 t228.length co9] 28 (0, 0)) (by (with_reducible repeat (first | refine blk_drewN ?_ _ | refine blk_drew ?_ | refine blk_alloc ?_ _)); exact BK232.out) hb); have n3_ := Aside0.mk (blk_below (g := gb238) (o := .cells #[.int .i64 t233, .slice Ao14 t234.length co14] 28 (0, 0)) (by (with_reducible repeat (first | refine blk_drewN ?_ _ | refine blk_drew ?_ | refine blk_alloc ?_ _)); exact BK238.out) hb); have n4_ := Aside0.mk (below_step (by repeat (first | (with_reducible first | exact HB.out | apply below_alloc | apply pw_below_drewN | apply below_drew1 | refine below_set ?_ GE232.out | refine below_set ?_ GE238.out) | exact HB.out)) hb); clear HO_233001; clear HO_239001; clear BK232; clear BK238; clear HB; have HO_233001 := n0_; have HO_239001 := n1_; have BK232 := n2_; have BK238 := n3_; have HB := n4_; clear n0_ n1_ n2_ n3_ n4_; (try clear hb); (try clear hb2); (try clear hk); (try clear hi)))
      go_ret
      exact ⟨by first | rfl | (simp [errW_none, errW_some] <;> rfl) | (simp [*, errW_none, errW_some] <;> rfl), by repeat (first | (with_reducible first | exact HB.out | apply below_alloc | apply pw_below_drewN | apply below_drew1 | refine below_set ?_ GE232.out | refine below_set ?_ GE238.out) | exact HB.out)⟩
     ·
      rw [if_neg c28] at H
      have c28b0 : decide (t242 < 0) = false := decide_eq_false c28
      clear c28
      by_cases c34 : t242 = t240
      ·
       rw [if_pos c34] at H
       have c34b0 : (t242 == t240) = true := beq_iff_eq.mpr c34
       have c34b1 : (t242 != t240) = false := bne_eq_false_iff_eq.mpr c34
       clear c34
       replace H := Option.bind_eq_some_iff.mp H
       obtain ⟨⟨t243, t244, t247⟩, A350, H⟩ := H
       replace H : ((laws_eqTournament.f kj4 t243 t244 t227 t228).bind fun t249 => (if t249 = true then (laws_FnExactParseTournament.j1 kj4 t240 (t247 != t231) t233 t241) else (laws_FnExactParseTournament.j1 kj4 t240 true t233 t241))) = some r := H
       have A35 := Aside0.mk A350
       clear A350
       have HC36 := Aside0.mk H
       clear H
       have hnb37 := NB238_232.out
       have hnc37 := NB232_238.out
       have hcz38_0 : wc.cell? ⟨gb238, 0, none⟩ = some (.int .i64 t233) := (blk_cell BK238.out 0).trans rfl
       have hcz38_1 : wc.cell? ⟨gb238, 1, none⟩ = some (.slice Ao14 t234.length co14) := (blk_cell BK238.out 1).trans rfl
       have hfz38_0 := blk_frozen BK238.out 0
       have hfz38_1 := blk_frozen BK238.out 1
       go_upto_region 16 with (first | ((with_reducible refine gate_callee (f := 13) rfl ?_); refine goesL_ (some 35) rfl rfl Tryd.func13 (by kernel_rfl) rfl #[.agg #[.int .i64 t233, .slice Ao14 t234.length co14], .int .i64 1] rfl (by (try simp only [List.map_toArray, List.map_cons, List.map_nil]); first | done | rfl) ?_; (with_reducible refine (laws_markTournament.calls kj4 t233 (fun k_ => some k_ = (.slice Ao14 t234.length co14 : Value).ownBlock) (.slice Ao14 t234.length co14) t234 1 t240 t241 w _ ?side1 ?side2 A26.out).mono ?_); (case side1 => repeat (first | (with_reducible first | exact HB.out | apply below_alloc | apply pw_below_drewN | apply below_drew1 | refine below_set ?_ GE232.out | refine below_set ?_ GE238.out) | exact HB.out)); (case side2 => exact Kd.R_tight rfl HO_239001.out); rintro e w39 ⟨rfl, hy0, hb, hkp⟩; refine ⟨_, rfl, ?_⟩; have n0_ := Aside0.mk (Kd.R_mono (ok' := fun k_ => some k_ ≠ (.slice Ao14 t234.length co14 : Value).ownBlock) (Kd.R_keptB (HO_233001.out) hkp (fun k_ hk_ hs_ => (hk_) hs_)) (fun k_ hk_ => hk_.1)); have n1_ := Aside0.mk (Kd.R_reok rfl hy0 (fun k_ e_ => HO_239001.out.1 k_ e_)); have n2_ := Aside0.mk (blk_kept (by (with_reducible repeat (first | refine blk_drewN ?_ _ | refine blk_drew ?_ | refine blk_alloc ?_ _)); exact BK232.out) hkp (fun hs_ => (fun e_ => (Kd.R_ne HO_239001.out BK232.out (by decide)) e_) hs_)); have n3_ := Aside0.mk (blk_kept (by (with_reducible repeat (first | refine blk_drewN ?_ _ | refine blk_drew ?_ | refine blk_alloc ?_ _)); exact BK238.out) hkp (fun hs_ => (fun e_ => (Kd.R_ne HO_239001.out BK238.out (by decide)) e_) hs_)); have n4_ := Aside0.mk (hb); clear HO_233001; clear HO_239001; clear BK232; clear BK238; clear HB; have HO_233001 := n0_; have HO_239001 := n1_; have BK232 := n2_; have BK238 := n3_; have HB := n4_; clear n0_ n1_ n2_ n3_ n4_; (try clear hb); (try clear hkp); (try clear hy0); have hcz40_0 : w39.cell? ⟨gb238, 0, none⟩ = some (.int .i64 t233) := (blk_cell BK238.out 0).trans rfl; have hcz40_1 : w39.cell? ⟨gb238, 1, none⟩ = some (.slice Ao14 t234.length co14) := (blk_cell BK238.out 1).trans rfl; have hfz40_0 := blk_frozen BK238.out 0; have hfz40_1 := blk_frozen BK238.out 1) | ((with_reducible refine gate_callee (f := 14) rfl ?_); refine goesL_ (some 38) rfl rfl Tryd.func14 (by kernel_rfl) rfl #[.agg #[.int .i64 t233, .slice Ao14 t241.length co14], .int .i64 1] rfl (by (try simp only [List.map_toArray, List.map_cons, List.map_nil]); first | done | (rw [show t241.length = t234.length from (Kd.R_reads' HO_239001.out).1.symm] <;> rfl) | rfl | (simp only [List.length_drop, List.length_take]; rfl)) ?_; (with_reducible refine (laws_heldTournament.calls kj4 t233 _ _ t241 1 t242 _ ?side1 ?side2 A27.out).mono ?_); (case side1 => repeat (first | exact (Kd.R_reads' HO_239001.out).2.2 | (with_reducible refine Kd.C_alloc ?_ _) | (with_reducible refine Kd.C_drewN ?_ _) | (with_reducible refine Kd.C_drew ?_))); (case side2 => rw [show t241.length = t234.length from (Kd.R_reads' HO_239001.out).1.symm]; exact (Kd.R_reads' HO_239001.out).2.1); rintro e w41 ⟨rfl, hb⟩; refine ⟨_, rfl, ?_⟩; have n0_ := Aside0.mk (Kd.R_below (by (with_reducible repeat (first | apply Kd.R_alloc | apply Kd.R_drewN | apply Kd.R_drew)); exact HO_233001.out) hb); have n1_ := Aside0.mk (Kd.R_below (by (with_reducible repeat (first | apply Kd.R_alloc | apply Kd.R_drewN | apply Kd.R_drew)); exact HO_239001.out) hb); have n2_ := Aside0.mk (blk_below (g := gb232) (o := .cells #[.int .i64 t227, .slice Ao9 t228.length co9] 28 (0, 0)) (by (with_reducible repeat (first | refine blk_drewN ?_ _ | refine blk_drew ?_ | refine blk_alloc ?_ _)); exact BK232.out) hb); have n3_ := Aside0.mk (blk_below (g := gb238) (o := .cells #[.int .i64 t233, .slice Ao14 t234.length co14] 28 (0, 0)) (by (with_reducible repeat (first | refine blk_drewN ?_ _ | refine blk_drew ?_ | refine blk_alloc ?_ _)); exact BK238.out) hb); have n4_ := Aside0.mk (below_step (by repeat (first | (with_reducible first | exact HB.out | apply below_alloc | apply pw_below_drewN | apply below_drew1 | refine below_set ?_ GE232.out | refine below_set ?_ GE238.out) | exact HB.out)) hb); clear HO_233001; clear HO_239001; clear BK232; clear BK238; clear HB; have HO_233001 := n0_; have HO_239001 := n1_; have BK232 := n2_; have BK238 := n3_; have HB := n4_; clear n0_ n1_ n2_ n3_ n4_; (try clear hb); (try clear hb2); (try clear hk); (try clear hi)) | ((with_reducible refine gate_callee (f := 12) rfl ?_); refine goesL_ (some 46) rfl rfl Tryd.func12 (by kernel_rfl) rfl #[.string a0] rfl (by (try simp only [List.map_toArray, List.map_cons, List.map_nil]); first | done | rfl) ?_; (with_reducible refine (impl_ParseTournament.calls kj4 a0 t243 t244 t247 _ A35.out).mono ?_); rintro e w42 ⟨v245, rfl, ho0, hb⟩; refine ⟨_, rfl, ?_⟩; have n0_ := Aside0.mk (Kd.R_elder' (by (with_reducible repeat (first | apply Kd.R_alloc | apply Kd.R_drewN | apply Kd.R_drew)); exact HO_233001.out) (Kd.R_base ho0) hb); have n1_ := Aside0.mk (Kd.R_elder' (by (with_reducible repeat (first | apply Kd.R_alloc | apply Kd.R_drewN | apply Kd.R_drew)); exact HO_239001.out) (Kd.R_base ho0) hb); have n2_ := Aside0.mk (Kd.R_lower (Kd.R_new' (Kd.R_new' ho0 (Kd.R_lt (by (with_reducible repeat (first | apply Kd.R_alloc | apply Kd.R_drewN | apply Kd.R_drew)); exact HO_233001.out))) (Kd.R_lt (by (with_reducible repeat (first | apply Kd.R_alloc | apply Kd.R_drewN | apply Kd.R_drew)); exact HO_239001.out))) (below_size (by repeat (first | (with_reducible first | exact HB.out | apply below_alloc | apply pw_below_drewN | apply below_drew1 | refine below_set ?_ GE232.out | refine below_set ?_ GE238.out) | exact HB.out)))); have n3_ := Aside0.mk (blk_below (g := gb232) (o := .cells #[.int .i64 t227, .slice Ao9 t228.length co9] 28 (0, 0)) (by (with_reducible repeat (first | refine blk_drewN ?_ _ | refine blk_drew ?_ | refine blk_alloc ?_ _)); exact BK232.out) hb); have n4_ := Aside0.mk (blk_below (g := gb238) (o := .cells #[.int .i64 t233, .slice Ao14 t234.length co14] 28 (0, 0)) (by (with_reducible repeat (first | refine blk_drewN ?_ _ | refine blk_drew ?_ | refine blk_alloc ?_ _)); exact BK238.out) hb); have n5_ := Aside0.mk (below_step (by repeat (first | (with_reducible first | exact HB.out | apply below_alloc | apply pw_below_drewN | apply below_drew1 | refine below_set ?_ GE232.out | refine below_set ?_ GE238.out) | exact HB.out)) hb); clear HO_233001; clear HO_239001; clear BK232; clear BK238; clear HB; have HO_233001 := n0_; have HO_239001 := n1_; have HO246 := n2_; have BK232 := n3_; have BK238 := n4_; have HB := n5_; clear n0_ n1_ n2_ n3_ n4_ n5_; (try clear hb); (try clear hb2); (try clear hk); (try clear hi); (try clear ho0)) | ((with_reducible refine gate_dst (N := 9) rfl ?_); refine box_event ?hg (N := 9) ?hd (cs := #[.int .i64 0, .slice none 0 0]) (t := 28) ?hr ?_; (case hd => rfl); (case hg => rfl); (case hr => first | (go_simp; done) | (go_simp; rfl)); intro gb248 hg w43 hbox hb; have n0_ := Aside0.mk (Kd.R_below (by (with_reducible repeat (first | apply Kd.R_alloc | apply Kd.R_drewN | apply Kd.R_drew)); exact HO_233001.out) hb); have n1_ := Aside0.mk (Kd.R_below (by (with_reducible repeat (first | apply Kd.R_alloc | apply Kd.R_drewN | apply Kd.R_drew)); exact HO_239001.out) hb); have n2_ := Aside0.mk (Kd.R_below (by (with_reducible repeat (first | apply Kd.R_alloc | apply Kd.R_drewN | apply Kd.R_drew)); exact HO246.out) hb); have n3_ := Aside0.mk (blk_below (g := gb232) (o := .cells #[.int .i64 t227, .slice Ao9 t228.length co9] 28 (0, 0)) (by (with_reducible repeat (first | refine blk_drewN ?_ _ | refine blk_drew ?_ | refine blk_alloc ?_ _)); exact BK232.out) hb); have n4_ := Aside0.mk (blk_below (g := gb238) (o := .cells #[.int .i64 t233, .slice Ao14 t234.length co14] 28 (0, 0)) (by (with_reducible repeat (first | refine blk_drewN ?_ _ | refine blk_drew ?_ | refine blk_alloc ?_ _)); exact BK238.out) hb); have n5_ := Aside0.mk (below_step (by repeat (first | (with_reducible first | exact HB.out | apply below_alloc | apply pw_below_drewN | apply below_drew1 | refine below_set ?_ GE232.out | refine below_set ?_ GE238.out) | exact HB.out)) hb); have n6_ := Aside0.mk (hbox); have n7_ := Aside0.mk ((by rw [hg]; exact (below_size (by repeat (first | (with_reducible first | exact HB.out | apply below_alloc | apply pw_below_drewN | apply below_drew1 | refine below_set ?_ GE232.out | refine below_set ?_ GE238.out) | exact HB.out))) : w.heap.size ≤ gb248)); have n8_ := Aside0.mk ((by rw [hg]; exact (below_size (by repeat (first | (with_reducible first | exact HB.out | apply below_alloc | apply pw_below_drewN | apply below_drew1 | refine below_set ?_ GE232.out | refine below_set ?_ GE238.out) | exact HB.out))) : w.heap.size ≤ gb248)); have n9_ := Aside0.mk ((by rw [hg]; exact Nat.ne_of_lt (blk_lt (g := gb232) (o := .cells #[.int .i64 t227, .slice Ao9 t228.length co9] 28 (0, 0)) (by (with_reducible repeat (first | refine blk_drewN ?_ _ | refine blk_drew ?_ | refine blk_alloc ?_ _)); exact BK232.out)) : gb232 ≠ gb248)); have n10_ := Aside0.mk ((by rw [hg]; exact Nat.ne_of_gt (blk_lt (g := gb232) (o := .cells #[.int .i64 t227, .slice Ao9 t228.length co9] 28 (0, 0)) (by (with_reducible repeat (first | refine blk_drewN ?_ _ | refine blk_drew ?_ | refine blk_alloc ?_ _)); exact BK232.out)) : gb248 ≠ gb232)); have n11_ := Aside0.mk ((by rw [hg]; exact Nat.ne_of_lt (blk_lt (g := gb238) (o := .cells #[.int .i64 t233, .slice Ao14 t234.length co14] 28 (0, 0)) (by (with_reducible repeat (first | refine blk_drewN ?_ _ | refine blk_drew ?_ | refine blk_alloc ?_ _)); exact BK238.out)) : gb238 ≠ gb248)); have n12_ := Aside0.mk ((by rw [hg]; exact Nat.ne_of_gt (blk_lt (g := gb238) (o := .cells #[.int .i64 t233, .slice Ao14 t234.length co14] 28 (0, 0)) (by (with_reducible repeat (first | refine blk_drewN ?_ _ | refine blk_drew ?_ | refine blk_alloc ?_ _)); exact BK238.out)) : gb248 ≠ gb238)); clear HO_233001; clear HO_239001; clear HO246; clear BK232; clear BK238; clear HB; have HO_233001 := n0_; have HO_239001 := n1_; have HO246 := n2_; have BK232 := n3_; have BK238 := n4_; have HB := n5_; have BK248 := n6_; have GW248 := n7_; have GE248 := n8_; have NB232_248 := n9_; have NB248_232 := n10_; have NB238_248 := n11_; have NB248_238 := n12_; clear n0_ n1_ n2_ n3_ n4_ n5_ n6_ n7_ n8_ n9_ n10_ n11_ n12_; clear hb hbox hg; have hnb44 := NB248_232.out; have hnc44 := NB232_248.out; have hnb45 := NB248_238.out; have hnc45 := NB238_248.out; have hcz46_0 : w43.cell? ⟨gb248, 0, none⟩ = some (.int .i64 0) := (blk_cell BK248.out 0).trans rfl; have hcz46_1 : w43.cell? ⟨gb248, 1, none⟩ = some (.slice none 0 0) := (blk_cell BK248.out 1).trans rfl; have hfz46_0 := blk_frozen BK248.out 0; have hfz46_1 := blk_frozen BK248.out 1; obtain ⟨Ao47, co47, eo47⟩ := Kd.R_slice HO246.out; subst eo47))
       (try simp only [Act.put, List.setIfInBounds_toArray, List.set_cons_zero, List.set_cons_succ])
       go_cut [57] (fun v57 wc => ∃ (kq : Nat) (x57_35 : Bool), v57 = .bool x57_35 ∧ Aside0 (laws_FnExactParseTournament.j1 kq t240 x57_35 t233 t241 = some r) ∧ Aside0 (kq ≤ kj4) ∧ Aside0 (Kd.R (Kd.int .i64) 3 wc w.heap.size (fun k_ => some k_ ≠ ((.slice Ao14 t234.length co14) : Value).ownBlock ∧ some k_ ≠ ((.slice Ao47 t244.length co47) : Value).ownBlock) (.slice Ao9 t228.length co9) t228) ∧ Aside0 (Kd.R (Kd.int .i64) 3 wc w.heap.size (fun k_ => some k_ ≠ ((.slice Ao9 t228.length co9) : Value).ownBlock ∧ some k_ ≠ ((.slice Ao47 t244.length co47) : Value).ownBlock) (.slice Ao14 t234.length co14) t241) ∧ Aside0 (Kd.R (Kd.int .i64) 3 wc w.heap.size (fun k_ => some k_ ≠ ((.slice Ao9 t228.length co9) : Value).ownBlock ∧ some k_ ≠ ((.slice Ao14 t234.length co14) : Value).ownBlock) (.slice Ao47 t244.length co47) t244) ∧ Aside0 (wc.heap[gb232]? = some (.cells #[.int .i64 t227, (.slice Ao9 t228.length co9)] 28 (0, 0))) ∧ Aside0 (wc.heap[gb238]? = some (.cells #[.int .i64 t233, (.slice Ao14 t234.length co14)] 28 (0, 0))) ∧ Aside0 (wc.heap[gb248]? = some (.cells #[.int .i64 t243, (.slice Ao47 t244.length co47)] 28 (0, 0))) ∧ Aside0 (Below w.heap.size w wc))
       case first =>
        have H := HC36.out
        clear HC36
        replace H := Option.bind_eq_some_iff.mp H
        obtain ⟨t249, A480, H⟩ := H
        replace H : (if t249 = true then (laws_FnExactParseTournament.j1 kj4 t240 (t247 != t231) t233 t241) else (laws_FnExactParseTournament.j1 kj4 t240 true t233 t241)) = some r := H
        have A48 := Aside0.mk A480
        clear A480
        by_cases c49 : t249 = true
        ·
         subst c49
         have H1 : (laws_FnExactParseTournament.j1 kj4 t240 (t247 != t231) t233 t241) = some r := by rw [if_pos rfl] at H; exact H
         clear H
         have H := H1
         clear H1
         have H' := Aside0.mk H
         clear H
         have hnb50 := NB248_232.out
         have hnc50 := NB232_248.out
         have hnb51 := NB248_238.out
         have hnc51 := NB238_248.out
         have hcz52_0 : w43.cell? ⟨gb248, 0, none⟩ = some (.int .i64 0) := (blk_cell BK248.out 0).trans rfl
         have hcz52_1 : w43.cell? ⟨gb248, 1, none⟩ = some (.slice none 0 0) := (blk_cell BK248.out 1).trans rfl
         have hfz52_0 := blk_frozen BK248.out 0
         have hfz52_1 := blk_frozen BK248.out 1
         have hnb53 := NB232_238.out
         have hnc53 := NB238_232.out
         have hcz54_0 : w43.cell? ⟨gb232, 0, none⟩ = some (.int .i64 t227) := (blk_cell BK232.out 0).trans rfl
         have hcz54_1 : w43.cell? ⟨gb232, 1, none⟩ = some (.slice Ao9 t228.length co9) := (blk_cell BK232.out 1).trans rfl
         have hfz54_0 := blk_frozen BK232.out 0
         have hfz54_1 := blk_frozen BK232.out 1
         go_wp2_with (first | ((with_reducible refine gate_callee (f := 10) rfl ?_); refine goesL_ (some 51) rfl rfl Tryd.func10 (by kernel_rfl) rfl #[.agg #[.int .i64 t243, .slice Ao47 t244.length co47], .agg #[.int .i64 t227, .slice Ao9 t228.length co9]] rfl (by (try simp only [List.map_toArray, List.map_cons, List.map_nil]); first | done | rfl) ?_; (with_reducible refine (laws_eqTournament.calls kj4 t243 _ _ t244 t227 _ _ t228 true _ ?side1 ?side2 ?side3 ?side4 A48.out).mono ?_); (case side1 => refine (Kd.R_reads' (e := 3) (base := w.heap.size) (ok := fun k_ => ((True ∧ some k_ ≠ (.slice Ao9 t228.length co9 : Value).ownBlock) ∧ some k_ ≠ (.slice Ao14 t234.length co14 : Value).ownBlock)) (n := t244.length) (c := co47) ?_).2.2; exact (by (with_reducible repeat (first | apply Kd.R_alloc | apply Kd.R_drewN | apply Kd.R_drew)); exact (Kd.R_mono (Kd.R_far (p := ⟨gb248, 1, none⟩) (Kd.R_far (p := ⟨gb248, 0, none⟩) (Kd.R_types HO246.out BK248.out (by decide)) (fun _ hk => hk.2) (.int .i64 t243)) (fun _ hk => hk.2) (.slice Ao47 t244.length co47)) (fun _ h_ => h_.1)))); (case side2 => exact (Kd.R_reads' HO246.out).2.1); (case side3 => refine (Kd.R_reads' (e := 3) (base := w.heap.size) (ok := fun k_ => (some k_ ≠ (.slice Ao14 t234.length co14 : Value).ownBlock ∧ some k_ ≠ (.slice Ao47 t244.length co47 : Value).ownBlock)) (n := t228.length) (c := co9) ?_).2.2; exact (by (with_reducible repeat (first | apply Kd.R_alloc | apply Kd.R_drewN | apply Kd.R_drew)); exact (Kd.R_mono (Kd.R_far (p := ⟨gb248, 1, none⟩) (Kd.R_far (p := ⟨gb248, 0, none⟩) (Kd.R_types HO_233001.out BK248.out (by decide)) (fun _ hk => hk.2) (.int .i64 t243)) (fun _ hk => hk.2) (.slice Ao47 t244.length co47)) (fun _ h_ => h_.1)))); (case side4 => exact (Kd.R_reads' HO_233001.out).2.1); rintro e w55 ⟨rfl, hb⟩; refine ⟨_, rfl, ?_⟩; have n0_ := Aside0.mk (Kd.R_below (by (with_reducible repeat (first | apply Kd.R_alloc | apply Kd.R_drewN | apply Kd.R_drew)); exact (Kd.R_mono (Kd.R_far (p := ⟨gb248, 1, none⟩) (Kd.R_far (p := ⟨gb248, 0, none⟩) (Kd.R_types HO_233001.out BK248.out (by decide)) (fun _ hk => hk.2) (.int .i64 t243)) (fun _ hk => hk.2) (.slice Ao47 t244.length co47)) (fun _ h_ => h_.1))) hb); have n1_ := Aside0.mk (Kd.R_below (by (with_reducible repeat (first | apply Kd.R_alloc | apply Kd.R_drewN | apply Kd.R_drew)); exact (Kd.R_mono (Kd.R_far (p := ⟨gb248, 1, none⟩) (Kd.R_far (p := ⟨gb248, 0, none⟩) (Kd.R_types HO_239001.out BK248.out (by decide)) (fun _ hk => hk.2) (.int .i64 t243)) (fun _ hk => hk.2) (.slice Ao47 t244.length co47)) (fun _ h_ => h_.1))) hb); have n2_ := Aside0.mk (Kd.R_below (by (with_reducible repeat (first | apply Kd.R_alloc | apply Kd.R_drewN | apply Kd.R_drew)); exact (Kd.R_mono (Kd.R_far (p := ⟨gb248, 1, none⟩) (Kd.R_far (p := ⟨gb248, 0, none⟩) (Kd.R_types HO246.out BK248.out (by decide)) (fun _ hk => hk.2) (.int .i64 t243)) (fun _ hk => hk.2) (.slice Ao47 t244.length co47)) (fun _ h_ => h_.1))) hb); have n3_ := Aside0.mk (blk_below (g := gb232) (o := .cells #[.int .i64 t227, .slice Ao9 t228.length co9] 28 (0, 0)) (by (with_reducible repeat (first | refine blk_drewN ?_ _ | refine blk_drew ?_ | refine blk_alloc ?_ _)); refine blk_far ?_ NB232_248.out _; (with_reducible repeat (first | refine blk_drewN ?_ _ | refine blk_drew ?_ | refine blk_alloc ?_ _)); refine blk_far ?_ NB232_248.out _; (with_reducible repeat (first | refine blk_drewN ?_ _ | refine blk_drew ?_ | refine blk_alloc ?_ _)); exact BK232.out) hb); have n4_ := Aside0.mk (blk_below (g := gb238) (o := .cells #[.int .i64 t233, .slice Ao14 t234.length co14] 28 (0, 0)) (by (with_reducible repeat (first | refine blk_drewN ?_ _ | refine blk_drew ?_ | refine blk_alloc ?_ _)); refine blk_far ?_ NB238_248.out _; (with_reducible repeat (first | refine blk_drewN ?_ _ | refine blk_drew ?_ | refine blk_alloc ?_ _)); refine blk_far ?_ NB238_248.out _; (with_reducible repeat (first | refine blk_drewN ?_ _ | refine blk_drew ?_ | refine blk_alloc ?_ _)); exact BK238.out) hb); have n5_ := Aside0.mk (blk_below (g := gb248) (o := .cells #[.int .i64 t243, .slice Ao47 t244.length co47] 28 (0, 0)) (by (with_reducible repeat (first | refine blk_drewN ?_ _ | refine blk_drew ?_ | refine blk_alloc ?_ _)); refine blk_put (cs := #[.int .i64 t243, .slice none 0 0]) ?_ 1 _ rfl; (with_reducible repeat (first | refine blk_drewN ?_ _ | refine blk_drew ?_ | refine blk_alloc ?_ _)); refine blk_put (cs := #[.int .i64 0, .slice none 0 0]) ?_ 0 _ rfl; (with_reducible repeat (first | refine blk_drewN ?_ _ | refine blk_drew ?_ | refine blk_alloc ?_ _)); exact BK248.out) hb); have n6_ := Aside0.mk (below_step (by repeat (first | (with_reducible first | exact HB.out | apply below_alloc | apply pw_below_drewN | apply below_drew1 | refine below_set ?_ GE232.out | refine below_set ?_ GE238.out | refine below_set ?_ GE248.out) | exact HB.out)) hb); clear HO_233001; clear HO_239001; clear HO246; clear BK232; clear BK238; clear BK248; clear HB; have HO_233001 := n0_; have HO_239001 := n1_; have HO246 := n2_; have BK232 := n3_; have BK238 := n4_; have BK248 := n5_; have HB := n6_; clear n0_ n1_ n2_ n3_ n4_ n5_ n6_; (try clear hb); (try clear hb2); (try clear hk); (try clear hi)))
         go_meet
         case rel => exact ⟨_, ((t247 != t231)), (by first | rfl | (simp; done) | (simp [*]; done)), H', ⟨by have := HJ4.out; first | omega | exact Nat.le_refl _⟩, ⟨by (with_reducible repeat (first | apply Kd.R_alloc | apply Kd.R_drewN | apply Kd.R_drew)); exact HO_233001.out⟩, ⟨by (with_reducible repeat (first | apply Kd.R_alloc | apply Kd.R_drewN | apply Kd.R_drew)); exact HO_239001.out⟩, ⟨by (with_reducible repeat (first | apply Kd.R_alloc | apply Kd.R_drewN | apply Kd.R_drew)); exact Kd.R_mono HO246.out (fun _ hk => ⟨hk.1.2, hk.2⟩)⟩, ⟨by (with_reducible repeat (first | refine blk_drewN ?_ _ | refine blk_drew ?_ | refine blk_alloc ?_ _)); exact BK232.out⟩, ⟨by (with_reducible repeat (first | refine blk_drewN ?_ _ | refine blk_drew ?_ | refine blk_alloc ?_ _)); exact BK238.out⟩, ⟨by (with_reducible repeat (first | refine blk_drewN ?_ _ | refine blk_drew ?_ | refine blk_alloc ?_ _)); exact BK248.out⟩, ⟨by repeat (first | (with_reducible first | exact HB.out | apply below_alloc | apply pw_below_drewN | apply below_drew1 | refine below_set ?_ GE232.out | refine below_set ?_ GE238.out | refine below_set ?_ GE248.out) | exact HB.out)⟩⟩
        ·
         replace c49 := Bool.eq_false_iff.mpr c49
         subst c49
         have H1 : (laws_FnExactParseTournament.j1 kj4 t240 true t233 t241) = some r := by rw [if_neg (show ¬ (false = true) by decide)] at H; exact H
         clear H
         have H := H1
         clear H1
         have H' := Aside0.mk H
         clear H
         have hnb56 := NB248_232.out
         have hnc56 := NB232_248.out
         have hnb57 := NB248_238.out
         have hnc57 := NB238_248.out
         have hcz58_0 : w43.cell? ⟨gb248, 0, none⟩ = some (.int .i64 0) := (blk_cell BK248.out 0).trans rfl
         have hcz58_1 : w43.cell? ⟨gb248, 1, none⟩ = some (.slice none 0 0) := (blk_cell BK248.out 1).trans rfl
         have hfz58_0 := blk_frozen BK248.out 0
         have hfz58_1 := blk_frozen BK248.out 1
         have hnb59 := NB232_238.out
         have hnc59 := NB238_232.out
         have hcz60_0 : w43.cell? ⟨gb232, 0, none⟩ = some (.int .i64 t227) := (blk_cell BK232.out 0).trans rfl
         have hcz60_1 : w43.cell? ⟨gb232, 1, none⟩ = some (.slice Ao9 t228.length co9) := (blk_cell BK232.out 1).trans rfl
         have hfz60_0 := blk_frozen BK232.out 0
         have hfz60_1 := blk_frozen BK232.out 1
         go_wp2_with (first | ((with_reducible refine gate_callee (f := 10) rfl ?_); refine goesL_ (some 51) rfl rfl Tryd.func10 (by kernel_rfl) rfl #[.agg #[.int .i64 t243, .slice Ao47 t244.length co47], .agg #[.int .i64 t227, .slice Ao9 t228.length co9]] rfl (by (try simp only [List.map_toArray, List.map_cons, List.map_nil]); first | done | rfl) ?_; (with_reducible refine (laws_eqTournament.calls kj4 t243 _ _ t244 t227 _ _ t228 false _ ?side1 ?side2 ?side3 ?side4 A48.out).mono ?_); (case side1 => refine (Kd.R_reads' (e := 3) (base := w.heap.size) (ok := fun k_ => ((True ∧ some k_ ≠ (.slice Ao9 t228.length co9 : Value).ownBlock) ∧ some k_ ≠ (.slice Ao14 t234.length co14 : Value).ownBlock)) (n := t244.length) (c := co47) ?_).2.2; exact (by (with_reducible repeat (first | apply Kd.R_alloc | apply Kd.R_drewN | apply Kd.R_drew)); exact (Kd.R_mono (Kd.R_far (p := ⟨gb248, 1, none⟩) (Kd.R_far (p := ⟨gb248, 0, none⟩) (Kd.R_types HO246.out BK248.out (by decide)) (fun _ hk => hk.2) (.int .i64 t243)) (fun _ hk => hk.2) (.slice Ao47 t244.length co47)) (fun _ h_ => h_.1)))); (case side2 => exact (Kd.R_reads' HO246.out).2.1); (case side3 => refine (Kd.R_reads' (e := 3) (base := w.heap.size) (ok := fun k_ => (some k_ ≠ (.slice Ao14 t234.length co14 : Value).ownBlock ∧ some k_ ≠ (.slice Ao47 t244.length co47 : Value).ownBlock)) (n := t228.length) (c := co9) ?_).2.2; exact (by (with_reducible repeat (first | apply Kd.R_alloc | apply Kd.R_drewN | apply Kd.R_drew)); exact (Kd.R_mono (Kd.R_far (p := ⟨gb248, 1, none⟩) (Kd.R_far (p := ⟨gb248, 0, none⟩) (Kd.R_types HO_233001.out BK248.out (by decide)) (fun _ hk => hk.2) (.int .i64 t243)) (fun _ hk => hk.2) (.slice Ao47 t244.length co47)) (fun _ h_ => h_.1)))); (case side4 => exact (Kd.R_reads' HO_233001.out).2.1); rintro e w61 ⟨rfl, hb⟩; refine ⟨_, rfl, ?_⟩; have n0_ := Aside0.mk (Kd.R_below (by (with_reducible repeat (first | apply Kd.R_alloc | apply Kd.R_drewN | apply Kd.R_drew)); exact (Kd.R_mono (Kd.R_far (p := ⟨gb248, 1, none⟩) (Kd.R_far (p := ⟨gb248, 0, none⟩) (Kd.R_types HO_233001.out BK248.out (by decide)) (fun _ hk => hk.2) (.int .i64 t243)) (fun _ hk => hk.2) (.slice Ao47 t244.length co47)) (fun _ h_ => h_.1))) hb); have n1_ := Aside0.mk (Kd.R_below (by (with_reducible repeat (first | apply Kd.R_alloc | apply Kd.R_drewN | apply Kd.R_drew)); exact (Kd.R_mono (Kd.R_far (p := ⟨gb248, 1, none⟩) (Kd.R_far (p := ⟨gb248, 0, none⟩) (Kd.R_types HO_239001.out BK248.out (by decide)) (fun _ hk => hk.2) (.int .i64 t243)) (fun _ hk => hk.2) (.slice Ao47 t244.length co47)) (fun _ h_ => h_.1))) hb); have n2_ := Aside0.mk (Kd.R_below (by (with_reducible repeat (first | apply Kd.R_alloc | apply Kd.R_drewN | apply Kd.R_drew)); exact (Kd.R_mono (Kd.R_far (p := ⟨gb248, 1, none⟩) (Kd.R_far (p := ⟨gb248, 0, none⟩) (Kd.R_types HO246.out BK248.out (by decide)) (fun _ hk => hk.2) (.int .i64 t243)) (fun _ hk => hk.2) (.slice Ao47 t244.length co47)) (fun _ h_ => h_.1))) hb); have n3_ := Aside0.mk (blk_below (g := gb232) (o := .cells #[.int .i64 t227, .slice Ao9 t228.length co9] 28 (0, 0)) (by (with_reducible repeat (first | refine blk_drewN ?_ _ | refine blk_drew ?_ | refine blk_alloc ?_ _)); refine blk_far ?_ NB232_248.out _; (with_reducible repeat (first | refine blk_drewN ?_ _ | refine blk_drew ?_ | refine blk_alloc ?_ _)); refine blk_far ?_ NB232_248.out _; (with_reducible repeat (first | refine blk_drewN ?_ _ | refine blk_drew ?_ | refine blk_alloc ?_ _)); exact BK232.out) hb); have n4_ := Aside0.mk (blk_below (g := gb238) (o := .cells #[.int .i64 t233, .slice Ao14 t234.length co14] 28 (0, 0)) (by (with_reducible repeat (first | refine blk_drewN ?_ _ | refine blk_drew ?_ | refine blk_alloc ?_ _)); refine blk_far ?_ NB238_248.out _; (with_reducible repeat (first | refine blk_drewN ?_ _ | refine blk_drew ?_ | refine blk_alloc ?_ _)); refine blk_far ?_ NB238_248.out _; (with_reducible repeat (first | refine blk_drewN ?_ _ | refine blk_drew ?_ | refine blk_alloc ?_ _)); exact BK238.out) hb); have n5_ := Aside0.mk (blk_below (g := gb248) (o := .cells #[.int .i64 t243, .slice Ao47 t244.length co47] 28 (0, 0)) (by (with_reducible repeat (first | refine blk_drewN ?_ _ | refine blk_drew ?_ | refine blk_alloc ?_ _)); refine blk_put (cs := #[.int .i64 t243, .slice none 0 0]) ?_ 1 _ rfl; (with_reducible repeat (first | refine blk_drewN ?_ _ | refine blk_drew ?_ | refine blk_alloc ?_ _)); refine blk_put (cs := #[.int .i64 0, .slice none 0 0]) ?_ 0 _ rfl; (with_reducible repeat (first | refine blk_drewN ?_ _ | refine blk_drew ?_ | refine blk_alloc ?_ _)); exact BK248.out) hb); have n6_ := Aside0.mk (below_step (by repeat (first | (with_reducible first | exact HB.out | apply below_alloc | apply pw_below_drewN | apply below_drew1 | refine below_set ?_ GE232.out | refine below_set ?_ GE238.out | refine below_set ?_ GE248.out) | exact HB.out)) hb); clear HO_233001; clear HO_239001; clear HO246; clear BK232; clear BK238; clear BK248; clear HB; have HO_233001 := n0_; have HO_239001 := n1_; have HO246 := n2_; have BK232 := n3_; have BK238 := n4_; have BK248 := n5_; have HB := n6_; clear n0_ n1_ n2_ n3_ n4_ n5_ n6_; (try clear hb); (try clear hb2); (try clear hk); (try clear hi)))
         go_meet
         case rel => exact ⟨_, (true), (by first | rfl | (simp; done) | (simp [*]; done)), H', ⟨by have := HJ4.out; first | omega | exact Nat.le_refl _⟩, ⟨by (with_reducible repeat (first | apply Kd.R_alloc | apply Kd.R_drewN | apply Kd.R_drew)); exact HO_233001.out⟩, ⟨by (with_reducible repeat (first | apply Kd.R_alloc | apply Kd.R_drewN | apply Kd.R_drew)); exact HO_239001.out⟩, ⟨by (with_reducible repeat (first | apply Kd.R_alloc | apply Kd.R_drewN | apply Kd.R_drew)); exact Kd.R_mono HO246.out (fun _ hk => ⟨hk.1.2, hk.2⟩)⟩, ⟨by (with_reducible repeat (first | refine blk_drewN ?_ _ | refine blk_drew ?_ | refine blk_alloc ?_ _)); exact BK232.out⟩, ⟨by (with_reducible repeat (first | refine blk_drewN ?_ _ | refine blk_drew ?_ | refine blk_alloc ?_ _)); exact BK238.out⟩, ⟨by (with_reducible repeat (first | refine blk_drewN ?_ _ | refine blk_drew ?_ | refine blk_alloc ?_ _)); exact BK248.out⟩, ⟨by repeat (first | (with_reducible first | exact HB.out | apply below_alloc | apply pw_below_drewN | apply below_drew1 | refine below_set ?_ GE232.out | refine below_set ?_ GE238.out | refine below_set ?_ GE248.out) | exact HB.out)⟩⟩
       case rest =>
        clear HC36
        try clear c1
        try clear c2
        try clear c2b0
        try clear c2b1
        try clear p2
        try clear c3
        try clear c4
        try clear c5
        try clear c10
        try clear c11
        try clear c12
        try clear c13
        try clear c14
        try clear c16
        try clear c17
        try clear c21
        try clear c25
        try clear c28
        try clear c28b0
        try clear c29
        try clear c34
        try clear c34b0
        try clear c34b1
        try clear c37
        try clear c44
        try clear c45
        try clear c49
        try clear c50
        try clear c51
        try clear c53
        try clear c56
        try clear c57
        try clear c59
        try clear hcz13_0
        try clear hcz13_1
        try clear hcz18_0
        try clear hcz18_1
        try clear hcz19_0
        try clear hcz19_1
        try clear hcz22_0
        try clear hcz22_1
        try clear hcz23_0
        try clear hcz23_1
        try clear hcz30_0
        try clear hcz30_1
        try clear hcz32_0
        try clear hcz32_1
        try clear hcz38_0
        try clear hcz38_1
        try clear hcz40_0
        try clear hcz40_1
        try clear hcz46_0
        try clear hcz46_1
        try clear hcz52_0
        try clear hcz52_1
        try clear hcz54_0
        try clear hcz54_1
        try clear hcz58_0
        try clear hcz58_1
        try clear hcz60_0
        try clear hcz60_1
        try clear hcz8_0
        try clear hcz8_1
        try clear hfz13_0
        try clear hfz13_1
        try clear hfz18_0
        try clear hfz18_1
        try clear hfz19_0
        try clear hfz19_1
        try clear hfz22_0
        try clear hfz22_1
        try clear hfz23_0
        try clear hfz23_1
        try clear hfz30_0
        try clear hfz30_1
        try clear hfz32_0
        try clear hfz32_1
        try clear hfz38_0
        try clear hfz38_1
        try clear hfz40_0
        try clear hfz40_1
        try clear hfz46_0
        try clear hfz46_1
        try clear hfz52_0
        try clear hfz52_1
        try clear hfz54_0
        try clear hfz54_1
        try clear hfz58_0
        try clear hfz58_1
        try clear hfz60_0
        try clear hfz60_1
        try clear hfz8_0
        try clear hfz8_1
        try clear p2
        obtain ⟨kq, x57_35, rfl, HA, HJ35, HO_233001, HO_239001, HO_249001, BK232, BK238, BK248, HB⟩ := hcut
        have hl239001_35 := (Kd.R_reads' HO_239001.out).1
        rw [hl239001_35] at HO_239001
        (try simp only [hl239001_35])
        (try simp only [hl239001_35] at BK232)
        (try simp only [hl239001_35] at BK238)
        (try simp only [hl239001_35] at BK248)
        (try simp only [hl239001_35] at HO_233001)
        (try simp only [hl239001_35] at HO_249001)
        cases kq with
        | zero => exact absurd HA.out (by simp [laws_FnExactParseTournament.j1])
        | succ kj35 =>
         have H := HA.out
         clear HA
         simp only [laws_FnExactParseTournament.j1] at H
         by_cases c62 : x57_35 = true
         ·
          subst c62
          have H1 : (some false) = some r := by rw [if_pos rfl] at H; exact H
          clear H
          have H := H1
          clear H1
          obtain rfl := Option.some.inj H
          go_wp2
          go_ret
          exact ⟨by first | rfl | (simp [errW_none, errW_some] <;> rfl) | (simp [*, errW_none, errW_some] <;> rfl), by repeat (first | (with_reducible first | exact HB.out | apply below_alloc | apply pw_below_drewN | apply below_drew1 | refine below_set ?_ GE232.out | refine below_set ?_ GE238.out | refine below_set ?_ GE248.out) | exact HB.out)⟩
         ·
          replace c62 := Bool.eq_false_iff.mpr c62
          subst c62
          have H1 : ((laws_heldTournament.f kj35 t233 t241 1).bind fun t250 => (if t250 < 0 then (some false) else (if t250 = t240 then (some true) else (some false)))) = some r := by rw [if_neg (show ¬ (false = true) by decide)] at H; exact H
          clear H
          have H := H1
          clear H1
          replace H := Option.bind_eq_some_iff.mp H
          obtain ⟨t250, A630, H⟩ := H
          replace H : (if t250 < 0 then (some false) else (if t250 = t240 then (some true) else (some false))) = some r := H
          have A63 := Aside0.mk A630
          clear A630
          by_cases c64 : t250 < 0
          ·
           rw [if_pos c64] at H
           have c64b0 : decide (t250 < 0) = true := decide_eq_true c64
           (try (have c64b1 := c64b0; simp only [hl239001_35] at c64b1))
           clear c64
           obtain rfl := Option.some.inj H
           have hnb65 := NB238_232.out
           have hnc65 := NB232_238.out
           have hnb66 := NB238_248.out
           have hnc66 := NB248_238.out
           have hcz67_0 : wc.cell? ⟨gb238, 0, none⟩ = some (.int .i64 t233) := (blk_cell BK238.out 0).trans rfl
           have hcz67_1 : wc.cell? ⟨gb238, 1, none⟩ = some (.slice Ao14 t241.length co14) := (blk_cell BK238.out 1).trans rfl
           have hfz67_0 := blk_frozen BK238.out 0
           have hfz67_1 := blk_frozen BK238.out 1
           go_wp2_with (first | ((with_reducible refine gate_callee (f := 14) rfl ?_); refine goesL_ (some 60) rfl rfl Tryd.func14 (by kernel_rfl) rfl #[.agg #[.int .i64 t233, .slice Ao14 t241.length co14], .int .i64 1] rfl (by (try simp only [List.map_toArray, List.map_cons, List.map_nil]); first | done | rfl) ?_; (with_reducible refine (laws_heldTournament.calls kj35 t233 _ _ t241 1 t250 _ ?side1 ?side2 A63.out).mono ?_); (case side1 => repeat (first | exact (Kd.R_reads' HO_239001.out).2.2 | (with_reducible refine Kd.C_alloc ?_ _) | (with_reducible refine Kd.C_drewN ?_ _) | (with_reducible refine Kd.C_drew ?_))); (case side2 => exact (Kd.R_reads' HO_239001.out).2.1); rintro e w68 ⟨rfl, hb⟩; refine ⟨_, rfl, ?_⟩; have n0_ := Aside0.mk (Kd.R_below (by (with_reducible repeat (first | apply Kd.R_alloc | apply Kd.R_drewN | apply Kd.R_drew)); exact HO_233001.out) hb); have n1_ := Aside0.mk (Kd.R_below (by (with_reducible repeat (first | apply Kd.R_alloc | apply Kd.R_drewN | apply Kd.R_drew)); exact HO_239001.out) hb); have n2_ := Aside0.mk (Kd.R_below (by (with_reducible repeat (first | apply Kd.R_alloc | apply Kd.R_drewN | apply Kd.R_drew)); exact HO_249001.out) hb); have n3_ := Aside0.mk (blk_below (g := gb232) (o := .cells #[.int .i64 t227, .slice Ao9 t228.length co9] 28 (0, 0)) (by (with_reducible repeat (first | refine blk_drewN ?_ _ | refine blk_drew ?_ | refine blk_alloc ?_ _)); exact BK232.out) hb); have n4_ := Aside0.mk (blk_below (g := gb238) (o := .cells #[.int .i64 t233, .slice Ao14 t241.length co14] 28 (0, 0)) (by (with_reducible repeat (first | refine blk_drewN ?_ _ | refine blk_drew ?_ | refine blk_alloc ?_ _)); exact BK238.out) hb); have n5_ := Aside0.mk (blk_below (g := gb248) (o := .cells #[.int .i64 t243, .slice Ao47 t244.length co47] 28 (0, 0)) (by (with_reducible repeat (first | refine blk_drewN ?_ _ | refine blk_drew ?_ | refine blk_alloc ?_ _)); exact BK248.out) hb); have n6_ := Aside0.mk (below_step (by repeat (first | (with_reducible first | exact HB.out | apply below_alloc | apply pw_below_drewN | apply below_drew1 | refine below_set ?_ GE232.out | refine below_set ?_ GE238.out | refine below_set ?_ GE248.out) | exact HB.out)) hb); clear HO_233001; clear HO_239001; clear HO_249001; clear BK232; clear BK238; clear BK248; clear HB; have HO_233001 := n0_; have HO_239001 := n1_; have HO_249001 := n2_; have BK232 := n3_; have BK238 := n4_; have BK248 := n5_; have HB := n6_; clear n0_ n1_ n2_ n3_ n4_ n5_ n6_; (try clear hb); (try clear hb2); (try clear hk); (try clear hi)))
           go_ret
           exact ⟨by first | rfl | (simp [errW_none, errW_some] <;> rfl) | (simp [*, errW_none, errW_some] <;> rfl), by repeat (first | (with_reducible first | exact HB.out | apply below_alloc | apply pw_below_drewN | apply below_drew1 | refine below_set ?_ GE232.out | refine below_set ?_ GE238.out | refine below_set ?_ GE248.out) | exact HB.out)⟩
          ·
           rw [if_neg c64] at H
           have c64b0 : decide (t250 < 0) = false := decide_eq_false c64
           (try (have c64b1 := c64b0; simp only [hl239001_35] at c64b1))
           clear c64
           by_cases c69 : t250 = t240
           ·
            rw [if_pos c69] at H
            have c69b0 : (t250 == t240) = true := beq_iff_eq.mpr c69
            have c69b1 : (t250 != t240) = false := bne_eq_false_iff_eq.mpr c69
            clear c69
            obtain rfl := Option.some.inj H
            have hnb70 := NB238_232.out
            have hnc70 := NB232_238.out
            have hnb71 := NB238_248.out
            have hnc71 := NB248_238.out
            have hcz72_0 : wc.cell? ⟨gb238, 0, none⟩ = some (.int .i64 t233) := (blk_cell BK238.out 0).trans rfl
            have hcz72_1 : wc.cell? ⟨gb238, 1, none⟩ = some (.slice Ao14 t241.length co14) := (blk_cell BK238.out 1).trans rfl
            have hfz72_0 := blk_frozen BK238.out 0
            have hfz72_1 := blk_frozen BK238.out 1
            go_wp2_with (first | ((with_reducible refine gate_callee (f := 14) rfl ?_); refine goesL_ (some 60) rfl rfl Tryd.func14 (by kernel_rfl) rfl #[.agg #[.int .i64 t233, .slice Ao14 t241.length co14], .int .i64 1] rfl (by (try simp only [List.map_toArray, List.map_cons, List.map_nil]); first | done | rfl) ?_; (with_reducible refine (laws_heldTournament.calls kj35 t233 _ _ t241 1 t250 _ ?side1 ?side2 A63.out).mono ?_); (case side1 => repeat (first | exact (Kd.R_reads' HO_239001.out).2.2 | (with_reducible refine Kd.C_alloc ?_ _) | (with_reducible refine Kd.C_drewN ?_ _) | (with_reducible refine Kd.C_drew ?_))); (case side2 => exact (Kd.R_reads' HO_239001.out).2.1); rintro e w73 ⟨rfl, hb⟩; refine ⟨_, rfl, ?_⟩; have n0_ := Aside0.mk (Kd.R_below (by (with_reducible repeat (first | apply Kd.R_alloc | apply Kd.R_drewN | apply Kd.R_drew)); exact HO_233001.out) hb); have n1_ := Aside0.mk (Kd.R_below (by (with_reducible repeat (first | apply Kd.R_alloc | apply Kd.R_drewN | apply Kd.R_drew)); exact HO_239001.out) hb); have n2_ := Aside0.mk (Kd.R_below (by (with_reducible repeat (first | apply Kd.R_alloc | apply Kd.R_drewN | apply Kd.R_drew)); exact HO_249001.out) hb); have n3_ := Aside0.mk (blk_below (g := gb232) (o := .cells #[.int .i64 t227, .slice Ao9 t228.length co9] 28 (0, 0)) (by (with_reducible repeat (first | refine blk_drewN ?_ _ | refine blk_drew ?_ | refine blk_alloc ?_ _)); exact BK232.out) hb); have n4_ := Aside0.mk (blk_below (g := gb238) (o := .cells #[.int .i64 t233, .slice Ao14 t241.length co14] 28 (0, 0)) (by (with_reducible repeat (first | refine blk_drewN ?_ _ | refine blk_drew ?_ | refine blk_alloc ?_ _)); exact BK238.out) hb); have n5_ := Aside0.mk (blk_below (g := gb248) (o := .cells #[.int .i64 t243, .slice Ao47 t244.length co47] 28 (0, 0)) (by (with_reducible repeat (first | refine blk_drewN ?_ _ | refine blk_drew ?_ | refine blk_alloc ?_ _)); exact BK248.out) hb); have n6_ := Aside0.mk (below_step (by repeat (first | (with_reducible first | exact HB.out | apply below_alloc | apply pw_below_drewN | apply below_drew1 | refine below_set ?_ GE232.out | refine below_set ?_ GE238.out | refine below_set ?_ GE248.out) | exact HB.out)) hb); clear HO_233001; clear HO_239001; clear HO_249001; clear BK232; clear BK238; clear BK248; clear HB; have HO_233001 := n0_; have HO_239001 := n1_; have HO_249001 := n2_; have BK232 := n3_; have BK238 := n4_; have BK248 := n5_; have HB := n6_; clear n0_ n1_ n2_ n3_ n4_ n5_ n6_; (try clear hb); (try clear hb2); (try clear hk); (try clear hi)))
            go_ret
            exact ⟨by first | rfl | (simp [errW_none, errW_some] <;> rfl) | (simp [*, errW_none, errW_some] <;> rfl), by repeat (first | (with_reducible first | exact HB.out | apply below_alloc | apply pw_below_drewN | apply below_drew1 | refine below_set ?_ GE232.out | refine below_set ?_ GE238.out | refine below_set ?_ GE248.out) | exact HB.out)⟩
           ·
            rw [if_neg c69] at H
            have c69b0 : (t250 == t240) = false := beq_eq_false_iff_ne.mpr c69
            have c69b1 : (t250 != t240) = true := bne_iff_ne.mpr c69
            obtain rfl := Option.some.inj H
            have hnb74 := NB238_232.out
            have hnc74 := NB232_238.out
            have hnb75 := NB238_248.out
            have hnc75 := NB248_238.out
            have hcz76_0 : wc.cell? ⟨gb238, 0, none⟩ = some (.int .i64 t233) := (blk_cell BK238.out 0).trans rfl
            have hcz76_1 : wc.cell? ⟨gb238, 1, none⟩ = some (.slice Ao14 t241.length co14) := (blk_cell BK238.out 1).trans rfl
            have hfz76_0 := blk_frozen BK238.out 0
            have hfz76_1 := blk_frozen BK238.out 1
            go_wp2_with (first | ((with_reducible refine gate_callee (f := 14) rfl ?_); refine goesL_ (some 60) rfl rfl Tryd.func14 (by kernel_rfl) rfl #[.agg #[.int .i64 t233, .slice Ao14 t241.length co14], .int .i64 1] rfl (by (try simp only [List.map_toArray, List.map_cons, List.map_nil]); first | done | rfl) ?_; (with_reducible refine (laws_heldTournament.calls kj35 t233 _ _ t241 1 t250 _ ?side1 ?side2 A63.out).mono ?_); (case side1 => repeat (first | exact (Kd.R_reads' HO_239001.out).2.2 | (with_reducible refine Kd.C_alloc ?_ _) | (with_reducible refine Kd.C_drewN ?_ _) | (with_reducible refine Kd.C_drew ?_))); (case side2 => exact (Kd.R_reads' HO_239001.out).2.1); rintro e w77 ⟨rfl, hb⟩; refine ⟨_, rfl, ?_⟩; have n0_ := Aside0.mk (Kd.R_below (by (with_reducible repeat (first | apply Kd.R_alloc | apply Kd.R_drewN | apply Kd.R_drew)); exact HO_233001.out) hb); have n1_ := Aside0.mk (Kd.R_below (by (with_reducible repeat (first | apply Kd.R_alloc | apply Kd.R_drewN | apply Kd.R_drew)); exact HO_239001.out) hb); have n2_ := Aside0.mk (Kd.R_below (by (with_reducible repeat (first | apply Kd.R_alloc | apply Kd.R_drewN | apply Kd.R_drew)); exact HO_249001.out) hb); have n3_ := Aside0.mk (blk_below (g := gb232) (o := .cells #[.int .i64 t227, .slice Ao9 t228.length co9] 28 (0, 0)) (by (with_reducible repeat (first | refine blk_drewN ?_ _ | refine blk_drew ?_ | refine blk_alloc ?_ _)); exact BK232.out) hb); have n4_ := Aside0.mk (blk_below (g := gb238) (o := .cells #[.int .i64 t233, .slice Ao14 t241.length co14] 28 (0, 0)) (by (with_reducible repeat (first | refine blk_drewN ?_ _ | refine blk_drew ?_ | refine blk_alloc ?_ _)); exact BK238.out) hb); have n5_ := Aside0.mk (blk_below (g := gb248) (o := .cells #[.int .i64 t243, .slice Ao47 t244.length co47] 28 (0, 0)) (by (with_reducible repeat (first | refine blk_drewN ?_ _ | refine blk_drew ?_ | refine blk_alloc ?_ _)); exact BK248.out) hb); have n6_ := Aside0.mk (below_step (by repeat (first | (with_reducible first | exact HB.out | apply below_alloc | apply pw_below_drewN | apply below_drew1 | refine below_set ?_ GE232.out | refine below_set ?_ GE238.out | refine below_set ?_ GE248.out) | exact HB.out)) hb); clear HO_233001; clear HO_239001; clear HO_249001; clear BK232; clear BK238; clear BK248; clear HB; have HO_233001 := n0_; have HO_239001 := n1_; have HO_249001 := n2_; have BK232 := n3_; have BK238 := n4_; have BK248 := n5_; have HB := n6_; clear n0_ n1_ n2_ n3_ n4_ n5_ n6_; (try clear hb); (try clear hb2); (try clear hk); (try clear hi)))
            go_ret
            exact ⟨by first | rfl | (simp [errW_none, errW_some] <;> rfl) | (simp [*, errW_none, errW_some] <;> rfl), by repeat (first | (with_reducible first | exact HB.out | apply below_alloc | apply pw_below_drewN | apply below_drew1 | refine below_set ?_ GE232.out | refine below_set ?_ GE238.out | refine below_set ?_ GE248.out) | exact HB.out)⟩
      ·
       rw [if_neg c34] at H
       have c34b0 : (t242 == t240) = false := beq_eq_false_iff_ne.mpr c34
       have c34b1 : (t242 != t240) = true := bne_iff_ne.mpr c34
       obtain rfl := Option.some.inj H
       have hnb78 := NB238_232.out
       have hnc78 := NB232_238.out
       have hcz79_0 : wc.cell? ⟨gb238, 0, none⟩ = some (.int .i64 t233) := (blk_cell BK238.out 0).trans rfl
       have hcz79_1 : wc.cell? ⟨gb238, 1, none⟩ = some (.slice Ao14 t234.length co14) := (blk_cell BK238.out 1).trans rfl
       have hfz79_0 := blk_frozen BK238.out 0
       have hfz79_1 := blk_frozen BK238.out 1
       go_wp2_with (first | ((with_reducible refine gate_callee (f := 13) rfl ?_); refine goesL_ (some 35) rfl rfl Tryd.func13 (by kernel_rfl) rfl #[.agg #[.int .i64 t233, .slice Ao14 t234.length co14], .int .i64 1] rfl (by (try simp only [List.map_toArray, List.map_cons, List.map_nil]); first | done | rfl) ?_; (with_reducible refine (laws_markTournament.calls kj4 t233 (fun k_ => some k_ = (.slice Ao14 t234.length co14 : Value).ownBlock) (.slice Ao14 t234.length co14) t234 1 t240 t241 w _ ?side1 ?side2 A26.out).mono ?_); (case side1 => repeat (first | (with_reducible first | exact HB.out | apply below_alloc | apply pw_below_drewN | apply below_drew1 | refine below_set ?_ GE232.out | refine below_set ?_ GE238.out) | exact HB.out)); (case side2 => exact Kd.R_tight rfl HO_239001.out); rintro e w80 ⟨rfl, hy0, hb, hkp⟩; refine ⟨_, rfl, ?_⟩; have n0_ := Aside0.mk (Kd.R_mono (ok' := fun k_ => some k_ ≠ (.slice Ao14 t234.length co14 : Value).ownBlock) (Kd.R_keptB (HO_233001.out) hkp (fun k_ hk_ hs_ => (hk_) hs_)) (fun k_ hk_ => hk_.1)); have n1_ := Aside0.mk (Kd.R_reok rfl hy0 (fun k_ e_ => HO_239001.out.1 k_ e_)); have n2_ := Aside0.mk (blk_kept (by (with_reducible repeat (first | refine blk_drewN ?_ _ | refine blk_drew ?_ | refine blk_alloc ?_ _)); exact BK232.out) hkp (fun hs_ => (fun e_ => (Kd.R_ne HO_239001.out BK232.out (by decide)) e_) hs_)); have n3_ := Aside0.mk (blk_kept (by (with_reducible repeat (first | refine blk_drewN ?_ _ | refine blk_drew ?_ | refine blk_alloc ?_ _)); exact BK238.out) hkp (fun hs_ => (fun e_ => (Kd.R_ne HO_239001.out BK238.out (by decide)) e_) hs_)); have n4_ := Aside0.mk (hb); clear HO_233001; clear HO_239001; clear BK232; clear BK238; clear HB; have HO_233001 := n0_; have HO_239001 := n1_; have BK232 := n2_; have BK238 := n3_; have HB := n4_; clear n0_ n1_ n2_ n3_ n4_; (try clear hb); (try clear hkp); (try clear hy0); have hcz81_0 : w80.cell? ⟨gb238, 0, none⟩ = some (.int .i64 t233) := (blk_cell BK238.out 0).trans rfl; have hcz81_1 : w80.cell? ⟨gb238, 1, none⟩ = some (.slice Ao14 t234.length co14) := (blk_cell BK238.out 1).trans rfl; have hfz81_0 := blk_frozen BK238.out 0; have hfz81_1 := blk_frozen BK238.out 1) | ((with_reducible refine gate_callee (f := 14) rfl ?_); refine goesL_ (some 38) rfl rfl Tryd.func14 (by kernel_rfl) rfl #[.agg #[.int .i64 t233, .slice Ao14 t241.length co14], .int .i64 1] rfl (by (try simp only [List.map_toArray, List.map_cons, List.map_nil]); first | done | (rw [show t241.length = t234.length from (Kd.R_reads' HO_239001.out).1.symm] <;> rfl) | rfl | (simp only [List.length_drop, List.length_take]; rfl)) ?_; (with_reducible refine (laws_heldTournament.calls kj4 t233 _ _ t241 1 t242 _ ?side1 ?side2 A27.out).mono ?_); (case side1 => repeat (first | exact (Kd.R_reads' HO_239001.out).2.2 | (with_reducible refine Kd.C_alloc ?_ _) | (with_reducible refine Kd.C_drewN ?_ _) | (with_reducible refine Kd.C_drew ?_))); (case side2 => rw [show t241.length = t234.length from (Kd.R_reads' HO_239001.out).1.symm]; exact (Kd.R_reads' HO_239001.out).2.1); rintro e w82 ⟨rfl, hb⟩; refine ⟨_, rfl, ?_⟩; have n0_ := Aside0.mk (Kd.R_below (by (with_reducible repeat (first | apply Kd.R_alloc | apply Kd.R_drewN | apply Kd.R_drew)); exact HO_233001.out) hb); have n1_ := Aside0.mk (Kd.R_below (by (with_reducible repeat (first | apply Kd.R_alloc | apply Kd.R_drewN | apply Kd.R_drew)); exact HO_239001.out) hb); have n2_ := Aside0.mk (blk_below (g := gb232) (o := .cells #[.int .i64 t227, .slice Ao9 t228.length co9] 28 (0, 0)) (by (with_reducible repeat (first | refine blk_drewN ?_ _ | refine blk_drew ?_ | refine blk_alloc ?_ _)); exact BK232.out) hb); have n3_ := Aside0.mk (blk_below (g := gb238) (o := .cells #[.int .i64 t233, .slice Ao14 t234.length co14] 28 (0, 0)) (by (with_reducible repeat (first | refine blk_drewN ?_ _ | refine blk_drew ?_ | refine blk_alloc ?_ _)); exact BK238.out) hb); have n4_ := Aside0.mk (below_step (by repeat (first | (with_reducible first | exact HB.out | apply below_alloc | apply pw_below_drewN | apply below_drew1 | refine below_set ?_ GE232.out | refine below_set ?_ GE238.out) | exact HB.out)) hb); clear HO_233001; clear HO_239001; clear BK232; clear BK238; clear HB; have HO_233001 := n0_; have HO_239001 := n1_; have BK232 := n2_; have BK238 := n3_; have HB := n4_; clear n0_ n1_ n2_ n3_ n4_; (try clear hb); (try clear hb2); (try clear hk); (try clear hi)))
       go_ret
       exact ⟨by first | rfl | (simp [errW_none, errW_some] <;> rfl) | (simp [*, errW_none, errW_some] <;> rfl), by repeat (first | (with_reducible first | exact HB.out | apply below_alloc | apply pw_below_drewN | apply below_drew1 | refine below_set ?_ GE232.out | refine below_set ?_ GE238.out) | exact HB.out)⟩
def laws_FnExactParseTournament.Pure : Prop := ∀ (a0 : ByteArray), a0.size ≤ 140737488351232 → ∃ k, laws_FnExactParseTournament.f k a0 = some true
theorem laws_FnExactParseTournament.walk (P : laws_FnExactParseTournament.Pure) (a0 : ByteArray) (w : World) (w0 : a0.size ≤ 140737488351232) :
  Calls Tryd.prog 4 #[.string a0] w fun e w' => e = .returned (.bool true) ∧ Below w.heap.size w w' := by
 obtain ⟨k, h⟩ := P a0 w0
 refine (laws_FnExactParseTournament.calls k a0 true w h).mono ?_
 rintro e w' ⟨rfl, hd⟩
 exact ⟨rfl, hd⟩
end Go.Proofs.YtfmpbflbkochgaaDoor.P
namespace Go.Proofs.YtfmpbflbkochgaaDoor.K
open Go.RowKit Go.Proofs.YtfmpbflbkochgaaDoorW.PrintWords Go.Proofs.YtfmpbflbkochgaaDoor.P
theorem eqIntS_l0 : ∀ (rest done rest2 done2 : List Int), done.length = done2.length → rest.length = rest2.length → (done ++ rest).length ≤ BM → Ev (fun k => laws_eqIntS.l0 k (done ++ rest) (done2 ++ rest2) done.length) (decide (rest = rest2)) := by
  intro rest
  induction rest with
  | nil =>
    intro done rest2 done2 hl hl2 h
    obtain rfl : rest2 = [] := by simpa using hl2.symm
    exact Ev.step (fun k => by simp [laws_eqIntS.l0]; rfl) (Ev.some (by simp))
  | cons x rest ih =>
    intro done rest2 done2 hl hl2 h
    obtain ⟨y, rest2, rfl⟩ : ∃ y r, rest2 = y :: r := by cases rest2 with | nil => simp at hl2 | cons y r => exact ⟨y, r, rfl⟩
    have ih' := ih (done ++ [x]) rest2 (done2 ++ [y]) (by simp [hl]) (by simpa using hl2)
    obtain ⟨h1, h2, h3, h4, h5⟩ := mid x done rest h
    have hh : (done2 ++ y :: rest2).length ≤ BM := by simp at h hl2 ⊢; omega
    obtain ⟨g1, g2, g3, g4, g5⟩ := mid y done2 rest2 hh
    rw [h5, g5] at ih'
    refine Ev.step (fun k => by rw [laws_eqIntS.l0]) ?_
    rw [← hl] at g1 g3
    simp only [if_pos h1, if_pos h2, if_pos g1, h3, h4, g3]
    refine Ev.ite (fun e => ?_) (fun e => ?_)
    · subst e; simpa using ih' h
    · exact Ev.some (by simp [e])
theorem eqIntS_f (l m : List Int) (h : l.length ≤ BM) : Ev (fun k => laws_eqIntS.f k l m) (decide (l = m)) := by
  unfold laws_eqIntS.f
  refine Ev.ite (fun e => ?_) (fun e => ?_)
  · exact eqIntS_l0 l [] m [] rfl (by omega) h
  · exact Ev.some (by symm; simp; rintro rfl; exact e rfl)
theorem eqIntS_same (l : List Int) (h : l.length ≤ BM) : Ev (fun k => laws_eqIntS.f k l l) true := by simpa using eqIntS_f l l h
theorem eqTournament_same (n : Int) (l : List Int) (h : l.length ≤ BM) : Ev (fun k => laws_eqTournament.f k n l n l) true := by
  unfold laws_eqTournament.f
  simp only [if_true]
  exact Ev.bind (eqIntS_same l h) (by simpa using Ev.now true)
def seqFrom (a : Int) : Nat → List Int
  | 0 => []
  | n + 1 => a :: seqFrom (a + 1) n
theorem seqFrom_length (a : Int) (n : Nat) : (seqFrom a n).length = n := by
  induction n generalizing a with
  | zero => rfl
  | succ n ih => simp [seqFrom, ih]
theorem markIntS_l0 : ∀ (rest done : List Int) (b : Int), (done ++ rest).length ≤ BM → 0 ≤ b → b + rest.length ≤ 4611686018427387904 → Ev (fun k => laws_markIntS.l0 k (done ++ rest) b done.length) (b + rest.length, done ++ seqFrom b rest.length) := by
  intro rest
  induction rest with
  | nil => intro done b h _ _; exact Ev.step (fun k => by simp [laws_markIntS.l0]; rfl) (Ev.some (by simp [seqFrom]))
  | cons x rest ih =>
    intro done b h hb0 hb
    obtain ⟨h1, h2, h3, h4, h5⟩ := mid x done rest h
    have ih' := ih (done ++ [b]) (b + 1) (by simpa using h) (by omega) (by simp at hb; omega)
    refine Ev.step (fun k => by rw [laws_markIntS.l0]) ?_
    have h6 : wrap64 (b + 1) = b + 1 := wrap_id (by omega) (by simp at hb; omega)
    simp only [if_pos h1, if_pos h2, h4, h6, set_mid]
    refine Ev.pair ?_ (show (b + 1 + (rest.length : Int), done ++ [b] ++ seqFrom (b + 1) rest.length) = _ by simp [seqFrom]; omega)
    simpa using ih'
theorem markIntS_f (l : List Int) (a : Int) (h : l.length ≤ BM) (h0 : 0 ≤ a) (ha : a + l.length ≤ 4611686018427387904) : Ev (fun k => laws_markIntS.f k l a) (a + l.length, seqFrom a l.length) := markIntS_l0 l [] a h h0 ha
theorem heldIntS_l0 : ∀ (n : Nat) (done : List Int) (b : Int), (done ++ seqFrom b n).length ≤ BM → 0 ≤ b → b + n ≤ 4611686018427387904 → Ev (fun k => laws_heldIntS.l0 k (done ++ seqFrom b n) b done.length) (b + n) := by
  intro n
  induction n with
  | zero => intro done b h _ _; exact Ev.step (fun k => by simp [laws_heldIntS.l0, seqFrom]; rfl) (Ev.some (by simp))
  | succ n ih =>
    intro done b h hb0 hb
    simp only [seqFrom] at h ⊢
    obtain ⟨h1, h2, h3, h4, h5⟩ := mid b done (seqFrom (b + 1) n) h
    have ih' := ih (done ++ [b]) (b + 1) (by simpa using h) (by omega) (by omega)
    rw [h5] at ih'
    refine Ev.step (fun k => by rw [laws_heldIntS.l0]) ?_
    have h6 : wrap64 (b + 1) = b + 1 := wrap_id (by omega) (by omega)
    simp only [if_pos h1, if_pos h2, h3, h4, h6, if_true]
    exact Ev.pair ih' (by omega)
theorem heldIntS_f (a : Int) (n : Nat) (h : n ≤ BM) (h0 : 0 ≤ a) (ha : a + n ≤ 4611686018427387904) : Ev (fun k => laws_heldIntS.f k (seqFrom a n) a) (a + n) := heldIntS_l0 n [] a (by simpa [seqFrom_length] using h) h0 ha
theorem markTournament_f (n : Int) (l : List Int) (a : Int) (h : l.length ≤ BM) (h0 : 0 ≤ a) (ha : a + l.length ≤ 4611686018427387904) : Ev (fun k => laws_markTournament.f k n l a) (a + l.length, seqFrom a l.length) := by
  unfold laws_markTournament.f
  exact Ev.bind (markIntS_f l a h h0 ha) (Ev.now _)
theorem heldTournament_f (m : Int) (a : Int) (n : Nat) (h : n ≤ BM) (h0 : 0 ≤ a) (ha : a + n ≤ 4611686018427387904) : Ev (fun k => laws_heldTournament.f k m (seqFrom a n) a) (a + n) := by
  unfold laws_heldTournament.f
  refine Ev.bind (heldIntS_f a n h h0 ha) ?_
  rw [if_neg (by omega)]
  exact Ev.now _
end Go.Proofs.YtfmpbflbkochgaaDoor.K
namespace Go.Proofs.YtfmpbflbkochgaaDoor.K
open Go.RowKit Go.Proofs.YtfmpbflbkochgaaDoorW.PrintWords Go.Proofs.YtfmpbflbkochgaaDoorW.PrintMore Go.Proofs.YtfmpbflbkochgaaDoor.P
theorem ba_ext {s t : ByteArray} (h : s.data.toList = t.data.toList) : s = t := by
  cases s; cases t; congr 1; exact Array.toList_inj.1 h
theorem ba_toList {s t : ByteArray} : s.toList = t.toList ↔ s = t := by
  constructor
  · intro h
    rw [ByteArray.toList_eq, ByteArray.toList_eq] at h
    exact ba_ext h
  · rintro rfl; rfl
theorem sn_app (a b : List Int) : strOfNums a ++ strOfNums b = strOfNums (a ++ b) := by
  apply ba_ext
  simp [strOfNums]
theorem sn_size (a : List Int) : (strOfNums a).size = a.length := by simp [strOfNums, ByteArray.size]
theorem sn_bt (a : List Int) (h : ∀ x ∈ a, 0 ≤ x ∧ x < 256) (i : Nat) : bt (strOfNums a) (i : Int) = a.getD i 0 := by
  unfold bt
  rw [Int.toNat_natCast]
  by_cases hi : i < a.length
  · rw [dif_pos (by rw [sn_size]; exact hi), List.getD_eq_getElem?_getD, List.getElem?_eq_getElem hi]
    have := h _ (List.getElem_mem hi)
    have e : (strOfNums a)[i]'(by rw [sn_size]; exact hi) = UInt8.ofNat (a[i]).toNat := by simp [strOfNums, ByteArray.getElem_eq_getElem_data]
    rw [e]
    simp
    omega
  · rw [dif_neg (by rw [sn_size]; exact hi), List.getD_eq_getElem?_getD, List.getElem?_eq_none (by omega)]; rfl
theorem sn_extract (a : List Int) (i j : Nat) : (strOfNums a).extract i j = strOfNums ((a.take j).drop i) := by
  apply ba_ext
  simp [strOfNums, List.extract_eq_take_drop, List.drop_take]
theorem sn_49 : (⟨#[49]⟩ : ByteArray) = strOfNums [49] := rfl
theorem sn_48 : (⟨#[48]⟩ : ByteArray) = strOfNums [48] := rfl
theorem sn_58 : (⟨#[58]⟩ : ByteArray) = strOfNums [58] := rfl
theorem rowT_length (ns : List Nat) (i : Nat) : ∀ d j, (rowT ns i j d).length = d := by
  intro d
  induction d with
  | zero => intro j; rfl
  | succ d ih => intro j; simp [rowT, ih]
theorem sct_l1 {n : Nat} {ns : List Nat} (h : Sets n ns) (i : Nat) (hi : i < 9223372036854775807) (r : ByteArray) : ∀ d j (B : ByteArray), j + d = n → B.size + d ≤ 1000 → Ev (fun k => spec_scText.l0 k (B ++ strOfNums (rowT ns i j d)) (ints ns) n ((i + 1 : Nat) : Int) n (ints ns)) r →
    Ev (fun k => spec_scText.l1 k B ((ns.getD i 0 : Nat) : Int) (j : Int) (ints ns) n i n (ints ns)) r := by
  have hn := h.n8
  intro d
  induction d with
  | zero =>
    intro j B hj hb hr
    refine Ev.step (fun k => ?_) hr
    rw [spec_scText.l1, if_neg (by omega)]
    have e : B ++ strOfNums (rowT ns i j 0) = B := by apply ba_ext; simp [rowT, strOfNums]
    rw [wrap_nat i hi, e]
  | succ d ih =>
    intro j B hj hb hr
    have e (t : List Int) (b : Int) (hb2 : (if nb ns i j then (49 : Int) else 48) = b) : B ++ strOfNums (rowT ns i j (d + 1)) = (B ++ strOfNums [b]) ++ strOfNums (rowT ns i (j + 1) d) := by
      rw [rowT, hb2, ByteArray.append_assoc, sn_app]; rfl
    cases hnb : nb ns i j with
    | true =>
      rw [e [] 49 (by rw [hnb]; rfl)] at hr
      refine Ev.step (fun k => ?_) (ih (j + 1) (B ++ strOfNums [49]) (by omega) (by rw [ByteArray.size_append, sn_size]; simp; omega) hr)
      rw [spec_scText.l1, if_pos (by omega), deHas_nb h, Option.bind_some, hnb, if_pos rfl, if_pos (by omega), wrap_nat j (by omega), sn_49]
    | false =>
      rw [e [] 48 (by rw [hnb]; rfl)] at hr
      refine Ev.step (fun k => ?_) (ih (j + 1) (B ++ strOfNums [48]) (by omega) (by rw [ByteArray.size_append, sn_size]; simp; omega) hr)
      rw [spec_scText.l1, if_pos (by omega), deHas_nb h, Option.bind_some, hnb, if_neg (by decide), if_pos (by omega), wrap_nat j (by omega), sn_48]
theorem sct_l0 {n : Nat} {ns : List Nat} (h : Sets n ns) : ∀ d i (B : ByteArray), i + d = n → B.size + 8 * d ≤ 1000 →
    Ev (fun k => spec_scText.l0 k B (ints ns) n (i : Int) n (ints ns)) (B ++ strOfNums (rowsT n ns i d)) := by
  have hn := h.n8
  have hl := h.len
  intro d
  induction d with
  | zero =>
    intro i B hi hb
    refine Ev.step (fun k => ?_) (Ev.some (r := B) (by apply ba_ext; simp [rowsT, strOfNums]))
    rw [spec_scText.l0, if_neg (by omega)]
  | succ d ih =>
    intro i B hi hb
    have e : B ++ strOfNums (rowsT n ns i (d + 1)) = (B ++ strOfNums (rowT ns i (i + 1) (n - (i + 1)))) ++ strOfNums (rowsT n ns (i + 1) d) := by
      rw [rowsT, ByteArray.append_assoc, sn_app]
    rw [e]
    refine Ev.step (fun k => ?_) (sct_l1 h i (by omega) _ (n - (i + 1)) (i + 1) B (by omega) (by omega) (ih (i + 1) _ (by omega) (by rw [ByteArray.size_append, sn_size, rowT_length]; omega)))
    rw [spec_scText.l0, if_pos (by omega), if_pos (by omega), if_pos (by rw [ints_length]; omega), rd_ints, wrap_nat i (by omega)]
theorem l1Num_f (n : Nat) (h : n < 10) : Ev (fun k => spec_l1Num.f k (n : Int)) (strOfNums [48 + (n : Int)]) := by
  refine Ev.step (fun k => ?_) (Ev.now _)
  rw [spec_l1Num.f, if_pos (by omega)]
  have e : wrap64 (48 + (n : Int)) % 256 = 48 + (n : Int) := by unfold wrap64; omega
  rw [e]
theorem scText_f {n : Nat} {ns : List Nat} (h : Sets n ns) : Ev (fun k => spec_scText.f k (n : Int) (ints ns)) (strOfNums (textT n ns)) := by
  have hn := h.n8
  unfold spec_scText.f
  refine Ev.bind (l1Num_f n (by omega)) ?_
  have e : ((ints ns).length : Int) = n := by rw [ints_length, h.len]
  simp only [e, sn_size, if_pos (show (([48 + (n : Int)].length : Nat) : Nat) + 1 ≤ 9223372036854775807 by simp)]
  have := sct_l0 h n 0 (strOfNums [48 + (n : Int), 58]) (by omega) (by rw [sn_size]; simp; omega)
  rw [sn_app] at this
  rw [sn_58, sn_app]
  exact this
theorem tournamentText_f {n : Nat} {ns : List Nat} (h : Sets n ns) : impl_tournamentText.f (n : Int) (ints ns) = some (strOfNums (textT n ns)) := by
  have hn := h.n8
  have hn1 := h.n1
  have hp := pow8 hn
  unfold impl_tournamentText.f
  rw [if_pos]
  · congr 2
    rw [Int.toNat_natCast]
    congr 1
    simp [ints, Function.comp_def]
  · refine ⟨by omega, by omega, by rw [ints_length, h.len], fun x hx => ?_⟩
    obtain ⟨y, hy, rfl⟩ := List.mem_map.1 hx
    have := h.lt y hy
    omega
theorem Ev.uniq {α : Type} {f : Nat → Option α} {a b : α} (h1 : Ev f a) (h2 : Ev f b) : a = b := by
  obtain ⟨K1, h1⟩ := h1
  obtain ⟨K2, h2⟩ := h2
  have e1 := h1 (K1 + K2) (by omega)
  have e2 := h2 (K1 + K2) (by omega)
  rw [e1] at e2
  exact Option.some.inj e2
def off (n : Nat) : Nat → Nat
  | 0 => 0
  | i + 1 => off n i + (n - (i + 1))
def pos (n a b : Nat) : Nat := off n a + (b - (a + 1))
theorem off_mono (n : Nat) {a b : Nat} (h : a ≤ b) : off n a ≤ off n b := by
  induction b with
  | zero => obtain rfl : a = 0 := by omega
            exact Nat.le_refl _
  | succ b ih =>
    by_cases c : a = b + 1
    · subst c; exact Nat.le_refl _
    · have := ih (by omega); rw [off]; omega
theorem pos_lt {n a b : Nat} (h1 : a < b) (h2 : b < n) : pos n a b < off n n := by
  have := off_mono n (show a + 1 ≤ n by omega)
  rw [off] at this
  unfold pos
  omega
theorem off_all {n : Nat} (h : n ≤ 8) : off n n = n * (n - 1) / 2 := by
  obtain rfl | rfl | rfl | rfl | rfl | rfl | rfl | rfl | rfl : n = 0 ∨ n = 1 ∨ n = 2 ∨ n = 3 ∨ n = 4 ∨ n = 5 ∨ n = 6 ∨ n = 7 ∨ n = 8 := by omega
  all_goals rfl
def met (i j a b : Nat) : Bool := decide (a < i) || (decide (a = i) && decide (b < j))
def PartT (n : Nat) (d : Nat → Bool) (i j : Nat) (ns : List Nat) : Prop :=
  Sets n ns ∧ ∀ a b, a < n → b < n → nb ns a b = if a < b then met i j a b && d (pos n a b) else if b < a then met i j b a && !d (pos n b a) else false
def BuiltT (n : Nat) (d : Nat → Bool) (ns : List Nat) : Prop :=
  Sets n ns ∧ ∀ a b, a < n → b < n → nb ns a b = if a < b then d (pos n a b) else if b < a then !d (pos n b a) else false
theorem nb_set (ns : List Nat) (x v a b : Nat) (hx : x < ns.length) : nb (ns.set x v) a b = if a = x then v.testBit b else nb ns a b := by
  unfold nb
  rw [List.getD_eq_getElem?_getD, List.getElem?_set]
  by_cases h : a = x
  · subst h; simp [hx]
  · rw [if_neg (fun e => h e.symm), if_neg h, List.getD_eq_getElem?_getD]
theorem sets_set {n : Nat} {ns : List Nat} (h : Sets n ns) (x v : Nat) (hv : v < 2 ^ n) : Sets n (ns.set x v) :=
  ⟨h.n1, h.n8, by rw [List.length_set, h.len], fun y hy => by
    rcases List.mem_or_eq_of_mem_set hy with c | c
    · exact h.lt y c
    · omega⟩
theorem sets_or {n : Nat} {ns : List Nat} (h : Sets n ns) (x y : Nat) (hy : y < n) : Sets n (ns.set x (ns.getD x 0 ||| 2 ^ y)) :=
  sets_set h _ _ (Nat.or_lt_two_pow (h.get x) (Nat.pow_lt_pow_right (by decide) hy))
theorem sets_andNot {n : Nat} {ns : List Nat} (h : Sets n ns) (x y : Nat) : Sets n (ns.set x (ns.getD x 0 ^^^ (ns.getD x 0 &&& 2 ^ y))) :=
  sets_set h _ _ (Nat.xor_lt_two_pow (h.get x) (Nat.lt_of_le_of_lt Nat.and_le_left (h.get x)))
theorem nb_or {ns : List Nat} (x y : Nat) (hx : x < ns.length) (a b : Nat) : nb (ns.set x (ns.getD x 0 ||| 2 ^ y)) a b = (nb ns a b || (decide (a = x) && decide (b = y))) := by
  rw [nb_set _ _ _ _ _ hx]
  by_cases h : a = x
  · subst h
    rw [if_pos rfl, Nat.testBit_or, Nat.testBit_two_pow]
    simp [nb, eq_comm]
  · rw [if_neg h]; simp [h]
theorem nb_andNot {ns : List Nat} (x y : Nat) (hx : x < ns.length) (a b : Nat) : nb (ns.set x (ns.getD x 0 ^^^ (ns.getD x 0 &&& 2 ^ y))) a b = (nb ns a b && !(decide (a = x) && decide (b = y))) := by
  rw [nb_set _ _ _ _ _ hx]
  by_cases h : a = x
  · subst h
    rw [if_pos rfl, testBit_andNot, Nat.testBit_two_pow]
    simp [nb, eq_comm]
  · rw [if_neg h]; simp [h]
theorem part_step {n : Nat} {d : Nat → Bool} {i j : Nat} {ns ms : List Nat} (h : PartT n d i j ns) (hij : i < j) (hj : j < n) (hm : Sets n ms)
    (he : ∀ a b, a < n → b < n → nb ms a b = if a = i ∧ b = j then d (pos n i j) else if a = j ∧ b = i then !d (pos n i j) else nb ns a b) : PartT n d i (j + 1) ms := by
  refine ⟨hm, fun a b ha hb => ?_⟩
  rw [he a b ha hb]
  by_cases c1 : a = i ∧ b = j
  · obtain ⟨rfl, rfl⟩ := c1
    rw [if_pos ⟨rfl, rfl⟩, if_pos hij]
    simp [met]
  · rw [if_neg c1]
    by_cases c2 : a = j ∧ b = i
    · obtain ⟨rfl, rfl⟩ := c2
      rw [if_pos ⟨rfl, rfl⟩, if_neg (by omega), if_pos hij]
      simp [met]
    · rw [if_neg c2, h.2 a b ha hb]
      by_cases c3 : a < b
      · rw [if_pos c3, if_pos c3]
        have e : met i j a b = met i (j + 1) a b := by
          unfold met
          by_cases c4 : a = i
          · subst c4
            have : b ≠ j := fun e => c1 ⟨rfl, e⟩
            have : (decide (b < j)) = decide (b < j + 1) := by simp; omega
            simp [this]
          · simp [c4]
        rw [e]
      · rw [if_neg c3, if_neg c3]
        by_cases c5 : b < a
        · rw [if_pos c5, if_pos c5]
          have e : met i j b a = met i (j + 1) b a := by
            unfold met
            by_cases c4 : b = i
            · subst c4
              have : a ≠ j := fun e => c2 ⟨e, rfl⟩
              have : (decide (a < j)) = decide (a < j + 1) := by simp; omega
              simp [this]
            · simp [c4]
          rw [e]
        · rw [if_neg c5, if_neg c5]
theorem part_none {n : Nat} {d : Nat → Bool} {i j : Nat} {ns : List Nat} (h : PartT n d i j ns) (hij : i < j) (hj : j < n) : nb ns i j = false ∧ nb ns j i = false := by
  constructor
  · rw [h.2 i j (by omega) hj, if_pos hij]; simp [met]
  · rw [h.2 j i hj (by omega), if_neg (by omega), if_pos hij]; simp [met]
theorem part_row {n : Nat} {d : Nat → Bool} {i : Nat} {ns : List Nat} (h : PartT n d i n ns) : PartT n d (i + 1) (i + 2) ns := by
  refine ⟨h.1, fun a b ha hb => ?_⟩
  rw [h.2 a b ha hb]
  have e : ∀ x y, x < y → y < n → met i n x y = met (i + 1) (i + 2) x y := by
    intro x y hxy hy
    unfold met
    rw [Bool.eq_iff_iff]
    simp
    omega
  by_cases c3 : a < b
  · rw [if_pos c3, if_pos c3, e a b c3 hb]
  · rw [if_neg c3, if_neg c3]
    by_cases c5 : b < a
    · rw [if_pos c5, if_pos c5, e b a c5 ha]
    · rw [if_neg c5, if_neg c5]
theorem part_start {n : Nat} (d : Nat → Bool) (h1 : 1 ≤ n) (h8 : n ≤ 8) : PartT n d 0 1 (List.replicate n 0) := by
  refine ⟨⟨h1, h8, by simp, fun x hx => by rw [(List.mem_replicate.1 hx).2]; exact Nat.two_pow_pos n⟩, fun a b ha hb => ?_⟩
  have e0 : nb (List.replicate n 0) a b = false := by
    unfold nb
    rw [List.getD_eq_getElem?_getD, List.getElem?_replicate, if_pos ha]
    simp
  rw [e0]
  by_cases c3 : a < b
  · rw [if_pos c3]; simp [met]; omega
  · rw [if_neg c3]
    by_cases c5 : b < a
    · rw [if_pos c5]; simp [met]; omega
    · rw [if_neg c5]
theorem part_end {n : Nat} {d : Nat → Bool} {j : Nat} {ns : List Nat} (h : PartT n d n j ns) : BuiltT n d ns := by
  refine ⟨h.1, fun a b ha hb => ?_⟩
  rw [h.2 a b ha hb]
  simp [met, ha, hb]
theorem built_uniq {n : Nat} {d e : Nat → Bool} {ns ms : List Nat} (h1 : BuiltT n d ns) (h2 : BuiltT n e ms) (he : ∀ p, p < off n n → d p = e p) : ns = ms := by
  apply List.ext_getElem (by rw [h1.1.len, h2.1.len])
  intro a ha hb
  have ha' : a < n := by rw [h1.1.len] at ha; exact ha
  have g1 : ns[a] = ns.getD a 0 := by rw [List.getD_eq_getElem?_getD, List.getElem?_eq_getElem ha]; rfl
  have g2 : ms[a] = ms.getD a 0 := by rw [List.getD_eq_getElem?_getD, List.getElem?_eq_getElem hb]; rfl
  rw [g1, g2]
  apply Nat.eq_of_testBit_eq
  intro b
  show nb ns a b = nb ms a b
  by_cases hbn : b < n
  · rw [h1.2 a b ha' hbn, h2.2 a b ha' hbn]
    by_cases c3 : a < b
    · rw [if_pos c3, if_pos c3, he _ (pos_lt c3 hbn)]
    · rw [if_neg c3, if_neg c3]
      by_cases c5 : b < a
      · rw [if_pos c5, if_pos c5, he _ (pos_lt c5 ha')]
      · rw [if_neg c5, if_neg c5]
  · rw [h1.1.nb_lt (by omega), h2.1.nb_lt (by omega)]
def okDig (s : ByteArray) (p : Nat) : Bool := decide (bt s ((2 + p : Nat) : Int) = 49)
def IsText (s : ByteArray) (n : Nat) (ns : List Nat) : Prop := s = strOfNums (textT n ns) ∧ BuiltT n (okDig s) ns
theorem beat_f {n : Nat} {ns : List Nat} (h : Sets n ns) (i j : Nat) (hi : i < n) (hj : j < n) (hij : i ≠ j) :
    ∃ ms, impl_Tournament_beat.f n (ints ns) i j = some (ints ms) ∧ Sets n ms ∧ ∀ a b, nb ms a b = if a = i ∧ b = j then true else if a = j ∧ b = i then false else nb ns a b := by
  have hn := h.n8
  have hl := h.len
  have h1 := sets_or h i j hj
  have h2 := sets_andNot h1 j i
  refine ⟨_, ?_, h2, ?_⟩
  · unfold impl_Tournament_beat.f
    have hp : 2 ^ j < 2 ^ 62 := Nat.pow_lt_pow_right (by decide) (by omega)
    have hp2 : 2 ^ i < 2 ^ 62 := Nat.pow_lt_pow_right (by decide) (by omega)
    rw [if_pos (by omega), if_pos (by rw [ints_length]; omega), if_pos (by omega), shl_one j (by omega), rd_ints, or_nat _ _ (h.get62 i) hp, ints_set, Option.bind_some, if_pos (by rw [ints_length]; omega), shl_one i (by omega), rd_ints, andNot_nat _ _ (h1.get62 j) hp2, ints_set]
  · intro a b
    rw [nb_andNot _ _ (by rw [List.length_set, hl]; exact hj), nb_or _ _ (by rw [hl]; exact hi)]
    by_cases c1 : a = i ∧ b = j
    · obtain ⟨rfl, rfl⟩ := c1
      simp [hij]
    · rw [if_neg c1]
      by_cases c2 : a = j ∧ b = i
      · obtain ⟨rfl, rfl⟩ := c2
        simp
      · rw [if_neg c2]
        have e1 : (decide (a = i) && decide (b = j)) = false := by simpa using c1
        have e2 : (decide (a = j) && decide (b = i)) = false := by simpa using c2
        rw [e1, e2]; simp
def parseAns (s : ByteArray) (n : Nat) (ns : List Nat) : Int × List Int × Bool := if strOfNums (textT n ns) = s then ((n : Int), ints ns, true) else (0, [], false)
theorem iparse_l1 (s : ByteArray) (n : Nat) (hs : s.size ≤ 1048576) (i : Nat) (hi : i < n) (R : Prop) (r : Int × List Int × Bool → Prop)
    (hr : ∀ ns, PartT n (okDig s) i n ns → ∃ x, r x ∧ Ev (fun k => impl_ParseTournament.l0 k s ((2 + off n (i + 1) : Nat) : Int) n ((i + 1 : Nat) : Int) n (ints ns)) x) :
    ∀ d j ns, i < j → j + d = n → PartT n (okDig s) i j ns → ∃ x, r x ∧ Ev (fun k => impl_ParseTournament.l1 k s ((2 + pos n i j : Nat) : Int) i j n i n (ints ns)) x := by
  intro d
  induction d with
  | zero =>
    intro j ns hij hj hp
    obtain rfl : j = n := by omega
    obtain ⟨x, h1, h2⟩ := hr ns hp
    refine ⟨x, h1, Ev.step (fun k => ?_) h2⟩
    have hn := hp.1.n8
    have e : off j (i + 1) = pos j i j := by rw [off]; rfl
    rw [impl_ParseTournament.l1, if_neg (by omega), wrap_nat i (by omega), e]
  | succ d ih =>
    intro j ns hij hj hp
    have hn := hp.1.n8
    have hpl := pos_lt hij (show j < n by omega)
    rw [off_all hn] at hpl
    have hpl2 : pos n i j < 64 := by
      have : n * (n - 1) ≤ 8 * 7 := Nat.mul_le_mul hn (by omega)
      omega
    have hpos : pos n i (j + 1) = pos n i j + 1 := by unfold pos; omega
    have hb : okDig s (pos n i j) = decide (bt s ((2 + pos n i j : Nat) : Int) = 49) := rfl
    -- what the round does
    have key : ∃ ms, PartT n (okDig s) i (j + 1) ms ∧ ∀ x, Ev (fun k => impl_ParseTournament.l1 k s ((2 + pos n i (j + 1) : Nat) : Int) i ((j + 1 : Nat) : Int) n i n (ints ms)) x →
        Ev (fun k => impl_ParseTournament.j3 k s ((2 + pos n i j : Nat) : Int) i j n i (okDig s (pos n i j)) n (ints ns)) x := by
      cases hd : okDig s (pos n i j) with
      | true =>
        obtain ⟨ms, e1, e2, e3⟩ := beat_f hp.1 i j hi (by omega) (by omega)
        refine ⟨ms, part_step hp hij (by omega) e2 (fun a b _ _ => by rw [e3 a b, hd]; rfl), fun x hx => Ev.step (fun k => ?_) hx⟩
        rw [impl_ParseTournament.j3, if_pos rfl, e1, Option.bind_some, hpos, wrap_nat (2 + pos n i j) (by omega), wrap_nat j (by omega)]
        rfl
      | false =>
        obtain ⟨ms, e1, e2, e3⟩ := beat_f hp.1 j i (by omega) hi (by omega)
        refine ⟨ms, part_step hp hij (by omega) e2 (fun a b _ _ => by
          rw [e3 a b, hd]
          by_cases c1 : a = i ∧ b = j
          · rw [if_neg (by omega), if_pos c1, if_pos c1]
          · by_cases c2 : a = j ∧ b = i
            · simp only [if_pos c2, if_neg c1]; rfl
            · simp only [if_neg c2, if_neg c1]), fun x hx => Ev.step (fun k => ?_) hx⟩
        rw [impl_ParseTournament.j3, if_neg (by decide), e1, Option.bind_some, hpos, wrap_nat (2 + pos n i j) (by omega), wrap_nat j (by omega)]
        rfl
    obtain ⟨ms, hm, hk⟩ := key
    obtain ⟨x, h1, h2⟩ := ih (j + 1) ms (by omega) (by omega) hm
    refine ⟨x, h1, Ev.step (fun k => ?_) (hk x h2)⟩
    rw [impl_ParseTournament.l1, if_pos (by omega)]
    by_cases c : ((2 + pos n i j : Nat) : Int) < (s.size : Int)
    · rw [if_pos c, if_pos (by omega), hb]
      rfl
    · rw [if_neg c, hb]
      have e : bt s ((2 + pos n i j : Nat) : Int) = 0 := by
        unfold bt
        rw [dif_neg (by omega)]
      rw [e]
      rfl
theorem iparse_l0 (s : ByteArray) (n : Nat) (hs : s.size ≤ 1048576) : ∀ d i ns, i + d = n → PartT n (okDig s) i (i + 1) ns →
    ∃ x, (∃ ms, BuiltT n (okDig s) ms ∧ x = parseAns s n ms) ∧ Ev (fun k => impl_ParseTournament.l0 k s ((2 + off n i : Nat) : Int) n i n (ints ns)) x := by
  intro d
  induction d with
  | zero =>
    intro i ns hi hp
    obtain rfl : i = n := by omega
    refine ⟨_, ⟨ns, part_end hp, rfl⟩, Ev.step (fun k => ?_) (Ev.now _)⟩
    rw [impl_ParseTournament.l0, if_neg (by omega), tournamentText_f hp.1, Option.bind_some]
    unfold parseAns
    simp only [ba_toList]
    split <;> rfl
  | succ d ih =>
    intro i ns hi hp
    have hn := hp.1.n8
    obtain ⟨x, h1, h2⟩ := iparse_l1 s n hs i (by omega) True (fun x => ∃ ms, BuiltT n (okDig s) ms ∧ x = parseAns s n ms) (fun ms hm => ih (i + 1) ms (by omega) (part_row hm)) (n - (i + 1)) (i + 1) ns (by omega) (by omega) hp
    refine ⟨x, h1, Ev.step (fun k => ?_) h2⟩
    rw [impl_ParseTournament.l0, if_pos (by omega), wrap_nat i (by omega)]
    have e : pos n i (i + 1) = off n i := by unfold pos; omega
    rw [e]
theorem textT_head (n : Nat) (ns : List Nat) : (textT n ns).getD 0 0 = 48 + (n : Int) ∧ 2 ≤ (textT n ns).length := by simp [textT]
theorem rowT_dig (ns : List Nat) (i : Nat) : ∀ d j, ∀ x ∈ rowT ns i j d, x = 48 ∨ x = 49 := by
  intro d
  induction d with
  | zero => intro j x hx; cases hx
  | succ d ih =>
    intro j x hx
    rcases List.mem_cons.1 hx with rfl | hx
    · split
      · exact .inr rfl
      · exact .inl rfl
    · exact ih _ x hx
theorem rowsT_dig (n : Nat) (ns : List Nat) : ∀ d i, ∀ x ∈ rowsT n ns i d, x = 48 ∨ x = 49 := by
  intro d
  induction d with
  | zero => intro j x hx; cases hx
  | succ d ih =>
    intro j x hx
    rcases List.mem_append.1 hx with hx | hx
    · exact rowT_dig _ _ _ _ x hx
    · exact ih _ x hx
theorem textT_byte {n : Nat} (h : n ≤ 8) (ns : List Nat) : ∀ x ∈ textT n ns, 0 ≤ x ∧ x < 256 := by
  intro x hx
  rcases List.mem_append.1 hx with hx | hx
  · simp at hx; omega
  · have := rowsT_dig _ _ _ _ x hx; omega
theorem iparse (s : ByteArray) (hs : s.size ≤ 1048576) :
    (∃ n ns, IsText s n ns ∧ Ev (fun k => impl_ParseTournament.f k s) ((n : Int), ints ns, true)) ∨ ((∀ n ns, ¬ IsText s n ns) ∧ Ev (fun k => impl_ParseTournament.f k s) (0, [], false)) := by
  have hfail : Ev (fun k => impl_ParseTournament.j0 k s true) (0, [], false) := Ev.step (fun k => by rw [impl_ParseTournament.j0, if_pos rfl]) (Ev.now _)
  have hd : ∀ n ns, IsText s n ns → 2 ≤ s.size ∧ bt s 0 = 48 + (n : Int) ∧ 1 ≤ n ∧ n ≤ 8 := by
    intro n ns h
    have h8 := h.2.1.n8
    have := textT_head n ns
    have e : bt s ((0 : Nat) : Int) = 48 + (n : Int) := by rw [h.1, sn_bt _ (textT_byte h8 ns)]; exact this.1
    exact ⟨by rw [h.1, sn_size]; exact this.2, e, h.2.1.n1, h8⟩
  unfold impl_ParseTournament.f
  by_cases c1 : (s.size : Int) < 2
  · simp only [if_pos c1]
    exact .inr ⟨fun n ns h => by have := hd n ns h; omega, hfail⟩
  · simp only [if_neg c1, if_pos (show (0 : Int) < (s.size : Int) by omega)]
    by_cases c2 : bt s 0 < 49
    · simp only [if_pos c2]
      exact .inr ⟨fun n ns h => by have := hd n ns h; omega, hfail⟩
    · simp only [if_neg c2]
      by_cases c3 : bt s 0 > 56
      · simp only [show decide (bt s 0 > 56) = true by simpa using c3]
        exact .inr ⟨fun n ns h => by have := hd n ns h; omega, hfail⟩
      · simp only [show decide (bt s 0 > 56) = false by simpa using c3]
        obtain ⟨m, hm⟩ : ∃ m : Nat, bt s 0 = 48 + (m : Int) := ⟨(bt s 0 - 48).toNat, by omega⟩
        have hm1 : 1 ≤ m := by omega
        have hm8 : m ≤ 8 := by omega
        obtain ⟨x, ⟨ms, hb, rfl⟩, hx⟩ := iparse_l0 s m hs m 0 (List.replicate m 0) (by omega) (part_start _ hm1 hm8)
        have run : Ev (fun k => impl_ParseTournament.j0 k s false) (parseAns s m ms) := by
          refine Ev.step (fun k => ?_) hx
          have e : ((bt s 0) - 48) % 256 = (m : Int) := by omega
          rw [impl_ParseTournament.j0, if_neg (by decide), if_pos (by omega), e]
          unfold impl_newTournament.f
          rw [if_pos (by omega), if_pos (by omega), Option.bind_some, Int.toNat_natCast]
          have e2 : ints (List.replicate m 0) = List.replicate m 0 := by simp [ints]
          rw [e2]
          rfl
        by_cases c4 : strOfNums (textT m ms) = s
        · refine .inl ⟨m, ms, ⟨c4.symm, hb⟩, ?_⟩
          rw [parseAns, if_pos c4] at run
          exact run
        · rw [parseAns, if_neg c4] at run
          refine .inr ⟨fun n ns h => ?_, run⟩
          have h2 := hd n ns h
          obtain rfl : n = m := by omega
          have := built_uniq h.2 hb (fun _ _ => rfl)
          rw [this] at h
          exact c4 h.1.symm
theorem split_l0 (s : ByteArray) (hs : s.size ≤ 1048576) (c : Int) : ∀ d i from_ (parts : List ByteArray), i + d = s.size → from_ ≤ i → parts.length ≤ i → ∃ r, 1 ≤ r.length ∧ Ev (fun k => spec_l1Split.l0 k s c parts (from_ : Int) (i : Int)) r := by
  intro d
  induction d with
  | zero =>
    intro i from_ parts hi hf hp
    refine ⟨parts ++ [s.extract from_ s.size], by simp, Ev.step (fun k => ?_) (Ev.now _)⟩
    rw [spec_l1Split.l0, if_neg (by omega), if_pos (by omega), if_pos (by omega), if_pos (by omega)]
    rfl
  | succ d ih =>
    intro i from_ parts hi hf hp
    by_cases h : bt s (i : Int) = c
    · obtain ⟨r, h1, h2⟩ := ih (i + 1) (i + 1) (parts ++ [s.extract from_ i]) (by omega) (by omega) (by simp; omega)
      refine ⟨r, h1, Ev.step (fun k => ?_) h2⟩
      rw [spec_l1Split.l0, if_pos (by omega), if_pos (by omega), if_pos h, if_pos (by omega), if_pos (by omega), if_pos (by omega), if_pos (by omega), wrap_nat i (by omega)]
      rfl
    · obtain ⟨r, h1, h2⟩ := ih (i + 1) from_ parts (by omega) (by omega) (by omega)
      refine ⟨r, h1, Ev.step (fun k => ?_) h2⟩
      rw [spec_l1Split.l0, if_pos (by omega), if_pos (by omega), if_neg h, wrap_nat i (by omega)]
theorem split_no (s : ByteArray) (hs : s.size ≤ 1048576) (c : Int) (parts : List ByteArray) (from_ : Nat) (hp : parts.length ≤ 5) : ∀ d i, i + d = s.size → from_ ≤ i → (∀ j, i ≤ j → j < s.size → bt s (j : Int) ≠ c) → Ev (fun k => spec_l1Split.l0 k s c parts (from_ : Int) (i : Int)) (parts ++ [s.extract from_ s.size]) := by
  intro d
  induction d with
  | zero =>
    intro i hi hf hn
    refine Ev.step (fun k => ?_) (Ev.now _)
    rw [spec_l1Split.l0, if_neg (by omega), if_pos (by omega), if_pos (by omega), if_pos (by omega)]
    rfl
  | succ d ih =>
    intro i hi hf hn
    refine Ev.step (fun k => ?_) (ih (i + 1) (by omega) (by omega) (fun j h1 h2 => hn j (by omega) h2))
    rw [spec_l1Split.l0, if_pos (by omega), if_pos (by omega), if_neg (hn i (Nat.le_refl _) (by omega)), wrap_nat i (by omega)]
theorem split_text {n : Nat} {ns : List Nat} (h8 : n ≤ 8) (hs : (strOfNums (textT n ns)).size ≤ 1048576) : Ev (fun k => spec_l1Split.f k (strOfNums (textT n ns)) 58) [strOfNums [48 + (n : Int)], strOfNums (rowsT n ns 0 n)] := by
  have hb := textT_byte h8 ns
  have hsz : (strOfNums (textT n ns)).size = 2 + (rowsT n ns 0 n).length := by rw [sn_size]; simp [textT]; omega
  have b0 : bt (strOfNums (textT n ns)) ((0 : Nat) : Int) = 48 + (n : Int) := by rw [sn_bt _ hb]; simp [textT]
  have b1 : bt (strOfNums (textT n ns)) ((1 : Nat) : Int) = 58 := by rw [sn_bt _ hb]; simp [textT]
  have e0 : (strOfNums (textT n ns)).extract 0 1 = strOfNums [48 + (n : Int)] := by rw [sn_extract]; simp [textT]
  have e1 : (strOfNums (textT n ns)).extract 2 (strOfNums (textT n ns)).size = strOfNums (rowsT n ns 0 n) := by rw [sn_extract, sn_size, List.take_length]; simp [textT]
  unfold spec_l1Split.f
  have h := split_no (strOfNums (textT n ns)) hs 58 [strOfNums [48 + (n : Int)]] 2 (by simp) (rowsT n ns 0 n).length 2 (by omega) (Nat.le_refl _) (fun j h1 h2 => by
    rw [sn_bt _ hb]
    have e : (textT n ns).getD j 0 = (rowsT n ns 0 n).getD (j - 2) 0 := by
      obtain ⟨q, rfl⟩ : ∃ q, j = q + 2 := ⟨j - 2, by omega⟩
      rfl
    have hj : j - 2 < (rowsT n ns 0 n).length := by omega
    rw [e, List.getD_eq_getElem?_getD, List.getElem?_eq_getElem hj]
    have := rowsT_dig n ns _ _ _ (List.getElem_mem hj)
    simp only [Option.getD_some]
    omega)
  rw [e1] at h
  refine Ev.step (fun k => ?_) (Ev.step (f := fun k => spec_l1Split.l0 k (strOfNums (textT n ns)) 58 [strOfNums [48 + (n : Int)]] ((2 : Nat) : Int) ((2 : Nat) : Int)) (g := fun k => spec_l1Split.l0 k (strOfNums (textT n ns)) 58 [] 0 1) (fun k => ?_) h)
  · rw [spec_l1Split.l0, if_pos (by omega), if_pos (by omega), if_neg (by
      have : bt (strOfNums (textT n ns)) 0 = 48 + (n : Int) := b0
      rw [this]; omega), show wrap64 (0 + 1) = (1 : Int) by unfold wrap64; omega]
  · have : bt (strOfNums (textT n ns)) 1 = 58 := b1
    rw [spec_l1Split.l0, if_pos (by omega), if_pos (by omega), if_pos this, if_pos (by omega), if_pos (by omega), if_pos (by omega), if_pos (by simp)]
    rw [show (strOfNums (textT n ns)).extract (0 : Int).toNat (1 : Int).toNat = strOfNums [48 + (n : Int)] from e0, show wrap64 (1 + 1) = (2 : Int) by unfold wrap64; omega]
    rfl
theorem split_f (s : ByteArray) (hs : s.size ≤ 1048576) : ∃ r, 1 ≤ r.length ∧ Ev (fun k => spec_l1Split.f k s 58) r := by
  unfold spec_l1Split.f
  exact split_l0 s hs 58 s.size 0 0 [] (by omega) (Nat.le_refl _) (by simp)
theorem read_l0 (s : ByteArray) (hs : s.size ≤ 6) : ∀ d i (v : Int), i + d = s.size → ∃ r, Ev (fun k => spec_l1Read.l0 k s v (i : Int)) r := by
  intro d
  induction d with
  | zero =>
    intro i v hi
    refine ⟨v, Ev.step (fun k => ?_) (Ev.now _)⟩
    rw [spec_l1Read.l0, if_neg (by omega)]
  | succ d ih =>
    intro i v hi
    by_cases c1 : bt s (i : Int) < 48
    · refine ⟨-1, Ev.step (fun k => ?_) (Ev.now _)⟩
      rw [spec_l1Read.l0, if_pos (by omega), if_pos (by omega), if_pos c1]
    · by_cases c2 : bt s (i : Int) > 57
      · refine ⟨-1, Ev.step (fun k => ?_) (Ev.now _)⟩
        rw [spec_l1Read.l0, if_pos (by omega), if_pos (by omega), if_neg c1, if_pos c2]
      · obtain ⟨r, hr⟩ := ih (i + 1) (wrap64 ((wrap64 (10 * v)) + (((bt s (i : Int)) - 48) % 256))) (by omega)
        refine ⟨r, Ev.step (fun k => ?_) hr⟩
        rw [spec_l1Read.l0, if_pos (by omega), if_pos (by omega), if_neg c1, if_neg c2, wrap_nat i (by omega)]
theorem l1In_b (a b c : Int) : spec_l1In.f a b c = some (decide (b ≤ a ∧ a ≤ c)) := by
  unfold spec_l1In.f
  by_cases h : a ≥ b
  · rw [if_pos h]; congr 1; simp; omega
  · rw [if_neg h]; congr 1; simp; omega
theorem read_f (s : ByteArray) : ∃ r, Ev (fun k => spec_l1Read.f k s) r := by
  unfold spec_l1Read.f
  simp only [l1In_b, Option.bind_some]
  have hn : Ev (fun k => spec_l1Read.j0 k s true) (-1) := Ev.step (fun k => by rw [spec_l1Read.j0, if_pos rfl]) (Ev.now _)
  by_cases c : (1 : Int) ≤ (s.size : Int) ∧ (s.size : Int) ≤ 6
  · rw [show decide ((1 : Int) ≤ (s.size : Int) ∧ (s.size : Int) ≤ 6) = true by simpa using c]
    simp only [if_true, if_pos (show (0 : Int) < (s.size : Int) by omega)]
    obtain ⟨r, hr⟩ := read_l0 s (by omega) s.size 0 0 (by omega)
    have hy : Ev (fun k => spec_l1Read.j0 k s false) r := Ev.step (fun k => by rw [spec_l1Read.j0, if_neg (by decide)]; rfl) hr
    by_cases c2 : bt s 0 = 48
    · simp only [if_pos c2]
      cases decide ((s.size : Int) > 1) with
      | true => exact ⟨_, hn⟩
      | false => exact ⟨_, hy⟩
    · simp only [if_neg c2]
      exact ⟨_, hy⟩
  · rw [show decide ((1 : Int) ≤ (s.size : Int) ∧ (s.size : Int) ≤ 6) = false by simpa using c]
    simp only [Bool.false_eq_true, if_false]
    exact ⟨_, hn⟩
theorem read_one (n : Nat) (h1 : 1 ≤ n) (h8 : n ≤ 8) : Ev (fun k => spec_l1Read.f k (strOfNums [48 + (n : Int)])) (n : Int) := by
  have hz : (strOfNums [48 + (n : Int)]).size = 1 := by rw [sn_size]; rfl
  have hb : bt (strOfNums [48 + (n : Int)]) 0 = 48 + (n : Int) := sn_bt [48 + (n : Int)] (by intro x hx; simp at hx; omega) 0
  have hu : Ev (fun k => spec_l1Read.l0 k (strOfNums [48 + (n : Int)]) (n : Int) 1) (n : Int) := Ev.step (fun k => by rw [spec_l1Read.l0, if_neg (by omega)]) (Ev.now _)
  unfold spec_l1Read.f
  simp only [l1In_b, Option.bind_some, hz, hb]
  simp only [show decide ((1 : Int) ≤ ((1 : Nat) : Int) ∧ ((1 : Nat) : Int) ≤ 6) = true from rfl, if_true, if_pos (show (0 : Int) < ((1 : Nat) : Int) by omega), if_neg (show ¬ 48 + (n : Int) = 48 by omega)]
  refine Ev.step (fun k => by rw [spec_l1Read.j0, if_neg (by decide)]) (Ev.step (fun k => ?_) hu)
  rw [spec_l1Read.l0, hz, hb, if_pos (by omega), if_pos (by omega), if_neg (by omega), if_neg (by omega)]
  have e : wrap64 (wrap64 (10 * 0) + ((48 + (n : Int) - 48) % 256)) = (n : Int) := by unfold wrap64; omega
  rw [e, show wrap64 (0 + 1) = (1 : Int) by unfold wrap64; omega]
def dig (p : ByteArray) (i : Nat) : Bool := decide (bt p (i : Int) = 49)
theorem sparse_l1 (s : ByteArray) (parts : List ByteArray) (p : ByteArray) (hp1 : 1 < parts.length) (hpp : rdOf ByteArray.empty parts 1 = p) (n : Nat) (hz : p.size = off n n) (i : Nat) (hi : i < n) (r : Int × List Int × Bool → Prop)
    (hr : ∀ ns, PartT n (dig p) i n ns → ∃ x, r x ∧ Ev (fun k => spec_ParseTournament.l0 k s parts n ((off n (i + 1) : Nat) : Int) ((i + 1 : Nat) : Int) n (ints ns)) x) :
    ∀ d j ns, i < j → j + d = n → PartT n (dig p) i j ns → ∃ x, r x ∧ Ev (fun k => spec_ParseTournament.l1 k s parts n ((pos n i j : Nat) : Int) i j n (ints ns)) x := by
  intro d
  induction d with
  | zero =>
    intro j ns hij hj hp
    obtain rfl : j = n := by omega
    obtain ⟨x, h1, h2⟩ := hr ns hp
    refine ⟨x, h1, Ev.step (fun k => ?_) h2⟩
    have hn := hp.1.n8
    have e : off j (i + 1) = pos j i j := by rw [off]; rfl
    rw [spec_ParseTournament.l1, if_neg (by omega), wrap_nat i (by omega), e]
  | succ d ih =>
    intro j ns hij hj hp
    have hn := hp.1.n8
    have hl := hp.1.len
    have hpl := pos_lt hij (show j < n by omega)
    have hpl2 : pos n i j < 64 := by
      have := hpl
      rw [off_all hn] at this
      have : n * (n - 1) ≤ 8 * 7 := Nat.mul_le_mul hn (by omega)
      omega
    have hpos : pos n i (j + 1) = pos n i j + 1 := by unfold pos; omega
    obtain ⟨z1, z2⟩ := part_none hp hij (show j < n by omega)
    have key : ∃ ms, PartT n (dig p) i (j + 1) ms ∧ ∀ x, Ev (fun k => spec_ParseTournament.l1 k s parts n ((pos n i (j + 1) : Nat) : Int) i ((j + 1 : Nat) : Int) n (ints ms)) x →
        Ev (fun k => spec_ParseTournament.l1 k s parts n ((pos n i j : Nat) : Int) i j n (ints ns)) x := by
      by_cases hd : bt p ((pos n i j : Nat) : Int) = 49
      · have hd2 : dig p (pos n i j) = true := by simp [dig, hd]
        refine ⟨_, part_step hp hij (by omega) (sets_or hp.1 i j (by omega)) (fun a b _ _ => ?_), fun x hx => Ev.step (fun k => ?_) hx⟩
        · rw [nb_or _ _ (by omega), hd2]
          by_cases c1 : a = i ∧ b = j
          · rw [if_pos c1]; simp [c1]
          · rw [if_neg c1]
            have e1 : (decide (a = i) && decide (b = j)) = false := by simpa using c1
            rw [e1, Bool.or_false]
            by_cases c2 : a = j ∧ b = i
            · rw [if_pos c2, c2.1, c2.2, z2]; rfl
            · rw [if_neg c2]
        · rw [spec_ParseTournament.l1, if_pos (by omega), if_pos (by omega), if_pos (by omega), hpp, if_pos (by omega), if_pos hd, if_pos (by omega), if_pos (by rw [ints_length]; omega), if_pos (by omega), shl_one j (by omega), rd_ints, or_nat _ _ (hp.1.get62 i) (Nat.pow_lt_pow_right (by decide) (by omega)), ints_set, hpos, wrap_nat (pos n i j) (by omega), wrap_nat j (by omega)]
      · have hd2 : dig p (pos n i j) = false := by simp [dig, hd]
        refine ⟨_, part_step hp hij (by omega) (sets_or hp.1 j i (by omega)) (fun a b _ _ => ?_), fun x hx => Ev.step (fun k => ?_) hx⟩
        · rw [nb_or _ _ (by omega), hd2]
          by_cases c1 : a = i ∧ b = j
          · rw [if_pos c1, c1.1, c1.2, z1]
            simp; omega
          · rw [if_neg c1]
            by_cases c2 : a = j ∧ b = i
            · rw [if_pos c2]; simp [c2]
            · rw [if_neg c2]
              have e2 : (decide (a = j) && decide (b = i)) = false := by simpa using c2
              rw [e2, Bool.or_false]
        · rw [spec_ParseTournament.l1, if_pos (by omega), if_pos (by omega), if_pos (by omega), hpp, if_pos (by omega), if_neg hd, if_pos (by omega), if_pos (by rw [ints_length]; omega), if_pos (by omega), shl_one i (by omega), rd_ints, or_nat _ _ (hp.1.get62 j) (Nat.pow_lt_pow_right (by decide) (by omega)), ints_set, hpos, wrap_nat (pos n i j) (by omega), wrap_nat j (by omega)]
    obtain ⟨ms, hm, hk⟩ := key
    obtain ⟨x, h1, h2⟩ := ih (j + 1) ms (by omega) (by omega) hm
    exact ⟨x, h1, hk x h2⟩
theorem sparse_l0 (s : ByteArray) (parts : List ByteArray) (p : ByteArray) (hp1 : 1 < parts.length) (hpp : rdOf ByteArray.empty parts 1 = p) (n : Nat) (hz : p.size = off n n) : ∀ d i ns, i + d = n → PartT n (dig p) i (i + 1) ns →
    ∃ x, (∃ ms, BuiltT n (dig p) ms ∧ x = parseAns s n ms) ∧ Ev (fun k => spec_ParseTournament.l0 k s parts n ((off n i : Nat) : Int) i n (ints ns)) x := by
  intro d
  induction d with
  | zero =>
    intro i ns hi hp
    obtain rfl : i = n := by omega
    refine ⟨parseAns s i ns, ⟨ns, part_end hp, rfl⟩, ?_⟩
    refine Ev.step (f := fun k => (spec_scText.f k (i : Int) (ints ns)).bind fun t196 => (if t196.toList = s.toList then (some ((i : Int), ints ns, true)) else (some (0, ([] : List Int), false)))) (fun k => ?_) (Ev.bind (scText_f hp.1) ?_)
    · rw [spec_ParseTournament.l0, if_neg (by omega)]
    · unfold parseAns
      simp only [ba_toList]
      by_cases c : strOfNums (textT i ns) = s
      · simp only [if_pos c]; exact Ev.now _
      · simp only [if_neg c]; exact Ev.now _
  | succ d ih =>
    intro i ns hi hp
    have hn := hp.1.n8
    obtain ⟨x, h1, h2⟩ := sparse_l1 s parts p hp1 hpp n hz i (by omega) (fun x => ∃ ms, BuiltT n (dig p) ms ∧ x = parseAns s n ms) (fun ms hm => ih (i + 1) ms (by omega) (part_row hm)) (n - (i + 1)) (i + 1) ns (by omega) (by omega) hp
    refine ⟨x, h1, Ev.step (fun k => ?_) h2⟩
    rw [spec_ParseTournament.l0, if_pos (by omega), wrap_nat i (by omega)]
    have e : pos n i (i + 1) = off n i := by unfold pos; omega
    rw [e]
theorem rowsT_length (n : Nat) (ns : List Nat) : ∀ d i, i + d = n → (rowsT n ns i d).length + off n i = off n n := by
  intro d
  induction d with
  | zero => intro i hi; obtain rfl : i = n := by omega
            simp [rowsT]
  | succ d ih =>
    intro i hi
    have := ih (i + 1) (by omega)
    rw [off] at this
    rw [rowsT, List.length_append, rowT_length]
    omega
theorem sparse (s : ByteArray) (hs : s.size ≤ 1048576) :
    (∃ n ns, IsText s n ns ∧ Ev (fun k => spec_ParseTournament.f k s) ((n : Int), ints ns, true)) ∨ ((∀ n ns, ¬ IsText s n ns) ∧ Ev (fun k => spec_ParseTournament.f k s) (0, [], false)) := by
  obtain ⟨parts, hp1, hparts⟩ := split_f s hs
  obtain ⟨v, hv⟩ := read_f (rdOf ByteArray.empty parts 0)
  -- what a text's parts are
  have hd : ∀ n ns, IsText s n ns → parts = [strOfNums [48 + (n : Int)], strOfNums (rowsT n ns 0 n)] ∧ v = n ∧ 1 ≤ n ∧ n ≤ 8 ∧ (rowsT n ns 0 n).length = off n n ∧ ∀ q, dig (strOfNums (rowsT n ns 0 n)) q = okDig s q := by
    intro n ns h
    have h8 := h.2.1.n8
    have h1 := h.2.1.n1
    have e : parts = [strOfNums [48 + (n : Int)], strOfNums (rowsT n ns 0 n)] := by
      have := split_text (ns := ns) h8 (by rw [← h.1]; exact hs)
      rw [← h.1] at this
      exact Ev.uniq hparts this
    refine ⟨e, ?_, h1, h8, by have := rowsT_length n ns n 0 (by omega); simpa [off] using this, fun q => ?_⟩
    · subst e
      exact Ev.uniq hv (read_one n h1 h8)
    · unfold dig okDig
      rw [sn_bt _ (fun x hx => by have := rowsT_dig _ _ _ _ x hx; omega)]
      conv => rhs; rw [h.1]
      rw [sn_bt _ (textT_byte h8 ns)]
      have e : (textT n ns).getD (2 + q) 0 = (rowsT n ns 0 n).getD q 0 := by
        rw [Nat.add_comm]; rfl
      rw [e]
  unfold spec_ParseTournament.f
  have hfail : Ev (fun k => spec_ParseTournament.j0 k s parts v true) (0, [], false) := Ev.step (fun k => by rw [spec_ParseTournament.j0, if_pos rfl]) (Ev.now _)
  suffices hmain : (∃ n ns, IsText s n ns ∧ Ev (fun k => (if (parts.length : Int) = 2 then ((spec_l1In.f v 1 8).bind fun t190 => (if t190 = true then (if 1 < (parts.length : Int) then (spec_ParseTournament.j0 k s parts v (((rdOf ByteArray.empty parts 1).size : Int) != (wrap64 (Int.tdiv (wrap64 (v * (wrap64 (v - 1)))) 2)))) else (none)) else (spec_ParseTournament.j0 k s parts v true))) else (spec_ParseTournament.j0 k s parts v true))) ((n : Int), ints ns, true)) ∨ ((∀ n ns, ¬ IsText s n ns) ∧ Ev (fun k => (if (parts.length : Int) = 2 then ((spec_l1In.f v 1 8).bind fun t190 => (if t190 = true then (if 1 < (parts.length : Int) then (spec_ParseTournament.j0 k s parts v (((rdOf ByteArray.empty parts 1).size : Int) != (wrap64 (Int.tdiv (wrap64 (v * (wrap64 (v - 1)))) 2)))) else (none)) else (spec_ParseTournament.j0 k s parts v true))) else (spec_ParseTournament.j0 k s parts v true))) (0, [], false)) by
    have h0 : (0 : Int) < (parts.length : Int) := by omega
    rcases hmain with ⟨n, ns, h1, h2⟩ | ⟨h1, h2⟩
    · refine .inl ⟨n, ns, h1, Ev.bind hparts ?_⟩
      simp only [if_pos h0]
      exact Ev.bind hv h2
    · refine .inr ⟨h1, Ev.bind hparts ?_⟩
      simp only [if_pos h0]
      exact Ev.bind hv h2
  simp only [l1In_b, Option.bind_some]
  by_cases c1 : (parts.length : Int) = 2
  · simp only [if_pos c1]
    by_cases c2 : 1 ≤ v ∧ v ≤ 8
    · simp only [show decide (1 ≤ v ∧ v ≤ 8) = true by simpa using c2, if_true, if_pos (show (1 : Int) < (parts.length : Int) by omega)]
      obtain ⟨m, rfl⟩ : ∃ m : Nat, v = (m : Int) := ⟨v.toNat, by omega⟩
      have hm1 : 1 ≤ m := by omega
      have hm8 : m ≤ 8 := by omega
      have ew : wrap64 (Int.tdiv (wrap64 ((m : Int) * (wrap64 ((m : Int) - 1)))) 2) = ((off m m : Nat) : Int) := by
        rw [off_all hm8]
        obtain rfl | rfl | rfl | rfl | rfl | rfl | rfl | rfl : m = 1 ∨ m = 2 ∨ m = 3 ∨ m = 4 ∨ m = 5 ∨ m = 6 ∨ m = 7 ∨ m = 8 := by omega
        all_goals decide +kernel
      simp only [ew]
      by_cases c3 : (rdOf ByteArray.empty parts 1).size = off m m
      · have e3 : (((rdOf ByteArray.empty parts 1).size : Int) != ((off m m : Nat) : Int)) = false := by rw [c3]; simp
        simp only [e3]
        obtain ⟨x, ⟨ms, hb, rfl⟩, hx⟩ := sparse_l0 s parts (rdOf ByteArray.empty parts 1) (by omega) rfl m c3 m 0 (List.replicate m 0) (by omega) (part_start _ hm1 hm8)
        have run : Ev (fun k => spec_ParseTournament.j0 k s parts (m : Int) false) (parseAns s m ms) := by
          refine Ev.step (fun k => ?_) hx
          rw [spec_ParseTournament.j0, if_neg (by decide), if_pos (by omega), if_pos (by omega), Int.toNat_natCast]
          have e2 : ints (List.replicate m 0) = List.replicate m 0 := by simp [ints]
          rw [e2]
          rfl
        by_cases c4 : strOfNums (textT m ms) = s
        · rw [parseAns, if_pos c4] at run
          refine .inl ⟨m, ms, ⟨c4.symm, hb.1, fun a b ha hb' => ?_⟩, run⟩
          have hsp := split_text (ns := ms) hm8 (by rw [c4]; exact hs)
          rw [c4] at hsp
          have ep := Ev.uniq hparts hsp
          have e1 : rdOf ByteArray.empty parts 1 = strOfNums (rowsT m ms 0 m) := by rw [ep]; rfl
          have hdg : ∀ q, dig (rdOf ByteArray.empty parts 1) q = okDig s q := by
            intro q
            rw [e1]
            unfold dig okDig
            rw [sn_bt _ (fun x hx => by have := rowsT_dig _ _ _ _ x hx; omega)]
            conv => rhs; rw [← c4]
            rw [sn_bt _ (textT_byte hm8 ms)]
            have e : (textT m ms).getD (2 + q) 0 = (rowsT m ms 0 m).getD q 0 := by
              rw [Nat.add_comm]; rfl
            rw [e]
          rw [hb.2 a b ha hb', hdg, hdg]
        · rw [parseAns, if_neg c4] at run
          refine .inr ⟨fun n ns h => ?_, run⟩
          obtain ⟨e1, e2, e3, e4, e5, e6⟩ := hd n ns h
          obtain rfl : m = n := by omega
          have e7 : rdOf ByteArray.empty parts 1 = strOfNums (rowsT m ns 0 m) := by rw [e1]; rfl
          rw [e7] at hb
          have := built_uniq h.2 hb (fun q _ => (e6 q).symm)
          rw [this] at h
          exact c4 h.1.symm
      · have e3 : (((rdOf ByteArray.empty parts 1).size : Int) != ((off m m : Nat) : Int)) = true := by simp; omega
        simp only [e3]
        refine .inr ⟨fun n ns h => ?_, hfail⟩
        obtain ⟨e1, e2, _, _, e5, _⟩ := hd n ns h
        obtain rfl : m = n := by omega
        apply c3
        rw [e1]
        show (strOfNums (rowsT m ns 0 m)).size = _
        rw [sn_size, e5]
    · simp only [show decide (1 ≤ v ∧ v ≤ 8) = false by simpa using c2, Bool.false_eq_true, if_false]
      refine .inr ⟨fun n ns h => ?_, hfail⟩
      obtain ⟨_, e2, e3, e4, _⟩ := hd n ns h
      omega
  · simp only [if_neg c1]
    refine .inr ⟨fun n ns h => ?_, hfail⟩
    obtain ⟨e1, _⟩ := hd n ns h
    rw [e1] at c1
    exact c1 rfl
theorem parse_both (s : ByteArray) (hs : s.size ≤ 1048576) : ∃ r : Int × List Int × Bool, Ev (fun k => spec_ParseTournament.f k s) r ∧ Ev (fun k => impl_ParseTournament.f k s) r ∧ r.2.1.length ≤ 8 := by
  rcases sparse s hs with ⟨n, ns, h1, h2⟩ | ⟨h1, h2⟩
  · rcases iparse s hs with ⟨m, ms, g1, g2⟩ | ⟨g1, g2⟩
    · have e1 : n = m := by
        have a := textT_head n ns
        have b := textT_head m ms
        have c1 : bt s ((0 : Nat) : Int) = 48 + (n : Int) := by rw [h1.1, sn_bt _ (textT_byte h1.2.1.n8 ns)]; exact a.1
        have c2 : bt s ((0 : Nat) : Int) = 48 + (m : Int) := by rw [g1.1, sn_bt _ (textT_byte g1.2.1.n8 ms)]; exact b.1
        omega
      subst e1
      have e2 := built_uniq h1.2 g1.2 (fun _ _ => rfl)
      subst e2
      exact ⟨_, h2, g2, by show (ints ns).length ≤ 8; rw [ints_length, h1.2.1.len]; exact h1.2.1.n8⟩
    · exact absurd h1 (g1 n ns)
  · rcases iparse s hs with ⟨m, ms, g1, g2⟩ | ⟨g1, g2⟩
    · exact absurd g1 (h1 m ms)
    · exact ⟨_, h2, g2, by simp⟩
end Go.Proofs.YtfmpbflbkochgaaDoor.K
namespace Go.Proofs.YtfmpbflbkochgaaDoor.Pure
open Go.RowKit Go.Proofs.YtfmpbflbkochgaaDoorW.PrintWords Go.Proofs.YtfmpbflbkochgaaDoor.P Go.Proofs.YtfmpbflbkochgaaDoor.K
theorem FnExactParseTournament : ∀ (a : ByteArray), a.size ≤ 140737488351232 → ∃ k, laws_FnExactParseTournament.f k a = some true := by
  intro a _
  refine Ev.rounds (g := fun k => laws_FnExactParseTournament.f k a) ?_
  unfold laws_FnExactParseTournament.f
  refine Ev.ite (fun _ => Ev.now _) (fun h => ?_)
  obtain ⟨⟨n, m, ok⟩, hs, hi, hm⟩ := parse_both a (by omega)
  have hm : m.length ≤ 8 := hm
  have hm' : m.length ≤ BM := by simp only [BM]; omega
  have n2 : ¬ (1 + (m.length : Int) < 0) := by omega
  have b2 : (1 : Int) + m.length ≤ 4611686018427387904 := by omega
  refine Ev.bind hs (Ev.bind hi ?_)
  repeat' first
    | exact Ev.now true
    | refine Ev.bind hi ?_
    | refine Ev.bind (eqTournament_same _ _ hm') ?_
    | refine Ev.bind (markTournament_f _ m 1 hm' (by omega) b2) ?_
    | refine Ev.bind (heldTournament_f _ 1 m.length hm' (by omega) b2) ?_
    | simp only [if_true, bne_self_eq_false, Bool.false_eq_true, if_false, if_neg n2]
    | refine Ev.step (fun k => by first | rw [laws_FnExactParseTournament.j0] | rw [laws_FnExactParseTournament.j1]) ?_
end Go.Proofs.YtfmpbflbkochgaaDoor.Pure
namespace Go.Proofs.YtfmpbflbkochgaaDoor.fnExactParseTournament
open Go.ChangeShapes Go.WideShapes Go.ChangeAt Go.RowKit
open Go.ChangeMaps (open_string shut_string)
theorem own : ownKnob Tryd.prog.godebug = none := by kernel_rfl
theorem laidOut : laidOutB Tryd.prog = true := by kernel_rfl
theorem gTab : Tryd.prog.globalNamed "math/bits.deBruijn64tab" = some 1 := by kernel_rfl
theorem gTabType : (Tryd.prog.globals[1]?).map (·.type) = some 76 := by kernel_rfl
theorem cellsT : Tryd.prog.cellsOf 76 = 64 := by kernel_rfl
theorem cellsE : Tryd.prog.cellsOf 5 = 1 := by kernel_rfl
theorem table {W : World} (h : laidMetH Tryd.prog Rows.fnExactParseTournamentRow.laid W) : K.TabOK W := by
  have h2 : laidMet Tryd.prog [("math/bits.deBruijn32tab", Rows.laid_math_bits_deBruijn32tab), ("math/bits.deBruijn64tab", Rows.laid_math_bits_deBruijn64tab), ("internal/strconv.uint64pow10", Rows.laid_internal_strconv_uint64pow10)] W := h
  have h3 : laidMet Tryd.prog (("math/bits.deBruijn64tab", Lib.tabData .u8 K.zs64) :: [("internal/strconv.uint64pow10", Rows.laid_internal_strconv_uint64pow10)]) W := h2.tail
  have h4 := Lib.tabIs_of_head gTab gTabType Tryd.underlying76 Tryd.underlying5 cellsE cellsT h3
  intro j hj
  have h5 := h4.cell gTab j hj
  rw [h5, K.zs64_at j hj]
theorem contract (H : Type) (enc : TypeId × Value → H) (W : World) (base : Nat) (args : Array Value) (ds gs : List (DataW H)) (before : List MemPlace)
    (hval0 : ∀ (j : Nat) t v, Tryd.f4.params[j]? = some t → args[j]? = some v → Value.okWide Tryd.prog W .any base t v)
    (hW : DataW.Whole enc Tryd.prog Tryd.f4.params.toList Rows.fnExactParseTournamentSpec.vars false W args.toList ds gs before) (hsz0 : (DataW.weightsEach Tryd.prog (Tryd.f4.params.toList ++ Rows.fnExactParseTournamentSpec.plain.varTypes Tryd.prog) (ds ++ gs)).all (· ≤ reachBytes) = true) (hL : laidMetH Tryd.prog Rows.fnExactParseTournamentRow.laid W) :
    Calls Tryd.prog 4 args W fun e W' => ∃ v, e = .returned v ∧ Rows.fnExactParseTournamentSpec.post enc Tryd.prog Tryd.f4 false true false false W args v W' := by
  have hsz : (DataW.weightsEach Tryd.prog (Tryd.f4.params.toList ++ Rows.fnExactParseTournamentSpec.plain.varTypes Tryd.prog) (ds ++ gs)).all (· ≤ reachBytes) = true := hsz0
  have hval : ∀ (j : Nat) t v, Tryd.f4.params[j]? = some t → args[j]? = some v → Value.okWide Tryd.prog W .any base t v := hval0
  have hW' := hW
  obtain ⟨p, q, hA0, hV, rfl, hfz, hnd⟩ := hW
  have hA : DataW.TrodAll enc Tryd.prog W 0 (fun _ => true) true Tryd.f4.params.toList args.toList ds p := hA0
  rw [Tryd.params4] at hA hval hsz
  obtain ⟨v0, vs0, d0, ds0, p0, q0, hargs, rfl, rfl, h0, r0⟩ := trodAll_cons hA
  obtain ⟨rfl, rfl, rfl⟩ := trodAll_nil r0
  obtain rfl : args = #[v0] := by cases args; simp_all
  obtain ⟨rfl, rfl⟩ := trodVars_none hV
  obtain ⟨a0, rfl, rfl, rfl, y0⟩ := open_string Tryd.underlying9 (hval 0 9 v0 rfl rfl) h0
  have w0 : a0.size ≤ 140737488351232 := by
    have z := sized_string hsz (j := 0) (t := 9) rfl rfl
    rw [Array.length_toList] at z
    exact z
  clear hA0 hval0 hsz0 hsz
  obtain ⟨k, hk⟩ := Pure.FnExactParseTournament a0 w0
  refine (P.laws_FnExactParseTournament.calls k a0 true W  hk).mono fun e W' ⟨he, bel⟩ => ?_
  subst he
  exact ⟨_, rfl, _, _, _, [], _, [], hW', trodAll_mk1 (shut_bool Tryd.underlying4 _), (trodAll_cons_mk (shut_string Tryd.underlying9 y0) trodAll_mk0), rfl, bel.frame _, fun h => by cases h⟩
noncomputable def laidWorld (os : Os) : World :=
  { World.holding Tryd.prog os ⟨#[], #[], []⟩ with heap := ((((World.holding Tryd.prog os ⟨#[], #[], []⟩).heap.modify 0 fun | .cells _ t frozen => .cells #[.int .u8 0, .int .u8 1, .int .u8 28, .int .u8 2, .int .u8 29, .int .u8 14, .int .u8 24, .int .u8 3, .int .u8 30, .int .u8 22, .int .u8 20, .int .u8 15, .int .u8 25, .int .u8 17, .int .u8 4, .int .u8 8, .int .u8 31, .int .u8 27, .int .u8 13, .int .u8 23, .int .u8 21, .int .u8 19, .int .u8 16, .int .u8 7, .int .u8 26, .int .u8 12, .int .u8 18, .int .u8 6, .int .u8 11, .int .u8 5, .int .u8 10, .int .u8 9] t frozen | o => o).modify 1 fun | .cells _ t frozen => .cells #[.int .u8 0, .int .u8 1, .int .u8 56, .int .u8 2, .int .u8 57, .int .u8 49, .int .u8 28, .int .u8 3, .int .u8 61, .int .u8 58, .int .u8 42, .int .u8 50, .int .u8 38, .int .u8 29, .int .u8 17, .int .u8 4, .int .u8 62, .int .u8 47, .int .u8 59, .int .u8 36, .int .u8 45, .int .u8 43, .int .u8 51, .int .u8 22, .int .u8 53, .int .u8 39, .int .u8 33, .int .u8 30, .int .u8 24, .int .u8 18, .int .u8 12, .int .u8 5, .int .u8 63, .int .u8 55, .int .u8 48, .int .u8 27, .int .u8 60, .int .u8 41, .int .u8 37, .int .u8 16, .int .u8 46, .int .u8 35, .int .u8 44, .int .u8 21, .int .u8 52, .int .u8 32, .int .u8 23, .int .u8 11, .int .u8 54, .int .u8 26, .int .u8 40, .int .u8 15, .int .u8 34, .int .u8 20, .int .u8 31, .int .u8 10, .int .u8 25, .int .u8 14, .int .u8 19, .int .u8 9, .int .u8 13, .int .u8 8, .int .u8 7, .int .u8 6] t frozen | o => o).modify 2 fun | .cells _ t frozen => .cells #[.int .u64 1, .int .u64 10, .int .u64 100, .int .u64 1000, .int .u64 10000, .int .u64 100000, .int .u64 1000000, .int .u64 10000000, .int .u64 100000000, .int .u64 1000000000, .int .u64 10000000000, .int .u64 100000000000, .int .u64 1000000000000, .int .u64 10000000000000, .int .u64 100000000000000, .int .u64 1000000000000000, .int .u64 10000000000000000, .int .u64 100000000000000000, .int .u64 1000000000000000000, .int .u64 10000000000000000000] t frozen | o => o) }
theorem laid_met (os : Os) : laidMet Tryd.prog Rows.fnExactParseTournamentRow.laid ((laidWorld os).forCall (fun _ _ => 0) ⟨#[], #[.string ByteArray.empty], []⟩).memory :=
  laidMet_of_run' 8 (by kernel_rfl) (by kernel_rfl)
theorem reads (os : Os) {H : Type} (enc : TypeId × Value → H) : ∃ places, DataW.whole enc Tryd.prog ((laidWorld os).forCall (fun _ _ => 0) ⟨#[], #[.string ByteArray.empty], []⟩).memory Tryd.f4.params.toList Rows.fnExactParseTournamentSpec.vars false #[.string ByteArray.empty].toList 8 = some ([.lit (.string [])], [], places) :=
  ⟨[], by kernel_rfl⟩
set_option maxRecDepth 100000 in
theorem lifted (os : Os) (started : os.Started) (H : Type) (enc : TypeId × Value → H) (F : Stop.Interp) :
    ReturnsInHanded {} Tryd.checked os 4 .any ((OpenSpec.ofChange Rows.fnExactParseTournamentSpec).preRow enc Tryd.prog Tryd.f4 Rows.fnExactParseTournamentRow.domain false Rows.fnExactParseTournamentRow.laid) (((OpenSpec.ofChange Rows.fnExactParseTournamentSpec).at F).post enc Tryd.prog Tryd.f4 false true false false) := by
  obtain ⟨places, hx⟩ := reads os enc
  refine returnsInHanded_of_row (C := Tryd.checked) (s := OpenSpec.ofChange Rows.fnExactParseTournamentSpec) own started (by kernel_rfl) Tryd.func4
    (witness_row_at (enc := enc) (C := Tryd.checked) false (laidWorld os) #[.string ByteArray.empty] rfl (by kernel_rfl) (by kernel_rfl) (by kernel_rfl)
      (OpenSpec.preRow_of_cond 8 hx (by kernel_rfl) (fun k hk => by cases hk) (by kernel_rfl) (laid_met os))) ?_
  intro W base args ds gs before hval hW _ _ hsz hL _ _
  exact contract H enc W base args ds gs before hval hW hsz hL
set_option maxHeartbeats 4000000 in
theorem said : Rows.FnExactParseTournamentSaid :=
  OpenClaim.holds_of_cond 4 Tryd.f4 rfl rfl rfl rfl rfl rfl rfl ⟨rfl, rfl, rfl, rfl, rfl⟩ rfl rfl rfl rfl rfl (by kernel_rfl) Tryd.func4 (by kernel_rfl)
    (of_decide_eq_true (by kernel_rfl)) (by unfold Func.isWrapper; first | (rw [if_pos (by decide +kernel)]; kernel_rfl) | (rw [if_neg (by decide +kernel)]; exact ⟨rfl, rfl⟩))
    (fun os started H enc _ F => by rw [OpenClaim.pre_eq_preRow]; exact lifted os started H enc F)
theorem plain (f : FuncId) (fn : Func) (hf : Tryd.pinned.checked.prog.funcNamed "loop.example/g01113/laws.FnExactParseTournament" = some f) (hfn : Tryd.pinned.checked.prog.funcs[f]? = some fn) :
    false = Tryd.pinned.checked.prog.looks [] ∧ ∀ (j : Nat) t, fn.params[j]? = some t → Tryd.pinned.checked.prog.wantsStandIn t = false := by
  obtain rfl : f = 4 := Option.some.inj ((show Tryd.prog.funcNamed "loop.example/g01113/laws.FnExactParseTournament" = some 4 by kernel_rfl).symm.trans hf) |>.symm
  obtain rfl : fn = Tryd.f4 := (Option.some.inj (Tryd.func4.symm.trans hfn)).symm
  refine ⟨by kernel_rfl, fun j t ht => ?_⟩
  rw [Tryd.params4] at ht
  have hm := Array.mem_of_getElem? ht
  simp only [List.mem_toArray, List.mem_cons, List.not_mem_nil, or_false] at hm
  subst hm
  exact (show Tryd.prog.wantsStandIn 9 = false by kernel_rfl)
theorem card : Rows.FnExactParseTournamentCardSaid :=
  Claim7.holds_tied_plain_at .later [] _ _ _ _ said (fun _ h => by cases h) (by kernel_rfl) (fun _ h => by cases h) fnExactParseTournament_row_tie rfl ⟨rfl, rfl⟩ (by kernel_rfl) rfl plain (by kernel_rfl)
#print axioms card
end Go.Proofs.YtfmpbflbkochgaaDoor.fnExactParseTournament
namespace Go.Proofs.YtfmpbflbkochgaaDoor
theorem fnExactParseTournament_holds : Rows.FnExactParseTournamentCardSaid := fnExactParseTournament.card
end Go.Proofs.YtfmpbflbkochgaaDoor
