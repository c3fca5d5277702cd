/- Parts: contracts and plain lemmas for the law FnPathsOfSwitches, part 5 of 6 (what the Go functions answer). -/
import Derived.IntWalk
import Derived.Test.YtojcnapdalpnmaaCFnPathsOfSwitchesa
import Derived.Test.YtojcnapdalpnmaaCFnPathsOfSwitchesb
import Derived.Test.YtojcnapdalpnmaaCFnPathsOfSwitchesc
import Derived.Test.YtojcnapdalpnmaaCFnPathsOfSwitchesd
set_option linter.unusedVariables false
set_option linter.unusedSimpArgs false
namespace Go.Proofs.Ytojcnapdalpnmaa.P
open Go.RowKit Go.Proofs.YtojcnapdalpnmaaW.PrintWords Go.Proofs.YtojcnapdalpnmaaW.PrintLast Go.Proofs.YtojcnapdalpnmaaW.PrintMore
attribute [local go_sem] max2_int min2_int max_two min_two max_three min_three max_four min_four
mutual
def spec_l1Cur_grid.j0 : Nat → Int → Int → List Int → Int → Int → Option ((List (List Int)) × Int × Int)
 | 0, _, _, _, _, _ => none
 | k + 1, x3, x4, x1000, x1001, x1002 => (spec_l1Cur_one.f x1000 x1001 x1002 12).bind fun bt684 => (if bt684.1 = true then ((spec_l1Cur_pick.f x1000 bt684.2.1 bt684.2.2 2).bind fun bt687 => (spec_l1Cur_grid.j1 k x3 (wrap64 (6 + bt687.1)) x1000 bt687.2.1 bt687.2.2)) else (spec_l1Cur_grid.j1 k x3 x4 x1000 bt684.2.1 bt684.2.2))
def spec_l1Cur_grid.j1 : Nat → Int → Int → List Int → Int → Int → Option ((List (List Int)) × Int × Int)
 | 0, _, _, _, _, _ => none
 | k + 1, x3, x4, x1000, x1001, x1002 => spec_l1Cur_grid.l0 k x3 x4 ([] : List (List Int)) x1000 x1001 x1002
def spec_l1Cur_grid.l0 : Nat → Int → Int → List (List Int) → List Int → Int → Int → Option ((List (List Int)) × Int × Int)
 | 0, _, _, _, _, _, _ => none
 | k + 1, x3, x4, x5, x1000, x1001, x1002 => if x3 > 0 then (spec_l1Cur_grid.l1 k x3 x4 x5 ([] : List Int) x1000 x1001 x1002) else ((spec_l1Cur_pick.f x1000 x1001 x1002 16).bind fun bt699 => (if bt699.1 = 0 then ((spec_l1Cur_pick.f x1000 bt699.2.1 bt699.2.2 (x5.length : Int)).bind fun bt702 => ((spec_l1Cur_list.f k x1000 bt702.2.1 bt702.2.2 2).bind fun bt705 => (if 0 ≤ bt702.1 then (if bt702.1 < (x5.length : Int) then (some ((x5.set (bt702.1 : Int).toNat bt705.1), bt705.2.1, bt705.2.2)) else (none)) else (none)))) else (if bt699.1 = 1 then (some (([] : List (List Int)), bt699.2.1, bt699.2.2)) else (some (x5, bt699.2.1, bt699.2.2)))))
def spec_l1Cur_grid.l1 : Nat → Int → Int → List (List Int) → List Int → List Int → Int → Int → Option ((List (List Int)) × Int × Int)
 | 0, _, _, _, _, _, _, _ => none
 | k + 1, x3, x4, x5, x6, x1000, x1001, x1002 => if (x6.length : Int) < x4 then ((spec_l1Cur_pick.f x1000 x1001 x1002 2).bind fun bt690 => (if x6.length < 17592186044416 then (spec_l1Cur_grid.l1 k x3 x4 x5 (x6 ++ [bt690.1]) x1000 bt690.2.1 bt690.2.2) else (none))) else (if x5.length < 5864062014805 then (spec_l1Cur_grid.l0 k (wrap64 (x3 - 1)) x4 (x5 ++ [x6]) x1000 x1001 x1002) else (none))
end
def spec_l1Cur_grid.f (k : Nat) (s0_0 : List Int) (s0_1 : Int) (s0_2 : Int) : Option ((List (List Int)) × Int × Int) := (spec_l1Cur_pick.f s0_0 s0_1 s0_2 4).bind fun bt672 => ((spec_l1Cur_pick.f s0_0 bt672.2.1 bt672.2.2 4).bind fun bt675 => ((spec_l1Cur_one.f s0_0 bt675.2.1 bt675.2.2 12).bind fun bt678 => (if bt678.1 = true then ((spec_l1Cur_pick.f s0_0 bt678.2.1 bt678.2.2 2).bind fun bt681 => (spec_l1Cur_grid.j0 k (wrap64 (6 + bt681.1)) (wrap64 (1 + bt675.1)) s0_0 bt681.2.1 bt681.2.2)) else (spec_l1Cur_grid.j0 k (wrap64 (1 + bt672.1)) (wrap64 (1 + bt675.1)) s0_0 bt678.2.1 bt678.2.2))))
theorem spec_l1Cur_grid.mono_l : ∀ k, (∀ y0 y1 y2 y3 y4, LeO (spec_l1Cur_grid.j0 k y0 y1 y2 y3 y4) (spec_l1Cur_grid.j0 (k + 1) y0 y1 y2 y3 y4)) ∧ (∀ y0 y1 y2 y3 y4, LeO (spec_l1Cur_grid.j1 k y0 y1 y2 y3 y4) (spec_l1Cur_grid.j1 (k + 1) y0 y1 y2 y3 y4)) ∧ (∀ y0 y1 y2 y3 y4 y5, LeO (spec_l1Cur_grid.l0 k y0 y1 y2 y3 y4 y5) (spec_l1Cur_grid.l0 (k + 1) y0 y1 y2 y3 y4 y5)) ∧ (∀ y0 y1 y2 y3 y4 y5 y6, LeO (spec_l1Cur_grid.l1 k y0 y1 y2 y3 y4 y5 y6) (spec_l1Cur_grid.l1 (k + 1) y0 y1 y2 y3 y4 y5 y6))
 | 0 => ⟨fun _ _ _ _ _ r h => by simp [spec_l1Cur_grid.j0] at h, fun _ _ _ _ _ r h => by simp [spec_l1Cur_grid.j1] at h, fun _ _ _ _ _ _ r h => by simp [spec_l1Cur_grid.l0] at h, fun _ _ _ _ _ _ _ r h => by simp [spec_l1Cur_grid.l1] at h⟩
 | k + 1 => by
  obtain ⟨ih0, ih1, ih2, ih3⟩ := spec_l1Cur_grid.mono_l k
  refine ⟨?_, ?_, ?_, ?_⟩
  ·
   intro y0 y1 y2 y3 y4
   unfold spec_l1Cur_grid.j0
   repeat' first
   | (with_reducible exact ih0 _ _ _ _ _)
   | (with_reducible exact ih1 _ _ _ _ _)
   | (with_reducible exact ih2 _ _ _ _ _ _)
   | (with_reducible exact ih3 _ _ _ _ _ _ _)
   | (with_reducible exact spec_l1Cur_list.mono _ _ _ _ _)
   | (with_reducible exact LeO.refl _)
   | (with_reducible exact LeO.none _)
   | (with_reducible refine LeO.ite ?_ ?_)
   | (with_reducible refine LeO.bind ?_ (fun _ => ?_))
   | exact ih0 _ _ _ _ _
   | exact ih1 _ _ _ _ _
   | exact ih2 _ _ _ _ _ _
   | exact ih3 _ _ _ _ _ _ _
   | exact spec_l1Cur_list.mono _ _ _ _ _
   | exact LeO.none _
   | refine LeO.ite ?_ ?_
   | refine LeO.bind ?_ (fun _ => ?_)
  ·
   intro y0 y1 y2 y3 y4
   unfold spec_l1Cur_grid.j1
   repeat' first
   | (with_reducible exact ih0 _ _ _ _ _)
   | (with_reducible exact ih1 _ _ _ _ _)
   | (with_reducible exact ih2 _ _ _ _ _ _)
   | (with_reducible exact ih3 _ _ _ _ _ _ _)
   | (with_reducible exact spec_l1Cur_list.mono _ _ _ _ _)
   | (with_reducible exact LeO.refl _)
   | (with_reducible exact LeO.none _)
   | (with_reducible refine LeO.ite ?_ ?_)
   | (with_reducible refine LeO.bind ?_ (fun _ => ?_))
   | exact ih0 _ _ _ _ _
   | exact ih1 _ _ _ _ _
   | exact ih2 _ _ _ _ _ _
   | exact ih3 _ _ _ _ _ _ _
   | exact spec_l1Cur_list.mono _ _ _ _ _
   | exact LeO.none _
   | refine LeO.ite ?_ ?_
   | refine LeO.bind ?_ (fun _ => ?_)
  ·
   intro y0 y1 y2 y3 y4 y5
   unfold spec_l1Cur_grid.l0
   repeat' first
   | (with_reducible exact ih0 _ _ _ _ _)
   | (with_reducible exact ih1 _ _ _ _ _)
   | (with_reducible exact ih2 _ _ _ _ _ _)
   | (with_reducible exact ih3 _ _ _ _ _ _ _)
   | (with_reducible exact spec_l1Cur_list.mono _ _ _ _ _)
   | (with_reducible exact LeO.refl _)
   | (with_reducible exact LeO.none _)
   | (with_reducible refine LeO.ite ?_ ?_)
   | (with_reducible refine LeO.bind ?_ (fun _ => ?_))
   | exact ih0 _ _ _ _ _
   | exact ih1 _ _ _ _ _
   | exact ih2 _ _ _ _ _ _
   | exact ih3 _ _ _ _ _ _ _
   | exact spec_l1Cur_list.mono _ _ _ _ _
   | exact LeO.none _
   | refine LeO.ite ?_ ?_
   | refine LeO.bind ?_ (fun _ => ?_)
  ·
   intro y0 y1 y2 y3 y4 y5 y6
   unfold spec_l1Cur_grid.l1
   repeat' first
   | (with_reducible exact ih0 _ _ _ _ _)
   | (with_reducible exact ih1 _ _ _ _ _)
   | (with_reducible exact ih2 _ _ _ _ _ _)
   | (with_reducible exact ih3 _ _ _ _ _ _ _)
   | (with_reducible exact spec_l1Cur_list.mono _ _ _ _ _)
   | (with_reducible exact LeO.refl _)
   | (with_reducible exact LeO.none _)
   | (with_reducible refine LeO.ite ?_ ?_)
   | (with_reducible refine LeO.bind ?_ (fun _ => ?_))
   | exact ih0 _ _ _ _ _
   | exact ih1 _ _ _ _ _
   | exact ih2 _ _ _ _ _ _
   | exact ih3 _ _ _ _ _ _ _
   | exact spec_l1Cur_list.mono _ _ _ _ _
   | exact LeO.none _
   | refine LeO.ite ?_ ?_
   | refine LeO.bind ?_ (fun _ => ?_)
theorem spec_l1Cur_grid.mono : ∀ a0 a1 a2 k, LeO (spec_l1Cur_grid.f k a0 a1 a2) (spec_l1Cur_grid.f (k + 1) a0 a1 a2) := by
 intro a0 a1 a2 k
 obtain ⟨ih0, ih1, ih2, ih3⟩ := spec_l1Cur_grid.mono_l k
 unfold spec_l1Cur_grid.f
 repeat' first
   | (with_reducible exact ih0 _ _ _ _ _)
   | (with_reducible exact ih1 _ _ _ _ _)
   | (with_reducible exact ih2 _ _ _ _ _ _)
   | (with_reducible exact ih3 _ _ _ _ _ _ _)
   | (with_reducible exact spec_l1Cur_list.mono _ _ _ _ _)
   | (with_reducible exact LeO.refl _)
   | (with_reducible exact LeO.none _)
   | (with_reducible refine LeO.ite ?_ ?_)
   | (with_reducible refine LeO.bind ?_ (fun _ => ?_))
   | exact ih0 _ _ _ _ _
   | exact ih1 _ _ _ _ _
   | exact ih2 _ _ _ _ _ _
   | exact ih3 _ _ _ _ _ _ _
   | exact spec_l1Cur_list.mono _ _ _ _ _
   | exact LeO.none _
   | refine LeO.ite ?_ ?_
   | refine LeO.bind ?_ (fun _ => ?_)
set_option maxHeartbeats 8000000 in
set_option maxRecDepth 100000 in
theorem spec_l1Cur_grid.calls (k : Nat) (g : Nat) (s0_0 : List Int) (s0_1 : Int) (s0_2 : Int) (r1 : List (List Int)) (r2 : Int) (r3 : Int) (w0 w : World) (hI : IsS90 w0 w g s0_0 s0_1 s0_2) (hB : Below w0.heap.size w0 w) (h : spec_l1Cur_grid.f k s0_0 s0_1 s0_2 = some (r1, r2, r3)) :
  Calls Try.prog 104 #[.pointer (some ⟨g, 0, none⟩)] w fun e w' => ∃ v0_ : Value, e = .returned (v0_) ∧ Kd.S (Kd.slice 3 (Kd.int .i64)) 33 w' w.heap.size (fun _ => True) v0_ r1 ∧ IsS90 w0 w' g s0_0 r2 r3 ∧ Below w0.heap.size w0 w' ∧ KeepBut w w' g none := by
 have HI0 := Aside0.mk hI
 have HK := Aside0.mk (KeepBut.refl w g none)
 have HL := Aside0.mk hB.size
 clear hI
 have HW0 := Aside0.mk hB.size
 have HB := Aside0.mk hB
 clear hB
 have H : ((spec_l1Cur_pick.f s0_0 s0_1 s0_2 4).bind fun bt672 => ((spec_l1Cur_pick.f s0_0 bt672.2.1 bt672.2.2 4).bind fun bt675 => ((spec_l1Cur_one.f s0_0 bt675.2.1 bt675.2.2 12).bind fun bt678 => (if bt678.1 = true then ((spec_l1Cur_pick.f s0_0 bt678.2.1 bt678.2.2 2).bind fun bt681 => (spec_l1Cur_grid.j0 k (wrap64 (6 + bt681.1)) (wrap64 (1 + bt675.1)) s0_0 bt681.2.1 bt681.2.2)) else (spec_l1Cur_grid.j0 k (wrap64 (1 + bt672.1)) (wrap64 (1 + bt675.1)) s0_0 bt678.2.1 bt678.2.2))))) = some (r1, r2, r3) := h
 clear h
 replace H := Option.bind_eq_some_iff.mp H
 obtain ⟨⟨t672, t673, t674⟩, A20, H⟩ := H
 replace H : ((spec_l1Cur_pick.f s0_0 t673 t674 4).bind fun bt675 => ((spec_l1Cur_one.f s0_0 bt675.2.1 bt675.2.2 12).bind fun bt678 => (if bt678.1 = true then ((spec_l1Cur_pick.f s0_0 bt678.2.1 bt678.2.2 2).bind fun bt681 => (spec_l1Cur_grid.j0 k (wrap64 (6 + bt681.1)) (wrap64 (1 + bt675.1)) s0_0 bt681.2.1 bt681.2.2)) else (spec_l1Cur_grid.j0 k (wrap64 (1 + t672)) (wrap64 (1 + bt675.1)) s0_0 bt678.2.1 bt678.2.2)))) = some (r1, r2, r3) := H
 have A2 := Aside0.mk A20
 clear A20
 replace H := Option.bind_eq_some_iff.mp H
 obtain ⟨⟨t675, t676, t677⟩, A30, H⟩ := H
 replace H : ((spec_l1Cur_one.f s0_0 t676 t677 12).bind fun bt678 => (if bt678.1 = true then ((spec_l1Cur_pick.f s0_0 bt678.2.1 bt678.2.2 2).bind fun bt681 => (spec_l1Cur_grid.j0 k (wrap64 (6 + bt681.1)) (wrap64 (1 + t675)) s0_0 bt681.2.1 bt681.2.2)) else (spec_l1Cur_grid.j0 k (wrap64 (1 + t672)) (wrap64 (1 + t675)) s0_0 bt678.2.1 bt678.2.2))) = some (r1, r2, r3) := H
 have A3 := Aside0.mk A30
 clear A30
 replace H := Option.bind_eq_some_iff.mp H
 obtain ⟨⟨t678, t679, t680⟩, A40, H⟩ := H
 replace H : (if t678 = true then ((spec_l1Cur_pick.f s0_0 t679 t680 2).bind fun bt681 => (spec_l1Cur_grid.j0 k (wrap64 (6 + bt681.1)) (wrap64 (1 + t675)) s0_0 bt681.2.1 bt681.2.2)) else (spec_l1Cur_grid.j0 k (wrap64 (1 + t672)) (wrap64 (1 + t675)) s0_0 t679 t680)) = some (r1, r2, r3) := H
 have A4 := Aside0.mk A40
 clear A40
 have HC5 := Aside0.mk H
 clear H
 go_enter Try.func104, Try.ntmps104
 go_upto_if 14 with (first | ((with_reducible refine gate_callee (f := 106) rfl ?_); refine goesL_ (some 8) rfl rfl Try.func106 (by kernel_rfl) rfl #[.pointer (some ⟨g, 0, none⟩), .int .i64 4] rfl (by (try simp only [List.map_toArray, List.map_cons, List.map_nil]); first | done | rfl) ?_; (with_reducible refine (spec_l1Cur_pick.calls g s0_0 s0_1 s0_2 4 t672 t673 t674 w0 _ ?side1 ?side2 A2.out).mono ?_); (case side1 => repeat (first | (with_reducible first | exact HI0.out | apply IsS90.alloc | apply IsS90.drewN | apply IsS90.drew | apply IsS90.set_1 | apply IsS90.set_2) | exact HI0.out)); (case side2 => repeat (first | (with_reducible first | exact HB.out | apply below_alloc | apply pw_below_drewN | apply below_drew1 | refine below_set ?_ (IsS90.ge HI0.out)) | exact HB.out)); rintro e w6 ⟨rfl, hi, hb, hk⟩; refine ⟨_, rfl, ?_⟩; have n0_ := Aside0.mk (KeepBut.trans (by repeat (first | (with_reducible first | exact HK.out | apply KeepBut.set_ | apply keep_drewN | apply keep_drew | apply keep_alloc) | exact HK.out)) hk (.inl rfl)); have n1_ := Aside0.mk (hb); have n2_ := Aside0.mk (hi); clear HK; clear HB; clear HI0; have HK := n0_; have HB := n1_; have HI0 := n2_; clear n0_ n1_ n2_; (try clear hb); (try clear hb2); (try clear hk); (try clear hi)) | ((with_reducible refine gate_callee (f := 106) rfl ?_); refine goesL_ (some 11) rfl rfl Try.func106 (by kernel_rfl) rfl #[.pointer (some ⟨g, 0, none⟩), .int .i64 4] rfl (by (try simp only [List.map_toArray, List.map_cons, List.map_nil]); first | done | rfl) ?_; (with_reducible refine (spec_l1Cur_pick.calls g s0_0 t673 t674 4 t675 t676 t677 w0 _ ?side1 ?side2 A3.out).mono ?_); (case side1 => repeat (first | (with_reducible first | exact HI0.out | apply IsS90.alloc | apply IsS90.drewN | apply IsS90.drew | apply IsS90.set_1 | apply IsS90.set_2) | exact HI0.out)); (case side2 => repeat (first | (with_reducible first | exact HB.out | apply below_alloc | apply pw_below_drewN | apply below_drew1 | refine below_set ?_ (IsS90.ge HI0.out)) | exact HB.out)); rintro e w7 ⟨rfl, hi, hb, hk⟩; refine ⟨_, rfl, ?_⟩; have n0_ := Aside0.mk (KeepBut.trans (by repeat (first | (with_reducible first | exact HK.out | apply KeepBut.set_ | apply keep_drewN | apply keep_drew | apply keep_alloc) | exact HK.out)) hk (.inl rfl)); have n1_ := Aside0.mk (hb); have n2_ := Aside0.mk (hi); clear HK; clear HB; clear HI0; have HK := n0_; have HB := n1_; have HI0 := n2_; clear n0_ n1_ n2_; (try clear hb); (try clear hb2); (try clear hk); (try clear hi)) | ((with_reducible refine gate_callee (f := 105) rfl ?_); refine goesL_ (some 14) rfl rfl Try.func105 (by kernel_rfl) rfl #[.pointer (some ⟨g, 0, none⟩), .int .i64 12] rfl (by (try simp only [List.map_toArray, List.map_cons, List.map_nil]); first | done | rfl) ?_; (with_reducible refine (spec_l1Cur_one.calls g s0_0 t676 t677 12 t678 t679 t680 w0 _ ?side1 ?side2 A4.out).mono ?_); (case side1 => repeat (first | (with_reducible first | exact HI0.out | apply IsS90.alloc | apply IsS90.drewN | apply IsS90.drew | apply IsS90.set_1 | apply IsS90.set_2) | exact HI0.out)); (case side2 => repeat (first | (with_reducible first | exact HB.out | apply below_alloc | apply pw_below_drewN | apply below_drew1 | refine below_set ?_ (IsS90.ge HI0.out)) | exact HB.out)); rintro e w8 ⟨rfl, hi, hb, hk⟩; refine ⟨_, rfl, ?_⟩; have n0_ := Aside0.mk (KeepBut.trans (by repeat (first | (with_reducible first | exact HK.out | apply KeepBut.set_ | apply keep_drewN | apply keep_drew | apply keep_alloc) | exact HK.out)) hk (.inl rfl)); have n1_ := Aside0.mk (hb); have n2_ := Aside0.mk (hi); clear HK; clear HB; clear HI0; have HK := n0_; have HB := n1_; have HI0 := n2_; clear n0_ n1_ n2_; (try clear hb); (try clear hb2); (try clear hk); (try clear hi)))
 (try simp only [Act.put, List.setIfInBounds_toArray, List.set_cons_zero, List.set_cons_succ])
 go_cut [3] (fun v3 wc => ∃ (kq : Nat) (x3_4 : Int) (x1001_4 : Int) (x1002_4 : Int), v3 = .int .i64 x3_4 ∧ Aside0 (spec_l1Cur_grid.j0 kq x3_4 (wrap64 (1 + t675)) s0_0 x1001_4 x1002_4 = some (r1, r2, r3)) ∧ Aside0 (kq ≤ k) ∧ Aside0 (IsS90 w0 wc g s0_0 x1001_4 x1002_4) ∧ Aside0 (KeepBut w wc g none) ∧ Aside0 (Below w0.heap.size w0 wc))
 case first =>
  have H := HC5.out
  clear HC5
  by_cases c9 : t678 = true
  ·
   subst c9
   have H1 : ((spec_l1Cur_pick.f s0_0 t679 t680 2).bind fun bt681 => (spec_l1Cur_grid.j0 k (wrap64 (6 + bt681.1)) (wrap64 (1 + t675)) s0_0 bt681.2.1 bt681.2.2)) = some (r1, r2, r3) := by rw [if_pos rfl] at H; exact H
   clear H
   have H := H1
   clear H1
   replace H := Option.bind_eq_some_iff.mp H
   obtain ⟨⟨t681, t682, t683⟩, A100, H⟩ := H
   replace H : (spec_l1Cur_grid.j0 k (wrap64 (6 + t681)) (wrap64 (1 + t675)) s0_0 t682 t683) = some (r1, r2, r3) := H
   have A10 := Aside0.mk A100
   clear A100
   have H' := Aside0.mk H
   clear H
   go_wp2_with (first | ((with_reducible refine gate_callee (f := 106) rfl ?_); refine goesL_ (some 16) rfl rfl Try.func106 (by kernel_rfl) rfl #[.pointer (some ⟨g, 0, none⟩), .int .i64 2] rfl (by (try simp only [List.map_toArray, List.map_cons, List.map_nil]); first | done | rfl) ?_; (with_reducible refine (spec_l1Cur_pick.calls g s0_0 t679 t680 2 t681 t682 t683 w0 _ ?side1 ?side2 A10.out).mono ?_); (case side1 => repeat (first | (with_reducible first | exact HI0.out | apply IsS90.alloc | apply IsS90.drewN | apply IsS90.drew | apply IsS90.set_1 | apply IsS90.set_2) | exact HI0.out)); (case side2 => repeat (first | (with_reducible first | exact HB.out | apply below_alloc | apply pw_below_drewN | apply below_drew1 | refine below_set ?_ (IsS90.ge HI0.out)) | exact HB.out)); rintro e w11 ⟨rfl, hi, hb, hk⟩; refine ⟨_, rfl, ?_⟩; have n0_ := Aside0.mk (KeepBut.trans (by repeat (first | (with_reducible first | exact HK.out | apply KeepBut.set_ | apply keep_drewN | apply keep_drew | apply keep_alloc) | exact HK.out)) hk (.inl rfl)); have n1_ := Aside0.mk (hb); have n2_ := Aside0.mk (hi); clear HK; clear HB; clear HI0; have HK := n0_; have HB := n1_; have HI0 := n2_; clear n0_ n1_ n2_; (try clear hb); (try clear hb2); (try clear hk); (try clear hi)))
   go_meet
   case rel => exact ⟨_, (wrap64 (6 + t681)), (t682), (t683), (by first | rfl | (simp; done) | (simp [*]; done)), H', ⟨by first | omega | exact Nat.le_refl _⟩, ⟨by repeat (first | (with_reducible first | exact HI0.out | apply IsS90.alloc | apply IsS90.drewN | apply IsS90.drew | apply IsS90.set_1 | apply IsS90.set_2) | exact HI0.out)⟩, ⟨by repeat (first | (with_reducible first | exact HK.out | apply KeepBut.set_ | apply keep_drewN | apply keep_drew | apply keep_alloc) | exact HK.out)⟩, ⟨by repeat (first | (with_reducible first | exact HB.out | apply below_alloc | apply pw_below_drewN | apply below_drew1 | refine below_set ?_ (IsS90.ge HI0.out)) | exact HB.out)⟩⟩
  ·
   replace c9 := Bool.eq_false_iff.mpr c9
   subst c9
   have H1 : (spec_l1Cur_grid.j0 k (wrap64 (1 + t672)) (wrap64 (1 + t675)) s0_0 t679 t680) = some (r1, r2, r3) := by rw [if_neg (show ¬ (false = true) by decide)] at H; exact H
   clear H
   have H := H1
   clear H1
   have H' := Aside0.mk H
   clear H
   go_wp2
   go_meet
   case rel => exact ⟨_, (wrap64 (1 + t672)), (t679), (t680), (by first | rfl | (simp; done) | (simp [*]; done)), H', ⟨by first | omega | exact Nat.le_refl _⟩, ⟨by repeat (first | (with_reducible first | exact HI0.out | apply IsS90.alloc | apply IsS90.drewN | apply IsS90.drew | apply IsS90.set_1 | apply IsS90.set_2) | exact HI0.out)⟩, ⟨by repeat (first | (with_reducible first | exact HK.out | apply KeepBut.set_ | apply keep_drewN | apply keep_drew | apply keep_alloc) | exact HK.out)⟩, ⟨by repeat (first | (with_reducible first | exact HB.out | apply below_alloc | apply pw_below_drewN | apply below_drew1 | refine below_set ?_ (IsS90.ge HI0.out)) | exact HB.out)⟩⟩
 case rest =>
  clear HC5
  try clear c1
  try clear p2
  try clear p6
  try clear c9
  try clear c10
  obtain ⟨kq, x3_4, x1001_4, x1002_4, rfl, HA, HJ4, HI0, HK, HB⟩ := hcut
  cases kq with
  | zero => exact absurd HA.out (by simp [spec_l1Cur_grid.j0])
  | succ kj4 =>
   have H := HA.out
   clear HA
   simp only [spec_l1Cur_grid.j0] at H
   replace H := Option.bind_eq_some_iff.mp H
   obtain ⟨⟨t684, t685, t686⟩, A120, H⟩ := H
   replace H : (if t684 = true then ((spec_l1Cur_pick.f s0_0 t685 t686 2).bind fun bt687 => (spec_l1Cur_grid.j1 kj4 x3_4 (wrap64 (6 + bt687.1)) s0_0 bt687.2.1 bt687.2.2)) else (spec_l1Cur_grid.j1 kj4 x3_4 (wrap64 (1 + t675)) s0_0 t685 t686)) = some (r1, r2, r3) := H
   have A12 := Aside0.mk A120
   clear A120
   have HC13 := Aside0.mk H
   clear H
   go_upto_if 19 with (first | ((with_reducible refine gate_callee (f := 105) rfl ?_); refine goesL_ (some 19) rfl rfl Try.func105 (by kernel_rfl) rfl #[.pointer (some ⟨g, 0, none⟩), .int .i64 12] rfl (by (try simp only [List.map_toArray, List.map_cons, List.map_nil]); first | done | rfl) ?_; (with_reducible refine (spec_l1Cur_one.calls g s0_0 x1001_4 x1002_4 12 t684 t685 t686 w0 _ ?side1 ?side2 A12.out).mono ?_); (case side1 => repeat (first | (with_reducible first | exact HI0.out | apply IsS90.alloc | apply IsS90.drewN | apply IsS90.drew | apply IsS90.set_1 | apply IsS90.set_2) | exact HI0.out)); (case side2 => repeat (first | (with_reducible first | exact HB.out | apply below_alloc | apply pw_below_drewN | apply below_drew1 | refine below_set ?_ (IsS90.ge HI0.out)) | exact HB.out)); rintro e w14 ⟨rfl, hi, hb, hk⟩; refine ⟨_, rfl, ?_⟩; have n0_ := Aside0.mk (KeepBut.trans (by repeat (first | (with_reducible first | exact HK.out | apply KeepBut.set_ | apply keep_drewN | apply keep_drew | apply keep_alloc) | exact HK.out)) hk (.inl rfl)); have n1_ := Aside0.mk (hb); have n2_ := Aside0.mk (hi); clear HK; clear HB; clear HI0; have HK := n0_; have HB := n1_; have HI0 := n2_; clear n0_ n1_ n2_; (try clear hb); (try clear hb2); (try clear hk); (try clear hi)))
   (try simp only [Act.put, List.setIfInBounds_toArray, List.set_cons_zero, List.set_cons_succ])
   go_cut [4] (fun v4 wc => ∃ (kq : Nat) (x4_12 : Int) (x1001_12 : Int) (x1002_12 : Int), v4 = .int .i64 x4_12 ∧ Aside0 (spec_l1Cur_grid.j1 kq x3_4 x4_12 s0_0 x1001_12 x1002_12 = some (r1, r2, r3)) ∧ Aside0 (kq ≤ kj4) ∧ Aside0 (IsS90 w0 wc g s0_0 x1001_12 x1002_12) ∧ Aside0 (KeepBut w wc g none) ∧ Aside0 (Below w0.heap.size w0 wc))
   case first =>
    have H := HC13.out
    clear HC13
    by_cases c15 : t684 = true
    ·
     subst c15
     have H1 : ((spec_l1Cur_pick.f s0_0 t685 t686 2).bind fun bt687 => (spec_l1Cur_grid.j1 kj4 x3_4 (wrap64 (6 + bt687.1)) s0_0 bt687.2.1 bt687.2.2)) = some (r1, r2, r3) := by rw [if_pos rfl] at H; exact H
     clear H
     have H := H1
     clear H1
     replace H := Option.bind_eq_some_iff.mp H
     obtain ⟨⟨t687, t688, t689⟩, A160, H⟩ := H
     replace H : (spec_l1Cur_grid.j1 kj4 x3_4 (wrap64 (6 + t687)) s0_0 t688 t689) = some (r1, r2, r3) := H
     have A16 := Aside0.mk A160
     clear A160
     have H' := Aside0.mk H
     clear H
     go_wp2_with (first | ((with_reducible refine gate_callee (f := 106) rfl ?_); refine goesL_ (some 21) rfl rfl Try.func106 (by kernel_rfl) rfl #[.pointer (some ⟨g, 0, none⟩), .int .i64 2] rfl (by (try simp only [List.map_toArray, List.map_cons, List.map_nil]); first | done | rfl) ?_; (with_reducible refine (spec_l1Cur_pick.calls g s0_0 t685 t686 2 t687 t688 t689 w0 _ ?side1 ?side2 A16.out).mono ?_); (case side1 => repeat (first | (with_reducible first | exact HI0.out | apply IsS90.alloc | apply IsS90.drewN | apply IsS90.drew | apply IsS90.set_1 | apply IsS90.set_2) | exact HI0.out)); (case side2 => repeat (first | (with_reducible first | exact HB.out | apply below_alloc | apply pw_below_drewN | apply below_drew1 | refine below_set ?_ (IsS90.ge HI0.out)) | exact HB.out)); rintro e w17 ⟨rfl, hi, hb, hk⟩; refine ⟨_, rfl, ?_⟩; have n0_ := Aside0.mk (KeepBut.trans (by repeat (first | (with_reducible first | exact HK.out | apply KeepBut.set_ | apply keep_drewN | apply keep_drew | apply keep_alloc) | exact HK.out)) hk (.inl rfl)); have n1_ := Aside0.mk (hb); have n2_ := Aside0.mk (hi); clear HK; clear HB; clear HI0; have HK := n0_; have HB := n1_; have HI0 := n2_; clear n0_ n1_ n2_; (try clear hb); (try clear hb2); (try clear hk); (try clear hi)))
     go_meet
     case rel => exact ⟨_, (wrap64 (6 + t687)), (t688), (t689), (by first | rfl | (simp; done) | (simp [*]; done)), H', ⟨by have := HJ4.out; first | omega | exact Nat.le_refl _⟩, ⟨by repeat (first | (with_reducible first | exact HI0.out | apply IsS90.alloc | apply IsS90.drewN | apply IsS90.drew | apply IsS90.set_1 | apply IsS90.set_2) | exact HI0.out)⟩, ⟨by repeat (first | (with_reducible first | exact HK.out | apply KeepBut.set_ | apply keep_drewN | apply keep_drew | apply keep_alloc) | exact HK.out)⟩, ⟨by repeat (first | (with_reducible first | exact HB.out | apply below_alloc | apply pw_below_drewN | apply below_drew1 | refine below_set ?_ (IsS90.ge HI0.out)) | exact HB.out)⟩⟩
    ·
     replace c15 := Bool.eq_false_iff.mpr c15
     subst c15
     have H1 : (spec_l1Cur_grid.j1 kj4 x3_4 (wrap64 (1 + t675)) s0_0 t685 t686) = some (r1, r2, r3) := by rw [if_neg (show ¬ (false = true) by decide)] at H; exact H
     clear H
     have H := H1
     clear H1
     have H' := Aside0.mk H
     clear H
     go_wp2
     go_meet
     case rel => exact ⟨_, ((wrap64 (1 + t675))), (t685), (t686), (by first | rfl | (simp; done) | (simp [*]; done)), H', ⟨by have := HJ4.out; first | omega | exact Nat.le_refl _⟩, ⟨by repeat (first | (with_reducible first | exact HI0.out | apply IsS90.alloc | apply IsS90.drewN | apply IsS90.drew | apply IsS90.set_1 | apply IsS90.set_2) | exact HI0.out)⟩, ⟨by repeat (first | (with_reducible first | exact HK.out | apply KeepBut.set_ | apply keep_drewN | apply keep_drew | apply keep_alloc) | exact HK.out)⟩, ⟨by repeat (first | (with_reducible first | exact HB.out | apply below_alloc | apply pw_below_drewN | apply below_drew1 | refine below_set ?_ (IsS90.ge HI0.out)) | exact HB.out)⟩⟩
   case rest =>
    clear HC13
    try clear c1
    try clear p2
    try clear p6
    try clear c9
    try clear c10
    try clear c15
    try clear p2
    try clear p6
    obtain ⟨kq, x4_12, x1001_12, x1002_12, rfl, HA, HJ12, HI0, HK, HB⟩ := hcut
    cases kq with
    | zero => exact absurd HA.out (by simp [spec_l1Cur_grid.j1])
    | succ kj12 =>
     have H := HA.out
     clear HA
     simp only [spec_l1Cur_grid.j1] at H
     have H' := Aside0.mk H
     clear H
     go_wp2
     go_loopg [3, 5] kj12 (fun kq v3 v5 w' => ∃ (x3_3 : Int) (x5_3 : List (List Int)) (x1001_3 : Int) (x1002_3 : Int), v3 = .int .i64 x3_3 ∧ Aside0 (spec_l1Cur_grid.l0 kq x3_3 x4_12 x5_3 s0_0 x1001_3 x1002_3 = some (r1, r2, r3)) ∧ Aside0 (kq ≤ kj12) ∧ Aside0 (Kd.S (Kd.slice 3 (Kd.int .i64)) 33 w' w.heap.size (fun _ => True) v5 x5_3) ∧ Aside0 (IsS90 w0 w' g s0_0 x1001_3 x1002_3) ∧ Aside0 (KeepBut w w' g none) ∧ Aside0 (Below w0.heap.size w0 w'))
     case atStart => exact ⟨(x3_4), (([] : List (List Int))), (x1001_12), (x1002_12), (by first | rfl | (simp; done) | (simp [*]; done)), H', ⟨Nat.le_refl _⟩, ⟨by first | exact Kd.S_nil _ _ _ _ _ | exact Kd.N_nil _ _ _ _ _ | exact Kd.V_nil _ _ _ _ _ | exact Kd.Q_nil _ _ _ _ _ | exact Kd.R_nil _ _ _ _ _⟩, ⟨by repeat (first | (with_reducible first | exact HI0.out | apply IsS90.alloc | apply IsS90.drewN | apply IsS90.drew | apply IsS90.set_1 | apply IsS90.set_2) | exact HI0.out)⟩, ⟨by repeat (first | (with_reducible first | exact HK.out | apply KeepBut.set_ | apply keep_drewN | apply keep_drew | apply keep_alloc) | exact HK.out)⟩, ⟨by repeat (first | (with_reducible first | exact HB.out | apply below_alloc | apply pw_below_drewN | apply below_drew1 | refine below_set ?_ (IsS90.ge HI0.out)) | exact HB.out)⟩⟩
     case round =>
      clear H'
      try clear c1
      try clear p2
      try clear p6
      try clear c9
      try clear c10
      try clear c15
      try clear p2
      try clear p6
      obtain ⟨x3_3, x5_3, x1001_3, x1002_3, rfl, HA, HK3, HO_5, HI0, HK, HB⟩ := hrel
      cases gk with
      | zero => exact absurd HA.out (by simp [spec_l1Cur_grid.l0])
      | succ k3 =>
       have H := HA.out
       clear HA
       simp only [spec_l1Cur_grid.l0] at H
       by_cases c18 : x3_3 > 0
       ·
        rw [if_pos c18] at H
        have c18b0 : decide (0 < x3_3) = true := decide_eq_true c18
        clear c18
        have H' := Aside0.mk H
        clear H
        go_wp2
        go_loopg [6] k3 (fun kq v6 w' => ∃ (x6_4 : List Int) (x1001_4 : Int) (x1002_4 : Int), Aside0 (spec_l1Cur_grid.l1 kq x3_3 x4_12 x5_3 x6_4 s0_0 x1001_4 x1002_4 = some (r1, r2, r3)) ∧ Aside0 (kq ≤ k3) ∧ Aside0 (Kd.S (Kd.slice 3 (Kd.int .i64)) 33 w' w.heap.size (fun k_ => some k_ ≠ (v6 : Value).ownBlock) u5 x5_3) ∧ Aside0 (Kd.R (Kd.int .i64) 3 w' w.heap.size (fun _ => True) v6 x6_4) ∧ Aside0 (IsS90 w0 w' g s0_0 x1001_4 x1002_4) ∧ Aside0 (KeepBut w w' g none) ∧ Aside0 (Below w0.heap.size w0 w'))
        case atStart => exact ⟨(([] : List Int)), (x1001_3), (x1002_3), H', ⟨Nat.le_refl _⟩, ⟨by (with_reducible repeat (first | apply Kd.S_alloc | apply Kd.S_drewN | apply Kd.S_drew)); exact Kd.S_mono HO_5.out (fun _ hk => (by simp [Value.ownBlock]))⟩, ⟨by first | exact Kd.R_nil _ _ _ _ _ | exact Kd.N_nil _ _ _ _ _ | exact Kd.V_nil _ _ _ _ _ | exact Kd.Q_nil _ _ _ _ _ | exact Kd.S_nil _ _ _ _ _⟩, ⟨by repeat (first | (with_reducible first | exact HI0.out | apply IsS90.alloc | apply IsS90.drewN | apply IsS90.drew | apply IsS90.set_1 | apply IsS90.set_2) | exact HI0.out)⟩, ⟨by repeat (first | (with_reducible first | exact HK.out | apply KeepBut.set_ | apply keep_drewN | apply keep_drew | apply keep_alloc) | exact HK.out)⟩, ⟨by repeat (first | (with_reducible first | exact HB.out | apply below_alloc | apply pw_below_drewN | apply below_drew1 | refine below_set ?_ (IsS90.ge HI0.out)) | exact HB.out)⟩⟩
        case round =>
         clear H'
         try clear c1
         try clear p2
         try clear p6
         try clear c9
         try clear c10
         try clear c15
         try clear c18
         try clear c18b0
         try clear p2
         try clear p6
         obtain ⟨x6_4, x1001_4, x1002_4, HA, HK4, HO_5, HO_6, HI0, HK, HB⟩ := hrel
         cases gk with
         | zero => exact absurd HA.out (by simp [spec_l1Cur_grid.l1])
         | succ k4 =>
          have H := HA.out
          clear HA
          simp only [spec_l1Cur_grid.l1] at H
          by_cases c19 : (x6_4.length : Int) < x4_12
          ·
           rw [if_pos c19] at H
           have c19b0 : decide ((x6_4.length : Int) < x4_12) = true := decide_eq_true c19
           clear c19
           replace H := Option.bind_eq_some_iff.mp H
           obtain ⟨⟨t690, t691, t692⟩, A200, H⟩ := H
           replace H : (if x6_4.length < 17592186044416 then (spec_l1Cur_grid.l1 k4 x3_3 x4_12 x5_3 (x6_4 ++ [t690]) s0_0 t691 t692) else (none)) = some (r1, r2, r3) := H
           have A20 := Aside0.mk A200
           clear A200
           by_cases c21 : x6_4.length < 17592186044416
           ·
            rw [if_pos c21] at H
            have LMc21 := Aside0.mk c21
            clear c21
            obtain ⟨y693, hy693⟩ : ∃ y_ : List Int, y_ = (x6_4 ++ [t690]) := ⟨_, rfl⟩
            replace H : (spec_l1Cur_grid.l1 k4 x3_3 x4_12 x5_3 y693 s0_0 t691 t692) = some (r1, r2, r3) := by first | (rw [hy693]; with_reducible exact H) | (have H2_ := (Option.bind_some _ _).symm.trans H; rw [hy693]; with_reducible exact H2_) | (have H2_ := (Option.bind_some _ _).symm.trans H; with_reducible exact H2_) | with_reducible exact H | (rw [hy693]; exact H) | exact H
            have Ny693 := Aside0.mk hy693
            clear hy693
            have H' := Aside0.mk H
            clear H
            obtain ⟨Ao22, co22, eo22⟩ := Kd.R_slice HO_6.out
            subst eo22
            go_wp2_with (first | ((with_reducible refine gate_callee (f := 106) rfl ?_); refine goesL_ (some 33) rfl rfl Try.func106 (by kernel_rfl) rfl #[.pointer (some ⟨g, 0, none⟩), .int .i64 2] rfl (by (try simp only [List.map_toArray, List.map_cons, List.map_nil]); first | done | rfl) ?_; (with_reducible refine (spec_l1Cur_pick.calls g s0_0 x1001_4 x1002_4 2 t690 t691 t692 w0 _ ?side1 ?side2 A20.out).mono ?_); (case side1 => repeat (first | (with_reducible first | exact HI0.out | apply IsS90.alloc | apply IsS90.drewN | apply IsS90.drew | apply IsS90.set_1 | apply IsS90.set_2) | exact HI0.out)); (case side2 => repeat (first | (with_reducible first | exact HB.out | apply below_alloc | apply pw_below_drewN | apply below_drew1 | refine below_set ?_ (IsS90.ge HI0.out)) | exact HB.out)); rintro e w23 ⟨rfl, hi, hb, hk⟩; refine ⟨_, rfl, ?_⟩; have n0_ := Aside0.mk (Kd.S_mono (Kd.S_keep (IsS90.apartS (show IsS90 w0 _ g s0_0 x1001_4 x1002_4 from by repeat (first | (with_reducible first | exact HI0.out | apply IsS90.alloc | apply IsS90.drewN | apply IsS90.drew | apply IsS90.set_1 | apply IsS90.set_2) | exact HI0.out)) (by (with_reducible repeat (first | apply Kd.S_alloc | apply Kd.S_drewN | apply Kd.S_drew)); exact HO_5.out) (by decide)) hk (fun _ h => h.2)) (fun _ h => h.1)); have n1_ := Aside0.mk (Kd.R_mono (Kd.R_keep (IsS90.apart (show IsS90 w0 _ g s0_0 x1001_4 x1002_4 from by repeat (first | (with_reducible first | exact HI0.out | apply IsS90.alloc | apply IsS90.drewN | apply IsS90.drew | apply IsS90.set_1 | apply IsS90.set_2) | exact HI0.out)) (by (with_reducible repeat (first | apply Kd.R_alloc | apply Kd.R_drewN | apply Kd.R_drew)); exact HO_6.out) (by decide)) hk (fun _ h => h.2)) (fun _ h => h.1)); have n2_ := Aside0.mk (KeepBut.trans (by repeat (first | (with_reducible first | exact HK.out | apply KeepBut.set_ | apply keep_drewN | apply keep_drew | apply keep_alloc) | exact HK.out)) hk (.inl rfl)); have n3_ := Aside0.mk (hb); have n4_ := Aside0.mk (hi); clear HO_5; clear HO_6; clear HK; clear HB; clear HI0; have HO_5 := n0_; have HO_6 := n1_; have HK := n2_; have HB := n3_; have HI0 := n4_; clear n0_ n1_ n2_ n3_ n4_; (try clear hb); (try clear hb2); (try clear hk); (try clear hi)) | ((with_reducible refine gate_builtin (b := .append) (xs := #[.tmp 31, .tmp 34]) rfl ?_); at_builtin; refine Kd.R_append (Kd.int .i64) w.heap.size rfl (.tmp 31) (.tmp 34) 33 3 (.int .i64 0) 8 rfl Try.underlying33 info3 rfl (by decide) (by omega) (.slice Ao22 x6_4.length co22) x6_4 t690 [.int .i64 t690] (fun _ => True) (fun _ => False) rfl rfl ?aP (fun _ hk => hk.elim) ?aF ?aO (Below.refl _ _) ?aS ?aL ?_; (case aP => exact rfl); (case aF => exact (fun _ _ => trivial)); (case aO => exact (by (with_reducible repeat (first | apply Kd.R_alloc | apply Kd.R_drewN | apply Kd.R_drew)); exact HO_6.out)); (case aS => exact (keep_size (w := w) (g := g) (row := none) (by repeat (first | (with_reducible first | exact HK.out | apply KeepBut.set_ | apply keep_drewN | apply keep_drew | apply keep_alloc) | exact HK.out)))); (case aL => have := LMc21.out; omega); intro v694 w24 ho hb hg hat; rw [← Ny693.out] at ho; have n0_ := Aside0.mk (Kd.S_after (ok := (fun _ => True)) (by (with_reducible repeat (first | apply Kd.S_alloc | apply Kd.S_drewN | apply Kd.S_drew)); exact Kd.S_mono HO_5.out (fun _ hk => ⟨trivial, hk⟩)) hg hat); have n1_ := Aside0.mk (IsS90.grown (by repeat (first | (with_reducible first | exact HI0.out | apply IsS90.alloc | apply IsS90.drewN | apply IsS90.drew | apply IsS90.set_1 | apply IsS90.set_2) | exact HI0.out)) hg (IsS90.own_ne HI0.out HO_6.out (by decide))); have n2_ := Aside0.mk (below_weaken (by repeat (first | (with_reducible first | exact HB.out | apply below_alloc | apply pw_below_drewN | apply below_drew1 | refine below_set ?_ (IsS90.ge HI0.out)) | exact HB.out)) HL.out hb); have n3_ := Aside0.mk (KeepBut.trans (by repeat (first | (with_reducible first | exact HK.out | apply KeepBut.set_ | apply keep_drewN | apply keep_drew | apply keep_alloc) | exact HK.out)) (KeepBut.of_grown hg g) (Kd.R_base2 HO_6.out)); have n4_ := Aside0.mk (ho); clear HO_5; clear HI0; clear HB; clear HK; clear HO_6; have HO_5 := n0_; have HI0 := n1_; have HB := n2_; have HK := n3_; have HO695 := n4_; clear n0_ n1_ n2_ n3_ n4_; clear ho hb hg hat))
            go_roundg k4
            case measure => have := HJ4.out; have := HJ12.out; have := HK3.out; have := HK4.out; omega
            case rel => exact ⟨(y693), (t691), (t692), H', ⟨by have := HJ4.out; have := HJ12.out; have := HK3.out; have := HK4.out; omega⟩, ⟨by (with_reducible repeat (first | apply Kd.S_alloc | apply Kd.S_drewN | apply Kd.S_drew)); exact Kd.S_mono HO_5.out (fun _ hk => hk.2)⟩, ⟨by (with_reducible repeat (first | apply Kd.R_alloc | apply Kd.R_drewN | apply Kd.R_drew)); exact HO695.out⟩, ⟨by repeat (first | (with_reducible first | exact HI0.out | apply IsS90.alloc | apply IsS90.drewN | apply IsS90.drew | apply IsS90.set_1 | apply IsS90.set_2) | exact HI0.out)⟩, ⟨by repeat (first | (with_reducible first | exact HK.out | apply KeepBut.set_ | apply keep_drewN | apply keep_drew | apply keep_alloc) | exact HK.out)⟩, ⟨by repeat (first | (with_reducible first | exact HB.out | apply below_alloc | apply pw_below_drewN | apply below_drew1 | refine below_set ?_ (IsS90.ge HI0.out)) | exact HB.out)⟩⟩
           ·
            rw [if_neg c21] at H
            exact absurd H (by simp)
          ·
           rw [if_neg c19] at H
           have c19b0 : decide ((x6_4.length : Int) < x4_12) = false := decide_eq_false c19
           clear c19
           by_cases c25 : x5_3.length < 5864062014805
           ·
            rw [if_pos c25] at H
            have LMc25 := Aside0.mk c25
            clear c25
            obtain ⟨y696, hy696⟩ : ∃ y_ : List (List Int), y_ = (x5_3 ++ [x6_4]) := ⟨_, rfl⟩
            replace H : (spec_l1Cur_grid.l0 k4 (wrap64 (x3_3 - 1)) x4_12 y696 s0_0 x1001_4 x1002_4) = some (r1, r2, r3) := by first | (rw [hy696]; with_reducible exact H) | (have H2_ := (Option.bind_some _ _).symm.trans H; rw [hy696]; with_reducible exact H2_) | (have H2_ := (Option.bind_some _ _).symm.trans H; with_reducible exact H2_) | with_reducible exact H | (rw [hy696]; exact H) | exact H
            have Ny696 := Aside0.mk hy696
            clear hy696
            have H' := Aside0.mk H
            clear H
            obtain ⟨Ao26, co26, eo26⟩ := Kd.R_slice HO_6.out
            subst eo26
            go_wp2_with (first | ((with_reducible refine gate_builtin (b := .append) (xs := #[.tmp 36, .tmp 38]) rfl ?_); at_builtin; refine Kd.S_append (Kd.slice 3 (Kd.int .i64)) w.heap.size rfl (.tmp 36) (.tmp 38) 22 33 (.slice none 0 0) 24 rfl Try.underlying22 info33 rfl (by decide) (by omega) u5 x5_3 x6_4 [.slice Ao26 x6_4.length co26] (fun _ => True) (fun k_ => some k_ = (.slice Ao26 x6_4.length co26 : Value).ownBlock) rfl rfl ?aP (fun k_ hk_ => ((Kd.R_mono (ok' := fun k_ => ((fun _ => True)) k_ ∧ some k_ ≠ (u5 : Value).ownBlock) (Kd.R_apart' (HO_6.out) (Kd.S_typed HO_5.out) (by decide)) (fun k_ hk => ⟨trivial, hk.2⟩))).1 k_ hk_.symm) ?aF ?aO (Below.refl _ _) ?aS ?aL ?_; (case aP => exact Kd.M_row (Kd.R_mono (Kd.R_tight rfl (Kd.R_mono (ok' := fun k_ => ((fun _ => True)) k_ ∧ some k_ ≠ (u5 : Value).ownBlock) (Kd.R_apart' (HO_6.out) (Kd.S_typed HO_5.out) (by decide)) (fun k_ hk => ⟨trivial, hk.2⟩))) (fun _ h_ => h_))); (case aF => exact (fun _ _ => trivial)); (case aO => exact (by (with_reducible repeat (first | apply Kd.S_alloc | apply Kd.S_drewN | apply Kd.S_drew)); exact Kd.S_mono HO_5.out (fun k_ hk => ⟨trivial, fun e_ => hk e_⟩))); (case aS => exact (keep_size (w := w) (g := g) (row := none) (by repeat (first | (with_reducible first | exact HK.out | apply KeepBut.set_ | apply keep_drewN | apply keep_drew | apply keep_alloc) | exact HK.out)))); (case aL => have := LMc25.out; omega); intro v697 w27 ho hb hg hat; rw [← Ny696.out] at ho; have n0_ := Aside0.mk (IsS90.grown (by repeat (first | (with_reducible first | exact HI0.out | apply IsS90.alloc | apply IsS90.drewN | apply IsS90.drew | apply IsS90.set_1 | apply IsS90.set_2) | exact HI0.out)) hg (IsS90.own_neS HI0.out HO_5.out (by decide))); have n1_ := Aside0.mk (below_weaken (by repeat (first | (with_reducible first | exact HB.out | apply below_alloc | apply pw_below_drewN | apply below_drew1 | refine below_set ?_ (IsS90.ge HI0.out)) | exact HB.out)) HL.out hb); have n2_ := Aside0.mk (KeepBut.trans (by repeat (first | (with_reducible first | exact HK.out | apply KeepBut.set_ | apply keep_drewN | apply keep_drew | apply keep_alloc) | exact HK.out)) (KeepBut.of_grown hg g) (Kd.S_base2 HO_5.out)); have n3_ := Aside0.mk (ho); clear HI0; clear HB; clear HK; clear HO_5; clear HO_6; have HI0 := n0_; have HB := n1_; have HK := n2_; have HO698 := n3_; clear n0_ n1_ n2_ n3_; clear ho hb hg hat))
            go_roundg k4
            case measure => have := HJ4.out; have := HJ12.out; have := HK3.out; have := HK4.out; omega
            case rel => exact ⟨(wrap64 (x3_3 - 1)), (y696), (x1001_4), (x1002_4), (by first | rfl | (simp; done) | (simp [*]; done)), H', ⟨by have := HJ4.out; have := HJ12.out; have := HK3.out; have := HK4.out; omega⟩, ⟨by (with_reducible repeat (first | apply Kd.S_alloc | apply Kd.S_drewN | apply Kd.S_drew)); exact HO698.out⟩, ⟨by repeat (first | (with_reducible first | exact HI0.out | apply IsS90.alloc | apply IsS90.drewN | apply IsS90.drew | apply IsS90.set_1 | apply IsS90.set_2) | exact HI0.out)⟩, ⟨by repeat (first | (with_reducible first | exact HK.out | apply KeepBut.set_ | apply keep_drewN | apply keep_drew | apply keep_alloc) | exact HK.out)⟩, ⟨by repeat (first | (with_reducible first | exact HB.out | apply below_alloc | apply pw_below_drewN | apply below_drew1 | refine below_set ?_ (IsS90.ge HI0.out)) | exact HB.out)⟩⟩
           ·
            rw [if_neg c25] at H
            exact absurd H (by simp)
       ·
        rw [if_neg c18] at H
        have c18b0 : decide (0 < x3_3) = false := decide_eq_false c18
        clear c18
        replace H := Option.bind_eq_some_iff.mp H
        obtain ⟨⟨t699, t700, t701⟩, A280, H⟩ := H
        replace H : (if t699 = 0 then ((spec_l1Cur_pick.f s0_0 t700 t701 (x5_3.length : Int)).bind fun bt702 => ((spec_l1Cur_list.f k3 s0_0 bt702.2.1 bt702.2.2 2).bind fun bt705 => (if 0 ≤ bt702.1 then (if bt702.1 < (x5_3.length : Int) then (some ((x5_3.set (bt702.1 : Int).toNat bt705.1), bt705.2.1, bt705.2.2)) else (none)) else (none)))) else (if t699 = 1 then (some (([] : List (List Int)), t700, t701)) else (some (x5_3, t700, t701)))) = some (r1, r2, r3) := H
        have A28 := Aside0.mk A280
        clear A280
        by_cases c29 : t699 = 0
        ·
         rw [if_pos c29] at H
         have c29b0 : (t699 == 0) = true := beq_iff_eq.mpr c29
         have c29b1 : (t699 != 0) = false := bne_eq_false_iff_eq.mpr c29
         clear c29
         replace H := Option.bind_eq_some_iff.mp H
         obtain ⟨⟨t702, t703, t704⟩, A300, H⟩ := H
         replace H : ((spec_l1Cur_list.f k3 s0_0 t703 t704 2).bind fun bt705 => (if 0 ≤ t702 then (if t702 < (x5_3.length : Int) then (some ((x5_3.set (t702 : Int).toNat bt705.1), bt705.2.1, bt705.2.2)) else (none)) else (none))) = some (r1, r2, r3) := H
         have A30 := Aside0.mk A300
         clear A300
         replace H := Option.bind_eq_some_iff.mp H
         obtain ⟨⟨t705, t708, t709⟩, A310, H⟩ := H
         replace H : (if 0 ≤ t702 then (if t702 < (x5_3.length : Int) then (some ((x5_3.set (t702 : Int).toNat t705), t708, t709)) else (none)) else (none)) = some (r1, r2, r3) := H
         have A31 := Aside0.mk A310
         clear A310
         by_cases c32 : 0 ≤ t702
         ·
          rw [if_pos c32] at H
          have c32b0 : decide (0 ≤ t702) = true := decide_eq_true c32
          clear c32
          by_cases c33 : t702 < (x5_3.length : Int)
          ·
           rw [if_pos c33] at H
           have c33b0 : decide (t702 < (x5_3.length : Int)) = true := decide_eq_true c33
           clear c33
           obtain ⟨y710, hy710⟩ : ∃ y_ : List (List Int), y_ = (x5_3.set (t702 : Int).toNat t705) := ⟨_, rfl⟩
           replace H : (some (y710, t708, t709)) = some (r1, r2, r3) := by first | (rw [hy710]; with_reducible exact H) | (have H2_ := (Option.bind_some _ _).symm.trans H; rw [hy710]; with_reducible exact H2_) | (have H2_ := (Option.bind_some _ _).symm.trans H; with_reducible exact H2_) | with_reducible exact H | (rw [hy710]; exact H) | exact H
           have Ny710 := Aside0.mk hy710
           clear hy710
           simp only [Option.some.injEq, Prod.mk.injEq] at H
           obtain ⟨rfl, rfl, rfl⟩ := H
           go_wp2_with (first | ((with_reducible refine gate_callee (f := 106) rfl ?_); refine goesL_ (some 41) rfl rfl Try.func106 (by kernel_rfl) rfl #[.pointer (some ⟨g, 0, none⟩), .int .i64 16] rfl (by (try simp only [List.map_toArray, List.map_cons, List.map_nil]); first | done | rfl) ?_; (with_reducible refine (spec_l1Cur_pick.calls g s0_0 x1001_3 x1002_3 16 t699 t700 t701 w0 _ ?side1 ?side2 A28.out).mono ?_); (case side1 => repeat (first | (with_reducible first | exact HI0.out | apply IsS90.alloc | apply IsS90.drewN | apply IsS90.drew | apply IsS90.set_1 | apply IsS90.set_2) | exact HI0.out)); (case side2 => repeat (first | (with_reducible first | exact HB.out | apply below_alloc | apply pw_below_drewN | apply below_drew1 | refine below_set ?_ (IsS90.ge HI0.out)) | exact HB.out)); rintro e w35 ⟨rfl, hi, hb, hk⟩; refine ⟨_, rfl, ?_⟩; have n0_ := Aside0.mk (Kd.S_mono (Kd.S_keep (IsS90.apartS (show IsS90 w0 _ g s0_0 x1001_3 x1002_3 from by repeat (first | (with_reducible first | exact HI0.out | apply IsS90.alloc | apply IsS90.drewN | apply IsS90.drew | apply IsS90.set_1 | apply IsS90.set_2) | exact HI0.out)) (by (with_reducible repeat (first | apply Kd.S_alloc | apply Kd.S_drewN | apply Kd.S_drew)); exact HO_5.out) (by decide)) hk (fun _ h => h.2)) (fun _ h => h.1)); have n1_ := Aside0.mk (KeepBut.trans (by repeat (first | (with_reducible first | exact HK.out | apply KeepBut.set_ | apply keep_drewN | apply keep_drew | apply keep_alloc) | exact HK.out)) hk (.inl rfl)); have n2_ := Aside0.mk (hb); have n3_ := Aside0.mk (hi); clear HO_5; clear HK; clear HB; clear HI0; have HO_5 := n0_; have HK := n1_; have HB := n2_; have HI0 := n3_; clear n0_ n1_ n2_ n3_; (try clear hb); (try clear hb2); (try clear hk); (try clear hi); obtain ⟨Ao36, co36, eo36⟩ := Kd.S_slice HO_5.out; subst eo36) | ((with_reducible refine gate_callee (f := 106) rfl ?_); refine goesL_ (some 48) rfl rfl Try.func106 (by kernel_rfl) rfl #[.pointer (some ⟨g, 0, none⟩), .int .i64 (x5_3.length : Int)] rfl (by (try simp only [List.map_toArray, List.map_cons, List.map_nil]); first | done | rfl) ?_; (with_reducible refine (spec_l1Cur_pick.calls g s0_0 t700 t701 (x5_3.length : Int) t702 t703 t704 w0 _ ?side1 ?side2 A30.out).mono ?_); (case side1 => repeat (first | (with_reducible first | exact HI0.out | apply IsS90.alloc | apply IsS90.drewN | apply IsS90.drew | apply IsS90.set_1 | apply IsS90.set_2) | exact HI0.out)); (case side2 => repeat (first | (with_reducible first | exact HB.out | apply below_alloc | apply pw_below_drewN | apply below_drew1 | refine below_set ?_ (IsS90.ge HI0.out)) | exact HB.out)); rintro e w37 ⟨rfl, hi, hb, hk⟩; refine ⟨_, rfl, ?_⟩; have n0_ := Aside0.mk (Kd.S_mono (Kd.S_keep (IsS90.apartS (show IsS90 w0 _ g s0_0 t700 t701 from by repeat (first | (with_reducible first | exact HI0.out | apply IsS90.alloc | apply IsS90.drewN | apply IsS90.drew | apply IsS90.set_1 | apply IsS90.set_2) | exact HI0.out)) (by (with_reducible repeat (first | apply Kd.S_alloc | apply Kd.S_drewN | apply Kd.S_drew)); exact HO_5.out) (by decide)) hk (fun _ h => h.2)) (fun _ h => h.1)); have n1_ := Aside0.mk (KeepBut.trans (by repeat (first | (with_reducible first | exact HK.out | apply KeepBut.set_ | apply keep_drewN | apply keep_drew | apply keep_alloc) | exact HK.out)) hk (.inl rfl)); have n2_ := Aside0.mk (hb); have n3_ := Aside0.mk (hi); clear HO_5; clear HK; clear HB; clear HI0; have HO_5 := n0_; have HK := n1_; have HB := n2_; have HI0 := n3_; clear n0_ n1_ n2_ n3_; (try clear hb); (try clear hb2); (try clear hk); (try clear hi)) | ((with_reducible refine gate_callee (f := 128) rfl ?_); refine goesL_ (some 50) rfl rfl Try.func128 (by kernel_rfl) rfl #[.pointer (some ⟨g, 0, none⟩), .int .i64 2] rfl (by (try simp only [List.map_toArray, List.map_cons, List.map_nil]); first | done | rfl) ?_; (with_reducible refine (spec_l1Cur_list.calls k3 g s0_0 t703 t704 2 t705 t708 t709 w0 _ ?side1 ?side2 A31.out).mono ?_); (case side1 => repeat (first | (with_reducible first | exact HI0.out | apply IsS90.alloc | apply IsS90.drewN | apply IsS90.drew | apply IsS90.set_1 | apply IsS90.set_2) | exact HI0.out)); (case side2 => repeat (first | (with_reducible first | exact HB.out | apply below_alloc | apply pw_below_drewN | apply below_drew1 | refine below_set ?_ (IsS90.ge HI0.out)) | exact HB.out)); rintro e w38 ⟨v706, rfl, ho0, hi, hb, hk⟩; refine ⟨_, rfl, ?_⟩; have n0_ := Aside0.mk (Kd.S_mono (Kd.S_told (Kd.S_oldK (IsS90.apartS (show IsS90 w0 _ g s0_0 t703 t704 from by repeat (first | (with_reducible first | exact HI0.out | apply IsS90.alloc | apply IsS90.drewN | apply IsS90.drew | apply IsS90.set_1 | apply IsS90.set_2) | exact HI0.out)) (by (with_reducible repeat (first | apply Kd.S_alloc | apply Kd.S_drewN | apply Kd.S_drew)); exact HO_5.out) (by decide)) hk) (Kd.R_base ho0)) (fun _ h_ => h_.1)); have n1_ := Aside0.mk (Kd.R_lower ho0 (keep_size (w := w) (g := g) (row := none) (by repeat (first | (with_reducible first | exact HK.out | apply KeepBut.set_ | apply keep_drewN | apply keep_drew | apply keep_alloc) | exact HK.out)))); have n2_ := Aside0.mk (KeepBut.trans (by repeat (first | (with_reducible first | exact HK.out | apply KeepBut.set_ | apply keep_drewN | apply keep_drew | apply keep_alloc) | exact HK.out)) hk (.inl rfl)); have n3_ := Aside0.mk (hb); have n4_ := Aside0.mk (hi); clear HO_5; clear HK; clear HB; clear HI0; have HO_5 := n0_; have HO707 := n1_; have HK := n2_; have HB := n3_; have HI0 := n4_; clear n0_ n1_ n2_ n3_ n4_; (try clear hb); (try clear hb2); (try clear hk); (try clear hi); (try clear ho0); have p34 : 0 ≤ (t702 : Int) := of_decide_eq_true (by first | (with_reducible assumption) | assumption); have q34 : (t702 : Int) < ((x5_3.length : Int) : Int) := of_decide_eq_true (by first | (with_reducible assumption) | assumption); obtain ⟨go34, co34, eo34, gb34, gl34, cl34, HG34⟩ := Kd.S_form HO_5.out (by omega); (first | cases eo34 | (injection eo34 with ea_ en_ ec_; (first | subst ea_ | (injection ea_ with ea_; subst ea_)); subst ec_; clear en_)); have GB34 := Aside0.mk gb34; have GG34 := Aside0.mk HG34; clear gb34 gl34 HG34; obtain ⟨_, ce34, hcl34, hM34, hcc34, hfr34, _, _⟩ := Kd.S_elem HO_5.out [] (t702 : Int) p34 q34; obtain ⟨ve34_0, rfl, ge34_0⟩ := hM34; have hx34_0 := hcc34 0 _ rfl; have hf34_0 := hfr34 0; (try simp only [show ((Kd.slice 3 (Kd.int .i64))).sz = 1 from rfl, Nat.mul_one, Nat.add_zero] at hx34_0); (try simp only [show ((Kd.slice 3 (Kd.int .i64))).sz = 1 from rfl, Nat.mul_one, Nat.add_zero] at hf34_0); (try clear hcl34); (try clear hcc34); (try clear hfr34); (try clear hM34); replace p34 := eq_true p34; replace q34 := eq_true q34; obtain ⟨Ao39, co39, eo39⟩ := Kd.R_slice HO707.out; subst eo39; have n_ := Aside0.mk (Kd.S_mono (ok' := (fun k_ => some k_ ≠ (.slice Ao39 t705.length co39 : Value).ownBlock)) HO_5.out (fun k_ hk => hk.2)); clear HO_5; have HO_5 := n_; clear n_; have HX40 := Aside0.mk (show Kd.S (Kd.slice 3 (Kd.int .i64)) 33 w38 w.heap.size (fun k_ => ((fun _ => True)) k_ ∧ ¬ ((fun k_ => some k_ = (.slice Ao39 t705.length co39 : Value).ownBlock)) k_) (.slice (some ⟨go34, 0, none⟩) x5_3.length co36) x5_3 from (by (with_reducible repeat (first | apply Kd.S_alloc | apply Kd.S_drewN | apply Kd.S_drew)); exact Kd.S_mono HO_5.out (fun k_ hk => ⟨trivial, fun e_ => hk e_⟩))); obtain ⟨oki40, ce40, hcl40, hM40, hcc40, hfr40, hoki40, hH40⟩ := Kd.S_elem HX40.out [] (t702 : Int) (of_decide_eq_true (by first | (with_reducible assumption) | assumption)) (by have h_ : (t702 : Int) < ((x5_3.length : Int) : Int) := of_decide_eq_true (by first | (with_reducible assumption) | assumption); first | exact h_ | (have e_ := (Kd.S_reads' HO_5.out).1; omega) | simpa using h_); obtain ⟨ve40_0, rfl, ge40_0⟩ := hM40; have HP40 := Kd.S_seg hH40 (of_decide_eq_true (by first | (with_reducible assumption) | assumption)) (by have h_ : (t702 : Int) < ((x5_3.length : Int) : Int) := of_decide_eq_true (by first | (with_reducible assumption) | assumption); first | exact h_ | (have e_ := (Kd.S_reads' HO_5.out).1; omega) | simpa using h_) (seg := [.slice Ao39 t705.length co39]) (j := 0) (show 1 ≤ 1 from by decide) (x' := t705) (Kd.M_row (Kd.R_mono (Kd.R_tight rfl (Kd.R_mono (ok' := fun k_ => ((fun _ => True)) k_ ∧ k_ ≠ go34) (Kd.R_apart' (HO707.out) (Kd.S_typed HO_5.out) (by decide)) (fun k_ hk => ⟨trivial, fun e_ => (hk.2) (by rw [e_]; rfl)⟩))) (fun _ h_ => Or.inr (h_)))) (fun _ hk => hk) (fun k_ hk_ => ((Kd.R_mono (ok' := fun k_ => ((fun _ => True)) k_ ∧ k_ ≠ go34) (Kd.R_apart' (HO707.out) (Kd.S_typed HO_5.out) (by decide)) (fun k_ hk => ⟨trivial, fun e_ => (hk.2) (by rw [e_]; rfl)⟩))).1 k_ hk_.symm); have hx40_0 := hcc40 0 _ rfl; (try simp only [show ((Kd.slice 3 (Kd.int .i64))).sz = 1 from rfl, Nat.mul_one, Nat.add_zero] at hx40_0); have hf40_0 := hfr40 0; (try simp only [show ((Kd.slice 3 (Kd.int .i64))).sz = 1 from rfl, Nat.mul_one, Nat.add_zero] at hf40_0); (try clear hcl40); (try clear hcc40); (try clear hfr40); (try clear hM40); (try clear hoki40); (try clear hH40); (try simp only [show ((Kd.slice 3 (Kd.int .i64))).sz = 1 from rfl, Nat.mul_one, Nat.add_zero] at HP40)) | ((with_reducible refine gate_store (t := 33) (p := 51) rfl ?_); refine store_event (t := 33) (p := 51) (v := ?vo_w41) (w1 := (w38.setCell ⟨go34, (t702 : Int).toNat, none⟩ (.slice Ao39 t705.length co39))) ?hg ?ho ?hn ?hr ?_; (case ho => rfl); (case hg => rfl); (case hn => rfl); (case hr => first | (go_simp; done) | (go_simp; rfl)); intro w41 hw; have hg : w38.grownBy w41 (some go34) := (by rw [hw]; exact HP40.2); have hp_ : Kd.S (Kd.slice 3 (Kd.int .i64)) 33 w41 w.heap.size (fun _ => True) (.slice (some ⟨go34, 0, none⟩) x5_3.length co36) y710 := (by rw [hw, Ny710.out]; exact HP40.1); clear HP40; have n0_ := Aside0.mk (hp_); have n1_ := Aside0.mk (IsS90.grown (by repeat (first | (with_reducible first | exact HI0.out | apply IsS90.alloc | apply IsS90.drewN | apply IsS90.drew | apply IsS90.set_1 | apply IsS90.set_2) | exact HI0.out)) hg (IsS90.own_neS HI0.out HO_5.out (by decide))); have n2_ := Aside0.mk ((by rw [hw]; exact below_set (HB.out) (Nat.le_trans HL.out GB34.out) : Below w0.heap.size w0 w41)); have n3_ := Aside0.mk (KeepBut.trans (by repeat (first | (with_reducible first | exact HK.out | apply KeepBut.set_ | apply keep_drewN | apply keep_drew | apply keep_alloc) | exact HK.out)) (KeepBut.of_grown hg g) (Kd.S_base2 HO_5.out)); clear HO_5; clear HI0; clear HB; clear HK; clear HO707; have HO_5 := n0_; have HI0 := n1_; have HB := n2_; have HK := n3_; clear n0_ n1_ n2_ n3_; clear hg hw hp_))
           go_ret
           exact ⟨_, by first | rfl | (simp [errW_none, errW_some] <;> rfl) | (simp [*, errW_none, errW_some] <;> rfl), by (with_reducible repeat (first | apply Kd.S_alloc | apply Kd.S_drewN | apply Kd.S_drew)); exact HO_5.out, by repeat (first | (with_reducible first | exact HI0.out | apply IsS90.alloc | apply IsS90.drewN | apply IsS90.drew | apply IsS90.set_1 | apply IsS90.set_2) | exact HI0.out), by repeat (first | (with_reducible first | exact HB.out | apply below_alloc | apply pw_below_drewN | apply below_drew1 | refine below_set ?_ (IsS90.ge HI0.out)) | exact HB.out), by repeat (first | (with_reducible first | exact HK.out | apply KeepBut.set_ | apply keep_drewN | apply keep_drew | apply keep_alloc) | exact HK.out)⟩
          ·
           rw [if_neg c33] at H
           exact absurd H (by simp)
         ·
          rw [if_neg c32] at H
          exact absurd H (by simp)
        ·
         rw [if_neg c29] at H
         have c29b0 : (t699 == 0) = false := beq_eq_false_iff_ne.mpr c29
         have c29b1 : (t699 != 0) = true := bne_iff_ne.mpr c29
         by_cases c42 : t699 = 1
         ·
          rw [if_pos c42] at H
          have c42b0 : (t699 == 1) = true := beq_iff_eq.mpr c42
          have c42b1 : (t699 != 1) = false := bne_eq_false_iff_eq.mpr c42
          clear c42
          simp only [Option.some.injEq, Prod.mk.injEq] at H
          obtain ⟨rfl, rfl, rfl⟩ := H
          go_wp2_with (first | ((with_reducible refine gate_callee (f := 106) rfl ?_); refine goesL_ (some 41) rfl rfl Try.func106 (by kernel_rfl) rfl #[.pointer (some ⟨g, 0, none⟩), .int .i64 16] rfl (by (try simp only [List.map_toArray, List.map_cons, List.map_nil]); first | done | rfl) ?_; (with_reducible refine (spec_l1Cur_pick.calls g s0_0 x1001_3 x1002_3 16 t699 t700 t701 w0 _ ?side1 ?side2 A28.out).mono ?_); (case side1 => repeat (first | (with_reducible first | exact HI0.out | apply IsS90.alloc | apply IsS90.drewN | apply IsS90.drew | apply IsS90.set_1 | apply IsS90.set_2) | exact HI0.out)); (case side2 => repeat (first | (with_reducible first | exact HB.out | apply below_alloc | apply pw_below_drewN | apply below_drew1 | refine below_set ?_ (IsS90.ge HI0.out)) | exact HB.out)); rintro e w43 ⟨rfl, hi, hb, hk⟩; refine ⟨_, rfl, ?_⟩; have n0_ := Aside0.mk (Kd.S_mono (Kd.S_keep (IsS90.apartS (show IsS90 w0 _ g s0_0 x1001_3 x1002_3 from by repeat (first | (with_reducible first | exact HI0.out | apply IsS90.alloc | apply IsS90.drewN | apply IsS90.drew | apply IsS90.set_1 | apply IsS90.set_2) | exact HI0.out)) (by (with_reducible repeat (first | apply Kd.S_alloc | apply Kd.S_drewN | apply Kd.S_drew)); exact HO_5.out) (by decide)) hk (fun _ h => h.2)) (fun _ h => h.1)); have n1_ := Aside0.mk (KeepBut.trans (by repeat (first | (with_reducible first | exact HK.out | apply KeepBut.set_ | apply keep_drewN | apply keep_drew | apply keep_alloc) | exact HK.out)) hk (.inl rfl)); have n2_ := Aside0.mk (hb); have n3_ := Aside0.mk (hi); clear HO_5; clear HK; clear HB; clear HI0; have HO_5 := n0_; have HK := n1_; have HB := n2_; have HI0 := n3_; clear n0_ n1_ n2_ n3_; (try clear hb); (try clear hb2); (try clear hk); (try clear hi)))
          go_ret
          exact ⟨_, by first | rfl | (simp [errW_none, errW_some] <;> rfl) | (simp [*, errW_none, errW_some] <;> rfl), by first | exact Kd.S_nil _ _ _ _ _ | exact Kd.N_nil _ _ _ _ _ | exact Kd.V_nil _ _ _ _ _ | exact Kd.Q_nil _ _ _ _ _ | exact Kd.R_nil _ _ _ _ _, by repeat (first | (with_reducible first | exact HI0.out | apply IsS90.alloc | apply IsS90.drewN | apply IsS90.drew | apply IsS90.set_1 | apply IsS90.set_2) | exact HI0.out), by repeat (first | (with_reducible first | exact HB.out | apply below_alloc | apply pw_below_drewN | apply below_drew1 | refine below_set ?_ (IsS90.ge HI0.out)) | exact HB.out), by repeat (first | (with_reducible first | exact HK.out | apply KeepBut.set_ | apply keep_drewN | apply keep_drew | apply keep_alloc) | exact HK.out)⟩
         ·
          rw [if_neg c42] at H
          have c42b0 : (t699 == 1) = false := beq_eq_false_iff_ne.mpr c42
          have c42b1 : (t699 != 1) = true := bne_iff_ne.mpr c42
          simp only [Option.some.injEq, Prod.mk.injEq] at H
          obtain ⟨rfl, rfl, rfl⟩ := H
          go_wp2_with (first | ((with_reducible refine gate_callee (f := 106) rfl ?_); refine goesL_ (some 41) rfl rfl Try.func106 (by kernel_rfl) rfl #[.pointer (some ⟨g, 0, none⟩), .int .i64 16] rfl (by (try simp only [List.map_toArray, List.map_cons, List.map_nil]); first | done | rfl) ?_; (with_reducible refine (spec_l1Cur_pick.calls g s0_0 x1001_3 x1002_3 16 t699 t700 t701 w0 _ ?side1 ?side2 A28.out).mono ?_); (case side1 => repeat (first | (with_reducible first | exact HI0.out | apply IsS90.alloc | apply IsS90.drewN | apply IsS90.drew | apply IsS90.set_1 | apply IsS90.set_2) | exact HI0.out)); (case side2 => repeat (first | (with_reducible first | exact HB.out | apply below_alloc | apply pw_below_drewN | apply below_drew1 | refine below_set ?_ (IsS90.ge HI0.out)) | exact HB.out)); rintro e w44 ⟨rfl, hi, hb, hk⟩; refine ⟨_, rfl, ?_⟩; have n0_ := Aside0.mk (Kd.S_mono (Kd.S_keep (IsS90.apartS (show IsS90 w0 _ g s0_0 x1001_3 x1002_3 from by repeat (first | (with_reducible first | exact HI0.out | apply IsS90.alloc | apply IsS90.drewN | apply IsS90.drew | apply IsS90.set_1 | apply IsS90.set_2) | exact HI0.out)) (by (with_reducible repeat (first | apply Kd.S_alloc | apply Kd.S_drewN | apply Kd.S_drew)); exact HO_5.out) (by decide)) hk (fun _ h => h.2)) (fun _ h => h.1)); have n1_ := Aside0.mk (KeepBut.trans (by repeat (first | (with_reducible first | exact HK.out | apply KeepBut.set_ | apply keep_drewN | apply keep_drew | apply keep_alloc) | exact HK.out)) hk (.inl rfl)); have n2_ := Aside0.mk (hb); have n3_ := Aside0.mk (hi); clear HO_5; clear HK; clear HB; clear HI0; have HO_5 := n0_; have HK := n1_; have HB := n2_; have HI0 := n3_; clear n0_ n1_ n2_ n3_; (try clear hb); (try clear hb2); (try clear hk); (try clear hi)))
          go_ret
          exact ⟨_, by first | rfl | (simp [errW_none, errW_some] <;> rfl) | (simp [*, errW_none, errW_some] <;> rfl), by (with_reducible repeat (first | apply Kd.S_alloc | apply Kd.S_drewN | apply Kd.S_drew)); exact HO_5.out, by repeat (first | (with_reducible first | exact HI0.out | apply IsS90.alloc | apply IsS90.drewN | apply IsS90.drew | apply IsS90.set_1 | apply IsS90.set_2) | exact HI0.out), by repeat (first | (with_reducible first | exact HB.out | apply below_alloc | apply pw_below_drewN | apply below_drew1 | refine below_set ?_ (IsS90.ge HI0.out)) | exact HB.out), by repeat (first | (with_reducible first | exact HK.out | apply KeepBut.set_ | apply keep_drewN | apply keep_drew | apply keep_alloc) | exact HK.out)⟩
end Go.Proofs.Ytojcnapdalpnmaa.P
namespace Go.Proofs.Ytojcnapdalpnmaa.P
open Go.RowKit Go.Proofs.YtojcnapdalpnmaaW.PrintWords Go.Proofs.Ytojcnapdalpnmaa.K
def spec_maIs.f (l : List (List Int)) (r o c b : Int) : Option Bool := if gridB l = true then some (swB l r o c b) else none
end Go.Proofs.Ytojcnapdalpnmaa.P
namespace Go.Proofs.Ytojcnapdalpnmaa.P
open Go.RowKit Go.Proofs.YtojcnapdalpnmaaW.PrintWords Go.Proofs.YtojcnapdalpnmaaW.PrintLast Go.Proofs.YtojcnapdalpnmaaW.PrintMore Go.Proofs.Ytojcnapdalpnmaa.K
theorem hs_l1In (w : World) (n : Nat) (a0 a1 a2 : Int) (v : Bool) (h : (decide (a1 ≤ a0) && decide (a0 ≤ a2)) = v) :
    Calls Try.prog 115 #[.int .i64 a0, .int .i64 a1, .int .i64 a2] (w.drewN n) fun e w' => e = .returned (.bool v) ∧ ∃ m, w' = w.drewN m := by
  refine Calls.quiet_of ((spec_l1In.calls a0 a1 a2 v (w.drewN n) (by rw [l1In_f, h])).mono ?_)
  rintro e w' ⟨rfl, ⟨m, rfl⟩⟩
  exact ⟨rfl, m, rfl⟩
set_option maxHeartbeats 800000 in
set_option maxRecDepth 100000 in
theorem maIs_in (A0 : Option Addr) (c0 : Nat) (l0 : List (List Int)) (r o c b : Nat) (w : World) (hr0 : Kd.C (Kd.slice 3 (Kd.int .i64)) w A0 l0.length l0) (hc0 : l0.length ≤ c0) (hg : gridB l0 = true)
    (h1 : r < o) (h2 : o < l0.length) (h3 : c < b) (h4 : b < (rd_L1 l0 0).length) :
    Calls Try.prog 80 #[.slice A0 l0.length c0, .agg #[.int .i64 r, .int .i64 o, .int .i64 c, .int .i64 b]] w fun e w' => e = .returned (.bool (swAt l0 r o c b)) ∧ Below w.heap.size w w' := by
  obtain ⟨g1, g2, g3, g4, g5⟩ := grid_get hg
  have HC0 := Aside0.mk hc0
  clear hc0 hg
  have hq := Kd.C_alloc hr0 (.cells #[.int .i64 (r : Int), .int .i64 (o : Int), .int .i64 (c : Int), .int .i64 (b : Int)] 41)
  have hm : ∀ i : Nat, i < l0.length → (rd_L1 l0 (i : Int)).length = (rd_L1 l0 0).length := fun i hi => (g5 _ (by unfold rd_L1; simp [List.getD_eq_getElem?_getD, List.getElem?_eq_getElem hi])).1
  have er := hm r (by omega)
  have eo := hm o h2
  clear hm g5
  obtain ⟨ad, A2, c2, e2, hx0, hl2, hi2⟩ := at_L1 hq (0 : Int) (by omega) (by omega)
  cases e2
  obtain ⟨ad', A3, c3, e3, hx3, hl3, hi3⟩ := at_L1 hq (r : Int) (by omega) (by omega)
  cases e3
  obtain ⟨ad', A4, c4, e4, hx4, hl4, hi4⟩ := at_L1 hq (o : Int) (by omega) (by omega)
  cases e4
  rw [show ((0 : Int)).toNat = 0 from rfl, Addr.add_zero'] at hx0
  rw [er] at hx3 hl3
  rw [eo] at hx4 hl4
  obtain ⟨ad3, e3, y1⟩ := Kd.at_int hi3 (c : Int) (by omega) (by omega)
  cases e3
  obtain ⟨ad', e3, y2⟩ := Kd.at_int hi3 (b : Int) (by omega) (by omega)
  cases e3
  obtain ⟨ad4, e4, y3⟩ := Kd.at_int hi4 (c : Int) (by omega) (by omega)
  cases e4
  obtain ⟨ad', e4, y4⟩ := Kd.at_int hi4 (b : Int) (by omega) (by omega)
  cases e4
  clear hi2 hi3 hi4 hl2 hl3 hl4 hq hr0 er eo
  simp only [Int.toNat_natCast] at hx3 hx4 y1 y2 y3 y4
  generalize hn : (rd_L1 l0 0).length = n at *
  unfold swAt
  generalize rd (rd_L1 l0 r) c = t1 at *
  generalize rd (rd_L1 l0 r) b = t2 at *
  generalize rd (rd_L1 l0 o) c = t3 at *
  generalize rd (rd_L1 l0 o) b = t4 at *
  have HN := Aside0.mk hn
  clear hn
  have B1 : Aside0 ((decide ((1 : Int) ≤ (o : Int)) && decide ((o : Int) ≤ (l0.length : Int) - 1)) = true) := ⟨by simp; omega⟩
  have B2 : Aside0 ((decide ((0 : Int) ≤ (r : Int)) && decide ((r : Int) ≤ (o : Int) - 1)) = true) := ⟨by simp; omega⟩
  have B3 : Aside0 ((decide ((1 : Int) ≤ (b : Int)) && decide ((b : Int) ≤ (n : Int) - 1)) = true) := ⟨by simp; omega⟩
  have B4 : Aside0 ((decide ((0 : Int) ≤ (c : Int)) && decide ((c : Int) ≤ (b : Int) - 1)) = true) := ⟨by simp; omega⟩
  have w1 : IntKind.i64.wrap ((l0.length : Int) - 1) = (l0.length : Int) - 1 := IntWalk.i64_in _ (by omega)
  have w2 : IntKind.i64.wrap ((o : Int) - 1) = (o : Int) - 1 := IntWalk.i64_in _ (by omega)
  have w3 : IntKind.i64.wrap ((n : Int) - 1) = (n : Int) - 1 := IntWalk.i64_in _ (by omega)
  have w4 : IntKind.i64.wrap ((b : Int) - 1) = (b : Int) - 1 := IntWalk.i64_in _ (by omega)
  have q1 : (r : Int) < (l0.length : Int) := by omega
  have q2 : (o : Int) < (l0.length : Int) := by omega
  have q3 : (c : Int) < (n : Int) := by omega
  have q4 : (b : Int) < (n : Int) := by omega
  have q5 : (0 : Int) < (l0.length : Int) := by omega
  by_cases u1 : t1 = t2
  · have d1 : (t1 != t2) = false := by simp [u1]
    have U1 := Aside0.mk u1
    clear u1
    go_enter Try.func80, Try.ntmps80
    go_wp2
    go_quiet ((go_at_call 115; first | exact hs_l1In _ _ _ _ _ _ B1.out | exact hs_l1In _ _ _ _ _ _ B2.out | exact hs_l1In _ _ _ _ _ _ B3.out | exact hs_l1In _ _ _ _ _ _ B4.out))
    go_wp2
    go_quiet (fail)
    go_wp2
    go_quiet (fail)
    go_wp2
    go_ret
    exact ⟨by (have u1 := U1.out; subst u1; simp), (by repeat (first | (with_reducible first | exact Below.refl _ _ | apply below_alloc | apply pw_below_drewN | apply below_drew1)))⟩
  · have d1 : (t1 != t2) = true := by simpa using u1
    have U1 := Aside0.mk u1
    clear u1
    by_cases u2 : t3 = t2
    · have d2 : (t3 == t2) = true := by simpa using u2
      have U2 := Aside0.mk u2
      clear u2
      go_enter Try.func80, Try.ntmps80
      go_wp2
      go_quiet ((go_at_call 115; first | exact hs_l1In _ _ _ _ _ _ B1.out | exact hs_l1In _ _ _ _ _ _ B2.out | exact hs_l1In _ _ _ _ _ _ B3.out | exact hs_l1In _ _ _ _ _ _ B4.out))
      go_wp2
      go_quiet (fail)
      go_wp2
      go_quiet (fail)
      go_wp2
      go_ret
      exact ⟨by (have a1 := U1.out; have a2 := U2.out; subst a2; simp [a1, eq_comm, Bool.beq_eq_decide_eq]), (by repeat (first | (with_reducible first | exact Below.refl _ _ | apply below_alloc | apply pw_below_drewN | apply below_drew1)))⟩
    · have d2 : (t3 == t2) = false := by simpa using u2
      have U2 := Aside0.mk u2
      clear u2
      go_enter Try.func80, Try.ntmps80
      go_wp2
      go_quiet ((go_at_call 115; first | exact hs_l1In _ _ _ _ _ _ B1.out | exact hs_l1In _ _ _ _ _ _ B2.out | exact hs_l1In _ _ _ _ _ _ B3.out | exact hs_l1In _ _ _ _ _ _ B4.out))
      go_wp2
      go_quiet (fail)
      go_wp2
      go_quiet (fail)
      go_wp2
      go_ret
      exact ⟨by (have a1 := U1.out; have a2 := U2.out; simp [a1, a2, show ¬ t2 = t3 from fun e => a2 e.symm]), (by repeat (first | (with_reducible first | exact Below.refl _ _ | apply below_alloc | apply pw_below_drewN | apply below_drew1)))⟩
set_option maxHeartbeats 800000 in
set_option maxRecDepth 100000 in
theorem maIs_out (A0 : Option Addr) (c0 : Nat) (l0 : List (List Int)) (r o c b : Int) (w : World) (hr0 : Kd.C (Kd.slice 3 (Kd.int .i64)) w A0 l0.length l0) (hc0 : l0.length ≤ c0) (hg : gridB l0 = true) (h : swIn l0 r o c b = false) :
    Calls Try.prog 80 #[.slice A0 l0.length c0, .agg #[.int .i64 r, .int .i64 o, .int .i64 c, .int .i64 b]] w fun e w' => e = .returned (.bool false) ∧ Below w.heap.size w w' := by
  obtain ⟨g1, g2, g3, g4, -⟩ := grid_get hg
  have HC0 := Aside0.mk hc0
  clear hc0 hg
  have hq := Kd.C_alloc hr0 (.cells #[.int .i64 r, .int .i64 o, .int .i64 c, .int .i64 b] 41)
  obtain ⟨ad, A2, c2, e2, hx0, hl2, hi2⟩ := at_L1 hq (0 : Int) (by omega) (by omega)
  cases e2
  rw [show ((0 : Int)).toNat = 0 from rfl, Addr.add_zero'] at hx0
  clear hi2 hl2 hq hr0
  simp only [swIn, decide_eq_false_iff_not] at h
  generalize hn : (rd_L1 l0 0).length = n at *
  have HN := Aside0.mk hn
  clear hn
  have w1 : IntKind.i64.wrap ((l0.length : Int) - 1) = (l0.length : Int) - 1 := IntWalk.i64_in _ (by omega)
  have w3 : IntKind.i64.wrap ((n : Int) - 1) = (n : Int) - 1 := IntWalk.i64_in _ (by omega)
  have q5 : (0 : Int) < (l0.length : Int) := by omega
  by_cases h1 : 1 ≤ o ∧ o ≤ (l0.length : Int) - 1
  · have B1 : Aside0 ((decide ((1 : Int) ≤ o) && decide (o ≤ (l0.length : Int) - 1)) = true) := ⟨by simp; omega⟩
    have w2 : IntKind.i64.wrap (o - 1) = o - 1 := IntWalk.i64_in _ (by omega)
    by_cases h2 : 0 ≤ r ∧ r ≤ o - 1
    · have B2 : Aside0 ((decide ((0 : Int) ≤ r) && decide (r ≤ o - 1)) = true) := ⟨by simp; omega⟩
      by_cases h3 : 1 ≤ b ∧ b ≤ (n : Int) - 1
      · have B3 : Aside0 ((decide ((1 : Int) ≤ b) && decide (b ≤ (n : Int) - 1)) = true) := ⟨by simp; omega⟩
        have B4 : Aside0 ((decide ((0 : Int) ≤ c) && decide (c ≤ b - 1)) = false) := ⟨by simp; omega⟩
        have w4 : IntKind.i64.wrap (b - 1) = b - 1 := IntWalk.i64_in _ (by omega)
        clear h h1 h2 h3
        go_enter Try.func80, Try.ntmps80
        go_wp2
        go_quiet ((go_at_call 115; first | exact hs_l1In _ _ _ _ _ _ B1.out | exact hs_l1In _ _ _ _ _ _ B2.out | exact hs_l1In _ _ _ _ _ _ B3.out | exact hs_l1In _ _ _ _ _ _ B4.out))
        go_wp2
        go_ret
        exact ⟨rfl, (by repeat (first | (with_reducible first | exact Below.refl _ _ | apply below_alloc | apply pw_below_drewN | apply below_drew1)))⟩
      · have B3 : Aside0 ((decide ((1 : Int) ≤ b) && decide (b ≤ (n : Int) - 1)) = false) := ⟨by simp; omega⟩
        clear h h1 h2 h3
        go_enter Try.func80, Try.ntmps80
        go_wp2
        go_quiet ((go_at_call 115; first | exact hs_l1In _ _ _ _ _ _ B1.out | exact hs_l1In _ _ _ _ _ _ B2.out | exact hs_l1In _ _ _ _ _ _ B3.out))
        go_wp2
        go_ret
        exact ⟨rfl, (by repeat (first | (with_reducible first | exact Below.refl _ _ | apply below_alloc | apply pw_below_drewN | apply below_drew1)))⟩
    · have B2 : Aside0 ((decide ((0 : Int) ≤ r) && decide (r ≤ o - 1)) = false) := ⟨by simp; omega⟩
      clear h h1 h2
      go_enter Try.func80, Try.ntmps80
      go_wp2
      go_quiet ((go_at_call 115; first | exact hs_l1In _ _ _ _ _ _ B1.out | exact hs_l1In _ _ _ _ _ _ B2.out))
      go_wp2
      go_ret
      exact ⟨rfl, (by repeat (first | (with_reducible first | exact Below.refl _ _ | apply below_alloc | apply pw_below_drewN | apply below_drew1)))⟩
  · have B1 : Aside0 ((decide ((1 : Int) ≤ o) && decide (o ≤ (l0.length : Int) - 1)) = false) := ⟨by simp; omega⟩
    clear h h1
    go_enter Try.func80, Try.ntmps80
    go_wp2
    go_quiet ((go_at_call 115; exact hs_l1In _ _ _ _ _ _ B1.out))
    go_wp2
    go_ret
    exact ⟨rfl, (by repeat (first | (with_reducible first | exact Below.refl _ _ | apply below_alloc | apply pw_below_drewN | apply below_drew1)))⟩
theorem spec_maIs.calls (A0 : Option Addr) (c0 : Nat) (l0 : List (List Int)) (r o c b : Int) (res : Bool) (w : World) (hr0 : Kd.C (Kd.slice 3 (Kd.int .i64)) w A0 l0.length l0) (hc0 : l0.length ≤ c0) (h : spec_maIs.f l0 r o c b = some res) :
    Calls Try.prog 80 #[.slice A0 l0.length c0, .agg #[.int .i64 r, .int .i64 o, .int .i64 c, .int .i64 b]] w fun e w' => e = .returned (.bool res) ∧ Below w.heap.size w w' := by
  unfold spec_maIs.f at h
  split at h
  case isFalse => cases h
  rename_i hg
  obtain rfl := Option.some.inj h
  cases hs : swIn l0 r o c b with
  | false => rw [show swB l0 r o c b = false by simp [swB, hs]]; exact maIs_out A0 c0 l0 r o c b w hr0 hc0 hg hs
  | true =>
    rw [show swB l0 r o c b = swAt l0 r o c b by simp [swB, hs]]
    simp only [swIn, decide_eq_true_eq] at hs
    obtain ⟨s1, s2, s3, s4, s5, s6⟩ := hs
    obtain ⟨r, rfl⟩ := Int.eq_ofNat_of_zero_le s1
    obtain ⟨o, rfl⟩ := Int.eq_ofNat_of_zero_le (show 0 ≤ o by omega)
    obtain ⟨c, rfl⟩ := Int.eq_ofNat_of_zero_le s4
    obtain ⟨b, rfl⟩ := Int.eq_ofNat_of_zero_le (show 0 ≤ b by omega)
    exact maIs_in A0 c0 l0 r o c b w hr0 hc0 hg (by omega) (by omega) (by omega) (by omega)
end Go.Proofs.Ytojcnapdalpnmaa.P
namespace Go.Proofs.Ytojcnapdalpnmaa.P
open Go.RowKit Go.Proofs.YtojcnapdalpnmaaW.PrintWords Go.Proofs.YtojcnapdalpnmaaW.PrintLast Go.Proofs.YtojcnapdalpnmaaW.PrintMore
attribute [local go_sem] max2_int min2_int max_two min_two max_three min_three max_four min_four
mutual
def spec_maSwitches.l0 : Nat → List (List Int) → List (S41) → Int → Int → Option ((List (S41)))
 | 0, _, _, _, _ => none
 | k + 1, x0, x3, x10, x11 => if x11 < x10 then (spec_maSwitches.l1 k x0 x3 x11 (wrap64 (x11 + 1)) x10 x11) else (some x3)
def spec_maSwitches.l1 : Nat → List (List Int) → List (S41) → Int → Int → Int → Int → Option ((List (S41)))
 | 0, _, _, _, _, _, _ => none
 | k + 1, x0, x3, x4, x5, x10, x11 => if x5 < (x0.length : Int) then (if 0 < (x0.length : Int) then (spec_maSwitches.l2 k x0 x3 x4 x5 x10 x11 ((rd_L1 x0 0).length : Int) 0) else (none)) else (spec_maSwitches.l0 k x0 x3 x10 (wrap64 (x11 + 1)))
def spec_maSwitches.l2 : Nat → List (List Int) → List (S41) → Int → Int → Int → Int → Int → Int → Option ((List (S41)))
 | 0, _, _, _, _, _, _, _, _ => none
 | k + 1, x0, x3, x4, x5, x10, x11, x25, x26 => if x26 < x25 then (spec_maSwitches.l3 k x0 x3 x4 x5 x26 (wrap64 (x26 + 1)) x10 x11 x25 x26) else (spec_maSwitches.l1 k x0 x3 x4 (wrap64 (x5 + 1)) x10 x11)
def spec_maSwitches.l3 : Nat → List (List Int) → List (S41) → Int → Int → Int → Int → Int → Int → Int → Int → Option ((List (S41)))
 | 0, _, _, _, _, _, _, _, _, _, _ => none
 | k + 1, x0, x3, x4, x5, x6, x7, x10, x11, x25, x26 => if 0 < (x0.length : Int) then (if x7 < ((rd_L1 x0 0).length : Int) then ((spec_maIs.f x0 x4 x5 x6 x7).bind fun t191 => (if t191 = true then (if x3.length < 4398046511104 then (spec_maSwitches.l3 k x0 (x3 ++ [(⟨x4, x5, x6, x7⟩ : S41)]) x4 x5 x6 (wrap64 (x7 + 1)) x10 x11 x25 x26) else (none)) else (spec_maSwitches.l3 k x0 x3 x4 x5 x6 (wrap64 (x7 + 1)) x10 x11 x25 x26))) else (spec_maSwitches.l2 k x0 x3 x4 x5 x10 x11 x25 (wrap64 (x26 + 1)))) else (none)
end
def spec_maSwitches.f (k : Nat) (l0 : List (List Int)) : Option ((List (S41))) := spec_maSwitches.l0 k l0 ([] : List (S41)) (l0.length : Int) 0
theorem spec_maSwitches.mono_l : ∀ k, (∀ y0 y1 y2 y3, LeO (spec_maSwitches.l0 k y0 y1 y2 y3) (spec_maSwitches.l0 (k + 1) y0 y1 y2 y3)) ∧ (∀ y0 y1 y2 y3 y4 y5, LeO (spec_maSwitches.l1 k y0 y1 y2 y3 y4 y5) (spec_maSwitches.l1 (k + 1) y0 y1 y2 y3 y4 y5)) ∧ (∀ y0 y1 y2 y3 y4 y5 y6 y7, LeO (spec_maSwitches.l2 k y0 y1 y2 y3 y4 y5 y6 y7) (spec_maSwitches.l2 (k + 1) y0 y1 y2 y3 y4 y5 y6 y7)) ∧ (∀ y0 y1 y2 y3 y4 y5 y6 y7 y8 y9, LeO (spec_maSwitches.l3 k y0 y1 y2 y3 y4 y5 y6 y7 y8 y9) (spec_maSwitches.l3 (k + 1) y0 y1 y2 y3 y4 y5 y6 y7 y8 y9))
 | 0 => ⟨fun _ _ _ _ r h => by simp [spec_maSwitches.l0] at h, fun _ _ _ _ _ _ r h => by simp [spec_maSwitches.l1] at h, fun _ _ _ _ _ _ _ _ r h => by simp [spec_maSwitches.l2] at h, fun _ _ _ _ _ _ _ _ _ _ r h => by simp [spec_maSwitches.l3] at h⟩
 | k + 1 => by
  obtain ⟨ih0, ih1, ih2, ih3⟩ := spec_maSwitches.mono_l k
  refine ⟨?_, ?_, ?_, ?_⟩
  ·
   intro y0 y1 y2 y3
   unfold spec_maSwitches.l0
   repeat' first
   | (with_reducible exact ih0 _ _ _ _)
   | (with_reducible exact ih1 _ _ _ _ _ _)
   | (with_reducible exact ih2 _ _ _ _ _ _ _ _)
   | (with_reducible exact ih3 _ _ _ _ _ _ _ _ _ _)
   | (with_reducible exact LeO.refl _)
   | (with_reducible exact LeO.none _)
   | (with_reducible refine LeO.ite ?_ ?_)
   | (with_reducible refine LeO.bind ?_ (fun _ => ?_))
   | exact ih0 _ _ _ _
   | exact ih1 _ _ _ _ _ _
   | exact ih2 _ _ _ _ _ _ _ _
   | exact ih3 _ _ _ _ _ _ _ _ _ _
   | exact LeO.none _
   | refine LeO.ite ?_ ?_
   | refine LeO.bind ?_ (fun _ => ?_)
  ·
   intro y0 y1 y2 y3 y4 y5
   unfold spec_maSwitches.l1
   repeat' first
   | (with_reducible exact ih0 _ _ _ _)
   | (with_reducible exact ih1 _ _ _ _ _ _)
   | (with_reducible exact ih2 _ _ _ _ _ _ _ _)
   | (with_reducible exact ih3 _ _ _ _ _ _ _ _ _ _)
   | (with_reducible exact LeO.refl _)
   | (with_reducible exact LeO.none _)
   | (with_reducible refine LeO.ite ?_ ?_)
   | (with_reducible refine LeO.bind ?_ (fun _ => ?_))
   | exact ih0 _ _ _ _
   | exact ih1 _ _ _ _ _ _
   | exact ih2 _ _ _ _ _ _ _ _
   | exact ih3 _ _ _ _ _ _ _ _ _ _
   | exact LeO.none _
   | refine LeO.ite ?_ ?_
   | refine LeO.bind ?_ (fun _ => ?_)
  ·
   intro y0 y1 y2 y3 y4 y5 y6 y7
   unfold spec_maSwitches.l2
   repeat' first
   | (with_reducible exact ih0 _ _ _ _)
   | (with_reducible exact ih1 _ _ _ _ _ _)
   | (with_reducible exact ih2 _ _ _ _ _ _ _ _)
   | (with_reducible exact ih3 _ _ _ _ _ _ _ _ _ _)
   | (with_reducible exact LeO.refl _)
   | (with_reducible exact LeO.none _)
   | (with_reducible refine LeO.ite ?_ ?_)
   | (with_reducible refine LeO.bind ?_ (fun _ => ?_))
   | exact ih0 _ _ _ _
   | exact ih1 _ _ _ _ _ _
   | exact ih2 _ _ _ _ _ _ _ _
   | exact ih3 _ _ _ _ _ _ _ _ _ _
   | exact LeO.none _
   | refine LeO.ite ?_ ?_
   | refine LeO.bind ?_ (fun _ => ?_)
  ·
   intro y0 y1 y2 y3 y4 y5 y6 y7 y8 y9
   unfold spec_maSwitches.l3
   repeat' first
   | (with_reducible exact ih0 _ _ _ _)
   | (with_reducible exact ih1 _ _ _ _ _ _)
   | (with_reducible exact ih2 _ _ _ _ _ _ _ _)
   | (with_reducible exact ih3 _ _ _ _ _ _ _ _ _ _)
   | (with_reducible exact LeO.refl _)
   | (with_reducible exact LeO.none _)
   | (with_reducible refine LeO.ite ?_ ?_)
   | (with_reducible refine LeO.bind ?_ (fun _ => ?_))
   | exact ih0 _ _ _ _
   | exact ih1 _ _ _ _ _ _
   | exact ih2 _ _ _ _ _ _ _ _
   | exact ih3 _ _ _ _ _ _ _ _ _ _
   | exact LeO.none _
   | refine LeO.ite ?_ ?_
   | refine LeO.bind ?_ (fun _ => ?_)
theorem spec_maSwitches.mono : ∀ a0 k, LeO (spec_maSwitches.f k a0) (spec_maSwitches.f (k + 1) a0) := by
 intro a0 k
 obtain ⟨ih0, ih1, ih2, ih3⟩ := spec_maSwitches.mono_l k
 unfold spec_maSwitches.f
 repeat' first
   | (with_reducible exact ih0 _ _ _ _)
   | (with_reducible exact ih1 _ _ _ _ _ _)
   | (with_reducible exact ih2 _ _ _ _ _ _ _ _)
   | (with_reducible exact ih3 _ _ _ _ _ _ _ _ _ _)
   | (with_reducible exact LeO.refl _)
   | (with_reducible exact LeO.none _)
   | (with_reducible refine LeO.ite ?_ ?_)
   | (with_reducible refine LeO.bind ?_ (fun _ => ?_))
   | exact ih0 _ _ _ _
   | exact ih1 _ _ _ _ _ _
   | exact ih2 _ _ _ _ _ _ _ _
   | exact ih3 _ _ _ _ _ _ _ _ _ _
   | exact LeO.none _
   | refine LeO.ite ?_ ?_
   | refine LeO.bind ?_ (fun _ => ?_)
set_option maxHeartbeats 8000000 in
set_option maxRecDepth 100000 in
theorem spec_maSwitches.calls (k : Nat) (A0 : Option Addr) (c0 : Nat) (l0 : List (List Int)) (r : List (S41)) (w : World) (hr0 : Kd.C (Kd.slice 3 (Kd.int .i64)) w A0 l0.length l0) (hc0 : l0.length ≤ c0) (h : spec_maSwitches.f k l0 = some r) :
  Calls Try.prog 73 #[.slice A0 l0.length c0] w fun e w' => ∃ v0_ : Value, e = .returned (v0_) ∧ Kd.R k41 41 w' w.heap.size (fun _ => True) v0_ r ∧ Below w.heap.size w w' := by
 have hu41 := Try.underlying41
 have HR0 := Aside0.mk hr0
 have HC0 := Aside0.mk hc0
 clear hr0 hc0
 have HB := Aside0.mk (Below.refl w.heap.size w)
 have H : (spec_maSwitches.l0 k l0 ([] : List (S41)) (l0.length : Int) 0) = some r := h
 clear h
 have H' := Aside0.mk H
 clear H
 go_enter Try.func73, Try.ntmps73
 go_wp2
 go_loopg [3, 11] k (fun kq v3 v11 w' => ∃ (x3_1 : List (S41)) (x11_1 : Int), v11 = .int .i64 x11_1 ∧ Aside0 (spec_maSwitches.l0 kq l0 x3_1 (l0.length : Int) x11_1 = some r) ∧ Aside0 (kq ≤ k) ∧ Aside0 (Kd.R k41 41 w' w.heap.size (fun _ => True) v3 x3_1) ∧ Aside0 (Below w.heap.size w w'))
 case atStart => exact ⟨(([] : List (S41))), (0), (by first | rfl | (simp; done) | (simp [*]; done)), H', ⟨Nat.le_refl _⟩, ⟨by first | exact Kd.R_nil _ _ _ _ _ | exact Kd.N_nil _ _ _ _ _ | exact Kd.V_nil _ _ _ _ _ | exact Kd.Q_nil _ _ _ _ _ | exact Kd.S_nil _ _ _ _ _⟩, ⟨by repeat (first | (with_reducible first | exact HB.out | apply below_alloc | apply pw_below_drewN | apply below_drew1) | exact HB.out)⟩⟩
 case round =>
  clear H'
  obtain ⟨x3_1, x11_1, rfl, HA, HK1, HO_3, HB⟩ := hrel
  cases gk with
  | zero => exact absurd HA.out (by simp [spec_maSwitches.l0])
  | succ k1 =>
   have H := HA.out
   clear HA
   simp only [spec_maSwitches.l0] at H
   by_cases c2 : x11_1 < (l0.length : Int)
   ·
    rw [if_pos c2] at H
    have c2b0 : decide (x11_1 < (l0.length : Int)) = true := decide_eq_true c2
    clear c2
    have H' := Aside0.mk H
    clear H
    go_wp2
    go_loopg [3, 5] k1 (fun kq v3 v5 w' => ∃ (x3_2 : List (S41)) (x5_2 : Int), v5 = .int .i64 x5_2 ∧ Aside0 (spec_maSwitches.l1 kq l0 x3_2 x11_1 x5_2 (l0.length : Int) x11_1 = some r) ∧ Aside0 (kq ≤ k1) ∧ Aside0 (Kd.R k41 41 w' w.heap.size (fun _ => True) v3 x3_2) ∧ Aside0 (Below w.heap.size w w'))
    case atStart => exact ⟨(x3_1), (wrap64 (x11_1 + 1)), (by first | rfl | (simp; done) | (simp [*]; done)), H', ⟨Nat.le_refl _⟩, ⟨by (with_reducible repeat (first | apply Kd.R_alloc | apply Kd.R_drewN | apply Kd.R_drew)); exact HO_3.out⟩, ⟨by repeat (first | (with_reducible first | exact HB.out | apply below_alloc | apply pw_below_drewN | apply below_drew1) | exact HB.out)⟩⟩
    case round =>
     clear H'
     try clear c2
     try clear c2b0
     try clear p2
     obtain ⟨x3_2, x5_2, rfl, HA, HK2, HO_3, HB⟩ := hrel
     cases gk with
     | zero => exact absurd HA.out (by simp [spec_maSwitches.l1])
     | succ k2 =>
      have H := HA.out
      clear HA
      simp only [spec_maSwitches.l1] at H
      by_cases c3 : x5_2 < (l0.length : Int)
      ·
       rw [if_pos c3] at H
       have c3b0 : decide (x5_2 < (l0.length : Int)) = true := decide_eq_true c3
       clear c3
       by_cases c4 : 0 < (l0.length : Int)
       ·
        rw [if_pos c4] at H
        have c4b0 : decide (0 < (l0.length : Int)) = true := decide_eq_true c4
        have c4b1 : decide (0 < l0.length) = true := decide_eq_true (by omega)
        clear c4
        have H' := Aside0.mk H
        clear H
        have p188 : 0 ≤ (0 : Int) := (by omega)
        have q188 : 0 < (l0.length : Int) := of_decide_eq_true (by first | (with_reducible assumption) | assumption)
        obtain ⟨ad188, A188_0, c188_0, e188, hx188_0, hl188_0, hi188_0⟩ := at_L1 HR0.out 0 p188 q188
        cases e188
        have qi188 : (0 < l0.length) = True := eq_true (by omega)
        (try rw [show ((0 : Int)).toNat = 0 from rfl] at hx188_0)
        (try rw [Addr.add_zero'] at hx188_0)
        replace hx188_0 := (HB.out.cell (World.block_lt_of_cell? w _ hx188_0)).trans hx188_0
        have HR188_0 := Aside0.mk hi188_0
        have HC188_0 := Aside0.mk hl188_0
        clear hi188_0 hl188_0
        replace p188 := eq_true p188
        replace q188 := eq_true q188
        go_wp2
        go_loopg [3, 26] k2 (fun kq v3 v26 w' => ∃ (x3_3 : List (S41)) (x26_3 : Int), v26 = .int .i64 x26_3 ∧ Aside0 (spec_maSwitches.l2 kq l0 x3_3 x11_1 x5_2 (l0.length : Int) x11_1 ((rd_L1 l0 0).length : Int) x26_3 = some r) ∧ Aside0 (kq ≤ k2) ∧ Aside0 (Kd.R k41 41 w' w.heap.size (fun _ => True) v3 x3_3) ∧ Aside0 (Below w.heap.size w w'))
        case atStart => exact ⟨(x3_2), (0), (by first | rfl | (simp; done) | (simp [*]; done)), H', ⟨Nat.le_refl _⟩, ⟨by (with_reducible repeat (first | apply Kd.R_alloc | apply Kd.R_drewN | apply Kd.R_drew)); exact HO_3.out⟩, ⟨by repeat (first | (with_reducible first | exact HB.out | apply below_alloc | apply pw_below_drewN | apply below_drew1) | exact HB.out)⟩⟩
        case round =>
         clear H'
         try clear c1
         try clear p1
         try clear q1
         try clear hx1
         try clear qi1
         try clear c2
         try clear c2b0
         try clear p2
         try clear c3
         try clear c3b0
         try clear c4
         try clear c4b0
         try clear c4b1
         try clear hx188_0
         try clear p188
         try clear p2
         try clear q188
         obtain ⟨x3_3, x26_3, rfl, HA, HK3, HO_3, HB⟩ := hrel
         cases gk with
         | zero => exact absurd HA.out (by simp [spec_maSwitches.l2])
         | succ k3 =>
          have H := HA.out
          clear HA
          simp only [spec_maSwitches.l2] at H
          by_cases c5 : x26_3 < ((rd_L1 l0 0).length : Int)
          ·
           rw [if_pos c5] at H
           have c5b0 : decide (x26_3 < ((rd_L1 l0 0).length : Int)) = true := decide_eq_true c5
           clear c5
           have H' := Aside0.mk H
           clear H
           go_wp2
           go_loopg [3, 7] k3 (fun kq v3 v7 w' => ∃ (x3_4 : List (S41)) (x7_4 : Int), v7 = .int .i64 x7_4 ∧ Aside0 (spec_maSwitches.l3 kq l0 x3_4 x11_1 x5_2 x26_3 x7_4 (l0.length : Int) x11_1 ((rd_L1 l0 0).length : Int) x26_3 = some r) ∧ Aside0 (kq ≤ k3) ∧ Aside0 (Kd.R k41 41 w' w.heap.size (fun _ => True) v3 x3_4) ∧ Aside0 (Below w.heap.size w w'))
           case atStart => exact ⟨(x3_3), (wrap64 (x26_3 + 1)), (by first | rfl | (simp; done) | (simp [*]; done)), H', ⟨Nat.le_refl _⟩, ⟨by (with_reducible repeat (first | apply Kd.R_alloc | apply Kd.R_drewN | apply Kd.R_drew)); exact HO_3.out⟩, ⟨by repeat (first | (with_reducible first | exact HB.out | apply below_alloc | apply pw_below_drewN | apply below_drew1) | exact HB.out)⟩⟩
           case round =>
            clear H'
            try clear c1
            try clear p1
            try clear q1
            try clear hx1
            try clear qi1
            try clear c2
            try clear c2b0
            try clear p2
            try clear c3
            try clear c3b0
            try clear c4
            try clear c4b0
            try clear c4b1
            try clear c5
            try clear c5b0
            try clear hx188_0
            try clear p1
            try clear p188
            try clear p2
            try clear q1
            try clear q188
            obtain ⟨x3_4, x7_4, rfl, HA, HK4, HO_3, HB⟩ := hrel
            cases gk with
            | zero => exact absurd HA.out (by simp [spec_maSwitches.l3])
            | succ k4 =>
             have H := HA.out
             clear HA
             simp only [spec_maSwitches.l3] at H
             by_cases c6 : 0 < (l0.length : Int)
             ·
              rw [if_pos c6] at H
              have c6b0 : decide (0 < (l0.length : Int)) = true := decide_eq_true c6
              have c6b1 : decide (0 < l0.length) = true := decide_eq_true (by omega)
              clear c6
              by_cases c7 : x7_4 < ((rd_L1 l0 0).length : Int)
              ·
               rw [if_pos c7] at H
               have c7b0 : decide (x7_4 < ((rd_L1 l0 0).length : Int)) = true := decide_eq_true c7
               clear c7
               replace H := Option.bind_eq_some_iff.mp H
               obtain ⟨t191, A80, H⟩ := H
               replace H : (if t191 = true then (if x3_4.length < 4398046511104 then (spec_maSwitches.l3 k4 l0 (x3_4 ++ [(⟨x11_1, x5_2, x26_3, x7_4⟩ : S41)]) x11_1 x5_2 x26_3 (wrap64 (x7_4 + 1)) (l0.length : Int) x11_1 ((rd_L1 l0 0).length : Int) x26_3) else (none)) else (spec_maSwitches.l3 k4 l0 x3_4 x11_1 x5_2 x26_3 (wrap64 (x7_4 + 1)) (l0.length : Int) x11_1 ((rd_L1 l0 0).length : Int) x26_3)) = some r := H
               have A8 := Aside0.mk A80
               clear A80
               by_cases c9 : t191 = true
               ·
                subst c9
                have H1 : (if x3_4.length < 4398046511104 then (spec_maSwitches.l3 k4 l0 (x3_4 ++ [(⟨x11_1, x5_2, x26_3, x7_4⟩ : S41)]) x11_1 x5_2 x26_3 (wrap64 (x7_4 + 1)) (l0.length : Int) x11_1 ((rd_L1 l0 0).length : Int) x26_3) else (none)) = some r := by rw [if_pos rfl] at H; exact H
                clear H
                have H := H1
                clear H1
                by_cases c10 : x3_4.length < 4398046511104
                ·
                 rw [if_pos c10] at H
                 have LMc10 := Aside0.mk c10
                 clear c10
                 obtain ⟨y192, hy192⟩ : ∃ y_ : List (S41), y_ = (x3_4 ++ [(⟨x11_1, x5_2, x26_3, x7_4⟩ : S41)]) := ⟨_, rfl⟩
                 replace H : (spec_maSwitches.l3 k4 l0 y192 x11_1 x5_2 x26_3 (wrap64 (x7_4 + 1)) (l0.length : Int) x11_1 ((rd_L1 l0 0).length : Int) x26_3) = some r := by first | (rw [hy192]; with_reducible exact H) | (have H2_ := (Option.bind_some _ _).symm.trans H; rw [hy192]; with_reducible exact H2_) | (have H2_ := (Option.bind_some _ _).symm.trans H; with_reducible exact H2_) | with_reducible exact H | (rw [hy192]; exact H) | exact H
                 have Ny192 := Aside0.mk hy192
                 clear hy192
                 have H' := Aside0.mk H
                 clear H
                 have p189 : 0 ≤ (0 : Int) := (by omega)
                 have q189 : 0 < (l0.length : Int) := of_decide_eq_true (by first | (with_reducible assumption) | assumption)
                 obtain ⟨ad189, A189_0, c189_0, e189, hx189_0, hl189_0, hi189_0⟩ := at_L1 HR0.out 0 p189 q189
                 obtain rfl : ad188 = ad189 := (by injection e189)
                 have qi189 : (0 < l0.length) = True := eq_true (by omega)
                 (try rw [show ((0 : Int)).toNat = 0 from rfl] at hx189_0)
                 (try rw [Addr.add_zero'] at hx189_0)
                 replace hx189_0 := (HB.out.cell (World.block_lt_of_cell? w _ hx189_0)).trans hx189_0
                 have HR189_0 := Aside0.mk hi189_0
                 have HC189_0 := Aside0.mk hl189_0
                 clear hi189_0 hl189_0
                 replace p189 := eq_true p189
                 replace q189 := eq_true q189
                 go_wp2_with (first | ((with_reducible refine gate_dst (N := 8) rfl ?_); refine box_event ?hg (N := 8) ?hd (cs := #[.int .i64 0, .int .i64 0, .int .i64 0, .int .i64 0]) (t := 41) ?hr ?_; (case hd => rfl); (case hg => rfl); (case hr => first | (go_simp; done) | (go_simp; rfl)); intro gb190 hg w11 hbox hb; have n0_ := Aside0.mk (Kd.R_below (Kd.R_elderB (by (with_reducible repeat (first | apply Kd.R_alloc | apply Kd.R_drewN | apply Kd.R_drew)); exact HO_3.out) gb190 (Nat.le_of_eq hg.symm)) hb); have n1_ := Aside0.mk (below_step (by repeat (first | (with_reducible first | exact HB.out | apply below_alloc | apply pw_below_drewN | apply below_drew1))) hb); have n2_ := Aside0.mk (hbox); have n3_ := Aside0.mk ((by rw [hg]; exact (below_size (by repeat (first | (with_reducible first | exact HB.out | apply below_alloc | apply pw_below_drewN | apply below_drew1)))) : w.heap.size ≤ gb190)); have n4_ := Aside0.mk ((by rw [hg]; exact (below_size (by repeat (first | (with_reducible first | exact HB.out | apply below_alloc | apply pw_below_drewN | apply below_drew1)))) : w.heap.size ≤ gb190)); clear HO_3; clear HB; have HO_3 := n0_; have HB := n1_; have BK190 := n2_; have GW190 := n3_; have GE190 := n4_; clear n0_ n1_ n2_ n3_ n4_; clear hb hbox hg; have hcz12_0 : w11.cell? ⟨gb190, 0, none⟩ = some (.int .i64 0) := (blk_cell BK190.out 0).trans rfl; have hcz12_1 : w11.cell? ⟨gb190, 1, none⟩ = some (.int .i64 0) := (blk_cell BK190.out 1).trans rfl; have hcz12_2 : w11.cell? ⟨gb190, 2, none⟩ = some (.int .i64 0) := (blk_cell BK190.out 2).trans rfl; have hcz12_3 : w11.cell? ⟨gb190, 3, none⟩ = some (.int .i64 0) := (blk_cell BK190.out 3).trans rfl; have hfz12_0 := blk_frozen BK190.out 0; have hfz12_1 := blk_frozen BK190.out 1; have hfz12_2 := blk_frozen BK190.out 2; have hfz12_3 := blk_frozen BK190.out 3) | ((with_reducible refine gate_callee (f := 80) rfl ?_); refine goesL_ (some 46) rfl rfl Try.func80 (by kernel_rfl) rfl #[.slice (some ad188) l0.length c0, .agg #[.int .i64 x11_1, .int .i64 x5_2, .int .i64 x26_3, .int .i64 x7_4]] rfl (by (try simp only [List.map_toArray, List.map_cons, List.map_nil]); first | done | rfl) ?_; (with_reducible refine (spec_maIs.calls _ _ l0 x11_1 x5_2 x26_3 x7_4 true _ ?side1 ?side2 A8.out).mono ?_); (case side1 => exact Kd.C_below HR0.out (by repeat (first | (with_reducible first | exact HB.out | apply below_alloc | apply pw_below_drewN | apply below_drew1 | refine below_set ?_ GE190.out) | exact HB.out))); (case side2 => exact HC0.out); rintro e w13 ⟨rfl, hb⟩; refine ⟨_, rfl, ?_⟩; have n0_ := Aside0.mk (Kd.R_below (by (with_reducible repeat (first | apply Kd.R_alloc | apply Kd.R_drewN | apply Kd.R_drew)); exact (Kd.R_mono (Kd.R_far (p := ⟨gb190, 3, none⟩) (Kd.R_far (p := ⟨gb190, 2, none⟩) (Kd.R_far (p := ⟨gb190, 1, none⟩) (Kd.R_far (p := ⟨gb190, 0, none⟩) (Kd.R_mono HO_3.out (fun k_ hk => (⟨hk, hk.2⟩ : _ ∧ k_ ≠ gb190))) (fun _ hk => hk.2) (.int .i64 x11_1)) (fun _ hk => hk.2) (.int .i64 x5_2)) (fun _ hk => hk.2) (.int .i64 x26_3)) (fun _ hk => hk.2) (.int .i64 x7_4)) (fun _ h_ => h_.1))) hb); have n1_ := Aside0.mk (blk_below (g := gb190) (o := .cells #[.int .i64 x11_1, .int .i64 x5_2, .int .i64 x26_3, .int .i64 x7_4] 41 (0, 0)) (by (with_reducible repeat (first | refine blk_drewN ?_ _ | refine blk_drew ?_ | refine blk_alloc ?_ _)); refine blk_put (cs := #[.int .i64 x11_1, .int .i64 x5_2, .int .i64 x26_3, .int .i64 0]) ?_ 3 _ rfl; (with_reducible repeat (first | refine blk_drewN ?_ _ | refine blk_drew ?_ | refine blk_alloc ?_ _)); refine blk_put (cs := #[.int .i64 x11_1, .int .i64 x5_2, .int .i64 0, .int .i64 0]) ?_ 2 _ rfl; (with_reducible repeat (first | refine blk_drewN ?_ _ | refine blk_drew ?_ | refine blk_alloc ?_ _)); refine blk_put (cs := #[.int .i64 x11_1, .int .i64 0, .int .i64 0, .int .i64 0]) ?_ 1 _ rfl; (with_reducible repeat (first | refine blk_drewN ?_ _ | refine blk_drew ?_ | refine blk_alloc ?_ _)); refine blk_put (cs := #[.int .i64 0, .int .i64 0, .int .i64 0, .int .i64 0]) ?_ 0 _ rfl; (with_reducible repeat (first | refine blk_drewN ?_ _ | refine blk_drew ?_ | refine blk_alloc ?_ _)); exact BK190.out) hb); have n2_ := Aside0.mk (below_step (by repeat (first | (with_reducible first | exact HB.out | apply below_alloc | apply pw_below_drewN | apply below_drew1 | refine below_set ?_ GE190.out) | exact HB.out)) hb); clear HO_3; clear BK190; clear HB; have HO_3 := n0_; have BK190 := n1_; have HB := n2_; clear n0_ n1_ n2_; (try clear hb); (try clear hb2); (try clear hk); (try clear hi); have hcz14_0 : w13.cell? ⟨gb190, 0, none⟩ = some (.int .i64 x11_1) := (blk_cell BK190.out 0).trans rfl; have hcz14_1 : w13.cell? ⟨gb190, 1, none⟩ = some (.int .i64 x5_2) := (blk_cell BK190.out 1).trans rfl; have hcz14_2 : w13.cell? ⟨gb190, 2, none⟩ = some (.int .i64 x26_3) := (blk_cell BK190.out 2).trans rfl; have hcz14_3 : w13.cell? ⟨gb190, 3, none⟩ = some (.int .i64 x7_4) := (blk_cell BK190.out 3).trans rfl; have hfz14_0 := blk_frozen BK190.out 0; have hfz14_1 := blk_frozen BK190.out 1; have hfz14_2 := blk_frozen BK190.out 2; have hfz14_3 := blk_frozen BK190.out 3) | ((with_reducible refine gate_builtin (b := .append) (xs := #[.tmp 47, .tmp 49]) rfl ?_); at_builtin; refine Kd.R_append k41 (w0 := w) w.heap.size rfl (.tmp 47) (.tmp 49) 44 41 (.agg #[(.int .i64 0), (.int .i64 0), (.int .i64 0), (.int .i64 0)]) 32 rfl Try.underlying44 info41 rfl (by decide) (by omega) u3 x3_4 (⟨x11_1, x5_2, x26_3, x7_4⟩ : S41) [.int .i64 x11_1, .int .i64 x5_2, .int .i64 x26_3, .int .i64 x7_4] (fun k_ => k_ ≠ gb190) (fun _ => False) rfl rfl ?aP (fun _ hk => hk.elim) ?aF ?aO ?aB ?aS ?aL ?_; (case aP => exact k41_mkM _ _ _ (⟨x11_1, x5_2, x26_3, x7_4⟩ : S41)); (case aB => exact (by repeat (first | (with_reducible first | exact HB.out | apply below_alloc | apply pw_below_drewN | apply below_drew1 | refine below_set ?_ GE190.out) | exact HB.out))); (case aF => exact (fun k_ hk => Kd.freshB (g := gb190) (o := .cells #[.int .i64 x11_1, .int .i64 x5_2, .int .i64 x26_3, .int .i64 x7_4] 41 (0, 0)) (by (with_reducible repeat (first | refine blk_drewN ?_ _ | refine blk_drew ?_ | refine blk_alloc ?_ _)); exact BK190.out) k_ hk)); (case aO => exact (by (with_reducible repeat (first | apply Kd.R_alloc | apply Kd.R_drewN | apply Kd.R_drew)); exact Kd.R_mono HO_3.out (fun _ hk => hk.2))); (case aS => exact (below_size (by repeat (first | (with_reducible first | exact HB.out | apply below_alloc | apply pw_below_drewN | apply below_drew1 | refine below_set ?_ GE190.out) | exact HB.out)))); (case aL => have := LMc10.out; omega); intro v193 w15 ho hb hg hat; rw [← Ny192.out] at ho; have n0_ := Aside0.mk (blk_grown (g := gb190) (o := .cells #[.int .i64 x11_1, .int .i64 x5_2, .int .i64 x26_3, .int .i64 x7_4] 41 (0, 0)) (by (with_reducible repeat (first | refine blk_drewN ?_ _ | refine blk_drew ?_ | refine blk_alloc ?_ _)); exact BK190.out) hg (Kd.R_away HO_3.out (fun _ hk => hk.2))); have n1_ := Aside0.mk (hb); have n2_ := Aside0.mk (ho); clear BK190; clear HB; clear HO_3; have BK190 := n0_; have HB := n1_; have HO194 := n2_; clear n0_ n1_ n2_; clear ho hb hg hat))
                 go_roundg k4
                 case measure => have := HK1.out; have := HK2.out; have := HK3.out; have := HK4.out; omega
                 case rel => exact ⟨(y192), (wrap64 (x7_4 + 1)), (by first | rfl | (simp; done) | (simp [*]; done)), H', ⟨by have := HK1.out; have := HK2.out; have := HK3.out; have := HK4.out; omega⟩, ⟨by (with_reducible repeat (first | apply Kd.R_alloc | apply Kd.R_drewN | apply Kd.R_drew)); exact Kd.R_mono HO194.out (fun _ hk => trivial)⟩, ⟨by repeat (first | (with_reducible first | exact HB.out | apply below_alloc | apply pw_below_drewN | apply below_drew1 | refine below_set ?_ GE190.out) | exact HB.out)⟩⟩
                ·
                 rw [if_neg c10] at H
                 exact absurd H (by simp)
               ·
                replace c9 := Bool.eq_false_iff.mpr c9
                subst c9
                have H1 : (spec_maSwitches.l3 k4 l0 x3_4 x11_1 x5_2 x26_3 (wrap64 (x7_4 + 1)) (l0.length : Int) x11_1 ((rd_L1 l0 0).length : Int) x26_3) = some r := by rw [if_neg (show ¬ (false = true) by decide)] at H; exact H
                clear H
                have H := H1
                clear H1
                have H' := Aside0.mk H
                clear H
                have p189 : 0 ≤ (0 : Int) := (by omega)
                have q189 : 0 < (l0.length : Int) := of_decide_eq_true (by first | (with_reducible assumption) | assumption)
                obtain ⟨ad189, A189_0, c189_0, e189, hx189_0, hl189_0, hi189_0⟩ := at_L1 HR0.out 0 p189 q189
                obtain rfl : ad188 = ad189 := (by injection e189)
                have qi189 : (0 < l0.length) = True := eq_true (by omega)
                (try rw [show ((0 : Int)).toNat = 0 from rfl] at hx189_0)
                (try rw [Addr.add_zero'] at hx189_0)
                replace hx189_0 := (HB.out.cell (World.block_lt_of_cell? w _ hx189_0)).trans hx189_0
                have HR189_0 := Aside0.mk hi189_0
                have HC189_0 := Aside0.mk hl189_0
                clear hi189_0 hl189_0
                replace p189 := eq_true p189
                replace q189 := eq_true q189
                go_wp2_with (first | ((with_reducible refine gate_dst (N := 8) rfl ?_); refine box_event ?hg (N := 8) ?hd (cs := #[.int .i64 0, .int .i64 0, .int .i64 0, .int .i64 0]) (t := 41) ?hr ?_; (case hd => rfl); (case hg => rfl); (case hr => first | (go_simp; done) | (go_simp; rfl)); intro gb190 hg w16 hbox hb; have n0_ := Aside0.mk (Kd.R_below (Kd.R_elderB (by (with_reducible repeat (first | apply Kd.R_alloc | apply Kd.R_drewN | apply Kd.R_drew)); exact HO_3.out) gb190 (Nat.le_of_eq hg.symm)) hb); have n1_ := Aside0.mk (below_step (by repeat (first | (with_reducible first | exact HB.out | apply below_alloc | apply pw_below_drewN | apply below_drew1))) hb); have n2_ := Aside0.mk (hbox); have n3_ := Aside0.mk ((by rw [hg]; exact (below_size (by repeat (first | (with_reducible first | exact HB.out | apply below_alloc | apply pw_below_drewN | apply below_drew1)))) : w.heap.size ≤ gb190)); have n4_ := Aside0.mk ((by rw [hg]; exact (below_size (by repeat (first | (with_reducible first | exact HB.out | apply below_alloc | apply pw_below_drewN | apply below_drew1)))) : w.heap.size ≤ gb190)); clear HO_3; clear HB; have HO_3 := n0_; have HB := n1_; have BK190 := n2_; have GW190 := n3_; have GE190 := n4_; clear n0_ n1_ n2_ n3_ n4_; clear hb hbox hg; have hcz17_0 : w16.cell? ⟨gb190, 0, none⟩ = some (.int .i64 0) := (blk_cell BK190.out 0).trans rfl; have hcz17_1 : w16.cell? ⟨gb190, 1, none⟩ = some (.int .i64 0) := (blk_cell BK190.out 1).trans rfl; have hcz17_2 : w16.cell? ⟨gb190, 2, none⟩ = some (.int .i64 0) := (blk_cell BK190.out 2).trans rfl; have hcz17_3 : w16.cell? ⟨gb190, 3, none⟩ = some (.int .i64 0) := (blk_cell BK190.out 3).trans rfl; have hfz17_0 := blk_frozen BK190.out 0; have hfz17_1 := blk_frozen BK190.out 1; have hfz17_2 := blk_frozen BK190.out 2; have hfz17_3 := blk_frozen BK190.out 3) | ((with_reducible refine gate_callee (f := 80) rfl ?_); refine goesL_ (some 46) rfl rfl Try.func80 (by kernel_rfl) rfl #[.slice (some ad188) l0.length c0, .agg #[.int .i64 x11_1, .int .i64 x5_2, .int .i64 x26_3, .int .i64 x7_4]] rfl (by (try simp only [List.map_toArray, List.map_cons, List.map_nil]); first | done | rfl) ?_; (with_reducible refine (spec_maIs.calls _ _ l0 x11_1 x5_2 x26_3 x7_4 false _ ?side1 ?side2 A8.out).mono ?_); (case side1 => exact Kd.C_below HR0.out (by repeat (first | (with_reducible first | exact HB.out | apply below_alloc | apply pw_below_drewN | apply below_drew1 | refine below_set ?_ GE190.out) | exact HB.out))); (case side2 => exact HC0.out); rintro e w18 ⟨rfl, hb⟩; refine ⟨_, rfl, ?_⟩; have n0_ := Aside0.mk (Kd.R_below (by (with_reducible repeat (first | apply Kd.R_alloc | apply Kd.R_drewN | apply Kd.R_drew)); exact (Kd.R_mono (Kd.R_far (p := ⟨gb190, 3, none⟩) (Kd.R_far (p := ⟨gb190, 2, none⟩) (Kd.R_far (p := ⟨gb190, 1, none⟩) (Kd.R_far (p := ⟨gb190, 0, none⟩) (Kd.R_mono HO_3.out (fun k_ hk => (⟨hk, hk.2⟩ : _ ∧ k_ ≠ gb190))) (fun _ hk => hk.2) (.int .i64 x11_1)) (fun _ hk => hk.2) (.int .i64 x5_2)) (fun _ hk => hk.2) (.int .i64 x26_3)) (fun _ hk => hk.2) (.int .i64 x7_4)) (fun _ h_ => h_.1))) hb); have n1_ := Aside0.mk (blk_below (g := gb190) (o := .cells #[.int .i64 x11_1, .int .i64 x5_2, .int .i64 x26_3, .int .i64 x7_4] 41 (0, 0)) (by (with_reducible repeat (first | refine blk_drewN ?_ _ | refine blk_drew ?_ | refine blk_alloc ?_ _)); refine blk_put (cs := #[.int .i64 x11_1, .int .i64 x5_2, .int .i64 x26_3, .int .i64 0]) ?_ 3 _ rfl; (with_reducible repeat (first | refine blk_drewN ?_ _ | refine blk_drew ?_ | refine blk_alloc ?_ _)); refine blk_put (cs := #[.int .i64 x11_1, .int .i64 x5_2, .int .i64 0, .int .i64 0]) ?_ 2 _ rfl; (with_reducible repeat (first | refine blk_drewN ?_ _ | refine blk_drew ?_ | refine blk_alloc ?_ _)); refine blk_put (cs := #[.int .i64 x11_1, .int .i64 0, .int .i64 0, .int .i64 0]) ?_ 1 _ rfl; (with_reducible repeat (first | refine blk_drewN ?_ _ | refine blk_drew ?_ | refine blk_alloc ?_ _)); refine blk_put (cs := #[.int .i64 0, .int .i64 0, .int .i64 0, .int .i64 0]) ?_ 0 _ rfl; (with_reducible repeat (first | refine blk_drewN ?_ _ | refine blk_drew ?_ | refine blk_alloc ?_ _)); exact BK190.out) hb); have n2_ := Aside0.mk (below_step (by repeat (first | (with_reducible first | exact HB.out | apply below_alloc | apply pw_below_drewN | apply below_drew1 | refine below_set ?_ GE190.out) | exact HB.out)) hb); clear HO_3; clear BK190; clear HB; have HO_3 := n0_; have BK190 := n1_; have HB := n2_; clear n0_ n1_ n2_; (try clear hb); (try clear hb2); (try clear hk); (try clear hi)))
                go_roundg k4
                case measure => have := HK1.out; have := HK2.out; have := HK3.out; have := HK4.out; omega
                case rel => exact ⟨(x3_4), (wrap64 (x7_4 + 1)), (by first | rfl | (simp; done) | (simp [*]; done)), H', ⟨by have := HK1.out; have := HK2.out; have := HK3.out; have := HK4.out; omega⟩, ⟨by (with_reducible repeat (first | apply Kd.R_alloc | apply Kd.R_drewN | apply Kd.R_drew)); exact Kd.R_mono HO_3.out (fun _ hk => trivial)⟩, ⟨by repeat (first | (with_reducible first | exact HB.out | apply below_alloc | apply pw_below_drewN | apply below_drew1 | refine below_set ?_ GE190.out) | exact HB.out)⟩⟩
              ·
               rw [if_neg c7] at H
               have c7b0 : decide (x7_4 < ((rd_L1 l0 0).length : Int)) = false := decide_eq_false c7
               clear c7
               have H' := Aside0.mk H
               clear H
               have p189 : 0 ≤ (0 : Int) := (by omega)
               have q189 : 0 < (l0.length : Int) := of_decide_eq_true (by first | (with_reducible assumption) | assumption)
               obtain ⟨ad189, A189_0, c189_0, e189, hx189_0, hl189_0, hi189_0⟩ := at_L1 HR0.out 0 p189 q189
               obtain rfl : ad188 = ad189 := (by injection e189)
               have qi189 : (0 < l0.length) = True := eq_true (by omega)
               (try rw [show ((0 : Int)).toNat = 0 from rfl] at hx189_0)
               (try rw [Addr.add_zero'] at hx189_0)
               replace hx189_0 := (HB.out.cell (World.block_lt_of_cell? w _ hx189_0)).trans hx189_0
               have HR189_0 := Aside0.mk hi189_0
               have HC189_0 := Aside0.mk hl189_0
               clear hi189_0 hl189_0
               replace p189 := eq_true p189
               replace q189 := eq_true q189
               go_wp2
               go_roundg k4
               case measure => have := HK1.out; have := HK2.out; have := HK3.out; have := HK4.out; omega
               case rel => exact ⟨(x3_4), (wrap64 (x26_3 + 1)), (by first | rfl | (simp; done) | (simp [*]; done)), H', ⟨by have := HK1.out; have := HK2.out; have := HK3.out; have := HK4.out; omega⟩, ⟨by (with_reducible repeat (first | apply Kd.R_alloc | apply Kd.R_drewN | apply Kd.R_drew)); exact HO_3.out⟩, ⟨by repeat (first | (with_reducible first | exact HB.out | apply below_alloc | apply pw_below_drewN | apply below_drew1) | exact HB.out)⟩⟩
             ·
              rw [if_neg c6] at H
              exact absurd H (by simp)
          ·
           rw [if_neg c5] at H
           have c5b0 : decide (x26_3 < ((rd_L1 l0 0).length : Int)) = false := decide_eq_false c5
           clear c5
           have H' := Aside0.mk H
           clear H
           go_wp2
           go_roundg k3
           case measure => have := HK1.out; have := HK2.out; have := HK3.out; omega
           case rel => exact ⟨(x3_3), (wrap64 (x5_2 + 1)), (by first | rfl | (simp; done) | (simp [*]; done)), H', ⟨by have := HK1.out; have := HK2.out; have := HK3.out; omega⟩, ⟨by (with_reducible repeat (first | apply Kd.R_alloc | apply Kd.R_drewN | apply Kd.R_drew)); exact HO_3.out⟩, ⟨by repeat (first | (with_reducible first | exact HB.out | apply below_alloc | apply pw_below_drewN | apply below_drew1) | exact HB.out)⟩⟩
       ·
        rw [if_neg c4] at H
        exact absurd H (by simp)
      ·
       rw [if_neg c3] at H
       have c3b0 : decide (x5_2 < (l0.length : Int)) = false := decide_eq_false c3
       clear c3
       have H' := Aside0.mk H
       clear H
       go_wp2
       go_roundg k2
       case measure => have := HK1.out; have := HK2.out; omega
       case rel => exact ⟨(x3_2), (wrap64 (x11_1 + 1)), (by first | rfl | (simp; done) | (simp [*]; done)), H', ⟨by have := HK1.out; have := HK2.out; omega⟩, ⟨by (with_reducible repeat (first | apply Kd.R_alloc | apply Kd.R_drewN | apply Kd.R_drew)); exact HO_3.out⟩, ⟨by repeat (first | (with_reducible first | exact HB.out | apply below_alloc | apply pw_below_drewN | apply below_drew1) | exact HB.out)⟩⟩
   ·
    rw [if_neg c2] at H
    have c2b0 : decide (x11_1 < (l0.length : Int)) = false := decide_eq_false c2
    clear c2
    obtain rfl := Option.some.inj H
    go_wp2
    go_ret
    exact ⟨_, by first | rfl | (simp [errW_none, errW_some] <;> rfl) | (simp [*, errW_none, errW_some] <;> rfl), by (with_reducible repeat (first | apply Kd.R_alloc | apply Kd.R_drewN | apply Kd.R_drew)); exact HO_3.out, by repeat (first | (with_reducible first | exact HB.out | apply below_alloc | apply pw_below_drewN | apply below_drew1) | exact HB.out)⟩
mutual
def spec_l1Cur_alike.j0 : Nat → List (List Int) → Bool → List Int → Int → Int → Option ((List (List Int)) × (List (List Int)) × Int × Int)
 | 0, _, _, _, _, _ => none
 | k + 1, x4, x16, x1000, x1001, x1002 => if x16 = true then ((spec_l1Cur_grid.f k x1000 x1001 x1002).bind fun bt814 => (some (x4, bt814.1, bt814.2.1, bt814.2.2))) else ((spec_maOwn.f k x4).bind fun t819 => ((spec_l1Cur_pick.f x1000 x1001 x1002 7).bind fun bt822 => (spec_l1Cur_alike.l0 k x4 t819 (wrap64 (1 + bt822.1)) x1000 bt822.2.1 bt822.2.2)))
def spec_l1Cur_alike.l0 : Nat → List (List Int) → List (List Int) → Int → List Int → Int → Int → Option ((List (List Int)) × (List (List Int)) × Int × Int)
 | 0, _, _, _, _, _, _ => none
 | k + 1, x4, x5, x6, x1000, x1001, x1002 => if x6 > 0 then ((spec_maSwitches.f k x5).bind fun t825 => (if (t825.length : Int) > 0 then ((spec_l1Cur_pick.f x1000 x1001 x1002 (t825.length : Int)).bind fun bt828 => (if 0 ≤ bt828.1 then (if bt828.1 < (t825.length : Int) then ((spec_maDo.f k x5 ((rd_T41 t825 bt828.1).f0) ((rd_T41 t825 bt828.1).f1) ((rd_T41 t825 bt828.1).f2) ((rd_T41 t825 bt828.1).f3)).bind fun t832 => (spec_l1Cur_alike.l0 k x4 t832 (wrap64 (x6 - 1)) x1000 bt828.2.1 bt828.2.2)) else (none)) else (none))) else (spec_l1Cur_alike.l0 k x4 x5 (wrap64 (x6 - 1)) x1000 x1001 x1002))) else (some (x4, x5, x1001, x1002))
end
def spec_l1Cur_alike.f (k : Nat) (s0_0 : List Int) (s0_1 : Int) (s0_2 : Int) : Option ((List (List Int)) × (List (List Int)) × Int × Int) := (spec_l1Cur_grid.f k s0_0 s0_1 s0_2).bind fun bt805 => ((spec_maGrid.f k bt805.1).bind fun t810 => (if t810 = true then ((spec_l1Cur_one.f s0_0 bt805.2.1 bt805.2.2 6).bind fun bt811 => (spec_l1Cur_alike.j0 k bt805.1 bt811.1 s0_0 bt811.2.1 bt811.2.2)) else (spec_l1Cur_alike.j0 k bt805.1 true s0_0 bt805.2.1 bt805.2.2)))
theorem spec_l1Cur_alike.mono_l : ∀ k, (∀ y0 y1 y2 y3 y4, LeO (spec_l1Cur_alike.j0 k y0 y1 y2 y3 y4) (spec_l1Cur_alike.j0 (k + 1) y0 y1 y2 y3 y4)) ∧ (∀ y0 y1 y2 y3 y4 y5, LeO (spec_l1Cur_alike.l0 k y0 y1 y2 y3 y4 y5) (spec_l1Cur_alike.l0 (k + 1) y0 y1 y2 y3 y4 y5))
 | 0 => ⟨fun _ _ _ _ _ r h => by simp [spec_l1Cur_alike.j0] at h, fun _ _ _ _ _ _ r h => by simp [spec_l1Cur_alike.l0] at h⟩
 | k + 1 => by
  obtain ⟨ih0, ih1⟩ := spec_l1Cur_alike.mono_l k
  refine ⟨?_, ?_⟩
  ·
   intro y0 y1 y2 y3 y4
   unfold spec_l1Cur_alike.j0
   repeat' first
   | (with_reducible exact ih0 _ _ _ _ _)
   | (with_reducible exact ih1 _ _ _ _ _ _)
   | (with_reducible exact spec_l1Cur_grid.mono _ _ _ _)
   | (with_reducible exact spec_maDo.mono _ _ _ _ _ _)
   | (with_reducible exact spec_maGrid.mono _ _)
   | (with_reducible exact spec_maOwn.mono _ _)
   | (with_reducible exact spec_maSwitches.mono _ _)
   | (with_reducible exact LeO.refl _)
   | (with_reducible exact LeO.none _)
   | (with_reducible refine LeO.ite ?_ ?_)
   | (with_reducible refine LeO.bind ?_ (fun _ => ?_))
   | exact ih0 _ _ _ _ _
   | exact ih1 _ _ _ _ _ _
   | exact spec_l1Cur_grid.mono _ _ _ _
   | exact spec_maDo.mono _ _ _ _ _ _
   | exact spec_maGrid.mono _ _
   | exact spec_maOwn.mono _ _
   | exact spec_maSwitches.mono _ _
   | exact LeO.none _
   | refine LeO.ite ?_ ?_
   | refine LeO.bind ?_ (fun _ => ?_)
  ·
   intro y0 y1 y2 y3 y4 y5
   unfold spec_l1Cur_alike.l0
   repeat' first
   | (with_reducible exact ih0 _ _ _ _ _)
   | (with_reducible exact ih1 _ _ _ _ _ _)
   | (with_reducible exact spec_l1Cur_grid.mono _ _ _ _)
   | (with_reducible exact spec_maDo.mono _ _ _ _ _ _)
   | (with_reducible exact spec_maGrid.mono _ _)
   | (with_reducible exact spec_maOwn.mono _ _)
   | (with_reducible exact spec_maSwitches.mono _ _)
   | (with_reducible exact LeO.refl _)
   | (with_reducible exact LeO.none _)
   | (with_reducible refine LeO.ite ?_ ?_)
   | (with_reducible refine LeO.bind ?_ (fun _ => ?_))
   | exact ih0 _ _ _ _ _
   | exact ih1 _ _ _ _ _ _
   | exact spec_l1Cur_grid.mono _ _ _ _
   | exact spec_maDo.mono _ _ _ _ _ _
   | exact spec_maGrid.mono _ _
   | exact spec_maOwn.mono _ _
   | exact spec_maSwitches.mono _ _
   | exact LeO.none _
   | refine LeO.ite ?_ ?_
   | refine LeO.bind ?_ (fun _ => ?_)
theorem spec_l1Cur_alike.mono : ∀ a0 a1 a2 k, LeO (spec_l1Cur_alike.f k a0 a1 a2) (spec_l1Cur_alike.f (k + 1) a0 a1 a2) := by
 intro a0 a1 a2 k
 obtain ⟨ih0, ih1⟩ := spec_l1Cur_alike.mono_l k
 unfold spec_l1Cur_alike.f
 repeat' first
   | (with_reducible exact ih0 _ _ _ _ _)
   | (with_reducible exact ih1 _ _ _ _ _ _)
   | (with_reducible exact spec_l1Cur_grid.mono _ _ _ _)
   | (with_reducible exact spec_maDo.mono _ _ _ _ _ _)
   | (with_reducible exact spec_maGrid.mono _ _)
   | (with_reducible exact spec_maOwn.mono _ _)
   | (with_reducible exact spec_maSwitches.mono _ _)
   | (with_reducible exact LeO.refl _)
   | (with_reducible exact LeO.none _)
   | (with_reducible refine LeO.ite ?_ ?_)
   | (with_reducible refine LeO.bind ?_ (fun _ => ?_))
   | exact ih0 _ _ _ _ _
   | exact ih1 _ _ _ _ _ _
   | exact spec_l1Cur_grid.mono _ _ _ _
   | exact spec_maDo.mono _ _ _ _ _ _
   | exact spec_maGrid.mono _ _
   | exact spec_maOwn.mono _ _
   | exact spec_maSwitches.mono _ _
   | exact LeO.none _
   | refine LeO.ite ?_ ?_
   | refine LeO.bind ?_ (fun _ => ?_)
set_option maxHeartbeats 8000000 in
set_option maxRecDepth 100000 in
theorem spec_l1Cur_alike.calls (k : Nat) (g : Nat) (s0_0 : List Int) (s0_1 : Int) (s0_2 : Int) (r1 : List (List Int)) (r2 : List (List Int)) (r3 : Int) (r4 : Int) (w0 w : World) (hI : IsS90 w0 w g s0_0 s0_1 s0_2) (hB : Below w0.heap.size w0 w) (h : spec_l1Cur_alike.f k s0_0 s0_1 s0_2 = some (r1, r2, r3, r4)) :
  Calls Try.prog 107 #[.pointer (some ⟨g, 0, none⟩)] w fun e w' => ∃ v0_ v1_ : Value, e = .returned (.tuple #[v0_, v1_]) ∧ Kd.S (Kd.slice 3 (Kd.int .i64)) 33 w' w.heap.size (fun k_ => some k_ ≠ (v1_ : Value).ownBlock) v0_ r1 ∧ Kd.S (Kd.slice 3 (Kd.int .i64)) 33 w' w.heap.size (fun k_ => some k_ ≠ (v0_ : Value).ownBlock) v1_ r2 ∧ IsS90 w0 w' g s0_0 r3 r4 ∧ Below w0.heap.size w0 w' ∧ KeepBut w w' g none := by
 have hu41 := Try.underlying41
 have HI0 := Aside0.mk hI
 have HK := Aside0.mk (KeepBut.refl w g none)
 have HL := Aside0.mk hB.size
 clear hI
 have HW0 := Aside0.mk hB.size
 have HB := Aside0.mk hB
 clear hB
 have H : ((spec_l1Cur_grid.f k s0_0 s0_1 s0_2).bind fun bt805 => ((spec_maGrid.f k bt805.1).bind fun t810 => (if t810 = true then ((spec_l1Cur_one.f s0_0 bt805.2.1 bt805.2.2 6).bind fun bt811 => (spec_l1Cur_alike.j0 k bt805.1 bt811.1 s0_0 bt811.2.1 bt811.2.2)) else (spec_l1Cur_alike.j0 k bt805.1 true s0_0 bt805.2.1 bt805.2.2)))) = some (r1, r2, r3, r4) := h
 clear h
 replace H := Option.bind_eq_some_iff.mp H
 obtain ⟨⟨t805, t808, t809⟩, A20, H⟩ := H
 replace H : ((spec_maGrid.f k t805).bind fun t810 => (if t810 = true then ((spec_l1Cur_one.f s0_0 t808 t809 6).bind fun bt811 => (spec_l1Cur_alike.j0 k t805 bt811.1 s0_0 bt811.2.1 bt811.2.2)) else (spec_l1Cur_alike.j0 k t805 true s0_0 t808 t809))) = some (r1, r2, r3, r4) := H
 have A2 := Aside0.mk A20
 clear A20
 have HC3 := Aside0.mk H
 clear H
 go_enter Try.func107, Try.ntmps107
 go_upto_region 2 with (first | ((with_reducible refine gate_callee (f := 104) rfl ?_); refine goesL_ (some 9) rfl rfl Try.func104 (by kernel_rfl) rfl #[.pointer (some ⟨g, 0, none⟩)] rfl (by (try simp only [List.map_toArray, List.map_cons, List.map_nil]); first | done | rfl) ?_; (with_reducible refine (spec_l1Cur_grid.calls k g s0_0 s0_1 s0_2 t805 t808 t809 w0 _ ?side1 ?side2 A2.out).mono ?_); (case side1 => repeat (first | (with_reducible first | exact HI0.out | apply IsS90.alloc | apply IsS90.drewN | apply IsS90.drew | apply IsS90.set_1 | apply IsS90.set_2) | exact HI0.out)); (case side2 => repeat (first | (with_reducible first | exact HB.out | apply below_alloc | apply pw_below_drewN | apply below_drew1 | refine below_set ?_ (IsS90.ge HI0.out)) | exact HB.out)); rintro e w4 ⟨v806, rfl, ho0, hi, hb, hk⟩; refine ⟨_, rfl, ?_⟩; have n0_ := Aside0.mk (Kd.S_lower ho0 (keep_size (w := w) (g := g) (row := none) (by repeat (first | (with_reducible first | exact HK.out | apply KeepBut.set_ | apply keep_drewN | apply keep_drew | apply keep_alloc) | exact HK.out)))); have n1_ := Aside0.mk (KeepBut.trans (by repeat (first | (with_reducible first | exact HK.out | apply KeepBut.set_ | apply keep_drewN | apply keep_drew | apply keep_alloc) | exact HK.out)) hk (.inl rfl)); have n2_ := Aside0.mk (hb); have n3_ := Aside0.mk (hi); clear HK; clear HB; clear HI0; have HO807 := n0_; have HK := n1_; have HB := n2_; have HI0 := n3_; clear n0_ n1_ n2_ n3_; (try clear hb); (try clear hb2); (try clear hk); (try clear hi); (try clear ho0)))
 (try simp only [Act.put, List.setIfInBounds_toArray, List.set_cons_zero, List.set_cons_succ])
 go_cut [16] (fun v16 wc => ∃ (kq : Nat) (x16_2 : Bool) (x1001_2 : Int) (x1002_2 : Int), v16 = .bool x16_2 ∧ Aside0 (spec_l1Cur_alike.j0 kq t805 x16_2 s0_0 x1001_2 x1002_2 = some (r1, r2, r3, r4)) ∧ Aside0 (kq ≤ k) ∧ Aside0 (Kd.S (Kd.slice 3 (Kd.int .i64)) 33 wc w.heap.size (fun _ => True) v806 t805) ∧ Aside0 (IsS90 w0 wc g s0_0 x1001_2 x1002_2) ∧ Aside0 (KeepBut w wc g none) ∧ Aside0 (Below w0.heap.size w0 wc))
 case first =>
  have H := HC3.out
  clear HC3
  replace H := Option.bind_eq_some_iff.mp H
  obtain ⟨t810, A50, H⟩ := H
  replace H : (if t810 = true then ((spec_l1Cur_one.f s0_0 t808 t809 6).bind fun bt811 => (spec_l1Cur_alike.j0 k t805 bt811.1 s0_0 bt811.2.1 bt811.2.2)) else (spec_l1Cur_alike.j0 k t805 true s0_0 t808 t809)) = some (r1, r2, r3, r4) := H
  have A5 := Aside0.mk A50
  clear A50
  by_cases c6 : t810 = true
  ·
   subst c6
   have H1 : ((spec_l1Cur_one.f s0_0 t808 t809 6).bind fun bt811 => (spec_l1Cur_alike.j0 k t805 bt811.1 s0_0 bt811.2.1 bt811.2.2)) = some (r1, r2, r3, r4) := by rw [if_pos rfl] at H; exact H
   clear H
   have H := H1
   clear H1
   replace H := Option.bind_eq_some_iff.mp H
   obtain ⟨⟨t811, t812, t813⟩, A70, H⟩ := H
   replace H : (spec_l1Cur_alike.j0 k t805 t811 s0_0 t812 t813) = some (r1, r2, r3, r4) := H
   have A7 := Aside0.mk A70
   clear A70
   have H' := Aside0.mk H
   clear H
   obtain ⟨Ao8, co8, eo8⟩ := Kd.S_slice HO807.out
   subst eo8
   go_wp2_with (first | ((with_reducible refine gate_callee (f := 67) rfl ?_); refine goesL_ (some 11) rfl rfl Try.func67 (by kernel_rfl) rfl #[.slice Ao8 t805.length co8] rfl (by (try simp only [List.map_toArray, List.map_cons, List.map_nil]); first | done | rfl) ?_; (with_reducible refine (spec_maGrid.calls k _ _ t805 true _ ?side1 ?side2 A5.out).mono ?_); (case side1 => repeat (first | exact (Kd.S_reads' HO807.out).2.2 | (with_reducible refine Kd.C_alloc ?_ _) | (with_reducible refine Kd.C_drewN ?_ _) | (with_reducible refine Kd.C_drew ?_))); (case side2 => exact (Kd.S_reads' HO807.out).2.1); rintro e w' ⟨rfl, ⟨nd, rfl⟩⟩; refine ⟨_, rfl, ?_⟩) | (go_at_call 105; (with_reducible refine (spec_l1Cur_one.calls g s0_0 t808 t809 6 t811 t812 t813 w0 _ ?side1 ?side2 A7.out).mono ?_); (case side1 => repeat (first | (with_reducible first | exact HI0.out | apply IsS90.alloc | apply IsS90.drewN | apply IsS90.drew | apply IsS90.set_1 | apply IsS90.set_2) | exact HI0.out)); (case side2 => repeat (first | (with_reducible first | exact HB.out | apply below_alloc | apply pw_below_drewN | apply below_drew1 | refine below_set ?_ (IsS90.ge HI0.out)) | exact HB.out)); rintro e w9 ⟨rfl, hi, hb, hk⟩; have n0_ := Aside0.mk (Kd.S_mono (Kd.S_keep (IsS90.apartS (show IsS90 w0 _ g s0_0 t808 t809 from by repeat (first | (with_reducible first | exact HI0.out | apply IsS90.alloc | apply IsS90.drewN | apply IsS90.drew | apply IsS90.set_1 | apply IsS90.set_2) | exact HI0.out)) (by (with_reducible repeat (first | apply Kd.S_alloc | apply Kd.S_drewN | apply Kd.S_drew)); exact HO807.out) (by decide)) hk (fun _ h => h.2)) (fun _ h => h.1)); have n1_ := Aside0.mk (KeepBut.trans (by repeat (first | (with_reducible first | exact HK.out | apply KeepBut.set_ | apply keep_drewN | apply keep_drew | apply keep_alloc) | exact HK.out)) hk (.inl rfl)); have n2_ := Aside0.mk (hb); have n3_ := Aside0.mk (hi); clear HO807; clear HK; clear HB; clear HI0; have HO807 := n0_; have HK := n1_; have HB := n2_; have HI0 := n3_; clear n0_ n1_ n2_ n3_; (try clear hb); (try clear hb2); (try clear hk); (try clear hi)))
   go_meet
   case rel => exact ⟨_, (t811), (t812), (t813), (by first | rfl | (simp; done) | (simp [*]; done)), H', ⟨by first | omega | exact Nat.le_refl _⟩, ⟨by (with_reducible repeat (first | apply Kd.S_alloc | apply Kd.S_drewN | apply Kd.S_drew)); exact HO807.out⟩, ⟨by repeat (first | (with_reducible first | exact HI0.out | apply IsS90.alloc | apply IsS90.drewN | apply IsS90.drew | apply IsS90.set_1 | apply IsS90.set_2) | exact HI0.out)⟩, ⟨by repeat (first | (with_reducible first | exact HK.out | apply KeepBut.set_ | apply keep_drewN | apply keep_drew | apply keep_alloc) | exact HK.out)⟩, ⟨by repeat (first | (with_reducible first | exact HB.out | apply below_alloc | apply pw_below_drewN | apply below_drew1 | refine below_set ?_ (IsS90.ge HI0.out)) | exact HB.out)⟩⟩
  ·
   replace c6 := Bool.eq_false_iff.mpr c6
   subst c6
   have H1 : (spec_l1Cur_alike.j0 k t805 true s0_0 t808 t809) = some (r1, r2, r3, r4) := by rw [if_neg (show ¬ (false = true) by decide)] at H; exact H
   clear H
   have H := H1
   clear H1
   have H' := Aside0.mk H
   clear H
   obtain ⟨Ao10, co10, eo10⟩ := Kd.S_slice HO807.out
   subst eo10
   go_wp2_with (first | ((with_reducible refine gate_callee (f := 67) rfl ?_); refine goesL_ (some 11) rfl rfl Try.func67 (by kernel_rfl) rfl #[.slice Ao10 t805.length co10] rfl (by (try simp only [List.map_toArray, List.map_cons, List.map_nil]); first | done | rfl) ?_; (with_reducible refine (spec_maGrid.calls k _ _ t805 false _ ?side1 ?side2 A5.out).mono ?_); (case side1 => repeat (first | exact (Kd.S_reads' HO807.out).2.2 | (with_reducible refine Kd.C_alloc ?_ _) | (with_reducible refine Kd.C_drewN ?_ _) | (with_reducible refine Kd.C_drew ?_))); (case side2 => exact (Kd.S_reads' HO807.out).2.1); rintro e w' ⟨rfl, ⟨nd, rfl⟩⟩; refine ⟨_, rfl, ?_⟩))
   go_meet
   case rel => exact ⟨_, (true), (t808), (t809), (by first | rfl | (simp; done) | (simp [*]; done)), H', ⟨by first | omega | exact Nat.le_refl _⟩, ⟨by (with_reducible repeat (first | apply Kd.S_alloc | apply Kd.S_drewN | apply Kd.S_drew)); exact HO807.out⟩, ⟨by repeat (first | (with_reducible first | exact HI0.out | apply IsS90.alloc | apply IsS90.drewN | apply IsS90.drew | apply IsS90.set_1 | apply IsS90.set_2) | exact HI0.out)⟩, ⟨by repeat (first | (with_reducible first | exact HK.out | apply KeepBut.set_ | apply keep_drewN | apply keep_drew | apply keep_alloc) | exact HK.out)⟩, ⟨by repeat (first | (with_reducible first | exact HB.out | apply below_alloc | apply pw_below_drewN | apply below_drew1 | refine below_set ?_ (IsS90.ge HI0.out)) | exact HB.out)⟩⟩
 case rest =>
  clear HC3
  try clear c1
  try clear p2
  try clear c6
  try clear c10
  obtain ⟨kq, x16_2, x1001_2, x1002_2, rfl, HA, HJ2, HO_4, HI0, HK, HB⟩ := hcut
  cases kq with
  | zero => exact absurd HA.out (by simp [spec_l1Cur_alike.j0])
  | succ kj2 =>
   have H := HA.out
   clear HA
   simp only [spec_l1Cur_alike.j0] at H
   by_cases c11 : x16_2 = true
   ·
    subst c11
    have H1 : ((spec_l1Cur_grid.f kj2 s0_0 x1001_2 x1002_2).bind fun bt814 => (some (t805, bt814.1, bt814.2.1, bt814.2.2))) = some (r1, r2, r3, r4) := by rw [if_pos rfl] at H; exact H
    clear H
    have H := H1
    clear H1
    replace H := Option.bind_eq_some_iff.mp H
    obtain ⟨⟨t814, t817, t818⟩, A120, H⟩ := H
    replace H : (some (t805, t814, t817, t818)) = some (r1, r2, r3, r4) := H
    have A12 := Aside0.mk A120
    clear A120
    simp only [Option.some.injEq, Prod.mk.injEq] at H
    obtain ⟨rfl, rfl, rfl, rfl⟩ := H
    go_wp2_with (first | ((with_reducible refine gate_callee (f := 104) rfl ?_); refine goesL_ (some 19) rfl rfl Try.func104 (by kernel_rfl) rfl #[.pointer (some ⟨g, 0, none⟩)] rfl (by (try simp only [List.map_toArray, List.map_cons, List.map_nil]); first | done | rfl) ?_; (with_reducible refine (spec_l1Cur_grid.calls kj2 g s0_0 x1001_2 x1002_2 t814 t817 t818 w0 _ ?side1 ?side2 A12.out).mono ?_); (case side1 => repeat (first | (with_reducible first | exact HI0.out | apply IsS90.alloc | apply IsS90.drewN | apply IsS90.drew | apply IsS90.set_1 | apply IsS90.set_2) | exact HI0.out)); (case side2 => repeat (first | (with_reducible first | exact HB.out | apply below_alloc | apply pw_below_drewN | apply below_drew1 | refine below_set ?_ (IsS90.ge HI0.out)) | exact HB.out)); rintro e w13 ⟨v815, rfl, ho0, hi, hb, hk⟩; refine ⟨_, rfl, ?_⟩; have n0_ := Aside0.mk (Kd.S_mono (Kd.S_told (Kd.S_oldK (IsS90.apartS (show IsS90 w0 _ g s0_0 x1001_2 x1002_2 from by repeat (first | (with_reducible first | exact HI0.out | apply IsS90.alloc | apply IsS90.drewN | apply IsS90.drew | apply IsS90.set_1 | apply IsS90.set_2) | exact HI0.out)) (by (with_reducible repeat (first | apply Kd.S_alloc | apply Kd.S_drewN | apply Kd.S_drew)); exact HO_4.out) (by decide)) hk) (Kd.S_base ho0)) (fun _ h_ => h_.1)); have n1_ := Aside0.mk (Kd.S_lower (Kd.S_new' ho0 (Kd.S_lt (by (with_reducible repeat (first | apply Kd.S_alloc | apply Kd.S_drewN | apply Kd.S_drew)); exact HO_4.out))) (keep_size (w := w) (g := g) (row := none) (by repeat (first | (with_reducible first | exact HK.out | apply KeepBut.set_ | apply keep_drewN | apply keep_drew | apply keep_alloc) | exact HK.out)))); have n2_ := Aside0.mk (KeepBut.trans (by repeat (first | (with_reducible first | exact HK.out | apply KeepBut.set_ | apply keep_drewN | apply keep_drew | apply keep_alloc) | exact HK.out)) hk (.inl rfl)); have n3_ := Aside0.mk (hb); have n4_ := Aside0.mk (hi); clear HO_4; clear HK; clear HB; clear HI0; have HO_4 := n0_; have HO816 := n1_; have HK := n2_; have HB := n3_; have HI0 := n4_; clear n0_ n1_ n2_ n3_ n4_; (try clear hb); (try clear hb2); (try clear hk); (try clear hi); (try clear ho0)))
    go_ret2
    exact ⟨_, _, by first | rfl | (simp [errW_none, errW_some] <;> rfl) | (simp [*, errW_none, errW_some] <;> rfl), by (with_reducible repeat (first | apply Kd.S_alloc | apply Kd.S_drewN | apply Kd.S_drew)); exact Kd.S_mono HO_4.out (fun _ hk => hk.2), by (with_reducible repeat (first | apply Kd.S_alloc | apply Kd.S_drewN | apply Kd.S_drew)); exact Kd.S_mono HO816.out (fun _ hk => hk.2), by repeat (first | (with_reducible first | exact HI0.out | apply IsS90.alloc | apply IsS90.drewN | apply IsS90.drew | apply IsS90.set_1 | apply IsS90.set_2) | exact HI0.out), by repeat (first | (with_reducible first | exact HB.out | apply below_alloc | apply pw_below_drewN | apply below_drew1 | refine below_set ?_ (IsS90.ge HI0.out)) | exact HB.out), by repeat (first | (with_reducible first | exact HK.out | apply KeepBut.set_ | apply keep_drewN | apply keep_drew | apply keep_alloc) | exact HK.out)⟩
   ·
    replace c11 := Bool.eq_false_iff.mpr c11
    subst c11
    have H1 : ((spec_maOwn.f kj2 t805).bind fun t819 => ((spec_l1Cur_pick.f s0_0 x1001_2 x1002_2 7).bind fun bt822 => (spec_l1Cur_alike.l0 kj2 t805 t819 (wrap64 (1 + bt822.1)) s0_0 bt822.2.1 bt822.2.2))) = some (r1, r2, r3, r4) := by rw [if_neg (show ¬ (false = true) by decide)] at H; exact H
    clear H
    have H := H1
    clear H1
    replace H := Option.bind_eq_some_iff.mp H
    obtain ⟨t819, A140, H⟩ := H
    replace H : ((spec_l1Cur_pick.f s0_0 x1001_2 x1002_2 7).bind fun bt822 => (spec_l1Cur_alike.l0 kj2 t805 t819 (wrap64 (1 + bt822.1)) s0_0 bt822.2.1 bt822.2.2)) = some (r1, r2, r3, r4) := H
    have A14 := Aside0.mk A140
    clear A140
    replace H := Option.bind_eq_some_iff.mp H
    obtain ⟨⟨t822, t823, t824⟩, A150, H⟩ := H
    replace H : (spec_l1Cur_alike.l0 kj2 t805 t819 (wrap64 (1 + t822)) s0_0 t823 t824) = some (r1, r2, r3, r4) := H
    have A15 := Aside0.mk A150
    clear A150
    have H' := Aside0.mk H
    clear H
    obtain ⟨Ao16, co16, eo16⟩ := Kd.S_slice HO_4.out
    subst eo16
    go_wp2_with (first | ((with_reducible refine gate_callee (f := 100) rfl ?_); refine goesL_ (some 21) rfl rfl Try.func100 (by kernel_rfl) rfl #[.slice Ao16 t805.length co16] rfl (by (try simp only [List.map_toArray, List.map_cons, List.map_nil]); first | done | rfl) ?_; (with_reducible refine (spec_maOwn.calls kj2 _ _ t805 t819 _ ?side1 ?side2 A14.out).mono ?_); (case side1 => repeat (first | exact (Kd.S_reads' HO_4.out).2.2 | (with_reducible refine Kd.C_alloc ?_ _) | (with_reducible refine Kd.C_drewN ?_ _) | (with_reducible refine Kd.C_drew ?_))); (case side2 => exact (Kd.S_reads' HO_4.out).2.1); rintro e w17 ⟨v820, rfl, ho0, hb⟩; refine ⟨_, rfl, ?_⟩; have n0_ := Aside0.mk (Kd.S_elder' (by (with_reducible repeat (first | apply Kd.S_alloc | apply Kd.S_drewN | apply Kd.S_drew)); exact HO_4.out) (Kd.S_base ho0) hb); have n1_ := Aside0.mk (Kd.S_lower (Kd.S_new' ho0 (Kd.S_lt (by (with_reducible repeat (first | apply Kd.S_alloc | apply Kd.S_drewN | apply Kd.S_drew)); exact HO_4.out))) (keep_size (w := w) (g := g) (row := none) (by repeat (first | (with_reducible first | exact HK.out | apply KeepBut.set_ | apply keep_drewN | apply keep_drew | apply keep_alloc) | exact HK.out)))); have n2_ := Aside0.mk (IsS90.below (by repeat (first | (with_reducible first | exact HI0.out | apply IsS90.alloc | apply IsS90.drewN | apply IsS90.drew | apply IsS90.set_1 | apply IsS90.set_2) | exact HI0.out)) hb); have n3_ := Aside0.mk (KeepBut.trans (by repeat (first | (with_reducible first | exact HK.out | apply KeepBut.set_ | apply keep_drewN | apply keep_drew | apply keep_alloc) | exact HK.out)) (KeepBut.of_below hb g none) (.inl rfl)); have n4_ := Aside0.mk (below_step (by repeat (first | (with_reducible first | exact HB.out | apply below_alloc | apply pw_below_drewN | apply below_drew1 | refine below_set ?_ (IsS90.ge HI0.out)) | exact HB.out)) hb); clear HO_4; clear HI0; clear HK; clear HB; have HO_4 := n0_; have HO821 := n1_; have HI0 := n2_; have HK := n3_; have HB := n4_; clear n0_ n1_ n2_ n3_ n4_; (try clear hb); (try clear hb2); (try clear hk); (try clear hi); (try clear ho0)) | ((with_reducible refine gate_callee (f := 106) rfl ?_); refine goesL_ (some 23) rfl rfl Try.func106 (by kernel_rfl) rfl #[.pointer (some ⟨g, 0, none⟩), .int .i64 7] rfl (by (try simp only [List.map_toArray, List.map_cons, List.map_nil]); first | done | rfl) ?_; (with_reducible refine (spec_l1Cur_pick.calls g s0_0 x1001_2 x1002_2 7 t822 t823 t824 w0 _ ?side1 ?side2 A15.out).mono ?_); (case side1 => repeat (first | (with_reducible first | exact HI0.out | apply IsS90.alloc | apply IsS90.drewN | apply IsS90.drew | apply IsS90.set_1 | apply IsS90.set_2) | exact HI0.out)); (case side2 => repeat (first | (with_reducible first | exact HB.out | apply below_alloc | apply pw_below_drewN | apply below_drew1 | refine below_set ?_ (IsS90.ge HI0.out)) | exact HB.out)); rintro e w18 ⟨rfl, hi, hb, hk⟩; refine ⟨_, rfl, ?_⟩; have n0_ := Aside0.mk (Kd.S_mono (Kd.S_keep (IsS90.apartS (show IsS90 w0 _ g s0_0 x1001_2 x1002_2 from by repeat (first | (with_reducible first | exact HI0.out | apply IsS90.alloc | apply IsS90.drewN | apply IsS90.drew | apply IsS90.set_1 | apply IsS90.set_2) | exact HI0.out)) (by (with_reducible repeat (first | apply Kd.S_alloc | apply Kd.S_drewN | apply Kd.S_drew)); exact HO_4.out) (by decide)) hk (fun _ h => h.2)) (fun _ h => h.1)); have n1_ := Aside0.mk (Kd.S_mono (Kd.S_keep (IsS90.apartS (show IsS90 w0 _ g s0_0 x1001_2 x1002_2 from by repeat (first | (with_reducible first | exact HI0.out | apply IsS90.alloc | apply IsS90.drewN | apply IsS90.drew | apply IsS90.set_1 | apply IsS90.set_2) | exact HI0.out)) (by (with_reducible repeat (first | apply Kd.S_alloc | apply Kd.S_drewN | apply Kd.S_drew)); exact HO821.out) (by decide)) hk (fun _ h => h.2)) (fun _ h => h.1)); have n2_ := Aside0.mk (KeepBut.trans (by repeat (first | (with_reducible first | exact HK.out | apply KeepBut.set_ | apply keep_drewN | apply keep_drew | apply keep_alloc) | exact HK.out)) hk (.inl rfl)); have n3_ := Aside0.mk (hb); have n4_ := Aside0.mk (hi); clear HO_4; clear HO821; clear HK; clear HB; clear HI0; have HO_4 := n0_; have HO821 := n1_; have HK := n2_; have HB := n3_; have HI0 := n4_; clear n0_ n1_ n2_ n3_ n4_; (try clear hb); (try clear hb2); (try clear hk); (try clear hi)))
    go_loopg [5, 6] kj2 (fun kq v5 v6 w' => ∃ (x5_2 : List (List Int)) (x6_2 : Int) (x1001_2 : Int) (x1002_2 : Int), v6 = .int .i64 x6_2 ∧ Aside0 (spec_l1Cur_alike.l0 kq t805 x5_2 x6_2 s0_0 x1001_2 x1002_2 = some (r1, r2, r3, r4)) ∧ Aside0 (kq ≤ kj2) ∧ Aside0 (Kd.S (Kd.slice 3 (Kd.int .i64)) 33 w' w.heap.size (fun k_ => some k_ ≠ (v5 : Value).ownBlock) (.slice Ao16 t805.length co16) t805) ∧ Aside0 (Kd.S (Kd.slice 3 (Kd.int .i64)) 33 w' w.heap.size (fun k_ => some k_ ≠ ((.slice Ao16 t805.length co16) : Value).ownBlock) v5 x5_2) ∧ Aside0 (IsS90 w0 w' g s0_0 x1001_2 x1002_2) ∧ Aside0 (KeepBut w w' g none) ∧ Aside0 (Below w0.heap.size w0 w'))
    case atStart => exact ⟨(t819), (wrap64 (1 + t822)), (t823), (t824), (by first | rfl | (simp; done) | (simp [*]; done)), H', ⟨Nat.le_refl _⟩, ⟨by (with_reducible repeat (first | apply Kd.S_alloc | apply Kd.S_drewN | apply Kd.S_drew)); exact Kd.S_mono HO_4.out (fun _ hk => hk.2)⟩, ⟨by (with_reducible repeat (first | apply Kd.S_alloc | apply Kd.S_drewN | apply Kd.S_drew)); exact Kd.S_mono HO821.out (fun _ hk => hk.2)⟩, ⟨by repeat (first | (with_reducible first | exact HI0.out | apply IsS90.alloc | apply IsS90.drewN | apply IsS90.drew | apply IsS90.set_1 | apply IsS90.set_2) | exact HI0.out)⟩, ⟨by repeat (first | (with_reducible first | exact HK.out | apply KeepBut.set_ | apply keep_drewN | apply keep_drew | apply keep_alloc) | exact HK.out)⟩, ⟨by repeat (first | (with_reducible first | exact HB.out | apply below_alloc | apply pw_below_drewN | apply below_drew1 | refine below_set ?_ (IsS90.ge HI0.out)) | exact HB.out)⟩⟩
    case round =>
     clear H'
     try clear c1
     try clear p2
     try clear c6
     try clear p6
     try clear c10
     try clear c11
     try clear p2
     obtain ⟨x5_2, x6_2, x1001_2, x1002_2, rfl, HA, HK2, HO_4, HO_5, HI0, HK, HB⟩ := hrel
     cases gk with
     | zero => exact absurd HA.out (by simp [spec_l1Cur_alike.l0])
     | succ k2 =>
      have H := HA.out
      clear HA
      simp only [spec_l1Cur_alike.l0] at H
      by_cases c19 : x6_2 > 0
      ·
       rw [if_pos c19] at H
       have c19b0 : decide (0 < x6_2) = true := decide_eq_true c19
       clear c19
       replace H := Option.bind_eq_some_iff.mp H
       obtain ⟨t825, A200, H⟩ := H
       replace H : (if (t825.length : Int) > 0 then ((spec_l1Cur_pick.f s0_0 x1001_2 x1002_2 (t825.length : Int)).bind fun bt828 => (if 0 ≤ bt828.1 then (if bt828.1 < (t825.length : Int) then ((spec_maDo.f k2 x5_2 ((rd_T41 t825 bt828.1).f0) ((rd_T41 t825 bt828.1).f1) ((rd_T41 t825 bt828.1).f2) ((rd_T41 t825 bt828.1).f3)).bind fun t832 => (spec_l1Cur_alike.l0 k2 t805 t832 (wrap64 (x6_2 - 1)) s0_0 bt828.2.1 bt828.2.2)) else (none)) else (none))) else (spec_l1Cur_alike.l0 k2 t805 x5_2 (wrap64 (x6_2 - 1)) s0_0 x1001_2 x1002_2)) = some (r1, r2, r3, r4) := H
       have A20 := Aside0.mk A200
       clear A200
       by_cases c21 : (t825.length : Int) > 0
       ·
        rw [if_pos c21] at H
        have c21b0 : decide (0 < (t825.length : Int)) = true := decide_eq_true c21
        have c21b1 : decide (0 < t825.length) = true := decide_eq_true (by omega)
        clear c21
        replace H := Option.bind_eq_some_iff.mp H
        obtain ⟨⟨t828, t829, t830⟩, A220, H⟩ := H
        replace H : (if 0 ≤ t828 then (if t828 < (t825.length : Int) then ((spec_maDo.f k2 x5_2 ((rd_T41 t825 t828).f0) ((rd_T41 t825 t828).f1) ((rd_T41 t825 t828).f2) ((rd_T41 t825 t828).f3)).bind fun t832 => (spec_l1Cur_alike.l0 k2 t805 t832 (wrap64 (x6_2 - 1)) s0_0 t829 t830)) else (none)) else (none)) = some (r1, r2, r3, r4) := H
        have A22 := Aside0.mk A220
        clear A220
        by_cases c23 : 0 ≤ t828
        ·
         rw [if_pos c23] at H
         have c23b0 : decide (0 ≤ t828) = true := decide_eq_true c23
         clear c23
         by_cases c24 : t828 < (t825.length : Int)
         ·
          rw [if_pos c24] at H
          have c24b0 : decide (t828 < (t825.length : Int)) = true := decide_eq_true c24
          clear c24
          replace H := Option.bind_eq_some_iff.mp H
          obtain ⟨t832, A250, H⟩ := H
          replace H : (spec_l1Cur_alike.l0 k2 t805 t832 (wrap64 (x6_2 - 1)) s0_0 t829 t830) = some (r1, r2, r3, r4) := H
          have A25 := Aside0.mk A250
          clear A250
          have H' := Aside0.mk H
          clear H
          obtain ⟨Ao26, co26, eo26⟩ := Kd.S_slice HO_5.out
          subst eo26
          go_wp2_with (first | ((with_reducible refine gate_callee (f := 73) rfl ?_); refine goesL_ (some 30) rfl rfl Try.func73 (by kernel_rfl) rfl #[.slice Ao26 x5_2.length co26] rfl (by (try simp only [List.map_toArray, List.map_cons, List.map_nil]); first | done | rfl) ?_; (with_reducible refine (spec_maSwitches.calls k2 _ _ x5_2 t825 _ ?side1 ?side2 A20.out).mono ?_); (case side1 => repeat (first | exact (Kd.S_reads' HO_5.out).2.2 | (with_reducible refine Kd.C_alloc ?_ _) | (with_reducible refine Kd.C_drewN ?_ _) | (with_reducible refine Kd.C_drew ?_))); (case side2 => exact (Kd.S_reads' HO_5.out).2.1); rintro e w27 ⟨v826, rfl, ho0, hb⟩; refine ⟨_, rfl, ?_⟩; have n0_ := Aside0.mk (Kd.S_below (by (with_reducible repeat (first | apply Kd.S_alloc | apply Kd.S_drewN | apply Kd.S_drew)); exact HO_4.out) hb); have n1_ := Aside0.mk (Kd.S_below (by (with_reducible repeat (first | apply Kd.S_alloc | apply Kd.S_drewN | apply Kd.S_drew)); exact HO_5.out) hb); have n2_ := Aside0.mk (Kd.R_lower ho0 (keep_size (w := w) (g := g) (row := none) (by repeat (first | (with_reducible first | exact HK.out | apply KeepBut.set_ | apply keep_drewN | apply keep_drew | apply keep_alloc) | exact HK.out)))); have n3_ := Aside0.mk (IsS90.below (by repeat (first | (with_reducible first | exact HI0.out | apply IsS90.alloc | apply IsS90.drewN | apply IsS90.drew | apply IsS90.set_1 | apply IsS90.set_2) | exact HI0.out)) hb); have n4_ := Aside0.mk (KeepBut.trans (by repeat (first | (with_reducible first | exact HK.out | apply KeepBut.set_ | apply keep_drewN | apply keep_drew | apply keep_alloc) | exact HK.out)) (KeepBut.of_below hb g none) (.inl rfl)); have n5_ := Aside0.mk (below_step (by repeat (first | (with_reducible first | exact HB.out | apply below_alloc | apply pw_below_drewN | apply below_drew1 | refine below_set ?_ (IsS90.ge HI0.out)) | exact HB.out)) hb); clear HO_4; clear HO_5; clear HI0; clear HK; clear HB; have HO_4 := n0_; have HO_5 := n1_; have HO827 := n2_; have HI0 := n3_; have HK := n4_; have HB := n5_; clear n0_ n1_ n2_ n3_ n4_ n5_; (try clear hb); (try clear hb2); (try clear hk); (try clear hi); (try clear ho0); obtain ⟨Ao28, co28, eo28⟩ := Kd.R_slice HO827.out; subst eo28) | ((with_reducible refine gate_callee (f := 106) rfl ?_); refine goesL_ (some 39) rfl rfl Try.func106 (by kernel_rfl) rfl #[.pointer (some ⟨g, 0, none⟩), .int .i64 (t825.length : Int)] rfl (by (try simp only [List.map_toArray, List.map_cons, List.map_nil]); first | done | rfl) ?_; (with_reducible refine (spec_l1Cur_pick.calls g s0_0 x1001_2 x1002_2 (t825.length : Int) t828 t829 t830 w0 _ ?side1 ?side2 A22.out).mono ?_); (case side1 => repeat (first | (with_reducible first | exact HI0.out | apply IsS90.alloc | apply IsS90.drewN | apply IsS90.drew | apply IsS90.set_1 | apply IsS90.set_2) | exact HI0.out)); (case side2 => repeat (first | (with_reducible first | exact HB.out | apply below_alloc | apply pw_below_drewN | apply below_drew1 | refine below_set ?_ (IsS90.ge HI0.out)) | exact HB.out)); rintro e w29 ⟨rfl, hi, hb, hk⟩; refine ⟨_, rfl, ?_⟩; have n0_ := Aside0.mk (Kd.S_mono (Kd.S_keep (IsS90.apartS (show IsS90 w0 _ g s0_0 x1001_2 x1002_2 from by repeat (first | (with_reducible first | exact HI0.out | apply IsS90.alloc | apply IsS90.drewN | apply IsS90.drew | apply IsS90.set_1 | apply IsS90.set_2) | exact HI0.out)) (by (with_reducible repeat (first | apply Kd.S_alloc | apply Kd.S_drewN | apply Kd.S_drew)); exact HO_4.out) (by decide)) hk (fun _ h => h.2)) (fun _ h => h.1)); have n1_ := Aside0.mk (Kd.S_mono (Kd.S_keep (IsS90.apartS (show IsS90 w0 _ g s0_0 x1001_2 x1002_2 from by repeat (first | (with_reducible first | exact HI0.out | apply IsS90.alloc | apply IsS90.drewN | apply IsS90.drew | apply IsS90.set_1 | apply IsS90.set_2) | exact HI0.out)) (by (with_reducible repeat (first | apply Kd.S_alloc | apply Kd.S_drewN | apply Kd.S_drew)); exact HO_5.out) (by decide)) hk (fun _ h => h.2)) (fun _ h => h.1)); have n2_ := Aside0.mk (Kd.R_mono (Kd.R_keep (IsS90.apart (show IsS90 w0 _ g s0_0 x1001_2 x1002_2 from by repeat (first | (with_reducible first | exact HI0.out | apply IsS90.alloc | apply IsS90.drewN | apply IsS90.drew | apply IsS90.set_1 | apply IsS90.set_2) | exact HI0.out)) (by (with_reducible repeat (first | apply Kd.R_alloc | apply Kd.R_drewN | apply Kd.R_drew)); exact HO827.out) (by decide)) hk (fun _ h => h.2)) (fun _ h => h.1)); have n3_ := Aside0.mk (KeepBut.trans (by repeat (first | (with_reducible first | exact HK.out | apply KeepBut.set_ | apply keep_drewN | apply keep_drew | apply keep_alloc) | exact HK.out)) hk (.inl rfl)); have n4_ := Aside0.mk (hb); have n5_ := Aside0.mk (hi); clear HO_4; clear HO_5; clear HO827; clear HK; clear HB; clear HI0; have HO_4 := n0_; have HO_5 := n1_; have HO827 := n2_; have HK := n3_; have HB := n4_; have HI0 := n5_; clear n0_ n1_ n2_ n3_ n4_ n5_; (try clear hb); (try clear hb2); (try clear hk); (try clear hi); have p831 : 0 ≤ (t828 : Int) := of_decide_eq_true (by first | (with_reducible assumption) | assumption); have q831 : t828 < (t825.length : Int) := of_decide_eq_true (by first | (with_reducible assumption) | assumption); obtain ⟨ad831, e831, hx831_0, hx831_1, hx831_2, hx831_3⟩ := at_T41 (Kd.R_reads' HO827.out).2.2 t828 p831 q831; cases e831; replace p831 := eq_true p831; replace q831 := eq_true q831) | ((with_reducible refine gate_callee (f := 81) rfl ?_); refine goesL_ (some 42) rfl rfl Try.func81 (by kernel_rfl) rfl #[.slice Ao26 x5_2.length co26, .agg #[.int .i64 ((rd_T41 t825 t828).f0), .int .i64 ((rd_T41 t825 t828).f1), .int .i64 ((rd_T41 t825 t828).f2), .int .i64 ((rd_T41 t825 t828).f3)]] rfl (by (try simp only [List.map_toArray, List.map_cons, List.map_nil]); first | done | rfl) ?_; (with_reducible refine (spec_maDo.calls k2 _ _ x5_2 ((rd_T41 t825 t828).f0) ((rd_T41 t825 t828).f1) ((rd_T41 t825 t828).f2) ((rd_T41 t825 t828).f3) t832 _ ?side1 ?side2 A25.out).mono ?_); (case side1 => repeat (first | exact (Kd.S_reads' HO_5.out).2.2 | (with_reducible refine Kd.C_alloc ?_ _) | (with_reducible refine Kd.C_drewN ?_ _) | (with_reducible refine Kd.C_drew ?_))); (case side2 => exact (Kd.S_reads' HO_5.out).2.1); rintro e w30 ⟨v833, rfl, ho0, hb⟩; refine ⟨_, rfl, ?_⟩; have n0_ := Aside0.mk (Kd.S_elder' (by (with_reducible repeat (first | apply Kd.S_alloc | apply Kd.S_drewN | apply Kd.S_drew)); exact HO_4.out) (Kd.S_base ho0) hb); have n1_ := Aside0.mk (Kd.S_elder' (by (with_reducible repeat (first | apply Kd.S_alloc | apply Kd.S_drewN | apply Kd.S_drew)); exact HO_5.out) (Kd.S_base ho0) hb); have n2_ := Aside0.mk (Kd.R_below (by (with_reducible repeat (first | apply Kd.R_alloc | apply Kd.R_drewN | apply Kd.R_drew)); exact HO827.out) hb); have n3_ := Aside0.mk (Kd.S_lower (Kd.S_new' (Kd.S_new' ho0 (Kd.S_lt (by (with_reducible repeat (first | apply Kd.S_alloc | apply Kd.S_drewN | apply Kd.S_drew)); exact HO_4.out))) (Kd.S_lt (by (with_reducible repeat (first | apply Kd.S_alloc | apply Kd.S_drewN | apply Kd.S_drew)); exact HO_5.out))) (keep_size (w := w) (g := g) (row := none) (by repeat (first | (with_reducible first | exact HK.out | apply KeepBut.set_ | apply keep_drewN | apply keep_drew | apply keep_alloc) | exact HK.out)))); have n4_ := Aside0.mk (IsS90.below (by repeat (first | (with_reducible first | exact HI0.out | apply IsS90.alloc | apply IsS90.drewN | apply IsS90.drew | apply IsS90.set_1 | apply IsS90.set_2) | exact HI0.out)) hb); have n5_ := Aside0.mk (KeepBut.trans (by repeat (first | (with_reducible first | exact HK.out | apply KeepBut.set_ | apply keep_drewN | apply keep_drew | apply keep_alloc) | exact HK.out)) (KeepBut.of_below hb g none) (.inl rfl)); have n6_ := Aside0.mk (below_step (by repeat (first | (with_reducible first | exact HB.out | apply below_alloc | apply pw_below_drewN | apply below_drew1 | refine below_set ?_ (IsS90.ge HI0.out)) | exact HB.out)) hb); clear HO_4; clear HO_5; clear HO827; clear HI0; clear HK; clear HB; have HO_4 := n0_; have HO_5 := n1_; have HO827 := n2_; have HO834 := n3_; have HI0 := n4_; have HK := n5_; have HB := n6_; clear n0_ n1_ n2_ n3_ n4_ n5_ n6_; (try clear hb); (try clear hb2); (try clear hk); (try clear hi); (try clear ho0)))
          go_roundg k2
          case measure => have := HJ2.out; have := HK2.out; omega
          case rel => exact ⟨(t832), (wrap64 (x6_2 - 1)), (t829), (t830), (by first | rfl | (simp; done) | (simp [*]; done)), H', ⟨by have := HJ2.out; have := HK2.out; omega⟩, ⟨by (with_reducible repeat (first | apply Kd.S_alloc | apply Kd.S_drewN | apply Kd.S_drew)); exact Kd.S_mono HO_4.out (fun _ hk => hk.2)⟩, ⟨by (with_reducible repeat (first | apply Kd.S_alloc | apply Kd.S_drewN | apply Kd.S_drew)); exact Kd.S_mono HO834.out (fun _ hk => hk.1.2)⟩, ⟨by repeat (first | (with_reducible first | exact HI0.out | apply IsS90.alloc | apply IsS90.drewN | apply IsS90.drew | apply IsS90.set_1 | apply IsS90.set_2) | exact HI0.out)⟩, ⟨by repeat (first | (with_reducible first | exact HK.out | apply KeepBut.set_ | apply keep_drewN | apply keep_drew | apply keep_alloc) | exact HK.out)⟩, ⟨by repeat (first | (with_reducible first | exact HB.out | apply below_alloc | apply pw_below_drewN | apply below_drew1 | refine below_set ?_ (IsS90.ge HI0.out)) | exact HB.out)⟩⟩
         ·
          rw [if_neg c24] at H
          exact absurd H (by simp)
        ·
         rw [if_neg c23] at H
         exact absurd H (by simp)
       ·
        rw [if_neg c21] at H
        have c21b0 : decide (0 < (t825.length : Int)) = false := decide_eq_false c21
        have c21b1 : decide (0 < t825.length) = false := decide_eq_false (by omega)
        clear c21
        have H' := Aside0.mk H
        clear H
        obtain ⟨Ao31, co31, eo31⟩ := Kd.S_slice HO_5.out
        subst eo31
        go_wp2_with (first | ((with_reducible refine gate_callee (f := 73) rfl ?_); refine goesL_ (some 30) rfl rfl Try.func73 (by kernel_rfl) rfl #[.slice Ao31 x5_2.length co31] rfl (by (try simp only [List.map_toArray, List.map_cons, List.map_nil]); first | done | rfl) ?_; (with_reducible refine (spec_maSwitches.calls k2 _ _ x5_2 t825 _ ?side1 ?side2 A20.out).mono ?_); (case side1 => repeat (first | exact (Kd.S_reads' HO_5.out).2.2 | (with_reducible refine Kd.C_alloc ?_ _) | (with_reducible refine Kd.C_drewN ?_ _) | (with_reducible refine Kd.C_drew ?_))); (case side2 => exact (Kd.S_reads' HO_5.out).2.1); rintro e w32 ⟨v826, rfl, ho0, hb⟩; refine ⟨_, rfl, ?_⟩; have n0_ := Aside0.mk (Kd.S_below (by (with_reducible repeat (first | apply Kd.S_alloc | apply Kd.S_drewN | apply Kd.S_drew)); exact HO_4.out) hb); have n1_ := Aside0.mk (Kd.S_below (by (with_reducible repeat (first | apply Kd.S_alloc | apply Kd.S_drewN | apply Kd.S_drew)); exact HO_5.out) hb); have n2_ := Aside0.mk (Kd.R_lower ho0 (keep_size (w := w) (g := g) (row := none) (by repeat (first | (with_reducible first | exact HK.out | apply KeepBut.set_ | apply keep_drewN | apply keep_drew | apply keep_alloc) | exact HK.out)))); have n3_ := Aside0.mk (IsS90.below (by repeat (first | (with_reducible first | exact HI0.out | apply IsS90.alloc | apply IsS90.drewN | apply IsS90.drew | apply IsS90.set_1 | apply IsS90.set_2) | exact HI0.out)) hb); have n4_ := Aside0.mk (KeepBut.trans (by repeat (first | (with_reducible first | exact HK.out | apply KeepBut.set_ | apply keep_drewN | apply keep_drew | apply keep_alloc) | exact HK.out)) (KeepBut.of_below hb g none) (.inl rfl)); have n5_ := Aside0.mk (below_step (by repeat (first | (with_reducible first | exact HB.out | apply below_alloc | apply pw_below_drewN | apply below_drew1 | refine below_set ?_ (IsS90.ge HI0.out)) | exact HB.out)) hb); clear HO_4; clear HO_5; clear HI0; clear HK; clear HB; have HO_4 := n0_; have HO_5 := n1_; have HO827 := n2_; have HI0 := n3_; have HK := n4_; have HB := n5_; clear n0_ n1_ n2_ n3_ n4_ n5_; (try clear hb); (try clear hb2); (try clear hk); (try clear hi); (try clear ho0); obtain ⟨Ao33, co33, eo33⟩ := Kd.R_slice HO827.out; subst eo33))
        go_roundg k2
        case measure => have := HJ2.out; have := HK2.out; omega
        case rel => exact ⟨(x5_2), (wrap64 (x6_2 - 1)), (x1001_2), (x1002_2), (by first | rfl | (simp; done) | (simp [*]; done)), H', ⟨by have := HJ2.out; have := HK2.out; omega⟩, ⟨by (with_reducible repeat (first | apply Kd.S_alloc | apply Kd.S_drewN | apply Kd.S_drew)); exact HO_4.out⟩, ⟨by (with_reducible repeat (first | apply Kd.S_alloc | apply Kd.S_drewN | apply Kd.S_drew)); exact HO_5.out⟩, ⟨by repeat (first | (with_reducible first | exact HI0.out | apply IsS90.alloc | apply IsS90.drewN | apply IsS90.drew | apply IsS90.set_1 | apply IsS90.set_2) | exact HI0.out)⟩, ⟨by repeat (first | (with_reducible first | exact HK.out | apply KeepBut.set_ | apply keep_drewN | apply keep_drew | apply keep_alloc) | exact HK.out)⟩, ⟨by repeat (first | (with_reducible first | exact HB.out | apply below_alloc | apply pw_below_drewN | apply below_drew1 | refine below_set ?_ (IsS90.ge HI0.out)) | exact HB.out)⟩⟩
      ·
       rw [if_neg c19] at H
       have c19b0 : decide (0 < x6_2) = false := decide_eq_false c19
       clear c19
       simp only [Option.some.injEq, Prod.mk.injEq] at H
       obtain ⟨rfl, rfl, rfl, rfl⟩ := H
       go_wp2
       go_ret2
       exact ⟨_, _, by first | rfl | (simp [errW_none, errW_some] <;> rfl) | (simp [*, errW_none, errW_some] <;> rfl), by (with_reducible repeat (first | apply Kd.S_alloc | apply Kd.S_drewN | apply Kd.S_drew)); exact HO_4.out, by (with_reducible repeat (first | apply Kd.S_alloc | apply Kd.S_drewN | apply Kd.S_drew)); exact HO_5.out, by repeat (first | (with_reducible first | exact HI0.out | apply IsS90.alloc | apply IsS90.drewN | apply IsS90.drew | apply IsS90.set_1 | apply IsS90.set_2) | exact HI0.out), by repeat (first | (with_reducible first | exact HB.out | apply below_alloc | apply pw_below_drewN | apply below_drew1 | refine below_set ?_ (IsS90.ge HI0.out)) | exact HB.out), by repeat (first | (with_reducible first | exact HK.out | apply KeepBut.set_ | apply keep_drewN | apply keep_drew | apply keep_alloc) | exact HK.out)⟩
def spec_DrawGridPath.f (k : Nat) (l0 : List Int) : Option ((List (List Int)) × (List (List Int))) := (spec_l1Cur_alike.f k l0 0 0).bind fun bt836 => (some (bt836.1, bt836.2.1))
theorem spec_DrawGridPath.mono : ∀ a0 k, LeO (spec_DrawGridPath.f k a0) (spec_DrawGridPath.f (k + 1) a0) := by
 intro a0 k
 unfold spec_DrawGridPath.f
 repeat' first
   | (with_reducible exact spec_l1Cur_alike.mono _ _ _ _)
   | (with_reducible exact LeO.refl _)
   | (with_reducible exact LeO.none _)
   | (with_reducible refine LeO.ite ?_ ?_)
   | (with_reducible refine LeO.bind ?_ (fun _ => ?_))
   | exact spec_l1Cur_alike.mono _ _ _ _
   | exact LeO.none _
   | refine LeO.ite ?_ ?_
   | refine LeO.bind ?_ (fun _ => ?_)
set_option maxHeartbeats 8000000 in
set_option maxRecDepth 100000 in
theorem spec_DrawGridPath.calls (k : Nat) (A0 : Option Addr) (c0 : Nat) (l0 : List Int) (r1 : List (List Int)) (r2 : List (List Int)) (w : World) (hr0 : Kd.C (Kd.int .u8) w A0 l0.length l0) (hc0 : l0.length ≤ c0) (h : spec_DrawGridPath.f k l0 = some (r1, r2)) :
  Calls Try.prog 60 #[.slice A0 l0.length c0] w fun e w' => ∃ v0_ v1_ : Value, e = .returned (.tuple #[v0_, v1_]) ∧ Kd.S (Kd.slice 3 (Kd.int .i64)) 33 w' w.heap.size (fun k_ => some k_ ≠ (v1_ : Value).ownBlock) v0_ r1 ∧ Kd.S (Kd.slice 3 (Kd.int .i64)) 33 w' w.heap.size (fun k_ => some k_ ≠ (v0_ : Value).ownBlock) v1_ r2 ∧ Below w.heap.size w w' := by
 have hu90 := Try.underlying90
 have HR0 := Aside0.mk hr0
 have HC0 := Aside0.mk hc0
 clear hr0 hc0
 have HB := Aside0.mk (Below.refl w.heap.size w)
 have H : ((spec_l1Cur_alike.f k l0 0 0).bind fun bt836 => (some (bt836.1, bt836.2.1))) = some (r1, r2) := h
 clear h
 replace H := Option.bind_eq_some_iff.mp H
 obtain ⟨⟨t836, t839, t842, t843⟩, A20, H⟩ := H
 replace H : (some (t836, t839)) = some (r1, r2) := H
 have A2 := Aside0.mk A20
 clear A20
 simp only [Option.some.injEq, Prod.mk.injEq] at H
 obtain ⟨rfl, rfl⟩ := H
 go_enter Try.func60, Try.ntmps60
 go_wp2_with (first | ((with_reducible refine gate_dst (N := 7) rfl ?_); refine box_event ?hg (N := 7) ?hd (cs := #[.slice A0 l0.length c0, .int .i64 0, .int .u64 0]) (t := 90) ?hr ?_; (case hd => rfl); (case hg => rfl); (case hr => first | (go_simp; done) | (go_simp; rfl)); intro gb835 hg w3 hbox hb; have n0_ := Aside0.mk (below_step (by repeat (first | (with_reducible first | exact HB.out | apply below_alloc | apply pw_below_drewN | apply below_drew1))) hb); have n1_ := Aside0.mk ((show IsS90 w w3 gb835 l0 0 0 from ⟨_, _, hbox, (by rw [hg]; exact (below_size (by repeat (first | (with_reducible first | exact HB.out | apply below_alloc | apply pw_below_drewN | apply below_drew1))))), HR0.out⟩)); have n2_ := Aside0.mk ((by rw [hg]; exact (below_size (by repeat (first | (with_reducible first | exact HB.out | apply below_alloc | apply pw_below_drewN | apply below_drew1)))) : w.heap.size ≤ gb835)); have n3_ := Aside0.mk ((by rw [hg]; exact (below_size (by repeat (first | (with_reducible first | exact HB.out | apply below_alloc | apply pw_below_drewN | apply below_drew1)))) : w.heap.size ≤ gb835)); clear HB; have HB := n0_; have HI835 := n1_; have GW835 := n2_; have GE835 := n3_; clear n0_ n1_ n2_ n3_; clear hb hbox hg) | ((with_reducible refine gate_callee (f := 107) rfl ?_); refine goesL_ (some 9) rfl rfl Try.func107 (by kernel_rfl) rfl #[.pointer (some ⟨gb835, 0, none⟩)] rfl (by (try simp only [List.map_toArray, List.map_cons, List.map_nil]); first | done | rfl) ?_; (with_reducible refine (spec_l1Cur_alike.calls k gb835 l0 0 0 t836 t839 t842 t843 w _ ?side1 ?side2 A2.out).mono ?_); (case side1 => repeat (first | (with_reducible first | exact HI835.out | apply IsS90.alloc | apply IsS90.drewN | apply IsS90.drew | apply IsS90.set_1 | apply IsS90.set_2) | exact HI835.out)); (case side2 => repeat (first | (with_reducible first | exact HB.out | apply below_alloc | apply pw_below_drewN | apply below_drew1 | refine below_set ?_ (IsS90.ge HI835.out)) | exact HB.out)); rintro e w4 ⟨v837, v840, rfl, ho0, ho1, hi, hb, hk⟩; refine ⟨_, rfl, ?_⟩; have n0_ := Aside0.mk (Kd.S_lower ho0 (below_size (by repeat (first | (with_reducible first | exact HB.out | apply below_alloc | apply pw_below_drewN | apply below_drew1 | refine below_set ?_ (IsS90.ge HI835.out)) | exact HB.out)))); have n1_ := Aside0.mk (Kd.S_lower ho1 (below_size (by repeat (first | (with_reducible first | exact HB.out | apply below_alloc | apply pw_below_drewN | apply below_drew1 | refine below_set ?_ (IsS90.ge HI835.out)) | exact HB.out)))); have n2_ := Aside0.mk (hb); have n3_ := Aside0.mk (hi); clear HB; clear HI835; have HO838 := n0_; have HO841 := n1_; have HB := n2_; have HI835 := n3_; clear n0_ n1_ n2_ n3_; (try clear hb); (try clear hb2); (try clear hk); (try clear hi); (try clear ho0); (try clear ho1)))
 go_ret2
 exact ⟨_, _, by first | rfl | (simp [errW_none, errW_some] <;> rfl) | (simp [*, errW_none, errW_some] <;> rfl), by (with_reducible repeat (first | apply Kd.S_alloc | apply Kd.S_drewN | apply Kd.S_drew)); exact HO838.out, by (with_reducible repeat (first | apply Kd.S_alloc | apply Kd.S_drewN | apply Kd.S_drew)); exact HO841.out, by repeat (first | (with_reducible first | exact HB.out | apply below_alloc | apply pw_below_drewN | apply below_drew1 | refine below_set ?_ (IsS90.ge HI835.out)) | exact HB.out)⟩
mutual
def laws_FnPathsOfSwitches.j0 : Nat → List (List Int) → List (List Int) → List (S41) → Bool → Bool → Bool → Option (Bool)
 | 0, _, _, _, _, _, _ => none
 | k + 1, x5, x6, x7, x8, x10, x52 => if x52 = true then (some false) else ((impl_SumsOfGrid.f k x5).bind fun bt860 => ((impl_SumsOfGrid.f k x6).bind fun bt867 => (if bt860.2.2 = true then (if bt867.2.2 = true then ((laws_pSame.f k bt860.1 bt867.1).bind fun t874 => (if t874 = true then ((laws_pSame.f k bt860.2.1 bt867.2.1).bind fun t875 => (laws_FnPathsOfSwitches.j1 k x5 x6 x7 x10 bt860.1 bt860.2.1 (x8 != t875))) else (laws_FnPathsOfSwitches.j1 k x5 x6 x7 x10 bt860.1 bt860.2.1 (x8 != false)))) else (laws_FnPathsOfSwitches.j1 k x5 x6 x7 x10 bt860.1 bt860.2.1 (x8 != false))) else (laws_FnPathsOfSwitches.j1 k x5 x6 x7 x10 bt860.1 bt860.2.1 (x8 != false)))))
def laws_FnPathsOfSwitches.j1 : Nat → List (List Int) → List (List Int) → List (S41) → Bool → List Int → List Int → Bool → Option (Bool)
 | 0, _, _, _, _, _, _, _ => none
 | k + 1, x5, x6, x7, x10, x11, x12, x80 => if x80 = true then (some false) else ((impl_GridsApart.f k x5 x6).bind fun bt876 => (if x10 = true then (if bt876.2 = true then (if ((bt876.1 == 0) != ((x7.length : Int) == 0)) = true then (laws_FnPathsOfSwitches.j2 k x5 x6 x7 true) else (if (wrap64 (4 * (x7.length : Int))) < bt876.1 then (laws_FnPathsOfSwitches.j2 k x5 x6 x7 true) else (laws_FnPathsOfSwitches.j2 k x5 x6 x7 (decide ((wrap64 (2 * (x7.length : Int))) > (wrap64 ((x11.length : Int) * (x12.length : Int)))))))) else (laws_FnPathsOfSwitches.j2 k x5 x6 x7 true)) else (some true)))
def laws_FnPathsOfSwitches.j2 : Nat → List (List Int) → List (List Int) → List (S41) → Bool → Option (Bool)
 | 0, _, _, _, _ => none
 | k + 1, x5, x6, x7, x116 => if x116 = true then (some false) else (laws_FnPathsOfSwitches.l0 k x6 x5 x7 (x7.length : Int) 0)
def laws_FnPathsOfSwitches.l0 : Nat → List (List Int) → List (List Int) → List (S41) → Int → Int → Option (Bool)
 | 0, _, _, _, _, _ => none
 | k + 1, x6, x19, x118, x119, x120 => if x120 < x119 then (if 0 ≤ x120 then (if x120 < (x118.length : Int) then ((impl_DoSwitch.f x19 ((rd_T41 x118 x120).f0) ((rd_T41 x118 x120).f1) ((rd_T41 x118 x120).f2) ((rd_T41 x118 x120).f3)).bind fun bt880 => (if bt880.2 = true then (laws_FnPathsOfSwitches.l0 k x6 bt880.1 x118 x119 (wrap64 (x120 + 1))) else (some false))) else (none)) else (none)) else ((laws_pSameRows.f k x19 x6).bind fun t884 => (some t884))
end
def laws_FnPathsOfSwitches.f (k : Nat) (l0 : List Int) (l1 : List Int) : Option (Bool) := (laws_big.f l0 l1).bind fun t844 => (if t844 = true then (some true) else ((spec_DrawGridPath.f k l0).bind fun bt845 => ((impl_GridPath.f k bt845.1 bt845.2).bind fun bt851 => ((spec_GridPath.f k bt845.1 bt845.2).bind fun bt855 => (if (bt851.2 != bt855.2) = true then (laws_FnPathsOfSwitches.j0 k bt845.1 bt845.2 bt851.1 bt851.2 bt855.2 true) else ((laws_pSwitches.f k bt851.1 bt855.1).bind fun t859 => (laws_FnPathsOfSwitches.j0 k bt845.1 bt845.2 bt851.1 bt851.2 bt855.2 (!t859))))))))
theorem laws_FnPathsOfSwitches.mono_l : ∀ k, (∀ y0 y1 y2 y3 y4 y5, LeO (laws_FnPathsOfSwitches.j0 k y0 y1 y2 y3 y4 y5) (laws_FnPathsOfSwitches.j0 (k + 1) y0 y1 y2 y3 y4 y5)) ∧ (∀ y0 y1 y2 y3 y4 y5 y6, LeO (laws_FnPathsOfSwitches.j1 k y0 y1 y2 y3 y4 y5 y6) (laws_FnPathsOfSwitches.j1 (k + 1) y0 y1 y2 y3 y4 y5 y6)) ∧ (∀ y0 y1 y2 y3, LeO (laws_FnPathsOfSwitches.j2 k y0 y1 y2 y3) (laws_FnPathsOfSwitches.j2 (k + 1) y0 y1 y2 y3)) ∧ (∀ y0 y1 y2 y3 y4, LeO (laws_FnPathsOfSwitches.l0 k y0 y1 y2 y3 y4) (laws_FnPathsOfSwitches.l0 (k + 1) y0 y1 y2 y3 y4))
 | 0 => ⟨fun _ _ _ _ _ _ r h => by simp [laws_FnPathsOfSwitches.j0] at h, fun _ _ _ _ _ _ _ r h => by simp [laws_FnPathsOfSwitches.j1] at h, fun _ _ _ _ r h => by simp [laws_FnPathsOfSwitches.j2] at h, fun _ _ _ _ _ r h => by simp [laws_FnPathsOfSwitches.l0] at h⟩
 | k + 1 => by
  obtain ⟨ih0, ih1, ih2, ih3⟩ := laws_FnPathsOfSwitches.mono_l k
  refine ⟨?_, ?_, ?_, ?_⟩
  ·
   intro y0 y1 y2 y3 y4 y5
   unfold laws_FnPathsOfSwitches.j0
   repeat' first
   | (with_reducible exact ih0 _ _ _ _ _ _)
   | (with_reducible exact ih1 _ _ _ _ _ _ _)
   | (with_reducible exact ih2 _ _ _ _)
   | (with_reducible exact ih3 _ _ _ _ _)
   | (with_reducible exact impl_GridPath.mono _ _ _)
   | (with_reducible exact impl_GridsApart.mono _ _ _)
   | (with_reducible exact impl_SumsOfGrid.mono _ _)
   | (with_reducible exact laws_pSame.mono _ _ _)
   | (with_reducible exact laws_pSameRows.mono _ _ _)
   | (with_reducible exact laws_pSwitches.mono _ _ _)
   | (with_reducible exact spec_DrawGridPath.mono _ _)
   | (with_reducible exact spec_GridPath.mono _ _ _)
   | (with_reducible exact LeO.refl _)
   | (with_reducible exact LeO.none _)
   | (with_reducible refine LeO.ite ?_ ?_)
   | (with_reducible refine LeO.bind ?_ (fun _ => ?_))
   | exact ih0 _ _ _ _ _ _
   | exact ih1 _ _ _ _ _ _ _
   | exact ih2 _ _ _ _
   | exact ih3 _ _ _ _ _
   | exact impl_GridPath.mono _ _ _
   | exact impl_GridsApart.mono _ _ _
   | exact impl_SumsOfGrid.mono _ _
   | exact laws_pSame.mono _ _ _
   | exact laws_pSameRows.mono _ _ _
   | exact laws_pSwitches.mono _ _ _
   | exact spec_DrawGridPath.mono _ _
   | exact spec_GridPath.mono _ _ _
   | exact LeO.none _
   | refine LeO.ite ?_ ?_
   | refine LeO.bind ?_ (fun _ => ?_)
  ·
   intro y0 y1 y2 y3 y4 y5 y6
   unfold laws_FnPathsOfSwitches.j1
   repeat' first
   | (with_reducible exact ih0 _ _ _ _ _ _)
   | (with_reducible exact ih1 _ _ _ _ _ _ _)
   | (with_reducible exact ih2 _ _ _ _)
   | (with_reducible exact ih3 _ _ _ _ _)
   | (with_reducible exact impl_GridPath.mono _ _ _)
   | (with_reducible exact impl_GridsApart.mono _ _ _)
   | (with_reducible exact impl_SumsOfGrid.mono _ _)
   | (with_reducible exact laws_pSame.mono _ _ _)
   | (with_reducible exact laws_pSameRows.mono _ _ _)
   | (with_reducible exact laws_pSwitches.mono _ _ _)
   | (with_reducible exact spec_DrawGridPath.mono _ _)
   | (with_reducible exact spec_GridPath.mono _ _ _)
   | (with_reducible exact LeO.refl _)
   | (with_reducible exact LeO.none _)
   | (with_reducible refine LeO.ite ?_ ?_)
   | (with_reducible refine LeO.bind ?_ (fun _ => ?_))
   | exact ih0 _ _ _ _ _ _
   | exact ih1 _ _ _ _ _ _ _
   | exact ih2 _ _ _ _
   | exact ih3 _ _ _ _ _
   | exact impl_GridPath.mono _ _ _
   | exact impl_GridsApart.mono _ _ _
   | exact impl_SumsOfGrid.mono _ _
   | exact laws_pSame.mono _ _ _
   | exact laws_pSameRows.mono _ _ _
   | exact laws_pSwitches.mono _ _ _
   | exact spec_DrawGridPath.mono _ _
   | exact spec_GridPath.mono _ _ _
   | exact LeO.none _
   | refine LeO.ite ?_ ?_
   | refine LeO.bind ?_ (fun _ => ?_)
  ·
   intro y0 y1 y2 y3
   unfold laws_FnPathsOfSwitches.j2
   repeat' first
   | (with_reducible exact ih0 _ _ _ _ _ _)
   | (with_reducible exact ih1 _ _ _ _ _ _ _)
   | (with_reducible exact ih2 _ _ _ _)
   | (with_reducible exact ih3 _ _ _ _ _)
   | (with_reducible exact impl_GridPath.mono _ _ _)
   | (with_reducible exact impl_GridsApart.mono _ _ _)
   | (with_reducible exact impl_SumsOfGrid.mono _ _)
   | (with_reducible exact laws_pSame.mono _ _ _)
   | (with_reducible exact laws_pSameRows.mono _ _ _)
   | (with_reducible exact laws_pSwitches.mono _ _ _)
   | (with_reducible exact spec_DrawGridPath.mono _ _)
   | (with_reducible exact spec_GridPath.mono _ _ _)
   | (with_reducible exact LeO.refl _)
   | (with_reducible exact LeO.none _)
   | (with_reducible refine LeO.ite ?_ ?_)
   | (with_reducible refine LeO.bind ?_ (fun _ => ?_))
   | exact ih0 _ _ _ _ _ _
   | exact ih1 _ _ _ _ _ _ _
   | exact ih2 _ _ _ _
   | exact ih3 _ _ _ _ _
   | exact impl_GridPath.mono _ _ _
   | exact impl_GridsApart.mono _ _ _
   | exact impl_SumsOfGrid.mono _ _
   | exact laws_pSame.mono _ _ _
   | exact laws_pSameRows.mono _ _ _
   | exact laws_pSwitches.mono _ _ _
   | exact spec_DrawGridPath.mono _ _
   | exact spec_GridPath.mono _ _ _
   | exact LeO.none _
   | refine LeO.ite ?_ ?_
   | refine LeO.bind ?_ (fun _ => ?_)
  ·
   intro y0 y1 y2 y3 y4
   unfold laws_FnPathsOfSwitches.l0
   repeat' first
   | (with_reducible exact ih0 _ _ _ _ _ _)
   | (with_reducible exact ih1 _ _ _ _ _ _ _)
   | (with_reducible exact ih2 _ _ _ _)
   | (with_reducible exact ih3 _ _ _ _ _)
   | (with_reducible exact impl_GridPath.mono _ _ _)
   | (with_reducible exact impl_GridsApart.mono _ _ _)
   | (with_reducible exact impl_SumsOfGrid.mono _ _)
   | (with_reducible exact laws_pSame.mono _ _ _)
   | (with_reducible exact laws_pSameRows.mono _ _ _)
   | (with_reducible exact laws_pSwitches.mono _ _ _)
   | (with_reducible exact spec_DrawGridPath.mono _ _)
   | (with_reducible exact spec_GridPath.mono _ _ _)
   | (with_reducible exact LeO.refl _)
   | (with_reducible exact LeO.none _)
   | (with_reducible refine LeO.ite ?_ ?_)
   | (with_reducible refine LeO.bind ?_ (fun _ => ?_))
   | exact ih0 _ _ _ _ _ _
   | exact ih1 _ _ _ _ _ _ _
   | exact ih2 _ _ _ _
   | exact ih3 _ _ _ _ _
   | exact impl_GridPath.mono _ _ _
   | exact impl_GridsApart.mono _ _ _
   | exact impl_SumsOfGrid.mono _ _
   | exact laws_pSame.mono _ _ _
   | exact laws_pSameRows.mono _ _ _
   | exact laws_pSwitches.mono _ _ _
   | exact spec_DrawGridPath.mono _ _
   | exact spec_GridPath.mono _ _ _
   | exact LeO.none _
   | refine LeO.ite ?_ ?_
   | refine LeO.bind ?_ (fun _ => ?_)
theorem laws_FnPathsOfSwitches.mono : ∀ a0 a1 k, LeO (laws_FnPathsOfSwitches.f k a0 a1) (laws_FnPathsOfSwitches.f (k + 1) a0 a1) := by
 intro a0 a1 k
 obtain ⟨ih0, ih1, ih2, ih3⟩ := laws_FnPathsOfSwitches.mono_l k
 unfold laws_FnPathsOfSwitches.f
 repeat' first
   | (with_reducible exact ih0 _ _ _ _ _ _)
   | (with_reducible exact ih1 _ _ _ _ _ _ _)
   | (with_reducible exact ih2 _ _ _ _)
   | (with_reducible exact ih3 _ _ _ _ _)
   | (with_reducible exact impl_GridPath.mono _ _ _)
   | (with_reducible exact impl_GridsApart.mono _ _ _)
   | (with_reducible exact impl_SumsOfGrid.mono _ _)
   | (with_reducible exact laws_pSame.mono _ _ _)
   | (with_reducible exact laws_pSameRows.mono _ _ _)
   | (with_reducible exact laws_pSwitches.mono _ _ _)
   | (with_reducible exact spec_DrawGridPath.mono _ _)
   | (with_reducible exact spec_GridPath.mono _ _ _)
   | (with_reducible exact LeO.refl _)
   | (with_reducible exact LeO.none _)
   | (with_reducible refine LeO.ite ?_ ?_)
   | (with_reducible refine LeO.bind ?_ (fun _ => ?_))
   | exact ih0 _ _ _ _ _ _
   | exact ih1 _ _ _ _ _ _ _
   | exact ih2 _ _ _ _
   | exact ih3 _ _ _ _ _
   | exact impl_GridPath.mono _ _ _
   | exact impl_GridsApart.mono _ _ _
   | exact impl_SumsOfGrid.mono _ _
   | exact laws_pSame.mono _ _ _
   | exact laws_pSameRows.mono _ _ _
   | exact laws_pSwitches.mono _ _ _
   | exact spec_DrawGridPath.mono _ _
   | exact spec_GridPath.mono _ _ _
   | exact LeO.none _
   | refine LeO.ite ?_ ?_
   | refine LeO.bind ?_ (fun _ => ?_)
set_option maxHeartbeats 8000000 in
set_option maxRecDepth 100000 in
theorem laws_FnPathsOfSwitches.calls (k : Nat) (A0 : Option Addr) (c0 : Nat) (l0 : List Int) (A1 : Option Addr) (c1 : Nat) (l1 : List Int) (r : Bool) (w : World) (hr0 : Kd.C (Kd.int .u8) w A0 l0.length l0) (hc0 : l0.length ≤ c0) (hr1 : Kd.C (Kd.int .u8) w A1 l1.length l1) (hc1 : l1.length ≤ c1) (h : laws_FnPathsOfSwitches.f k l0 l1 = some r) :
  Calls Try.prog 16 #[.slice A0 l0.length c0, .slice A1 l1.length c1] w fun e w' => e = .returned (.bool r) ∧ Below w.heap.size w w' := by
 have hu41 := Try.underlying41
 have HR0 := Aside0.mk hr0
 have HC0 := Aside0.mk hc0
 clear hr0 hc0
 have HR1 := Aside0.mk hr1
 have HC1 := Aside0.mk hc1
 clear hr1 hc1
 have HB := Aside0.mk (Below.refl w.heap.size w)
 have H : ((laws_big.f l0 l1).bind fun t844 => (if t844 = true then (some true) else ((spec_DrawGridPath.f k l0).bind fun bt845 => ((impl_GridPath.f k bt845.1 bt845.2).bind fun bt851 => ((spec_GridPath.f k bt845.1 bt845.2).bind fun bt855 => (if (bt851.2 != bt855.2) = true then (laws_FnPathsOfSwitches.j0 k bt845.1 bt845.2 bt851.1 bt851.2 bt855.2 true) else ((laws_pSwitches.f k bt851.1 bt855.1).bind fun t859 => (laws_FnPathsOfSwitches.j0 k bt845.1 bt845.2 bt851.1 bt851.2 bt855.2 (!t859))))))))) = some r := h
 clear h
 replace H := Option.bind_eq_some_iff.mp H
 obtain ⟨t844, A30, H⟩ := H
 replace H : (if t844 = true then (some true) else ((spec_DrawGridPath.f k l0).bind fun bt845 => ((impl_GridPath.f k bt845.1 bt845.2).bind fun bt851 => ((spec_GridPath.f k bt845.1 bt845.2).bind fun bt855 => (if (bt851.2 != bt855.2) = true then (laws_FnPathsOfSwitches.j0 k bt845.1 bt845.2 bt851.1 bt851.2 bt855.2 true) else ((laws_pSwitches.f k bt851.1 bt855.1).bind fun t859 => (laws_FnPathsOfSwitches.j0 k bt845.1 bt845.2 bt851.1 bt851.2 bt855.2 (!t859)))))))) = some r := H
 have A3 := Aside0.mk A30
 clear A30
 by_cases c4 : t844 = true
 ·
  subst c4
  have H1 : (some true) = some r := by rw [if_pos rfl] at H; exact H
  clear H
  have H := H1
  clear H1
  obtain rfl := Option.some.inj H
  go_enter Try.func16, Try.ntmps16
  go_wp2_with (first | ((with_reducible refine gate_callee (f := 55) rfl ?_); refine goesL_ (some 26) rfl rfl Try.func55 (by kernel_rfl) rfl #[.slice A0 l0.length c0, .slice A1 l1.length c1] rfl (by (try simp only [List.map_toArray, List.map_cons, List.map_nil]); first | done | rfl) ?_; (with_reducible refine (laws_big.calls _ _ l0 _ _ l1 true _ ?side1 ?side2 ?side3 ?side4 A3.out).mono ?_); (case side1 => repeat (first | exact HR0.out | (with_reducible refine Kd.C_alloc ?_ _) | (with_reducible refine Kd.C_drewN ?_ _) | (with_reducible refine Kd.C_drew ?_))); (case side2 => exact HC0.out); (case side3 => repeat (first | exact HR1.out | (with_reducible refine Kd.C_alloc ?_ _) | (with_reducible refine Kd.C_drewN ?_ _) | (with_reducible refine Kd.C_drew ?_))); (case side4 => exact HC1.out); rintro e w' ⟨rfl, ⟨nd, rfl⟩⟩; refine ⟨_, rfl, ?_⟩))
  go_ret
  exact ⟨by first | rfl | (simp [errW_none, errW_some] <;> rfl) | (simp [*, errW_none, errW_some] <;> rfl), by repeat (first | (with_reducible first | exact HB.out | apply below_alloc | apply pw_below_drewN | apply below_drew1) | exact HB.out)⟩
 ·
  replace c4 := Bool.eq_false_iff.mpr c4
  subst c4
  have H1 : ((spec_DrawGridPath.f k l0).bind fun bt845 => ((impl_GridPath.f k bt845.1 bt845.2).bind fun bt851 => ((spec_GridPath.f k bt845.1 bt845.2).bind fun bt855 => (if (bt851.2 != bt855.2) = true then (laws_FnPathsOfSwitches.j0 k bt845.1 bt845.2 bt851.1 bt851.2 bt855.2 true) else ((laws_pSwitches.f k bt851.1 bt855.1).bind fun t859 => (laws_FnPathsOfSwitches.j0 k bt845.1 bt845.2 bt851.1 bt851.2 bt855.2 (!t859))))))) = some r := by rw [if_neg (show ¬ (false = true) by decide)] at H; exact H
  clear H
  have H := H1
  clear H1
  replace H := Option.bind_eq_some_iff.mp H
  obtain ⟨⟨t845, t846⟩, A50, H⟩ := H
  replace H : ((impl_GridPath.f k t845 t846).bind fun bt851 => ((spec_GridPath.f k t845 t846).bind fun bt855 => (if (bt851.2 != bt855.2) = true then (laws_FnPathsOfSwitches.j0 k t845 t846 bt851.1 bt851.2 bt855.2 true) else ((laws_pSwitches.f k bt851.1 bt855.1).bind fun t859 => (laws_FnPathsOfSwitches.j0 k t845 t846 bt851.1 bt851.2 bt855.2 (!t859)))))) = some r := H
  have A5 := Aside0.mk A50
  clear A50
  replace H := Option.bind_eq_some_iff.mp H
  obtain ⟨⟨t851, t854⟩, A60, H⟩ := H
  replace H : ((spec_GridPath.f k t845 t846).bind fun bt855 => (if (t854 != bt855.2) = true then (laws_FnPathsOfSwitches.j0 k t845 t846 t851 t854 bt855.2 true) else ((laws_pSwitches.f k t851 bt855.1).bind fun t859 => (laws_FnPathsOfSwitches.j0 k t845 t846 t851 t854 bt855.2 (!t859))))) = some r := H
  have A6 := Aside0.mk A60
  clear A60
  replace H := Option.bind_eq_some_iff.mp H
  obtain ⟨⟨t855, t858⟩, A70, H⟩ := H
  replace H : (if (t854 != t858) = true then (laws_FnPathsOfSwitches.j0 k t845 t846 t851 t854 t858 true) else ((laws_pSwitches.f k t851 t855).bind fun t859 => (laws_FnPathsOfSwitches.j0 k t845 t846 t851 t854 t858 (!t859)))) = some r := H
  have A7 := Aside0.mk A70
  clear A70
  have HC8 := Aside0.mk H
  clear H
  go_enter Try.func16, Try.ntmps16
  go_upto_region 6 with (first | ((with_reducible refine gate_callee (f := 55) rfl ?_); refine goesL_ (some 26) rfl rfl Try.func55 (by kernel_rfl) rfl #[.slice A0 l0.length c0, .slice A1 l1.length c1] rfl (by (try simp only [List.map_toArray, List.map_cons, List.map_nil]); first | done | rfl) ?_; (with_reducible refine (laws_big.calls _ _ l0 _ _ l1 false _ ?side1 ?side2 ?side3 ?side4 A3.out).mono ?_); (case side1 => repeat (first | exact HR0.out | (with_reducible refine Kd.C_alloc ?_ _) | (with_reducible refine Kd.C_drewN ?_ _) | (with_reducible refine Kd.C_drew ?_))); (case side2 => exact HC0.out); (case side3 => repeat (first | exact HR1.out | (with_reducible refine Kd.C_alloc ?_ _) | (with_reducible refine Kd.C_drewN ?_ _) | (with_reducible refine Kd.C_drew ?_))); (case side4 => exact HC1.out); rintro e w' ⟨rfl, ⟨nd, rfl⟩⟩; refine ⟨_, rfl, ?_⟩) | ((with_reducible refine gate_callee (f := 60) rfl ?_); refine goesL_ (some 29) rfl rfl Try.func60 (by kernel_rfl) rfl #[.slice A0 l0.length c0] rfl (by (try simp only [List.map_toArray, List.map_cons, List.map_nil]); first | done | rfl) ?_; (with_reducible refine (spec_DrawGridPath.calls k _ _ l0 t845 t846 _ ?side1 ?side2 A5.out).mono ?_); (case side1 => repeat (first | exact HR0.out | (with_reducible refine Kd.C_alloc ?_ _) | (with_reducible refine Kd.C_drewN ?_ _) | (with_reducible refine Kd.C_drew ?_))); (case side2 => exact HC0.out); rintro e w9 ⟨v847, v849, rfl, ho0, ho1, hb⟩; refine ⟨_, rfl, ?_⟩; have n0_ := Aside0.mk (Kd.S_lower ho0 (below_size (by repeat (first | (with_reducible first | exact HB.out | apply below_alloc | apply pw_below_drewN | apply below_drew1))))); have n1_ := Aside0.mk (Kd.S_lower ho1 (below_size (by repeat (first | (with_reducible first | exact HB.out | apply below_alloc | apply pw_below_drewN | apply below_drew1))))); have n2_ := Aside0.mk (below_step (by repeat (first | (with_reducible first | exact HB.out | apply below_alloc | apply pw_below_drewN | apply below_drew1))) hb); clear HB; have HO848 := n0_; have HO850 := n1_; have HB := n2_; clear n0_ n1_ n2_; (try clear hb); (try clear hb2); (try clear hk); (try clear hi); (try clear ho0); (try clear ho1); obtain ⟨Ao10, co10, eo10⟩ := Kd.S_slice HO848.out; subst eo10; obtain ⟨Ao11, co11, eo11⟩ := Kd.S_slice HO850.out; subst eo11) | ((with_reducible refine gate_callee (f := 47) rfl ?_); refine goesL_ (some 35) rfl rfl Try.func47 (by kernel_rfl) rfl #[.slice Ao10 t845.length co10, .slice Ao11 t846.length co11] rfl (by (try simp only [List.map_toArray, List.map_cons, List.map_nil]); first | done | rfl) ?_; (with_reducible refine (impl_GridPath.calls k (fun k_ => some k_ ≠ (.slice Ao11 t846.length co11 : Value).ownBlock) _ _ t845 (fun k_ => some k_ ≠ (.slice Ao10 t845.length co10 : Value).ownBlock) _ _ t846 t851 t854 _ ?side1 ?side2 A6.out).mono ?_); (case side1 => exact Kd.S_V (HO848.out)); (case side2 => exact Kd.S_V (HO850.out)); rintro e w12 ⟨v852, rfl, ho0, hb⟩; refine ⟨_, rfl, ?_⟩; have n0_ := Aside0.mk (Kd.S_below (by (with_reducible repeat (first | apply Kd.S_alloc | apply Kd.S_drewN | apply Kd.S_drew)); exact HO848.out) hb); have n1_ := Aside0.mk (Kd.S_below (by (with_reducible repeat (first | apply Kd.S_alloc | apply Kd.S_drewN | apply Kd.S_drew)); exact HO850.out) hb); have n2_ := Aside0.mk (Kd.R_lower (Kd.R_mono (ok' := fun k_ => True) ho0 (fun _ hk_ => trivial)) (below_size (by repeat (first | (with_reducible first | exact HB.out | apply below_alloc | apply pw_below_drewN | apply below_drew1))))); have n3_ := Aside0.mk (below_step (by repeat (first | (with_reducible first | exact HB.out | apply below_alloc | apply pw_below_drewN | apply below_drew1))) hb); clear HO848; clear HO850; clear HB; have HO848 := n0_; have HO850 := n1_; have HO853 := n2_; have HB := n3_; clear n0_ n1_ n2_ n3_; (try clear hb); (try clear hb2); (try clear hk); (try clear hi); (try clear ho0)) | ((with_reducible refine gate_callee (f := 46) rfl ?_); refine goesL_ (some 41) rfl rfl Try.func46 (by kernel_rfl) rfl #[.slice Ao10 t845.length co10, .slice Ao11 t846.length co11] rfl (by (try simp only [List.map_toArray, List.map_cons, List.map_nil]); first | done | rfl) ?_; (with_reducible refine (spec_GridPath.calls k (fun k_ => (some k_ ≠ (.slice Ao11 t846.length co11 : Value).ownBlock ∧ some k_ ≠ (v852 : Value).ownBlock)) _ _ t845 (fun k_ => (some k_ ≠ (.slice Ao10 t845.length co10 : Value).ownBlock ∧ some k_ ≠ (v852 : Value).ownBlock)) _ _ t846 t855 t858 _ ?side1 ?side2 A7.out).mono ?_); (case side1 => exact Kd.S_V (Kd.S_apart' (HO848.out) (Kd.R_typed HO853.out) (by decide))); (case side2 => exact Kd.S_V (Kd.S_apart' (HO850.out) (Kd.R_typed HO853.out) (by decide))); rintro e w13 ⟨v856, rfl, ho0, hb⟩; refine ⟨_, rfl, ?_⟩; have n0_ := Aside0.mk (Kd.S_below (by (with_reducible repeat (first | apply Kd.S_alloc | apply Kd.S_drewN | apply Kd.S_drew)); exact HO848.out) hb); have n1_ := Aside0.mk (Kd.S_below (by (with_reducible repeat (first | apply Kd.S_alloc | apply Kd.S_drewN | apply Kd.S_drew)); exact HO850.out) hb); have n2_ := Aside0.mk (Kd.R_elder' (by (with_reducible repeat (first | apply Kd.R_alloc | apply Kd.R_drewN | apply Kd.R_drew)); exact HO853.out) (Kd.R_base ho0) hb); have n3_ := Aside0.mk (Kd.R_lower (Kd.R_new' (Kd.R_mono (ok' := fun k_ => True) ho0 (fun _ hk_ => trivial)) (Kd.R_lt (by (with_reducible repeat (first | apply Kd.R_alloc | apply Kd.R_drewN | apply Kd.R_drew)); exact HO853.out))) (below_size (by repeat (first | (with_reducible first | exact HB.out | apply below_alloc | apply pw_below_drewN | apply below_drew1))))); have n4_ := Aside0.mk (below_step (by repeat (first | (with_reducible first | exact HB.out | apply below_alloc | apply pw_below_drewN | apply below_drew1))) hb); clear HO848; clear HO850; clear HO853; clear HB; have HO848 := n0_; have HO850 := n1_; have HO853 := n2_; have HO857 := n3_; have HB := n4_; clear n0_ n1_ n2_ n3_ n4_; (try clear hb); (try clear hb2); (try clear hk); (try clear hi); (try clear ho0)))
  (try simp only [Act.put, List.setIfInBounds_toArray, List.set_cons_zero, List.set_cons_succ])
  go_cut [52] (fun v52 wc => ∃ (kq : Nat) (x52_7 : Bool), v52 = .bool x52_7 ∧ Aside0 (laws_FnPathsOfSwitches.j0 kq t845 t846 t851 t854 t858 x52_7 = some r) ∧ Aside0 (kq ≤ k) ∧ Aside0 (Kd.S (Kd.slice 3 (Kd.int .i64)) 33 wc w.heap.size (fun k_ => some k_ ≠ ((.slice Ao11 t846.length co11) : Value).ownBlock) (.slice Ao10 t845.length co10) t845) ∧ Aside0 (Kd.S (Kd.slice 3 (Kd.int .i64)) 33 wc w.heap.size (fun k_ => some k_ ≠ ((.slice Ao10 t845.length co10) : Value).ownBlock) (.slice Ao11 t846.length co11) t846) ∧ Aside0 (Kd.R k41 41 wc w.heap.size (fun _ => True) v852 t851) ∧ Aside0 (Below w.heap.size w wc))
  case first =>
   have H := HC8.out
   clear HC8
   by_cases c14 : (t854 != t858) = true
   ·
    rw [if_pos c14] at H
    have c14b0 : (t854 != t858) = true := c14
    (try (have c14b1 : decide (t854 = t858) = false := by simpa using c14))
    (try (have c14b2 : (t854 == t858) = false := by simpa using c14))
    (try (have c14b3 : ¬ (t854 = t858) := by simpa using c14))
    clear c14
    (first | rw [c14b0] | (simp only [i64_w, i32_w]; rw [c14b0]) | skip)
    have H' := Aside0.mk H
    clear H
    go_wp2
    go_meet
    case rel => exact ⟨_, (true), (by first | rfl | (simp; done) | (simp [*]; done)), H', ⟨by first | omega | exact Nat.le_refl _⟩, ⟨by (with_reducible repeat (first | apply Kd.S_alloc | apply Kd.S_drewN | apply Kd.S_drew)); exact HO848.out⟩, ⟨by (with_reducible repeat (first | apply Kd.S_alloc | apply Kd.S_drewN | apply Kd.S_drew)); exact HO850.out⟩, ⟨by (with_reducible repeat (first | apply Kd.R_alloc | apply Kd.R_drewN | apply Kd.R_drew)); exact Kd.R_mono HO853.out (fun _ hk => trivial)⟩, ⟨by repeat (first | (with_reducible first | exact HB.out | apply below_alloc | apply pw_below_drewN | apply below_drew1) | exact HB.out)⟩⟩
   ·
    rw [if_neg c14] at H
    have c14b0 : (t854 != t858) = false := by simpa using c14
    (try (have c14b1 : decide (t854 = t858) = true := by simpa using c14))
    (try (have c14b2 : (t854 == t858) = true := by simpa using c14))
    clear c14
    (first | rw [c14b0] | (simp only [i64_w, i32_w]; rw [c14b0]) | skip)
    replace H := Option.bind_eq_some_iff.mp H
    obtain ⟨t859, A150, H⟩ := H
    replace H : (laws_FnPathsOfSwitches.j0 k t845 t846 t851 t854 t858 (!t859)) = some r := H
    have A15 := Aside0.mk A150
    clear A150
    have H' := Aside0.mk H
    clear H
    obtain ⟨Ao16, co16, eo16⟩ := Kd.R_slice HO853.out
    subst eo16
    obtain ⟨Ao17, co17, eo17⟩ := Kd.R_slice HO857.out
    subst eo17
    go_wp2_with (first | (go_at_call 58; (with_reducible refine (laws_pSwitches.calls k _ _ t851 _ _ t855 t859 _ ?side1 ?side2 ?side3 ?side4 A15.out).mono ?_); (case side1 => repeat (first | exact (Kd.R_reads' HO853.out).2.2 | (with_reducible refine Kd.C_alloc ?_ _) | (with_reducible refine Kd.C_drewN ?_ _) | (with_reducible refine Kd.C_drew ?_))); (case side2 => exact (Kd.R_reads' HO853.out).2.1); (case side3 => repeat (first | exact (Kd.R_reads' HO857.out).2.2 | (with_reducible refine Kd.C_alloc ?_ _) | (with_reducible refine Kd.C_drewN ?_ _) | (with_reducible refine Kd.C_drew ?_))); (case side4 => exact (Kd.R_reads' HO857.out).2.1); rintro e w' ⟨rfl, ⟨nd, rfl⟩⟩))
    go_meet
    case rel => exact ⟨_, (!t859), (by first | rfl | (simp; done) | (simp [*]; done)), H', ⟨by first | omega | exact Nat.le_refl _⟩, ⟨by (with_reducible repeat (first | apply Kd.S_alloc | apply Kd.S_drewN | apply Kd.S_drew)); exact HO848.out⟩, ⟨by (with_reducible repeat (first | apply Kd.S_alloc | apply Kd.S_drewN | apply Kd.S_drew)); exact HO850.out⟩, ⟨by (with_reducible repeat (first | apply Kd.R_alloc | apply Kd.R_drewN | apply Kd.R_drew)); exact Kd.R_mono HO853.out (fun _ hk => trivial)⟩, ⟨by repeat (first | (with_reducible first | exact HB.out | apply below_alloc | apply pw_below_drewN | apply below_drew1) | exact HB.out)⟩⟩
  case rest =>
   clear HC8
   try clear c1
   try clear p2
   try clear c4
   try clear c5
   try clear c6
   try clear c14
   try clear c14b0
   try clear c14b1
   try clear c14b2
   try clear c16
   obtain ⟨kq, x52_7, rfl, HA, HJ7, HO_5, HO_6, HO_7, HB⟩ := hcut
   cases kq with
   | zero => exact absurd HA.out (by simp [laws_FnPathsOfSwitches.j0])
   | succ kj7 =>
    have H := HA.out
    clear HA
    simp only [laws_FnPathsOfSwitches.j0] at H
    by_cases c18 : x52_7 = true
    ·
     subst c18
     have H1 : (some false) = some r := by rw [if_pos rfl] at H; exact H
     clear H
     have H := H1
     clear H1
     obtain rfl := Option.some.inj H
     go_wp2
     go_ret
     exact ⟨by first | rfl | (simp [errW_none, errW_some] <;> rfl) | (simp [*, errW_none, errW_some] <;> rfl), by repeat (first | (with_reducible first | exact HB.out | apply below_alloc | apply pw_below_drewN | apply below_drew1) | exact HB.out)⟩
    ·
     replace c18 := Bool.eq_false_iff.mpr c18
     subst c18
     have H1 : ((impl_SumsOfGrid.f kj7 t845).bind fun bt860 => ((impl_SumsOfGrid.f kj7 t846).bind fun bt867 => (if bt860.2.2 = true then (if bt867.2.2 = true then ((laws_pSame.f kj7 bt860.1 bt867.1).bind fun t874 => (if t874 = true then ((laws_pSame.f kj7 bt860.2.1 bt867.2.1).bind fun t875 => (laws_FnPathsOfSwitches.j1 kj7 t845 t846 t851 t858 bt860.1 bt860.2.1 (t854 != t875))) else (laws_FnPathsOfSwitches.j1 kj7 t845 t846 t851 t858 bt860.1 bt860.2.1 (t854 != false)))) else (laws_FnPathsOfSwitches.j1 kj7 t845 t846 t851 t858 bt860.1 bt860.2.1 (t854 != false))) else (laws_FnPathsOfSwitches.j1 kj7 t845 t846 t851 t858 bt860.1 bt860.2.1 (t854 != false))))) = some r := by rw [if_neg (show ¬ (false = true) by decide)] at H; exact H
     clear H
     have H := H1
     clear H1
     replace H := Option.bind_eq_some_iff.mp H
     obtain ⟨⟨t860, t861, t862⟩, A190, H⟩ := H
     replace H : ((impl_SumsOfGrid.f kj7 t846).bind fun bt867 => (if t862 = true then (if bt867.2.2 = true then ((laws_pSame.f kj7 t860 bt867.1).bind fun t874 => (if t874 = true then ((laws_pSame.f kj7 t861 bt867.2.1).bind fun t875 => (laws_FnPathsOfSwitches.j1 kj7 t845 t846 t851 t858 t860 t861 (t854 != t875))) else (laws_FnPathsOfSwitches.j1 kj7 t845 t846 t851 t858 t860 t861 (t854 != false)))) else (laws_FnPathsOfSwitches.j1 kj7 t845 t846 t851 t858 t860 t861 (t854 != false))) else (laws_FnPathsOfSwitches.j1 kj7 t845 t846 t851 t858 t860 t861 (t854 != false)))) = some r := H
     have A19 := Aside0.mk A190
     clear A190
     replace H := Option.bind_eq_some_iff.mp H
     obtain ⟨⟨t867, t868, t869⟩, A200, H⟩ := H
     replace H : (if t862 = true then (if t869 = true then ((laws_pSame.f kj7 t860 t867).bind fun t874 => (if t874 = true then ((laws_pSame.f kj7 t861 t868).bind fun t875 => (laws_FnPathsOfSwitches.j1 kj7 t845 t846 t851 t858 t860 t861 (t854 != t875))) else (laws_FnPathsOfSwitches.j1 kj7 t845 t846 t851 t858 t860 t861 (t854 != false)))) else (laws_FnPathsOfSwitches.j1 kj7 t845 t846 t851 t858 t860 t861 (t854 != false))) else (laws_FnPathsOfSwitches.j1 kj7 t845 t846 t851 t858 t860 t861 (t854 != false))) = some r := H
     have A20 := Aside0.mk A200
     clear A200
     have HC21 := Aside0.mk H
     clear H
     go_upto_region 10 with (first | ((with_reducible refine gate_callee (f := 34) rfl ?_); refine goesL_ (some 55) rfl rfl Try.func34 (by kernel_rfl) rfl #[.slice Ao10 t845.length co10] rfl (by (try simp only [List.map_toArray, List.map_cons, List.map_nil]); first | done | rfl) ?_; (with_reducible refine (impl_SumsOfGrid.calls kj7 _ _ t845 t860 t861 t862 _ ?side1 ?side2 A19.out).mono ?_); (case side1 => repeat (first | exact (Kd.S_reads' HO_5.out).2.2 | (with_reducible refine Kd.C_alloc ?_ _) | (with_reducible refine Kd.C_drewN ?_ _) | (with_reducible refine Kd.C_drew ?_))); (case side2 => exact (Kd.S_reads' HO_5.out).2.1); rintro e w22 ⟨v863, v865, rfl, ho0, ho1, hb⟩; refine ⟨_, rfl, ?_⟩; have n0_ := Aside0.mk (Kd.S_mono (Kd.S_told (Kd.S_told (Kd.S_old (by (with_reducible repeat (first | apply Kd.S_alloc | apply Kd.S_drewN | apply Kd.S_drew)); exact HO_5.out) hb) (Kd.R_base ho0)) (Kd.R_base ho1)) (fun _ h_ => h_.1)); have n1_ := Aside0.mk (Kd.S_mono (Kd.S_told (Kd.S_told (Kd.S_old (by (with_reducible repeat (first | apply Kd.S_alloc | apply Kd.S_drewN | apply Kd.S_drew)); exact HO_6.out) hb) (Kd.R_base ho0)) (Kd.R_base ho1)) (fun _ h_ => h_.1)); have n2_ := Aside0.mk (Kd.R_below (by (with_reducible repeat (first | apply Kd.R_alloc | apply Kd.R_drewN | apply Kd.R_drew)); exact HO_7.out) hb); have n3_ := Aside0.mk (Kd.R_lower ho0 (below_size (by repeat (first | (with_reducible first | exact HB.out | apply below_alloc | apply pw_below_drewN | apply below_drew1))))); have n4_ := Aside0.mk (Kd.R_lower ho1 (below_size (by repeat (first | (with_reducible first | exact HB.out | apply below_alloc | apply pw_below_drewN | apply below_drew1))))); have n5_ := Aside0.mk (below_step (by repeat (first | (with_reducible first | exact HB.out | apply below_alloc | apply pw_below_drewN | apply below_drew1))) hb); clear HO_5; clear HO_6; clear HO_7; clear HB; have HO_5 := n0_; have HO_6 := n1_; have HO_7 := n2_; have HO864 := n3_; have HO866 := n4_; have HB := n5_; clear n0_ n1_ n2_ n3_ n4_ n5_; (try clear hb); (try clear hb2); (try clear hk); (try clear hi); (try clear ho0); (try clear ho1)) | ((with_reducible refine gate_callee (f := 34) rfl ?_); refine goesL_ (some 61) rfl rfl Try.func34 (by kernel_rfl) rfl #[.slice Ao11 t846.length co11] rfl (by (try simp only [List.map_toArray, List.map_cons, List.map_nil]); first | done | rfl) ?_; (with_reducible refine (impl_SumsOfGrid.calls kj7 _ _ t846 t867 t868 t869 _ ?side1 ?side2 A20.out).mono ?_); (case side1 => repeat (first | exact (Kd.S_reads' HO_6.out).2.2 | (with_reducible refine Kd.C_alloc ?_ _) | (with_reducible refine Kd.C_drewN ?_ _) | (with_reducible refine Kd.C_drew ?_))); (case side2 => exact (Kd.S_reads' HO_6.out).2.1); rintro e w23 ⟨v870, v872, rfl, ho0, ho1, hb⟩; refine ⟨_, rfl, ?_⟩; have n0_ := Aside0.mk (Kd.S_mono (Kd.S_told (Kd.S_told (Kd.S_old (by (with_reducible repeat (first | apply Kd.S_alloc | apply Kd.S_drewN | apply Kd.S_drew)); exact HO_5.out) hb) (Kd.R_base ho0)) (Kd.R_base ho1)) (fun _ h_ => h_.1)); have n1_ := Aside0.mk (Kd.S_mono (Kd.S_told (Kd.S_told (Kd.S_old (by (with_reducible repeat (first | apply Kd.S_alloc | apply Kd.S_drewN | apply Kd.S_drew)); exact HO_6.out) hb) (Kd.R_base ho0)) (Kd.R_base ho1)) (fun _ h_ => h_.1)); have n2_ := Aside0.mk (Kd.R_below (by (with_reducible repeat (first | apply Kd.R_alloc | apply Kd.R_drewN | apply Kd.R_drew)); exact HO_7.out) hb); have n3_ := Aside0.mk (Kd.R_mono (Kd.R_told (Kd.R_told (Kd.R_old (by (with_reducible repeat (first | apply Kd.R_alloc | apply Kd.R_drewN | apply Kd.R_drew)); exact HO864.out) hb) (Kd.R_base ho0)) (Kd.R_base ho1)) (fun _ h_ => h_.1)); have n4_ := Aside0.mk (Kd.R_mono (Kd.R_told (Kd.R_told (Kd.R_old (by (with_reducible repeat (first | apply Kd.R_alloc | apply Kd.R_drewN | apply Kd.R_drew)); exact HO866.out) hb) (Kd.R_base ho0)) (Kd.R_base ho1)) (fun _ h_ => h_.1)); have n5_ := Aside0.mk (Kd.R_lower (Kd.R_new' (Kd.R_new' ho0 (Kd.R_lt (by (with_reducible repeat (first | apply Kd.R_alloc | apply Kd.R_drewN | apply Kd.R_drew)); exact HO864.out))) (Kd.R_lt (by (with_reducible repeat (first | apply Kd.R_alloc | apply Kd.R_drewN | apply Kd.R_drew)); exact HO866.out))) (below_size (by repeat (first | (with_reducible first | exact HB.out | apply below_alloc | apply pw_below_drewN | apply below_drew1))))); have n6_ := Aside0.mk (Kd.R_lower (Kd.R_new' (Kd.R_new' ho1 (Kd.R_lt (by (with_reducible repeat (first | apply Kd.R_alloc | apply Kd.R_drewN | apply Kd.R_drew)); exact HO864.out))) (Kd.R_lt (by (with_reducible repeat (first | apply Kd.R_alloc | apply Kd.R_drewN | apply Kd.R_drew)); exact HO866.out))) (below_size (by repeat (first | (with_reducible first | exact HB.out | apply below_alloc | apply pw_below_drewN | apply below_drew1))))); have n7_ := Aside0.mk (below_step (by repeat (first | (with_reducible first | exact HB.out | apply below_alloc | apply pw_below_drewN | apply below_drew1))) hb); clear HO_5; clear HO_6; clear HO_7; clear HO864; clear HO866; clear HB; have HO_5 := n0_; have HO_6 := n1_; have HO_7 := n2_; have HO864 := n3_; have HO866 := n4_; have HO871 := n5_; have HO873 := n6_; have HB := n7_; clear n0_ n1_ n2_ n3_ n4_ n5_ n6_ n7_; (try clear hb); (try clear hb2); (try clear hk); (try clear hi); (try clear ho0); (try clear ho1)))
     (try simp only [Act.put, List.setIfInBounds_toArray, List.set_cons_zero, List.set_cons_succ])
     go_cut [80] (fun v80 wc => ∃ (kq : Nat) (x80_20 : Bool), v80 = .bool x80_20 ∧ Aside0 (laws_FnPathsOfSwitches.j1 kq t845 t846 t851 t858 t860 t861 x80_20 = some r) ∧ Aside0 (kq ≤ kj7) ∧ Aside0 (Kd.S (Kd.slice 3 (Kd.int .i64)) 33 wc w.heap.size (fun k_ => some k_ ≠ ((.slice Ao11 t846.length co11) : Value).ownBlock ∧ some k_ ≠ (v863 : Value).ownBlock ∧ some k_ ≠ (v865 : Value).ownBlock) (.slice Ao10 t845.length co10) t845) ∧ Aside0 (Kd.S (Kd.slice 3 (Kd.int .i64)) 33 wc w.heap.size (fun k_ => some k_ ≠ ((.slice Ao10 t845.length co10) : Value).ownBlock ∧ some k_ ≠ (v863 : Value).ownBlock ∧ some k_ ≠ (v865 : Value).ownBlock) (.slice Ao11 t846.length co11) t846) ∧ Aside0 (Kd.R k41 41 wc w.heap.size (fun _ => True) v852 t851) ∧ Aside0 (Kd.R (Kd.int .i64) 3 wc w.heap.size (fun k_ => some k_ ≠ (v865 : Value).ownBlock) v863 t860) ∧ Aside0 (Kd.R (Kd.int .i64) 3 wc w.heap.size (fun k_ => some k_ ≠ (v863 : Value).ownBlock) v865 t861) ∧ Aside0 (Below w.heap.size w wc))
     case first =>
      have H := HC21.out
      clear HC21
      by_cases c24 : t862 = true
      ·
       subst c24
       have H1 : (if t869 = true then ((laws_pSame.f kj7 t860 t867).bind fun t874 => (if t874 = true then ((laws_pSame.f kj7 t861 t868).bind fun t875 => (laws_FnPathsOfSwitches.j1 kj7 t845 t846 t851 t858 t860 t861 (t854 != t875))) else (laws_FnPathsOfSwitches.j1 kj7 t845 t846 t851 t858 t860 t861 (t854 != false)))) else (laws_FnPathsOfSwitches.j1 kj7 t845 t846 t851 t858 t860 t861 (t854 != false))) = some r := by rw [if_pos rfl] at H; exact H
       clear H
       have H := H1
       clear H1
       by_cases c25 : t869 = true
       ·
        subst c25
        have H1 : ((laws_pSame.f kj7 t860 t867).bind fun t874 => (if t874 = true then ((laws_pSame.f kj7 t861 t868).bind fun t875 => (laws_FnPathsOfSwitches.j1 kj7 t845 t846 t851 t858 t860 t861 (t854 != t875))) else (laws_FnPathsOfSwitches.j1 kj7 t845 t846 t851 t858 t860 t861 (t854 != false)))) = some r := by rw [if_pos rfl] at H; exact H
        clear H
        have H := H1
        clear H1
        replace H := Option.bind_eq_some_iff.mp H
        obtain ⟨t874, A260, H⟩ := H
        replace H : (if t874 = true then ((laws_pSame.f kj7 t861 t868).bind fun t875 => (laws_FnPathsOfSwitches.j1 kj7 t845 t846 t851 t858 t860 t861 (t854 != t875))) else (laws_FnPathsOfSwitches.j1 kj7 t845 t846 t851 t858 t860 t861 (t854 != false))) = some r := H
        have A26 := Aside0.mk A260
        clear A260
        by_cases c27 : t874 = true
        ·
         subst c27
         have H1 : ((laws_pSame.f kj7 t861 t868).bind fun t875 => (laws_FnPathsOfSwitches.j1 kj7 t845 t846 t851 t858 t860 t861 (t854 != t875))) = some r := by rw [if_pos rfl] at H; exact H
         clear H
         have H := H1
         clear H1
         replace H := Option.bind_eq_some_iff.mp H
         obtain ⟨t875, A280, H⟩ := H
         replace H : (laws_FnPathsOfSwitches.j1 kj7 t845 t846 t851 t858 t860 t861 (t854 != t875)) = some r := H
         have A28 := Aside0.mk A280
         clear A280
         have H' := Aside0.mk H
         clear H
         obtain ⟨Ao29, co29, eo29⟩ := Kd.R_slice HO864.out
         subst eo29
         obtain ⟨Ao30, co30, eo30⟩ := Kd.R_slice HO871.out
         subst eo30
         go_wp2_with (first | (go_at_call 59; (with_reducible refine (laws_pSame.calls kj7 _ _ t860 _ _ t867 true _ ?side1 ?side2 ?side3 ?side4 A26.out).mono ?_); (case side1 => repeat (first | exact (Kd.R_reads' HO864.out).2.2 | (with_reducible refine Kd.C_alloc ?_ _) | (with_reducible refine Kd.C_drewN ?_ _) | (with_reducible refine Kd.C_drew ?_))); (case side2 => exact (Kd.R_reads' HO864.out).2.1); (case side3 => repeat (first | exact (Kd.R_reads' HO871.out).2.2 | (with_reducible refine Kd.C_alloc ?_ _) | (with_reducible refine Kd.C_drewN ?_ _) | (with_reducible refine Kd.C_drew ?_))); (case side4 => exact (Kd.R_reads' HO871.out).2.1); rintro e w' ⟨rfl, ⟨nd, rfl⟩⟩; obtain ⟨Ao31, co31, eo31⟩ := Kd.R_slice HO866.out; subst eo31; obtain ⟨Ao32, co32, eo32⟩ := Kd.R_slice HO873.out; subst eo32) | (go_at_call 59; (with_reducible refine (laws_pSame.calls kj7 _ _ t861 _ _ t868 t875 _ ?side1 ?side2 ?side3 ?side4 A28.out).mono ?_); (case side1 => repeat (first | exact (Kd.R_reads' HO866.out).2.2 | (with_reducible refine Kd.C_alloc ?_ _) | (with_reducible refine Kd.C_drewN ?_ _) | (with_reducible refine Kd.C_drew ?_))); (case side2 => exact (Kd.R_reads' HO866.out).2.1); (case side3 => repeat (first | exact (Kd.R_reads' HO873.out).2.2 | (with_reducible refine Kd.C_alloc ?_ _) | (with_reducible refine Kd.C_drewN ?_ _) | (with_reducible refine Kd.C_drew ?_))); (case side4 => exact (Kd.R_reads' HO873.out).2.1); rintro e w' ⟨rfl, ⟨nd, rfl⟩⟩))
         go_meet
         case rel => exact ⟨_, ((t854 != t875)), (by first | rfl | (simp; done) | (simp [*]; done)), H', ⟨by have := HJ7.out; first | omega | exact Nat.le_refl _⟩, ⟨by (with_reducible repeat (first | apply Kd.S_alloc | apply Kd.S_drewN | apply Kd.S_drew)); exact Kd.S_mono HO_5.out (fun _ hk => ⟨hk.1.1.1.1, ⟨hk.1.1.1.2, hk.1.1.2⟩⟩)⟩, ⟨by (with_reducible repeat (first | apply Kd.S_alloc | apply Kd.S_drewN | apply Kd.S_drew)); exact Kd.S_mono HO_6.out (fun _ hk => ⟨hk.1.1.1.1, ⟨hk.1.1.1.2, hk.1.1.2⟩⟩)⟩, ⟨by (with_reducible repeat (first | apply Kd.R_alloc | apply Kd.R_drewN | apply Kd.R_drew)); exact HO_7.out⟩, ⟨by (with_reducible repeat (first | apply Kd.R_alloc | apply Kd.R_drewN | apply Kd.R_drew)); exact Kd.R_mono HO864.out (fun _ hk => hk.1.1)⟩, ⟨by (with_reducible repeat (first | apply Kd.R_alloc | apply Kd.R_drewN | apply Kd.R_drew)); exact Kd.R_mono HO866.out (fun _ hk => hk.1.1)⟩, ⟨by repeat (first | (with_reducible first | exact HB.out | apply below_alloc | apply pw_below_drewN | apply below_drew1) | exact HB.out)⟩⟩
        ·
         replace c27 := Bool.eq_false_iff.mpr c27
         subst c27
         have H1 : (laws_FnPathsOfSwitches.j1 kj7 t845 t846 t851 t858 t860 t861 (t854 != false)) = some r := by rw [if_neg (show ¬ (false = true) by decide)] at H; exact H
         clear H
         have H := H1
         clear H1
         have H' := Aside0.mk H
         clear H
         obtain ⟨Ao33, co33, eo33⟩ := Kd.R_slice HO864.out
         subst eo33
         obtain ⟨Ao34, co34, eo34⟩ := Kd.R_slice HO871.out
         subst eo34
         go_wp2_with (first | (go_at_call 59; (with_reducible refine (laws_pSame.calls kj7 _ _ t860 _ _ t867 false _ ?side1 ?side2 ?side3 ?side4 A26.out).mono ?_); (case side1 => repeat (first | exact (Kd.R_reads' HO864.out).2.2 | (with_reducible refine Kd.C_alloc ?_ _) | (with_reducible refine Kd.C_drewN ?_ _) | (with_reducible refine Kd.C_drew ?_))); (case side2 => exact (Kd.R_reads' HO864.out).2.1); (case side3 => repeat (first | exact (Kd.R_reads' HO871.out).2.2 | (with_reducible refine Kd.C_alloc ?_ _) | (with_reducible refine Kd.C_drewN ?_ _) | (with_reducible refine Kd.C_drew ?_))); (case side4 => exact (Kd.R_reads' HO871.out).2.1); rintro e w' ⟨rfl, ⟨nd, rfl⟩⟩))
         go_meet
         case rel => exact ⟨_, ((t854 != false)), (by first | rfl | (simp; done) | (simp [*]; done)), H', ⟨by have := HJ7.out; first | omega | exact Nat.le_refl _⟩, ⟨by (with_reducible repeat (first | apply Kd.S_alloc | apply Kd.S_drewN | apply Kd.S_drew)); exact Kd.S_mono HO_5.out (fun _ hk => ⟨hk.1.1.1.1, ⟨hk.1.1.1.2, hk.1.1.2⟩⟩)⟩, ⟨by (with_reducible repeat (first | apply Kd.S_alloc | apply Kd.S_drewN | apply Kd.S_drew)); exact Kd.S_mono HO_6.out (fun _ hk => ⟨hk.1.1.1.1, ⟨hk.1.1.1.2, hk.1.1.2⟩⟩)⟩, ⟨by (with_reducible repeat (first | apply Kd.R_alloc | apply Kd.R_drewN | apply Kd.R_drew)); exact HO_7.out⟩, ⟨by (with_reducible repeat (first | apply Kd.R_alloc | apply Kd.R_drewN | apply Kd.R_drew)); exact Kd.R_mono HO864.out (fun _ hk => hk.1.1)⟩, ⟨by (with_reducible repeat (first | apply Kd.R_alloc | apply Kd.R_drewN | apply Kd.R_drew)); exact Kd.R_mono HO866.out (fun _ hk => hk.1.1)⟩, ⟨by repeat (first | (with_reducible first | exact HB.out | apply below_alloc | apply pw_below_drewN | apply below_drew1) | exact HB.out)⟩⟩
       ·
        replace c25 := Bool.eq_false_iff.mpr c25
        subst c25
        have H1 : (laws_FnPathsOfSwitches.j1 kj7 t845 t846 t851 t858 t860 t861 (t854 != false)) = some r := by rw [if_neg (show ¬ (false = true) by decide)] at H; exact H
        clear H
        have H := H1
        clear H1
        have H' := Aside0.mk H
        clear H
        go_wp2
        go_meet
        case rel => exact ⟨_, ((t854 != false)), (by first | rfl | (simp; done) | (simp [*]; done)), H', ⟨by have := HJ7.out; first | omega | exact Nat.le_refl _⟩, ⟨by (with_reducible repeat (first | apply Kd.S_alloc | apply Kd.S_drewN | apply Kd.S_drew)); exact Kd.S_mono HO_5.out (fun _ hk => ⟨hk.1.1.1.1, ⟨hk.1.1.1.2, hk.1.1.2⟩⟩)⟩, ⟨by (with_reducible repeat (first | apply Kd.S_alloc | apply Kd.S_drewN | apply Kd.S_drew)); exact Kd.S_mono HO_6.out (fun _ hk => ⟨hk.1.1.1.1, ⟨hk.1.1.1.2, hk.1.1.2⟩⟩)⟩, ⟨by (with_reducible repeat (first | apply Kd.R_alloc | apply Kd.R_drewN | apply Kd.R_drew)); exact HO_7.out⟩, ⟨by (with_reducible repeat (first | apply Kd.R_alloc | apply Kd.R_drewN | apply Kd.R_drew)); exact Kd.R_mono HO864.out (fun _ hk => hk.1.1)⟩, ⟨by (with_reducible repeat (first | apply Kd.R_alloc | apply Kd.R_drewN | apply Kd.R_drew)); exact Kd.R_mono HO866.out (fun _ hk => hk.1.1)⟩, ⟨by repeat (first | (with_reducible first | exact HB.out | apply below_alloc | apply pw_below_drewN | apply below_drew1) | exact HB.out)⟩⟩
      ·
       replace c24 := Bool.eq_false_iff.mpr c24
       subst c24
       have H1 : (laws_FnPathsOfSwitches.j1 kj7 t845 t846 t851 t858 t860 t861 (t854 != false)) = some r := by rw [if_neg (show ¬ (false = true) by decide)] at H; exact H
       clear H
       have H := H1
       clear H1
       have H' := Aside0.mk H
       clear H
       go_wp2
       go_meet
       case rel => exact ⟨_, ((t854 != false)), (by first | rfl | (simp; done) | (simp [*]; done)), H', ⟨by have := HJ7.out; first | omega | exact Nat.le_refl _⟩, ⟨by (with_reducible repeat (first | apply Kd.S_alloc | apply Kd.S_drewN | apply Kd.S_drew)); exact Kd.S_mono HO_5.out (fun _ hk => ⟨hk.1.1.1.1, ⟨hk.1.1.1.2, hk.1.1.2⟩⟩)⟩, ⟨by (with_reducible repeat (first | apply Kd.S_alloc | apply Kd.S_drewN | apply Kd.S_drew)); exact Kd.S_mono HO_6.out (fun _ hk => ⟨hk.1.1.1.1, ⟨hk.1.1.1.2, hk.1.1.2⟩⟩)⟩, ⟨by (with_reducible repeat (first | apply Kd.R_alloc | apply Kd.R_drewN | apply Kd.R_drew)); exact HO_7.out⟩, ⟨by (with_reducible repeat (first | apply Kd.R_alloc | apply Kd.R_drewN | apply Kd.R_drew)); exact Kd.R_mono HO864.out (fun _ hk => hk.1.1)⟩, ⟨by (with_reducible repeat (first | apply Kd.R_alloc | apply Kd.R_drewN | apply Kd.R_drew)); exact Kd.R_mono HO866.out (fun _ hk => hk.1.1)⟩, ⟨by repeat (first | (with_reducible first | exact HB.out | apply below_alloc | apply pw_below_drewN | apply below_drew1) | exact HB.out)⟩⟩
     case rest =>
      clear HC21
      try clear c1
      try clear c2
      try clear p2
      try clear c3
      try clear c4
      try clear c5
      try clear c6
      try clear c14
      try clear c14b0
      try clear c14b1
      try clear c14b2
      try clear c16
      try clear c18
      try clear c24
      try clear c25
      try clear c27
      try clear c34
      try clear p2
      obtain ⟨kq, x80_20, rfl, HA, HJ20, HO_5, HO_6, HO_7, HO_11, HO_12, HB⟩ := hcut
      cases kq with
      | zero => exact absurd HA.out (by simp [laws_FnPathsOfSwitches.j1])
      | succ kj20 =>
       have H := HA.out
       clear HA
       simp only [laws_FnPathsOfSwitches.j1] at H
       by_cases c35 : x80_20 = true
       ·
        subst c35
        have H1 : (some false) = some r := by rw [if_pos rfl] at H; exact H
        clear H
        have H := H1
        clear H1
        obtain rfl := Option.some.inj H
        go_wp2
        go_ret
        exact ⟨by first | rfl | (simp [errW_none, errW_some] <;> rfl) | (simp [*, errW_none, errW_some] <;> rfl), by repeat (first | (with_reducible first | exact HB.out | apply below_alloc | apply pw_below_drewN | apply below_drew1) | exact HB.out)⟩
       ·
        replace c35 := Bool.eq_false_iff.mpr c35
        subst c35
        have H1 : ((impl_GridsApart.f kj20 t845 t846).bind fun bt876 => (if t858 = true then (if bt876.2 = true then (if ((bt876.1 == 0) != ((t851.length : Int) == 0)) = true then (laws_FnPathsOfSwitches.j2 kj20 t845 t846 t851 true) else (if (wrap64 (4 * (t851.length : Int))) < bt876.1 then (laws_FnPathsOfSwitches.j2 kj20 t845 t846 t851 true) else (laws_FnPathsOfSwitches.j2 kj20 t845 t846 t851 (decide ((wrap64 (2 * (t851.length : Int))) > (wrap64 ((t860.length : Int) * (t861.length : Int)))))))) else (laws_FnPathsOfSwitches.j2 kj20 t845 t846 t851 true)) else (some true))) = some r := by rw [if_neg (show ¬ (false = true) by decide)] at H; exact H
        clear H
        have H := H1
        clear H1
        replace H := Option.bind_eq_some_iff.mp H
        obtain ⟨⟨t876, t877⟩, A360, H⟩ := H
        replace H : (if t858 = true then (if t877 = true then (if ((t876 == 0) != ((t851.length : Int) == 0)) = true then (laws_FnPathsOfSwitches.j2 kj20 t845 t846 t851 true) else (if (wrap64 (4 * (t851.length : Int))) < t876 then (laws_FnPathsOfSwitches.j2 kj20 t845 t846 t851 true) else (laws_FnPathsOfSwitches.j2 kj20 t845 t846 t851 (decide ((wrap64 (2 * (t851.length : Int))) > (wrap64 ((t860.length : Int) * (t861.length : Int)))))))) else (laws_FnPathsOfSwitches.j2 kj20 t845 t846 t851 true)) else (some true)) = some r := H
        have A36 := Aside0.mk A360
        clear A360
        by_cases c37 : t858 = true
        ·
         subst c37
         have H1 : (if t877 = true then (if ((t876 == 0) != ((t851.length : Int) == 0)) = true then (laws_FnPathsOfSwitches.j2 kj20 t845 t846 t851 true) else (if (wrap64 (4 * (t851.length : Int))) < t876 then (laws_FnPathsOfSwitches.j2 kj20 t845 t846 t851 true) else (laws_FnPathsOfSwitches.j2 kj20 t845 t846 t851 (decide ((wrap64 (2 * (t851.length : Int))) > (wrap64 ((t860.length : Int) * (t861.length : Int)))))))) else (laws_FnPathsOfSwitches.j2 kj20 t845 t846 t851 true)) = some r := by rw [if_pos rfl] at H; exact H
         clear H
         have H := H1
         clear H1
         have HC38 := Aside0.mk H
         clear H
         go_upto_region 15 with (first | ((with_reducible refine gate_callee (f := 24) rfl ?_); refine goesL_ (some 84) rfl rfl Try.func24 (by kernel_rfl) rfl #[.slice Ao10 t845.length co10, .slice Ao11 t846.length co11] rfl (by (try simp only [List.map_toArray, List.map_cons, List.map_nil]); first | done | rfl) ?_; (with_reducible refine (impl_GridsApart.calls kj20 _ _ t845 _ _ t846 t876 t877 _ ?side1 ?side2 ?side3 ?side4 A36.out).mono ?_); (case side1 => repeat (first | exact (Kd.S_reads' HO_5.out).2.2 | (with_reducible refine Kd.C_alloc ?_ _) | (with_reducible refine Kd.C_drewN ?_ _) | (with_reducible refine Kd.C_drew ?_))); (case side2 => exact (Kd.S_reads' HO_5.out).2.1); (case side3 => repeat (first | exact (Kd.S_reads' HO_6.out).2.2 | (with_reducible refine Kd.C_alloc ?_ _) | (with_reducible refine Kd.C_drewN ?_ _) | (with_reducible refine Kd.C_drew ?_))); (case side4 => exact (Kd.S_reads' HO_6.out).2.1); rintro e w39 ⟨rfl, hb⟩; refine ⟨_, rfl, ?_⟩; have n0_ := Aside0.mk (Kd.S_below (by (with_reducible repeat (first | apply Kd.S_alloc | apply Kd.S_drewN | apply Kd.S_drew)); exact HO_5.out) hb); have n1_ := Aside0.mk (Kd.S_below (by (with_reducible repeat (first | apply Kd.S_alloc | apply Kd.S_drewN | apply Kd.S_drew)); exact HO_6.out) hb); have n2_ := Aside0.mk (Kd.R_below (by (with_reducible repeat (first | apply Kd.R_alloc | apply Kd.R_drewN | apply Kd.R_drew)); exact HO_7.out) hb); have n3_ := Aside0.mk (Kd.R_below (by (with_reducible repeat (first | apply Kd.R_alloc | apply Kd.R_drewN | apply Kd.R_drew)); exact HO_11.out) hb); have n4_ := Aside0.mk (Kd.R_below (by (with_reducible repeat (first | apply Kd.R_alloc | apply Kd.R_drewN | apply Kd.R_drew)); exact HO_12.out) hb); have n5_ := Aside0.mk (below_step (by repeat (first | (with_reducible first | exact HB.out | apply below_alloc | apply pw_below_drewN | apply below_drew1))) hb); clear HO_5; clear HO_6; clear HO_7; clear HO_11; clear HO_12; clear HB; have HO_5 := n0_; have HO_6 := n1_; have HO_7 := n2_; have HO_11 := n3_; have HO_12 := n4_; have HB := n5_; clear n0_ n1_ n2_ n3_ n4_ n5_; (try clear hb); (try clear hb2); (try clear hk); (try clear hi)))
         (try simp only [Act.put, List.setIfInBounds_toArray, List.set_cons_zero, List.set_cons_succ])
         go_cut [116] (fun v116 wc => ∃ (kq : Nat) (x116_37 : Bool), v116 = .bool x116_37 ∧ Aside0 (laws_FnPathsOfSwitches.j2 kq t845 t846 t851 x116_37 = some r) ∧ Aside0 (kq ≤ kj20) ∧ Aside0 (Kd.S (Kd.slice 3 (Kd.int .i64)) 33 wc w.heap.size (fun k_ => some k_ ≠ ((.slice Ao11 t846.length co11) : Value).ownBlock) (.slice Ao10 t845.length co10) t845) ∧ Aside0 (Kd.S (Kd.slice 3 (Kd.int .i64)) 33 wc w.heap.size (fun k_ => some k_ ≠ ((.slice Ao10 t845.length co10) : Value).ownBlock) (.slice Ao11 t846.length co11) t846) ∧ Aside0 (Kd.R k41 41 wc w.heap.size (fun _ => True) v852 t851) ∧ Aside0 (Below w.heap.size w wc))
         case first =>
          have H := HC38.out
          clear HC38
          by_cases c40 : t877 = true
          ·
           subst c40
           have H1 : (if ((t876 == 0) != ((t851.length : Int) == 0)) = true then (laws_FnPathsOfSwitches.j2 kj20 t845 t846 t851 true) else (if (wrap64 (4 * (t851.length : Int))) < t876 then (laws_FnPathsOfSwitches.j2 kj20 t845 t846 t851 true) else (laws_FnPathsOfSwitches.j2 kj20 t845 t846 t851 (decide ((wrap64 (2 * (t851.length : Int))) > (wrap64 ((t860.length : Int) * (t861.length : Int)))))))) = some r := by rw [if_pos rfl] at H; exact H
           clear H
           have H := H1
           clear H1
           by_cases c41 : ((t876 == 0) != ((t851.length : Int) == 0)) = true
           ·
            rw [if_pos c41] at H
            have c41b0 : ((t876 == 0) != ((t851.length : Int) == 0)) = true := c41
            (try (have c41b1 : decide ((t876 == 0) = ((t851.length : Int) == 0)) = false := by simpa using c41))
            (try (have c41b2 : ((t876 == 0) == ((t851.length : Int) == 0)) = false := by simpa using c41))
            (try (have c41b3 : ¬ ((t876 == 0) = ((t851.length : Int) == 0)) := by simpa using c41))
            clear c41
            (first | rw [c41b0] | (simp only [i64_w, i32_w]; rw [c41b0]) | skip)
            have H' := Aside0.mk H
            clear H
            obtain ⟨Ao42, co42, eo42⟩ := Kd.R_slice HO_7.out
            subst eo42
            go_wp2
            go_meet
            case rel => exact ⟨_, (true), (by first | rfl | (simp; done) | (simp [*]; done)), H', ⟨by have := HJ7.out; have := HJ20.out; first | omega | exact Nat.le_refl _⟩, ⟨by (with_reducible repeat (first | apply Kd.S_alloc | apply Kd.S_drewN | apply Kd.S_drew)); exact Kd.S_mono HO_5.out (fun _ hk => hk.1)⟩, ⟨by (with_reducible repeat (first | apply Kd.S_alloc | apply Kd.S_drewN | apply Kd.S_drew)); exact Kd.S_mono HO_6.out (fun _ hk => hk.1)⟩, ⟨by (with_reducible repeat (first | apply Kd.R_alloc | apply Kd.R_drewN | apply Kd.R_drew)); exact HO_7.out⟩, ⟨by repeat (first | (with_reducible first | exact HB.out | apply below_alloc | apply pw_below_drewN | apply below_drew1) | exact HB.out)⟩⟩
           ·
            rw [if_neg c41] at H
            have c41b0 : ((t876 == 0) != ((t851.length : Int) == 0)) = false := by simpa using c41
            (try (have c41b1 : decide ((t876 == 0) = ((t851.length : Int) == 0)) = true := by simpa using c41))
            (try (have c41b2 : ((t876 == 0) == ((t851.length : Int) == 0)) = true := by simpa using c41))
            clear c41
            (first | rw [c41b0] | (simp only [i64_w, i32_w]; rw [c41b0]) | skip)
            by_cases c43 : (wrap64 (4 * (t851.length : Int))) < t876
            ·
             rw [if_pos c43] at H
             have c43b0 : decide ((wrap64 (4 * (t851.length : Int))) < t876) = true := decide_eq_true c43
             clear c43
             have H' := Aside0.mk H
             clear H
             obtain ⟨Ao44, co44, eo44⟩ := Kd.R_slice HO_7.out
             subst eo44
             go_wp2
             go_meet
             case rel => exact ⟨_, (true), (by first | rfl | (simp; done) | (simp [*]; done)), H', ⟨by have := HJ7.out; have := HJ20.out; first | omega | exact Nat.le_refl _⟩, ⟨by (with_reducible repeat (first | apply Kd.S_alloc | apply Kd.S_drewN | apply Kd.S_drew)); exact Kd.S_mono HO_5.out (fun _ hk => hk.1)⟩, ⟨by (with_reducible repeat (first | apply Kd.S_alloc | apply Kd.S_drewN | apply Kd.S_drew)); exact Kd.S_mono HO_6.out (fun _ hk => hk.1)⟩, ⟨by (with_reducible repeat (first | apply Kd.R_alloc | apply Kd.R_drewN | apply Kd.R_drew)); exact HO_7.out⟩, ⟨by repeat (first | (with_reducible first | exact HB.out | apply below_alloc | apply pw_below_drewN | apply below_drew1) | exact HB.out)⟩⟩
            ·
             rw [if_neg c43] at H
             have c43b0 : decide ((wrap64 (4 * (t851.length : Int))) < t876) = false := decide_eq_false c43
             clear c43
             have H' := Aside0.mk H
             clear H
             obtain ⟨Ao45, co45, eo45⟩ := Kd.R_slice HO_7.out
             subst eo45
             obtain ⟨Ao46, co46, eo46⟩ := Kd.R_slice HO_11.out
             subst eo46
             obtain ⟨Ao47, co47, eo47⟩ := Kd.R_slice HO_12.out
             subst eo47
             go_wp2
             go_meet
             case rel => exact ⟨_, (decide ((wrap64 (2 * (t851.length : Int))) > (wrap64 ((t860.length : Int) * (t861.length : Int))))), (by first | rfl | (simp; done) | (simp [*]; done)), H', ⟨by have := HJ7.out; have := HJ20.out; first | omega | exact Nat.le_refl _⟩, ⟨by (with_reducible repeat (first | apply Kd.S_alloc | apply Kd.S_drewN | apply Kd.S_drew)); exact Kd.S_mono HO_5.out (fun _ hk => hk.1)⟩, ⟨by (with_reducible repeat (first | apply Kd.S_alloc | apply Kd.S_drewN | apply Kd.S_drew)); exact Kd.S_mono HO_6.out (fun _ hk => hk.1)⟩, ⟨by (with_reducible repeat (first | apply Kd.R_alloc | apply Kd.R_drewN | apply Kd.R_drew)); exact HO_7.out⟩, ⟨by repeat (first | (with_reducible first | exact HB.out | apply below_alloc | apply pw_below_drewN | apply below_drew1) | exact HB.out)⟩⟩
          ·
           replace c40 := Bool.eq_false_iff.mpr c40
           subst c40
           have H1 : (laws_FnPathsOfSwitches.j2 kj20 t845 t846 t851 true) = some r := by rw [if_neg (show ¬ (false = true) by decide)] at H; exact H
           clear H
           have H := H1
           clear H1
           have H' := Aside0.mk H
           clear H
           go_wp2
           go_meet
           case rel => exact ⟨_, (true), (by first | rfl | (simp; done) | (simp [*]; done)), H', ⟨by have := HJ7.out; have := HJ20.out; first | omega | exact Nat.le_refl _⟩, ⟨by (with_reducible repeat (first | apply Kd.S_alloc | apply Kd.S_drewN | apply Kd.S_drew)); exact Kd.S_mono HO_5.out (fun _ hk => hk.1)⟩, ⟨by (with_reducible repeat (first | apply Kd.S_alloc | apply Kd.S_drewN | apply Kd.S_drew)); exact Kd.S_mono HO_6.out (fun _ hk => hk.1)⟩, ⟨by (with_reducible repeat (first | apply Kd.R_alloc | apply Kd.R_drewN | apply Kd.R_drew)); exact HO_7.out⟩, ⟨by repeat (first | (with_reducible first | exact HB.out | apply below_alloc | apply pw_below_drewN | apply below_drew1) | exact HB.out)⟩⟩
         case rest =>
          clear HC38
          try clear c1
          try clear c2
          try clear p2
          try clear c3
          try clear c4
          try clear c5
          try clear c6
          try clear p6
          try clear c14
          try clear c14b0
          try clear c14b1
          try clear c14b2
          try clear c16
          try clear c18
          try clear c24
          try clear c25
          try clear c27
          try clear c34
          try clear c35
          try clear c37
          try clear c40
          try clear c41
          try clear c41b0
          try clear c41b1
          try clear c41b2
          try clear c43
          try clear c43b0
          try clear c46
          try clear c47
          try clear p2
          obtain ⟨kq, x116_37, rfl, HA, HJ37, HO_5, HO_6, HO_7, HB⟩ := hcut
          cases kq with
          | zero => exact absurd HA.out (by simp [laws_FnPathsOfSwitches.j2])
          | succ kj37 =>
           have H := HA.out
           clear HA
           simp only [laws_FnPathsOfSwitches.j2] at H
           by_cases c48 : x116_37 = true
           ·
            subst c48
            have H1 : (some false) = some r := by rw [if_pos rfl] at H; exact H
            clear H
            have H := H1
            clear H1
            obtain rfl := Option.some.inj H
            go_wp2
            go_ret
            exact ⟨by first | rfl | (simp [errW_none, errW_some] <;> rfl) | (simp [*, errW_none, errW_some] <;> rfl), by repeat (first | (with_reducible first | exact HB.out | apply below_alloc | apply pw_below_drewN | apply below_drew1) | exact HB.out)⟩
           ·
            replace c48 := Bool.eq_false_iff.mpr c48
            subst c48
            have H1 : (laws_FnPathsOfSwitches.l0 kj37 t846 t845 t851 (t851.length : Int) 0) = some r := by rw [if_neg (show ¬ (false = true) by decide)] at H; exact H
            clear H
            have H := H1
            clear H1
            have H' := Aside0.mk H
            clear H
            obtain ⟨Ao49, co49, eo49⟩ := Kd.R_slice HO_7.out
            subst eo49
            go_wp2
            go_loopg [19, 120] kj37 (fun kq v19 v120 w' => ∃ (x19_4 : List (List Int)) (x120_4 : Int), v120 = .int .i64 x120_4 ∧ Aside0 (laws_FnPathsOfSwitches.l0 kq t846 x19_4 t851 (t851.length : Int) x120_4 = some r) ∧ Aside0 (kq ≤ kj37) ∧ Aside0 (Kd.S (Kd.slice 3 (Kd.int .i64)) 33 w' w.heap.size (fun k_ => some k_ ≠ (v19 : Value).ownBlock) (.slice Ao11 t846.length co11) t846) ∧ Aside0 (Kd.S (Kd.slice 3 (Kd.int .i64)) 33 w' w.heap.size (fun k_ => some k_ ≠ ((.slice Ao11 t846.length co11) : Value).ownBlock) v19 x19_4) ∧ Aside0 (Kd.R k41 41 w' w.heap.size (fun _ => True) (.slice Ao49 t851.length co49) t851) ∧ Aside0 (Below w.heap.size w w'))
            case atStart => exact ⟨(t845), (0), (by first | rfl | (simp; done) | (simp [*]; done)), H', ⟨Nat.le_refl _⟩, ⟨by (with_reducible repeat (first | apply Kd.S_alloc | apply Kd.S_drewN | apply Kd.S_drew)); exact HO_6.out⟩, ⟨by (with_reducible repeat (first | apply Kd.S_alloc | apply Kd.S_drewN | apply Kd.S_drew)); exact HO_5.out⟩, ⟨by (with_reducible repeat (first | apply Kd.R_alloc | apply Kd.R_drewN | apply Kd.R_drew)); exact HO_7.out⟩, ⟨by repeat (first | (with_reducible first | exact HB.out | apply below_alloc | apply pw_below_drewN | apply below_drew1) | exact HB.out)⟩⟩
            case round =>
             clear H'
             try clear c1
             try clear c2
             try clear p2
             try clear c3
             try clear c4
             try clear c5
             try clear c6
             try clear p6
             try clear c14
             try clear c14b0
             try clear c14b1
             try clear c14b2
             try clear c16
             try clear c18
             try clear c24
             try clear c25
             try clear c27
             try clear c34
             try clear c35
             try clear c37
             try clear c40
             try clear c41
             try clear c41b0
             try clear c41b1
             try clear c41b2
             try clear c43
             try clear c43b0
             try clear c46
             try clear c47
             try clear c48
             try clear p2
             try clear p6
             obtain ⟨x19_4, x120_4, rfl, HA, HK4, HO_6, HO_19, HO_118, HB⟩ := hrel
             cases gk with
             | zero => exact absurd HA.out (by simp [laws_FnPathsOfSwitches.l0])
             | succ k4 =>
              have H := HA.out
              clear HA
              simp only [laws_FnPathsOfSwitches.l0] at H
              by_cases c50 : x120_4 < (t851.length : Int)
              ·
               rw [if_pos c50] at H
               have c50b0 : decide (x120_4 < (t851.length : Int)) = true := decide_eq_true c50
               clear c50
               by_cases c51 : 0 ≤ x120_4
               ·
                rw [if_pos c51] at H
                have c51b0 : decide (0 ≤ x120_4) = true := decide_eq_true c51
                clear c51
                by_cases c52 : x120_4 < (t851.length : Int)
                ·
                 rw [if_pos c52] at H
                 have c52b0 : decide (x120_4 < (t851.length : Int)) = true := decide_eq_true c52
                 clear c52
                 replace H := Option.bind_eq_some_iff.mp H
                 obtain ⟨⟨t880, t883⟩, A530, H⟩ := H
                 replace H : (if t883 = true then (laws_FnPathsOfSwitches.l0 k4 t846 t880 t851 (t851.length : Int) (wrap64 (x120_4 + 1))) else (some false)) = some r := H
                 have A53 := Aside0.mk A530
                 clear A530
                 by_cases c54 : t883 = true
                 ·
                  subst c54
                  have H1 : (laws_FnPathsOfSwitches.l0 k4 t846 t880 t851 (t851.length : Int) (wrap64 (x120_4 + 1))) = some r := by rw [if_pos rfl] at H; exact H
                  clear H
                  have H := H1
                  clear H1
                  have H' := Aside0.mk H
                  clear H
                  have p878 : 0 ≤ (x120_4 : Int) := of_decide_eq_true (by first | (with_reducible assumption) | assumption)
                  have q878 : x120_4 < (t851.length : Int) := of_decide_eq_true (by first | (with_reducible assumption) | assumption)
                  obtain ⟨ad878, e878, hx878_0, hx878_1, hx878_2, hx878_3⟩ := at_T41 (Kd.R_reads' HO_118.out).2.2 x120_4 p878 q878
                  cases e878
                  replace p878 := eq_true p878
                  replace q878 := eq_true q878
                  go_wp2_with (first | ((with_reducible refine gate_dst (N := 21) rfl ?_); (try (refine gate_guard (by rfl) ?_; dsimp only)); refine box_event ?hg (N := 21) ?hd (cs := #[.int .i64 0, .int .i64 0, .int .i64 0, .int .i64 0]) (t := 41) ?hr ?_; (case hd => rfl); (case hg => rfl); (case hr => first | (go_simp; done) | (go_simp; rfl)); intro gb879 hg w55 hbox hb; have n0_ := Aside0.mk (Kd.S_below (by (with_reducible repeat (first | apply Kd.S_alloc | apply Kd.S_drewN | apply Kd.S_drew)); exact HO_6.out) hb); have n1_ := Aside0.mk (Kd.S_below (by (with_reducible repeat (first | apply Kd.S_alloc | apply Kd.S_drewN | apply Kd.S_drew)); exact HO_19.out) hb); have n2_ := Aside0.mk (Kd.R_below (Kd.R_elderB (by (with_reducible repeat (first | apply Kd.R_alloc | apply Kd.R_drewN | apply Kd.R_drew)); exact HO_118.out) gb879 (Nat.le_of_eq hg.symm)) hb); have n3_ := Aside0.mk (below_step (by repeat (first | (with_reducible first | exact HB.out | apply below_alloc | apply pw_below_drewN | apply below_drew1))) hb); have n4_ := Aside0.mk (hbox); have n5_ := Aside0.mk ((by rw [hg]; exact (below_size (by repeat (first | (with_reducible first | exact HB.out | apply below_alloc | apply pw_below_drewN | apply below_drew1)))) : w.heap.size ≤ gb879)); have n6_ := Aside0.mk ((by rw [hg]; exact (below_size (by repeat (first | (with_reducible first | exact HB.out | apply below_alloc | apply pw_below_drewN | apply below_drew1)))) : w.heap.size ≤ gb879)); clear HO_6; clear HO_19; clear HO_118; clear HB; have HO_6 := n0_; have HO_19 := n1_; have HO_118 := n2_; have HB := n3_; have BK879 := n4_; have GW879 := n5_; have GE879 := n6_; clear n0_ n1_ n2_ n3_ n4_ n5_ n6_; clear hb hbox hg; have hcz56_0 : w55.cell? ⟨gb879, 0, none⟩ = some (.int .i64 0) := (blk_cell BK879.out 0).trans rfl; have hcz56_1 : w55.cell? ⟨gb879, 1, none⟩ = some (.int .i64 0) := (blk_cell BK879.out 1).trans rfl; have hcz56_2 : w55.cell? ⟨gb879, 2, none⟩ = some (.int .i64 0) := (blk_cell BK879.out 2).trans rfl; have hcz56_3 : w55.cell? ⟨gb879, 3, none⟩ = some (.int .i64 0) := (blk_cell BK879.out 3).trans rfl; have hfz56_0 := blk_frozen BK879.out 0; have hfz56_1 := blk_frozen BK879.out 1; have hfz56_2 := blk_frozen BK879.out 2; have hfz56_3 := blk_frozen BK879.out 3; obtain ⟨Ao57, co57, eo57⟩ := Kd.S_slice HO_19.out; subst eo57) | ((with_reducible refine gate_callee (f := 40) rfl ?_); refine goesL_ (some 127) rfl rfl Try.func40 (by kernel_rfl) rfl #[.slice Ao57 x19_4.length co57, .agg #[.int .i64 ((rd_T41 t851 x120_4).f0), .int .i64 ((rd_T41 t851 x120_4).f1), .int .i64 ((rd_T41 t851 x120_4).f2), .int .i64 ((rd_T41 t851 x120_4).f3)]] rfl (by (try simp only [List.map_toArray, List.map_cons, List.map_nil]); first | done | rfl) ?_; (with_reducible refine (impl_DoSwitch.calls _ _ x19_4 ((rd_T41 t851 x120_4).f0) ((rd_T41 t851 x120_4).f1) ((rd_T41 t851 x120_4).f2) ((rd_T41 t851 x120_4).f3) t880 true _ ?side1 ?side2 A53.out).mono ?_); (case side1 => refine (Kd.S_reads' (e := 33) (base := w.heap.size) (ok := fun k_ => some k_ ≠ (.slice Ao11 t846.length co11 : Value).ownBlock) (n := x19_4.length) (c := co57) ?_).2.2; exact (by (with_reducible repeat (first | apply Kd.S_alloc | apply Kd.S_drewN | apply Kd.S_drew)); exact (Kd.S_mono (Kd.S_far (p := ⟨gb879, 3, none⟩) (Kd.S_far (p := ⟨gb879, 2, none⟩) (Kd.S_far (p := ⟨gb879, 1, none⟩) (Kd.S_far (p := ⟨gb879, 0, none⟩) (Kd.S_types HO_19.out BK879.out (by decide)) (fun _ hk => hk.2) (.int .i64 ((rd_T41 t851 x120_4).f0))) (fun _ hk => hk.2) (.int .i64 ((rd_T41 t851 x120_4).f1))) (fun _ hk => hk.2) (.int .i64 ((rd_T41 t851 x120_4).f2))) (fun _ hk => hk.2) (.int .i64 ((rd_T41 t851 x120_4).f3))) (fun _ h_ => h_.1)))); (case side2 => exact (Kd.S_reads' HO_19.out).2.1); rintro e w58 ⟨v881, rfl, ho0, hb⟩; refine ⟨_, rfl, ?_⟩; have n0_ := Aside0.mk (Kd.S_elder' (by (with_reducible repeat (first | apply Kd.S_alloc | apply Kd.S_drewN | apply Kd.S_drew)); exact (Kd.S_mono (Kd.S_far (p := ⟨gb879, 3, none⟩) (Kd.S_far (p := ⟨gb879, 2, none⟩) (Kd.S_far (p := ⟨gb879, 1, none⟩) (Kd.S_far (p := ⟨gb879, 0, none⟩) (Kd.S_types HO_6.out BK879.out (by decide)) (fun _ hk => hk.2) (.int .i64 ((rd_T41 t851 x120_4).f0))) (fun _ hk => hk.2) (.int .i64 ((rd_T41 t851 x120_4).f1))) (fun _ hk => hk.2) (.int .i64 ((rd_T41 t851 x120_4).f2))) (fun _ hk => hk.2) (.int .i64 ((rd_T41 t851 x120_4).f3))) (fun _ h_ => h_.1))) (Kd.S_base ho0) hb); have n1_ := Aside0.mk (Kd.S_elder' (by (with_reducible repeat (first | apply Kd.S_alloc | apply Kd.S_drewN | apply Kd.S_drew)); exact (Kd.S_mono (Kd.S_far (p := ⟨gb879, 3, none⟩) (Kd.S_far (p := ⟨gb879, 2, none⟩) (Kd.S_far (p := ⟨gb879, 1, none⟩) (Kd.S_far (p := ⟨gb879, 0, none⟩) (Kd.S_types HO_19.out BK879.out (by decide)) (fun _ hk => hk.2) (.int .i64 ((rd_T41 t851 x120_4).f0))) (fun _ hk => hk.2) (.int .i64 ((rd_T41 t851 x120_4).f1))) (fun _ hk => hk.2) (.int .i64 ((rd_T41 t851 x120_4).f2))) (fun _ hk => hk.2) (.int .i64 ((rd_T41 t851 x120_4).f3))) (fun _ h_ => h_.1))) (Kd.S_base ho0) hb); have n2_ := Aside0.mk (Kd.R_below (by (with_reducible repeat (first | apply Kd.R_alloc | apply Kd.R_drewN | apply Kd.R_drew)); exact (Kd.R_mono (Kd.R_far (p := ⟨gb879, 3, none⟩) (Kd.R_far (p := ⟨gb879, 2, none⟩) (Kd.R_far (p := ⟨gb879, 1, none⟩) (Kd.R_far (p := ⟨gb879, 0, none⟩) (Kd.R_mono HO_118.out (fun k_ hk => (⟨hk, hk.2⟩ : _ ∧ k_ ≠ gb879))) (fun _ hk => hk.2) (.int .i64 ((rd_T41 t851 x120_4).f0))) (fun _ hk => hk.2) (.int .i64 ((rd_T41 t851 x120_4).f1))) (fun _ hk => hk.2) (.int .i64 ((rd_T41 t851 x120_4).f2))) (fun _ hk => hk.2) (.int .i64 ((rd_T41 t851 x120_4).f3))) (fun _ h_ => h_.1))) hb); have n3_ := Aside0.mk (Kd.S_lower (Kd.S_new' (Kd.S_new' ho0 (Kd.S_lt (by (with_reducible repeat (first | apply Kd.S_alloc | apply Kd.S_drewN | apply Kd.S_drew)); exact (Kd.S_mono (Kd.S_far (p := ⟨gb879, 3, none⟩) (Kd.S_far (p := ⟨gb879, 2, none⟩) (Kd.S_far (p := ⟨gb879, 1, none⟩) (Kd.S_far (p := ⟨gb879, 0, none⟩) (Kd.S_types HO_6.out BK879.out (by decide)) (fun _ hk => hk.2) (.int .i64 ((rd_T41 t851 x120_4).f0))) (fun _ hk => hk.2) (.int .i64 ((rd_T41 t851 x120_4).f1))) (fun _ hk => hk.2) (.int .i64 ((rd_T41 t851 x120_4).f2))) (fun _ hk => hk.2) (.int .i64 ((rd_T41 t851 x120_4).f3))) (fun _ h_ => h_.1))))) (Kd.S_lt (by (with_reducible repeat (first | apply Kd.S_alloc | apply Kd.S_drewN | apply Kd.S_drew)); exact (Kd.S_mono (Kd.S_far (p := ⟨gb879, 3, none⟩) (Kd.S_far (p := ⟨gb879, 2, none⟩) (Kd.S_far (p := ⟨gb879, 1, none⟩) (Kd.S_far (p := ⟨gb879, 0, none⟩) (Kd.S_types HO_19.out BK879.out (by decide)) (fun _ hk => hk.2) (.int .i64 ((rd_T41 t851 x120_4).f0))) (fun _ hk => hk.2) (.int .i64 ((rd_T41 t851 x120_4).f1))) (fun _ hk => hk.2) (.int .i64 ((rd_T41 t851 x120_4).f2))) (fun _ hk => hk.2) (.int .i64 ((rd_T41 t851 x120_4).f3))) (fun _ h_ => h_.1))))) (below_size (by repeat (first | (with_reducible first | exact HB.out | apply below_alloc | apply pw_below_drewN | apply below_drew1 | refine below_set ?_ GE879.out) | exact HB.out)))); have n4_ := Aside0.mk (blk_below (g := gb879) (o := .cells #[.int .i64 ((rd_T41 t851 x120_4).f0), .int .i64 ((rd_T41 t851 x120_4).f1), .int .i64 ((rd_T41 t851 x120_4).f2), .int .i64 ((rd_T41 t851 x120_4).f3)] 41 (0, 0)) (by (with_reducible repeat (first | refine blk_drewN ?_ _ | refine blk_drew ?_ | refine blk_alloc ?_ _)); refine blk_put (cs := #[.int .i64 ((rd_T41 t851 x120_4).f0), .int .i64 ((rd_T41 t851 x120_4).f1), .int .i64 ((rd_T41 t851 x120_4).f2), .int .i64 0]) ?_ 3 _ rfl; (with_reducible repeat (first | refine blk_drewN ?_ _ | refine blk_drew ?_ | refine blk_alloc ?_ _)); refine blk_put (cs := #[.int .i64 ((rd_T41 t851 x120_4).f0), .int .i64 ((rd_T41 t851 x120_4).f1), .int .i64 0, .int .i64 0]) ?_ 2 _ rfl; (with_reducible repeat (first | refine blk_drewN ?_ _ | refine blk_drew ?_ | refine blk_alloc ?_ _)); refine blk_put (cs := #[.int .i64 ((rd_T41 t851 x120_4).f0), .int .i64 0, .int .i64 0, .int .i64 0]) ?_ 1 _ rfl; (with_reducible repeat (first | refine blk_drewN ?_ _ | refine blk_drew ?_ | refine blk_alloc ?_ _)); refine blk_put (cs := #[.int .i64 0, .int .i64 0, .int .i64 0, .int .i64 0]) ?_ 0 _ rfl; (with_reducible repeat (first | refine blk_drewN ?_ _ | refine blk_drew ?_ | refine blk_alloc ?_ _)); exact BK879.out) hb); have n5_ := Aside0.mk (below_step (by repeat (first | (with_reducible first | exact HB.out | apply below_alloc | apply pw_below_drewN | apply below_drew1 | refine below_set ?_ GE879.out) | exact HB.out)) hb); clear HO_6; clear HO_19; clear HO_118; clear BK879; clear HB; have HO_6 := n0_; have HO_19 := n1_; have HO_118 := n2_; have HO882 := n3_; have BK879 := n4_; have HB := n5_; clear n0_ n1_ n2_ n3_ n4_ n5_; (try clear hb); (try clear hb2); (try clear hk); (try clear hi); (try clear ho0)))
                  go_roundg k4
                  case measure => have := HJ7.out; have := HJ20.out; have := HJ37.out; have := HK4.out; omega
                  case rel => exact ⟨(t880), (wrap64 (x120_4 + 1)), (by first | rfl | (simp; done) | (simp [*]; done)), H', ⟨by have := HJ7.out; have := HJ20.out; have := HJ37.out; have := HK4.out; omega⟩, ⟨by (with_reducible repeat (first | apply Kd.S_alloc | apply Kd.S_drewN | apply Kd.S_drew)); exact Kd.S_mono HO_6.out (fun _ hk => hk.2)⟩, ⟨by (with_reducible repeat (first | apply Kd.S_alloc | apply Kd.S_drewN | apply Kd.S_drew)); exact Kd.S_mono HO882.out (fun _ hk => hk.1.2)⟩, ⟨by (with_reducible repeat (first | apply Kd.R_alloc | apply Kd.R_drewN | apply Kd.R_drew)); exact Kd.R_mono HO_118.out (fun _ hk => trivial)⟩, ⟨by repeat (first | (with_reducible first | exact HB.out | apply below_alloc | apply pw_below_drewN | apply below_drew1 | refine below_set ?_ GE879.out) | exact HB.out)⟩⟩
                 ·
                  replace c54 := Bool.eq_false_iff.mpr c54
                  subst c54
                  have H1 : (some false) = some r := by rw [if_neg (show ¬ (false = true) by decide)] at H; exact H
                  clear H
                  have H := H1
                  clear H1
                  obtain rfl := Option.some.inj H
                  have p878 : 0 ≤ (x120_4 : Int) := of_decide_eq_true (by first | (with_reducible assumption) | assumption)
                  have q878 : x120_4 < (t851.length : Int) := of_decide_eq_true (by first | (with_reducible assumption) | assumption)
                  obtain ⟨ad878, e878, hx878_0, hx878_1, hx878_2, hx878_3⟩ := at_T41 (Kd.R_reads' HO_118.out).2.2 x120_4 p878 q878
                  cases e878
                  replace p878 := eq_true p878
                  replace q878 := eq_true q878
                  go_wp2_with (first | ((with_reducible refine gate_dst (N := 21) rfl ?_); (try (refine gate_guard (by rfl) ?_; dsimp only)); refine box_event ?hg (N := 21) ?hd (cs := #[.int .i64 0, .int .i64 0, .int .i64 0, .int .i64 0]) (t := 41) ?hr ?_; (case hd => rfl); (case hg => rfl); (case hr => first | (go_simp; done) | (go_simp; rfl)); intro gb879 hg w59 hbox hb; have n0_ := Aside0.mk (Kd.S_below (by (with_reducible repeat (first | apply Kd.S_alloc | apply Kd.S_drewN | apply Kd.S_drew)); exact HO_6.out) hb); have n1_ := Aside0.mk (Kd.S_below (by (with_reducible repeat (first | apply Kd.S_alloc | apply Kd.S_drewN | apply Kd.S_drew)); exact HO_19.out) hb); have n2_ := Aside0.mk (Kd.R_below (Kd.R_elderB (by (with_reducible repeat (first | apply Kd.R_alloc | apply Kd.R_drewN | apply Kd.R_drew)); exact HO_118.out) gb879 (Nat.le_of_eq hg.symm)) hb); have n3_ := Aside0.mk (below_step (by repeat (first | (with_reducible first | exact HB.out | apply below_alloc | apply pw_below_drewN | apply below_drew1))) hb); have n4_ := Aside0.mk (hbox); have n5_ := Aside0.mk ((by rw [hg]; exact (below_size (by repeat (first | (with_reducible first | exact HB.out | apply below_alloc | apply pw_below_drewN | apply below_drew1)))) : w.heap.size ≤ gb879)); have n6_ := Aside0.mk ((by rw [hg]; exact (below_size (by repeat (first | (with_reducible first | exact HB.out | apply below_alloc | apply pw_below_drewN | apply below_drew1)))) : w.heap.size ≤ gb879)); clear HO_6; clear HO_19; clear HO_118; clear HB; have HO_6 := n0_; have HO_19 := n1_; have HO_118 := n2_; have HB := n3_; have BK879 := n4_; have GW879 := n5_; have GE879 := n6_; clear n0_ n1_ n2_ n3_ n4_ n5_ n6_; clear hb hbox hg; have hcz60_0 : w59.cell? ⟨gb879, 0, none⟩ = some (.int .i64 0) := (blk_cell BK879.out 0).trans rfl; have hcz60_1 : w59.cell? ⟨gb879, 1, none⟩ = some (.int .i64 0) := (blk_cell BK879.out 1).trans rfl; have hcz60_2 : w59.cell? ⟨gb879, 2, none⟩ = some (.int .i64 0) := (blk_cell BK879.out 2).trans rfl; have hcz60_3 : w59.cell? ⟨gb879, 3, none⟩ = some (.int .i64 0) := (blk_cell BK879.out 3).trans rfl; have hfz60_0 := blk_frozen BK879.out 0; have hfz60_1 := blk_frozen BK879.out 1; have hfz60_2 := blk_frozen BK879.out 2; have hfz60_3 := blk_frozen BK879.out 3; obtain ⟨Ao61, co61, eo61⟩ := Kd.S_slice HO_19.out; subst eo61) | ((with_reducible refine gate_callee (f := 40) rfl ?_); refine goesL_ (some 127) rfl rfl Try.func40 (by kernel_rfl) rfl #[.slice Ao61 x19_4.length co61, .agg #[.int .i64 ((rd_T41 t851 x120_4).f0), .int .i64 ((rd_T41 t851 x120_4).f1), .int .i64 ((rd_T41 t851 x120_4).f2), .int .i64 ((rd_T41 t851 x120_4).f3)]] rfl (by (try simp only [List.map_toArray, List.map_cons, List.map_nil]); first | done | rfl) ?_; (with_reducible refine (impl_DoSwitch.calls _ _ x19_4 ((rd_T41 t851 x120_4).f0) ((rd_T41 t851 x120_4).f1) ((rd_T41 t851 x120_4).f2) ((rd_T41 t851 x120_4).f3) t880 false _ ?side1 ?side2 A53.out).mono ?_); (case side1 => refine (Kd.S_reads' (e := 33) (base := w.heap.size) (ok := fun k_ => some k_ ≠ (.slice Ao11 t846.length co11 : Value).ownBlock) (n := x19_4.length) (c := co61) ?_).2.2; exact (by (with_reducible repeat (first | apply Kd.S_alloc | apply Kd.S_drewN | apply Kd.S_drew)); exact (Kd.S_mono (Kd.S_far (p := ⟨gb879, 3, none⟩) (Kd.S_far (p := ⟨gb879, 2, none⟩) (Kd.S_far (p := ⟨gb879, 1, none⟩) (Kd.S_far (p := ⟨gb879, 0, none⟩) (Kd.S_types HO_19.out BK879.out (by decide)) (fun _ hk => hk.2) (.int .i64 ((rd_T41 t851 x120_4).f0))) (fun _ hk => hk.2) (.int .i64 ((rd_T41 t851 x120_4).f1))) (fun _ hk => hk.2) (.int .i64 ((rd_T41 t851 x120_4).f2))) (fun _ hk => hk.2) (.int .i64 ((rd_T41 t851 x120_4).f3))) (fun _ h_ => h_.1)))); (case side2 => exact (Kd.S_reads' HO_19.out).2.1); rintro e w62 ⟨v881, rfl, ho0, hb⟩; refine ⟨_, rfl, ?_⟩; have n0_ := Aside0.mk (Kd.S_elder' (by (with_reducible repeat (first | apply Kd.S_alloc | apply Kd.S_drewN | apply Kd.S_drew)); exact (Kd.S_mono (Kd.S_far (p := ⟨gb879, 3, none⟩) (Kd.S_far (p := ⟨gb879, 2, none⟩) (Kd.S_far (p := ⟨gb879, 1, none⟩) (Kd.S_far (p := ⟨gb879, 0, none⟩) (Kd.S_types HO_6.out BK879.out (by decide)) (fun _ hk => hk.2) (.int .i64 ((rd_T41 t851 x120_4).f0))) (fun _ hk => hk.2) (.int .i64 ((rd_T41 t851 x120_4).f1))) (fun _ hk => hk.2) (.int .i64 ((rd_T41 t851 x120_4).f2))) (fun _ hk => hk.2) (.int .i64 ((rd_T41 t851 x120_4).f3))) (fun _ h_ => h_.1))) (Kd.S_base ho0) hb); have n1_ := Aside0.mk (Kd.S_elder' (by (with_reducible repeat (first | apply Kd.S_alloc | apply Kd.S_drewN | apply Kd.S_drew)); exact (Kd.S_mono (Kd.S_far (p := ⟨gb879, 3, none⟩) (Kd.S_far (p := ⟨gb879, 2, none⟩) (Kd.S_far (p := ⟨gb879, 1, none⟩) (Kd.S_far (p := ⟨gb879, 0, none⟩) (Kd.S_types HO_19.out BK879.out (by decide)) (fun _ hk => hk.2) (.int .i64 ((rd_T41 t851 x120_4).f0))) (fun _ hk => hk.2) (.int .i64 ((rd_T41 t851 x120_4).f1))) (fun _ hk => hk.2) (.int .i64 ((rd_T41 t851 x120_4).f2))) (fun _ hk => hk.2) (.int .i64 ((rd_T41 t851 x120_4).f3))) (fun _ h_ => h_.1))) (Kd.S_base ho0) hb); have n2_ := Aside0.mk (Kd.R_below (by (with_reducible repeat (first | apply Kd.R_alloc | apply Kd.R_drewN | apply Kd.R_drew)); exact (Kd.R_mono (Kd.R_far (p := ⟨gb879, 3, none⟩) (Kd.R_far (p := ⟨gb879, 2, none⟩) (Kd.R_far (p := ⟨gb879, 1, none⟩) (Kd.R_far (p := ⟨gb879, 0, none⟩) (Kd.R_mono HO_118.out (fun k_ hk => (⟨hk, hk.2⟩ : _ ∧ k_ ≠ gb879))) (fun _ hk => hk.2) (.int .i64 ((rd_T41 t851 x120_4).f0))) (fun _ hk => hk.2) (.int .i64 ((rd_T41 t851 x120_4).f1))) (fun _ hk => hk.2) (.int .i64 ((rd_T41 t851 x120_4).f2))) (fun _ hk => hk.2) (.int .i64 ((rd_T41 t851 x120_4).f3))) (fun _ h_ => h_.1))) hb); have n3_ := Aside0.mk (Kd.S_lower (Kd.S_new' (Kd.S_new' ho0 (Kd.S_lt (by (with_reducible repeat (first | apply Kd.S_alloc | apply Kd.S_drewN | apply Kd.S_drew)); exact (Kd.S_mono (Kd.S_far (p := ⟨gb879, 3, none⟩) (Kd.S_far (p := ⟨gb879, 2, none⟩) (Kd.S_far (p := ⟨gb879, 1, none⟩) (Kd.S_far (p := ⟨gb879, 0, none⟩) (Kd.S_types HO_6.out BK879.out (by decide)) (fun _ hk => hk.2) (.int .i64 ((rd_T41 t851 x120_4).f0))) (fun _ hk => hk.2) (.int .i64 ((rd_T41 t851 x120_4).f1))) (fun _ hk => hk.2) (.int .i64 ((rd_T41 t851 x120_4).f2))) (fun _ hk => hk.2) (.int .i64 ((rd_T41 t851 x120_4).f3))) (fun _ h_ => h_.1))))) (Kd.S_lt (by (with_reducible repeat (first | apply Kd.S_alloc | apply Kd.S_drewN | apply Kd.S_drew)); exact (Kd.S_mono (Kd.S_far (p := ⟨gb879, 3, none⟩) (Kd.S_far (p := ⟨gb879, 2, none⟩) (Kd.S_far (p := ⟨gb879, 1, none⟩) (Kd.S_far (p := ⟨gb879, 0, none⟩) (Kd.S_types HO_19.out BK879.out (by decide)) (fun _ hk => hk.2) (.int .i64 ((rd_T41 t851 x120_4).f0))) (fun _ hk => hk.2) (.int .i64 ((rd_T41 t851 x120_4).f1))) (fun _ hk => hk.2) (.int .i64 ((rd_T41 t851 x120_4).f2))) (fun _ hk => hk.2) (.int .i64 ((rd_T41 t851 x120_4).f3))) (fun _ h_ => h_.1))))) (below_size (by repeat (first | (with_reducible first | exact HB.out | apply below_alloc | apply pw_below_drewN | apply below_drew1 | refine below_set ?_ GE879.out) | exact HB.out)))); have n4_ := Aside0.mk (blk_below (g := gb879) (o := .cells #[.int .i64 ((rd_T41 t851 x120_4).f0), .int .i64 ((rd_T41 t851 x120_4).f1), .int .i64 ((rd_T41 t851 x120_4).f2), .int .i64 ((rd_T41 t851 x120_4).f3)] 41 (0, 0)) (by (with_reducible repeat (first | refine blk_drewN ?_ _ | refine blk_drew ?_ | refine blk_alloc ?_ _)); refine blk_put (cs := #[.int .i64 ((rd_T41 t851 x120_4).f0), .int .i64 ((rd_T41 t851 x120_4).f1), .int .i64 ((rd_T41 t851 x120_4).f2), .int .i64 0]) ?_ 3 _ rfl; (with_reducible repeat (first | refine blk_drewN ?_ _ | refine blk_drew ?_ | refine blk_alloc ?_ _)); refine blk_put (cs := #[.int .i64 ((rd_T41 t851 x120_4).f0), .int .i64 ((rd_T41 t851 x120_4).f1), .int .i64 0, .int .i64 0]) ?_ 2 _ rfl; (with_reducible repeat (first | refine blk_drewN ?_ _ | refine blk_drew ?_ | refine blk_alloc ?_ _)); refine blk_put (cs := #[.int .i64 ((rd_T41 t851 x120_4).f0), .int .i64 0, .int .i64 0, .int .i64 0]) ?_ 1 _ rfl; (with_reducible repeat (first | refine blk_drewN ?_ _ | refine blk_drew ?_ | refine blk_alloc ?_ _)); refine blk_put (cs := #[.int .i64 0, .int .i64 0, .int .i64 0, .int .i64 0]) ?_ 0 _ rfl; (with_reducible repeat (first | refine blk_drewN ?_ _ | refine blk_drew ?_ | refine blk_alloc ?_ _)); exact BK879.out) hb); have n5_ := Aside0.mk (below_step (by repeat (first | (with_reducible first | exact HB.out | apply below_alloc | apply pw_below_drewN | apply below_drew1 | refine below_set ?_ GE879.out) | exact HB.out)) hb); clear HO_6; clear HO_19; clear HO_118; clear BK879; clear HB; have HO_6 := n0_; have HO_19 := n1_; have HO_118 := n2_; have HO882 := n3_; have BK879 := n4_; have HB := n5_; clear n0_ n1_ n2_ n3_ n4_ n5_; (try clear hb); (try clear hb2); (try clear hk); (try clear hi); (try clear ho0)))
                  go_ret
                  exact ⟨by first | rfl | (simp [errW_none, errW_some] <;> rfl) | (simp [*, errW_none, errW_some] <;> rfl), by repeat (first | (with_reducible first | exact HB.out | apply below_alloc | apply pw_below_drewN | apply below_drew1 | refine below_set ?_ GE879.out) | exact HB.out)⟩
                ·
                 rw [if_neg c52] at H
                 exact absurd H (by simp)
               ·
                rw [if_neg c51] at H
                exact absurd H (by simp)
              ·
               rw [if_neg c50] at H
               have c50b0 : decide (x120_4 < (t851.length : Int)) = false := decide_eq_false c50
               clear c50
               replace H := Option.bind_eq_some_iff.mp H
               obtain ⟨t884, A630, H⟩ := H
               replace H : (some t884) = some r := H
               have A63 := Aside0.mk A630
               clear A630
               obtain rfl := Option.some.inj H
               obtain ⟨Ao64, co64, eo64⟩ := Kd.S_slice HO_19.out
               subst eo64
               go_wp2_with (first | ((with_reducible refine gate_callee (f := 57) rfl ?_); refine goesL_ (some 136) rfl rfl Try.func57 (by kernel_rfl) rfl #[.slice Ao64 x19_4.length co64, .slice Ao11 t846.length co11] rfl (by (try simp only [List.map_toArray, List.map_cons, List.map_nil]); first | done | rfl) ?_; (with_reducible refine (laws_pSameRows.calls k4 _ _ x19_4 _ _ t846 t884 _ ?side1 ?side2 ?side3 ?side4 A63.out).mono ?_); (case side1 => repeat (first | exact (Kd.S_reads' HO_19.out).2.2 | (with_reducible refine Kd.C_alloc ?_ _) | (with_reducible refine Kd.C_drewN ?_ _) | (with_reducible refine Kd.C_drew ?_))); (case side2 => exact (Kd.S_reads' HO_19.out).2.1); (case side3 => repeat (first | exact (Kd.S_reads' HO_6.out).2.2 | (with_reducible refine Kd.C_alloc ?_ _) | (with_reducible refine Kd.C_drewN ?_ _) | (with_reducible refine Kd.C_drew ?_))); (case side4 => exact (Kd.S_reads' HO_6.out).2.1); rintro e w' ⟨rfl, ⟨nd, rfl⟩⟩; refine ⟨_, rfl, ?_⟩))
               go_ret
               exact ⟨by first | rfl | (simp [errW_none, errW_some] <;> rfl) | (simp [*, errW_none, errW_some] <;> rfl), by repeat (first | (with_reducible first | exact HB.out | apply below_alloc | apply pw_below_drewN | apply below_drew1) | exact HB.out)⟩
        ·
         replace c37 := Bool.eq_false_iff.mpr c37
         subst c37
         have H1 : (some true) = some r := by rw [if_neg (show ¬ (false = true) by decide)] at H; exact H
         clear H
         have H := H1
         clear H1
         obtain rfl := Option.some.inj H
         go_wp2_with (first | ((with_reducible refine gate_callee (f := 24) rfl ?_); refine goesL_ (some 84) rfl rfl Try.func24 (by kernel_rfl) rfl #[.slice Ao10 t845.length co10, .slice Ao11 t846.length co11] rfl (by (try simp only [List.map_toArray, List.map_cons, List.map_nil]); first | done | rfl) ?_; (with_reducible refine (impl_GridsApart.calls kj20 _ _ t845 _ _ t846 t876 t877 _ ?side1 ?side2 ?side3 ?side4 A36.out).mono ?_); (case side1 => repeat (first | exact (Kd.S_reads' HO_5.out).2.2 | (with_reducible refine Kd.C_alloc ?_ _) | (with_reducible refine Kd.C_drewN ?_ _) | (with_reducible refine Kd.C_drew ?_))); (case side2 => exact (Kd.S_reads' HO_5.out).2.1); (case side3 => repeat (first | exact (Kd.S_reads' HO_6.out).2.2 | (with_reducible refine Kd.C_alloc ?_ _) | (with_reducible refine Kd.C_drewN ?_ _) | (with_reducible refine Kd.C_drew ?_))); (case side4 => exact (Kd.S_reads' HO_6.out).2.1); rintro e w65 ⟨rfl, hb⟩; refine ⟨_, rfl, ?_⟩; have n0_ := Aside0.mk (Kd.S_below (by (with_reducible repeat (first | apply Kd.S_alloc | apply Kd.S_drewN | apply Kd.S_drew)); exact HO_5.out) hb); have n1_ := Aside0.mk (Kd.S_below (by (with_reducible repeat (first | apply Kd.S_alloc | apply Kd.S_drewN | apply Kd.S_drew)); exact HO_6.out) hb); have n2_ := Aside0.mk (Kd.R_below (by (with_reducible repeat (first | apply Kd.R_alloc | apply Kd.R_drewN | apply Kd.R_drew)); exact HO_7.out) hb); have n3_ := Aside0.mk (Kd.R_below (by (with_reducible repeat (first | apply Kd.R_alloc | apply Kd.R_drewN | apply Kd.R_drew)); exact HO_11.out) hb); have n4_ := Aside0.mk (Kd.R_below (by (with_reducible repeat (first | apply Kd.R_alloc | apply Kd.R_drewN | apply Kd.R_drew)); exact HO_12.out) hb); have n5_ := Aside0.mk (below_step (by repeat (first | (with_reducible first | exact HB.out | apply below_alloc | apply pw_below_drewN | apply below_drew1))) hb); clear HO_5; clear HO_6; clear HO_7; clear HO_11; clear HO_12; clear HB; have HO_5 := n0_; have HO_6 := n1_; have HO_7 := n2_; have HO_11 := n3_; have HO_12 := n4_; have HB := n5_; clear n0_ n1_ n2_ n3_ n4_ n5_; (try clear hb); (try clear hb2); (try clear hk); (try clear hi)))
         go_ret
         exact ⟨by first | rfl | (simp [errW_none, errW_some] <;> rfl) | (simp [*, errW_none, errW_some] <;> rfl), by repeat (first | (with_reducible first | exact HB.out | apply below_alloc | apply pw_below_drewN | apply below_drew1) | exact HB.out)⟩
def laws_FnPathsOfSwitches.Pure : Prop := ∀ (l0 : List Int) (l1 : List Int), l0.length ≤ maxLen → l0.length * 1 ≤ 140737488351232 → (∀ x ∈ l0, (Lit.int .u8 x).wf = true) → l1.length ≤ maxLen → l1.length * 1 ≤ 140737488351232 → (∀ x ∈ l1, (Lit.int .u8 x).wf = true) → ∃ k, laws_FnPathsOfSwitches.f k l0 l1 = some true
theorem laws_FnPathsOfSwitches.walk (P : laws_FnPathsOfSwitches.Pure) (a0 : Option Addr) (len0 cap0 : Nat) (z0 : List Int) (a1 : Option Addr) (len1 cap1 : Nat) (z1 : List Int) (w : World) (w0 : (a0 = none ∧ len0 = 0 ∧ cap0 = 0 ∧ z0 = []) ∨ ∃ x, a0 = some x ∧ len0 ≤ cap0 ∧ cap0 ≤ maxLen ∧ z0.length = cap0 ∧ (∀ i, i < z0.length → w.cell? (x.add i) = some (.int .u8 (z0.getD i 0))) ∧ ∀ n ∈ z0, (Lit.int .u8 n).wf = true) (y0 : len0 * 1 ≤ 140737488351232) (w1 : (a1 = none ∧ len1 = 0 ∧ cap1 = 0 ∧ z1 = []) ∨ ∃ x, a1 = some x ∧ len1 ≤ cap1 ∧ cap1 ≤ maxLen ∧ z1.length = cap1 ∧ (∀ i, i < z1.length → w.cell? (x.add i) = some (.int .u8 (z1.getD i 0))) ∧ ∀ n ∈ z1, (Lit.int .u8 n).wf = true) (y1 : len1 * 1 ≤ 140737488351232) :
  Calls Try.prog 16 #[.slice a0 len0 cap0, .slice a1 len1 cap1] w fun e w' => e = .returned (.bool true) ∧ Below w.heap.size w w' := by
 obtain ⟨l0, rfl, hr0, hm0, hw0, hc0⟩ := ReadsInt.ofRowC w0
 obtain ⟨l1, rfl, hr1, hm1, hw1, hc1⟩ := ReadsInt.ofRowC w1
 obtain ⟨k, h⟩ := P l0 l1 hm0 y0 hw0 hm1 y1 hw1
 refine (laws_FnPathsOfSwitches.calls k _ _ l0 _ _ l1 true w (Kd.C_of_reads (d := (0 : Int)) (h1 := fun _ => rfl) hr0) hc0 (Kd.C_of_reads (d := (0 : Int)) (h1 := fun _ => rfl) hr1) hc1 h).mono ?_
 rintro e w' ⟨rfl, hd⟩
 exact ⟨rfl, hd⟩
end Go.Proofs.Ytojcnapdalpnmaa.P
namespace Go.Proofs.Ytojcnapdalpnmaa.K
open Go.RowKit Go.Proofs.YtojcnapdalpnmaaW.PrintWords Go.Proofs.YtojcnapdalpnmaaW.PrintMore Go.Proofs.Ytojcnapdalpnmaa.P
def Bytes (code : List Int) : Prop := code.length ≤ 1048576 ∧ ∀ x ∈ code, 0 ≤ x ∧ x ≤ 255
theorem bytes_of {l : List Int} (hl : l.length ≤ 1048576) (h : ∀ x ∈ l, (Lit.int .u8 x).wf = true) : Bytes l := by
  refine ⟨hl, fun x hx => ?_⟩
  have := h x hx
  simp [Lit.wf, IntKind.min, IntKind.max, IntKind.signed, IntKind.bits] at this
  omega
theorem and255 (x : Int) : 0 ≤ Go.bits .and .u64 x 255 ∧ Go.bits .and .u64 x 255 ≤ 255 := by
  have h : (BitVec.ofInt 64 x &&& BitVec.ofInt 64 255).toNat ≤ 255 := by
    rw [BitVec.toNat_and]
    exact Nat.le_trans Nat.and_le_right (by decide)
  have key : Go.bits .and .u64 x 255 = IntKind.u64.wrap ((BitVec.ofInt 64 x &&& BitVec.ofInt 64 255).toNat : Int) := rfl
  rw [key]
  generalize (BitVec.ofInt 64 x &&& BitVec.ofInt 64 255).toNat = n at *
  simp only [IntKind.wrap, IntKind.bits, IntKind.signed]
  simp
  omega
theorem rd_byte {code : List Int} (hc : Bytes code) (i : Int) : 0 ≤ rd code i ∧ rd code i ≤ 255 := by
  unfold rd
  rw [List.getD_eq_getElem?_getD]
  cases h : code[i.toNat]? with
  | none => simp
  | some x =>
    have := List.mem_of_getElem? h
    exact hc.2 x this
section
variable {code : List Int}
theorem next_ok (hc : Bytes code) (a s : Int) (h0 : 0 ≤ a) (h1 : a ≤ 2305843009213693952) : ∃ x s', spec_l1Cur_next.f code a s = some (x, a + 1, s') ∧ 0 ≤ x ∧ x ≤ 255 := by
  have hw : wrap64 (a + 1) = a + 1 := wrap_id (by omega) (by omega)
  have hi : ∀ y, wrap64 (Go.bits .and .u64 y 255) = Go.bits .and .u64 y 255 := fun y => by have := and255 y; exact wrap_id (by omega) (by omega)
  have hr := rd_byte hc a
  have hq : wrap64 (rd code a) = rd code a := wrap_id (by omega) (by omega)
  unfold spec_l1Cur_next.f
  simp only [hw, hi, hq, if_pos h0]
  split
  · split
    · exact ⟨_, _, rfl, hr⟩
    · exact ⟨_, _, rfl, and255 _⟩
  · split
    · exact ⟨_, _, rfl, by omega, by omega⟩
    · exact ⟨_, _, rfl, and255 _⟩
theorem pick_ok (hc : Bytes code) (a s n : Int) (h0 : 0 ≤ a) (h1 : a ≤ 1152921504606846976) (hn : n ≤ 1099511627776) : ∃ x a' s', spec_l1Cur_pick.f code a s n = some (x, a', s') ∧ 0 ≤ x ∧ (1 ≤ n → x < n) ∧ (n ≤ 1 → x = 0) ∧ a ≤ a' ∧ a' ≤ a + 2 := by
  unfold spec_l1Cur_pick.f
  by_cases e : n ≤ 1
  · rw [if_pos e]; exact ⟨_, _, _, rfl, by omega, by omega, fun _ => rfl, by omega, by omega⟩
  · rw [if_neg e]
    obtain ⟨x, s1, e1, x0, x1⟩ := next_ok hc a s h0 (by omega)
    rw [e1, Option.bind_some]
    have hz : ¬ n = 0 := by omega
    by_cases e2 : n > 200
    · rw [if_pos e2]
      obtain ⟨y, s2, e3, y0, y1⟩ := next_ok hc (a + 1) s1 (by omega) (by omega)
      simp only [e3, Option.bind_some, if_neg hz]
      have hw : wrap64 (wrap64 (x * 256) + y) = x * 256 + y := by
        rw [show wrap64 (x * 256) = x * 256 from wrap_id (by omega) (by omega)]; exact wrap_id (by omega) (by omega)
      rw [hw]
      have t0 := Int.tmod_nonneg n (show (0 : Int) ≤ x * 256 + y by omega)
      have t1 := Int.tmod_lt_of_pos (x * 256 + y) (show (0 : Int) < n by omega)
      exact ⟨_, _, _, rfl, t0, fun _ => t1, by omega, by omega, by omega⟩
    · rw [if_neg e2]
      simp only [if_neg hz]
      have t0 := Int.tmod_nonneg n x0
      have t1 := Int.tmod_lt_of_pos x (show (0 : Int) < n by omega)
      exact ⟨_, _, _, rfl, t0, fun _ => t1, by omega, by omega, by omega⟩
theorem one_ok (hc : Bytes code) (a s n : Int) (h0 : 0 ≤ a) (h1 : a ≤ 1152921504606846976) (hn : n ≤ 1099511627776) : ∃ x a' s', spec_l1Cur_one.f code a s n = some (x, a', s') ∧ a ≤ a' ∧ a' ≤ a + 2 := by
  unfold spec_l1Cur_one.f
  obtain ⟨x, a', s', e, -, -, -, h2, h3⟩ := pick_ok hc a s n h0 h1 hn
  rw [e]
  exact ⟨_, _, _, rfl, h2, h3⟩
end
section
variable {code : List Int}
theorem list_l0 (hc : Bytes code) (m : Int) (hm0 : 0 ≤ m) (hm : m ≤ 1048576) : ∀ (d : Nat) (out : List Int) (a s : Int), out.length + d ≤ 1048576 → (∀ x ∈ out, 0 ≤ x ∧ x ≤ m) → 0 ≤ a → a + 2 * d ≤ 1152921504606846976 →
    ∃ r a' s', Ev (fun k => spec_l1Cur_list.l0 k m out (d : Int) code a s) (r, a', s') ∧ r.length = out.length + d ∧ (∀ x ∈ r, 0 ≤ x ∧ x ≤ m) ∧ 0 ≤ a' ∧ a' ≤ a + 2 * d := by
  intro d
  induction d with
  | zero =>
    intro out a s h1 h2 h3 h4
    exact ⟨out, a, s, Ev.step (fun k => by rw [spec_l1Cur_list.l0]) (by simpa using Ev.now _), by simp, h2, h3, by simp⟩
  | succ d ih =>
    intro out a s h1 h2 h3 h4
    have hw : wrap64 (m + 1) = m + 1 := wrap_id (by omega) (by omega)
    have hw2 : wrap64 (((d + 1 : Nat) : Int) - 1) = (d : Int) := by rw [wrap_id (by omega) (by omega)]; omega
    obtain ⟨x, a1, s1, e, x0, x1, -, a0, a2⟩ := pick_ok hc a s (m + 1) h3 (by omega) (by omega)
    obtain ⟨r, a', s', q1, q2, q3, q4, q5⟩ := ih (out ++ [x]) a1 s1 (by simp; omega) (fun y hy => by
      rcases List.mem_append.1 hy with hy | hy
      · exact h2 y hy
      · have := x1 (by omega); simp at hy; omega) (by omega) (by omega)
    refine ⟨r, a', s', Ev.step (fun k => by rw [spec_l1Cur_list.l0]) ?_, by simp at q2; omega, q3, q4, by omega⟩
    have p1 : ((d + 1 : Nat) : Int) > 0 := by omega
    have p2 : out.length < 17592186044416 := by omega
    simp only [if_pos p1, hw, e, Option.bind_some, if_pos p2, hw2]
    exact q1
theorem list_ok (hc : Bytes code) (m a s : Int) (hm0 : 0 ≤ m) (hm : m ≤ 1048576) (h0 : 0 ≤ a) (h1 : a ≤ 576460752303423488) : ∃ r a' s', Ev (fun k => spec_l1Cur_list.f k code a s m) (r, a', s') ∧ (1 ≤ r.length ∧ r.length ≤ 6 ∧ ∀ x ∈ r, 0 ≤ x ∧ x ≤ m) ∧ 0 ≤ a' ∧ a' ≤ a + 16 := by
  unfold spec_l1Cur_list.f
  obtain ⟨x, a1, s1, e, x0, x1, -, a0, a2⟩ := pick_ok hc a s 6 h0 (by omega) (by omega)
  have := x1 (by omega)
  obtain ⟨d, rfl⟩ := Int.eq_ofNat_of_zero_le x0
  have hw : wrap64 (1 + (d : Int)) = ((d + 1 : Nat) : Int) := by rw [wrap_id (by omega) (by omega)]; omega
  obtain ⟨r, a', s', q1, q2, q3, q4, q5⟩ := list_l0 hc m hm0 hm (d + 1) [] a1 s1 (by simp; omega) (by simp) (by omega) (by omega)
  simp only [e, Option.bind_some, hw]
  exact ⟨r, a', s', q1, ⟨by simp at q2; omega, by simp at q2; omega, q3⟩, q4, by omega⟩
def Rows8 (t : List (List Int)) : Prop := t.length ≤ 8 ∧ ∀ r ∈ t, r.length ≤ 8 ∧ ∀ x ∈ r, 0 ≤ x ∧ x ≤ 2
theorem grid_l1 (hc : Bytes code) (x3 : Int) (n : Nat) (hn : n ≤ 8) (t : List (List Int)) : ∀ (d : Nat) (row : List Int) (a s : Int), row.length + d = n → (∀ x ∈ row, 0 ≤ x ∧ x ≤ 2) → 0 ≤ a → a + 2 * d ≤ 1152921504606846976 → t.length < 100 →
    ∃ r a' s', (r.length = n ∧ ∀ x ∈ r, 0 ≤ x ∧ x ≤ 2) ∧ 0 ≤ a' ∧ a' ≤ a + 2 * d ∧ ∀ y, Ev (fun k => spec_l1Cur_grid.l0 k (wrap64 (x3 - 1)) n (t ++ [r]) code a' s') y → Ev (fun k => spec_l1Cur_grid.l1 k x3 n t row code a s) y := by
  intro d
  induction d with
  | zero =>
    intro row a s h1 h2 h3 h4 h5
    refine ⟨row, a, s, ⟨by omega, h2⟩, h3, by omega, fun y hy => Ev.step (fun k => by rw [spec_l1Cur_grid.l1]) ?_⟩
    have p1 : ¬ (row.length : Int) < (n : Int) := by omega
    have p2 : t.length < 5864062014805 := by omega
    simp only [if_neg p1, if_pos p2]
    exact hy
  | succ d ih =>
    intro row a s h1 h2 h3 h4 h5
    obtain ⟨x, a1, s1, e, x0, x1, -, a0, a2⟩ := pick_ok hc a s 2 h3 (by omega) (by omega)
    have := x1 (by omega)
    obtain ⟨r, a', s', q1, q2, q3, q4⟩ := ih (row ++ [x]) a1 s1 (by simp; omega) (fun y hy => by
      rcases List.mem_append.1 hy with hy | hy
      · exact h2 y hy
      · simp at hy; omega) (by omega) (by omega) h5
    refine ⟨r, a', s', q1, q2, by omega, fun y hy => Ev.step (fun k => by rw [spec_l1Cur_grid.l1]) ?_⟩
    have p1 : (row.length : Int) < (n : Int) := by omega
    have p2 : row.length < 17592186044416 := by omega
    simp only [if_pos p1, e, Option.bind_some, if_pos p2]
    exact q4 y hy
theorem grid_end (hc : Bytes code) (x4 : Int) (t : List (List Int)) (ht : Rows8 t) (h : 1 ≤ t.length) (a s : Int) (h0 : 0 ≤ a) (h1 : a ≤ 288230376151711744) : ∃ r a' s', Ev (fun k => spec_l1Cur_grid.l0 k 0 x4 t code a s) (r, a', s') ∧ Rows8 r ∧ 0 ≤ a' ∧ a' ≤ a + 20 := by
  obtain ⟨x, a1, s1, e, x0, x1, -, a0, a2⟩ := pick_ok hc a s 16 h0 (by omega) (by omega)
  have p1 : ¬ (0 : Int) > 0 := by omega
  by_cases e1 : x = 0
  · obtain ⟨y, b1, z1, f, y0, y1, -, b0, b2⟩ := pick_ok hc a1 s1 (t.length : Int) (by omega) (by omega) (by have := ht.1; omega)
    obtain ⟨r, b3, z3, g1, ⟨g2, g3, g4⟩, g5, g6⟩ := list_ok hc 2 b1 z1 (by omega) (by omega) (by omega) (by omega)
    have := y1 (by omega)
    refine ⟨t.set y.toNat r, b3, z3, Ev.step (fun k => by rw [spec_l1Cur_grid.l0]) ?_, ⟨by simp; exact ht.1, fun z hz => ?_⟩, g5, by omega⟩
    · simp only [if_neg p1, e, Option.bind_some, if_pos e1, f]
      refine Ev.bind g1 ?_
      simp only [if_pos y0, if_pos this]
      exact Ev.now _
    · rcases List.mem_or_eq_of_mem_set hz with hz | rfl
      · exact ht.2 z hz
      · exact ⟨by omega, g4⟩
  · by_cases e2 : x = 1
    · refine ⟨[], a1, s1, Ev.step (fun k => by rw [spec_l1Cur_grid.l0]) ?_, ⟨by simp, by simp⟩, by omega, by omega⟩
      simp only [if_neg p1, e, Option.bind_some, if_neg e1, if_pos e2]
      exact Ev.now _
    · refine ⟨t, a1, s1, Ev.step (fun k => by rw [spec_l1Cur_grid.l0]) ?_, ht, by omega, by omega⟩
      simp only [if_neg p1, e, Option.bind_some, if_neg e1, if_neg e2]
      exact Ev.now _
theorem grid_l0 (hc : Bytes code) (n : Nat) (hn : n ≤ 8) : ∀ (d : Nat) (t : List (List Int)) (a s : Int), t.length + d ≤ 8 → 1 ≤ t.length + d → Rows8 t → 0 ≤ a → a + 20 * d ≤ 288230376151711744 →
    ∃ r a' s', Ev (fun k => spec_l1Cur_grid.l0 k (d : Int) n t code a s) (r, a', s') ∧ Rows8 r ∧ 0 ≤ a' ∧ a' ≤ a + 20 * d + 20 := by
  intro d
  induction d with
  | zero =>
    intro t a s h1 h2 h3 h4 h5
    obtain ⟨r, a', s', q1, q2, q3, q4⟩ := grid_end hc n t h3 (by omega) a s h4 (by omega)
    exact ⟨r, a', s', q1, q2, q3, by omega⟩
  | succ d ih =>
    intro t a s h1 h2 h3 h4 h5
    obtain ⟨row, a1, s1, ⟨r1, r2⟩, q2, q3, q4⟩ := grid_l1 hc ((d + 1 : Nat) : Int) n hn t n [] a s (by simp) (by simp) h4 (by omega) (by omega)
    have hw2 : wrap64 (((d + 1 : Nat) : Int) - 1) = (d : Int) := by rw [wrap_id (by omega) (by omega)]; omega
    rw [hw2] at q4
    obtain ⟨r, a', s', z1, z2, z3, z4⟩ := ih (t ++ [row]) a1 s1 (by simp; omega) (by simp; omega) ⟨by simp; omega, fun z hz => by
      rcases List.mem_append.1 hz with hz | hz
      · exact h3.2 z hz
      · simp at hz; subst hz; exact ⟨by omega, r2⟩⟩ q2 (by omega)
    refine ⟨r, a', s', Ev.step (fun k => by rw [spec_l1Cur_grid.l0]) ?_, z2, z3, by omega⟩
    have p1 : ((d + 1 : Nat) : Int) > 0 := by omega
    simp only [if_pos p1]
    exact q4 _ z1
theorem grid_j (hc : Bytes code) (m n : Int) (hm0 : 1 ≤ m) (hm : m ≤ 8) (hn0 : 0 ≤ n) (hn : n ≤ 8) (a s : Int) (h0 : 0 ≤ a) (h1 : a ≤ 72057594037927936) :
    ∃ r a' s', Ev (fun k => spec_l1Cur_grid.j0 k m n code a s) (r, a', s') ∧ Rows8 r ∧ 0 ≤ a' ∧ a' ≤ a + 200 := by
  obtain ⟨d, rfl⟩ := Int.eq_ofNat_of_zero_le (show 0 ≤ m by omega)
  obtain ⟨x, a1, s1, e, a0, a2⟩ := one_ok hc a s 12 h0 (by omega) (by omega)
  by_cases hx : x = true
  · obtain ⟨y, b1, z1, f, y0, y1, -, b0, b2⟩ := pick_ok hc a1 s1 2 (by omega) (by omega) (by omega)
    have := y1 (by omega)
    obtain ⟨j, rfl⟩ := Int.eq_ofNat_of_zero_le y0
    have hw : wrap64 (6 + (j : Int)) = ((6 + j : Nat) : Int) := by rw [wrap_id (by omega) (by omega)]; omega
    obtain ⟨r, a', s', q1, q2, q3, q4⟩ := grid_l0 hc (6 + j) (by omega) d [] b1 z1 (by simp; omega) (by simp; omega) ⟨by simp, by simp⟩ (by omega) (by omega)
    refine ⟨r, a', s', Ev.step (fun k => by rw [spec_l1Cur_grid.j0]) ?_, q2, q3, by omega⟩
    simp only [e, Option.bind_some, if_pos hx, f, hw]
    exact Ev.step (fun k => by rw [spec_l1Cur_grid.j1]) q1
  · obtain ⟨j, rfl⟩ := Int.eq_ofNat_of_zero_le hn0
    obtain ⟨r, a', s', q1, q2, q3, q4⟩ := grid_l0 hc j (by omega) d [] a1 s1 (by simp; omega) (by simp; omega) ⟨by simp, by simp⟩ (by omega) (by omega)
    refine ⟨r, a', s', Ev.step (fun k => by rw [spec_l1Cur_grid.j0]) ?_, q2, q3, by omega⟩
    simp only [e, Option.bind_some, if_neg hx]
    exact Ev.step (fun k => by rw [spec_l1Cur_grid.j1]) q1
theorem grid_ok (hc : Bytes code) (a s : Int) (h0 : 0 ≤ a) (h1 : a ≤ 36028797018963968) :
    ∃ r a' s', Ev (fun k => spec_l1Cur_grid.f k code a s) (r, a', s') ∧ Rows8 r ∧ 0 ≤ a' ∧ a' ≤ a + 240 := by
  unfold spec_l1Cur_grid.f
  obtain ⟨x, a1, s1, e, x0, x1, -, a0, a2⟩ := pick_ok hc a s 4 h0 (by omega) (by omega)
  obtain ⟨y, b1, z1, f, y0, y1, -, b0, b2⟩ := pick_ok hc a1 s1 4 (by omega) (by omega) (by omega)
  obtain ⟨o, c1, u1, g, c0, c2⟩ := one_ok hc b1 z1 12 (by omega) (by omega) (by omega)
  have := x1 (by omega)
  have := y1 (by omega)
  have hw : wrap64 (1 + y) = 1 + y := wrap_id (by omega) (by omega)
  have hw2 : wrap64 (1 + x) = 1 + x := wrap_id (by omega) (by omega)
  simp only [e, f, g, Option.bind_some, hw, hw2]
  by_cases ho : o = true
  · obtain ⟨v, d1, t1, h, v0, v1, -, d0, d2⟩ := pick_ok hc c1 u1 2 (by omega) (by omega) (by omega)
    have := v1 (by omega)
    have hw3 : wrap64 (6 + v) = 6 + v := wrap_id (by omega) (by omega)
    obtain ⟨r, a', s', q1, q2, q3, q4⟩ := grid_j hc (6 + v) (1 + y) (by omega) (by omega) (by omega) (by omega) d1 t1 (by omega) (by omega)
    refine ⟨r, a', s', ?_, q2, q3, by omega⟩
    simp only [if_pos ho, h, Option.bind_some, hw3]
    exact q1
  · obtain ⟨r, a', s', q1, q2, q3, q4⟩ := grid_j hc (1 + x) (1 + y) (by omega) (by omega) (by omega) (by omega) c1 u1 (by omega) (by omega)
    refine ⟨r, a', s', ?_, q2, q3, by omega⟩
    simp only [if_neg ho]
    exact q1
end
end Go.Proofs.Ytojcnapdalpnmaa.K
namespace Go.Proofs.Ytojcnapdalpnmaa.K
open Go.RowKit Go.Proofs.YtojcnapdalpnmaaW.PrintWords
theorem contLoopI {σ α : Type} (g : σ → Nat → Nat → Option α) (n : Nat) (I : σ → Nat → Prop)
    (hs : ∀ s j, j < n → I s j → ∃ s', I s' (j + 1) ∧ ∀ x, Ev (g s' (j + 1)) x → Ev (g s j) x) : ∀ d s j, j + d = n → I s j → ∃ s', I s' n ∧ ∀ x, Ev (g s' n) x → Ev (g s j) x := by
  intro d
  induction d with
  | zero =>
    intro s j hj hi
    obtain rfl : j = n := by omega
    exact ⟨s, hi, fun x h => h⟩
  | succ d ih =>
    intro s j hj hi
    obtain ⟨s1, h1, h2⟩ := hs s j (by omega) hi
    obtain ⟨s2, h3, h4⟩ := ih _ _ (by omega) h1
    exact ⟨s2, h3, fun x h => h2 x (h4 x h)⟩
end Go.Proofs.Ytojcnapdalpnmaa.K
namespace Go.Proofs.Ytojcnapdalpnmaa.K
open Go.RowKit Go.Proofs.YtojcnapdalpnmaaW.PrintWords Go.Proofs.Ytojcnapdalpnmaa.P
theorem mapRow_length (g : Int → Int → Int → Int) (i : Nat) : ∀ (l : List Int) (j : Nat), (mapRow g i j l).length = l.length
  | [], _ => rfl
  | _ :: l, j => by simp [mapRow, mapRow_length g i l (j + 1)]
theorem mapRows_length (g : Int → Int → Int → Int) : ∀ (l : List (List Int)) (i : Nat), (mapRows g i l).length = l.length
  | [], _ => rfl
  | _ :: l, i => by simp [mapRows, mapRows_length g l (i + 1)]
def rowN (l : List (List Int)) (i : Nat) : List Int := rd_L1 l (i : Int)
def at2 (l : List (List Int)) (i j : Nat) : Int := rd (rowN l i) (j : Int)
theorem rowN_at {l : List (List Int)} {i : Nat} (h : i < l.length) : rowN l i = l[i] := by
  unfold rowN rd_L1; simp [List.getD_eq_getElem?_getD, List.getElem?_eq_getElem h]
theorem rdN_at {l : List Int} {i : Nat} (h : i < l.length) : rd l (i : Int) = l[i] := by
  unfold rd; simp [List.getD_eq_getElem?_getD, List.getElem?_eq_getElem h]
theorem rowN_mem {l : List (List Int)} {i : Nat} (h : i < l.length) : rowN l i ∈ l := by rw [rowN_at h]; exact List.getElem_mem _
theorem rows_ext {l l' : List (List Int)} (h : l.length = l'.length) (hr : ∀ i, i < l.length → (rowN l i).length = (rowN l' i).length) (ha : ∀ i j, i < l.length → j < (rowN l i).length → at2 l i j = at2 l' i j) : l = l' := by
  apply List.ext_getElem h
  intro i h1 h2
  have e1 := rowN_at h1
  have e2 := rowN_at h2
  rw [← e1, ← e2]
  apply List.ext_getElem (hr i h1)
  intro j h3 h4
  have := ha i j h1 h3
  unfold at2 at this
  rwa [rdN_at h3, rdN_at h4] at this
theorem mapRow_at (g : Int → Int → Int → Int) (i : Nat) : ∀ (l : List Int) (j0 j : Nat), j < l.length → rd (mapRow g i j0 l) (j : Int) = g (i : Int) ((j0 + j : Nat) : Int) (rd l (j : Int))
  | [], _, _, h => by simp at h
  | x :: l, j0, 0, _ => by simp [mapRow, rd]
  | x :: l, j0, j + 1, h => by
    have := mapRow_at g i l (j0 + 1) j (by simpa using h)
    have e : ∀ (y : Int) (m : List Int), rd (y :: m) ((j + 1 : Nat) : Int) = rd m (j : Int) := fun y m => by simp [rd]
    rw [mapRow, e, e, this]; congr 2; omega
theorem mapRows_row (g : Int → Int → Int → Int) : ∀ (l : List (List Int)) (i0 i : Nat), i < l.length → rowN (mapRows g i0 l) i = mapRow g (i0 + i) 0 (rowN l i)
  | [], _, _, h => by simp at h
  | x :: l, i0, 0, _ => by simp [mapRows, rowN, rd_L1]
  | x :: l, i0, i + 1, h => by
    have := mapRows_row g l (i0 + 1) i (by simpa using h)
    have e : ∀ (y : List Int) (m : List (List Int)), rowN (y :: m) (i + 1) = rowN m i := fun y m => by simp [rowN, rd_L1]
    rw [mapRows, e, e, this]; congr 1; omega
theorem mapRows_at (g : Int → Int → Int → Int) (l : List (List Int)) (i j : Nat) (hi : i < l.length) (hj : j < (rowN l i).length) : at2 (mapRows g 0 l) i j = g (i : Int) (j : Int) (at2 l i j) := by
  unfold at2
  rw [mapRows_row g l 0 i hi, mapRow_at g _ _ 0 j hj]
  simp
def flip2 (l : List (List Int)) (i j : Nat) : List (List Int) := l.set i ((rowN l i).set j (wrap64 (1 - at2 l i j)))
theorem flip2_length (l : List (List Int)) (i j : Nat) : (flip2 l i j).length = l.length := by simp [flip2]
theorem flip2_row (l : List (List Int)) (i j i' : Nat) (hi : i < l.length) : rowN (flip2 l i j) i' = if i' = i then (rowN l i).set j (wrap64 (1 - at2 l i j)) else rowN l i' := by
  unfold flip2 rowN rd_L1
  simp only [Int.toNat_natCast, List.getD_eq_getElem?_getD, List.getElem?_set]
  by_cases e : i = i'
  · subst e; simp [hi]
  · rw [if_neg e, if_neg (fun h => e h.symm)]
theorem flip2_rowlen (l : List (List Int)) (i j i' : Nat) (hi : i < l.length) : (rowN (flip2 l i j) i').length = (rowN l i').length := by
  rw [flip2_row l i j i' hi]
  by_cases e : i' = i
  · subst e; simp
  · rw [if_neg e]
theorem flip2_at (l : List (List Int)) (i j i' j' : Nat) (hi : i < l.length) (hj : j < (rowN l i).length) : at2 (flip2 l i j) i' j' = if i' = i ∧ j' = j then wrap64 (1 - at2 l i j) else at2 l i' j' := by
  unfold at2
  rw [flip2_row l i j i' hi]
  by_cases e : i' = i
  · subst e
    simp only [if_true, true_and, rd, Int.toNat_natCast, List.getD_eq_getElem?_getD, List.getElem?_set]
    by_cases e2 : j = j'
    · subst e2; simp [hj, at2, rd]
    · rw [if_neg e2, if_neg (fun h => e2 h.symm)]
  · rw [if_neg e, if_neg (fun h => e h.1)]
theorem grid_rowN {l : List (List Int)} (hg : gridB l = true) : ∀ i, i < l.length → (rowN l i).length = (rd_L1 l 0).length := fun i hi => ((grid_get hg).2.2.2.2 _ (rowN_mem hi)).1
end Go.Proofs.Ytojcnapdalpnmaa.K
