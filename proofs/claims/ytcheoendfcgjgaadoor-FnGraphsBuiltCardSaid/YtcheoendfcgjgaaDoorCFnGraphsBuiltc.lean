/- Parts: contracts and plain lemmas for the law FnGraphsBuilt, part 3 of 7 (what the Go functions answer). -/
import Derived.Outline
import Derived.Deep.RegionLaw
import Derived.Test.YtcheoendfcgjgaaDoorCFnGraphsBuilta
import Derived.Test.YtcheoendfcgjgaaDoorCFnGraphsBuiltb
set_option linter.unusedVariables false
set_option linter.unusedSimpArgs false
namespace Go.Proofs.YtcheoendfcgjgaaDoor.P
open Go.RowKit Go.Proofs.YtcheoendfcgjgaaDoorW.PrintWords Go.Proofs.YtcheoendfcgjgaaDoorW.PrintLast Go.Proofs.YtcheoendfcgjgaaDoorW.PrintMore
attribute [local go_sem] max2_int min2_int max_two min_two max_three min_three max_four min_four
mutual
def spec_l1Cur_graph.l0 : Nat → Int → Int → Int → List Int → Int → Int → Int → List Int → Option (Int × List Int × Int × Int)
 | 0, _, _, _, _, _, _, _, _ => none
 | k + 1, x5, x7, x8, x1000, x1001, x1002, x387000, x387001 => if x8 < x5 then (spec_l1Cur_graph.l1 k x5 x7 x8 0 x1000 x1001 x1002 x387000 x387001) else ((spec_l1Cur_one.f x1000 x1001 x1002 4).bind fun bt397 => (if bt397.1 = true then (spec_l1Cur_graph.l2 k x5 ([] : List Int) 0 x1000 bt397.2.1 bt397.2.2) else (spec_l1Cur_graph.j3 k x5 x1000 bt397.2.1 bt397.2.2 x387000 x387001)))
def spec_l1Cur_graph.l1 : Nat → Int → Int → Int → Int → List Int → Int → Int → Int → List Int → Option (Int × List Int × Int × Int)
 | 0, _, _, _, _, _, _, _, _, _ => none
 | k + 1, x5, x7, x8, x9, x1000, x1001, x1002, x387000, x387001 => if x9 < x8 then ((spec_l1Cur_one.f x1000 x1001 x1002 x7).bind fun bt393 => (if bt393.1 = true then ((spec_deJoin.f x387001 x8 x9).bind fun t396 => (spec_l1Cur_graph.l1 k x5 x7 x8 (wrap64 (x9 + 1)) x1000 bt393.2.1 bt393.2.2 x387000 t396)) else (spec_l1Cur_graph.l1 k x5 x7 x8 (wrap64 (x9 + 1)) x1000 bt393.2.1 bt393.2.2 x387000 x387001))) else (spec_l1Cur_graph.l0 k x5 x7 (wrap64 (x8 + 1)) x1000 x1001 x1002 x387000 x387001)
def spec_l1Cur_graph.j3 : Nat → Int → List Int → Int → Int → Int → List Int → Option (Int × List Int × Int × Int)
 | 0, _, _, _, _, _, _ => none
 | k + 1, x5, x1000, x1001, x1002, x387000, x387001 => (spec_l1Cur_pick.f x1000 x1001 x1002 24).bind fun bt411 => (if bt411.1 = 0 then ((spec_l1Cur_pick.f x1000 bt411.2.1 bt411.2.2 x5).bind fun bt414 => (if 0 ≤ x5 then ((spec_l1Cur_among.f x1000 bt414.2.1 bt414.2.2 (([(-1), 0, 1, 2, shl .i64 1 x5] : List Int))).bind fun bt420 => (if 0 ≤ bt414.1 then (if bt414.1 < (x387001.length : Int) then (some (x387000, (x387001.set (bt414.1 : Int).toNat bt420.1), bt420.2.1, bt420.2.2)) else (none)) else (none))) else (none))) else (if bt411.1 = 1 then ((spec_l1Cur_among.f x1000 bt411.2.1 bt411.2.2 (([0, (-1), wrap64 (x5 + 1), 9] : List Int))).bind fun bt427 => (some (bt427.1, x387001, bt427.2.1, bt427.2.2))) else (some (x387000, x387001, bt411.2.1, bt411.2.2))))
def spec_l1Cur_graph.l2 : Nat → Int → List Int → Int → List Int → Int → Int → Option (Int × List Int × Int × Int)
 | 0, _, _, _, _, _, _ => none
 | k + 1, x5, x10, x11, x1000, x1001, x1002 => if x11 < x5 then ((spec_l1Cur_pick.f x1000 x1001 x1002 2).bind fun bt400 => (if x10.length < 17592186044416 then (spec_l1Cur_graph.l2 k x5 (x10 ++ [bt400.1]) (wrap64 (x11 + 1)) x1000 bt400.2.1 bt400.2.2) else (none))) else (if 0 < (x10.length : Int) then ((spec_deGrow.f k (x10.set (0 : Int).toNat 0)).bind fun bt407 => (spec_l1Cur_graph.j3 k x5 x1000 x1001 x1002 bt407.1 bt407.2)) else (none))
end
def spec_l1Cur_graph.f (k : Nat) (s0_0 : List Int) (s0_1 : Int) (s0_2 : Int) (a1 : Int) : Option (Int × List Int × Int × Int) := (spec_l1Cur_pick.f s0_0 s0_1 s0_2 a1).bind fun bt380 => (if 0 ≤ (wrap64 (1 + bt380.1)) then (if (wrap64 (1 + bt380.1) : Int).toNat ≤ 35184372088832 then ((spec_l1Cur_among.f s0_0 bt380.2.1 bt380.2.2 (([2, 3] : List Int))).bind fun bt390 => (spec_l1Cur_graph.l0 k (wrap64 (1 + bt380.1)) bt390.1 0 s0_0 bt390.2.1 bt390.2.2 (wrap64 (1 + bt380.1)) (List.replicate (wrap64 (1 + bt380.1) : Int).toNat 0))) else (none)) else (none))
theorem spec_l1Cur_graph.mono_l : ∀ k, (∀ y0 y1 y2 y3 y4 y5 y6 y7, LeO (spec_l1Cur_graph.l0 k y0 y1 y2 y3 y4 y5 y6 y7) (spec_l1Cur_graph.l0 (k + 1) y0 y1 y2 y3 y4 y5 y6 y7)) ∧ (∀ y0 y1 y2 y3 y4 y5 y6 y7 y8, LeO (spec_l1Cur_graph.l1 k y0 y1 y2 y3 y4 y5 y6 y7 y8) (spec_l1Cur_graph.l1 (k + 1) y0 y1 y2 y3 y4 y5 y6 y7 y8)) ∧ (∀ y0 y1 y2 y3 y4 y5, LeO (spec_l1Cur_graph.j3 k y0 y1 y2 y3 y4 y5) (spec_l1Cur_graph.j3 (k + 1) y0 y1 y2 y3 y4 y5)) ∧ (∀ y0 y1 y2 y3 y4 y5, LeO (spec_l1Cur_graph.l2 k y0 y1 y2 y3 y4 y5) (spec_l1Cur_graph.l2 (k + 1) y0 y1 y2 y3 y4 y5))
 | 0 => ⟨fun _ _ _ _ _ _ _ _ r h => by simp [spec_l1Cur_graph.l0] at h, fun _ _ _ _ _ _ _ _ _ r h => by simp [spec_l1Cur_graph.l1] at h, fun _ _ _ _ _ _ r h => by simp [spec_l1Cur_graph.j3] at h, fun _ _ _ _ _ _ r h => by simp [spec_l1Cur_graph.l2] at h⟩
 | k + 1 => by
  obtain ⟨ih0, ih1, ih2, ih3⟩ := spec_l1Cur_graph.mono_l k
  refine ⟨?_, ?_, ?_, ?_⟩
  ·
   intro y0 y1 y2 y3 y4 y5 y6 y7
   unfold spec_l1Cur_graph.l0
   repeat' first
   | (with_reducible exact ih1 _ _ _ _ _ _ _ _ _)
   | (with_reducible exact ih2 _ _ _ _ _ _)
   | (with_reducible exact ih3 _ _ _ _ _ _)
   | (with_reducible exact LeO.refl _)
   | (with_reducible refine LeO.ite ?_ ?_)
   | (with_reducible refine LeO.bind ?_ (fun _ => ?_))
  ·
   intro y0 y1 y2 y3 y4 y5 y6 y7 y8
   unfold spec_l1Cur_graph.l1
   repeat' first
   | (with_reducible exact ih0 _ _ _ _ _ _ _ _)
   | (with_reducible exact ih1 _ _ _ _ _ _ _ _ _)
   | (with_reducible exact LeO.refl _)
   | (with_reducible refine LeO.ite ?_ ?_)
   | (with_reducible refine LeO.bind ?_ (fun _ => ?_))
  ·
   intro y0 y1 y2 y3 y4 y5
   unfold spec_l1Cur_graph.j3
   repeat' first
   | (with_reducible exact LeO.refl _)
  ·
   intro y0 y1 y2 y3 y4 y5
   unfold spec_l1Cur_graph.l2
   repeat' first
   | (with_reducible exact ih2 _ _ _ _ _ _)
   | (with_reducible exact ih3 _ _ _ _ _ _)
   | (with_reducible exact spec_deGrow.mono _ _)
   | (with_reducible exact LeO.refl _)
   | (with_reducible refine LeO.ite ?_ ?_)
   | (with_reducible refine LeO.bind ?_ (fun _ => ?_))
theorem spec_l1Cur_graph.mono : ∀ a0 a1 a2 a3 k, LeO (spec_l1Cur_graph.f k a0 a1 a2 a3) (spec_l1Cur_graph.f (k + 1) a0 a1 a2 a3) := by
 intro a0 a1 a2 a3 k
 obtain ⟨ih0, ih1, ih2, ih3⟩ := spec_l1Cur_graph.mono_l k
 unfold spec_l1Cur_graph.f
 repeat' first
   | (with_reducible exact ih0 _ _ _ _ _ _ _ _)
   | (with_reducible exact LeO.refl _)
   | (with_reducible refine LeO.ite ?_ ?_)
   | (with_reducible refine LeO.bind ?_ (fun _ => ?_))
def spec_l1Cur_graph.T22 : Bool × List (List Nat × List Nat) := (true, [([], []), ([0], [0]), ([], []), ([], []), ([2, 3], [2, 3]), ([], []), ([], []), ([6], [6]), ([7], [7]), ([5, 8, 4], [5, 8]), ([1, 4, 0, 1, 2, 3, 4, 5, 6, 7, 8, 9], [1, 4]), ([10, 9, 9, 0, 1, 2, 3, 4, 5, 6, 7, 8, 9], [9, 10])])
def spec_l1Cur_graph.B22 : List Nat := [0, 1, 0, 0, 12, 0, 0, 64, 192, 508, 1023, 2047]
theorem spec_l1Cur_graph.tab22 : rtab .any (opsOf Tryd.f79 22) = spec_l1Cur_graph.T22 := by kernel_rfl
theorem spec_l1Cur_graph.bits22 : waitsOk spec_l1Cur_graph.T22.2 spec_l1Cur_graph.B22 = true := by kernel_rfl
set_option maxHeartbeats 8000000 in
set_option maxRecDepth 100000 in
theorem spec_l1Cur_graph.calls (k : Nat) (g : Nat) (s0_0 : List Int) (s0_1 : Int) (s0_2 : Int) (a1 : Int) (r1 : Int) (r2 : List Int) (r3 : Int) (r4 : Int) (w0 w : World) (hI : IsS72 w0 w g s0_0 s0_1 s0_2) (hB : Below w0.heap.size w0 w) (h : spec_l1Cur_graph.f k s0_0 s0_1 s0_2 a1 = some (r1, r2, r3, r4)) :
  Calls Tryd.prog 79 #[.pointer (some ⟨g, 0, none⟩), .int .i64 a1] w fun e w' => ∃ v1_ : Value, e = .returned (.agg #[.int .i64 r1, v1_]) ∧ Kd.R (Kd.int .i64) 3 w' w.heap.size (fun _ => True) v1_ r2 ∧ IsS72 w0 w' g s0_0 r3 r4 ∧ Below w0.heap.size w0 w' ∧ KeepBut w w' g none := by
 have hu39 := Tryd.underlying39
 have HI0 := Aside0.mk hI
 have HK := Aside0.mk (KeepBut.refl w g none)
 have HL := Aside0.mk hB.size
 clear hI
 have HW0 := Aside0.mk hB.size
 have HB := Aside0.mk hB
 clear hB
 have H : ((spec_l1Cur_pick.f s0_0 s0_1 s0_2 a1).bind fun bt380 => (if 0 ≤ (wrap64 (1 + bt380.1)) then (if (wrap64 (1 + bt380.1) : Int).toNat ≤ 35184372088832 then ((spec_l1Cur_among.f s0_0 bt380.2.1 bt380.2.2 (([2, 3] : List Int))).bind fun bt390 => (spec_l1Cur_graph.l0 k (wrap64 (1 + bt380.1)) bt390.1 0 s0_0 bt390.2.1 bt390.2.2 (wrap64 (1 + bt380.1)) (List.replicate (wrap64 (1 + bt380.1) : Int).toNat 0))) else (none)) else (none))) = some (r1, r2, r3, r4) := h
 clear h
 replace H := Option.bind_eq_some_iff.mp H
 obtain ⟨⟨t380, t381, t382⟩, A30, H⟩ := H
 replace H : (if 0 ≤ (wrap64 (1 + t380)) then (if (wrap64 (1 + t380) : Int).toNat ≤ 35184372088832 then ((spec_l1Cur_among.f s0_0 t381 t382 (([2, 3] : List Int))).bind fun bt390 => (spec_l1Cur_graph.l0 k (wrap64 (1 + t380)) bt390.1 0 s0_0 bt390.2.1 bt390.2.2 (wrap64 (1 + t380)) (List.replicate (wrap64 (1 + t380) : Int).toNat 0))) else (none)) else (none)) = some (r1, r2, r3, r4) := H
 have A3 := Aside0.mk A30
 clear A30
 obtain ⟨ji4, hji4⟩ : ∃ j_ : Int, (wrap64 (1 + t380)) = j_ := ⟨_, rfl⟩
 replace H : (if 0 ≤ (ji4) then (if (ji4 : Int).toNat ≤ 35184372088832 then ((spec_l1Cur_among.f s0_0 t381 t382 (([2, 3] : List Int))).bind fun bt390 => (spec_l1Cur_graph.l0 k ji4 bt390.1 0 s0_0 bt390.2.1 bt390.2.2 ji4 (List.replicate (ji4 : Int).toNat 0))) else (none)) else (none)) = some (r1, r2, r3, r4) := by first | (rw [hji4] at H; exact H) | (simp only [hji4] at H ⊢; exact H)
 (try rw [hji4] at A3)
 have hji4w : (IntKind.i64.wrap (1 + t380)) = ji4 := (i64_w _).trans hji4
 by_cases c5 : 0 ≤ (ji4)
 ·
  rw [if_pos c5] at H
  have c5b0 := eq_true c5
  have c5b1 : decide (0 ≤ (ji4)) = true := decide_eq_true c5
  clear c5
  by_cases c6 : (ji4 : Int).toNat ≤ 35184372088832
  ·
   rw [if_pos c6] at H
   have c6b0 := eq_true c6
   have c6b1 : decide ((ji4 : Int).toNat ≤ 35184372088832) = true := decide_eq_true c6
   clear c6
   obtain ⟨y383, hy383⟩ : ∃ y_ : List Int, y_ = (List.replicate (ji4 : Int).toNat 0) := ⟨_, rfl⟩
   replace H : ((spec_l1Cur_among.f s0_0 t381 t382 (([2, 3] : List Int))).bind fun bt390 => (spec_l1Cur_graph.l0 k ji4 bt390.1 0 s0_0 bt390.2.1 bt390.2.2 ji4 y383)) = some (r1, r2, r3, r4) := by first | (rw [hy383]; with_reducible exact H) | (have H2_ := (Option.bind_some _ _).symm.trans H; rw [hy383]; with_reducible exact H2_) | (have H2_ := (Option.bind_some _ _).symm.trans H; with_reducible exact H2_) | with_reducible exact H | (rw [hy383]; exact H) | exact H
   have Ny383 := Aside0.mk hy383
   clear hy383
   obtain ⟨y387, hy387⟩ : ∃ y_ : List Int, y_ = (([2, 3] : List Int)) := ⟨_, rfl⟩
   replace H : ((spec_l1Cur_among.f s0_0 t381 t382 y387).bind fun bt390 => (spec_l1Cur_graph.l0 k ji4 bt390.1 0 s0_0 bt390.2.1 bt390.2.2 ji4 y383)) = some (r1, r2, r3, r4) := by first | (rw [hy387]; with_reducible exact H) | (have H2_ := (Option.bind_some _ _).symm.trans H; rw [hy387]; with_reducible exact H2_) | (have H2_ := (Option.bind_some _ _).symm.trans H; with_reducible exact H2_) | with_reducible exact H | (rw [hy387]; exact H) | exact H
   have Ny387 := Aside0.mk hy387
   clear hy387
   replace H := Option.bind_eq_some_iff.mp H
   obtain ⟨⟨t390, t391, t392⟩, A70, H⟩ := H
   replace H : (spec_l1Cur_graph.l0 k ji4 t390 0 s0_0 t391 t392 ji4 y383) = some (r1, r2, r3, r4) := H
   have A7 := Aside0.mk A70
   clear A70
   have H' := Aside0.mk H
   clear H
   go_enter Tryd.func79, Tryd.ntmps79
   go_wp2_with (first | ((with_reducible refine gate_dst (N := 4) rfl ?_); refine box_event ?hg (N := 4) ?hd (cs := #[.int .i64 0, .slice none 0 0]) (t := 39) ?hr ?_; (case hd => rfl); (case hg => rfl); (case hr => first | (go_simp; done) | (go_simp; rfl)); intro gb379 hg w8 hbox hb; have n0_ := Aside0.mk (IsS72.below (by repeat ((with_reducible exact HI0.out))) hb); have n1_ := Aside0.mk (KeepBut.trans (by repeat ((with_reducible exact HK.out))) (KeepBut.of_below hb g none) (.inl rfl)); have n2_ := Aside0.mk (below_step (by repeat ((with_reducible exact HB.out))) hb); have n3_ := Aside0.mk (hbox); have n4_ := Aside0.mk ((by rw [hg]; exact (keep_size (w := w) (g := g) (row := none) (by repeat ((with_reducible exact HK.out)))) : w.heap.size ≤ gb379)); have n5_ := Aside0.mk ((Nat.le_trans HW0.out (by rw [hg]; exact (keep_size (w := w) (g := g) (row := none) (by repeat ((with_reducible exact HK.out)))) : w.heap.size ≤ gb379) : w0.heap.size ≤ gb379)); have n6_ := Aside0.mk ((by rw [hg]; exact Nat.ne_of_lt (IsS72.lt (show IsS72 w0 _ g s0_0 s0_1 s0_2 from by repeat ((with_reducible exact HI0.out)))) : g ≠ gb379)); have n7_ := Aside0.mk ((by rw [hg]; exact Nat.ne_of_gt (IsS72.lt (show IsS72 w0 _ g s0_0 s0_1 s0_2 from by repeat ((with_reducible exact HI0.out)))) : gb379 ≠ g)); clear HI0; clear HK; clear HB; have HI0 := n0_; have HK := n1_; have HB := n2_; have BK379 := n3_; have GW379 := n4_; have GE379 := n5_; have NB0_379 := n6_; have NB379_0 := n7_; clear n0_ n1_ n2_ n3_ n4_ n5_ n6_ n7_; clear hb hbox hg) | ((with_reducible refine gate_callee (f := 80) rfl ?_); refine goesL_ (some 14) rfl rfl Tryd.func80 (by kernel_rfl) rfl #[.pointer (some ⟨g, 0, none⟩), .int .i64 a1] rfl (by (try simp only [List.map_toArray, List.map_cons, List.map_nil]); first | done | rfl) ?_; (with_reducible refine (spec_l1Cur_pick.calls g s0_0 s0_1 s0_2 a1 t380 t381 t382 w0 _ ?side1 ?side2 A3.out).mono ?_); (case side1 => repeat ((with_reducible exact HI0.out))); (case side2 => repeat ((with_reducible exact HB.out))); rintro e w9 ⟨rfl, hi, hb, hk⟩; refine ⟨_, rfl, ?_⟩; have n0_ := Aside0.mk (KeepBut.blk hk (g' := gb379) (o := .cells #[.int .i64 0, .slice none 0 0] 39 (0, 0)) (by (with_reducible repeat (fail)); exact BK379.out) NB379_0.out (by simp)); have n1_ := Aside0.mk (KeepBut.trans (by repeat ((with_reducible exact HK.out))) hk (.inl rfl)); have n2_ := Aside0.mk (hb); have n3_ := Aside0.mk (hi); clear BK379; clear HK; clear HB; clear HI0; have BK379 := n0_; have HK := n1_; have HB := n2_; have HI0 := n3_; clear n0_ n1_ n2_ n3_; (try clear hb); (try clear hb2); (try clear hk); (try clear hi)) | ((with_reducible refine gate_dst (N := 18) rfl ?_); refine Kd.R_make (Kd.int .i64) _ 3 rfl (N := 18) rfl 24 _ _ rfl ji4 rfl rfl Tryd.underlying24 (.int .i64 0) 8 info3 rfl (by decide) (by omega) 0 (ok := fun _ => True) (okp := fun _ => True) rfl (fun _ hk => hk) trivial (of_decide_eq_true (by first | (with_reducible assumption) | assumption)) (Nat.le_trans (Nat.mul_le_mul_right _ (of_decide_eq_true (by first | (with_reducible assumption) | assumption) : ji4.toNat ≤ 35184372088832)) (by omega)) (Below.refl _ _) (Nat.le_refl _) ?_; intro v384 w10 ho11 hb hg_ hnew_; clear hg_ hnew_; (rw [← Ny383.out] at ho11); have n0_ := Aside0.mk (Kd.R_lower ho11 (keep_size (w := w) (g := g) (row := none) (by repeat ((with_reducible exact HK.out))))); have n1_ := Aside0.mk (IsS72.below (by repeat ((with_reducible exact HI0.out))) hb); have n2_ := Aside0.mk (blk_below (g := gb379) (o := .cells #[.int .i64 0, .slice none 0 0] 39 (0, 0)) (by (with_reducible repeat (fail)); exact BK379.out) hb); have n3_ := Aside0.mk (KeepBut.trans (by repeat ((with_reducible exact HK.out))) (KeepBut.of_below hb g none) (.inl rfl)); have n4_ := Aside0.mk (below_step (by repeat ((with_reducible exact HB.out))) hb); clear HI0; clear BK379; clear HK; clear HB; have HO385 := n0_; have HI0 := n1_; have BK379 := n2_; have HK := n3_; have HB := n4_; clear n0_ n1_ n2_ n3_ n4_; clear hb ho11; obtain ⟨Ao12, co12, eo12⟩ := Kd.R_slice HO385.out; subst eo12) | ((with_reducible refine gate_dst (N := 6) rfl ?_); refine box_event ?hg (N := 6) ?hd (cs := #[.int .i64 0, .slice none 0 0]) (t := 39) ?hr ?_; (case hd => rfl); (case hg => rfl); (case hr => first | (go_simp; done) | (go_simp; rfl)); intro gb386 hg w13 hbox hb; have n0_ := Aside0.mk (Kd.R_below (by (with_reducible repeat (fail)); exact HO385.out) hb); have n1_ := Aside0.mk (IsS72.below (by repeat ((with_reducible exact HI0.out))) hb); have n2_ := Aside0.mk (blk_below (g := gb379) (o := .cells #[.int .i64 0, .slice none 0 0] 39 (0, 0)) (by (with_reducible repeat (fail)); exact BK379.out) hb); have n3_ := Aside0.mk (KeepBut.trans (by repeat ((with_reducible exact HK.out))) (KeepBut.of_below hb g none) (.inl rfl)); have n4_ := Aside0.mk (below_step (by repeat ((with_reducible exact HB.out))) hb); have n5_ := Aside0.mk (hbox); have n6_ := Aside0.mk ((by rw [hg]; exact (keep_size (w := w) (g := g) (row := none) (by repeat ((with_reducible exact HK.out)))) : w.heap.size ≤ gb386)); have n7_ := Aside0.mk ((Nat.le_trans HW0.out (by rw [hg]; exact (keep_size (w := w) (g := g) (row := none) (by repeat ((with_reducible exact HK.out)))) : w.heap.size ≤ gb386) : w0.heap.size ≤ gb386)); have n8_ := Aside0.mk ((by rw [hg]; exact Nat.ne_of_lt (blk_lt (g := gb379) (o := .cells #[.int .i64 0, .slice none 0 0] 39 (0, 0)) (by (with_reducible repeat (fail)); exact BK379.out)) : gb379 ≠ gb386)); have n9_ := Aside0.mk ((by rw [hg]; exact Nat.ne_of_gt (blk_lt (g := gb379) (o := .cells #[.int .i64 0, .slice none 0 0] 39 (0, 0)) (by (with_reducible repeat (fail)); exact BK379.out)) : gb386 ≠ gb379)); have n10_ := Aside0.mk ((by rw [hg]; exact Nat.ne_of_lt (IsS72.lt (show IsS72 w0 _ g s0_0 t381 t382 from by repeat ((with_reducible exact HI0.out)))) : g ≠ gb386)); have n11_ := Aside0.mk ((by rw [hg]; exact Nat.ne_of_gt (IsS72.lt (show IsS72 w0 _ g s0_0 t381 t382 from by repeat ((with_reducible exact HI0.out)))) : gb386 ≠ g)); clear HO385; clear HI0; clear BK379; clear HK; clear HB; have HO385 := n0_; have HI0 := n1_; have BK379 := n2_; have HK := n3_; have HB := n4_; have BK386 := n5_; have GW386 := n6_; have GE386 := n7_; have NB379_386 := n8_; have NB386_379 := n9_; have NB0_386 := n10_; have NB386_0 := n11_; clear n0_ n1_ n2_ n3_ n4_ n5_ n6_ n7_ n8_ n9_ n10_ n11_; clear hb hbox hg; have hnb14 := NB386_379.out; have hnc14 := NB379_386.out; have hnb15 := NB386_0.out; have hnc15 := NB0_386.out; have hcz16_0 : w13.cell? ⟨gb386, 0, none⟩ = some (.int .i64 0) := (blk_cell BK386.out 0).trans rfl; have hcz16_1 : w13.cell? ⟨gb386, 1, none⟩ = some (.slice none 0 0) := (blk_cell BK386.out 1).trans rfl; have hfz16_0 := blk_frozen BK386.out 0; have hfz16_1 := blk_frozen BK386.out 1) | ((with_reducible refine gate_dst (N := 21) rfl ?_); refine Kd.R_lit (Kd.int .i64) _ 3 ?hg (N := 21) ?hd (xs := ([2, 3] : List Int)) (inner := [.int .i64 2, .int .i64 3]) (ok := fun _ => True) (okp := fun _ => True) ?hr ?hp (fun _ hk => hk) trivial (Below.refl _ _) (Nat.le_refl _) (by simp) ?_; (case hd => rfl); (case hg => rfl); (case hr => first | (go_simp; done) | (go_simp; rfl)); (case hp => exact (Reps.one (show Kd.M (Kd.int .i64) _ _ _ 2 [.int .i64 2] from rfl) (Reps.one (show Kd.M (Kd.int .i64) _ _ _ 3 [.int .i64 3] from rfl) (Reps.none _ _)))); intro v388 w17 ho18 hb hg_ hnew_; clear hg_ hnew_; (rw [← Ny387.out] at ho18); have n0_ := Aside0.mk (Kd.R_elder' (by (with_reducible repeat (fail)); exact (Kd.R_mono (Kd.R_far (p := ⟨gb386, 1, none⟩) (Kd.R_far (p := ⟨gb386, 0, none⟩) (Kd.R_types HO385.out BK386.out (by decide)) (fun _ hk => hk.2) (.int .i64 ji4)) (fun _ hk => hk.2) (.slice Ao12 y383.length co12)) (fun _ h_ => h_.1))) (Kd.R_base ho18) hb); have n1_ := Aside0.mk (Kd.R_lower (Kd.R_new' ho18 (Kd.R_lt (by (with_reducible repeat (fail)); exact (Kd.R_mono (Kd.R_far (p := ⟨gb386, 1, none⟩) (Kd.R_far (p := ⟨gb386, 0, none⟩) (Kd.R_types HO385.out BK386.out (by decide)) (fun _ hk => hk.2) (.int .i64 ji4)) (fun _ hk => hk.2) (.slice Ao12 y383.length co12)) (fun _ h_ => h_.1))))) (keep_size (w := w) (g := g) (row := none) (by repeat ((with_reducible first | exact HK.out | refine keep_far ?_ GW386.out _))))); have n2_ := Aside0.mk (IsS72.below (show IsS72 w0 ((w13.setCell ⟨gb386, 0, none⟩ (.int .i64 ji4)).setCell ⟨gb386, 1, none⟩ (.slice Ao12 y383.length co12)) g s0_0 t381 t382 from by repeat ((with_reducible first | exact HI0.out | refine IsS72.far ?_ NB0_386.out _))) hb); have n3_ := Aside0.mk (blk_below (g := gb379) (o := .cells #[.int .i64 0, .slice none 0 0] 39 (0, 0)) (by (with_reducible repeat (fail)); refine blk_far ?_ NB379_386.out _; (with_reducible repeat (fail)); refine blk_far ?_ NB379_386.out _; (with_reducible repeat (fail)); exact BK379.out) hb); have n4_ := Aside0.mk (blk_below (g := gb386) (o := .cells #[.int .i64 ji4, .slice Ao12 y383.length co12] 39 (0, 0)) (by (with_reducible repeat (fail)); refine blk_put (cs := #[.int .i64 ji4, .slice none 0 0]) ?_ 1 _ rfl; (with_reducible repeat (fail)); refine blk_put (cs := #[.int .i64 0, .slice none 0 0]) ?_ 0 _ rfl; (with_reducible repeat (fail)); exact BK386.out) hb); have n5_ := Aside0.mk (KeepBut.trans (by repeat ((with_reducible first | exact HK.out | refine keep_far ?_ GW386.out _))) (KeepBut.of_below hb g none) (.inl rfl)); have n6_ := Aside0.mk (below_step (by repeat ((with_reducible first | exact HB.out | refine below_set ?_ GE386.out))) hb); clear HO385; clear HI0; clear BK379; clear BK386; clear HK; clear HB; have HO385 := n0_; have HO389 := n1_; have HI0 := n2_; have BK379 := n3_; have BK386 := n4_; have HK := n5_; have HB := n6_; clear n0_ n1_ n2_ n3_ n4_ n5_ n6_; clear hb ho18; obtain ⟨Ao19, co19, eo19⟩ := Kd.R_slice HO389.out; subst eo19) | ((with_reducible refine gate_callee (f := 81) rfl ?_); refine goesL_ (some 22) rfl rfl Tryd.func81 (by kernel_rfl) rfl #[.pointer (some ⟨g, 0, none⟩), .slice Ao19 y387.length co19] rfl (by (try simp only [List.map_toArray, List.map_cons, List.map_nil]); first | done | rfl) ?_; (with_reducible refine (spec_l1Cur_among.calls g s0_0 t381 t382 _ _ y387 t390 t391 t392 w0 _ ?side1 ?side2 ?side3 ?side4 ?side5 A7.out).mono ?_); (case side1 => repeat ((with_reducible exact HI0.out))); (case side2 => repeat ((with_reducible exact HB.out))); (case side3 => repeat (exact (Kd.R_reads' HO389.out).2.2)); (case side4 => exact (Kd.R_reads' HO389.out).2.1); (case side5 => exact far_slice (IsS72.own_ne HI0.out HO389.out (by decide))); rintro e w20 ⟨rfl, hi, hb, hk⟩; refine ⟨_, rfl, ?_⟩; have n0_ := Aside0.mk (KeepBut.blk hk (g' := gb379) (o := .cells #[.int .i64 0, .slice none 0 0] 39 (0, 0)) (by (with_reducible repeat (fail)); exact BK379.out) NB379_0.out (by simp)); have n1_ := Aside0.mk (Kd.R_mono (Kd.R_keep (IsS72.apart (show IsS72 w0 _ g s0_0 t381 t382 from by repeat ((with_reducible exact HI0.out))) (by (with_reducible repeat (fail)); exact HO385.out) (by decide)) hk (fun _ h => h.2)) (fun _ h => h.1)); have n2_ := Aside0.mk (KeepBut.blk hk (g' := gb386) (o := .cells #[.int .i64 ji4, .slice Ao12 y383.length co12] 39 (0, 0)) (by (with_reducible repeat (fail)); exact BK386.out) NB386_0.out (by simp)); have n3_ := Aside0.mk (Kd.R_mono (Kd.R_keep (IsS72.apart (show IsS72 w0 _ g s0_0 t381 t382 from by repeat ((with_reducible exact HI0.out))) (by (with_reducible repeat (fail)); exact HO389.out) (by decide)) hk (fun _ h => h.2)) (fun _ h => h.1)); have n4_ := Aside0.mk (KeepBut.trans (by repeat ((with_reducible exact HK.out))) hk (.inl rfl)); have n5_ := Aside0.mk (hb); have n6_ := Aside0.mk (hi); clear BK379; clear HO385; clear BK386; clear HO389; clear HK; clear HB; clear HI0; have BK379 := n0_; have HO385 := n1_; have BK386 := n2_; have HO389 := n3_; have HK := n4_; have HB := n5_; have HI0 := n6_; clear n0_ n1_ n2_ n3_ n4_ n5_ n6_; (try clear hb); (try clear hb2); (try clear hk); (try clear hi)))
   go_loopg [8] k (fun kq v8 w' => ∃ (x8_1 : Int) (x1001_1 : Int) (x1002_1 : Int) (x387001_1 : List Int) (u387001 : Value), v8 = .int .i64 x8_1 ∧ Aside0 (spec_l1Cur_graph.l0 kq ji4 t390 x8_1 s0_0 x1001_1 x1002_1 ji4 x387001_1 = some (r1, r2, r3, r4)) ∧ Aside0 (kq ≤ k) ∧ Aside0 (Kd.R (Kd.int .i64) 3 w' w.heap.size (fun _ => True) u387001 x387001_1) ∧ Aside0 (w'.heap[gb379]? = some (.cells #[.int .i64 0, (.slice none 0 0)] 39 (0, 0))) ∧ Aside0 (w'.heap[gb386]? = some (.cells #[.int .i64 ji4, u387001] 39 (0, 0))) ∧ Aside0 (IsS72 w0 w' g s0_0 x1001_1 x1002_1) ∧ Aside0 (KeepBut w w' g none) ∧ Aside0 (Below w0.heap.size w0 w'))
   case atStart => exact ⟨(0), (t391), (t392), (y383), (.slice Ao12 y383.length co12), (by first | rfl | (simp; done) | (simp [*]; done)), H', ⟨Nat.le_refl _⟩, ⟨by (with_reducible repeat (fail)); exact Kd.R_mono HO385.out (fun _ hk => trivial)⟩, ⟨by (with_reducible repeat (fail)); exact BK379.out⟩, ⟨by (with_reducible repeat (fail)); exact BK386.out⟩, ⟨by repeat ((with_reducible exact HI0.out))⟩, ⟨by repeat ((with_reducible exact HK.out))⟩, ⟨by repeat ((with_reducible exact HB.out))⟩⟩
   case round =>
    clear H'
    clear c5b0
    clear c5b1
    clear c6b0
    clear c6b1
    clear hcz16_0
    clear hcz16_1
    clear hfz16_0
    clear hfz16_1
    obtain ⟨x8_1, x1001_1, x1002_1, x387001_1, u387001, rfl, HA, HK1, HO_387001, BK379, BK386, HI0, HK, HB⟩ := hrel
    cases gk with
    | zero => exact absurd HA.out (by simp [spec_l1Cur_graph.l0])
    | succ k1 =>
     have H := HA.out
     clear HA
     simp only [spec_l1Cur_graph.l0] at H
     by_cases c21 : x8_1 < ji4
     ·
      rw [if_pos c21] at H
      have c21b0 : decide (x8_1 < ji4) = true := decide_eq_true c21
      clear c21
      have H' := Aside0.mk H
      clear H
      go_wp2
      go_loopg [9] k1 (fun kq v9 w' => ∃ (x9_2 : Int) (x1001_2 : Int) (x1002_2 : Int) (x387001_2 : List Int) (u387001 : Value), v9 = .int .i64 x9_2 ∧ Aside0 (spec_l1Cur_graph.l1 kq ji4 t390 x8_1 x9_2 s0_0 x1001_2 x1002_2 ji4 x387001_2 = some (r1, r2, r3, r4)) ∧ Aside0 (kq ≤ k1) ∧ Aside0 (Kd.R (Kd.int .i64) 3 w' w.heap.size (fun _ => True) u387001 x387001_2) ∧ Aside0 (w'.heap[gb379]? = some (.cells #[.int .i64 0, (.slice none 0 0)] 39 (0, 0))) ∧ Aside0 (w'.heap[gb386]? = some (.cells #[.int .i64 ji4, u387001] 39 (0, 0))) ∧ Aside0 (IsS72 w0 w' g s0_0 x1001_2 x1002_2) ∧ Aside0 (KeepBut w w' g none) ∧ Aside0 (Below w0.heap.size w0 w'))
      case atStart => exact ⟨(0), (x1001_1), (x1002_1), (x387001_1), (u387001), (by first | rfl | (simp; done) | (simp [*]; done)), H', ⟨Nat.le_refl _⟩, ⟨by (with_reducible repeat (fail)); exact HO_387001.out⟩, ⟨by (with_reducible repeat (fail)); exact BK379.out⟩, ⟨by (with_reducible repeat (fail)); exact BK386.out⟩, ⟨by repeat ((with_reducible exact HI0.out))⟩, ⟨by repeat ((with_reducible exact HK.out))⟩, ⟨by repeat ((with_reducible exact HB.out))⟩⟩
      case round =>
       clear H'
       clear c21b0
       obtain ⟨x9_2, x1001_2, x1002_2, x387001_2, u387001, rfl, HA, HK2, HO_387001, BK379, BK386, HI0, HK, HB⟩ := hrel
       cases gk with
       | zero => exact absurd HA.out (by simp [spec_l1Cur_graph.l1])
       | succ k2 =>
        have H := HA.out
        clear HA
        simp only [spec_l1Cur_graph.l1] at H
        by_cases c22 : x9_2 < x8_1
        ·
         rw [if_pos c22] at H
         have c22b0 : decide (x9_2 < x8_1) = true := decide_eq_true c22
         clear c22
         replace H := Option.bind_eq_some_iff.mp H
         obtain ⟨⟨t393, t394, t395⟩, A230, H⟩ := H
         replace H : (if t393 = true then ((spec_deJoin.f x387001_2 x8_1 x9_2).bind fun t396 => (spec_l1Cur_graph.l1 k2 ji4 t390 x8_1 (wrap64 (x9_2 + 1)) s0_0 t394 t395 ji4 t396)) else (spec_l1Cur_graph.l1 k2 ji4 t390 x8_1 (wrap64 (x9_2 + 1)) s0_0 t394 t395 ji4 x387001_2)) = some (r1, r2, r3, r4) := H
         have A23 := Aside0.mk A230
         clear A230
         by_cases c24 : t393 = true
         ·
          subst c24
          have H1 : ((spec_deJoin.f x387001_2 x8_1 x9_2).bind fun t396 => (spec_l1Cur_graph.l1 k2 ji4 t390 x8_1 (wrap64 (x9_2 + 1)) s0_0 t394 t395 ji4 t396)) = some (r1, r2, r3, r4) := by rw [if_pos rfl] at H; exact H
          clear H
          have H := H1
          clear H1
          replace H := Option.bind_eq_some_iff.mp H
          obtain ⟨t396, A250, H⟩ := H
          replace H : (spec_l1Cur_graph.l1 k2 ji4 t390 x8_1 (wrap64 (x9_2 + 1)) s0_0 t394 t395 ji4 t396) = some (r1, r2, r3, r4) := H
          have A25 := Aside0.mk A250
          clear A250
          have H' := Aside0.mk H
          clear H
          go_wp2_with (first | ((with_reducible refine gate_callee (f := 82) rfl ?_); refine goesL_ (some 35) rfl rfl Tryd.func82 (by kernel_rfl) rfl #[.pointer (some ⟨g, 0, none⟩), .int .i64 t390] rfl (by (try simp only [List.map_toArray, List.map_cons, List.map_nil]); first | done | rfl) ?_; (with_reducible refine (spec_l1Cur_one.calls g s0_0 x1001_2 x1002_2 t390 true t394 t395 w0 _ ?side1 ?side2 A23.out).mono ?_); (case side1 => repeat ((with_reducible exact HI0.out))); (case side2 => repeat ((with_reducible exact HB.out))); rintro e w26 ⟨rfl, hi, hb, hk⟩; refine ⟨_, rfl, ?_⟩; have n0_ := Aside0.mk (Kd.R_mono (Kd.R_keep (IsS72.apart (show IsS72 w0 _ g s0_0 x1001_2 x1002_2 from by repeat ((with_reducible exact HI0.out))) (by (with_reducible repeat (fail)); exact HO_387001.out) (by decide)) hk (fun _ h => h.2)) (fun _ h => h.1)); have n1_ := Aside0.mk (KeepBut.blk hk (g' := gb379) (o := .cells #[.int .i64 0, .slice none 0 0] 39 (0, 0)) (by (with_reducible repeat (fail)); exact BK379.out) NB379_0.out (by simp)); have n2_ := Aside0.mk (KeepBut.blk hk (g' := gb386) (o := .cells #[.int .i64 ji4, u387001] 39 (0, 0)) (by (with_reducible repeat (fail)); exact BK386.out) NB386_0.out (by simp)); have n3_ := Aside0.mk (KeepBut.trans (by repeat ((with_reducible exact HK.out))) hk (.inl rfl)); have n4_ := Aside0.mk (hb); have n5_ := Aside0.mk (hi); clear HO_387001; clear BK379; clear BK386; clear HK; clear HB; clear HI0; have HO_387001 := n0_; have BK379 := n1_; have BK386 := n2_; have HK := n3_; have HB := n4_; have HI0 := n5_; clear n0_ n1_ n2_ n3_ n4_ n5_; (try clear hb); (try clear hb2); (try clear hk); (try clear hi); have hnb27 := NB386_379.out; have hnc27 := NB379_386.out; have hnb28 := NB386_0.out; have hnc28 := NB0_386.out; have hcz29_0 : w26.cell? ⟨gb386, 0, none⟩ = some (.int .i64 ji4) := (blk_cell BK386.out 0).trans rfl; have hcz29_1 : w26.cell? ⟨gb386, 1, none⟩ = some (u387001) := (blk_cell BK386.out 1).trans rfl; have hfz29_0 := blk_frozen BK386.out 0; have hfz29_1 := blk_frozen BK386.out 1; obtain ⟨Ao30, co30, eo30⟩ := Kd.R_slice HO_387001.out; subst eo30) | ((with_reducible refine gate_callee (f := 56) rfl ?_); refine goesL_ (some 40) rfl rfl Tryd.func56 (by kernel_rfl) rfl #[.slice Ao30 x387001_2.length co30, .int .i64 x8_1, .int .i64 x9_2] rfl (by (try simp only [List.map_toArray, List.map_cons, List.map_nil]); first | done | rfl) ?_; (with_reducible refine (spec_deJoin.calls (fun k_ => some k_ = (.slice Ao30 x387001_2.length co30 : Value).ownBlock) (.slice Ao30 x387001_2.length co30) x387001_2 x8_1 x9_2 t396 w0 _ ?side1 ?side2 A25.out).mono ?_); (case side1 => repeat ((with_reducible exact HB.out))); (case side2 => exact Kd.R_lower (Kd.R_tight rfl HO_387001.out) HL.out); rintro e w31 ⟨rfl, hy0, hb, hkp⟩; refine ⟨_, rfl, ?_⟩; have n0_ := Aside0.mk (Kd.R_reok rfl (Kd.R_raise (d := (Kd.int .i64)) (b := w0.heap.size) (b' := w.heap.size) (fun _ _ _ _ h_ => h_) hy0 (fun k_ e_ => Or.elim (hy0.1 k_ e_) (fun hs_ => (fun e_ => Kd.R_base HO_387001.out k_ e_.symm) hs_) (fun hn_ => Nat.le_trans (keep_size (w := w) (g := g) (row := none) (by repeat ((with_reducible exact HK.out)))) hn_))) (fun k_ e_ => HO_387001.out.1 k_ e_)); have n1_ := Aside0.mk (blk_kept (by (with_reducible repeat (fail)); exact BK379.out) hkp (fun hs_ => (fun e_ => (Kd.R_ne HO_387001.out BK379.out (by decide)) e_) hs_)); have n2_ := Aside0.mk (blk_kept (by (with_reducible repeat (fail)); exact BK386.out) hkp (fun hs_ => (fun e_ => (Kd.R_ne HO_387001.out BK386.out (by decide)) e_) hs_)); have n3_ := Aside0.mk (IsS72.kept (by repeat ((with_reducible exact HI0.out))) hkp (fun hs_ => (fun e_ => (IsS72.own_ne HI0.out HO_387001.out (by decide)) e_) hs_)); have n4_ := Aside0.mk (Kept.keepG (by repeat ((with_reducible exact HK.out))) hkp (fun k_ hs_ => (fun e_ => .inr (Kd.R_base HO_387001.out k_ e_.symm)) hs_)); have n5_ := Aside0.mk (hb); clear HO_387001; clear BK379; clear BK386; clear HI0; clear HK; clear HB; have HO_387001 := n0_; have BK379 := n1_; have BK386 := n2_; have HI0 := n3_; have HK := n4_; have HB := n5_; clear n0_ n1_ n2_ n3_ n4_ n5_; (try clear hb); (try clear hkp); (try clear hy0)))
          go_roundg k2
          case measure => have := HK1.out; have := HK2.out; omega
          case rel => exact ⟨(wrap64 (x9_2 + 1)), (t394), (t395), (t396), (.slice Ao30 x387001_2.length co30), (by first | rfl | (simp; done) | (simp [*]; done)), H', ⟨by have := HK1.out; have := HK2.out; omega⟩, ⟨by (with_reducible repeat (fail)); exact HO_387001.out⟩, ⟨by (with_reducible repeat (fail)); exact BK379.out⟩, ⟨by (with_reducible repeat (fail)); exact BK386.out⟩, ⟨by repeat ((with_reducible exact HI0.out))⟩, ⟨by repeat ((with_reducible exact HK.out))⟩, ⟨by repeat ((with_reducible exact HB.out))⟩⟩
         ·
          replace c24 := Bool.eq_false_iff.mpr c24
          subst c24
          have H1 : (spec_l1Cur_graph.l1 k2 ji4 t390 x8_1 (wrap64 (x9_2 + 1)) s0_0 t394 t395 ji4 x387001_2) = some (r1, r2, r3, r4) := by rw [if_neg (show ¬ (false = true) by decide)] at H; exact H
          clear H
          have H := H1
          clear H1
          have H' := Aside0.mk H
          clear H
          go_wp2_with (((with_reducible refine gate_callee (f := 82) rfl ?_); refine goesL_ (some 35) rfl rfl Tryd.func82 (by kernel_rfl) rfl #[.pointer (some ⟨g, 0, none⟩), .int .i64 t390] rfl (by (try simp only [List.map_toArray, List.map_cons, List.map_nil]); first | done | rfl) ?_; (with_reducible refine (spec_l1Cur_one.calls g s0_0 x1001_2 x1002_2 t390 false t394 t395 w0 _ ?side1 ?side2 A23.out).mono ?_); (case side1 => repeat ((with_reducible exact HI0.out))); (case side2 => repeat ((with_reducible exact HB.out))); rintro e w32 ⟨rfl, hi, hb, hk⟩; refine ⟨_, rfl, ?_⟩; have n0_ := Aside0.mk (Kd.R_mono (Kd.R_keep (IsS72.apart (show IsS72 w0 _ g s0_0 x1001_2 x1002_2 from by repeat ((with_reducible exact HI0.out))) (by (with_reducible repeat (fail)); exact HO_387001.out) (by decide)) hk (fun _ h => h.2)) (fun _ h => h.1)); have n1_ := Aside0.mk (KeepBut.blk hk (g' := gb379) (o := .cells #[.int .i64 0, .slice none 0 0] 39 (0, 0)) (by (with_reducible repeat (fail)); exact BK379.out) NB379_0.out (by simp)); have n2_ := Aside0.mk (KeepBut.blk hk (g' := gb386) (o := .cells #[.int .i64 ji4, u387001] 39 (0, 0)) (by (with_reducible repeat (fail)); exact BK386.out) NB386_0.out (by simp)); have n3_ := Aside0.mk (KeepBut.trans (by repeat ((with_reducible exact HK.out))) hk (.inl rfl)); have n4_ := Aside0.mk (hb); have n5_ := Aside0.mk (hi); clear HO_387001; clear BK379; clear BK386; clear HK; clear HB; clear HI0; have HO_387001 := n0_; have BK379 := n1_; have BK386 := n2_; have HK := n3_; have HB := n4_; have HI0 := n5_; clear n0_ n1_ n2_ n3_ n4_ n5_; (try clear hb); (try clear hb2); (try clear hk); (try clear hi)))
          go_roundg k2
          case measure => have := HK1.out; have := HK2.out; omega
          case rel => exact ⟨(wrap64 (x9_2 + 1)), (t394), (t395), (x387001_2), (u387001), (by first | rfl | (simp; done) | (simp [*]; done)), H', ⟨by have := HK1.out; have := HK2.out; omega⟩, ⟨by (with_reducible repeat (fail)); exact HO_387001.out⟩, ⟨by (with_reducible repeat (fail)); exact BK379.out⟩, ⟨by (with_reducible repeat (fail)); exact BK386.out⟩, ⟨by repeat ((with_reducible exact HI0.out))⟩, ⟨by repeat ((with_reducible exact HK.out))⟩, ⟨by repeat ((with_reducible exact HB.out))⟩⟩
        ·
         rw [if_neg c22] at H
         have c22b0 : decide (x9_2 < x8_1) = false := decide_eq_false c22
         clear c22
         have H' := Aside0.mk H
         clear H
         go_wp2
         go_roundg k2
         case measure => have := HK1.out; have := HK2.out; omega
         case rel => exact ⟨(wrap64 (x8_1 + 1)), (x1001_2), (x1002_2), (x387001_2), (u387001), (by first | rfl | (simp; done) | (simp [*]; done)), H', ⟨by have := HK1.out; have := HK2.out; omega⟩, ⟨by (with_reducible repeat (fail)); exact HO_387001.out⟩, ⟨by (with_reducible repeat (fail)); exact BK379.out⟩, ⟨by (with_reducible repeat (fail)); exact BK386.out⟩, ⟨by repeat ((with_reducible exact HI0.out))⟩, ⟨by repeat ((with_reducible exact HK.out))⟩, ⟨by repeat ((with_reducible exact HB.out))⟩⟩
     ·
      rw [if_neg c21] at H
      have c21b0 : decide (x8_1 < ji4) = false := decide_eq_false c21
      clear c21
      replace H := Option.bind_eq_some_iff.mp H
      obtain ⟨⟨t397, t398, t399⟩, A330, H⟩ := H
      replace H : (if t397 = true then (spec_l1Cur_graph.l2 k1 ji4 ([] : List Int) 0 s0_0 t398 t399) else (spec_l1Cur_graph.j3 k1 ji4 s0_0 t398 t399 ji4 x387001_1)) = some (r1, r2, r3, r4) := H
      have A33 := Aside0.mk A330
      clear A330
      have HC34 := Aside0.mk H
      clear H
      go_upto_if 42 with (((with_reducible refine gate_callee (f := 82) rfl ?_); refine goesL_ (some 42) rfl rfl Tryd.func82 (by kernel_rfl) rfl #[.pointer (some ⟨g, 0, none⟩), .int .i64 4] rfl (by (try simp only [List.map_toArray, List.map_cons, List.map_nil]); first | done | rfl) ?_; (with_reducible refine (spec_l1Cur_one.calls g s0_0 x1001_1 x1002_1 4 t397 t398 t399 w0 _ ?side1 ?side2 A33.out).mono ?_); (case side1 => repeat ((with_reducible exact HI0.out))); (case side2 => repeat ((with_reducible exact HB.out))); rintro e w35 ⟨rfl, hi, hb, hk⟩; refine ⟨_, rfl, ?_⟩; have n0_ := Aside0.mk (Kd.R_mono (Kd.R_keep (IsS72.apart (show IsS72 w0 _ g s0_0 x1001_1 x1002_1 from by repeat ((with_reducible exact HI0.out))) (by (with_reducible repeat (fail)); exact HO_387001.out) (by decide)) hk (fun _ h => h.2)) (fun _ h => h.1)); have n1_ := Aside0.mk (KeepBut.blk hk (g' := gb379) (o := .cells #[.int .i64 0, .slice none 0 0] 39 (0, 0)) (by (with_reducible repeat (fail)); exact BK379.out) NB379_0.out (by simp)); have n2_ := Aside0.mk (KeepBut.blk hk (g' := gb386) (o := .cells #[.int .i64 ji4, u387001] 39 (0, 0)) (by (with_reducible repeat (fail)); exact BK386.out) NB386_0.out (by simp)); have n3_ := Aside0.mk (KeepBut.trans (by repeat ((with_reducible exact HK.out))) hk (.inl rfl)); have n4_ := Aside0.mk (hb); have n5_ := Aside0.mk (hi); clear HO_387001; clear BK379; clear BK386; clear HK; clear HB; clear HI0; have HO_387001 := n0_; have BK379 := n1_; have BK386 := n2_; have HK := n3_; have HB := n4_; have HI0 := n5_; clear n0_ n1_ n2_ n3_ n4_ n5_; (try clear hb); (try clear hb2); (try clear hk); (try clear hi)))
      (try simp only [Act.put, List.setIfInBounds_toArray, List.set_cons_zero, List.set_cons_succ])
      go_cut [] (fun wc => ∃ (kq : Nat) (x1001_33 : Int) (x1002_33 : Int) (x387000_33 : Int) (x387001_33 : List Int) (u387001 : Value), Aside0 (spec_l1Cur_graph.j3 kq ji4 s0_0 x1001_33 x1002_33 x387000_33 x387001_33 = some (r1, r2, r3, r4)) ∧ Aside0 (kq ≤ k1) ∧ Aside0 (Kd.R (Kd.int .i64) 3 wc w.heap.size (fun _ => True) u387001 x387001_33) ∧ Aside0 (wc.heap[gb379]? = some (.cells #[.int .i64 0, (.slice none 0 0)] 39 (0, 0))) ∧ Aside0 (wc.heap[gb386]? = some (.cells #[.int .i64 x387000_33, u387001] 39 (0, 0))) ∧ Aside0 (IsS72 w0 wc g s0_0 x1001_33 x1002_33) ∧ Aside0 (KeepBut w wc g none) ∧ Aside0 (Below w0.heap.size w0 wc))
      case first =>
       have H := HC34.out
       clear HC34
       by_cases c36 : t397 = true
       ·
        subst c36
        have H1 : (spec_l1Cur_graph.l2 k1 ji4 ([] : List Int) 0 s0_0 t398 t399) = some (r1, r2, r3, r4) := by rw [if_pos rfl] at H; exact H
        clear H
        have H := H1
        clear H1
        have H' := Aside0.mk H
        clear H
        go_wp2
        go_loopg [10, 11] k1 (fun kq v10 v11 w' => ∃ (x10_2 : List Int) (x11_2 : Int) (x1001_2 : Int) (x1002_2 : Int), v11 = .int .i64 x11_2 ∧ Aside0 (spec_l1Cur_graph.l2 kq ji4 x10_2 x11_2 s0_0 x1001_2 x1002_2 = some (r1, r2, r3, r4)) ∧ Aside0 (kq ≤ k1) ∧ Aside0 (Kd.R (Kd.int .i64) 3 w' w.heap.size (fun k_ => some k_ ≠ (u387001 : Value).ownBlock) v10 x10_2) ∧ Aside0 (Kd.R (Kd.int .i64) 3 w' w.heap.size (fun k_ => some k_ ≠ (v10 : Value).ownBlock) u387001 x387001_1) ∧ Aside0 (w'.heap[gb379]? = some (.cells #[.int .i64 0, (.slice none 0 0)] 39 (0, 0))) ∧ Aside0 (w'.heap[gb386]? = some (.cells #[.int .i64 ji4, u387001] 39 (0, 0))) ∧ Aside0 (IsS72 w0 w' g s0_0 x1001_2 x1002_2) ∧ Aside0 (KeepBut w w' g none) ∧ Aside0 (Below w0.heap.size w0 w'))
        case atStart => exact ⟨(([] : List Int)), (0), (t398), (t399), (by first | rfl | (simp; done) | (simp [*]; done)), H', ⟨Nat.le_refl _⟩, ⟨by first | exact Kd.R_nil _ _ _ _ _ | exact Kd.N_nil _ _ _ _ _ | exact Kd.V_nil _ _ _ _ _ | exact Kd.Q_nil _ _ _ _ _ | exact Kd.S_nil _ _ _ _ _⟩, ⟨by (with_reducible repeat (fail)); exact Kd.R_mono HO_387001.out (fun _ hk => (by simp [Value.ownBlock]))⟩, ⟨by (with_reducible repeat (fail)); exact BK379.out⟩, ⟨by (with_reducible repeat (fail)); exact BK386.out⟩, ⟨by repeat ((with_reducible exact HI0.out))⟩, ⟨by repeat ((with_reducible exact HK.out))⟩, ⟨by repeat ((with_reducible exact HB.out))⟩⟩
        case round =>
         clear H'
         clear c21b0
         obtain ⟨x10_2, x11_2, x1001_2, x1002_2, rfl, HA, HK2, HO_10, HO_387001, BK379, BK386, HI0, HK, HB⟩ := hrel
         cases gk with
         | zero => exact absurd HA.out (by simp [spec_l1Cur_graph.l2])
         | succ k2 =>
          have H := HA.out
          clear HA
          simp only [spec_l1Cur_graph.l2] at H
          by_cases c37 : x11_2 < ji4
          ·
           rw [if_pos c37] at H
           have c37b0 : decide (x11_2 < ji4) = true := decide_eq_true c37
           clear c37
           (skip)
           replace H := Option.bind_eq_some_iff.mp H
           obtain ⟨⟨t400, t401, t402⟩, A380, H⟩ := H
           replace H : (if x10_2.length < 17592186044416 then (spec_l1Cur_graph.l2 k2 ji4 (x10_2 ++ [t400]) (wrap64 (x11_2 + 1)) s0_0 t401 t402) else (none)) = some (r1, r2, r3, r4) := H
           have A38 := Aside0.mk A380
           clear A380
           by_cases c39 : x10_2.length < 17592186044416
           ·
            rw [if_pos c39] at H
            have LMc39 := Aside0.mk c39
            clear c39
            obtain ⟨y403, hy403⟩ : ∃ y_ : List Int, y_ = (x10_2 ++ [t400]) := ⟨_, rfl⟩
            replace H : (spec_l1Cur_graph.l2 k2 ji4 y403 (wrap64 (x11_2 + 1)) s0_0 t401 t402) = some (r1, r2, r3, r4) := by first | (rw [hy403]; with_reducible exact H) | (have H2_ := (Option.bind_some _ _).symm.trans H; rw [hy403]; with_reducible exact H2_) | (have H2_ := (Option.bind_some _ _).symm.trans H; with_reducible exact H2_) | with_reducible exact H | (rw [hy403]; exact H) | exact H
            have Ny403 := Aside0.mk hy403
            clear hy403
            have H' := Aside0.mk H
            clear H
            go_wp2_with (first | ((with_reducible refine gate_callee (f := 80) rfl ?_); refine goesL_ (some 50) rfl rfl Tryd.func80 (by kernel_rfl) rfl #[.pointer (some ⟨g, 0, none⟩), .int .i64 2] rfl (by (try simp only [List.map_toArray, List.map_cons, List.map_nil]); first | done | rfl) ?_; (with_reducible refine (spec_l1Cur_pick.calls g s0_0 x1001_2 x1002_2 2 t400 t401 t402 w0 _ ?side1 ?side2 A38.out).mono ?_); (case side1 => repeat ((with_reducible exact HI0.out))); (case side2 => repeat ((with_reducible exact HB.out))); rintro e w40 ⟨rfl, hi, hb, hk⟩; refine ⟨_, rfl, ?_⟩; have n0_ := Aside0.mk (Kd.R_mono (Kd.R_keep (IsS72.apart (show IsS72 w0 _ g s0_0 x1001_2 x1002_2 from by repeat ((with_reducible exact HI0.out))) (by (with_reducible repeat (fail)); exact HO_10.out) (by decide)) hk (fun _ h => h.2)) (fun _ h => h.1)); have n1_ := Aside0.mk (Kd.R_mono (Kd.R_keep (IsS72.apart (show IsS72 w0 _ g s0_0 x1001_2 x1002_2 from by repeat ((with_reducible exact HI0.out))) (by (with_reducible repeat (fail)); exact HO_387001.out) (by decide)) hk (fun _ h => h.2)) (fun _ h => h.1)); have n2_ := Aside0.mk (KeepBut.blk hk (g' := gb379) (o := .cells #[.int .i64 0, .slice none 0 0] 39 (0, 0)) (by (with_reducible repeat (fail)); exact BK379.out) NB379_0.out (by simp)); have n3_ := Aside0.mk (KeepBut.blk hk (g' := gb386) (o := .cells #[.int .i64 ji4, u387001] 39 (0, 0)) (by (with_reducible repeat (fail)); exact BK386.out) NB386_0.out (by simp)); have n4_ := Aside0.mk (KeepBut.trans (by repeat ((with_reducible exact HK.out))) hk (.inl rfl)); have n5_ := Aside0.mk (hb); have n6_ := Aside0.mk (hi); clear HO_10; clear HO_387001; clear BK379; clear BK386; clear HK; clear HB; clear HI0; have HO_10 := n0_; have HO_387001 := n1_; have BK379 := n2_; have BK386 := n3_; have HK := n4_; have HB := n5_; have HI0 := n6_; clear n0_ n1_ n2_ n3_ n4_ n5_ n6_; (try clear hb); (try clear hb2); (try clear hk); (try clear hi)) | ((with_reducible refine gate_builtin (b := .append) (xs := #[.tmp 48, .tmp 51]) rfl ?_); at_builtin; refine Kd.R_append (Kd.int .i64) w.heap.size rfl (.tmp 48) (.tmp 51) 24 3 (.int .i64 0) 8 rfl Tryd.underlying24 info3 rfl (by decide) (by omega) u10 x10_2 t400 [.int .i64 t400] (fun k_ => some k_ ≠ (u387001 : Value).ownBlock) (fun _ => False) rfl rfl ?aP (fun _ hk => hk.elim) ?aF ?aO (Below.refl _ _) ?aS ?aL ?_; (case aP => exact rfl); (case aF => exact (fun k_ hk => Kd.fresh' (Kd.R_lt (by (with_reducible repeat (fail)); exact HO_387001.out)) k_ hk)); (case aO => exact (by (with_reducible repeat (fail)); exact HO_10.out)); (case aS => exact (keep_size (w := w) (g := g) (row := none) (by repeat ((with_reducible exact HK.out))))); (case aL => have := LMc39.out; omega); intro v404 w41 ho hb hg hat; rw [← Ny403.out] at ho; have n0_ := Aside0.mk (Kd.R_after (ok := (fun _ => True)) (by (with_reducible repeat (fail)); exact Kd.R_mono HO_387001.out (fun _ hk => ⟨trivial, hk⟩)) hg hat); have n1_ := Aside0.mk (blk_grown (g := gb379) (o := .cells #[.int .i64 0, .slice none 0 0] 39 (0, 0)) (by (with_reducible repeat (fail)); exact BK379.out) hg (Kd.R_ne HO_10.out BK379.out (by decide))); have n2_ := Aside0.mk (blk_grown (g := gb386) (o := .cells #[.int .i64 ji4, u387001] 39 (0, 0)) (by (with_reducible repeat (fail)); exact BK386.out) hg (Kd.R_ne HO_10.out BK386.out (by decide))); have n3_ := Aside0.mk (IsS72.grown (by repeat ((with_reducible exact HI0.out))) hg (IsS72.own_ne HI0.out HO_10.out (by decide))); have n4_ := Aside0.mk (below_weaken (by repeat ((with_reducible exact HB.out))) HL.out hb); have n5_ := Aside0.mk (KeepBut.trans (by repeat ((with_reducible exact HK.out))) (KeepBut.of_grown hg g) (Kd.R_base2 HO_10.out)); have n6_ := Aside0.mk (ho); clear HO_387001; clear BK379; clear BK386; clear HI0; clear HB; clear HK; clear HO_10; have HO_387001 := n0_; have BK379 := n1_; have BK386 := n2_; have HI0 := n3_; have HB := n4_; have HK := n5_; have HO405 := n6_; clear n0_ n1_ n2_ n3_ n4_ n5_ n6_; clear ho hb hg hat))
            go_roundg k2
            case measure => have := HK1.out; have := HK2.out; omega
            case rel => exact ⟨(y403), (wrap64 (x11_2 + 1)), (t401), (t402), (by first | rfl | (simp; done) | (simp [*]; done)), H', ⟨by have := HK1.out; have := HK2.out; omega⟩, ⟨by (with_reducible repeat (fail)); exact HO405.out⟩, ⟨by (with_reducible repeat (fail)); exact Kd.R_mono HO_387001.out (fun _ hk => hk.2)⟩, ⟨by (with_reducible repeat (fail)); exact BK379.out⟩, ⟨by (with_reducible repeat (fail)); exact BK386.out⟩, ⟨by repeat ((with_reducible exact HI0.out))⟩, ⟨by repeat ((with_reducible exact HK.out))⟩, ⟨by repeat ((with_reducible exact HB.out))⟩⟩
           ·
            rw [if_neg c39] at H
            exact absurd H (by simp)
          ·
           rw [if_neg c37] at H
           have c37b0 : decide (x11_2 < ji4) = false := decide_eq_false c37
           clear c37
           (skip)
           by_cases c42 : 0 < (x10_2.length : Int)
           ·
            rw [if_pos c42] at H
            have c42b0 : decide (0 < (x10_2.length : Int)) = true := decide_eq_true c42
            have c42b1 : decide (0 < x10_2.length) = true := decide_eq_true (by omega)
            clear c42
            obtain ⟨y406, hy406⟩ : ∃ y_ : List Int, y_ = (x10_2.set (0 : Int).toNat 0) := ⟨_, rfl⟩
            replace H : ((spec_deGrow.f k2 y406).bind fun bt407 => (spec_l1Cur_graph.j3 k2 ji4 s0_0 x1001_2 x1002_2 bt407.1 bt407.2)) = some (r1, r2, r3, r4) := by first | (rw [hy406]; with_reducible exact H) | (have H2_ := (Option.bind_some _ _).symm.trans H; rw [hy406]; with_reducible exact H2_) | (have H2_ := (Option.bind_some _ _).symm.trans H; with_reducible exact H2_) | with_reducible exact H | (rw [hy406]; exact H) | exact H
            have Ny406 := Aside0.mk hy406
            clear hy406
            replace H := Option.bind_eq_some_iff.mp H
            obtain ⟨⟨t407, t408⟩, A440, H⟩ := H
            replace H : (spec_l1Cur_graph.j3 k2 ji4 s0_0 x1001_2 x1002_2 t407 t408) = some (r1, r2, r3, r4) := H
            have A44 := Aside0.mk A440
            clear A440
            have H' := Aside0.mk H
            clear H
            have p43 : 0 ≤ (0 : Int) := (by omega)
            have q43 : (0 : Int) < ((x10_2.length : Int) : Int) := of_decide_eq_true (by first | (with_reducible assumption) | assumption)
            have qi43 : (0 < x10_2.length) = True := eq_true (by omega)
            obtain ⟨go43, co43, eo43, gb43, gl43, cl43, HG43⟩ := Kd.R_form HO_10.out (by omega)
            (cases eo43)
            have GB43 := Aside0.mk gb43
            have GG43 := Aside0.mk HG43
            clear gb43 gl43 HG43
            obtain ⟨hx43_0, hf43_0⟩ := Kd.R_celln 0 HO_10.out (0 : Int) p43 q43
            (try rw [show ((0 : Int)).toNat = 0 from rfl] at hx43_0)
            (try simp only [Nat.reduceMul, Nat.zero_mul, Nat.zero_add, Nat.reduceAdd] at hx43_0)
            (try rw [show ((0 : Int)).toNat = 0 from rfl] at hf43_0)
            (try simp only [Nat.reduceMul, Nat.zero_mul, Nat.zero_add, Nat.reduceAdd] at hf43_0)
            replace p43 := eq_true p43
            replace q43 := eq_true q43
            have HP45 := Kd.R_putg HO_10.out (0 : Int) 0
            go_wp2_with (first | ((with_reducible refine gate_store (t := 3) (p := 54) rfl ?_); refine store_event (t := 3) (p := 54) (v := ?vo_w46) (w1 := (wr.setCell ⟨go43, (0 : Int).toNat, none⟩ (.int .i64 0))) ?hg ?ho ?hn ?hr ?_; (case ho => rfl); (case hg => rfl); (case hn => rfl); (case hr => first | (go_simp; done) | (go_simp; rfl)); intro w46 hw; have hg : wr.grownBy w46 (some go43) := (by rw [hw]; exact HP45.2); have hp_ : Kd.R (Kd.int .i64) 3 w46 w.heap.size (fun k_ => some k_ ≠ (u387001 : Value).ownBlock) (.slice (some ⟨go43, 0, none⟩) x10_2.length co43) y406 := (by rw [hw, Ny406.out]; exact HP45.1); clear HP45; have n0_ := Aside0.mk (hp_); have n1_ := Aside0.mk (Kd.R_after (v := (.slice (some ⟨go43, 0, none⟩) x10_2.length co43)) (v1 := (.slice (some ⟨go43, 0, none⟩) x10_2.length co43)) (ok := (fun _ => True)) (by (with_reducible repeat (fail)); exact Kd.R_mono HO_387001.out (fun _ hk => ⟨trivial, hk⟩)) hg (.inl rfl)); have n2_ := Aside0.mk (blk_grown (g := gb379) (o := .cells #[.int .i64 0, .slice none 0 0] 39 (0, 0)) (by (with_reducible repeat (fail)); exact BK379.out) hg (Kd.R_ne HO_10.out BK379.out (by decide))); have n3_ := Aside0.mk (blk_grown (g := gb386) (o := .cells #[.int .i64 ji4, u387001] 39 (0, 0)) (by (with_reducible repeat (fail)); exact BK386.out) hg (Kd.R_ne HO_10.out BK386.out (by decide))); have n4_ := Aside0.mk (IsS72.grown (by repeat ((with_reducible exact HI0.out))) hg (IsS72.own_ne HI0.out HO_10.out (by decide))); have n5_ := Aside0.mk ((by rw [hw]; exact below_set (HB.out) (Nat.le_trans HL.out GB43.out) : Below w0.heap.size w0 w46)); have n6_ := Aside0.mk (KeepBut.trans (by repeat ((with_reducible exact HK.out))) (KeepBut.of_grown hg g) (Kd.R_base2 HO_10.out)); clear HO_10; clear HO_387001; clear BK379; clear BK386; clear HI0; clear HB; clear HK; have HO_10 := n0_; have HO_387001 := n1_; have BK379 := n2_; have BK386 := n3_; have HI0 := n4_; have HB := n5_; have HK := n6_; clear n0_ n1_ n2_ n3_ n4_ n5_ n6_; clear hg hw hp_) | ((with_reducible refine gate_callee (f := 101) rfl ?_); refine goesL_ (some 56) rfl rfl Tryd.func101 (by kernel_rfl) rfl #[.slice (some ⟨go43, 0, none⟩) y406.length co43] rfl (by (try simp only [List.map_toArray, List.map_cons, List.map_nil]); first | done | (rw [show y406.length = x10_2.length from (Kd.R_reads' HO_10.out).1.symm] <;> rfl) | rfl | (simp only [List.length_drop, List.length_take]; rfl)) ?_; (with_reducible refine (spec_deGrow.calls k2 _ _ y406 t407 t408 _ ?side1 ?side2 A44.out).mono ?_); (case side1 => repeat (exact (Kd.R_reads' HO_10.out).2.2)); (case side2 => rw [show y406.length = x10_2.length from (Kd.R_reads' HO_10.out).1.symm]; exact (Kd.R_reads' HO_10.out).2.1); rintro e w47 ⟨v409, rfl, ho0, hb⟩; refine ⟨_, rfl, ?_⟩; have n0_ := Aside0.mk (Kd.R_elder' (by (with_reducible repeat (fail)); exact HO_10.out) (Kd.R_base ho0) hb); have n1_ := Aside0.mk (Kd.R_elder' (by (with_reducible repeat (fail)); exact HO_387001.out) (Kd.R_base ho0) hb); have n2_ := Aside0.mk (Kd.R_lower (Kd.R_new' (Kd.R_new' ho0 (Kd.R_lt (by (with_reducible repeat (fail)); exact HO_10.out))) (Kd.R_lt (by (with_reducible repeat (fail)); exact HO_387001.out))) (keep_size (w := w) (g := g) (row := none) (by repeat ((with_reducible exact HK.out))))); have n3_ := Aside0.mk (blk_below (g := gb379) (o := .cells #[.int .i64 0, .slice none 0 0] 39 (0, 0)) (by (with_reducible repeat (fail)); exact BK379.out) hb); have n4_ := Aside0.mk (blk_below (g := gb386) (o := .cells #[.int .i64 ji4, u387001] 39 (0, 0)) (by (with_reducible repeat (fail)); exact BK386.out) hb); have n5_ := Aside0.mk (IsS72.below (by repeat ((with_reducible exact HI0.out))) hb); have n6_ := Aside0.mk (KeepBut.trans (by repeat ((with_reducible exact HK.out))) (KeepBut.of_below hb g none) (.inl rfl)); have n7_ := Aside0.mk (below_step (by repeat ((with_reducible exact HB.out))) hb); clear HO_10; clear HO_387001; clear BK379; clear BK386; clear HI0; clear HK; clear HB; have HO_10 := n0_; have HO_387001 := n1_; have HO410 := n2_; have BK379 := n3_; have BK386 := n4_; have HI0 := n5_; have HK := n6_; have HB := n7_; clear n0_ n1_ n2_ n3_ n4_ n5_ n6_ n7_; (try clear hb); (try clear hb2); (try clear hk); (try clear hi); (try clear ho0); have hnb48 := NB386_379.out; have hnc48 := NB379_386.out; have hnb49 := NB386_0.out; have hnc49 := NB0_386.out; have hcz50_0 : w47.cell? ⟨gb386, 0, none⟩ = some (.int .i64 ji4) := (blk_cell BK386.out 0).trans rfl; have hcz50_1 : w47.cell? ⟨gb386, 1, none⟩ = some (u387001) := (blk_cell BK386.out 1).trans rfl; have hfz50_0 := blk_frozen BK386.out 0; have hfz50_1 := blk_frozen BK386.out 1; obtain ⟨Ao51, co51, eo51⟩ := Kd.R_slice HO410.out; subst eo51))
            go_meet
            case rel => exact ⟨_, (x1001_2), (x1002_2), (t407), (t408), (.slice Ao51 t408.length co51), H', ⟨by have := HK1.out; have := HK2.out; first | omega | exact Nat.le_refl _⟩, ⟨by (with_reducible repeat (fail)); exact Kd.R_mono (Kd.R_far (p := ⟨gb386, 1, none⟩) (Kd.R_far (p := ⟨gb386, 0, none⟩) (Kd.R_types HO410.out BK386.out (by decide)) (fun _ hk => hk.2) (.int .i64 t407)) (fun _ hk => hk.2) (.slice Ao51 t408.length co51)) (fun _ hk => trivial)⟩, ⟨by (with_reducible repeat (fail)); refine blk_far ?_ NB379_386.out _; (with_reducible repeat (fail)); refine blk_far ?_ NB379_386.out _; (with_reducible repeat (fail)); exact BK379.out⟩, ⟨by (with_reducible repeat (fail)); refine blk_put (cs := #[.int .i64 t407, u387001]) ?_ 1 _ rfl; (with_reducible repeat (fail)); refine blk_put (cs := #[.int .i64 ji4, u387001]) ?_ 0 _ rfl; (with_reducible repeat (fail)); exact BK386.out⟩, ⟨by repeat ((with_reducible first | exact HI0.out | refine IsS72.far ?_ NB0_386.out _))⟩, ⟨by repeat ((with_reducible first | exact HK.out | refine keep_far ?_ GW386.out _))⟩, ⟨by repeat ((with_reducible first | exact HB.out | refine below_set ?_ GE386.out))⟩⟩
           ·
            rw [if_neg c42] at H
            exact absurd H (by simp)
       ·
        replace c36 := Bool.eq_false_iff.mpr c36
        subst c36
        have H1 : (spec_l1Cur_graph.j3 k1 ji4 s0_0 t398 t399 ji4 x387001_1) = some (r1, r2, r3, r4) := by rw [if_neg (show ¬ (false = true) by decide)] at H; exact H
        clear H
        have H := H1
        clear H1
        have H' := Aside0.mk H
        clear H
        go_wp2
        go_meet
        case rel => exact ⟨_, (t398), (t399), (ji4), (x387001_1), (u387001), H', ⟨by have := HK1.out; first | omega | exact Nat.le_refl _⟩, ⟨by (with_reducible repeat (fail)); exact HO_387001.out⟩, ⟨by (with_reducible repeat (fail)); exact BK379.out⟩, ⟨by (with_reducible repeat (fail)); exact BK386.out⟩, ⟨by repeat ((with_reducible exact HI0.out))⟩, ⟨by repeat ((with_reducible exact HK.out))⟩, ⟨by repeat ((with_reducible exact HB.out))⟩⟩
      case rest =>
       clear HC34
       clear c21b0
       obtain ⟨kq, x1001_33, x1002_33, x387000_33, x387001_33, u387001, HA, HJ33, HO_387001, BK379, BK386, HI0, HK, HB⟩ := hcut
       cases kq with
       | zero => exact absurd HA.out (by simp [spec_l1Cur_graph.j3])
       | succ kj33 =>
        have H := HA.out
        clear HA
        simp only [spec_l1Cur_graph.j3] at H
        replace H := Option.bind_eq_some_iff.mp H
        obtain ⟨⟨t411, t412, t413⟩, A520, H⟩ := H
        replace H : (if t411 = 0 then ((spec_l1Cur_pick.f s0_0 t412 t413 ji4).bind fun bt414 => (if 0 ≤ ji4 then ((spec_l1Cur_among.f s0_0 bt414.2.1 bt414.2.2 (([(-1), 0, 1, 2, shl .i64 1 ji4] : List Int))).bind fun bt420 => (if 0 ≤ bt414.1 then (if bt414.1 < (x387001_33.length : Int) then (some (x387000_33, (x387001_33.set (bt414.1 : Int).toNat bt420.1), bt420.2.1, bt420.2.2)) else (none)) else (none))) else (none))) else (if t411 = 1 then ((spec_l1Cur_among.f s0_0 t412 t413 (([0, (-1), wrap64 (ji4 + 1), 9] : List Int))).bind fun bt427 => (some (bt427.1, x387001_33, bt427.2.1, bt427.2.2))) else (some (x387000_33, x387001_33, t412, t413)))) = some (r1, r2, r3, r4) := H
        have A52 := Aside0.mk A520
        clear A520
        by_cases c53 : t411 = 0
        ·
         rw [if_pos c53] at H
         have c53b0 : (t411 == 0) = true := beq_iff_eq.mpr c53
         have c53b1 : (t411 != 0) = false := bne_eq_false_iff_eq.mpr c53
         clear c53
         replace H := Option.bind_eq_some_iff.mp H
         obtain ⟨⟨t414, t415, t416⟩, A540, H⟩ := H
         replace H : (if 0 ≤ ji4 then ((spec_l1Cur_among.f s0_0 t415 t416 (([(-1), 0, 1, 2, shl .i64 1 ji4] : List Int))).bind fun bt420 => (if 0 ≤ t414 then (if t414 < (x387001_33.length : Int) then (some (x387000_33, (x387001_33.set (t414 : Int).toNat bt420.1), bt420.2.1, bt420.2.2)) else (none)) else (none))) else (none)) = some (r1, r2, r3, r4) := H
         have A54 := Aside0.mk A540
         clear A540
         by_cases c55 : 0 ≤ ji4
         ·
          rw [if_pos c55] at H
          have c55b0 := eq_true c55
          have c55b1 : decide (0 ≤ ji4) = true := decide_eq_true c55
          clear c55
          obtain ⟨ji56, hji56⟩ : ∃ j_ : Int, (shl .i64 1 ji4) = j_ := ⟨_, rfl⟩
          replace H : ((spec_l1Cur_among.f s0_0 t415 t416 (([(-1), 0, 1, 2, ji56] : List Int))).bind fun bt420 => (if 0 ≤ t414 then (if t414 < (x387001_33.length : Int) then (some (x387000_33, (x387001_33.set (t414 : Int).toNat bt420.1), bt420.2.1, bt420.2.2)) else (none)) else (none))) = some (r1, r2, r3, r4) := by first | (rw [hji56] at H; exact H) | (simp only [hji56] at H ⊢; exact H)
          (try rw [hji56] at A52)
          (try rw [hji56] at A54)
          have hji56_ : (IntKind.i64.wrap (1 * 2 ^ min ji4.toNat 64)) = ji56 := hji56
          have hji56z : ji4 ≤ 64 → (IntKind.i64.wrap (1 * 2 ^ ji4.toNat)) = ji56 := shl_small hji56
          have hji56u : (IntKind.i64.wrap (2 ^ min ji4.toNat 64)) = ji56 := by have h_ := hji56_; rw [Int.one_mul] at h_; exact h_
          have hji56v : ji4 ≤ 64 → (IntKind.i64.wrap (2 ^ ji4.toNat)) = ji56 := fun hle_ => by have h_ := hji56z hle_; rw [Int.one_mul] at h_; exact h_
          have hji56y : (wrap64 (1 * 2 ^ min ji4.toNat 64)) = ji56 := (i64_w _).symm.trans hji56_
          have hji56x : ji4 ≤ 64 → (wrap64 (1 * 2 ^ ji4.toNat)) = ji56 := fun h_ => (i64_w _).symm.trans (hji56z h_)
          obtain ⟨y417, hy417⟩ : ∃ y_ : List Int, y_ = (([(-1), 0, 1, 2, ji56] : List Int)) := ⟨_, rfl⟩
          replace H : ((spec_l1Cur_among.f s0_0 t415 t416 y417).bind fun bt420 => (if 0 ≤ t414 then (if t414 < (x387001_33.length : Int) then (some (x387000_33, (x387001_33.set (t414 : Int).toNat bt420.1), bt420.2.1, bt420.2.2)) else (none)) else (none))) = some (r1, r2, r3, r4) := by first | (rw [hy417]; with_reducible exact H) | (have H2_ := (Option.bind_some _ _).symm.trans H; rw [hy417]; with_reducible exact H2_) | (have H2_ := (Option.bind_some _ _).symm.trans H; with_reducible exact H2_) | with_reducible exact H | (rw [hy417]; exact H) | exact H
          have Ny417 := Aside0.mk hy417
          clear hy417
          replace H := Option.bind_eq_some_iff.mp H
          obtain ⟨⟨t420, t421, t422⟩, A570, H⟩ := H
          replace H : (if 0 ≤ t414 then (if t414 < (x387001_33.length : Int) then (some (x387000_33, (x387001_33.set (t414 : Int).toNat t420), t421, t422)) else (none)) else (none)) = some (r1, r2, r3, r4) := H
          have A57 := Aside0.mk A570
          clear A570
          by_cases c58 : 0 ≤ t414
          ·
           rw [if_pos c58] at H
           have c58b0 : decide (0 ≤ t414) = true := decide_eq_true c58
           clear c58
           by_cases c59 : t414 < (x387001_33.length : Int)
           ·
            rw [if_pos c59] at H
            have c59b0 : decide (t414 < (x387001_33.length : Int)) = true := decide_eq_true c59
            clear c59
            obtain ⟨y423, hy423⟩ : ∃ y_ : List Int, y_ = (x387001_33.set (t414 : Int).toNat t420) := ⟨_, rfl⟩
            replace H : (some (x387000_33, y423, t421, t422)) = some (r1, r2, r3, r4) := by first | (rw [hy423]; with_reducible exact H) | (have H2_ := (Option.bind_some _ _).symm.trans H; rw [hy423]; with_reducible exact H2_) | (have H2_ := (Option.bind_some _ _).symm.trans H; with_reducible exact H2_) | with_reducible exact H | (rw [hy423]; exact H) | exact H
            have Ny423 := Aside0.mk hy423
            clear hy423
            simp only [Option.some.injEq, Prod.mk.injEq] at H
            obtain ⟨rfl, rfl, rfl, rfl⟩ := H
            try go_wp2_with (((with_reducible refine gate_callee (f := 80) rfl ?_); refine goesL_ (some 58) rfl rfl Tryd.func80 (by kernel_rfl) rfl #[.pointer (some ⟨g, 0, none⟩), .int .i64 24] rfl (by (try simp only [List.map_toArray, List.map_cons, List.map_nil]); first | done | rfl) ?_; (with_reducible refine (spec_l1Cur_pick.calls g s0_0 x1001_33 x1002_33 24 t411 t412 t413 w0 _ ?side1 ?side2 A52.out).mono ?_); (case side1 => repeat ((with_reducible exact HI0.out))); (case side2 => repeat ((with_reducible exact HB.out))); rintro e w61 ⟨rfl, hi, hb, hk⟩; refine ⟨_, rfl, ?_⟩; have n0_ := Aside0.mk (Kd.R_mono (Kd.R_keep (IsS72.apart (show IsS72 w0 _ g s0_0 x1001_33 x1002_33 from by repeat ((with_reducible exact HI0.out))) (by (with_reducible repeat (fail)); exact HO_387001.out) (by decide)) hk (fun _ h => h.2)) (fun _ h => h.1)); have n1_ := Aside0.mk (KeepBut.blk hk (g' := gb379) (o := .cells #[.int .i64 0, .slice none 0 0] 39 (0, 0)) (by (with_reducible repeat (fail)); exact BK379.out) NB379_0.out (by simp)); have n2_ := Aside0.mk (KeepBut.blk hk (g' := gb386) (o := .cells #[.int .i64 x387000_33, u387001] 39 (0, 0)) (by (with_reducible repeat (fail)); exact BK386.out) NB386_0.out (by simp)); have n3_ := Aside0.mk (KeepBut.trans (by repeat ((with_reducible exact HK.out))) hk (.inl rfl)); have n4_ := Aside0.mk (hb); have n5_ := Aside0.mk (hi); clear HO_387001; clear BK379; clear BK386; clear HK; clear HB; clear HI0; have HO_387001 := n0_; have BK379 := n1_; have BK386 := n2_; have HK := n3_; have HB := n4_; have HI0 := n5_; clear n0_ n1_ n2_ n3_ n4_ n5_; (try clear hb); (try clear hb2); (try clear hk); (try clear hi)))
            have n0_ := Aside0.mk (Kd.R_drew HO_387001.out)
            have n1_ := Aside0.mk (blk_drew BK379.out)
            have n2_ := Aside0.mk (blk_drew BK386.out)
            have n3_ := Aside0.mk (IsS72.drew HI0.out)
            have n4_ := Aside0.mk (keep_drew HK.out)
            have n5_ := Aside0.mk (below_drew1 HB.out)
            clear HO_387001
            clear BK379
            clear BK386
            clear HI0
            clear HK
            clear HB
            have HO_387001 := n0_
            have BK379 := n1_
            have BK386 := n2_
            have HI0 := n3_
            have HK := n4_
            have HB := n5_
            clear n0_ n1_ n2_ n3_ n4_ n5_
            refine start_ (n := 12) (S := fun w' => w'.cell? ⟨gb386, 0, none⟩ = some (.int .i64 x387000_33) ∧ w'.cell? ⟨gb386, 1, none⟩ = some (u387001)) (ds := [11]) #[Zz,Zz,Zz,Zz,Zz,Zz,Zz,Zz,Zz,Zz,Zz,Zz] (by kernel_rfl) rfl rfl ⟨(blk_cell BK386.out 0).trans rfl, (blk_cell BK386.out 1).trans rfl⟩ (fun hHeld => ?_); refine with_tabW spec_l1Cur_graph.tab22 spec_l1Cur_graph.bits22 (fun HT_ HW_ => ?_)
            generalize w61.drew = w62 at HO_387001 BK379 BK386 HI0 HK HB hHeld ⊢
            refine pure_ (i := 0) (N := some 61) (v := ?_) (a' := ?_) #[Yy,Zz,Zz,Zz,Zz,Zz,Zz,Zz,Zz,Zz,Zz,Zz] rfl rfl (any_of HT_.out (by kernel_rfl)) (fun _ _ _ h => h) (Or.inl ⟨by rfl, ?_⟩) ?_ ?_
            rotate_left
            ·
             intro w'
             go_simp
             with_reducible rfl
            rotate_left
            ·
             simp only [Act.put, List.setIfInBounds_toArray, List.set_cons_zero, List.set_cons_succ, i64_w, i32_w]
             rfl
            refine pure_ (i := 2) (N := some 63) (v := ?_) (a' := ?_) #[Yy,Zz,Yy,Zz,Zz,Zz,Zz,Zz,Zz,Zz,Zz,Zz] rfl rfl (any_of HT_.out (by kernel_rfl)) (fun _ _ _ h => h) (Or.inl ⟨by rfl, ?_⟩) ?_ ?_
            rotate_left
            ·
             intro w'
             go_simp
             with_reducible rfl
            rotate_left
            ·
             simp only [Act.put, List.setIfInBounds_toArray, List.set_cons_zero, List.set_cons_succ, i64_w, i32_w]
             rfl
            refine pure_ (i := 3) (N := some 64) (v := ?_) (a' := ?_) #[Yy,Zz,Yy,Yy,Zz,Zz,Zz,Zz,Zz,Zz,Zz,Zz] rfl rfl (any_of HT_.out (by kernel_rfl)) (fun _ _ _ h => h) (Or.inl ⟨by rfl, ?_⟩) ?_ ?_
            rotate_left
            ·
             intro w'
             go_simp
             with_reducible rfl
            rotate_left
            ·
             simp only [Act.put, List.setIfInBounds_toArray, List.set_cons_zero, List.set_cons_succ, i64_w, i32_w]
             rfl
            refine pure_ (i := 5) (N := some 66) (v := ?_) (a' := ?_) #[Yy,Zz,Yy,Yy,Zz,Yy,Zz,Zz,Zz,Zz,Zz,Zz] rfl rfl (any_of HT_.out (by kernel_rfl)) (fun _ _ _ h => h) (Or.inl ⟨by rfl, ?_⟩) ?_ ?_
            rotate_left
            ·
             intro w'
             go_simp
             with_reducible rfl
            rotate_left
            ·
             simp only [Act.put, List.setIfInBounds_toArray, List.set_cons_zero, List.set_cons_succ, i64_w, i32_w]
             rfl
            refine pure_ (i := 6) (N := some 67) (v := ?_) (a' := ?_) #[Yy,Zz,Yy,Yy,Zz,Yy,Yy,Zz,Zz,Zz,Zz,Zz] rfl rfl (any_of HT_.out (by kernel_rfl)) (fun _ _ _ h => h) (Or.inl ⟨by rfl, ?_⟩) ?_ ?_
            rotate_left
            ·
             intro w'
             go_simp
             with_reducible rfl
            rotate_left
            ·
             simp only [Act.put, List.setIfInBounds_toArray, List.set_cons_zero, List.set_cons_succ, i64_w, i32_w]
             rfl
            refine pure_ (i := 7) (N := some 68) (v := ?_) (a' := ?_) #[Yy,Zz,Yy,Yy,Zz,Yy,Yy,Yy,Zz,Zz,Zz,Zz] rfl rfl (any_of HT_.out (by kernel_rfl)) (fun _ _ _ h => h) (Or.inl ⟨by rfl, ?_⟩) ?_ ?_
            rotate_left
            ·
             intro w'
             go_simp
             with_reducible rfl
            rotate_left
            ·
             simp only [Act.put, List.setIfInBounds_toArray, List.set_cons_zero, List.set_cons_succ, i64_w, i32_w]
             rfl
            refine take_ (i := 1) (N := some 62) (v := ?_) (a' := ?_) #[Yy,Yy,Yy,Yy,Zz,Yy,Yy,Yy,Zz,Zz,Zz,Zz] rfl rfl (take_ofW HT_.out HW_.out (by kernel_rfl)) (fun _ _ _ h => h) (Or.inl ⟨by rfl, ?_⟩) hHeld ?_ ?_
            rotate_left
            ·
             rintro w' ⟨s0, s1⟩
             go_simp
             with_reducible rfl
            rotate_left
            ·
             simp only [Act.put, List.setIfInBounds_toArray, List.set_cons_zero, List.set_cons_succ, i64_w, i32_w]
             rfl
            refine join_ (σ := Value) 3 #[Yy,Yy,Yy,Yy,Yy,Yy,Yy,Yy,Yy,Zz,Zz,Zz] (fun s_ => [(65, .int .i64 t414), (69, s_)]) (fun s_ w' => (w'.cell? ⟨gb386, 0, none⟩ = some (.int .i64 x387000_33) ∧ w'.cell? ⟨gb386, 1, none⟩ = some (u387001)) ∧ (Kd.R (Kd.int .i64) 3 w' w.heap.size (fun k_ => some k_ ≠ (u387001 : Value).ownBlock) s_ y417) ∧ (Kd.R (Kd.int .i64) 3 w' w.heap.size (fun k_ => some k_ ≠ (s_ : Value).ownBlock) u387001 x387001_33) ∧ (w'.heap[gb379]? = some (.cells #[.int .i64 0, .slice none 0 0] 39 (0, 0))) ∧ (w'.heap[gb386]? = some (.cells #[.int .i64 x387000_33, u387001] 39 (0, 0))) ∧ (IsS72 w0 w' g s0_0 t415 t416) ∧ (KeepBut w w' g none) ∧ (Below w0.heap.size w0 w')) ?_ ?_
            rotate_left
            ·
             intro hCont
             refine two_ (i := 4) (j := 8) (Ni := some 65) (Nj := some 69) #[Yy,Yy,Yy,Yy,Yy,Yy,Yy,Yy,Zz,Zz,Zz,Zz] #[Yy,Yy,Yy,Yy,Zz,Yy,Yy,Yy,Yy,Zz,Zz,Zz] rfl rfl rfl rfl (two_of HT_.out (by kernel_rfl)) (by decide) (by decide) (fun K hK => ?_) (fun K hK => ?_)
             ·
              skip
              refine goes_ Tryd.func80 (by kernel_rfl) rfl #[.pointer (some ⟨g, 0, none⟩), .int .i64 ji4] (by rfl) rfl rfl (by (try simp only [List.map_toArray, List.map_cons, List.map_nil]); first | done | (simp only [hji4]; rfl) | rfl | (simp only [List.length_drop, List.length_take]; rfl)) ?_
              with_reducible refine (spec_l1Cur_pick.calls g s0_0 t412 t413 ji4 t414 t415 t416 w0 _ ?side1 ?side2 A54.out).mono ?_
              (case side1 => repeat ((with_reducible exact HI0.out)))
              (case side2 => repeat ((with_reducible exact HB.out)))
              rintro e w63 ⟨rfl, hi, hb, hk⟩
              refine ⟨_, rfl, ?_⟩
              have n0_ := Aside0.mk (Kd.R_mono (Kd.R_keep (IsS72.apart (show IsS72 w0 _ g s0_0 t412 t413 from by repeat ((with_reducible exact HI0.out))) (by (with_reducible repeat (fail)); exact HO_387001.out) (by decide)) hk (fun _ h => h.2)) (fun _ h => h.1))
              have n1_ := Aside0.mk (KeepBut.blk hk (g' := gb379) (o := .cells #[.int .i64 0, .slice none 0 0] 39 (0, 0)) (by (with_reducible repeat (fail)); exact BK379.out) NB379_0.out (by simp))
              have n2_ := Aside0.mk (KeepBut.blk hk (g' := gb386) (o := .cells #[.int .i64 x387000_33, u387001] 39 (0, 0)) (by (with_reducible repeat (fail)); exact BK386.out) NB386_0.out (by simp))
              have n3_ := Aside0.mk (KeepBut.trans (by repeat ((with_reducible exact HK.out))) hk (.inl rfl))
              have n4_ := Aside0.mk (hb)
              have n5_ := Aside0.mk (hi)
              clear HO_387001
              clear BK379
              clear BK386
              clear HK
              clear HB
              clear HI0
              have HO_387001 := n0_
              have BK379 := n1_
              have BK386 := n2_
              have HK := n3_
              have HB := n4_
              have HI0 := n5_
              clear n0_ n1_ n2_ n3_ n4_ n5_
              clear hb
              clear hk
              clear hi
              refine hK.out _ _ ⟨(blk_cell BK386.out 0).trans rfl, (blk_cell BK386.out 1).trans rfl⟩ (fun hHeld => ?_)
              clear hK K
              refine norm_ (a' := ?_) ?_ ?_
              rotate_left
              ·
               show Act.put _ (some 65) _ = _
               simp only [Act.put, List.setIfInBounds_toArray, List.set_cons_zero, List.set_cons_succ, i64_w, i32_w]
               rfl
              refine one_ (i := 8) (N := some 69) #[Yy,Yy,Yy,Yy,Yy,Yy,Yy,Yy,Yy,Zz,Zz,Zz] rfl rfl (one_of HT_.out (by kernel_rfl)) (by decide) (fun K hK => ?_)
              refine Kd.R_lit_step (Kd.int .i64) _ 3 ?hg (N := 69) ?hd (xs := ([(-1), 0, 1, 2, ji56] : List Int)) (inner := [.int .i64 (-1), .int .i64 0, .int .i64 1, .int .i64 2, .int .i64 ji56]) (ok := fun _ => True) (okp := fun _ => True) ?hr ?hp (fun _ hk => hk) trivial (Below.refl _ _) (Nat.le_refl _) (by simp) ?_; (case hd => rfl); (case hg => rfl); (case hr => first | (go_simp; done) | (go_simp; rfl)); (case hp => exact (Reps.one (show Kd.M (Kd.int .i64) _ _ _ (-1) [.int .i64 (-1)] from rfl) (Reps.one (show Kd.M (Kd.int .i64) _ _ _ 0 [.int .i64 0] from rfl) (Reps.one (show Kd.M (Kd.int .i64) _ _ _ 1 [.int .i64 1] from rfl) (Reps.one (show Kd.M (Kd.int .i64) _ _ _ 2 [.int .i64 2] from rfl) (Reps.one (show Kd.M (Kd.int .i64) _ _ _ ji56 [.int .i64 ji56] from rfl) (Reps.none _ _)))))))
              intro v418 w64 ho65 hb hg_ hnew_
              clear hg_ hnew_
              (rw [← Ny417.out] at ho65)
              have n0_ := Aside0.mk (Kd.R_elder' (by (with_reducible repeat (fail)); exact HO_387001.out) (Kd.R_base ho65) hb)
              have n1_ := Aside0.mk (Kd.R_lower (Kd.R_new' ho65 (Kd.R_lt (by (with_reducible repeat (fail)); exact HO_387001.out))) (keep_size (w := w) (g := g) (row := none) (by repeat ((with_reducible exact HK.out)))))
              have n2_ := Aside0.mk (blk_below (g := gb379) (o := .cells #[.int .i64 0, .slice none 0 0] 39 (0, 0)) (by (with_reducible repeat (fail)); exact BK379.out) hb)
              have n3_ := Aside0.mk (blk_below (g := gb386) (o := .cells #[.int .i64 x387000_33, u387001] 39 (0, 0)) (by (with_reducible repeat (fail)); exact BK386.out) hb)
              have n4_ := Aside0.mk (IsS72.below (by repeat ((with_reducible exact HI0.out))) hb)
              have n5_ := Aside0.mk (KeepBut.trans (by repeat ((with_reducible exact HK.out))) (KeepBut.of_below hb g none) (.inl rfl))
              have n6_ := Aside0.mk (below_step (by repeat ((with_reducible exact HB.out))) hb)
              clear HO_387001
              clear BK379
              clear BK386
              clear HI0
              clear HK
              clear HB
              have HO_387001 := n0_
              have HO419 := n1_
              have BK379 := n2_
              have BK386 := n3_
              have HI0 := n4_
              have HK := n5_
              have HB := n6_
              clear n0_ n1_ n2_ n3_ n4_ n5_ n6_
              clear hb ho65
              refine hK.out _ _ ⟨(blk_cell BK386.out 0).trans rfl, (blk_cell BK386.out 1).trans rfl⟩ (fun hHeld => ?_)
              clear hK K
              refine norm_ (a' := ?_) ?_ ?_
              rotate_left
              ·
               show Act.put _ (some 69) _ = _
               simp only [Act.put, List.setIfInBounds_toArray, List.set_cons_zero, List.set_cons_succ, i64_w, i32_w]
               rfl
              exact norm_ (by simp only [putAll, Act.put, List.setIfInBounds_toArray, List.set_cons_zero, List.set_cons_succ]) (hCont (v418) _ ⟨hHeld, (by (with_reducible repeat (fail)); exact Kd.R_mono HO419.out (fun _ hk => hk.2)), (by (with_reducible repeat (fail)); exact Kd.R_mono HO_387001.out (fun _ hk => hk.2)), (by (with_reducible repeat (fail)); exact BK379.out), (by (with_reducible repeat (fail)); exact BK386.out), (by repeat ((with_reducible exact HI0.out))), (by repeat ((with_reducible exact HK.out))), (by repeat ((with_reducible exact HB.out)))⟩)
             ·
              skip
              refine Kd.R_lit_step (Kd.int .i64) _ 3 ?hg (N := 69) ?hd (xs := ([(-1), 0, 1, 2, ji56] : List Int)) (inner := [.int .i64 (-1), .int .i64 0, .int .i64 1, .int .i64 2, .int .i64 ji56]) (ok := fun _ => True) (okp := fun _ => True) ?hr ?hp (fun _ hk => hk) trivial (Below.refl _ _) (Nat.le_refl _) (by simp) ?_; (case hd => rfl); (case hg => rfl); (case hr => first | (go_simp; done) | (go_simp; rfl)); (case hp => exact (Reps.one (show Kd.M (Kd.int .i64) _ _ _ (-1) [.int .i64 (-1)] from rfl) (Reps.one (show Kd.M (Kd.int .i64) _ _ _ 0 [.int .i64 0] from rfl) (Reps.one (show Kd.M (Kd.int .i64) _ _ _ 1 [.int .i64 1] from rfl) (Reps.one (show Kd.M (Kd.int .i64) _ _ _ 2 [.int .i64 2] from rfl) (Reps.one (show Kd.M (Kd.int .i64) _ _ _ ji56 [.int .i64 ji56] from rfl) (Reps.none _ _)))))))
              intro v418 w63 ho64 hb hg_ hnew_
              clear hg_ hnew_
              (rw [← Ny417.out] at ho64)
              have n0_ := Aside0.mk (Kd.R_elder' (by (with_reducible repeat (fail)); exact HO_387001.out) (Kd.R_base ho64) hb)
              have n1_ := Aside0.mk (Kd.R_lower (Kd.R_new' ho64 (Kd.R_lt (by (with_reducible repeat (fail)); exact HO_387001.out))) (keep_size (w := w) (g := g) (row := none) (by repeat ((with_reducible exact HK.out)))))
              have n2_ := Aside0.mk (blk_below (g := gb379) (o := .cells #[.int .i64 0, .slice none 0 0] 39 (0, 0)) (by (with_reducible repeat (fail)); exact BK379.out) hb)
              have n3_ := Aside0.mk (blk_below (g := gb386) (o := .cells #[.int .i64 x387000_33, u387001] 39 (0, 0)) (by (with_reducible repeat (fail)); exact BK386.out) hb)
              have n4_ := Aside0.mk (IsS72.below (by repeat ((with_reducible exact HI0.out))) hb)
              have n5_ := Aside0.mk (KeepBut.trans (by repeat ((with_reducible exact HK.out))) (KeepBut.of_below hb g none) (.inl rfl))
              have n6_ := Aside0.mk (below_step (by repeat ((with_reducible exact HB.out))) hb)
              clear HO_387001
              clear BK379
              clear BK386
              clear HI0
              clear HK
              clear HB
              have HO_387001 := n0_
              have HO419 := n1_
              have BK379 := n2_
              have BK386 := n3_
              have HI0 := n4_
              have HK := n5_
              have HB := n6_
              clear n0_ n1_ n2_ n3_ n4_ n5_ n6_
              clear hb ho64
              refine hK.out _ _ ⟨(blk_cell BK386.out 0).trans rfl, (blk_cell BK386.out 1).trans rfl⟩ (fun hHeld => ?_)
              clear hK K
              refine norm_ (a' := ?_) ?_ ?_
              rotate_left
              ·
               show Act.put _ (some 69) _ = _
               simp only [Act.put, List.setIfInBounds_toArray, List.set_cons_zero, List.set_cons_succ, i64_w, i32_w]
               rfl
              refine one_ (i := 4) (N := some 65) #[Yy,Yy,Yy,Yy,Yy,Yy,Yy,Yy,Yy,Zz,Zz,Zz] rfl rfl (one_of HT_.out (by kernel_rfl)) (by decide) (fun K hK => ?_)
              refine goes_ Tryd.func80 (by kernel_rfl) rfl #[.pointer (some ⟨g, 0, none⟩), .int .i64 ji4] (by rfl) rfl rfl (by (try simp only [List.map_toArray, List.map_cons, List.map_nil]); first | done | (simp only [hji4]; rfl) | rfl | (simp only [List.length_drop, List.length_take]; rfl)) ?_
              with_reducible refine (spec_l1Cur_pick.calls g s0_0 t412 t413 ji4 t414 t415 t416 w0 _ ?side1 ?side2 A54.out).mono ?_
              (case side1 => repeat ((with_reducible exact HI0.out)))
              (case side2 => repeat ((with_reducible exact HB.out)))
              rintro e w65 ⟨rfl, hi, hb, hk⟩
              refine ⟨_, rfl, ?_⟩
              have n0_ := Aside0.mk (Kd.R_mono (Kd.R_keep (IsS72.apart (show IsS72 w0 _ g s0_0 t412 t413 from by repeat ((with_reducible exact HI0.out))) (by (with_reducible repeat (fail)); exact HO_387001.out) (by decide)) hk (fun _ h => h.2)) (fun _ h => h.1))
              have n1_ := Aside0.mk (KeepBut.blk hk (g' := gb379) (o := .cells #[.int .i64 0, .slice none 0 0] 39 (0, 0)) (by (with_reducible repeat (fail)); exact BK379.out) NB379_0.out (by simp))
              have n2_ := Aside0.mk (KeepBut.blk hk (g' := gb386) (o := .cells #[.int .i64 x387000_33, u387001] 39 (0, 0)) (by (with_reducible repeat (fail)); exact BK386.out) NB386_0.out (by simp))
              have n3_ := Aside0.mk (Kd.R_mono (Kd.R_keep (IsS72.apart (show IsS72 w0 _ g s0_0 t412 t413 from by repeat ((with_reducible exact HI0.out))) (by (with_reducible repeat (fail)); exact HO419.out) (by decide)) hk (fun _ h => h.2)) (fun _ h => h.1))
              have n4_ := Aside0.mk (KeepBut.trans (by repeat ((with_reducible exact HK.out))) hk (.inl rfl))
              have n5_ := Aside0.mk (hb)
              have n6_ := Aside0.mk (hi)
              clear HO_387001
              clear BK379
              clear BK386
              clear HO419
              clear HK
              clear HB
              clear HI0
              have HO_387001 := n0_
              have BK379 := n1_
              have BK386 := n2_
              have HO419 := n3_
              have HK := n4_
              have HB := n5_
              have HI0 := n6_
              clear n0_ n1_ n2_ n3_ n4_ n5_ n6_
              clear hb
              clear hk
              clear hi
              refine hK.out _ _ ⟨(blk_cell BK386.out 0).trans rfl, (blk_cell BK386.out 1).trans rfl⟩ (fun hHeld => ?_)
              clear hK K
              refine norm_ (a' := ?_) ?_ ?_
              rotate_left
              ·
               show Act.put _ (some 65) _ = _
               simp only [Act.put, List.setIfInBounds_toArray, List.set_cons_zero, List.set_cons_succ, i64_w, i32_w]
               rfl
              exact norm_ (by simp only [putAll, Act.put, List.setIfInBounds_toArray, List.set_cons_zero, List.set_cons_succ]) (hCont (v418) _ ⟨hHeld, (by (with_reducible repeat (fail)); exact Kd.R_mono HO419.out (fun _ hk => hk.2)), (by (with_reducible repeat (fail)); exact Kd.R_mono HO_387001.out (fun _ hk => hk.2)), (by (with_reducible repeat (fail)); exact BK379.out), (by (with_reducible repeat (fail)); exact BK386.out), (by repeat ((with_reducible exact HI0.out))), (by repeat ((with_reducible exact HK.out))), (by repeat ((with_reducible exact HB.out)))⟩)
            rintro v418 w66 ⟨hS_, h0_, h1_, h2_, h3_, h4_, h5_, h6_⟩
            have n0_ : Aside0 (Kd.R (Kd.int .i64) 3 w66 w.heap.size (fun k_ => some k_ ≠ (u387001 : Value).ownBlock) v418 y417) := ⟨h0_⟩
            have n1_ : Aside0 (Kd.R (Kd.int .i64) 3 w66 w.heap.size (fun k_ => some k_ ≠ (v418 : Value).ownBlock) u387001 x387001_33) := ⟨h1_⟩
            have n2_ : Aside0 (w66.heap[gb379]? = some (.cells #[.int .i64 0, .slice none 0 0] 39 (0, 0))) := ⟨h2_⟩
            have n3_ : Aside0 (w66.heap[gb386]? = some (.cells #[.int .i64 x387000_33, u387001] 39 (0, 0))) := ⟨h3_⟩
            have n4_ : Aside0 (IsS72 w0 w66 g s0_0 t415 t416) := ⟨h4_⟩
            have n5_ : Aside0 (KeepBut w w66 g none) := ⟨h5_⟩
            have n6_ : Aside0 (Below w0.heap.size w0 w66) := ⟨h6_⟩
            clear HO_387001
            clear BK379
            clear BK386
            clear HI0
            clear HK
            clear HB
            clear h0_ h1_ h2_ h3_ h4_ h5_ h6_
            have HO419 := n0_
            have HO_387001 := n1_
            have BK379 := n2_
            have BK386 := n3_
            have HI0 := n4_
            have HK := n5_
            have HB := n6_
            clear n0_ n1_ n2_ n3_ n4_ n5_ n6_
            have hHeld : w66.cell? ⟨gb386, 0, none⟩ = some (.int .i64 x387000_33) ∧ w66.cell? ⟨gb386, 1, none⟩ = some (u387001) := hS_
            obtain ⟨Ao67, co67, eo67⟩ := Kd.R_slice HO419.out
            (subst eo67)
            refine norm_ (a' := ?_) ?_ ?_
            rotate_left
            ·
             simp only [putAll, Act.put, List.setIfInBounds_toArray, List.set_cons_zero, List.set_cons_succ]
             rfl
            refine one_ (i := 9) (N := some 70) #[Yy,Yy,Yy,Yy,Yy,Yy,Yy,Yy,Yy,Yy,Zz,Zz] rfl rfl (one_of HT_.out (by kernel_rfl)) (by decide) (fun K hK => ?_)
            refine goes_ Tryd.func81 (by kernel_rfl) rfl #[.pointer (some ⟨g, 0, none⟩), .slice Ao67 y417.length co67] (by rfl) rfl rfl (by (try simp only [List.map_toArray, List.map_cons, List.map_nil]); first | done | rfl) ?_
            with_reducible refine (spec_l1Cur_among.calls g s0_0 t415 t416 _ _ y417 t420 t421 t422 w0 _ ?side1 ?side2 ?side3 ?side4 ?side5 A57.out).mono ?_
            (case side1 => repeat ((with_reducible exact HI0.out)))
            (case side2 => repeat ((with_reducible exact HB.out)))
            (case side3 => repeat (exact (Kd.R_reads' HO419.out).2.2))
            (case side4 => exact (Kd.R_reads' HO419.out).2.1)
            (case side5 => exact far_slice (IsS72.own_ne HI0.out HO419.out (by decide)))
            rintro e w68 ⟨rfl, hi, hb, hk⟩
            refine ⟨_, rfl, ?_⟩
            have n0_ := Aside0.mk (Kd.R_mono (Kd.R_keep (IsS72.apart (show IsS72 w0 _ g s0_0 t415 t416 from by repeat ((with_reducible exact HI0.out))) (by (with_reducible repeat (fail)); exact HO_387001.out) (by decide)) hk (fun _ h => h.2)) (fun _ h => h.1))
            have n1_ := Aside0.mk (KeepBut.blk hk (g' := gb379) (o := .cells #[.int .i64 0, .slice none 0 0] 39 (0, 0)) (by (with_reducible repeat (fail)); exact BK379.out) NB379_0.out (by simp))
            have n2_ := Aside0.mk (KeepBut.blk hk (g' := gb386) (o := .cells #[.int .i64 x387000_33, u387001] 39 (0, 0)) (by (with_reducible repeat (fail)); exact BK386.out) NB386_0.out (by simp))
            have n3_ := Aside0.mk (Kd.R_mono (Kd.R_keep (IsS72.apart (show IsS72 w0 _ g s0_0 t415 t416 from by repeat ((with_reducible exact HI0.out))) (by (with_reducible repeat (fail)); exact HO419.out) (by decide)) hk (fun _ h => h.2)) (fun _ h => h.1))
            have n4_ := Aside0.mk (KeepBut.trans (by repeat ((with_reducible exact HK.out))) hk (.inl rfl))
            have n5_ := Aside0.mk (hb)
            have n6_ := Aside0.mk (hi)
            clear HO_387001
            clear BK379
            clear BK386
            clear HO419
            clear HK
            clear HB
            clear HI0
            have HO_387001 := n0_
            have BK379 := n1_
            have BK386 := n2_
            have HO419 := n3_
            have HK := n4_
            have HB := n5_
            have HI0 := n6_
            clear n0_ n1_ n2_ n3_ n4_ n5_ n6_
            clear hb
            clear hk
            clear hi
            have p60 : 0 ≤ (t414 : Int) := of_decide_eq_true (by first | (with_reducible assumption) | assumption)
            have q60 : (t414 : Int) < ((x387001_33.length : Int) : Int) := of_decide_eq_true (by first | (with_reducible assumption) | assumption)
            obtain ⟨go60, co60, eo60, gb60, gl60, cl60, HG60⟩ := Kd.R_form HO_387001.out (by omega)
            (cases eo60)
            have GB60 := Aside0.mk gb60
            have GG60 := Aside0.mk HG60
            clear gb60 gl60 HG60
            obtain ⟨hx60_0, hf60_0⟩ := Kd.R_celln 0 HO_387001.out (t414 : Int) p60 q60
            replace p60 := eq_true p60
            replace q60 := eq_true q60
            have HN0_go60 := Aside0.mk (show g ≠ go60 from by have h_ := IsS72.own_ne HI0.out HO_387001.out (by decide); intro e_; exact h_ (by rw [e_]; rfl))
            have HP69 := Kd.R_putn HO_387001.out (t414 : Int) t420
            rw [← Ny423.out] at HP69
            have HQ69 := Aside0.mk HP69
            clear HP69
            refine hK.out _ _ ⟨(blk_cell BK386.out 0).trans rfl, (blk_cell BK386.out 1).trans rfl⟩ (fun hHeld => ?_)
            clear hK K
            refine norm_ (a' := ?_) ?_ ?_
            rotate_left
            ·
             show Act.put _ (some 70) _ = _
             simp only [Act.put, List.setIfInBounds_toArray, List.set_cons_zero, List.set_cons_succ, i64_w, i32_w]
             rfl
            refine pure_ (i := 10) (N := some 71) (v := ?_) (a' := ?_) #[Yy,Yy,Yy,Yy,Yy,Yy,Yy,Yy,Yy,Yy,Yy,Zz] rfl rfl (any_of HT_.out (by kernel_rfl)) (fun _ _ _ h => h) (Or.inl ⟨by rfl, ?_⟩) ?_ ?_
            rotate_left
            ·
             intro w'
             go_simp
             with_reducible rfl
            rotate_left
            ·
             simp only [Act.put, List.setIfInBounds_toArray, List.set_cons_zero, List.set_cons_succ, i64_w, i32_w]
             rfl
            refine last_ (i := 11) (N := none) #[Yy,Yy,Yy,Yy,Yy,Yy,Yy,Yy,Yy,Yy,Yy,Yy] rfl rfl (one_of HT_.out (by kernel_rfl)) (by decide) (fun K hK => ?_)
            refine skip_ (w1 := ?_) (by rfl) rfl ?_ ?_
            rotate_left
            ·
             go_simp
             rfl
            refine hK.out _ _ ?_
            clear hK K
            refine done_ (done_of HT_.out (by kernel_rfl)) ?_
            have n0_ : Aside0 (Kd.R (Kd.int .i64) 3 (w68.setCell ⟨go60, (t414 : Int).toNat, none⟩ (.int .i64 t420)) w.heap.size (fun k_ => some k_ ≠ (.slice Ao67 y417.length co67 : Value).ownBlock) (.slice (some ⟨go60, 0, none⟩) x387001_33.length co60) y423) := ⟨by (with_reducible repeat (fail)); exact HQ69.out⟩
            have n1_ : Aside0 (Kd.R (Kd.int .i64) 3 (w68.setCell ⟨go60, (t414 : Int).toNat, none⟩ (.int .i64 t420)) w.heap.size (fun k_ => some k_ ≠ (.slice (some ⟨go60, 0, none⟩) x387001_33.length co60 : Value).ownBlock) (.slice Ao67 y417.length co67) y417) := ⟨by (with_reducible repeat (fail)); exact Kd.R_mono (Kd.R_far (p := ⟨go60, (t414 : Int).toNat, none⟩) (Kd.R_mono HO419.out (fun k_ hk => (⟨hk, fun e_ => hk (by rw [e_]; rfl)⟩ : _ ∧ k_ ≠ go60))) (fun _ hk => hk.2) (.int .i64 t420)) (fun _ hk => hk.1)⟩
            have n2_ : Aside0 ((w68.setCell ⟨go60, (t414 : Int).toNat, none⟩ (.int .i64 t420)).heap[gb379]? = some (.cells #[.int .i64 0, .slice none 0 0] 39 (0, 0))) := ⟨by (with_reducible repeat (fail)); refine blk_far ?_ (by have h_ := Kd.R_ne HO_387001.out BK379.out (by decide); intro e_; exact h_ (by rw [e_]; rfl)) _; (with_reducible repeat (fail)); exact BK379.out⟩
            have n3_ : Aside0 ((w68.setCell ⟨go60, (t414 : Int).toNat, none⟩ (.int .i64 t420)).heap[gb386]? = some (.cells #[.int .i64 x387000_33, .slice (some ⟨go60, 0, none⟩) x387001_33.length co60] 39 (0, 0))) := ⟨by (with_reducible repeat (fail)); refine blk_far ?_ (by have h_ := Kd.R_ne HO_387001.out BK386.out (by decide); intro e_; exact h_ (by rw [e_]; rfl)) _; (with_reducible repeat (fail)); exact BK386.out⟩
            have n4_ : Aside0 (IsS72 w0 (w68.setCell ⟨go60, (t414 : Int).toNat, none⟩ (.int .i64 t420)) g s0_0 t421 t422) := ⟨by repeat ((with_reducible first | exact HI0.out | refine IsS72.far ?_ HN0_go60.out _))⟩
            have n5_ : Aside0 (KeepBut w (w68.setCell ⟨go60, (t414 : Int).toNat, none⟩ (.int .i64 t420)) g none) := ⟨by repeat ((with_reducible first | exact HK.out | refine keep_far ?_ GB60.out _))⟩
            have n6_ : Aside0 (Below w0.heap.size w0 (w68.setCell ⟨go60, (t414 : Int).toNat, none⟩ (.int .i64 t420))) := ⟨by repeat ((with_reducible first | exact HB.out | refine below_set ?_ (Nat.le_trans HL.out GB60.out)))⟩
            clear HO_387001
            clear HO419
            clear BK379
            clear BK386
            clear HI0
            clear HK
            clear HB
            generalize (w68.setCell ⟨go60, (t414 : Int).toNat, none⟩ (.int .i64 t420)) = w70 at n0_ n1_ n2_ n3_ n4_ n5_ n6_ ⊢
            have HO_387001 := n0_
            have HO419 := n1_
            have BK379 := n2_
            have BK386 := n3_
            have HI0 := n4_
            have HK := n5_
            have HB := n6_
            clear n0_ n1_ n2_ n3_ n4_ n5_ n6_
            have hnb71 := NB386_379.out
            have hnc71 := NB379_386.out
            have hnb72 := NB386_0.out
            have hnc72 := NB0_386.out
            have hcz73_0 : w70.cell? ⟨gb386, 0, none⟩ = some (.int .i64 x387000_33) := (blk_cell BK386.out 0).trans rfl
            have hcz73_1 : w70.cell? ⟨gb386, 1, none⟩ = some (.slice (some ⟨go60, 0, none⟩) x387001_33.length co60) := (blk_cell BK386.out 1).trans rfl
            have hfz73_0 := blk_frozen BK386.out 0
            have hfz73_1 := blk_frozen BK386.out 1
            have hnb74 := NB379_0.out
            have hnc74 := NB0_379.out
            have hcz75_0 : w70.cell? ⟨gb379, 0, none⟩ = some (.int .i64 0) := (blk_cell BK379.out 0).trans rfl
            have hcz75_1 : w70.cell? ⟨gb379, 1, none⟩ = some (.slice none 0 0) := (blk_cell BK379.out 1).trans rfl
            have hfz75_0 := blk_frozen BK379.out 0
            have hfz75_1 := blk_frozen BK379.out 1
            try go_wp2
            refine bodyPost_ret (results_cell_row rfl _ _ gb379 39 #[.int .i64 x387000_33, .slice (some ⟨go60, 0, none⟩) x387001_33.length co60] (0, 0) _ rfl (by (with_reducible repeat (fail)); refine blk_put (cs := #[.int .i64 x387000_33, .slice none 0 0]) ?_ 1 _ rfl; (with_reducible repeat (fail)); refine blk_put (cs := #[.int .i64 0, .slice none 0 0]) ?_ 0 _ rfl; (with_reducible repeat (fail)); exact BK379.out) Tryd.underlying39 rfl (by kernel_rfl)) rfl ?_
            exact ⟨_, by first | rfl | (simp [errW_none, errW_some] <;> rfl) | (simp only [← hji4, ← hji56]; first | rfl | (simp [errW_none, errW_some] <;> rfl)) | (simp [*, errW_none, errW_some] <;> rfl), by (with_reducible repeat (fail)); exact Kd.R_mono (Kd.R_far (p := ⟨gb379, 1, none⟩) (Kd.R_far (p := ⟨gb379, 0, none⟩) (Kd.R_types HO_387001.out BK379.out (by decide)) (fun _ hk => hk.2) (.int .i64 x387000_33)) (fun _ hk => hk.2) (.slice (some ⟨go60, 0, none⟩) x387001_33.length co60)) (fun _ hk => trivial), by repeat ((with_reducible first | exact HI0.out | refine IsS72.far ?_ NB0_379.out _)), by repeat ((with_reducible first | exact HB.out | refine below_set ?_ GE379.out)), by repeat ((with_reducible first | exact HK.out | refine keep_far ?_ GW379.out _))⟩
           ·
            rw [if_neg c59] at H
            exact absurd H (by simp)
          ·
           rw [if_neg c58] at H
           exact absurd H (by simp)
         ·
          rw [if_neg c55] at H
          exact absurd H (by simp)
        ·
         rw [if_neg c53] at H
         have c53b0 : (t411 == 0) = false := beq_eq_false_iff_ne.mpr c53
         have c53b1 : (t411 != 0) = true := bne_iff_ne.mpr c53
         by_cases c76 : t411 = 1
         ·
          rw [if_pos c76] at H
          have c76b0 : (t411 == 1) = true := beq_iff_eq.mpr c76
          have c76b1 : (t411 != 1) = false := bne_eq_false_iff_eq.mpr c76
          clear c76
          obtain ⟨y424, hy424⟩ : ∃ y_ : List Int, y_ = (([0, (-1), wrap64 (ji4 + 1), 9] : List Int)) := ⟨_, rfl⟩
          replace H : ((spec_l1Cur_among.f s0_0 t412 t413 y424).bind fun bt427 => (some (bt427.1, x387001_33, bt427.2.1, bt427.2.2))) = some (r1, r2, r3, r4) := by first | (rw [hy424]; with_reducible exact H) | (have H2_ := (Option.bind_some _ _).symm.trans H; rw [hy424]; with_reducible exact H2_) | (have H2_ := (Option.bind_some _ _).symm.trans H; with_reducible exact H2_) | with_reducible exact H | (rw [hy424]; exact H) | exact H
          have Ny424 := Aside0.mk hy424
          clear hy424
          replace H := Option.bind_eq_some_iff.mp H
          obtain ⟨⟨t427, t428, t429⟩, A770, H⟩ := H
          replace H : (some (t427, x387001_33, t428, t429)) = some (r1, r2, r3, r4) := H
          have A77 := Aside0.mk A770
          clear A770
          simp only [Option.some.injEq, Prod.mk.injEq] at H
          obtain ⟨rfl, rfl, rfl, rfl⟩ := H
          go_wp2_with (first | ((with_reducible refine gate_callee (f := 80) rfl ?_); refine goesL_ (some 58) rfl rfl Tryd.func80 (by kernel_rfl) rfl #[.pointer (some ⟨g, 0, none⟩), .int .i64 24] rfl (by (try simp only [List.map_toArray, List.map_cons, List.map_nil]); first | done | rfl) ?_; (with_reducible refine (spec_l1Cur_pick.calls g s0_0 x1001_33 x1002_33 24 t411 t412 t413 w0 _ ?side1 ?side2 A52.out).mono ?_); (case side1 => repeat ((with_reducible exact HI0.out))); (case side2 => repeat ((with_reducible exact HB.out))); rintro e w78 ⟨rfl, hi, hb, hk⟩; refine ⟨_, rfl, ?_⟩; have n0_ := Aside0.mk (Kd.R_mono (Kd.R_keep (IsS72.apart (show IsS72 w0 _ g s0_0 x1001_33 x1002_33 from by repeat ((with_reducible exact HI0.out))) (by (with_reducible repeat (fail)); exact HO_387001.out) (by decide)) hk (fun _ h => h.2)) (fun _ h => h.1)); have n1_ := Aside0.mk (KeepBut.blk hk (g' := gb379) (o := .cells #[.int .i64 0, .slice none 0 0] 39 (0, 0)) (by (with_reducible repeat (fail)); exact BK379.out) NB379_0.out (by simp)); have n2_ := Aside0.mk (KeepBut.blk hk (g' := gb386) (o := .cells #[.int .i64 x387000_33, u387001] 39 (0, 0)) (by (with_reducible repeat (fail)); exact BK386.out) NB386_0.out (by simp)); have n3_ := Aside0.mk (KeepBut.trans (by repeat ((with_reducible exact HK.out))) hk (.inl rfl)); have n4_ := Aside0.mk (hb); have n5_ := Aside0.mk (hi); clear HO_387001; clear BK379; clear BK386; clear HK; clear HB; clear HI0; have HO_387001 := n0_; have BK379 := n1_; have BK386 := n2_; have HK := n3_; have HB := n4_; have HI0 := n5_; clear n0_ n1_ n2_ n3_ n4_ n5_; (try clear hb); (try clear hb2); (try clear hk); (try clear hi)) | ((with_reducible refine gate_dst (N := 77) rfl ?_); refine Kd.R_lit (Kd.int .i64) _ 3 ?hg (N := 77) ?hd (xs := ([0, (-1), wrap64 (ji4 + 1), 9] : List Int)) (inner := [.int .i64 0, .int .i64 (-1), .int .i64 (wrap64 (ji4 + 1)), .int .i64 9]) (ok := fun _ => True) (okp := fun _ => True) ?hr ?hp (fun _ hk => hk) trivial (Below.refl _ _) (Nat.le_refl _) (by simp) ?_; (case hd => rfl); (case hg => rfl); (case hr => first | (go_simp; done) | (go_simp; rfl)); (case hp => exact (Reps.one (show Kd.M (Kd.int .i64) _ _ _ 0 [.int .i64 0] from rfl) (Reps.one (show Kd.M (Kd.int .i64) _ _ _ (-1) [.int .i64 (-1)] from rfl) (Reps.one (show Kd.M (Kd.int .i64) _ _ _ (wrap64 (ji4 + 1)) [.int .i64 (wrap64 (ji4 + 1))] from rfl) (Reps.one (show Kd.M (Kd.int .i64) _ _ _ 9 [.int .i64 9] from rfl) (Reps.none _ _)))))); intro v425 w79 ho80 hb hg_ hnew_; clear hg_ hnew_; (rw [← Ny424.out] at ho80); have n0_ := Aside0.mk (Kd.R_elder' (by (with_reducible repeat (fail)); exact HO_387001.out) (Kd.R_base ho80) hb); have n1_ := Aside0.mk (Kd.R_lower (Kd.R_new' ho80 (Kd.R_lt (by (with_reducible repeat (fail)); exact HO_387001.out))) (keep_size (w := w) (g := g) (row := none) (by repeat ((with_reducible exact HK.out))))); have n2_ := Aside0.mk (blk_below (g := gb379) (o := .cells #[.int .i64 0, .slice none 0 0] 39 (0, 0)) (by (with_reducible repeat (fail)); exact BK379.out) hb); have n3_ := Aside0.mk (blk_below (g := gb386) (o := .cells #[.int .i64 x387000_33, u387001] 39 (0, 0)) (by (with_reducible repeat (fail)); exact BK386.out) hb); have n4_ := Aside0.mk (IsS72.below (by repeat ((with_reducible exact HI0.out))) hb); have n5_ := Aside0.mk (KeepBut.trans (by repeat ((with_reducible exact HK.out))) (KeepBut.of_below hb g none) (.inl rfl)); have n6_ := Aside0.mk (below_step (by repeat ((with_reducible exact HB.out))) hb); clear HO_387001; clear BK379; clear BK386; clear HI0; clear HK; clear HB; have HO_387001 := n0_; have HO426 := n1_; have BK379 := n2_; have BK386 := n3_; have HI0 := n4_; have HK := n5_; have HB := n6_; clear n0_ n1_ n2_ n3_ n4_ n5_ n6_; clear hb ho80; obtain ⟨Ao81, co81, eo81⟩ := Kd.R_slice HO426.out; subst eo81) | ((with_reducible refine gate_callee (f := 81) rfl ?_); refine goesL_ (some 78) rfl rfl Tryd.func81 (by kernel_rfl) rfl #[.pointer (some ⟨g, 0, none⟩), .slice Ao81 y424.length co81] rfl (by (try simp only [List.map_toArray, List.map_cons, List.map_nil]); first | done | rfl) ?_; (with_reducible refine (spec_l1Cur_among.calls g s0_0 t412 t413 _ _ y424 t427 t428 t429 w0 _ ?side1 ?side2 ?side3 ?side4 ?side5 A77.out).mono ?_); (case side1 => repeat ((with_reducible exact HI0.out))); (case side2 => repeat ((with_reducible exact HB.out))); (case side3 => repeat (exact (Kd.R_reads' HO426.out).2.2)); (case side4 => exact (Kd.R_reads' HO426.out).2.1); (case side5 => exact far_slice (IsS72.own_ne HI0.out HO426.out (by decide))); rintro e w82 ⟨rfl, hi, hb, hk⟩; refine ⟨_, rfl, ?_⟩; have n0_ := Aside0.mk (Kd.R_mono (Kd.R_keep (IsS72.apart (show IsS72 w0 _ g s0_0 t412 t413 from by repeat ((with_reducible exact HI0.out))) (by (with_reducible repeat (fail)); exact HO_387001.out) (by decide)) hk (fun _ h => h.2)) (fun _ h => h.1)); have n1_ := Aside0.mk (KeepBut.blk hk (g' := gb379) (o := .cells #[.int .i64 0, .slice none 0 0] 39 (0, 0)) (by (with_reducible repeat (fail)); exact BK379.out) NB379_0.out (by simp)); have n2_ := Aside0.mk (KeepBut.blk hk (g' := gb386) (o := .cells #[.int .i64 x387000_33, u387001] 39 (0, 0)) (by (with_reducible repeat (fail)); exact BK386.out) NB386_0.out (by simp)); have n3_ := Aside0.mk (Kd.R_mono (Kd.R_keep (IsS72.apart (show IsS72 w0 _ g s0_0 t412 t413 from by repeat ((with_reducible exact HI0.out))) (by (with_reducible repeat (fail)); exact HO426.out) (by decide)) hk (fun _ h => h.2)) (fun _ h => h.1)); have n4_ := Aside0.mk (KeepBut.trans (by repeat ((with_reducible exact HK.out))) hk (.inl rfl)); have n5_ := Aside0.mk (hb); have n6_ := Aside0.mk (hi); clear HO_387001; clear BK379; clear BK386; clear HO426; clear HK; clear HB; clear HI0; have HO_387001 := n0_; have BK379 := n1_; have BK386 := n2_; have HO426 := n3_; have HK := n4_; have HB := n5_; have HI0 := n6_; clear n0_ n1_ n2_ n3_ n4_ n5_ n6_; (try clear hb); (try clear hb2); (try clear hk); (try clear hi); have hnb83 := NB386_379.out; have hnc83 := NB379_386.out; have hnb84 := NB386_0.out; have hnc84 := NB0_386.out; have hcz85_0 : w82.cell? ⟨gb386, 0, none⟩ = some (.int .i64 x387000_33) := (blk_cell BK386.out 0).trans rfl; have hcz85_1 : w82.cell? ⟨gb386, 1, none⟩ = some (u387001) := (blk_cell BK386.out 1).trans rfl; have hfz85_0 := blk_frozen BK386.out 0; have hfz85_1 := blk_frozen BK386.out 1; have hnb86 := NB379_0.out; have hnc86 := NB0_379.out; have hcz87_0 : w82.cell? ⟨gb379, 0, none⟩ = some (.int .i64 0) := (blk_cell BK379.out 0).trans rfl; have hcz87_1 : w82.cell? ⟨gb379, 1, none⟩ = some (.slice none 0 0) := (blk_cell BK379.out 1).trans rfl; have hfz87_0 := blk_frozen BK379.out 0; have hfz87_1 := blk_frozen BK379.out 1; obtain ⟨Ao88, co88, eo88⟩ := Kd.R_slice HO_387001.out; subst eo88))
          refine bodyPost_ret (results_cell_row rfl _ _ gb379 39 #[.int .i64 t427, .slice Ao88 x387001_33.length co88] (0, 0) _ rfl (by (with_reducible repeat (fail)); refine blk_put (cs := #[.int .i64 t427, .slice none 0 0]) ?_ 1 _ rfl; (with_reducible repeat (fail)); refine blk_put (cs := #[.int .i64 0, .slice none 0 0]) ?_ 0 _ rfl; (with_reducible repeat (fail)); refine blk_far ?_ NB379_386.out _; (with_reducible repeat (fail)); exact BK379.out) Tryd.underlying39 rfl (by kernel_rfl)) rfl ?_
          exact ⟨_, by first | rfl | (simp [errW_none, errW_some] <;> rfl) | (simp only [← hji4]; first | rfl | (simp [errW_none, errW_some] <;> rfl)) | (simp [*, errW_none, errW_some] <;> rfl), by (with_reducible repeat (fail)); exact Kd.R_mono (Kd.R_far (p := ⟨gb379, 1, none⟩) (Kd.R_far (p := ⟨gb379, 0, none⟩) (Kd.R_far (p := ⟨gb386, 0, none⟩) (Kd.R_types (Kd.R_types HO_387001.out BK386.out (by decide)) BK379.out (by decide)) (fun _ hk => hk.1.2) (.int .i64 t427)) (fun _ hk => hk.2) (.int .i64 t427)) (fun _ hk => hk.2) (.slice Ao88 x387001_33.length co88)) (fun _ hk => trivial), by repeat ((with_reducible first | exact HI0.out | refine IsS72.far ?_ NB0_379.out _ | refine IsS72.far ?_ NB0_386.out _)), by repeat ((with_reducible first | exact HB.out | refine below_set ?_ GE379.out | refine below_set ?_ GE386.out)), by repeat ((with_reducible first | exact HK.out | refine keep_far ?_ GW379.out _ | refine keep_far ?_ GW386.out _))⟩
         ·
          rw [if_neg c76] at H
          have c76b0 : (t411 == 1) = false := beq_eq_false_iff_ne.mpr c76
          have c76b1 : (t411 != 1) = true := bne_iff_ne.mpr c76
          simp only [Option.some.injEq, Prod.mk.injEq] at H
          obtain ⟨rfl, rfl, rfl, rfl⟩ := H
          go_wp2_with (((with_reducible refine gate_callee (f := 80) rfl ?_); refine goesL_ (some 58) rfl rfl Tryd.func80 (by kernel_rfl) rfl #[.pointer (some ⟨g, 0, none⟩), .int .i64 24] rfl (by (try simp only [List.map_toArray, List.map_cons, List.map_nil]); first | done | rfl) ?_; (with_reducible refine (spec_l1Cur_pick.calls g s0_0 x1001_33 x1002_33 24 t411 t412 t413 w0 _ ?side1 ?side2 A52.out).mono ?_); (case side1 => repeat ((with_reducible exact HI0.out))); (case side2 => repeat ((with_reducible exact HB.out))); rintro e w89 ⟨rfl, hi, hb, hk⟩; refine ⟨_, rfl, ?_⟩; have n0_ := Aside0.mk (Kd.R_mono (Kd.R_keep (IsS72.apart (show IsS72 w0 _ g s0_0 x1001_33 x1002_33 from by repeat ((with_reducible exact HI0.out))) (by (with_reducible repeat (fail)); exact HO_387001.out) (by decide)) hk (fun _ h => h.2)) (fun _ h => h.1)); have n1_ := Aside0.mk (KeepBut.blk hk (g' := gb379) (o := .cells #[.int .i64 0, .slice none 0 0] 39 (0, 0)) (by (with_reducible repeat (fail)); exact BK379.out) NB379_0.out (by simp)); have n2_ := Aside0.mk (KeepBut.blk hk (g' := gb386) (o := .cells #[.int .i64 x387000_33, u387001] 39 (0, 0)) (by (with_reducible repeat (fail)); exact BK386.out) NB386_0.out (by simp)); have n3_ := Aside0.mk (KeepBut.trans (by repeat ((with_reducible exact HK.out))) hk (.inl rfl)); have n4_ := Aside0.mk (hb); have n5_ := Aside0.mk (hi); clear HO_387001; clear BK379; clear BK386; clear HK; clear HB; clear HI0; have HO_387001 := n0_; have BK379 := n1_; have BK386 := n2_; have HK := n3_; have HB := n4_; have HI0 := n5_; clear n0_ n1_ n2_ n3_ n4_ n5_; (try clear hb); (try clear hb2); (try clear hk); (try clear hi); have hnb90 := NB386_379.out; have hnc90 := NB379_386.out; have hnb91 := NB386_0.out; have hnc91 := NB0_386.out; have hcz92_0 : w89.cell? ⟨gb386, 0, none⟩ = some (.int .i64 x387000_33) := (blk_cell BK386.out 0).trans rfl; have hcz92_1 : w89.cell? ⟨gb386, 1, none⟩ = some (u387001) := (blk_cell BK386.out 1).trans rfl; have hfz92_0 := blk_frozen BK386.out 0; have hfz92_1 := blk_frozen BK386.out 1; have hnb93 := NB379_0.out; have hnc93 := NB0_379.out; have hcz94_0 : w89.cell? ⟨gb379, 0, none⟩ = some (.int .i64 0) := (blk_cell BK379.out 0).trans rfl; have hcz94_1 : w89.cell? ⟨gb379, 1, none⟩ = some (.slice none 0 0) := (blk_cell BK379.out 1).trans rfl; have hfz94_0 := blk_frozen BK379.out 0; have hfz94_1 := blk_frozen BK379.out 1; obtain ⟨Ao95, co95, eo95⟩ := Kd.R_slice HO_387001.out; subst eo95))
          refine bodyPost_ret (results_cell_row rfl _ _ gb379 39 #[.int .i64 x387000_33, .slice Ao95 x387001_33.length co95] (0, 0) _ rfl (by (with_reducible repeat (fail)); refine blk_put (cs := #[.int .i64 x387000_33, .slice none 0 0]) ?_ 1 _ rfl; (with_reducible repeat (fail)); refine blk_put (cs := #[.int .i64 0, .slice none 0 0]) ?_ 0 _ rfl; (with_reducible repeat (fail)); exact BK379.out) Tryd.underlying39 rfl (by kernel_rfl)) rfl ?_
          exact ⟨_, by first | rfl | (simp [errW_none, errW_some] <;> rfl) | (simp only [← hji4]; first | rfl | (simp [errW_none, errW_some] <;> rfl)) | (simp [*, errW_none, errW_some] <;> rfl), by (with_reducible repeat (fail)); exact Kd.R_mono (Kd.R_far (p := ⟨gb379, 1, none⟩) (Kd.R_far (p := ⟨gb379, 0, none⟩) (Kd.R_types HO_387001.out BK379.out (by decide)) (fun _ hk => hk.2) (.int .i64 x387000_33)) (fun _ hk => hk.2) (.slice Ao95 x387001_33.length co95)) (fun _ hk => trivial), by repeat ((with_reducible first | exact HI0.out | refine IsS72.far ?_ NB0_379.out _)), by repeat ((with_reducible first | exact HB.out | refine below_set ?_ GE379.out)), by repeat ((with_reducible first | exact HK.out | refine keep_far ?_ GW379.out _))⟩
  ·
   rw [if_neg c6] at H
   exact absurd H (by simp)
 ·
  rw [if_neg c5] at H
  exact absurd H (by simp)
def spec_l1Cur_list.l0 : Nat → Int → List Int → Int → List Int → Int → Int → Option (List Int × Int × Int)
 | 0, _, _, _, _, _, _ => none
 | k + 1, x1, x5, x6, x1000, x1001, x1002 => if x6 > 0 then ((spec_l1Cur_pick.f x1000 x1001 x1002 (wrap64 (x1 + 1))).bind fun bt433 => (if x5.length < 17592186044416 then (spec_l1Cur_list.l0 k x1 (x5 ++ [bt433.1]) (wrap64 (x6 - 1)) x1000 bt433.2.1 bt433.2.2) else (none))) else (some (x5, x1001, x1002))
def spec_l1Cur_list.f (k : Nat) (s0_0 : List Int) (s0_1 : Int) (s0_2 : Int) (a1 : Int) : Option (List Int × Int × Int) := (spec_l1Cur_pick.f s0_0 s0_1 s0_2 6).bind fun bt430 => (spec_l1Cur_list.l0 k a1 ([] : List Int) (wrap64 (1 + bt430.1)) s0_0 bt430.2.1 bt430.2.2)
theorem spec_l1Cur_list.mono_l : ∀ k, (∀ y0 y1 y2 y3 y4 y5, LeO (spec_l1Cur_list.l0 k y0 y1 y2 y3 y4 y5) (spec_l1Cur_list.l0 (k + 1) y0 y1 y2 y3 y4 y5))
 | 0 => fun _ _ _ _ _ _ r h => by simp [spec_l1Cur_list.l0] at h
 | k + 1 => by
  have ih0 := spec_l1Cur_list.mono_l k
  ·
   intro y0 y1 y2 y3 y4 y5
   unfold spec_l1Cur_list.l0
   repeat' first
   | (with_reducible exact ih0 _ _ _ _ _ _)
   | (with_reducible exact LeO.refl _)
   | (with_reducible exact LeO.none _)
   | (with_reducible refine LeO.ite ?_ ?_)
   | (with_reducible refine LeO.bind ?_ (fun _ => ?_))
   | exact ih0 _ _ _ _ _ _
   | exact LeO.none _
   | refine LeO.ite ?_ ?_
   | refine LeO.bind ?_ (fun _ => ?_)
theorem spec_l1Cur_list.mono : ∀ a0 a1 a2 a3 k, LeO (spec_l1Cur_list.f k a0 a1 a2 a3) (spec_l1Cur_list.f (k + 1) a0 a1 a2 a3) := by
 intro a0 a1 a2 a3 k
 have ih0 := spec_l1Cur_list.mono_l k
 unfold spec_l1Cur_list.f
 repeat' first
   | (with_reducible exact ih0 _ _ _ _ _ _)
   | (with_reducible exact LeO.refl _)
   | (with_reducible exact LeO.none _)
   | (with_reducible refine LeO.ite ?_ ?_)
   | (with_reducible refine LeO.bind ?_ (fun _ => ?_))
   | exact ih0 _ _ _ _ _ _
   | exact LeO.none _
   | refine LeO.ite ?_ ?_
   | refine LeO.bind ?_ (fun _ => ?_)
set_option maxHeartbeats 8000000 in
set_option maxRecDepth 100000 in
theorem spec_l1Cur_list.calls (k : Nat) (g : Nat) (s0_0 : List Int) (s0_1 : Int) (s0_2 : Int) (a1 : Int) (r1 : List Int) (r2 : Int) (r3 : Int) (w0 w : World) (hI : IsS72 w0 w g s0_0 s0_1 s0_2) (hB : Below w0.heap.size w0 w) (h : spec_l1Cur_list.f k s0_0 s0_1 s0_2 a1 = some (r1, r2, r3)) :
  Calls Tryd.prog 89 #[.pointer (some ⟨g, 0, none⟩), .int .i64 a1] w fun e w' => ∃ v0_ : Value, e = .returned (v0_) ∧ Kd.R (Kd.int .i64) 3 w' w.heap.size (fun _ => True) v0_ r1 ∧ IsS72 w0 w' g s0_0 r2 r3 ∧ Below w0.heap.size w0 w' ∧ KeepBut w w' g none := by
 have HI0 := Aside0.mk hI
 have HK := Aside0.mk (KeepBut.refl w g none)
 have HL := Aside0.mk hB.size
 clear hI
 have HW0 := Aside0.mk hB.size
 have HB := Aside0.mk hB
 clear hB
 have H : ((spec_l1Cur_pick.f s0_0 s0_1 s0_2 6).bind fun bt430 => (spec_l1Cur_list.l0 k a1 ([] : List Int) (wrap64 (1 + bt430.1)) s0_0 bt430.2.1 bt430.2.2)) = some (r1, r2, r3) := h
 clear h
 replace H := Option.bind_eq_some_iff.mp H
 obtain ⟨⟨t430, t431, t432⟩, A30, H⟩ := H
 replace H : (spec_l1Cur_list.l0 k a1 ([] : List Int) (wrap64 (1 + t430)) s0_0 t431 t432) = some (r1, r2, r3) := H
 have A3 := Aside0.mk A30
 clear A30
 have H' := Aside0.mk H
 clear H
 go_enter Tryd.func89, Tryd.ntmps89
 go_wp2_with (first | ((with_reducible refine gate_callee (f := 80) rfl ?_); refine goesL_ (some 8) rfl rfl Tryd.func80 (by kernel_rfl) rfl #[.pointer (some ⟨g, 0, none⟩), .int .i64 6] rfl (by (try simp only [List.map_toArray, List.map_cons, List.map_nil]); first | done | rfl) ?_; (with_reducible refine (spec_l1Cur_pick.calls g s0_0 s0_1 s0_2 6 t430 t431 t432 w0 _ ?side1 ?side2 A3.out).mono ?_); (case side1 => repeat (first | (with_reducible first | exact HI0.out | apply IsS72.alloc | apply IsS72.drewN | apply IsS72.drew | apply IsS72.set_1 | apply IsS72.set_2) | exact HI0.out)); (case side2 => repeat (first | (with_reducible first | exact HB.out | apply below_alloc | apply pw_below_drewN | apply below_drew1 | refine below_set ?_ (IsS72.ge HI0.out)) | exact HB.out)); rintro e w4 ⟨rfl, hi, hb, hk⟩; refine ⟨_, rfl, ?_⟩; have n0_ := Aside0.mk (KeepBut.trans (by repeat (first | (with_reducible first | exact HK.out | apply KeepBut.set_ | apply keep_drewN | apply keep_drew | apply keep_alloc) | exact HK.out)) hk (.inl rfl)); have n1_ := Aside0.mk (hb); have n2_ := Aside0.mk (hi); clear HK; clear HB; clear HI0; have HK := n0_; have HB := n1_; have HI0 := n2_; clear n0_ n1_ n2_; (try clear hb); (try clear hb2); (try clear hk); (try clear hi)))
 go_loopg [5, 6] k (fun kq v5 v6 w' => ∃ (x5_1 : List Int) (x6_1 : Int) (x1001_1 : Int) (x1002_1 : Int), v6 = .int .i64 x6_1 ∧ Aside0 (spec_l1Cur_list.l0 kq a1 x5_1 x6_1 s0_0 x1001_1 x1002_1 = some (r1, r2, r3)) ∧ Aside0 (kq ≤ k) ∧ Aside0 (Kd.R (Kd.int .i64) 3 w' w.heap.size (fun _ => True) v5 x5_1) ∧ Aside0 (IsS72 w0 w' g s0_0 x1001_1 x1002_1) ∧ Aside0 (KeepBut w w' g none) ∧ Aside0 (Below w0.heap.size w0 w'))
 case atStart => exact ⟨(([] : List Int)), (wrap64 (1 + t430)), (t431), (t432), (by first | rfl | (simp; done) | (simp [*]; done)), H', ⟨Nat.le_refl _⟩, ⟨by first | exact Kd.R_nil _ _ _ _ _ | exact Kd.N_nil _ _ _ _ _ | exact Kd.V_nil _ _ _ _ _ | exact Kd.Q_nil _ _ _ _ _ | exact Kd.S_nil _ _ _ _ _⟩, ⟨by repeat (first | (with_reducible first | exact HI0.out | apply IsS72.alloc | apply IsS72.drewN | apply IsS72.drew | apply IsS72.set_1 | apply IsS72.set_2) | exact HI0.out)⟩, ⟨by repeat (first | (with_reducible first | exact HK.out | apply KeepBut.set_ | apply keep_drewN | apply keep_drew | apply keep_alloc) | exact HK.out)⟩, ⟨by repeat (first | (with_reducible first | exact HB.out | apply below_alloc | apply pw_below_drewN | apply below_drew1 | refine below_set ?_ (IsS72.ge HI0.out)) | exact HB.out)⟩⟩
 case round =>
  clear H'
  (try clear p2)
  obtain ⟨x5_1, x6_1, x1001_1, x1002_1, rfl, HA, HK1, HO_5, HI0, HK, HB⟩ := hrel
  cases gk with
  | zero => exact absurd HA.out (by simp [spec_l1Cur_list.l0])
  | succ k1 =>
   have H := HA.out
   clear HA
   simp only [spec_l1Cur_list.l0] at H
   by_cases c5 : x6_1 > 0
   ·
    rw [if_pos c5] at H
    have c5b0 : decide (0 < x6_1) = true := decide_eq_true c5
    clear c5
    replace H := Option.bind_eq_some_iff.mp H
    obtain ⟨⟨t433, t434, t435⟩, A60, H⟩ := H
    replace H : (if x5_1.length < 17592186044416 then (spec_l1Cur_list.l0 k1 a1 (x5_1 ++ [t433]) (wrap64 (x6_1 - 1)) s0_0 t434 t435) else (none)) = some (r1, r2, r3) := H
    have A6 := Aside0.mk A60
    clear A60
    by_cases c7 : x5_1.length < 17592186044416
    ·
     rw [if_pos c7] at H
     have LMc7 := Aside0.mk c7
     clear c7
     obtain ⟨y436, hy436⟩ : ∃ y_ : List Int, y_ = (x5_1 ++ [t433]) := ⟨_, rfl⟩
     replace H : (spec_l1Cur_list.l0 k1 a1 y436 (wrap64 (x6_1 - 1)) s0_0 t434 t435) = some (r1, r2, r3) := by first | (rw [hy436]; with_reducible exact H) | (have H2_ := (Option.bind_some _ _).symm.trans H; rw [hy436]; with_reducible exact H2_) | (have H2_ := (Option.bind_some _ _).symm.trans H; with_reducible exact H2_) | with_reducible exact H | (rw [hy436]; exact H) | exact H
     have Ny436 := Aside0.mk hy436
     clear hy436
     have H' := Aside0.mk H
     clear H
     go_wp2_with (first | ((with_reducible refine gate_callee (f := 80) rfl ?_); refine goesL_ (some 18) rfl rfl Tryd.func80 (by kernel_rfl) rfl #[.pointer (some ⟨g, 0, none⟩), .int .i64 (wrap64 (a1 + 1))] rfl (by (try simp only [List.map_toArray, List.map_cons, List.map_nil]); first | done | rfl) ?_; (with_reducible refine (spec_l1Cur_pick.calls g s0_0 x1001_1 x1002_1 (wrap64 (a1 + 1)) t433 t434 t435 w0 _ ?side1 ?side2 A6.out).mono ?_); (case side1 => repeat (first | (with_reducible first | exact HI0.out | apply IsS72.alloc | apply IsS72.drewN | apply IsS72.drew | apply IsS72.set_1 | apply IsS72.set_2) | exact HI0.out)); (case side2 => repeat (first | (with_reducible first | exact HB.out | apply below_alloc | apply pw_below_drewN | apply below_drew1 | refine below_set ?_ (IsS72.ge HI0.out)) | exact HB.out)); rintro e w8 ⟨rfl, hi, hb, hk⟩; refine ⟨_, rfl, ?_⟩; have n0_ := Aside0.mk (Kd.R_mono (Kd.R_keep (IsS72.apart (show IsS72 w0 _ g s0_0 x1001_1 x1002_1 from by repeat (first | (with_reducible first | exact HI0.out | apply IsS72.alloc | apply IsS72.drewN | apply IsS72.drew | apply IsS72.set_1 | apply IsS72.set_2) | exact HI0.out)) (by (with_reducible repeat (first | apply Kd.R_alloc | apply Kd.R_drewN | apply Kd.R_drew)); exact HO_5.out) (by decide)) hk (fun _ h => h.2)) (fun _ h => h.1)); have n1_ := Aside0.mk (KeepBut.trans (by repeat (first | (with_reducible first | exact HK.out | apply KeepBut.set_ | apply keep_drewN | apply keep_drew | apply keep_alloc) | exact HK.out)) hk (.inl rfl)); have n2_ := Aside0.mk (hb); have n3_ := Aside0.mk (hi); clear HO_5; clear HK; clear HB; clear HI0; have HO_5 := n0_; have HK := n1_; have HB := n2_; have HI0 := n3_; clear n0_ n1_ n2_ n3_; (try clear hb); (try clear hb2); (try clear hk); (try clear hi)) | ((with_reducible refine gate_builtin (b := .append) (xs := #[.tmp 14, .tmp 19]) rfl ?_); at_builtin; refine Kd.R_append (Kd.int .i64) w.heap.size rfl (.tmp 14) (.tmp 19) 24 3 (.int .i64 0) 8 rfl Tryd.underlying24 info3 rfl (by decide) (by omega) u5 x5_1 t433 [.int .i64 t433] (fun _ => True) (fun _ => False) rfl rfl ?aP (fun _ hk => hk.elim) ?aF ?aO (Below.refl _ _) ?aS ?aL ?_; (case aP => exact rfl); (case aF => exact (fun _ _ => trivial)); (case aO => exact (by (with_reducible repeat (first | apply Kd.R_alloc | apply Kd.R_drewN | apply Kd.R_drew)); exact HO_5.out)); (case aS => exact (keep_size (w := w) (g := g) (row := none) (by repeat (first | (with_reducible first | exact HK.out | apply KeepBut.set_ | apply keep_drewN | apply keep_drew | apply keep_alloc) | exact HK.out)))); (case aL => have := LMc7.out; omega); intro v437 w9 ho hb hg hat; rw [← Ny436.out] at ho; have n0_ := Aside0.mk (IsS72.grown (by repeat (first | (with_reducible first | exact HI0.out | apply IsS72.alloc | apply IsS72.drewN | apply IsS72.drew | apply IsS72.set_1 | apply IsS72.set_2) | exact HI0.out)) hg (IsS72.own_ne HI0.out HO_5.out (by decide))); have n1_ := Aside0.mk (below_weaken (by repeat (first | (with_reducible first | exact HB.out | apply below_alloc | apply pw_below_drewN | apply below_drew1 | refine below_set ?_ (IsS72.ge HI0.out)) | exact HB.out)) HL.out hb); have n2_ := Aside0.mk (KeepBut.trans (by repeat (first | (with_reducible first | exact HK.out | apply KeepBut.set_ | apply keep_drewN | apply keep_drew | apply keep_alloc) | exact HK.out)) (KeepBut.of_grown hg g) (Kd.R_base2 HO_5.out)); have n3_ := Aside0.mk (ho); clear HI0; clear HB; clear HK; clear HO_5; have HI0 := n0_; have HB := n1_; have HK := n2_; have HO438 := n3_; clear n0_ n1_ n2_ n3_; clear ho hb hg hat))
     go_roundg k1
     case measure => have := HK1.out; omega
     case rel => exact ⟨(y436), (wrap64 (x6_1 - 1)), (t434), (t435), (by first | rfl | (simp; done) | (simp [*]; done)), H', ⟨by have := HK1.out; omega⟩, ⟨by (with_reducible repeat (first | apply Kd.R_alloc | apply Kd.R_drewN | apply Kd.R_drew)); exact HO438.out⟩, ⟨by repeat (first | (with_reducible first | exact HI0.out | apply IsS72.alloc | apply IsS72.drewN | apply IsS72.drew | apply IsS72.set_1 | apply IsS72.set_2) | exact HI0.out)⟩, ⟨by repeat (first | (with_reducible first | exact HK.out | apply KeepBut.set_ | apply keep_drewN | apply keep_drew | apply keep_alloc) | exact HK.out)⟩, ⟨by repeat (first | (with_reducible first | exact HB.out | apply below_alloc | apply pw_below_drewN | apply below_drew1 | refine below_set ?_ (IsS72.ge HI0.out)) | exact HB.out)⟩⟩
    ·
     rw [if_neg c7] at H
     exact absurd H (by simp)
   ·
    rw [if_neg c5] at H
    have c5b0 : decide (0 < x6_1) = false := decide_eq_false c5
    clear c5
    simp only [Option.some.injEq, Prod.mk.injEq] at H
    obtain ⟨rfl, rfl, rfl⟩ := H
    go_wp2
    go_ret
    exact ⟨_, by first | rfl | (simp [errW_none, errW_some] <;> rfl) | (simp [*, errW_none, errW_some] <;> rfl), by (with_reducible repeat (first | apply Kd.R_alloc | apply Kd.R_drewN | apply Kd.R_drew)); exact HO_5.out, by repeat (first | (with_reducible first | exact HI0.out | apply IsS72.alloc | apply IsS72.drewN | apply IsS72.drew | apply IsS72.set_1 | apply IsS72.set_2) | exact HI0.out), by repeat (first | (with_reducible first | exact HB.out | apply below_alloc | apply pw_below_drewN | apply below_drew1 | refine below_set ?_ (IsS72.ge HI0.out)) | exact HB.out), by repeat (first | (with_reducible first | exact HK.out | apply KeepBut.set_ | apply keep_drewN | apply keep_drew | apply keep_alloc) | exact HK.out)⟩
def spec_l1Cur_anyList.l0 : Nat → List Int → List Int → Int → Int → Option (List Int × Int × Int)
 | 0, _, _, _, _ => none
 | k + 1, x5, x1000, x1001, x1002 => (spec_l1Cur_pick.f x1000 x1001 x1002 2).bind fun bt456 => (if (x5.length : Int) < (wrap64 (8 + bt456.1)) then ((spec_l1Cur_pick.f x1000 bt456.2.1 bt456.2.2 9).bind fun bt459 => (if x5.length < 17592186044416 then (spec_l1Cur_anyList.l0 k (x5 ++ [bt459.1]) x1000 bt459.2.1 bt459.2.2) else (none))) else (some (x5, bt456.2.1, bt456.2.2)))
def spec_l1Cur_anyList.f (k : Nat) (s0_0 : List Int) (s0_1 : Int) (s0_2 : Int) (a1 : Int) : Option (List Int × Int × Int) := (spec_l1Cur_list.f k s0_0 s0_1 s0_2 a1).bind fun bt439 => ((spec_l1Cur_pick.f s0_0 bt439.2.1 bt439.2.2 14).bind fun bt444 => (if bt444.1 = 0 then ((spec_l1Cur_among.f s0_0 bt444.2.1 bt444.2.2 (([(-1), 0, 60, 61] : List Int))).bind fun bt450 => (if bt439.1.length < 17592186044416 then (some ((bt439.1 ++ [bt450.1]), bt450.2.1, bt450.2.2)) else (none))) else (if bt444.1 = 1 then (spec_l1Cur_anyList.l0 k bt439.1 s0_0 bt444.2.1 bt444.2.2) else (if bt444.1 = 2 then (some (([] : List Int), bt444.2.1, bt444.2.2)) else (some (bt439.1, bt444.2.1, bt444.2.2))))))
theorem spec_l1Cur_anyList.mono_l : ∀ k, (∀ y0 y1 y2 y3, LeO (spec_l1Cur_anyList.l0 k y0 y1 y2 y3) (spec_l1Cur_anyList.l0 (k + 1) y0 y1 y2 y3))
 | 0 => fun _ _ _ _ r h => by simp [spec_l1Cur_anyList.l0] at h
 | k + 1 => by
  have ih0 := spec_l1Cur_anyList.mono_l k
  ·
   intro y0 y1 y2 y3
   unfold spec_l1Cur_anyList.l0
   repeat' first
   | (with_reducible exact ih0 _ _ _ _)
   | (with_reducible exact LeO.refl _)
   | (with_reducible refine LeO.ite ?_ ?_)
   | (with_reducible refine LeO.bind ?_ (fun _ => ?_))
theorem spec_l1Cur_anyList.mono : ∀ a0 a1 a2 a3 k, LeO (spec_l1Cur_anyList.f k a0 a1 a2 a3) (spec_l1Cur_anyList.f (k + 1) a0 a1 a2 a3) := by
 intro a0 a1 a2 a3 k
 have ih0 := spec_l1Cur_anyList.mono_l k
 unfold spec_l1Cur_anyList.f
 repeat' first
   | (with_reducible exact ih0 _ _ _ _)
   | (with_reducible exact spec_l1Cur_list.mono _ _ _ _ _)
   | (with_reducible exact LeO.refl _)
   | (with_reducible refine LeO.ite ?_ ?_)
   | (with_reducible refine LeO.bind ?_ (fun _ => ?_))
set_option maxHeartbeats 8000000 in
set_option maxRecDepth 100000 in
theorem spec_l1Cur_anyList.calls (k : Nat) (g : Nat) (s0_0 : List Int) (s0_1 : Int) (s0_2 : Int) (a1 : Int) (r1 : List Int) (r2 : Int) (r3 : Int) (w0 w : World) (hI : IsS72 w0 w g s0_0 s0_1 s0_2) (hB : Below w0.heap.size w0 w) (h : spec_l1Cur_anyList.f k s0_0 s0_1 s0_2 a1 = some (r1, r2, r3)) :
  Calls Tryd.prog 88 #[.pointer (some ⟨g, 0, none⟩), .int .i64 a1] w fun e w' => ∃ v0_ : Value, e = .returned (v0_) ∧ Kd.R (Kd.int .i64) 3 w' w.heap.size (fun _ => True) v0_ r1 ∧ IsS72 w0 w' g s0_0 r2 r3 ∧ Below w0.heap.size w0 w' ∧ KeepBut w w' g none := by
 have HI0 := Aside0.mk hI
 have HK := Aside0.mk (KeepBut.refl w g none)
 have HL := Aside0.mk hB.size
 clear hI
 have HW0 := Aside0.mk hB.size
 have HB := Aside0.mk hB
 clear hB
 have H : ((spec_l1Cur_list.f k s0_0 s0_1 s0_2 a1).bind fun bt439 => ((spec_l1Cur_pick.f s0_0 bt439.2.1 bt439.2.2 14).bind fun bt444 => (if bt444.1 = 0 then ((spec_l1Cur_among.f s0_0 bt444.2.1 bt444.2.2 (([(-1), 0, 60, 61] : List Int))).bind fun bt450 => (if bt439.1.length < 17592186044416 then (some ((bt439.1 ++ [bt450.1]), bt450.2.1, bt450.2.2)) else (none))) else (if bt444.1 = 1 then (spec_l1Cur_anyList.l0 k bt439.1 s0_0 bt444.2.1 bt444.2.2) else (if bt444.1 = 2 then (some (([] : List Int), bt444.2.1, bt444.2.2)) else (some (bt439.1, bt444.2.1, bt444.2.2))))))) = some (r1, r2, r3) := h
 clear h
 replace H := Option.bind_eq_some_iff.mp H
 obtain ⟨⟨t439, t442, t443⟩, A30, H⟩ := H
 replace H : ((spec_l1Cur_pick.f s0_0 t442 t443 14).bind fun bt444 => (if bt444.1 = 0 then ((spec_l1Cur_among.f s0_0 bt444.2.1 bt444.2.2 (([(-1), 0, 60, 61] : List Int))).bind fun bt450 => (if t439.length < 17592186044416 then (some ((t439 ++ [bt450.1]), bt450.2.1, bt450.2.2)) else (none))) else (if bt444.1 = 1 then (spec_l1Cur_anyList.l0 k t439 s0_0 bt444.2.1 bt444.2.2) else (if bt444.1 = 2 then (some (([] : List Int), bt444.2.1, bt444.2.2)) else (some (t439, bt444.2.1, bt444.2.2)))))) = some (r1, r2, r3) := H
 have A3 := Aside0.mk A30
 clear A30
 replace H := Option.bind_eq_some_iff.mp H
 obtain ⟨⟨t444, t445, t446⟩, A40, H⟩ := H
 replace H : (if t444 = 0 then ((spec_l1Cur_among.f s0_0 t445 t446 (([(-1), 0, 60, 61] : List Int))).bind fun bt450 => (if t439.length < 17592186044416 then (some ((t439 ++ [bt450.1]), bt450.2.1, bt450.2.2)) else (none))) else (if t444 = 1 then (spec_l1Cur_anyList.l0 k t439 s0_0 t445 t446) else (if t444 = 2 then (some (([] : List Int), t445, t446)) else (some (t439, t445, t446))))) = some (r1, r2, r3) := H
 have A4 := Aside0.mk A40
 clear A40
 by_cases c5 : t444 = 0
 ·
  rw [if_pos c5] at H
  have c5b0 : (t444 == 0) = true := beq_iff_eq.mpr c5
  have c5b1 : (t444 != 0) = false := bne_eq_false_iff_eq.mpr c5
  clear c5
  obtain ⟨y447, hy447⟩ : ∃ y_ : List Int, y_ = (([(-1), 0, 60, 61] : List Int)) := ⟨_, rfl⟩
  replace H : ((spec_l1Cur_among.f s0_0 t445 t446 y447).bind fun bt450 => (if t439.length < 17592186044416 then (some ((t439 ++ [bt450.1]), bt450.2.1, bt450.2.2)) else (none))) = some (r1, r2, r3) := by first | (rw [hy447]; with_reducible exact H) | (have H2_ := (Option.bind_some _ _).symm.trans H; rw [hy447]; with_reducible exact H2_) | (have H2_ := (Option.bind_some _ _).symm.trans H; with_reducible exact H2_) | with_reducible exact H | (rw [hy447]; exact H) | exact H
  have Ny447 := Aside0.mk hy447
  clear hy447
  replace H := Option.bind_eq_some_iff.mp H
  obtain ⟨⟨t450, t451, t452⟩, A60, H⟩ := H
  replace H : (if t439.length < 17592186044416 then (some ((t439 ++ [t450]), t451, t452)) else (none)) = some (r1, r2, r3) := H
  have A6 := Aside0.mk A60
  clear A60
  by_cases c7 : t439.length < 17592186044416
  ·
   rw [if_pos c7] at H
   have LMc7 := Aside0.mk c7
   clear c7
   obtain ⟨y453, hy453⟩ : ∃ y_ : List Int, y_ = (t439 ++ [t450]) := ⟨_, rfl⟩
   replace H : (some (y453, t451, t452)) = some (r1, r2, r3) := by first | (rw [hy453]; with_reducible exact H) | (have H2_ := (Option.bind_some _ _).symm.trans H; rw [hy453]; with_reducible exact H2_) | (have H2_ := (Option.bind_some _ _).symm.trans H; with_reducible exact H2_) | with_reducible exact H | (rw [hy453]; exact H) | exact H
   have Ny453 := Aside0.mk hy453
   clear hy453
   simp only [Option.some.injEq, Prod.mk.injEq] at H
   obtain ⟨rfl, rfl, rfl⟩ := H
   go_enter Tryd.func88, Tryd.ntmps88
   go_wp2_with (first | ((with_reducible refine gate_callee (f := 89) rfl ?_); refine goesL_ (some 8) rfl rfl Tryd.func89 (by kernel_rfl) rfl #[.pointer (some ⟨g, 0, none⟩), .int .i64 a1] rfl (by (try simp only [List.map_toArray, List.map_cons, List.map_nil]); first | done | rfl) ?_; (with_reducible refine (spec_l1Cur_list.calls k g s0_0 s0_1 s0_2 a1 t439 t442 t443 w0 _ ?side1 ?side2 A3.out).mono ?_); (case side1 => repeat ((with_reducible exact HI0.out))); (case side2 => repeat ((with_reducible exact HB.out))); rintro e w8 ⟨v440, rfl, ho0, hi, hb, hk⟩; refine ⟨_, rfl, ?_⟩; have n0_ := Aside0.mk (Kd.R_lower ho0 (keep_size (w := w) (g := g) (row := none) (by repeat ((with_reducible exact HK.out))))); have n1_ := Aside0.mk (KeepBut.trans (by repeat ((with_reducible exact HK.out))) hk (.inl rfl)); have n2_ := Aside0.mk (hb); have n3_ := Aside0.mk (hi); clear HK; clear HB; clear HI0; have HO441 := n0_; have HK := n1_; have HB := n2_; have HI0 := n3_; clear n0_ n1_ n2_ n3_; (try clear hb); (try clear hb2); (try clear hk); (try clear hi); (try clear ho0)) | ((with_reducible refine gate_callee (f := 80) rfl ?_); refine goesL_ (some 10) rfl rfl Tryd.func80 (by kernel_rfl) rfl #[.pointer (some ⟨g, 0, none⟩), .int .i64 14] rfl (by (try simp only [List.map_toArray, List.map_cons, List.map_nil]); first | done | rfl) ?_; (with_reducible refine (spec_l1Cur_pick.calls g s0_0 t442 t443 14 t444 t445 t446 w0 _ ?side1 ?side2 A4.out).mono ?_); (case side1 => repeat ((with_reducible exact HI0.out))); (case side2 => repeat ((with_reducible exact HB.out))); rintro e w9 ⟨rfl, hi, hb, hk⟩; refine ⟨_, rfl, ?_⟩; have n0_ := Aside0.mk (Kd.R_mono (Kd.R_keep (IsS72.apart (show IsS72 w0 _ g s0_0 t442 t443 from by repeat ((with_reducible exact HI0.out))) (by (with_reducible repeat (fail)); exact HO441.out) (by decide)) hk (fun _ h => h.2)) (fun _ h => h.1)); have n1_ := Aside0.mk (KeepBut.trans (by repeat ((with_reducible exact HK.out))) hk (.inl rfl)); have n2_ := Aside0.mk (hb); have n3_ := Aside0.mk (hi); clear HO441; clear HK; clear HB; clear HI0; have HO441 := n0_; have HK := n1_; have HB := n2_; have HI0 := n3_; clear n0_ n1_ n2_ n3_; (try clear hb); (try clear hb2); (try clear hk); (try clear hi)) | ((with_reducible refine gate_dst (N := 15) rfl ?_); refine Kd.R_lit (Kd.int .i64) _ 3 ?hg (N := 15) ?hd (xs := ([(-1), 0, 60, 61] : List Int)) (inner := [.int .i64 (-1), .int .i64 0, .int .i64 60, .int .i64 61]) (ok := fun _ => True) (okp := fun _ => True) ?hr ?hp (fun _ hk => hk) trivial (Below.refl _ _) (Nat.le_refl _) (by simp) ?_; (case hd => rfl); (case hg => rfl); (case hr => first | (go_simp; done) | (go_simp; rfl)); (case hp => exact (Reps.one (show Kd.M (Kd.int .i64) _ _ _ (-1) [.int .i64 (-1)] from rfl) (Reps.one (show Kd.M (Kd.int .i64) _ _ _ 0 [.int .i64 0] from rfl) (Reps.one (show Kd.M (Kd.int .i64) _ _ _ 60 [.int .i64 60] from rfl) (Reps.one (show Kd.M (Kd.int .i64) _ _ _ 61 [.int .i64 61] from rfl) (Reps.none _ _)))))); intro v448 w10 ho11 hb hg_ hnew_; clear hg_ hnew_; (rw [← Ny447.out] at ho11); have n0_ := Aside0.mk (Kd.R_elder' (by (with_reducible repeat (fail)); exact HO441.out) (Kd.R_base ho11) hb); have n1_ := Aside0.mk (Kd.R_lower (Kd.R_new' ho11 (Kd.R_lt (by (with_reducible repeat (fail)); exact HO441.out))) (keep_size (w := w) (g := g) (row := none) (by repeat ((with_reducible exact HK.out))))); have n2_ := Aside0.mk (IsS72.below (by repeat ((with_reducible exact HI0.out))) hb); have n3_ := Aside0.mk (KeepBut.trans (by repeat ((with_reducible exact HK.out))) (KeepBut.of_below hb g none) (.inl rfl)); have n4_ := Aside0.mk (below_step (by repeat ((with_reducible exact HB.out))) hb); clear HO441; clear HI0; clear HK; clear HB; have HO441 := n0_; have HO449 := n1_; have HI0 := n2_; have HK := n3_; have HB := n4_; clear n0_ n1_ n2_ n3_ n4_; clear hb ho11; obtain ⟨Ao12, co12, eo12⟩ := Kd.R_slice HO449.out; subst eo12) | ((with_reducible refine gate_callee (f := 81) rfl ?_); refine goesL_ (some 16) rfl rfl Tryd.func81 (by kernel_rfl) rfl #[.pointer (some ⟨g, 0, none⟩), .slice Ao12 y447.length co12] rfl (by (try simp only [List.map_toArray, List.map_cons, List.map_nil]); first | done | rfl) ?_; (with_reducible refine (spec_l1Cur_among.calls g s0_0 t445 t446 _ _ y447 t450 t451 t452 w0 _ ?side1 ?side2 ?side3 ?side4 ?side5 A6.out).mono ?_); (case side1 => repeat ((with_reducible exact HI0.out))); (case side2 => repeat ((with_reducible exact HB.out))); (case side3 => repeat (exact (Kd.R_reads' HO449.out).2.2)); (case side4 => exact (Kd.R_reads' HO449.out).2.1); (case side5 => exact far_slice (IsS72.own_ne HI0.out HO449.out (by decide))); rintro e w13 ⟨rfl, hi, hb, hk⟩; refine ⟨_, rfl, ?_⟩; have n0_ := Aside0.mk (Kd.R_mono (Kd.R_keep (IsS72.apart (show IsS72 w0 _ g s0_0 t445 t446 from by repeat ((with_reducible exact HI0.out))) (by (with_reducible repeat (fail)); exact HO441.out) (by decide)) hk (fun _ h => h.2)) (fun _ h => h.1)); have n1_ := Aside0.mk (Kd.R_mono (Kd.R_keep (IsS72.apart (show IsS72 w0 _ g s0_0 t445 t446 from by repeat ((with_reducible exact HI0.out))) (by (with_reducible repeat (fail)); exact HO449.out) (by decide)) hk (fun _ h => h.2)) (fun _ h => h.1)); have n2_ := Aside0.mk (KeepBut.trans (by repeat ((with_reducible exact HK.out))) hk (.inl rfl)); have n3_ := Aside0.mk (hb); have n4_ := Aside0.mk (hi); clear HO441; clear HO449; clear HK; clear HB; clear HI0; have HO441 := n0_; have HO449 := n1_; have HK := n2_; have HB := n3_; have HI0 := n4_; clear n0_ n1_ n2_ n3_ n4_; (try clear hb); (try clear hb2); (try clear hk); (try clear hi)) | ((with_reducible refine gate_builtin (b := .append) (xs := #[.tmp 13, .tmp 17]) rfl ?_); at_builtin; refine Kd.R_append (Kd.int .i64) w.heap.size rfl (.tmp 13) (.tmp 17) 24 3 (.int .i64 0) 8 rfl Tryd.underlying24 info3 rfl (by decide) (by omega) v440 t439 t450 [.int .i64 t450] (fun k_ => some k_ ≠ (.slice Ao12 y447.length co12 : Value).ownBlock) (fun _ => False) rfl rfl ?aP (fun _ hk => hk.elim) ?aF ?aO (Below.refl _ _) ?aS ?aL ?_; (case aP => exact rfl); (case aF => exact (fun k_ hk => Kd.fresh' (Kd.R_lt (by (with_reducible repeat (fail)); exact HO449.out)) k_ hk)); (case aO => exact (by (with_reducible repeat (fail)); exact Kd.R_mono HO441.out (fun _ hk => hk.2))); (case aS => exact (keep_size (w := w) (g := g) (row := none) (by repeat ((with_reducible exact HK.out))))); (case aL => have := LMc7.out; omega); intro v454 w14 ho hb hg hat; rw [← Ny453.out] at ho; have n0_ := Aside0.mk (IsS72.grown (by repeat ((with_reducible exact HI0.out))) hg (IsS72.own_ne HI0.out HO441.out (by decide))); have n1_ := Aside0.mk (Kd.R_after (ok := (fun _ => True)) (by (with_reducible repeat (fail)); exact HO449.out) hg hat); have n2_ := Aside0.mk (below_weaken (by repeat ((with_reducible exact HB.out))) HL.out hb); have n3_ := Aside0.mk (KeepBut.trans (by repeat ((with_reducible exact HK.out))) (KeepBut.of_grown hg g) (Kd.R_base2 HO441.out)); have n4_ := Aside0.mk (ho); clear HI0; clear HO449; clear HB; clear HK; clear HO441; have HI0 := n0_; have HO449 := n1_; have HB := n2_; have HK := n3_; have HO455 := n4_; clear n0_ n1_ n2_ n3_ n4_; clear ho hb hg hat))
   go_ret
   exact ⟨_, by first | rfl | (simp [errW_none, errW_some] <;> rfl) | (simp [*, errW_none, errW_some] <;> rfl), by (with_reducible repeat (fail)); exact Kd.R_mono HO455.out (fun _ hk => trivial), by repeat ((with_reducible exact HI0.out)), by repeat ((with_reducible exact HB.out)), by repeat ((with_reducible exact HK.out))⟩
  ·
   rw [if_neg c7] at H
   exact absurd H (by simp)
 ·
  rw [if_neg c5] at H
  have c5b0 : (t444 == 0) = false := beq_eq_false_iff_ne.mpr c5
  have c5b1 : (t444 != 0) = true := bne_iff_ne.mpr c5
  by_cases c15 : t444 = 1
  ·
   rw [if_pos c15] at H
   have c15b0 : (t444 == 1) = true := beq_iff_eq.mpr c15
   have c15b1 : (t444 != 1) = false := bne_eq_false_iff_eq.mpr c15
   clear c15
   have H' := Aside0.mk H
   clear H
   go_enter Tryd.func88, Tryd.ntmps88
   go_wp2_with (first | ((with_reducible refine gate_callee (f := 89) rfl ?_); refine goesL_ (some 8) rfl rfl Tryd.func89 (by kernel_rfl) rfl #[.pointer (some ⟨g, 0, none⟩), .int .i64 a1] rfl (by (try simp only [List.map_toArray, List.map_cons, List.map_nil]); first | done | rfl) ?_; (with_reducible refine (spec_l1Cur_list.calls k g s0_0 s0_1 s0_2 a1 t439 t442 t443 w0 _ ?side1 ?side2 A3.out).mono ?_); (case side1 => repeat ((with_reducible exact HI0.out))); (case side2 => repeat ((with_reducible exact HB.out))); rintro e w16 ⟨v440, rfl, ho0, hi, hb, hk⟩; refine ⟨_, rfl, ?_⟩; have n0_ := Aside0.mk (Kd.R_lower ho0 (keep_size (w := w) (g := g) (row := none) (by repeat ((with_reducible exact HK.out))))); have n1_ := Aside0.mk (KeepBut.trans (by repeat ((with_reducible exact HK.out))) hk (.inl rfl)); have n2_ := Aside0.mk (hb); have n3_ := Aside0.mk (hi); clear HK; clear HB; clear HI0; have HO441 := n0_; have HK := n1_; have HB := n2_; have HI0 := n3_; clear n0_ n1_ n2_ n3_; (try clear hb); (try clear hb2); (try clear hk); (try clear hi); (try clear ho0)) | ((with_reducible refine gate_callee (f := 80) rfl ?_); refine goesL_ (some 10) rfl rfl Tryd.func80 (by kernel_rfl) rfl #[.pointer (some ⟨g, 0, none⟩), .int .i64 14] rfl (by (try simp only [List.map_toArray, List.map_cons, List.map_nil]); first | done | rfl) ?_; (with_reducible refine (spec_l1Cur_pick.calls g s0_0 t442 t443 14 t444 t445 t446 w0 _ ?side1 ?side2 A4.out).mono ?_); (case side1 => repeat ((with_reducible exact HI0.out))); (case side2 => repeat ((with_reducible exact HB.out))); rintro e w17 ⟨rfl, hi, hb, hk⟩; refine ⟨_, rfl, ?_⟩; have n0_ := Aside0.mk (Kd.R_mono (Kd.R_keep (IsS72.apart (show IsS72 w0 _ g s0_0 t442 t443 from by repeat ((with_reducible exact HI0.out))) (by (with_reducible repeat (fail)); exact HO441.out) (by decide)) hk (fun _ h => h.2)) (fun _ h => h.1)); have n1_ := Aside0.mk (KeepBut.trans (by repeat ((with_reducible exact HK.out))) hk (.inl rfl)); have n2_ := Aside0.mk (hb); have n3_ := Aside0.mk (hi); clear HO441; clear HK; clear HB; clear HI0; have HO441 := n0_; have HK := n1_; have HB := n2_; have HI0 := n3_; clear n0_ n1_ n2_ n3_; (try clear hb); (try clear hb2); (try clear hk); (try clear hi)))
   go_loopg [5] k (fun kq v5 w' => ∃ (x5_1 : List Int) (x1001_1 : Int) (x1002_1 : Int), Aside0 (spec_l1Cur_anyList.l0 kq x5_1 s0_0 x1001_1 x1002_1 = some (r1, r2, r3)) ∧ Aside0 (kq ≤ k) ∧ Aside0 (Kd.R (Kd.int .i64) 3 w' w.heap.size (fun _ => True) v5 x5_1) ∧ Aside0 (IsS72 w0 w' g s0_0 x1001_1 x1002_1) ∧ Aside0 (KeepBut w w' g none) ∧ Aside0 (Below w0.heap.size w0 w'))
   case atStart => exact ⟨(t439), (t445), (t446), H', ⟨Nat.le_refl _⟩, ⟨by (with_reducible repeat (fail)); exact HO441.out⟩, ⟨by repeat ((with_reducible exact HI0.out))⟩, ⟨by repeat ((with_reducible exact HK.out))⟩, ⟨by repeat ((with_reducible exact HB.out))⟩⟩
   case round =>
    clear H'
    clear c5
    clear c5b0
    clear c5b1
    clear c15b0
    clear c15b1
    obtain ⟨x5_1, x1001_1, x1002_1, HA, HK1, HO_5, HI0, HK, HB⟩ := hrel
    cases gk with
    | zero => exact absurd HA.out (by simp [spec_l1Cur_anyList.l0])
    | succ k1 =>
     have H := HA.out
     clear HA
     simp only [spec_l1Cur_anyList.l0] at H
     replace H := Option.bind_eq_some_iff.mp H
     obtain ⟨⟨t456, t457, t458⟩, A180, H⟩ := H
     replace H : (if (x5_1.length : Int) < (wrap64 (8 + t456)) then ((spec_l1Cur_pick.f s0_0 t457 t458 9).bind fun bt459 => (if x5_1.length < 17592186044416 then (spec_l1Cur_anyList.l0 k1 (x5_1 ++ [bt459.1]) s0_0 bt459.2.1 bt459.2.2) else (none))) else (some (x5_1, t457, t458))) = some (r1, r2, r3) := H
     have A18 := Aside0.mk A180
     clear A180
     by_cases c19 : (x5_1.length : Int) < (wrap64 (8 + t456))
     ·
      rw [if_pos c19] at H
      have c19b0 : decide ((x5_1.length : Int) < (wrap64 (8 + t456))) = true := decide_eq_true c19
      clear c19
      replace H := Option.bind_eq_some_iff.mp H
      obtain ⟨⟨t459, t460, t461⟩, A200, H⟩ := H
      replace H : (if x5_1.length < 17592186044416 then (spec_l1Cur_anyList.l0 k1 (x5_1 ++ [t459]) s0_0 t460 t461) else (none)) = some (r1, r2, r3) := H
      have A20 := Aside0.mk A200
      clear A200
      by_cases c21 : x5_1.length < 17592186044416
      ·
       rw [if_pos c21] at H
       have LMc21 := Aside0.mk c21
       clear c21
       obtain ⟨y462, hy462⟩ : ∃ y_ : List Int, y_ = (x5_1 ++ [t459]) := ⟨_, rfl⟩
       replace H : (spec_l1Cur_anyList.l0 k1 y462 s0_0 t460 t461) = some (r1, r2, r3) := by first | (rw [hy462]; with_reducible exact H) | (have H2_ := (Option.bind_some _ _).symm.trans H; rw [hy462]; with_reducible exact H2_) | (have H2_ := (Option.bind_some _ _).symm.trans H; with_reducible exact H2_) | with_reducible exact H | (rw [hy462]; exact H) | exact H
       have Ny462 := Aside0.mk hy462
       clear hy462
       have H' := Aside0.mk H
       clear H
       obtain ⟨Ao22, co22, eo22⟩ := Kd.R_slice HO_5.out
       subst eo22
       go_wp2_with (first | ((with_reducible refine gate_callee (f := 80) rfl ?_); refine goesL_ (some 24) rfl rfl Tryd.func80 (by kernel_rfl) rfl #[.pointer (some ⟨g, 0, none⟩), .int .i64 2] rfl (by (try simp only [List.map_toArray, List.map_cons, List.map_nil]); first | done | rfl) ?_; (with_reducible refine (spec_l1Cur_pick.calls g s0_0 x1001_1 x1002_1 2 t456 t457 t458 w0 _ ?side1 ?side2 A18.out).mono ?_); (case side1 => repeat ((with_reducible exact HI0.out))); (case side2 => repeat ((with_reducible exact HB.out))); rintro e w23 ⟨rfl, hi, hb, hk⟩; refine ⟨_, rfl, ?_⟩; have n0_ := Aside0.mk (Kd.R_mono (Kd.R_keep (IsS72.apart (show IsS72 w0 _ g s0_0 x1001_1 x1002_1 from by repeat ((with_reducible exact HI0.out))) (by (with_reducible repeat (fail)); exact HO_5.out) (by decide)) hk (fun _ h => h.2)) (fun _ h => h.1)); have n1_ := Aside0.mk (KeepBut.trans (by repeat ((with_reducible exact HK.out))) hk (.inl rfl)); have n2_ := Aside0.mk (hb); have n3_ := Aside0.mk (hi); clear HO_5; clear HK; clear HB; clear HI0; have HO_5 := n0_; have HK := n1_; have HB := n2_; have HI0 := n3_; clear n0_ n1_ n2_ n3_; (try clear hb); (try clear hb2); (try clear hk); (try clear hi)) | ((with_reducible refine gate_callee (f := 80) rfl ?_); refine goesL_ (some 29) rfl rfl Tryd.func80 (by kernel_rfl) rfl #[.pointer (some ⟨g, 0, none⟩), .int .i64 9] rfl (by (try simp only [List.map_toArray, List.map_cons, List.map_nil]); first | done | rfl) ?_; (with_reducible refine (spec_l1Cur_pick.calls g s0_0 t457 t458 9 t459 t460 t461 w0 _ ?side1 ?side2 A20.out).mono ?_); (case side1 => repeat ((with_reducible exact HI0.out))); (case side2 => repeat ((with_reducible exact HB.out))); rintro e w24 ⟨rfl, hi, hb, hk⟩; refine ⟨_, rfl, ?_⟩; have n0_ := Aside0.mk (Kd.R_mono (Kd.R_keep (IsS72.apart (show IsS72 w0 _ g s0_0 t457 t458 from by repeat ((with_reducible exact HI0.out))) (by (with_reducible repeat (fail)); exact HO_5.out) (by decide)) hk (fun _ h => h.2)) (fun _ h => h.1)); have n1_ := Aside0.mk (KeepBut.trans (by repeat ((with_reducible exact HK.out))) hk (.inl rfl)); have n2_ := Aside0.mk (hb); have n3_ := Aside0.mk (hi); clear HO_5; clear HK; clear HB; clear HI0; have HO_5 := n0_; have HK := n1_; have HB := n2_; have HI0 := n3_; clear n0_ n1_ n2_ n3_; (try clear hb); (try clear hb2); (try clear hk); (try clear hi)) | ((with_reducible refine gate_builtin (b := .append) (xs := #[.tmp 27, .tmp 30]) rfl ?_); at_builtin; refine Kd.R_append (Kd.int .i64) w.heap.size rfl (.tmp 27) (.tmp 30) 24 3 (.int .i64 0) 8 rfl Tryd.underlying24 info3 rfl (by decide) (by omega) (.slice Ao22 x5_1.length co22) x5_1 t459 [.int .i64 t459] (fun _ => True) (fun _ => False) rfl rfl ?aP (fun _ hk => hk.elim) ?aF ?aO (Below.refl _ _) ?aS ?aL ?_; (case aP => exact rfl); (case aF => exact (fun _ _ => trivial)); (case aO => exact (by (with_reducible repeat (fail)); exact HO_5.out)); (case aS => exact (keep_size (w := w) (g := g) (row := none) (by repeat ((with_reducible exact HK.out))))); (case aL => have := LMc21.out; omega); intro v463 w25 ho hb hg hat; rw [← Ny462.out] at ho; have n0_ := Aside0.mk (IsS72.grown (by repeat ((with_reducible exact HI0.out))) hg (IsS72.own_ne HI0.out HO_5.out (by decide))); have n1_ := Aside0.mk (below_weaken (by repeat ((with_reducible exact HB.out))) HL.out hb); have n2_ := Aside0.mk (KeepBut.trans (by repeat ((with_reducible exact HK.out))) (KeepBut.of_grown hg g) (Kd.R_base2 HO_5.out)); have n3_ := Aside0.mk (ho); clear HI0; clear HB; clear HK; clear HO_5; have HI0 := n0_; have HB := n1_; have HK := n2_; have HO464 := n3_; clear n0_ n1_ n2_ n3_; clear ho hb hg hat))
       go_roundg k1
       case measure => have := HK1.out; omega
       case rel => exact ⟨(y462), (t460), (t461), H', ⟨by have := HK1.out; omega⟩, ⟨by (with_reducible repeat (fail)); exact HO464.out⟩, ⟨by repeat ((with_reducible exact HI0.out))⟩, ⟨by repeat ((with_reducible exact HK.out))⟩, ⟨by repeat ((with_reducible exact HB.out))⟩⟩
      ·
       rw [if_neg c21] at H
       exact absurd H (by simp)
     ·
      rw [if_neg c19] at H
      have c19b0 : decide ((x5_1.length : Int) < (wrap64 (8 + t456))) = false := decide_eq_false c19
      clear c19
      simp only [Option.some.injEq, Prod.mk.injEq] at H
      obtain ⟨rfl, rfl, rfl⟩ := H
      obtain ⟨Ao26, co26, eo26⟩ := Kd.R_slice HO_5.out
      subst eo26
      go_wp2_with (((with_reducible refine gate_callee (f := 80) rfl ?_); refine goesL_ (some 24) rfl rfl Tryd.func80 (by kernel_rfl) rfl #[.pointer (some ⟨g, 0, none⟩), .int .i64 2] rfl (by (try simp only [List.map_toArray, List.map_cons, List.map_nil]); first | done | rfl) ?_; (with_reducible refine (spec_l1Cur_pick.calls g s0_0 x1001_1 x1002_1 2 t456 t457 t458 w0 _ ?side1 ?side2 A18.out).mono ?_); (case side1 => repeat ((with_reducible exact HI0.out))); (case side2 => repeat ((with_reducible exact HB.out))); rintro e w27 ⟨rfl, hi, hb, hk⟩; refine ⟨_, rfl, ?_⟩; have n0_ := Aside0.mk (Kd.R_mono (Kd.R_keep (IsS72.apart (show IsS72 w0 _ g s0_0 x1001_1 x1002_1 from by repeat ((with_reducible exact HI0.out))) (by (with_reducible repeat (fail)); exact HO_5.out) (by decide)) hk (fun _ h => h.2)) (fun _ h => h.1)); have n1_ := Aside0.mk (KeepBut.trans (by repeat ((with_reducible exact HK.out))) hk (.inl rfl)); have n2_ := Aside0.mk (hb); have n3_ := Aside0.mk (hi); clear HO_5; clear HK; clear HB; clear HI0; have HO_5 := n0_; have HK := n1_; have HB := n2_; have HI0 := n3_; clear n0_ n1_ n2_ n3_; (try clear hb); (try clear hb2); (try clear hk); (try clear hi)))
      go_ret
      exact ⟨_, by first | rfl | (simp [errW_none, errW_some] <;> rfl) | (simp [*, errW_none, errW_some] <;> rfl), by (with_reducible repeat (fail)); exact HO_5.out, by repeat ((with_reducible exact HI0.out)), by repeat ((with_reducible exact HB.out)), by repeat ((with_reducible exact HK.out))⟩
  ·
   rw [if_neg c15] at H
   have c15b0 : (t444 == 1) = false := beq_eq_false_iff_ne.mpr c15
   have c15b1 : (t444 != 1) = true := bne_iff_ne.mpr c15
   by_cases c28 : t444 = 2
   ·
    rw [if_pos c28] at H
    have c28b0 : (t444 == 2) = true := beq_iff_eq.mpr c28
    have c28b1 : (t444 != 2) = false := bne_eq_false_iff_eq.mpr c28
    clear c28
    simp only [Option.some.injEq, Prod.mk.injEq] at H
    obtain ⟨rfl, rfl, rfl⟩ := H
    go_enter Tryd.func88, Tryd.ntmps88
    go_wp2_with (first | ((with_reducible refine gate_callee (f := 89) rfl ?_); refine goesL_ (some 8) rfl rfl Tryd.func89 (by kernel_rfl) rfl #[.pointer (some ⟨g, 0, none⟩), .int .i64 a1] rfl (by (try simp only [List.map_toArray, List.map_cons, List.map_nil]); first | done | rfl) ?_; (with_reducible refine (spec_l1Cur_list.calls k g s0_0 s0_1 s0_2 a1 t439 t442 t443 w0 _ ?side1 ?side2 A3.out).mono ?_); (case side1 => repeat ((with_reducible exact HI0.out))); (case side2 => repeat ((with_reducible exact HB.out))); rintro e w29 ⟨v440, rfl, ho0, hi, hb, hk⟩; refine ⟨_, rfl, ?_⟩; have n0_ := Aside0.mk (Kd.R_lower ho0 (keep_size (w := w) (g := g) (row := none) (by repeat ((with_reducible exact HK.out))))); have n1_ := Aside0.mk (KeepBut.trans (by repeat ((with_reducible exact HK.out))) hk (.inl rfl)); have n2_ := Aside0.mk (hb); have n3_ := Aside0.mk (hi); clear HK; clear HB; clear HI0; have HO441 := n0_; have HK := n1_; have HB := n2_; have HI0 := n3_; clear n0_ n1_ n2_ n3_; (try clear hb); (try clear hb2); (try clear hk); (try clear hi); (try clear ho0)) | ((with_reducible refine gate_callee (f := 80) rfl ?_); refine goesL_ (some 10) rfl rfl Tryd.func80 (by kernel_rfl) rfl #[.pointer (some ⟨g, 0, none⟩), .int .i64 14] rfl (by (try simp only [List.map_toArray, List.map_cons, List.map_nil]); first | done | rfl) ?_; (with_reducible refine (spec_l1Cur_pick.calls g s0_0 t442 t443 14 t444 t445 t446 w0 _ ?side1 ?side2 A4.out).mono ?_); (case side1 => repeat ((with_reducible exact HI0.out))); (case side2 => repeat ((with_reducible exact HB.out))); rintro e w30 ⟨rfl, hi, hb, hk⟩; refine ⟨_, rfl, ?_⟩; have n0_ := Aside0.mk (Kd.R_mono (Kd.R_keep (IsS72.apart (show IsS72 w0 _ g s0_0 t442 t443 from by repeat ((with_reducible exact HI0.out))) (by (with_reducible repeat (fail)); exact HO441.out) (by decide)) hk (fun _ h => h.2)) (fun _ h => h.1)); have n1_ := Aside0.mk (KeepBut.trans (by repeat ((with_reducible exact HK.out))) hk (.inl rfl)); have n2_ := Aside0.mk (hb); have n3_ := Aside0.mk (hi); clear HO441; clear HK; clear HB; clear HI0; have HO441 := n0_; have HK := n1_; have HB := n2_; have HI0 := n3_; clear n0_ n1_ n2_ n3_; (try clear hb); (try clear hb2); (try clear hk); (try clear hi)))
    go_ret
    exact ⟨_, by first | rfl | (simp [errW_none, errW_some] <;> rfl) | (simp [*, errW_none, errW_some] <;> rfl), by first | exact Kd.R_nil _ _ _ _ _ | exact Kd.N_nil _ _ _ _ _ | exact Kd.V_nil _ _ _ _ _ | exact Kd.Q_nil _ _ _ _ _ | exact Kd.S_nil _ _ _ _ _, by repeat ((with_reducible exact HI0.out)), by repeat ((with_reducible exact HB.out)), by repeat ((with_reducible exact HK.out))⟩
   ·
    rw [if_neg c28] at H
    have c28b0 : (t444 == 2) = false := beq_eq_false_iff_ne.mpr c28
    have c28b1 : (t444 != 2) = true := bne_iff_ne.mpr c28
    simp only [Option.some.injEq, Prod.mk.injEq] at H
    obtain ⟨rfl, rfl, rfl⟩ := H
    go_enter Tryd.func88, Tryd.ntmps88
    go_wp2_with (first | ((with_reducible refine gate_callee (f := 89) rfl ?_); refine goesL_ (some 8) rfl rfl Tryd.func89 (by kernel_rfl) rfl #[.pointer (some ⟨g, 0, none⟩), .int .i64 a1] rfl (by (try simp only [List.map_toArray, List.map_cons, List.map_nil]); first | done | rfl) ?_; (with_reducible refine (spec_l1Cur_list.calls k g s0_0 s0_1 s0_2 a1 t439 t442 t443 w0 _ ?side1 ?side2 A3.out).mono ?_); (case side1 => repeat ((with_reducible exact HI0.out))); (case side2 => repeat ((with_reducible exact HB.out))); rintro e w31 ⟨v440, rfl, ho0, hi, hb, hk⟩; refine ⟨_, rfl, ?_⟩; have n0_ := Aside0.mk (Kd.R_lower ho0 (keep_size (w := w) (g := g) (row := none) (by repeat ((with_reducible exact HK.out))))); have n1_ := Aside0.mk (KeepBut.trans (by repeat ((with_reducible exact HK.out))) hk (.inl rfl)); have n2_ := Aside0.mk (hb); have n3_ := Aside0.mk (hi); clear HK; clear HB; clear HI0; have HO441 := n0_; have HK := n1_; have HB := n2_; have HI0 := n3_; clear n0_ n1_ n2_ n3_; (try clear hb); (try clear hb2); (try clear hk); (try clear hi); (try clear ho0)) | ((with_reducible refine gate_callee (f := 80) rfl ?_); refine goesL_ (some 10) rfl rfl Tryd.func80 (by kernel_rfl) rfl #[.pointer (some ⟨g, 0, none⟩), .int .i64 14] rfl (by (try simp only [List.map_toArray, List.map_cons, List.map_nil]); first | done | rfl) ?_; (with_reducible refine (spec_l1Cur_pick.calls g s0_0 t442 t443 14 t444 t445 t446 w0 _ ?side1 ?side2 A4.out).mono ?_); (case side1 => repeat ((with_reducible exact HI0.out))); (case side2 => repeat ((with_reducible exact HB.out))); rintro e w32 ⟨rfl, hi, hb, hk⟩; refine ⟨_, rfl, ?_⟩; have n0_ := Aside0.mk (Kd.R_mono (Kd.R_keep (IsS72.apart (show IsS72 w0 _ g s0_0 t442 t443 from by repeat ((with_reducible exact HI0.out))) (by (with_reducible repeat (fail)); exact HO441.out) (by decide)) hk (fun _ h => h.2)) (fun _ h => h.1)); have n1_ := Aside0.mk (KeepBut.trans (by repeat ((with_reducible exact HK.out))) hk (.inl rfl)); have n2_ := Aside0.mk (hb); have n3_ := Aside0.mk (hi); clear HO441; clear HK; clear HB; clear HI0; have HO441 := n0_; have HK := n1_; have HB := n2_; have HI0 := n3_; clear n0_ n1_ n2_ n3_; (try clear hb); (try clear hb2); (try clear hk); (try clear hi)))
    go_ret
    exact ⟨_, by first | rfl | (simp [errW_none, errW_some] <;> rfl) | (simp [*, errW_none, errW_some] <;> rfl), by (with_reducible repeat (fail)); exact HO441.out, by repeat ((with_reducible exact HI0.out)), by repeat ((with_reducible exact HB.out)), by repeat ((with_reducible exact HK.out))⟩
def spec_deMany.l0 : Nat → Int → Int → Option (Int)
 | 0, _, _ => none
 | k + 1, x0, x3 => if x0 > 0 then (spec_deMany.l0 k (wrap64 (Int.tdiv x0 2)) (wrap64 (x3 + (Int.tmod x0 2)))) else (some x3)
def spec_deMany.f (k : Nat) (a0 : Int) : Option (Int) := spec_deMany.l0 k a0 0
theorem spec_deMany.mono_l : ∀ k, (∀ y0 y1, LeO (spec_deMany.l0 k y0 y1) (spec_deMany.l0 (k + 1) y0 y1))
 | 0 => fun _ _ r h => by simp [spec_deMany.l0] at h
 | k + 1 => by
  have ih0 := spec_deMany.mono_l k
  ·
   intro y0 y1
   unfold spec_deMany.l0
   repeat' first
   | (with_reducible exact ih0 _ _)
   | (with_reducible exact LeO.refl _)
   | (with_reducible exact LeO.none _)
   | (with_reducible refine LeO.ite ?_ ?_)
   | (with_reducible refine LeO.bind ?_ (fun _ => ?_))
   | exact ih0 _ _
   | exact LeO.none _
   | refine LeO.ite ?_ ?_
   | refine LeO.bind ?_ (fun _ => ?_)
theorem spec_deMany.mono : ∀ a0 k, LeO (spec_deMany.f k a0) (spec_deMany.f (k + 1) a0) := by
 intro a0 k
 have ih0 := spec_deMany.mono_l k
 unfold spec_deMany.f
 repeat' first
   | (with_reducible exact ih0 _ _)
   | (with_reducible exact LeO.refl _)
   | (with_reducible exact LeO.none _)
   | (with_reducible refine LeO.ite ?_ ?_)
   | (with_reducible refine LeO.bind ?_ (fun _ => ?_))
   | exact ih0 _ _
   | exact LeO.none _
   | refine LeO.ite ?_ ?_
   | refine LeO.bind ?_ (fun _ => ?_)
set_option maxHeartbeats 8000000 in
set_option maxRecDepth 100000 in
theorem spec_deMany.calls (k : Nat) (a0 : Int) (r : Int) (w : World) (h : spec_deMany.f k a0 = some r) :
  Calls Tryd.prog 103 #[.int .i64 a0] w fun e w' => e = .returned (.int .i64 r) ∧ Drawn0 w w' := by
 have H : (spec_deMany.l0 k a0 0) = some r := h
 clear h
 have H' := Aside0.mk H
 clear H
 go_enter Tryd.func103, Tryd.ntmps103
 go_wp2
 go_loopg [0, 3] k (fun kq v0 v3 w' => ∃ (x0_1 : Int) (x3_1 : Int), v0 = .int .i64 x0_1 ∧ v3 = .int .i64 x3_1 ∧ Aside0 (spec_deMany.l0 kq x0_1 x3_1 = some r) ∧ Aside0 (kq ≤ k) ∧ Drawn0 w w')
 case atStart => exact ⟨(a0), (0), (by first | rfl | (simp; done) | (simp [*]; done)), (by first | rfl | (simp; done) | (simp [*]; done)), H', ⟨Nat.le_refl _⟩, by repeat (first | exact Drawn0.refl _ | apply Drawn0.step)⟩
 case round =>
  clear H'
  (try clear c1)
  obtain ⟨x0_1, x3_1, rfl, rfl, HA, HK1, ⟨m1, rfl⟩⟩ := hrel
  cases gk with
  | zero => exact absurd HA.out (by simp [spec_deMany.l0])
  | succ k1 =>
   have H := HA.out
   clear HA
   simp only [spec_deMany.l0] at H
   by_cases c2 : x0_1 > 0
   ·
    rw [if_pos c2] at H
    have c2b0 : decide (0 < x0_1) = true := decide_eq_true c2
    clear c2
    have H' := Aside0.mk H
    clear H
    go_wp2
    go_roundg k1
    case measure => have := HK1.out; omega
    case rel => exact ⟨(wrap64 (Int.tdiv x0_1 2)), (wrap64 (x3_1 + (Int.tmod x0_1 2))), (by first | rfl | (simp; done) | (simp [*]; done)), (by first | rfl | (simp; done) | (simp [*]; done)), H', ⟨by have := HK1.out; omega⟩, by repeat (first | exact Drawn0.refl _ | apply Drawn0.step)⟩
   ·
    rw [if_neg c2] at H
    have c2b0 : decide (0 < x0_1) = false := decide_eq_false c2
    clear c2
    obtain rfl := Option.some.inj H
    go_wp2
    go_ret
    exact ⟨by first | rfl | (simp; done) | (simp [*]; done), by repeat (first | exact Drawn0.refl _ | apply Drawn0.step)⟩
def spec_deDegrees.l0 : Nat → List Int → List Int → Int → Int → Option (List Int)
 | 0, _, _, _, _ => none
 | k + 1, x3, x7, x8, x9 => if x9 < x8 then (if 0 ≤ x9 then (if x9 < (x7.length : Int) then ((spec_deMany.f k (rd x7 x9)).bind fun t467 => (if x3.length < 17592186044416 then (spec_deDegrees.l0 k (x3 ++ [t467]) x7 x8 (wrap64 (x9 + 1))) else (none))) else (none)) else (none)) else (some x3)
def spec_deDegrees.f (k : Nat) (a0_0 : Int) (l0_1 : List Int) : Option (List Int) := spec_deDegrees.l0 k ([] : List Int) l0_1 (l0_1.length : Int) 0
theorem spec_deDegrees.mono_l : ∀ k, (∀ y0 y1 y2 y3, LeO (spec_deDegrees.l0 k y0 y1 y2 y3) (spec_deDegrees.l0 (k + 1) y0 y1 y2 y3))
 | 0 => fun _ _ _ _ r h => by simp [spec_deDegrees.l0] at h
 | k + 1 => by
  have ih0 := spec_deDegrees.mono_l k
  ·
   intro y0 y1 y2 y3
   unfold spec_deDegrees.l0
   repeat' first
   | (with_reducible exact ih0 _ _ _ _)
   | (with_reducible exact spec_deMany.mono _ _)
   | (with_reducible exact LeO.refl _)
   | (with_reducible exact LeO.none _)
   | (with_reducible refine LeO.ite ?_ ?_)
   | (with_reducible refine LeO.bind ?_ (fun _ => ?_))
   | exact ih0 _ _ _ _
   | exact spec_deMany.mono _ _
   | exact LeO.none _
   | refine LeO.ite ?_ ?_
   | refine LeO.bind ?_ (fun _ => ?_)
theorem spec_deDegrees.mono : ∀ a0 a1 k, LeO (spec_deDegrees.f k a0 a1) (spec_deDegrees.f (k + 1) a0 a1) := by
 intro a0 a1 k
 have ih0 := spec_deDegrees.mono_l k
 unfold spec_deDegrees.f
 repeat' first
   | (with_reducible exact ih0 _ _ _ _)
   | (with_reducible exact spec_deMany.mono _ _)
   | (with_reducible exact LeO.refl _)
   | (with_reducible exact LeO.none _)
   | (with_reducible refine LeO.ite ?_ ?_)
   | (with_reducible refine LeO.bind ?_ (fun _ => ?_))
   | exact ih0 _ _ _ _
   | exact spec_deMany.mono _ _
   | exact LeO.none _
   | refine LeO.ite ?_ ?_
   | refine LeO.bind ?_ (fun _ => ?_)
set_option maxHeartbeats 8000000 in
set_option maxRecDepth 100000 in
theorem spec_deDegrees.calls (k : Nat) (a0_0 : Int) (A0_1 : Option Addr) (c0_1 : Nat) (l0_1 : List Int) (r : List Int) (w : World) (hr0_1 : Kd.C (Kd.int .i64) w A0_1 l0_1.length l0_1) (hc0_1 : l0_1.length ≤ c0_1) (h : spec_deDegrees.f k a0_0 l0_1 = some r) :
  Calls Tryd.prog 90 #[.agg #[.int .i64 a0_0, .slice A0_1 l0_1.length c0_1]] w fun e w' => ∃ v0_ : Value, e = .returned (v0_) ∧ Kd.R (Kd.int .i64) 3 w' w.heap.size (fun _ => True) v0_ r ∧ Below w.heap.size w w' := by
 have hu39 := Tryd.underlying39
 have HR0_1 := Aside0.mk hr0_1
 have HC0_1 := Aside0.mk hc0_1
 clear hr0_1 hc0_1
 have HB := Aside0.mk (Below.refl w.heap.size w)
 have H : (spec_deDegrees.l0 k ([] : List Int) l0_1 (l0_1.length : Int) 0) = some r := h
 clear h
 have H' := Aside0.mk H
 clear H
 go_enter Tryd.func90, Tryd.ntmps90
 go_wp2_with (first | ((with_reducible refine gate_dst (N := 1) rfl ?_); refine box_event ?hg (N := 1) ?hd (cs := #[.int .i64 a0_0, .slice A0_1 l0_1.length c0_1]) (t := 39) ?hr ?_; (case hd => rfl); (case hg => rfl); (case hr => first | (go_simp; done) | (go_simp; rfl)); intro gb465 hg w2 hbox hb; have n0_ := Aside0.mk (below_step (by repeat (first | (with_reducible first | exact HB.out | apply below_alloc | apply pw_below_drewN | apply below_drew1))) hb); have n1_ := Aside0.mk (hbox); have n2_ := Aside0.mk ((by rw [hg]; exact (below_size (by repeat (first | (with_reducible first | exact HB.out | apply below_alloc | apply pw_below_drewN | apply below_drew1)))) : w.heap.size ≤ gb465)); have n3_ := Aside0.mk ((by rw [hg]; exact (below_size (by repeat (first | (with_reducible first | exact HB.out | apply below_alloc | apply pw_below_drewN | apply below_drew1)))) : w.heap.size ≤ gb465)); clear HB; have HB := n0_; have BK465 := n1_; have GW465 := n2_; have GE465 := n3_; clear n0_ n1_ n2_ n3_; clear hb hbox hg; have hcz3_0 : w2.cell? ⟨gb465, 0, none⟩ = some (.int .i64 a0_0) := (blk_cell BK465.out 0).trans rfl; have hcz3_1 : w2.cell? ⟨gb465, 1, none⟩ = some (.slice A0_1 l0_1.length c0_1) := (blk_cell BK465.out 1).trans rfl; have hfz3_0 := blk_frozen BK465.out 0; have hfz3_1 := blk_frozen BK465.out 1))
 go_loopg [3, 9] k (fun kq v3 v9 w' => ∃ (x3_1 : List Int) (x9_1 : Int), v9 = .int .i64 x9_1 ∧ Aside0 (spec_deDegrees.l0 kq x3_1 l0_1 (l0_1.length : Int) x9_1 = some r) ∧ Aside0 (kq ≤ k) ∧ Aside0 (Kd.R (Kd.int .i64) 3 w' w.heap.size (fun _ => True) v3 x3_1) ∧ Aside0 (w'.heap[gb465]? = some (.cells #[.int .i64 a0_0, (.slice A0_1 l0_1.length c0_1)] 39 (0, 0))) ∧ Aside0 (Below w.heap.size w w'))
 case atStart => exact ⟨(([] : List Int)), (0), (by first | rfl | (simp; done) | (simp [*]; done)), H', ⟨Nat.le_refl _⟩, ⟨by first | exact Kd.R_nil _ _ _ _ _ | exact Kd.N_nil _ _ _ _ _ | exact Kd.V_nil _ _ _ _ _ | exact Kd.Q_nil _ _ _ _ _ | exact Kd.S_nil _ _ _ _ _⟩, ⟨by (with_reducible repeat (first | refine blk_drewN ?_ _ | refine blk_drew ?_ | refine blk_alloc ?_ _)); exact BK465.out⟩, ⟨by repeat (first | (with_reducible first | exact HB.out | apply below_alloc | apply pw_below_drewN | apply below_drew1 | refine below_set ?_ GE465.out) | exact HB.out)⟩⟩
 case round =>
  clear H'
  (try clear p2); (try clear hcz3_0); (try clear hcz3_1); (try clear hfz3_0); (try clear hfz3_1)
  obtain ⟨x3_1, x9_1, rfl, HA, HK1, HO_3, BK465, HB⟩ := hrel
  cases gk with
  | zero => exact absurd HA.out (by simp [spec_deDegrees.l0])
  | succ k1 =>
   have H := HA.out
   clear HA
   simp only [spec_deDegrees.l0] at H
   by_cases c4 : x9_1 < (l0_1.length : Int)
   ·
    rw [if_pos c4] at H
    have c4b0 : decide (x9_1 < (l0_1.length : Int)) = true := decide_eq_true c4
    clear c4
    by_cases c5 : 0 ≤ x9_1
    ·
     rw [if_pos c5] at H
     have c5b0 : decide (0 ≤ x9_1) = true := decide_eq_true c5
     clear c5
     by_cases c6 : x9_1 < (l0_1.length : Int)
     ·
      rw [if_pos c6] at H
      have c6b0 : decide (x9_1 < (l0_1.length : Int)) = true := decide_eq_true c6
      clear c6
      replace H := Option.bind_eq_some_iff.mp H
      obtain ⟨t467, A70, H⟩ := H
      replace H : (if x3_1.length < 17592186044416 then (spec_deDegrees.l0 k1 (x3_1 ++ [t467]) l0_1 (l0_1.length : Int) (wrap64 (x9_1 + 1))) else (none)) = some r := H
      have A7 := Aside0.mk A70
      clear A70
      by_cases c8 : x3_1.length < 17592186044416
      ·
       rw [if_pos c8] at H
       have LMc8 := Aside0.mk c8
       clear c8
       obtain ⟨y468, hy468⟩ : ∃ y_ : List Int, y_ = (x3_1 ++ [t467]) := ⟨_, rfl⟩
       replace H : (spec_deDegrees.l0 k1 y468 l0_1 (l0_1.length : Int) (wrap64 (x9_1 + 1))) = some r := by first | (rw [hy468]; with_reducible exact H) | (have H2_ := (Option.bind_some _ _).symm.trans H; rw [hy468]; with_reducible exact H2_) | (have H2_ := (Option.bind_some _ _).symm.trans H; with_reducible exact H2_) | with_reducible exact H | (rw [hy468]; exact H) | exact H
       have Ny468 := Aside0.mk hy468
       clear hy468
       have H' := Aside0.mk H
       clear H
       have p466 : 0 ≤ (x9_1 : Int) := of_decide_eq_true (by first | (with_reducible assumption) | assumption)
       have q466 : x9_1 < (l0_1.length : Int) := of_decide_eq_true (by first | (with_reducible assumption) | assumption)
       obtain ⟨ad466, e466, hx466_0⟩ := Kd.at_int HR0_1.out x9_1 p466 q466
       cases e466
       replace hx466_0 := (HB.out.cell (World.block_lt_of_cell? w _ hx466_0)).trans hx466_0
       replace p466 := eq_true p466
       replace q466 := eq_true q466
       go_wp2_with (first | ((with_reducible refine gate_callee (f := 103) rfl ?_); refine goesL_ (some 15) rfl rfl Tryd.func103 (by kernel_rfl) rfl #[.int .i64 (rd l0_1 x9_1)] rfl (by (try simp only [List.map_toArray, List.map_cons, List.map_nil]); first | done | rfl) ?_; (with_reducible refine (spec_deMany.calls k1 (rd l0_1 x9_1) t467 _ A7.out).mono ?_); rintro e w' ⟨rfl, ⟨nd, rfl⟩⟩; refine ⟨_, rfl, ?_⟩) | ((with_reducible refine gate_builtin (b := .append) (xs := #[.tmp 13, .tmp 16]) rfl ?_); at_builtin; refine Kd.R_append (Kd.int .i64) (w0 := w) w.heap.size rfl (.tmp 13) (.tmp 16) 24 3 (.int .i64 0) 8 rfl Tryd.underlying24 info3 rfl (by decide) (by omega) u3 x3_1 t467 [.int .i64 t467] (fun _ => True) (fun _ => False) rfl rfl ?aP (fun _ hk => hk.elim) ?aF ?aO ?aB ?aS ?aL ?_; (case aP => exact rfl); (case aB => exact (by repeat (first | (with_reducible first | exact HB.out | apply below_alloc | apply pw_below_drewN | apply below_drew1 | refine below_set ?_ GE465.out) | exact HB.out))); (case aF => exact (fun _ _ => trivial)); (case aO => exact (by (with_reducible repeat (first | apply Kd.R_alloc | apply Kd.R_drewN | apply Kd.R_drew)); exact HO_3.out)); (case aS => exact (below_size (by repeat (first | (with_reducible first | exact HB.out | apply below_alloc | apply pw_below_drewN | apply below_drew1 | refine below_set ?_ GE465.out) | exact HB.out)))); (case aL => have := LMc8.out; omega); intro v469 w9 ho hb hg hat; rw [← Ny468.out] at ho; have n0_ := Aside0.mk (blk_grown (g := gb465) (o := .cells #[.int .i64 a0_0, .slice (some ad466) l0_1.length c0_1] 39 (0, 0)) (by (with_reducible repeat (first | refine blk_drewN ?_ _ | refine blk_drew ?_ | refine blk_alloc ?_ _)); exact BK465.out) hg (Kd.R_ne HO_3.out BK465.out (by decide))); have n1_ := Aside0.mk (hb); have n2_ := Aside0.mk (ho); clear BK465; clear HB; clear HO_3; have BK465 := n0_; have HB := n1_; have HO470 := n2_; clear n0_ n1_ n2_; clear ho hb hg hat))
       go_roundg k1
       case measure => have := HK1.out; omega
       case rel => exact ⟨(y468), (wrap64 (x9_1 + 1)), (by first | rfl | (simp; done) | (simp [*]; done)), H', ⟨by have := HK1.out; omega⟩, ⟨by (with_reducible repeat (first | apply Kd.R_alloc | apply Kd.R_drewN | apply Kd.R_drew)); exact HO470.out⟩, ⟨by (with_reducible repeat (first | refine blk_drewN ?_ _ | refine blk_drew ?_ | refine blk_alloc ?_ _)); exact BK465.out⟩, ⟨by repeat (first | (with_reducible first | exact HB.out | apply below_alloc | apply pw_below_drewN | apply below_drew1 | refine below_set ?_ GE465.out) | exact HB.out)⟩⟩
      ·
       rw [if_neg c8] at H
       exact absurd H (by simp)
     ·
      rw [if_neg c6] at H
      exact absurd H (by simp)
    ·
     rw [if_neg c5] at H
     exact absurd H (by simp)
   ·
    rw [if_neg c4] at H
    have c4b0 : decide (x9_1 < (l0_1.length : Int)) = false := decide_eq_false c4
    clear c4
    obtain rfl := Option.some.inj H
    go_wp2
    go_ret
    exact ⟨_, by first | rfl | (simp [errW_none, errW_some] <;> rfl) | (simp [*, errW_none, errW_some] <;> rfl), by (with_reducible repeat (first | apply Kd.R_alloc | apply Kd.R_drewN | apply Kd.R_drew)); exact HO_3.out, by repeat (first | (with_reducible first | exact HB.out | apply below_alloc | apply pw_below_drewN | apply below_drew1 | refine below_set ?_ GE465.out) | exact HB.out)⟩
def spec_l1Cur_degrees.f (k : Nat) (s0_0 : List Int) (s0_1 : Int) (s0_2 : Int) (a1 : Int) : Option (List Int × Int × Int) := (spec_l1Cur_one.f s0_0 s0_1 s0_2 3).bind fun bt471 => (if bt471.1 = true then ((spec_l1Cur_anyList.f k s0_0 bt471.2.1 bt471.2.2 6).bind fun bt474 => (some (bt474.1, bt474.2.1, bt474.2.2))) else ((spec_l1Cur_graph.f k s0_0 bt471.2.1 bt471.2.2 a1).bind fun bt479 => ((spec_deGood.f k bt479.1 bt479.2.1).bind fun t486 => (if t486 = true then ((spec_deDegrees.f k bt479.1 bt479.2.1).bind fun t492 => ((spec_l1Cur_one.f s0_0 bt479.2.2.1 bt479.2.2.2 6).bind fun bt495 => (if bt495.1 = true then ((spec_l1Cur_pick.f s0_0 bt495.2.1 bt495.2.2 (t492.length : Int)).bind fun bt498 => (if 0 ≤ bt498.1 then (if bt498.1 < (t492.length : Int) then (some ((t492.set (bt498.1 : Int).toNat (wrap64 ((rd t492 bt498.1) + 1))), bt498.2.1, bt498.2.2)) else (none)) else (none))) else (some (t492, bt495.2.1, bt495.2.2))))) else ((spec_l1Cur_list.f k s0_0 bt479.2.2.1 bt479.2.2.2 6).bind fun bt487 => (some (bt487.1, bt487.2.1, bt487.2.2)))))))
theorem spec_l1Cur_degrees.mono : ∀ a0 a1 a2 a3 k, LeO (spec_l1Cur_degrees.f k a0 a1 a2 a3) (spec_l1Cur_degrees.f (k + 1) a0 a1 a2 a3) := by
 intro a0 a1 a2 a3 k
 unfold spec_l1Cur_degrees.f
 repeat' first
   | (with_reducible exact spec_deDegrees.mono _ _ _)
   | (with_reducible exact spec_deGood.mono _ _ _)
   | (with_reducible exact spec_l1Cur_anyList.mono _ _ _ _ _)
   | (with_reducible exact spec_l1Cur_graph.mono _ _ _ _ _)
   | (with_reducible exact spec_l1Cur_list.mono _ _ _ _ _)
   | (with_reducible exact LeO.refl _)
   | (with_reducible refine LeO.ite ?_ ?_)
   | (with_reducible refine LeO.bind ?_ (fun _ => ?_))
set_option maxHeartbeats 8000000 in
set_option maxRecDepth 100000 in
theorem spec_l1Cur_degrees.calls (k : Nat) (g : Nat) (s0_0 : List Int) (s0_1 : Int) (s0_2 : Int) (a1 : Int) (r1 : List Int) (r2 : Int) (r3 : Int) (w0 w : World) (hI : IsS72 w0 w g s0_0 s0_1 s0_2) (hB : Below w0.heap.size w0 w) (h : spec_l1Cur_degrees.f k s0_0 s0_1 s0_2 a1 = some (r1, r2, r3)) :
  Calls Tryd.prog 71 #[.pointer (some ⟨g, 0, none⟩), .int .i64 a1] w fun e w' => ∃ v0_ : Value, e = .returned (v0_) ∧ Kd.R (Kd.int .i64) 3 w' w.heap.size (fun _ => True) v0_ r1 ∧ IsS72 w0 w' g s0_0 r2 r3 ∧ Below w0.heap.size w0 w' ∧ KeepBut w w' g none := by
 have hu39 := Tryd.underlying39
 have HI0 := Aside0.mk hI
 have HK := Aside0.mk (KeepBut.refl w g none)
 have HL := Aside0.mk hB.size
 clear hI
 have HW0 := Aside0.mk hB.size
 have HB := Aside0.mk hB
 clear hB
 have H : ((spec_l1Cur_one.f s0_0 s0_1 s0_2 3).bind fun bt471 => (if bt471.1 = true then ((spec_l1Cur_anyList.f k s0_0 bt471.2.1 bt471.2.2 6).bind fun bt474 => (some (bt474.1, bt474.2.1, bt474.2.2))) else ((spec_l1Cur_graph.f k s0_0 bt471.2.1 bt471.2.2 a1).bind fun bt479 => ((spec_deGood.f k bt479.1 bt479.2.1).bind fun t486 => (if t486 = true then ((spec_deDegrees.f k bt479.1 bt479.2.1).bind fun t492 => ((spec_l1Cur_one.f s0_0 bt479.2.2.1 bt479.2.2.2 6).bind fun bt495 => (if bt495.1 = true then ((spec_l1Cur_pick.f s0_0 bt495.2.1 bt495.2.2 (t492.length : Int)).bind fun bt498 => (if 0 ≤ bt498.1 then (if bt498.1 < (t492.length : Int) then (some ((t492.set (bt498.1 : Int).toNat (wrap64 ((rd t492 bt498.1) + 1))), bt498.2.1, bt498.2.2)) else (none)) else (none))) else (some (t492, bt495.2.1, bt495.2.2))))) else ((spec_l1Cur_list.f k s0_0 bt479.2.2.1 bt479.2.2.2 6).bind fun bt487 => (some (bt487.1, bt487.2.1, bt487.2.2)))))))) = some (r1, r2, r3) := h
 clear h
 replace H := Option.bind_eq_some_iff.mp H
 obtain ⟨⟨t471, t472, t473⟩, A30, H⟩ := H
 replace H : (if t471 = true then ((spec_l1Cur_anyList.f k s0_0 t472 t473 6).bind fun bt474 => (some (bt474.1, bt474.2.1, bt474.2.2))) else ((spec_l1Cur_graph.f k s0_0 t472 t473 a1).bind fun bt479 => ((spec_deGood.f k bt479.1 bt479.2.1).bind fun t486 => (if t486 = true then ((spec_deDegrees.f k bt479.1 bt479.2.1).bind fun t492 => ((spec_l1Cur_one.f s0_0 bt479.2.2.1 bt479.2.2.2 6).bind fun bt495 => (if bt495.1 = true then ((spec_l1Cur_pick.f s0_0 bt495.2.1 bt495.2.2 (t492.length : Int)).bind fun bt498 => (if 0 ≤ bt498.1 then (if bt498.1 < (t492.length : Int) then (some ((t492.set (bt498.1 : Int).toNat (wrap64 ((rd t492 bt498.1) + 1))), bt498.2.1, bt498.2.2)) else (none)) else (none))) else (some (t492, bt495.2.1, bt495.2.2))))) else ((spec_l1Cur_list.f k s0_0 bt479.2.2.1 bt479.2.2.2 6).bind fun bt487 => (some (bt487.1, bt487.2.1, bt487.2.2))))))) = some (r1, r2, r3) := H
 have A3 := Aside0.mk A30
 clear A30
 by_cases c4 : t471 = true
 ·
  subst c4
  have H1 : ((spec_l1Cur_anyList.f k s0_0 t472 t473 6).bind fun bt474 => (some (bt474.1, bt474.2.1, bt474.2.2))) = some (r1, r2, r3) := by rw [if_pos rfl] at H; exact H
  clear H
  have H := H1
  clear H1
  replace H := Option.bind_eq_some_iff.mp H
  obtain ⟨⟨t474, t477, t478⟩, A50, H⟩ := H
  replace H : (some (t474, t477, t478)) = some (r1, r2, r3) := H
  have A5 := Aside0.mk A50
  clear A50
  simp only [Option.some.injEq, Prod.mk.injEq] at H
  obtain ⟨rfl, rfl, rfl⟩ := H
  go_enter Tryd.func71, Tryd.ntmps71
  go_wp2_with (first | ((with_reducible refine gate_callee (f := 82) rfl ?_); refine goesL_ (some 8) rfl rfl Tryd.func82 (by kernel_rfl) rfl #[.pointer (some ⟨g, 0, none⟩), .int .i64 3] rfl (by (try simp only [List.map_toArray, List.map_cons, List.map_nil]); first | done | rfl) ?_; (with_reducible refine (spec_l1Cur_one.calls g s0_0 s0_1 s0_2 3 true t472 t473 w0 _ ?side1 ?side2 A3.out).mono ?_); (case side1 => repeat ((with_reducible exact HI0.out))); (case side2 => repeat ((with_reducible exact HB.out))); rintro e w6 ⟨rfl, hi, hb, hk⟩; refine ⟨_, rfl, ?_⟩; have n0_ := Aside0.mk (KeepBut.trans (by repeat ((with_reducible exact HK.out))) hk (.inl rfl)); have n1_ := Aside0.mk (hb); have n2_ := Aside0.mk (hi); clear HK; clear HB; clear HI0; have HK := n0_; have HB := n1_; have HI0 := n2_; clear n0_ n1_ n2_; (try clear hb); (try clear hb2); (try clear hk); (try clear hi)) | ((with_reducible refine gate_callee (f := 88) rfl ?_); refine goesL_ (some 10) rfl rfl Tryd.func88 (by kernel_rfl) rfl #[.pointer (some ⟨g, 0, none⟩), .int .i64 6] rfl (by (try simp only [List.map_toArray, List.map_cons, List.map_nil]); first | done | rfl) ?_; (with_reducible refine (spec_l1Cur_anyList.calls k g s0_0 t472 t473 6 t474 t477 t478 w0 _ ?side1 ?side2 A5.out).mono ?_); (case side1 => repeat ((with_reducible exact HI0.out))); (case side2 => repeat ((with_reducible exact HB.out))); rintro e w7 ⟨v475, rfl, ho0, hi, hb, hk⟩; refine ⟨_, rfl, ?_⟩; have n0_ := Aside0.mk (Kd.R_lower ho0 (keep_size (w := w) (g := g) (row := none) (by repeat ((with_reducible exact HK.out))))); have n1_ := Aside0.mk (KeepBut.trans (by repeat ((with_reducible exact HK.out))) hk (.inl rfl)); have n2_ := Aside0.mk (hb); have n3_ := Aside0.mk (hi); clear HK; clear HB; clear HI0; have HO476 := n0_; have HK := n1_; have HB := n2_; have HI0 := n3_; clear n0_ n1_ n2_ n3_; (try clear hb); (try clear hb2); (try clear hk); (try clear hi); (try clear ho0)))
  go_ret
  exact ⟨_, by first | rfl | (simp [errW_none, errW_some] <;> rfl) | (simp [*, errW_none, errW_some] <;> rfl), by (with_reducible repeat (fail)); exact HO476.out, by repeat ((with_reducible exact HI0.out)), by repeat ((with_reducible exact HB.out)), by repeat ((with_reducible exact HK.out))⟩
 ·
  replace c4 := Bool.eq_false_iff.mpr c4
  subst c4
  have H1 : ((spec_l1Cur_graph.f k s0_0 t472 t473 a1).bind fun bt479 => ((spec_deGood.f k bt479.1 bt479.2.1).bind fun t486 => (if t486 = true then ((spec_deDegrees.f k bt479.1 bt479.2.1).bind fun t492 => ((spec_l1Cur_one.f s0_0 bt479.2.2.1 bt479.2.2.2 6).bind fun bt495 => (if bt495.1 = true then ((spec_l1Cur_pick.f s0_0 bt495.2.1 bt495.2.2 (t492.length : Int)).bind fun bt498 => (if 0 ≤ bt498.1 then (if bt498.1 < (t492.length : Int) then (some ((t492.set (bt498.1 : Int).toNat (wrap64 ((rd t492 bt498.1) + 1))), bt498.2.1, bt498.2.2)) else (none)) else (none))) else (some (t492, bt495.2.1, bt495.2.2))))) else ((spec_l1Cur_list.f k s0_0 bt479.2.2.1 bt479.2.2.2 6).bind fun bt487 => (some (bt487.1, bt487.2.1, bt487.2.2)))))) = some (r1, r2, r3) := by rw [if_neg (show ¬ (false = true) by decide)] at H; exact H
  clear H
  have H := H1
  clear H1
  replace H := Option.bind_eq_some_iff.mp H
  obtain ⟨⟨t479, t480, t483, t484⟩, A80, H⟩ := H
  replace H : ((spec_deGood.f k t479 t480).bind fun t486 => (if t486 = true then ((spec_deDegrees.f k t479 t480).bind fun t492 => ((spec_l1Cur_one.f s0_0 t483 t484 6).bind fun bt495 => (if bt495.1 = true then ((spec_l1Cur_pick.f s0_0 bt495.2.1 bt495.2.2 (t492.length : Int)).bind fun bt498 => (if 0 ≤ bt498.1 then (if bt498.1 < (t492.length : Int) then (some ((t492.set (bt498.1 : Int).toNat (wrap64 ((rd t492 bt498.1) + 1))), bt498.2.1, bt498.2.2)) else (none)) else (none))) else (some (t492, bt495.2.1, bt495.2.2))))) else ((spec_l1Cur_list.f k s0_0 t483 t484 6).bind fun bt487 => (some (bt487.1, bt487.2.1, bt487.2.2))))) = some (r1, r2, r3) := H
  have A8 := Aside0.mk A80
  clear A80
  replace H := Option.bind_eq_some_iff.mp H
  obtain ⟨t486, A90, H⟩ := H
  replace H : (if t486 = true then ((spec_deDegrees.f k t479 t480).bind fun t492 => ((spec_l1Cur_one.f s0_0 t483 t484 6).bind fun bt495 => (if bt495.1 = true then ((spec_l1Cur_pick.f s0_0 bt495.2.1 bt495.2.2 (t492.length : Int)).bind fun bt498 => (if 0 ≤ bt498.1 then (if bt498.1 < (t492.length : Int) then (some ((t492.set (bt498.1 : Int).toNat (wrap64 ((rd t492 bt498.1) + 1))), bt498.2.1, bt498.2.2)) else (none)) else (none))) else (some (t492, bt495.2.1, bt495.2.2))))) else ((spec_l1Cur_list.f k s0_0 t483 t484 6).bind fun bt487 => (some (bt487.1, bt487.2.1, bt487.2.2)))) = some (r1, r2, r3) := H
  have A9 := Aside0.mk A90
  clear A90
  by_cases c10 : t486 = true
  ·
   subst c10
   have H1 : ((spec_deDegrees.f k t479 t480).bind fun t492 => ((spec_l1Cur_one.f s0_0 t483 t484 6).bind fun bt495 => (if bt495.1 = true then ((spec_l1Cur_pick.f s0_0 bt495.2.1 bt495.2.2 (t492.length : Int)).bind fun bt498 => (if 0 ≤ bt498.1 then (if bt498.1 < (t492.length : Int) then (some ((t492.set (bt498.1 : Int).toNat (wrap64 ((rd t492 bt498.1) + 1))), bt498.2.1, bt498.2.2)) else (none)) else (none))) else (some (t492, bt495.2.1, bt495.2.2))))) = some (r1, r2, r3) := by rw [if_pos rfl] at H; exact H
   clear H
   have H := H1
   clear H1
   replace H := Option.bind_eq_some_iff.mp H
   obtain ⟨t492, A110, H⟩ := H
   replace H : ((spec_l1Cur_one.f s0_0 t483 t484 6).bind fun bt495 => (if bt495.1 = true then ((spec_l1Cur_pick.f s0_0 bt495.2.1 bt495.2.2 (t492.length : Int)).bind fun bt498 => (if 0 ≤ bt498.1 then (if bt498.1 < (t492.length : Int) then (some ((t492.set (bt498.1 : Int).toNat (wrap64 ((rd t492 bt498.1) + 1))), bt498.2.1, bt498.2.2)) else (none)) else (none))) else (some (t492, bt495.2.1, bt495.2.2)))) = some (r1, r2, r3) := H
   have A11 := Aside0.mk A110
   clear A110
   replace H := Option.bind_eq_some_iff.mp H
   obtain ⟨⟨t495, t496, t497⟩, A120, H⟩ := H
   replace H : (if t495 = true then ((spec_l1Cur_pick.f s0_0 t496 t497 (t492.length : Int)).bind fun bt498 => (if 0 ≤ bt498.1 then (if bt498.1 < (t492.length : Int) then (some ((t492.set (bt498.1 : Int).toNat (wrap64 ((rd t492 bt498.1) + 1))), bt498.2.1, bt498.2.2)) else (none)) else (none))) else (some (t492, t496, t497))) = some (r1, r2, r3) := H
   have A12 := Aside0.mk A120
   clear A120
   by_cases c13 : t495 = true
   ·
    subst c13
    have H1 : ((spec_l1Cur_pick.f s0_0 t496 t497 (t492.length : Int)).bind fun bt498 => (if 0 ≤ bt498.1 then (if bt498.1 < (t492.length : Int) then (some ((t492.set (bt498.1 : Int).toNat (wrap64 ((rd t492 bt498.1) + 1))), bt498.2.1, bt498.2.2)) else (none)) else (none))) = some (r1, r2, r3) := by rw [if_pos rfl] at H; exact H
    clear H
    have H := H1
    clear H1
    replace H := Option.bind_eq_some_iff.mp H
    obtain ⟨⟨t498, t499, t500⟩, A140, H⟩ := H
    replace H : (if 0 ≤ t498 then (if t498 < (t492.length : Int) then (some ((t492.set (t498 : Int).toNat (wrap64 ((rd t492 t498) + 1))), t499, t500)) else (none)) else (none)) = some (r1, r2, r3) := H
    have A14 := Aside0.mk A140
    clear A140
    by_cases c15 : 0 ≤ t498
    ·
     rw [if_pos c15] at H
     have c15b0 : decide (0 ≤ t498) = true := decide_eq_true c15
     clear c15
     by_cases c16 : t498 < (t492.length : Int)
     ·
      rw [if_pos c16] at H
      have c16b0 : decide (t498 < (t492.length : Int)) = true := decide_eq_true c16
      clear c16
      obtain ⟨y502, hy502⟩ : ∃ y_ : List Int, y_ = (t492.set (t498 : Int).toNat (wrap64 ((rd t492 t498) + 1))) := ⟨_, rfl⟩
      replace H : (some (y502, t499, t500)) = some (r1, r2, r3) := by first | (rw [hy502]; with_reducible exact H) | (have H2_ := (Option.bind_some _ _).symm.trans H; rw [hy502]; with_reducible exact H2_) | (have H2_ := (Option.bind_some _ _).symm.trans H; with_reducible exact H2_) | with_reducible exact H | (rw [hy502]; exact H) | exact H
      have Ny502 := Aside0.mk hy502
      clear hy502
      simp only [Option.some.injEq, Prod.mk.injEq] at H
      obtain ⟨rfl, rfl, rfl⟩ := H
      go_enter Tryd.func71, Tryd.ntmps71
      go_wp2_with (first | ((with_reducible refine gate_callee (f := 82) rfl ?_); refine goesL_ (some 8) rfl rfl Tryd.func82 (by kernel_rfl) rfl #[.pointer (some ⟨g, 0, none⟩), .int .i64 3] rfl (by (try simp only [List.map_toArray, List.map_cons, List.map_nil]); first | done | rfl) ?_; (with_reducible refine (spec_l1Cur_one.calls g s0_0 s0_1 s0_2 3 false t472 t473 w0 _ ?side1 ?side2 A3.out).mono ?_); (case side1 => repeat ((with_reducible exact HI0.out))); (case side2 => repeat ((with_reducible exact HB.out))); rintro e w18 ⟨rfl, hi, hb, hk⟩; refine ⟨_, rfl, ?_⟩; have n0_ := Aside0.mk (KeepBut.trans (by repeat ((with_reducible exact HK.out))) hk (.inl rfl)); have n1_ := Aside0.mk (hb); have n2_ := Aside0.mk (hi); clear HK; clear HB; clear HI0; have HK := n0_; have HB := n1_; have HI0 := n2_; clear n0_ n1_ n2_; (try clear hb); (try clear hb2); (try clear hk); (try clear hi)) | ((with_reducible refine gate_callee (f := 79) rfl ?_); refine goesL_ (some 13) rfl rfl Tryd.func79 (by kernel_rfl) rfl #[.pointer (some ⟨g, 0, none⟩), .int .i64 a1] rfl (by (try simp only [List.map_toArray, List.map_cons, List.map_nil]); first | done | rfl) ?_; (with_reducible refine (spec_l1Cur_graph.calls k g s0_0 t472 t473 a1 t479 t480 t483 t484 w0 _ ?side1 ?side2 A8.out).mono ?_); (case side1 => repeat ((with_reducible exact HI0.out))); (case side2 => repeat ((with_reducible exact HB.out))); rintro e w19 ⟨v481, rfl, ho0, hi, hb, hk⟩; refine ⟨_, rfl, ?_⟩; have n0_ := Aside0.mk (Kd.R_lower ho0 (keep_size (w := w) (g := g) (row := none) (by repeat ((with_reducible exact HK.out))))); have n1_ := Aside0.mk (KeepBut.trans (by repeat ((with_reducible exact HK.out))) hk (.inl rfl)); have n2_ := Aside0.mk (hb); have n3_ := Aside0.mk (hi); clear HK; clear HB; clear HI0; have HO482 := n0_; have HK := n1_; have HB := n2_; have HI0 := n3_; clear n0_ n1_ n2_ n3_; (try clear hb); (try clear hb2); (try clear hk); (try clear hi); (try clear ho0)) | ((with_reducible refine gate_dst (N := 5) rfl ?_); refine box_event ?hg (N := 5) ?hd (cs := #[.int .i64 0, .slice none 0 0]) (t := 39) ?hr ?_; (case hd => rfl); (case hg => rfl); (case hr => first | (go_simp; done) | (go_simp; rfl)); intro gb485 hg w20 hbox hb; have n0_ := Aside0.mk (Kd.R_below (by (with_reducible repeat (fail)); exact HO482.out) hb); have n1_ := Aside0.mk (IsS72.below (by repeat ((with_reducible exact HI0.out))) hb); have n2_ := Aside0.mk (KeepBut.trans (by repeat ((with_reducible exact HK.out))) (KeepBut.of_below hb g none) (.inl rfl)); have n3_ := Aside0.mk (below_step (by repeat ((with_reducible exact HB.out))) hb); have n4_ := Aside0.mk (hbox); have n5_ := Aside0.mk ((by rw [hg]; exact (keep_size (w := w) (g := g) (row := none) (by repeat ((with_reducible exact HK.out)))) : w.heap.size ≤ gb485)); have n6_ := Aside0.mk ((Nat.le_trans HW0.out (by rw [hg]; exact (keep_size (w := w) (g := g) (row := none) (by repeat ((with_reducible exact HK.out)))) : w.heap.size ≤ gb485) : w0.heap.size ≤ gb485)); have n7_ := Aside0.mk ((by rw [hg]; exact Nat.ne_of_lt (IsS72.lt (show IsS72 w0 _ g s0_0 t483 t484 from by repeat ((with_reducible exact HI0.out)))) : g ≠ gb485)); have n8_ := Aside0.mk ((by rw [hg]; exact Nat.ne_of_gt (IsS72.lt (show IsS72 w0 _ g s0_0 t483 t484 from by repeat ((with_reducible exact HI0.out)))) : gb485 ≠ g)); clear HO482; clear HI0; clear HK; clear HB; have HO482 := n0_; have HI0 := n1_; have HK := n2_; have HB := n3_; have BK485 := n4_; have GW485 := n5_; have GE485 := n6_; have NB0_485 := n7_; have NB485_0 := n8_; clear n0_ n1_ n2_ n3_ n4_ n5_ n6_ n7_ n8_; clear hb hbox hg; have hnb21 := NB485_0.out; have hnc21 := NB0_485.out; have hcz22_0 : w20.cell? ⟨gb485, 0, none⟩ = some (.int .i64 0) := (blk_cell BK485.out 0).trans rfl; have hcz22_1 : w20.cell? ⟨gb485, 1, none⟩ = some (.slice none 0 0) := (blk_cell BK485.out 1).trans rfl; have hfz22_0 := blk_frozen BK485.out 0; have hfz22_1 := blk_frozen BK485.out 1; obtain ⟨Ao23, co23, eo23⟩ := Kd.R_slice HO482.out; subst eo23) | ((with_reducible refine gate_callee (f := 63) rfl ?_); refine goesL_ (some 15) rfl rfl Tryd.func63 (by kernel_rfl) rfl #[.agg #[.int .i64 t479, .slice Ao23 t480.length co23]] rfl (by (try simp only [List.map_toArray, List.map_cons, List.map_nil]); first | done | rfl) ?_; (with_reducible refine (spec_deGood.calls k t479 _ _ t480 true _ ?side1 ?side2 A9.out).mono ?_); (case side1 => refine (Kd.R_reads' (e := 3) (base := w.heap.size) (ok := fun k_ => True) (n := t480.length) (c := co23) ?_).2.2; exact (by (with_reducible repeat (fail)); exact (Kd.R_mono (Kd.R_far (p := ⟨gb485, 1, none⟩) (Kd.R_far (p := ⟨gb485, 0, none⟩) (Kd.R_types HO482.out BK485.out (by decide)) (fun _ hk => hk.2) (.int .i64 t479)) (fun _ hk => hk.2) (.slice Ao23 t480.length co23)) (fun _ h_ => h_.1)))); (case side2 => exact (Kd.R_reads' HO482.out).2.1); rintro e w24 ⟨rfl, hb⟩; refine ⟨_, rfl, ?_⟩; have n0_ := Aside0.mk (Kd.R_below (by (with_reducible repeat (fail)); exact (Kd.R_mono (Kd.R_far (p := ⟨gb485, 1, none⟩) (Kd.R_far (p := ⟨gb485, 0, none⟩) (Kd.R_types HO482.out BK485.out (by decide)) (fun _ hk => hk.2) (.int .i64 t479)) (fun _ hk => hk.2) (.slice Ao23 t480.length co23)) (fun _ h_ => h_.1))) hb); have n1_ := Aside0.mk (IsS72.below (show IsS72 w0 ((w20.setCell ⟨gb485, 0, none⟩ (.int .i64 t479)).setCell ⟨gb485, 1, none⟩ (.slice Ao23 t480.length co23)) g s0_0 t483 t484 from by repeat ((with_reducible first | exact HI0.out | refine IsS72.far ?_ NB0_485.out _))) hb); have n2_ := Aside0.mk (blk_below (g := gb485) (o := .cells #[.int .i64 t479, .slice Ao23 t480.length co23] 39 (0, 0)) (by (with_reducible repeat (fail)); refine blk_put (cs := #[.int .i64 t479, .slice none 0 0]) ?_ 1 _ rfl; (with_reducible repeat (fail)); refine blk_put (cs := #[.int .i64 0, .slice none 0 0]) ?_ 0 _ rfl; (with_reducible repeat (fail)); exact BK485.out) hb); have n3_ := Aside0.mk (KeepBut.trans (by repeat ((with_reducible first | exact HK.out | refine keep_far ?_ GW485.out _))) (KeepBut.of_below hb g none) (.inl rfl)); have n4_ := Aside0.mk (below_step (by repeat ((with_reducible first | exact HB.out | refine below_set ?_ GE485.out))) hb); clear HO482; clear HI0; clear BK485; clear HK; clear HB; have HO482 := n0_; have HI0 := n1_; have BK485 := n2_; have HK := n3_; have HB := n4_; clear n0_ n1_ n2_ n3_ n4_; (try clear hb); (try clear hb2); (try clear hk); (try clear hi); have hcz25_0 : w24.cell? ⟨gb485, 0, none⟩ = some (.int .i64 t479) := (blk_cell BK485.out 0).trans rfl; have hcz25_1 : w24.cell? ⟨gb485, 1, none⟩ = some (.slice Ao23 t480.length co23) := (blk_cell BK485.out 1).trans rfl; have hfz25_0 := blk_frozen BK485.out 0; have hfz25_1 := blk_frozen BK485.out 1) | ((with_reducible refine gate_callee (f := 90) rfl ?_); refine goesL_ (some 20) rfl rfl Tryd.func90 (by kernel_rfl) rfl #[.agg #[.int .i64 t479, .slice Ao23 t480.length co23]] rfl (by (try simp only [List.map_toArray, List.map_cons, List.map_nil]); first | done | rfl) ?_; (with_reducible refine (spec_deDegrees.calls k t479 _ _ t480 t492 _ ?side1 ?side2 A11.out).mono ?_); (case side1 => repeat (exact (Kd.R_reads' HO482.out).2.2)); (case side2 => exact (Kd.R_reads' HO482.out).2.1); rintro e w26 ⟨v493, rfl, ho0, hb⟩; refine ⟨_, rfl, ?_⟩; have n0_ := Aside0.mk (Kd.R_elder' (by (with_reducible repeat (fail)); exact HO482.out) (Kd.R_base ho0) hb); have n1_ := Aside0.mk (Kd.R_lower (Kd.R_new' ho0 (Kd.R_lt (by (with_reducible repeat (fail)); exact HO482.out))) (keep_size (w := w) (g := g) (row := none) (by repeat ((with_reducible exact HK.out))))); have n2_ := Aside0.mk (IsS72.below (by repeat ((with_reducible exact HI0.out))) hb); have n3_ := Aside0.mk (blk_below (g := gb485) (o := .cells #[.int .i64 t479, .slice Ao23 t480.length co23] 39 (0, 0)) (by (with_reducible repeat (fail)); exact BK485.out) hb); have n4_ := Aside0.mk (KeepBut.trans (by repeat ((with_reducible exact HK.out))) (KeepBut.of_below hb g none) (.inl rfl)); have n5_ := Aside0.mk (below_step (by repeat ((with_reducible exact HB.out))) hb); clear HO482; clear HI0; clear BK485; clear HK; clear HB; have HO482 := n0_; have HO494 := n1_; have HI0 := n2_; have BK485 := n3_; have HK := n4_; have HB := n5_; clear n0_ n1_ n2_ n3_ n4_ n5_; (try clear hb); (try clear hb2); (try clear hk); (try clear hi); (try clear ho0)) | ((with_reducible refine gate_callee (f := 82) rfl ?_); refine goesL_ (some 22) rfl rfl Tryd.func82 (by kernel_rfl) rfl #[.pointer (some ⟨g, 0, none⟩), .int .i64 6] rfl (by (try simp only [List.map_toArray, List.map_cons, List.map_nil]); first | done | rfl) ?_; (with_reducible refine (spec_l1Cur_one.calls g s0_0 t483 t484 6 true t496 t497 w0 _ ?side1 ?side2 A12.out).mono ?_); (case side1 => repeat ((with_reducible exact HI0.out))); (case side2 => repeat ((with_reducible exact HB.out))); rintro e w27 ⟨rfl, hi, hb, hk⟩; refine ⟨_, rfl, ?_⟩; have n0_ := Aside0.mk (Kd.R_mono (Kd.R_keep (IsS72.apart (show IsS72 w0 _ g s0_0 t483 t484 from by repeat ((with_reducible exact HI0.out))) (by (with_reducible repeat (fail)); exact HO482.out) (by decide)) hk (fun _ h => h.2)) (fun _ h => h.1)); have n1_ := Aside0.mk (KeepBut.blk hk (g' := gb485) (o := .cells #[.int .i64 t479, .slice Ao23 t480.length co23] 39 (0, 0)) (by (with_reducible repeat (fail)); exact BK485.out) NB485_0.out (by simp)); have n2_ := Aside0.mk (Kd.R_mono (Kd.R_keep (IsS72.apart (show IsS72 w0 _ g s0_0 t483 t484 from by repeat ((with_reducible exact HI0.out))) (by (with_reducible repeat (fail)); exact HO494.out) (by decide)) hk (fun _ h => h.2)) (fun _ h => h.1)); have n3_ := Aside0.mk (KeepBut.trans (by repeat ((with_reducible exact HK.out))) hk (.inl rfl)); have n4_ := Aside0.mk (hb); have n5_ := Aside0.mk (hi); clear HO482; clear BK485; clear HO494; clear HK; clear HB; clear HI0; have HO482 := n0_; have BK485 := n1_; have HO494 := n2_; have HK := n3_; have HB := n4_; have HI0 := n5_; clear n0_ n1_ n2_ n3_ n4_ n5_; (try clear hb); (try clear hb2); (try clear hk); (try clear hi); obtain ⟨Ao28, co28, eo28⟩ := Kd.R_slice HO494.out; subst eo28) | ((with_reducible refine gate_callee (f := 80) rfl ?_); refine goesL_ (some 27) rfl rfl Tryd.func80 (by kernel_rfl) rfl #[.pointer (some ⟨g, 0, none⟩), .int .i64 (t492.length : Int)] rfl (by (try simp only [List.map_toArray, List.map_cons, List.map_nil]); first | done | rfl) ?_; (with_reducible refine (spec_l1Cur_pick.calls g s0_0 t496 t497 (t492.length : Int) t498 t499 t500 w0 _ ?side1 ?side2 A14.out).mono ?_); (case side1 => repeat ((with_reducible exact HI0.out))); (case side2 => repeat ((with_reducible exact HB.out))); rintro e w29 ⟨rfl, hi, hb, hk⟩; refine ⟨_, rfl, ?_⟩; have n0_ := Aside0.mk (Kd.R_mono (Kd.R_keep (IsS72.apart (show IsS72 w0 _ g s0_0 t496 t497 from by repeat ((with_reducible exact HI0.out))) (by (with_reducible repeat (fail)); exact HO482.out) (by decide)) hk (fun _ h => h.2)) (fun _ h => h.1)); have n1_ := Aside0.mk (KeepBut.blk hk (g' := gb485) (o := .cells #[.int .i64 t479, .slice Ao23 t480.length co23] 39 (0, 0)) (by (with_reducible repeat (fail)); exact BK485.out) NB485_0.out (by simp)); have n2_ := Aside0.mk (Kd.R_mono (Kd.R_keep (IsS72.apart (show IsS72 w0 _ g s0_0 t496 t497 from by repeat ((with_reducible exact HI0.out))) (by (with_reducible repeat (fail)); exact HO494.out) (by decide)) hk (fun _ h => h.2)) (fun _ h => h.1)); have n3_ := Aside0.mk (KeepBut.trans (by repeat ((with_reducible exact HK.out))) hk (.inl rfl)); have n4_ := Aside0.mk (hb); have n5_ := Aside0.mk (hi); clear HO482; clear BK485; clear HO494; clear HK; clear HB; clear HI0; have HO482 := n0_; have BK485 := n1_; have HO494 := n2_; have HK := n3_; have HB := n4_; have HI0 := n5_; clear n0_ n1_ n2_ n3_ n4_ n5_; (try clear hb); (try clear hb2); (try clear hk); (try clear hi); have p501 : 0 ≤ (t498 : Int) := of_decide_eq_true (by first | (with_reducible assumption) | assumption); have q501 : t498 < (t492.length : Int) := of_decide_eq_true (by first | (with_reducible assumption) | assumption); obtain ⟨ad501, e501, hx501_0⟩ := Kd.at_int (Kd.R_reads' HO494.out).2.2 t498 p501 q501; cases e501; replace p501 := eq_true p501; replace q501 := eq_true q501; have p17 : 0 ≤ (t498 : Int) := of_decide_eq_true (by first | (with_reducible assumption) | assumption); have q17 : (t498 : Int) < ((t492.length : Int) : Int) := of_decide_eq_true (by first | (with_reducible assumption) | assumption); obtain ⟨go17, co17, eo17, gb17, gl17, cl17, HG17⟩ := Kd.R_form HO494.out (by omega); (cases eo17); have GB17 := Aside0.mk gb17; have GG17 := Aside0.mk HG17; clear gb17 gl17 HG17; (simp only [add_plain] at hx501_0); obtain ⟨hx17_0, hf17_0⟩ := Kd.R_celln 0 HO494.out (t498 : Int) p17 q17; replace p17 := eq_true p17; replace q17 := eq_true q17; have n_ := Aside0.mk (Kd.R_mono (ok' := (fun k_ => some k_ ≠ (.slice Ao23 t480.length co23 : Value).ownBlock)) HO494.out (fun k_ hk => hk.2)); clear HO494; have HO494 := n_; clear n_; obtain ⟨hy30_, hz30_⟩ := Kd.R_celln 0 HO494.out (t498 : Int) (of_decide_eq_true (by first | (with_reducible assumption) | assumption)) (of_decide_eq_true (by first | (with_reducible assumption) | assumption)); have HP30 := Kd.R_putg HO494.out (t498 : Int) (wrap64 ((rd t492 t498) + 1))) | ((with_reducible refine gate_store (t := 3) (p := 31) rfl ?_); refine store_event (t := 3) (p := 31) (v := ?vo_w31) (w1 := (w29.setCell ⟨go17, (t498 : Int).toNat, none⟩ (.int .i64 (wrap64 ((rd t492 t498) + 1))))) ?hg ?ho ?hn ?hr ?_; (case ho => rfl); (case hg => rfl); (case hn => rfl); (case hr => first | (go_simp; done) | (go_simp; rfl)); intro w31 hw; have hg : w29.grownBy w31 (some go17) := (by rw [hw]; exact HP30.2); have hp_ : Kd.R (Kd.int .i64) 3 w31 w.heap.size (fun k_ => some k_ ≠ (.slice Ao23 t480.length co23 : Value).ownBlock) (.slice (some ⟨go17, 0, none⟩) t492.length co28) y502 := (by rw [hw, Ny502.out]; exact HP30.1); clear HP30; have n0_ := Aside0.mk (IsS72.grown (by repeat ((with_reducible exact HI0.out))) hg (IsS72.own_ne HI0.out HO494.out (by decide))); have n1_ := Aside0.mk (Kd.R_after (v := (.slice (some ⟨go17, 0, none⟩) t492.length co28)) (v1 := (.slice (some ⟨go17, 0, none⟩) t492.length co28)) (ok := (fun _ => True)) (by (with_reducible repeat (fail)); exact HO482.out) hg (.inl rfl)); have n2_ := Aside0.mk (blk_grown (g := gb485) (o := .cells #[.int .i64 t479, .slice Ao23 t480.length co23] 39 (0, 0)) (by (with_reducible repeat (fail)); exact BK485.out) hg (Kd.R_ne HO494.out BK485.out (by decide))); have n3_ := Aside0.mk (hp_); have n4_ := Aside0.mk ((by rw [hw]; exact below_set (HB.out) (Nat.le_trans HL.out GB17.out) : Below w0.heap.size w0 w31)); have n5_ := Aside0.mk (KeepBut.trans (by repeat ((with_reducible exact HK.out))) (KeepBut.of_grown hg g) (Kd.R_base2 HO494.out)); clear HI0; clear HO482; clear BK485; clear HO494; clear HB; clear HK; have HI0 := n0_; have HO482 := n1_; have BK485 := n2_; have HO494 := n3_; have HB := n4_; have HK := n5_; clear n0_ n1_ n2_ n3_ n4_ n5_; clear hg hw hp_))
      go_ret
      exact ⟨_, by first | rfl | (simp [errW_none, errW_some] <;> rfl) | (simp [*, errW_none, errW_some] <;> rfl), by (with_reducible repeat (fail)); exact Kd.R_mono HO494.out (fun _ hk => trivial), by repeat ((with_reducible exact HI0.out)), by repeat ((with_reducible exact HB.out)), by repeat ((with_reducible exact HK.out))⟩
     ·
      rw [if_neg c16] at H
      exact absurd H (by simp)
    ·
     rw [if_neg c15] at H
     exact absurd H (by simp)
   ·
    replace c13 := Bool.eq_false_iff.mpr c13
    subst c13
    have H1 : (some (t492, t496, t497)) = some (r1, r2, r3) := by rw [if_neg (show ¬ (false = true) by decide)] at H; exact H
    clear H
    have H := H1
    clear H1
    simp only [Option.some.injEq, Prod.mk.injEq] at H
    obtain ⟨rfl, rfl, rfl⟩ := H
    go_enter Tryd.func71, Tryd.ntmps71
    go_wp2_with (first | ((with_reducible refine gate_callee (f := 82) rfl ?_); refine goesL_ (some 8) rfl rfl Tryd.func82 (by kernel_rfl) rfl #[.pointer (some ⟨g, 0, none⟩), .int .i64 3] rfl (by (try simp only [List.map_toArray, List.map_cons, List.map_nil]); first | done | rfl) ?_; (with_reducible refine (spec_l1Cur_one.calls g s0_0 s0_1 s0_2 3 false t472 t473 w0 _ ?side1 ?side2 A3.out).mono ?_); (case side1 => repeat ((with_reducible exact HI0.out))); (case side2 => repeat ((with_reducible exact HB.out))); rintro e w32 ⟨rfl, hi, hb, hk⟩; refine ⟨_, rfl, ?_⟩; have n0_ := Aside0.mk (KeepBut.trans (by repeat ((with_reducible exact HK.out))) hk (.inl rfl)); have n1_ := Aside0.mk (hb); have n2_ := Aside0.mk (hi); clear HK; clear HB; clear HI0; have HK := n0_; have HB := n1_; have HI0 := n2_; clear n0_ n1_ n2_; (try clear hb); (try clear hb2); (try clear hk); (try clear hi)) | ((with_reducible refine gate_callee (f := 79) rfl ?_); refine goesL_ (some 13) rfl rfl Tryd.func79 (by kernel_rfl) rfl #[.pointer (some ⟨g, 0, none⟩), .int .i64 a1] rfl (by (try simp only [List.map_toArray, List.map_cons, List.map_nil]); first | done | rfl) ?_; (with_reducible refine (spec_l1Cur_graph.calls k g s0_0 t472 t473 a1 t479 t480 t483 t484 w0 _ ?side1 ?side2 A8.out).mono ?_); (case side1 => repeat ((with_reducible exact HI0.out))); (case side2 => repeat ((with_reducible exact HB.out))); rintro e w33 ⟨v481, rfl, ho0, hi, hb, hk⟩; refine ⟨_, rfl, ?_⟩; have n0_ := Aside0.mk (Kd.R_lower ho0 (keep_size (w := w) (g := g) (row := none) (by repeat ((with_reducible exact HK.out))))); have n1_ := Aside0.mk (KeepBut.trans (by repeat ((with_reducible exact HK.out))) hk (.inl rfl)); have n2_ := Aside0.mk (hb); have n3_ := Aside0.mk (hi); clear HK; clear HB; clear HI0; have HO482 := n0_; have HK := n1_; have HB := n2_; have HI0 := n3_; clear n0_ n1_ n2_ n3_; (try clear hb); (try clear hb2); (try clear hk); (try clear hi); (try clear ho0)) | ((with_reducible refine gate_dst (N := 5) rfl ?_); refine box_event ?hg (N := 5) ?hd (cs := #[.int .i64 0, .slice none 0 0]) (t := 39) ?hr ?_; (case hd => rfl); (case hg => rfl); (case hr => first | (go_simp; done) | (go_simp; rfl)); intro gb485 hg w34 hbox hb; have n0_ := Aside0.mk (Kd.R_below (by (with_reducible repeat (fail)); exact HO482.out) hb); have n1_ := Aside0.mk (IsS72.below (by repeat ((with_reducible exact HI0.out))) hb); have n2_ := Aside0.mk (KeepBut.trans (by repeat ((with_reducible exact HK.out))) (KeepBut.of_below hb g none) (.inl rfl)); have n3_ := Aside0.mk (below_step (by repeat ((with_reducible exact HB.out))) hb); have n4_ := Aside0.mk (hbox); have n5_ := Aside0.mk ((by rw [hg]; exact (keep_size (w := w) (g := g) (row := none) (by repeat ((with_reducible exact HK.out)))) : w.heap.size ≤ gb485)); have n6_ := Aside0.mk ((Nat.le_trans HW0.out (by rw [hg]; exact (keep_size (w := w) (g := g) (row := none) (by repeat ((with_reducible exact HK.out)))) : w.heap.size ≤ gb485) : w0.heap.size ≤ gb485)); have n7_ := Aside0.mk ((by rw [hg]; exact Nat.ne_of_lt (IsS72.lt (show IsS72 w0 _ g s0_0 t483 t484 from by repeat ((with_reducible exact HI0.out)))) : g ≠ gb485)); have n8_ := Aside0.mk ((by rw [hg]; exact Nat.ne_of_gt (IsS72.lt (show IsS72 w0 _ g s0_0 t483 t484 from by repeat ((with_reducible exact HI0.out)))) : gb485 ≠ g)); clear HO482; clear HI0; clear HK; clear HB; have HO482 := n0_; have HI0 := n1_; have HK := n2_; have HB := n3_; have BK485 := n4_; have GW485 := n5_; have GE485 := n6_; have NB0_485 := n7_; have NB485_0 := n8_; clear n0_ n1_ n2_ n3_ n4_ n5_ n6_ n7_ n8_; clear hb hbox hg; have hnb35 := NB485_0.out; have hnc35 := NB0_485.out; have hcz36_0 : w34.cell? ⟨gb485, 0, none⟩ = some (.int .i64 0) := (blk_cell BK485.out 0).trans rfl; have hcz36_1 : w34.cell? ⟨gb485, 1, none⟩ = some (.slice none 0 0) := (blk_cell BK485.out 1).trans rfl; have hfz36_0 := blk_frozen BK485.out 0; have hfz36_1 := blk_frozen BK485.out 1; obtain ⟨Ao37, co37, eo37⟩ := Kd.R_slice HO482.out; subst eo37) | ((with_reducible refine gate_callee (f := 63) rfl ?_); refine goesL_ (some 15) rfl rfl Tryd.func63 (by kernel_rfl) rfl #[.agg #[.int .i64 t479, .slice Ao37 t480.length co37]] rfl (by (try simp only [List.map_toArray, List.map_cons, List.map_nil]); first | done | rfl) ?_; (with_reducible refine (spec_deGood.calls k t479 _ _ t480 true _ ?side1 ?side2 A9.out).mono ?_); (case side1 => refine (Kd.R_reads' (e := 3) (base := w.heap.size) (ok := fun k_ => True) (n := t480.length) (c := co37) ?_).2.2; exact (by (with_reducible repeat (fail)); exact (Kd.R_mono (Kd.R_far (p := ⟨gb485, 1, none⟩) (Kd.R_far (p := ⟨gb485, 0, none⟩) (Kd.R_types HO482.out BK485.out (by decide)) (fun _ hk => hk.2) (.int .i64 t479)) (fun _ hk => hk.2) (.slice Ao37 t480.length co37)) (fun _ h_ => h_.1)))); (case side2 => exact (Kd.R_reads' HO482.out).2.1); rintro e w38 ⟨rfl, hb⟩; refine ⟨_, rfl, ?_⟩; have n0_ := Aside0.mk (Kd.R_below (by (with_reducible repeat (fail)); exact (Kd.R_mono (Kd.R_far (p := ⟨gb485, 1, none⟩) (Kd.R_far (p := ⟨gb485, 0, none⟩) (Kd.R_types HO482.out BK485.out (by decide)) (fun _ hk => hk.2) (.int .i64 t479)) (fun _ hk => hk.2) (.slice Ao37 t480.length co37)) (fun _ h_ => h_.1))) hb); have n1_ := Aside0.mk (IsS72.below (show IsS72 w0 ((w34.setCell ⟨gb485, 0, none⟩ (.int .i64 t479)).setCell ⟨gb485, 1, none⟩ (.slice Ao37 t480.length co37)) g s0_0 t483 t484 from by repeat ((with_reducible first | exact HI0.out | refine IsS72.far ?_ NB0_485.out _))) hb); have n2_ := Aside0.mk (blk_below (g := gb485) (o := .cells #[.int .i64 t479, .slice Ao37 t480.length co37] 39 (0, 0)) (by (with_reducible repeat (fail)); refine blk_put (cs := #[.int .i64 t479, .slice none 0 0]) ?_ 1 _ rfl; (with_reducible repeat (fail)); refine blk_put (cs := #[.int .i64 0, .slice none 0 0]) ?_ 0 _ rfl; (with_reducible repeat (fail)); exact BK485.out) hb); have n3_ := Aside0.mk (KeepBut.trans (by repeat ((with_reducible first | exact HK.out | refine keep_far ?_ GW485.out _))) (KeepBut.of_below hb g none) (.inl rfl)); have n4_ := Aside0.mk (below_step (by repeat ((with_reducible first | exact HB.out | refine below_set ?_ GE485.out))) hb); clear HO482; clear HI0; clear BK485; clear HK; clear HB; have HO482 := n0_; have HI0 := n1_; have BK485 := n2_; have HK := n3_; have HB := n4_; clear n0_ n1_ n2_ n3_ n4_; (try clear hb); (try clear hb2); (try clear hk); (try clear hi); have hcz39_0 : w38.cell? ⟨gb485, 0, none⟩ = some (.int .i64 t479) := (blk_cell BK485.out 0).trans rfl; have hcz39_1 : w38.cell? ⟨gb485, 1, none⟩ = some (.slice Ao37 t480.length co37) := (blk_cell BK485.out 1).trans rfl; have hfz39_0 := blk_frozen BK485.out 0; have hfz39_1 := blk_frozen BK485.out 1) | ((with_reducible refine gate_callee (f := 90) rfl ?_); refine goesL_ (some 20) rfl rfl Tryd.func90 (by kernel_rfl) rfl #[.agg #[.int .i64 t479, .slice Ao37 t480.length co37]] rfl (by (try simp only [List.map_toArray, List.map_cons, List.map_nil]); first | done | rfl) ?_; (with_reducible refine (spec_deDegrees.calls k t479 _ _ t480 t492 _ ?side1 ?side2 A11.out).mono ?_); (case side1 => repeat (exact (Kd.R_reads' HO482.out).2.2)); (case side2 => exact (Kd.R_reads' HO482.out).2.1); rintro e w40 ⟨v493, rfl, ho0, hb⟩; refine ⟨_, rfl, ?_⟩; have n0_ := Aside0.mk (Kd.R_elder' (by (with_reducible repeat (fail)); exact HO482.out) (Kd.R_base ho0) hb); have n1_ := Aside0.mk (Kd.R_lower (Kd.R_new' ho0 (Kd.R_lt (by (with_reducible repeat (fail)); exact HO482.out))) (keep_size (w := w) (g := g) (row := none) (by repeat ((with_reducible exact HK.out))))); have n2_ := Aside0.mk (IsS72.below (by repeat ((with_reducible exact HI0.out))) hb); have n3_ := Aside0.mk (blk_below (g := gb485) (o := .cells #[.int .i64 t479, .slice Ao37 t480.length co37] 39 (0, 0)) (by (with_reducible repeat (fail)); exact BK485.out) hb); have n4_ := Aside0.mk (KeepBut.trans (by repeat ((with_reducible exact HK.out))) (KeepBut.of_below hb g none) (.inl rfl)); have n5_ := Aside0.mk (below_step (by repeat ((with_reducible exact HB.out))) hb); clear HO482; clear HI0; clear BK485; clear HK; clear HB; have HO482 := n0_; have HO494 := n1_; have HI0 := n2_; have BK485 := n3_; have HK := n4_; have HB := n5_; clear n0_ n1_ n2_ n3_ n4_ n5_; (try clear hb); (try clear hb2); (try clear hk); (try clear hi); (try clear ho0)) | ((with_reducible refine gate_callee (f := 82) rfl ?_); refine goesL_ (some 22) rfl rfl Tryd.func82 (by kernel_rfl) rfl #[.pointer (some ⟨g, 0, none⟩), .int .i64 6] rfl (by (try simp only [List.map_toArray, List.map_cons, List.map_nil]); first | done | rfl) ?_; (with_reducible refine (spec_l1Cur_one.calls g s0_0 t483 t484 6 false t496 t497 w0 _ ?side1 ?side2 A12.out).mono ?_); (case side1 => repeat ((with_reducible exact HI0.out))); (case side2 => repeat ((with_reducible exact HB.out))); rintro e w41 ⟨rfl, hi, hb, hk⟩; refine ⟨_, rfl, ?_⟩; have n0_ := Aside0.mk (Kd.R_mono (Kd.R_keep (IsS72.apart (show IsS72 w0 _ g s0_0 t483 t484 from by repeat ((with_reducible exact HI0.out))) (by (with_reducible repeat (fail)); exact HO482.out) (by decide)) hk (fun _ h => h.2)) (fun _ h => h.1)); have n1_ := Aside0.mk (KeepBut.blk hk (g' := gb485) (o := .cells #[.int .i64 t479, .slice Ao37 t480.length co37] 39 (0, 0)) (by (with_reducible repeat (fail)); exact BK485.out) NB485_0.out (by simp)); have n2_ := Aside0.mk (Kd.R_mono (Kd.R_keep (IsS72.apart (show IsS72 w0 _ g s0_0 t483 t484 from by repeat ((with_reducible exact HI0.out))) (by (with_reducible repeat (fail)); exact HO494.out) (by decide)) hk (fun _ h => h.2)) (fun _ h => h.1)); have n3_ := Aside0.mk (KeepBut.trans (by repeat ((with_reducible exact HK.out))) hk (.inl rfl)); have n4_ := Aside0.mk (hb); have n5_ := Aside0.mk (hi); clear HO482; clear BK485; clear HO494; clear HK; clear HB; clear HI0; have HO482 := n0_; have BK485 := n1_; have HO494 := n2_; have HK := n3_; have HB := n4_; have HI0 := n5_; clear n0_ n1_ n2_ n3_ n4_ n5_; (try clear hb); (try clear hb2); (try clear hk); (try clear hi)))
    go_ret
    exact ⟨_, by first | rfl | (simp [errW_none, errW_some] <;> rfl) | (simp [*, errW_none, errW_some] <;> rfl), by (with_reducible repeat (fail)); exact Kd.R_mono HO494.out (fun _ hk => trivial), by repeat ((with_reducible exact HI0.out)), by repeat ((with_reducible exact HB.out)), by repeat ((with_reducible exact HK.out))⟩
  ·
   replace c10 := Bool.eq_false_iff.mpr c10
   subst c10
   have H1 : ((spec_l1Cur_list.f k s0_0 t483 t484 6).bind fun bt487 => (some (bt487.1, bt487.2.1, bt487.2.2))) = some (r1, r2, r3) := by rw [if_neg (show ¬ (false = true) by decide)] at H; exact H
   clear H
   have H := H1
   clear H1
   replace H := Option.bind_eq_some_iff.mp H
   obtain ⟨⟨t487, t490, t491⟩, A420, H⟩ := H
   replace H : (some (t487, t490, t491)) = some (r1, r2, r3) := H
   have A42 := Aside0.mk A420
   clear A420
   simp only [Option.some.injEq, Prod.mk.injEq] at H
   obtain ⟨rfl, rfl, rfl⟩ := H
   go_enter Tryd.func71, Tryd.ntmps71
   go_wp2_with (first | ((with_reducible refine gate_callee (f := 82) rfl ?_); refine goesL_ (some 8) rfl rfl Tryd.func82 (by kernel_rfl) rfl #[.pointer (some ⟨g, 0, none⟩), .int .i64 3] rfl (by (try simp only [List.map_toArray, List.map_cons, List.map_nil]); first | done | rfl) ?_; (with_reducible refine (spec_l1Cur_one.calls g s0_0 s0_1 s0_2 3 false t472 t473 w0 _ ?side1 ?side2 A3.out).mono ?_); (case side1 => repeat ((with_reducible exact HI0.out))); (case side2 => repeat ((with_reducible exact HB.out))); rintro e w43 ⟨rfl, hi, hb, hk⟩; refine ⟨_, rfl, ?_⟩; have n0_ := Aside0.mk (KeepBut.trans (by repeat ((with_reducible exact HK.out))) hk (.inl rfl)); have n1_ := Aside0.mk (hb); have n2_ := Aside0.mk (hi); clear HK; clear HB; clear HI0; have HK := n0_; have HB := n1_; have HI0 := n2_; clear n0_ n1_ n2_; (try clear hb); (try clear hb2); (try clear hk); (try clear hi)) | ((with_reducible refine gate_callee (f := 79) rfl ?_); refine goesL_ (some 13) rfl rfl Tryd.func79 (by kernel_rfl) rfl #[.pointer (some ⟨g, 0, none⟩), .int .i64 a1] rfl (by (try simp only [List.map_toArray, List.map_cons, List.map_nil]); first | done | rfl) ?_; (with_reducible refine (spec_l1Cur_graph.calls k g s0_0 t472 t473 a1 t479 t480 t483 t484 w0 _ ?side1 ?side2 A8.out).mono ?_); (case side1 => repeat ((with_reducible exact HI0.out))); (case side2 => repeat ((with_reducible exact HB.out))); rintro e w44 ⟨v481, rfl, ho0, hi, hb, hk⟩; refine ⟨_, rfl, ?_⟩; have n0_ := Aside0.mk (Kd.R_lower ho0 (keep_size (w := w) (g := g) (row := none) (by repeat ((with_reducible exact HK.out))))); have n1_ := Aside0.mk (KeepBut.trans (by repeat ((with_reducible exact HK.out))) hk (.inl rfl)); have n2_ := Aside0.mk (hb); have n3_ := Aside0.mk (hi); clear HK; clear HB; clear HI0; have HO482 := n0_; have HK := n1_; have HB := n2_; have HI0 := n3_; clear n0_ n1_ n2_ n3_; (try clear hb); (try clear hb2); (try clear hk); (try clear hi); (try clear ho0)) | ((with_reducible refine gate_dst (N := 5) rfl ?_); refine box_event ?hg (N := 5) ?hd (cs := #[.int .i64 0, .slice none 0 0]) (t := 39) ?hr ?_; (case hd => rfl); (case hg => rfl); (case hr => first | (go_simp; done) | (go_simp; rfl)); intro gb485 hg w45 hbox hb; have n0_ := Aside0.mk (Kd.R_below (by (with_reducible repeat (fail)); exact HO482.out) hb); have n1_ := Aside0.mk (IsS72.below (by repeat ((with_reducible exact HI0.out))) hb); have n2_ := Aside0.mk (KeepBut.trans (by repeat ((with_reducible exact HK.out))) (KeepBut.of_below hb g none) (.inl rfl)); have n3_ := Aside0.mk (below_step (by repeat ((with_reducible exact HB.out))) hb); have n4_ := Aside0.mk (hbox); have n5_ := Aside0.mk ((by rw [hg]; exact (keep_size (w := w) (g := g) (row := none) (by repeat ((with_reducible exact HK.out)))) : w.heap.size ≤ gb485)); have n6_ := Aside0.mk ((Nat.le_trans HW0.out (by rw [hg]; exact (keep_size (w := w) (g := g) (row := none) (by repeat ((with_reducible exact HK.out)))) : w.heap.size ≤ gb485) : w0.heap.size ≤ gb485)); have n7_ := Aside0.mk ((by rw [hg]; exact Nat.ne_of_lt (IsS72.lt (show IsS72 w0 _ g s0_0 t483 t484 from by repeat ((with_reducible exact HI0.out)))) : g ≠ gb485)); have n8_ := Aside0.mk ((by rw [hg]; exact Nat.ne_of_gt (IsS72.lt (show IsS72 w0 _ g s0_0 t483 t484 from by repeat ((with_reducible exact HI0.out)))) : gb485 ≠ g)); clear HO482; clear HI0; clear HK; clear HB; have HO482 := n0_; have HI0 := n1_; have HK := n2_; have HB := n3_; have BK485 := n4_; have GW485 := n5_; have GE485 := n6_; have NB0_485 := n7_; have NB485_0 := n8_; clear n0_ n1_ n2_ n3_ n4_ n5_ n6_ n7_ n8_; clear hb hbox hg; have hnb46 := NB485_0.out; have hnc46 := NB0_485.out; have hcz47_0 : w45.cell? ⟨gb485, 0, none⟩ = some (.int .i64 0) := (blk_cell BK485.out 0).trans rfl; have hcz47_1 : w45.cell? ⟨gb485, 1, none⟩ = some (.slice none 0 0) := (blk_cell BK485.out 1).trans rfl; have hfz47_0 := blk_frozen BK485.out 0; have hfz47_1 := blk_frozen BK485.out 1; obtain ⟨Ao48, co48, eo48⟩ := Kd.R_slice HO482.out; subst eo48) | ((with_reducible refine gate_callee (f := 63) rfl ?_); refine goesL_ (some 15) rfl rfl Tryd.func63 (by kernel_rfl) rfl #[.agg #[.int .i64 t479, .slice Ao48 t480.length co48]] rfl (by (try simp only [List.map_toArray, List.map_cons, List.map_nil]); first | done | rfl) ?_; (with_reducible refine (spec_deGood.calls k t479 _ _ t480 false _ ?side1 ?side2 A9.out).mono ?_); (case side1 => refine (Kd.R_reads' (e := 3) (base := w.heap.size) (ok := fun k_ => True) (n := t480.length) (c := co48) ?_).2.2; exact (by (with_reducible repeat (fail)); exact (Kd.R_mono (Kd.R_far (p := ⟨gb485, 1, none⟩) (Kd.R_far (p := ⟨gb485, 0, none⟩) (Kd.R_types HO482.out BK485.out (by decide)) (fun _ hk => hk.2) (.int .i64 t479)) (fun _ hk => hk.2) (.slice Ao48 t480.length co48)) (fun _ h_ => h_.1)))); (case side2 => exact (Kd.R_reads' HO482.out).2.1); rintro e w49 ⟨rfl, hb⟩; refine ⟨_, rfl, ?_⟩; have n0_ := Aside0.mk (Kd.R_below (by (with_reducible repeat (fail)); exact (Kd.R_mono (Kd.R_far (p := ⟨gb485, 1, none⟩) (Kd.R_far (p := ⟨gb485, 0, none⟩) (Kd.R_types HO482.out BK485.out (by decide)) (fun _ hk => hk.2) (.int .i64 t479)) (fun _ hk => hk.2) (.slice Ao48 t480.length co48)) (fun _ h_ => h_.1))) hb); have n1_ := Aside0.mk (IsS72.below (show IsS72 w0 ((w45.setCell ⟨gb485, 0, none⟩ (.int .i64 t479)).setCell ⟨gb485, 1, none⟩ (.slice Ao48 t480.length co48)) g s0_0 t483 t484 from by repeat ((with_reducible first | exact HI0.out | refine IsS72.far ?_ NB0_485.out _))) hb); have n2_ := Aside0.mk (blk_below (g := gb485) (o := .cells #[.int .i64 t479, .slice Ao48 t480.length co48] 39 (0, 0)) (by (with_reducible repeat (fail)); refine blk_put (cs := #[.int .i64 t479, .slice none 0 0]) ?_ 1 _ rfl; (with_reducible repeat (fail)); refine blk_put (cs := #[.int .i64 0, .slice none 0 0]) ?_ 0 _ rfl; (with_reducible repeat (fail)); exact BK485.out) hb); have n3_ := Aside0.mk (KeepBut.trans (by repeat ((with_reducible first | exact HK.out | refine keep_far ?_ GW485.out _))) (KeepBut.of_below hb g none) (.inl rfl)); have n4_ := Aside0.mk (below_step (by repeat ((with_reducible first | exact HB.out | refine below_set ?_ GE485.out))) hb); clear HO482; clear HI0; clear BK485; clear HK; clear HB; have HO482 := n0_; have HI0 := n1_; have BK485 := n2_; have HK := n3_; have HB := n4_; clear n0_ n1_ n2_ n3_ n4_; (try clear hb); (try clear hb2); (try clear hk); (try clear hi)) | ((with_reducible refine gate_callee (f := 89) rfl ?_); refine goesL_ (some 18) rfl rfl Tryd.func89 (by kernel_rfl) rfl #[.pointer (some ⟨g, 0, none⟩), .int .i64 6] rfl (by (try simp only [List.map_toArray, List.map_cons, List.map_nil]); first | done | rfl) ?_; (with_reducible refine (spec_l1Cur_list.calls k g s0_0 t483 t484 6 t487 t490 t491 w0 _ ?side1 ?side2 A42.out).mono ?_); (case side1 => repeat ((with_reducible exact HI0.out))); (case side2 => repeat ((with_reducible exact HB.out))); rintro e w50 ⟨v488, rfl, ho0, hi, hb, hk⟩; refine ⟨_, rfl, ?_⟩; have n0_ := Aside0.mk (Kd.R_mono (Kd.R_told (Kd.R_oldK (IsS72.apart (show IsS72 w0 _ g s0_0 t483 t484 from by repeat ((with_reducible exact HI0.out))) (by (with_reducible repeat (fail)); exact HO482.out) (by decide)) hk) (Kd.R_base ho0)) (fun _ h_ => h_.1)); have n1_ := Aside0.mk (KeepBut.blk hk (g' := gb485) (o := .cells #[.int .i64 t479, .slice Ao48 t480.length co48] 39 (0, 0)) (by (with_reducible repeat (fail)); exact BK485.out) NB485_0.out (by simp)); have n2_ := Aside0.mk (Kd.R_lower (Kd.R_new' ho0 (Kd.R_lt (by (with_reducible repeat (fail)); exact HO482.out))) (keep_size (w := w) (g := g) (row := none) (by repeat ((with_reducible exact HK.out))))); have n3_ := Aside0.mk (KeepBut.trans (by repeat ((with_reducible exact HK.out))) hk (.inl rfl)); have n4_ := Aside0.mk (hb); have n5_ := Aside0.mk (hi); clear HO482; clear BK485; clear HK; clear HB; clear HI0; have HO482 := n0_; have BK485 := n1_; have HO489 := n2_; have HK := n3_; have HB := n4_; have HI0 := n5_; clear n0_ n1_ n2_ n3_ n4_ n5_; (try clear hb); (try clear hb2); (try clear hk); (try clear hi); (try clear ho0)))
   go_ret
   exact ⟨_, by first | rfl | (simp [errW_none, errW_some] <;> rfl) | (simp [*, errW_none, errW_some] <;> rfl), by (with_reducible repeat (fail)); exact Kd.R_mono HO489.out (fun _ hk => trivial), by repeat ((with_reducible exact HI0.out)), by repeat ((with_reducible exact HB.out)), by repeat ((with_reducible exact HK.out))⟩
def spec_DrawRefusingK.f (k : Nat) (l0 : List Int) : Option (List Int) := (spec_l1Cur_degrees.f k l0 0 0 8).bind fun bt504 => (some bt504.1)
theorem spec_DrawRefusingK.mono : ∀ a0 k, LeO (spec_DrawRefusingK.f k a0) (spec_DrawRefusingK.f (k + 1) a0) := by
 intro a0 k
 unfold spec_DrawRefusingK.f
 repeat' first
   | (with_reducible exact spec_l1Cur_degrees.mono _ _ _ _ _)
   | (with_reducible exact LeO.refl _)
   | (with_reducible exact LeO.none _)
   | (with_reducible refine LeO.ite ?_ ?_)
   | (with_reducible refine LeO.bind ?_ (fun _ => ?_))
   | exact spec_l1Cur_degrees.mono _ _ _ _ _
   | exact LeO.none _
   | refine LeO.ite ?_ ?_
   | refine LeO.bind ?_ (fun _ => ?_)
set_option maxHeartbeats 8000000 in
set_option maxRecDepth 100000 in
theorem spec_DrawRefusingK.calls (k : Nat) (A0 : Option Addr) (c0 : Nat) (l0 : List Int) (r : List Int) (w : World) (hr0 : Kd.C (Kd.int .u8) w A0 l0.length l0) (hc0 : l0.length ≤ c0) (h : spec_DrawRefusingK.f k l0 = some r) :
  Calls Tryd.prog 44 #[.slice A0 l0.length c0] w fun e w' => ∃ v0_ : Value, e = .returned (v0_) ∧ Kd.R (Kd.int .i64) 3 w' w.heap.size (fun _ => True) v0_ r ∧ Below w.heap.size w w' := by
 have hu72 := Tryd.underlying72
 have HR0 := Aside0.mk hr0
 have HC0 := Aside0.mk hc0
 clear hr0 hc0
 have HB := Aside0.mk (Below.refl w.heap.size w)
 have H : ((spec_l1Cur_degrees.f k l0 0 0 8).bind fun bt504 => (some bt504.1)) = some r := h
 clear h
 replace H := Option.bind_eq_some_iff.mp H
 obtain ⟨⟨t504, t507, t508⟩, A20, H⟩ := H
 replace H : (some t504) = some r := H
 have A2 := Aside0.mk A20
 clear A20
 obtain rfl := Option.some.inj H
 go_enter Tryd.func44, Tryd.ntmps44
 go_wp2_with (first | ((with_reducible refine gate_dst (N := 6) rfl ?_); refine box_event ?hg (N := 6) ?hd (cs := #[.slice A0 l0.length c0, .int .i64 0, .int .u64 0]) (t := 72) ?hr ?_; (case hd => rfl); (case hg => rfl); (case hr => first | (go_simp; done) | (go_simp; rfl)); intro gb503 hg w3 hbox hb; have n0_ := Aside0.mk (below_step (by repeat (first | (with_reducible first | exact HB.out | apply below_alloc | apply pw_below_drewN | apply below_drew1))) hb); have n1_ := Aside0.mk ((show IsS72 w w3 gb503 l0 0 0 from ⟨_, _, hbox, (by rw [hg]; exact (below_size (by repeat (first | (with_reducible first | exact HB.out | apply below_alloc | apply pw_below_drewN | apply below_drew1))))), HR0.out⟩)); have n2_ := Aside0.mk ((by rw [hg]; exact (below_size (by repeat (first | (with_reducible first | exact HB.out | apply below_alloc | apply pw_below_drewN | apply below_drew1)))) : w.heap.size ≤ gb503)); have n3_ := Aside0.mk ((by rw [hg]; exact (below_size (by repeat (first | (with_reducible first | exact HB.out | apply below_alloc | apply pw_below_drewN | apply below_drew1)))) : w.heap.size ≤ gb503)); clear HB; have HB := n0_; have HI503 := n1_; have GW503 := n2_; have GE503 := n3_; clear n0_ n1_ n2_ n3_; clear hb hbox hg) | ((with_reducible refine gate_callee (f := 71) rfl ?_); refine goesL_ (some 8) rfl rfl Tryd.func71 (by kernel_rfl) rfl #[.pointer (some ⟨gb503, 0, none⟩), .int .i64 8] rfl (by (try simp only [List.map_toArray, List.map_cons, List.map_nil]); first | done | rfl) ?_; (with_reducible refine (spec_l1Cur_degrees.calls k gb503 l0 0 0 8 t504 t507 t508 w _ ?side1 ?side2 A2.out).mono ?_); (case side1 => repeat (first | (with_reducible first | exact HI503.out | apply IsS72.alloc | apply IsS72.drewN | apply IsS72.drew | apply IsS72.set_1 | apply IsS72.set_2) | exact HI503.out)); (case side2 => repeat (first | (with_reducible first | exact HB.out | apply below_alloc | apply pw_below_drewN | apply below_drew1 | refine below_set ?_ (IsS72.ge HI503.out)) | exact HB.out)); rintro e w4 ⟨v505, rfl, ho0, hi, hb, hk⟩; refine ⟨_, rfl, ?_⟩; have n0_ := Aside0.mk (Kd.R_lower ho0 (below_size (by repeat (first | (with_reducible first | exact HB.out | apply below_alloc | apply pw_below_drewN | apply below_drew1 | refine below_set ?_ (IsS72.ge HI503.out)) | exact HB.out)))); have n1_ := Aside0.mk (hb); have n2_ := Aside0.mk (hi); clear HB; clear HI503; have HO506 := n0_; have HB := n1_; have HI503 := n2_; clear n0_ n1_ n2_; (try clear hb); (try clear hb2); (try clear hk); (try clear hi); (try clear ho0)))
 go_ret
 exact ⟨_, by first | rfl | (simp [errW_none, errW_some] <;> rfl) | (simp [*, errW_none, errW_some] <;> rfl), by (with_reducible repeat (first | apply Kd.R_alloc | apply Kd.R_drewN | apply Kd.R_drew)); exact HO506.out, by repeat (first | (with_reducible first | exact HB.out | apply below_alloc | apply pw_below_drewN | apply below_drew1 | refine below_set ?_ (IsS72.ge HI503.out)) | exact HB.out)⟩
def spec_DrawBuildGraph.f (k : Nat) (l0 : List Int) : Option (List Int) := (spec_DrawRefusingK.f k l0).bind fun t509 => (some t509)
theorem spec_DrawBuildGraph.mono : ∀ a0 k, LeO (spec_DrawBuildGraph.f k a0) (spec_DrawBuildGraph.f (k + 1) a0) := by
 intro a0 k
 unfold spec_DrawBuildGraph.f
 repeat' first
   | (with_reducible exact spec_DrawRefusingK.mono _ _)
   | (with_reducible exact LeO.refl _)
   | (with_reducible exact LeO.none _)
   | (with_reducible refine LeO.ite ?_ ?_)
   | (with_reducible refine LeO.bind ?_ (fun _ => ?_))
   | exact spec_DrawRefusingK.mono _ _
   | exact LeO.none _
   | refine LeO.ite ?_ ?_
   | refine LeO.bind ?_ (fun _ => ?_)
set_option maxHeartbeats 8000000 in
set_option maxRecDepth 100000 in
theorem spec_DrawBuildGraph.calls (k : Nat) (A0 : Option Addr) (c0 : Nat) (l0 : List Int) (r : List Int) (w : World) (hr0 : Kd.C (Kd.int .u8) w A0 l0.length l0) (hc0 : l0.length ≤ c0) (h : spec_DrawBuildGraph.f k l0 = some r) :
  Calls Tryd.prog 19 #[.slice A0 l0.length c0] w fun e w' => ∃ v0_ : Value, e = .returned (v0_) ∧ Kd.R (Kd.int .i64) 3 w' w.heap.size (fun _ => True) v0_ r ∧ Below w.heap.size w w' := by
 have HR0 := Aside0.mk hr0
 have HC0 := Aside0.mk hc0
 clear hr0 hc0
 have HB := Aside0.mk (Below.refl w.heap.size w)
 have H : ((spec_DrawRefusingK.f k l0).bind fun t509 => (some t509)) = some r := h
 clear h
 replace H := Option.bind_eq_some_iff.mp H
 obtain ⟨t509, A20, H⟩ := H
 replace H : (some t509) = some r := H
 have A2 := Aside0.mk A20
 clear A20
 obtain rfl := Option.some.inj H
 go_enter Tryd.func19, Tryd.ntmps19
 go_wp2_with (first | ((with_reducible refine gate_callee (f := 44) rfl ?_); refine goesL_ (some 4) rfl rfl Tryd.func44 (by kernel_rfl) rfl #[.slice A0 l0.length c0] rfl (by (try simp only [List.map_toArray, List.map_cons, List.map_nil]); first | done | rfl) ?_; (with_reducible refine (spec_DrawRefusingK.calls k _ _ l0 t509 _ ?side1 ?side2 A2.out).mono ?_); (case side1 => repeat (first | exact HR0.out | (with_reducible refine Kd.C_alloc ?_ _) | (with_reducible refine Kd.C_drewN ?_ _) | (with_reducible refine Kd.C_drew ?_))); (case side2 => exact HC0.out); rintro e w3 ⟨v510, rfl, ho0, hb⟩; refine ⟨_, rfl, ?_⟩; have n0_ := Aside0.mk (Kd.R_lower ho0 (below_size (by repeat (first | (with_reducible first | exact HB.out | apply below_alloc | apply pw_below_drewN | apply below_drew1))))); have n1_ := Aside0.mk (below_step (by repeat (first | (with_reducible first | exact HB.out | apply below_alloc | apply pw_below_drewN | apply below_drew1))) hb); clear HB; have HO511 := n0_; have HB := n1_; clear n0_ n1_; (try clear hb); (try clear hb2); (try clear hk); (try clear hi); (try clear ho0)))
 go_ret
 exact ⟨_, by first | rfl | (simp [errW_none, errW_some] <;> rfl) | (simp [*, errW_none, errW_some] <;> rfl), by (with_reducible repeat (first | apply Kd.R_alloc | apply Kd.R_drewN | apply Kd.R_drew)); exact HO511.out, by repeat (first | (with_reducible first | exact HB.out | apply below_alloc | apply pw_below_drewN | apply below_drew1) | exact HB.out)⟩
def spec_liGood.f (k : Nat) (l0 : List Int) : Option (Bool) := (spec_l1In.f (l0.length : Int) 1 8).bind fun t535 => (if t535 = true then ((spec_l1All.f k l0 0 60).bind fun t536 => (some t536)) else (some false))
theorem spec_liGood.mono : ∀ a0 k, LeO (spec_liGood.f k a0) (spec_liGood.f (k + 1) a0) := by
 intro a0 k
 unfold spec_liGood.f
 repeat' first
   | (with_reducible exact spec_l1All.mono _ _ _ _)
   | (with_reducible exact LeO.refl _)
   | (with_reducible exact LeO.none _)
   | (with_reducible refine LeO.ite ?_ ?_)
   | (with_reducible refine LeO.bind ?_ (fun _ => ?_))
   | exact spec_l1All.mono _ _ _ _
   | exact LeO.none _
   | refine LeO.ite ?_ ?_
   | refine LeO.bind ?_ (fun _ => ?_)
set_option maxHeartbeats 8000000 in
set_option maxRecDepth 100000 in
theorem spec_liGood.calls (k : Nat) (A0 : Option Addr) (c0 : Nat) (l0 : List Int) (r : Bool) (w : World) (hr0 : Kd.C (Kd.int .i64) w A0 l0.length l0) (hc0 : l0.length ≤ c0) (h : spec_liGood.f k l0 = some r) :
  Calls Tryd.prog 52 #[.slice A0 l0.length c0] w fun e w' => e = .returned (.bool r) ∧ Drawn0 w w' := by
 have HR0 := Aside0.mk hr0
 have HC0 := Aside0.mk hc0
 clear hr0 hc0
 have H : ((spec_l1In.f (l0.length : Int) 1 8).bind fun t535 => (if t535 = true then ((spec_l1All.f k l0 0 60).bind fun t536 => (some t536)) else (some false))) = some r := h
 clear h
 replace H := Option.bind_eq_some_iff.mp H
 obtain ⟨t535, A20, H⟩ := H
 replace H : (if t535 = true then ((spec_l1All.f k l0 0 60).bind fun t536 => (some t536)) else (some false)) = some r := H
 have A2 := Aside0.mk A20
 clear A20
 by_cases c3 : t535 = true
 ·
  subst c3
  have H1 : ((spec_l1All.f k l0 0 60).bind fun t536 => (some t536)) = some r := by rw [if_pos rfl] at H; exact H
  clear H
  have H := H1
  clear H1
  replace H := Option.bind_eq_some_iff.mp H
  obtain ⟨t536, A40, H⟩ := H
  replace H : (some t536) = some r := H
  have A4 := Aside0.mk A40
  clear A40
  obtain rfl := Option.some.inj H
  go_enter Tryd.func52, Tryd.ntmps52
  go_wp2_with (first | ((with_reducible refine gate_callee (f := 66) rfl ?_); refine goesL_ (some 5) rfl rfl Tryd.func66 (by kernel_rfl) rfl #[.int .i64 (l0.length : Int), .int .i64 1, .int .i64 8] rfl (by (try simp only [List.map_toArray, List.map_cons, List.map_nil]); first | done | rfl) ?_; (with_reducible refine (spec_l1In.calls (l0.length : Int) 1 8 true _ A2.out).mono ?_); rintro e w' ⟨rfl, ⟨nd, rfl⟩⟩; refine ⟨_, rfl, ?_⟩) | (go_at_call 67; (with_reducible refine (spec_l1All.calls k _ _ l0 0 60 t536 _ ?side1 ?side2 A4.out).mono ?_); (case side1 => repeat (first | exact HR0.out | (with_reducible refine Kd.C_alloc ?_ _) | (with_reducible refine Kd.C_drewN ?_ _) | (with_reducible refine Kd.C_drew ?_))); (case side2 => exact HC0.out); rintro e w' ⟨rfl, ⟨nd, rfl⟩⟩))
  go_ret
  exact ⟨by first | rfl | (simp; done) | (simp [*]; done), by repeat (first | exact Drawn0.refl _ | apply Drawn0.step)⟩
 ·
  replace c3 := Bool.eq_false_iff.mpr c3
  subst c3
  have H1 : (some false) = some r := by rw [if_neg (show ¬ (false = true) by decide)] at H; exact H
  clear H
  have H := H1
  clear H1
  obtain rfl := Option.some.inj H
  go_enter Tryd.func52, Tryd.ntmps52
  go_wp2_with (first | ((with_reducible refine gate_callee (f := 66) rfl ?_); refine goesL_ (some 5) rfl rfl Tryd.func66 (by kernel_rfl) rfl #[.int .i64 (l0.length : Int), .int .i64 1, .int .i64 8] rfl (by (try simp only [List.map_toArray, List.map_cons, List.map_nil]); first | done | rfl) ?_; (with_reducible refine (spec_l1In.calls (l0.length : Int) 1 8 false _ A2.out).mono ?_); rintro e w' ⟨rfl, ⟨nd, rfl⟩⟩; refine ⟨_, rfl, ?_⟩))
  go_ret
  exact ⟨by first | rfl | (simp; done) | (simp [*]; done), by repeat (first | exact Drawn0.refl _ | apply Drawn0.step)⟩
def spec_liSum.l0 : Nat → Int → List Int → Int → Int → Option (Int)
 | 0, _, _, _, _ => none
 | k + 1, x3, x6, x7, x8 => if x8 < x7 then (if 0 ≤ x8 then (if x8 < (x6.length : Int) then (spec_liSum.l0 k (wrap64 (x3 + (rd x6 x8))) x6 x7 (wrap64 (x8 + 1))) else (none)) else (none)) else (some x3)
def spec_liSum.f (k : Nat) (l0 : List Int) : Option (Int) := spec_liSum.l0 k 0 l0 (l0.length : Int) 0
theorem spec_liSum.mono_l : ∀ k, (∀ y0 y1 y2 y3, LeO (spec_liSum.l0 k y0 y1 y2 y3) (spec_liSum.l0 (k + 1) y0 y1 y2 y3))
 | 0 => fun _ _ _ _ r h => by simp [spec_liSum.l0] at h
 | k + 1 => by
  have ih0 := spec_liSum.mono_l k
  ·
   intro y0 y1 y2 y3
   unfold spec_liSum.l0
   repeat' first
   | (with_reducible exact ih0 _ _ _ _)
   | (with_reducible exact LeO.refl _)
   | (with_reducible exact LeO.none _)
   | (with_reducible refine LeO.ite ?_ ?_)
   | (with_reducible refine LeO.bind ?_ (fun _ => ?_))
   | exact ih0 _ _ _ _
   | exact LeO.none _
   | refine LeO.ite ?_ ?_
   | refine LeO.bind ?_ (fun _ => ?_)
theorem spec_liSum.mono : ∀ a0 k, LeO (spec_liSum.f k a0) (spec_liSum.f (k + 1) a0) := by
 intro a0 k
 have ih0 := spec_liSum.mono_l k
 unfold spec_liSum.f
 repeat' first
   | (with_reducible exact ih0 _ _ _ _)
   | (with_reducible exact LeO.refl _)
   | (with_reducible exact LeO.none _)
   | (with_reducible refine LeO.ite ?_ ?_)
   | (with_reducible refine LeO.bind ?_ (fun _ => ?_))
   | exact ih0 _ _ _ _
   | exact LeO.none _
   | refine LeO.ite ?_ ?_
   | refine LeO.bind ?_ (fun _ => ?_)
set_option maxHeartbeats 8000000 in
set_option maxRecDepth 100000 in
theorem spec_liSum.calls (k : Nat) (A0 : Option Addr) (c0 : Nat) (l0 : List Int) (r : Int) (w : World) (hr0 : Kd.C (Kd.int .i64) w A0 l0.length l0) (hc0 : l0.length ≤ c0) (h : spec_liSum.f k l0 = some r) :
  Calls Tryd.prog 75 #[.slice A0 l0.length c0] w fun e w' => e = .returned (.int .i64 r) ∧ Drawn0 w w' := by
 have HR0 := Aside0.mk hr0
 have HC0 := Aside0.mk hc0
 clear hr0 hc0
 have H : (spec_liSum.l0 k 0 l0 (l0.length : Int) 0) = some r := h
 clear h
 have H' := Aside0.mk H
 clear H
 go_enter Tryd.func75, Tryd.ntmps75
 go_wp2
 go_loopg [3, 8] k (fun kq v3 v8 w' => ∃ (x3_1 : Int) (x8_1 : Int), v3 = .int .i64 x3_1 ∧ v8 = .int .i64 x8_1 ∧ Aside0 (spec_liSum.l0 kq x3_1 l0 (l0.length : Int) x8_1 = some r) ∧ Aside0 (kq ≤ k) ∧ Drawn0 w w')
 case atStart => exact ⟨(0), (0), (by first | rfl | (simp; done) | (simp [*]; done)), (by first | rfl | (simp; done) | (simp [*]; done)), H', ⟨Nat.le_refl _⟩, by repeat (first | exact Drawn0.refl _ | apply Drawn0.step)⟩
 case round =>
  clear H'
  obtain ⟨x3_1, x8_1, rfl, rfl, HA, HK1, ⟨m1, rfl⟩⟩ := hrel
  cases gk with
  | zero => exact absurd HA.out (by simp [spec_liSum.l0])
  | succ k1 =>
   have H := HA.out
   clear HA
   simp only [spec_liSum.l0] at H
   by_cases c2 : x8_1 < (l0.length : Int)
   ·
    rw [if_pos c2] at H
    have c2b0 : decide (x8_1 < (l0.length : Int)) = true := decide_eq_true c2
    clear c2
    by_cases c3 : 0 ≤ x8_1
    ·
     rw [if_pos c3] at H
     have c3b0 : decide (0 ≤ x8_1) = true := decide_eq_true c3
     clear c3
     by_cases c4 : x8_1 < (l0.length : Int)
     ·
      rw [if_pos c4] at H
      have c4b0 : decide (x8_1 < (l0.length : Int)) = true := decide_eq_true c4
      clear c4
      have H' := Aside0.mk H
      clear H
      have p537 : 0 ≤ (x8_1 : Int) := of_decide_eq_true (by first | (with_reducible assumption) | assumption)
      have q537 : x8_1 < (l0.length : Int) := of_decide_eq_true (by first | (with_reducible assumption) | assumption)
      obtain ⟨ad537, e537, hx537_0⟩ := Kd.at_int HR0.out x8_1 p537 q537
      cases e537
      replace p537 := eq_true p537
      replace q537 := eq_true q537
      go_wp2
      go_roundg k1
      case measure => have := HK1.out; omega
      case rel => exact ⟨(wrap64 (x3_1 + (rd l0 x8_1))), (wrap64 (x8_1 + 1)), (by first | rfl | (simp; done) | (simp [*]; done)), (by first | rfl | (simp; done) | (simp [*]; done)), H', ⟨by have := HK1.out; omega⟩, by repeat (first | exact Drawn0.refl _ | apply Drawn0.step)⟩
     ·
      rw [if_neg c4] at H
      exact absurd H (by simp)
    ·
     rw [if_neg c3] at H
     exact absurd H (by simp)
   ·
    rw [if_neg c2] at H
    have c2b0 : decide (x8_1 < (l0.length : Int)) = false := decide_eq_false c2
    clear c2
    obtain rfl := Option.some.inj H
    go_wp2
    go_ret
    exact ⟨by first | rfl | (simp; done) | (simp [*]; done), by repeat (first | exact Drawn0.refl _ | apply Drawn0.step)⟩
def spec_l1Least.f (a0 : Int) (a1 : Int) : Option (Int) := if a0 < a1 then (some a0) else (some a1)
set_option maxHeartbeats 8000000 in
set_option maxRecDepth 100000 in
theorem spec_l1Least.calls (a0 : Int) (a1 : Int) (r : Int) (w : World) (h : spec_l1Least.f a0 a1 = some r) :
  Calls Tryd.prog 77 #[.int .i64 a0, .int .i64 a1] w fun e w' => e = .returned (.int .i64 r) ∧ Drawn0 w w' := by
 have H : (if a0 < a1 then (some a0) else (some a1)) = some r := h
 clear h
 by_cases c3 : a0 < a1
 ·
  rw [if_pos c3] at H
  have c3b0 : decide (a0 < a1) = true := decide_eq_true c3
  clear c3
  obtain rfl := Option.some.inj H
  go_enter Tryd.func77, Tryd.ntmps77
  go_wp2
  go_ret
  exact ⟨by first | rfl | (simp; done) | (simp [*]; done), by repeat (first | exact Drawn0.refl _ | apply Drawn0.step)⟩
 ·
  rw [if_neg c3] at H
  have c3b0 : decide (a0 < a1) = false := decide_eq_false c3
  clear c3
  obtain rfl := Option.some.inj H
  go_enter Tryd.func77, Tryd.ntmps77
  go_wp2
  go_ret
  exact ⟨by first | rfl | (simp; done) | (simp [*]; done), by repeat (first | exact Drawn0.refl _ | apply Drawn0.step)⟩
def spec_l1Own.f (l0 : List Int) : Option (List Int) := (some (([] : List Int) : List Int)).bind fun y191 => (if y191.length + l0.length < 17592186044416 then (some (y191 ++ l0)) else (none))
set_option maxHeartbeats 8000000 in
set_option maxRecDepth 100000 in
theorem spec_l1Own.calls (A0 : Option Addr) (c0 : Nat) (l0 : List Int) (r : List Int) (w : World) (hr0 : Kd.C (Kd.int .i64) w A0 l0.length l0) (hc0 : l0.length ≤ c0) (h : spec_l1Own.f l0 = some r) :
  Calls Tryd.prog 54 #[.slice A0 l0.length c0] w fun e w' => ∃ v0_ : Value, e = .returned (v0_) ∧ Kd.R (Kd.int .i64) 3 w' w.heap.size (fun _ => True) v0_ r ∧ Below w.heap.size w w' := by
 have HR0 := Aside0.mk hr0
 have HC0 := Aside0.mk hc0
 clear hr0 hc0
 have HB := Aside0.mk (Below.refl w.heap.size w)
 have H : ((some (([] : List Int) : List Int)).bind fun y191 => (if y191.length + l0.length < 17592186044416 then (some (y191 ++ l0)) else (none))) = some r := h
 clear h
 obtain ⟨y191, hy191⟩ : ∃ y_ : List Int, y_ = (([] : List Int)) := ⟨_, rfl⟩
 replace H : (if y191.length + l0.length < 17592186044416 then (some (y191 ++ l0)) else (none)) = some r := by first | (rw [hy191]; with_reducible exact H) | (have H2_ := (Option.bind_some _ _).symm.trans H; rw [hy191]; with_reducible exact H2_) | (have H2_ := (Option.bind_some _ _).symm.trans H; with_reducible exact H2_) | with_reducible exact H | (rw [hy191]; exact H) | exact H
 have Ny191 := Aside0.mk hy191
 clear hy191
 by_cases c2 : y191.length + l0.length < 17592186044416
 ·
  rw [if_pos c2] at H
  have LMc2 := Aside0.mk c2
  clear c2
  obtain ⟨y194, hy194⟩ : ∃ y_ : List Int, y_ = (y191 ++ l0) := ⟨_, rfl⟩
  replace H : (some y194) = some r := by first | (rw [hy194]; with_reducible exact H) | (have H2_ := (Option.bind_some _ _).symm.trans H; rw [hy194]; with_reducible exact H2_) | (have H2_ := (Option.bind_some _ _).symm.trans H; with_reducible exact H2_) | with_reducible exact H | (rw [hy194]; exact H) | exact H
  have Ny194 := Aside0.mk hy194
  clear hy194
  obtain rfl := Option.some.inj H
  go_enter Tryd.func54, Tryd.ntmps54
  go_wp2_with (first | ((with_reducible refine gate_dst (N := 3) rfl ?_); refine Kd.R_lit (Kd.int .i64) _ 3 ?hg (N := 3) ?hd (xs := ([] : List Int)) (inner := []) (ok := fun _ => True) (okp := fun _ => True) ?hr ?hp (fun _ hk => hk) trivial (Below.refl _ _) (Nat.le_refl _) (by simp) ?_; (case hd => rfl); (case hg => rfl); (case hr => first | (go_simp; done) | (go_simp; rfl)); (case hp => exact (Reps.none _ _)); intro v192 w3 ho4 hb hg_ hnew_; clear hg_ hnew_; (first | rw [← Ny191.out] at ho4 | (simp only [Int.reduceToNat] at ho4; rw [← Ny191.out] at ho4)); have n0_ := Aside0.mk (Kd.R_lower ho4 (below_size (by repeat (first | (with_reducible first | exact HB.out | apply below_alloc | apply pw_below_drewN | apply below_drew1))))); have n1_ := Aside0.mk (below_step (by repeat (first | (with_reducible first | exact HB.out | apply below_alloc | apply pw_below_drewN | apply below_drew1))) hb); clear HB; have HO193 := n0_; have HB := n1_; clear n0_ n1_; clear hb ho4) | ((with_reducible refine gate_builtin (b := .append) (xs := #[.tmp 3, .tmp 4]) rfl ?_); at_builtin; refine Kd.R_append_rows (Kd.int .i64) (w0 := w) w.heap.size rfl (.tmp 3) (.tmp 4) 24 3 (.int .i64 0) 8 rfl Tryd.underlying24 info3 rfl (by decide) (by omega) v192 y191 l0 _ _ _ (fun _ => True) (fun _ => False) rfl rfl ?aO ?aR (fun _ _ h => h) (fun _ h => h.elim) ?aF ?aB ?aS ?aL ?_; (case aR => repeat (first | exact (Kd.C_below HR0.out HB.out) | (with_reducible refine Kd.C_alloc ?_ _) | (with_reducible refine Kd.C_drewN ?_ _) | (with_reducible refine Kd.C_drew ?_))); (case aB => exact (by repeat (first | (with_reducible first | exact HB.out | apply below_alloc | apply pw_below_drewN | apply below_drew1)))); (case aF => exact (fun _ _ => trivial)); (case aO => exact (by (with_reducible repeat (first | apply Kd.R_alloc | apply Kd.R_drewN | apply Kd.R_drew)); exact HO193.out)); (case aS => exact (below_size (by repeat (first | (with_reducible first | exact HB.out | apply below_alloc | apply pw_below_drewN | apply below_drew1))))); (case aL => have := LMc2.out; omega); intro v195 w5 ho hb hg hat; rw [← Ny194.out] at ho; have n0_ := Aside0.mk (hb); have n1_ := Aside0.mk (ho); clear HB; clear HO193; have HB := n0_; have HO196 := n1_; clear n0_ n1_; clear ho hb hg hat))
  go_ret
  exact ⟨_, by first | rfl | (simp [errW_none, errW_some] <;> rfl) | (simp [*, errW_none, errW_some] <;> rfl), by (with_reducible repeat (first | apply Kd.R_alloc | apply Kd.R_drewN | apply Kd.R_drew)); exact HO196.out, by repeat (first | (with_reducible first | exact HB.out | apply below_alloc | apply pw_below_drewN | apply below_drew1) | exact HB.out)⟩
 ·
  rw [if_neg c2] at H
  exact absurd H (by simp)
end Go.Proofs.YtcheoendfcgjgaaDoor.P
namespace Go.Proofs.YtcheoendfcgjgaaDoor.P
open Go.RowKit Go.Proofs.YtcheoendfcgjgaaDoorW.PrintWords Go.Proofs.YtcheoendfcgjgaaDoorW.PrintLast Go.Proofs.YtcheoendfcgjgaaDoorW.PrintMore Go.Proofs.YtcheoendfcgjgaaDoor.K
def posD (x : Int) : List Int → Nat
 | [] => 0
 | y :: l => if x ≤ y then posD x l + 1 else 0
theorem posD_le (x : Int) : ∀ l, posD x l ≤ l.length
 | [] => Nat.le_refl _
 | y :: l => by simp only [posD]; split <;> simp [posD_le x l]
theorem insD_eq (x : Int) : ∀ l, insD x l = l.take (posD x l) ++ [x] ++ l.drop (posD x l)
 | [] => rfl
 | y :: l => by
  simp only [insD, posD]
  split
  ·
   rw [insD_eq x l]; simp
  ·
   simp
theorem posD_get (x : Int) : ∀ (l : List Int) (k : Nat), k < posD x l → x ≤ rd l (k : Int)
 | [], k, h => by simp [posD] at h
 | y :: l, k, h => by
  simp only [posD] at h
  split at h
  ·
   rename_i hy
   cases k with
   | zero => simpa [rd] using hy
   | succ k =>
    have := posD_get x l k (by omega)
    have e : rd (y :: l) ((k + 1 : Nat) : Int) = rd l (k : Int) := by simp [rd]
    rw [e]; exact this
  ·
   omega
theorem posD_at (x : Int) : ∀ (l : List Int), posD x l < l.length → ¬ x ≤ rd l (posD x l : Int)
 | [], h => by simp at h
 | y :: l, h => by
  simp only [posD] at h ⊢
  split at h
  ·
   rename_i hy
   simp only [if_pos hy]
   have e : rd (y :: l) ((posD x l + 1 : Nat) : Int) = rd l (posD x l : Int) := by simp [rd]
   rw [e]; exact posD_at x l (by simpa using h)
  ·
   rename_i hy
   simp only [if_neg hy]; simpa [rd] using hy
theorem insD_length (x : Int) : ∀ l, (insD x l).length = l.length + 1
 | [] => rfl
 | y :: l => by simp only [insD]; split <;> simp [insD_length x l]
def RowI (w : World) (A : Option Addr) (n : Nat) (xs : List Int) : Prop := (Kd.int .i64).C w A n xs
theorem lit_RR (W : World) (x : Int) (e : TypeId) : RowI (W.alloc (.cells #[.int .i64 x] e)) (some ⟨W.heap.size, 0, none⟩) 1 [x] := by
 have h := own_lit_of (enc := Value.int .i64) W W.heap.size e [x] (Nat.le_refl _) (by simp)
 obtain ⟨A, c, he, hc⟩ := own_reads_of (d := (0 : Int)) h
 cases he
 exact Kd.C_of_reads hc
theorem RR_below {W W2 : World} {A : Option Addr} {n : Nat} {xs : List Int} (h : RowI W A n xs) (hb : Below W.heap.size W W2) : RowI W2 A n xs := Kd.C_below h hb
theorem RR_drew {W : World} {A : Option Addr} {n : Nat} {xs : List Int} (h : RowI W A n xs) : RowI W.drew A n xs := Kd.C_drew h
theorem app_step {P : Program} {ops : Array Oper} {o : Oper} {a : Act} {Q : Exit → Act → World → Prop} {Kc : Act → World → Prop} {w0 W : World} (base : Nat) (hw : Region.wanted o (yielded ops a.tmps) = true) (s x : Operand) (t e : TypeId)
  (ho : o.op = .call { callee := .builtin .append, args := #[s, x], argTypes := #[t, t] }) (ht : P.underlying t = some (.slice e)) (hinfo : (P.info? e).map (fun i => (i.zero, i.size, i.bytes)) = some (some (.int .i64 0), 1, 8))
  (v : Value) (xs ys : List Int) (A : Option Addr) (m c : Nat) (hs : a.eval s = v) (hx : a.eval x = .slice A m c)
  (HO : (Kd.int .i64).R e W base (fun _ => True) v xs) (HR : RowI W A m ys) (HB : Below base w0 W) (hbase : base ≤ W.heap.size) (hl : (xs.length + m) * 8 ≤ 140737488355328)
  (h : ∀ v1 w1, (Kd.int .i64).R e w1 base (fun _ => True) v1 (xs ++ ys) → Below base w0 w1 → W.grownBy w1 v.ownBlock → Kc (a.put o.dst v1) w1) :
  if Region.wanted o (yielded ops a.tmps) = true then Oper.wp P o a W Kc Q else Kc (a.put o.dst undef) W :=
 Kd.R_append_rows_step (Kd.int .i64) (w0 := w0) base hw s x t e (.int .i64 0) 8 ho ht hinfo rfl (by decide) (by omega) v xs ys A m c (fun _ => True) (fun _ => False) hs hx HO HR (fun _ _ h => h) (fun _ hk => hk.elim) (fun _ _ => trivial) HB hbase hl (fun v1 w1 h1 h2 h3 _ => h v1 w1 h1 h2 h3)
set_option maxHeartbeats 800000 in
set_option maxRecDepth 100000 in
theorem liRank_c (A0 : Option Addr) (c0 : Nat) (l0 : List Int) (w : World) (hr0 : Kd.C (Kd.int .i64) w A0 l0.length l0) (hc0 : l0.length ≤ c0) (hb0 : l0.length ≤ 1048576) :
  Calls Tryd.prog 76 #[.slice A0 l0.length c0] w fun e w' => ∃ v0_ : Value, e = .returned (v0_) ∧ Kd.R (Kd.int .i64) 3 w' w.heap.size (fun _ => True) v0_ (rankL l0) ∧ Below w.heap.size w w' := by
 have HR0 := Aside0.mk hr0
 have HC0 := Aside0.mk hc0
 have HB0 := Aside0.mk hb0
 have HB := Aside0.mk (Below.refl w.heap.size w)
 clear hr0 hc0 hb0
 obtain ⟨i3_, hi3_, hq_⟩ := Option.map_eq_some_iff.1 info3
 simp only [Prod.mk.injEq] at hq_
 have hz3_ : i3_.size = 1 := hq_.2.1
 clear hq_
 have HI3 := Aside0.mk hi3_
 have HZ3 := Aside0.mk hz3_
 clear hi3_ hz3_
 go_enter Tryd.func76, Tryd.ntmps76
 go_wp2
 go_loopg [3, 9] l0.length (fun kq v3 v9 w' => ∃ (done rest ys : List Int), Aside0 (l0 = done ++ rest) ∧ v9 = .int .i64 (done.length : Int) ∧ Aside0 (rest.foldl (fun s x => insD x s) ys = rankL l0) ∧ Aside0 (ys.length = done.length) ∧ Aside0 (kq = rest.length) ∧ Aside0 (Kd.R (Kd.int .i64) 3 w' w.heap.size (fun _ => True) v3 ys) ∧ Aside0 (Below w.heap.size w w'))
 case atStart => exact ⟨[], l0, [], ⟨rfl⟩, rfl, ⟨rfl⟩, ⟨rfl⟩, ⟨rfl⟩, ⟨by first | exact Kd.R_nil _ _ _ _ _⟩, ⟨(by repeat (first | (with_reducible first | exact HB.out | apply below_alloc | apply pw_below_drewN | apply below_drew1)))⟩⟩
 case round =>
  obtain ⟨done, rest, ys, HE, rfl, HY, HYL, HK, HO, HB⟩ := hrel
  cases rest with
  | nil =>
   have hl : done.length = l0.length := by rw [HE.out]; simp
   have c4 : decide ((done.length : Int) < (l0.length : Int)) = false := by simp; omega
   have c5 : decide (done.length < l0.length) = false := by simp; omega
   clear hl
   go_wp2
   go_ret
   have e1 := HY.out
   simp only [List.foldl_nil] at e1
   subst e1
   exact ⟨_, rfl, by (with_reducible repeat (first | apply Kd.R_alloc | apply Kd.R_drewN | apply Kd.R_drew)); exact HO.out, (by repeat (first | (with_reducible first | exact HB.out | apply below_alloc | apply pw_below_drewN | apply below_drew1)))⟩
  | cons x rest =>
   have hl : done.length < l0.length := by rw [HE.out]; simp
   have HL : Aside0 (done.length < 1048576) := ⟨by have := HB0.out; omega⟩
   obtain ⟨ad, e2, hx⟩ := Kd.at_int HR0.out (done.length : Int) (by omega) (by omega)
   cases e2
   have hx0 : rd l0 (done.length : Int) = x := by rw [HE.out]; simp [rd]
   rw [hx0] at hx
   simp only [Int.toNat_natCast] at hx
   replace hx := (HB.out.cell (World.block_lt_of_cell? w _ hx)).trans hx
   clear hx0
   obtain ⟨A3, c3, rfl, hl3, hC3⟩ := Kd.R_reads HO.out
   have HC3 := Aside0.mk hC3
   have HL3 := Aside0.mk hl3
   clear hC3 hl3
   have c4 : decide ((done.length : Int) < (l0.length : Int)) = true := by simp; omega
   have c5 : decide (done.length < l0.length) = true := by simp; omega
   have c6 : (done.length : Int) ≤ 1048575 := by have := HL.out; omega
   go_wp2
   go_loopg [6] (posD x ys) (fun kq v6 w' => ∃ k : Nat, v6 = .int .i64 (k : Int) ∧ Aside0 (k ≤ posD x ys) ∧ Aside0 (kq = posD x ys - k) ∧ w' = wr)
   case atStart => exact ⟨0, rfl, ⟨Nat.zero_le _⟩, ⟨rfl⟩, rfl⟩
   case round =>
    clear hx c4 c5 hl
    obtain ⟨k, rfl, HKP, HK2, rfl⟩ := hrel
    have hp := posD_le x ys
    have hyb := HYL.out
    have hlb := HL.out
    by_cases hk : k < posD x ys
    ·
     have hkl : k < ys.length := by omega
     obtain ⟨ad3, e3, hx3⟩ := Kd.at_int HC3.out (k : Int) (by omega) (by omega)
     cases e3
     simp only [Int.toNat_natCast] at hx3
     have hge := posD_get x ys k hk
     generalize rd ys (k : Int) = y at hx3 hge
     have d1 : decide (k < ys.length) = true := decide_eq_true hkl
     have d2 : decide ((k : Int) < (ys.length : Int)) = true := decide_eq_true (by omega)
     have d3 : decide (x ≤ y) = true := decide_eq_true hge
     have HKK := Aside0.mk hk
     have c7 : (k : Int) ≤ 1048575 := by omega
     clear hp hyb hlb hge hk
     go_wp2
     go_roundg (posD x ys - (k + 1))
     case measure => have := HK2.out; have := HKK.out; omega
     case rel => exact ⟨k + 1, by simp, ⟨by have := HKK.out; omega⟩, ⟨rfl⟩, rfl⟩
    ·
     obtain rfl : k = posD x ys := by have := HKP.out; omega
     have HI := Aside0.mk (insD_eq x ys)
     have HPL := Aside0.mk hp
     have HYB := Aside0.mk hyb
     have HLB := Aside0.mk hlb
     obtain ⟨hs1, -, hs3⟩ := print_take_of (P := Tryd.prog) (Value.int .i64) (0 : Int) 24 3 .i64 Tryd.underlying24 HI3.out HZ3.out A3 c3 ys (posD x ys : Int) (by omega) (by omega) HL3.out
     obtain ⟨A4, hd1, hd2, hd3⟩ := print_drop_of (P := Tryd.prog) (Value.int .i64) (0 : Int) 24 3 .i64 Tryd.underlying24 HI3.out HZ3.out A3 c3 ys (posD x ys : Int) (by omega) (by omega) HL3.out
     simp only [Int.toNat_natCast] at hs1 hs3 hd1 hd2 hd3
     have HS3 := Aside0.mk hs3
     have HD2 := Aside0.mk hd2
     clear hs3 hd2 hd3
     have hge := posD_at x ys
     have HCT : Aside0 ((Kd.int .i64).C wr A3 (ys.take (posD x ys)).length (ys.take (posD x ys))) := ⟨Kd.C_take HC3.out HPL.out⟩
     have HCD : Aside0 (∀ W : World, (Kd.int .i64).C W A3 ys.length ys → (Kd.int .i64).C W A4 (ys.drop (posD x ys)).length (ys.drop (posD x ys))) := ⟨fun W h => Kd.C_of_reads (HD2.out W (Kd.reads_of_C (d := (0 : Int)) h))⟩
     have HOWN : Aside0 (spec_l1Own.f (ys.take (posD x ys)) = some (ys.take (posD x ys))) := ⟨by
      unfold spec_l1Own.f
      simp only [Option.bind_some, List.length_nil, List.nil_append]
      rw [if_pos (by have := HYB.out; have := HLB.out; rw [List.length_take]; omega)]⟩
     have HLT : Aside0 ((ys.take (posD x ys)).length + 1 + (ys.drop (posD x ys)).length ≤ 1048576) := ⟨by have := HYB.out; have := HLB.out; rw [List.length_take, List.length_drop]; omega⟩
     have HOB := Aside0.mk (Kd.R_mono (ok' := fun k => k < wr.heap.size) (Kd.R_bound HO.out) (fun k hk => hk.2.2.1))
     have HBR := Aside0.mk (Below.refl wr.heap.size wr)
     clear HKP HK2
     generalize posD x ys = p at *
     generalize ys.take p = z1 at *
     generalize ys.drop p = z2 at *
     have c7 : (p : Int) ≤ 1048575 := by omega
     by_cases hpe : p < ys.length
     ·
      obtain ⟨ad3, e3, hx3⟩ := Kd.at_int HC3.out (p : Int) (by omega) (by omega)
      cases e3
      simp only [Int.toNat_natCast] at hx3
      have hge := hge hpe
      generalize hyy : rd ys (p : Int) = y at hx3 hge
      have d1 : decide (p < ys.length) = true := decide_eq_true hpe
      have d2 : decide ((p : Int) < (ys.length : Int)) = true := decide_eq_true (by omega)
      have d3 : decide (x ≤ y) = false := decide_eq_false hge
      clear hp hyb hlb hge hyy
      go_wp2
      go_region_law (first | (refine app_step (w0 := w) w.heap.size (by rfl) (.tmp 30) (.tmp 32) 24 3 rfl Tryd.underlying24 info3 v30 z1 [x] _ 1 1 rfl rfl ?aO ?aR ?aB ?aS ?aL ?_; (case aO => exact (by (with_reducible repeat (first | apply Kd.R_alloc | apply Kd.R_drewN | apply Kd.R_drew)); exact HV.out)); (case aR => first | (with_reducible exact lit_RR _ _ _) | (with_reducible exact RR_below (lit_RR _ _ _) HBV.out) | (with_reducible exact RR_below (RR_drew (lit_RR _ _ _)) HBV.out) | (with_reducible exact RR_drew (lit_RR _ _ _))); (case aB => exact (by repeat (first | (with_reducible first | exact HB.out | exact HBR.out | apply below_alloc | apply pw_below_drewN | apply below_drew1 | apply below_drew)))); (case aS => exact (below_size (by repeat (first | (with_reducible first | exact HB.out | exact HBR.out | apply below_alloc | apply pw_below_drewN | apply below_drew1 | apply below_drew))))); (case aL => have := HLT.out; omega); intro v33 w33 ho hb hg; have n0_ := Aside0.mk (Kd.R_grown (Kd.R_below HOB.out (by repeat (first | (with_reducible first | exact HB.out | exact HBR.out | apply below_alloc | apply pw_below_drewN | apply below_drew1 | apply below_drew)))) hg (fun k hk e => absurd (HVB.out k e.symm) (Nat.not_le_of_lt hk))); have n3_ := Aside0.mk (HCD.out w33 (Kd.R_reads' n0_.out).2.2); have n1_ := Aside0.mk hb; have n2_ := Aside0.mk ho; clear HB HBR HV HVB HBV ho hb hg; have HB := n1_; have HV33 := n2_; have HC36 := n3_; clear n0_ n1_ n2_ n3_) | (refine app_step (w0 := w) w.heap.size (by rfl) (.tmp 33) (.tmp 36) 24 3 rfl Tryd.underlying24 info3 v33 (z1 ++ [x]) z2 A4 z2.length (c3 - p) rfl rfl ?aO ?aR ?aB ?aS ?aL ?_; (case aO => exact HV33.out); (case aR => exact HC36.out); (case aB => exact HB.out); (case aS => exact below_size HB.out); (case aL => have := HLT.out; (try simp only [List.length_append, List.length_singleton]); omega); intro v37 w37 ho hb hg; have n1_ := Aside0.mk hb; have n2_ := Aside0.mk ho; clear HB HV33 HC36 ho hb hg; have HB := n1_; have HV37 := n2_; clear n1_ n2_) | (go_simp; go_at_call 54; (with_reducible refine (spec_l1Own.calls _ c3 z1 z1 _ ?side1 HS3.out HOWN.out).mono ?_); (case side1 => exact (Kd.C_below HCT.out (by repeat (first | (with_reducible first | exact HB.out | exact HBR.out | apply below_alloc | apply pw_below_drewN | apply below_drew1 | apply below_drew))))); rintro e w' ⟨v30, rfl, hs, hb⟩; have HVB : Aside0 (∀ k, v30.ownBlock = some k → wr.heap.size ≤ k) := ⟨fun k hk => Nat.le_trans (below_size (by repeat (first | (with_reducible first | exact HB.out | exact HBR.out | apply below_alloc | apply pw_below_drewN | apply below_drew1 | apply below_drew)))) (Kd.R_base hs k hk)⟩; have HV := Aside0.mk (Kd.R_lower hs (below_size (by repeat (first | (with_reducible first | exact HB.out | exact HBR.out | apply below_alloc | apply pw_below_drewN | apply below_drew1 | apply below_drew))))); have n1_ := Aside0.mk (below_step (w := w) (by repeat (first | (with_reducible first | exact HB.out | exact HBR.out | apply below_alloc | apply pw_below_drewN | apply below_drew1 | apply below_drew))) hb); have n2_ := Aside0.mk (below_step (w := wr) (by repeat (first | (with_reducible first | exact HB.out | exact HBR.out | apply below_alloc | apply pw_below_drewN | apply below_drew1 | apply below_drew))) hb); have HBV := Aside0.mk hb; clear HB HBR hs hb; have HB := n1_; have HBR := n2_; clear n1_ n2_))
      all_goals go_wp2
      all_goals go_roundg rest.length
      all_goals first
       | (case measure => have := HK.out; simp at this; omega)
       | skip
      all_goals
       refine ⟨done ++ [x], rest, insD x ys, ⟨by rw [HE.out]; simp⟩, by simp, ⟨by have := HY.out; simpa using this⟩, ⟨by rw [insD_length]; simp [HYL.out]⟩, ⟨rfl⟩, ⟨?_⟩, ⟨(by repeat (first | (with_reducible first | exact HB.out | apply below_alloc | apply pw_below_drewN | apply below_drew1)))⟩⟩
       rw [HI.out]
       exact (by (with_reducible repeat (first | apply Kd.R_alloc | apply Kd.R_drewN | apply Kd.R_drew)); exact HV37.out)
     ·
      have d1 : decide (p < ys.length) = false := decide_eq_false hpe
      have d2 : decide ((p : Int) < (ys.length : Int)) = false := decide_eq_false (by omega)
      clear hp hyb hlb hge hpe
      go_wp2
      go_region_law (first | (refine app_step (w0 := w) w.heap.size (by rfl) (.tmp 30) (.tmp 32) 24 3 rfl Tryd.underlying24 info3 v30 z1 [x] _ 1 1 rfl rfl ?aO ?aR ?aB ?aS ?aL ?_; (case aO => exact (by (with_reducible repeat (first | apply Kd.R_alloc | apply Kd.R_drewN | apply Kd.R_drew)); exact HV.out)); (case aR => first | (with_reducible exact lit_RR _ _ _) | (with_reducible exact RR_below (lit_RR _ _ _) HBV.out) | (with_reducible exact RR_below (RR_drew (lit_RR _ _ _)) HBV.out) | (with_reducible exact RR_drew (lit_RR _ _ _))); (case aB => exact (by repeat (first | (with_reducible first | exact HB.out | exact HBR.out | apply below_alloc | apply pw_below_drewN | apply below_drew1 | apply below_drew)))); (case aS => exact (below_size (by repeat (first | (with_reducible first | exact HB.out | exact HBR.out | apply below_alloc | apply pw_below_drewN | apply below_drew1 | apply below_drew))))); (case aL => have := HLT.out; omega); intro v33 w33 ho hb hg; have n0_ := Aside0.mk (Kd.R_grown (Kd.R_below HOB.out (by repeat (first | (with_reducible first | exact HB.out | exact HBR.out | apply below_alloc | apply pw_below_drewN | apply below_drew1 | apply below_drew)))) hg (fun k hk e => absurd (HVB.out k e.symm) (Nat.not_le_of_lt hk))); have n3_ := Aside0.mk (HCD.out w33 (Kd.R_reads' n0_.out).2.2); have n1_ := Aside0.mk hb; have n2_ := Aside0.mk ho; clear HB HBR HV HVB HBV ho hb hg; have HB := n1_; have HV33 := n2_; have HC36 := n3_; clear n0_ n1_ n2_ n3_) | (refine app_step (w0 := w) w.heap.size (by rfl) (.tmp 33) (.tmp 36) 24 3 rfl Tryd.underlying24 info3 v33 (z1 ++ [x]) z2 A4 z2.length (c3 - p) rfl rfl ?aO ?aR ?aB ?aS ?aL ?_; (case aO => exact HV33.out); (case aR => exact HC36.out); (case aB => exact HB.out); (case aS => exact below_size HB.out); (case aL => have := HLT.out; (try simp only [List.length_append, List.length_singleton]); omega); intro v37 w37 ho hb hg; have n1_ := Aside0.mk hb; have n2_ := Aside0.mk ho; clear HB HV33 HC36 ho hb hg; have HB := n1_; have HV37 := n2_; clear n1_ n2_) | (go_simp; go_at_call 54; (with_reducible refine (spec_l1Own.calls _ c3 z1 z1 _ ?side1 HS3.out HOWN.out).mono ?_); (case side1 => exact (Kd.C_below HCT.out (by repeat (first | (with_reducible first | exact HB.out | exact HBR.out | apply below_alloc | apply pw_below_drewN | apply below_drew1 | apply below_drew))))); rintro e w' ⟨v30, rfl, hs, hb⟩; have HVB : Aside0 (∀ k, v30.ownBlock = some k → wr.heap.size ≤ k) := ⟨fun k hk => Nat.le_trans (below_size (by repeat (first | (with_reducible first | exact HB.out | exact HBR.out | apply below_alloc | apply pw_below_drewN | apply below_drew1 | apply below_drew)))) (Kd.R_base hs k hk)⟩; have HV := Aside0.mk (Kd.R_lower hs (below_size (by repeat (first | (with_reducible first | exact HB.out | exact HBR.out | apply below_alloc | apply pw_below_drewN | apply below_drew1 | apply below_drew))))); have n1_ := Aside0.mk (below_step (w := w) (by repeat (first | (with_reducible first | exact HB.out | exact HBR.out | apply below_alloc | apply pw_below_drewN | apply below_drew1 | apply below_drew))) hb); have n2_ := Aside0.mk (below_step (w := wr) (by repeat (first | (with_reducible first | exact HB.out | exact HBR.out | apply below_alloc | apply pw_below_drewN | apply below_drew1 | apply below_drew))) hb); have HBV := Aside0.mk hb; clear HB HBR hs hb; have HB := n1_; have HBR := n2_; clear n1_ n2_))
      all_goals go_wp2
      all_goals go_roundg rest.length
      all_goals first
       | (case measure => have := HK.out; simp at this; omega)
       | skip
      all_goals
       refine ⟨done ++ [x], rest, insD x ys, ⟨by rw [HE.out]; simp⟩, by simp, ⟨by have := HY.out; simpa using this⟩, ⟨by rw [insD_length]; simp [HYL.out]⟩, ⟨rfl⟩, ⟨?_⟩, ⟨(by repeat (first | (with_reducible first | exact HB.out | apply below_alloc | apply pw_below_drewN | apply below_drew1)))⟩⟩
       rw [HI.out]
       exact (by (with_reducible repeat (first | apply Kd.R_alloc | apply Kd.R_drewN | apply Kd.R_drew)); exact HV37.out)
theorem spec_liRank.calls (A0 : Option Addr) (c0 : Nat) (l0 : List Int) (r : List Int) (w : World) (hr0 : Kd.C (Kd.int .i64) w A0 l0.length l0) (hc0 : l0.length ≤ c0) (h : spec_liRank.f l0 = some r) :
  Calls Tryd.prog 76 #[.slice A0 l0.length c0] w fun e w' => ∃ v0_ : Value, e = .returned (v0_) ∧ Kd.R (Kd.int .i64) 3 w' w.heap.size (fun _ => True) v0_ r ∧ Below w.heap.size w w' := by
 unfold spec_liRank.f at h
 split at h
 case isFalse => cases h
 rename_i hb
 obtain rfl := Option.some.inj h
 exact liRank_c A0 c0 l0 w hr0 hc0 hb
end Go.Proofs.YtcheoendfcgjgaaDoor.P
namespace Go.Proofs.YtcheoendfcgjgaaDoor.P
open Go.RowKit Go.Proofs.YtcheoendfcgjgaaDoorW.PrintWords Go.Proofs.YtcheoendfcgjgaaDoorW.PrintLast Go.Proofs.YtcheoendfcgjgaaDoorW.PrintMore
attribute [local go_sem] max2_int min2_int max_two min_two max_three min_three max_four min_four
mutual
def spec_deRefuses.l0 : Nat → List Int → Int → Option (Int)
 | 0, _, _ => none
 | k + 1, x3, x4 => if x4 ≤ (x3.length : Int) then (if 0 ≤ x4 then ((some (x3.drop (x4 : Int).toNat : List Int)).bind fun y541 => (spec_deRefuses.l1 k x3 x4 (wrap64 (x4 * (wrap64 (x4 - 1)))) y541 (y541.length : Int) 0)) else (none)) else (some 0)
def spec_deRefuses.l1 : Nat → List Int → Int → Int → List Int → Int → Int → Option (Int)
 | 0, _, _, _, _, _, _ => none
 | k + 1, x3, x4, x5, x22, x23, x24 => if x24 < x23 then (if 0 ≤ x24 then (if x24 < (x22.length : Int) then ((spec_l1Least.f x4 (rd x22 x24)).bind fun t546 => (spec_deRefuses.l1 k x3 x4 (wrap64 (x5 + t546)) x22 x23 (wrap64 (x24 + 1)))) else (none)) else (none)) else (if 0 ≤ x4 then (if x4 ≤ (x3.length : Int) then ((spec_liSum.f k (x3.take (x4 : Int).toNat)).bind fun t551 => (if t551 > x5 then (some x4) else (spec_deRefuses.l0 k x3 (wrap64 (x4 + 1))))) else (none)) else (none))
end
def spec_deRefuses.f (k : Nat) (l0 : List Int) : Option (Int) := (spec_liRank.f l0).bind fun t538 => (spec_deRefuses.l0 k t538 1)
theorem spec_deRefuses.mono_l : ∀ k, (∀ y0 y1, LeO (spec_deRefuses.l0 k y0 y1) (spec_deRefuses.l0 (k + 1) y0 y1)) ∧ (∀ y0 y1 y2 y3 y4 y5, LeO (spec_deRefuses.l1 k y0 y1 y2 y3 y4 y5) (spec_deRefuses.l1 (k + 1) y0 y1 y2 y3 y4 y5))
 | 0 => ⟨fun _ _ r h => by simp [spec_deRefuses.l0] at h, fun _ _ _ _ _ _ r h => by simp [spec_deRefuses.l1] at h⟩
 | k + 1 => by
  obtain ⟨ih0, ih1⟩ := spec_deRefuses.mono_l k
  refine ⟨?_, ?_⟩
  ·
   intro y0 y1
   unfold spec_deRefuses.l0
   repeat' first
   | (with_reducible exact ih1 _ _ _ _ _ _)
   | (with_reducible exact LeO.refl _)
   | (with_reducible refine LeO.ite ?_ ?_)
   | (with_reducible refine LeO.bind ?_ (fun _ => ?_))
  ·
   intro y0 y1 y2 y3 y4 y5
   unfold spec_deRefuses.l1
   repeat' first
   | (with_reducible exact ih0 _ _)
   | (with_reducible exact ih1 _ _ _ _ _ _)
   | (with_reducible exact spec_liSum.mono _ _)
   | (with_reducible exact LeO.refl _)
   | (with_reducible refine LeO.ite ?_ ?_)
   | (with_reducible refine LeO.bind ?_ (fun _ => ?_))
theorem spec_deRefuses.mono : ∀ a0 k, LeO (spec_deRefuses.f k a0) (spec_deRefuses.f (k + 1) a0) := by
 intro a0 k
 obtain ⟨ih0, ih1⟩ := spec_deRefuses.mono_l k
 unfold spec_deRefuses.f
 repeat' first
   | (with_reducible exact ih0 _ _)
   | (with_reducible exact LeO.refl _)
   | (with_reducible refine LeO.bind ?_ (fun _ => ?_))
set_option maxHeartbeats 8000000 in
set_option maxRecDepth 100000 in
theorem spec_deRefuses.calls (k : Nat) (A0 : Option Addr) (c0 : Nat) (l0 : List Int) (r : Int) (w : World) (hr0 : Kd.C (Kd.int .i64) w A0 l0.length l0) (hc0 : l0.length ≤ c0) (h : spec_deRefuses.f k l0 = some r) :
  Calls Tryd.prog 58 #[.slice A0 l0.length c0] w fun e w' => e = .returned (.int .i64 r) ∧ Below w.heap.size w w' := by
 have HR0 := Aside0.mk hr0
 have HC0 := Aside0.mk hc0
 clear hr0 hc0
 have HB := Aside0.mk (Below.refl w.heap.size w)
 have H : ((spec_liRank.f l0).bind fun t538 => (spec_deRefuses.l0 k t538 1)) = some r := h
 clear h
 replace H := Option.bind_eq_some_iff.mp H
 obtain ⟨t538, A20, H⟩ := H
 replace H : (spec_deRefuses.l0 k t538 1) = some r := H
 have A2 := Aside0.mk A20
 clear A20
 have H' := Aside0.mk H
 clear H
 go_enter Tryd.func58, Tryd.ntmps58
 go_wp2_with (((with_reducible refine gate_callee (f := 76) rfl ?_); refine goesL_ (some 9) rfl rfl Tryd.func76 (by kernel_rfl) rfl #[.slice A0 l0.length c0] rfl (by (try simp only [List.map_toArray, List.map_cons, List.map_nil]); first | done | rfl | (simp only [List.length_drop, List.length_take]; rfl)) ?_; (with_reducible refine (spec_liRank.calls _ _ l0 t538 _ ?side1 ?side2 A2.out).mono ?_); (case side1 => repeat (exact HR0.out)); (case side2 => exact HC0.out); rintro e w3 ⟨v539, rfl, ho0, hb⟩; refine ⟨_, rfl, ?_⟩; have n0_ := Aside0.mk (Kd.R_lower ho0 (below_size (by repeat ((with_reducible exact HB.out))))); have n1_ := Aside0.mk (below_step (by repeat ((with_reducible exact HB.out))) hb); clear HB; have HO540 := n0_; have HB := n1_; clear n0_ n1_; (try clear hb); (try clear hb2); (try clear hk); (try clear hi); (try clear ho0)))
 go_loopg [4] k (fun kq v4 w' => ∃ (x4_1 : Int), v4 = .int .i64 x4_1 ∧ Aside0 (spec_deRefuses.l0 kq t538 x4_1 = some r) ∧ Aside0 (kq ≤ k) ∧ Aside0 (Kd.R (Kd.int .i64) 3 w' w.heap.size (fun _ => True) v539 t538) ∧ Aside0 (Below w.heap.size w w'))
 case atStart => exact ⟨(1), (by first | rfl | (simp; done) | (simp [*]; done)), H', ⟨Nat.le_refl _⟩, ⟨by (with_reducible repeat (fail)); exact HO540.out⟩, ⟨by repeat ((with_reducible exact HB.out))⟩⟩
 case round =>
  clear H'
  obtain ⟨x4_1, rfl, HA, HK1, HO_3, HB⟩ := hrel
  cases gk with
  | zero => exact absurd HA.out (by simp [spec_deRefuses.l0])
  | succ k1 =>
   have H := HA.out
   clear HA
   simp only [spec_deRefuses.l0] at H
   by_cases c4 : x4_1 ≤ (t538.length : Int)
   ·
    rw [if_pos c4] at H
    have c4b0 : decide (x4_1 ≤ (t538.length : Int)) = true := decide_eq_true c4
    clear c4
    by_cases c5 : 0 ≤ x4_1
    ·
     rw [if_pos c5] at H
     have c5b0 := eq_true c5
     have c5b1 : decide (0 ≤ x4_1) = true := decide_eq_true c5
     clear c5
     have c6b0 := eq_true (of_decide_eq_true (by first | (with_reducible assumption) | assumption) : x4_1 ≤ (t538.length : Int))
     obtain ⟨y541, hy541⟩ : ∃ y_ : List Int, y_ = (t538.drop (x4_1 : Int).toNat) := ⟨_, rfl⟩
     replace H : (spec_deRefuses.l1 k1 t538 x4_1 (wrap64 (x4_1 * (wrap64 (x4_1 - 1)))) y541 (y541.length : Int) 0) = some r := by first | (rw [hy541]; with_reducible exact H) | (have H2_ := (Option.bind_some _ _).symm.trans H; rw [hy541]; with_reducible exact H2_) | (have H2_ := (Option.bind_some _ _).symm.trans H; with_reducible exact H2_) | with_reducible exact H | (rw [hy541]; exact H) | exact H
     have Ny541 := Aside0.mk hy541
     clear hy541
     have H' := Aside0.mk H
     clear H
     obtain ⟨Ao7, co7, eo7⟩ := Kd.R_slice HO_3.out
     subst eo7
     have q8 : (x4_1 : Int) ≤ ((t538.length : Int) : Int) := of_decide_eq_true (by first | (with_reducible assumption) | assumption)
     obtain ⟨i08, hi08, _, hsz8, _⟩ := info_parts info3
     have hroom8 : t538.length ≤ co7 := (Kd.R_reads' HO_3.out).2.1
     have hC8 : Kd.C (Kd.int .i64) _ Ao7 t538.length t538 := (Kd.R_reads' HO_3.out).2.2
     have q08 : (0 : Int) ≤ (x4_1 : Int) := of_decide_eq_true (by first | (with_reducible assumption) | assumption)
     have hcut8 := cut_from (P := Tryd.prog) 24 3 .i64 Tryd.underlying24 hi08 1 hsz8 Ao7 t538.length co7 x4_1 q08 q8
     have hr8 := Kd.C_drop (m := (x4_1 : Int).toNat) (c := co7) hC8 (by omega) hroom8
     obtain ⟨A8, hA8⟩ : ∃ A1, A1 = (if co7 = (x4_1 : Int).toNat then Ao7 else (Ao7 : Option Addr).map (·.add ((x4_1 : Int).toNat * 1))) := ⟨_, rfl⟩
     obtain ⟨c8, hc8⟩ : ∃ c1, c1 = co7 - (x4_1 : Int).toNat := ⟨_, rfl⟩
     have hy8 : y541.length = t538.length - (x4_1 : Int).toNat := (by rw [Ny541.out, List.length_drop] <;> omega)
     rw [show (t538).drop (x4_1 : Int).toNat = y541 from Ny541.out.symm] at hr8
     replace hr8 : Kd.C (Kd.int .i64) _ A8 y541.length y541 := (by rw [hA8]; exact hr8)
     rw [← hy8, ← hA8, ← hc8] at hcut8
     have HR544 := Aside0.mk hr8
     have HC544 := Aside0.mk (show y541.length ≤ c8 from by rw [hy8, hc8]; exact Nat.sub_le_sub_right hroom8 _)
     clear hr8 hC8 hroom8 hi08 hsz8 hc8
     have KY8 := Aside0.mk hy8
     have KA8 := Aside0.mk hA8
     clear hy8 hA8
     have KL8 := Aside0.mk (show (x4_1 : Int).toNat ≤ t538.length from by omega)
     replace q8 := eq_true q8
     go_wp2
     go_loopg [5, 24] k1 (fun kq v5 v24 w' => ∃ (x5_2 : Int) (x24_2 : Int), v5 = .int .i64 x5_2 ∧ v24 = .int .i64 x24_2 ∧ Aside0 (spec_deRefuses.l1 kq t538 x4_1 x5_2 y541 (y541.length : Int) x24_2 = some r) ∧ Aside0 (kq ≤ k1) ∧ Aside0 (Kd.R (Kd.int .i64) 3 w' w.heap.size (fun _ => True) (.slice Ao7 t538.length co7) t538) ∧ Aside0 (Kd.C (Kd.int .i64) w' A8 y541.length y541) ∧ Aside0 (Below w.heap.size w w'))
     case atStart => exact ⟨(wrap64 (x4_1 * (wrap64 (x4_1 - 1)))), (0), (by first | rfl | (simp; done) | (simp [*]; done)), (by first | rfl | (simp; done) | (simp [*]; done)), H', ⟨Nat.le_refl _⟩, ⟨by (with_reducible repeat (fail)); exact HO_3.out⟩, ⟨by repeat ((with_reducible exact HR544.out))⟩, ⟨by repeat ((with_reducible exact HB.out))⟩⟩
     case round =>
      clear H'
      clear c4b0
      clear c5b0
      clear c5b1
      clear c6b0
      clear q8
      clear q08
      obtain ⟨x5_2, x24_2, rfl, rfl, HA, HK2, HO_3, HR544, HB⟩ := hrel
      cases gk with
      | zero => exact absurd HA.out (by simp [spec_deRefuses.l1])
      | succ k2 =>
       have H := HA.out
       clear HA
       simp only [spec_deRefuses.l1] at H
       by_cases c9 : x24_2 < (y541.length : Int)
       ·
        rw [if_pos c9] at H
        have c9b0 : decide (x24_2 < (y541.length : Int)) = true := decide_eq_true c9
        clear c9
        by_cases c10 : 0 ≤ x24_2
        ·
         rw [if_pos c10] at H
         have c10b0 : decide (0 ≤ x24_2) = true := decide_eq_true c10
         clear c10
         by_cases c11 : x24_2 < (y541.length : Int)
         ·
          rw [if_pos c11] at H
          have c11b0 : decide (x24_2 < (y541.length : Int)) = true := decide_eq_true c11
          clear c11
          replace H := Option.bind_eq_some_iff.mp H
          obtain ⟨t546, A120, H⟩ := H
          replace H : (spec_deRefuses.l1 k2 t538 x4_1 (wrap64 (x5_2 + t546)) y541 (y541.length : Int) (wrap64 (x24_2 + 1))) = some r := H
          have A12 := Aside0.mk A120
          clear A120
          have H' := Aside0.mk H
          clear H
          have p545 : 0 ≤ (x24_2 : Int) := of_decide_eq_true (by first | (with_reducible assumption) | assumption)
          have q545 : x24_2 < (y541.length : Int) := of_decide_eq_true (by first | (with_reducible assumption) | assumption)
          obtain ⟨ad545, e545, hx545_0⟩ := Kd.at_int HR544.out x24_2 p545 q545
          cases e545
          (try replace hx545_0 := (HB.out.cell (World.block_lt_of_cell? w _ hx545_0)).trans hx545_0)
          replace p545 := eq_true p545
          replace q545 := eq_true q545
          go_wp2_with (((with_reducible refine gate_callee (f := 77) rfl ?_); refine goesL_ (some 31) rfl rfl Tryd.func77 (by kernel_rfl) rfl #[.int .i64 x4_1, .int .i64 (rd y541 x24_2)] rfl (by (try simp only [List.map_toArray, List.map_cons, List.map_nil]); first | done | rfl | (simp only [List.length_drop, List.length_take]; rfl)) ?_; (with_reducible refine (spec_l1Least.calls x4_1 (rd y541 x24_2) t546 _ A12.out).mono ?_); rintro e w' ⟨rfl, ⟨nd, rfl⟩⟩; refine ⟨_, rfl, ?_⟩))
          go_roundg k2
          case measure => have := HK1.out; have := HK2.out; omega
          case rel => exact ⟨(wrap64 (x5_2 + t546)), (wrap64 (x24_2 + 1)), (by first | rfl | (simp; done) | (simp [*]; done)), (by first | rfl | (simp; done) | (simp [*]; done)), H', ⟨by have := HK1.out; have := HK2.out; omega⟩, ⟨by (with_reducible repeat (apply Kd.R_drewN)); exact HO_3.out⟩, ⟨by repeat (first | (with_reducible exact HR544.out) | (with_reducible refine Kd.C_drewN ?_ _))⟩, ⟨by repeat ((with_reducible first | exact HB.out | apply pw_below_drewN))⟩⟩
         ·
          rw [if_neg c11] at H
          exact absurd H (by simp)
        ·
         rw [if_neg c10] at H
         exact absurd H (by simp)
       ·
        rw [if_neg c9] at H
        have c9b0 : decide (x24_2 < (y541.length : Int)) = false := decide_eq_false c9
        clear c9
        by_cases c13 : 0 ≤ x4_1
        ·
         rw [if_pos c13] at H
         have c13b0 := eq_true c13
         have c13b1 : decide (0 ≤ x4_1) = true := decide_eq_true c13
         clear c13
         by_cases c14 : x4_1 ≤ (t538.length : Int)
         ·
          rw [if_pos c14] at H
          have c14b0 := eq_true c14
          have c14b1 : decide (x4_1 ≤ (t538.length : Int)) = true := decide_eq_true c14
          clear c14
          obtain ⟨y547, hy547⟩ : ∃ y_ : List Int, y_ = (t538.take (x4_1 : Int).toNat) := ⟨_, rfl⟩
          replace H : ((spec_liSum.f k2 y547).bind fun t551 => (if t551 > x5_2 then (some x4_1) else (spec_deRefuses.l0 k2 t538 (wrap64 (x4_1 + 1))))) = some r := by first | (rw [hy547]; with_reducible exact H) | (have H2_ := (Option.bind_some _ _).symm.trans H; rw [hy547]; with_reducible exact H2_) | (have H2_ := (Option.bind_some _ _).symm.trans H; with_reducible exact H2_) | with_reducible exact H | (rw [hy547]; exact H) | exact H
          have Ny547 := Aside0.mk hy547
          clear hy547
          replace H := Option.bind_eq_some_iff.mp H
          obtain ⟨t551, A150, H⟩ := H
          replace H : (if t551 > x5_2 then (some x4_1) else (spec_deRefuses.l0 k2 t538 (wrap64 (x4_1 + 1)))) = some r := H
          have A15 := Aside0.mk A150
          clear A150
          by_cases c16 : t551 > x5_2
          ·
           rw [if_pos c16] at H
           have c16b0 : decide (x5_2 < t551) = true := decide_eq_true c16
           clear c16
           obtain rfl := Option.some.inj H
           have q17 : (x4_1 : Int) ≤ ((t538.length : Int) : Int) := of_decide_eq_true (by first | (with_reducible assumption) | assumption)
           obtain ⟨i017, hi017, _, hsz17, _⟩ := info_parts info3
           have hroom17 : t538.length ≤ co7 := (Kd.R_reads' HO_3.out).2.1
           have hC17 : Kd.C (Kd.int .i64) _ Ao7 t538.length t538 := (Kd.R_reads' HO_3.out).2.2
           have hcut17 := cut_to (P := Tryd.prog) 24 3 .i64 Tryd.underlying24 hi017 Ao7 t538.length co7 x4_1 (of_decide_eq_true (by first | (with_reducible assumption) | assumption)) q17 hroom17
           have hr17 := Kd.C_take (m := (x4_1 : Int).toNat) hC17 (by omega)
           have hy17 : y547.length = (x4_1 : Int).toNat := (by rw [Ny547.out, List.length_take]; omega)
           rw [← Ny547.out] at hr17
           rw [← hy17] at hcut17
           have HR550 := Aside0.mk hr17
           have HC550 := Aside0.mk (show y547.length ≤ co7 from by omega)
           clear hr17 hC17 hroom17 hi017 hsz17
           have KY17 := Aside0.mk hy17
           clear hy17
           have KL17 := Aside0.mk (show (x4_1 : Int).toNat ≤ t538.length from by omega)
           replace q17 := eq_true q17
           go_wp2_with (((with_reducible refine gate_callee (f := 75) rfl ?_); refine goesL_ (some 37) rfl rfl Tryd.func75 (by kernel_rfl) rfl #[.slice Ao7 y547.length co7] rfl (by (try simp only [List.map_toArray, List.map_cons, List.map_nil]); first | done | rfl | (simp only [List.length_drop, List.length_take]; rfl)) ?_; (with_reducible refine (spec_liSum.calls k2 _ _ y547 t551 _ ?side1 ?side2 A15.out).mono ?_); (case side1 => repeat (exact (by repeat ((with_reducible exact HR550.out))))); (case side2 => exact HC550.out); rintro e w' ⟨rfl, ⟨nd, rfl⟩⟩; refine ⟨_, rfl, ?_⟩))
           go_ret
           exact ⟨by first | rfl | (simp [errW_none, errW_some] <;> rfl) | (simp [*, errW_none, errW_some] <;> rfl), by repeat ((with_reducible first | exact HB.out | apply pw_below_drewN))⟩
          ·
           rw [if_neg c16] at H
           have c16b0 : decide (x5_2 < t551) = false := decide_eq_false c16
           clear c16
           have H' := Aside0.mk H
           clear H
           have q18 : (x4_1 : Int) ≤ ((t538.length : Int) : Int) := of_decide_eq_true (by first | (with_reducible assumption) | assumption)
           obtain ⟨i018, hi018, _, hsz18, _⟩ := info_parts info3
           have hroom18 : t538.length ≤ co7 := (Kd.R_reads' HO_3.out).2.1
           have hC18 : Kd.C (Kd.int .i64) _ Ao7 t538.length t538 := (Kd.R_reads' HO_3.out).2.2
           have hcut18 := cut_to (P := Tryd.prog) 24 3 .i64 Tryd.underlying24 hi018 Ao7 t538.length co7 x4_1 (of_decide_eq_true (by first | (with_reducible assumption) | assumption)) q18 hroom18
           have hr18 := Kd.C_take (m := (x4_1 : Int).toNat) hC18 (by omega)
           have hy18 : y547.length = (x4_1 : Int).toNat := (by rw [Ny547.out, List.length_take]; omega)
           rw [← Ny547.out] at hr18
           rw [← hy18] at hcut18
           have HR550 := Aside0.mk hr18
           have HC550 := Aside0.mk (show y547.length ≤ co7 from by omega)
           clear hr18 hC18 hroom18 hi018 hsz18
           have KY18 := Aside0.mk hy18
           clear hy18
           have KL18 := Aside0.mk (show (x4_1 : Int).toNat ≤ t538.length from by omega)
           replace q18 := eq_true q18
           go_wp2_with (((with_reducible refine gate_callee (f := 75) rfl ?_); refine goesL_ (some 37) rfl rfl Tryd.func75 (by kernel_rfl) rfl #[.slice Ao7 y547.length co7] rfl (by (try simp only [List.map_toArray, List.map_cons, List.map_nil]); first | done | rfl | (simp only [List.length_drop, List.length_take]; rfl)) ?_; (with_reducible refine (spec_liSum.calls k2 _ _ y547 t551 _ ?side1 ?side2 A15.out).mono ?_); (case side1 => repeat (exact (by repeat ((with_reducible exact HR550.out))))); (case side2 => exact HC550.out); rintro e w' ⟨rfl, ⟨nd, rfl⟩⟩; refine ⟨_, rfl, ?_⟩))
           go_roundg k2
           case measure => have := HK1.out; have := HK2.out; omega
           case rel => exact ⟨(wrap64 (x4_1 + 1)), (by first | rfl | (simp; done) | (simp [*]; done)), H', ⟨by have := HK1.out; have := HK2.out; omega⟩, ⟨by (with_reducible repeat (apply Kd.R_drewN)); exact HO_3.out⟩, ⟨by repeat ((with_reducible first | exact HB.out | apply pw_below_drewN))⟩⟩
         ·
          rw [if_neg c14] at H
          exact absurd H (by simp)
        ·
         rw [if_neg c13] at H
         exact absurd H (by simp)
    ·
     rw [if_neg c5] at H
     exact absurd H (by simp)
   ·
    rw [if_neg c4] at H
    have c4b0 : decide (x4_1 ≤ (t538.length : Int)) = false := decide_eq_false c4
    clear c4
    obtain rfl := Option.some.inj H
    obtain ⟨Ao19, co19, eo19⟩ := Kd.R_slice HO_3.out
    subst eo19
    go_wp2
    go_ret
    exact ⟨by first | rfl | (simp [errW_none, errW_some] <;> rfl) | (simp [*, errW_none, errW_some] <;> rfl), by repeat ((with_reducible exact HB.out))⟩
end Go.Proofs.YtcheoendfcgjgaaDoor.P
