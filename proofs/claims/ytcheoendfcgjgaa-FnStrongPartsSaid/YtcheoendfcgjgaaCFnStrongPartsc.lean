/- Parts: contracts and plain lemmas for the law FnStrongParts, part 3 of 8 (what the Go functions answer). -/
import Derived.Lib.SlicesCompact
import Derived.Shelf.SlGeneric
import Derived.Shelf.Slices.CompactI
import Derived.Ground.Names2Prog
import Derived.Test.YtcheoendfcgjgaaProg
import Derived.Sort.OwnSortedInts
import Derived.Shelf.SlSortCmp.Small
import Derived.Ground.SlsfProg
import Derived.Shelf.Small.Bits
import Derived.Ground.NamesProg
import Derived.WalkSpells
import Derived.Lib.BufferMore
import Derived.Test.YtcheoendfcgjgaaCFnStrongPartsa
import Derived.Test.YtcheoendfcgjgaaCFnStrongPartsb
set_option linter.unusedVariables false
set_option linter.unusedSimpArgs false
namespace Go.Proofs.Ytcheoendfcgjgaa.P
open Go.RowKit Go.Proofs.YtcheoendfcgjgaaW.PrintWords Go.Proofs.YtcheoendfcgjgaaW.PrintLast Go.Proofs.YtcheoendfcgjgaaW.PrintMore
attribute [local go_sem] max2_int min2_int max_two min_two max_three min_three max_four min_four
mutual
def spec_l1Cur_tournament.l0 : Nat → Int → Int → Int → List Int → Int → Int → Int → List Int → Option (Int × List Int × Int × Int)
 | 0, _, _, _, _, _, _, _, _ => none
 | k + 1, x5, x7, x8, x1000, x1001, x1002, x133000, x133001 => if x8 < x5 then (spec_l1Cur_tournament.l1 k x5 x7 x8 (wrap64 (x8 + 1)) x1000 x1001 x1002 x133000 x133001) else ((spec_l1Cur_pick.f x1000 x1001 x1002 24).bind fun bt146 => (if bt146.1 = 0 then ((spec_l1Cur_pick.f x1000 bt146.2.1 bt146.2.2 x5).bind fun bt149 => (if 0 ≤ x5 then ((spec_l1Cur_among.f x1000 bt149.2.1 bt149.2.2 (([(-1), 0, 1, 2, shl .i64 1 x5] : List Int))).bind fun bt155 => (if 0 ≤ bt149.1 then (if bt149.1 < (x133001.length : Int) then (some (x133000, (x133001.set (bt149.1 : Int).toNat bt155.1), bt155.2.1, bt155.2.2)) else (none)) else (none))) else (none))) else (if bt146.1 = 1 then ((spec_l1Cur_among.f x1000 bt146.2.1 bt146.2.2 (([0, (-1), wrap64 (x5 + 1), 9] : List Int))).bind fun bt162 => (some (bt162.1, x133001, bt162.2.1, bt162.2.2))) else (some (x133000, x133001, bt146.2.1, bt146.2.2)))))
def spec_l1Cur_tournament.l1 : Nat → Int → Int → Int → Int → List Int → Int → Int → Int → List Int → Option (Int × List Int × Int × Int)
 | 0, _, _, _, _, _, _, _, _, _ => none
 | k + 1, x5, x7, x8, x9, x1000, x1001, x1002, x133000, x133001 => if x9 < x5 then ((spec_l1Cur_one.f x1000 x1001 x1002 x7).bind fun bt139 => (if bt139.1 = true then (if 0 ≤ x9 then (if x9 < (x133001.length : Int) then (if 0 ≤ x8 then (spec_l1Cur_tournament.l1 k x5 x7 x8 (wrap64 (x9 + 1)) x1000 bt139.2.1 bt139.2.2 x133000 (x133001.set (x9 : Int).toNat (Go.bits .or .i64 (rd x133001 x9) (shl .i64 1 x8)))) else (none)) else (none)) else (none)) else (if 0 ≤ x8 then (if x8 < (x133001.length : Int) then (if 0 ≤ x9 then (spec_l1Cur_tournament.l1 k x5 x7 x8 (wrap64 (x9 + 1)) x1000 bt139.2.1 bt139.2.2 x133000 (x133001.set (x8 : Int).toNat (Go.bits .or .i64 (rd x133001 x8) (shl .i64 1 x9)))) else (none)) else (none)) else (none)))) else (spec_l1Cur_tournament.l0 k x5 x7 (wrap64 (x8 + 1)) x1000 x1001 x1002 x133000 x133001)
end
def spec_l1Cur_tournament.f (k : Nat) (s0_0 : List Int) (s0_1 : Int) (s0_2 : Int) (a1 : Int) : Option (Int × List Int × Int × Int) := (spec_l1Cur_pick.f s0_0 s0_1 s0_2 a1).bind fun bt126 => (if 0 ≤ (wrap64 (1 + bt126.1)) then (if (wrap64 (1 + bt126.1) : Int).toNat ≤ 35184372088832 then ((spec_l1Cur_among.f s0_0 bt126.2.1 bt126.2.2 (([2, 2, 4] : List Int))).bind fun bt136 => (spec_l1Cur_tournament.l0 k (wrap64 (1 + bt126.1)) bt136.1 0 s0_0 bt136.2.1 bt136.2.2 (wrap64 (1 + bt126.1)) (List.replicate (wrap64 (1 + bt126.1) : Int).toNat 0))) else (none)) else (none))
theorem spec_l1Cur_tournament.mono_l : ∀ k, (∀ y0 y1 y2 y3 y4 y5 y6 y7, LeO (spec_l1Cur_tournament.l0 k y0 y1 y2 y3 y4 y5 y6 y7) (spec_l1Cur_tournament.l0 (k + 1) y0 y1 y2 y3 y4 y5 y6 y7)) ∧ (∀ y0 y1 y2 y3 y4 y5 y6 y7 y8, LeO (spec_l1Cur_tournament.l1 k y0 y1 y2 y3 y4 y5 y6 y7 y8) (spec_l1Cur_tournament.l1 (k + 1) y0 y1 y2 y3 y4 y5 y6 y7 y8))
 | 0 => ⟨fun _ _ _ _ _ _ _ _ r h => by simp [spec_l1Cur_tournament.l0] at h, fun _ _ _ _ _ _ _ _ _ r h => by simp [spec_l1Cur_tournament.l1] at h⟩
 | k + 1 => by
  obtain ⟨ih0, ih1⟩ := spec_l1Cur_tournament.mono_l k
  refine ⟨?_, ?_⟩
  ·
   intro y0 y1 y2 y3 y4 y5 y6 y7
   unfold spec_l1Cur_tournament.l0
   repeat' first
   | (with_reducible exact ih0 _ _ _ _ _ _ _ _)
   | (with_reducible exact ih1 _ _ _ _ _ _ _ _ _)
   | (with_reducible exact LeO.refl _)
   | (with_reducible exact LeO.none _)
   | (with_reducible refine LeO.ite ?_ ?_)
   | (with_reducible refine LeO.bind ?_ (fun _ => ?_))
   | exact ih0 _ _ _ _ _ _ _ _
   | exact ih1 _ _ _ _ _ _ _ _ _
   | exact LeO.none _
   | refine LeO.ite ?_ ?_
   | refine LeO.bind ?_ (fun _ => ?_)
  ·
   intro y0 y1 y2 y3 y4 y5 y6 y7 y8
   unfold spec_l1Cur_tournament.l1
   repeat' first
   | (with_reducible exact ih0 _ _ _ _ _ _ _ _)
   | (with_reducible exact ih1 _ _ _ _ _ _ _ _ _)
   | (with_reducible exact LeO.refl _)
   | (with_reducible exact LeO.none _)
   | (with_reducible refine LeO.ite ?_ ?_)
   | (with_reducible refine LeO.bind ?_ (fun _ => ?_))
   | exact ih0 _ _ _ _ _ _ _ _
   | exact ih1 _ _ _ _ _ _ _ _ _
   | exact LeO.none _
   | refine LeO.ite ?_ ?_
   | refine LeO.bind ?_ (fun _ => ?_)
theorem spec_l1Cur_tournament.mono : ∀ a0 a1 a2 a3 k, LeO (spec_l1Cur_tournament.f k a0 a1 a2 a3) (spec_l1Cur_tournament.f (k + 1) a0 a1 a2 a3) := by
 intro a0 a1 a2 a3 k
 obtain ⟨ih0, ih1⟩ := spec_l1Cur_tournament.mono_l k
 unfold spec_l1Cur_tournament.f
 repeat' first
   | (with_reducible exact ih0 _ _ _ _ _ _ _ _)
   | (with_reducible exact ih1 _ _ _ _ _ _ _ _ _)
   | (with_reducible exact LeO.refl _)
   | (with_reducible exact LeO.none _)
   | (with_reducible refine LeO.ite ?_ ?_)
   | (with_reducible refine LeO.bind ?_ (fun _ => ?_))
   | exact ih0 _ _ _ _ _ _ _ _
   | exact ih1 _ _ _ _ _ _ _ _ _
   | exact LeO.none _
   | refine LeO.ite ?_ ?_
   | refine LeO.bind ?_ (fun _ => ?_)
def spec_l1Cur_tournament.T11 : Bool × List (List Nat × List Nat) := (true, [([], []), ([0], [0]), ([], []), ([1, 2], [1, 2]), ([3], [3]), ([], []), ([5], [5]), ([4, 6], [4, 6]), ([1, 2, 0, 1, 2, 3, 4, 5, 6, 7], [1, 2]), ([8, 7, 0, 1, 2, 3, 4, 5, 6, 7], [7, 8])])
def spec_l1Cur_tournament.B11 : List Nat := [0, 1, 0, 7, 15, 0, 32, 127, 255, 511]
theorem spec_l1Cur_tournament.tab11 : rtab .any (opsOf Try.f69 11) = spec_l1Cur_tournament.T11 := by kernel_rfl
theorem spec_l1Cur_tournament.bits11 : waitsOk spec_l1Cur_tournament.T11.2 spec_l1Cur_tournament.B11 = true := by kernel_rfl
def spec_l1Cur_tournament.T12 : Bool × List (List Nat × List Nat) := (true, [([], []), ([0], [0]), ([], []), ([1, 2], [1, 2]), ([3], [3]), ([], []), ([5], [5]), ([4, 6], [4, 6]), ([1, 2, 0, 1, 2, 3, 4, 5, 6, 7], [1, 2]), ([8, 7, 0, 1, 2, 3, 4, 5, 6, 7], [7, 8])])
def spec_l1Cur_tournament.B12 : List Nat := [0, 1, 0, 7, 15, 0, 32, 127, 255, 511]
theorem spec_l1Cur_tournament.tab12 : rtab .any (opsOf Try.f69 12) = spec_l1Cur_tournament.T12 := by kernel_rfl
theorem spec_l1Cur_tournament.bits12 : waitsOk spec_l1Cur_tournament.T12.2 spec_l1Cur_tournament.B12 = true := by kernel_rfl
def spec_l1Cur_tournament.T15 : Bool × List (List Nat × List Nat) := (true, [([], []), ([0], [0]), ([], []), ([], []), ([2, 3], [2, 3]), ([], []), ([], []), ([6], [6]), ([7], [7]), ([5, 8, 4], [5, 8]), ([1, 4, 0, 1, 2, 3, 4, 5, 6, 7, 8, 9], [1, 4]), ([10, 9, 9, 0, 1, 2, 3, 4, 5, 6, 7, 8, 9], [9, 10])])
def spec_l1Cur_tournament.B15 : List Nat := [0, 1, 0, 0, 12, 0, 0, 64, 192, 508, 1023, 2047]
theorem spec_l1Cur_tournament.tab15 : rtab .any (opsOf Try.f69 15) = spec_l1Cur_tournament.T15 := by kernel_rfl
theorem spec_l1Cur_tournament.bits15 : waitsOk spec_l1Cur_tournament.T15.2 spec_l1Cur_tournament.B15 = true := by kernel_rfl
set_option maxHeartbeats 8000000 in
set_option maxRecDepth 100000 in
theorem spec_l1Cur_tournament.calls (k : Nat) (g : Nat) (s0_0 : List Int) (s0_1 : Int) (s0_2 : Int) (a1 : Int) (r1 : Int) (r2 : List Int) (r3 : Int) (r4 : Int) (w0 w : World) (hI : IsS67 w0 w g s0_0 s0_1 s0_2) (hB : Below w0.heap.size w0 w) (h : spec_l1Cur_tournament.f k s0_0 s0_1 s0_2 a1 = some (r1, r2, r3, r4)) :
  Calls Try.prog 69 #[.pointer (some ⟨g, 0, none⟩), .int .i64 a1] w fun e w' => ∃ v1_ : Value, e = .returned (.agg #[.int .i64 r1, v1_]) ∧ Kd.R (Kd.int .i64) 3 w' w.heap.size (fun _ => True) v1_ r2 ∧ IsS67 w0 w' g s0_0 r3 r4 ∧ Below w0.heap.size w0 w' ∧ KeepBut w w' g none := by
 have hu27 := Try.underlying27
 have HI0 := Am hI
 have HK := Am (KeepBut.refl w g none)
 have HL := Am hB.size
 clear hI
 have HW0 := Am hB.size
 have HB := Am hB
 clear hB
 have H : ((spec_l1Cur_pick.f s0_0 s0_1 s0_2 a1).bind fun bt126 => (if 0 ≤ (wrap64 (1 + bt126.1)) then (if (wrap64 (1 + bt126.1) : Int).toNat ≤ 35184372088832 then ((spec_l1Cur_among.f s0_0 bt126.2.1 bt126.2.2 (([2, 2, 4] : List Int))).bind fun bt136 => (spec_l1Cur_tournament.l0 k (wrap64 (1 + bt126.1)) bt136.1 0 s0_0 bt136.2.1 bt136.2.2 (wrap64 (1 + bt126.1)) (List.replicate (wrap64 (1 + bt126.1) : Int).toNat 0))) else (none)) else (none))) = some (r1, r2, r3, r4) := h
 clear h
 replace H := Option.bind_eq_some_iff.mp H
 obtain ⟨⟨t126, t127, t128⟩, A30, H⟩ := H
 replace H : (if 0 ≤ (wrap64 (1 + t126)) then (if (wrap64 (1 + t126) : Int).toNat ≤ 35184372088832 then ((spec_l1Cur_among.f s0_0 t127 t128 (([2, 2, 4] : List Int))).bind fun bt136 => (spec_l1Cur_tournament.l0 k (wrap64 (1 + t126)) bt136.1 0 s0_0 bt136.2.1 bt136.2.2 (wrap64 (1 + t126)) (List.replicate (wrap64 (1 + t126) : Int).toNat 0))) else (none)) else (none)) = some (r1, r2, r3, r4) := H
 have A3 := Am A30
 clear A30
 obtain ⟨ji4, hji4⟩ : ∃ j_ : Int, (wrap64 (1 + t126)) = j_ := ⟨_, rfl⟩
 replace H : (if 0 ≤ (ji4) then (if (ji4 : Int).toNat ≤ 35184372088832 then ((spec_l1Cur_among.f s0_0 t127 t128 (([2, 2, 4] : List Int))).bind fun bt136 => (spec_l1Cur_tournament.l0 k ji4 bt136.1 0 s0_0 bt136.2.1 bt136.2.2 ji4 (List.replicate (ji4 : Int).toNat 0))) else (none)) else (none)) = some (r1, r2, r3, r4) := by first | (rw [hji4] at H; exact H) | (simp only [hji4] at H ⊢; exact H)
 (try rw [hji4] at A3)
 have hji4w : (IntKind.i64.wrap (1 + t126)) = ji4 := (i64_w _).trans hji4
 by_cases c5 : 0 ≤ (ji4)
 ·
  rw [if_pos c5] at H
  have c5b0 := eq_true c5
  have c5b1 : decide (0 ≤ (ji4)) = true := De c5
  clear c5
  by_cases c6 : (ji4 : Int).toNat ≤ 35184372088832
  ·
   rw [if_pos c6] at H
   have c6b0 := eq_true c6
   have c6b1 : decide ((ji4 : Int).toNat ≤ 35184372088832) = true := De c6
   clear c6
   obtain ⟨y129, hy129⟩ : ∃ y_ : List Int, y_ = (List.replicate (ji4 : Int).toNat 0) := ⟨_, rfl⟩
   replace H : ((spec_l1Cur_among.f s0_0 t127 t128 (([2, 2, 4] : List Int))).bind fun bt136 => (spec_l1Cur_tournament.l0 k ji4 bt136.1 0 s0_0 bt136.2.1 bt136.2.2 ji4 y129)) = some (r1, r2, r3, r4) := by first | (rw [hy129]; with_reducible exact H) | (have H2_ := (Option.bind_some _ _).symm.trans H; rw [hy129]; with_reducible exact H2_) | (have H2_ := (Option.bind_some _ _).symm.trans H; with_reducible exact H2_) | with_reducible exact H | (rw [hy129]; exact H) | exact H
   have Ny129 := Am hy129
   clear hy129
   obtain ⟨y133, hy133⟩ : ∃ y_ : List Int, y_ = (([2, 2, 4] : List Int)) := ⟨_, rfl⟩
   replace H : ((spec_l1Cur_among.f s0_0 t127 t128 y133).bind fun bt136 => (spec_l1Cur_tournament.l0 k ji4 bt136.1 0 s0_0 bt136.2.1 bt136.2.2 ji4 y129)) = some (r1, r2, r3, r4) := by first | (rw [hy133]; with_reducible exact H) | (have H2_ := (Option.bind_some _ _).symm.trans H; rw [hy133]; with_reducible exact H2_) | (have H2_ := (Option.bind_some _ _).symm.trans H; with_reducible exact H2_) | with_reducible exact H | (rw [hy133]; exact H) | exact H
   have Ny133 := Am hy133
   clear hy133
   replace H := Option.bind_eq_some_iff.mp H
   obtain ⟨⟨t136, t137, t138⟩, A70, H⟩ := H
   replace H : (spec_l1Cur_tournament.l0 k ji4 t136 0 s0_0 t137 t138 ji4 y129) = some (r1, r2, r3, r4) := H
   have A7 := Am A70
   clear A70
   have H' := Am H
   clear H
   go_enter Try.func69, Try.ntmps69
   go_wp2_with (first | ((with_reducible refine gate_dst (N := 4) rfl ?_); refine box_event ?hg (N := 4) ?hd (cs := #[.int .i64 0, .slice none 0 0]) (t := 27) ?hr ?_; (case hd => rfl); (case hg => rfl); (case hr => first | (go_simp; done) | (go_simp; rfl)); intro gb125 hg w8 hbox hb; have n0_ := Am (IsS67.below (by repeat (first | (with_reducible first | exact HI0.out | apply IsS67.alloc | apply IsS67.drewN | apply IsS67.drew | apply IsS67.set_1 | apply IsS67.set_2) | exact HI0.out)) hb); have n1_ := Am (KeepBut.trans (by repeat (first | (with_reducible first | exact HK.out | apply KeepBut.set_ | apply keep_drewN | apply keep_drew | apply keep_alloc) | exact HK.out)) (KeepBut.of_below hb g none) (.inl rfl)); have n2_ := Am (below_step (by repeat (first | (with_reducible first | exact HB.out | apply Ba | apply Bn | apply Bd | refine Bs ?_ (IsS67.ge HI0.out)) | exact HB.out)) hb); have n3_ := Am (hbox); have n4_ := Am ((by rw [hg]; exact (keep_size (w := w) (g := g) (row := none) (by repeat (first | (with_reducible first | exact HK.out | apply KeepBut.set_ | apply keep_drewN | apply keep_drew | apply keep_alloc) | exact HK.out))) : w.heap.size ≤ gb125)); have n5_ := Am ((Nat.le_trans HW0.out (by rw [hg]; exact (keep_size (w := w) (g := g) (row := none) (by repeat (first | (with_reducible first | exact HK.out | apply KeepBut.set_ | apply keep_drewN | apply keep_drew | apply keep_alloc) | exact HK.out))) : w.heap.size ≤ gb125) : w0.heap.size ≤ gb125)); have n6_ := Am ((by rw [hg]; exact Nat.ne_of_lt (IsS67.lt (show IsS67 w0 _ g s0_0 s0_1 s0_2 from by repeat (first | (with_reducible first | exact HI0.out | apply IsS67.alloc | apply IsS67.drewN | apply IsS67.drew | apply IsS67.set_1 | apply IsS67.set_2) | exact HI0.out))) : g ≠ gb125)); have n7_ := Am ((by rw [hg]; exact Nat.ne_of_gt (IsS67.lt (show IsS67 w0 _ g s0_0 s0_1 s0_2 from by repeat (first | (with_reducible first | exact HI0.out | apply IsS67.alloc | apply IsS67.drewN | apply IsS67.drew | apply IsS67.set_1 | apply IsS67.set_2) | exact HI0.out))) : gb125 ≠ g)); clear HI0; clear HK; clear HB; have HI0 := n0_; have HK := n1_; have HB := n2_; have BK125 := n3_; have GW125 := n4_; have GE125 := n5_; have NB0_125 := n6_; have NB125_0 := n7_; clear n0_ n1_ n2_ n3_ n4_ n5_ n6_ n7_; clear hb hbox hg) | ((with_reducible refine gate_callee (f := 80) rfl ?_); refine goesL_ (some 12) rfl rfl Try.func80 (by kernel_rfl) rfl #[.pointer (some ⟨g, 0, none⟩), .int .i64 a1] rfl (by (try simp only [List.map_toArray, List.map_cons, List.map_nil]); first | done | rfl) ?_; (with_reducible refine (spec_l1Cur_pick.calls g s0_0 s0_1 s0_2 a1 t126 t127 t128 w0 _ ?side1 ?side2 A3.out).mono ?_); (case side1 => repeat (first | (with_reducible first | exact HI0.out | apply IsS67.alloc | apply IsS67.drewN | apply IsS67.drew | apply IsS67.set_1 | apply IsS67.set_2 | refine IsS67.far ?_ NB0_125.out _) | exact HI0.out)); (case side2 => repeat (first | (with_reducible first | exact HB.out | apply Ba | apply Bn | apply Bd | refine Bs ?_ (IsS67.ge HI0.out) | refine Bs ?_ GE125.out) | exact HB.out)); rintro e w9 ⟨rfl, hi, hb, hk⟩; refine ⟨_, rfl, ?_⟩; have n0_ := Am (KeepBut.blk hk (g' := gb125) (o := .cells #[.int .i64 0, .slice none 0 0] 27 (0, 0)) (by (with_reducible repeat (first | refine Kn ?_ _ | refine Ke ?_ | refine Ka ?_ _)); exact BK125.out) NB125_0.out (by simp)); have n1_ := Am (KeepBut.trans (by repeat (first | (with_reducible first | exact HK.out | apply KeepBut.set_ | apply keep_drewN | apply keep_drew | apply keep_alloc | refine keep_far ?_ GW125.out _) | exact HK.out)) hk (.inl rfl)); have n2_ := Am (hb); have n3_ := Am (hi); clear BK125; clear HK; clear HB; clear HI0; have BK125 := n0_; have HK := n1_; have HB := n2_; have HI0 := n3_; clear n0_ n1_ n2_ n3_; (try clear hb); (try clear hb2); (try clear hk); (try clear hi)) | ((with_reducible refine gate_dst (N := 16) rfl ?_); refine Kd.R_make (Kd.int .i64) _ 3 rfl (N := 16) rfl 24 _ _ rfl ji4 rfl rfl Try.underlying24 (.int .i64 0) 8 info3 rfl (by decide) (by omega) 0 (ok := fun _ => True) (okp := fun _ => True) rfl (fun _ hk => hk) trivial (Oe (by first | (with_reducible assumption) | assumption)) (Nat.le_trans (Nat.mul_le_mul_right _ (Oe (by first | (with_reducible assumption) | assumption) : ji4.toNat ≤ 35184372088832)) (by omega)) (Below.refl _ _) (Nat.le_refl _) ?_; intro v130 w10 ho11 hb hg_ hnew_; clear hg_ hnew_; (first | rw [← Ny129.out] at ho11 | (simp only [Int.reduceToNat] at ho11; rw [← Ny129.out] at ho11)); have n0_ := Am (Kd.R_lower ho11 (keep_size (w := w) (g := g) (row := none) (by repeat (first | (with_reducible first | exact HK.out | apply KeepBut.set_ | apply keep_drewN | apply keep_drew | apply keep_alloc | refine keep_far ?_ GW125.out _) | exact HK.out)))); have n1_ := Am (IsS67.below (by repeat (first | (with_reducible first | exact HI0.out | apply IsS67.alloc | apply IsS67.drewN | apply IsS67.drew | apply IsS67.set_1 | apply IsS67.set_2 | refine IsS67.far ?_ NB0_125.out _) | exact HI0.out)) hb); have n2_ := Am (blk_below (g := gb125) (o := .cells #[.int .i64 0, .slice none 0 0] 27 (0, 0)) (by (with_reducible repeat (first | refine Kn ?_ _ | refine Ke ?_ | refine Ka ?_ _)); exact BK125.out) hb); have n3_ := Am (KeepBut.trans (by repeat (first | (with_reducible first | exact HK.out | apply KeepBut.set_ | apply keep_drewN | apply keep_drew | apply keep_alloc | refine keep_far ?_ GW125.out _) | exact HK.out)) (KeepBut.of_below hb g none) (.inl rfl)); have n4_ := Am (below_step (by repeat (first | (with_reducible first | exact HB.out | apply Ba | apply Bn | apply Bd | refine Bs ?_ (IsS67.ge HI0.out) | refine Bs ?_ GE125.out) | exact HB.out)) hb); clear HI0; clear BK125; clear HK; clear HB; have HO131 := n0_; have HI0 := n1_; have BK125 := n2_; have HK := n3_; have HB := n4_; clear n0_ n1_ n2_ n3_ n4_; clear hb ho11; obtain ⟨Ao12, co12, eo12⟩ := Kd.R_slice HO131.out; subst eo12) | ((with_reducible refine gate_dst (N := 6) rfl ?_); refine box_event ?hg (N := 6) ?hd (cs := #[.int .i64 0, .slice none 0 0]) (t := 27) ?hr ?_; (case hd => rfl); (case hg => rfl); (case hr => first | (go_simp; done) | (go_simp; rfl)); intro gb132 hg w13 hbox hb; have n0_ := Am (Kd.R_below (by (with_reducible repeat (first | apply Ra | apply Rn | apply Rd)); exact HO131.out) hb); have n1_ := Am (IsS67.below (by repeat (first | (with_reducible first | exact HI0.out | apply IsS67.alloc | apply IsS67.drewN | apply IsS67.drew | apply IsS67.set_1 | apply IsS67.set_2 | refine IsS67.far ?_ NB0_125.out _) | exact HI0.out)) hb); have n2_ := Am (blk_below (g := gb125) (o := .cells #[.int .i64 0, .slice none 0 0] 27 (0, 0)) (by (with_reducible repeat (first | refine Kn ?_ _ | refine Ke ?_ | refine Ka ?_ _)); exact BK125.out) hb); have n3_ := Am (KeepBut.trans (by repeat (first | (with_reducible first | exact HK.out | apply KeepBut.set_ | apply keep_drewN | apply keep_drew | apply keep_alloc | refine keep_far ?_ GW125.out _) | exact HK.out)) (KeepBut.of_below hb g none) (.inl rfl)); have n4_ := Am (below_step (by repeat (first | (with_reducible first | exact HB.out | apply Ba | apply Bn | apply Bd | refine Bs ?_ (IsS67.ge HI0.out) | refine Bs ?_ GE125.out) | exact HB.out)) hb); have n5_ := Am (hbox); have n6_ := Am ((by rw [hg]; exact (keep_size (w := w) (g := g) (row := none) (by repeat (first | (with_reducible first | exact HK.out | apply KeepBut.set_ | apply keep_drewN | apply keep_drew | apply keep_alloc | refine keep_far ?_ GW125.out _) | exact HK.out))) : w.heap.size ≤ gb132)); have n7_ := Am ((Nat.le_trans HW0.out (by rw [hg]; exact (keep_size (w := w) (g := g) (row := none) (by repeat (first | (with_reducible first | exact HK.out | apply KeepBut.set_ | apply keep_drewN | apply keep_drew | apply keep_alloc | refine keep_far ?_ GW125.out _) | exact HK.out))) : w.heap.size ≤ gb132) : w0.heap.size ≤ gb132)); have n8_ := Am ((by rw [hg]; exact Nat.ne_of_lt (blk_lt (g := gb125) (o := .cells #[.int .i64 0, .slice none 0 0] 27 (0, 0)) (by (with_reducible repeat (first | refine Kn ?_ _ | refine Ke ?_ | refine Ka ?_ _)); exact BK125.out)) : gb125 ≠ gb132)); have n9_ := Am ((by rw [hg]; exact Nat.ne_of_gt (blk_lt (g := gb125) (o := .cells #[.int .i64 0, .slice none 0 0] 27 (0, 0)) (by (with_reducible repeat (first | refine Kn ?_ _ | refine Ke ?_ | refine Ka ?_ _)); exact BK125.out)) : gb132 ≠ gb125)); have n10_ := Am ((by rw [hg]; exact Nat.ne_of_lt (IsS67.lt (show IsS67 w0 _ g s0_0 t127 t128 from by repeat (first | (with_reducible first | exact HI0.out | apply IsS67.alloc | apply IsS67.drewN | apply IsS67.drew | apply IsS67.set_1 | apply IsS67.set_2 | refine IsS67.far ?_ NB0_125.out _) | exact HI0.out))) : g ≠ gb132)); have n11_ := Am ((by rw [hg]; exact Nat.ne_of_gt (IsS67.lt (show IsS67 w0 _ g s0_0 t127 t128 from by repeat (first | (with_reducible first | exact HI0.out | apply IsS67.alloc | apply IsS67.drewN | apply IsS67.drew | apply IsS67.set_1 | apply IsS67.set_2 | refine IsS67.far ?_ NB0_125.out _) | exact HI0.out))) : gb132 ≠ g)); clear HO131; clear HI0; clear BK125; clear HK; clear HB; have HO131 := n0_; have HI0 := n1_; have BK125 := n2_; have HK := n3_; have HB := n4_; have BK132 := n5_; have GW132 := n6_; have GE132 := n7_; have NB125_132 := n8_; have NB132_125 := n9_; have NB0_132 := n10_; have NB132_0 := n11_; clear n0_ n1_ n2_ n3_ n4_ n5_ n6_ n7_ n8_ n9_ n10_ n11_; clear hb hbox hg; have hnb14 := NB132_125.out; have hnc14 := NB125_132.out; have hnb15 := NB132_0.out; have hnc15 := NB0_132.out; have hcz16_0 : w13.cell? ⟨gb132, 0, none⟩ = some (.int .i64 0) := (Kc BK132.out 0).trans rfl; have hcz16_1 : w13.cell? ⟨gb132, 1, none⟩ = some (.slice none 0 0) := (Kc BK132.out 1).trans rfl; have hfz16_0 := Kf BK132.out 0; have hfz16_1 := Kf BK132.out 1) | ((with_reducible refine gate_dst (N := 19) rfl ?_); refine Kd.R_lit (Kd.int .i64) _ 3 ?hg (N := 19) ?hd (xs := ([2, 2, 4] : List Int)) (inner := [.int .i64 2, .int .i64 2, .int .i64 4]) (ok := fun _ => True) (okp := fun _ => True) ?hr ?hp (fun _ hk => hk) trivial (Below.refl _ _) (Nat.le_refl _) (by simp) ?_; (case hd => rfl); (case hg => rfl); (case hr => first | (go_simp; done) | (go_simp; rfl)); (case hp => exact (Reps.one (show Kd.M (Kd.int .i64) _ _ _ 2 [.int .i64 2] from rfl) (Reps.one (show Kd.M (Kd.int .i64) _ _ _ 2 [.int .i64 2] from rfl) (Reps.one (show Kd.M (Kd.int .i64) _ _ _ 4 [.int .i64 4] from rfl) (Reps.none _ _))))); intro v134 w17 ho18 hb hg_ hnew_; clear hg_ hnew_; (first | rw [← Ny133.out] at ho18 | (simp only [Int.reduceToNat] at ho18; rw [← Ny133.out] at ho18)); have n0_ := Am (Kd.R_elder' (by (with_reducible repeat (first | apply Ra | apply Rn | apply Rd)); exact (Kd.R_mono (Kd.R_far (p := ⟨gb132, 1, none⟩) (Kd.R_far (p := ⟨gb132, 0, none⟩) (Kd.R_types HO131.out BK132.out (by decide)) (fun _ hk => hk.2) (.int .i64 ji4)) (fun _ hk => hk.2) (.slice Ao12 y129.length co12)) (fun _ h_ => h_.1))) (Kd.R_base ho18) hb); have n1_ := Am (Kd.R_lower (Kd.R_new' ho18 (Kd.R_lt (by (with_reducible repeat (first | apply Ra | apply Rn | apply Rd)); exact (Kd.R_mono (Kd.R_far (p := ⟨gb132, 1, none⟩) (Kd.R_far (p := ⟨gb132, 0, none⟩) (Kd.R_types HO131.out BK132.out (by decide)) (fun _ hk => hk.2) (.int .i64 ji4)) (fun _ hk => hk.2) (.slice Ao12 y129.length co12)) (fun _ h_ => h_.1))))) (keep_size (w := w) (g := g) (row := none) (by repeat (first | (with_reducible first | exact HK.out | apply KeepBut.set_ | apply keep_drewN | apply keep_drew | apply keep_alloc | refine keep_far ?_ GW125.out _ | refine keep_far ?_ GW132.out _) | exact HK.out)))); have n2_ := Am (IsS67.below (show IsS67 w0 ((w13.setCell ⟨gb132, 0, none⟩ (.int .i64 ji4)).setCell ⟨gb132, 1, none⟩ (.slice Ao12 y129.length co12)) g s0_0 t127 t128 from by repeat (first | (with_reducible first | exact HI0.out | apply IsS67.alloc | apply IsS67.drewN | apply IsS67.drew | apply IsS67.set_1 | apply IsS67.set_2 | refine IsS67.far ?_ NB0_125.out _ | refine IsS67.far ?_ NB0_132.out _) | exact HI0.out)) hb); have n3_ := Am (blk_below (g := gb125) (o := .cells #[.int .i64 0, .slice none 0 0] 27 (0, 0)) (by (with_reducible repeat (first | refine Kn ?_ _ | refine Ke ?_ | refine Ka ?_ _)); refine blk_far ?_ NB125_132.out _; (with_reducible repeat (first | refine Kn ?_ _ | refine Ke ?_ | refine Ka ?_ _)); refine blk_far ?_ NB125_132.out _; (with_reducible repeat (first | refine Kn ?_ _ | refine Ke ?_ | refine Ka ?_ _)); exact BK125.out) hb); have n4_ := Am (blk_below (g := gb132) (o := .cells #[.int .i64 ji4, .slice Ao12 y129.length co12] 27 (0, 0)) (by (with_reducible repeat (first | refine Kn ?_ _ | refine Ke ?_ | refine Ka ?_ _)); refine blk_put (cs := #[.int .i64 ji4, .slice none 0 0]) ?_ 1 _ rfl; (with_reducible repeat (first | refine Kn ?_ _ | refine Ke ?_ | refine Ka ?_ _)); refine blk_put (cs := #[.int .i64 0, .slice none 0 0]) ?_ 0 _ rfl; (with_reducible repeat (first | refine Kn ?_ _ | refine Ke ?_ | refine Ka ?_ _)); exact BK132.out) hb); have n5_ := Am (KeepBut.trans (by repeat (first | (with_reducible first | exact HK.out | apply KeepBut.set_ | apply keep_drewN | apply keep_drew | apply keep_alloc | refine keep_far ?_ GW125.out _ | refine keep_far ?_ GW132.out _) | exact HK.out)) (KeepBut.of_below hb g none) (.inl rfl)); have n6_ := Am (below_step (by repeat (first | (with_reducible first | exact HB.out | apply Ba | apply Bn | apply Bd | refine Bs ?_ (IsS67.ge HI0.out) | refine Bs ?_ GE125.out | refine Bs ?_ GE132.out) | exact HB.out)) hb); clear HO131; clear HI0; clear BK125; clear BK132; clear HK; clear HB; have HO131 := n0_; have HO135 := n1_; have HI0 := n2_; have BK125 := n3_; have BK132 := n4_; have HK := n5_; have HB := n6_; clear n0_ n1_ n2_ n3_ n4_ n5_ n6_; clear hb ho18; obtain ⟨Ao19, co19, eo19⟩ := Kd.R_slice HO135.out; subst eo19) | ((with_reducible refine gate_callee (f := 81) rfl ?_); refine goesL_ (some 20) rfl rfl Try.func81 (by kernel_rfl) rfl #[.pointer (some ⟨g, 0, none⟩), .slice Ao19 y133.length co19] rfl (by (try simp only [List.map_toArray, List.map_cons, List.map_nil]); first | done | rfl) ?_; (with_reducible refine (spec_l1Cur_among.calls g s0_0 t127 t128 _ _ y133 t136 t137 t138 w0 _ ?side1 ?side2 ?side3 ?side4 ?side5 A7.out).mono ?_); (case side1 => repeat (first | (with_reducible first | exact HI0.out | apply IsS67.alloc | apply IsS67.drewN | apply IsS67.drew | apply IsS67.set_1 | apply IsS67.set_2 | refine IsS67.far ?_ NB0_125.out _ | refine IsS67.far ?_ NB0_132.out _) | exact HI0.out)); (case side2 => repeat (first | (with_reducible first | exact HB.out | apply Ba | apply Bn | apply Bd | refine Bs ?_ (IsS67.ge HI0.out) | refine Bs ?_ GE125.out | refine Bs ?_ GE132.out) | exact HB.out)); (case side3 => repeat (first | exact (Kd.R_reads' HO135.out).2.2 | (with_reducible refine Ca ?_ _) | (with_reducible refine Cn ?_ _) | (with_reducible refine Cd ?_))); (case side4 => exact (Kd.R_reads' HO135.out).2.1); (case side5 => exact far_slice (IsS67.own_ne HI0.out HO135.out (by decide))); rintro e w20 ⟨rfl, hi, hb, hk⟩; refine ⟨_, rfl, ?_⟩; have n0_ := Am (KeepBut.blk hk (g' := gb125) (o := .cells #[.int .i64 0, .slice none 0 0] 27 (0, 0)) (by (with_reducible repeat (first | refine Kn ?_ _ | refine Ke ?_ | refine Ka ?_ _)); exact BK125.out) NB125_0.out (by simp)); have n1_ := Am (Kd.R_mono (Kd.R_keep (IsS67.apart (show IsS67 w0 _ g s0_0 t127 t128 from by repeat (first | (with_reducible first | exact HI0.out | apply IsS67.alloc | apply IsS67.drewN | apply IsS67.drew | apply IsS67.set_1 | apply IsS67.set_2 | refine IsS67.far ?_ NB0_125.out _ | refine IsS67.far ?_ NB0_132.out _) | exact HI0.out)) (by (with_reducible repeat (first | apply Ra | apply Rn | apply Rd)); exact HO131.out) (by decide)) hk (fun _ h => h.2)) (fun _ h => h.1)); have n2_ := Am (KeepBut.blk hk (g' := gb132) (o := .cells #[.int .i64 ji4, .slice Ao12 y129.length co12] 27 (0, 0)) (by (with_reducible repeat (first | refine Kn ?_ _ | refine Ke ?_ | refine Ka ?_ _)); exact BK132.out) NB132_0.out (by simp)); have n3_ := Am (Kd.R_mono (Kd.R_keep (IsS67.apart (show IsS67 w0 _ g s0_0 t127 t128 from by repeat (first | (with_reducible first | exact HI0.out | apply IsS67.alloc | apply IsS67.drewN | apply IsS67.drew | apply IsS67.set_1 | apply IsS67.set_2 | refine IsS67.far ?_ NB0_125.out _ | refine IsS67.far ?_ NB0_132.out _) | exact HI0.out)) (by (with_reducible repeat (first | apply Ra | apply Rn | apply Rd)); exact HO135.out) (by decide)) hk (fun _ h => h.2)) (fun _ h => h.1)); have n4_ := Am (KeepBut.trans (by repeat (first | (with_reducible first | exact HK.out | apply KeepBut.set_ | apply keep_drewN | apply keep_drew | apply keep_alloc | refine keep_far ?_ GW125.out _ | refine keep_far ?_ GW132.out _) | exact HK.out)) hk (.inl rfl)); have n5_ := Am (hb); have n6_ := Am (hi); clear BK125; clear HO131; clear BK132; clear HO135; clear HK; clear HB; clear HI0; have BK125 := n0_; have HO131 := n1_; have BK132 := n2_; have HO135 := n3_; have HK := n4_; have HB := n5_; have HI0 := n6_; clear n0_ n1_ n2_ n3_ n4_ n5_ n6_; (try clear hb); (try clear hb2); (try clear hk); (try clear hi)))
   go_loopg [8] k (fun kq v8 w' => ∃ (x8_1 : Int) (x1001_1 : Int) (x1002_1 : Int) (x133001_1 : List Int) (u133001 : Value), v8 = .int .i64 x8_1 ∧ Aside0 (spec_l1Cur_tournament.l0 kq ji4 t136 x8_1 s0_0 x1001_1 x1002_1 ji4 x133001_1 = some (r1, r2, r3, r4)) ∧ Aside0 (kq ≤ k) ∧ Aside0 (Kd.R (Kd.int .i64) 3 w' w.heap.size (fun _ => True) u133001 x133001_1) ∧ Aside0 (w'.heap[gb125]? = some (.cells #[.int .i64 0, (.slice none 0 0)] 27 (0, 0))) ∧ Aside0 (w'.heap[gb132]? = some (.cells #[.int .i64 ji4, u133001] 27 (0, 0))) ∧ Aside0 (IsS67 w0 w' g s0_0 x1001_1 x1002_1) ∧ Aside0 (KeepBut w w' g none) ∧ Aside0 (Below w0.heap.size w0 w'))
   case atStart => exact ⟨(0), (t137), (t138), (y129), (.slice Ao12 y129.length co12), (by first | rfl | (simp; done) | (simp [*]; done)), H', ⟨Nat.le_refl _⟩, ⟨by (with_reducible repeat (first | apply Ra | apply Rn | apply Rd)); exact Kd.R_mono HO131.out (fun _ hk => trivial)⟩, ⟨by (with_reducible repeat (first | refine Kn ?_ _ | refine Ke ?_ | refine Ka ?_ _)); exact BK125.out⟩, ⟨by (with_reducible repeat (first | refine Kn ?_ _ | refine Ke ?_ | refine Ka ?_ _)); exact BK132.out⟩, ⟨by repeat (first | (with_reducible first | exact HI0.out | apply IsS67.alloc | apply IsS67.drewN | apply IsS67.drew | apply IsS67.set_1 | apply IsS67.set_2 | refine IsS67.far ?_ NB0_125.out _ | refine IsS67.far ?_ NB0_132.out _) | exact HI0.out)⟩, ⟨by repeat (first | (with_reducible first | exact HK.out | apply KeepBut.set_ | apply keep_drewN | apply keep_drew | apply keep_alloc | refine keep_far ?_ GW125.out _ | refine keep_far ?_ GW132.out _) | exact HK.out)⟩, ⟨by repeat (first | (with_reducible first | exact HB.out | apply Ba | apply Bn | apply Bd | refine Bs ?_ (IsS67.ge HI0.out) | refine Bs ?_ GE125.out | refine Bs ?_ GE132.out) | exact HB.out)⟩⟩
   case round =>
    clear H'
    (try clear c1); (try clear p2); (try clear c5); (try clear c5b0); (try clear c5b1); (try clear c6); (try clear c6b0); (try clear c6b1); (try clear p6); (try clear c8); (try clear c14); (try clear c15); (try clear hcz16_0); (try clear hcz16_1); (try clear hfz16_0); (try clear hfz16_1)
    obtain ⟨x8_1, x1001_1, x1002_1, x133001_1, u133001, rfl, HA, HK1, HO_133001, BK125, BK132, HI0, HK, HB⟩ := hrel
    cases gk with
    | zero => exact absurd HA.out (by simp [spec_l1Cur_tournament.l0])
    | succ k1 =>
     have H := HA.out
     clear HA
     simp only [spec_l1Cur_tournament.l0] at H
     by_cases c21 : x8_1 < ji4
     ·
      rw [if_pos c21] at H
      have c21b0 : decide (x8_1 < ji4) = true := De c21
      clear c21
      have H' := Am H
      clear H
      go_wp2
      go_loopg [9] k1 (fun kq v9 w' => ∃ (x9_2 : Int) (x1001_2 : Int) (x1002_2 : Int) (x133001_2 : List Int) (u133001 : Value), v9 = .int .i64 x9_2 ∧ Aside0 (spec_l1Cur_tournament.l1 kq ji4 t136 x8_1 x9_2 s0_0 x1001_2 x1002_2 ji4 x133001_2 = some (r1, r2, r3, r4)) ∧ Aside0 (kq ≤ k1) ∧ Aside0 (Kd.R (Kd.int .i64) 3 w' w.heap.size (fun _ => True) u133001 x133001_2) ∧ Aside0 (w'.heap[gb125]? = some (.cells #[.int .i64 0, (.slice none 0 0)] 27 (0, 0))) ∧ Aside0 (w'.heap[gb132]? = some (.cells #[.int .i64 ji4, u133001] 27 (0, 0))) ∧ Aside0 (IsS67 w0 w' g s0_0 x1001_2 x1002_2) ∧ Aside0 (KeepBut w w' g none) ∧ Aside0 (Below w0.heap.size w0 w'))
      case atStart => exact ⟨(wrap64 (x8_1 + 1)), (x1001_1), (x1002_1), (x133001_1), (u133001), (by first | rfl | (simp; done) | (simp [*]; done)), H', ⟨Nat.le_refl _⟩, ⟨by (with_reducible repeat (first | apply Ra | apply Rn | apply Rd)); exact HO_133001.out⟩, ⟨by (with_reducible repeat (first | refine Kn ?_ _ | refine Ke ?_ | refine Ka ?_ _)); exact BK125.out⟩, ⟨by (with_reducible repeat (first | refine Kn ?_ _ | refine Ke ?_ | refine Ka ?_ _)); exact BK132.out⟩, ⟨by repeat (first | (with_reducible first | exact HI0.out | apply IsS67.alloc | apply IsS67.drewN | apply IsS67.drew | apply IsS67.set_1 | apply IsS67.set_2 | refine IsS67.far ?_ NB0_125.out _ | refine IsS67.far ?_ NB0_132.out _) | exact HI0.out)⟩, ⟨by repeat (first | (with_reducible first | exact HK.out | apply KeepBut.set_ | apply keep_drewN | apply keep_drew | apply keep_alloc | refine keep_far ?_ GW125.out _ | refine keep_far ?_ GW132.out _) | exact HK.out)⟩, ⟨by repeat (first | (with_reducible first | exact HB.out | apply Ba | apply Bn | apply Bd | refine Bs ?_ (IsS67.ge HI0.out) | refine Bs ?_ GE125.out | refine Bs ?_ GE132.out) | exact HB.out)⟩⟩
      case round =>
       clear H'
       (try clear c1); (try clear c2); (try clear p2); (try clear c5); (try clear c5b0); (try clear c5b1); (try clear c6); (try clear c6b0); (try clear c6b1); (try clear p6); (try clear c8); (try clear c14); (try clear c15); (try clear c21); (try clear c21b0); (try clear hcz16_0); (try clear hcz16_1); (try clear hfz16_0); (try clear hfz16_1); (try clear p2); (try clear p6)
       obtain ⟨x9_2, x1001_2, x1002_2, x133001_2, u133001, rfl, HA, HK2, HO_133001, BK125, BK132, HI0, HK, HB⟩ := hrel
       cases gk with
       | zero => exact absurd HA.out (by simp [spec_l1Cur_tournament.l1])
       | succ k2 =>
        have H := HA.out
        clear HA
        simp only [spec_l1Cur_tournament.l1] at H
        by_cases c22 : x9_2 < ji4
        ·
         rw [if_pos c22] at H
         have c22b0 : decide (x9_2 < ji4) = true := De c22
         clear c22
         replace H := Option.bind_eq_some_iff.mp H
         obtain ⟨⟨t139, t140, t141⟩, A230, H⟩ := H
         replace H : (if t139 = true then (if 0 ≤ x9_2 then (if x9_2 < (x133001_2.length : Int) then (if 0 ≤ x8_1 then (spec_l1Cur_tournament.l1 k2 ji4 t136 x8_1 (wrap64 (x9_2 + 1)) s0_0 t140 t141 ji4 (x133001_2.set (x9_2 : Int).toNat (Go.bits .or .i64 (rd x133001_2 x9_2) (shl .i64 1 x8_1)))) else (none)) else (none)) else (none)) else (if 0 ≤ x8_1 then (if x8_1 < (x133001_2.length : Int) then (if 0 ≤ x9_2 then (spec_l1Cur_tournament.l1 k2 ji4 t136 x8_1 (wrap64 (x9_2 + 1)) s0_0 t140 t141 ji4 (x133001_2.set (x8_1 : Int).toNat (Go.bits .or .i64 (rd x133001_2 x8_1) (shl .i64 1 x9_2)))) else (none)) else (none)) else (none))) = some (r1, r2, r3, r4) := H
         have A23 := Am A230
         clear A230
         by_cases c24 : t139 = true
         ·
          subst c24
          have H1 : (if 0 ≤ x9_2 then (if x9_2 < (x133001_2.length : Int) then (if 0 ≤ x8_1 then (spec_l1Cur_tournament.l1 k2 ji4 t136 x8_1 (wrap64 (x9_2 + 1)) s0_0 t140 t141 ji4 (x133001_2.set (x9_2 : Int).toNat (Go.bits .or .i64 (rd x133001_2 x9_2) (shl .i64 1 x8_1)))) else (none)) else (none)) else (none)) = some (r1, r2, r3, r4) := by rw [if_pos rfl] at H; exact H
          clear H
          have H := H1
          clear H1
          by_cases c25 : 0 ≤ x9_2
          ·
           rw [if_pos c25] at H
           have c25b0 : decide (0 ≤ x9_2) = true := De c25
           clear c25
           by_cases c26 : x9_2 < (x133001_2.length : Int)
           ·
            rw [if_pos c26] at H
            have c26b0 : decide (x9_2 < (x133001_2.length : Int)) = true := De c26
            clear c26
            by_cases c27 : 0 ≤ x8_1
            ·
             rw [if_pos c27] at H
             have c27b0 := eq_true c27
             have c27b1 : decide (0 ≤ x8_1) = true := De c27
             clear c27
             obtain ⟨ji28, hji28⟩ : ∃ j_ : Int, (shl .i64 1 x8_1) = j_ := ⟨_, rfl⟩
             replace H : (spec_l1Cur_tournament.l1 k2 ji4 t136 x8_1 (wrap64 (x9_2 + 1)) s0_0 t140 t141 ji4 (x133001_2.set (x9_2 : Int).toNat (Go.bits .or .i64 (rd x133001_2 x9_2) (ji28)))) = some (r1, r2, r3, r4) := by first | (rw [hji28] at H; exact H) | (simp only [hji28] at H ⊢; exact H)
             (try rw [hji28] at A23)
             have hji28_ : (IntKind.i64.wrap (1 * 2 ^ min x8_1.toNat 64)) = ji28 := hji28
             have hji28z : x8_1 ≤ 64 → (IntKind.i64.wrap (1 * 2 ^ x8_1.toNat)) = ji28 := shl_small hji28
             have hji28u : (IntKind.i64.wrap (2 ^ min x8_1.toNat 64)) = ji28 := by have h_ := hji28_; rw [Int.one_mul] at h_; exact h_
             have hji28v : x8_1 ≤ 64 → (IntKind.i64.wrap (2 ^ x8_1.toNat)) = ji28 := fun hle_ => by have h_ := hji28z hle_; rw [Int.one_mul] at h_; exact h_
             have hji28y : (wrap64 (1 * 2 ^ min x8_1.toNat 64)) = ji28 := (i64_w _).symm.trans hji28_
             have hji28x : x8_1 ≤ 64 → (wrap64 (1 * 2 ^ x8_1.toNat)) = ji28 := fun h_ => (i64_w _).symm.trans (hji28z h_)
             obtain ⟨y143, hy143⟩ : ∃ y_ : List Int, y_ = (x133001_2.set (x9_2 : Int).toNat (Go.bits .or .i64 (rd x133001_2 x9_2) (ji28))) := ⟨_, rfl⟩
             replace H : (spec_l1Cur_tournament.l1 k2 ji4 t136 x8_1 (wrap64 (x9_2 + 1)) s0_0 t140 t141 ji4 y143) = some (r1, r2, r3, r4) := by first | (rw [hy143]; with_reducible exact H) | (have H2_ := (Option.bind_some _ _).symm.trans H; rw [hy143]; with_reducible exact H2_) | (have H2_ := (Option.bind_some _ _).symm.trans H; with_reducible exact H2_) | with_reducible exact H | (rw [hy143]; exact H) | exact H
             have Ny143 := Am hy143
             clear hy143
             have H' := Am H
             clear H
             try go_wp2_with (first | ((with_reducible refine gate_callee (f := 76) rfl ?_); refine goesL_ (some 35) rfl rfl Try.func76 (by kernel_rfl) rfl #[.pointer (some ⟨g, 0, none⟩), .int .i64 t136] rfl (by (try simp only [List.map_toArray, List.map_cons, List.map_nil]); first | done | rfl) ?_; (with_reducible refine (spec_l1Cur_one.calls g s0_0 x1001_2 x1002_2 t136 true t140 t141 w0 _ ?side1 ?side2 A23.out).mono ?_); (case side1 => repeat (first | (with_reducible first | exact HI0.out | apply IsS67.alloc | apply IsS67.drewN | apply IsS67.drew | apply IsS67.set_1 | apply IsS67.set_2 | refine IsS67.far ?_ NB0_125.out _ | refine IsS67.far ?_ NB0_132.out _) | exact HI0.out)); (case side2 => repeat (first | (with_reducible first | exact HB.out | apply Ba | apply Bn | apply Bd | refine Bs ?_ (IsS67.ge HI0.out) | refine Bs ?_ GE125.out | refine Bs ?_ GE132.out) | exact HB.out)); rintro e w30 ⟨rfl, hi, hb, hk⟩; refine ⟨_, rfl, ?_⟩; have n0_ := Am (Kd.R_mono (Kd.R_keep (IsS67.apart (show IsS67 w0 _ g s0_0 x1001_2 x1002_2 from by repeat (first | (with_reducible first | exact HI0.out | apply IsS67.alloc | apply IsS67.drewN | apply IsS67.drew | apply IsS67.set_1 | apply IsS67.set_2 | refine IsS67.far ?_ NB0_125.out _ | refine IsS67.far ?_ NB0_132.out _) | exact HI0.out)) (by (with_reducible repeat (first | apply Ra | apply Rn | apply Rd)); exact HO_133001.out) (by decide)) hk (fun _ h => h.2)) (fun _ h => h.1)); have n1_ := Am (KeepBut.blk hk (g' := gb125) (o := .cells #[.int .i64 0, .slice none 0 0] 27 (0, 0)) (by (with_reducible repeat (first | refine Kn ?_ _ | refine Ke ?_ | refine Ka ?_ _)); exact BK125.out) NB125_0.out (by simp)); have n2_ := Am (KeepBut.blk hk (g' := gb132) (o := .cells #[.int .i64 ji4, u133001] 27 (0, 0)) (by (with_reducible repeat (first | refine Kn ?_ _ | refine Ke ?_ | refine Ka ?_ _)); exact BK132.out) NB132_0.out (by simp)); have n3_ := Am (KeepBut.trans (by repeat (first | (with_reducible first | exact HK.out | apply KeepBut.set_ | apply keep_drewN | apply keep_drew | apply keep_alloc | refine keep_far ?_ GW125.out _ | refine keep_far ?_ GW132.out _) | exact HK.out)) hk (.inl rfl)); have n4_ := Am (hb); have n5_ := Am (hi); clear HO_133001; clear BK125; clear BK132; clear HK; clear HB; clear HI0; have HO_133001 := n0_; have BK125 := n1_; have BK132 := n2_; have HK := n3_; have HB := n4_; have HI0 := n5_; clear n0_ n1_ n2_ n3_ n4_ n5_; (try clear hb); (try clear hb2); (try clear hk); (try clear hi)))
             have n0_ := Am (Rd HO_133001.out)
             have n1_ := Am (Ke BK125.out)
             have n2_ := Am (Ke BK132.out)
             have n3_ := Am (IsS67.drew HI0.out)
             have n4_ := Am (keep_drew HK.out)
             have n5_ := Am (Bd HB.out)
             clear HO_133001
             clear BK125
             clear BK132
             clear HI0
             clear HK
             clear HB
             have HO_133001 := n0_
             have BK125 := n1_
             have BK132 := n2_
             have HI0 := n3_
             have HK := n4_
             have HB := n5_
             clear n0_ n1_ n2_ n3_ n4_ n5_
             obtain ⟨Ao32, co32, eo32⟩ := Kd.R_slice HO_133001.out
             (first | subst eo32 | (injection eo32 with f1_ f2_ f3_; have f4_ := f1_.symm; have f5_ := f3_.symm; clear f1_ f2_ f3_; subst f4_; subst f5_))
             have p142 : 0 ≤ (x9_2 : Int) := Oe (by first | (with_reducible assumption) | assumption)
             have q142 : x9_2 < (x133001_2.length : Int) := Oe (by first | (with_reducible assumption) | assumption)
             obtain ⟨ad142, e142, hx142_0⟩ := Kd.at_int (Kd.R_reads' HO_133001.out).2.2 x9_2 p142 q142
             cases e142
             replace p142 := eq_true p142
             replace q142 := eq_true q142
             have p29 : 0 ≤ (x9_2 : Int) := Oe (by first | (with_reducible assumption) | assumption)
             have q29 : (x9_2 : Int) < ((x133001_2.length : Int) : Int) := Oe (by first | (with_reducible assumption) | assumption)
             obtain ⟨go29, co29, eo29, gb29, gl29, cl29, HG29⟩ := Kd.R_form HO_133001.out (by omega)
             (first | cases eo29 | (injection eo29 with ea_ en_ ec_; (first | subst ea_ | (injection ea_ with ea_; subst ea_)); subst ec_; clear en_))
             have GB29 := Am gb29
             have GG29 := Am HG29
             clear gb29 gl29 HG29
             (first | simp only [add_plain] at hx142_0 | skip)
             obtain ⟨hx29_0, hf29_0⟩ := Kd.R_celln 0 HO_133001.out (x9_2 : Int) p29 q29
             replace p29 := eq_true p29
             replace q29 := eq_true q29
             have HN0_go29 := Am (show g ≠ go29 from by have h_ := IsS67.own_ne HI0.out HO_133001.out (by decide); intro e_; exact h_ (by rw [e_]; rfl))
             have HP33 := Kd.R_putn HO_133001.out (x9_2 : Int) (Go.bits .or .i64 (rd x133001_2 x9_2) (ji28))
             rw [← Ny143.out] at HP33
             have HQ33 := Am HP33
             clear HP33
             refine start_ (n := 10) (S := fun w' => w'.cell? ⟨gb132, 0, none⟩ = some (.int .i64 ji4) ∧ w'.cell? ⟨gb132, 1, none⟩ = some (.slice (some ⟨go29, 0, none⟩) x133001_2.length co32) ∧ w'.cell? ⟨go29, (x9_2).toNat, none⟩ = some (.int .i64 (rd x133001_2 x9_2))) (ds := [9]) #[Zz,Zz,Zz,Zz,Zz,Zz,Zz,Zz,Zz,Zz] (by kernel_rfl) rfl rfl ⟨(Kc BK132.out 0).trans rfl, (Kc BK132.out 1).trans rfl, hx142_0⟩ (fun hHeld => ?_); refine with_tabW spec_l1Cur_tournament.tab11 spec_l1Cur_tournament.bits11 (fun HT_ HW_ => ?_)
             generalize w30.drew = w31 at HO_133001 BK125 BK132 HI0 HK HB GG29 HQ33 hf29_0 hx142_0 hx29_0 hHeld ⊢
             refine pure_ (i := 0) (N := some 36) (v := ?_) (a' := ?_) #[Yy,Zz,Zz,Zz,Zz,Zz,Zz,Zz,Zz,Zz] rfl rfl (any_of HT_.out (by kernel_rfl)) (fun _ _ _ h => h) (Or.inl ⟨by rfl, ?_⟩) ?_ ?_
             rotate_left
             ·
              intro w'
              go_simp
              with_reducible rfl
             rotate_left
             ·
              simp only [Act.put, List.setIfInBounds_toArray, List.set_cons_zero, List.set_cons_succ, i64_w, i32_w]
              rfl
             refine pure_ (i := 2) (N := some 38) (v := ?_) (a' := ?_) #[Yy,Zz,Yy,Zz,Zz,Zz,Zz,Zz,Zz,Zz] rfl rfl (any_of HT_.out (by kernel_rfl)) (fun _ _ _ h => h) (Or.inl ⟨by rfl, ?_⟩) ?_ ?_
             rotate_left
             ·
              intro w'
              go_simp
              with_reducible rfl
             rotate_left
             ·
              simp only [Act.put, List.setIfInBounds_toArray, List.set_cons_zero, List.set_cons_succ, i64_w, i32_w]
              rfl
             refine pure_ (i := 5) (N := some 41) (v := ?_) (a' := ?_) #[Yy,Zz,Yy,Zz,Zz,Yy,Zz,Zz,Zz,Zz] rfl rfl (any_of HT_.out (by kernel_rfl)) (fun _ _ _ h => h) (Or.inl ⟨by rfl, ?_⟩) ?_ ?_
             rotate_left
             ·
              intro w'
              go_simp
              with_reducible rfl
             rotate_left
             ·
              simp only [Act.put, List.setIfInBounds_toArray, List.set_cons_zero, List.set_cons_succ, i64_w, i32_w]
              rfl
             refine pure_ (i := 6) (N := some 42) (v := ?_) (a' := ?_) #[Yy,Zz,Yy,Zz,Zz,Yy,Yy,Zz,Zz,Zz] rfl rfl (any_of HT_.out (by kernel_rfl)) (fun _ _ _ h => h) (Or.inl ⟨by rfl, ?_⟩) ?_ ?_
             rotate_left
             ·
              intro w'
              go_simp
              with_reducible rfl
             rotate_left
             ·
              simp only [Act.put, List.setIfInBounds_toArray, List.set_cons_zero, List.set_cons_succ, i64_w, i32_w]
              rfl
             refine take_ (i := 1) (N := some 37) (v := ?_) (a' := ?_) #[Yy,Yy,Yy,Zz,Zz,Yy,Yy,Zz,Zz,Zz] rfl rfl (take_ofW HT_.out HW_.out (by kernel_rfl)) (fun _ _ _ h => h) (Or.inl ⟨by rfl, ?_⟩) hHeld ?_ ?_
             rotate_left
             ·
              rintro w' ⟨s0, s1, s2⟩
              go_simp
              with_reducible rfl
             rotate_left
             ·
              simp only [Act.put, List.setIfInBounds_toArray, List.set_cons_zero, List.set_cons_succ, i64_w, i32_w]
              rfl
             refine pure_ (i := 3) (N := some 39) (v := ?_) (a' := ?_) #[Yy,Yy,Yy,Yy,Zz,Yy,Yy,Zz,Zz,Zz] rfl rfl (any_of HT_.out (by kernel_rfl)) (fun _ _ _ h => h) (Or.inl ⟨by rfl, ?_⟩) ?_ ?_
             rotate_left
             ·
              intro w'
              go_simp
              with_reducible rfl
             rotate_left
             ·
              simp only [Act.put, List.setIfInBounds_toArray, List.set_cons_zero, List.set_cons_succ, i64_w, i32_w]
              rfl
             refine take_ (i := 4) (N := some 40) (v := ?_) (a' := ?_) #[Yy,Yy,Yy,Yy,Yy,Yy,Yy,Zz,Zz,Zz] rfl rfl (take_ofW HT_.out HW_.out (by kernel_rfl)) (fun _ _ _ h => h) (Or.inl ⟨by rfl, ?_⟩) hHeld ?_ ?_
             rotate_left
             ·
              rintro w' ⟨s0, s1, s2⟩
              go_simp
              with_reducible rfl
             rotate_left
             ·
              simp only [Act.put, List.setIfInBounds_toArray, List.set_cons_zero, List.set_cons_succ, i64_w, i32_w]
              rfl
             refine pure_ (i := 7) (N := some 43) (v := ?_) (a' := ?_) #[Yy,Yy,Yy,Yy,Yy,Yy,Yy,Yy,Zz,Zz] rfl rfl (any_of HT_.out (by kernel_rfl)) (fun _ _ _ h => h) (Or.inl ⟨by rfl, ?_⟩) ?_ ?_
             rotate_left
             ·
              intro w'
              go_simp
              with_reducible rfl
             rotate_left
             ·
              simp only [Act.put, List.setIfInBounds_toArray, List.set_cons_zero, List.set_cons_succ, i64_w, i32_w]
              rfl
             refine pure_ (i := 8) (N := some 44) (v := ?_) (a' := ?_) #[Yy,Yy,Yy,Yy,Yy,Yy,Yy,Yy,Yy,Zz] rfl rfl (any_of HT_.out (by kernel_rfl)) (fun _ _ _ h => h) (Or.inl ⟨by rfl, ?_⟩) ?_ ?_
             rotate_left
             ·
              intro w'
              go_simp
              with_reducible rfl
             rotate_left
             ·
              simp only [Act.put, List.setIfInBounds_toArray, List.set_cons_zero, List.set_cons_succ, i64_w, i32_w]
              rfl
             refine last_ (i := 9) (N := none) #[Yy,Yy,Yy,Yy,Yy,Yy,Yy,Yy,Yy,Yy] rfl rfl (one_of HT_.out (by kernel_rfl)) (by decide) (fun K hK => ?_)
             refine skip_ (w1 := ?_) (by rfl) rfl ?_ ?_
             rotate_left
             ·
              go_simp
              rfl
             refine hK.out _ _ ?_
             clear hK K
             refine done_ (done_of HT_.out (by kernel_rfl)) ?_
             try go_wp2
             go_roundg k2
             case measure => have := HK1.out; have := HK2.out; omega
             case rel => exact ⟨(wrap64 (x9_2 + 1)), (t140), (t141), (y143), (.slice (some ⟨go29, 0, none⟩) x133001_2.length co32), (by first | rfl | (simp; done) | (simp [*]; done)), H', ⟨by have := HK1.out; have := HK2.out; omega⟩, ⟨by (with_reducible repeat (first | apply Ra | apply Rn | apply Rd)); exact HQ33.out⟩, ⟨by (with_reducible repeat (first | refine Kn ?_ _ | refine Ke ?_ | refine Ka ?_ _)); refine blk_far ?_ (by have h_ := Kd.R_ne HO_133001.out BK125.out (by decide); intro e_; exact h_ (by rw [e_]; rfl)) _; (with_reducible repeat (first | refine Kn ?_ _ | refine Ke ?_ | refine Ka ?_ _)); exact BK125.out⟩, ⟨by (with_reducible repeat (first | refine Kn ?_ _ | refine Ke ?_ | refine Ka ?_ _)); refine blk_far ?_ (by have h_ := Kd.R_ne HO_133001.out BK132.out (by decide); intro e_; exact h_ (by rw [e_]; rfl)) _; (with_reducible repeat (first | refine Kn ?_ _ | refine Ke ?_ | refine Ka ?_ _)); exact BK132.out⟩, ⟨by repeat (first | (with_reducible first | exact HI0.out | apply IsS67.alloc | apply IsS67.drewN | apply IsS67.drew | apply IsS67.set_1 | apply IsS67.set_2 | refine IsS67.far ?_ HN0_go29.out _ | refine IsS67.far ?_ NB0_125.out _ | refine IsS67.far ?_ NB0_132.out _) | exact HI0.out)⟩, ⟨by repeat (first | (with_reducible first | exact HK.out | apply KeepBut.set_ | apply keep_drewN | apply keep_drew | apply keep_alloc | refine keep_far ?_ GB29.out _ | refine keep_far ?_ GW125.out _ | refine keep_far ?_ GW132.out _) | exact HK.out)⟩, ⟨by repeat (first | (with_reducible first | exact HB.out | apply Ba | apply Bn | apply Bd | refine Bs ?_ (Nat.le_trans HL.out GB29.out) | refine Bs ?_ (IsS67.ge HI0.out) | refine Bs ?_ GE125.out | refine Bs ?_ GE132.out) | exact HB.out)⟩⟩
            ·
             rw [if_neg c27] at H
             exact absurd H (by simp)
           ·
            rw [if_neg c26] at H
            exact absurd H (by simp)
          ·
           rw [if_neg c25] at H
           exact absurd H (by simp)
         ·
          replace c24 := Bool.eq_false_iff.mpr c24
          subst c24
          have H1 : (if 0 ≤ x8_1 then (if x8_1 < (x133001_2.length : Int) then (if 0 ≤ x9_2 then (spec_l1Cur_tournament.l1 k2 ji4 t136 x8_1 (wrap64 (x9_2 + 1)) s0_0 t140 t141 ji4 (x133001_2.set (x8_1 : Int).toNat (Go.bits .or .i64 (rd x133001_2 x8_1) (shl .i64 1 x9_2)))) else (none)) else (none)) else (none)) = some (r1, r2, r3, r4) := by rw [if_neg (show ¬ (false = true) by decide)] at H; exact H
          clear H
          have H := H1
          clear H1
          by_cases c34 : 0 ≤ x8_1
          ·
           rw [if_pos c34] at H
           have c34b0 : decide (0 ≤ x8_1) = true := De c34
           clear c34
           by_cases c35 : x8_1 < (x133001_2.length : Int)
           ·
            rw [if_pos c35] at H
            have c35b0 : decide (x8_1 < (x133001_2.length : Int)) = true := De c35
            clear c35
            by_cases c36 : 0 ≤ x9_2
            ·
             rw [if_pos c36] at H
             have c36b0 := eq_true c36
             have c36b1 : decide (0 ≤ x9_2) = true := De c36
             clear c36
             obtain ⟨ji37, hji37⟩ : ∃ j_ : Int, (shl .i64 1 x9_2) = j_ := ⟨_, rfl⟩
             replace H : (spec_l1Cur_tournament.l1 k2 ji4 t136 x8_1 (wrap64 (x9_2 + 1)) s0_0 t140 t141 ji4 (x133001_2.set (x8_1 : Int).toNat (Go.bits .or .i64 (rd x133001_2 x8_1) (ji37)))) = some (r1, r2, r3, r4) := by first | (rw [hji37] at H; exact H) | (simp only [hji37] at H ⊢; exact H)
             (try rw [hji37] at A23)
             have hji37_ : (IntKind.i64.wrap (1 * 2 ^ min x9_2.toNat 64)) = ji37 := hji37
             have hji37z : x9_2 ≤ 64 → (IntKind.i64.wrap (1 * 2 ^ x9_2.toNat)) = ji37 := shl_small hji37
             have hji37u : (IntKind.i64.wrap (2 ^ min x9_2.toNat 64)) = ji37 := by have h_ := hji37_; rw [Int.one_mul] at h_; exact h_
             have hji37v : x9_2 ≤ 64 → (IntKind.i64.wrap (2 ^ x9_2.toNat)) = ji37 := fun hle_ => by have h_ := hji37z hle_; rw [Int.one_mul] at h_; exact h_
             have hji37y : (wrap64 (1 * 2 ^ min x9_2.toNat 64)) = ji37 := (i64_w _).symm.trans hji37_
             have hji37x : x9_2 ≤ 64 → (wrap64 (1 * 2 ^ x9_2.toNat)) = ji37 := fun h_ => (i64_w _).symm.trans (hji37z h_)
             obtain ⟨y145, hy145⟩ : ∃ y_ : List Int, y_ = (x133001_2.set (x8_1 : Int).toNat (Go.bits .or .i64 (rd x133001_2 x8_1) (ji37))) := ⟨_, rfl⟩
             replace H : (spec_l1Cur_tournament.l1 k2 ji4 t136 x8_1 (wrap64 (x9_2 + 1)) s0_0 t140 t141 ji4 y145) = some (r1, r2, r3, r4) := by first | (rw [hy145]; with_reducible exact H) | (have H2_ := (Option.bind_some _ _).symm.trans H; rw [hy145]; with_reducible exact H2_) | (have H2_ := (Option.bind_some _ _).symm.trans H; with_reducible exact H2_) | with_reducible exact H | (rw [hy145]; exact H) | exact H
             have Ny145 := Am hy145
             clear hy145
             have H' := Am H
             clear H
             try go_wp2_with (first | ((with_reducible refine gate_callee (f := 76) rfl ?_); refine goesL_ (some 35) rfl rfl Try.func76 (by kernel_rfl) rfl #[.pointer (some ⟨g, 0, none⟩), .int .i64 t136] rfl (by (try simp only [List.map_toArray, List.map_cons, List.map_nil]); first | done | rfl) ?_; (with_reducible refine (spec_l1Cur_one.calls g s0_0 x1001_2 x1002_2 t136 false t140 t141 w0 _ ?side1 ?side2 A23.out).mono ?_); (case side1 => repeat (first | (with_reducible first | exact HI0.out | apply IsS67.alloc | apply IsS67.drewN | apply IsS67.drew | apply IsS67.set_1 | apply IsS67.set_2 | refine IsS67.far ?_ NB0_125.out _ | refine IsS67.far ?_ NB0_132.out _) | exact HI0.out)); (case side2 => repeat (first | (with_reducible first | exact HB.out | apply Ba | apply Bn | apply Bd | refine Bs ?_ (IsS67.ge HI0.out) | refine Bs ?_ GE125.out | refine Bs ?_ GE132.out) | exact HB.out)); rintro e w39 ⟨rfl, hi, hb, hk⟩; refine ⟨_, rfl, ?_⟩; have n0_ := Am (Kd.R_mono (Kd.R_keep (IsS67.apart (show IsS67 w0 _ g s0_0 x1001_2 x1002_2 from by repeat (first | (with_reducible first | exact HI0.out | apply IsS67.alloc | apply IsS67.drewN | apply IsS67.drew | apply IsS67.set_1 | apply IsS67.set_2 | refine IsS67.far ?_ NB0_125.out _ | refine IsS67.far ?_ NB0_132.out _) | exact HI0.out)) (by (with_reducible repeat (first | apply Ra | apply Rn | apply Rd)); exact HO_133001.out) (by decide)) hk (fun _ h => h.2)) (fun _ h => h.1)); have n1_ := Am (KeepBut.blk hk (g' := gb125) (o := .cells #[.int .i64 0, .slice none 0 0] 27 (0, 0)) (by (with_reducible repeat (first | refine Kn ?_ _ | refine Ke ?_ | refine Ka ?_ _)); exact BK125.out) NB125_0.out (by simp)); have n2_ := Am (KeepBut.blk hk (g' := gb132) (o := .cells #[.int .i64 ji4, u133001] 27 (0, 0)) (by (with_reducible repeat (first | refine Kn ?_ _ | refine Ke ?_ | refine Ka ?_ _)); exact BK132.out) NB132_0.out (by simp)); have n3_ := Am (KeepBut.trans (by repeat (first | (with_reducible first | exact HK.out | apply KeepBut.set_ | apply keep_drewN | apply keep_drew | apply keep_alloc | refine keep_far ?_ GW125.out _ | refine keep_far ?_ GW132.out _) | exact HK.out)) hk (.inl rfl)); have n4_ := Am (hb); have n5_ := Am (hi); clear HO_133001; clear BK125; clear BK132; clear HK; clear HB; clear HI0; have HO_133001 := n0_; have BK125 := n1_; have BK132 := n2_; have HK := n3_; have HB := n4_; have HI0 := n5_; clear n0_ n1_ n2_ n3_ n4_ n5_; (try clear hb); (try clear hb2); (try clear hk); (try clear hi)))
             have n0_ := Am (Rd HO_133001.out)
             have n1_ := Am (Ke BK125.out)
             have n2_ := Am (Ke BK132.out)
             have n3_ := Am (IsS67.drew HI0.out)
             have n4_ := Am (keep_drew HK.out)
             have n5_ := Am (Bd HB.out)
             clear HO_133001
             clear BK125
             clear BK132
             clear HI0
             clear HK
             clear HB
             have HO_133001 := n0_
             have BK125 := n1_
             have BK132 := n2_
             have HI0 := n3_
             have HK := n4_
             have HB := n5_
             clear n0_ n1_ n2_ n3_ n4_ n5_
             obtain ⟨Ao41, co41, eo41⟩ := Kd.R_slice HO_133001.out
             (first | subst eo41 | (injection eo41 with f1_ f2_ f3_; have f4_ := f1_.symm; have f5_ := f3_.symm; clear f1_ f2_ f3_; subst f4_; subst f5_))
             have p144 : 0 ≤ (x8_1 : Int) := Oe (by first | (with_reducible assumption) | assumption)
             have q144 : x8_1 < (x133001_2.length : Int) := Oe (by first | (with_reducible assumption) | assumption)
             obtain ⟨ad144, e144, hx144_0⟩ := Kd.at_int (Kd.R_reads' HO_133001.out).2.2 x8_1 p144 q144
             cases e144
             replace p144 := eq_true p144
             replace q144 := eq_true q144
             have p38 : 0 ≤ (x8_1 : Int) := Oe (by first | (with_reducible assumption) | assumption)
             have q38 : (x8_1 : Int) < ((x133001_2.length : Int) : Int) := Oe (by first | (with_reducible assumption) | assumption)
             obtain ⟨go38, co38, eo38, gb38, gl38, cl38, HG38⟩ := Kd.R_form HO_133001.out (by omega)
             (first | cases eo38 | (injection eo38 with ea_ en_ ec_; (first | subst ea_ | (injection ea_ with ea_; subst ea_)); subst ec_; clear en_))
             have GB38 := Am gb38
             have GG38 := Am HG38
             clear gb38 gl38 HG38
             (first | simp only [add_plain] at hx144_0 | skip)
             obtain ⟨hx38_0, hf38_0⟩ := Kd.R_celln 0 HO_133001.out (x8_1 : Int) p38 q38
             replace p38 := eq_true p38
             replace q38 := eq_true q38
             have HN0_go38 := Am (show g ≠ go38 from by have h_ := IsS67.own_ne HI0.out HO_133001.out (by decide); intro e_; exact h_ (by rw [e_]; rfl))
             have HP42 := Kd.R_putn HO_133001.out (x8_1 : Int) (Go.bits .or .i64 (rd x133001_2 x8_1) (ji37))
             rw [← Ny145.out] at HP42
             have HQ42 := Am HP42
             clear HP42
             refine start_ (n := 10) (S := fun w' => w'.cell? ⟨gb132, 0, none⟩ = some (.int .i64 ji4) ∧ w'.cell? ⟨gb132, 1, none⟩ = some (.slice (some ⟨go38, 0, none⟩) x133001_2.length co41) ∧ w'.cell? ⟨go38, (x8_1).toNat, none⟩ = some (.int .i64 (rd x133001_2 x8_1))) (ds := [9]) #[Zz,Zz,Zz,Zz,Zz,Zz,Zz,Zz,Zz,Zz] (by kernel_rfl) rfl rfl ⟨(Kc BK132.out 0).trans rfl, (Kc BK132.out 1).trans rfl, hx144_0⟩ (fun hHeld => ?_); refine with_tabW spec_l1Cur_tournament.tab12 spec_l1Cur_tournament.bits12 (fun HT_ HW_ => ?_)
             generalize w39.drew = w40 at HO_133001 BK125 BK132 HI0 HK HB GG38 HQ42 hf38_0 hx144_0 hx38_0 hHeld ⊢
             refine pure_ (i := 0) (N := some 45) (v := ?_) (a' := ?_) #[Yy,Zz,Zz,Zz,Zz,Zz,Zz,Zz,Zz,Zz] rfl rfl (any_of HT_.out (by kernel_rfl)) (fun _ _ _ h => h) (Or.inl ⟨by rfl, ?_⟩) ?_ ?_
             rotate_left
             ·
              intro w'
              go_simp
              with_reducible rfl
             rotate_left
             ·
              simp only [Act.put, List.setIfInBounds_toArray, List.set_cons_zero, List.set_cons_succ, i64_w, i32_w]
              rfl
             refine pure_ (i := 2) (N := some 47) (v := ?_) (a' := ?_) #[Yy,Zz,Yy,Zz,Zz,Zz,Zz,Zz,Zz,Zz] rfl rfl (any_of HT_.out (by kernel_rfl)) (fun _ _ _ h => h) (Or.inl ⟨by rfl, ?_⟩) ?_ ?_
             rotate_left
             ·
              intro w'
              go_simp
              with_reducible rfl
             rotate_left
             ·
              simp only [Act.put, List.setIfInBounds_toArray, List.set_cons_zero, List.set_cons_succ, i64_w, i32_w]
              rfl
             refine pure_ (i := 5) (N := some 50) (v := ?_) (a' := ?_) #[Yy,Zz,Yy,Zz,Zz,Yy,Zz,Zz,Zz,Zz] rfl rfl (any_of HT_.out (by kernel_rfl)) (fun _ _ _ h => h) (Or.inl ⟨by rfl, ?_⟩) ?_ ?_
             rotate_left
             ·
              intro w'
              go_simp
              with_reducible rfl
             rotate_left
             ·
              simp only [Act.put, List.setIfInBounds_toArray, List.set_cons_zero, List.set_cons_succ, i64_w, i32_w]
              rfl
             refine pure_ (i := 6) (N := some 51) (v := ?_) (a' := ?_) #[Yy,Zz,Yy,Zz,Zz,Yy,Yy,Zz,Zz,Zz] rfl rfl (any_of HT_.out (by kernel_rfl)) (fun _ _ _ h => h) (Or.inl ⟨by rfl, ?_⟩) ?_ ?_
             rotate_left
             ·
              intro w'
              go_simp
              with_reducible rfl
             rotate_left
             ·
              simp only [Act.put, List.setIfInBounds_toArray, List.set_cons_zero, List.set_cons_succ, i64_w, i32_w]
              rfl
             refine take_ (i := 1) (N := some 46) (v := ?_) (a' := ?_) #[Yy,Yy,Yy,Zz,Zz,Yy,Yy,Zz,Zz,Zz] rfl rfl (take_ofW HT_.out HW_.out (by kernel_rfl)) (fun _ _ _ h => h) (Or.inl ⟨by rfl, ?_⟩) hHeld ?_ ?_
             rotate_left
             ·
              rintro w' ⟨s0, s1, s2⟩
              go_simp
              with_reducible rfl
             rotate_left
             ·
              simp only [Act.put, List.setIfInBounds_toArray, List.set_cons_zero, List.set_cons_succ, i64_w, i32_w]
              rfl
             refine pure_ (i := 3) (N := some 48) (v := ?_) (a' := ?_) #[Yy,Yy,Yy,Yy,Zz,Yy,Yy,Zz,Zz,Zz] rfl rfl (any_of HT_.out (by kernel_rfl)) (fun _ _ _ h => h) (Or.inl ⟨by rfl, ?_⟩) ?_ ?_
             rotate_left
             ·
              intro w'
              go_simp
              with_reducible rfl
             rotate_left
             ·
              simp only [Act.put, List.setIfInBounds_toArray, List.set_cons_zero, List.set_cons_succ, i64_w, i32_w]
              rfl
             refine take_ (i := 4) (N := some 49) (v := ?_) (a' := ?_) #[Yy,Yy,Yy,Yy,Yy,Yy,Yy,Zz,Zz,Zz] rfl rfl (take_ofW HT_.out HW_.out (by kernel_rfl)) (fun _ _ _ h => h) (Or.inl ⟨by rfl, ?_⟩) hHeld ?_ ?_
             rotate_left
             ·
              rintro w' ⟨s0, s1, s2⟩
              go_simp
              with_reducible rfl
             rotate_left
             ·
              simp only [Act.put, List.setIfInBounds_toArray, List.set_cons_zero, List.set_cons_succ, i64_w, i32_w]
              rfl
             refine pure_ (i := 7) (N := some 52) (v := ?_) (a' := ?_) #[Yy,Yy,Yy,Yy,Yy,Yy,Yy,Yy,Zz,Zz] rfl rfl (any_of HT_.out (by kernel_rfl)) (fun _ _ _ h => h) (Or.inl ⟨by rfl, ?_⟩) ?_ ?_
             rotate_left
             ·
              intro w'
              go_simp
              with_reducible rfl
             rotate_left
             ·
              simp only [Act.put, List.setIfInBounds_toArray, List.set_cons_zero, List.set_cons_succ, i64_w, i32_w]
              rfl
             refine pure_ (i := 8) (N := some 53) (v := ?_) (a' := ?_) #[Yy,Yy,Yy,Yy,Yy,Yy,Yy,Yy,Yy,Zz] rfl rfl (any_of HT_.out (by kernel_rfl)) (fun _ _ _ h => h) (Or.inl ⟨by rfl, ?_⟩) ?_ ?_
             rotate_left
             ·
              intro w'
              go_simp
              with_reducible rfl
             rotate_left
             ·
              simp only [Act.put, List.setIfInBounds_toArray, List.set_cons_zero, List.set_cons_succ, i64_w, i32_w]
              rfl
             refine last_ (i := 9) (N := none) #[Yy,Yy,Yy,Yy,Yy,Yy,Yy,Yy,Yy,Yy] rfl rfl (one_of HT_.out (by kernel_rfl)) (by decide) (fun K hK => ?_)
             refine skip_ (w1 := ?_) (by rfl) rfl ?_ ?_
             rotate_left
             ·
              go_simp
              rfl
             refine hK.out _ _ ?_
             clear hK K
             refine done_ (done_of HT_.out (by kernel_rfl)) ?_
             try go_wp2
             go_roundg k2
             case measure => have := HK1.out; have := HK2.out; omega
             case rel => exact ⟨(wrap64 (x9_2 + 1)), (t140), (t141), (y145), (.slice (some ⟨go38, 0, none⟩) x133001_2.length co41), (by first | rfl | (simp; done) | (simp [*]; done)), H', ⟨by have := HK1.out; have := HK2.out; omega⟩, ⟨by (with_reducible repeat (first | apply Ra | apply Rn | apply Rd)); exact HQ42.out⟩, ⟨by (with_reducible repeat (first | refine Kn ?_ _ | refine Ke ?_ | refine Ka ?_ _)); refine blk_far ?_ (by have h_ := Kd.R_ne HO_133001.out BK125.out (by decide); intro e_; exact h_ (by rw [e_]; rfl)) _; (with_reducible repeat (first | refine Kn ?_ _ | refine Ke ?_ | refine Ka ?_ _)); exact BK125.out⟩, ⟨by (with_reducible repeat (first | refine Kn ?_ _ | refine Ke ?_ | refine Ka ?_ _)); refine blk_far ?_ (by have h_ := Kd.R_ne HO_133001.out BK132.out (by decide); intro e_; exact h_ (by rw [e_]; rfl)) _; (with_reducible repeat (first | refine Kn ?_ _ | refine Ke ?_ | refine Ka ?_ _)); exact BK132.out⟩, ⟨by repeat (first | (with_reducible first | exact HI0.out | apply IsS67.alloc | apply IsS67.drewN | apply IsS67.drew | apply IsS67.set_1 | apply IsS67.set_2 | refine IsS67.far ?_ HN0_go38.out _ | refine IsS67.far ?_ NB0_125.out _ | refine IsS67.far ?_ NB0_132.out _) | exact HI0.out)⟩, ⟨by repeat (first | (with_reducible first | exact HK.out | apply KeepBut.set_ | apply keep_drewN | apply keep_drew | apply keep_alloc | refine keep_far ?_ GB38.out _ | refine keep_far ?_ GW125.out _ | refine keep_far ?_ GW132.out _) | exact HK.out)⟩, ⟨by repeat (first | (with_reducible first | exact HB.out | apply Ba | apply Bn | apply Bd | refine Bs ?_ (Nat.le_trans HL.out GB38.out) | refine Bs ?_ (IsS67.ge HI0.out) | refine Bs ?_ GE125.out | refine Bs ?_ GE132.out) | exact HB.out)⟩⟩
            ·
             rw [if_neg c36] at H
             exact absurd H (by simp)
           ·
            rw [if_neg c35] at H
            exact absurd H (by simp)
          ·
           rw [if_neg c34] at H
           exact absurd H (by simp)
        ·
         rw [if_neg c22] at H
         have c22b0 : decide (x9_2 < ji4) = false := Df c22
         clear c22
         have H' := Am H
         clear H
         go_wp2
         go_roundg k2
         case measure => have := HK1.out; have := HK2.out; omega
         case rel => exact ⟨(wrap64 (x8_1 + 1)), (x1001_2), (x1002_2), (x133001_2), (u133001), (by first | rfl | (simp; done) | (simp [*]; done)), H', ⟨by have := HK1.out; have := HK2.out; omega⟩, ⟨by (with_reducible repeat (first | apply Ra | apply Rn | apply Rd)); exact HO_133001.out⟩, ⟨by (with_reducible repeat (first | refine Kn ?_ _ | refine Ke ?_ | refine Ka ?_ _)); exact BK125.out⟩, ⟨by (with_reducible repeat (first | refine Kn ?_ _ | refine Ke ?_ | refine Ka ?_ _)); exact BK132.out⟩, ⟨by repeat (first | (with_reducible first | exact HI0.out | apply IsS67.alloc | apply IsS67.drewN | apply IsS67.drew | apply IsS67.set_1 | apply IsS67.set_2 | refine IsS67.far ?_ NB0_125.out _ | refine IsS67.far ?_ NB0_132.out _) | exact HI0.out)⟩, ⟨by repeat (first | (with_reducible first | exact HK.out | apply KeepBut.set_ | apply keep_drewN | apply keep_drew | apply keep_alloc | refine keep_far ?_ GW125.out _ | refine keep_far ?_ GW132.out _) | exact HK.out)⟩, ⟨by repeat (first | (with_reducible first | exact HB.out | apply Ba | apply Bn | apply Bd | refine Bs ?_ (IsS67.ge HI0.out) | refine Bs ?_ GE125.out | refine Bs ?_ GE132.out) | exact HB.out)⟩⟩
     ·
      rw [if_neg c21] at H
      have c21b0 : decide (x8_1 < ji4) = false := Df c21
      clear c21
      replace H := Option.bind_eq_some_iff.mp H
      obtain ⟨⟨t146, t147, t148⟩, A430, H⟩ := H
      replace H : (if t146 = 0 then ((spec_l1Cur_pick.f s0_0 t147 t148 ji4).bind fun bt149 => (if 0 ≤ ji4 then ((spec_l1Cur_among.f s0_0 bt149.2.1 bt149.2.2 (([(-1), 0, 1, 2, shl .i64 1 ji4] : List Int))).bind fun bt155 => (if 0 ≤ bt149.1 then (if bt149.1 < (x133001_1.length : Int) then (some (ji4, (x133001_1.set (bt149.1 : Int).toNat bt155.1), bt155.2.1, bt155.2.2)) else (none)) else (none))) else (none))) else (if t146 = 1 then ((spec_l1Cur_among.f s0_0 t147 t148 (([0, (-1), wrap64 (ji4 + 1), 9] : List Int))).bind fun bt162 => (some (bt162.1, x133001_1, bt162.2.1, bt162.2.2))) else (some (ji4, x133001_1, t147, t148)))) = some (r1, r2, r3, r4) := H
      have A43 := Am A430
      clear A430
      by_cases c44 : t146 = 0
      ·
       rw [if_pos c44] at H
       have c44b0 : (t146 == 0) = true := beq_iff_eq.mpr c44
       have c44b1 : (t146 != 0) = false := bne_eq_false_iff_eq.mpr c44
       clear c44
       replace H := Option.bind_eq_some_iff.mp H
       obtain ⟨⟨t149, t150, t151⟩, A450, H⟩ := H
       replace H : (if 0 ≤ ji4 then ((spec_l1Cur_among.f s0_0 t150 t151 (([(-1), 0, 1, 2, shl .i64 1 ji4] : List Int))).bind fun bt155 => (if 0 ≤ t149 then (if t149 < (x133001_1.length : Int) then (some (ji4, (x133001_1.set (t149 : Int).toNat bt155.1), bt155.2.1, bt155.2.2)) else (none)) else (none))) else (none)) = some (r1, r2, r3, r4) := H
       have A45 := Am A450
       clear A450
       by_cases c46 : 0 ≤ ji4
       ·
        rw [if_pos c46] at H
        have c46b0 := eq_true c46
        have c46b1 : decide (0 ≤ ji4) = true := De c46
        clear c46
        obtain ⟨ji47, hji47⟩ : ∃ j_ : Int, (shl .i64 1 ji4) = j_ := ⟨_, rfl⟩
        replace H : ((spec_l1Cur_among.f s0_0 t150 t151 (([(-1), 0, 1, 2, ji47] : List Int))).bind fun bt155 => (if 0 ≤ t149 then (if t149 < (x133001_1.length : Int) then (some (ji4, (x133001_1.set (t149 : Int).toNat bt155.1), bt155.2.1, bt155.2.2)) else (none)) else (none))) = some (r1, r2, r3, r4) := by first | (rw [hji47] at H; exact H) | (simp only [hji47] at H ⊢; exact H)
        (try rw [hji47] at A43)
        (try rw [hji47] at A45)
        have hji47_ : (IntKind.i64.wrap (1 * 2 ^ min ji4.toNat 64)) = ji47 := hji47
        have hji47z : ji4 ≤ 64 → (IntKind.i64.wrap (1 * 2 ^ ji4.toNat)) = ji47 := shl_small hji47
        have hji47u : (IntKind.i64.wrap (2 ^ min ji4.toNat 64)) = ji47 := by have h_ := hji47_; rw [Int.one_mul] at h_; exact h_
        have hji47v : ji4 ≤ 64 → (IntKind.i64.wrap (2 ^ ji4.toNat)) = ji47 := fun hle_ => by have h_ := hji47z hle_; rw [Int.one_mul] at h_; exact h_
        have hji47y : (wrap64 (1 * 2 ^ min ji4.toNat 64)) = ji47 := (i64_w _).symm.trans hji47_
        have hji47x : ji4 ≤ 64 → (wrap64 (1 * 2 ^ ji4.toNat)) = ji47 := fun h_ => (i64_w _).symm.trans (hji47z h_)
        obtain ⟨y152, hy152⟩ : ∃ y_ : List Int, y_ = (([(-1), 0, 1, 2, ji47] : List Int)) := ⟨_, rfl⟩
        replace H : ((spec_l1Cur_among.f s0_0 t150 t151 y152).bind fun bt155 => (if 0 ≤ t149 then (if t149 < (x133001_1.length : Int) then (some (ji4, (x133001_1.set (t149 : Int).toNat bt155.1), bt155.2.1, bt155.2.2)) else (none)) else (none))) = some (r1, r2, r3, r4) := by first | (rw [hy152]; with_reducible exact H) | (have H2_ := (Option.bind_some _ _).symm.trans H; rw [hy152]; with_reducible exact H2_) | (have H2_ := (Option.bind_some _ _).symm.trans H; with_reducible exact H2_) | with_reducible exact H | (rw [hy152]; exact H) | exact H
        have Ny152 := Am hy152
        clear hy152
        replace H := Option.bind_eq_some_iff.mp H
        obtain ⟨⟨t155, t156, t157⟩, A480, H⟩ := H
        replace H : (if 0 ≤ t149 then (if t149 < (x133001_1.length : Int) then (some (ji4, (x133001_1.set (t149 : Int).toNat t155), t156, t157)) else (none)) else (none)) = some (r1, r2, r3, r4) := H
        have A48 := Am A480
        clear A480
        by_cases c49 : 0 ≤ t149
        ·
         rw [if_pos c49] at H
         have c49b0 : decide (0 ≤ t149) = true := De c49
         clear c49
         by_cases c50 : t149 < (x133001_1.length : Int)
         ·
          rw [if_pos c50] at H
          have c50b0 : decide (t149 < (x133001_1.length : Int)) = true := De c50
          clear c50
          obtain ⟨y158, hy158⟩ : ∃ y_ : List Int, y_ = (x133001_1.set (t149 : Int).toNat t155) := ⟨_, rfl⟩
          replace H : (some (ji4, y158, t156, t157)) = some (r1, r2, r3, r4) := by first | (rw [hy158]; with_reducible exact H) | (have H2_ := (Option.bind_some _ _).symm.trans H; rw [hy158]; with_reducible exact H2_) | (have H2_ := (Option.bind_some _ _).symm.trans H; with_reducible exact H2_) | with_reducible exact H | (rw [hy158]; exact H) | exact H
          have Ny158 := Am hy158
          clear hy158
          simp only [Option.some.injEq, Prod.mk.injEq] at H
          obtain ⟨rfl, rfl, rfl, rfl⟩ := H
          try go_wp2_with (first | ((with_reducible refine gate_callee (f := 80) rfl ?_); refine goesL_ (some 55) rfl rfl Try.func80 (by kernel_rfl) rfl #[.pointer (some ⟨g, 0, none⟩), .int .i64 24] rfl (by (try simp only [List.map_toArray, List.map_cons, List.map_nil]); first | done | rfl) ?_; (with_reducible refine (spec_l1Cur_pick.calls g s0_0 x1001_1 x1002_1 24 t146 t147 t148 w0 _ ?side1 ?side2 A43.out).mono ?_); (case side1 => repeat (first | (with_reducible first | exact HI0.out | apply IsS67.alloc | apply IsS67.drewN | apply IsS67.drew | apply IsS67.set_1 | apply IsS67.set_2 | refine IsS67.far ?_ NB0_125.out _ | refine IsS67.far ?_ NB0_132.out _) | exact HI0.out)); (case side2 => repeat (first | (with_reducible first | exact HB.out | apply Ba | apply Bn | apply Bd | refine Bs ?_ (IsS67.ge HI0.out) | refine Bs ?_ GE125.out | refine Bs ?_ GE132.out) | exact HB.out)); rintro e w52 ⟨rfl, hi, hb, hk⟩; refine ⟨_, rfl, ?_⟩; have n0_ := Am (Kd.R_mono (Kd.R_keep (IsS67.apart (show IsS67 w0 _ g s0_0 x1001_1 x1002_1 from by repeat (first | (with_reducible first | exact HI0.out | apply IsS67.alloc | apply IsS67.drewN | apply IsS67.drew | apply IsS67.set_1 | apply IsS67.set_2 | refine IsS67.far ?_ NB0_125.out _ | refine IsS67.far ?_ NB0_132.out _) | exact HI0.out)) (by (with_reducible repeat (first | apply Ra | apply Rn | apply Rd)); exact HO_133001.out) (by decide)) hk (fun _ h => h.2)) (fun _ h => h.1)); have n1_ := Am (KeepBut.blk hk (g' := gb125) (o := .cells #[.int .i64 0, .slice none 0 0] 27 (0, 0)) (by (with_reducible repeat (first | refine Kn ?_ _ | refine Ke ?_ | refine Ka ?_ _)); exact BK125.out) NB125_0.out (by simp)); have n2_ := Am (KeepBut.blk hk (g' := gb132) (o := .cells #[.int .i64 ji4, u133001] 27 (0, 0)) (by (with_reducible repeat (first | refine Kn ?_ _ | refine Ke ?_ | refine Ka ?_ _)); exact BK132.out) NB132_0.out (by simp)); have n3_ := Am (KeepBut.trans (by repeat (first | (with_reducible first | exact HK.out | apply KeepBut.set_ | apply keep_drewN | apply keep_drew | apply keep_alloc | refine keep_far ?_ GW125.out _ | refine keep_far ?_ GW132.out _) | exact HK.out)) hk (.inl rfl)); have n4_ := Am (hb); have n5_ := Am (hi); clear HO_133001; clear BK125; clear BK132; clear HK; clear HB; clear HI0; have HO_133001 := n0_; have BK125 := n1_; have BK132 := n2_; have HK := n3_; have HB := n4_; have HI0 := n5_; clear n0_ n1_ n2_ n3_ n4_ n5_; (try clear hb); (try clear hb2); (try clear hk); (try clear hi)))
          have n0_ := Am (Rd HO_133001.out)
          have n1_ := Am (Ke BK125.out)
          have n2_ := Am (Ke BK132.out)
          have n3_ := Am (IsS67.drew HI0.out)
          have n4_ := Am (keep_drew HK.out)
          have n5_ := Am (Bd HB.out)
          clear HO_133001
          clear BK125
          clear BK132
          clear HI0
          clear HK
          clear HB
          have HO_133001 := n0_
          have BK125 := n1_
          have BK132 := n2_
          have HI0 := n3_
          have HK := n4_
          have HB := n5_
          clear n0_ n1_ n2_ n3_ n4_ n5_
          refine start_ (n := 12) (S := fun w' => w'.cell? ⟨gb132, 0, none⟩ = some (.int .i64 ji4) ∧ w'.cell? ⟨gb132, 1, none⟩ = some (u133001)) (ds := [11]) #[Zz,Zz,Zz,Zz,Zz,Zz,Zz,Zz,Zz,Zz,Zz,Zz] (by kernel_rfl) rfl rfl ⟨(Kc BK132.out 0).trans rfl, (Kc BK132.out 1).trans rfl⟩ (fun hHeld => ?_); refine with_tabW spec_l1Cur_tournament.tab15 spec_l1Cur_tournament.bits15 (fun HT_ HW_ => ?_)
          generalize w52.drew = w53 at HO_133001 BK125 BK132 HI0 HK HB hHeld ⊢
          refine pure_ (i := 0) (N := some 58) (v := ?_) (a' := ?_) #[Yy,Zz,Zz,Zz,Zz,Zz,Zz,Zz,Zz,Zz,Zz,Zz] rfl rfl (any_of HT_.out (by kernel_rfl)) (fun _ _ _ h => h) (Or.inl ⟨by rfl, ?_⟩) ?_ ?_
          rotate_left
          ·
           intro w'
           go_simp
           with_reducible rfl
          rotate_left
          ·
           simp only [Act.put, List.setIfInBounds_toArray, List.set_cons_zero, List.set_cons_succ, i64_w, i32_w]
           rfl
          refine pure_ (i := 2) (N := some 60) (v := ?_) (a' := ?_) #[Yy,Zz,Yy,Zz,Zz,Zz,Zz,Zz,Zz,Zz,Zz,Zz] rfl rfl (any_of HT_.out (by kernel_rfl)) (fun _ _ _ h => h) (Or.inl ⟨by rfl, ?_⟩) ?_ ?_
          rotate_left
          ·
           intro w'
           go_simp
           with_reducible rfl
          rotate_left
          ·
           simp only [Act.put, List.setIfInBounds_toArray, List.set_cons_zero, List.set_cons_succ, i64_w, i32_w]
           rfl
          refine pure_ (i := 3) (N := some 61) (v := ?_) (a' := ?_) #[Yy,Zz,Yy,Yy,Zz,Zz,Zz,Zz,Zz,Zz,Zz,Zz] rfl rfl (any_of HT_.out (by kernel_rfl)) (fun _ _ _ h => h) (Or.inl ⟨by rfl, ?_⟩) ?_ ?_
          rotate_left
          ·
           intro w'
           go_simp
           with_reducible rfl
          rotate_left
          ·
           simp only [Act.put, List.setIfInBounds_toArray, List.set_cons_zero, List.set_cons_succ, i64_w, i32_w]
           rfl
          refine pure_ (i := 5) (N := some 63) (v := ?_) (a' := ?_) #[Yy,Zz,Yy,Yy,Zz,Yy,Zz,Zz,Zz,Zz,Zz,Zz] rfl rfl (any_of HT_.out (by kernel_rfl)) (fun _ _ _ h => h) (Or.inl ⟨by rfl, ?_⟩) ?_ ?_
          rotate_left
          ·
           intro w'
           go_simp
           with_reducible rfl
          rotate_left
          ·
           simp only [Act.put, List.setIfInBounds_toArray, List.set_cons_zero, List.set_cons_succ, i64_w, i32_w]
           rfl
          refine pure_ (i := 6) (N := some 64) (v := ?_) (a' := ?_) #[Yy,Zz,Yy,Yy,Zz,Yy,Yy,Zz,Zz,Zz,Zz,Zz] rfl rfl (any_of HT_.out (by kernel_rfl)) (fun _ _ _ h => h) (Or.inl ⟨by rfl, ?_⟩) ?_ ?_
          rotate_left
          ·
           intro w'
           go_simp
           with_reducible rfl
          rotate_left
          ·
           simp only [Act.put, List.setIfInBounds_toArray, List.set_cons_zero, List.set_cons_succ, i64_w, i32_w]
           rfl
          refine pure_ (i := 7) (N := some 65) (v := ?_) (a' := ?_) #[Yy,Zz,Yy,Yy,Zz,Yy,Yy,Yy,Zz,Zz,Zz,Zz] rfl rfl (any_of HT_.out (by kernel_rfl)) (fun _ _ _ h => h) (Or.inl ⟨by rfl, ?_⟩) ?_ ?_
          rotate_left
          ·
           intro w'
           go_simp
           with_reducible rfl
          rotate_left
          ·
           simp only [Act.put, List.setIfInBounds_toArray, List.set_cons_zero, List.set_cons_succ, i64_w, i32_w]
           rfl
          refine take_ (i := 1) (N := some 59) (v := ?_) (a' := ?_) #[Yy,Yy,Yy,Yy,Zz,Yy,Yy,Yy,Zz,Zz,Zz,Zz] rfl rfl (take_ofW HT_.out HW_.out (by kernel_rfl)) (fun _ _ _ h => h) (Or.inl ⟨by rfl, ?_⟩) hHeld ?_ ?_
          rotate_left
          ·
           rintro w' ⟨s0, s1⟩
           go_simp
           with_reducible rfl
          rotate_left
          ·
           simp only [Act.put, List.setIfInBounds_toArray, List.set_cons_zero, List.set_cons_succ, i64_w, i32_w]
           rfl
          refine join_ (σ := Value) 3 #[Yy,Yy,Yy,Yy,Yy,Yy,Yy,Yy,Yy,Zz,Zz,Zz] (fun s_ => [(62, .int .i64 t149), (66, s_)]) (fun s_ w' => (w'.cell? ⟨gb132, 0, none⟩ = some (.int .i64 ji4) ∧ w'.cell? ⟨gb132, 1, none⟩ = some (u133001)) ∧ (Kd.R (Kd.int .i64) 3 w' w.heap.size (fun k_ => some k_ ≠ (u133001 : Value).ownBlock) s_ y152) ∧ (Kd.R (Kd.int .i64) 3 w' w.heap.size (fun k_ => some k_ ≠ (s_ : Value).ownBlock) u133001 x133001_1) ∧ (w'.heap[gb125]? = some (.cells #[.int .i64 0, .slice none 0 0] 27 (0, 0))) ∧ (w'.heap[gb132]? = some (.cells #[.int .i64 ji4, u133001] 27 (0, 0))) ∧ (IsS67 w0 w' g s0_0 t150 t151) ∧ (KeepBut w w' g none) ∧ (Below w0.heap.size w0 w')) ?_ ?_
          rotate_left
          ·
           intro hCont
           refine two_ (i := 4) (j := 8) (Ni := some 62) (Nj := some 66) #[Yy,Yy,Yy,Yy,Yy,Yy,Yy,Yy,Zz,Zz,Zz,Zz] #[Yy,Yy,Yy,Yy,Zz,Yy,Yy,Yy,Yy,Zz,Zz,Zz] rfl rfl rfl rfl (two_of HT_.out (by kernel_rfl)) (by decide) (by decide) (fun K hK => ?_) (fun K hK => ?_)
           ·
            skip
            refine goes_ Try.func80 (by kernel_rfl) rfl #[.pointer (some ⟨g, 0, none⟩), .int .i64 ji4] (by rfl) rfl rfl (by (try simp only [List.map_toArray, List.map_cons, List.map_nil]); first | done | (simp only [hji4]; rfl) | rfl | (simp only [List.length_drop, List.length_take]; rfl)) ?_
            with_reducible refine (spec_l1Cur_pick.calls g s0_0 t147 t148 ji4 t149 t150 t151 w0 _ ?side1 ?side2 A45.out).mono ?_
            (case side1 => repeat (first | (with_reducible first | exact HI0.out | apply IsS67.alloc | apply IsS67.drewN | apply IsS67.drew | apply IsS67.set_1 | apply IsS67.set_2 | refine IsS67.far ?_ NB0_125.out _ | refine IsS67.far ?_ NB0_132.out _) | exact HI0.out))
            (case side2 => repeat (first | (with_reducible first | exact HB.out | apply Ba | apply Bn | apply Bd | refine Bs ?_ (IsS67.ge HI0.out) | refine Bs ?_ GE125.out | refine Bs ?_ GE132.out) | exact HB.out))
            rintro e w54 ⟨rfl, hi, hb, hk⟩
            refine ⟨_, rfl, ?_⟩
            have n0_ := Am (Kd.R_mono (Kd.R_keep (IsS67.apart (show IsS67 w0 _ g s0_0 t147 t148 from by repeat (first | (with_reducible first | exact HI0.out | apply IsS67.alloc | apply IsS67.drewN | apply IsS67.drew | apply IsS67.set_1 | apply IsS67.set_2 | refine IsS67.far ?_ NB0_125.out _ | refine IsS67.far ?_ NB0_132.out _) | exact HI0.out)) (by (with_reducible repeat (first | apply Ra | apply Rn | apply Rd)); exact HO_133001.out) (by decide)) hk (fun _ h => h.2)) (fun _ h => h.1))
            have n1_ := Am (KeepBut.blk hk (g' := gb125) (o := .cells #[.int .i64 0, .slice none 0 0] 27 (0, 0)) (by (with_reducible repeat (first | refine Kn ?_ _ | refine Ke ?_ | refine Ka ?_ _)); exact BK125.out) NB125_0.out (by simp))
            have n2_ := Am (KeepBut.blk hk (g' := gb132) (o := .cells #[.int .i64 ji4, u133001] 27 (0, 0)) (by (with_reducible repeat (first | refine Kn ?_ _ | refine Ke ?_ | refine Ka ?_ _)); exact BK132.out) NB132_0.out (by simp))
            have n3_ := Am (KeepBut.trans (by repeat (first | (with_reducible first | exact HK.out | apply KeepBut.set_ | apply keep_drewN | apply keep_drew | apply keep_alloc | refine keep_far ?_ GW125.out _ | refine keep_far ?_ GW132.out _) | exact HK.out)) hk (.inl rfl))
            have n4_ := Am (hb)
            have n5_ := Am (hi)
            clear HO_133001
            clear BK125
            clear BK132
            clear HK
            clear HB
            clear HI0
            have HO_133001 := n0_
            have BK125 := n1_
            have BK132 := n2_
            have HK := n3_
            have HB := n4_
            have HI0 := n5_
            clear n0_ n1_ n2_ n3_ n4_ n5_
            (try clear hb)
            (try clear hb2)
            (try clear hk)
            (try clear hi)
            refine hK.out _ _ ⟨(Kc BK132.out 0).trans rfl, (Kc BK132.out 1).trans rfl⟩ (fun hHeld => ?_)
            clear hK K
            refine norm_ (a' := ?_) ?_ ?_
            rotate_left
            ·
             show Act.put _ (some 62) _ = _
             simp only [Act.put, List.setIfInBounds_toArray, List.set_cons_zero, List.set_cons_succ, i64_w, i32_w]
             rfl
            refine one_ (i := 8) (N := some 66) #[Yy,Yy,Yy,Yy,Yy,Yy,Yy,Yy,Yy,Zz,Zz,Zz] rfl rfl (one_of HT_.out (by kernel_rfl)) (by decide) (fun K hK => ?_)
            refine Kd.R_lit_step (Kd.int .i64) _ 3 ?hg (N := 66) ?hd (xs := ([(-1), 0, 1, 2, ji47] : List Int)) (inner := [.int .i64 (-1), .int .i64 0, .int .i64 1, .int .i64 2, .int .i64 ji47]) (ok := fun _ => True) (okp := fun _ => True) ?hr ?hp (fun _ hk => hk) trivial (Below.refl _ _) (Nat.le_refl _) (by simp) ?_; (case hd => rfl); (case hg => rfl); (case hr => first | (go_simp; done) | (go_simp; rfl)); (case hp => exact (Reps.one (show Kd.M (Kd.int .i64) _ _ _ (-1) [.int .i64 (-1)] from rfl) (Reps.one (show Kd.M (Kd.int .i64) _ _ _ 0 [.int .i64 0] from rfl) (Reps.one (show Kd.M (Kd.int .i64) _ _ _ 1 [.int .i64 1] from rfl) (Reps.one (show Kd.M (Kd.int .i64) _ _ _ 2 [.int .i64 2] from rfl) (Reps.one (show Kd.M (Kd.int .i64) _ _ _ ji47 [.int .i64 ji47] from rfl) (Reps.none _ _)))))))
            intro v153 w55 ho56 hb hg_ hnew_
            clear hg_ hnew_
            (first | rw [← Ny152.out] at ho56 | (simp only [Int.reduceToNat] at ho56; rw [← Ny152.out] at ho56))
            have n0_ := Am (Kd.R_elder' (by (with_reducible repeat (first | apply Ra | apply Rn | apply Rd)); exact HO_133001.out) (Kd.R_base ho56) hb)
            have n1_ := Am (Kd.R_lower (Kd.R_new' ho56 (Kd.R_lt (by (with_reducible repeat (first | apply Ra | apply Rn | apply Rd)); exact HO_133001.out))) (keep_size (w := w) (g := g) (row := none) (by repeat (first | (with_reducible first | exact HK.out | apply KeepBut.set_ | apply keep_drewN | apply keep_drew | apply keep_alloc | refine keep_far ?_ GW125.out _ | refine keep_far ?_ GW132.out _) | exact HK.out))))
            have n2_ := Am (blk_below (g := gb125) (o := .cells #[.int .i64 0, .slice none 0 0] 27 (0, 0)) (by (with_reducible repeat (first | refine Kn ?_ _ | refine Ke ?_ | refine Ka ?_ _)); exact BK125.out) hb)
            have n3_ := Am (blk_below (g := gb132) (o := .cells #[.int .i64 ji4, u133001] 27 (0, 0)) (by (with_reducible repeat (first | refine Kn ?_ _ | refine Ke ?_ | refine Ka ?_ _)); exact BK132.out) hb)
            have n4_ := Am (IsS67.below (by repeat (first | (with_reducible first | exact HI0.out | apply IsS67.alloc | apply IsS67.drewN | apply IsS67.drew | apply IsS67.set_1 | apply IsS67.set_2 | refine IsS67.far ?_ NB0_125.out _ | refine IsS67.far ?_ NB0_132.out _) | exact HI0.out)) hb)
            have n5_ := Am (KeepBut.trans (by repeat (first | (with_reducible first | exact HK.out | apply KeepBut.set_ | apply keep_drewN | apply keep_drew | apply keep_alloc | refine keep_far ?_ GW125.out _ | refine keep_far ?_ GW132.out _) | exact HK.out)) (KeepBut.of_below hb g none) (.inl rfl))
            have n6_ := Am (below_step (by repeat (first | (with_reducible first | exact HB.out | apply Ba | apply Bn | apply Bd | refine Bs ?_ (IsS67.ge HI0.out) | refine Bs ?_ GE125.out | refine Bs ?_ GE132.out) | exact HB.out)) hb)
            clear HO_133001
            clear BK125
            clear BK132
            clear HI0
            clear HK
            clear HB
            have HO_133001 := n0_
            have HO154 := n1_
            have BK125 := n2_
            have BK132 := n3_
            have HI0 := n4_
            have HK := n5_
            have HB := n6_
            clear n0_ n1_ n2_ n3_ n4_ n5_ n6_
            clear hb ho56
            refine hK.out _ _ ⟨(Kc BK132.out 0).trans rfl, (Kc BK132.out 1).trans rfl⟩ (fun hHeld => ?_)
            clear hK K
            refine norm_ (a' := ?_) ?_ ?_
            rotate_left
            ·
             show Act.put _ (some 66) _ = _
             simp only [Act.put, List.setIfInBounds_toArray, List.set_cons_zero, List.set_cons_succ, i64_w, i32_w]
             rfl
            exact norm_ (by simp only [putAll, Act.put, List.setIfInBounds_toArray, List.set_cons_zero, List.set_cons_succ]) (hCont (v153) _ ⟨hHeld, (by (with_reducible repeat (first | apply Ra | apply Rn | apply Rd)); exact Kd.R_mono HO154.out (fun _ hk => hk.2)), (by (with_reducible repeat (first | apply Ra | apply Rn | apply Rd)); exact Kd.R_mono HO_133001.out (fun _ hk => hk.2)), (by (with_reducible repeat (first | refine Kn ?_ _ | refine Ke ?_ | refine Ka ?_ _)); exact BK125.out), (by (with_reducible repeat (first | refine Kn ?_ _ | refine Ke ?_ | refine Ka ?_ _)); exact BK132.out), (by repeat (first | (with_reducible first | exact HI0.out | apply IsS67.alloc | apply IsS67.drewN | apply IsS67.drew | apply IsS67.set_1 | apply IsS67.set_2 | refine IsS67.far ?_ NB0_125.out _ | refine IsS67.far ?_ NB0_132.out _) | exact HI0.out)), (by repeat (first | (with_reducible first | exact HK.out | apply KeepBut.set_ | apply keep_drewN | apply keep_drew | apply keep_alloc | refine keep_far ?_ GW125.out _ | refine keep_far ?_ GW132.out _) | exact HK.out)), (by repeat (first | (with_reducible first | exact HB.out | apply Ba | apply Bn | apply Bd | refine Bs ?_ (IsS67.ge HI0.out) | refine Bs ?_ GE125.out | refine Bs ?_ GE132.out) | exact HB.out))⟩)
           ·
            skip
            refine Kd.R_lit_step (Kd.int .i64) _ 3 ?hg (N := 66) ?hd (xs := ([(-1), 0, 1, 2, ji47] : List Int)) (inner := [.int .i64 (-1), .int .i64 0, .int .i64 1, .int .i64 2, .int .i64 ji47]) (ok := fun _ => True) (okp := fun _ => True) ?hr ?hp (fun _ hk => hk) trivial (Below.refl _ _) (Nat.le_refl _) (by simp) ?_; (case hd => rfl); (case hg => rfl); (case hr => first | (go_simp; done) | (go_simp; rfl)); (case hp => exact (Reps.one (show Kd.M (Kd.int .i64) _ _ _ (-1) [.int .i64 (-1)] from rfl) (Reps.one (show Kd.M (Kd.int .i64) _ _ _ 0 [.int .i64 0] from rfl) (Reps.one (show Kd.M (Kd.int .i64) _ _ _ 1 [.int .i64 1] from rfl) (Reps.one (show Kd.M (Kd.int .i64) _ _ _ 2 [.int .i64 2] from rfl) (Reps.one (show Kd.M (Kd.int .i64) _ _ _ ji47 [.int .i64 ji47] from rfl) (Reps.none _ _)))))))
            intro v153 w54 ho55 hb hg_ hnew_
            clear hg_ hnew_
            (first | rw [← Ny152.out] at ho55 | (simp only [Int.reduceToNat] at ho55; rw [← Ny152.out] at ho55))
            have n0_ := Am (Kd.R_elder' (by (with_reducible repeat (first | apply Ra | apply Rn | apply Rd)); exact HO_133001.out) (Kd.R_base ho55) hb)
            have n1_ := Am (Kd.R_lower (Kd.R_new' ho55 (Kd.R_lt (by (with_reducible repeat (first | apply Ra | apply Rn | apply Rd)); exact HO_133001.out))) (keep_size (w := w) (g := g) (row := none) (by repeat (first | (with_reducible first | exact HK.out | apply KeepBut.set_ | apply keep_drewN | apply keep_drew | apply keep_alloc | refine keep_far ?_ GW125.out _ | refine keep_far ?_ GW132.out _) | exact HK.out))))
            have n2_ := Am (blk_below (g := gb125) (o := .cells #[.int .i64 0, .slice none 0 0] 27 (0, 0)) (by (with_reducible repeat (first | refine Kn ?_ _ | refine Ke ?_ | refine Ka ?_ _)); exact BK125.out) hb)
            have n3_ := Am (blk_below (g := gb132) (o := .cells #[.int .i64 ji4, u133001] 27 (0, 0)) (by (with_reducible repeat (first | refine Kn ?_ _ | refine Ke ?_ | refine Ka ?_ _)); exact BK132.out) hb)
            have n4_ := Am (IsS67.below (by repeat (first | (with_reducible first | exact HI0.out | apply IsS67.alloc | apply IsS67.drewN | apply IsS67.drew | apply IsS67.set_1 | apply IsS67.set_2 | refine IsS67.far ?_ NB0_125.out _ | refine IsS67.far ?_ NB0_132.out _) | exact HI0.out)) hb)
            have n5_ := Am (KeepBut.trans (by repeat (first | (with_reducible first | exact HK.out | apply KeepBut.set_ | apply keep_drewN | apply keep_drew | apply keep_alloc | refine keep_far ?_ GW125.out _ | refine keep_far ?_ GW132.out _) | exact HK.out)) (KeepBut.of_below hb g none) (.inl rfl))
            have n6_ := Am (below_step (by repeat (first | (with_reducible first | exact HB.out | apply Ba | apply Bn | apply Bd | refine Bs ?_ (IsS67.ge HI0.out) | refine Bs ?_ GE125.out | refine Bs ?_ GE132.out) | exact HB.out)) hb)
            clear HO_133001
            clear BK125
            clear BK132
            clear HI0
            clear HK
            clear HB
            have HO_133001 := n0_
            have HO154 := n1_
            have BK125 := n2_
            have BK132 := n3_
            have HI0 := n4_
            have HK := n5_
            have HB := n6_
            clear n0_ n1_ n2_ n3_ n4_ n5_ n6_
            clear hb ho55
            refine hK.out _ _ ⟨(Kc BK132.out 0).trans rfl, (Kc BK132.out 1).trans rfl⟩ (fun hHeld => ?_)
            clear hK K
            refine norm_ (a' := ?_) ?_ ?_
            rotate_left
            ·
             show Act.put _ (some 66) _ = _
             simp only [Act.put, List.setIfInBounds_toArray, List.set_cons_zero, List.set_cons_succ, i64_w, i32_w]
             rfl
            refine one_ (i := 4) (N := some 62) #[Yy,Yy,Yy,Yy,Yy,Yy,Yy,Yy,Yy,Zz,Zz,Zz] rfl rfl (one_of HT_.out (by kernel_rfl)) (by decide) (fun K hK => ?_)
            refine goes_ Try.func80 (by kernel_rfl) rfl #[.pointer (some ⟨g, 0, none⟩), .int .i64 ji4] (by rfl) rfl rfl (by (try simp only [List.map_toArray, List.map_cons, List.map_nil]); first | done | (simp only [hji4]; rfl) | rfl | (simp only [List.length_drop, List.length_take]; rfl)) ?_
            with_reducible refine (spec_l1Cur_pick.calls g s0_0 t147 t148 ji4 t149 t150 t151 w0 _ ?side1 ?side2 A45.out).mono ?_
            (case side1 => repeat (first | (with_reducible first | exact HI0.out | apply IsS67.alloc | apply IsS67.drewN | apply IsS67.drew | apply IsS67.set_1 | apply IsS67.set_2 | refine IsS67.far ?_ NB0_125.out _ | refine IsS67.far ?_ NB0_132.out _) | exact HI0.out))
            (case side2 => repeat (first | (with_reducible first | exact HB.out | apply Ba | apply Bn | apply Bd | refine Bs ?_ (IsS67.ge HI0.out) | refine Bs ?_ GE125.out | refine Bs ?_ GE132.out) | exact HB.out))
            rintro e w56 ⟨rfl, hi, hb, hk⟩
            refine ⟨_, rfl, ?_⟩
            have n0_ := Am (Kd.R_mono (Kd.R_keep (IsS67.apart (show IsS67 w0 _ g s0_0 t147 t148 from by repeat (first | (with_reducible first | exact HI0.out | apply IsS67.alloc | apply IsS67.drewN | apply IsS67.drew | apply IsS67.set_1 | apply IsS67.set_2 | refine IsS67.far ?_ NB0_125.out _ | refine IsS67.far ?_ NB0_132.out _) | exact HI0.out)) (by (with_reducible repeat (first | apply Ra | apply Rn | apply Rd)); exact HO_133001.out) (by decide)) hk (fun _ h => h.2)) (fun _ h => h.1))
            have n1_ := Am (KeepBut.blk hk (g' := gb125) (o := .cells #[.int .i64 0, .slice none 0 0] 27 (0, 0)) (by (with_reducible repeat (first | refine Kn ?_ _ | refine Ke ?_ | refine Ka ?_ _)); exact BK125.out) NB125_0.out (by simp))
            have n2_ := Am (KeepBut.blk hk (g' := gb132) (o := .cells #[.int .i64 ji4, u133001] 27 (0, 0)) (by (with_reducible repeat (first | refine Kn ?_ _ | refine Ke ?_ | refine Ka ?_ _)); exact BK132.out) NB132_0.out (by simp))
            have n3_ := Am (Kd.R_mono (Kd.R_keep (IsS67.apart (show IsS67 w0 _ g s0_0 t147 t148 from by repeat (first | (with_reducible first | exact HI0.out | apply IsS67.alloc | apply IsS67.drewN | apply IsS67.drew | apply IsS67.set_1 | apply IsS67.set_2 | refine IsS67.far ?_ NB0_125.out _ | refine IsS67.far ?_ NB0_132.out _) | exact HI0.out)) (by (with_reducible repeat (first | apply Ra | apply Rn | apply Rd)); exact HO154.out) (by decide)) hk (fun _ h => h.2)) (fun _ h => h.1))
            have n4_ := Am (KeepBut.trans (by repeat (first | (with_reducible first | exact HK.out | apply KeepBut.set_ | apply keep_drewN | apply keep_drew | apply keep_alloc | refine keep_far ?_ GW125.out _ | refine keep_far ?_ GW132.out _) | exact HK.out)) hk (.inl rfl))
            have n5_ := Am (hb)
            have n6_ := Am (hi)
            clear HO_133001
            clear BK125
            clear BK132
            clear HO154
            clear HK
            clear HB
            clear HI0
            have HO_133001 := n0_
            have BK125 := n1_
            have BK132 := n2_
            have HO154 := n3_
            have HK := n4_
            have HB := n5_
            have HI0 := n6_
            clear n0_ n1_ n2_ n3_ n4_ n5_ n6_
            (try clear hb)
            (try clear hb2)
            (try clear hk)
            (try clear hi)
            refine hK.out _ _ ⟨(Kc BK132.out 0).trans rfl, (Kc BK132.out 1).trans rfl⟩ (fun hHeld => ?_)
            clear hK K
            refine norm_ (a' := ?_) ?_ ?_
            rotate_left
            ·
             show Act.put _ (some 62) _ = _
             simp only [Act.put, List.setIfInBounds_toArray, List.set_cons_zero, List.set_cons_succ, i64_w, i32_w]
             rfl
            exact norm_ (by simp only [putAll, Act.put, List.setIfInBounds_toArray, List.set_cons_zero, List.set_cons_succ]) (hCont (v153) _ ⟨hHeld, (by (with_reducible repeat (first | apply Ra | apply Rn | apply Rd)); exact Kd.R_mono HO154.out (fun _ hk => hk.2)), (by (with_reducible repeat (first | apply Ra | apply Rn | apply Rd)); exact Kd.R_mono HO_133001.out (fun _ hk => hk.2)), (by (with_reducible repeat (first | refine Kn ?_ _ | refine Ke ?_ | refine Ka ?_ _)); exact BK125.out), (by (with_reducible repeat (first | refine Kn ?_ _ | refine Ke ?_ | refine Ka ?_ _)); exact BK132.out), (by repeat (first | (with_reducible first | exact HI0.out | apply IsS67.alloc | apply IsS67.drewN | apply IsS67.drew | apply IsS67.set_1 | apply IsS67.set_2 | refine IsS67.far ?_ NB0_125.out _ | refine IsS67.far ?_ NB0_132.out _) | exact HI0.out)), (by repeat (first | (with_reducible first | exact HK.out | apply KeepBut.set_ | apply keep_drewN | apply keep_drew | apply keep_alloc | refine keep_far ?_ GW125.out _ | refine keep_far ?_ GW132.out _) | exact HK.out)), (by repeat (first | (with_reducible first | exact HB.out | apply Ba | apply Bn | apply Bd | refine Bs ?_ (IsS67.ge HI0.out) | refine Bs ?_ GE125.out | refine Bs ?_ GE132.out) | exact HB.out))⟩)
          rintro v153 w57 ⟨hS_, h0_, h1_, h2_, h3_, h4_, h5_, h6_⟩
          have n0_ : Aside0 (Kd.R (Kd.int .i64) 3 w57 w.heap.size (fun k_ => some k_ ≠ (u133001 : Value).ownBlock) v153 y152) := ⟨h0_⟩
          have n1_ : Aside0 (Kd.R (Kd.int .i64) 3 w57 w.heap.size (fun k_ => some k_ ≠ (v153 : Value).ownBlock) u133001 x133001_1) := ⟨h1_⟩
          have n2_ : Aside0 (w57.heap[gb125]? = some (.cells #[.int .i64 0, .slice none 0 0] 27 (0, 0))) := ⟨h2_⟩
          have n3_ : Aside0 (w57.heap[gb132]? = some (.cells #[.int .i64 ji4, u133001] 27 (0, 0))) := ⟨h3_⟩
          have n4_ : Aside0 (IsS67 w0 w57 g s0_0 t150 t151) := ⟨h4_⟩
          have n5_ : Aside0 (KeepBut w w57 g none) := ⟨h5_⟩
          have n6_ : Aside0 (Below w0.heap.size w0 w57) := ⟨h6_⟩
          clear HO_133001
          clear BK125
          clear BK132
          clear HI0
          clear HK
          clear HB
          clear h0_ h1_ h2_ h3_ h4_ h5_ h6_
          have HO154 := n0_
          have HO_133001 := n1_
          have BK125 := n2_
          have BK132 := n3_
          have HI0 := n4_
          have HK := n5_
          have HB := n6_
          clear n0_ n1_ n2_ n3_ n4_ n5_ n6_
          have hHeld : w57.cell? ⟨gb132, 0, none⟩ = some (.int .i64 ji4) ∧ w57.cell? ⟨gb132, 1, none⟩ = some (u133001) := hS_
          obtain ⟨Ao58, co58, eo58⟩ := Kd.R_slice HO154.out
          (first | subst eo58 | (injection eo58 with f1_ f2_ f3_; have f4_ := f1_.symm; have f5_ := f3_.symm; clear f1_ f2_ f3_; subst f4_; subst f5_))
          refine norm_ (a' := ?_) ?_ ?_
          rotate_left
          ·
           simp only [putAll, Act.put, List.setIfInBounds_toArray, List.set_cons_zero, List.set_cons_succ]
           rfl
          refine one_ (i := 9) (N := some 67) #[Yy,Yy,Yy,Yy,Yy,Yy,Yy,Yy,Yy,Yy,Zz,Zz] rfl rfl (one_of HT_.out (by kernel_rfl)) (by decide) (fun K hK => ?_)
          refine goes_ Try.func81 (by kernel_rfl) rfl #[.pointer (some ⟨g, 0, none⟩), .slice Ao58 y152.length co58] (by rfl) rfl rfl (by (try simp only [List.map_toArray, List.map_cons, List.map_nil]); first | done | rfl) ?_
          with_reducible refine (spec_l1Cur_among.calls g s0_0 t150 t151 _ _ y152 t155 t156 t157 w0 _ ?side1 ?side2 ?side3 ?side4 ?side5 A48.out).mono ?_
          (case side1 => repeat (first | (with_reducible first | exact HI0.out | apply IsS67.alloc | apply IsS67.drewN | apply IsS67.drew | apply IsS67.set_1 | apply IsS67.set_2 | refine IsS67.far ?_ NB0_125.out _ | refine IsS67.far ?_ NB0_132.out _) | exact HI0.out))
          (case side2 => repeat (first | (with_reducible first | exact HB.out | apply Ba | apply Bn | apply Bd | refine Bs ?_ (IsS67.ge HI0.out) | refine Bs ?_ GE125.out | refine Bs ?_ GE132.out) | exact HB.out))
          (case side3 => repeat (first | exact (Kd.R_reads' HO154.out).2.2 | (with_reducible refine Ca ?_ _) | (with_reducible refine Cn ?_ _) | (with_reducible refine Cd ?_)))
          (case side4 => exact (Kd.R_reads' HO154.out).2.1)
          (case side5 => exact far_slice (IsS67.own_ne HI0.out HO154.out (by decide)))
          rintro e w59 ⟨rfl, hi, hb, hk⟩
          refine ⟨_, rfl, ?_⟩
          have n0_ := Am (Kd.R_mono (Kd.R_keep (IsS67.apart (show IsS67 w0 _ g s0_0 t150 t151 from by repeat (first | (with_reducible first | exact HI0.out | apply IsS67.alloc | apply IsS67.drewN | apply IsS67.drew | apply IsS67.set_1 | apply IsS67.set_2 | refine IsS67.far ?_ NB0_125.out _ | refine IsS67.far ?_ NB0_132.out _) | exact HI0.out)) (by (with_reducible repeat (first | apply Ra | apply Rn | apply Rd)); exact HO_133001.out) (by decide)) hk (fun _ h => h.2)) (fun _ h => h.1))
          have n1_ := Am (KeepBut.blk hk (g' := gb125) (o := .cells #[.int .i64 0, .slice none 0 0] 27 (0, 0)) (by (with_reducible repeat (first | refine Kn ?_ _ | refine Ke ?_ | refine Ka ?_ _)); exact BK125.out) NB125_0.out (by simp))
          have n2_ := Am (KeepBut.blk hk (g' := gb132) (o := .cells #[.int .i64 ji4, u133001] 27 (0, 0)) (by (with_reducible repeat (first | refine Kn ?_ _ | refine Ke ?_ | refine Ka ?_ _)); exact BK132.out) NB132_0.out (by simp))
          have n3_ := Am (Kd.R_mono (Kd.R_keep (IsS67.apart (show IsS67 w0 _ g s0_0 t150 t151 from by repeat (first | (with_reducible first | exact HI0.out | apply IsS67.alloc | apply IsS67.drewN | apply IsS67.drew | apply IsS67.set_1 | apply IsS67.set_2 | refine IsS67.far ?_ NB0_125.out _ | refine IsS67.far ?_ NB0_132.out _) | exact HI0.out)) (by (with_reducible repeat (first | apply Ra | apply Rn | apply Rd)); exact HO154.out) (by decide)) hk (fun _ h => h.2)) (fun _ h => h.1))
          have n4_ := Am (KeepBut.trans (by repeat (first | (with_reducible first | exact HK.out | apply KeepBut.set_ | apply keep_drewN | apply keep_drew | apply keep_alloc | refine keep_far ?_ GW125.out _ | refine keep_far ?_ GW132.out _) | exact HK.out)) hk (.inl rfl))
          have n5_ := Am (hb)
          have n6_ := Am (hi)
          clear HO_133001
          clear BK125
          clear BK132
          clear HO154
          clear HK
          clear HB
          clear HI0
          have HO_133001 := n0_
          have BK125 := n1_
          have BK132 := n2_
          have HO154 := n3_
          have HK := n4_
          have HB := n5_
          have HI0 := n6_
          clear n0_ n1_ n2_ n3_ n4_ n5_ n6_
          (try clear hb)
          (try clear hb2)
          (try clear hk)
          (try clear hi)
          have p51 : 0 ≤ (t149 : Int) := Oe (by first | (with_reducible assumption) | assumption)
          have q51 : (t149 : Int) < ((x133001_1.length : Int) : Int) := Oe (by first | (with_reducible assumption) | assumption)
          obtain ⟨go51, co51, eo51, gb51, gl51, cl51, HG51⟩ := Kd.R_form HO_133001.out (by omega)
          (first | cases eo51 | (injection eo51 with ea_ en_ ec_; (first | subst ea_ | (injection ea_ with ea_; subst ea_)); subst ec_; clear en_))
          have GB51 := Am gb51
          have GG51 := Am HG51
          clear gb51 gl51 HG51
          obtain ⟨hx51_0, hf51_0⟩ := Kd.R_celln 0 HO_133001.out (t149 : Int) p51 q51
          replace p51 := eq_true p51
          replace q51 := eq_true q51
          have HN0_go51 := Am (show g ≠ go51 from by have h_ := IsS67.own_ne HI0.out HO_133001.out (by decide); intro e_; exact h_ (by rw [e_]; rfl))
          have HP60 := Kd.R_putn HO_133001.out (t149 : Int) t155
          rw [← Ny158.out] at HP60
          have HQ60 := Am HP60
          clear HP60
          refine hK.out _ _ ⟨(Kc BK132.out 0).trans rfl, (Kc BK132.out 1).trans rfl⟩ (fun hHeld => ?_)
          clear hK K
          refine norm_ (a' := ?_) ?_ ?_
          rotate_left
          ·
           show Act.put _ (some 67) _ = _
           simp only [Act.put, List.setIfInBounds_toArray, List.set_cons_zero, List.set_cons_succ, i64_w, i32_w]
           rfl
          refine pure_ (i := 10) (N := some 68) (v := ?_) (a' := ?_) #[Yy,Yy,Yy,Yy,Yy,Yy,Yy,Yy,Yy,Yy,Yy,Zz] rfl rfl (any_of HT_.out (by kernel_rfl)) (fun _ _ _ h => h) (Or.inl ⟨by rfl, ?_⟩) ?_ ?_
          rotate_left
          ·
           intro w'
           go_simp
           with_reducible rfl
          rotate_left
          ·
           simp only [Act.put, List.setIfInBounds_toArray, List.set_cons_zero, List.set_cons_succ, i64_w, i32_w]
           rfl
          refine last_ (i := 11) (N := none) #[Yy,Yy,Yy,Yy,Yy,Yy,Yy,Yy,Yy,Yy,Yy,Yy] rfl rfl (one_of HT_.out (by kernel_rfl)) (by decide) (fun K hK => ?_)
          refine skip_ (w1 := ?_) (by rfl) rfl ?_ ?_
          rotate_left
          ·
           go_simp
           rfl
          refine hK.out _ _ ?_
          clear hK K
          refine done_ (done_of HT_.out (by kernel_rfl)) ?_
          have n0_ : Aside0 (Kd.R (Kd.int .i64) 3 (w59.setCell ⟨go51, (t149 : Int).toNat, none⟩ (.int .i64 t155)) w.heap.size (fun k_ => some k_ ≠ (.slice Ao58 y152.length co58 : Value).ownBlock) (.slice (some ⟨go51, 0, none⟩) x133001_1.length co51) y158) := ⟨by (with_reducible repeat (first | apply Ra | apply Rn | apply Rd)); exact HQ60.out⟩
          have n1_ : Aside0 (Kd.R (Kd.int .i64) 3 (w59.setCell ⟨go51, (t149 : Int).toNat, none⟩ (.int .i64 t155)) w.heap.size (fun k_ => some k_ ≠ (.slice (some ⟨go51, 0, none⟩) x133001_1.length co51 : Value).ownBlock) (.slice Ao58 y152.length co58) y152) := ⟨by (with_reducible repeat (first | apply Ra | apply Rn | apply Rd)); exact Kd.R_mono (Kd.R_far (p := ⟨go51, (t149 : Int).toNat, none⟩) (Kd.R_mono HO154.out (fun k_ hk => (⟨hk, fun e_ => hk (by rw [e_]; rfl)⟩ : _ ∧ k_ ≠ go51))) (fun _ hk => hk.2) (.int .i64 t155)) (fun _ hk => hk.1)⟩
          have n2_ : Aside0 ((w59.setCell ⟨go51, (t149 : Int).toNat, none⟩ (.int .i64 t155)).heap[gb125]? = some (.cells #[.int .i64 0, .slice none 0 0] 27 (0, 0))) := ⟨by (with_reducible repeat (first | refine Kn ?_ _ | refine Ke ?_ | refine Ka ?_ _)); refine blk_far ?_ (by have h_ := Kd.R_ne HO_133001.out BK125.out (by decide); intro e_; exact h_ (by rw [e_]; rfl)) _; (with_reducible repeat (first | refine Kn ?_ _ | refine Ke ?_ | refine Ka ?_ _)); exact BK125.out⟩
          have n3_ : Aside0 ((w59.setCell ⟨go51, (t149 : Int).toNat, none⟩ (.int .i64 t155)).heap[gb132]? = some (.cells #[.int .i64 ji4, .slice (some ⟨go51, 0, none⟩) x133001_1.length co51] 27 (0, 0))) := ⟨by (with_reducible repeat (first | refine Kn ?_ _ | refine Ke ?_ | refine Ka ?_ _)); refine blk_far ?_ (by have h_ := Kd.R_ne HO_133001.out BK132.out (by decide); intro e_; exact h_ (by rw [e_]; rfl)) _; (with_reducible repeat (first | refine Kn ?_ _ | refine Ke ?_ | refine Ka ?_ _)); exact BK132.out⟩
          have n4_ : Aside0 (IsS67 w0 (w59.setCell ⟨go51, (t149 : Int).toNat, none⟩ (.int .i64 t155)) g s0_0 t156 t157) := ⟨by repeat (first | (with_reducible first | exact HI0.out | apply IsS67.alloc | apply IsS67.drewN | apply IsS67.drew | apply IsS67.set_1 | apply IsS67.set_2 | refine IsS67.far ?_ HN0_go51.out _ | refine IsS67.far ?_ NB0_125.out _ | refine IsS67.far ?_ NB0_132.out _) | exact HI0.out)⟩
          have n5_ : Aside0 (KeepBut w (w59.setCell ⟨go51, (t149 : Int).toNat, none⟩ (.int .i64 t155)) g none) := ⟨by repeat (first | (with_reducible first | exact HK.out | apply KeepBut.set_ | apply keep_drewN | apply keep_drew | apply keep_alloc | refine keep_far ?_ GB51.out _ | refine keep_far ?_ GW125.out _ | refine keep_far ?_ GW132.out _) | exact HK.out)⟩
          have n6_ : Aside0 (Below w0.heap.size w0 (w59.setCell ⟨go51, (t149 : Int).toNat, none⟩ (.int .i64 t155))) := ⟨by repeat (first | (with_reducible first | exact HB.out | apply Ba | apply Bn | apply Bd | refine Bs ?_ (Nat.le_trans HL.out GB51.out) | refine Bs ?_ (IsS67.ge HI0.out) | refine Bs ?_ GE125.out | refine Bs ?_ GE132.out) | exact HB.out)⟩
          (try clear HO_133001)
          (try clear HO154)
          (try clear BK125)
          (try clear BK132)
          (try clear HI0)
          (try clear HK)
          (try clear HB)
          generalize (w59.setCell ⟨go51, (t149 : Int).toNat, none⟩ (.int .i64 t155)) = w61 at n0_ n1_ n2_ n3_ n4_ n5_ n6_ ⊢
          have HO_133001 := n0_
          have HO154 := n1_
          have BK125 := n2_
          have BK132 := n3_
          have HI0 := n4_
          have HK := n5_
          have HB := n6_
          clear n0_ n1_ n2_ n3_ n4_ n5_ n6_
          have hnb62 := NB132_125.out
          have hnc62 := NB125_132.out
          have hnb63 := NB132_0.out
          have hnc63 := NB0_132.out
          have hcz64_0 : w61.cell? ⟨gb132, 0, none⟩ = some (.int .i64 ji4) := (Kc BK132.out 0).trans rfl
          have hcz64_1 : w61.cell? ⟨gb132, 1, none⟩ = some (.slice (some ⟨go51, 0, none⟩) x133001_1.length co51) := (Kc BK132.out 1).trans rfl
          have hfz64_0 := Kf BK132.out 0
          have hfz64_1 := Kf BK132.out 1
          have hnb65 := NB125_0.out
          have hnc65 := NB0_125.out
          have hcz66_0 : w61.cell? ⟨gb125, 0, none⟩ = some (.int .i64 0) := (Kc BK125.out 0).trans rfl
          have hcz66_1 : w61.cell? ⟨gb125, 1, none⟩ = some (.slice none 0 0) := (Kc BK125.out 1).trans rfl
          have hfz66_0 := Kf BK125.out 0
          have hfz66_1 := Kf BK125.out 1
          try go_wp2
          refine bodyPost_ret (results_cell_row rfl _ _ gb125 27 #[.int .i64 ji4, .slice (some ⟨go51, 0, none⟩) x133001_1.length co51] (0, 0) _ rfl (by (with_reducible repeat (first | refine Kn ?_ _ | refine Ke ?_ | refine Ka ?_ _)); refine blk_put (cs := #[.int .i64 ji4, .slice none 0 0]) ?_ 1 _ rfl; (with_reducible repeat (first | refine Kn ?_ _ | refine Ke ?_ | refine Ka ?_ _)); refine blk_put (cs := #[.int .i64 0, .slice none 0 0]) ?_ 0 _ rfl; (with_reducible repeat (first | refine Kn ?_ _ | refine Ke ?_ | refine Ka ?_ _)); exact BK125.out) Try.underlying27 rfl (by kernel_rfl)) rfl ?_
          exact ⟨_, by first | rfl | (simp [errW_none, errW_some] <;> rfl) | (simp only [← hji4, ← hji47]; first | rfl | (simp [errW_none, errW_some] <;> rfl)) | (simp [*, errW_none, errW_some] <;> rfl), by (with_reducible repeat (first | apply Ra | apply Rn | apply Rd)); exact Kd.R_mono (Kd.R_far (p := ⟨gb125, 1, none⟩) (Kd.R_far (p := ⟨gb125, 0, none⟩) (Kd.R_types HO_133001.out BK125.out (by decide)) (fun _ hk => hk.2) (.int .i64 ji4)) (fun _ hk => hk.2) (.slice (some ⟨go51, 0, none⟩) x133001_1.length co51)) (fun _ hk => trivial), by repeat (first | (with_reducible first | exact HI0.out | apply IsS67.alloc | apply IsS67.drewN | apply IsS67.drew | apply IsS67.set_1 | apply IsS67.set_2 | refine IsS67.far ?_ NB0_125.out _ | refine IsS67.far ?_ NB0_132.out _) | exact HI0.out), by repeat (first | (with_reducible first | exact HB.out | apply Ba | apply Bn | apply Bd | refine Bs ?_ (IsS67.ge HI0.out) | refine Bs ?_ GE125.out | refine Bs ?_ GE132.out) | exact HB.out), by repeat (first | (with_reducible first | exact HK.out | apply KeepBut.set_ | apply keep_drewN | apply keep_drew | apply keep_alloc | refine keep_far ?_ GW125.out _ | refine keep_far ?_ GW132.out _) | exact HK.out)⟩
         ·
          rw [if_neg c50] at H
          exact absurd H (by simp)
        ·
         rw [if_neg c49] at H
         exact absurd H (by simp)
       ·
        rw [if_neg c46] at H
        exact absurd H (by simp)
      ·
       rw [if_neg c44] at H
       have c44b0 : (t146 == 0) = false := beq_eq_false_iff_ne.mpr c44
       have c44b1 : (t146 != 0) = true := bne_iff_ne.mpr c44
       by_cases c67 : t146 = 1
       ·
        rw [if_pos c67] at H
        have c67b0 : (t146 == 1) = true := beq_iff_eq.mpr c67
        have c67b1 : (t146 != 1) = false := bne_eq_false_iff_eq.mpr c67
        clear c67
        obtain ⟨y159, hy159⟩ : ∃ y_ : List Int, y_ = (([0, (-1), wrap64 (ji4 + 1), 9] : List Int)) := ⟨_, rfl⟩
        replace H : ((spec_l1Cur_among.f s0_0 t147 t148 y159).bind fun bt162 => (some (bt162.1, x133001_1, bt162.2.1, bt162.2.2))) = some (r1, r2, r3, r4) := by first | (rw [hy159]; with_reducible exact H) | (have H2_ := (Option.bind_some _ _).symm.trans H; rw [hy159]; with_reducible exact H2_) | (have H2_ := (Option.bind_some _ _).symm.trans H; with_reducible exact H2_) | with_reducible exact H | (rw [hy159]; exact H) | exact H
        have Ny159 := Am hy159
        clear hy159
        replace H := Option.bind_eq_some_iff.mp H
        obtain ⟨⟨t162, t163, t164⟩, A680, H⟩ := H
        replace H : (some (t162, x133001_1, t163, t164)) = some (r1, r2, r3, r4) := H
        have A68 := Am A680
        clear A680
        simp only [Option.some.injEq, Prod.mk.injEq] at H
        obtain ⟨rfl, rfl, rfl, rfl⟩ := H
        go_wp2_with (first | ((with_reducible refine gate_callee (f := 80) rfl ?_); refine goesL_ (some 55) rfl rfl Try.func80 (by kernel_rfl) rfl #[.pointer (some ⟨g, 0, none⟩), .int .i64 24] rfl (by (try simp only [List.map_toArray, List.map_cons, List.map_nil]); first | done | rfl) ?_; (with_reducible refine (spec_l1Cur_pick.calls g s0_0 x1001_1 x1002_1 24 t146 t147 t148 w0 _ ?side1 ?side2 A43.out).mono ?_); (case side1 => repeat (first | (with_reducible first | exact HI0.out | apply IsS67.alloc | apply IsS67.drewN | apply IsS67.drew | apply IsS67.set_1 | apply IsS67.set_2 | refine IsS67.far ?_ NB0_125.out _ | refine IsS67.far ?_ NB0_132.out _) | exact HI0.out)); (case side2 => repeat (first | (with_reducible first | exact HB.out | apply Ba | apply Bn | apply Bd | refine Bs ?_ (IsS67.ge HI0.out) | refine Bs ?_ GE125.out | refine Bs ?_ GE132.out) | exact HB.out)); rintro e w69 ⟨rfl, hi, hb, hk⟩; refine ⟨_, rfl, ?_⟩; have n0_ := Am (Kd.R_mono (Kd.R_keep (IsS67.apart (show IsS67 w0 _ g s0_0 x1001_1 x1002_1 from by repeat (first | (with_reducible first | exact HI0.out | apply IsS67.alloc | apply IsS67.drewN | apply IsS67.drew | apply IsS67.set_1 | apply IsS67.set_2 | refine IsS67.far ?_ NB0_125.out _ | refine IsS67.far ?_ NB0_132.out _) | exact HI0.out)) (by (with_reducible repeat (first | apply Ra | apply Rn | apply Rd)); exact HO_133001.out) (by decide)) hk (fun _ h => h.2)) (fun _ h => h.1)); have n1_ := Am (KeepBut.blk hk (g' := gb125) (o := .cells #[.int .i64 0, .slice none 0 0] 27 (0, 0)) (by (with_reducible repeat (first | refine Kn ?_ _ | refine Ke ?_ | refine Ka ?_ _)); exact BK125.out) NB125_0.out (by simp)); have n2_ := Am (KeepBut.blk hk (g' := gb132) (o := .cells #[.int .i64 ji4, u133001] 27 (0, 0)) (by (with_reducible repeat (first | refine Kn ?_ _ | refine Ke ?_ | refine Ka ?_ _)); exact BK132.out) NB132_0.out (by simp)); have n3_ := Am (KeepBut.trans (by repeat (first | (with_reducible first | exact HK.out | apply KeepBut.set_ | apply keep_drewN | apply keep_drew | apply keep_alloc | refine keep_far ?_ GW125.out _ | refine keep_far ?_ GW132.out _) | exact HK.out)) hk (.inl rfl)); have n4_ := Am (hb); have n5_ := Am (hi); clear HO_133001; clear BK125; clear BK132; clear HK; clear HB; clear HI0; have HO_133001 := n0_; have BK125 := n1_; have BK132 := n2_; have HK := n3_; have HB := n4_; have HI0 := n5_; clear n0_ n1_ n2_ n3_ n4_ n5_; (try clear hb); (try clear hb2); (try clear hk); (try clear hi)) | ((with_reducible refine gate_dst (N := 74) rfl ?_); refine Kd.R_lit (Kd.int .i64) _ 3 ?hg (N := 74) ?hd (xs := ([0, (-1), wrap64 (ji4 + 1), 9] : List Int)) (inner := [.int .i64 0, .int .i64 (-1), .int .i64 (wrap64 (ji4 + 1)), .int .i64 9]) (ok := fun _ => True) (okp := fun _ => True) ?hr ?hp (fun _ hk => hk) trivial (Below.refl _ _) (Nat.le_refl _) (by simp) ?_; (case hd => rfl); (case hg => rfl); (case hr => first | (go_simp; done) | (go_simp; rfl)); (case hp => exact (Reps.one (show Kd.M (Kd.int .i64) _ _ _ 0 [.int .i64 0] from rfl) (Reps.one (show Kd.M (Kd.int .i64) _ _ _ (-1) [.int .i64 (-1)] from rfl) (Reps.one (show Kd.M (Kd.int .i64) _ _ _ (wrap64 (ji4 + 1)) [.int .i64 (wrap64 (ji4 + 1))] from rfl) (Reps.one (show Kd.M (Kd.int .i64) _ _ _ 9 [.int .i64 9] from rfl) (Reps.none _ _)))))); intro v160 w70 ho71 hb hg_ hnew_; clear hg_ hnew_; (first | rw [← Ny159.out] at ho71 | (simp only [Int.reduceToNat] at ho71; rw [← Ny159.out] at ho71)); have n0_ := Am (Kd.R_elder' (by (with_reducible repeat (first | apply Ra | apply Rn | apply Rd)); exact HO_133001.out) (Kd.R_base ho71) hb); have n1_ := Am (Kd.R_lower (Kd.R_new' ho71 (Kd.R_lt (by (with_reducible repeat (first | apply Ra | apply Rn | apply Rd)); exact HO_133001.out))) (keep_size (w := w) (g := g) (row := none) (by repeat (first | (with_reducible first | exact HK.out | apply KeepBut.set_ | apply keep_drewN | apply keep_drew | apply keep_alloc | refine keep_far ?_ GW125.out _ | refine keep_far ?_ GW132.out _) | exact HK.out)))); have n2_ := Am (blk_below (g := gb125) (o := .cells #[.int .i64 0, .slice none 0 0] 27 (0, 0)) (by (with_reducible repeat (first | refine Kn ?_ _ | refine Ke ?_ | refine Ka ?_ _)); exact BK125.out) hb); have n3_ := Am (blk_below (g := gb132) (o := .cells #[.int .i64 ji4, u133001] 27 (0, 0)) (by (with_reducible repeat (first | refine Kn ?_ _ | refine Ke ?_ | refine Ka ?_ _)); exact BK132.out) hb); have n4_ := Am (IsS67.below (by repeat (first | (with_reducible first | exact HI0.out | apply IsS67.alloc | apply IsS67.drewN | apply IsS67.drew | apply IsS67.set_1 | apply IsS67.set_2 | refine IsS67.far ?_ NB0_125.out _ | refine IsS67.far ?_ NB0_132.out _) | exact HI0.out)) hb); have n5_ := Am (KeepBut.trans (by repeat (first | (with_reducible first | exact HK.out | apply KeepBut.set_ | apply keep_drewN | apply keep_drew | apply keep_alloc | refine keep_far ?_ GW125.out _ | refine keep_far ?_ GW132.out _) | exact HK.out)) (KeepBut.of_below hb g none) (.inl rfl)); have n6_ := Am (below_step (by repeat (first | (with_reducible first | exact HB.out | apply Ba | apply Bn | apply Bd | refine Bs ?_ (IsS67.ge HI0.out) | refine Bs ?_ GE125.out | refine Bs ?_ GE132.out) | exact HB.out)) hb); clear HO_133001; clear BK125; clear BK132; clear HI0; clear HK; clear HB; have HO_133001 := n0_; have HO161 := n1_; have BK125 := n2_; have BK132 := n3_; have HI0 := n4_; have HK := n5_; have HB := n6_; clear n0_ n1_ n2_ n3_ n4_ n5_ n6_; clear hb ho71; obtain ⟨Ao72, co72, eo72⟩ := Kd.R_slice HO161.out; subst eo72) | ((with_reducible refine gate_callee (f := 81) rfl ?_); refine goesL_ (some 75) rfl rfl Try.func81 (by kernel_rfl) rfl #[.pointer (some ⟨g, 0, none⟩), .slice Ao72 y159.length co72] rfl (by (try simp only [List.map_toArray, List.map_cons, List.map_nil]); first | done | rfl) ?_; (with_reducible refine (spec_l1Cur_among.calls g s0_0 t147 t148 _ _ y159 t162 t163 t164 w0 _ ?side1 ?side2 ?side3 ?side4 ?side5 A68.out).mono ?_); (case side1 => repeat (first | (with_reducible first | exact HI0.out | apply IsS67.alloc | apply IsS67.drewN | apply IsS67.drew | apply IsS67.set_1 | apply IsS67.set_2 | refine IsS67.far ?_ NB0_125.out _ | refine IsS67.far ?_ NB0_132.out _) | exact HI0.out)); (case side2 => repeat (first | (with_reducible first | exact HB.out | apply Ba | apply Bn | apply Bd | refine Bs ?_ (IsS67.ge HI0.out) | refine Bs ?_ GE125.out | refine Bs ?_ GE132.out) | exact HB.out)); (case side3 => repeat (first | exact (Kd.R_reads' HO161.out).2.2 | (with_reducible refine Ca ?_ _) | (with_reducible refine Cn ?_ _) | (with_reducible refine Cd ?_))); (case side4 => exact (Kd.R_reads' HO161.out).2.1); (case side5 => exact far_slice (IsS67.own_ne HI0.out HO161.out (by decide))); rintro e w73 ⟨rfl, hi, hb, hk⟩; refine ⟨_, rfl, ?_⟩; have n0_ := Am (Kd.R_mono (Kd.R_keep (IsS67.apart (show IsS67 w0 _ g s0_0 t147 t148 from by repeat (first | (with_reducible first | exact HI0.out | apply IsS67.alloc | apply IsS67.drewN | apply IsS67.drew | apply IsS67.set_1 | apply IsS67.set_2 | refine IsS67.far ?_ NB0_125.out _ | refine IsS67.far ?_ NB0_132.out _) | exact HI0.out)) (by (with_reducible repeat (first | apply Ra | apply Rn | apply Rd)); exact HO_133001.out) (by decide)) hk (fun _ h => h.2)) (fun _ h => h.1)); have n1_ := Am (KeepBut.blk hk (g' := gb125) (o := .cells #[.int .i64 0, .slice none 0 0] 27 (0, 0)) (by (with_reducible repeat (first | refine Kn ?_ _ | refine Ke ?_ | refine Ka ?_ _)); exact BK125.out) NB125_0.out (by simp)); have n2_ := Am (KeepBut.blk hk (g' := gb132) (o := .cells #[.int .i64 ji4, u133001] 27 (0, 0)) (by (with_reducible repeat (first | refine Kn ?_ _ | refine Ke ?_ | refine Ka ?_ _)); exact BK132.out) NB132_0.out (by simp)); have n3_ := Am (Kd.R_mono (Kd.R_keep (IsS67.apart (show IsS67 w0 _ g s0_0 t147 t148 from by repeat (first | (with_reducible first | exact HI0.out | apply IsS67.alloc | apply IsS67.drewN | apply IsS67.drew | apply IsS67.set_1 | apply IsS67.set_2 | refine IsS67.far ?_ NB0_125.out _ | refine IsS67.far ?_ NB0_132.out _) | exact HI0.out)) (by (with_reducible repeat (first | apply Ra | apply Rn | apply Rd)); exact HO161.out) (by decide)) hk (fun _ h => h.2)) (fun _ h => h.1)); have n4_ := Am (KeepBut.trans (by repeat (first | (with_reducible first | exact HK.out | apply KeepBut.set_ | apply keep_drewN | apply keep_drew | apply keep_alloc | refine keep_far ?_ GW125.out _ | refine keep_far ?_ GW132.out _) | exact HK.out)) hk (.inl rfl)); have n5_ := Am (hb); have n6_ := Am (hi); clear HO_133001; clear BK125; clear BK132; clear HO161; clear HK; clear HB; clear HI0; have HO_133001 := n0_; have BK125 := n1_; have BK132 := n2_; have HO161 := n3_; have HK := n4_; have HB := n5_; have HI0 := n6_; clear n0_ n1_ n2_ n3_ n4_ n5_ n6_; (try clear hb); (try clear hb2); (try clear hk); (try clear hi); have hnb74 := NB132_125.out; have hnc74 := NB125_132.out; have hnb75 := NB132_0.out; have hnc75 := NB0_132.out; have hcz76_0 : w73.cell? ⟨gb132, 0, none⟩ = some (.int .i64 ji4) := (Kc BK132.out 0).trans rfl; have hcz76_1 : w73.cell? ⟨gb132, 1, none⟩ = some (u133001) := (Kc BK132.out 1).trans rfl; have hfz76_0 := Kf BK132.out 0; have hfz76_1 := Kf BK132.out 1; have hnb77 := NB125_0.out; have hnc77 := NB0_125.out; have hcz78_0 : w73.cell? ⟨gb125, 0, none⟩ = some (.int .i64 0) := (Kc BK125.out 0).trans rfl; have hcz78_1 : w73.cell? ⟨gb125, 1, none⟩ = some (.slice none 0 0) := (Kc BK125.out 1).trans rfl; have hfz78_0 := Kf BK125.out 0; have hfz78_1 := Kf BK125.out 1; obtain ⟨Ao79, co79, eo79⟩ := Kd.R_slice HO_133001.out; subst eo79))
        refine bodyPost_ret (results_cell_row rfl _ _ gb125 27 #[.int .i64 t162, .slice Ao79 x133001_1.length co79] (0, 0) _ rfl (by (with_reducible repeat (first | refine Kn ?_ _ | refine Ke ?_ | refine Ka ?_ _)); refine blk_put (cs := #[.int .i64 t162, .slice none 0 0]) ?_ 1 _ rfl; (with_reducible repeat (first | refine Kn ?_ _ | refine Ke ?_ | refine Ka ?_ _)); refine blk_put (cs := #[.int .i64 0, .slice none 0 0]) ?_ 0 _ rfl; (with_reducible repeat (first | refine Kn ?_ _ | refine Ke ?_ | refine Ka ?_ _)); refine blk_far ?_ NB125_132.out _; (with_reducible repeat (first | refine Kn ?_ _ | refine Ke ?_ | refine Ka ?_ _)); exact BK125.out) Try.underlying27 rfl (by kernel_rfl)) rfl ?_
        exact ⟨_, by first | rfl | (simp [errW_none, errW_some] <;> rfl) | (simp only [← hji4]; first | rfl | (simp [errW_none, errW_some] <;> rfl)) | (simp [*, errW_none, errW_some] <;> rfl), by (with_reducible repeat (first | apply Ra | apply Rn | apply Rd)); exact Kd.R_mono (Kd.R_far (p := ⟨gb125, 1, none⟩) (Kd.R_far (p := ⟨gb125, 0, none⟩) (Kd.R_far (p := ⟨gb132, 0, none⟩) (Kd.R_types (Kd.R_types HO_133001.out BK132.out (by decide)) BK125.out (by decide)) (fun _ hk => hk.1.2) (.int .i64 t162)) (fun _ hk => hk.2) (.int .i64 t162)) (fun _ hk => hk.2) (.slice Ao79 x133001_1.length co79)) (fun _ hk => trivial), by repeat (first | (with_reducible first | exact HI0.out | apply IsS67.alloc | apply IsS67.drewN | apply IsS67.drew | apply IsS67.set_1 | apply IsS67.set_2 | refine IsS67.far ?_ NB0_125.out _ | refine IsS67.far ?_ NB0_132.out _) | exact HI0.out), by repeat (first | (with_reducible first | exact HB.out | apply Ba | apply Bn | apply Bd | refine Bs ?_ (IsS67.ge HI0.out) | refine Bs ?_ GE125.out | refine Bs ?_ GE132.out) | exact HB.out), by repeat (first | (with_reducible first | exact HK.out | apply KeepBut.set_ | apply keep_drewN | apply keep_drew | apply keep_alloc | refine keep_far ?_ GW125.out _ | refine keep_far ?_ GW132.out _) | exact HK.out)⟩
       ·
        rw [if_neg c67] at H
        have c67b0 : (t146 == 1) = false := beq_eq_false_iff_ne.mpr c67
        have c67b1 : (t146 != 1) = true := bne_iff_ne.mpr c67
        simp only [Option.some.injEq, Prod.mk.injEq] at H
        obtain ⟨rfl, rfl, rfl, rfl⟩ := H
        go_wp2_with (first | ((with_reducible refine gate_callee (f := 80) rfl ?_); refine goesL_ (some 55) rfl rfl Try.func80 (by kernel_rfl) rfl #[.pointer (some ⟨g, 0, none⟩), .int .i64 24] rfl (by (try simp only [List.map_toArray, List.map_cons, List.map_nil]); first | done | rfl) ?_; (with_reducible refine (spec_l1Cur_pick.calls g s0_0 x1001_1 x1002_1 24 t146 t147 t148 w0 _ ?side1 ?side2 A43.out).mono ?_); (case side1 => repeat (first | (with_reducible first | exact HI0.out | apply IsS67.alloc | apply IsS67.drewN | apply IsS67.drew | apply IsS67.set_1 | apply IsS67.set_2 | refine IsS67.far ?_ NB0_125.out _ | refine IsS67.far ?_ NB0_132.out _) | exact HI0.out)); (case side2 => repeat (first | (with_reducible first | exact HB.out | apply Ba | apply Bn | apply Bd | refine Bs ?_ (IsS67.ge HI0.out) | refine Bs ?_ GE125.out | refine Bs ?_ GE132.out) | exact HB.out)); rintro e w80 ⟨rfl, hi, hb, hk⟩; refine ⟨_, rfl, ?_⟩; have n0_ := Am (Kd.R_mono (Kd.R_keep (IsS67.apart (show IsS67 w0 _ g s0_0 x1001_1 x1002_1 from by repeat (first | (with_reducible first | exact HI0.out | apply IsS67.alloc | apply IsS67.drewN | apply IsS67.drew | apply IsS67.set_1 | apply IsS67.set_2 | refine IsS67.far ?_ NB0_125.out _ | refine IsS67.far ?_ NB0_132.out _) | exact HI0.out)) (by (with_reducible repeat (first | apply Ra | apply Rn | apply Rd)); exact HO_133001.out) (by decide)) hk (fun _ h => h.2)) (fun _ h => h.1)); have n1_ := Am (KeepBut.blk hk (g' := gb125) (o := .cells #[.int .i64 0, .slice none 0 0] 27 (0, 0)) (by (with_reducible repeat (first | refine Kn ?_ _ | refine Ke ?_ | refine Ka ?_ _)); exact BK125.out) NB125_0.out (by simp)); have n2_ := Am (KeepBut.blk hk (g' := gb132) (o := .cells #[.int .i64 ji4, u133001] 27 (0, 0)) (by (with_reducible repeat (first | refine Kn ?_ _ | refine Ke ?_ | refine Ka ?_ _)); exact BK132.out) NB132_0.out (by simp)); have n3_ := Am (KeepBut.trans (by repeat (first | (with_reducible first | exact HK.out | apply KeepBut.set_ | apply keep_drewN | apply keep_drew | apply keep_alloc | refine keep_far ?_ GW125.out _ | refine keep_far ?_ GW132.out _) | exact HK.out)) hk (.inl rfl)); have n4_ := Am (hb); have n5_ := Am (hi); clear HO_133001; clear BK125; clear BK132; clear HK; clear HB; clear HI0; have HO_133001 := n0_; have BK125 := n1_; have BK132 := n2_; have HK := n3_; have HB := n4_; have HI0 := n5_; clear n0_ n1_ n2_ n3_ n4_ n5_; (try clear hb); (try clear hb2); (try clear hk); (try clear hi); have hnb81 := NB132_125.out; have hnc81 := NB125_132.out; have hnb82 := NB132_0.out; have hnc82 := NB0_132.out; have hcz83_0 : w80.cell? ⟨gb132, 0, none⟩ = some (.int .i64 ji4) := (Kc BK132.out 0).trans rfl; have hcz83_1 : w80.cell? ⟨gb132, 1, none⟩ = some (u133001) := (Kc BK132.out 1).trans rfl; have hfz83_0 := Kf BK132.out 0; have hfz83_1 := Kf BK132.out 1; have hnb84 := NB125_0.out; have hnc84 := NB0_125.out; have hcz85_0 : w80.cell? ⟨gb125, 0, none⟩ = some (.int .i64 0) := (Kc BK125.out 0).trans rfl; have hcz85_1 : w80.cell? ⟨gb125, 1, none⟩ = some (.slice none 0 0) := (Kc BK125.out 1).trans rfl; have hfz85_0 := Kf BK125.out 0; have hfz85_1 := Kf BK125.out 1; obtain ⟨Ao86, co86, eo86⟩ := Kd.R_slice HO_133001.out; subst eo86))
        refine bodyPost_ret (results_cell_row rfl _ _ gb125 27 #[.int .i64 ji4, .slice Ao86 x133001_1.length co86] (0, 0) _ rfl (by (with_reducible repeat (first | refine Kn ?_ _ | refine Ke ?_ | refine Ka ?_ _)); refine blk_put (cs := #[.int .i64 ji4, .slice none 0 0]) ?_ 1 _ rfl; (with_reducible repeat (first | refine Kn ?_ _ | refine Ke ?_ | refine Ka ?_ _)); refine blk_put (cs := #[.int .i64 0, .slice none 0 0]) ?_ 0 _ rfl; (with_reducible repeat (first | refine Kn ?_ _ | refine Ke ?_ | refine Ka ?_ _)); exact BK125.out) Try.underlying27 rfl (by kernel_rfl)) rfl ?_
        exact ⟨_, by first | rfl | (simp [errW_none, errW_some] <;> rfl) | (simp only [← hji4]; first | rfl | (simp [errW_none, errW_some] <;> rfl)) | (simp [*, errW_none, errW_some] <;> rfl), by (with_reducible repeat (first | apply Ra | apply Rn | apply Rd)); exact Kd.R_mono (Kd.R_far (p := ⟨gb125, 1, none⟩) (Kd.R_far (p := ⟨gb125, 0, none⟩) (Kd.R_types HO_133001.out BK125.out (by decide)) (fun _ hk => hk.2) (.int .i64 ji4)) (fun _ hk => hk.2) (.slice Ao86 x133001_1.length co86)) (fun _ hk => trivial), by repeat (first | (with_reducible first | exact HI0.out | apply IsS67.alloc | apply IsS67.drewN | apply IsS67.drew | apply IsS67.set_1 | apply IsS67.set_2 | refine IsS67.far ?_ NB0_125.out _ | refine IsS67.far ?_ NB0_132.out _) | exact HI0.out), by repeat (first | (with_reducible first | exact HB.out | apply Ba | apply Bn | apply Bd | refine Bs ?_ (IsS67.ge HI0.out) | refine Bs ?_ GE125.out | refine Bs ?_ GE132.out) | exact HB.out), by repeat (first | (with_reducible first | exact HK.out | apply KeepBut.set_ | apply keep_drewN | apply keep_drew | apply keep_alloc | refine keep_far ?_ GW125.out _ | refine keep_far ?_ GW132.out _) | exact HK.out)⟩
  ·
   rw [if_neg c6] at H
   exact absurd H (by simp)
 ·
  rw [if_neg c5] at H
  exact absurd H (by simp)
def spec_DrawIsTournament.f (k : Nat) (l0 : List Int) : Option (Int × List Int) := (spec_l1Cur_tournament.f k l0 0 0 7).bind fun bt367 => (some (bt367.1, bt367.2.1))
theorem spec_DrawIsTournament.mono : ∀ a0 k, LeO (spec_DrawIsTournament.f k a0) (spec_DrawIsTournament.f (k + 1) a0) := by
 intro a0 k
 unfold spec_DrawIsTournament.f
 repeat' first
   | (with_reducible exact spec_l1Cur_tournament.mono _ _ _ _ _)
   | (with_reducible exact LeO.refl _)
   | (with_reducible exact LeO.none _)
   | (with_reducible refine LeO.ite ?_ ?_)
   | (with_reducible refine LeO.bind ?_ (fun _ => ?_))
   | exact spec_l1Cur_tournament.mono _ _ _ _ _
   | exact LeO.none _
   | refine LeO.ite ?_ ?_
   | refine LeO.bind ?_ (fun _ => ?_)
set_option maxHeartbeats 8000000 in
set_option maxRecDepth 100000 in
theorem spec_DrawIsTournament.calls (k : Nat) (A0 : Option Addr) (c0 : Nat) (l0 : List Int) (r1 : Int) (r2 : List Int) (w : World) (hr0 : Kd.C (Kd.int .u8) w A0 l0.length l0) (hc0 : l0.length ≤ c0) (h : spec_DrawIsTournament.f k l0 = some (r1, r2)) :
  Calls Try.prog 48 #[.slice A0 l0.length c0] w fun e w' => ∃ v1_ : Value, e = .returned (.agg #[.int .i64 r1, v1_]) ∧ Kd.R (Kd.int .i64) 3 w' w.heap.size (fun _ => True) v1_ r2 ∧ Below w.heap.size w w' := by
 have hu27 := Try.underlying27
 have hu67 := Try.underlying67
 have HR0 := Am hr0
 have HC0 := Am hc0
 clear hr0 hc0
 have HB := Am (Below.refl w.heap.size w)
 have H : ((spec_l1Cur_tournament.f k l0 0 0 7).bind fun bt367 => (some (bt367.1, bt367.2.1))) = some (r1, r2) := h
 clear h
 replace H := Option.bind_eq_some_iff.mp H
 obtain ⟨⟨t367, t368, t371, t372⟩, A20, H⟩ := H
 replace H : (some (t367, t368)) = some (r1, r2) := H
 have A2 := Am A20
 clear A20
 simp only [Option.some.injEq, Prod.mk.injEq] at H
 obtain ⟨rfl, rfl⟩ := H
 go_enter Try.func48, Try.ntmps48
 go_wp2_with (first | ((with_reducible refine gate_dst (N := 2) rfl ?_); refine box_event ?hg (N := 2) ?hd (cs := #[.int .i64 0, .slice none 0 0]) (t := 27) ?hr ?_; (case hd => rfl); (case hg => rfl); (case hr => first | (go_simp; done) | (go_simp; rfl)); intro gb365 hg w3 hbox hb; have n0_ := Am (below_step (by repeat (first | (with_reducible first | exact HB.out | apply Ba | apply Bn | apply Bd))) hb); have n1_ := Am (hbox); have n2_ := Am ((by rw [hg]; exact (below_size (by repeat (first | (with_reducible first | exact HB.out | apply Ba | apply Bn | apply Bd)))) : w.heap.size ≤ gb365)); have n3_ := Am ((by rw [hg]; exact (below_size (by repeat (first | (with_reducible first | exact HB.out | apply Ba | apply Bn | apply Bd)))) : w.heap.size ≤ gb365)); clear HB; have HB := n0_; have BK365 := n1_; have GW365 := n2_; have GE365 := n3_; clear n0_ n1_ n2_ n3_; clear hb hbox hg) | ((with_reducible refine gate_dst (N := 6) rfl ?_); refine box_event ?hg (N := 6) ?hd (cs := #[.slice A0 l0.length c0, .int .i64 0, .int .u64 0]) (t := 67) ?hr ?_; (case hd => rfl); (case hg => rfl); (case hr => first | (go_simp; done) | (go_simp; rfl)); intro gb366 hg w4 hbox hb; have n0_ := Am (blk_below (g := gb365) (o := .cells #[.int .i64 0, .slice none 0 0] 27 (0, 0)) (by (with_reducible repeat (first | refine Kn ?_ _ | refine Ke ?_ | refine Ka ?_ _)); exact BK365.out) hb); have n1_ := Am (below_step (by repeat (first | (with_reducible first | exact HB.out | apply Ba | apply Bn | apply Bd | refine Bs ?_ GE365.out) | exact HB.out)) hb); have n2_ := Am ((show IsS67 w w4 gb366 l0 0 0 from ⟨_, _, hbox, (by rw [hg]; exact (below_size (by repeat (first | (with_reducible first | exact HB.out | apply Ba | apply Bn | apply Bd | refine Bs ?_ GE365.out) | exact HB.out)))), HR0.out⟩)); have n3_ := Am ((by rw [hg]; exact (below_size (by repeat (first | (with_reducible first | exact HB.out | apply Ba | apply Bn | apply Bd | refine Bs ?_ GE365.out) | exact HB.out))) : w.heap.size ≤ gb366)); have n4_ := Am ((by rw [hg]; exact (below_size (by repeat (first | (with_reducible first | exact HB.out | apply Ba | apply Bn | apply Bd | refine Bs ?_ GE365.out) | exact HB.out))) : w.heap.size ≤ gb366)); have n5_ := Am ((by rw [hg]; exact Nat.ne_of_lt (blk_lt (g := gb365) (o := .cells #[.int .i64 0, .slice none 0 0] 27 (0, 0)) (by (with_reducible repeat (first | refine Kn ?_ _ | refine Ke ?_ | refine Ka ?_ _)); exact BK365.out)) : gb365 ≠ gb366)); have n6_ := Am ((by rw [hg]; exact Nat.ne_of_gt (blk_lt (g := gb365) (o := .cells #[.int .i64 0, .slice none 0 0] 27 (0, 0)) (by (with_reducible repeat (first | refine Kn ?_ _ | refine Ke ?_ | refine Ka ?_ _)); exact BK365.out)) : gb366 ≠ gb365)); clear BK365; clear HB; have BK365 := n0_; have HB := n1_; have HI366 := n2_; have GW366 := n3_; have GE366 := n4_; have NB365_366 := n5_; have NB366_365 := n6_; clear n0_ n1_ n2_ n3_ n4_ n5_ n6_; clear hb hbox hg) | ((with_reducible refine gate_callee (f := 69) rfl ?_); refine goesL_ (some 8) rfl rfl Try.func69 (by kernel_rfl) rfl #[.pointer (some ⟨gb366, 0, none⟩), .int .i64 7] rfl (by (try simp only [List.map_toArray, List.map_cons, List.map_nil]); first | done | rfl) ?_; (with_reducible refine (spec_l1Cur_tournament.calls k gb366 l0 0 0 7 t367 t368 t371 t372 w _ ?side1 ?side2 A2.out).mono ?_); (case side1 => repeat (first | (with_reducible first | exact HI366.out | apply IsS67.alloc | apply IsS67.drewN | apply IsS67.drew | apply IsS67.set_1 | apply IsS67.set_2 | refine IsS67.far ?_ NB366_365.out _) | exact HI366.out)); (case side2 => repeat (first | (with_reducible first | exact HB.out | apply Ba | apply Bn | apply Bd | refine Bs ?_ (IsS67.ge HI366.out) | refine Bs ?_ GE365.out) | exact HB.out)); rintro e w5 ⟨v369, rfl, ho0, hi, hb, hk⟩; refine ⟨_, rfl, ?_⟩; have n0_ := Am (KeepBut.blk hk (g' := gb365) (o := .cells #[.int .i64 0, .slice none 0 0] 27 (0, 0)) (by (with_reducible repeat (first | refine Kn ?_ _ | refine Ke ?_ | refine Ka ?_ _)); exact BK365.out) NB365_366.out (by simp)); have n1_ := Am (Kd.R_lower ho0 (below_size (by repeat (first | (with_reducible first | exact HB.out | apply Ba | apply Bn | apply Bd | refine Bs ?_ (IsS67.ge HI366.out) | refine Bs ?_ GE365.out) | exact HB.out)))); have n2_ := Am (hb); have n3_ := Am (hi); clear BK365; clear HB; clear HI366; have BK365 := n0_; have HO370 := n1_; have HB := n2_; have HI366 := n3_; clear n0_ n1_ n2_ n3_; (try clear hb); (try clear hb2); (try clear hk); (try clear hi); (try clear ho0); have hnb6 := NB365_366.out; have hnc6 := NB366_365.out; have hcz7_0 : w5.cell? ⟨gb365, 0, none⟩ = some (.int .i64 0) := (Kc BK365.out 0).trans rfl; have hcz7_1 : w5.cell? ⟨gb365, 1, none⟩ = some (.slice none 0 0) := (Kc BK365.out 1).trans rfl; have hfz7_0 := Kf BK365.out 0; have hfz7_1 := Kf BK365.out 1; obtain ⟨Ao8, co8, eo8⟩ := Kd.R_slice HO370.out; subst eo8))
 refine bodyPost_ret (results_cell_row rfl _ _ gb365 27 #[.int .i64 t367, .slice Ao8 t368.length co8] (0, 0) _ rfl (by (with_reducible repeat (first | refine Kn ?_ _ | refine Ke ?_ | refine Ka ?_ _)); refine blk_put (cs := #[.int .i64 t367, .slice none 0 0]) ?_ 1 _ rfl; (with_reducible repeat (first | refine Kn ?_ _ | refine Ke ?_ | refine Ka ?_ _)); refine blk_put (cs := #[.int .i64 0, .slice none 0 0]) ?_ 0 _ rfl; (with_reducible repeat (first | refine Kn ?_ _ | refine Ke ?_ | refine Ka ?_ _)); exact BK365.out) Try.underlying27 rfl (by kernel_rfl)) rfl ?_
 exact ⟨_, by first | rfl | (simp [errW_none, errW_some] <;> rfl) | (simp [*, errW_none, errW_some] <;> rfl), by (with_reducible repeat (first | apply Ra | apply Rn | apply Rd)); exact Kd.R_mono (Kd.R_far (p := ⟨gb365, 1, none⟩) (Kd.R_far (p := ⟨gb365, 0, none⟩) (Kd.R_types HO370.out BK365.out (by decide)) (fun _ hk => hk.2) (.int .i64 t367)) (fun _ hk => hk.2) (.slice Ao8 t368.length co8)) (fun _ hk => trivial), by repeat (first | (with_reducible first | exact HB.out | apply Ba | apply Bn | apply Bd | refine Bs ?_ (IsS67.ge HI366.out) | refine Bs ?_ GE365.out) | exact HB.out)⟩
def spec_DrawStrongParts.f (k : Nat) (l0 : List Int) : Option (Int × List Int) := (spec_DrawIsTournament.f k l0).bind fun bt374 => (some (bt374.1, bt374.2))
theorem spec_DrawStrongParts.mono : ∀ a0 k, LeO (spec_DrawStrongParts.f k a0) (spec_DrawStrongParts.f (k + 1) a0) := by
 intro a0 k
 unfold spec_DrawStrongParts.f
 repeat' first
   | (with_reducible exact spec_DrawIsTournament.mono _ _)
   | (with_reducible exact LeO.refl _)
   | (with_reducible exact LeO.none _)
   | (with_reducible refine LeO.ite ?_ ?_)
   | (with_reducible refine LeO.bind ?_ (fun _ => ?_))
   | exact spec_DrawIsTournament.mono _ _
   | exact LeO.none _
   | refine LeO.ite ?_ ?_
   | refine LeO.bind ?_ (fun _ => ?_)
set_option maxHeartbeats 8000000 in
set_option maxRecDepth 100000 in
theorem spec_DrawStrongParts.calls (k : Nat) (A0 : Option Addr) (c0 : Nat) (l0 : List Int) (r1 : Int) (r2 : List Int) (w : World) (hr0 : Kd.C (Kd.int .u8) w A0 l0.length l0) (hc0 : l0.length ≤ c0) (h : spec_DrawStrongParts.f k l0 = some (r1, r2)) :
  Calls Try.prog 20 #[.slice A0 l0.length c0] w fun e w' => ∃ v1_ : Value, e = .returned (.agg #[.int .i64 r1, v1_]) ∧ Kd.R (Kd.int .i64) 3 w' w.heap.size (fun _ => True) v1_ r2 ∧ Below w.heap.size w w' := by
 have hu27 := Try.underlying27
 have HR0 := Am hr0
 have HC0 := Am hc0
 clear hr0 hc0
 have HB := Am (Below.refl w.heap.size w)
 have H : ((spec_DrawIsTournament.f k l0).bind fun bt374 => (some (bt374.1, bt374.2))) = some (r1, r2) := h
 clear h
 replace H := Option.bind_eq_some_iff.mp H
 obtain ⟨⟨t374, t375⟩, A20, H⟩ := H
 replace H : (some (t374, t375)) = some (r1, r2) := H
 have A2 := Am A20
 clear A20
 simp only [Option.some.injEq, Prod.mk.injEq] at H
 obtain ⟨rfl, rfl⟩ := H
 go_enter Try.func20, Try.ntmps20
 go_wp2_with (first | ((with_reducible refine gate_dst (N := 2) rfl ?_); refine box_event ?hg (N := 2) ?hd (cs := #[.int .i64 0, .slice none 0 0]) (t := 27) ?hr ?_; (case hd => rfl); (case hg => rfl); (case hr => first | (go_simp; done) | (go_simp; rfl)); intro gb373 hg w3 hbox hb; have n0_ := Am (below_step (by repeat (first | (with_reducible first | exact HB.out | apply Ba | apply Bn | apply Bd))) hb); have n1_ := Am (hbox); have n2_ := Am ((by rw [hg]; exact (below_size (by repeat (first | (with_reducible first | exact HB.out | apply Ba | apply Bn | apply Bd)))) : w.heap.size ≤ gb373)); have n3_ := Am ((by rw [hg]; exact (below_size (by repeat (first | (with_reducible first | exact HB.out | apply Ba | apply Bn | apply Bd)))) : w.heap.size ≤ gb373)); clear HB; have HB := n0_; have BK373 := n1_; have GW373 := n2_; have GE373 := n3_; clear n0_ n1_ n2_ n3_; clear hb hbox hg) | ((with_reducible refine gate_callee (f := 48) rfl ?_); refine goesL_ (some 4) rfl rfl Try.func48 (by kernel_rfl) rfl #[.slice A0 l0.length c0] rfl (by (try simp only [List.map_toArray, List.map_cons, List.map_nil]); first | done | rfl) ?_; (with_reducible refine (spec_DrawIsTournament.calls k _ _ l0 t374 t375 _ ?side1 ?side2 A2.out).mono ?_); (case side1 => repeat (first | exact (Kd.C_below HR0.out HB.out) | (with_reducible refine Ca ?_ _) | (with_reducible refine Cn ?_ _) | (with_reducible refine Cd ?_))); (case side2 => exact HC0.out); rintro e w4 ⟨v376, rfl, ho0, hb⟩; refine ⟨_, rfl, ?_⟩; have n0_ := Am (Kd.R_lower ho0 (below_size (by repeat (first | (with_reducible first | exact HB.out | apply Ba | apply Bn | apply Bd | refine Bs ?_ GE373.out) | exact HB.out)))); have n1_ := Am (blk_below (g := gb373) (o := .cells #[.int .i64 0, .slice none 0 0] 27 (0, 0)) (by (with_reducible repeat (first | refine Kn ?_ _ | refine Ke ?_ | refine Ka ?_ _)); exact BK373.out) hb); have n2_ := Am (below_step (by repeat (first | (with_reducible first | exact HB.out | apply Ba | apply Bn | apply Bd | refine Bs ?_ GE373.out) | exact HB.out)) hb); clear BK373; clear HB; have HO377 := n0_; have BK373 := n1_; have HB := n2_; clear n0_ n1_ n2_; (try clear hb); (try clear hb2); (try clear hk); (try clear hi); (try clear ho0); have hcz5_0 : w4.cell? ⟨gb373, 0, none⟩ = some (.int .i64 0) := (Kc BK373.out 0).trans rfl; have hcz5_1 : w4.cell? ⟨gb373, 1, none⟩ = some (.slice none 0 0) := (Kc BK373.out 1).trans rfl; have hfz5_0 := Kf BK373.out 0; have hfz5_1 := Kf BK373.out 1; obtain ⟨Ao6, co6, eo6⟩ := Kd.R_slice HO377.out; subst eo6))
 refine bodyPost_ret (results_cell_row rfl _ _ gb373 27 #[.int .i64 t374, .slice Ao6 t375.length co6] (0, 0) _ rfl (by (with_reducible repeat (first | refine Kn ?_ _ | refine Ke ?_ | refine Ka ?_ _)); refine blk_put (cs := #[.int .i64 t374, .slice none 0 0]) ?_ 1 _ rfl; (with_reducible repeat (first | refine Kn ?_ _ | refine Ke ?_ | refine Ka ?_ _)); refine blk_put (cs := #[.int .i64 0, .slice none 0 0]) ?_ 0 _ rfl; (with_reducible repeat (first | refine Kn ?_ _ | refine Ke ?_ | refine Ka ?_ _)); exact BK373.out) Try.underlying27 rfl (by kernel_rfl)) rfl ?_
 exact ⟨_, by first | rfl | (simp [errW_none, errW_some] <;> rfl) | (simp [*, errW_none, errW_some] <;> rfl), by (with_reducible repeat (first | apply Ra | apply Rn | apply Rd)); exact Kd.R_mono (Kd.R_far (p := ⟨gb373, 1, none⟩) (Kd.R_far (p := ⟨gb373, 0, none⟩) (Kd.R_types HO377.out BK373.out (by decide)) (fun _ hk => hk.2) (.int .i64 t374)) (fun _ hk => hk.2) (.slice Ao6 t375.length co6)) (fun _ hk => trivial), by repeat (first | (with_reducible first | exact HB.out | apply Ba | apply Bn | apply Bd | refine Bs ?_ GE373.out) | exact HB.out)⟩
def slices_Compact_int_int.f (l : List Int) : Option (List Int) := if 1 ≤ l.length ∧ l.length ≤ 1048576 then some (Go.Lib.compact l) else none
def insD (x : Int) : List Int → List Int
  | [] => [x]
  | y :: l => if x ≤ y then y :: insD x l else x :: y :: l
def rankL (l : List Int) : List Int := l.foldl (fun s x => insD x s) []
def impl_ranking.f (l : List Int) : Option (List Int) := if 1 ≤ l.length ∧ l.length ≤ 12 ∧ ∀ x ∈ l, -1048576 ≤ x ∧ x ≤ 1048576 then some (rankL l) else none
mutual
def impl_reached.l0 : Nat → List Int → List Int → Int → Int → Option (List Int)
 | 0, _, _, _, _ => none
 | k + 1, x3, x10, x11, x12 => if x12 < x11 then (if 0 ≤ x12 then (if x12 < (x10.length : Int) then (if x3.length < 17592186044416 then (impl_reached.l0 k (x3 ++ [Go.bits .or .i64 (rd x10 x12) (shl .i64 1 x12)]) x10 x11 (wrap64 (x12 + 1))) else (none)) else (none)) else (none)) else (impl_reached.l1 k x3 (x3.length : Int) 0)
def impl_reached.l1 : Nat → List Int → Int → Int → Option (List Int)
 | 0, _, _, _ => none
 | k + 1, x3, x26, x27 => if x27 < x26 then (impl_reached.l2 k x3 x27 x26 x27 (x3.length : Int) 0) else (some x3)
def impl_reached.l2 : Nat → List Int → Int → Int → Int → Int → Int → Option (List Int)
 | 0, _, _, _, _, _, _ => none
 | k + 1, x3, x6, x26, x27, x31, x32 => if x32 < x31 then (if 0 ≤ x32 then (if x32 < (x3.length : Int) then ((impl_has.f (rd x3 x32) x6).bind fun t387 => (if t387 = true then (if 0 ≤ x6 then (if x6 < (x3.length : Int) then (impl_reached.l2 k (x3.set (x32 : Int).toNat (Go.bits .or .i64 (rd x3 x32) (rd x3 x6))) x6 x26 x27 x31 (wrap64 (x32 + 1))) else (none)) else (none)) else (impl_reached.l2 k x3 x6 x26 x27 x31 (wrap64 (x32 + 1))))) else (none)) else (none)) else (impl_reached.l1 k x3 x26 (wrap64 (x27 + 1)))
end
def impl_reached.f (k : Nat) (a0_0 : Int) (l0_1 : List Int) : Option (List Int) := impl_reached.l0 k (([] : List Int)) l0_1 (l0_1.length : Int) 0
theorem impl_reached.mono_l : ∀ k, (∀ y0 y1 y2 y3, LeO (impl_reached.l0 k y0 y1 y2 y3) (impl_reached.l0 (k + 1) y0 y1 y2 y3)) ∧ (∀ y0 y1 y2, LeO (impl_reached.l1 k y0 y1 y2) (impl_reached.l1 (k + 1) y0 y1 y2)) ∧ (∀ y0 y1 y2 y3 y4 y5, LeO (impl_reached.l2 k y0 y1 y2 y3 y4 y5) (impl_reached.l2 (k + 1) y0 y1 y2 y3 y4 y5))
 | 0 => ⟨fun _ _ _ _ r h => by simp [impl_reached.l0] at h, fun _ _ _ r h => by simp [impl_reached.l1] at h, fun _ _ _ _ _ _ r h => by simp [impl_reached.l2] at h⟩
 | k + 1 => by
  obtain ⟨ih0, ih1, ih2⟩ := impl_reached.mono_l k
  refine ⟨?_, ?_, ?_⟩
  ·
   intro y0 y1 y2 y3
   unfold impl_reached.l0
   repeat' first
   | (with_reducible exact ih0 _ _ _ _)
   | (with_reducible exact ih1 _ _ _)
   | (with_reducible exact ih2 _ _ _ _ _ _)
   | (with_reducible exact LeO.refl _)
   | (with_reducible exact LeO.none _)
   | (with_reducible refine LeO.ite ?_ ?_)
   | (with_reducible refine LeO.bind ?_ (fun _ => ?_))
   | exact ih0 _ _ _ _
   | exact ih1 _ _ _
   | exact ih2 _ _ _ _ _ _
   | exact LeO.none _
   | refine LeO.ite ?_ ?_
   | refine LeO.bind ?_ (fun _ => ?_)
  ·
   intro y0 y1 y2
   unfold impl_reached.l1
   repeat' first
   | (with_reducible exact ih0 _ _ _ _)
   | (with_reducible exact ih1 _ _ _)
   | (with_reducible exact ih2 _ _ _ _ _ _)
   | (with_reducible exact LeO.refl _)
   | (with_reducible exact LeO.none _)
   | (with_reducible refine LeO.ite ?_ ?_)
   | (with_reducible refine LeO.bind ?_ (fun _ => ?_))
   | exact ih0 _ _ _ _
   | exact ih1 _ _ _
   | exact ih2 _ _ _ _ _ _
   | exact LeO.none _
   | refine LeO.ite ?_ ?_
   | refine LeO.bind ?_ (fun _ => ?_)
  ·
   intro y0 y1 y2 y3 y4 y5
   unfold impl_reached.l2
   repeat' first
   | (with_reducible exact ih0 _ _ _ _)
   | (with_reducible exact ih1 _ _ _)
   | (with_reducible exact ih2 _ _ _ _ _ _)
   | (with_reducible exact LeO.refl _)
   | (with_reducible exact LeO.none _)
   | (with_reducible refine LeO.ite ?_ ?_)
   | (with_reducible refine LeO.bind ?_ (fun _ => ?_))
   | exact ih0 _ _ _ _
   | exact ih1 _ _ _
   | exact ih2 _ _ _ _ _ _
   | exact LeO.none _
   | refine LeO.ite ?_ ?_
   | refine LeO.bind ?_ (fun _ => ?_)
theorem impl_reached.mono : ∀ a0 a1 k, LeO (impl_reached.f k a0 a1) (impl_reached.f (k + 1) a0 a1) := by
 intro a0 a1 k
 obtain ⟨ih0, ih1, ih2⟩ := impl_reached.mono_l k
 unfold impl_reached.f
 repeat' first
   | (with_reducible exact ih0 _ _ _ _)
   | (with_reducible exact ih1 _ _ _)
   | (with_reducible exact ih2 _ _ _ _ _ _)
   | (with_reducible exact LeO.refl _)
   | (with_reducible exact LeO.none _)
   | (with_reducible refine LeO.ite ?_ ?_)
   | (with_reducible refine LeO.bind ?_ (fun _ => ?_))
   | exact ih0 _ _ _ _
   | exact ih1 _ _ _
   | exact ih2 _ _ _ _ _ _
   | exact LeO.none _
   | refine LeO.ite ?_ ?_
   | refine LeO.bind ?_ (fun _ => ?_)
def impl_reached.T14 : Bool × List (List Nat × List Nat) := (true, [([], []), ([], []), ([0, 1], [0, 1]), ([2], [2]), ([], []), ([], []), ([4, 5], [4, 5]), ([6], [6]), ([3, 7], [3, 7]), ([0, 1, 0, 1, 2, 3, 4, 5, 6, 7, 8], [0, 1]), ([9, 8, 0, 1, 2, 3, 4, 5, 6, 7, 8], [8, 9])])
def impl_reached.B14 : List Nat := [0, 0, 3, 7, 0, 0, 48, 112, 255, 511, 1023]
theorem impl_reached.tab14 : rtab .any (opsOf Try.f49 14) = impl_reached.T14 := by kernel_rfl
theorem impl_reached.bits14 : waitsOk impl_reached.T14.2 impl_reached.B14 = true := by kernel_rfl
set_option maxHeartbeats 8000000 in
set_option maxRecDepth 100000 in
theorem impl_reached.calls (k : Nat) (a0_0 : Int) (A0_1 : Option Addr) (c0_1 : Nat) (l0_1 : List Int) (r : List Int) (w : World) (hr0_1 : Kd.C (Kd.int .i64) w A0_1 l0_1.length l0_1) (hc0_1 : l0_1.length ≤ c0_1) (h : impl_reached.f k a0_0 l0_1 = some r) :
  Calls Try.prog 49 #[.agg #[.int .i64 a0_0, .slice A0_1 l0_1.length c0_1]] w fun e w' => ∃ v0_ : Value, e = .returned (v0_) ∧ Kd.R (Kd.int .i64) 3 w' w.heap.size (fun _ => True) v0_ r ∧ Below w.heap.size w w' := by
 have hu27 := Try.underlying27
 have HR0_1 := Am hr0_1
 have HC0_1 := Am hc0_1
 clear hr0_1 hc0_1
 have HB := Am (Below.refl w.heap.size w)
 have H : (impl_reached.l0 k (([] : List Int)) l0_1 (l0_1.length : Int) 0) = some r := h
 clear h
 obtain ⟨y379, hy379⟩ : ∃ y_ : List Int, y_ = (([] : List Int)) := ⟨_, rfl⟩
 replace H : (impl_reached.l0 k y379 l0_1 (l0_1.length : Int) 0) = some r := by first | (rw [hy379]; with_reducible exact H) | (have H2_ := (Option.bind_some _ _).symm.trans H; rw [hy379]; with_reducible exact H2_) | (have H2_ := (Option.bind_some _ _).symm.trans H; with_reducible exact H2_) | with_reducible exact H | (rw [hy379]; exact H) | exact H
 have Ny379 := Am hy379
 clear hy379
 have H' := Am H
 clear H
 go_enter Try.func49, Try.ntmps49
 go_wp2_with (first | ((with_reducible refine gate_dst (N := 1) rfl ?_); refine box_event ?hg (N := 1) ?hd (cs := #[.int .i64 a0_0, .slice A0_1 l0_1.length c0_1]) (t := 27) ?hr ?_; (case hd => rfl); (case hg => rfl); (case hr => first | (go_simp; done) | (go_simp; rfl)); intro gb378 hg w2 hbox hb; have n0_ := Am (below_step (by repeat (first | (with_reducible first | exact HB.out | apply Ba | apply Bn | apply Bd))) hb); have n1_ := Am (hbox); have n2_ := Am ((by rw [hg]; exact (below_size (by repeat (first | (with_reducible first | exact HB.out | apply Ba | apply Bn | apply Bd)))) : w.heap.size ≤ gb378)); have n3_ := Am ((by rw [hg]; exact (below_size (by repeat (first | (with_reducible first | exact HB.out | apply Ba | apply Bn | apply Bd)))) : w.heap.size ≤ gb378)); clear HB; have HB := n0_; have BK378 := n1_; have GW378 := n2_; have GE378 := n3_; clear n0_ n1_ n2_ n3_; clear hb hbox hg) | ((with_reducible refine gate_dst (N := 8) rfl ?_); refine Kd.R_lit (Kd.int .i64) _ 3 ?hg (N := 8) ?hd (xs := ([] : List Int)) (inner := []) (ok := fun _ => True) (okp := fun _ => True) ?hr ?hp (fun _ hk => hk) trivial (Below.refl _ _) (Nat.le_refl _) (by simp) ?_; (case hd => rfl); (case hg => rfl); (case hr => first | (go_simp; done) | (go_simp; rfl)); (case hp => exact (Reps.none _ _)); intro v380 w3 ho4 hb hg_ hnew_; clear hg_ hnew_; (first | rw [← Ny379.out] at ho4 | (simp only [Int.reduceToNat] at ho4; rw [← Ny379.out] at ho4)); have n0_ := Am (Kd.R_lower ho4 (below_size (by repeat (first | (with_reducible first | exact HB.out | apply Ba | apply Bn | apply Bd | refine Bs ?_ GE378.out) | exact HB.out)))); have n1_ := Am (blk_below (g := gb378) (o := .cells #[.int .i64 a0_0, .slice A0_1 l0_1.length c0_1] 27 (0, 0)) (by (with_reducible repeat (first | refine Kn ?_ _ | refine Ke ?_ | refine Ka ?_ _)); exact BK378.out) hb); have n2_ := Am (below_step (by repeat (first | (with_reducible first | exact HB.out | apply Ba | apply Bn | apply Bd | refine Bs ?_ GE378.out) | exact HB.out)) hb); clear BK378; clear HB; have HO381 := n0_; have BK378 := n1_; have HB := n2_; clear n0_ n1_ n2_; clear hb ho4; have hcz5_0 : w3.cell? ⟨gb378, 0, none⟩ = some (.int .i64 a0_0) := (Kc BK378.out 0).trans rfl; have hcz5_1 : w3.cell? ⟨gb378, 1, none⟩ = some (.slice A0_1 l0_1.length c0_1) := (Kc BK378.out 1).trans rfl; have hfz5_0 := Kf BK378.out 0; have hfz5_1 := Kf BK378.out 1))
 go_loopg [3, 12] k (fun kq v3 v12 w' => ∃ (x3_1 : List Int) (x12_1 : Int), v12 = .int .i64 x12_1 ∧ Aside0 (impl_reached.l0 kq x3_1 l0_1 (l0_1.length : Int) x12_1 = some r) ∧ Aside0 (kq ≤ k) ∧ Aside0 (Kd.R (Kd.int .i64) 3 w' w.heap.size (fun _ => True) v3 x3_1) ∧ Aside0 (w'.heap[gb378]? = some (.cells #[.int .i64 a0_0, (.slice A0_1 l0_1.length c0_1)] 27 (0, 0))) ∧ Aside0 (Below w.heap.size w w'))
 case atStart => exact ⟨(y379), (0), (by first | rfl | (simp; done) | (simp [*]; done)), H', ⟨Nat.le_refl _⟩, ⟨by (with_reducible repeat (first | apply Ra | apply Rn | apply Rd)); exact HO381.out⟩, ⟨by (with_reducible repeat (first | refine Kn ?_ _ | refine Ke ?_ | refine Ka ?_ _)); exact BK378.out⟩, ⟨by repeat (first | (with_reducible first | exact HB.out | apply Ba | apply Bn | apply Bd | refine Bs ?_ GE378.out) | exact HB.out)⟩⟩
 case round =>
  clear H'
  (try clear p2); (try clear c4); (try clear hcz5_0); (try clear hcz5_1); (try clear hfz5_0); (try clear hfz5_1)
  obtain ⟨x3_1, x12_1, rfl, HA, HK1, HO_3, BK378, HB⟩ := hrel
  cases gk with
  | zero => exact absurd HA.out (by simp [impl_reached.l0])
  | succ k1 =>
   have H := HA.out
   clear HA
   simp only [impl_reached.l0] at H
   by_cases c6 : x12_1 < (l0_1.length : Int)
   ·
    rw [if_pos c6] at H
    have c6b0 : decide (x12_1 < (l0_1.length : Int)) = true := De c6
    clear c6
    by_cases c7 : 0 ≤ x12_1
    ·
     rw [if_pos c7] at H
     have c7b0 : decide (0 ≤ x12_1) = true := De c7
     clear c7
     by_cases c8 : x12_1 < (l0_1.length : Int)
     ·
      rw [if_pos c8] at H
      have c8b0 : decide (x12_1 < (l0_1.length : Int)) = true := De c8
      clear c8
      have c9b0 := eq_true (Oe (by first | (with_reducible assumption) | assumption) : 0 ≤ x12_1)
      obtain ⟨ji10, hji10⟩ : ∃ j_ : Int, (shl .i64 1 x12_1) = j_ := ⟨_, rfl⟩
      replace H : (if x3_1.length < 17592186044416 then (impl_reached.l0 k1 (x3_1 ++ [Go.bits .or .i64 (rd l0_1 x12_1) (ji10)]) l0_1 (l0_1.length : Int) (wrap64 (x12_1 + 1))) else (none)) = some r := by first | (rw [hji10] at H; exact H) | (simp only [hji10] at H ⊢; exact H)
      have hji10_ : (IntKind.i64.wrap (1 * 2 ^ min x12_1.toNat 64)) = ji10 := hji10
      have hji10z : x12_1 ≤ 64 → (IntKind.i64.wrap (1 * 2 ^ x12_1.toNat)) = ji10 := shl_small hji10
      have hji10u : (IntKind.i64.wrap (2 ^ min x12_1.toNat 64)) = ji10 := by have h_ := hji10_; rw [Int.one_mul] at h_; exact h_
      have hji10v : x12_1 ≤ 64 → (IntKind.i64.wrap (2 ^ x12_1.toNat)) = ji10 := fun hle_ => by have h_ := hji10z hle_; rw [Int.one_mul] at h_; exact h_
      have hji10y : (wrap64 (1 * 2 ^ min x12_1.toNat 64)) = ji10 := (i64_w _).symm.trans hji10_
      have hji10x : x12_1 ≤ 64 → (wrap64 (1 * 2 ^ x12_1.toNat)) = ji10 := fun h_ => (i64_w _).symm.trans (hji10z h_)
      by_cases c11 : x3_1.length < 17592186044416
      ·
       rw [if_pos c11] at H
       have LMc11 := Am c11
       clear c11
       obtain ⟨y383, hy383⟩ : ∃ y_ : List Int, y_ = (x3_1 ++ [Go.bits .or .i64 (rd l0_1 x12_1) (ji10)]) := ⟨_, rfl⟩
       replace H : (impl_reached.l0 k1 y383 l0_1 (l0_1.length : Int) (wrap64 (x12_1 + 1))) = some r := by first | (rw [hy383]; with_reducible exact H) | (have H2_ := (Option.bind_some _ _).symm.trans H; rw [hy383]; with_reducible exact H2_) | (have H2_ := (Option.bind_some _ _).symm.trans H; with_reducible exact H2_) | with_reducible exact H | (rw [hy383]; exact H) | exact H
       have Ny383 := Am hy383
       clear hy383
       have H' := Am H
       clear H
       have p382 : 0 ≤ (x12_1 : Int) := Oe (by first | (with_reducible assumption) | assumption)
       have q382 : x12_1 < (l0_1.length : Int) := Oe (by first | (with_reducible assumption) | assumption)
       obtain ⟨ad382, e382, hx382_0⟩ := Kd.at_int HR0_1.out x12_1 p382 q382
       cases e382
       replace hx382_0 := (HB.out.cell (World.block_lt_of_cell? w _ hx382_0)).trans hx382_0
       replace p382 := eq_true p382
       replace q382 := eq_true q382
       go_wp2_with (first | ((with_reducible refine gate_builtin (b := .append) (xs := #[.tmp 17, .tmp 22]) rfl ?_); at_builtin; refine Kd.R_append (Kd.int .i64) (w0 := w) w.heap.size rfl (.tmp 17) (.tmp 22) 24 3 (.int .i64 0) 8 rfl Try.underlying24 info3 rfl (by decide) (by omega) u3 x3_1 (Go.bits .or .i64 (rd l0_1 x12_1) (ji10)) [.int .i64 (Go.bits .or .i64 (rd l0_1 x12_1) (ji10))] (fun _ => True) (fun _ => False) rfl rfl ?aP (fun _ hk => hk.elim) ?aF ?aO ?aB ?aS ?aL ?_; (case aP => exact rfl); (case aB => exact (by repeat (first | (with_reducible first | exact HB.out | apply Ba | apply Bn | apply Bd | refine Bs ?_ GE378.out) | exact HB.out))); (case aF => exact (fun _ _ => trivial)); (case aO => exact (by (with_reducible repeat (first | apply Ra | apply Rn | apply Rd)); exact HO_3.out)); (case aS => exact (below_size (by repeat (first | (with_reducible first | exact HB.out | apply Ba | apply Bn | apply Bd | refine Bs ?_ GE378.out) | exact HB.out)))); (case aL => have := LMc11.out; omega); intro v384 w12 ho hb hg hat; rw [← Ny383.out] at ho; have n0_ := Am (blk_grown (g := gb378) (o := .cells #[.int .i64 a0_0, .slice (some ad382) l0_1.length c0_1] 27 (0, 0)) (by (with_reducible repeat (first | refine Kn ?_ _ | refine Ke ?_ | refine Ka ?_ _)); exact BK378.out) hg (Kd.R_ne HO_3.out BK378.out (by decide))); have n1_ := Am (hb); have n2_ := Am (ho); clear BK378; clear HB; clear HO_3; have BK378 := n0_; have HB := n1_; have HO385 := n2_; clear n0_ n1_ n2_; clear ho hb hg hat))
       go_roundg k1
       case measure => have := HK1.out; omega
       case rel => exact ⟨(y383), (wrap64 (x12_1 + 1)), (by first | rfl | (simp; done) | (simp [*]; done)), H', ⟨by have := HK1.out; omega⟩, ⟨by (with_reducible repeat (first | apply Ra | apply Rn | apply Rd)); exact HO385.out⟩, ⟨by (with_reducible repeat (first | refine Kn ?_ _ | refine Ke ?_ | refine Ka ?_ _)); exact BK378.out⟩, ⟨by repeat (first | (with_reducible first | exact HB.out | apply Ba | apply Bn | apply Bd | refine Bs ?_ GE378.out) | exact HB.out)⟩⟩
      ·
       rw [if_neg c11] at H
       exact absurd H (by simp)
     ·
      rw [if_neg c8] at H
      exact absurd H (by simp)
    ·
     rw [if_neg c7] at H
     exact absurd H (by simp)
   ·
    rw [if_neg c6] at H
    have c6b0 : decide (x12_1 < (l0_1.length : Int)) = false := Df c6
    clear c6
    have H' := Am H
    clear H
    obtain ⟨Ao13, co13, eo13⟩ := Kd.R_slice HO_3.out
    subst eo13
    go_wp2
    go_loopg [27] k1 (fun kq v27 w' => ∃ (x3_2 : List Int) (x27_2 : Int), v27 = .int .i64 x27_2 ∧ Aside0 (impl_reached.l1 kq x3_2 (x3_1.length : Int) x27_2 = some r) ∧ Aside0 (kq ≤ k1) ∧ Aside0 (Kd.R (Kd.int .i64) 3 w' w.heap.size (fun _ => True) (.slice Ao13 x3_1.length co13) x3_2) ∧ Aside0 (w'.heap[gb378]? = some (.cells #[.int .i64 a0_0, (.slice A0_1 l0_1.length c0_1)] 27 (0, 0))) ∧ Aside0 (Below w.heap.size w w'))
    case atStart => exact ⟨(x3_1), (0), (by first | rfl | (simp; done) | (simp [*]; done)), H', ⟨Nat.le_refl _⟩, ⟨by (with_reducible repeat (first | apply Ra | apply Rn | apply Rd)); exact HO_3.out⟩, ⟨by (with_reducible repeat (first | refine Kn ?_ _ | refine Ke ?_ | refine Ka ?_ _)); exact BK378.out⟩, ⟨by repeat (first | (with_reducible first | exact HB.out | apply Ba | apply Bn | apply Bd | refine Bs ?_ GE378.out) | exact HB.out)⟩⟩
    case round =>
     clear H'
     (try clear c1); (try clear p2); (try clear p3); (try clear q3); (try clear hx3); (try clear c4); (try clear c6); (try clear c6b0); (try clear p6); (try clear c7); (try clear c7b0); (try clear c8); (try clear c8b0); (try clear c9); (try clear c9b0); (try clear c11); (try clear hcz5_0); (try clear hcz5_1); (try clear hfz5_0); (try clear hfz5_1); (try clear hx382_0); (try clear p2); (try clear p382); (try clear q382)
     obtain ⟨x3_2, x27_2, rfl, HA, HK2, HO_3, BK378, HB⟩ := hrel
     have hl3_2 := (Kd.R_reads' HO_3.out).1
     rw [hl3_2] at HO_3
     (try simp only [hl3_2])
     (try simp only [hl3_2] at BK378)
     cases gk with
     | zero => exact absurd HA.out (by simp [impl_reached.l1])
     | succ k2 =>
      have H := HA.out
      clear HA
      simp only [impl_reached.l1] at H
      by_cases c14 : x27_2 < (x3_1.length : Int)
      ·
       rw [if_pos c14] at H
       have c14b0 : decide (x27_2 < (x3_1.length : Int)) = true := De c14
       (try (have c14b1 := c14b0; simp only [hl3_2] at c14b1))
       clear c14
       have H' := Am H
       clear H
       go_wp2
       go_loopg [32] k2 (fun kq v32 w' => ∃ (x3_3 : List Int) (x32_3 : Int), v32 = .int .i64 x32_3 ∧ Aside0 (impl_reached.l2 kq x3_3 x27_2 (x3_1.length : Int) x27_2 (x3_2.length : Int) x32_3 = some r) ∧ Aside0 (kq ≤ k2) ∧ Aside0 (Kd.R (Kd.int .i64) 3 w' w.heap.size (fun _ => True) (.slice Ao13 x3_2.length co13) x3_3) ∧ Aside0 (w'.heap[gb378]? = some (.cells #[.int .i64 a0_0, (.slice A0_1 l0_1.length c0_1)] 27 (0, 0))) ∧ Aside0 (Below w.heap.size w w'))
       case atStart => exact ⟨(x3_2), (0), (by first | rfl | (simp; done) | (simp [*]; done)), H', ⟨Nat.le_refl _⟩, ⟨by (try simp only [hl3_2]); (with_reducible repeat (first | apply Ra | apply Rn | apply Rd)); exact HO_3.out⟩, ⟨by (try simp only [hl3_2]); (with_reducible repeat (first | refine Kn ?_ _ | refine Ke ?_ | refine Ka ?_ _)); exact BK378.out⟩, ⟨by repeat (first | (with_reducible first | exact HB.out | apply Ba | apply Bn | apply Bd | refine Bs ?_ GE378.out) | exact HB.out)⟩⟩
       case round =>
        clear H'
        (try clear c1); (try clear p2); (try clear p3); (try clear q3); (try clear hx3); (try clear c4); (try clear c6); (try clear c6b0); (try clear p6); (try clear c7); (try clear c7b0); (try clear c8); (try clear c8b0); (try clear c9); (try clear c9b0); (try clear c11); (try clear c14); (try clear c14b0); (try clear hcz5_0); (try clear hcz5_1); (try clear hfz5_0); (try clear hfz5_1); (try clear hx382_0); (try clear p2); (try clear p3); (try clear p382); (try clear p6); (try clear q3); (try clear q382)
        obtain ⟨x3_3, x32_3, rfl, HA, HK3, HO_3, BK378, HB⟩ := hrel
        have hl3_3 := (Kd.R_reads' HO_3.out).1
        rw [hl3_3] at HO_3
        (try simp only [hl3_3])
        (try simp only [hl3_3] at BK378)
        cases gk with
        | zero => exact absurd HA.out (by simp [impl_reached.l2])
        | succ k3 =>
         have H := HA.out
         clear HA
         simp only [impl_reached.l2] at H
         by_cases c15 : x32_3 < (x3_2.length : Int)
         ·
          rw [if_pos c15] at H
          have c15b0 : decide (x32_3 < (x3_2.length : Int)) = true := De c15
          (try (have c15b1 := c15b0; simp only [hl3_2, hl3_3] at c15b1))
          clear c15
          by_cases c16 : 0 ≤ x32_3
          ·
           rw [if_pos c16] at H
           have c16b0 : decide (0 ≤ x32_3) = true := De c16
           (try (have c16b1 := c16b0; simp only [hl3_2, hl3_3] at c16b1))
           clear c16
           by_cases c17 : x32_3 < (x3_3.length : Int)
           ·
            rw [if_pos c17] at H
            have c17b0 : decide (x32_3 < (x3_3.length : Int)) = true := De c17
            (try (have c17b1 := c17b0; simp only [hl3_2, hl3_3] at c17b1))
            clear c17
            replace H := Option.bind_eq_some_iff.mp H
            obtain ⟨t387, A180, H⟩ := H
            replace H : (if t387 = true then (if 0 ≤ x27_2 then (if x27_2 < (x3_3.length : Int) then (impl_reached.l2 k3 (x3_3.set (x32_3 : Int).toNat (Go.bits .or .i64 (rd x3_3 x32_3) (rd x3_3 x27_2))) x27_2 (x3_1.length : Int) x27_2 (x3_2.length : Int) (wrap64 (x32_3 + 1))) else (none)) else (none)) else (impl_reached.l2 k3 x3_3 x27_2 (x3_1.length : Int) x27_2 (x3_2.length : Int) (wrap64 (x32_3 + 1)))) = some r := H
            have A18 := Am A180
            clear A180
            by_cases c19 : t387 = true
            ·
             subst c19
             have H1 : (if 0 ≤ x27_2 then (if x27_2 < (x3_3.length : Int) then (impl_reached.l2 k3 (x3_3.set (x32_3 : Int).toNat (Go.bits .or .i64 (rd x3_3 x32_3) (rd x3_3 x27_2))) x27_2 (x3_1.length : Int) x27_2 (x3_2.length : Int) (wrap64 (x32_3 + 1))) else (none)) else (none)) = some r := by rw [if_pos rfl] at H; exact H
             clear H
             have H := H1
             clear H1
             by_cases c20 : 0 ≤ x27_2
             ·
              rw [if_pos c20] at H
              have c20b0 : decide (0 ≤ x27_2) = true := De c20
              (try (have c20b1 := c20b0; simp only [hl3_2, hl3_3] at c20b1))
              clear c20
              by_cases c21 : x27_2 < (x3_3.length : Int)
              ·
               rw [if_pos c21] at H
               have c21b0 : decide (x27_2 < (x3_3.length : Int)) = true := De c21
               (try (have c21b1 := c21b0; simp only [hl3_2, hl3_3] at c21b1))
               clear c21
               obtain ⟨y390, hy390⟩ : ∃ y_ : List Int, y_ = (x3_3.set (x32_3 : Int).toNat (Go.bits .or .i64 (rd x3_3 x32_3) (rd x3_3 x27_2))) := ⟨_, rfl⟩
               replace H : (impl_reached.l2 k3 y390 x27_2 (x3_1.length : Int) x27_2 (x3_2.length : Int) (wrap64 (x32_3 + 1))) = some r := by first | (rw [hy390]; with_reducible exact H) | (have H2_ := (Option.bind_some _ _).symm.trans H; rw [hy390]; with_reducible exact H2_) | (have H2_ := (Option.bind_some _ _).symm.trans H; with_reducible exact H2_) | with_reducible exact H | (rw [hy390]; exact H) | exact H
               have Ny390 := Am hy390
               clear hy390
               have H' := Am H
               clear H
               have p386 : 0 ≤ (x32_3 : Int) := Oe (by first | (with_reducible assumption) | assumption)
               have q386 : x32_3 < (x3_3.length : Int) := Oe (by first | (with_reducible assumption) | assumption)
               obtain ⟨ad386, e386, hx386_0⟩ := Kd.at_int (Kd.R_reads' HO_3.out).2.2 x32_3 p386 q386
               cases e386
               replace p386 := eq_true p386
               replace q386 := eq_true q386
               try go_wp2_with (first | ((with_reducible refine gate_callee (f := 47) rfl ?_); refine goesL_ (some 40) rfl rfl Try.func47 (by kernel_rfl) rfl #[.int .i64 (rd x3_3 x32_3), .int .i64 x27_2] rfl (by (try simp only [List.map_toArray, List.map_cons, List.map_nil]); first | done | rfl) ?_; (with_reducible refine (impl_has.calls (rd x3_3 x32_3) x27_2 true _ A18.out).mono ?_); rintro e w' ⟨rfl, ⟨nd, rfl⟩⟩; refine ⟨_, rfl, ?_⟩; (try (rw [drewN_self wr]; generalize hq_ : World.drewN wr _ = wr; have n0_ : Aside0 (Kd.R (Kd.int .i64) 3 wr w.heap.size (fun _ => True) (.slice (some ad386) x3_3.length co13) x3_3) := ⟨by rw [← hq_]; exact (by (with_reducible repeat (first | apply Ra | apply Rn | apply Rd)); exact HO_3.out)⟩; have n1_ : Aside0 (wr.heap[gb378]? = some (.cells #[.int .i64 a0_0, .slice A0_1 l0_1.length c0_1] 27 (0, 0))) := ⟨by rw [← hq_]; exact (by (with_reducible repeat (first | refine Kn ?_ _ | refine Ke ?_ | refine Ka ?_ _)); exact BK378.out)⟩; have n2_ : Aside0 (Below w.heap.size w wr) := ⟨by rw [← hq_]; exact (by repeat (first | (with_reducible first | exact HB.out | apply Ba | apply Bn | apply Bd | refine Bs ?_ GE378.out) | exact HB.out))⟩; clear HO_3 BK378 HB hq_; have HO_3 := n0_; have BK378 := n1_; have HB := n2_; clear n0_ n1_ n2_))))
               have n0_ := Am (Rd HO_3.out)
               have n1_ := Am (Ke BK378.out)
               have n2_ := Am (Bd HB.out)
               clear HO_3
               clear BK378
               clear HB
               have HO_3 := n0_
               have BK378 := n1_
               have HB := n2_
               clear n0_ n1_ n2_
               have p388 : 0 ≤ (x32_3 : Int) := Oe (by first | (with_reducible assumption) | assumption)
               have q388 : x32_3 < (x3_3.length : Int) := Oe (by first | (with_reducible assumption) | assumption)
               obtain ⟨ad388, e388, hx388_0⟩ := Kd.at_int (Kd.R_reads' HO_3.out).2.2 x32_3 p388 q388
               obtain rfl : ad386 = ad388 := (by injection e388)
               replace p388 := eq_true p388
               replace q388 := eq_true q388
               have p389 : 0 ≤ (x27_2 : Int) := Oe (by first | (with_reducible assumption) | assumption)
               have q389 : x27_2 < (x3_3.length : Int) := Oe (by first | (with_reducible assumption) | assumption)
               obtain ⟨ad389, e389, hx389_0⟩ := Kd.at_int (Kd.R_reads' HO_3.out).2.2 x27_2 p389 q389
               obtain rfl : ad386 = ad389 := (by injection e389)
               replace p389 := eq_true p389
               replace q389 := eq_true q389
               have p22 : 0 ≤ (x32_3 : Int) := Oe (by first | (with_reducible assumption) | assumption)
               have q22 : (x32_3 : Int) < ((x3_3.length : Int) : Int) := Oe (by first | (with_reducible assumption) | assumption)
               obtain ⟨go22, co22, eo22, gb22, gl22, cl22, HG22⟩ := Kd.R_form HO_3.out (by omega)
               (first | cases eo22 | (injection eo22 with ea_ en_ ec_; (first | subst ea_ | (injection ea_ with ea_; subst ea_)); subst ec_; clear en_))
               have GB22 := Am gb22
               have GG22 := Am HG22
               clear gb22 gl22 HG22
               (first | simp only [add_plain] at hx386_0 | skip)
               (first | simp only [add_plain] at hx388_0 | skip)
               (first | simp only [add_plain] at hx389_0 | skip)
               obtain ⟨hx22_0, hf22_0⟩ := Kd.R_celln 0 HO_3.out (x32_3 : Int) p22 q22
               replace p22 := eq_true p22
               replace q22 := eq_true q22
               have HP24 := Kd.R_putn HO_3.out (x32_3 : Int) (Go.bits .or .i64 (rd x3_3 x32_3) (rd x3_3 x27_2))
               rw [← Ny390.out] at HP24
               have HQ24 := Am HP24
               clear HP24
               refine start_ (n := 11) (S := fun w' => w'.cell? ⟨go22, (x32_3).toNat, none⟩ = some (.int .i64 (rd x3_3 x32_3)) ∧ w'.cell? ⟨go22, (x27_2).toNat, none⟩ = some (.int .i64 (rd x3_3 x27_2))) (ds := [10]) #[Zz,Zz,Zz,Zz,Zz,Zz,Zz,Zz,Zz,Zz,Zz] (by kernel_rfl) rfl rfl ⟨hx388_0, hx389_0⟩ (fun hHeld => ?_); refine with_tabW impl_reached.tab14 impl_reached.bits14 (fun HT_ HW_ => ?_)
               generalize wr.drew = w23 at HO_3 BK378 HB GG22 HQ24 hf22_0 hx22_0 hx386_0 hx388_0 hx389_0 hHeld ⊢
               refine pure_ (i := 0) (N := some 41) (v := ?_) (a' := ?_) #[Yy,Zz,Zz,Zz,Zz,Zz,Zz,Zz,Zz,Zz,Zz] rfl rfl (any_of HT_.out (by kernel_rfl)) (fun _ _ _ h => h) (Or.inl ⟨by rfl, ?_⟩) ?_ ?_
               rotate_left
               ·
                intro w'
                go_simp
                with_reducible rfl
               rotate_left
               ·
                simp only [Act.put, List.setIfInBounds_toArray, List.set_cons_zero, List.set_cons_succ, i64_w, i32_w]
                rfl
               refine pure_ (i := 1) (N := some 42) (v := ?_) (a' := ?_) #[Yy,Yy,Zz,Zz,Zz,Zz,Zz,Zz,Zz,Zz,Zz] rfl rfl (any_of HT_.out (by kernel_rfl)) (fun _ _ _ h => h) (Or.inl ⟨by rfl, ?_⟩) ?_ ?_
               rotate_left
               ·
                intro w'
                go_simp
                with_reducible rfl
               rotate_left
               ·
                simp only [Act.put, List.setIfInBounds_toArray, List.set_cons_zero, List.set_cons_succ, i64_w, i32_w]
                rfl
               refine pure_ (i := 2) (N := some 43) (v := ?_) (a' := ?_) #[Yy,Yy,Yy,Zz,Zz,Zz,Zz,Zz,Zz,Zz,Zz] rfl rfl (any_of HT_.out (by kernel_rfl)) (fun _ _ _ h => h) (Or.inl ⟨by rfl, ?_⟩) ?_ ?_
               rotate_left
               ·
                intro w'
                go_simp
                with_reducible rfl
               rotate_left
               ·
                simp only [Act.put, List.setIfInBounds_toArray, List.set_cons_zero, List.set_cons_succ, i64_w, i32_w]
                rfl
               refine pure_ (i := 4) (N := some 45) (v := ?_) (a' := ?_) #[Yy,Yy,Yy,Zz,Yy,Zz,Zz,Zz,Zz,Zz,Zz] rfl rfl (any_of HT_.out (by kernel_rfl)) (fun _ _ _ h => h) (Or.inl ⟨by rfl, ?_⟩) ?_ ?_
               rotate_left
               ·
                intro w'
                go_simp
                with_reducible rfl
               rotate_left
               ·
                simp only [Act.put, List.setIfInBounds_toArray, List.set_cons_zero, List.set_cons_succ, i64_w, i32_w]
                rfl
               refine pure_ (i := 5) (N := some 46) (v := ?_) (a' := ?_) #[Yy,Yy,Yy,Zz,Yy,Yy,Zz,Zz,Zz,Zz,Zz] rfl rfl (any_of HT_.out (by kernel_rfl)) (fun _ _ _ h => h) (Or.inl ⟨by rfl, ?_⟩) ?_ ?_
               rotate_left
               ·
                intro w'
                go_simp
                with_reducible rfl
               rotate_left
               ·
                simp only [Act.put, List.setIfInBounds_toArray, List.set_cons_zero, List.set_cons_succ, i64_w, i32_w]
                rfl
               refine pure_ (i := 6) (N := some 47) (v := ?_) (a' := ?_) #[Yy,Yy,Yy,Zz,Yy,Yy,Yy,Zz,Zz,Zz,Zz] rfl rfl (any_of HT_.out (by kernel_rfl)) (fun _ _ _ h => h) (Or.inl ⟨by rfl, ?_⟩) ?_ ?_
               rotate_left
               ·
                intro w'
                go_simp
                with_reducible rfl
               rotate_left
               ·
                simp only [Act.put, List.setIfInBounds_toArray, List.set_cons_zero, List.set_cons_succ, i64_w, i32_w]
                rfl
               refine take_ (i := 3) (N := some 44) (v := ?_) (a' := ?_) #[Yy,Yy,Yy,Yy,Yy,Yy,Yy,Zz,Zz,Zz,Zz] rfl rfl (take_ofW HT_.out HW_.out (by kernel_rfl)) (fun _ _ _ h => h) (Or.inl ⟨by rfl, ?_⟩) hHeld ?_ ?_
               rotate_left
               ·
                rintro w' ⟨s0, s1⟩
                go_simp
                with_reducible rfl
               rotate_left
               ·
                simp only [Act.put, List.setIfInBounds_toArray, List.set_cons_zero, List.set_cons_succ, i64_w, i32_w]
                rfl
               refine take_ (i := 7) (N := some 48) (v := ?_) (a' := ?_) #[Yy,Yy,Yy,Yy,Yy,Yy,Yy,Yy,Zz,Zz,Zz] rfl rfl (take_ofW HT_.out HW_.out (by kernel_rfl)) (fun _ _ _ h => h) (Or.inl ⟨by rfl, ?_⟩) hHeld ?_ ?_
               rotate_left
               ·
                rintro w' ⟨s0, s1⟩
                go_simp
                with_reducible rfl
               rotate_left
               ·
                simp only [Act.put, List.setIfInBounds_toArray, List.set_cons_zero, List.set_cons_succ, i64_w, i32_w]
                rfl
               refine pure_ (i := 8) (N := some 49) (v := ?_) (a' := ?_) #[Yy,Yy,Yy,Yy,Yy,Yy,Yy,Yy,Yy,Zz,Zz] rfl rfl (any_of HT_.out (by kernel_rfl)) (fun _ _ _ h => h) (Or.inl ⟨by rfl, ?_⟩) ?_ ?_
               rotate_left
               ·
                intro w'
                go_simp
                with_reducible rfl
               rotate_left
               ·
                simp only [Act.put, List.setIfInBounds_toArray, List.set_cons_zero, List.set_cons_succ, i64_w, i32_w]
                rfl
               refine pure_ (i := 9) (N := some 50) (v := ?_) (a' := ?_) #[Yy,Yy,Yy,Yy,Yy,Yy,Yy,Yy,Yy,Yy,Zz] rfl rfl (any_of HT_.out (by kernel_rfl)) (fun _ _ _ h => h) (Or.inl ⟨by rfl, ?_⟩) ?_ ?_
               rotate_left
               ·
                intro w'
                go_simp
                with_reducible rfl
               rotate_left
               ·
                simp only [Act.put, List.setIfInBounds_toArray, List.set_cons_zero, List.set_cons_succ, i64_w, i32_w]
                rfl
               refine last_ (i := 10) (N := none) #[Yy,Yy,Yy,Yy,Yy,Yy,Yy,Yy,Yy,Yy,Yy] rfl rfl (one_of HT_.out (by kernel_rfl)) (by decide) (fun K hK => ?_)
               refine skip_ (w1 := ?_) (by rfl) rfl ?_ ?_
               rotate_left
               ·
                go_simp
                rfl
               refine hK.out _ _ ?_
               clear hK K
               refine done_ (done_of HT_.out (by kernel_rfl)) ?_
               try go_wp2
               (try simp only [← hl3_3])
               go_roundg k3
               case measure => have := HK1.out; have := HK2.out; have := HK3.out; omega
               case rel => exact ⟨(y390), (wrap64 (x32_3 + 1)), (by first | rfl | (simp; done) | (simp [*]; done)), H', ⟨by have := HK1.out; have := HK2.out; have := HK3.out; omega⟩, ⟨by (try simp only [hl3_2]); (try simp only [hl3_3]); (with_reducible repeat (first | apply Ra | apply Rn | apply Rd)); exact HQ24.out⟩, ⟨by (try simp only [hl3_2]); (try simp only [hl3_3]); (with_reducible repeat (first | refine Kn ?_ _ | refine Ke ?_ | refine Ka ?_ _)); refine blk_far ?_ (by have h_ := Kd.R_ne HO_3.out BK378.out (by decide); intro e_; exact h_ (by rw [e_]; rfl)) _; (with_reducible repeat (first | refine Kn ?_ _ | refine Ke ?_ | refine Ka ?_ _)); exact BK378.out⟩, ⟨by repeat (first | (with_reducible first | exact HB.out | apply Ba | apply Bn | apply Bd | refine Bs ?_ GB22.out | refine Bs ?_ GE378.out) | exact HB.out)⟩⟩
              ·
               rw [if_neg c21] at H
               exact absurd H (by simp)
             ·
              rw [if_neg c20] at H
              exact absurd H (by simp)
            ·
             replace c19 := Bool.eq_false_iff.mpr c19
             subst c19
             have H1 : (impl_reached.l2 k3 x3_3 x27_2 (x3_1.length : Int) x27_2 (x3_2.length : Int) (wrap64 (x32_3 + 1))) = some r := by rw [if_neg (show ¬ (false = true) by decide)] at H; exact H
             clear H
             have H := H1
             clear H1
             have H' := Am H
             clear H
             have p386 : 0 ≤ (x32_3 : Int) := Oe (by first | (with_reducible assumption) | assumption)
             have q386 : x32_3 < (x3_3.length : Int) := Oe (by first | (with_reducible assumption) | assumption)
             obtain ⟨ad386, e386, hx386_0⟩ := Kd.at_int (Kd.R_reads' HO_3.out).2.2 x32_3 p386 q386
             cases e386
             replace p386 := eq_true p386
             replace q386 := eq_true q386
             go_wp2_with (first | ((with_reducible refine gate_callee (f := 47) rfl ?_); refine goesL_ (some 40) rfl rfl Try.func47 (by kernel_rfl) rfl #[.int .i64 (rd x3_3 x32_3), .int .i64 x27_2] rfl (by (try simp only [List.map_toArray, List.map_cons, List.map_nil]); first | done | rfl) ?_; (with_reducible refine (impl_has.calls (rd x3_3 x32_3) x27_2 false _ A18.out).mono ?_); rintro e w' ⟨rfl, ⟨nd, rfl⟩⟩; refine ⟨_, rfl, ?_⟩))
             (try simp only [← hl3_3])
             go_roundg k3
             case measure => have := HK1.out; have := HK2.out; have := HK3.out; omega
             case rel => exact ⟨(x3_3), (wrap64 (x32_3 + 1)), (by first | rfl | (simp; done) | (simp [*]; done)), H', ⟨by have := HK1.out; have := HK2.out; have := HK3.out; omega⟩, ⟨by (try simp only [hl3_2]); (try simp only [hl3_3]); (with_reducible repeat (first | apply Ra | apply Rn | apply Rd)); exact HO_3.out⟩, ⟨by (try simp only [hl3_2]); (try simp only [hl3_3]); (with_reducible repeat (first | refine Kn ?_ _ | refine Ke ?_ | refine Ka ?_ _)); exact BK378.out⟩, ⟨by repeat (first | (with_reducible first | exact HB.out | apply Ba | apply Bn | apply Bd | refine Bs ?_ GE378.out) | exact HB.out)⟩⟩
           ·
            rw [if_neg c17] at H
            exact absurd H (by simp)
          ·
           rw [if_neg c16] at H
           exact absurd H (by simp)
         ·
          rw [if_neg c15] at H
          have c15b0 : decide (x32_3 < (x3_2.length : Int)) = false := Df c15
          (try (have c15b1 := c15b0; simp only [hl3_2, hl3_3] at c15b1))
          clear c15
          have H' := Am H
          clear H
          go_wp2
          (try simp only [← hl3_2, ← hl3_3])
          go_roundg k3
          case measure => have := HK1.out; have := HK2.out; have := HK3.out; omega
          case rel => exact ⟨(x3_3), (wrap64 (x27_2 + 1)), (by first | rfl | (simp; done) | (simp [*]; done)), H', ⟨by have := HK1.out; have := HK2.out; have := HK3.out; omega⟩, ⟨by (try simp only [hl3_2]); (try simp only [hl3_3]); (with_reducible repeat (first | apply Ra | apply Rn | apply Rd)); exact HO_3.out⟩, ⟨by (try simp only [hl3_2]); (try simp only [hl3_3]); (with_reducible repeat (first | refine Kn ?_ _ | refine Ke ?_ | refine Ka ?_ _)); exact BK378.out⟩, ⟨by repeat (first | (with_reducible first | exact HB.out | apply Ba | apply Bn | apply Bd | refine Bs ?_ GE378.out) | exact HB.out)⟩⟩
      ·
       rw [if_neg c14] at H
       have c14b0 : decide (x27_2 < (x3_1.length : Int)) = false := Df c14
       (try (have c14b1 := c14b0; simp only [hl3_2] at c14b1))
       clear c14
       obtain rfl := Option.some.inj H
       go_wp2
       go_ret
       exact ⟨_, by first | rfl | (simp [errW_none, errW_some] <;> rfl) | (simp [*, errW_none, errW_some] <;> rfl), by (with_reducible repeat (first | apply Ra | apply Rn | apply Rd)); exact HO_3.out, by repeat (first | (with_reducible first | exact HB.out | apply Ba | apply Bn | apply Bd | refine Bs ?_ GE378.out) | exact HB.out)⟩
end Go.Proofs.Ytcheoendfcgjgaa.P
namespace Go.Proofs
open Go.Shelf
def Try.compactLay_ren : Go.Shelf.Ren := ⟨fun | 20 => 50 | n => n, fun | 22 => 24 | 3 => 3 | 4 => 4 | 0 => 0 | n => n, fun | n => n⟩
theorem Try.compactLay : Go.Proofs.Lays2.n20 Try.prog Try.compactLay_ren := {
  mixed := by kernel_rfl
  f20 := Try.func50.trans (congrArg some (by kernel_rfl))
  t0 := Try.underlying0
  a0 := Try.isAgg0
  z0 := Try.sizeOf0
  v0 := Try.zeroValue0
  t3 := Try.underlying3
  a3 := Try.isAgg3
  z3 := Try.sizeOf3
  v3 := Try.zeroValue3
  t4 := Try.underlying4
  a4 := Try.isAgg4
  z4 := Try.sizeOf4
  v4 := Try.zeroValue4
  t22 := Try.underlying24
  a22 := Try.isAgg24
  z22 := Try.sizeOf24
  v22 := Try.zeroValue24
  i3 := by kernel_rfl }
end Go.Proofs
namespace Go.Proofs.Ytcheoendfcgjgaa.P
open Go Go.RowKit Go.Shelf Go.Sort Go.Proofs.YtcheoendfcgjgaaW.PrintWords Go.Proofs.YtcheoendfcgjgaaW.PrintLast Go.Proofs.YtcheoendfcgjgaaW.PrintMore
theorem own_shorter {W : World} {base e n m g cap : Nat} {xs : List Value} (h : W.ownsRow base e 1 (.slice (some ⟨g, 0, none⟩) n cap) n xs) (hm : m ≤ n) : W.ownsRow base e 1 (.slice (some ⟨g, 0, none⟩) m cap) m (xs.take m) := by
 obtain ⟨h1, h2⟩ := h
 refine ⟨by rw [List.length_take]; omega, ?_⟩
 rcases h2 with ⟨h0, _⟩ | ⟨g', cap', cur, hv, hb, hg, r1, r2, r3, r4⟩
 ·
  cases h0
 ·
  cases hv
  refine .inr ⟨g, cap, cur, rfl, hb, hg, by omega, r2, r3, ?_⟩
  rw [← r4, List.take_take]
  congr 1
  omega
theorem compact_le (l : List Int) : (Go.Lib.compact l).length ≤ l.length := by
 unfold Go.Lib.compact Go.Lib.compactUpTo
 rw [List.length_map]
 have := List.length_filter_le (Go.Lib.keeps l.toArray) (List.range l.length)
 simpa using this
theorem compact_c (A : Option Addr) (cap base : Nat) (ok : Nat → Prop) (l r : List Int) (w : World) (HO : (Kd.int .i64).R 3 w base ok (.slice A l.length cap) l) (h : slices_Compact_int_int.f l = some r) :
  Calls Try.prog 50 #[.slice A l.length cap] w fun e w' => ∃ v, e = .returned v ∧ v.ownBlock = (Value.slice A l.length cap).ownBlock ∧ (Kd.int .i64).R 3 w' base ok v r ∧ w.grownBy w' (Value.slice A l.length cap).ownBlock := by
 unfold slices_Compact_int_int.f at h
 split at h
 case isFalse => cases h
 rename_i hb
 obtain rfl := Option.some.inj h
 have hok := HO.1
 have hown := Kd.own_of_R HO
 obtain ⟨hn, hh⟩ := hown
 rcases hh with ⟨h0, h1⟩ | ⟨g, cap', cur, hv, hbase, hbk, h1, h2, h3, h4⟩
 ·
  omega
 cases hv
 rw [Nat.mul_one] at h4
 have h4' : cur.toList.take l.length = l.map (Value.int .i64) := h4
 have hH := holds_of_blockI hbk h4'
 refine Calls.mono (Any.slices_Compact_int Try.compactLay g 0 cap l w hH (by omega) h1) ?_
 rintro e w' ⟨rfl, q, rfl⟩
 have hle := compact_le l
 have hcast : (Go.Lib.compact l ++ List.replicate (l.length - (Go.Lib.compact l).length) 0).length = l.length := by simp; omega
 have hq := ownsRow_sortedI (n := q) (os := #[]) (ss := l) (ts := Go.Lib.compact l ++ List.replicate (l.length - (Go.Lib.compact l).length) 0) hcast hbase hbk h1 h2 h3
 have e1 : grow (putRow (Value.int .i64) (Sort.ahead w q) g 0 (Go.Lib.compact l ++ List.replicate (l.length - (Go.Lib.compact l).length) 0).toArray) #[] = putRow (Value.int .i64) (Sort.ahead w q) g 0 (Go.Lib.compact l ++ List.replicate (l.length - (Go.Lib.compact l).length) 0).toArray := grow_empty _
 rw [e1] at hq
 refine ⟨_, rfl, rfl, ?_, ?_⟩
 ·
  refine Kd.R_of_own (enc := Value.int .i64) ?_ hok
  have := own_shorter hq hle
  rw [← List.map_take, List.take_left'  rfl] at this
  exact this
 ·
  rw [← e1]; exact grownBy_sortedI _
theorem R_kept1 {α : Type} {d : Kd α} {e : Nat} {W W2 : World} {b : Nat} {ok ok' : Nat → Prop} {v : Value} {xs : List α} {row : Option Nat} (hE : d.E = []) (h : d.R e W b ok v xs) (hg : W.grownBy W2 row) (hne : ∀ k, ok k → some k ≠ row) (hok : ∀ k, ok k → ok' k) : d.R e W2 b ok' v xs :=
 Kd.R_reok hE (Kd.R_move (Kd.R_tight hE h) (fun k hk => hg.block k (Kd.R_lt h k hk.symm) (hne k (h.1 k hk.symm)))) (fun k hk => hok k (h.1 k hk))
theorem R_kept2 {α : Type} {d : Kd α} {e : Nat} {W W2 : World} {b : Nat} {ok : Nat → Prop} {v : Value} {xs : List α} {row : Option Nat} (hE : d.E = []) (h : d.R e W b ok v xs) (hg : W.grownBy W2 row) (v2 : Value) (hv : v2.ownBlock = row) (hne : ∀ k, ok k → some k ≠ row) : d.R e W2 b (fun k => ok k ∧ some k ≠ v2.ownBlock) v xs :=
 R_kept1 hE h hg hne (fun k hk => ⟨hk, by rw [hv]; exact hne k hk⟩)
theorem R_and1 {α : Type} {d : Kd α} {e : Nat} {W : World} {b : Nat} {ok : Nat → Prop} {v : Value} {xs : List α} (h : d.R e W b ok v xs) : d.R e W b (fun k => ok k ∧ True) v xs := Kd.R_mono h (fun k hk => ⟨hk, trivial⟩)
theorem blk_kept1 {W W2 : World} {g : Nat} {o : Obj} {e : Nat} {b : Nat} {ok : Nat → Prop} {v : Value} {xs : List Int} (hb : W.heap[g]? = some o) (hR : (Kd.int .i64).R e W b ok v xs) (hg : W.grownBy W2 v.ownBlock) (ht : ∀ cs f, o ≠ .cells cs e f) : W2.heap[g]? = some o := by
 refine (hg.block g (Array.getElem?_eq_some_iff.1 hb).1 (fun hk => ?_)).trans hb
 obtain ⟨_, hh⟩ := Kd.own_of_R hR
 rcases hh with ⟨h0, _⟩ | ⟨g', cap', cur, hv, _, hbk, _⟩
 ·
  rw [h0] at hk; cases hk
 ·
  rw [hv] at hk
  have : g = g' := by simpa [Value.ownBlock] using hk
  subst this
  rw [hbk] at hb
  exact ht _ _ (Option.some.inj hb).symm
end Go.Proofs.Ytcheoendfcgjgaa.P
namespace Go.Proofs
open Go.Shelf
def Try.sortInt_ren : Go.Shelf.Ren := ⟨fun | 6 => 34 | 15 => 63 | 14 => 62 | 28 => 93 | 29 => 94 | 20 => 85 | 21 => 86 | 22 => 87 | 23 => 88 | 24 => 89 | 25 => 90 | 26 => 91 | 27 => 92 | 46 => 100 | 47 => 101 | 48 => 102 | 49 => 103 | 50 => 104 | 57 => 114 | n => n, fun | 22 => 24 | 24 => 3 | 25 => 53 | 3 => 3 | 39 => 76 | 0 => 0 | 53 => 90 | 55 => 65 | 4 => 4 | 46 => 84 | 45 => 83 | 50 => 30 | 5 => 5 | 9 => 9 | 66 => 95 | 70 => 99 | 76 => 105 | 77 => 106 | n => n, fun | n => n⟩
theorem Try.sortInt : Go.Proofs.SlLaysF.n6 Try.prog Try.sortInt_ren := {
  mixed := by kernel_rfl
  f6 := ⟨Try.f34.name, by decide, Try.func34.trans (congrArg some (by kernel_rfl))⟩
  f14 := ⟨Try.f62.name, by decide, Try.func62.trans (congrArg some (by kernel_rfl))⟩
  f15 := Try.func63.trans (congrArg some (by kernel_rfl))
  f20 := ⟨Try.f85.name, by decide, Try.func85.trans (congrArg some (by kernel_rfl))⟩
  f21 := ⟨Try.f86.name, by decide, Try.func86.trans (congrArg some (by kernel_rfl))⟩
  f22 := ⟨Try.f87.name, by decide, Try.func87.trans (congrArg some (by kernel_rfl))⟩
  f23 := ⟨Try.f88.name, by decide, Try.func88.trans (congrArg some (by kernel_rfl))⟩
  f24 := ⟨Try.f89.name, by decide, Try.func89.trans (congrArg some (by kernel_rfl))⟩
  f25 := ⟨Try.f90.name, by decide, Try.func90.trans (congrArg some (by kernel_rfl))⟩
  f26 := ⟨Try.f91.name, by decide, Try.func91.trans (congrArg some (by kernel_rfl))⟩
  f27 := ⟨Try.f92.name, by decide, Try.func92.trans (congrArg some (by kernel_rfl))⟩
  f28 := Try.func93.trans (congrArg some (by kernel_rfl))
  f29 := Try.func94.trans (congrArg some (by kernel_rfl))
  f46 := ⟨Try.f100.name, by decide, Try.func100.trans (congrArg some (by kernel_rfl))⟩
  f47 := Try.func101.trans (congrArg some (by kernel_rfl))
  f48 := Try.func102.trans (congrArg some (by kernel_rfl))
  f49 := ⟨Try.f103.name, by decide, Try.func103.trans (congrArg some (by kernel_rfl))⟩
  f50 := ⟨Try.f104.name, by decide, Try.func104.trans (congrArg some (by kernel_rfl))⟩
  f57 := ⟨Try.f114.name, by decide, Try.func114.trans (congrArg some (by kernel_rfl))⟩
  t0 := Try.underlying0
  a0 := Try.isAgg0
  z0 := Try.sizeOf0
  v0 := Try.zeroValue0
  t3 := Try.underlying3
  a3 := Try.isAgg3
  z3 := Try.sizeOf3
  v3 := Try.zeroValue3
  t4 := Try.underlying4
  a4 := Try.isAgg4
  z4 := Try.sizeOf4
  v4 := Try.zeroValue4
  t5 := Try.underlying5
  a5 := Try.isAgg5
  z5 := Try.sizeOf5
  v5 := Try.zeroValue5
  t9 := Try.underlying9
  a9 := Try.isAgg9
  z9 := Try.sizeOf9
  v9 := Try.zeroValue9
  t22 := Try.underlying24
  a22 := Try.isAgg24
  z22 := Try.sizeOf24
  v22 := Try.zeroValue24
  a24 := Try.isAgg3
  z24 := Try.sizeOf3
  t25 := Try.underlying53
  a25 := Try.isAgg53
  z25 := Try.sizeOf53
  v25 := Try.zeroValue53
  t39 := Try.underlying76
  a39 := Try.isAgg76
  z39 := Try.sizeOf76
  v39 := Try.zeroValue76
  t45 := Try.underlying83
  a45 := Try.isAgg83
  z45 := Try.sizeOf83
  v45 := Try.zeroValue83
  t46 := Try.underlying84
  a46 := Try.isAgg84
  z46 := Try.sizeOf84
  v46 := Try.zeroValue84
  t50 := Try.underlying30
  a50 := Try.isAgg30
  z50 := Try.sizeOf30
  v50 := Try.zeroValue30
  t53 := Try.underlying90
  a53 := Try.isAgg90
  z53 := Try.sizeOf90
  v53 := Try.zeroValue90
  t55 := Try.underlying65
  a55 := Try.isAgg65
  z55 := Try.sizeOf65
  v55 := Try.zeroValue65
  t66 := Try.underlying95
  a66 := Try.isAgg95
  z66 := Try.sizeOf95
  v66 := Try.zeroValue95
  t70 := Try.underlying99
  a70 := Try.isAgg99
  z70 := Try.sizeOf99
  v70 := Try.zeroValue99
  t76 := Try.underlying105
  a76 := Try.isAgg105
  z76 := Try.sizeOf105
  v76 := Try.zeroValue105
  t77 := Try.underlying106
  a77 := Try.isAgg106
  z77 := Try.sizeOf106
  v77 := Try.zeroValue106 }
def Try.lays125_ren : Go.Shelf.Ren := ⟨fun | 125 => 63 | 128 => 93 | 129 => 94 | n => n, fun | 46 => 76 | 3 => 3 | 51 => 90 | 53 => 65 | 4 => 4 | 5 => 5 | 9 => 9 | n => n, fun | n => n⟩
theorem Try.lays125 : Go.Proofs.Lays.n125 Try.prog Try.lays125_ren := {
  mixed := by kernel_rfl
  f125 := Try.func63.trans (congrArg some (by kernel_rfl))
  f128 := Try.func93.trans (congrArg some (by kernel_rfl))
  f129 := Try.func94.trans (congrArg some (by kernel_rfl))
  t3 := Try.underlying3
  a3 := Try.isAgg3
  z3 := Try.sizeOf3
  v3 := Try.zeroValue3
  t4 := Try.underlying4
  a4 := Try.isAgg4
  z4 := Try.sizeOf4
  v4 := Try.zeroValue4
  t5 := Try.underlying5
  a5 := Try.isAgg5
  z5 := Try.sizeOf5
  v5 := Try.zeroValue5
  t9 := Try.underlying9
  a9 := Try.isAgg9
  z9 := Try.sizeOf9
  v9 := Try.zeroValue9
  t46 := Try.underlying76
  a46 := Try.isAgg76
  z46 := Try.sizeOf76
  v46 := Try.zeroValue76
  t51 := Try.underlying90
  a51 := Try.isAgg90
  z51 := Try.sizeOf90
  v51 := Try.zeroValue90
  t53 := Try.underlying65
  a53 := Try.isAgg65
  z53 := Try.sizeOf65
  v53 := Try.zeroValue65 }
end Go.Proofs
namespace Go.Proofs.Ytcheoendfcgjgaa.K
open Go.RowKit Go.Proofs.YtcheoendfcgjgaaW.PrintWords Go.Proofs.YtcheoendfcgjgaaW.PrintLast Go.Proofs.YtcheoendfcgjgaaW.PrintMore
variable {P : Program} {ops : Array Oper} {Q : Exit → Act → World → Prop}
theorem goesF_ {rest : List Oper} {oi : Oper} {a : Act} {w : World} (N : Option Tmp) (hd : oi.dst = N) (hg : oi.guard = none) {f : FuncId} {fn : Func} {t : Operand} {args0 : Array Operand} {ts : Array TypeId} (caps : Array Value) (hf : P.funcs[f]? = some fn) (hname : (fn.name == "runtime.NumGoroutine") = false) (hb : fn.body.isSome = true) (args : Array Value)
    (hop : oi.op = .call { callee := .value t, args := args0, argTypes := ts }) (ht : a.eval t = .func (.func f) #[] caps) (hargs : args0.map a.eval = args)
    (h : Calls P f (args ++ caps) w fun e w' => ∃ v, e = .returned v ∧ wpList P ops Q rest (a.put N v) w') : wpList P ops Q (oi :: rest) a w := by
  refine wpList_plain hg fun K hK => ?_
  have he := enters_ hf hname hb (args ++ caps) w
  have hrun : (execOp a.eval oi).run P w = .ok (.enter f (args ++ caps)) w := by
    unfold execOp
    simp [hop, resolve, Deferred.ofValue, invoke, ht, hargs, he]
  unfold Oper.wp
  rw [hrun, Oper.upon_enter]
  refine h.mono fun e w'' hh => ?_
  obtain ⟨v, rfl, hk⟩ := hh
  subst hd
  exact hK _ _ hk
theorem gate_tmp {o : Oper} {rest : List Oper} {a : Act} {W : World} {t : Tmp} {args0 : Array Operand} {ts : Array TypeId} (_ho : o.op = .call { callee := .value (.tmp t), args := args0, argTypes := ts }) (h : wpList P ops Q (o :: rest) a W) : wpList P ops Q (o :: rest) a W := h
end Go.Proofs.Ytcheoendfcgjgaa.K
namespace Go.Proofs.Ytcheoendfcgjgaa.P
open Go.RowKit Go.Proofs.YtcheoendfcgjgaaW.PrintWords Go.Proofs.YtcheoendfcgjgaaW.PrintLast Go.Proofs.YtcheoendfcgjgaaW.PrintMore Go.Proofs.Ytcheoendfcgjgaa.K
open Go.Sort Go.Shelf
abbrev Sm := {x : Int // -1048576 ≤ x ∧ x ≤ 1048576}
instance smInhabited : Inhabited Sm := ⟨⟨0, by omega⟩⟩
def smE (x : Sm) : Value := .int .i64 x.1
theorem to_sm {l : List Int} (h : ∀ x ∈ l, -1048576 ≤ x ∧ x ≤ 1048576) : ∃ ls : List Sm, l = ls.map Subtype.val := by
 induction l with
 | nil => exact ⟨[], rfl⟩
 | cons x l ih =>
  obtain ⟨ls, rfl⟩ := ih (fun y hy => h y (by simp [hy]))
  exact ⟨⟨x, h x (by simp)⟩ :: ls, rfl⟩
theorem putRow_sm (w : World) (g : Nat) (d : Array Sm) : putRow smE w g 0 d = putRow (Value.int .i64) w g 0 (d.map Subtype.val) := by
 unfold putRow
 congr 1
 funext c
 unfold putCells
 congr 1
 funext k x
 simp only [Array.size_map, Nat.sub_zero, Nat.zero_add, Nat.zero_le, true_and]
 by_cases hk : k < d.size
 ·
  rw [if_pos hk, if_pos hk, getElem!_pos d k hk, getElem!_pos (d.map Subtype.val) k (by simpa using hk)]
  simp [smE]
 ·
  rw [if_neg hk, if_neg hk]
theorem arr_map {α β : Type} (d : Array α) (f : α → β) : (d.toList.map f).toArray = d.map f := by
 rcases d with ⟨l⟩
 simp
theorem sortWorld_ints (w : World) (g m : Nat) (dk : Array Sm) (os : Array Obj) : sortWorld smE w g 0 m dk os = grow (putRow (Value.int .i64) (Sort.ahead w m) g 0 (dk.map Subtype.val)) os := by
 unfold sortWorld
 rw [putRow_sm]
set_option maxRecDepth 10000 in
theorem sortFunc_c (cf : Int → Int → Int) (fid : FuncId) (fn : Func) (caps : Array Value) (hf : Try.prog.funcs[fid]? = some fn) (hname : (fn.name == "runtime.NumGoroutine") = false) (hbody : fn.body.isSome = true)
  (hS : SWO (fun (x y : Sm) => decide (cf x.1 y.1 < 0))) (g cap base : Nat) (ok : Nat → Prop) (l : List Int) (w : World) (hl : l.length ≤ 12) (hpos : 0 < l.length) (hb : ∀ x ∈ l, -1048576 ≤ x ∧ x ≤ 1048576)
  (HO : (Kd.int .i64).R 3 w base ok (.slice (some ⟨g, 0, none⟩) l.length cap) l)
  (hcmp : ∀ W : World, w.grownBy W (some g) → ∀ x y : Sm, Calls Try.prog fid (#[.int .i64 x.1, .int .i64 y.1] ++ caps) W fun e w' => e = .returned (.int .i64 (cf x.1 y.1)) ∧ ∃ q, w' = W.drewN q) :
  Calls Try.prog 34 #[.slice (some ⟨g, 0, none⟩) l.length cap, .func (.func fid) #[] caps] w fun e w' => e = .returned (.tuple #[]) ∧ ∃ l' : List Int, l'.Perm l ∧ l'.Pairwise (fun a b => ¬ cf b a < 0) ∧ (Kd.int .i64).R 3 w' base ok (.slice (some ⟨g, 0, none⟩) l.length cap) l' ∧ w.grownBy w' (some g) := by
 have hok := HO.1
 have hown := Kd.own_of_R HO
 obtain ⟨hn, h⟩ := hown
 rcases h with ⟨h0, _⟩ | ⟨g', cap', cur, hv, hbase, hbk, h1, h2, h3, h4⟩
 ·
  cases h0
 cases hv
 rw [Nat.mul_one] at h4
 have h4' : cur.toList.take l.length = l.map (Value.int .i64) := h4
 have hH := holds_of_blockI hbk h4'
 obtain ⟨ls, hls⟩ := to_sm hb
 have hlen : ls.length = l.length := by rw [hls]; simp
 have hH2 : Holds smE w g 0 ls.toArray := by
  intro j hj
  have hj1 : j < ls.length := by simpa using hj
  have hj2 : j < l.toArray.size := by rw [hls]; simpa using hj1
  obtain ⟨q1, q2⟩ := hH j hj2
  refine ⟨?_, q2⟩
  rw [q1, getElem!_pos _ j hj2, getElem!_pos _ j hj]
  simp [smE, hls]
 have hc := Any.slices_SortFunc_small_sorted Try.sortInt smE (fun _ => rfl) (fun x y : Sm => cf x.1 y.1) hS fid caps g 0 cap ls.toArray w (fun args w => enters_ hf hname hbody args w)
  (fun m os dk _ x y => hcmp _ (by rw [sortWorld_ints]; exact grownBy_sortedI _) x y) hH2 (by simpa [hlen] using hl)
  (fun n W h => (Any.bits_Len Try.lays125 n W (by omega) (by omega)).mono fun _ _ ⟨he, hw⟩ => ⟨⟨_, he⟩, hw⟩)
 have hsz : ls.toArray.size = l.length := by simpa using hlen
 rw [hsz] at hc
 refine Calls.mono (f := 34) hc ?_
 rintro e w' ⟨rfl, d', n, hp, hs, rfl⟩
 obtain ⟨p1, -, p3⟩ := hp
 have hd : d'.size = l.length := by rw [p1, hsz]
 have hex : d'.extract 0 l.length = d' := by rw [← hd]; simp
 have hex2 : ls.toArray.extract 0 l.length = ls.toArray := by rw [← hsz]; simp
 rw [hex, hex2] at p3
 refine ⟨rfl, d'.toList.map Subtype.val, ?_, ?_, ?_, ?_⟩
 ·
  rw [hls]; exact p3.map _
 ·
  rw [List.pairwise_iff_getElem]
  intro i j hi hj hij
  have hi' : i < d'.size := by simpa using hi
  have hj' : j < d'.size := by simpa using hj
  have := hs i j (Nat.zero_le _) hij (by omega)
  rw [getElem!_pos d' i hi', getElem!_pos d' j hj'] at this
  simpa [ltOf] using this
 ·
  have hcast : (d'.toList.map Subtype.val).length = l.length := by simpa using hd
  have hq := ownsRow_sortedI (n := n) (os := #[]) (ss := l) (ts := d'.toList.map Subtype.val) hcast hbase hbk h1 h2 h3
  have e1 : grow (putRow (Value.int .i64) (Sort.ahead w n) g 0 (d'.toList.map Subtype.val).toArray) #[] = (putRow smE w g 0 d').drewN n := by
   have := sortWorld_ints w g n d' #[]
   rw [← sortWorld_none, this, arr_map]
  rw [e1] at hq
  refine Kd.R_of_own (enc := Value.int .i64) ?_ hok
  have e2 : (d'.toList.map Subtype.val).length = l.length := by simpa using hd
  rw [e2]
  exact hq
 ·
  have e1 : (putRow smE w g 0 d').drewN n = grow (putRow (Value.int .i64) (Sort.ahead w n) g 0 (d'.map Subtype.val)) #[] := by rw [← sortWorld_none, sortWorld_ints]
  rw [e1]
  exact grownBy_sortedI _
end Go.Proofs.Ytcheoendfcgjgaa.P
namespace Go.Proofs.Ytcheoendfcgjgaa.P
open Go.RowKit Go.Proofs.YtcheoendfcgjgaaW.PrintWords Go.Proofs.YtcheoendfcgjgaaW.PrintLast Go.Proofs.YtcheoendfcgjgaaW.PrintMore
set_option maxHeartbeats 800000 in
set_option maxRecDepth 100000 in
theorem slices_Clone_int_int.calls (A0 : Option Addr) (c0 : Nat) (l0 : List Int) (r : List Int) (w : World) (hr0 : Kd.C (Kd.int .i64) w A0 l0.length l0) (hc0 : l0.length ≤ c0) (h : slices_Clone_int_int.f l0 = some r) :
  Calls Try.prog 31 #[.slice A0 l0.length c0] w fun e w' => ∃ v0_ : Value, e = .returned (v0_) ∧ Kd.R (Kd.int .i64) 3 w' w.heap.size (fun _ => True) v0_ r ∧ Below w.heap.size w w' := by
 unfold slices_Clone_int_int.f at h
 split at h
 case isFalse => cases h
 rename_i hb0
 obtain rfl := Option.some.inj h
 have hu := Try.underlying24
 cases A0 with
 | none =>
  have hl : l0 = [] := by
   cases l0 with
   | nil => rfl
   | cons x l => obtain ⟨_, _, h3⟩ := hr0; obtain ⟨ad, h4, _⟩ := h3 (by simp); cases h4
  subst hl
  clear hr0 hb0 h
  have hk := fun (W : World) => Lib.run_eql_slice_nil_nil (P := Try.prog) W 0 c0 Try.underlying24
  go_enter Try.func31, Try.ntmps31
  go_wp2
  go_ret
  exact ⟨_, rfl, Kd.R_nil _ _ _ _ _, Below.refl _ _⟩
 | some ad =>
  have HR0 := Am hr0
  have HC0 := Am hc0
  have LM := Am hb0
  clear hr0 hc0 h hb0
  have HB := Am (Below.refl w.heap.size w)
  have hk := fun (W : World) => Lib.run_eql_slice_nil (P := Try.prog) W 24 3 (some ad) l0.length c0 0 0 Try.underlying24
  go_enter Try.func31, Try.ntmps31
  go_wp2_with (first | ((with_reducible refine gate_dst (N := 5) rfl ?_); refine Kd.R_lit (Kd.int .i64) _ 3 ?hg (N := 5) ?hd (xs := ([] : List Int)) (inner := []) (ok := fun _ => True) (okp := fun _ => True) ?hr ?hp (fun _ hk => hk) trivial (Below.refl _ _) (Nat.le_refl _) (by simp) ?_; (case hd => rfl); (case hg => rfl); (case hr => first | (go_simp; done) | (go_simp; rfl)); (case hp => exact (Reps.none _ _)); intro v344 w3 ho4 hb hg_ hnew_; clear hg_ hnew_; have n0_ := Am (Kd.R_lower ho4 (below_size HB.out)); have n1_ := Am (below_step HB.out hb); clear HB; have HO345 := n0_; have HB := n1_; clear n0_ n1_; clear hb ho4) | ((with_reducible refine gate_builtin (b := .append) (xs := #[.tmp 5, .tmp 6]) rfl ?_); at_builtin; refine Kd.R_append_rows (Kd.int .i64) (w0 := w) w.heap.size rfl (.tmp 5) (.tmp 6) 24 3 (.int .i64 0) 8 rfl Try.underlying24 info3 rfl (by decide) (by omega) v344 ([] : List Int) l0 _ _ _ (fun _ => True) (fun _ => False) rfl rfl ?aO ?aR (fun _ _ h => h) (fun _ h => h.elim) ?aF ?aB ?aS ?aL ?_; (case aR => repeat (first | exact (Kd.C_below HR0.out HB.out) | (with_reducible refine Ca ?_ _) | (with_reducible refine Cn ?_ _) | (with_reducible refine Cd ?_))); (case aB => exact HB.out); (case aF => exact (fun _ _ => trivial)); (case aO => exact HO345.out); (case aS => exact (below_size HB.out)); (case aL => have := LM.out; simp; omega); intro v347 w5 ho hb hg hat; have n0_ := Am (hb); have n1_ := Am (ho); clear HB; clear HO345; have HB := n0_; have HO348 := n1_; clear n0_ n1_; clear ho hb hg hat))
  go_ret
  exact ⟨_, rfl, HO348.out, HB.out⟩
end Go.Proofs.Ytcheoendfcgjgaa.P
namespace Go.Proofs.Ytcheoendfcgjgaa.K
open Go.RowKit Go.Proofs.Ytcheoendfcgjgaa.P
theorem insD_perm (x : Int) : ∀ l, (insD x l).Perm (x :: l)
  | [] => List.Perm.refl _
  | y :: l => by
    simp only [insD]
    split
    · exact ((insD_perm x l).cons y).trans (List.Perm.swap x y l)
    · exact List.Perm.refl _
theorem insD_sorted (x : Int) : ∀ l : List Int, l.Pairwise (fun a b => b ≤ a) → (insD x l).Pairwise (fun a b => b ≤ a)
  | [], _ => by simp [insD]
  | y :: l, h => by
    simp only [insD]
    rw [List.pairwise_cons] at h
    split
    · rename_i hy
      rw [List.pairwise_cons]
      refine ⟨fun z hz => ?_, insD_sorted x l h.2⟩
      rcases List.mem_cons.1 ((insD_perm x l).mem_iff.1 hz) with rfl | hz
      · exact hy
      · exact h.1 z hz
    · rename_i hy
      rw [List.pairwise_cons, List.pairwise_cons]
      refine ⟨fun z hz => ?_, h.1, h.2⟩
      rcases List.mem_cons.1 hz with rfl | hz
      · omega
      · have := h.1 z hz; omega
theorem rankFold_perm : ∀ (l s : List Int), (l.foldl (fun s x => insD x s) s).Perm (l ++ s)
  | [], s => List.Perm.refl _
  | x :: l, s => by
    refine (rankFold_perm l (insD x s)).trans ?_
    refine (List.Perm.append_left l (insD_perm x s)).trans ?_
    exact List.perm_middle
theorem rankL_perm (l : List Int) : (rankL l).Perm l := by simpa [rankL] using rankFold_perm l []
theorem rankFold_sorted : ∀ (l s : List Int), s.Pairwise (fun a b => b ≤ a) → (l.foldl (fun s x => insD x s) s).Pairwise (fun a b => b ≤ a)
  | [], s, h => h
  | x :: l, s, h => rankFold_sorted l (insD x s) (insD_sorted x s h)
theorem rankL_sorted (l : List Int) : (rankL l).Pairwise (fun a b => b ≤ a) := rankFold_sorted l [] List.Pairwise.nil
theorem rankL_length (l : List Int) : (rankL l).length = l.length := (rankL_perm l).length_eq
theorem rankL_mem {l : List Int} {x : Int} : x ∈ rankL l ↔ x ∈ l := (rankL_perm l).mem_iff
theorem rankL_unique {l l' : List Int} (hp : l'.Perm l) (hs : l'.Pairwise (fun a b => b ≤ a)) : l' = rankL l :=
  List.Perm.eq_of_pairwise (le := fun a b => b ≤ a) (fun a b _ _ h1 h2 => by omega) hs (rankL_sorted l) (hp.trans (rankL_perm l).symm)
end Go.Proofs.Ytcheoendfcgjgaa.K
namespace Go.Proofs.Ytcheoendfcgjgaa.P
open Go.RowKit Go.Proofs.YtcheoendfcgjgaaW.PrintWords Go.Proofs.YtcheoendfcgjgaaW.PrintLast Go.Proofs.YtcheoendfcgjgaaW.PrintMore Go.Proofs.Ytcheoendfcgjgaa.K
open Go.Sort Go.Shelf
set_option maxHeartbeats 800000 in
set_option maxRecDepth 100000 in
theorem ranking1_calls (x y : Int) (w : World) (hx : -1048576 ≤ x ∧ x ≤ 1048576) (hy : -1048576 ≤ y ∧ y ≤ 1048576) :
  Calls Try.prog 70 #[.int .i64 x, .int .i64 y] w fun e w' => e = .returned (.int .i64 (y - x)) ∧ ∃ q, w' = w.drewN q := by
 obtain ⟨h1, h2⟩ := hx
 obtain ⟨h3, h4⟩ := hy
 go_enter Try.func70, Try.ntmps70
 go_wp2
 go_ret
 exact ⟨rfl, 0, rfl⟩
theorem swoDesc : SWO (fun (x y : Sm) => decide ((y.1 - x.1 : Int) < 0)) := by
 refine ⟨fun x => ?_, fun x y z h1 h2 => ?_, fun x y z h1 h2 => ?_⟩
 ·
  simp
 ·
  simp only [decide_eq_true_eq] at *; omega
 ·
  simp only [decide_eq_false_iff_not] at *; omega
theorem sortDesc_c (g cap base : Nat) (ok : Nat → Prop) (l : List Int) (w : World) (hl : l.length ≤ 12) (hpos : 0 < l.length) (hb : ∀ x ∈ l, -1048576 ≤ x ∧ x ≤ 1048576)
  (HO : (Kd.int .i64).R 3 w base ok (.slice (some ⟨g, 0, none⟩) l.length cap) l) :
  Calls Try.prog 34 #[.slice (some ⟨g, 0, none⟩) l.length cap, .func (.func 70) #[] #[]] w fun e w' => e = .returned (.tuple #[]) ∧ (Kd.int .i64).R 3 w' base ok (.slice (some ⟨g, 0, none⟩) l.length cap) (rankL l) ∧ w.grownBy w' (some g) := by
 refine (sortFunc_c (fun x y => y - x) _ _ #[] Try.func70 (by kernel_rfl) (by kernel_rfl) swoDesc g cap base ok l w hl hpos hb HO (fun W _ x y => ranking1_calls x.1 y.1 W x.2 y.2)).mono ?_
 rintro e w' ⟨rfl, l', hp, hs, hR, hg⟩
 have : l' = rankL l := rankL_unique hp (hs.imp (fun h => by omega))
 subst this
 exact ⟨rfl, hR, hg⟩
set_option maxHeartbeats 800000 in
set_option maxRecDepth 100000 in
theorem impl_ranking.calls (A0 : Option Addr) (c0 : Nat) (l0 : List Int) (r : List Int) (w : World) (hr0 : Kd.C (Kd.int .i64) w A0 l0.length l0) (hc0 : l0.length ≤ c0) (h : impl_ranking.f l0 = some r) :
  Calls Try.prog 51 #[.slice A0 l0.length c0] w fun e w' => ∃ v0_ : Value, e = .returned (v0_) ∧ Kd.R (Kd.int .i64) 3 w' w.heap.size (fun _ => True) v0_ r ∧ Below w.heap.size w w' := by
 unfold impl_ranking.f at h
 split at h
 case isFalse => cases h
 rename_i hb
 obtain rfl := Option.some.inj h
 obtain ⟨hb1, hb2, hb3⟩ := hb
 have hCl : Aside0 (slices_Clone_int_int.f l0 = some l0) := ⟨by unfold slices_Clone_int_int.f; rw [if_pos (by omega)]⟩
 have HR0 := Am hr0
 have HC0 := Am hc0
 have HBD := Am hb3
 have HB1 := Am hb1
 have HB2 := Am hb2
 have HB := Am (Below.refl w.heap.size w)
 clear hr0 hc0 hb1 hb2 hb3
 go_enter Try.func51, Try.ntmps51
 go_wp2_with (first | (go_at_call 31; (with_reducible refine (slices_Clone_int_int.calls A0 c0 l0 l0 _ ?side1 HC0.out hCl.out).mono ?_); (case side1 => exact Kd.C_below HR0.out (by repeat (first | (with_reducible first | exact HB.out | apply Ba | apply Bn | apply Bd)))); rintro e w' ⟨v, rfl, hs, hb⟩; obtain ⟨g, cap, rfl, hg1, hg2, -⟩ := Kd.R_form hs (by have := HB1.out; omega); have n0_ := Am (Kd.R_lower hs (below_size (by repeat (first | (with_reducible first | exact HB.out | apply Ba | apply Bn | apply Bd))))); have n1_ := Am (below_step (by repeat (first | (with_reducible first | exact HB.out | apply Ba | apply Bn | apply Bd))) hb); have hge := Am (Nat.le_trans (below_size (by repeat (first | (with_reducible first | exact HB.out | apply Ba | apply Bn | apply Bd)))) hg1); clear HB hs hb hg1 hg2; have HO := n0_; have HB := n1_; clear n0_ n1_) | (go_at_call 34; (with_reducible refine (sortDesc_c _ _ w.heap.size (fun _ => True) l0 _ HB2.out (by have := HB1.out; omega) HBD.out ?side2).mono ?_); (case side2 => exact (by (with_reducible repeat (first | apply Ra | apply Rn | apply Rd)); exact HO.out)); rintro e w' ⟨rfl, hR, hg⟩; have n1_ := Am (pw_below_grown (by repeat (first | (with_reducible first | exact HB.out | apply Ba | apply Bn | apply Bd))) _ (below_size (by repeat (first | (with_reducible first | exact HB.out | apply Ba | apply Bn | apply Bd)))) hg (fun k e => by cases e; exact hge.out)); have n0_ := Am hR; clear HO HB hR hg; have HO := n0_; have HB := n1_; clear n0_ n1_))
 go_ret
 exact ⟨_, rfl, by (with_reducible repeat (first | apply Ra | apply Rn | apply Rd)); exact HO.out, (by repeat (first | (with_reducible first | exact HB.out | apply Ba | apply Bn | apply Bd)))⟩
end Go.Proofs.Ytcheoendfcgjgaa.P
namespace Go.Proofs.Ytcheoendfcgjgaa.P
open Go.RowKit Go.Proofs.YtcheoendfcgjgaaW.PrintWords Go.Proofs.YtcheoendfcgjgaaW.PrintLast Go.Proofs.YtcheoendfcgjgaaW.PrintMore
attribute [local go_sem] max2_int min2_int max_two min_two max_three min_three max_four min_four
def impl_StrongParts.l0 : Nat → List Int → List Int → List Int → Int → Int → Option (List Int × Bool)
 | 0, _, _, _, _, _ => none
 | k + 1, x4, x6, x19, x20, x21 => if x21 < x20 then (if 0 ≤ x21 then (if x21 < (x19.length : Int) then ((slices_Index_int_int.f k x6 (rd x19 x21)).bind fun t410 => (if x4.length < 17592186044416 then (impl_StrongParts.l0 k (x4 ++ [t410]) x6 x19 x20 (wrap64 (x21 + 1))) else (none))) else (none)) else (none)) else (some (x4, true))
def impl_StrongParts.f (k : Nat) (a0_0 : Int) (l0_1 : List Int) : Option (List Int × Bool) := (impl_IsTournament.f k a0_0 l0_1).bind fun t393 => (if t393 = true then ((impl_reached.f k a0_0 l0_1).bind fun t397 => ((impl_counts.f k t397).bind fun t400 => ((impl_ranking.f t400).bind fun t403 => ((slices_Compact_int_int.f t403).bind fun t406 => (impl_StrongParts.l0 k (([] : List Int)) t406 t400 (t400.length : Int) 0))))) else (some (([] : List Int), false)))
theorem impl_StrongParts.mono_l : ∀ k, (∀ y0 y1 y2 y3 y4, LeO (impl_StrongParts.l0 k y0 y1 y2 y3 y4) (impl_StrongParts.l0 (k + 1) y0 y1 y2 y3 y4))
 | 0 => fun _ _ _ _ _ r h => by simp [impl_StrongParts.l0] at h
 | k + 1 => by
  have ih0 := impl_StrongParts.mono_l k
  ·
   intro y0 y1 y2 y3 y4
   unfold impl_StrongParts.l0
   repeat' first
   | (with_reducible exact ih0 _ _ _ _ _)
   | (with_reducible exact impl_IsTournament.mono _ _ _)
   | (with_reducible exact impl_counts.mono _ _)
   | (with_reducible exact impl_reached.mono _ _ _)
   | (with_reducible exact slices_Index_int_int.mono _ _ _)
   | (with_reducible exact LeO.refl _)
   | (with_reducible exact LeO.none _)
   | (with_reducible refine LeO.ite ?_ ?_)
   | (with_reducible refine LeO.bind ?_ (fun _ => ?_))
   | exact ih0 _ _ _ _ _
   | exact impl_IsTournament.mono _ _ _
   | exact impl_counts.mono _ _
   | exact impl_reached.mono _ _ _
   | exact slices_Index_int_int.mono _ _ _
   | exact LeO.none _
   | refine LeO.ite ?_ ?_
   | refine LeO.bind ?_ (fun _ => ?_)
theorem impl_StrongParts.mono : ∀ a0 a1 k, LeO (impl_StrongParts.f k a0 a1) (impl_StrongParts.f (k + 1) a0 a1) := by
 intro a0 a1 k
 have ih0 := impl_StrongParts.mono_l k
 unfold impl_StrongParts.f
 repeat' first
   | (with_reducible exact ih0 _ _ _ _ _)
   | (with_reducible exact impl_IsTournament.mono _ _ _)
   | (with_reducible exact impl_counts.mono _ _)
   | (with_reducible exact impl_reached.mono _ _ _)
   | (with_reducible exact slices_Index_int_int.mono _ _ _)
   | (with_reducible exact LeO.refl _)
   | (with_reducible exact LeO.none _)
   | (with_reducible refine LeO.ite ?_ ?_)
   | (with_reducible refine LeO.bind ?_ (fun _ => ?_))
   | exact ih0 _ _ _ _ _
   | exact impl_IsTournament.mono _ _ _
   | exact impl_counts.mono _ _
   | exact impl_reached.mono _ _ _
   | exact slices_Index_int_int.mono _ _ _
   | exact LeO.none _
   | refine LeO.ite ?_ ?_
   | refine LeO.bind ?_ (fun _ => ?_)
set_option maxHeartbeats 8000000 in
set_option maxRecDepth 100000 in
theorem impl_StrongParts.calls (k : Nat) (a0_0 : Int) (A0_1 : Option Addr) (c0_1 : Nat) (l0_1 : List Int) (r1 : List Int) (r2 : Bool) (w : World) (hr0_1 : Kd.C (Kd.int .i64) w A0_1 l0_1.length l0_1) (hc0_1 : l0_1.length ≤ c0_1) (h : impl_StrongParts.f k a0_0 l0_1 = some (r1, r2)) :
  Calls Try.prog 21 #[.agg #[.int .i64 a0_0, .slice A0_1 l0_1.length c0_1]] w fun e w' => ∃ v0_ : Value, e = .returned (.tuple #[v0_, .bool r2]) ∧ Kd.R (Kd.int .i64) 3 w' w.heap.size (fun _ => True) v0_ r1 ∧ Below w.heap.size w w' := by
 have hu27 := Try.underlying27
 have HR0_1 := Am hr0_1
 have HC0_1 := Am hc0_1
 clear hr0_1 hc0_1
 have HB := Am (Below.refl w.heap.size w)
 have H : ((impl_IsTournament.f k a0_0 l0_1).bind fun t393 => (if t393 = true then ((impl_reached.f k a0_0 l0_1).bind fun t397 => ((impl_counts.f k t397).bind fun t400 => ((impl_ranking.f t400).bind fun t403 => ((slices_Compact_int_int.f t403).bind fun t406 => (impl_StrongParts.l0 k (([] : List Int)) t406 t400 (t400.length : Int) 0))))) else (some (([] : List Int), false)))) = some (r1, r2) := h
 clear h
 replace H := Option.bind_eq_some_iff.mp H
 obtain ⟨t393, A20, H⟩ := H
 replace H : (if t393 = true then ((impl_reached.f k a0_0 l0_1).bind fun t397 => ((impl_counts.f k t397).bind fun t400 => ((impl_ranking.f t400).bind fun t403 => ((slices_Compact_int_int.f t403).bind fun t406 => (impl_StrongParts.l0 k (([] : List Int)) t406 t400 (t400.length : Int) 0))))) else (some (([] : List Int), false))) = some (r1, r2) := H
 have A2 := Am A20
 clear A20
 by_cases c3 : t393 = true
 ·
  subst c3
  have H1 : ((impl_reached.f k a0_0 l0_1).bind fun t397 => ((impl_counts.f k t397).bind fun t400 => ((impl_ranking.f t400).bind fun t403 => ((slices_Compact_int_int.f t403).bind fun t406 => (impl_StrongParts.l0 k (([] : List Int)) t406 t400 (t400.length : Int) 0))))) = some (r1, r2) := by rw [if_pos rfl] at H; exact H
  clear H
  have H := H1
  clear H1
  obtain ⟨y394, hy394⟩ : ∃ y_ : List Int, y_ = (([] : List Int)) := ⟨_, rfl⟩
  replace H : ((impl_reached.f k a0_0 l0_1).bind fun t397 => ((impl_counts.f k t397).bind fun t400 => ((impl_ranking.f t400).bind fun t403 => ((slices_Compact_int_int.f t403).bind fun t406 => (impl_StrongParts.l0 k y394 t406 t400 (t400.length : Int) 0))))) = some (r1, r2) := by first | (rw [hy394]; with_reducible exact H) | (have H2_ := (Option.bind_some _ _).symm.trans H; rw [hy394]; with_reducible exact H2_) | (have H2_ := (Option.bind_some _ _).symm.trans H; with_reducible exact H2_) | with_reducible exact H | (rw [hy394]; exact H) | exact H
  have Ny394 := Am hy394
  clear hy394
  replace H := Option.bind_eq_some_iff.mp H
  obtain ⟨t397, A40, H⟩ := H
  replace H : ((impl_counts.f k t397).bind fun t400 => ((impl_ranking.f t400).bind fun t403 => ((slices_Compact_int_int.f t403).bind fun t406 => (impl_StrongParts.l0 k y394 t406 t400 (t400.length : Int) 0)))) = some (r1, r2) := H
  have A4 := Am A40
  clear A40
  replace H := Option.bind_eq_some_iff.mp H
  obtain ⟨t400, A50, H⟩ := H
  replace H : ((impl_ranking.f t400).bind fun t403 => ((slices_Compact_int_int.f t403).bind fun t406 => (impl_StrongParts.l0 k y394 t406 t400 (t400.length : Int) 0))) = some (r1, r2) := H
  have A5 := Am A50
  clear A50
  replace H := Option.bind_eq_some_iff.mp H
  obtain ⟨t403, A60, H⟩ := H
  replace H : ((slices_Compact_int_int.f t403).bind fun t406 => (impl_StrongParts.l0 k y394 t406 t400 (t400.length : Int) 0)) = some (r1, r2) := H
  have A6 := Am A60
  clear A60
  replace H := Option.bind_eq_some_iff.mp H
  obtain ⟨t406, A70, H⟩ := H
  replace H : (impl_StrongParts.l0 k y394 t406 t400 (t400.length : Int) 0) = some (r1, r2) := H
  have A7 := Am A70
  clear A70
  have H' := Am H
  clear H
  go_enter Try.func21, Try.ntmps21
  go_wp2_with (first | ((with_reducible refine gate_dst (N := 1) rfl ?_); refine box_event ?hg (N := 1) ?hd (cs := #[.int .i64 a0_0, .slice A0_1 l0_1.length c0_1]) (t := 27) ?hr ?_; (case hd => rfl); (case hg => rfl); (case hr => first | (go_simp; done) | (go_simp; rfl)); intro gb392 hg w8 hbox hb; have n0_ := Am (below_step (by repeat (first | (with_reducible first | exact HB.out | apply Ba | apply Bn | apply Bd))) hb); have n1_ := Am (hbox); have n2_ := Am ((by rw [hg]; exact (below_size (by repeat (first | (with_reducible first | exact HB.out | apply Ba | apply Bn | apply Bd)))) : w.heap.size ≤ gb392)); have n3_ := Am ((by rw [hg]; exact (below_size (by repeat (first | (with_reducible first | exact HB.out | apply Ba | apply Bn | apply Bd)))) : w.heap.size ≤ gb392)); clear HB; have HB := n0_; have BK392 := n1_; have GW392 := n2_; have GE392 := n3_; clear n0_ n1_ n2_ n3_; clear hb hbox hg; have hcz9_0 : w8.cell? ⟨gb392, 0, none⟩ = some (.int .i64 a0_0) := (Kc BK392.out 0).trans rfl; have hcz9_1 : w8.cell? ⟨gb392, 1, none⟩ = some (.slice A0_1 l0_1.length c0_1) := (Kc BK392.out 1).trans rfl; have hfz9_0 := Kf BK392.out 0; have hfz9_1 := Kf BK392.out 1) | ((with_reducible refine gate_callee (f := 19) rfl ?_); refine goesL_ (some 10) rfl rfl Try.func19 (by kernel_rfl) rfl #[.agg #[.int .i64 a0_0, .slice A0_1 l0_1.length c0_1]] rfl (by (try simp only [List.map_toArray, List.map_cons, List.map_nil]); first | done | rfl) ?_; (with_reducible refine (impl_IsTournament.calls k a0_0 _ _ l0_1 true _ ?side1 ?side2 A2.out).mono ?_); (case side1 => repeat (first | exact (Kd.C_below HR0_1.out HB.out) | (with_reducible refine Ca ?_ _) | (with_reducible refine Cn ?_ _) | (with_reducible refine Cd ?_))); (case side2 => exact HC0_1.out); rintro e w10 ⟨rfl, hb⟩; refine ⟨_, rfl, ?_⟩; have n0_ := Am (blk_below (g := gb392) (o := .cells #[.int .i64 a0_0, .slice A0_1 l0_1.length c0_1] 27 (0, 0)) (by (with_reducible repeat (first | refine Kn ?_ _ | refine Ke ?_ | refine Ka ?_ _)); exact BK392.out) hb); have n1_ := Am (below_step (by repeat (first | (with_reducible first | exact HB.out | apply Ba | apply Bn | apply Bd | refine Bs ?_ GE392.out) | exact HB.out)) hb); clear BK392; clear HB; have BK392 := n0_; have HB := n1_; clear n0_ n1_; (try clear hb); (try clear hb2); (try clear hk); (try clear hi)) | ((with_reducible refine gate_dst (N := 12) rfl ?_); refine Kd.R_lit (Kd.int .i64) _ 3 ?hg (N := 12) ?hd (xs := ([] : List Int)) (inner := []) (ok := fun _ => True) (okp := fun _ => True) ?hr ?hp (fun _ hk => hk) trivial (Below.refl _ _) (Nat.le_refl _) (by simp) ?_; (case hd => rfl); (case hg => rfl); (case hr => first | (go_simp; done) | (go_simp; rfl)); (case hp => exact (Reps.none _ _)); intro v395 w11 ho12 hb hg_ hnew_; clear hg_ hnew_; (first | rw [← Ny394.out] at ho12 | (simp only [Int.reduceToNat] at ho12; rw [← Ny394.out] at ho12)); have n0_ := Am (Kd.R_lower ho12 (below_size (by repeat (first | (with_reducible first | exact HB.out | apply Ba | apply Bn | apply Bd | refine Bs ?_ GE392.out) | exact HB.out)))); have n1_ := Am (blk_below (g := gb392) (o := .cells #[.int .i64 a0_0, .slice A0_1 l0_1.length c0_1] 27 (0, 0)) (by (with_reducible repeat (first | refine Kn ?_ _ | refine Ke ?_ | refine Ka ?_ _)); exact BK392.out) hb); have n2_ := Am (below_step (by repeat (first | (with_reducible first | exact HB.out | apply Ba | apply Bn | apply Bd | refine Bs ?_ GE392.out) | exact HB.out)) hb); clear BK392; clear HB; have HO396 := n0_; have BK392 := n1_; have HB := n2_; clear n0_ n1_ n2_; clear hb ho12; have hcz13_0 : w11.cell? ⟨gb392, 0, none⟩ = some (.int .i64 a0_0) := (Kc BK392.out 0).trans rfl; have hcz13_1 : w11.cell? ⟨gb392, 1, none⟩ = some (.slice A0_1 l0_1.length c0_1) := (Kc BK392.out 1).trans rfl; have hfz13_0 := Kf BK392.out 0; have hfz13_1 := Kf BK392.out 1) | ((with_reducible refine gate_callee (f := 49) rfl ?_); refine goesL_ (some 14) rfl rfl Try.func49 (by kernel_rfl) rfl #[.agg #[.int .i64 a0_0, .slice A0_1 l0_1.length c0_1]] rfl (by (try simp only [List.map_toArray, List.map_cons, List.map_nil]); first | done | rfl) ?_; (with_reducible refine (impl_reached.calls k a0_0 _ _ l0_1 t397 _ ?side1 ?side2 A4.out).mono ?_); (case side1 => repeat (first | exact (Kd.C_below HR0_1.out HB.out) | (with_reducible refine Ca ?_ _) | (with_reducible refine Cn ?_ _) | (with_reducible refine Cd ?_))); (case side2 => exact HC0_1.out); rintro e w14 ⟨v398, rfl, ho0, hb⟩; refine ⟨_, rfl, ?_⟩; have n0_ := Am (Kd.R_elder' (by (with_reducible repeat (first | apply Ra | apply Rn | apply Rd)); exact HO396.out) (Kd.R_base ho0) hb); have n1_ := Am (Kd.R_lower (Kd.R_new' ho0 (Kd.R_lt (by (with_reducible repeat (first | apply Ra | apply Rn | apply Rd)); exact HO396.out))) (below_size (by repeat (first | (with_reducible first | exact HB.out | apply Ba | apply Bn | apply Bd | refine Bs ?_ GE392.out) | exact HB.out)))); have n2_ := Am (blk_below (g := gb392) (o := .cells #[.int .i64 a0_0, .slice A0_1 l0_1.length c0_1] 27 (0, 0)) (by (with_reducible repeat (first | refine Kn ?_ _ | refine Ke ?_ | refine Ka ?_ _)); exact BK392.out) hb); have n3_ := Am (below_step (by repeat (first | (with_reducible first | exact HB.out | apply Ba | apply Bn | apply Bd | refine Bs ?_ GE392.out) | exact HB.out)) hb); clear HO396; clear BK392; clear HB; have HO396 := n0_; have HO399 := n1_; have BK392 := n2_; have HB := n3_; clear n0_ n1_ n2_ n3_; (try clear hb); (try clear hb2); (try clear hk); (try clear hi); (try clear ho0); obtain ⟨Ao15, co15, eo15⟩ := Kd.R_slice HO399.out; subst eo15) | ((with_reducible refine gate_callee (f := 44) rfl ?_); refine goesL_ (some 15) rfl rfl Try.func44 (by kernel_rfl) rfl #[.slice Ao15 t397.length co15] rfl (by (try simp only [List.map_toArray, List.map_cons, List.map_nil]); first | done | rfl) ?_; (with_reducible refine (impl_counts.calls k _ _ t397 t400 _ ?side1 ?side2 A5.out).mono ?_); (case side1 => repeat (first | exact (Kd.R_reads' HO399.out).2.2 | (with_reducible refine Ca ?_ _) | (with_reducible refine Cn ?_ _) | (with_reducible refine Cd ?_))); (case side2 => exact (Kd.R_reads' HO399.out).2.1); rintro e w16 ⟨v401, rfl, ho0, hb⟩; refine ⟨_, rfl, ?_⟩; have n0_ := Am (Kd.R_elder' (by (with_reducible repeat (first | apply Ra | apply Rn | apply Rd)); exact HO396.out) (Kd.R_base ho0) hb); have n1_ := Am (Kd.R_elder' (by (with_reducible repeat (first | apply Ra | apply Rn | apply Rd)); exact HO399.out) (Kd.R_base ho0) hb); have n2_ := Am (Kd.R_lower (Kd.R_new' (Kd.R_new' ho0 (Kd.R_lt (by (with_reducible repeat (first | apply Ra | apply Rn | apply Rd)); exact HO396.out))) (Kd.R_lt (by (with_reducible repeat (first | apply Ra | apply Rn | apply Rd)); exact HO399.out))) (below_size (by repeat (first | (with_reducible first | exact HB.out | apply Ba | apply Bn | apply Bd | refine Bs ?_ GE392.out) | exact HB.out)))); have n3_ := Am (blk_below (g := gb392) (o := .cells #[.int .i64 a0_0, .slice A0_1 l0_1.length c0_1] 27 (0, 0)) (by (with_reducible repeat (first | refine Kn ?_ _ | refine Ke ?_ | refine Ka ?_ _)); exact BK392.out) hb); have n4_ := Am (below_step (by repeat (first | (with_reducible first | exact HB.out | apply Ba | apply Bn | apply Bd | refine Bs ?_ GE392.out) | exact HB.out)) hb); clear HO396; clear HO399; clear BK392; clear HB; have HO396 := n0_; have HO399 := n1_; have HO402 := n2_; have BK392 := n3_; have HB := n4_; clear n0_ n1_ n2_ n3_ n4_; (try clear hb); (try clear hb2); (try clear hk); (try clear hi); (try clear ho0); obtain ⟨Ao17, co17, eo17⟩ := Kd.R_slice HO402.out; subst eo17) | ((with_reducible refine gate_callee (f := 51) rfl ?_); refine goesL_ (some 17) rfl rfl Try.func51 (by kernel_rfl) rfl #[.slice Ao17 t400.length co17] rfl (by (try simp only [List.map_toArray, List.map_cons, List.map_nil]); first | done | rfl) ?_; (with_reducible refine (impl_ranking.calls _ _ t400 t403 _ ?side1 ?side2 A6.out).mono ?_); (case side1 => repeat (first | exact (Kd.R_reads' HO402.out).2.2 | (with_reducible refine Ca ?_ _) | (with_reducible refine Cn ?_ _) | (with_reducible refine Cd ?_))); (case side2 => exact (Kd.R_reads' HO402.out).2.1); rintro e w18 ⟨v404, rfl, ho0, hb⟩; refine ⟨_, rfl, ?_⟩; have n0_ := Am (Kd.R_elder' (by (with_reducible repeat (first | apply Ra | apply Rn | apply Rd)); exact HO396.out) (Kd.R_base ho0) hb); have n1_ := Am (Kd.R_elder' (by (with_reducible repeat (first | apply Ra | apply Rn | apply Rd)); exact HO399.out) (Kd.R_base ho0) hb); have n2_ := Am (Kd.R_elder' (by (with_reducible repeat (first | apply Ra | apply Rn | apply Rd)); exact HO402.out) (Kd.R_base ho0) hb); have n3_ := Am (Kd.R_lower (Kd.R_new' (Kd.R_new' (Kd.R_new' ho0 (Kd.R_lt (by (with_reducible repeat (first | apply Ra | apply Rn | apply Rd)); exact HO396.out))) (Kd.R_lt (by (with_reducible repeat (first | apply Ra | apply Rn | apply Rd)); exact HO399.out))) (Kd.R_lt (by (with_reducible repeat (first | apply Ra | apply Rn | apply Rd)); exact HO402.out))) (below_size (by repeat (first | (with_reducible first | exact HB.out | apply Ba | apply Bn | apply Bd | refine Bs ?_ GE392.out) | exact HB.out)))); have n4_ := Am (blk_below (g := gb392) (o := .cells #[.int .i64 a0_0, .slice A0_1 l0_1.length c0_1] 27 (0, 0)) (by (with_reducible repeat (first | refine Kn ?_ _ | refine Ke ?_ | refine Ka ?_ _)); exact BK392.out) hb); have n5_ := Am (below_step (by repeat (first | (with_reducible first | exact HB.out | apply Ba | apply Bn | apply Bd | refine Bs ?_ GE392.out) | exact HB.out)) hb); clear HO396; clear HO399; clear HO402; clear BK392; clear HB; have HO396 := n0_; have HO399 := n1_; have HO402 := n2_; have HO405 := n3_; have BK392 := n4_; have HB := n5_; clear n0_ n1_ n2_ n3_ n4_ n5_; (try clear hb); (try clear hb2); (try clear hk); (try clear hi); (try clear ho0); obtain ⟨Ao19, co19, eo19⟩ := Kd.R_slice HO405.out; subst eo19) | ((with_reducible refine gate_callee (f := 50) rfl ?_); refine goesL_ (some 18) rfl rfl Try.func50 (by kernel_rfl) rfl #[.slice Ao19 t403.length co19] rfl (by (try simp only [List.map_toArray, List.map_cons, List.map_nil]); first | done | rfl) ?_; (with_reducible refine (compact_c _ _ _ _ t403 t406 _ (by (with_reducible repeat (first | apply Ra | apply Rn | apply Rd)); exact HO405.out) A7.out).mono ?_); rintro e w20 ⟨v407, rfl, hv_, ho0, hg_⟩; refine ⟨_, rfl, ?_⟩; have n0_ := Am (R_kept2 rfl (by (with_reducible repeat (first | apply Ra | apply Rn | apply Rd)); exact HO396.out) hg_ v407 hv_ (by intro k_ hk_; exact hk_.2)); have n1_ := Am (R_kept2 rfl (by (with_reducible repeat (first | apply Ra | apply Rn | apply Rd)); exact HO399.out) hg_ v407 hv_ (by intro k_ hk_; exact hk_.2)); have n2_ := Am (R_kept2 rfl (by (with_reducible repeat (first | apply Ra | apply Rn | apply Rd)); exact HO402.out) hg_ v407 hv_ (by intro k_ hk_; exact hk_.2)); have n3_ := Am (R_and1 ho0); have n4_ := Am (blk_kept1 (g := gb392) (o := .cells #[.int .i64 a0_0, .slice A0_1 l0_1.length c0_1] 27 (0, 0)) (by (with_reducible repeat (first | refine Kn ?_ _ | refine Ke ?_ | refine Ka ?_ _)); exact BK392.out) (by (with_reducible repeat (first | apply Ra | apply Rn | apply Rd)); exact HO405.out) hg_ (fun cs f_ => by intro q_; injection q_ with q1_ q2_; exact absurd q2_ (by decide))); have n5_ := Am (pw_below_grown (by repeat (first | (with_reducible first | exact HB.out | apply Ba | apply Bn | apply Bd | refine Bs ?_ GE392.out) | exact HB.out)) _ (below_size (by repeat (first | (with_reducible first | exact HB.out | apply Ba | apply Bn | apply Bd | refine Bs ?_ GE392.out) | exact HB.out))) hg_ (fun k_ e_ => Kd.R_base HO405.out k_ e_)); clear HO396; clear HO399; clear HO402; clear HO405; clear BK392; clear HB; clear hv_ hg_ ho0; have HO396 := n0_; have HO399 := n1_; have HO402 := n2_; have HO408 := n3_; have BK392 := n4_; have HB := n5_; clear n0_ n1_ n2_ n3_ n4_ n5_; (try clear hb); (try clear hb2); (try clear hk); (try clear hi); (try clear ho0)))
  go_loopg [4, 21] k (fun kq v4 v21 w' => ∃ (x4_1 : List Int) (x21_1 : Int), v21 = .int .i64 x21_1 ∧ Aside0 (impl_StrongParts.l0 kq x4_1 t406 t400 (t400.length : Int) x21_1 = some (r1, r2)) ∧ Aside0 (kq ≤ k) ∧ Aside0 (Kd.R (Kd.int .i64) 3 w' w.heap.size (fun k_ => some k_ ≠ (v407 : Value).ownBlock ∧ some k_ ≠ ((.slice Ao17 t400.length co17) : Value).ownBlock) v4 x4_1) ∧ Aside0 (Kd.R (Kd.int .i64) 3 w' w.heap.size (fun k_ => some k_ ≠ (v4 : Value).ownBlock ∧ some k_ ≠ ((.slice Ao17 t400.length co17) : Value).ownBlock) v407 t406) ∧ Aside0 (Kd.R (Kd.int .i64) 3 w' w.heap.size (fun k_ => some k_ ≠ (v4 : Value).ownBlock ∧ some k_ ≠ (v407 : Value).ownBlock) (.slice Ao17 t400.length co17) t400) ∧ Aside0 (w'.heap[gb392]? = some (.cells #[.int .i64 a0_0, (.slice A0_1 l0_1.length c0_1)] 27 (0, 0))) ∧ Aside0 (Below w.heap.size w w'))
  case atStart => exact ⟨(y394), (0), (by first | rfl | (simp; done) | (simp [*]; done)), H', ⟨Nat.le_refl _⟩, ⟨by (with_reducible repeat (first | apply Ra | apply Rn | apply Rd)); exact Kd.R_mono HO396.out (fun _ hk => ⟨hk.2, hk.1.1.2⟩)⟩, ⟨by (with_reducible repeat (first | apply Ra | apply Rn | apply Rd)); exact Kd.R_mono HO408.out (fun _ hk => ⟨hk.1.1.1.2, hk.1.2⟩)⟩, ⟨by (with_reducible repeat (first | apply Ra | apply Rn | apply Rd)); exact Kd.R_mono HO402.out (fun _ hk => ⟨hk.1.1.1.2, hk.2⟩)⟩, ⟨by (with_reducible repeat (first | refine Kn ?_ _ | refine Ke ?_ | refine Ka ?_ _)); exact BK392.out⟩, ⟨by repeat (first | (with_reducible first | exact HB.out | apply Ba | apply Bn | apply Bd | refine Bs ?_ GE392.out) | exact HB.out)⟩⟩
  case round =>
   clear H'
   (try clear c1); (try clear c2); (try clear p2); (try clear c3); (try clear c4); (try clear c5); (try clear c19); (try clear hcz13_0); (try clear hcz13_1); (try clear hcz9_0); (try clear hcz9_1); (try clear hfz13_0); (try clear hfz13_1); (try clear hfz9_0); (try clear hfz9_1)
   obtain ⟨x4_1, x21_1, rfl, HA, HK1, HO_4, HO_6, HO_19, BK392, HB⟩ := hrel
   cases gk with
   | zero => exact absurd HA.out (by simp [impl_StrongParts.l0])
   | succ k1 =>
    have H := HA.out
    clear HA
    simp only [impl_StrongParts.l0] at H
    by_cases c21 : x21_1 < (t400.length : Int)
    ·
     rw [if_pos c21] at H
     have c21b0 : decide (x21_1 < (t400.length : Int)) = true := De c21
     clear c21
     by_cases c22 : 0 ≤ x21_1
     ·
      rw [if_pos c22] at H
      have c22b0 : decide (0 ≤ x21_1) = true := De c22
      clear c22
      by_cases c23 : x21_1 < (t400.length : Int)
      ·
       rw [if_pos c23] at H
       have c23b0 : decide (x21_1 < (t400.length : Int)) = true := De c23
       clear c23
       replace H := Option.bind_eq_some_iff.mp H
       obtain ⟨t410, A240, H⟩ := H
       replace H : (if x4_1.length < 17592186044416 then (impl_StrongParts.l0 k1 (x4_1 ++ [t410]) t406 t400 (t400.length : Int) (wrap64 (x21_1 + 1))) else (none)) = some (r1, r2) := H
       have A24 := Am A240
       clear A240
       by_cases c25 : x4_1.length < 17592186044416
       ·
        rw [if_pos c25] at H
        have LMc25 := Am c25
        clear c25
        obtain ⟨y411, hy411⟩ : ∃ y_ : List Int, y_ = (x4_1 ++ [t410]) := ⟨_, rfl⟩
        replace H : (impl_StrongParts.l0 k1 y411 t406 t400 (t400.length : Int) (wrap64 (x21_1 + 1))) = some (r1, r2) := by first | (rw [hy411]; with_reducible exact H) | (have H2_ := (Option.bind_some _ _).symm.trans H; rw [hy411]; with_reducible exact H2_) | (have H2_ := (Option.bind_some _ _).symm.trans H; with_reducible exact H2_) | with_reducible exact H | (rw [hy411]; exact H) | exact H
        have Ny411 := Am hy411
        clear hy411
        have H' := Am H
        clear H
        have p409 : 0 ≤ (x21_1 : Int) := Oe (by first | (with_reducible assumption) | assumption)
        have q409 : x21_1 < (t400.length : Int) := Oe (by first | (with_reducible assumption) | assumption)
        obtain ⟨ad409, e409, hx409_0⟩ := Kd.at_int (Kd.R_reads' HO_19.out).2.2 x21_1 p409 q409
        cases e409
        replace p409 := eq_true p409
        replace q409 := eq_true q409
        obtain ⟨Ao26, co26, eo26⟩ := Kd.R_slice HO_6.out
        subst eo26
        go_wp2_with (first | ((with_reducible refine gate_callee (f := 52) rfl ?_); refine goesL_ (some 28) rfl rfl Try.func52 (by kernel_rfl) rfl #[.slice Ao26 t406.length co26, .int .i64 (rd t400 x21_1)] rfl (by (try simp only [List.map_toArray, List.map_cons, List.map_nil]); first | done | rfl) ?_; (with_reducible refine (slices_Index_int_int.calls k1 _ _ t406 (rd t400 x21_1) t410 _ ?side1 ?side2 A24.out).mono ?_); (case side1 => repeat (first | exact (Kd.R_reads' HO_6.out).2.2 | (with_reducible refine Ca ?_ _) | (with_reducible refine Cn ?_ _) | (with_reducible refine Cd ?_))); (case side2 => exact (Kd.R_reads' HO_6.out).2.1); rintro e w' ⟨rfl, ⟨nd, rfl⟩⟩; refine ⟨_, rfl, ?_⟩) | ((with_reducible refine gate_builtin (b := .append) (xs := #[.tmp 25, .tmp 29]) rfl ?_); at_builtin; refine Kd.R_append (Kd.int .i64) (w0 := w) w.heap.size rfl (.tmp 25) (.tmp 29) 24 3 (.int .i64 0) 8 rfl Try.underlying24 info3 rfl (by decide) (by omega) u4 x4_1 t410 [.int .i64 t410] (fun k_ => some k_ ≠ (.slice Ao26 t406.length co26 : Value).ownBlock ∧ some k_ ≠ (.slice (some ad409) t400.length co17 : Value).ownBlock) (fun _ => False) rfl rfl ?aP (fun _ hk => hk.elim) ?aF ?aO ?aB ?aS ?aL ?_; (case aP => exact rfl); (case aB => exact (by repeat (first | (with_reducible first | exact HB.out | apply Ba | apply Bn | apply Bd | refine Bs ?_ GE392.out) | exact HB.out))); (case aF => exact (fun k_ hk => ⟨Kd.fresh' (Kd.R_lt (by (with_reducible repeat (first | apply Ra | apply Rn | apply Rd)); exact HO_6.out)) k_ hk, Kd.fresh' (Kd.R_lt (by (with_reducible repeat (first | apply Ra | apply Rn | apply Rd)); exact HO_19.out)) k_ hk⟩)); (case aO => exact (by (with_reducible repeat (first | apply Ra | apply Rn | apply Rd)); exact HO_4.out)); (case aS => exact (below_size (by repeat (first | (with_reducible first | exact HB.out | apply Ba | apply Bn | apply Bd | refine Bs ?_ GE392.out) | exact HB.out)))); (case aL => have := LMc25.out; omega); intro v412 w27 ho hb hg hat; rw [← Ny411.out] at ho; have n0_ := Am (Kd.R_after (ok := (fun k_ => some k_ ≠ (.slice (some ad409) t400.length co17 : Value).ownBlock)) (by (with_reducible repeat (first | apply Ra | apply Rn | apply Rd)); exact Kd.R_mono HO_6.out (fun _ hk => ⟨hk.2, hk.1⟩)) hg hat); have n1_ := Am (Kd.R_after (ok := (fun k_ => some k_ ≠ (.slice Ao26 t406.length co26 : Value).ownBlock)) (by (with_reducible repeat (first | apply Ra | apply Rn | apply Rd)); exact Kd.R_mono HO_19.out (fun _ hk => ⟨hk.2, hk.1⟩)) hg hat); have n2_ := Am (blk_grown (g := gb392) (o := .cells #[.int .i64 a0_0, .slice A0_1 l0_1.length c0_1] 27 (0, 0)) (by (with_reducible repeat (first | refine Kn ?_ _ | refine Ke ?_ | refine Ka ?_ _)); exact BK392.out) hg (Kd.R_ne HO_4.out BK392.out (by decide))); have n3_ := Am (hb); have n4_ := Am (ho); clear HO_6; clear HO_19; clear BK392; clear HB; clear HO_4; have HO_6 := n0_; have HO_19 := n1_; have BK392 := n2_; have HB := n3_; have HO413 := n4_; clear n0_ n1_ n2_ n3_ n4_; clear ho hb hg hat))
        go_roundg k1
        case measure => have := HK1.out; omega
        case rel => exact ⟨(y411), (wrap64 (x21_1 + 1)), (by first | rfl | (simp; done) | (simp [*]; done)), H', ⟨by have := HK1.out; omega⟩, ⟨by (with_reducible repeat (first | apply Ra | apply Rn | apply Rd)); exact HO413.out⟩, ⟨by (with_reducible repeat (first | apply Ra | apply Rn | apply Rd)); exact Kd.R_mono HO_6.out (fun _ hk => ⟨hk.2, hk.1⟩)⟩, ⟨by (with_reducible repeat (first | apply Ra | apply Rn | apply Rd)); exact Kd.R_mono HO_19.out (fun _ hk => ⟨hk.2, hk.1⟩)⟩, ⟨by (with_reducible repeat (first | refine Kn ?_ _ | refine Ke ?_ | refine Ka ?_ _)); exact BK392.out⟩, ⟨by repeat (first | (with_reducible first | exact HB.out | apply Ba | apply Bn | apply Bd | refine Bs ?_ GE392.out) | exact HB.out)⟩⟩
       ·
        rw [if_neg c25] at H
        exact absurd H (by simp)
      ·
       rw [if_neg c23] at H
       exact absurd H (by simp)
     ·
      rw [if_neg c22] at H
      exact absurd H (by simp)
    ·
     rw [if_neg c21] at H
     have c21b0 : decide (x21_1 < (t400.length : Int)) = false := Df c21
     clear c21
     simp only [Option.some.injEq, Prod.mk.injEq] at H
     obtain ⟨rfl, rfl⟩ := H
     go_wp2
     go_ret2
     exact ⟨_, by first | rfl | (simp [errW_none, errW_some] <;> rfl) | (simp [*, errW_none, errW_some] <;> rfl), by (with_reducible repeat (first | apply Ra | apply Rn | apply Rd)); exact Kd.R_mono HO_4.out (fun _ hk => trivial), by repeat (first | (with_reducible first | exact HB.out | apply Ba | apply Bn | apply Bd | refine Bs ?_ GE392.out) | exact HB.out)⟩
 ·
  replace c3 := Bool.eq_false_iff.mpr c3
  subst c3
  have H1 : (some (([] : List Int), false)) = some (r1, r2) := by rw [if_neg (show ¬ (false = true) by decide)] at H; exact H
  clear H
  have H := H1
  clear H1
  simp only [Option.some.injEq, Prod.mk.injEq] at H
  obtain ⟨rfl, rfl⟩ := H
  go_enter Try.func21, Try.ntmps21
  go_wp2_with (first | ((with_reducible refine gate_dst (N := 1) rfl ?_); refine box_event ?hg (N := 1) ?hd (cs := #[.int .i64 a0_0, .slice A0_1 l0_1.length c0_1]) (t := 27) ?hr ?_; (case hd => rfl); (case hg => rfl); (case hr => first | (go_simp; done) | (go_simp; rfl)); intro gb392 hg w28 hbox hb; have n0_ := Am (below_step (by repeat (first | (with_reducible first | exact HB.out | apply Ba | apply Bn | apply Bd))) hb); have n1_ := Am (hbox); have n2_ := Am ((by rw [hg]; exact (below_size (by repeat (first | (with_reducible first | exact HB.out | apply Ba | apply Bn | apply Bd)))) : w.heap.size ≤ gb392)); have n3_ := Am ((by rw [hg]; exact (below_size (by repeat (first | (with_reducible first | exact HB.out | apply Ba | apply Bn | apply Bd)))) : w.heap.size ≤ gb392)); clear HB; have HB := n0_; have BK392 := n1_; have GW392 := n2_; have GE392 := n3_; clear n0_ n1_ n2_ n3_; clear hb hbox hg; have hcz29_0 : w28.cell? ⟨gb392, 0, none⟩ = some (.int .i64 a0_0) := (Kc BK392.out 0).trans rfl; have hcz29_1 : w28.cell? ⟨gb392, 1, none⟩ = some (.slice A0_1 l0_1.length c0_1) := (Kc BK392.out 1).trans rfl; have hfz29_0 := Kf BK392.out 0; have hfz29_1 := Kf BK392.out 1) | ((with_reducible refine gate_callee (f := 19) rfl ?_); refine goesL_ (some 10) rfl rfl Try.func19 (by kernel_rfl) rfl #[.agg #[.int .i64 a0_0, .slice A0_1 l0_1.length c0_1]] rfl (by (try simp only [List.map_toArray, List.map_cons, List.map_nil]); first | done | rfl) ?_; (with_reducible refine (impl_IsTournament.calls k a0_0 _ _ l0_1 false _ ?side1 ?side2 A2.out).mono ?_); (case side1 => repeat (first | exact (Kd.C_below HR0_1.out HB.out) | (with_reducible refine Ca ?_ _) | (with_reducible refine Cn ?_ _) | (with_reducible refine Cd ?_))); (case side2 => exact HC0_1.out); rintro e w30 ⟨rfl, hb⟩; refine ⟨_, rfl, ?_⟩; have n0_ := Am (blk_below (g := gb392) (o := .cells #[.int .i64 a0_0, .slice A0_1 l0_1.length c0_1] 27 (0, 0)) (by (with_reducible repeat (first | refine Kn ?_ _ | refine Ke ?_ | refine Ka ?_ _)); exact BK392.out) hb); have n1_ := Am (below_step (by repeat (first | (with_reducible first | exact HB.out | apply Ba | apply Bn | apply Bd | refine Bs ?_ GE392.out) | exact HB.out)) hb); clear BK392; clear HB; have BK392 := n0_; have HB := n1_; clear n0_ n1_; (try clear hb); (try clear hb2); (try clear hk); (try clear hi)))
  go_ret2
  exact ⟨_, by first | rfl | (simp [errW_none, errW_some] <;> rfl) | (simp [*, errW_none, errW_some] <;> rfl), by first | exact Kd.R_nil _ _ _ _ _ | exact Kd.N_nil _ _ _ _ _ | exact Kd.V_nil _ _ _ _ _ | exact Kd.Q_nil _ _ _ _ _ | exact Kd.S_nil _ _ _ _ _, by repeat (first | (with_reducible first | exact HB.out | apply Ba | apply Bn | apply Bd | refine Bs ?_ GE392.out) | exact HB.out)⟩
def spec_l1In.f (a0 : Int) (a1 : Int) (a2 : Int) : Option (Bool) := if a0 ≥ a1 then (some (decide (a0 ≤ a2))) else (some false)
set_option maxHeartbeats 8000000 in
set_option maxRecDepth 100000 in
theorem spec_l1In.calls (a0 : Int) (a1 : Int) (a2 : Int) (r : Bool) (w : World) (h : spec_l1In.f a0 a1 a2 = some r) :
  Calls Try.prog 64 #[.int .i64 a0, .int .i64 a1, .int .i64 a2] w fun e w' => e = .returned (.bool r) ∧ Drawn0 w w' := by
 have H : (if a0 ≥ a1 then (some (decide (a0 ≤ a2))) else (some false)) = some r := h
 clear h
 by_cases c4 : a0 ≥ a1
 ·
  rw [if_pos c4] at H
  have c4b0 : decide (a1 ≤ a0) = true := De c4
  clear c4
  obtain rfl := Option.some.inj H
  go_enter Try.func64, Try.ntmps64
  go_wp2
  go_ret
  exact ⟨by first | rfl | (simp; done) | (simp [*]; done), by repeat (first | exact Drawn0.refl _ | apply Drawn0.step)⟩
 ·
  rw [if_neg c4] at H
  have c4b0 : decide (a1 ≤ a0) = false := Df c4
  clear c4
  obtain rfl := Option.some.inj H
  go_enter Try.func64, Try.ntmps64
  go_wp2
  go_ret
  exact ⟨by first | rfl | (simp; done) | (simp [*]; done), by repeat (first | exact Drawn0.refl _ | apply Drawn0.step)⟩
def spec_l1All.l0 : Nat → Int → Int → List Int → Int → Int → Option (Bool)
 | 0, _, _, _, _, _ => none
 | k + 1, x1, x2, x9, x10, x11 => if x11 < x10 then (if 0 ≤ x11 then (if x11 < (x9.length : Int) then ((spec_l1In.f (rd x9 x11) x1 x2).bind fun t102 => (if t102 = true then (spec_l1All.l0 k x1 x2 x9 x10 (wrap64 (x11 + 1))) else (some false))) else (none)) else (none)) else (some true)
def spec_l1All.f (k : Nat) (l0 : List Int) (a1 : Int) (a2 : Int) : Option (Bool) := spec_l1All.l0 k a1 a2 l0 (l0.length : Int) 0
theorem spec_l1All.mono_l : ∀ k, (∀ y0 y1 y2 y3 y4, LeO (spec_l1All.l0 k y0 y1 y2 y3 y4) (spec_l1All.l0 (k + 1) y0 y1 y2 y3 y4))
 | 0 => fun _ _ _ _ _ r h => by simp [spec_l1All.l0] at h
 | k + 1 => by
  have ih0 := spec_l1All.mono_l k
  ·
   intro y0 y1 y2 y3 y4
   unfold spec_l1All.l0
   repeat' first
   | (with_reducible exact ih0 _ _ _ _ _)
   | (with_reducible exact LeO.refl _)
   | (with_reducible exact LeO.none _)
   | (with_reducible refine LeO.ite ?_ ?_)
   | (with_reducible refine LeO.bind ?_ (fun _ => ?_))
   | exact ih0 _ _ _ _ _
   | exact LeO.none _
   | refine LeO.ite ?_ ?_
   | refine LeO.bind ?_ (fun _ => ?_)
theorem spec_l1All.mono : ∀ a0 a1 a2 k, LeO (spec_l1All.f k a0 a1 a2) (spec_l1All.f (k + 1) a0 a1 a2) := by
 intro a0 a1 a2 k
 have ih0 := spec_l1All.mono_l k
 unfold spec_l1All.f
 repeat' first
   | (with_reducible exact ih0 _ _ _ _ _)
   | (with_reducible exact LeO.refl _)
   | (with_reducible exact LeO.none _)
   | (with_reducible refine LeO.ite ?_ ?_)
   | (with_reducible refine LeO.bind ?_ (fun _ => ?_))
   | exact ih0 _ _ _ _ _
   | exact LeO.none _
   | refine LeO.ite ?_ ?_
   | refine LeO.bind ?_ (fun _ => ?_)
set_option maxHeartbeats 8000000 in
set_option maxRecDepth 100000 in
theorem spec_l1All.calls (k : Nat) (A0 : Option Addr) (c0 : Nat) (l0 : List Int) (a1 : Int) (a2 : Int) (r : Bool) (w : World) (hr0 : Kd.C (Kd.int .i64) w A0 l0.length l0) (hc0 : l0.length ≤ c0) (h : spec_l1All.f k l0 a1 a2 = some r) :
  Calls Try.prog 65 #[.slice A0 l0.length c0, .int .i64 a1, .int .i64 a2] w fun e w' => e = .returned (.bool r) ∧ Drawn0 w w' := by
 have HR0 := Am hr0
 have HC0 := Am hc0
 clear hr0 hc0
 have H : (spec_l1All.l0 k a1 a2 l0 (l0.length : Int) 0) = some r := h
 clear h
 have H' := Am H
 clear H
 go_enter Try.func65, Try.ntmps65
 go_wp2
 go_loopg [11] k (fun kq v11 w' => ∃ (x11_1 : Int), v11 = .int .i64 x11_1 ∧ Aside0 (spec_l1All.l0 kq a1 a2 l0 (l0.length : Int) x11_1 = some r) ∧ Aside0 (kq ≤ k) ∧ Drawn0 w w')
 case atStart => exact ⟨(0), (by first | rfl | (simp; done) | (simp [*]; done)), H', ⟨Nat.le_refl _⟩, by repeat (first | exact Drawn0.refl _ | apply Drawn0.step)⟩
 case round =>
  clear H'
  (try clear p2)
  obtain ⟨x11_1, rfl, HA, HK1, ⟨m1, rfl⟩⟩ := hrel
  cases gk with
  | zero => exact absurd HA.out (by simp [spec_l1All.l0])
  | succ k1 =>
   have H := HA.out
   clear HA
   simp only [spec_l1All.l0] at H
   by_cases c4 : x11_1 < (l0.length : Int)
   ·
    rw [if_pos c4] at H
    have c4b0 : decide (x11_1 < (l0.length : Int)) = true := De c4
    clear c4
    by_cases c5 : 0 ≤ x11_1
    ·
     rw [if_pos c5] at H
     have c5b0 : decide (0 ≤ x11_1) = true := De c5
     clear c5
     by_cases c6 : x11_1 < (l0.length : Int)
     ·
      rw [if_pos c6] at H
      have c6b0 : decide (x11_1 < (l0.length : Int)) = true := De c6
      clear c6
      replace H := Option.bind_eq_some_iff.mp H
      obtain ⟨t102, A70, H⟩ := H
      replace H : (if t102 = true then (spec_l1All.l0 k1 a1 a2 l0 (l0.length : Int) (wrap64 (x11_1 + 1))) else (some false)) = some r := H
      have A7 := Am A70
      clear A70
      by_cases c8 : t102 = true
      ·
       subst c8
       have H1 : (spec_l1All.l0 k1 a1 a2 l0 (l0.length : Int) (wrap64 (x11_1 + 1))) = some r := by rw [if_pos rfl] at H; exact H
       clear H
       have H := H1
       clear H1
       have H' := Am H
       clear H
       have p101 : 0 ≤ (x11_1 : Int) := Oe (by first | (with_reducible assumption) | assumption)
       have q101 : x11_1 < (l0.length : Int) := Oe (by first | (with_reducible assumption) | assumption)
       obtain ⟨ad101, e101, hx101_0⟩ := Kd.at_int HR0.out x11_1 p101 q101
       cases e101
       replace p101 := eq_true p101
       replace q101 := eq_true q101
       go_wp2_with (first | ((with_reducible refine gate_callee (f := 64) rfl ?_); refine goesL_ (some 18) rfl rfl Try.func64 (by kernel_rfl) rfl #[.int .i64 (rd l0 x11_1), .int .i64 a1, .int .i64 a2] rfl (by (try simp only [List.map_toArray, List.map_cons, List.map_nil]); first | done | rfl) ?_; (with_reducible refine (spec_l1In.calls (rd l0 x11_1) a1 a2 true _ A7.out).mono ?_); rintro e w' ⟨rfl, ⟨nd, rfl⟩⟩; refine ⟨_, rfl, ?_⟩))
       go_roundg k1
       case measure => have := HK1.out; omega
       case rel => exact ⟨(wrap64 (x11_1 + 1)), (by first | rfl | (simp; done) | (simp [*]; done)), H', ⟨by have := HK1.out; omega⟩, by repeat (first | exact Drawn0.refl _ | apply Drawn0.step)⟩
      ·
       replace c8 := Bool.eq_false_iff.mpr c8
       subst c8
       have H1 : (some false) = some r := by rw [if_neg (show ¬ (false = true) by decide)] at H; exact H
       clear H
       have H := H1
       clear H1
       obtain rfl := Option.some.inj H
       have p101 : 0 ≤ (x11_1 : Int) := Oe (by first | (with_reducible assumption) | assumption)
       have q101 : x11_1 < (l0.length : Int) := Oe (by first | (with_reducible assumption) | assumption)
       obtain ⟨ad101, e101, hx101_0⟩ := Kd.at_int HR0.out x11_1 p101 q101
       cases e101
       replace p101 := eq_true p101
       replace q101 := eq_true q101
       go_wp2_with (first | ((with_reducible refine gate_callee (f := 64) rfl ?_); refine goesL_ (some 18) rfl rfl Try.func64 (by kernel_rfl) rfl #[.int .i64 (rd l0 x11_1), .int .i64 a1, .int .i64 a2] rfl (by (try simp only [List.map_toArray, List.map_cons, List.map_nil]); first | done | rfl) ?_; (with_reducible refine (spec_l1In.calls (rd l0 x11_1) a1 a2 false _ A7.out).mono ?_); rintro e w' ⟨rfl, ⟨nd, rfl⟩⟩; refine ⟨_, rfl, ?_⟩))
       go_ret
       exact ⟨by first | rfl | (simp; done) | (simp [*]; done), by repeat (first | exact Drawn0.refl _ | apply Drawn0.step)⟩
     ·
      rw [if_neg c6] at H
      exact absurd H (by simp)
    ·
     rw [if_neg c5] at H
     exact absurd H (by simp)
   ·
    rw [if_neg c4] at H
    have c4b0 : decide (x11_1 < (l0.length : Int)) = false := Df c4
    clear c4
    obtain rfl := Option.some.inj H
    go_wp2
    go_ret
    exact ⟨by first | rfl | (simp; done) | (simp [*]; done), by repeat (first | exact Drawn0.refl _ | apply Drawn0.step)⟩
def spec_deHas.f (a0 : Int) (a1 : Int) : Option (Bool) := if 0 ≤ a1 then (some ((Int.tmod (shr .i64 a0 a1) 2) == 1)) else (none)
set_option maxHeartbeats 8000000 in
set_option maxRecDepth 100000 in
theorem spec_deHas.calls (a0 : Int) (a1 : Int) (r : Bool) (w : World) (h : spec_deHas.f a0 a1 = some r) :
  Calls Try.prog 71 #[.int .i64 a0, .int .i64 a1] w fun e w' => e = .returned (.bool r) ∧ Drawn0 w w' := by
 have H : (if 0 ≤ a1 then (some ((Int.tmod (shr .i64 a0 a1) 2) == 1)) else (none)) = some r := h
 clear h
 by_cases c3 : 0 ≤ a1
 ·
  rw [if_pos c3] at H
  have c3b0 := eq_true c3
  have c3b1 : decide (0 ≤ a1) = true := De c3
  clear c3
  obtain ⟨ji4, hji4⟩ : ∃ j_ : Int, (shr .i64 a0 a1) = j_ := ⟨_, rfl⟩
  replace H : (some ((Int.tmod (ji4) 2) == 1)) = some r := by first | (rw [hji4] at H; exact H) | (simp only [hji4] at H ⊢; exact H)
  have hji4_ : (a0 / 2 ^ min a1.toNat 64) = ji4 := hji4
  have hji4z : a1 ≤ 64 → (a0 / 2 ^ a1.toNat) = ji4 := shr_small hji4
  obtain rfl := Option.some.inj H
  go_enter Try.func71, Try.ntmps71
  go_wp2
  go_ret
  exact ⟨by first | rfl | (simp; done) | (simp only [← hji4] <;> (first | rfl | simp)) | (simp [*]; done), by repeat (first | exact Drawn0.refl _ | apply Drawn0.step)⟩
 ·
  rw [if_neg c3] at H
  exact absurd H (by simp)
end Go.Proofs.Ytcheoendfcgjgaa.P
