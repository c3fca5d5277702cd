/- Parts: contracts and plain lemmas for the law FnOrdersAndKings, part 6 of 7 (what the Go functions answer). -/
import Derived.Laws.BitsLemmas
import Derived.Test.YtcheoendfcgjgaaDoorCFnOrdersAndKingsa
import Derived.Test.YtcheoendfcgjgaaDoorCFnOrdersAndKingsb
import Derived.Test.YtcheoendfcgjgaaDoorCFnOrdersAndKingsc
import Derived.Test.YtcheoendfcgjgaaDoorCFnOrdersAndKingsd
import Derived.Test.YtcheoendfcgjgaaDoorCFnOrdersAndKingse
set_option linter.unusedVariables false
set_option linter.unusedSimpArgs false
namespace Go.Proofs.YtcheoendfcgjgaaDoor.P
open Go.RowKit Go.Proofs.YtcheoendfcgjgaaDoorW.PrintWords Go.Proofs.YtcheoendfcgjgaaDoorW.PrintLast Go.Proofs.YtcheoendfcgjgaaDoorW.PrintMore
attribute [local go_sem] max2_int min2_int max_two min_two max_three min_three max_four min_four
mutual
def laws_FnOrdersAndKings.j0 : Nat → List Int → Bool → List Int → Bool → Int → List Int → Int → List Int → Option (Bool)
 | 0, _, _, _, _, _, _, _, _ => none
 | k + 1, x6, x7, x10, x110, x301000, x301001, x323000, x323001 => if x110 = true then (some false) else (if x7 = true then (if (x6.length : Int) = x301000 then (if (x10.length : Int) = 0 then (laws_FnOrdersAndKings.j1 k x6 x10 true x301000 x301001 x323000 x323001) else (laws_FnOrdersAndKings.j1 k x6 x10 ((x10.length : Int) == 2) x301000 x301001 x323000 x323001)) else (laws_FnOrdersAndKings.j1 k x6 x10 true x301000 x301001 x323000 x323001)) else (some true))
def laws_FnOrdersAndKings.j1 : Nat → List Int → List Int → Bool → Int → List Int → Int → List Int → Option (Bool)
 | 0, _, _, _, _, _, _, _ => none
 | k + 1, x6, x10, x127, x301000, x301001, x323000, x323001 => if x127 = true then (some false) else (laws_FnOrdersAndKings.l0 k x6 x10 x6 (x6.length : Int) 0 x301000 x301001 x323000 x323001)
def laws_FnOrdersAndKings.l0 : Nat → List Int → List Int → List Int → Int → Int → Int → List Int → Int → List Int → Option (Bool)
 | 0, _, _, _, _, _, _, _, _, _ => none
 | k + 1, x6, x10, x128, x129, x130, x301000, x301001, x323000, x323001 => if x130 < x129 then (if 0 ≤ x130 then (if x130 < (x128.length : Int) then (if x130 ≤ (x6.length : Int) then ((laws_yHas.f k (x6.take (x130 : Int).toNat) (rd x128 x130)).bind fun t338 => (if t338 = true then (some false) else (if x130 > 0 then (if 0 ≤ (wrap64 (x130 - 1)) then (if (wrap64 (x130 - 1)) < (x6.length : Int) then (if 0 ≤ (rd x6 (wrap64 (x130 - 1))) then (if (rd x6 (wrap64 (x130 - 1))) < (x301001.length : Int) then ((laws_yIn.f (rd x301001 (rd x6 (wrap64 (x130 - 1)))) (rd x128 x130)).bind fun t341 => (if t341 = true then (laws_FnOrdersAndKings.l0 k x6 x10 x128 x129 (wrap64 (x130 + 1)) x301000 x301001 x323000 x323001) else (some false))) else (none)) else (none)) else (none)) else (none)) else (laws_FnOrdersAndKings.l0 k x6 x10 x128 x129 (wrap64 (x130 + 1)) x301000 x301001 x323000 x323001)))) else (none)) else (none)) else (none)) else ((impl_ScoresOf.f k x301000 x301001).bind fun bt342 => ((impl_ScoresOf.f k x323000 x323001).bind fun bt346 => ((impl_MirrorTournament.f k x323000 x323001).bind fun bt350 => (if bt342.2 = true then (if bt346.2 = true then (if bt350.2.2 = true then ((laws_yTournament.f k bt350.1 bt350.2.1 x301000 x301001).bind fun t356 => (laws_FnOrdersAndKings.j3 k x10 bt342.1 bt346.1 (!t356) x301000 x301001)) else (laws_FnOrdersAndKings.j3 k x10 bt342.1 bt346.1 true x301000 x301001)) else (laws_FnOrdersAndKings.j3 k x10 bt342.1 bt346.1 true x301000 x301001)) else (laws_FnOrdersAndKings.j3 k x10 bt342.1 bt346.1 true x301000 x301001)))))
def laws_FnOrdersAndKings.j3 : Nat → List Int → List Int → List Int → Bool → Int → List Int → Option (Bool)
 | 0, _, _, _, _, _, _ => none
 | k + 1, x10, x20, x22, x189, x301000, x301001 => if x189 = true then (some false) else (laws_FnOrdersAndKings.l1 k x10 x20 x22 0 x20 (x20.length : Int) 0 x301000 x301001)
def laws_FnOrdersAndKings.l1 : Nat → List Int → List Int → List Int → Int → List Int → Int → Int → Int → List Int → Option (Bool)
 | 0, _, _, _, _, _, _, _, _, _ => none
 | k + 1, x10, x20, x22, x26, x190, x191, x192, x301000, x301001 => if x192 < x191 then (if 0 ≤ x192 then (if x192 < (x190.length : Int) then (if x192 < (x22.length : Int) then (if (wrap64 ((rd x190 x192) + (rd x22 x192))) = (wrap64 (x301000 - 1)) then (if 0 ≤ x26 then (if x26 < (x20.length : Int) then (if (rd x190 x192) > (rd x20 x26) then (laws_FnOrdersAndKings.l1 k x10 x20 x22 x192 x190 x191 (wrap64 (x192 + 1)) x301000 x301001) else (laws_FnOrdersAndKings.l1 k x10 x20 x22 x26 x190 x191 (wrap64 (x192 + 1)) x301000 x301001)) else (none)) else (none)) else (some false)) else (none)) else (none)) else (none)) else ((laws_yHas.f k x10 x26).bind fun t357 => (some t357))
end
def laws_FnOrdersAndKings.f (k : Nat) (l0 : List Int) (l1 : List Int) : Option (Bool) := (laws_big.f l0 l1).bind fun t295 => (if t295 = true then (some true) else ((spec_DrawFirstOrder.f k l0).bind fun bt296 => ((impl_FirstOrder.f k bt296.1 bt296.2).bind fun bt301 => ((spec_FirstOrder.f k bt296.1 bt296.2).bind fun bt305 => ((impl_KingsOf.f k bt296.1 bt296.2).bind fun bt309 => ((spec_KingsOf.f k bt296.1 bt296.2).bind fun bt313 => ((impl_MirrorTournament.f k bt296.1 bt296.2).bind fun bt317 => ((spec_MirrorTournament.f k bt296.1 bt296.2).bind fun bt323 => (if (bt301.2 != bt305.2) = true then (laws_FnOrdersAndKings.j0 k bt301.1 bt301.2 bt309.1 true bt296.1 bt296.2 bt317.1 bt317.2.1) else ((laws_ySame.f k bt301.1 bt305.1).bind fun t329 => (if t329 = true then (if (bt309.2 != bt313.2) = true then (laws_FnOrdersAndKings.j0 k bt301.1 bt301.2 bt309.1 true bt296.1 bt296.2 bt317.1 bt317.2.1) else ((laws_ySame.f k bt309.1 bt313.1).bind fun t330 => (if t330 = true then (if (bt317.2.2 != bt323.2.2) = true then (laws_FnOrdersAndKings.j0 k bt301.1 bt301.2 bt309.1 true bt296.1 bt296.2 bt317.1 bt317.2.1) else ((laws_yTournament.f k bt317.1 bt317.2.1 bt323.1 bt323.2.1).bind fun t331 => (if t331 = true then (if (bt309.2 != bt301.2) = true then (laws_FnOrdersAndKings.j0 k bt301.1 bt301.2 bt309.1 true bt296.1 bt296.2 bt317.1 bt317.2.1) else (if (bt317.2.2 != bt301.2) = true then (laws_FnOrdersAndKings.j0 k bt301.1 bt301.2 bt309.1 true bt296.1 bt296.2 bt317.1 bt317.2.1) else ((impl_IsTournament.f k bt296.1 bt296.2).bind fun t332 => (laws_FnOrdersAndKings.j0 k bt301.1 bt301.2 bt309.1 (bt301.2 != t332) bt296.1 bt296.2 bt317.1 bt317.2.1)))) else (laws_FnOrdersAndKings.j0 k bt301.1 bt301.2 bt309.1 true bt296.1 bt296.2 bt317.1 bt317.2.1)))) else (laws_FnOrdersAndKings.j0 k bt301.1 bt301.2 bt309.1 true bt296.1 bt296.2 bt317.1 bt317.2.1)))) else (laws_FnOrdersAndKings.j0 k bt301.1 bt301.2 bt309.1 true bt296.1 bt296.2 bt317.1 bt317.2.1))))))))))))
theorem laws_FnOrdersAndKings.mono_l : ∀ k, (∀ y0 y1 y2 y3 y4 y5 y6 y7, LeO (laws_FnOrdersAndKings.j0 k y0 y1 y2 y3 y4 y5 y6 y7) (laws_FnOrdersAndKings.j0 (k + 1) y0 y1 y2 y3 y4 y5 y6 y7)) ∧ (∀ y0 y1 y2 y3 y4 y5 y6, LeO (laws_FnOrdersAndKings.j1 k y0 y1 y2 y3 y4 y5 y6) (laws_FnOrdersAndKings.j1 (k + 1) y0 y1 y2 y3 y4 y5 y6)) ∧ (∀ y0 y1 y2 y3 y4 y5 y6 y7 y8, LeO (laws_FnOrdersAndKings.l0 k y0 y1 y2 y3 y4 y5 y6 y7 y8) (laws_FnOrdersAndKings.l0 (k + 1) y0 y1 y2 y3 y4 y5 y6 y7 y8)) ∧ (∀ y0 y1 y2 y3 y4 y5, LeO (laws_FnOrdersAndKings.j3 k y0 y1 y2 y3 y4 y5) (laws_FnOrdersAndKings.j3 (k + 1) y0 y1 y2 y3 y4 y5)) ∧ (∀ y0 y1 y2 y3 y4 y5 y6 y7 y8, LeO (laws_FnOrdersAndKings.l1 k y0 y1 y2 y3 y4 y5 y6 y7 y8) (laws_FnOrdersAndKings.l1 (k + 1) y0 y1 y2 y3 y4 y5 y6 y7 y8))
 | 0 => ⟨fun _ _ _ _ _ _ _ _ r h => by simp [laws_FnOrdersAndKings.j0] at h, fun _ _ _ _ _ _ _ r h => by simp [laws_FnOrdersAndKings.j1] at h, fun _ _ _ _ _ _ _ _ _ r h => by simp [laws_FnOrdersAndKings.l0] at h, fun _ _ _ _ _ _ r h => by simp [laws_FnOrdersAndKings.j3] at h, fun _ _ _ _ _ _ _ _ _ r h => by simp [laws_FnOrdersAndKings.l1] at h⟩
 | k + 1 => by
  obtain ⟨ih0, ih1, ih2, ih3, ih4⟩ := laws_FnOrdersAndKings.mono_l k
  refine ⟨?_, ?_, ?_, ?_, ?_⟩
  ·
   intro y0 y1 y2 y3 y4 y5 y6 y7
   unfold laws_FnOrdersAndKings.j0
   repeat' first
   | (with_reducible exact ih1 _ _ _ _ _ _ _)
   | (with_reducible exact LeO.refl _)
   | (with_reducible refine LeO.ite ?_ ?_)
  ·
   intro y0 y1 y2 y3 y4 y5 y6
   unfold laws_FnOrdersAndKings.j1
   repeat' first
   | (with_reducible exact ih2 _ _ _ _ _ _ _ _ _)
   | (with_reducible exact LeO.refl _)
   | (with_reducible refine LeO.ite ?_ ?_)
  ·
   intro y0 y1 y2 y3 y4 y5 y6 y7 y8
   unfold laws_FnOrdersAndKings.l0
   repeat' first
   | (with_reducible exact ih2 _ _ _ _ _ _ _ _ _)
   | (with_reducible exact ih3 _ _ _ _ _ _)
   | (with_reducible exact impl_MirrorTournament.mono _ _ _)
   | (with_reducible exact impl_ScoresOf.mono _ _ _)
   | (with_reducible exact laws_yHas.mono _ _ _)
   | (with_reducible exact laws_yTournament.mono _ _ _ _ _)
   | (with_reducible exact LeO.refl _)
   | (with_reducible refine LeO.ite ?_ ?_)
   | (with_reducible refine LeO.bind ?_ (fun _ => ?_))
  ·
   intro y0 y1 y2 y3 y4 y5
   unfold laws_FnOrdersAndKings.j3
   repeat' first
   | (with_reducible exact ih4 _ _ _ _ _ _ _ _ _)
   | (with_reducible exact LeO.refl _)
   | (with_reducible refine LeO.ite ?_ ?_)
  ·
   intro y0 y1 y2 y3 y4 y5 y6 y7 y8
   unfold laws_FnOrdersAndKings.l1
   repeat' first
   | (with_reducible exact ih4 _ _ _ _ _ _ _ _ _)
   | (with_reducible exact laws_yHas.mono _ _ _)
   | (with_reducible exact LeO.refl _)
   | (with_reducible refine LeO.ite ?_ ?_)
   | (with_reducible refine LeO.bind ?_ (fun _ => ?_))
theorem laws_FnOrdersAndKings.mono : ∀ a0 a1 k, LeO (laws_FnOrdersAndKings.f k a0 a1) (laws_FnOrdersAndKings.f (k + 1) a0 a1) := by
 intro a0 a1 k
 obtain ⟨ih0, ih1, ih2, ih3, ih4⟩ := laws_FnOrdersAndKings.mono_l k
 unfold laws_FnOrdersAndKings.f
 repeat' first
   | (with_reducible exact ih0 _ _ _ _ _ _ _ _)
   | (with_reducible exact impl_FirstOrder.mono _ _ _)
   | (with_reducible exact impl_IsTournament.mono _ _ _)
   | (with_reducible exact impl_KingsOf.mono _ _ _)
   | (with_reducible exact impl_MirrorTournament.mono _ _ _)
   | (with_reducible exact laws_ySame.mono _ _ _)
   | (with_reducible exact laws_yTournament.mono _ _ _ _ _)
   | (with_reducible exact spec_DrawFirstOrder.mono _ _)
   | (with_reducible exact spec_FirstOrder.mono _ _ _)
   | (with_reducible exact spec_KingsOf.mono _ _ _)
   | (with_reducible exact spec_MirrorTournament.mono _ _ _)
   | (with_reducible exact LeO.refl _)
   | (with_reducible refine LeO.ite ?_ ?_)
   | (with_reducible refine LeO.bind ?_ (fun _ => ?_))
set_option maxHeartbeats 8000000 in
set_option maxRecDepth 100000 in
theorem laws_FnOrdersAndKings.calls (k : Nat) (A0 : Option Addr) (c0 : Nat) (l0 : List Int) (A1 : Option Addr) (c1 : Nat) (l1 : List Int) (r : Bool) (w : World) (hT : K.TabOK w) (hr0 : Kd.C (Kd.int .u8) w A0 l0.length l0) (hc0 : l0.length ≤ c0) (hr1 : Kd.C (Kd.int .u8) w A1 l1.length l1) (hc1 : l1.length ≤ c1) (h : laws_FnOrdersAndKings.f k l0 l1 = some r) :
  Calls Tryd.prog 3 #[.slice A0 l0.length c0, .slice A1 l1.length c1] w fun e w' => e = .returned (.bool r) ∧ Below w.heap.size w w' := by
 have HT := Aside0.mk hT
 clear hT
 have hu26 := Tryd.underlying26
 have HR0 := Aside0.mk hr0
 have HC0 := Aside0.mk hc0
 clear hr0 hc0
 have HR1 := Aside0.mk hr1
 have HC1 := Aside0.mk hc1
 clear hr1 hc1
 have HB := Aside0.mk (Below.refl w.heap.size w)
 have H : ((laws_big.f l0 l1).bind fun t295 => (if t295 = true then (some true) else ((spec_DrawFirstOrder.f k l0).bind fun bt296 => ((impl_FirstOrder.f k bt296.1 bt296.2).bind fun bt301 => ((spec_FirstOrder.f k bt296.1 bt296.2).bind fun bt305 => ((impl_KingsOf.f k bt296.1 bt296.2).bind fun bt309 => ((spec_KingsOf.f k bt296.1 bt296.2).bind fun bt313 => ((impl_MirrorTournament.f k bt296.1 bt296.2).bind fun bt317 => ((spec_MirrorTournament.f k bt296.1 bt296.2).bind fun bt323 => (if (bt301.2 != bt305.2) = true then (laws_FnOrdersAndKings.j0 k bt301.1 bt301.2 bt309.1 true bt296.1 bt296.2 bt317.1 bt317.2.1) else ((laws_ySame.f k bt301.1 bt305.1).bind fun t329 => (if t329 = true then (if (bt309.2 != bt313.2) = true then (laws_FnOrdersAndKings.j0 k bt301.1 bt301.2 bt309.1 true bt296.1 bt296.2 bt317.1 bt317.2.1) else ((laws_ySame.f k bt309.1 bt313.1).bind fun t330 => (if t330 = true then (if (bt317.2.2 != bt323.2.2) = true then (laws_FnOrdersAndKings.j0 k bt301.1 bt301.2 bt309.1 true bt296.1 bt296.2 bt317.1 bt317.2.1) else ((laws_yTournament.f k bt317.1 bt317.2.1 bt323.1 bt323.2.1).bind fun t331 => (if t331 = true then (if (bt309.2 != bt301.2) = true then (laws_FnOrdersAndKings.j0 k bt301.1 bt301.2 bt309.1 true bt296.1 bt296.2 bt317.1 bt317.2.1) else (if (bt317.2.2 != bt301.2) = true then (laws_FnOrdersAndKings.j0 k bt301.1 bt301.2 bt309.1 true bt296.1 bt296.2 bt317.1 bt317.2.1) else ((impl_IsTournament.f k bt296.1 bt296.2).bind fun t332 => (laws_FnOrdersAndKings.j0 k bt301.1 bt301.2 bt309.1 (bt301.2 != t332) bt296.1 bt296.2 bt317.1 bt317.2.1)))) else (laws_FnOrdersAndKings.j0 k bt301.1 bt301.2 bt309.1 true bt296.1 bt296.2 bt317.1 bt317.2.1)))) else (laws_FnOrdersAndKings.j0 k bt301.1 bt301.2 bt309.1 true bt296.1 bt296.2 bt317.1 bt317.2.1)))) else (laws_FnOrdersAndKings.j0 k bt301.1 bt301.2 bt309.1 true bt296.1 bt296.2 bt317.1 bt317.2.1))))))))))))) = some r := h
 clear h
 replace H := Option.bind_eq_some_iff.mp H
 obtain ⟨t295, A30, H⟩ := H
 replace H : (if t295 = true then (some true) else ((spec_DrawFirstOrder.f k l0).bind fun bt296 => ((impl_FirstOrder.f k bt296.1 bt296.2).bind fun bt301 => ((spec_FirstOrder.f k bt296.1 bt296.2).bind fun bt305 => ((impl_KingsOf.f k bt296.1 bt296.2).bind fun bt309 => ((spec_KingsOf.f k bt296.1 bt296.2).bind fun bt313 => ((impl_MirrorTournament.f k bt296.1 bt296.2).bind fun bt317 => ((spec_MirrorTournament.f k bt296.1 bt296.2).bind fun bt323 => (if (bt301.2 != bt305.2) = true then (laws_FnOrdersAndKings.j0 k bt301.1 bt301.2 bt309.1 true bt296.1 bt296.2 bt317.1 bt317.2.1) else ((laws_ySame.f k bt301.1 bt305.1).bind fun t329 => (if t329 = true then (if (bt309.2 != bt313.2) = true then (laws_FnOrdersAndKings.j0 k bt301.1 bt301.2 bt309.1 true bt296.1 bt296.2 bt317.1 bt317.2.1) else ((laws_ySame.f k bt309.1 bt313.1).bind fun t330 => (if t330 = true then (if (bt317.2.2 != bt323.2.2) = true then (laws_FnOrdersAndKings.j0 k bt301.1 bt301.2 bt309.1 true bt296.1 bt296.2 bt317.1 bt317.2.1) else ((laws_yTournament.f k bt317.1 bt317.2.1 bt323.1 bt323.2.1).bind fun t331 => (if t331 = true then (if (bt309.2 != bt301.2) = true then (laws_FnOrdersAndKings.j0 k bt301.1 bt301.2 bt309.1 true bt296.1 bt296.2 bt317.1 bt317.2.1) else (if (bt317.2.2 != bt301.2) = true then (laws_FnOrdersAndKings.j0 k bt301.1 bt301.2 bt309.1 true bt296.1 bt296.2 bt317.1 bt317.2.1) else ((impl_IsTournament.f k bt296.1 bt296.2).bind fun t332 => (laws_FnOrdersAndKings.j0 k bt301.1 bt301.2 bt309.1 (bt301.2 != t332) bt296.1 bt296.2 bt317.1 bt317.2.1)))) else (laws_FnOrdersAndKings.j0 k bt301.1 bt301.2 bt309.1 true bt296.1 bt296.2 bt317.1 bt317.2.1)))) else (laws_FnOrdersAndKings.j0 k bt301.1 bt301.2 bt309.1 true bt296.1 bt296.2 bt317.1 bt317.2.1)))) else (laws_FnOrdersAndKings.j0 k bt301.1 bt301.2 bt309.1 true bt296.1 bt296.2 bt317.1 bt317.2.1)))))))))))) = some r := H
 have A3 := Aside0.mk A30
 clear A30
 by_cases c4 : t295 = true
 ·
  subst c4
  have H1 : (some true) = some r := by rw [if_pos rfl] at H; exact H
  clear H
  have H := H1
  clear H1
  obtain rfl := Option.some.inj H
  go_enter Tryd.func3, Tryd.ntmps3
  go_wp2_with ((go_at_call 5; (with_reducible refine (laws_big.calls _ _ l0 _ _ l1 true _ ?side1 ?side2 ?side3 ?side4 A3.out).mono ?_); (case side1 => repeat (exact HR0.out)); (case side2 => exact HC0.out); (case side3 => repeat (exact HR1.out)); (case side4 => exact HC1.out); rintro e w' ⟨rfl, ⟨nd, rfl⟩⟩; (skip)))
  repeat (go_quiet (fail); try go_wp2_with (fail))
  go_ret
  exact ⟨by first | rfl | (simp [errW_none, errW_some] <;> rfl) | (simp [*, errW_none, errW_some] <;> rfl), by repeat ((with_reducible first | exact HB.out | apply pw_below_drewN))⟩
 ·
  replace c4 := Bool.eq_false_iff.mpr c4
  subst c4
  have H1 : ((spec_DrawFirstOrder.f k l0).bind fun bt296 => ((impl_FirstOrder.f k bt296.1 bt296.2).bind fun bt301 => ((spec_FirstOrder.f k bt296.1 bt296.2).bind fun bt305 => ((impl_KingsOf.f k bt296.1 bt296.2).bind fun bt309 => ((spec_KingsOf.f k bt296.1 bt296.2).bind fun bt313 => ((impl_MirrorTournament.f k bt296.1 bt296.2).bind fun bt317 => ((spec_MirrorTournament.f k bt296.1 bt296.2).bind fun bt323 => (if (bt301.2 != bt305.2) = true then (laws_FnOrdersAndKings.j0 k bt301.1 bt301.2 bt309.1 true bt296.1 bt296.2 bt317.1 bt317.2.1) else ((laws_ySame.f k bt301.1 bt305.1).bind fun t329 => (if t329 = true then (if (bt309.2 != bt313.2) = true then (laws_FnOrdersAndKings.j0 k bt301.1 bt301.2 bt309.1 true bt296.1 bt296.2 bt317.1 bt317.2.1) else ((laws_ySame.f k bt309.1 bt313.1).bind fun t330 => (if t330 = true then (if (bt317.2.2 != bt323.2.2) = true then (laws_FnOrdersAndKings.j0 k bt301.1 bt301.2 bt309.1 true bt296.1 bt296.2 bt317.1 bt317.2.1) else ((laws_yTournament.f k bt317.1 bt317.2.1 bt323.1 bt323.2.1).bind fun t331 => (if t331 = true then (if (bt309.2 != bt301.2) = true then (laws_FnOrdersAndKings.j0 k bt301.1 bt301.2 bt309.1 true bt296.1 bt296.2 bt317.1 bt317.2.1) else (if (bt317.2.2 != bt301.2) = true then (laws_FnOrdersAndKings.j0 k bt301.1 bt301.2 bt309.1 true bt296.1 bt296.2 bt317.1 bt317.2.1) else ((impl_IsTournament.f k bt296.1 bt296.2).bind fun t332 => (laws_FnOrdersAndKings.j0 k bt301.1 bt301.2 bt309.1 (bt301.2 != t332) bt296.1 bt296.2 bt317.1 bt317.2.1)))) else (laws_FnOrdersAndKings.j0 k bt301.1 bt301.2 bt309.1 true bt296.1 bt296.2 bt317.1 bt317.2.1)))) else (laws_FnOrdersAndKings.j0 k bt301.1 bt301.2 bt309.1 true bt296.1 bt296.2 bt317.1 bt317.2.1)))) else (laws_FnOrdersAndKings.j0 k bt301.1 bt301.2 bt309.1 true bt296.1 bt296.2 bt317.1 bt317.2.1))))))))))) = some r := by rw [if_neg (show ¬ (false = true) by decide)] at H; exact H
  clear H
  have H := H1
  clear H1
  replace H := Option.bind_eq_some_iff.mp H
  obtain ⟨⟨t296, t297⟩, A50, H⟩ := H
  replace H : ((impl_FirstOrder.f k t296 t297).bind fun bt301 => ((spec_FirstOrder.f k t296 t297).bind fun bt305 => ((impl_KingsOf.f k t296 t297).bind fun bt309 => ((spec_KingsOf.f k t296 t297).bind fun bt313 => ((impl_MirrorTournament.f k t296 t297).bind fun bt317 => ((spec_MirrorTournament.f k t296 t297).bind fun bt323 => (if (bt301.2 != bt305.2) = true then (laws_FnOrdersAndKings.j0 k bt301.1 bt301.2 bt309.1 true t296 t297 bt317.1 bt317.2.1) else ((laws_ySame.f k bt301.1 bt305.1).bind fun t329 => (if t329 = true then (if (bt309.2 != bt313.2) = true then (laws_FnOrdersAndKings.j0 k bt301.1 bt301.2 bt309.1 true t296 t297 bt317.1 bt317.2.1) else ((laws_ySame.f k bt309.1 bt313.1).bind fun t330 => (if t330 = true then (if (bt317.2.2 != bt323.2.2) = true then (laws_FnOrdersAndKings.j0 k bt301.1 bt301.2 bt309.1 true t296 t297 bt317.1 bt317.2.1) else ((laws_yTournament.f k bt317.1 bt317.2.1 bt323.1 bt323.2.1).bind fun t331 => (if t331 = true then (if (bt309.2 != bt301.2) = true then (laws_FnOrdersAndKings.j0 k bt301.1 bt301.2 bt309.1 true t296 t297 bt317.1 bt317.2.1) else (if (bt317.2.2 != bt301.2) = true then (laws_FnOrdersAndKings.j0 k bt301.1 bt301.2 bt309.1 true t296 t297 bt317.1 bt317.2.1) else ((impl_IsTournament.f k t296 t297).bind fun t332 => (laws_FnOrdersAndKings.j0 k bt301.1 bt301.2 bt309.1 (bt301.2 != t332) t296 t297 bt317.1 bt317.2.1)))) else (laws_FnOrdersAndKings.j0 k bt301.1 bt301.2 bt309.1 true t296 t297 bt317.1 bt317.2.1)))) else (laws_FnOrdersAndKings.j0 k bt301.1 bt301.2 bt309.1 true t296 t297 bt317.1 bt317.2.1)))) else (laws_FnOrdersAndKings.j0 k bt301.1 bt301.2 bt309.1 true t296 t297 bt317.1 bt317.2.1)))))))))) = some r := H
  have A5 := Aside0.mk A50
  clear A50
  replace H := Option.bind_eq_some_iff.mp H
  obtain ⟨⟨t301, t304⟩, A60, H⟩ := H
  replace H : ((spec_FirstOrder.f k t296 t297).bind fun bt305 => ((impl_KingsOf.f k t296 t297).bind fun bt309 => ((spec_KingsOf.f k t296 t297).bind fun bt313 => ((impl_MirrorTournament.f k t296 t297).bind fun bt317 => ((spec_MirrorTournament.f k t296 t297).bind fun bt323 => (if (t304 != bt305.2) = true then (laws_FnOrdersAndKings.j0 k t301 t304 bt309.1 true t296 t297 bt317.1 bt317.2.1) else ((laws_ySame.f k t301 bt305.1).bind fun t329 => (if t329 = true then (if (bt309.2 != bt313.2) = true then (laws_FnOrdersAndKings.j0 k t301 t304 bt309.1 true t296 t297 bt317.1 bt317.2.1) else ((laws_ySame.f k bt309.1 bt313.1).bind fun t330 => (if t330 = true then (if (bt317.2.2 != bt323.2.2) = true then (laws_FnOrdersAndKings.j0 k t301 t304 bt309.1 true t296 t297 bt317.1 bt317.2.1) else ((laws_yTournament.f k bt317.1 bt317.2.1 bt323.1 bt323.2.1).bind fun t331 => (if t331 = true then (if (bt309.2 != t304) = true then (laws_FnOrdersAndKings.j0 k t301 t304 bt309.1 true t296 t297 bt317.1 bt317.2.1) else (if (bt317.2.2 != t304) = true then (laws_FnOrdersAndKings.j0 k t301 t304 bt309.1 true t296 t297 bt317.1 bt317.2.1) else ((impl_IsTournament.f k t296 t297).bind fun t332 => (laws_FnOrdersAndKings.j0 k t301 t304 bt309.1 (t304 != t332) t296 t297 bt317.1 bt317.2.1)))) else (laws_FnOrdersAndKings.j0 k t301 t304 bt309.1 true t296 t297 bt317.1 bt317.2.1)))) else (laws_FnOrdersAndKings.j0 k t301 t304 bt309.1 true t296 t297 bt317.1 bt317.2.1)))) else (laws_FnOrdersAndKings.j0 k t301 t304 bt309.1 true t296 t297 bt317.1 bt317.2.1))))))))) = some r := H
  have A6 := Aside0.mk A60
  clear A60
  replace H := Option.bind_eq_some_iff.mp H
  obtain ⟨⟨t305, t308⟩, A70, H⟩ := H
  replace H : ((impl_KingsOf.f k t296 t297).bind fun bt309 => ((spec_KingsOf.f k t296 t297).bind fun bt313 => ((impl_MirrorTournament.f k t296 t297).bind fun bt317 => ((spec_MirrorTournament.f k t296 t297).bind fun bt323 => (if (t304 != t308) = true then (laws_FnOrdersAndKings.j0 k t301 t304 bt309.1 true t296 t297 bt317.1 bt317.2.1) else ((laws_ySame.f k t301 t305).bind fun t329 => (if t329 = true then (if (bt309.2 != bt313.2) = true then (laws_FnOrdersAndKings.j0 k t301 t304 bt309.1 true t296 t297 bt317.1 bt317.2.1) else ((laws_ySame.f k bt309.1 bt313.1).bind fun t330 => (if t330 = true then (if (bt317.2.2 != bt323.2.2) = true then (laws_FnOrdersAndKings.j0 k t301 t304 bt309.1 true t296 t297 bt317.1 bt317.2.1) else ((laws_yTournament.f k bt317.1 bt317.2.1 bt323.1 bt323.2.1).bind fun t331 => (if t331 = true then (if (bt309.2 != t304) = true then (laws_FnOrdersAndKings.j0 k t301 t304 bt309.1 true t296 t297 bt317.1 bt317.2.1) else (if (bt317.2.2 != t304) = true then (laws_FnOrdersAndKings.j0 k t301 t304 bt309.1 true t296 t297 bt317.1 bt317.2.1) else ((impl_IsTournament.f k t296 t297).bind fun t332 => (laws_FnOrdersAndKings.j0 k t301 t304 bt309.1 (t304 != t332) t296 t297 bt317.1 bt317.2.1)))) else (laws_FnOrdersAndKings.j0 k t301 t304 bt309.1 true t296 t297 bt317.1 bt317.2.1)))) else (laws_FnOrdersAndKings.j0 k t301 t304 bt309.1 true t296 t297 bt317.1 bt317.2.1)))) else (laws_FnOrdersAndKings.j0 k t301 t304 bt309.1 true t296 t297 bt317.1 bt317.2.1)))))))) = some r := H
  have A7 := Aside0.mk A70
  clear A70
  replace H := Option.bind_eq_some_iff.mp H
  obtain ⟨⟨t309, t312⟩, A80, H⟩ := H
  replace H : ((spec_KingsOf.f k t296 t297).bind fun bt313 => ((impl_MirrorTournament.f k t296 t297).bind fun bt317 => ((spec_MirrorTournament.f k t296 t297).bind fun bt323 => (if (t304 != t308) = true then (laws_FnOrdersAndKings.j0 k t301 t304 t309 true t296 t297 bt317.1 bt317.2.1) else ((laws_ySame.f k t301 t305).bind fun t329 => (if t329 = true then (if (t312 != bt313.2) = true then (laws_FnOrdersAndKings.j0 k t301 t304 t309 true t296 t297 bt317.1 bt317.2.1) else ((laws_ySame.f k t309 bt313.1).bind fun t330 => (if t330 = true then (if (bt317.2.2 != bt323.2.2) = true then (laws_FnOrdersAndKings.j0 k t301 t304 t309 true t296 t297 bt317.1 bt317.2.1) else ((laws_yTournament.f k bt317.1 bt317.2.1 bt323.1 bt323.2.1).bind fun t331 => (if t331 = true then (if (t312 != t304) = true then (laws_FnOrdersAndKings.j0 k t301 t304 t309 true t296 t297 bt317.1 bt317.2.1) else (if (bt317.2.2 != t304) = true then (laws_FnOrdersAndKings.j0 k t301 t304 t309 true t296 t297 bt317.1 bt317.2.1) else ((impl_IsTournament.f k t296 t297).bind fun t332 => (laws_FnOrdersAndKings.j0 k t301 t304 t309 (t304 != t332) t296 t297 bt317.1 bt317.2.1)))) else (laws_FnOrdersAndKings.j0 k t301 t304 t309 true t296 t297 bt317.1 bt317.2.1)))) else (laws_FnOrdersAndKings.j0 k t301 t304 t309 true t296 t297 bt317.1 bt317.2.1)))) else (laws_FnOrdersAndKings.j0 k t301 t304 t309 true t296 t297 bt317.1 bt317.2.1))))))) = some r := H
  have A8 := Aside0.mk A80
  clear A80
  replace H := Option.bind_eq_some_iff.mp H
  obtain ⟨⟨t313, t316⟩, A90, H⟩ := H
  replace H : ((impl_MirrorTournament.f k t296 t297).bind fun bt317 => ((spec_MirrorTournament.f k t296 t297).bind fun bt323 => (if (t304 != t308) = true then (laws_FnOrdersAndKings.j0 k t301 t304 t309 true t296 t297 bt317.1 bt317.2.1) else ((laws_ySame.f k t301 t305).bind fun t329 => (if t329 = true then (if (t312 != t316) = true then (laws_FnOrdersAndKings.j0 k t301 t304 t309 true t296 t297 bt317.1 bt317.2.1) else ((laws_ySame.f k t309 t313).bind fun t330 => (if t330 = true then (if (bt317.2.2 != bt323.2.2) = true then (laws_FnOrdersAndKings.j0 k t301 t304 t309 true t296 t297 bt317.1 bt317.2.1) else ((laws_yTournament.f k bt317.1 bt317.2.1 bt323.1 bt323.2.1).bind fun t331 => (if t331 = true then (if (t312 != t304) = true then (laws_FnOrdersAndKings.j0 k t301 t304 t309 true t296 t297 bt317.1 bt317.2.1) else (if (bt317.2.2 != t304) = true then (laws_FnOrdersAndKings.j0 k t301 t304 t309 true t296 t297 bt317.1 bt317.2.1) else ((impl_IsTournament.f k t296 t297).bind fun t332 => (laws_FnOrdersAndKings.j0 k t301 t304 t309 (t304 != t332) t296 t297 bt317.1 bt317.2.1)))) else (laws_FnOrdersAndKings.j0 k t301 t304 t309 true t296 t297 bt317.1 bt317.2.1)))) else (laws_FnOrdersAndKings.j0 k t301 t304 t309 true t296 t297 bt317.1 bt317.2.1)))) else (laws_FnOrdersAndKings.j0 k t301 t304 t309 true t296 t297 bt317.1 bt317.2.1)))))) = some r := H
  have A9 := Aside0.mk A90
  clear A90
  replace H := Option.bind_eq_some_iff.mp H
  obtain ⟨⟨t317, t318, t321⟩, A100, H⟩ := H
  replace H : ((spec_MirrorTournament.f k t296 t297).bind fun bt323 => (if (t304 != t308) = true then (laws_FnOrdersAndKings.j0 k t301 t304 t309 true t296 t297 t317 t318) else ((laws_ySame.f k t301 t305).bind fun t329 => (if t329 = true then (if (t312 != t316) = true then (laws_FnOrdersAndKings.j0 k t301 t304 t309 true t296 t297 t317 t318) else ((laws_ySame.f k t309 t313).bind fun t330 => (if t330 = true then (if (t321 != bt323.2.2) = true then (laws_FnOrdersAndKings.j0 k t301 t304 t309 true t296 t297 t317 t318) else ((laws_yTournament.f k t317 t318 bt323.1 bt323.2.1).bind fun t331 => (if t331 = true then (if (t312 != t304) = true then (laws_FnOrdersAndKings.j0 k t301 t304 t309 true t296 t297 t317 t318) else (if (t321 != t304) = true then (laws_FnOrdersAndKings.j0 k t301 t304 t309 true t296 t297 t317 t318) else ((impl_IsTournament.f k t296 t297).bind fun t332 => (laws_FnOrdersAndKings.j0 k t301 t304 t309 (t304 != t332) t296 t297 t317 t318)))) else (laws_FnOrdersAndKings.j0 k t301 t304 t309 true t296 t297 t317 t318)))) else (laws_FnOrdersAndKings.j0 k t301 t304 t309 true t296 t297 t317 t318)))) else (laws_FnOrdersAndKings.j0 k t301 t304 t309 true t296 t297 t317 t318))))) = some r := H
  have A10 := Aside0.mk A100
  clear A100
  replace H := Option.bind_eq_some_iff.mp H
  obtain ⟨⟨t323, t324, t327⟩, A110, H⟩ := H
  replace H : (if (t304 != t308) = true then (laws_FnOrdersAndKings.j0 k t301 t304 t309 true t296 t297 t317 t318) else ((laws_ySame.f k t301 t305).bind fun t329 => (if t329 = true then (if (t312 != t316) = true then (laws_FnOrdersAndKings.j0 k t301 t304 t309 true t296 t297 t317 t318) else ((laws_ySame.f k t309 t313).bind fun t330 => (if t330 = true then (if (t321 != t327) = true then (laws_FnOrdersAndKings.j0 k t301 t304 t309 true t296 t297 t317 t318) else ((laws_yTournament.f k t317 t318 t323 t324).bind fun t331 => (if t331 = true then (if (t312 != t304) = true then (laws_FnOrdersAndKings.j0 k t301 t304 t309 true t296 t297 t317 t318) else (if (t321 != t304) = true then (laws_FnOrdersAndKings.j0 k t301 t304 t309 true t296 t297 t317 t318) else ((impl_IsTournament.f k t296 t297).bind fun t332 => (laws_FnOrdersAndKings.j0 k t301 t304 t309 (t304 != t332) t296 t297 t317 t318)))) else (laws_FnOrdersAndKings.j0 k t301 t304 t309 true t296 t297 t317 t318)))) else (laws_FnOrdersAndKings.j0 k t301 t304 t309 true t296 t297 t317 t318)))) else (laws_FnOrdersAndKings.j0 k t301 t304 t309 true t296 t297 t317 t318)))) = some r := H
  have A11 := Aside0.mk A110
  clear A110
  have HC12 := Aside0.mk H
  clear H
  go_enter Tryd.func3, Tryd.ntmps3
  go_upto_region 10 with (first | (go_at_call 5; (with_reducible refine (laws_big.calls _ _ l0 _ _ l1 false _ ?side1 ?side2 ?side3 ?side4 A3.out).mono ?_); (case side1 => repeat (exact HR0.out)); (case side2 => exact HC0.out); (case side3 => repeat (exact HR1.out)); (case side4 => exact HC1.out); rintro e w' ⟨rfl, ⟨nd, rfl⟩⟩; (skip)) | (go_at_call 6; (with_reducible refine (spec_DrawFirstOrder.calls k _ _ l0 t296 t297 _ ?side1 ?side2 A5.out).mono ?_); (case side1 => repeat (exact HR0.out)); (case side2 => exact HC0.out); rintro e w13 ⟨v298, rfl, ho0, hb⟩; have n0_ := Aside0.mk (Kd.R_lower ho0 (below_size (by repeat ((with_reducible first | exact HB.out | apply pw_below_drewN))))); have n1_ := Aside0.mk (below_step (by repeat ((with_reducible first | exact HB.out | apply pw_below_drewN))) hb); clear HB; have HO299 := n0_; have HB := n1_; clear n0_ n1_; (try clear hb); (try clear hb2); (try clear hk); (try clear hi); (try clear ho0)) | ((with_reducible refine gate_dst (N := 5) rfl ?_); (try (refine gate_guard (by rfl) ?_; dsimp only)); refine box_event ?hg (N := 5) ?hd (cs := #[.int .i64 0, .slice none 0 0]) (t := 26) ?hr ?_; (case hd => rfl); (case hg => rfl); (case hr => first | (go_simp; done) | (go_simp; rfl)); intro gb300 hg w14 hbox hb; have n0_ := Aside0.mk (Kd.R_below (by (with_reducible repeat (fail)); exact HO299.out) hb); have n1_ := Aside0.mk (below_step (by repeat ((with_reducible exact HB.out))) hb); have n2_ := Aside0.mk (hbox); have n3_ := Aside0.mk ((by rw [hg]; exact (below_size (by repeat ((with_reducible exact HB.out)))) : w.heap.size ≤ gb300)); have n4_ := Aside0.mk ((by rw [hg]; exact (below_size (by repeat ((with_reducible exact HB.out)))) : w.heap.size ≤ gb300)); clear HO299; clear HB; have HO299 := n0_; have HB := n1_; have BK300 := n2_; have GW300 := n3_; have GE300 := n4_; clear n0_ n1_ n2_ n3_ n4_; clear hb hbox hg; have hcz15_0 : w14.cell? ⟨gb300, 0, none⟩ = some (.int .i64 0) := (blk_cell BK300.out 0).trans rfl; have hcz15_1 : w14.cell? ⟨gb300, 1, none⟩ = some (.slice none 0 0) := (blk_cell BK300.out 1).trans rfl; have hfz15_0 := blk_frozen BK300.out 0; have hfz15_1 := blk_frozen BK300.out 1; obtain ⟨Ao16, co16, eo16⟩ := Kd.R_slice HO299.out; subst eo16) | (go_at_call 7; (with_reducible refine (impl_FirstOrder.calls k t296 _ _ t297 t301 t304 _ ?side1 ?side2 A6.out).mono ?_); (case side1 => refine (Kd.R_reads' (e := 3) (base := w.heap.size) (ok := fun k_ => True) (n := t297.length) (c := co16) ?_).2.2; exact (by (with_reducible repeat (fail)); exact (Kd.R_mono (Kd.R_far (p := ⟨gb300, 1, none⟩) (Kd.R_far (p := ⟨gb300, 0, none⟩) (Kd.R_types HO299.out BK300.out (by decide)) (fun _ hk => hk.2) (.int .i64 t296)) (fun _ hk => hk.2) (.slice Ao16 t297.length co16)) (fun _ h_ => h_.1)))); (case side2 => exact (Kd.R_reads' HO299.out).2.1); rintro e w17 ⟨v302, rfl, ho0, hb⟩; have n0_ := Aside0.mk (Kd.R_elder' (by (with_reducible repeat (fail)); exact (Kd.R_mono (Kd.R_far (p := ⟨gb300, 1, none⟩) (Kd.R_far (p := ⟨gb300, 0, none⟩) (Kd.R_types HO299.out BK300.out (by decide)) (fun _ hk => hk.2) (.int .i64 t296)) (fun _ hk => hk.2) (.slice Ao16 t297.length co16)) (fun _ h_ => h_.1))) (Kd.R_base ho0) hb); have n1_ := Aside0.mk (Kd.R_lower (Kd.R_new' ho0 (Kd.R_lt (by (with_reducible repeat (fail)); exact (Kd.R_mono (Kd.R_far (p := ⟨gb300, 1, none⟩) (Kd.R_far (p := ⟨gb300, 0, none⟩) (Kd.R_types HO299.out BK300.out (by decide)) (fun _ hk => hk.2) (.int .i64 t296)) (fun _ hk => hk.2) (.slice Ao16 t297.length co16)) (fun _ h_ => h_.1))))) (below_size (by repeat ((with_reducible first | exact HB.out | refine below_set ?_ GE300.out))))); have n2_ := Aside0.mk (blk_below (g := gb300) (o := .cells #[.int .i64 t296, .slice Ao16 t297.length co16] 26 (0, 0)) (by (with_reducible repeat (fail)); refine blk_put (cs := #[.int .i64 t296, .slice none 0 0]) ?_ 1 _ rfl; (with_reducible repeat (fail)); refine blk_put (cs := #[.int .i64 0, .slice none 0 0]) ?_ 0 _ rfl; (with_reducible repeat (fail)); exact BK300.out) hb); have n3_ := Aside0.mk (below_step (by repeat ((with_reducible first | exact HB.out | refine below_set ?_ GE300.out))) hb); clear HO299; clear BK300; clear HB; have HO299 := n0_; have HO303 := n1_; have BK300 := n2_; have HB := n3_; clear n0_ n1_ n2_ n3_; (try clear hb); (try clear hb2); (try clear hk); (try clear hi); (try clear ho0); have hcz18_0 : w17.cell? ⟨gb300, 0, none⟩ = some (.int .i64 t296) := (blk_cell BK300.out 0).trans rfl; have hcz18_1 : w17.cell? ⟨gb300, 1, none⟩ = some (.slice Ao16 t297.length co16) := (blk_cell BK300.out 1).trans rfl; have hfz18_0 := blk_frozen BK300.out 0; have hfz18_1 := blk_frozen BK300.out 1) | (go_at_call 8; (with_reducible refine (spec_FirstOrder.calls k t296 _ _ t297 t305 t308 _ ?side1 ?side2 A7.out).mono ?_); (case side1 => repeat (exact (Kd.R_reads' HO299.out).2.2)); (case side2 => exact (Kd.R_reads' HO299.out).2.1); rintro e w19 ⟨v306, rfl, ho0, hb⟩; have n0_ := Aside0.mk (Kd.R_elder' (by (with_reducible repeat (fail)); exact HO299.out) (Kd.R_base ho0) hb); have n1_ := Aside0.mk (Kd.R_elder' (by (with_reducible repeat (fail)); exact HO303.out) (Kd.R_base ho0) hb); have n2_ := Aside0.mk (Kd.R_lower (Kd.R_new' (Kd.R_new' ho0 (Kd.R_lt (by (with_reducible repeat (fail)); exact HO299.out))) (Kd.R_lt (by (with_reducible repeat (fail)); exact HO303.out))) (below_size (by repeat ((with_reducible exact HB.out))))); have n3_ := Aside0.mk (blk_below (g := gb300) (o := .cells #[.int .i64 t296, .slice Ao16 t297.length co16] 26 (0, 0)) (by (with_reducible repeat (fail)); exact BK300.out) hb); have n4_ := Aside0.mk (below_step (by repeat ((with_reducible exact HB.out))) hb); clear HO299; clear HO303; clear BK300; clear HB; have HO299 := n0_; have HO303 := n1_; have HO307 := n2_; have BK300 := n3_; have HB := n4_; clear n0_ n1_ n2_ n3_ n4_; (try clear hb); (try clear hb2); (try clear hk); (try clear hi); (try clear ho0); have hcz20_0 : w19.cell? ⟨gb300, 0, none⟩ = some (.int .i64 t296) := (blk_cell BK300.out 0).trans rfl; have hcz20_1 : w19.cell? ⟨gb300, 1, none⟩ = some (.slice Ao16 t297.length co16) := (blk_cell BK300.out 1).trans rfl; have hfz20_0 := blk_frozen BK300.out 0; have hfz20_1 := blk_frozen BK300.out 1) | (go_at_call 9; (with_reducible refine (impl_KingsOf.calls k t296 _ _ t297 t309 t312 _ ?sideT ?side1 ?side2 A8.out).mono ?_); (case sideT => exact HT.out.below (by repeat ((with_reducible exact HB.out)))); (case side1 => repeat (exact (Kd.R_reads' HO299.out).2.2)); (case side2 => exact (Kd.R_reads' HO299.out).2.1); rintro e w21 ⟨v310, rfl, ho0, hb⟩; have n0_ := Aside0.mk (Kd.R_elder' (by (with_reducible repeat (fail)); exact HO299.out) (Kd.R_base ho0) hb); have n1_ := Aside0.mk (Kd.R_elder' (by (with_reducible repeat (fail)); exact HO303.out) (Kd.R_base ho0) hb); have n2_ := Aside0.mk (Kd.R_elder' (by (with_reducible repeat (fail)); exact HO307.out) (Kd.R_base ho0) hb); have n3_ := Aside0.mk (Kd.R_lower (Kd.R_new' (Kd.R_new' (Kd.R_new' ho0 (Kd.R_lt (by (with_reducible repeat (fail)); exact HO299.out))) (Kd.R_lt (by (with_reducible repeat (fail)); exact HO303.out))) (Kd.R_lt (by (with_reducible repeat (fail)); exact HO307.out))) (below_size (by repeat ((with_reducible exact HB.out))))); have n4_ := Aside0.mk (blk_below (g := gb300) (o := .cells #[.int .i64 t296, .slice Ao16 t297.length co16] 26 (0, 0)) (by (with_reducible repeat (fail)); exact BK300.out) hb); have n5_ := Aside0.mk (below_step (by repeat ((with_reducible exact HB.out))) hb); clear HO299; clear HO303; clear HO307; clear BK300; clear HB; have HO299 := n0_; have HO303 := n1_; have HO307 := n2_; have HO311 := n3_; have BK300 := n4_; have HB := n5_; clear n0_ n1_ n2_ n3_ n4_ n5_; (try clear hb); (try clear hb2); (try clear hk); (try clear hi); (try clear ho0); have hcz22_0 : w21.cell? ⟨gb300, 0, none⟩ = some (.int .i64 t296) := (blk_cell BK300.out 0).trans rfl; have hcz22_1 : w21.cell? ⟨gb300, 1, none⟩ = some (.slice Ao16 t297.length co16) := (blk_cell BK300.out 1).trans rfl; have hfz22_0 := blk_frozen BK300.out 0; have hfz22_1 := blk_frozen BK300.out 1) | (go_at_call 10; (with_reducible refine (spec_KingsOf.calls k t296 _ _ t297 t313 t316 _ ?side1 ?side2 A9.out).mono ?_); (case side1 => repeat (exact (Kd.R_reads' HO299.out).2.2)); (case side2 => exact (Kd.R_reads' HO299.out).2.1); rintro e w23 ⟨v314, rfl, ho0, hb⟩; have n0_ := Aside0.mk (Kd.R_elder' (by (with_reducible repeat (fail)); exact HO299.out) (Kd.R_base ho0) hb); have n1_ := Aside0.mk (Kd.R_elder' (by (with_reducible repeat (fail)); exact HO303.out) (Kd.R_base ho0) hb); have n2_ := Aside0.mk (Kd.R_elder' (by (with_reducible repeat (fail)); exact HO307.out) (Kd.R_base ho0) hb); have n3_ := Aside0.mk (Kd.R_elder' (by (with_reducible repeat (fail)); exact HO311.out) (Kd.R_base ho0) hb); have n4_ := Aside0.mk (Kd.R_lower (Kd.R_new' (Kd.R_new' (Kd.R_new' (Kd.R_new' ho0 (Kd.R_lt (by (with_reducible repeat (fail)); exact HO299.out))) (Kd.R_lt (by (with_reducible repeat (fail)); exact HO303.out))) (Kd.R_lt (by (with_reducible repeat (fail)); exact HO307.out))) (Kd.R_lt (by (with_reducible repeat (fail)); exact HO311.out))) (below_size (by repeat ((with_reducible exact HB.out))))); have n5_ := Aside0.mk (blk_below (g := gb300) (o := .cells #[.int .i64 t296, .slice Ao16 t297.length co16] 26 (0, 0)) (by (with_reducible repeat (fail)); exact BK300.out) hb); have n6_ := Aside0.mk (below_step (by repeat ((with_reducible exact HB.out))) hb); clear HO299; clear HO303; clear HO307; clear HO311; clear BK300; clear HB; have HO299 := n0_; have HO303 := n1_; have HO307 := n2_; have HO311 := n3_; have HO315 := n4_; have BK300 := n5_; have HB := n6_; clear n0_ n1_ n2_ n3_ n4_ n5_ n6_; (try clear hb); (try clear hb2); (try clear hk); (try clear hi); (try clear ho0); have hcz24_0 : w23.cell? ⟨gb300, 0, none⟩ = some (.int .i64 t296) := (blk_cell BK300.out 0).trans rfl; have hcz24_1 : w23.cell? ⟨gb300, 1, none⟩ = some (.slice Ao16 t297.length co16) := (blk_cell BK300.out 1).trans rfl; have hfz24_0 := blk_frozen BK300.out 0; have hfz24_1 := blk_frozen BK300.out 1) | (go_at_call 11; (with_reducible refine (impl_MirrorTournament.calls k t296 _ _ t297 t317 t318 t321 _ ?side1 ?side2 A10.out).mono ?_); (case side1 => repeat (exact (Kd.R_reads' HO299.out).2.2)); (case side2 => exact (Kd.R_reads' HO299.out).2.1); rintro e w25 ⟨v319, rfl, ho0, hb⟩; have n0_ := Aside0.mk (Kd.R_elder' (by (with_reducible repeat (fail)); exact HO299.out) (Kd.R_base ho0) hb); have n1_ := Aside0.mk (Kd.R_elder' (by (with_reducible repeat (fail)); exact HO303.out) (Kd.R_base ho0) hb); have n2_ := Aside0.mk (Kd.R_elder' (by (with_reducible repeat (fail)); exact HO307.out) (Kd.R_base ho0) hb); have n3_ := Aside0.mk (Kd.R_elder' (by (with_reducible repeat (fail)); exact HO311.out) (Kd.R_base ho0) hb); have n4_ := Aside0.mk (Kd.R_elder' (by (with_reducible repeat (fail)); exact HO315.out) (Kd.R_base ho0) hb); have n5_ := Aside0.mk (Kd.R_lower (Kd.R_new' (Kd.R_new' (Kd.R_new' (Kd.R_new' (Kd.R_new' ho0 (Kd.R_lt (by (with_reducible repeat (fail)); exact HO299.out))) (Kd.R_lt (by (with_reducible repeat (fail)); exact HO303.out))) (Kd.R_lt (by (with_reducible repeat (fail)); exact HO307.out))) (Kd.R_lt (by (with_reducible repeat (fail)); exact HO311.out))) (Kd.R_lt (by (with_reducible repeat (fail)); exact HO315.out))) (below_size (by repeat ((with_reducible exact HB.out))))); have n6_ := Aside0.mk (blk_below (g := gb300) (o := .cells #[.int .i64 t296, .slice Ao16 t297.length co16] 26 (0, 0)) (by (with_reducible repeat (fail)); exact BK300.out) hb); have n7_ := Aside0.mk (below_step (by repeat ((with_reducible exact HB.out))) hb); clear HO299; clear HO303; clear HO307; clear HO311; clear HO315; clear BK300; clear HB; have HO299 := n0_; have HO303 := n1_; have HO307 := n2_; have HO311 := n3_; have HO315 := n4_; have HO320 := n5_; have BK300 := n6_; have HB := n7_; clear n0_ n1_ n2_ n3_ n4_ n5_ n6_ n7_; (try clear hb); (try clear hb2); (try clear hk); (try clear hi); (try clear ho0)) | ((with_reducible refine gate_dst (N := 14) rfl ?_); (try (refine gate_guard (by rfl) ?_; dsimp only)); refine box_event ?hg (N := 14) ?hd (cs := #[.int .i64 0, .slice none 0 0]) (t := 26) ?hr ?_; (case hd => rfl); (case hg => rfl); (case hr => first | (go_simp; done) | (go_simp; rfl)); intro gb322 hg w26 hbox hb; have n0_ := Aside0.mk (Kd.R_below (by (with_reducible repeat (fail)); exact HO299.out) hb); have n1_ := Aside0.mk (Kd.R_below (by (with_reducible repeat (fail)); exact HO303.out) hb); have n2_ := Aside0.mk (Kd.R_below (by (with_reducible repeat (fail)); exact HO307.out) hb); have n3_ := Aside0.mk (Kd.R_below (by (with_reducible repeat (fail)); exact HO311.out) hb); have n4_ := Aside0.mk (Kd.R_below (by (with_reducible repeat (fail)); exact HO315.out) hb); have n5_ := Aside0.mk (Kd.R_below (by (with_reducible repeat (fail)); exact HO320.out) hb); have n6_ := Aside0.mk (blk_below (g := gb300) (o := .cells #[.int .i64 t296, .slice Ao16 t297.length co16] 26 (0, 0)) (by (with_reducible repeat (fail)); exact BK300.out) hb); have n7_ := Aside0.mk (below_step (by repeat ((with_reducible exact HB.out))) hb); have n8_ := Aside0.mk (hbox); have n9_ := Aside0.mk ((by rw [hg]; exact (below_size (by repeat ((with_reducible exact HB.out)))) : w.heap.size ≤ gb322)); have n10_ := Aside0.mk ((by rw [hg]; exact (below_size (by repeat ((with_reducible exact HB.out)))) : w.heap.size ≤ gb322)); have n11_ := Aside0.mk ((by rw [hg]; exact Nat.ne_of_lt (blk_lt (g := gb300) (o := .cells #[.int .i64 t296, .slice Ao16 t297.length co16] 26 (0, 0)) (by (with_reducible repeat (fail)); exact BK300.out)) : gb300 ≠ gb322)); have n12_ := Aside0.mk ((by rw [hg]; exact Nat.ne_of_gt (blk_lt (g := gb300) (o := .cells #[.int .i64 t296, .slice Ao16 t297.length co16] 26 (0, 0)) (by (with_reducible repeat (fail)); exact BK300.out)) : gb322 ≠ gb300)); clear HO299; clear HO303; clear HO307; clear HO311; clear HO315; clear HO320; clear BK300; clear HB; have HO299 := n0_; have HO303 := n1_; have HO307 := n2_; have HO311 := n3_; have HO315 := n4_; have HO320 := n5_; have BK300 := n6_; have HB := n7_; have BK322 := n8_; have GW322 := n9_; have GE322 := n10_; have NB300_322 := n11_; have NB322_300 := n12_; clear n0_ n1_ n2_ n3_ n4_ n5_ n6_ n7_ n8_ n9_ n10_ n11_ n12_; clear hb hbox hg; have hnb27 := NB322_300.out; have hnc27 := NB300_322.out; have hcz28_0 : w26.cell? ⟨gb322, 0, none⟩ = some (.int .i64 0) := (blk_cell BK322.out 0).trans rfl; have hcz28_1 : w26.cell? ⟨gb322, 1, none⟩ = some (.slice none 0 0) := (blk_cell BK322.out 1).trans rfl; have hfz28_0 := blk_frozen BK322.out 0; have hfz28_1 := blk_frozen BK322.out 1; obtain ⟨Ao29, co29, eo29⟩ := Kd.R_slice HO320.out; subst eo29; have hcz30_0 : w26.cell? ⟨gb300, 0, none⟩ = some (.int .i64 t296) := (blk_cell BK300.out 0).trans rfl; have hcz30_1 : w26.cell? ⟨gb300, 1, none⟩ = some (.slice Ao16 t297.length co16) := (blk_cell BK300.out 1).trans rfl; have hfz30_0 := blk_frozen BK300.out 0; have hfz30_1 := blk_frozen BK300.out 1) | (go_at_call 12; (with_reducible refine (spec_MirrorTournament.calls k t296 _ _ t297 t323 t324 t327 _ ?side1 ?side2 A11.out).mono ?_); (case side1 => refine (Kd.R_reads' (e := 3) (base := w.heap.size) (ok := fun k_ => (((((True ∧ some k_ ≠ (v302 : Value).ownBlock) ∧ some k_ ≠ (v306 : Value).ownBlock) ∧ some k_ ≠ (v310 : Value).ownBlock) ∧ some k_ ≠ (v314 : Value).ownBlock) ∧ some k_ ≠ (.slice Ao29 t318.length co29 : Value).ownBlock)) (n := t297.length) (c := co16) ?_).2.2; exact (by (with_reducible repeat (fail)); exact (Kd.R_mono (Kd.R_far (p := ⟨gb322, 1, none⟩) (Kd.R_far (p := ⟨gb322, 0, none⟩) (Kd.R_types HO299.out BK322.out (by decide)) (fun _ hk => hk.2) (.int .i64 t317)) (fun _ hk => hk.2) (.slice Ao29 t318.length co29)) (fun _ h_ => h_.1)))); (case side2 => exact (Kd.R_reads' HO299.out).2.1); rintro e w31 ⟨v325, rfl, ho0, hb⟩; have n0_ := Aside0.mk (Kd.R_elder' (by (with_reducible repeat (fail)); exact (Kd.R_mono (Kd.R_far (p := ⟨gb322, 1, none⟩) (Kd.R_far (p := ⟨gb322, 0, none⟩) (Kd.R_types HO299.out BK322.out (by decide)) (fun _ hk => hk.2) (.int .i64 t317)) (fun _ hk => hk.2) (.slice Ao29 t318.length co29)) (fun _ h_ => h_.1))) (Kd.R_base ho0) hb); have n1_ := Aside0.mk (Kd.R_elder' (by (with_reducible repeat (fail)); exact (Kd.R_mono (Kd.R_far (p := ⟨gb322, 1, none⟩) (Kd.R_far (p := ⟨gb322, 0, none⟩) (Kd.R_types HO303.out BK322.out (by decide)) (fun _ hk => hk.2) (.int .i64 t317)) (fun _ hk => hk.2) (.slice Ao29 t318.length co29)) (fun _ h_ => h_.1))) (Kd.R_base ho0) hb); have n2_ := Aside0.mk (Kd.R_elder' (by (with_reducible repeat (fail)); exact (Kd.R_mono (Kd.R_far (p := ⟨gb322, 1, none⟩) (Kd.R_far (p := ⟨gb322, 0, none⟩) (Kd.R_types HO307.out BK322.out (by decide)) (fun _ hk => hk.2) (.int .i64 t317)) (fun _ hk => hk.2) (.slice Ao29 t318.length co29)) (fun _ h_ => h_.1))) (Kd.R_base ho0) hb); have n3_ := Aside0.mk (Kd.R_elder' (by (with_reducible repeat (fail)); exact (Kd.R_mono (Kd.R_far (p := ⟨gb322, 1, none⟩) (Kd.R_far (p := ⟨gb322, 0, none⟩) (Kd.R_types HO311.out BK322.out (by decide)) (fun _ hk => hk.2) (.int .i64 t317)) (fun _ hk => hk.2) (.slice Ao29 t318.length co29)) (fun _ h_ => h_.1))) (Kd.R_base ho0) hb); have n4_ := Aside0.mk (Kd.R_elder' (by (with_reducible repeat (fail)); exact (Kd.R_mono (Kd.R_far (p := ⟨gb322, 1, none⟩) (Kd.R_far (p := ⟨gb322, 0, none⟩) (Kd.R_types HO315.out BK322.out (by decide)) (fun _ hk => hk.2) (.int .i64 t317)) (fun _ hk => hk.2) (.slice Ao29 t318.length co29)) (fun _ h_ => h_.1))) (Kd.R_base ho0) hb); have n5_ := Aside0.mk (Kd.R_elder' (by (with_reducible repeat (fail)); exact (Kd.R_mono (Kd.R_far (p := ⟨gb322, 1, none⟩) (Kd.R_far (p := ⟨gb322, 0, none⟩) (Kd.R_types HO320.out BK322.out (by decide)) (fun _ hk => hk.2) (.int .i64 t317)) (fun _ hk => hk.2) (.slice Ao29 t318.length co29)) (fun _ h_ => h_.1))) (Kd.R_base ho0) hb); have n6_ := Aside0.mk (Kd.R_lower (Kd.R_new' (Kd.R_new' (Kd.R_new' (Kd.R_new' (Kd.R_new' (Kd.R_new' ho0 (Kd.R_lt (by (with_reducible repeat (fail)); exact (Kd.R_mono (Kd.R_far (p := ⟨gb322, 1, none⟩) (Kd.R_far (p := ⟨gb322, 0, none⟩) (Kd.R_types HO299.out BK322.out (by decide)) (fun _ hk => hk.2) (.int .i64 t317)) (fun _ hk => hk.2) (.slice Ao29 t318.length co29)) (fun _ h_ => h_.1))))) (Kd.R_lt (by (with_reducible repeat (fail)); exact (Kd.R_mono (Kd.R_far (p := ⟨gb322, 1, none⟩) (Kd.R_far (p := ⟨gb322, 0, none⟩) (Kd.R_types HO303.out BK322.out (by decide)) (fun _ hk => hk.2) (.int .i64 t317)) (fun _ hk => hk.2) (.slice Ao29 t318.length co29)) (fun _ h_ => h_.1))))) (Kd.R_lt (by (with_reducible repeat (fail)); exact (Kd.R_mono (Kd.R_far (p := ⟨gb322, 1, none⟩) (Kd.R_far (p := ⟨gb322, 0, none⟩) (Kd.R_types HO307.out BK322.out (by decide)) (fun _ hk => hk.2) (.int .i64 t317)) (fun _ hk => hk.2) (.slice Ao29 t318.length co29)) (fun _ h_ => h_.1))))) (Kd.R_lt (by (with_reducible repeat (fail)); exact (Kd.R_mono (Kd.R_far (p := ⟨gb322, 1, none⟩) (Kd.R_far (p := ⟨gb322, 0, none⟩) (Kd.R_types HO311.out BK322.out (by decide)) (fun _ hk => hk.2) (.int .i64 t317)) (fun _ hk => hk.2) (.slice Ao29 t318.length co29)) (fun _ h_ => h_.1))))) (Kd.R_lt (by (with_reducible repeat (fail)); exact (Kd.R_mono (Kd.R_far (p := ⟨gb322, 1, none⟩) (Kd.R_far (p := ⟨gb322, 0, none⟩) (Kd.R_types HO315.out BK322.out (by decide)) (fun _ hk => hk.2) (.int .i64 t317)) (fun _ hk => hk.2) (.slice Ao29 t318.length co29)) (fun _ h_ => h_.1))))) (Kd.R_lt (by (with_reducible repeat (fail)); exact (Kd.R_mono (Kd.R_far (p := ⟨gb322, 1, none⟩) (Kd.R_far (p := ⟨gb322, 0, none⟩) (Kd.R_types HO320.out BK322.out (by decide)) (fun _ hk => hk.2) (.int .i64 t317)) (fun _ hk => hk.2) (.slice Ao29 t318.length co29)) (fun _ h_ => h_.1))))) (below_size (by repeat ((with_reducible first | exact HB.out | refine below_set ?_ GE322.out))))); have n7_ := Aside0.mk (blk_below (g := gb300) (o := .cells #[.int .i64 t296, .slice Ao16 t297.length co16] 26 (0, 0)) (by (with_reducible repeat (fail)); refine blk_far ?_ NB300_322.out _; (with_reducible repeat (fail)); refine blk_far ?_ NB300_322.out _; (with_reducible repeat (fail)); exact BK300.out) hb); have n8_ := Aside0.mk (blk_below (g := gb322) (o := .cells #[.int .i64 t317, .slice Ao29 t318.length co29] 26 (0, 0)) (by (with_reducible repeat (fail)); refine blk_put (cs := #[.int .i64 t317, .slice none 0 0]) ?_ 1 _ rfl; (with_reducible repeat (fail)); refine blk_put (cs := #[.int .i64 0, .slice none 0 0]) ?_ 0 _ rfl; (with_reducible repeat (fail)); exact BK322.out) hb); have n9_ := Aside0.mk (below_step (by repeat ((with_reducible first | exact HB.out | refine below_set ?_ GE322.out))) hb); clear HO299; clear HO303; clear HO307; clear HO311; clear HO315; clear HO320; clear BK300; clear BK322; clear HB; have HO299 := n0_; have HO303 := n1_; have HO307 := n2_; have HO311 := n3_; have HO315 := n4_; have HO320 := n5_; have HO326 := n6_; have BK300 := n7_; have BK322 := n8_; have HB := n9_; clear n0_ n1_ n2_ n3_ n4_ n5_ n6_ n7_ n8_ n9_; (try clear hb); (try clear hb2); (try clear hk); (try clear hi); (try clear ho0)) | ((with_reducible refine gate_dst (N := 16) rfl ?_); (try (refine gate_guard (by rfl) ?_; dsimp only)); refine box_event ?hg (N := 16) ?hd (cs := #[.int .i64 0, .slice none 0 0]) (t := 26) ?hr ?_; (case hd => rfl); (case hg => rfl); (case hr => first | (go_simp; done) | (go_simp; rfl)); intro gb328 hg w32 hbox hb; have n0_ := Aside0.mk (Kd.R_below (by (with_reducible repeat (fail)); exact HO299.out) hb); have n1_ := Aside0.mk (Kd.R_below (by (with_reducible repeat (fail)); exact HO303.out) hb); have n2_ := Aside0.mk (Kd.R_below (by (with_reducible repeat (fail)); exact HO307.out) hb); have n3_ := Aside0.mk (Kd.R_below (by (with_reducible repeat (fail)); exact HO311.out) hb); have n4_ := Aside0.mk (Kd.R_below (by (with_reducible repeat (fail)); exact HO315.out) hb); have n5_ := Aside0.mk (Kd.R_below (by (with_reducible repeat (fail)); exact HO320.out) hb); have n6_ := Aside0.mk (Kd.R_below (by (with_reducible repeat (fail)); exact HO326.out) hb); have n7_ := Aside0.mk (blk_below (g := gb300) (o := .cells #[.int .i64 t296, .slice Ao16 t297.length co16] 26 (0, 0)) (by (with_reducible repeat (fail)); exact BK300.out) hb); have n8_ := Aside0.mk (blk_below (g := gb322) (o := .cells #[.int .i64 t317, .slice Ao29 t318.length co29] 26 (0, 0)) (by (with_reducible repeat (fail)); exact BK322.out) hb); have n9_ := Aside0.mk (below_step (by repeat ((with_reducible exact HB.out))) hb); have n10_ := Aside0.mk (hbox); have n11_ := Aside0.mk ((by rw [hg]; exact (below_size (by repeat ((with_reducible exact HB.out)))) : w.heap.size ≤ gb328)); have n12_ := Aside0.mk ((by rw [hg]; exact (below_size (by repeat ((with_reducible exact HB.out)))) : w.heap.size ≤ gb328)); have n13_ := Aside0.mk ((by rw [hg]; exact Nat.ne_of_lt (blk_lt (g := gb300) (o := .cells #[.int .i64 t296, .slice Ao16 t297.length co16] 26 (0, 0)) (by (with_reducible repeat (fail)); exact BK300.out)) : gb300 ≠ gb328)); have n14_ := Aside0.mk ((by rw [hg]; exact Nat.ne_of_gt (blk_lt (g := gb300) (o := .cells #[.int .i64 t296, .slice Ao16 t297.length co16] 26 (0, 0)) (by (with_reducible repeat (fail)); exact BK300.out)) : gb328 ≠ gb300)); have n15_ := Aside0.mk ((by rw [hg]; exact Nat.ne_of_lt (blk_lt (g := gb322) (o := .cells #[.int .i64 t317, .slice Ao29 t318.length co29] 26 (0, 0)) (by (with_reducible repeat (fail)); exact BK322.out)) : gb322 ≠ gb328)); have n16_ := Aside0.mk ((by rw [hg]; exact Nat.ne_of_gt (blk_lt (g := gb322) (o := .cells #[.int .i64 t317, .slice Ao29 t318.length co29] 26 (0, 0)) (by (with_reducible repeat (fail)); exact BK322.out)) : gb328 ≠ gb322)); clear HO299; clear HO303; clear HO307; clear HO311; clear HO315; clear HO320; clear HO326; clear BK300; clear BK322; clear HB; have HO299 := n0_; have HO303 := n1_; have HO307 := n2_; have HO311 := n3_; have HO315 := n4_; have HO320 := n5_; have HO326 := n6_; have BK300 := n7_; have BK322 := n8_; have HB := n9_; have BK328 := n10_; have GW328 := n11_; have GE328 := n12_; have NB300_328 := n13_; have NB328_300 := n14_; have NB322_328 := n15_; have NB328_322 := n16_; clear n0_ n1_ n2_ n3_ n4_ n5_ n6_ n7_ n8_ n9_ n10_ n11_ n12_ n13_ n14_ n15_ n16_; clear hb hbox hg; have hnb33 := NB328_300.out; have hnc33 := NB300_328.out; have hnb34 := NB328_322.out; have hnc34 := NB322_328.out; have hcz35_0 : w32.cell? ⟨gb328, 0, none⟩ = some (.int .i64 0) := (blk_cell BK328.out 0).trans rfl; have hcz35_1 : w32.cell? ⟨gb328, 1, none⟩ = some (.slice none 0 0) := (blk_cell BK328.out 1).trans rfl; have hfz35_0 := blk_frozen BK328.out 0; have hfz35_1 := blk_frozen BK328.out 1; obtain ⟨Ao36, co36, eo36⟩ := Kd.R_slice HO326.out; subst eo36))
  repeat (go_quiet (fail); go_upto_region 10 with (fail))
  (try simp only [Act.put, List.setIfInBounds_toArray, List.set_cons_zero, List.set_cons_succ])
  go_cut [110] (fun v110 wc => ∃ (kq : Nat) (x110_11 : Bool), v110 = .bool x110_11 ∧ Aside0 (laws_FnOrdersAndKings.j0 kq t301 t304 t309 x110_11 t296 t297 t317 t318 = some r) ∧ Aside0 (kq ≤ k) ∧ Aside0 (Kd.R (Kd.int .i64) 3 wc w.heap.size (fun k_ => some k_ ≠ (v310 : Value).ownBlock ∧ some k_ ≠ ((.slice Ao16 t297.length co16) : Value).ownBlock ∧ some k_ ≠ ((.slice Ao29 t318.length co29) : Value).ownBlock ∧ some k_ ≠ ((.slice Ao36 t324.length co36) : Value).ownBlock) v302 t301) ∧ Aside0 (Kd.R (Kd.int .i64) 3 wc w.heap.size (fun k_ => some k_ ≠ (v302 : Value).ownBlock ∧ some k_ ≠ ((.slice Ao16 t297.length co16) : Value).ownBlock ∧ some k_ ≠ ((.slice Ao29 t318.length co29) : Value).ownBlock ∧ some k_ ≠ ((.slice Ao36 t324.length co36) : Value).ownBlock) v310 t309) ∧ Aside0 (Kd.R (Kd.int .i64) 3 wc w.heap.size (fun k_ => some k_ ≠ (v302 : Value).ownBlock ∧ some k_ ≠ (v310 : Value).ownBlock ∧ some k_ ≠ ((.slice Ao29 t318.length co29) : Value).ownBlock ∧ some k_ ≠ ((.slice Ao36 t324.length co36) : Value).ownBlock) (.slice Ao16 t297.length co16) t297) ∧ Aside0 (Kd.R (Kd.int .i64) 3 wc w.heap.size (fun k_ => some k_ ≠ (v302 : Value).ownBlock ∧ some k_ ≠ (v310 : Value).ownBlock ∧ some k_ ≠ ((.slice Ao16 t297.length co16) : Value).ownBlock ∧ some k_ ≠ ((.slice Ao36 t324.length co36) : Value).ownBlock) (.slice Ao29 t318.length co29) t318) ∧ Aside0 (Kd.R (Kd.int .i64) 3 wc w.heap.size (fun k_ => some k_ ≠ (v302 : Value).ownBlock ∧ some k_ ≠ (v310 : Value).ownBlock ∧ some k_ ≠ ((.slice Ao16 t297.length co16) : Value).ownBlock ∧ some k_ ≠ ((.slice Ao29 t318.length co29) : Value).ownBlock) (.slice Ao36 t324.length co36) t324) ∧ Aside0 (wc.heap[gb300]? = some (.cells #[.int .i64 t296, (.slice Ao16 t297.length co16)] 26 (0, 0))) ∧ Aside0 (wc.heap[gb322]? = some (.cells #[.int .i64 t317, (.slice Ao29 t318.length co29)] 26 (0, 0))) ∧ Aside0 (wc.heap[gb328]? = some (.cells #[.int .i64 t323, (.slice Ao36 t324.length co36)] 26 (0, 0))) ∧ Aside0 (Below w.heap.size w wc))
  case first =>
   as_aux_lemma =>
    have H := HC12.out
    clear HC12
    by_cases c37 : (t304 != t308) = true
    ·
     rw [if_pos c37] at H
     have c37b0 : (t304 != t308) = true := c37
     (try (have c37b1 : decide (t304 = t308) = false := by simpa using c37))
     (try (have c37b2 : (t304 == t308) = false := by simpa using c37))
     (try (have c37b3 : ¬ (t304 = t308) := by simpa using c37))
     clear c37
     (skip)
     have H' := Aside0.mk H
     clear H
     go_wp2
     repeat (go_quiet (fail); try go_wp2)
     go_meet
     case rel => exact ⟨_, (true), (by first | rfl | (simp; done) | (simp [*]; done)), H', ⟨by first | omega | exact Nat.le_refl _⟩, ⟨by (with_reducible repeat (fail)); exact Kd.R_mono (Kd.R_far (p := ⟨gb328, 1, none⟩) (Kd.R_far (p := ⟨gb328, 0, none⟩) (Kd.R_types HO303.out BK328.out (by decide)) (fun _ hk => hk.2) (.int .i64 t323)) (fun _ hk => hk.2) (.slice Ao36 t324.length co36)) (fun _ hk => ⟨hk.1.1.1.1.2, ⟨hk.1.1.1.1.1.1.2, ⟨hk.1.1.2, hk.1.2⟩⟩⟩)⟩, ⟨by (with_reducible repeat (fail)); exact Kd.R_mono (Kd.R_far (p := ⟨gb328, 1, none⟩) (Kd.R_far (p := ⟨gb328, 0, none⟩) (Kd.R_types HO311.out BK328.out (by decide)) (fun _ hk => hk.2) (.int .i64 t323)) (fun _ hk => hk.2) (.slice Ao36 t324.length co36)) (fun _ hk => ⟨hk.1.1.1.1.1.2, ⟨hk.1.1.1.1.1.1.2, ⟨hk.1.1.2, hk.1.2⟩⟩⟩)⟩, ⟨by (with_reducible repeat (fail)); exact Kd.R_mono (Kd.R_far (p := ⟨gb328, 1, none⟩) (Kd.R_far (p := ⟨gb328, 0, none⟩) (Kd.R_types HO299.out BK328.out (by decide)) (fun _ hk => hk.2) (.int .i64 t323)) (fun _ hk => hk.2) (.slice Ao36 t324.length co36)) (fun _ hk => ⟨hk.1.1.1.1.1.1.2, ⟨hk.1.1.1.1.2, ⟨hk.1.1.2, hk.1.2⟩⟩⟩)⟩, ⟨by (with_reducible repeat (fail)); exact Kd.R_mono (Kd.R_far (p := ⟨gb328, 1, none⟩) (Kd.R_far (p := ⟨gb328, 0, none⟩) (Kd.R_types HO320.out BK328.out (by decide)) (fun _ hk => hk.2) (.int .i64 t323)) (fun _ hk => hk.2) (.slice Ao36 t324.length co36)) (fun _ hk => ⟨hk.1.1.1.1.1.2, ⟨hk.1.1.1.2, ⟨hk.1.1.1.1.1.1.2, hk.1.2⟩⟩⟩)⟩, ⟨by (with_reducible repeat (fail)); exact Kd.R_mono (Kd.R_far (p := ⟨gb328, 1, none⟩) (Kd.R_far (p := ⟨gb328, 0, none⟩) (Kd.R_types HO326.out BK328.out (by decide)) (fun _ hk => hk.2) (.int .i64 t323)) (fun _ hk => hk.2) (.slice Ao36 t324.length co36)) (fun _ hk => ⟨hk.1.1.1.1.1.2, ⟨hk.1.1.1.2, ⟨hk.1.1.1.1.1.1.2, hk.1.2⟩⟩⟩)⟩, ⟨by (with_reducible repeat (fail)); refine blk_far ?_ NB300_328.out _; (with_reducible repeat (fail)); refine blk_far ?_ NB300_328.out _; (with_reducible repeat (fail)); exact BK300.out⟩, ⟨by (with_reducible repeat (fail)); refine blk_far ?_ NB322_328.out _; (with_reducible repeat (fail)); refine blk_far ?_ NB322_328.out _; (with_reducible repeat (fail)); exact BK322.out⟩, ⟨by (with_reducible repeat (fail)); refine blk_put (cs := #[.int .i64 t323, .slice none 0 0]) ?_ 1 _ rfl; (with_reducible repeat (fail)); refine blk_put (cs := #[.int .i64 0, .slice none 0 0]) ?_ 0 _ rfl; (with_reducible repeat (fail)); exact BK328.out⟩, ⟨by repeat ((with_reducible first | exact HB.out | refine below_set ?_ GE328.out))⟩⟩
    ·
     rw [if_neg c37] at H
     have c37b0 : (t304 != t308) = false := by simpa using c37
     (try (have c37b1 : decide (t304 = t308) = true := by simpa using c37))
     (try (have c37b2 : (t304 == t308) = true := by simpa using c37))
     clear c37
     (skip)
     replace H := Option.bind_eq_some_iff.mp H
     obtain ⟨t329, A380, H⟩ := H
     replace H : (if t329 = true then (if (t312 != t316) = true then (laws_FnOrdersAndKings.j0 k t301 t304 t309 true t296 t297 t317 t318) else ((laws_ySame.f k t309 t313).bind fun t330 => (if t330 = true then (if (t321 != t327) = true then (laws_FnOrdersAndKings.j0 k t301 t304 t309 true t296 t297 t317 t318) else ((laws_yTournament.f k t317 t318 t323 t324).bind fun t331 => (if t331 = true then (if (t312 != t304) = true then (laws_FnOrdersAndKings.j0 k t301 t304 t309 true t296 t297 t317 t318) else (if (t321 != t304) = true then (laws_FnOrdersAndKings.j0 k t301 t304 t309 true t296 t297 t317 t318) else ((impl_IsTournament.f k t296 t297).bind fun t332 => (laws_FnOrdersAndKings.j0 k t301 t304 t309 (t304 != t332) t296 t297 t317 t318)))) else (laws_FnOrdersAndKings.j0 k t301 t304 t309 true t296 t297 t317 t318)))) else (laws_FnOrdersAndKings.j0 k t301 t304 t309 true t296 t297 t317 t318)))) else (laws_FnOrdersAndKings.j0 k t301 t304 t309 true t296 t297 t317 t318)) = some r := H
     have A38 := Aside0.mk A380
     clear A380
     by_cases c39 : t329 = true
     ·
      subst c39
      have H1 : (if (t312 != t316) = true then (laws_FnOrdersAndKings.j0 k t301 t304 t309 true t296 t297 t317 t318) else ((laws_ySame.f k t309 t313).bind fun t330 => (if t330 = true then (if (t321 != t327) = true then (laws_FnOrdersAndKings.j0 k t301 t304 t309 true t296 t297 t317 t318) else ((laws_yTournament.f k t317 t318 t323 t324).bind fun t331 => (if t331 = true then (if (t312 != t304) = true then (laws_FnOrdersAndKings.j0 k t301 t304 t309 true t296 t297 t317 t318) else (if (t321 != t304) = true then (laws_FnOrdersAndKings.j0 k t301 t304 t309 true t296 t297 t317 t318) else ((impl_IsTournament.f k t296 t297).bind fun t332 => (laws_FnOrdersAndKings.j0 k t301 t304 t309 (t304 != t332) t296 t297 t317 t318)))) else (laws_FnOrdersAndKings.j0 k t301 t304 t309 true t296 t297 t317 t318)))) else (laws_FnOrdersAndKings.j0 k t301 t304 t309 true t296 t297 t317 t318)))) = some r := by rw [if_pos rfl] at H; exact H
      clear H
      have H := H1
      clear H1
      by_cases c40 : (t312 != t316) = true
      ·
       rw [if_pos c40] at H
       have c40b0 : (t312 != t316) = true := c40
       (try (have c40b1 : decide (t312 = t316) = false := by simpa using c40))
       (try (have c40b2 : (t312 == t316) = false := by simpa using c40))
       (try (have c40b3 : ¬ (t312 = t316) := by simpa using c40))
       clear c40
       have H' := Aside0.mk H
       clear H
       obtain ⟨Ao41, co41, eo41⟩ := Kd.R_slice HO303.out
       subst eo41
       obtain ⟨Ao42, co42, eo42⟩ := Kd.R_slice HO307.out
       subst eo42
       go_wp2_with ((go_at_call 13; (with_reducible refine (laws_ySame.calls k _ _ t301 _ _ t305 true _ ?side1 ?side2 ?side3 ?side4 A38.out).mono ?_); (case side1 => refine (Kd.R_reads' (e := 3) (base := w.heap.size) (ok := fun k_ => ((((((True ∧ some k_ ≠ (.slice Ao16 t297.length co16 : Value).ownBlock) ∧ some k_ ≠ (.slice Ao42 t305.length co42 : Value).ownBlock) ∧ some k_ ≠ (v310 : Value).ownBlock) ∧ some k_ ≠ (v314 : Value).ownBlock) ∧ some k_ ≠ (.slice Ao29 t318.length co29 : Value).ownBlock) ∧ some k_ ≠ (.slice Ao36 t324.length co36 : Value).ownBlock)) (n := t301.length) (c := co41) ?_).2.2; exact (by (with_reducible repeat (fail)); exact (Kd.R_mono (Kd.R_far (p := ⟨gb328, 1, none⟩) (Kd.R_far (p := ⟨gb328, 0, none⟩) (Kd.R_types HO303.out BK328.out (by decide)) (fun _ hk => hk.2) (.int .i64 t323)) (fun _ hk => hk.2) (.slice Ao36 t324.length co36)) (fun _ h_ => h_.1)))); (case side2 => exact (Kd.R_reads' HO303.out).2.1); (case side3 => refine (Kd.R_reads' (e := 3) (base := w.heap.size) (ok := fun k_ => ((((((True ∧ some k_ ≠ (.slice Ao16 t297.length co16 : Value).ownBlock) ∧ some k_ ≠ (.slice Ao41 t301.length co41 : Value).ownBlock) ∧ some k_ ≠ (v310 : Value).ownBlock) ∧ some k_ ≠ (v314 : Value).ownBlock) ∧ some k_ ≠ (.slice Ao29 t318.length co29 : Value).ownBlock) ∧ some k_ ≠ (.slice Ao36 t324.length co36 : Value).ownBlock)) (n := t305.length) (c := co42) ?_).2.2; exact (by (with_reducible repeat (fail)); exact (Kd.R_mono (Kd.R_far (p := ⟨gb328, 1, none⟩) (Kd.R_far (p := ⟨gb328, 0, none⟩) (Kd.R_types HO307.out BK328.out (by decide)) (fun _ hk => hk.2) (.int .i64 t323)) (fun _ hk => hk.2) (.slice Ao36 t324.length co36)) (fun _ h_ => h_.1)))); (case side4 => exact (Kd.R_reads' HO307.out).2.1); rintro e w' ⟨rfl, ⟨nd, rfl⟩⟩; (skip)))
       repeat (go_quiet (fail); try go_wp2_with (fail))
       go_meet
       case rel => exact ⟨_, (true), (by first | rfl | (simp; done) | (simp [*]; done)), H', ⟨by first | omega | exact Nat.le_refl _⟩, ⟨by (with_reducible repeat (apply Kd.R_drewN)); exact Kd.R_mono (Kd.R_far (p := ⟨gb328, 1, none⟩) (Kd.R_far (p := ⟨gb328, 0, none⟩) (Kd.R_types HO303.out BK328.out (by decide)) (fun _ hk => hk.2) (.int .i64 t323)) (fun _ hk => hk.2) (.slice Ao36 t324.length co36)) (fun _ hk => ⟨hk.1.1.1.1.2, ⟨hk.1.1.1.1.1.1.2, ⟨hk.1.1.2, hk.1.2⟩⟩⟩)⟩, ⟨by (with_reducible repeat (apply Kd.R_drewN)); exact Kd.R_mono (Kd.R_far (p := ⟨gb328, 1, none⟩) (Kd.R_far (p := ⟨gb328, 0, none⟩) (Kd.R_types HO311.out BK328.out (by decide)) (fun _ hk => hk.2) (.int .i64 t323)) (fun _ hk => hk.2) (.slice Ao36 t324.length co36)) (fun _ hk => ⟨hk.1.1.1.1.1.2, ⟨hk.1.1.1.1.1.1.2, ⟨hk.1.1.2, hk.1.2⟩⟩⟩)⟩, ⟨by (with_reducible repeat (apply Kd.R_drewN)); exact Kd.R_mono (Kd.R_far (p := ⟨gb328, 1, none⟩) (Kd.R_far (p := ⟨gb328, 0, none⟩) (Kd.R_types HO299.out BK328.out (by decide)) (fun _ hk => hk.2) (.int .i64 t323)) (fun _ hk => hk.2) (.slice Ao36 t324.length co36)) (fun _ hk => ⟨hk.1.1.1.1.1.1.2, ⟨hk.1.1.1.1.2, ⟨hk.1.1.2, hk.1.2⟩⟩⟩)⟩, ⟨by (with_reducible repeat (apply Kd.R_drewN)); exact Kd.R_mono (Kd.R_far (p := ⟨gb328, 1, none⟩) (Kd.R_far (p := ⟨gb328, 0, none⟩) (Kd.R_types HO320.out BK328.out (by decide)) (fun _ hk => hk.2) (.int .i64 t323)) (fun _ hk => hk.2) (.slice Ao36 t324.length co36)) (fun _ hk => ⟨hk.1.1.1.1.1.2, ⟨hk.1.1.1.2, ⟨hk.1.1.1.1.1.1.2, hk.1.2⟩⟩⟩)⟩, ⟨by (with_reducible repeat (apply Kd.R_drewN)); exact Kd.R_mono (Kd.R_far (p := ⟨gb328, 1, none⟩) (Kd.R_far (p := ⟨gb328, 0, none⟩) (Kd.R_types HO326.out BK328.out (by decide)) (fun _ hk => hk.2) (.int .i64 t323)) (fun _ hk => hk.2) (.slice Ao36 t324.length co36)) (fun _ hk => ⟨hk.1.1.1.1.1.2, ⟨hk.1.1.1.2, ⟨hk.1.1.1.1.1.1.2, hk.1.2⟩⟩⟩)⟩, ⟨by (with_reducible repeat (refine blk_drewN ?_ _)); refine blk_far ?_ NB300_328.out _; (with_reducible repeat (fail)); refine blk_far ?_ NB300_328.out _; (with_reducible repeat (fail)); exact BK300.out⟩, ⟨by (with_reducible repeat (refine blk_drewN ?_ _)); refine blk_far ?_ NB322_328.out _; (with_reducible repeat (fail)); refine blk_far ?_ NB322_328.out _; (with_reducible repeat (fail)); exact BK322.out⟩, ⟨by (with_reducible repeat (refine blk_drewN ?_ _)); refine blk_put (cs := #[.int .i64 t323, .slice none 0 0]) ?_ 1 _ rfl; (with_reducible repeat (fail)); refine blk_put (cs := #[.int .i64 0, .slice none 0 0]) ?_ 0 _ rfl; (with_reducible repeat (fail)); exact BK328.out⟩, ⟨by repeat ((with_reducible first | exact HB.out | apply pw_below_drewN | refine below_set ?_ GE328.out))⟩⟩
      ·
       rw [if_neg c40] at H
       have c40b0 : (t312 != t316) = false := by simpa using c40
       (try (have c40b1 : decide (t312 = t316) = true := by simpa using c40))
       (try (have c40b2 : (t312 == t316) = true := by simpa using c40))
       clear c40
       replace H := Option.bind_eq_some_iff.mp H
       obtain ⟨t330, A430, H⟩ := H
       replace H : (if t330 = true then (if (t321 != t327) = true then (laws_FnOrdersAndKings.j0 k t301 t304 t309 true t296 t297 t317 t318) else ((laws_yTournament.f k t317 t318 t323 t324).bind fun t331 => (if t331 = true then (if (t312 != t304) = true then (laws_FnOrdersAndKings.j0 k t301 t304 t309 true t296 t297 t317 t318) else (if (t321 != t304) = true then (laws_FnOrdersAndKings.j0 k t301 t304 t309 true t296 t297 t317 t318) else ((impl_IsTournament.f k t296 t297).bind fun t332 => (laws_FnOrdersAndKings.j0 k t301 t304 t309 (t304 != t332) t296 t297 t317 t318)))) else (laws_FnOrdersAndKings.j0 k t301 t304 t309 true t296 t297 t317 t318)))) else (laws_FnOrdersAndKings.j0 k t301 t304 t309 true t296 t297 t317 t318)) = some r := H
       have A43 := Aside0.mk A430
       clear A430
       by_cases c44 : t330 = true
       ·
        subst c44
        have H1 : (if (t321 != t327) = true then (laws_FnOrdersAndKings.j0 k t301 t304 t309 true t296 t297 t317 t318) else ((laws_yTournament.f k t317 t318 t323 t324).bind fun t331 => (if t331 = true then (if (t312 != t304) = true then (laws_FnOrdersAndKings.j0 k t301 t304 t309 true t296 t297 t317 t318) else (if (t321 != t304) = true then (laws_FnOrdersAndKings.j0 k t301 t304 t309 true t296 t297 t317 t318) else ((impl_IsTournament.f k t296 t297).bind fun t332 => (laws_FnOrdersAndKings.j0 k t301 t304 t309 (t304 != t332) t296 t297 t317 t318)))) else (laws_FnOrdersAndKings.j0 k t301 t304 t309 true t296 t297 t317 t318)))) = some r := by rw [if_pos rfl] at H; exact H
        clear H
        have H := H1
        clear H1
        by_cases c45 : (t321 != t327) = true
        ·
         rw [if_pos c45] at H
         have c45b0 : (t321 != t327) = true := c45
         (try (have c45b1 : decide (t321 = t327) = false := by simpa using c45))
         (try (have c45b2 : (t321 == t327) = false := by simpa using c45))
         (try (have c45b3 : ¬ (t321 = t327) := by simpa using c45))
         clear c45
         have H' := Aside0.mk H
         clear H
         obtain ⟨Ao46, co46, eo46⟩ := Kd.R_slice HO303.out
         subst eo46
         obtain ⟨Ao47, co47, eo47⟩ := Kd.R_slice HO307.out
         subst eo47
         go_wp2_with (first | (go_at_call 13; (with_reducible refine (laws_ySame.calls k _ _ t301 _ _ t305 true _ ?side1 ?side2 ?side3 ?side4 A38.out).mono ?_); (case side1 => refine (Kd.R_reads' (e := 3) (base := w.heap.size) (ok := fun k_ => ((((((True ∧ some k_ ≠ (.slice Ao16 t297.length co16 : Value).ownBlock) ∧ some k_ ≠ (.slice Ao47 t305.length co47 : Value).ownBlock) ∧ some k_ ≠ (v310 : Value).ownBlock) ∧ some k_ ≠ (v314 : Value).ownBlock) ∧ some k_ ≠ (.slice Ao29 t318.length co29 : Value).ownBlock) ∧ some k_ ≠ (.slice Ao36 t324.length co36 : Value).ownBlock)) (n := t301.length) (c := co46) ?_).2.2; exact (by (with_reducible repeat (fail)); exact (Kd.R_mono (Kd.R_far (p := ⟨gb328, 1, none⟩) (Kd.R_far (p := ⟨gb328, 0, none⟩) (Kd.R_types HO303.out BK328.out (by decide)) (fun _ hk => hk.2) (.int .i64 t323)) (fun _ hk => hk.2) (.slice Ao36 t324.length co36)) (fun _ h_ => h_.1)))); (case side2 => exact (Kd.R_reads' HO303.out).2.1); (case side3 => refine (Kd.R_reads' (e := 3) (base := w.heap.size) (ok := fun k_ => ((((((True ∧ some k_ ≠ (.slice Ao16 t297.length co16 : Value).ownBlock) ∧ some k_ ≠ (.slice Ao46 t301.length co46 : Value).ownBlock) ∧ some k_ ≠ (v310 : Value).ownBlock) ∧ some k_ ≠ (v314 : Value).ownBlock) ∧ some k_ ≠ (.slice Ao29 t318.length co29 : Value).ownBlock) ∧ some k_ ≠ (.slice Ao36 t324.length co36 : Value).ownBlock)) (n := t305.length) (c := co47) ?_).2.2; exact (by (with_reducible repeat (fail)); exact (Kd.R_mono (Kd.R_far (p := ⟨gb328, 1, none⟩) (Kd.R_far (p := ⟨gb328, 0, none⟩) (Kd.R_types HO307.out BK328.out (by decide)) (fun _ hk => hk.2) (.int .i64 t323)) (fun _ hk => hk.2) (.slice Ao36 t324.length co36)) (fun _ h_ => h_.1)))); (case side4 => exact (Kd.R_reads' HO307.out).2.1); rintro e w' ⟨rfl, ⟨nd, rfl⟩⟩; (skip); obtain ⟨Ao48, co48, eo48⟩ := Kd.R_slice HO311.out; subst eo48; obtain ⟨Ao49, co49, eo49⟩ := Kd.R_slice HO315.out; subst eo49) | (go_at_call 13; (with_reducible refine (laws_ySame.calls k _ _ t309 _ _ t313 true _ ?side1 ?side2 ?side3 ?side4 A43.out).mono ?_); (case side1 => refine (Kd.R_reads' (e := 3) (base := w.heap.size) (ok := fun k_ => ((((((True ∧ some k_ ≠ (.slice Ao16 t297.length co16 : Value).ownBlock) ∧ some k_ ≠ (.slice Ao46 t301.length co46 : Value).ownBlock) ∧ some k_ ≠ (.slice Ao47 t305.length co47 : Value).ownBlock) ∧ some k_ ≠ (.slice Ao49 t313.length co49 : Value).ownBlock) ∧ some k_ ≠ (.slice Ao29 t318.length co29 : Value).ownBlock) ∧ some k_ ≠ (.slice Ao36 t324.length co36 : Value).ownBlock)) (n := t309.length) (c := co48) ?_).2.2; exact (by (with_reducible repeat (apply Kd.R_drewN)); exact (Kd.R_mono (Kd.R_far (p := ⟨gb328, 1, none⟩) (Kd.R_far (p := ⟨gb328, 0, none⟩) (Kd.R_types HO311.out BK328.out (by decide)) (fun _ hk => hk.2) (.int .i64 t323)) (fun _ hk => hk.2) (.slice Ao36 t324.length co36)) (fun _ h_ => h_.1)))); (case side2 => exact (Kd.R_reads' HO311.out).2.1); (case side3 => refine (Kd.R_reads' (e := 3) (base := w.heap.size) (ok := fun k_ => ((((((True ∧ some k_ ≠ (.slice Ao16 t297.length co16 : Value).ownBlock) ∧ some k_ ≠ (.slice Ao46 t301.length co46 : Value).ownBlock) ∧ some k_ ≠ (.slice Ao47 t305.length co47 : Value).ownBlock) ∧ some k_ ≠ (.slice Ao48 t309.length co48 : Value).ownBlock) ∧ some k_ ≠ (.slice Ao29 t318.length co29 : Value).ownBlock) ∧ some k_ ≠ (.slice Ao36 t324.length co36 : Value).ownBlock)) (n := t313.length) (c := co49) ?_).2.2; exact (by (with_reducible repeat (apply Kd.R_drewN)); exact (Kd.R_mono (Kd.R_far (p := ⟨gb328, 1, none⟩) (Kd.R_far (p := ⟨gb328, 0, none⟩) (Kd.R_types HO315.out BK328.out (by decide)) (fun _ hk => hk.2) (.int .i64 t323)) (fun _ hk => hk.2) (.slice Ao36 t324.length co36)) (fun _ h_ => h_.1)))); (case side4 => exact (Kd.R_reads' HO315.out).2.1); rintro e w' ⟨rfl, ⟨nd, rfl⟩⟩; (skip)))
         repeat (go_quiet (fail); try go_wp2_with (fail))
         go_meet
         case rel => exact ⟨_, (true), (by first | rfl | (simp; done) | (simp [*]; done)), H', ⟨by first | omega | exact Nat.le_refl _⟩, ⟨by (with_reducible repeat (apply Kd.R_drewN)); exact Kd.R_mono (Kd.R_far (p := ⟨gb328, 1, none⟩) (Kd.R_far (p := ⟨gb328, 0, none⟩) (Kd.R_types HO303.out BK328.out (by decide)) (fun _ hk => hk.2) (.int .i64 t323)) (fun _ hk => hk.2) (.slice Ao36 t324.length co36)) (fun _ hk => ⟨hk.1.1.1.1.2, ⟨hk.1.1.1.1.1.1.2, ⟨hk.1.1.2, hk.1.2⟩⟩⟩)⟩, ⟨by (with_reducible repeat (apply Kd.R_drewN)); exact Kd.R_mono (Kd.R_far (p := ⟨gb328, 1, none⟩) (Kd.R_far (p := ⟨gb328, 0, none⟩) (Kd.R_types HO311.out BK328.out (by decide)) (fun _ hk => hk.2) (.int .i64 t323)) (fun _ hk => hk.2) (.slice Ao36 t324.length co36)) (fun _ hk => ⟨hk.1.1.1.1.1.2, ⟨hk.1.1.1.1.1.1.2, ⟨hk.1.1.2, hk.1.2⟩⟩⟩)⟩, ⟨by (with_reducible repeat (apply Kd.R_drewN)); exact Kd.R_mono (Kd.R_far (p := ⟨gb328, 1, none⟩) (Kd.R_far (p := ⟨gb328, 0, none⟩) (Kd.R_types HO299.out BK328.out (by decide)) (fun _ hk => hk.2) (.int .i64 t323)) (fun _ hk => hk.2) (.slice Ao36 t324.length co36)) (fun _ hk => ⟨hk.1.1.1.1.1.1.2, ⟨hk.1.1.1.1.2, ⟨hk.1.1.2, hk.1.2⟩⟩⟩)⟩, ⟨by (with_reducible repeat (apply Kd.R_drewN)); exact Kd.R_mono (Kd.R_far (p := ⟨gb328, 1, none⟩) (Kd.R_far (p := ⟨gb328, 0, none⟩) (Kd.R_types HO320.out BK328.out (by decide)) (fun _ hk => hk.2) (.int .i64 t323)) (fun _ hk => hk.2) (.slice Ao36 t324.length co36)) (fun _ hk => ⟨hk.1.1.1.1.1.2, ⟨hk.1.1.1.2, ⟨hk.1.1.1.1.1.1.2, hk.1.2⟩⟩⟩)⟩, ⟨by (with_reducible repeat (apply Kd.R_drewN)); exact Kd.R_mono (Kd.R_far (p := ⟨gb328, 1, none⟩) (Kd.R_far (p := ⟨gb328, 0, none⟩) (Kd.R_types HO326.out BK328.out (by decide)) (fun _ hk => hk.2) (.int .i64 t323)) (fun _ hk => hk.2) (.slice Ao36 t324.length co36)) (fun _ hk => ⟨hk.1.1.1.1.1.2, ⟨hk.1.1.1.2, ⟨hk.1.1.1.1.1.1.2, hk.1.2⟩⟩⟩)⟩, ⟨by (with_reducible repeat (refine blk_drewN ?_ _)); refine blk_far ?_ NB300_328.out _; (with_reducible repeat (fail)); refine blk_far ?_ NB300_328.out _; (with_reducible repeat (fail)); exact BK300.out⟩, ⟨by (with_reducible repeat (refine blk_drewN ?_ _)); refine blk_far ?_ NB322_328.out _; (with_reducible repeat (fail)); refine blk_far ?_ NB322_328.out _; (with_reducible repeat (fail)); exact BK322.out⟩, ⟨by (with_reducible repeat (refine blk_drewN ?_ _)); refine blk_put (cs := #[.int .i64 t323, .slice none 0 0]) ?_ 1 _ rfl; (with_reducible repeat (fail)); refine blk_put (cs := #[.int .i64 0, .slice none 0 0]) ?_ 0 _ rfl; (with_reducible repeat (fail)); exact BK328.out⟩, ⟨by repeat ((with_reducible first | exact HB.out | apply pw_below_drewN | refine below_set ?_ GE328.out))⟩⟩
        ·
         rw [if_neg c45] at H
         have c45b0 : (t321 != t327) = false := by simpa using c45
         (try (have c45b1 : decide (t321 = t327) = true := by simpa using c45))
         (try (have c45b2 : (t321 == t327) = true := by simpa using c45))
         clear c45
         replace H := Option.bind_eq_some_iff.mp H
         obtain ⟨t331, A500, H⟩ := H
         replace H : (if t331 = true then (if (t312 != t304) = true then (laws_FnOrdersAndKings.j0 k t301 t304 t309 true t296 t297 t317 t318) else (if (t321 != t304) = true then (laws_FnOrdersAndKings.j0 k t301 t304 t309 true t296 t297 t317 t318) else ((impl_IsTournament.f k t296 t297).bind fun t332 => (laws_FnOrdersAndKings.j0 k t301 t304 t309 (t304 != t332) t296 t297 t317 t318)))) else (laws_FnOrdersAndKings.j0 k t301 t304 t309 true t296 t297 t317 t318)) = some r := H
         have A50 := Aside0.mk A500
         clear A500
         by_cases c51 : t331 = true
         ·
          subst c51
          have H1 : (if (t312 != t304) = true then (laws_FnOrdersAndKings.j0 k t301 t304 t309 true t296 t297 t317 t318) else (if (t321 != t304) = true then (laws_FnOrdersAndKings.j0 k t301 t304 t309 true t296 t297 t317 t318) else ((impl_IsTournament.f k t296 t297).bind fun t332 => (laws_FnOrdersAndKings.j0 k t301 t304 t309 (t304 != t332) t296 t297 t317 t318)))) = some r := by rw [if_pos rfl] at H; exact H
          clear H
          have H := H1
          clear H1
          by_cases c52 : (t312 != t304) = true
          ·
           rw [if_pos c52] at H
           have c52b0 : (t312 != t304) = true := c52
           (try (have c52b1 : decide (t312 = t304) = false := by simpa using c52))
           (try (have c52b2 : (t312 == t304) = false := by simpa using c52))
           (try (have c52b3 : ¬ (t312 = t304) := by simpa using c52))
           clear c52
           have H' := Aside0.mk H
           clear H
           obtain ⟨Ao53, co53, eo53⟩ := Kd.R_slice HO303.out
           subst eo53
           obtain ⟨Ao54, co54, eo54⟩ := Kd.R_slice HO307.out
           subst eo54
           go_wp2_with (first | (go_at_call 13; (with_reducible refine (laws_ySame.calls k _ _ t301 _ _ t305 true _ ?side1 ?side2 ?side3 ?side4 A38.out).mono ?_); (case side1 => refine (Kd.R_reads' (e := 3) (base := w.heap.size) (ok := fun k_ => ((((((True ∧ some k_ ≠ (.slice Ao16 t297.length co16 : Value).ownBlock) ∧ some k_ ≠ (.slice Ao54 t305.length co54 : Value).ownBlock) ∧ some k_ ≠ (v310 : Value).ownBlock) ∧ some k_ ≠ (v314 : Value).ownBlock) ∧ some k_ ≠ (.slice Ao29 t318.length co29 : Value).ownBlock) ∧ some k_ ≠ (.slice Ao36 t324.length co36 : Value).ownBlock)) (n := t301.length) (c := co53) ?_).2.2; exact (by (with_reducible repeat (fail)); exact (Kd.R_mono (Kd.R_far (p := ⟨gb328, 1, none⟩) (Kd.R_far (p := ⟨gb328, 0, none⟩) (Kd.R_types HO303.out BK328.out (by decide)) (fun _ hk => hk.2) (.int .i64 t323)) (fun _ hk => hk.2) (.slice Ao36 t324.length co36)) (fun _ h_ => h_.1)))); (case side2 => exact (Kd.R_reads' HO303.out).2.1); (case side3 => refine (Kd.R_reads' (e := 3) (base := w.heap.size) (ok := fun k_ => ((((((True ∧ some k_ ≠ (.slice Ao16 t297.length co16 : Value).ownBlock) ∧ some k_ ≠ (.slice Ao53 t301.length co53 : Value).ownBlock) ∧ some k_ ≠ (v310 : Value).ownBlock) ∧ some k_ ≠ (v314 : Value).ownBlock) ∧ some k_ ≠ (.slice Ao29 t318.length co29 : Value).ownBlock) ∧ some k_ ≠ (.slice Ao36 t324.length co36 : Value).ownBlock)) (n := t305.length) (c := co54) ?_).2.2; exact (by (with_reducible repeat (fail)); exact (Kd.R_mono (Kd.R_far (p := ⟨gb328, 1, none⟩) (Kd.R_far (p := ⟨gb328, 0, none⟩) (Kd.R_types HO307.out BK328.out (by decide)) (fun _ hk => hk.2) (.int .i64 t323)) (fun _ hk => hk.2) (.slice Ao36 t324.length co36)) (fun _ h_ => h_.1)))); (case side4 => exact (Kd.R_reads' HO307.out).2.1); rintro e w' ⟨rfl, ⟨nd, rfl⟩⟩; (skip); obtain ⟨Ao55, co55, eo55⟩ := Kd.R_slice HO311.out; subst eo55; obtain ⟨Ao56, co56, eo56⟩ := Kd.R_slice HO315.out; subst eo56) | (go_at_call 13; (with_reducible refine (laws_ySame.calls k _ _ t309 _ _ t313 true _ ?side1 ?side2 ?side3 ?side4 A43.out).mono ?_); (case side1 => refine (Kd.R_reads' (e := 3) (base := w.heap.size) (ok := fun k_ => ((((((True ∧ some k_ ≠ (.slice Ao16 t297.length co16 : Value).ownBlock) ∧ some k_ ≠ (.slice Ao53 t301.length co53 : Value).ownBlock) ∧ some k_ ≠ (.slice Ao54 t305.length co54 : Value).ownBlock) ∧ some k_ ≠ (.slice Ao56 t313.length co56 : Value).ownBlock) ∧ some k_ ≠ (.slice Ao29 t318.length co29 : Value).ownBlock) ∧ some k_ ≠ (.slice Ao36 t324.length co36 : Value).ownBlock)) (n := t309.length) (c := co55) ?_).2.2; exact (by (with_reducible repeat (apply Kd.R_drewN)); exact (Kd.R_mono (Kd.R_far (p := ⟨gb328, 1, none⟩) (Kd.R_far (p := ⟨gb328, 0, none⟩) (Kd.R_types HO311.out BK328.out (by decide)) (fun _ hk => hk.2) (.int .i64 t323)) (fun _ hk => hk.2) (.slice Ao36 t324.length co36)) (fun _ h_ => h_.1)))); (case side2 => exact (Kd.R_reads' HO311.out).2.1); (case side3 => refine (Kd.R_reads' (e := 3) (base := w.heap.size) (ok := fun k_ => ((((((True ∧ some k_ ≠ (.slice Ao16 t297.length co16 : Value).ownBlock) ∧ some k_ ≠ (.slice Ao53 t301.length co53 : Value).ownBlock) ∧ some k_ ≠ (.slice Ao54 t305.length co54 : Value).ownBlock) ∧ some k_ ≠ (.slice Ao55 t309.length co55 : Value).ownBlock) ∧ some k_ ≠ (.slice Ao29 t318.length co29 : Value).ownBlock) ∧ some k_ ≠ (.slice Ao36 t324.length co36 : Value).ownBlock)) (n := t313.length) (c := co56) ?_).2.2; exact (by (with_reducible repeat (apply Kd.R_drewN)); exact (Kd.R_mono (Kd.R_far (p := ⟨gb328, 1, none⟩) (Kd.R_far (p := ⟨gb328, 0, none⟩) (Kd.R_types HO315.out BK328.out (by decide)) (fun _ hk => hk.2) (.int .i64 t323)) (fun _ hk => hk.2) (.slice Ao36 t324.length co36)) (fun _ h_ => h_.1)))); (case side4 => exact (Kd.R_reads' HO315.out).2.1); rintro e w' ⟨rfl, ⟨nd, rfl⟩⟩; (skip); have hnb57 := NB322_300.out; have hnc57 := NB300_322.out; have hnb58 := NB322_328.out; have hnc58 := NB328_322.out; have hcz59_0 : w32.cell? ⟨gb322, 0, none⟩ = some (.int .i64 t317) := (blk_cell BK322.out 0).trans rfl; have hcz59_1 : w32.cell? ⟨gb322, 1, none⟩ = some (.slice Ao29 t318.length co29) := (blk_cell BK322.out 1).trans rfl; have hfz59_0 := blk_frozen BK322.out 0; have hfz59_1 := blk_frozen BK322.out 1; have hnb60 := NB328_300.out; have hnc60 := NB300_328.out; have hcz61_0 : w32.cell? ⟨gb328, 0, none⟩ = some (.int .i64 0) := (blk_cell BK328.out 0).trans rfl; have hcz61_1 : w32.cell? ⟨gb328, 1, none⟩ = some (.slice none 0 0) := (blk_cell BK328.out 1).trans rfl; have hfz61_0 := blk_frozen BK328.out 0; have hfz61_1 := blk_frozen BK328.out 1) | (go_at_call 14; (with_reducible refine (laws_yTournament.calls k t317 _ _ t318 t323 _ _ t324 true _ ?side1 ?side2 ?side3 ?side4 A50.out).mono ?_); (case side1 => refine (Kd.R_reads' (e := 3) (base := w.heap.size) (ok := fun k_ => ((((((True ∧ some k_ ≠ (.slice Ao16 t297.length co16 : Value).ownBlock) ∧ some k_ ≠ (.slice Ao53 t301.length co53 : Value).ownBlock) ∧ some k_ ≠ (.slice Ao54 t305.length co54 : Value).ownBlock) ∧ some k_ ≠ (.slice Ao55 t309.length co55 : Value).ownBlock) ∧ some k_ ≠ (.slice Ao56 t313.length co56 : Value).ownBlock) ∧ some k_ ≠ (.slice Ao36 t324.length co36 : Value).ownBlock)) (n := t318.length) (c := co29) ?_).2.2; exact (by (with_reducible repeat (apply Kd.R_drewN)); exact (Kd.R_mono (Kd.R_far (p := ⟨gb328, 1, none⟩) (Kd.R_far (p := ⟨gb328, 0, none⟩) (Kd.R_types HO320.out BK328.out (by decide)) (fun _ hk => hk.2) (.int .i64 t323)) (fun _ hk => hk.2) (.slice Ao36 t324.length co36)) (fun _ h_ => h_.1)))); (case side2 => exact (Kd.R_reads' HO320.out).2.1); (case side3 => refine (Kd.R_reads' (e := 3) (base := w.heap.size) (ok := fun k_ => ((((((True ∧ some k_ ≠ (.slice Ao16 t297.length co16 : Value).ownBlock) ∧ some k_ ≠ (.slice Ao53 t301.length co53 : Value).ownBlock) ∧ some k_ ≠ (.slice Ao54 t305.length co54 : Value).ownBlock) ∧ some k_ ≠ (.slice Ao55 t309.length co55 : Value).ownBlock) ∧ some k_ ≠ (.slice Ao56 t313.length co56 : Value).ownBlock) ∧ some k_ ≠ (.slice Ao29 t318.length co29 : Value).ownBlock)) (n := t324.length) (c := co36) ?_).2.2; exact (by (with_reducible repeat (apply Kd.R_drewN)); exact (Kd.R_mono (Kd.R_far (p := ⟨gb328, 1, none⟩) (Kd.R_far (p := ⟨gb328, 0, none⟩) (Kd.R_types HO326.out BK328.out (by decide)) (fun _ hk => hk.2) (.int .i64 t323)) (fun _ hk => hk.2) (.slice Ao36 t324.length co36)) (fun _ h_ => h_.1)))); (case side4 => exact (Kd.R_reads' HO326.out).2.1); rintro e w62 ⟨rfl, hb⟩; have n0_ := Aside0.mk (Kd.R_below (by (with_reducible repeat (apply Kd.R_drewN)); exact (Kd.R_mono (Kd.R_far (p := ⟨gb328, 1, none⟩) (Kd.R_far (p := ⟨gb328, 0, none⟩) (Kd.R_types HO299.out BK328.out (by decide)) (fun _ hk => hk.2) (.int .i64 t323)) (fun _ hk => hk.2) (.slice Ao36 t324.length co36)) (fun _ h_ => h_.1))) hb); have n1_ := Aside0.mk (Kd.R_below (by (with_reducible repeat (apply Kd.R_drewN)); exact (Kd.R_mono (Kd.R_far (p := ⟨gb328, 1, none⟩) (Kd.R_far (p := ⟨gb328, 0, none⟩) (Kd.R_types HO303.out BK328.out (by decide)) (fun _ hk => hk.2) (.int .i64 t323)) (fun _ hk => hk.2) (.slice Ao36 t324.length co36)) (fun _ h_ => h_.1))) hb); have n2_ := Aside0.mk (Kd.R_below (by (with_reducible repeat (apply Kd.R_drewN)); exact (Kd.R_mono (Kd.R_far (p := ⟨gb328, 1, none⟩) (Kd.R_far (p := ⟨gb328, 0, none⟩) (Kd.R_types HO307.out BK328.out (by decide)) (fun _ hk => hk.2) (.int .i64 t323)) (fun _ hk => hk.2) (.slice Ao36 t324.length co36)) (fun _ h_ => h_.1))) hb); have n3_ := Aside0.mk (Kd.R_below (by (with_reducible repeat (apply Kd.R_drewN)); exact (Kd.R_mono (Kd.R_far (p := ⟨gb328, 1, none⟩) (Kd.R_far (p := ⟨gb328, 0, none⟩) (Kd.R_types HO311.out BK328.out (by decide)) (fun _ hk => hk.2) (.int .i64 t323)) (fun _ hk => hk.2) (.slice Ao36 t324.length co36)) (fun _ h_ => h_.1))) hb); have n4_ := Aside0.mk (Kd.R_below (by (with_reducible repeat (apply Kd.R_drewN)); exact (Kd.R_mono (Kd.R_far (p := ⟨gb328, 1, none⟩) (Kd.R_far (p := ⟨gb328, 0, none⟩) (Kd.R_types HO315.out BK328.out (by decide)) (fun _ hk => hk.2) (.int .i64 t323)) (fun _ hk => hk.2) (.slice Ao36 t324.length co36)) (fun _ h_ => h_.1))) hb); have n5_ := Aside0.mk (Kd.R_below (by (with_reducible repeat (apply Kd.R_drewN)); exact (Kd.R_mono (Kd.R_far (p := ⟨gb328, 1, none⟩) (Kd.R_far (p := ⟨gb328, 0, none⟩) (Kd.R_types HO320.out BK328.out (by decide)) (fun _ hk => hk.2) (.int .i64 t323)) (fun _ hk => hk.2) (.slice Ao36 t324.length co36)) (fun _ h_ => h_.1))) hb); have n6_ := Aside0.mk (Kd.R_below (by (with_reducible repeat (apply Kd.R_drewN)); exact (Kd.R_mono (Kd.R_far (p := ⟨gb328, 1, none⟩) (Kd.R_far (p := ⟨gb328, 0, none⟩) (Kd.R_types HO326.out BK328.out (by decide)) (fun _ hk => hk.2) (.int .i64 t323)) (fun _ hk => hk.2) (.slice Ao36 t324.length co36)) (fun _ h_ => h_.1))) hb); have n7_ := Aside0.mk (blk_below (g := gb300) (o := .cells #[.int .i64 t296, .slice Ao16 t297.length co16] 26 (0, 0)) (by (with_reducible repeat (refine blk_drewN ?_ _)); refine blk_far ?_ NB300_328.out _; (with_reducible repeat (fail)); refine blk_far ?_ NB300_328.out _; (with_reducible repeat (fail)); exact BK300.out) hb); have n8_ := Aside0.mk (blk_below (g := gb322) (o := .cells #[.int .i64 t317, .slice Ao29 t318.length co29] 26 (0, 0)) (by (with_reducible repeat (refine blk_drewN ?_ _)); refine blk_far ?_ NB322_328.out _; (with_reducible repeat (fail)); refine blk_far ?_ NB322_328.out _; (with_reducible repeat (fail)); exact BK322.out) hb); have n9_ := Aside0.mk (blk_below (g := gb328) (o := .cells #[.int .i64 t323, .slice Ao36 t324.length co36] 26 (0, 0)) (by (with_reducible repeat (refine blk_drewN ?_ _)); refine blk_put (cs := #[.int .i64 t323, .slice none 0 0]) ?_ 1 _ rfl; (with_reducible repeat (fail)); refine blk_put (cs := #[.int .i64 0, .slice none 0 0]) ?_ 0 _ rfl; (with_reducible repeat (fail)); exact BK328.out) hb); have n10_ := Aside0.mk (below_step (by repeat ((with_reducible first | exact HB.out | apply pw_below_drewN | refine below_set ?_ GE328.out))) hb); clear HO299; clear HO303; clear HO307; clear HO311; clear HO315; clear HO320; clear HO326; clear BK300; clear BK322; clear BK328; clear HB; have HO299 := n0_; have HO303 := n1_; have HO307 := n2_; have HO311 := n3_; have HO315 := n4_; have HO320 := n5_; have HO326 := n6_; have BK300 := n7_; have BK322 := n8_; have BK328 := n9_; have HB := n10_; clear n0_ n1_ n2_ n3_ n4_ n5_ n6_ n7_ n8_ n9_ n10_; (try clear hb); (try clear hb2); (try clear hk); (try clear hi)))
           repeat (go_quiet (fail); try go_wp2_with (fail))
           go_meet
           case rel => exact ⟨_, (true), (by first | rfl | (simp; done) | (simp [*]; done)), H', ⟨by first | omega | exact Nat.le_refl _⟩, ⟨by (with_reducible repeat (fail)); exact Kd.R_mono HO303.out (fun _ hk => ⟨hk.1.1.1.2, ⟨hk.1.1.1.1.1.2, ⟨hk.1.2, hk.2⟩⟩⟩)⟩, ⟨by (with_reducible repeat (fail)); exact Kd.R_mono HO311.out (fun _ hk => ⟨hk.1.1.1.1.2, ⟨hk.1.1.1.1.1.2, ⟨hk.1.2, hk.2⟩⟩⟩)⟩, ⟨by (with_reducible repeat (fail)); exact Kd.R_mono HO299.out (fun _ hk => ⟨hk.1.1.1.1.1.2, ⟨hk.1.1.1.2, ⟨hk.1.2, hk.2⟩⟩⟩)⟩, ⟨by (with_reducible repeat (fail)); exact Kd.R_mono HO320.out (fun _ hk => ⟨hk.1.1.1.1.2, ⟨hk.1.1.2, ⟨hk.1.1.1.1.1.2, hk.2⟩⟩⟩)⟩, ⟨by (with_reducible repeat (fail)); exact Kd.R_mono HO326.out (fun _ hk => ⟨hk.1.1.1.1.2, ⟨hk.1.1.2, ⟨hk.1.1.1.1.1.2, hk.2⟩⟩⟩)⟩, ⟨by (with_reducible repeat (fail)); exact BK300.out⟩, ⟨by (with_reducible repeat (fail)); exact BK322.out⟩, ⟨by (with_reducible repeat (fail)); exact BK328.out⟩, ⟨by repeat ((with_reducible exact HB.out))⟩⟩
          ·
           rw [if_neg c52] at H
           have c52b0 : (t312 != t304) = false := by simpa using c52
           (try (have c52b1 : decide (t312 = t304) = true := by simpa using c52))
           (try (have c52b2 : (t312 == t304) = true := by simpa using c52))
           clear c52
           by_cases c63 : (t321 != t304) = true
           ·
            rw [if_pos c63] at H
            have c63b0 : (t321 != t304) = true := c63
            (try (have c63b1 : decide (t321 = t304) = false := by simpa using c63))
            (try (have c63b2 : (t321 == t304) = false := by simpa using c63))
            (try (have c63b3 : ¬ (t321 = t304) := by simpa using c63))
            clear c63
            have H' := Aside0.mk H
            clear H
            obtain ⟨Ao64, co64, eo64⟩ := Kd.R_slice HO303.out
            subst eo64
            obtain ⟨Ao65, co65, eo65⟩ := Kd.R_slice HO307.out
            subst eo65
            go_wp2_with (first | (go_at_call 13; (with_reducible refine (laws_ySame.calls k _ _ t301 _ _ t305 true _ ?side1 ?side2 ?side3 ?side4 A38.out).mono ?_); (case side1 => refine (Kd.R_reads' (e := 3) (base := w.heap.size) (ok := fun k_ => ((((((True ∧ some k_ ≠ (.slice Ao16 t297.length co16 : Value).ownBlock) ∧ some k_ ≠ (.slice Ao65 t305.length co65 : Value).ownBlock) ∧ some k_ ≠ (v310 : Value).ownBlock) ∧ some k_ ≠ (v314 : Value).ownBlock) ∧ some k_ ≠ (.slice Ao29 t318.length co29 : Value).ownBlock) ∧ some k_ ≠ (.slice Ao36 t324.length co36 : Value).ownBlock)) (n := t301.length) (c := co64) ?_).2.2; exact (by (with_reducible repeat (fail)); exact (Kd.R_mono (Kd.R_far (p := ⟨gb328, 1, none⟩) (Kd.R_far (p := ⟨gb328, 0, none⟩) (Kd.R_types HO303.out BK328.out (by decide)) (fun _ hk => hk.2) (.int .i64 t323)) (fun _ hk => hk.2) (.slice Ao36 t324.length co36)) (fun _ h_ => h_.1)))); (case side2 => exact (Kd.R_reads' HO303.out).2.1); (case side3 => refine (Kd.R_reads' (e := 3) (base := w.heap.size) (ok := fun k_ => ((((((True ∧ some k_ ≠ (.slice Ao16 t297.length co16 : Value).ownBlock) ∧ some k_ ≠ (.slice Ao64 t301.length co64 : Value).ownBlock) ∧ some k_ ≠ (v310 : Value).ownBlock) ∧ some k_ ≠ (v314 : Value).ownBlock) ∧ some k_ ≠ (.slice Ao29 t318.length co29 : Value).ownBlock) ∧ some k_ ≠ (.slice Ao36 t324.length co36 : Value).ownBlock)) (n := t305.length) (c := co65) ?_).2.2; exact (by (with_reducible repeat (fail)); exact (Kd.R_mono (Kd.R_far (p := ⟨gb328, 1, none⟩) (Kd.R_far (p := ⟨gb328, 0, none⟩) (Kd.R_types HO307.out BK328.out (by decide)) (fun _ hk => hk.2) (.int .i64 t323)) (fun _ hk => hk.2) (.slice Ao36 t324.length co36)) (fun _ h_ => h_.1)))); (case side4 => exact (Kd.R_reads' HO307.out).2.1); rintro e w' ⟨rfl, ⟨nd, rfl⟩⟩; (skip); obtain ⟨Ao66, co66, eo66⟩ := Kd.R_slice HO311.out; subst eo66; obtain ⟨Ao67, co67, eo67⟩ := Kd.R_slice HO315.out; subst eo67) | (go_at_call 13; (with_reducible refine (laws_ySame.calls k _ _ t309 _ _ t313 true _ ?side1 ?side2 ?side3 ?side4 A43.out).mono ?_); (case side1 => refine (Kd.R_reads' (e := 3) (base := w.heap.size) (ok := fun k_ => ((((((True ∧ some k_ ≠ (.slice Ao16 t297.length co16 : Value).ownBlock) ∧ some k_ ≠ (.slice Ao64 t301.length co64 : Value).ownBlock) ∧ some k_ ≠ (.slice Ao65 t305.length co65 : Value).ownBlock) ∧ some k_ ≠ (.slice Ao67 t313.length co67 : Value).ownBlock) ∧ some k_ ≠ (.slice Ao29 t318.length co29 : Value).ownBlock) ∧ some k_ ≠ (.slice Ao36 t324.length co36 : Value).ownBlock)) (n := t309.length) (c := co66) ?_).2.2; exact (by (with_reducible repeat (apply Kd.R_drewN)); exact (Kd.R_mono (Kd.R_far (p := ⟨gb328, 1, none⟩) (Kd.R_far (p := ⟨gb328, 0, none⟩) (Kd.R_types HO311.out BK328.out (by decide)) (fun _ hk => hk.2) (.int .i64 t323)) (fun _ hk => hk.2) (.slice Ao36 t324.length co36)) (fun _ h_ => h_.1)))); (case side2 => exact (Kd.R_reads' HO311.out).2.1); (case side3 => refine (Kd.R_reads' (e := 3) (base := w.heap.size) (ok := fun k_ => ((((((True ∧ some k_ ≠ (.slice Ao16 t297.length co16 : Value).ownBlock) ∧ some k_ ≠ (.slice Ao64 t301.length co64 : Value).ownBlock) ∧ some k_ ≠ (.slice Ao65 t305.length co65 : Value).ownBlock) ∧ some k_ ≠ (.slice Ao66 t309.length co66 : Value).ownBlock) ∧ some k_ ≠ (.slice Ao29 t318.length co29 : Value).ownBlock) ∧ some k_ ≠ (.slice Ao36 t324.length co36 : Value).ownBlock)) (n := t313.length) (c := co67) ?_).2.2; exact (by (with_reducible repeat (apply Kd.R_drewN)); exact (Kd.R_mono (Kd.R_far (p := ⟨gb328, 1, none⟩) (Kd.R_far (p := ⟨gb328, 0, none⟩) (Kd.R_types HO315.out BK328.out (by decide)) (fun _ hk => hk.2) (.int .i64 t323)) (fun _ hk => hk.2) (.slice Ao36 t324.length co36)) (fun _ h_ => h_.1)))); (case side4 => exact (Kd.R_reads' HO315.out).2.1); rintro e w' ⟨rfl, ⟨nd, rfl⟩⟩; (skip); have hnb68 := NB322_300.out; have hnc68 := NB300_322.out; have hnb69 := NB322_328.out; have hnc69 := NB328_322.out; have hcz70_0 : w32.cell? ⟨gb322, 0, none⟩ = some (.int .i64 t317) := (blk_cell BK322.out 0).trans rfl; have hcz70_1 : w32.cell? ⟨gb322, 1, none⟩ = some (.slice Ao29 t318.length co29) := (blk_cell BK322.out 1).trans rfl; have hfz70_0 := blk_frozen BK322.out 0; have hfz70_1 := blk_frozen BK322.out 1; have hnb71 := NB328_300.out; have hnc71 := NB300_328.out; have hcz72_0 : w32.cell? ⟨gb328, 0, none⟩ = some (.int .i64 0) := (blk_cell BK328.out 0).trans rfl; have hcz72_1 : w32.cell? ⟨gb328, 1, none⟩ = some (.slice none 0 0) := (blk_cell BK328.out 1).trans rfl; have hfz72_0 := blk_frozen BK328.out 0; have hfz72_1 := blk_frozen BK328.out 1) | (go_at_call 14; (with_reducible refine (laws_yTournament.calls k t317 _ _ t318 t323 _ _ t324 true _ ?side1 ?side2 ?side3 ?side4 A50.out).mono ?_); (case side1 => refine (Kd.R_reads' (e := 3) (base := w.heap.size) (ok := fun k_ => ((((((True ∧ some k_ ≠ (.slice Ao16 t297.length co16 : Value).ownBlock) ∧ some k_ ≠ (.slice Ao64 t301.length co64 : Value).ownBlock) ∧ some k_ ≠ (.slice Ao65 t305.length co65 : Value).ownBlock) ∧ some k_ ≠ (.slice Ao66 t309.length co66 : Value).ownBlock) ∧ some k_ ≠ (.slice Ao67 t313.length co67 : Value).ownBlock) ∧ some k_ ≠ (.slice Ao36 t324.length co36 : Value).ownBlock)) (n := t318.length) (c := co29) ?_).2.2; exact (by (with_reducible repeat (apply Kd.R_drewN)); exact (Kd.R_mono (Kd.R_far (p := ⟨gb328, 1, none⟩) (Kd.R_far (p := ⟨gb328, 0, none⟩) (Kd.R_types HO320.out BK328.out (by decide)) (fun _ hk => hk.2) (.int .i64 t323)) (fun _ hk => hk.2) (.slice Ao36 t324.length co36)) (fun _ h_ => h_.1)))); (case side2 => exact (Kd.R_reads' HO320.out).2.1); (case side3 => refine (Kd.R_reads' (e := 3) (base := w.heap.size) (ok := fun k_ => ((((((True ∧ some k_ ≠ (.slice Ao16 t297.length co16 : Value).ownBlock) ∧ some k_ ≠ (.slice Ao64 t301.length co64 : Value).ownBlock) ∧ some k_ ≠ (.slice Ao65 t305.length co65 : Value).ownBlock) ∧ some k_ ≠ (.slice Ao66 t309.length co66 : Value).ownBlock) ∧ some k_ ≠ (.slice Ao67 t313.length co67 : Value).ownBlock) ∧ some k_ ≠ (.slice Ao29 t318.length co29 : Value).ownBlock)) (n := t324.length) (c := co36) ?_).2.2; exact (by (with_reducible repeat (apply Kd.R_drewN)); exact (Kd.R_mono (Kd.R_far (p := ⟨gb328, 1, none⟩) (Kd.R_far (p := ⟨gb328, 0, none⟩) (Kd.R_types HO326.out BK328.out (by decide)) (fun _ hk => hk.2) (.int .i64 t323)) (fun _ hk => hk.2) (.slice Ao36 t324.length co36)) (fun _ h_ => h_.1)))); (case side4 => exact (Kd.R_reads' HO326.out).2.1); rintro e w73 ⟨rfl, hb⟩; have n0_ := Aside0.mk (Kd.R_below (by (with_reducible repeat (apply Kd.R_drewN)); exact (Kd.R_mono (Kd.R_far (p := ⟨gb328, 1, none⟩) (Kd.R_far (p := ⟨gb328, 0, none⟩) (Kd.R_types HO299.out BK328.out (by decide)) (fun _ hk => hk.2) (.int .i64 t323)) (fun _ hk => hk.2) (.slice Ao36 t324.length co36)) (fun _ h_ => h_.1))) hb); have n1_ := Aside0.mk (Kd.R_below (by (with_reducible repeat (apply Kd.R_drewN)); exact (Kd.R_mono (Kd.R_far (p := ⟨gb328, 1, none⟩) (Kd.R_far (p := ⟨gb328, 0, none⟩) (Kd.R_types HO303.out BK328.out (by decide)) (fun _ hk => hk.2) (.int .i64 t323)) (fun _ hk => hk.2) (.slice Ao36 t324.length co36)) (fun _ h_ => h_.1))) hb); have n2_ := Aside0.mk (Kd.R_below (by (with_reducible repeat (apply Kd.R_drewN)); exact (Kd.R_mono (Kd.R_far (p := ⟨gb328, 1, none⟩) (Kd.R_far (p := ⟨gb328, 0, none⟩) (Kd.R_types HO307.out BK328.out (by decide)) (fun _ hk => hk.2) (.int .i64 t323)) (fun _ hk => hk.2) (.slice Ao36 t324.length co36)) (fun _ h_ => h_.1))) hb); have n3_ := Aside0.mk (Kd.R_below (by (with_reducible repeat (apply Kd.R_drewN)); exact (Kd.R_mono (Kd.R_far (p := ⟨gb328, 1, none⟩) (Kd.R_far (p := ⟨gb328, 0, none⟩) (Kd.R_types HO311.out BK328.out (by decide)) (fun _ hk => hk.2) (.int .i64 t323)) (fun _ hk => hk.2) (.slice Ao36 t324.length co36)) (fun _ h_ => h_.1))) hb); have n4_ := Aside0.mk (Kd.R_below (by (with_reducible repeat (apply Kd.R_drewN)); exact (Kd.R_mono (Kd.R_far (p := ⟨gb328, 1, none⟩) (Kd.R_far (p := ⟨gb328, 0, none⟩) (Kd.R_types HO315.out BK328.out (by decide)) (fun _ hk => hk.2) (.int .i64 t323)) (fun _ hk => hk.2) (.slice Ao36 t324.length co36)) (fun _ h_ => h_.1))) hb); have n5_ := Aside0.mk (Kd.R_below (by (with_reducible repeat (apply Kd.R_drewN)); exact (Kd.R_mono (Kd.R_far (p := ⟨gb328, 1, none⟩) (Kd.R_far (p := ⟨gb328, 0, none⟩) (Kd.R_types HO320.out BK328.out (by decide)) (fun _ hk => hk.2) (.int .i64 t323)) (fun _ hk => hk.2) (.slice Ao36 t324.length co36)) (fun _ h_ => h_.1))) hb); have n6_ := Aside0.mk (Kd.R_below (by (with_reducible repeat (apply Kd.R_drewN)); exact (Kd.R_mono (Kd.R_far (p := ⟨gb328, 1, none⟩) (Kd.R_far (p := ⟨gb328, 0, none⟩) (Kd.R_types HO326.out BK328.out (by decide)) (fun _ hk => hk.2) (.int .i64 t323)) (fun _ hk => hk.2) (.slice Ao36 t324.length co36)) (fun _ h_ => h_.1))) hb); have n7_ := Aside0.mk (blk_below (g := gb300) (o := .cells #[.int .i64 t296, .slice Ao16 t297.length co16] 26 (0, 0)) (by (with_reducible repeat (refine blk_drewN ?_ _)); refine blk_far ?_ NB300_328.out _; (with_reducible repeat (fail)); refine blk_far ?_ NB300_328.out _; (with_reducible repeat (fail)); exact BK300.out) hb); have n8_ := Aside0.mk (blk_below (g := gb322) (o := .cells #[.int .i64 t317, .slice Ao29 t318.length co29] 26 (0, 0)) (by (with_reducible repeat (refine blk_drewN ?_ _)); refine blk_far ?_ NB322_328.out _; (with_reducible repeat (fail)); refine blk_far ?_ NB322_328.out _; (with_reducible repeat (fail)); exact BK322.out) hb); have n9_ := Aside0.mk (blk_below (g := gb328) (o := .cells #[.int .i64 t323, .slice Ao36 t324.length co36] 26 (0, 0)) (by (with_reducible repeat (refine blk_drewN ?_ _)); refine blk_put (cs := #[.int .i64 t323, .slice none 0 0]) ?_ 1 _ rfl; (with_reducible repeat (fail)); refine blk_put (cs := #[.int .i64 0, .slice none 0 0]) ?_ 0 _ rfl; (with_reducible repeat (fail)); exact BK328.out) hb); have n10_ := Aside0.mk (below_step (by repeat ((with_reducible first | exact HB.out | apply pw_below_drewN | refine below_set ?_ GE328.out))) hb); clear HO299; clear HO303; clear HO307; clear HO311; clear HO315; clear HO320; clear HO326; clear BK300; clear BK322; clear BK328; clear HB; have HO299 := n0_; have HO303 := n1_; have HO307 := n2_; have HO311 := n3_; have HO315 := n4_; have HO320 := n5_; have HO326 := n6_; have BK300 := n7_; have BK322 := n8_; have BK328 := n9_; have HB := n10_; clear n0_ n1_ n2_ n3_ n4_ n5_ n6_ n7_ n8_ n9_ n10_; (try clear hb); (try clear hb2); (try clear hk); (try clear hi)))
            repeat (go_quiet (fail); try go_wp2_with (fail))
            go_meet
            case rel => exact ⟨_, (true), (by first | rfl | (simp; done) | (simp [*]; done)), H', ⟨by first | omega | exact Nat.le_refl _⟩, ⟨by (with_reducible repeat (fail)); exact Kd.R_mono HO303.out (fun _ hk => ⟨hk.1.1.1.2, ⟨hk.1.1.1.1.1.2, ⟨hk.1.2, hk.2⟩⟩⟩)⟩, ⟨by (with_reducible repeat (fail)); exact Kd.R_mono HO311.out (fun _ hk => ⟨hk.1.1.1.1.2, ⟨hk.1.1.1.1.1.2, ⟨hk.1.2, hk.2⟩⟩⟩)⟩, ⟨by (with_reducible repeat (fail)); exact Kd.R_mono HO299.out (fun _ hk => ⟨hk.1.1.1.1.1.2, ⟨hk.1.1.1.2, ⟨hk.1.2, hk.2⟩⟩⟩)⟩, ⟨by (with_reducible repeat (fail)); exact Kd.R_mono HO320.out (fun _ hk => ⟨hk.1.1.1.1.2, ⟨hk.1.1.2, ⟨hk.1.1.1.1.1.2, hk.2⟩⟩⟩)⟩, ⟨by (with_reducible repeat (fail)); exact Kd.R_mono HO326.out (fun _ hk => ⟨hk.1.1.1.1.2, ⟨hk.1.1.2, ⟨hk.1.1.1.1.1.2, hk.2⟩⟩⟩)⟩, ⟨by (with_reducible repeat (fail)); exact BK300.out⟩, ⟨by (with_reducible repeat (fail)); exact BK322.out⟩, ⟨by (with_reducible repeat (fail)); exact BK328.out⟩, ⟨by repeat ((with_reducible exact HB.out))⟩⟩
           ·
            rw [if_neg c63] at H
            have c63b0 : (t321 != t304) = false := by simpa using c63
            (try (have c63b1 : decide (t321 = t304) = true := by simpa using c63))
            (try (have c63b2 : (t321 == t304) = true := by simpa using c63))
            clear c63
            replace H := Option.bind_eq_some_iff.mp H
            obtain ⟨t332, A740, H⟩ := H
            replace H : (laws_FnOrdersAndKings.j0 k t301 t304 t309 (t304 != t332) t296 t297 t317 t318) = some r := H
            have A74 := Aside0.mk A740
            clear A740
            have H' := Aside0.mk H
            clear H
            obtain ⟨Ao75, co75, eo75⟩ := Kd.R_slice HO303.out
            subst eo75
            obtain ⟨Ao76, co76, eo76⟩ := Kd.R_slice HO307.out
            subst eo76
            go_wp2_with (first | (go_at_call 13; (with_reducible refine (laws_ySame.calls k _ _ t301 _ _ t305 true _ ?side1 ?side2 ?side3 ?side4 A38.out).mono ?_); (case side1 => refine (Kd.R_reads' (e := 3) (base := w.heap.size) (ok := fun k_ => ((((((True ∧ some k_ ≠ (.slice Ao16 t297.length co16 : Value).ownBlock) ∧ some k_ ≠ (.slice Ao76 t305.length co76 : Value).ownBlock) ∧ some k_ ≠ (v310 : Value).ownBlock) ∧ some k_ ≠ (v314 : Value).ownBlock) ∧ some k_ ≠ (.slice Ao29 t318.length co29 : Value).ownBlock) ∧ some k_ ≠ (.slice Ao36 t324.length co36 : Value).ownBlock)) (n := t301.length) (c := co75) ?_).2.2; exact (by (with_reducible repeat (fail)); exact (Kd.R_mono (Kd.R_far (p := ⟨gb328, 1, none⟩) (Kd.R_far (p := ⟨gb328, 0, none⟩) (Kd.R_types HO303.out BK328.out (by decide)) (fun _ hk => hk.2) (.int .i64 t323)) (fun _ hk => hk.2) (.slice Ao36 t324.length co36)) (fun _ h_ => h_.1)))); (case side2 => exact (Kd.R_reads' HO303.out).2.1); (case side3 => refine (Kd.R_reads' (e := 3) (base := w.heap.size) (ok := fun k_ => ((((((True ∧ some k_ ≠ (.slice Ao16 t297.length co16 : Value).ownBlock) ∧ some k_ ≠ (.slice Ao75 t301.length co75 : Value).ownBlock) ∧ some k_ ≠ (v310 : Value).ownBlock) ∧ some k_ ≠ (v314 : Value).ownBlock) ∧ some k_ ≠ (.slice Ao29 t318.length co29 : Value).ownBlock) ∧ some k_ ≠ (.slice Ao36 t324.length co36 : Value).ownBlock)) (n := t305.length) (c := co76) ?_).2.2; exact (by (with_reducible repeat (fail)); exact (Kd.R_mono (Kd.R_far (p := ⟨gb328, 1, none⟩) (Kd.R_far (p := ⟨gb328, 0, none⟩) (Kd.R_types HO307.out BK328.out (by decide)) (fun _ hk => hk.2) (.int .i64 t323)) (fun _ hk => hk.2) (.slice Ao36 t324.length co36)) (fun _ h_ => h_.1)))); (case side4 => exact (Kd.R_reads' HO307.out).2.1); rintro e w' ⟨rfl, ⟨nd, rfl⟩⟩; (skip); obtain ⟨Ao77, co77, eo77⟩ := Kd.R_slice HO311.out; subst eo77; obtain ⟨Ao78, co78, eo78⟩ := Kd.R_slice HO315.out; subst eo78) | (go_at_call 13; (with_reducible refine (laws_ySame.calls k _ _ t309 _ _ t313 true _ ?side1 ?side2 ?side3 ?side4 A43.out).mono ?_); (case side1 => refine (Kd.R_reads' (e := 3) (base := w.heap.size) (ok := fun k_ => ((((((True ∧ some k_ ≠ (.slice Ao16 t297.length co16 : Value).ownBlock) ∧ some k_ ≠ (.slice Ao75 t301.length co75 : Value).ownBlock) ∧ some k_ ≠ (.slice Ao76 t305.length co76 : Value).ownBlock) ∧ some k_ ≠ (.slice Ao78 t313.length co78 : Value).ownBlock) ∧ some k_ ≠ (.slice Ao29 t318.length co29 : Value).ownBlock) ∧ some k_ ≠ (.slice Ao36 t324.length co36 : Value).ownBlock)) (n := t309.length) (c := co77) ?_).2.2; exact (by (with_reducible repeat (apply Kd.R_drewN)); exact (Kd.R_mono (Kd.R_far (p := ⟨gb328, 1, none⟩) (Kd.R_far (p := ⟨gb328, 0, none⟩) (Kd.R_types HO311.out BK328.out (by decide)) (fun _ hk => hk.2) (.int .i64 t323)) (fun _ hk => hk.2) (.slice Ao36 t324.length co36)) (fun _ h_ => h_.1)))); (case side2 => exact (Kd.R_reads' HO311.out).2.1); (case side3 => refine (Kd.R_reads' (e := 3) (base := w.heap.size) (ok := fun k_ => ((((((True ∧ some k_ ≠ (.slice Ao16 t297.length co16 : Value).ownBlock) ∧ some k_ ≠ (.slice Ao75 t301.length co75 : Value).ownBlock) ∧ some k_ ≠ (.slice Ao76 t305.length co76 : Value).ownBlock) ∧ some k_ ≠ (.slice Ao77 t309.length co77 : Value).ownBlock) ∧ some k_ ≠ (.slice Ao29 t318.length co29 : Value).ownBlock) ∧ some k_ ≠ (.slice Ao36 t324.length co36 : Value).ownBlock)) (n := t313.length) (c := co78) ?_).2.2; exact (by (with_reducible repeat (apply Kd.R_drewN)); exact (Kd.R_mono (Kd.R_far (p := ⟨gb328, 1, none⟩) (Kd.R_far (p := ⟨gb328, 0, none⟩) (Kd.R_types HO315.out BK328.out (by decide)) (fun _ hk => hk.2) (.int .i64 t323)) (fun _ hk => hk.2) (.slice Ao36 t324.length co36)) (fun _ h_ => h_.1)))); (case side4 => exact (Kd.R_reads' HO315.out).2.1); rintro e w' ⟨rfl, ⟨nd, rfl⟩⟩; (skip); have hnb79 := NB322_300.out; have hnc79 := NB300_322.out; have hnb80 := NB322_328.out; have hnc80 := NB328_322.out; have hcz81_0 : w32.cell? ⟨gb322, 0, none⟩ = some (.int .i64 t317) := (blk_cell BK322.out 0).trans rfl; have hcz81_1 : w32.cell? ⟨gb322, 1, none⟩ = some (.slice Ao29 t318.length co29) := (blk_cell BK322.out 1).trans rfl; have hfz81_0 := blk_frozen BK322.out 0; have hfz81_1 := blk_frozen BK322.out 1; have hnb82 := NB328_300.out; have hnc82 := NB300_328.out; have hcz83_0 : w32.cell? ⟨gb328, 0, none⟩ = some (.int .i64 0) := (blk_cell BK328.out 0).trans rfl; have hcz83_1 : w32.cell? ⟨gb328, 1, none⟩ = some (.slice none 0 0) := (blk_cell BK328.out 1).trans rfl; have hfz83_0 := blk_frozen BK328.out 0; have hfz83_1 := blk_frozen BK328.out 1) | (go_at_call 14; (with_reducible refine (laws_yTournament.calls k t317 _ _ t318 t323 _ _ t324 true _ ?side1 ?side2 ?side3 ?side4 A50.out).mono ?_); (case side1 => refine (Kd.R_reads' (e := 3) (base := w.heap.size) (ok := fun k_ => ((((((True ∧ some k_ ≠ (.slice Ao16 t297.length co16 : Value).ownBlock) ∧ some k_ ≠ (.slice Ao75 t301.length co75 : Value).ownBlock) ∧ some k_ ≠ (.slice Ao76 t305.length co76 : Value).ownBlock) ∧ some k_ ≠ (.slice Ao77 t309.length co77 : Value).ownBlock) ∧ some k_ ≠ (.slice Ao78 t313.length co78 : Value).ownBlock) ∧ some k_ ≠ (.slice Ao36 t324.length co36 : Value).ownBlock)) (n := t318.length) (c := co29) ?_).2.2; exact (by (with_reducible repeat (apply Kd.R_drewN)); exact (Kd.R_mono (Kd.R_far (p := ⟨gb328, 1, none⟩) (Kd.R_far (p := ⟨gb328, 0, none⟩) (Kd.R_types HO320.out BK328.out (by decide)) (fun _ hk => hk.2) (.int .i64 t323)) (fun _ hk => hk.2) (.slice Ao36 t324.length co36)) (fun _ h_ => h_.1)))); (case side2 => exact (Kd.R_reads' HO320.out).2.1); (case side3 => refine (Kd.R_reads' (e := 3) (base := w.heap.size) (ok := fun k_ => ((((((True ∧ some k_ ≠ (.slice Ao16 t297.length co16 : Value).ownBlock) ∧ some k_ ≠ (.slice Ao75 t301.length co75 : Value).ownBlock) ∧ some k_ ≠ (.slice Ao76 t305.length co76 : Value).ownBlock) ∧ some k_ ≠ (.slice Ao77 t309.length co77 : Value).ownBlock) ∧ some k_ ≠ (.slice Ao78 t313.length co78 : Value).ownBlock) ∧ some k_ ≠ (.slice Ao29 t318.length co29 : Value).ownBlock)) (n := t324.length) (c := co36) ?_).2.2; exact (by (with_reducible repeat (apply Kd.R_drewN)); exact (Kd.R_mono (Kd.R_far (p := ⟨gb328, 1, none⟩) (Kd.R_far (p := ⟨gb328, 0, none⟩) (Kd.R_types HO326.out BK328.out (by decide)) (fun _ hk => hk.2) (.int .i64 t323)) (fun _ hk => hk.2) (.slice Ao36 t324.length co36)) (fun _ h_ => h_.1)))); (case side4 => exact (Kd.R_reads' HO326.out).2.1); rintro e w84 ⟨rfl, hb⟩; have n0_ := Aside0.mk (Kd.R_below (by (with_reducible repeat (apply Kd.R_drewN)); exact (Kd.R_mono (Kd.R_far (p := ⟨gb328, 1, none⟩) (Kd.R_far (p := ⟨gb328, 0, none⟩) (Kd.R_types HO299.out BK328.out (by decide)) (fun _ hk => hk.2) (.int .i64 t323)) (fun _ hk => hk.2) (.slice Ao36 t324.length co36)) (fun _ h_ => h_.1))) hb); have n1_ := Aside0.mk (Kd.R_below (by (with_reducible repeat (apply Kd.R_drewN)); exact (Kd.R_mono (Kd.R_far (p := ⟨gb328, 1, none⟩) (Kd.R_far (p := ⟨gb328, 0, none⟩) (Kd.R_types HO303.out BK328.out (by decide)) (fun _ hk => hk.2) (.int .i64 t323)) (fun _ hk => hk.2) (.slice Ao36 t324.length co36)) (fun _ h_ => h_.1))) hb); have n2_ := Aside0.mk (Kd.R_below (by (with_reducible repeat (apply Kd.R_drewN)); exact (Kd.R_mono (Kd.R_far (p := ⟨gb328, 1, none⟩) (Kd.R_far (p := ⟨gb328, 0, none⟩) (Kd.R_types HO307.out BK328.out (by decide)) (fun _ hk => hk.2) (.int .i64 t323)) (fun _ hk => hk.2) (.slice Ao36 t324.length co36)) (fun _ h_ => h_.1))) hb); have n3_ := Aside0.mk (Kd.R_below (by (with_reducible repeat (apply Kd.R_drewN)); exact (Kd.R_mono (Kd.R_far (p := ⟨gb328, 1, none⟩) (Kd.R_far (p := ⟨gb328, 0, none⟩) (Kd.R_types HO311.out BK328.out (by decide)) (fun _ hk => hk.2) (.int .i64 t323)) (fun _ hk => hk.2) (.slice Ao36 t324.length co36)) (fun _ h_ => h_.1))) hb); have n4_ := Aside0.mk (Kd.R_below (by (with_reducible repeat (apply Kd.R_drewN)); exact (Kd.R_mono (Kd.R_far (p := ⟨gb328, 1, none⟩) (Kd.R_far (p := ⟨gb328, 0, none⟩) (Kd.R_types HO315.out BK328.out (by decide)) (fun _ hk => hk.2) (.int .i64 t323)) (fun _ hk => hk.2) (.slice Ao36 t324.length co36)) (fun _ h_ => h_.1))) hb); have n5_ := Aside0.mk (Kd.R_below (by (with_reducible repeat (apply Kd.R_drewN)); exact (Kd.R_mono (Kd.R_far (p := ⟨gb328, 1, none⟩) (Kd.R_far (p := ⟨gb328, 0, none⟩) (Kd.R_types HO320.out BK328.out (by decide)) (fun _ hk => hk.2) (.int .i64 t323)) (fun _ hk => hk.2) (.slice Ao36 t324.length co36)) (fun _ h_ => h_.1))) hb); have n6_ := Aside0.mk (Kd.R_below (by (with_reducible repeat (apply Kd.R_drewN)); exact (Kd.R_mono (Kd.R_far (p := ⟨gb328, 1, none⟩) (Kd.R_far (p := ⟨gb328, 0, none⟩) (Kd.R_types HO326.out BK328.out (by decide)) (fun _ hk => hk.2) (.int .i64 t323)) (fun _ hk => hk.2) (.slice Ao36 t324.length co36)) (fun _ h_ => h_.1))) hb); have n7_ := Aside0.mk (blk_below (g := gb300) (o := .cells #[.int .i64 t296, .slice Ao16 t297.length co16] 26 (0, 0)) (by (with_reducible repeat (refine blk_drewN ?_ _)); refine blk_far ?_ NB300_328.out _; (with_reducible repeat (fail)); refine blk_far ?_ NB300_328.out _; (with_reducible repeat (fail)); exact BK300.out) hb); have n8_ := Aside0.mk (blk_below (g := gb322) (o := .cells #[.int .i64 t317, .slice Ao29 t318.length co29] 26 (0, 0)) (by (with_reducible repeat (refine blk_drewN ?_ _)); refine blk_far ?_ NB322_328.out _; (with_reducible repeat (fail)); refine blk_far ?_ NB322_328.out _; (with_reducible repeat (fail)); exact BK322.out) hb); have n9_ := Aside0.mk (blk_below (g := gb328) (o := .cells #[.int .i64 t323, .slice Ao36 t324.length co36] 26 (0, 0)) (by (with_reducible repeat (refine blk_drewN ?_ _)); refine blk_put (cs := #[.int .i64 t323, .slice none 0 0]) ?_ 1 _ rfl; (with_reducible repeat (fail)); refine blk_put (cs := #[.int .i64 0, .slice none 0 0]) ?_ 0 _ rfl; (with_reducible repeat (fail)); exact BK328.out) hb); have n10_ := Aside0.mk (below_step (by repeat ((with_reducible first | exact HB.out | apply pw_below_drewN | refine below_set ?_ GE328.out))) hb); clear HO299; clear HO303; clear HO307; clear HO311; clear HO315; clear HO320; clear HO326; clear BK300; clear BK322; clear BK328; clear HB; have HO299 := n0_; have HO303 := n1_; have HO307 := n2_; have HO311 := n3_; have HO315 := n4_; have HO320 := n5_; have HO326 := n6_; have BK300 := n7_; have BK322 := n8_; have BK328 := n9_; have HB := n10_; clear n0_ n1_ n2_ n3_ n4_ n5_ n6_ n7_ n8_ n9_ n10_; (try clear hb); (try clear hb2); (try clear hk); (try clear hi); have hcz85_0 : w84.cell? ⟨gb300, 0, none⟩ = some (.int .i64 t296) := (blk_cell BK300.out 0).trans rfl; have hcz85_1 : w84.cell? ⟨gb300, 1, none⟩ = some (.slice Ao16 t297.length co16) := (blk_cell BK300.out 1).trans rfl; have hfz85_0 := blk_frozen BK300.out 0; have hfz85_1 := blk_frozen BK300.out 1) | (go_at_call 15; (with_reducible refine (impl_IsTournament.calls k t296 _ _ t297 t332 _ ?side1 ?side2 A74.out).mono ?_); (case side1 => repeat (exact (Kd.R_reads' HO299.out).2.2)); (case side2 => exact (Kd.R_reads' HO299.out).2.1); rintro e w86 ⟨rfl, hb⟩; have n0_ := Aside0.mk (Kd.R_below (by (with_reducible repeat (fail)); exact HO299.out) hb); have n1_ := Aside0.mk (Kd.R_below (by (with_reducible repeat (fail)); exact HO303.out) hb); have n2_ := Aside0.mk (Kd.R_below (by (with_reducible repeat (fail)); exact HO307.out) hb); have n3_ := Aside0.mk (Kd.R_below (by (with_reducible repeat (fail)); exact HO311.out) hb); have n4_ := Aside0.mk (Kd.R_below (by (with_reducible repeat (fail)); exact HO315.out) hb); have n5_ := Aside0.mk (Kd.R_below (by (with_reducible repeat (fail)); exact HO320.out) hb); have n6_ := Aside0.mk (Kd.R_below (by (with_reducible repeat (fail)); exact HO326.out) hb); have n7_ := Aside0.mk (blk_below (g := gb300) (o := .cells #[.int .i64 t296, .slice Ao16 t297.length co16] 26 (0, 0)) (by (with_reducible repeat (fail)); exact BK300.out) hb); have n8_ := Aside0.mk (blk_below (g := gb322) (o := .cells #[.int .i64 t317, .slice Ao29 t318.length co29] 26 (0, 0)) (by (with_reducible repeat (fail)); exact BK322.out) hb); have n9_ := Aside0.mk (blk_below (g := gb328) (o := .cells #[.int .i64 t323, .slice Ao36 t324.length co36] 26 (0, 0)) (by (with_reducible repeat (fail)); exact BK328.out) hb); have n10_ := Aside0.mk (below_step (by repeat ((with_reducible exact HB.out))) hb); clear HO299; clear HO303; clear HO307; clear HO311; clear HO315; clear HO320; clear HO326; clear BK300; clear BK322; clear BK328; clear HB; have HO299 := n0_; have HO303 := n1_; have HO307 := n2_; have HO311 := n3_; have HO315 := n4_; have HO320 := n5_; have HO326 := n6_; have BK300 := n7_; have BK322 := n8_; have BK328 := n9_; have HB := n10_; clear n0_ n1_ n2_ n3_ n4_ n5_ n6_ n7_ n8_ n9_ n10_; (try clear hb); (try clear hb2); (try clear hk); (try clear hi)))
            repeat (go_quiet (fail); try go_wp2_with (fail))
            go_meet
            case rel => exact ⟨_, ((t304 != t332)), (by first | rfl | (simp; done) | (simp [*]; done)), H', ⟨by first | omega | exact Nat.le_refl _⟩, ⟨by (with_reducible repeat (fail)); exact Kd.R_mono HO303.out (fun _ hk => ⟨hk.1.1.1.2, ⟨hk.1.1.1.1.1.2, ⟨hk.1.2, hk.2⟩⟩⟩)⟩, ⟨by (with_reducible repeat (fail)); exact Kd.R_mono HO311.out (fun _ hk => ⟨hk.1.1.1.1.2, ⟨hk.1.1.1.1.1.2, ⟨hk.1.2, hk.2⟩⟩⟩)⟩, ⟨by (with_reducible repeat (fail)); exact Kd.R_mono HO299.out (fun _ hk => ⟨hk.1.1.1.1.1.2, ⟨hk.1.1.1.2, ⟨hk.1.2, hk.2⟩⟩⟩)⟩, ⟨by (with_reducible repeat (fail)); exact Kd.R_mono HO320.out (fun _ hk => ⟨hk.1.1.1.1.2, ⟨hk.1.1.2, ⟨hk.1.1.1.1.1.2, hk.2⟩⟩⟩)⟩, ⟨by (with_reducible repeat (fail)); exact Kd.R_mono HO326.out (fun _ hk => ⟨hk.1.1.1.1.2, ⟨hk.1.1.2, ⟨hk.1.1.1.1.1.2, hk.2⟩⟩⟩)⟩, ⟨by (with_reducible repeat (fail)); exact BK300.out⟩, ⟨by (with_reducible repeat (fail)); exact BK322.out⟩, ⟨by (with_reducible repeat (fail)); exact BK328.out⟩, ⟨by repeat ((with_reducible exact HB.out))⟩⟩
         ·
          replace c51 := Bool.eq_false_iff.mpr c51
          subst c51
          have H1 : (laws_FnOrdersAndKings.j0 k t301 t304 t309 true t296 t297 t317 t318) = some r := by rw [if_neg (show ¬ (false = true) by decide)] at H; exact H
          clear H
          have H := H1
          clear H1
          have H' := Aside0.mk H
          clear H
          obtain ⟨Ao87, co87, eo87⟩ := Kd.R_slice HO303.out
          subst eo87
          obtain ⟨Ao88, co88, eo88⟩ := Kd.R_slice HO307.out
          subst eo88
          go_wp2_with (first | (go_at_call 13; (with_reducible refine (laws_ySame.calls k _ _ t301 _ _ t305 true _ ?side1 ?side2 ?side3 ?side4 A38.out).mono ?_); (case side1 => refine (Kd.R_reads' (e := 3) (base := w.heap.size) (ok := fun k_ => ((((((True ∧ some k_ ≠ (.slice Ao16 t297.length co16 : Value).ownBlock) ∧ some k_ ≠ (.slice Ao88 t305.length co88 : Value).ownBlock) ∧ some k_ ≠ (v310 : Value).ownBlock) ∧ some k_ ≠ (v314 : Value).ownBlock) ∧ some k_ ≠ (.slice Ao29 t318.length co29 : Value).ownBlock) ∧ some k_ ≠ (.slice Ao36 t324.length co36 : Value).ownBlock)) (n := t301.length) (c := co87) ?_).2.2; exact (by (with_reducible repeat (fail)); exact (Kd.R_mono (Kd.R_far (p := ⟨gb328, 1, none⟩) (Kd.R_far (p := ⟨gb328, 0, none⟩) (Kd.R_types HO303.out BK328.out (by decide)) (fun _ hk => hk.2) (.int .i64 t323)) (fun _ hk => hk.2) (.slice Ao36 t324.length co36)) (fun _ h_ => h_.1)))); (case side2 => exact (Kd.R_reads' HO303.out).2.1); (case side3 => refine (Kd.R_reads' (e := 3) (base := w.heap.size) (ok := fun k_ => ((((((True ∧ some k_ ≠ (.slice Ao16 t297.length co16 : Value).ownBlock) ∧ some k_ ≠ (.slice Ao87 t301.length co87 : Value).ownBlock) ∧ some k_ ≠ (v310 : Value).ownBlock) ∧ some k_ ≠ (v314 : Value).ownBlock) ∧ some k_ ≠ (.slice Ao29 t318.length co29 : Value).ownBlock) ∧ some k_ ≠ (.slice Ao36 t324.length co36 : Value).ownBlock)) (n := t305.length) (c := co88) ?_).2.2; exact (by (with_reducible repeat (fail)); exact (Kd.R_mono (Kd.R_far (p := ⟨gb328, 1, none⟩) (Kd.R_far (p := ⟨gb328, 0, none⟩) (Kd.R_types HO307.out BK328.out (by decide)) (fun _ hk => hk.2) (.int .i64 t323)) (fun _ hk => hk.2) (.slice Ao36 t324.length co36)) (fun _ h_ => h_.1)))); (case side4 => exact (Kd.R_reads' HO307.out).2.1); rintro e w' ⟨rfl, ⟨nd, rfl⟩⟩; (skip); obtain ⟨Ao89, co89, eo89⟩ := Kd.R_slice HO311.out; subst eo89; obtain ⟨Ao90, co90, eo90⟩ := Kd.R_slice HO315.out; subst eo90) | (go_at_call 13; (with_reducible refine (laws_ySame.calls k _ _ t309 _ _ t313 true _ ?side1 ?side2 ?side3 ?side4 A43.out).mono ?_); (case side1 => refine (Kd.R_reads' (e := 3) (base := w.heap.size) (ok := fun k_ => ((((((True ∧ some k_ ≠ (.slice Ao16 t297.length co16 : Value).ownBlock) ∧ some k_ ≠ (.slice Ao87 t301.length co87 : Value).ownBlock) ∧ some k_ ≠ (.slice Ao88 t305.length co88 : Value).ownBlock) ∧ some k_ ≠ (.slice Ao90 t313.length co90 : Value).ownBlock) ∧ some k_ ≠ (.slice Ao29 t318.length co29 : Value).ownBlock) ∧ some k_ ≠ (.slice Ao36 t324.length co36 : Value).ownBlock)) (n := t309.length) (c := co89) ?_).2.2; exact (by (with_reducible repeat (apply Kd.R_drewN)); exact (Kd.R_mono (Kd.R_far (p := ⟨gb328, 1, none⟩) (Kd.R_far (p := ⟨gb328, 0, none⟩) (Kd.R_types HO311.out BK328.out (by decide)) (fun _ hk => hk.2) (.int .i64 t323)) (fun _ hk => hk.2) (.slice Ao36 t324.length co36)) (fun _ h_ => h_.1)))); (case side2 => exact (Kd.R_reads' HO311.out).2.1); (case side3 => refine (Kd.R_reads' (e := 3) (base := w.heap.size) (ok := fun k_ => ((((((True ∧ some k_ ≠ (.slice Ao16 t297.length co16 : Value).ownBlock) ∧ some k_ ≠ (.slice Ao87 t301.length co87 : Value).ownBlock) ∧ some k_ ≠ (.slice Ao88 t305.length co88 : Value).ownBlock) ∧ some k_ ≠ (.slice Ao89 t309.length co89 : Value).ownBlock) ∧ some k_ ≠ (.slice Ao29 t318.length co29 : Value).ownBlock) ∧ some k_ ≠ (.slice Ao36 t324.length co36 : Value).ownBlock)) (n := t313.length) (c := co90) ?_).2.2; exact (by (with_reducible repeat (apply Kd.R_drewN)); exact (Kd.R_mono (Kd.R_far (p := ⟨gb328, 1, none⟩) (Kd.R_far (p := ⟨gb328, 0, none⟩) (Kd.R_types HO315.out BK328.out (by decide)) (fun _ hk => hk.2) (.int .i64 t323)) (fun _ hk => hk.2) (.slice Ao36 t324.length co36)) (fun _ h_ => h_.1)))); (case side4 => exact (Kd.R_reads' HO315.out).2.1); rintro e w' ⟨rfl, ⟨nd, rfl⟩⟩; (skip); have hnb91 := NB322_300.out; have hnc91 := NB300_322.out; have hnb92 := NB322_328.out; have hnc92 := NB328_322.out; have hcz93_0 : w32.cell? ⟨gb322, 0, none⟩ = some (.int .i64 t317) := (blk_cell BK322.out 0).trans rfl; have hcz93_1 : w32.cell? ⟨gb322, 1, none⟩ = some (.slice Ao29 t318.length co29) := (blk_cell BK322.out 1).trans rfl; have hfz93_0 := blk_frozen BK322.out 0; have hfz93_1 := blk_frozen BK322.out 1; have hnb94 := NB328_300.out; have hnc94 := NB300_328.out; have hcz95_0 : w32.cell? ⟨gb328, 0, none⟩ = some (.int .i64 0) := (blk_cell BK328.out 0).trans rfl; have hcz95_1 : w32.cell? ⟨gb328, 1, none⟩ = some (.slice none 0 0) := (blk_cell BK328.out 1).trans rfl; have hfz95_0 := blk_frozen BK328.out 0; have hfz95_1 := blk_frozen BK328.out 1) | (go_at_call 14; (with_reducible refine (laws_yTournament.calls k t317 _ _ t318 t323 _ _ t324 false _ ?side1 ?side2 ?side3 ?side4 A50.out).mono ?_); (case side1 => refine (Kd.R_reads' (e := 3) (base := w.heap.size) (ok := fun k_ => ((((((True ∧ some k_ ≠ (.slice Ao16 t297.length co16 : Value).ownBlock) ∧ some k_ ≠ (.slice Ao87 t301.length co87 : Value).ownBlock) ∧ some k_ ≠ (.slice Ao88 t305.length co88 : Value).ownBlock) ∧ some k_ ≠ (.slice Ao89 t309.length co89 : Value).ownBlock) ∧ some k_ ≠ (.slice Ao90 t313.length co90 : Value).ownBlock) ∧ some k_ ≠ (.slice Ao36 t324.length co36 : Value).ownBlock)) (n := t318.length) (c := co29) ?_).2.2; exact (by (with_reducible repeat (apply Kd.R_drewN)); exact (Kd.R_mono (Kd.R_far (p := ⟨gb328, 1, none⟩) (Kd.R_far (p := ⟨gb328, 0, none⟩) (Kd.R_types HO320.out BK328.out (by decide)) (fun _ hk => hk.2) (.int .i64 t323)) (fun _ hk => hk.2) (.slice Ao36 t324.length co36)) (fun _ h_ => h_.1)))); (case side2 => exact (Kd.R_reads' HO320.out).2.1); (case side3 => refine (Kd.R_reads' (e := 3) (base := w.heap.size) (ok := fun k_ => ((((((True ∧ some k_ ≠ (.slice Ao16 t297.length co16 : Value).ownBlock) ∧ some k_ ≠ (.slice Ao87 t301.length co87 : Value).ownBlock) ∧ some k_ ≠ (.slice Ao88 t305.length co88 : Value).ownBlock) ∧ some k_ ≠ (.slice Ao89 t309.length co89 : Value).ownBlock) ∧ some k_ ≠ (.slice Ao90 t313.length co90 : Value).ownBlock) ∧ some k_ ≠ (.slice Ao29 t318.length co29 : Value).ownBlock)) (n := t324.length) (c := co36) ?_).2.2; exact (by (with_reducible repeat (apply Kd.R_drewN)); exact (Kd.R_mono (Kd.R_far (p := ⟨gb328, 1, none⟩) (Kd.R_far (p := ⟨gb328, 0, none⟩) (Kd.R_types HO326.out BK328.out (by decide)) (fun _ hk => hk.2) (.int .i64 t323)) (fun _ hk => hk.2) (.slice Ao36 t324.length co36)) (fun _ h_ => h_.1)))); (case side4 => exact (Kd.R_reads' HO326.out).2.1); rintro e w96 ⟨rfl, hb⟩; have n0_ := Aside0.mk (Kd.R_below (by (with_reducible repeat (apply Kd.R_drewN)); exact (Kd.R_mono (Kd.R_far (p := ⟨gb328, 1, none⟩) (Kd.R_far (p := ⟨gb328, 0, none⟩) (Kd.R_types HO299.out BK328.out (by decide)) (fun _ hk => hk.2) (.int .i64 t323)) (fun _ hk => hk.2) (.slice Ao36 t324.length co36)) (fun _ h_ => h_.1))) hb); have n1_ := Aside0.mk (Kd.R_below (by (with_reducible repeat (apply Kd.R_drewN)); exact (Kd.R_mono (Kd.R_far (p := ⟨gb328, 1, none⟩) (Kd.R_far (p := ⟨gb328, 0, none⟩) (Kd.R_types HO303.out BK328.out (by decide)) (fun _ hk => hk.2) (.int .i64 t323)) (fun _ hk => hk.2) (.slice Ao36 t324.length co36)) (fun _ h_ => h_.1))) hb); have n2_ := Aside0.mk (Kd.R_below (by (with_reducible repeat (apply Kd.R_drewN)); exact (Kd.R_mono (Kd.R_far (p := ⟨gb328, 1, none⟩) (Kd.R_far (p := ⟨gb328, 0, none⟩) (Kd.R_types HO307.out BK328.out (by decide)) (fun _ hk => hk.2) (.int .i64 t323)) (fun _ hk => hk.2) (.slice Ao36 t324.length co36)) (fun _ h_ => h_.1))) hb); have n3_ := Aside0.mk (Kd.R_below (by (with_reducible repeat (apply Kd.R_drewN)); exact (Kd.R_mono (Kd.R_far (p := ⟨gb328, 1, none⟩) (Kd.R_far (p := ⟨gb328, 0, none⟩) (Kd.R_types HO311.out BK328.out (by decide)) (fun _ hk => hk.2) (.int .i64 t323)) (fun _ hk => hk.2) (.slice Ao36 t324.length co36)) (fun _ h_ => h_.1))) hb); have n4_ := Aside0.mk (Kd.R_below (by (with_reducible repeat (apply Kd.R_drewN)); exact (Kd.R_mono (Kd.R_far (p := ⟨gb328, 1, none⟩) (Kd.R_far (p := ⟨gb328, 0, none⟩) (Kd.R_types HO315.out BK328.out (by decide)) (fun _ hk => hk.2) (.int .i64 t323)) (fun _ hk => hk.2) (.slice Ao36 t324.length co36)) (fun _ h_ => h_.1))) hb); have n5_ := Aside0.mk (Kd.R_below (by (with_reducible repeat (apply Kd.R_drewN)); exact (Kd.R_mono (Kd.R_far (p := ⟨gb328, 1, none⟩) (Kd.R_far (p := ⟨gb328, 0, none⟩) (Kd.R_types HO320.out BK328.out (by decide)) (fun _ hk => hk.2) (.int .i64 t323)) (fun _ hk => hk.2) (.slice Ao36 t324.length co36)) (fun _ h_ => h_.1))) hb); have n6_ := Aside0.mk (Kd.R_below (by (with_reducible repeat (apply Kd.R_drewN)); exact (Kd.R_mono (Kd.R_far (p := ⟨gb328, 1, none⟩) (Kd.R_far (p := ⟨gb328, 0, none⟩) (Kd.R_types HO326.out BK328.out (by decide)) (fun _ hk => hk.2) (.int .i64 t323)) (fun _ hk => hk.2) (.slice Ao36 t324.length co36)) (fun _ h_ => h_.1))) hb); have n7_ := Aside0.mk (blk_below (g := gb300) (o := .cells #[.int .i64 t296, .slice Ao16 t297.length co16] 26 (0, 0)) (by (with_reducible repeat (refine blk_drewN ?_ _)); refine blk_far ?_ NB300_328.out _; (with_reducible repeat (fail)); refine blk_far ?_ NB300_328.out _; (with_reducible repeat (fail)); exact BK300.out) hb); have n8_ := Aside0.mk (blk_below (g := gb322) (o := .cells #[.int .i64 t317, .slice Ao29 t318.length co29] 26 (0, 0)) (by (with_reducible repeat (refine blk_drewN ?_ _)); refine blk_far ?_ NB322_328.out _; (with_reducible repeat (fail)); refine blk_far ?_ NB322_328.out _; (with_reducible repeat (fail)); exact BK322.out) hb); have n9_ := Aside0.mk (blk_below (g := gb328) (o := .cells #[.int .i64 t323, .slice Ao36 t324.length co36] 26 (0, 0)) (by (with_reducible repeat (refine blk_drewN ?_ _)); refine blk_put (cs := #[.int .i64 t323, .slice none 0 0]) ?_ 1 _ rfl; (with_reducible repeat (fail)); refine blk_put (cs := #[.int .i64 0, .slice none 0 0]) ?_ 0 _ rfl; (with_reducible repeat (fail)); exact BK328.out) hb); have n10_ := Aside0.mk (below_step (by repeat ((with_reducible first | exact HB.out | apply pw_below_drewN | refine below_set ?_ GE328.out))) hb); clear HO299; clear HO303; clear HO307; clear HO311; clear HO315; clear HO320; clear HO326; clear BK300; clear BK322; clear BK328; clear HB; have HO299 := n0_; have HO303 := n1_; have HO307 := n2_; have HO311 := n3_; have HO315 := n4_; have HO320 := n5_; have HO326 := n6_; have BK300 := n7_; have BK322 := n8_; have BK328 := n9_; have HB := n10_; clear n0_ n1_ n2_ n3_ n4_ n5_ n6_ n7_ n8_ n9_ n10_; (try clear hb); (try clear hb2); (try clear hk); (try clear hi)))
          repeat (go_quiet (fail); try go_wp2_with (fail))
          go_meet
          case rel => exact ⟨_, (true), (by first | rfl | (simp; done) | (simp [*]; done)), H', ⟨by first | omega | exact Nat.le_refl _⟩, ⟨by (with_reducible repeat (fail)); exact Kd.R_mono HO303.out (fun _ hk => ⟨hk.1.1.1.2, ⟨hk.1.1.1.1.1.2, ⟨hk.1.2, hk.2⟩⟩⟩)⟩, ⟨by (with_reducible repeat (fail)); exact Kd.R_mono HO311.out (fun _ hk => ⟨hk.1.1.1.1.2, ⟨hk.1.1.1.1.1.2, ⟨hk.1.2, hk.2⟩⟩⟩)⟩, ⟨by (with_reducible repeat (fail)); exact Kd.R_mono HO299.out (fun _ hk => ⟨hk.1.1.1.1.1.2, ⟨hk.1.1.1.2, ⟨hk.1.2, hk.2⟩⟩⟩)⟩, ⟨by (with_reducible repeat (fail)); exact Kd.R_mono HO320.out (fun _ hk => ⟨hk.1.1.1.1.2, ⟨hk.1.1.2, ⟨hk.1.1.1.1.1.2, hk.2⟩⟩⟩)⟩, ⟨by (with_reducible repeat (fail)); exact Kd.R_mono HO326.out (fun _ hk => ⟨hk.1.1.1.1.2, ⟨hk.1.1.2, ⟨hk.1.1.1.1.1.2, hk.2⟩⟩⟩)⟩, ⟨by (with_reducible repeat (fail)); exact BK300.out⟩, ⟨by (with_reducible repeat (fail)); exact BK322.out⟩, ⟨by (with_reducible repeat (fail)); exact BK328.out⟩, ⟨by repeat ((with_reducible exact HB.out))⟩⟩
       ·
        replace c44 := Bool.eq_false_iff.mpr c44
        subst c44
        have H1 : (laws_FnOrdersAndKings.j0 k t301 t304 t309 true t296 t297 t317 t318) = some r := by rw [if_neg (show ¬ (false = true) by decide)] at H; exact H
        clear H
        have H := H1
        clear H1
        have H' := Aside0.mk H
        clear H
        obtain ⟨Ao97, co97, eo97⟩ := Kd.R_slice HO303.out
        subst eo97
        obtain ⟨Ao98, co98, eo98⟩ := Kd.R_slice HO307.out
        subst eo98
        go_wp2_with (first | (go_at_call 13; (with_reducible refine (laws_ySame.calls k _ _ t301 _ _ t305 true _ ?side1 ?side2 ?side3 ?side4 A38.out).mono ?_); (case side1 => refine (Kd.R_reads' (e := 3) (base := w.heap.size) (ok := fun k_ => ((((((True ∧ some k_ ≠ (.slice Ao16 t297.length co16 : Value).ownBlock) ∧ some k_ ≠ (.slice Ao98 t305.length co98 : Value).ownBlock) ∧ some k_ ≠ (v310 : Value).ownBlock) ∧ some k_ ≠ (v314 : Value).ownBlock) ∧ some k_ ≠ (.slice Ao29 t318.length co29 : Value).ownBlock) ∧ some k_ ≠ (.slice Ao36 t324.length co36 : Value).ownBlock)) (n := t301.length) (c := co97) ?_).2.2; exact (by (with_reducible repeat (fail)); exact (Kd.R_mono (Kd.R_far (p := ⟨gb328, 1, none⟩) (Kd.R_far (p := ⟨gb328, 0, none⟩) (Kd.R_types HO303.out BK328.out (by decide)) (fun _ hk => hk.2) (.int .i64 t323)) (fun _ hk => hk.2) (.slice Ao36 t324.length co36)) (fun _ h_ => h_.1)))); (case side2 => exact (Kd.R_reads' HO303.out).2.1); (case side3 => refine (Kd.R_reads' (e := 3) (base := w.heap.size) (ok := fun k_ => ((((((True ∧ some k_ ≠ (.slice Ao16 t297.length co16 : Value).ownBlock) ∧ some k_ ≠ (.slice Ao97 t301.length co97 : Value).ownBlock) ∧ some k_ ≠ (v310 : Value).ownBlock) ∧ some k_ ≠ (v314 : Value).ownBlock) ∧ some k_ ≠ (.slice Ao29 t318.length co29 : Value).ownBlock) ∧ some k_ ≠ (.slice Ao36 t324.length co36 : Value).ownBlock)) (n := t305.length) (c := co98) ?_).2.2; exact (by (with_reducible repeat (fail)); exact (Kd.R_mono (Kd.R_far (p := ⟨gb328, 1, none⟩) (Kd.R_far (p := ⟨gb328, 0, none⟩) (Kd.R_types HO307.out BK328.out (by decide)) (fun _ hk => hk.2) (.int .i64 t323)) (fun _ hk => hk.2) (.slice Ao36 t324.length co36)) (fun _ h_ => h_.1)))); (case side4 => exact (Kd.R_reads' HO307.out).2.1); rintro e w' ⟨rfl, ⟨nd, rfl⟩⟩; (skip); obtain ⟨Ao99, co99, eo99⟩ := Kd.R_slice HO311.out; subst eo99; obtain ⟨Ao100, co100, eo100⟩ := Kd.R_slice HO315.out; subst eo100) | (go_at_call 13; (with_reducible refine (laws_ySame.calls k _ _ t309 _ _ t313 false _ ?side1 ?side2 ?side3 ?side4 A43.out).mono ?_); (case side1 => refine (Kd.R_reads' (e := 3) (base := w.heap.size) (ok := fun k_ => ((((((True ∧ some k_ ≠ (.slice Ao16 t297.length co16 : Value).ownBlock) ∧ some k_ ≠ (.slice Ao97 t301.length co97 : Value).ownBlock) ∧ some k_ ≠ (.slice Ao98 t305.length co98 : Value).ownBlock) ∧ some k_ ≠ (.slice Ao100 t313.length co100 : Value).ownBlock) ∧ some k_ ≠ (.slice Ao29 t318.length co29 : Value).ownBlock) ∧ some k_ ≠ (.slice Ao36 t324.length co36 : Value).ownBlock)) (n := t309.length) (c := co99) ?_).2.2; exact (by (with_reducible repeat (apply Kd.R_drewN)); exact (Kd.R_mono (Kd.R_far (p := ⟨gb328, 1, none⟩) (Kd.R_far (p := ⟨gb328, 0, none⟩) (Kd.R_types HO311.out BK328.out (by decide)) (fun _ hk => hk.2) (.int .i64 t323)) (fun _ hk => hk.2) (.slice Ao36 t324.length co36)) (fun _ h_ => h_.1)))); (case side2 => exact (Kd.R_reads' HO311.out).2.1); (case side3 => refine (Kd.R_reads' (e := 3) (base := w.heap.size) (ok := fun k_ => ((((((True ∧ some k_ ≠ (.slice Ao16 t297.length co16 : Value).ownBlock) ∧ some k_ ≠ (.slice Ao97 t301.length co97 : Value).ownBlock) ∧ some k_ ≠ (.slice Ao98 t305.length co98 : Value).ownBlock) ∧ some k_ ≠ (.slice Ao99 t309.length co99 : Value).ownBlock) ∧ some k_ ≠ (.slice Ao29 t318.length co29 : Value).ownBlock) ∧ some k_ ≠ (.slice Ao36 t324.length co36 : Value).ownBlock)) (n := t313.length) (c := co100) ?_).2.2; exact (by (with_reducible repeat (apply Kd.R_drewN)); exact (Kd.R_mono (Kd.R_far (p := ⟨gb328, 1, none⟩) (Kd.R_far (p := ⟨gb328, 0, none⟩) (Kd.R_types HO315.out BK328.out (by decide)) (fun _ hk => hk.2) (.int .i64 t323)) (fun _ hk => hk.2) (.slice Ao36 t324.length co36)) (fun _ h_ => h_.1)))); (case side4 => exact (Kd.R_reads' HO315.out).2.1); rintro e w' ⟨rfl, ⟨nd, rfl⟩⟩; (skip)))
        repeat (go_quiet (fail); try go_wp2_with (fail))
        go_meet
        case rel => exact ⟨_, (true), (by first | rfl | (simp; done) | (simp [*]; done)), H', ⟨by first | omega | exact Nat.le_refl _⟩, ⟨by (with_reducible repeat (apply Kd.R_drewN)); exact Kd.R_mono (Kd.R_far (p := ⟨gb328, 1, none⟩) (Kd.R_far (p := ⟨gb328, 0, none⟩) (Kd.R_types HO303.out BK328.out (by decide)) (fun _ hk => hk.2) (.int .i64 t323)) (fun _ hk => hk.2) (.slice Ao36 t324.length co36)) (fun _ hk => ⟨hk.1.1.1.1.2, ⟨hk.1.1.1.1.1.1.2, ⟨hk.1.1.2, hk.1.2⟩⟩⟩)⟩, ⟨by (with_reducible repeat (apply Kd.R_drewN)); exact Kd.R_mono (Kd.R_far (p := ⟨gb328, 1, none⟩) (Kd.R_far (p := ⟨gb328, 0, none⟩) (Kd.R_types HO311.out BK328.out (by decide)) (fun _ hk => hk.2) (.int .i64 t323)) (fun _ hk => hk.2) (.slice Ao36 t324.length co36)) (fun _ hk => ⟨hk.1.1.1.1.1.2, ⟨hk.1.1.1.1.1.1.2, ⟨hk.1.1.2, hk.1.2⟩⟩⟩)⟩, ⟨by (with_reducible repeat (apply Kd.R_drewN)); exact Kd.R_mono (Kd.R_far (p := ⟨gb328, 1, none⟩) (Kd.R_far (p := ⟨gb328, 0, none⟩) (Kd.R_types HO299.out BK328.out (by decide)) (fun _ hk => hk.2) (.int .i64 t323)) (fun _ hk => hk.2) (.slice Ao36 t324.length co36)) (fun _ hk => ⟨hk.1.1.1.1.1.1.2, ⟨hk.1.1.1.1.2, ⟨hk.1.1.2, hk.1.2⟩⟩⟩)⟩, ⟨by (with_reducible repeat (apply Kd.R_drewN)); exact Kd.R_mono (Kd.R_far (p := ⟨gb328, 1, none⟩) (Kd.R_far (p := ⟨gb328, 0, none⟩) (Kd.R_types HO320.out BK328.out (by decide)) (fun _ hk => hk.2) (.int .i64 t323)) (fun _ hk => hk.2) (.slice Ao36 t324.length co36)) (fun _ hk => ⟨hk.1.1.1.1.1.2, ⟨hk.1.1.1.2, ⟨hk.1.1.1.1.1.1.2, hk.1.2⟩⟩⟩)⟩, ⟨by (with_reducible repeat (apply Kd.R_drewN)); exact Kd.R_mono (Kd.R_far (p := ⟨gb328, 1, none⟩) (Kd.R_far (p := ⟨gb328, 0, none⟩) (Kd.R_types HO326.out BK328.out (by decide)) (fun _ hk => hk.2) (.int .i64 t323)) (fun _ hk => hk.2) (.slice Ao36 t324.length co36)) (fun _ hk => ⟨hk.1.1.1.1.1.2, ⟨hk.1.1.1.2, ⟨hk.1.1.1.1.1.1.2, hk.1.2⟩⟩⟩)⟩, ⟨by (with_reducible repeat (refine blk_drewN ?_ _)); refine blk_far ?_ NB300_328.out _; (with_reducible repeat (fail)); refine blk_far ?_ NB300_328.out _; (with_reducible repeat (fail)); exact BK300.out⟩, ⟨by (with_reducible repeat (refine blk_drewN ?_ _)); refine blk_far ?_ NB322_328.out _; (with_reducible repeat (fail)); refine blk_far ?_ NB322_328.out _; (with_reducible repeat (fail)); exact BK322.out⟩, ⟨by (with_reducible repeat (refine blk_drewN ?_ _)); refine blk_put (cs := #[.int .i64 t323, .slice none 0 0]) ?_ 1 _ rfl; (with_reducible repeat (fail)); refine blk_put (cs := #[.int .i64 0, .slice none 0 0]) ?_ 0 _ rfl; (with_reducible repeat (fail)); exact BK328.out⟩, ⟨by repeat ((with_reducible first | exact HB.out | apply pw_below_drewN | refine below_set ?_ GE328.out))⟩⟩
     ·
      replace c39 := Bool.eq_false_iff.mpr c39
      subst c39
      have H1 : (laws_FnOrdersAndKings.j0 k t301 t304 t309 true t296 t297 t317 t318) = some r := by rw [if_neg (show ¬ (false = true) by decide)] at H; exact H
      clear H
      have H := H1
      clear H1
      have H' := Aside0.mk H
      clear H
      obtain ⟨Ao101, co101, eo101⟩ := Kd.R_slice HO303.out
      subst eo101
      obtain ⟨Ao102, co102, eo102⟩ := Kd.R_slice HO307.out
      subst eo102
      go_wp2_with ((go_at_call 13; (with_reducible refine (laws_ySame.calls k _ _ t301 _ _ t305 false _ ?side1 ?side2 ?side3 ?side4 A38.out).mono ?_); (case side1 => refine (Kd.R_reads' (e := 3) (base := w.heap.size) (ok := fun k_ => ((((((True ∧ some k_ ≠ (.slice Ao16 t297.length co16 : Value).ownBlock) ∧ some k_ ≠ (.slice Ao102 t305.length co102 : Value).ownBlock) ∧ some k_ ≠ (v310 : Value).ownBlock) ∧ some k_ ≠ (v314 : Value).ownBlock) ∧ some k_ ≠ (.slice Ao29 t318.length co29 : Value).ownBlock) ∧ some k_ ≠ (.slice Ao36 t324.length co36 : Value).ownBlock)) (n := t301.length) (c := co101) ?_).2.2; exact (by (with_reducible repeat (fail)); exact (Kd.R_mono (Kd.R_far (p := ⟨gb328, 1, none⟩) (Kd.R_far (p := ⟨gb328, 0, none⟩) (Kd.R_types HO303.out BK328.out (by decide)) (fun _ hk => hk.2) (.int .i64 t323)) (fun _ hk => hk.2) (.slice Ao36 t324.length co36)) (fun _ h_ => h_.1)))); (case side2 => exact (Kd.R_reads' HO303.out).2.1); (case side3 => refine (Kd.R_reads' (e := 3) (base := w.heap.size) (ok := fun k_ => ((((((True ∧ some k_ ≠ (.slice Ao16 t297.length co16 : Value).ownBlock) ∧ some k_ ≠ (.slice Ao101 t301.length co101 : Value).ownBlock) ∧ some k_ ≠ (v310 : Value).ownBlock) ∧ some k_ ≠ (v314 : Value).ownBlock) ∧ some k_ ≠ (.slice Ao29 t318.length co29 : Value).ownBlock) ∧ some k_ ≠ (.slice Ao36 t324.length co36 : Value).ownBlock)) (n := t305.length) (c := co102) ?_).2.2; exact (by (with_reducible repeat (fail)); exact (Kd.R_mono (Kd.R_far (p := ⟨gb328, 1, none⟩) (Kd.R_far (p := ⟨gb328, 0, none⟩) (Kd.R_types HO307.out BK328.out (by decide)) (fun _ hk => hk.2) (.int .i64 t323)) (fun _ hk => hk.2) (.slice Ao36 t324.length co36)) (fun _ h_ => h_.1)))); (case side4 => exact (Kd.R_reads' HO307.out).2.1); rintro e w' ⟨rfl, ⟨nd, rfl⟩⟩; (skip)))
      repeat (go_quiet (fail); try go_wp2_with (fail))
      go_meet
      case rel => exact ⟨_, (true), (by first | rfl | (simp; done) | (simp [*]; done)), H', ⟨by first | omega | exact Nat.le_refl _⟩, ⟨by (with_reducible repeat (apply Kd.R_drewN)); exact Kd.R_mono (Kd.R_far (p := ⟨gb328, 1, none⟩) (Kd.R_far (p := ⟨gb328, 0, none⟩) (Kd.R_types HO303.out BK328.out (by decide)) (fun _ hk => hk.2) (.int .i64 t323)) (fun _ hk => hk.2) (.slice Ao36 t324.length co36)) (fun _ hk => ⟨hk.1.1.1.1.2, ⟨hk.1.1.1.1.1.1.2, ⟨hk.1.1.2, hk.1.2⟩⟩⟩)⟩, ⟨by (with_reducible repeat (apply Kd.R_drewN)); exact Kd.R_mono (Kd.R_far (p := ⟨gb328, 1, none⟩) (Kd.R_far (p := ⟨gb328, 0, none⟩) (Kd.R_types HO311.out BK328.out (by decide)) (fun _ hk => hk.2) (.int .i64 t323)) (fun _ hk => hk.2) (.slice Ao36 t324.length co36)) (fun _ hk => ⟨hk.1.1.1.1.1.2, ⟨hk.1.1.1.1.1.1.2, ⟨hk.1.1.2, hk.1.2⟩⟩⟩)⟩, ⟨by (with_reducible repeat (apply Kd.R_drewN)); exact Kd.R_mono (Kd.R_far (p := ⟨gb328, 1, none⟩) (Kd.R_far (p := ⟨gb328, 0, none⟩) (Kd.R_types HO299.out BK328.out (by decide)) (fun _ hk => hk.2) (.int .i64 t323)) (fun _ hk => hk.2) (.slice Ao36 t324.length co36)) (fun _ hk => ⟨hk.1.1.1.1.1.1.2, ⟨hk.1.1.1.1.2, ⟨hk.1.1.2, hk.1.2⟩⟩⟩)⟩, ⟨by (with_reducible repeat (apply Kd.R_drewN)); exact Kd.R_mono (Kd.R_far (p := ⟨gb328, 1, none⟩) (Kd.R_far (p := ⟨gb328, 0, none⟩) (Kd.R_types HO320.out BK328.out (by decide)) (fun _ hk => hk.2) (.int .i64 t323)) (fun _ hk => hk.2) (.slice Ao36 t324.length co36)) (fun _ hk => ⟨hk.1.1.1.1.1.2, ⟨hk.1.1.1.2, ⟨hk.1.1.1.1.1.1.2, hk.1.2⟩⟩⟩)⟩, ⟨by (with_reducible repeat (apply Kd.R_drewN)); exact Kd.R_mono (Kd.R_far (p := ⟨gb328, 1, none⟩) (Kd.R_far (p := ⟨gb328, 0, none⟩) (Kd.R_types HO326.out BK328.out (by decide)) (fun _ hk => hk.2) (.int .i64 t323)) (fun _ hk => hk.2) (.slice Ao36 t324.length co36)) (fun _ hk => ⟨hk.1.1.1.1.1.2, ⟨hk.1.1.1.2, ⟨hk.1.1.1.1.1.1.2, hk.1.2⟩⟩⟩)⟩, ⟨by (with_reducible repeat (refine blk_drewN ?_ _)); refine blk_far ?_ NB300_328.out _; (with_reducible repeat (fail)); refine blk_far ?_ NB300_328.out _; (with_reducible repeat (fail)); exact BK300.out⟩, ⟨by (with_reducible repeat (refine blk_drewN ?_ _)); refine blk_far ?_ NB322_328.out _; (with_reducible repeat (fail)); refine blk_far ?_ NB322_328.out _; (with_reducible repeat (fail)); exact BK322.out⟩, ⟨by (with_reducible repeat (refine blk_drewN ?_ _)); refine blk_put (cs := #[.int .i64 t323, .slice none 0 0]) ?_ 1 _ rfl; (with_reducible repeat (fail)); refine blk_put (cs := #[.int .i64 0, .slice none 0 0]) ?_ 0 _ rfl; (with_reducible repeat (fail)); exact BK328.out⟩, ⟨by repeat ((with_reducible first | exact HB.out | apply pw_below_drewN | refine below_set ?_ GE328.out))⟩⟩
  case rest =>
   as_aux_lemma =>
    clear HC12
    clear hcz15_0 hcz15_1 hcz18_0 hcz18_1 hcz20_0 hcz20_1 hcz22_0 hcz22_1 hcz24_0 hcz24_1 hcz28_0 hcz28_1 hcz30_0 hcz30_1 hcz35_0 hcz35_1 hfz15_0 hfz15_1 hfz18_0 hfz18_1 hfz20_0 hfz20_1 hfz22_0 hfz22_1 hfz24_0 hfz24_1 hfz28_0 hfz28_1 hfz30_0 hfz30_1 hfz35_0 hfz35_1
    obtain ⟨kq, x110_11, rfl, HA, HJ11, HO_6, HO_10, HO_301001, HO_323001, HO_329001, BK300, BK322, BK328, HB⟩ := hcut
    cases kq with
    | zero => exact absurd HA.out (by simp [laws_FnOrdersAndKings.j0])
    | succ kj11 =>
     have H := HA.out
     clear HA
     simp only [laws_FnOrdersAndKings.j0] at H
     by_cases c103 : x110_11 = true
     ·
      subst c103
      have H1 : (some false) = some r := by rw [if_pos rfl] at H; exact H
      clear H
      have H := H1
      clear H1
      obtain rfl := Option.some.inj H
      go_wp2
      repeat (go_quiet (fail); try go_wp2)
      go_ret
      exact ⟨by first | rfl | (simp [errW_none, errW_some] <;> rfl) | (simp [*, errW_none, errW_some] <;> rfl), by repeat ((with_reducible exact HB.out))⟩
     ·
      replace c103 := Bool.eq_false_iff.mpr c103
      subst c103
      have H1 : (if t304 = true then (if (t301.length : Int) = t296 then (if (t309.length : Int) = 0 then (laws_FnOrdersAndKings.j1 kj11 t301 t309 true t296 t297 t317 t318) else (laws_FnOrdersAndKings.j1 kj11 t301 t309 ((t309.length : Int) == 2) t296 t297 t317 t318)) else (laws_FnOrdersAndKings.j1 kj11 t301 t309 true t296 t297 t317 t318)) else (some true)) = some r := by rw [if_neg (show ¬ (false = true) by decide)] at H; exact H
      clear H
      have H := H1
      clear H1
      by_cases c104 : t304 = true
      ·
       subst c104
       have H1 : (if (t301.length : Int) = t296 then (if (t309.length : Int) = 0 then (laws_FnOrdersAndKings.j1 kj11 t301 t309 true t296 t297 t317 t318) else (laws_FnOrdersAndKings.j1 kj11 t301 t309 ((t309.length : Int) == 2) t296 t297 t317 t318)) else (laws_FnOrdersAndKings.j1 kj11 t301 t309 true t296 t297 t317 t318)) = some r := by rw [if_pos rfl] at H; exact H
       clear H
       have H := H1
       clear H1
       have HC105 := Aside0.mk H
       clear H
       go_upto_region 14 with (fail)
       repeat (go_quiet (fail); go_upto_region 14 with (fail))
       go_cut [127] (fun v127 wc => ∃ (kq : Nat) (x127_104 : Bool), v127 = .bool x127_104 ∧ Aside0 (laws_FnOrdersAndKings.j1 kq t301 t309 x127_104 t296 t297 t317 t318 = some r) ∧ Aside0 (kq ≤ kj11) ∧ Aside0 (Kd.R (Kd.int .i64) 3 wc w.heap.size (fun k_ => some k_ ≠ (v310 : Value).ownBlock ∧ some k_ ≠ ((.slice Ao16 t297.length co16) : Value).ownBlock ∧ some k_ ≠ ((.slice Ao29 t318.length co29) : Value).ownBlock ∧ some k_ ≠ ((.slice Ao36 t324.length co36) : Value).ownBlock) v302 t301) ∧ Aside0 (Kd.R (Kd.int .i64) 3 wc w.heap.size (fun k_ => some k_ ≠ (v302 : Value).ownBlock ∧ some k_ ≠ ((.slice Ao16 t297.length co16) : Value).ownBlock ∧ some k_ ≠ ((.slice Ao29 t318.length co29) : Value).ownBlock ∧ some k_ ≠ ((.slice Ao36 t324.length co36) : Value).ownBlock) v310 t309) ∧ Aside0 (Kd.R (Kd.int .i64) 3 wc w.heap.size (fun k_ => some k_ ≠ (v302 : Value).ownBlock ∧ some k_ ≠ (v310 : Value).ownBlock ∧ some k_ ≠ ((.slice Ao29 t318.length co29) : Value).ownBlock ∧ some k_ ≠ ((.slice Ao36 t324.length co36) : Value).ownBlock) (.slice Ao16 t297.length co16) t297) ∧ Aside0 (Kd.R (Kd.int .i64) 3 wc w.heap.size (fun k_ => some k_ ≠ (v302 : Value).ownBlock ∧ some k_ ≠ (v310 : Value).ownBlock ∧ some k_ ≠ ((.slice Ao16 t297.length co16) : Value).ownBlock ∧ some k_ ≠ ((.slice Ao36 t324.length co36) : Value).ownBlock) (.slice Ao29 t318.length co29) t318) ∧ Aside0 (Kd.R (Kd.int .i64) 3 wc w.heap.size (fun k_ => some k_ ≠ (v302 : Value).ownBlock ∧ some k_ ≠ (v310 : Value).ownBlock ∧ some k_ ≠ ((.slice Ao16 t297.length co16) : Value).ownBlock ∧ some k_ ≠ ((.slice Ao29 t318.length co29) : Value).ownBlock) (.slice Ao36 t324.length co36) t324) ∧ Aside0 (wc.heap[gb300]? = some (.cells #[.int .i64 t296, (.slice Ao16 t297.length co16)] 26 (0, 0))) ∧ Aside0 (wc.heap[gb322]? = some (.cells #[.int .i64 t317, (.slice Ao29 t318.length co29)] 26 (0, 0))) ∧ Aside0 (wc.heap[gb328]? = some (.cells #[.int .i64 t323, (.slice Ao36 t324.length co36)] 26 (0, 0))) ∧ Aside0 (Below w.heap.size w wc))
       case first =>
        as_aux_lemma =>
         have H := HC105.out
         clear HC105
         by_cases c106 : (t301.length : Int) = t296
         ·
          rw [if_pos c106] at H
          have c106b0 : ((t301.length : Int) == t296) = true := beq_iff_eq.mpr c106
          have c106b1 : ((t301.length : Int) != t296) = false := bne_eq_false_iff_eq.mpr c106
          clear c106
          (skip)
          by_cases c107 : (t309.length : Int) = 0
          ·
           rw [if_pos c107] at H
           have c107b0 : ((t309.length : Int) == 0) = true := beq_iff_eq.mpr c107
           have c107b1 : ((t309.length : Int) != 0) = false := bne_eq_false_iff_eq.mpr c107
           clear c107
           have H' := Aside0.mk H
           clear H
           obtain ⟨Ao108, co108, eo108⟩ := Kd.R_slice HO_6.out
           subst eo108
           have hnb109 := NB300_322.out
           have hnc109 := NB322_300.out
           have hnb110 := NB300_328.out
           have hnc110 := NB328_300.out
           have hcz111_0 : wc.cell? ⟨gb300, 0, none⟩ = some (.int .i64 t296) := (blk_cell BK300.out 0).trans rfl
           have hcz111_1 : wc.cell? ⟨gb300, 1, none⟩ = some (.slice Ao16 t297.length co16) := (blk_cell BK300.out 1).trans rfl
           have hfz111_0 := blk_frozen BK300.out 0
           have hfz111_1 := blk_frozen BK300.out 1
           obtain ⟨Ao112, co112, eo112⟩ := Kd.R_slice HO_10.out
           subst eo112
           go_wp2
           repeat (go_quiet (fail); try go_wp2)
           go_meet
           case rel => exact ⟨_, (true), (by first | rfl | (simp; done) | (simp [*]; done)), H', ⟨by have := HJ11.out; first | omega | exact Nat.le_refl _⟩, ⟨by (with_reducible repeat (fail)); exact HO_6.out⟩, ⟨by (with_reducible repeat (fail)); exact HO_10.out⟩, ⟨by (with_reducible repeat (fail)); exact HO_301001.out⟩, ⟨by (with_reducible repeat (fail)); exact HO_323001.out⟩, ⟨by (with_reducible repeat (fail)); exact HO_329001.out⟩, ⟨by (with_reducible repeat (fail)); exact BK300.out⟩, ⟨by (with_reducible repeat (fail)); exact BK322.out⟩, ⟨by (with_reducible repeat (fail)); exact BK328.out⟩, ⟨by repeat ((with_reducible exact HB.out))⟩⟩
          ·
           rw [if_neg c107] at H
           have c107b0 : ((t309.length : Int) == 0) = false := beq_eq_false_iff_ne.mpr c107
           have c107b1 : ((t309.length : Int) != 0) = true := bne_iff_ne.mpr c107
           have c107b2 : ¬ (t309 = []) := fun h_ => c107 (by rw [h_]; rfl)
           have H' := Aside0.mk H
           clear H
           obtain ⟨Ao113, co113, eo113⟩ := Kd.R_slice HO_6.out
           subst eo113
           have hnb114 := NB300_322.out
           have hnc114 := NB322_300.out
           have hnb115 := NB300_328.out
           have hnc115 := NB328_300.out
           have hcz116_0 : wc.cell? ⟨gb300, 0, none⟩ = some (.int .i64 t296) := (blk_cell BK300.out 0).trans rfl
           have hcz116_1 : wc.cell? ⟨gb300, 1, none⟩ = some (.slice Ao16 t297.length co16) := (blk_cell BK300.out 1).trans rfl
           have hfz116_0 := blk_frozen BK300.out 0
           have hfz116_1 := blk_frozen BK300.out 1
           obtain ⟨Ao117, co117, eo117⟩ := Kd.R_slice HO_10.out
           subst eo117
           go_wp2
           repeat (go_quiet (fail); try go_wp2)
           go_meet
           case rel => exact ⟨_, (((t309.length : Int) == 2)), (by first | rfl | (simp; done) | (simp [*]; done)), H', ⟨by have := HJ11.out; first | omega | exact Nat.le_refl _⟩, ⟨by (with_reducible repeat (fail)); exact HO_6.out⟩, ⟨by (with_reducible repeat (fail)); exact HO_10.out⟩, ⟨by (with_reducible repeat (fail)); exact HO_301001.out⟩, ⟨by (with_reducible repeat (fail)); exact HO_323001.out⟩, ⟨by (with_reducible repeat (fail)); exact HO_329001.out⟩, ⟨by (with_reducible repeat (fail)); exact BK300.out⟩, ⟨by (with_reducible repeat (fail)); exact BK322.out⟩, ⟨by (with_reducible repeat (fail)); exact BK328.out⟩, ⟨by repeat ((with_reducible exact HB.out))⟩⟩
         ·
          rw [if_neg c106] at H
          have c106b0 : ((t301.length : Int) == t296) = false := beq_eq_false_iff_ne.mpr c106
          have c106b1 : ((t301.length : Int) != t296) = true := bne_iff_ne.mpr c106
          (skip)
          have H' := Aside0.mk H
          clear H
          obtain ⟨Ao118, co118, eo118⟩ := Kd.R_slice HO_6.out
          subst eo118
          have hnb119 := NB300_322.out
          have hnc119 := NB322_300.out
          have hnb120 := NB300_328.out
          have hnc120 := NB328_300.out
          have hcz121_0 : wc.cell? ⟨gb300, 0, none⟩ = some (.int .i64 t296) := (blk_cell BK300.out 0).trans rfl
          have hcz121_1 : wc.cell? ⟨gb300, 1, none⟩ = some (.slice Ao16 t297.length co16) := (blk_cell BK300.out 1).trans rfl
          have hfz121_0 := blk_frozen BK300.out 0
          have hfz121_1 := blk_frozen BK300.out 1
          go_wp2
          repeat (go_quiet (fail); try go_wp2)
          go_meet
          case rel => exact ⟨_, (true), (by first | rfl | (simp; done) | (simp [*]; done)), H', ⟨by have := HJ11.out; first | omega | exact Nat.le_refl _⟩, ⟨by (with_reducible repeat (fail)); exact HO_6.out⟩, ⟨by (with_reducible repeat (fail)); exact HO_10.out⟩, ⟨by (with_reducible repeat (fail)); exact HO_301001.out⟩, ⟨by (with_reducible repeat (fail)); exact HO_323001.out⟩, ⟨by (with_reducible repeat (fail)); exact HO_329001.out⟩, ⟨by (with_reducible repeat (fail)); exact BK300.out⟩, ⟨by (with_reducible repeat (fail)); exact BK322.out⟩, ⟨by (with_reducible repeat (fail)); exact BK328.out⟩, ⟨by repeat ((with_reducible exact HB.out))⟩⟩
       case rest =>
        as_aux_lemma =>
         clear HC105
         obtain ⟨kq, x127_104, rfl, HA, HJ104, HO_6, HO_10, HO_301001, HO_323001, HO_329001, BK300, BK322, BK328, HB⟩ := hcut
         cases kq with
         | zero => exact absurd HA.out (by simp [laws_FnOrdersAndKings.j1])
         | succ kj104 =>
          have H := HA.out
          clear HA
          simp only [laws_FnOrdersAndKings.j1] at H
          by_cases c122 : x127_104 = true
          ·
           subst c122
           have H1 : (some false) = some r := by rw [if_pos rfl] at H; exact H
           clear H
           have H := H1
           clear H1
           obtain rfl := Option.some.inj H
           go_wp2
           repeat (go_quiet (fail); try go_wp2)
           go_ret
           exact ⟨by first | rfl | (simp [errW_none, errW_some] <;> rfl) | (simp [*, errW_none, errW_some] <;> rfl), by repeat ((with_reducible exact HB.out))⟩
          ·
           replace c122 := Bool.eq_false_iff.mpr c122
           subst c122
           have H1 : (laws_FnOrdersAndKings.l0 kj104 t301 t309 t301 (t301.length : Int) 0 t296 t297 t317 t318) = some r := by rw [if_neg (show ¬ (false = true) by decide)] at H; exact H
           clear H
           have H := H1
           clear H1
           have H' := Aside0.mk H
           clear H
           obtain ⟨Ao123, co123, eo123⟩ := Kd.R_slice HO_6.out
           subst eo123
           go_wp2
           repeat (go_quiet (fail); try go_wp2)
           go_loopg [130] kj104 (fun kq v130 w' => ∃ (x130_3 : Int), v130 = .int .i64 x130_3 ∧ Aside0 (laws_FnOrdersAndKings.l0 kq t301 t309 t301 (t301.length : Int) x130_3 t296 t297 t317 t318 = some r) ∧ Aside0 (kq ≤ kj104) ∧ Aside0 (Kd.R (Kd.int .i64) 3 w' w.heap.size (fun k_ => some k_ ≠ (v310 : Value).ownBlock ∧ some k_ ≠ ((.slice Ao16 t297.length co16) : Value).ownBlock ∧ some k_ ≠ ((.slice Ao29 t318.length co29) : Value).ownBlock ∧ some k_ ≠ ((.slice Ao36 t324.length co36) : Value).ownBlock) (.slice Ao123 t301.length co123) t301) ∧ Aside0 (Kd.R (Kd.int .i64) 3 w' w.heap.size (fun k_ => some k_ ≠ ((.slice Ao123 t301.length co123) : Value).ownBlock ∧ some k_ ≠ ((.slice Ao123 t301.length co123) : Value).ownBlock ∧ some k_ ≠ ((.slice Ao16 t297.length co16) : Value).ownBlock ∧ some k_ ≠ ((.slice Ao29 t318.length co29) : Value).ownBlock ∧ some k_ ≠ ((.slice Ao36 t324.length co36) : Value).ownBlock) v310 t309) ∧ Aside0 (Kd.R (Kd.int .i64) 3 w' w.heap.size (fun k_ => some k_ ≠ (v310 : Value).ownBlock ∧ some k_ ≠ ((.slice Ao16 t297.length co16) : Value).ownBlock ∧ some k_ ≠ ((.slice Ao29 t318.length co29) : Value).ownBlock ∧ some k_ ≠ ((.slice Ao36 t324.length co36) : Value).ownBlock) (.slice Ao123 t301.length co123) t301) ∧ Aside0 (Kd.R (Kd.int .i64) 3 w' w.heap.size (fun k_ => some k_ ≠ ((.slice Ao123 t301.length co123) : Value).ownBlock ∧ some k_ ≠ (v310 : Value).ownBlock ∧ some k_ ≠ ((.slice Ao123 t301.length co123) : Value).ownBlock ∧ some k_ ≠ ((.slice Ao29 t318.length co29) : Value).ownBlock ∧ some k_ ≠ ((.slice Ao36 t324.length co36) : Value).ownBlock) (.slice Ao16 t297.length co16) t297) ∧ Aside0 (Kd.R (Kd.int .i64) 3 w' w.heap.size (fun k_ => some k_ ≠ ((.slice Ao123 t301.length co123) : Value).ownBlock ∧ some k_ ≠ (v310 : Value).ownBlock ∧ some k_ ≠ ((.slice Ao123 t301.length co123) : Value).ownBlock ∧ some k_ ≠ ((.slice Ao16 t297.length co16) : Value).ownBlock ∧ some k_ ≠ ((.slice Ao36 t324.length co36) : Value).ownBlock) (.slice Ao29 t318.length co29) t318) ∧ Aside0 (Kd.R (Kd.int .i64) 3 w' w.heap.size (fun k_ => some k_ ≠ ((.slice Ao123 t301.length co123) : Value).ownBlock ∧ some k_ ≠ (v310 : Value).ownBlock ∧ some k_ ≠ ((.slice Ao123 t301.length co123) : Value).ownBlock ∧ some k_ ≠ ((.slice Ao16 t297.length co16) : Value).ownBlock ∧ some k_ ≠ ((.slice Ao29 t318.length co29) : Value).ownBlock) (.slice Ao36 t324.length co36) t324) ∧ Aside0 (w'.heap[gb300]? = some (.cells #[.int .i64 t296, (.slice Ao16 t297.length co16)] 26 (0, 0))) ∧ Aside0 (w'.heap[gb322]? = some (.cells #[.int .i64 t317, (.slice Ao29 t318.length co29)] 26 (0, 0))) ∧ Aside0 (w'.heap[gb328]? = some (.cells #[.int .i64 t323, (.slice Ao36 t324.length co36)] 26 (0, 0))) ∧ Aside0 (Below w.heap.size w w'))
           case atStart => exact ⟨(0), (by first | rfl | (simp; done) | (simp [*]; done)), H', ⟨Nat.le_refl _⟩, ⟨by (with_reducible repeat (fail)); exact HO_6.out⟩, ⟨by (with_reducible repeat (fail)); exact Kd.R_mono HO_10.out (fun _ hk => ⟨hk.1, ⟨hk.1, ⟨hk.2.1, ⟨hk.2.2.1, hk.2.2.2⟩⟩⟩⟩)⟩, ⟨by (with_reducible repeat (fail)); exact HO_6.out⟩, ⟨by (with_reducible repeat (fail)); exact Kd.R_mono HO_301001.out (fun _ hk => ⟨hk.1, ⟨hk.2.1, ⟨hk.1, ⟨hk.2.2.1, hk.2.2.2⟩⟩⟩⟩)⟩, ⟨by (with_reducible repeat (fail)); exact Kd.R_mono HO_323001.out (fun _ hk => ⟨hk.1, ⟨hk.2.1, ⟨hk.1, ⟨hk.2.2.1, hk.2.2.2⟩⟩⟩⟩)⟩, ⟨by (with_reducible repeat (fail)); exact Kd.R_mono HO_329001.out (fun _ hk => ⟨hk.1, ⟨hk.2.1, ⟨hk.1, ⟨hk.2.2.1, hk.2.2.2⟩⟩⟩⟩)⟩, ⟨by (with_reducible repeat (fail)); exact BK300.out⟩, ⟨by (with_reducible repeat (fail)); exact BK322.out⟩, ⟨by (with_reducible repeat (fail)); exact BK328.out⟩, ⟨by repeat ((with_reducible exact HB.out))⟩⟩
           case round =>
            as_aux_lemma =>
             clear H'
             obtain ⟨x130_3, rfl, HA, HK3, HO_6, HO_10, HO_128, HO_301001, HO_323001, HO_329001, BK300, BK322, BK328, HB⟩ := hrel
             cases gk with
             | zero => exact absurd HA.out (by simp [laws_FnOrdersAndKings.l0])
             | succ k3 =>
              have H := HA.out
              clear HA
              simp only [laws_FnOrdersAndKings.l0] at H
              by_cases c124 : x130_3 < (t301.length : Int)
              ·
               rw [if_pos c124] at H
               have c124b0 : decide (x130_3 < (t301.length : Int)) = true := decide_eq_true c124
               clear c124
               by_cases c125 : 0 ≤ x130_3
               ·
                rw [if_pos c125] at H
                have c125b0 : decide (0 ≤ x130_3) = true := decide_eq_true c125
                clear c125
                by_cases c126 : x130_3 < (t301.length : Int)
                ·
                 rw [if_pos c126] at H
                 have c126b0 : decide (x130_3 < (t301.length : Int)) = true := decide_eq_true c126
                 clear c126
                 have c127b0 := eq_true (of_decide_eq_true (by first | (with_reducible assumption) | assumption) : 0 ≤ x130_3)
                 by_cases c128 : x130_3 ≤ (t301.length : Int)
                 ·
                  rw [if_pos c128] at H
                  have c128b0 := eq_true c128
                  have c128b1 : decide (x130_3 ≤ (t301.length : Int)) = true := decide_eq_true c128
                  clear c128
                  obtain ⟨y334, hy334⟩ : ∃ y_ : List Int, y_ = (t301.take (x130_3 : Int).toNat) := ⟨_, rfl⟩
                  replace H : ((laws_yHas.f k3 y334 (rd t301 x130_3)).bind fun t338 => (if t338 = true then (some false) else (if x130_3 > 0 then (if 0 ≤ (wrap64 (x130_3 - 1)) then (if (wrap64 (x130_3 - 1)) < (t301.length : Int) then (if 0 ≤ (rd t301 (wrap64 (x130_3 - 1))) then (if (rd t301 (wrap64 (x130_3 - 1))) < (t297.length : Int) then ((laws_yIn.f (rd t297 (rd t301 (wrap64 (x130_3 - 1)))) (rd t301 x130_3)).bind fun t341 => (if t341 = true then (laws_FnOrdersAndKings.l0 k3 t301 t309 t301 (t301.length : Int) (wrap64 (x130_3 + 1)) t296 t297 t317 t318) else (some false))) else (none)) else (none)) else (none)) else (none)) else (laws_FnOrdersAndKings.l0 k3 t301 t309 t301 (t301.length : Int) (wrap64 (x130_3 + 1)) t296 t297 t317 t318)))) = some r := by first | (rw [hy334]; with_reducible exact H) | (have H2_ := (Option.bind_some _ _).symm.trans H; rw [hy334]; with_reducible exact H2_) | (have H2_ := (Option.bind_some _ _).symm.trans H; with_reducible exact H2_) | with_reducible exact H | (rw [hy334]; exact H) | exact H
                  have Ny334 := Aside0.mk hy334
                  clear hy334
                  replace H := Option.bind_eq_some_iff.mp H
                  obtain ⟨t338, A1290, H⟩ := H
                  replace H : (if t338 = true then (some false) else (if x130_3 > 0 then (if 0 ≤ (wrap64 (x130_3 - 1)) then (if (wrap64 (x130_3 - 1)) < (t301.length : Int) then (if 0 ≤ (rd t301 (wrap64 (x130_3 - 1))) then (if (rd t301 (wrap64 (x130_3 - 1))) < (t297.length : Int) then ((laws_yIn.f (rd t297 (rd t301 (wrap64 (x130_3 - 1)))) (rd t301 x130_3)).bind fun t341 => (if t341 = true then (laws_FnOrdersAndKings.l0 k3 t301 t309 t301 (t301.length : Int) (wrap64 (x130_3 + 1)) t296 t297 t317 t318) else (some false))) else (none)) else (none)) else (none)) else (none)) else (laws_FnOrdersAndKings.l0 k3 t301 t309 t301 (t301.length : Int) (wrap64 (x130_3 + 1)) t296 t297 t317 t318))) = some r := H
                  have A129 := Aside0.mk A1290
                  clear A1290
                  by_cases c130 : t338 = true
                  ·
                   subst c130
                   have H1 : (some false) = some r := by rw [if_pos rfl] at H; exact H
                   clear H
                   have H := H1
                   clear H1
                   obtain rfl := Option.some.inj H
                   have p333 : 0 ≤ (x130_3 : Int) := of_decide_eq_true (by first | (with_reducible assumption) | assumption)
                   have q333 : x130_3 < (t301.length : Int) := of_decide_eq_true (by first | (with_reducible assumption) | assumption)
                   obtain ⟨ad333, e333, hx333_0⟩ := Kd.at_int (Kd.R_reads' HO_128.out).2.2 x130_3 p333 q333
                   cases e333
                   replace p333 := eq_true p333
                   replace q333 := eq_true q333
                   have q131 : (x130_3 : Int) ≤ ((t301.length : Int) : Int) := of_decide_eq_true (by first | (with_reducible assumption) | assumption)
                   obtain ⟨i0131, hi0131, _, hsz131, _⟩ := info_parts info3
                   have hroom131 : t301.length ≤ co123 := (Kd.R_reads' HO_6.out).2.1
                   have hC131 : Kd.C (Kd.int .i64) _ (some ad333) t301.length t301 := (Kd.R_reads' HO_6.out).2.2
                   have hcut131 := cut_to (P := Tryd.prog) 24 3 .i64 Tryd.underlying24 hi0131 (some ad333) t301.length co123 x130_3 (of_decide_eq_true (by first | (with_reducible assumption) | assumption)) q131 hroom131
                   have hr131 := Kd.C_take (m := (x130_3 : Int).toNat) hC131 (by omega)
                   have hy131 : y334.length = (x130_3 : Int).toNat := (by rw [Ny334.out, List.length_take]; omega)
                   rw [← Ny334.out] at hr131
                   rw [← hy131] at hcut131
                   have HR337 := Aside0.mk hr131
                   have HC337 := Aside0.mk (show y334.length ≤ co123 from by omega)
                   clear hr131 hC131 hroom131 hi0131 hsz131
                   have KY131 := Aside0.mk hy131
                   clear hy131
                   have KL131 := Aside0.mk (show (x130_3 : Int).toNat ≤ t301.length from by omega)
                   replace q131 := eq_true q131
                   go_wp2_with (fail)
                   repeat (go_quiet ((go_at_call 16; (with_reducible refine (laws_yHas.calls k3 _ _ y334 (rd t301 x130_3) true _ ?side1 ?side2 A129.out).mono ?_); (case side1 => repeat (exact (by repeat (first | (with_reducible exact HR337.out) | (with_reducible refine Kd.C_drewN ?_ _))))); (case side2 => exact HC337.out); rintro e w' ⟨rfl, ⟨nd, rfl⟩⟩; (try exact ⟨rfl, _, World.drewN_drewN _ _ _⟩))); try go_wp2_with (fail))
                   go_ret
                   exact ⟨by first | rfl | (simp [errW_none, errW_some] <;> rfl) | (simp [*, errW_none, errW_some] <;> rfl), by repeat ((with_reducible first | exact HB.out | apply pw_below_drewN))⟩
                  ·
                   replace c130 := Bool.eq_false_iff.mpr c130
                   subst c130
                   have H1 : (if x130_3 > 0 then (if 0 ≤ (wrap64 (x130_3 - 1)) then (if (wrap64 (x130_3 - 1)) < (t301.length : Int) then (if 0 ≤ (rd t301 (wrap64 (x130_3 - 1))) then (if (rd t301 (wrap64 (x130_3 - 1))) < (t297.length : Int) then ((laws_yIn.f (rd t297 (rd t301 (wrap64 (x130_3 - 1)))) (rd t301 x130_3)).bind fun t341 => (if t341 = true then (laws_FnOrdersAndKings.l0 k3 t301 t309 t301 (t301.length : Int) (wrap64 (x130_3 + 1)) t296 t297 t317 t318) else (some false))) else (none)) else (none)) else (none)) else (none)) else (laws_FnOrdersAndKings.l0 k3 t301 t309 t301 (t301.length : Int) (wrap64 (x130_3 + 1)) t296 t297 t317 t318)) = some r := by rw [if_neg (show ¬ (false = true) by decide)] at H; exact H
                   clear H
                   have H := H1
                   clear H1
                   by_cases c132 : x130_3 > 0
                   ·
                    rw [if_pos c132] at H
                    have c132b0 : decide (0 < x130_3) = true := decide_eq_true c132
                    clear c132
                    obtain ⟨ji133, hji133⟩ : ∃ j_ : Int, (wrap64 (x130_3 - 1)) = j_ := ⟨_, rfl⟩
                    replace H : (if 0 ≤ (ji133) then (if (ji133) < (t301.length : Int) then (if 0 ≤ (rd t301 (ji133)) then (if (rd t301 (ji133)) < (t297.length : Int) then ((laws_yIn.f (rd t297 (rd t301 (ji133))) (rd t301 x130_3)).bind fun t341 => (if t341 = true then (laws_FnOrdersAndKings.l0 k3 t301 t309 t301 (t301.length : Int) (wrap64 (x130_3 + 1)) t296 t297 t317 t318) else (some false))) else (none)) else (none)) else (none)) else (none)) = some r := by first | (rw [hji133] at H; exact H) | (simp only [hji133] at H ⊢; exact H)
                    (try rw [hji133] at A129)
                    have hji133w : (IntKind.i64.wrap (x130_3 - 1)) = ji133 := (i64_w _).trans hji133
                    by_cases c134 : 0 ≤ (ji133)
                    ·
                     rw [if_pos c134] at H
                     have c134b0 : decide (0 ≤ (ji133)) = true := decide_eq_true c134
                     clear c134
                     by_cases c135 : (ji133) < (t301.length : Int)
                     ·
                      rw [if_pos c135] at H
                      have c135b0 : decide ((ji133) < (t301.length : Int)) = true := decide_eq_true c135
                      clear c135
                      by_cases c136 : 0 ≤ (rd t301 (ji133))
                      ·
                       rw [if_pos c136] at H
                       have c136b0 : decide (0 ≤ (rd t301 (ji133))) = true := decide_eq_true c136
                       clear c136
                       by_cases c137 : (rd t301 (ji133)) < (t297.length : Int)
                       ·
                        rw [if_pos c137] at H
                        have c137b0 : decide ((rd t301 (ji133)) < (t297.length : Int)) = true := decide_eq_true c137
                        clear c137
                        replace H := Option.bind_eq_some_iff.mp H
                        obtain ⟨t341, A1380, H⟩ := H
                        replace H : (if t341 = true then (laws_FnOrdersAndKings.l0 k3 t301 t309 t301 (t301.length : Int) (wrap64 (x130_3 + 1)) t296 t297 t317 t318) else (some false)) = some r := H
                        have A138 := Aside0.mk A1380
                        clear A1380
                        by_cases c139 : t341 = true
                        ·
                         subst c139
                         have H1 : (laws_FnOrdersAndKings.l0 k3 t301 t309 t301 (t301.length : Int) (wrap64 (x130_3 + 1)) t296 t297 t317 t318) = some r := by rw [if_pos rfl] at H; exact H
                         clear H
                         have H := H1
                         clear H1
                         have H' := Aside0.mk H
                         clear H
                         have p333 : 0 ≤ (x130_3 : Int) := of_decide_eq_true (by first | (with_reducible assumption) | assumption)
                         have q333 : x130_3 < (t301.length : Int) := of_decide_eq_true (by first | (with_reducible assumption) | assumption)
                         obtain ⟨ad333, e333, hx333_0⟩ := Kd.at_int (Kd.R_reads' HO_128.out).2.2 x130_3 p333 q333
                         cases e333
                         replace p333 := eq_true p333
                         replace q333 := eq_true q333
                         have q140 : (x130_3 : Int) ≤ ((t301.length : Int) : Int) := of_decide_eq_true (by first | (with_reducible assumption) | assumption)
                         obtain ⟨i0140, hi0140, _, hsz140, _⟩ := info_parts info3
                         have hroom140 : t301.length ≤ co123 := (Kd.R_reads' HO_6.out).2.1
                         have hC140 : Kd.C (Kd.int .i64) _ (some ad333) t301.length t301 := (Kd.R_reads' HO_6.out).2.2
                         have hcut140 := cut_to (P := Tryd.prog) 24 3 .i64 Tryd.underlying24 hi0140 (some ad333) t301.length co123 x130_3 (of_decide_eq_true (by first | (with_reducible assumption) | assumption)) q140 hroom140
                         have hr140 := Kd.C_take (m := (x130_3 : Int).toNat) hC140 (by omega)
                         have hy140 : y334.length = (x130_3 : Int).toNat := (by rw [Ny334.out, List.length_take]; omega)
                         rw [← Ny334.out] at hr140
                         rw [← hy140] at hcut140
                         have HR337 := Aside0.mk hr140
                         have HC337 := Aside0.mk (show y334.length ≤ co123 from by omega)
                         clear hr140 hC140 hroom140 hi0140 hsz140
                         have KY140 := Aside0.mk hy140
                         clear hy140
                         have KL140 := Aside0.mk (show (x130_3 : Int).toNat ≤ t301.length from by omega)
                         replace q140 := eq_true q140
                         go_wp2_with (fail)
                         repeat (go_quiet (first | (go_at_call 16; (with_reducible refine (laws_yHas.calls k3 _ _ y334 (rd t301 x130_3) false _ ?side1 ?side2 A129.out).mono ?_); (case side1 => repeat (exact (by repeat (first | (with_reducible exact HR337.out) | (with_reducible refine Kd.C_drewN ?_ _))))); (case side2 => exact HC337.out); rintro e w' ⟨rfl, ⟨nd, rfl⟩⟩; (try exact ⟨rfl, _, World.drewN_drewN _ _ _⟩); have hnb141 := NB300_322.out; have hnc141 := NB322_300.out; have hnb142 := NB300_328.out; have hnc142 := NB328_300.out; have hcz143_0 : wr.cell? ⟨gb300, 0, none⟩ = some (.int .i64 t296) := (blk_cell BK300.out 0).trans rfl; have hcz143_1 : wr.cell? ⟨gb300, 1, none⟩ = some (.slice Ao16 t297.length co16) := (blk_cell BK300.out 1).trans rfl; have hfz143_0 := blk_frozen BK300.out 0; have hfz143_1 := blk_frozen BK300.out 1; have p339 : 0 ≤ ((ji133) : Int) := of_decide_eq_true (by first | (with_reducible assumption) | assumption); have q339 : (ji133) < (t301.length : Int) := of_decide_eq_true (by first | (with_reducible assumption) | assumption); obtain ⟨ad339, e339, hx339_0⟩ := Kd.at_int (Kd.R_reads' HO_6.out).2.2 (ji133) p339 q339; obtain rfl : ad333 = ad339 := (by injection e339); replace p339 := eq_true p339; replace q339 := eq_true q339; have p340 : 0 ≤ ((rd t301 (ji133)) : Int) := of_decide_eq_true (by first | (with_reducible assumption) | assumption); have q340 : (rd t301 (ji133)) < (t297.length : Int) := of_decide_eq_true (by first | (with_reducible assumption) | assumption); obtain ⟨ad340, e340, hx340_0⟩ := Kd.at_int (Kd.R_reads' HO_301001.out).2.2 (rd t301 (ji133)) p340 q340; cases e340; replace p340 := eq_true p340; replace q340 := eq_true q340) | (go_at_call 17; (with_reducible refine (laws_yIn.calls (rd t297 (rd t301 (ji133))) (rd t301 x130_3) true _ A138.out).mono ?_); rintro e w' ⟨rfl, ⟨nd, rfl⟩⟩; (try exact ⟨rfl, _, World.drewN_drewN _ _ _⟩))); try go_wp2_with (fail))
                         go_roundg k3
                         case measure => have := HJ11.out; have := HJ104.out; have := HK3.out; omega
                         case rel => exact ⟨(wrap64 (x130_3 + 1)), (by first | rfl | (simp; done) | (simp [*]; done)), H', ⟨by have := HJ11.out; have := HJ104.out; have := HK3.out; omega⟩, ⟨by (with_reducible repeat (apply Kd.R_drewN)); exact HO_6.out⟩, ⟨by (with_reducible repeat (apply Kd.R_drewN)); exact HO_10.out⟩, ⟨by (with_reducible repeat (apply Kd.R_drewN)); exact HO_128.out⟩, ⟨by (with_reducible repeat (apply Kd.R_drewN)); exact HO_301001.out⟩, ⟨by (with_reducible repeat (apply Kd.R_drewN)); exact HO_323001.out⟩, ⟨by (with_reducible repeat (apply Kd.R_drewN)); exact HO_329001.out⟩, ⟨by (with_reducible repeat (refine blk_drewN ?_ _)); exact BK300.out⟩, ⟨by (with_reducible repeat (refine blk_drewN ?_ _)); exact BK322.out⟩, ⟨by (with_reducible repeat (refine blk_drewN ?_ _)); exact BK328.out⟩, ⟨by repeat ((with_reducible first | exact HB.out | apply pw_below_drewN))⟩⟩
                        ·
                         replace c139 := Bool.eq_false_iff.mpr c139
                         subst c139
                         have H1 : (some false) = some r := by rw [if_neg (show ¬ (false = true) by decide)] at H; exact H
                         clear H
                         have H := H1
                         clear H1
                         obtain rfl := Option.some.inj H
                         have p333 : 0 ≤ (x130_3 : Int) := of_decide_eq_true (by first | (with_reducible assumption) | assumption)
                         have q333 : x130_3 < (t301.length : Int) := of_decide_eq_true (by first | (with_reducible assumption) | assumption)
                         obtain ⟨ad333, e333, hx333_0⟩ := Kd.at_int (Kd.R_reads' HO_128.out).2.2 x130_3 p333 q333
                         cases e333
                         replace p333 := eq_true p333
                         replace q333 := eq_true q333
                         have q144 : (x130_3 : Int) ≤ ((t301.length : Int) : Int) := of_decide_eq_true (by first | (with_reducible assumption) | assumption)
                         obtain ⟨i0144, hi0144, _, hsz144, _⟩ := info_parts info3
                         have hroom144 : t301.length ≤ co123 := (Kd.R_reads' HO_6.out).2.1
                         have hC144 : Kd.C (Kd.int .i64) _ (some ad333) t301.length t301 := (Kd.R_reads' HO_6.out).2.2
                         have hcut144 := cut_to (P := Tryd.prog) 24 3 .i64 Tryd.underlying24 hi0144 (some ad333) t301.length co123 x130_3 (of_decide_eq_true (by first | (with_reducible assumption) | assumption)) q144 hroom144
                         have hr144 := Kd.C_take (m := (x130_3 : Int).toNat) hC144 (by omega)
                         have hy144 : y334.length = (x130_3 : Int).toNat := (by rw [Ny334.out, List.length_take]; omega)
                         rw [← Ny334.out] at hr144
                         rw [← hy144] at hcut144
                         have HR337 := Aside0.mk hr144
                         have HC337 := Aside0.mk (show y334.length ≤ co123 from by omega)
                         clear hr144 hC144 hroom144 hi0144 hsz144
                         have KY144 := Aside0.mk hy144
                         clear hy144
                         have KL144 := Aside0.mk (show (x130_3 : Int).toNat ≤ t301.length from by omega)
                         replace q144 := eq_true q144
                         go_wp2_with (fail)
                         repeat (go_quiet (first | (go_at_call 16; (with_reducible refine (laws_yHas.calls k3 _ _ y334 (rd t301 x130_3) false _ ?side1 ?side2 A129.out).mono ?_); (case side1 => repeat (exact (by repeat (first | (with_reducible exact HR337.out) | (with_reducible refine Kd.C_drewN ?_ _))))); (case side2 => exact HC337.out); rintro e w' ⟨rfl, ⟨nd, rfl⟩⟩; (try exact ⟨rfl, _, World.drewN_drewN _ _ _⟩); have hnb145 := NB300_322.out; have hnc145 := NB322_300.out; have hnb146 := NB300_328.out; have hnc146 := NB328_300.out; have hcz147_0 : wr.cell? ⟨gb300, 0, none⟩ = some (.int .i64 t296) := (blk_cell BK300.out 0).trans rfl; have hcz147_1 : wr.cell? ⟨gb300, 1, none⟩ = some (.slice Ao16 t297.length co16) := (blk_cell BK300.out 1).trans rfl; have hfz147_0 := blk_frozen BK300.out 0; have hfz147_1 := blk_frozen BK300.out 1; have p339 : 0 ≤ ((ji133) : Int) := of_decide_eq_true (by first | (with_reducible assumption) | assumption); have q339 : (ji133) < (t301.length : Int) := of_decide_eq_true (by first | (with_reducible assumption) | assumption); obtain ⟨ad339, e339, hx339_0⟩ := Kd.at_int (Kd.R_reads' HO_6.out).2.2 (ji133) p339 q339; obtain rfl : ad333 = ad339 := (by injection e339); replace p339 := eq_true p339; replace q339 := eq_true q339; have p340 : 0 ≤ ((rd t301 (ji133)) : Int) := of_decide_eq_true (by first | (with_reducible assumption) | assumption); have q340 : (rd t301 (ji133)) < (t297.length : Int) := of_decide_eq_true (by first | (with_reducible assumption) | assumption); obtain ⟨ad340, e340, hx340_0⟩ := Kd.at_int (Kd.R_reads' HO_301001.out).2.2 (rd t301 (ji133)) p340 q340; cases e340; replace p340 := eq_true p340; replace q340 := eq_true q340) | (go_at_call 17; (with_reducible refine (laws_yIn.calls (rd t297 (rd t301 (ji133))) (rd t301 x130_3) false _ A138.out).mono ?_); rintro e w' ⟨rfl, ⟨nd, rfl⟩⟩; (try exact ⟨rfl, _, World.drewN_drewN _ _ _⟩))); try go_wp2_with (fail))
                         go_ret
                         exact ⟨by first | rfl | (simp [errW_none, errW_some] <;> rfl) | (simp only [← hji133]; first | rfl | (simp [errW_none, errW_some] <;> rfl)) | (simp [*, errW_none, errW_some] <;> rfl), by repeat ((with_reducible first | exact HB.out | apply pw_below_drewN))⟩
                       ·
                        rw [if_neg c137] at H
                        exact absurd H (by simp)
                      ·
                       rw [if_neg c136] at H
                       exact absurd H (by simp)
                     ·
                      rw [if_neg c135] at H
                      exact absurd H (by simp)
                    ·
                     rw [if_neg c134] at H
                     exact absurd H (by simp)
                   ·
                    rw [if_neg c132] at H
                    have c132b0 : decide (0 < x130_3) = false := decide_eq_false c132
                    clear c132
                    have H' := Aside0.mk H
                    clear H
                    have p333 : 0 ≤ (x130_3 : Int) := of_decide_eq_true (by first | (with_reducible assumption) | assumption)
                    have q333 : x130_3 < (t301.length : Int) := of_decide_eq_true (by first | (with_reducible assumption) | assumption)
                    obtain ⟨ad333, e333, hx333_0⟩ := Kd.at_int (Kd.R_reads' HO_128.out).2.2 x130_3 p333 q333
                    cases e333
                    replace p333 := eq_true p333
                    replace q333 := eq_true q333
                    have q148 : (x130_3 : Int) ≤ ((t301.length : Int) : Int) := of_decide_eq_true (by first | (with_reducible assumption) | assumption)
                    obtain ⟨i0148, hi0148, _, hsz148, _⟩ := info_parts info3
                    have hroom148 : t301.length ≤ co123 := (Kd.R_reads' HO_6.out).2.1
                    have hC148 : Kd.C (Kd.int .i64) _ (some ad333) t301.length t301 := (Kd.R_reads' HO_6.out).2.2
                    have hcut148 := cut_to (P := Tryd.prog) 24 3 .i64 Tryd.underlying24 hi0148 (some ad333) t301.length co123 x130_3 (of_decide_eq_true (by first | (with_reducible assumption) | assumption)) q148 hroom148
                    have hr148 := Kd.C_take (m := (x130_3 : Int).toNat) hC148 (by omega)
                    have hy148 : y334.length = (x130_3 : Int).toNat := (by rw [Ny334.out, List.length_take]; omega)
                    rw [← Ny334.out] at hr148
                    rw [← hy148] at hcut148
                    have HR337 := Aside0.mk hr148
                    have HC337 := Aside0.mk (show y334.length ≤ co123 from by omega)
                    clear hr148 hC148 hroom148 hi0148 hsz148
                    have KY148 := Aside0.mk hy148
                    clear hy148
                    have KL148 := Aside0.mk (show (x130_3 : Int).toNat ≤ t301.length from by omega)
                    replace q148 := eq_true q148
                    go_wp2_with (fail)
                    repeat (go_quiet ((go_at_call 16; (with_reducible refine (laws_yHas.calls k3 _ _ y334 (rd t301 x130_3) false _ ?side1 ?side2 A129.out).mono ?_); (case side1 => repeat (exact (by repeat (first | (with_reducible exact HR337.out) | (with_reducible refine Kd.C_drewN ?_ _))))); (case side2 => exact HC337.out); rintro e w' ⟨rfl, ⟨nd, rfl⟩⟩; (try exact ⟨rfl, _, World.drewN_drewN _ _ _⟩))); try go_wp2_with (fail))
                    go_roundg k3
                    case measure => have := HJ11.out; have := HJ104.out; have := HK3.out; omega
                    case rel => exact ⟨(wrap64 (x130_3 + 1)), (by first | rfl | (simp; done) | (simp [*]; done)), H', ⟨by have := HJ11.out; have := HJ104.out; have := HK3.out; omega⟩, ⟨by (with_reducible repeat (apply Kd.R_drewN)); exact HO_6.out⟩, ⟨by (with_reducible repeat (apply Kd.R_drewN)); exact HO_10.out⟩, ⟨by (with_reducible repeat (apply Kd.R_drewN)); exact HO_128.out⟩, ⟨by (with_reducible repeat (apply Kd.R_drewN)); exact HO_301001.out⟩, ⟨by (with_reducible repeat (apply Kd.R_drewN)); exact HO_323001.out⟩, ⟨by (with_reducible repeat (apply Kd.R_drewN)); exact HO_329001.out⟩, ⟨by (with_reducible repeat (refine blk_drewN ?_ _)); exact BK300.out⟩, ⟨by (with_reducible repeat (refine blk_drewN ?_ _)); exact BK322.out⟩, ⟨by (with_reducible repeat (refine blk_drewN ?_ _)); exact BK328.out⟩, ⟨by repeat ((with_reducible first | exact HB.out | apply pw_below_drewN))⟩⟩
                 ·
                  rw [if_neg c128] at H
                  exact absurd H (by simp)
                ·
                 rw [if_neg c126] at H
                 exact absurd H (by simp)
               ·
                rw [if_neg c125] at H
                exact absurd H (by simp)
              ·
               rw [if_neg c124] at H
               have c124b0 : decide (x130_3 < (t301.length : Int)) = false := decide_eq_false c124
               clear c124
               replace H := Option.bind_eq_some_iff.mp H
               obtain ⟨⟨t342, t345⟩, A1490, H⟩ := H
               replace H : ((impl_ScoresOf.f k3 t317 t318).bind fun bt346 => ((impl_MirrorTournament.f k3 t317 t318).bind fun bt350 => (if t345 = true then (if bt346.2 = true then (if bt350.2.2 = true then ((laws_yTournament.f k3 bt350.1 bt350.2.1 t296 t297).bind fun t356 => (laws_FnOrdersAndKings.j3 k3 t309 t342 bt346.1 (!t356) t296 t297)) else (laws_FnOrdersAndKings.j3 k3 t309 t342 bt346.1 true t296 t297)) else (laws_FnOrdersAndKings.j3 k3 t309 t342 bt346.1 true t296 t297)) else (laws_FnOrdersAndKings.j3 k3 t309 t342 bt346.1 true t296 t297)))) = some r := H
               have A149 := Aside0.mk A1490
               clear A1490
               replace H := Option.bind_eq_some_iff.mp H
               obtain ⟨⟨t346, t349⟩, A1500, H⟩ := H
               replace H : ((impl_MirrorTournament.f k3 t317 t318).bind fun bt350 => (if t345 = true then (if t349 = true then (if bt350.2.2 = true then ((laws_yTournament.f k3 bt350.1 bt350.2.1 t296 t297).bind fun t356 => (laws_FnOrdersAndKings.j3 k3 t309 t342 t346 (!t356) t296 t297)) else (laws_FnOrdersAndKings.j3 k3 t309 t342 t346 true t296 t297)) else (laws_FnOrdersAndKings.j3 k3 t309 t342 t346 true t296 t297)) else (laws_FnOrdersAndKings.j3 k3 t309 t342 t346 true t296 t297))) = some r := H
               have A150 := Aside0.mk A1500
               clear A1500
               replace H := Option.bind_eq_some_iff.mp H
               obtain ⟨⟨t350, t351, t354⟩, A1510, H⟩ := H
               replace H : (if t345 = true then (if t349 = true then (if t354 = true then ((laws_yTournament.f k3 t350 t351 t296 t297).bind fun t356 => (laws_FnOrdersAndKings.j3 k3 t309 t342 t346 (!t356) t296 t297)) else (laws_FnOrdersAndKings.j3 k3 t309 t342 t346 true t296 t297)) else (laws_FnOrdersAndKings.j3 k3 t309 t342 t346 true t296 t297)) else (laws_FnOrdersAndKings.j3 k3 t309 t342 t346 true t296 t297)) = some r := H
               have A151 := Aside0.mk A1510
               clear A1510
               have HC152 := Aside0.mk H
               clear H
               have hnb153 := NB300_322.out
               have hnc153 := NB322_300.out
               have hnb154 := NB300_328.out
               have hnc154 := NB328_300.out
               have hcz155_0 : wr.cell? ⟨gb300, 0, none⟩ = some (.int .i64 t296) := (blk_cell BK300.out 0).trans rfl
               have hcz155_1 : wr.cell? ⟨gb300, 1, none⟩ = some (.slice Ao16 t297.length co16) := (blk_cell BK300.out 1).trans rfl
               have hfz155_0 := blk_frozen BK300.out 0
               have hfz155_1 := blk_frozen BK300.out 1
               go_upto_region 25 with (first | (go_at_call 18; (with_reducible refine (impl_ScoresOf.calls k3 t296 _ _ t297 t342 t345 _ ?side1 ?side2 A149.out).mono ?_); (case side1 => repeat (exact (Kd.R_reads' HO_301001.out).2.2)); (case side2 => exact (Kd.R_reads' HO_301001.out).2.1); rintro e w156 ⟨v343, rfl, ho0, hb⟩; have n0_ := Aside0.mk (Kd.R_elder' (by (with_reducible repeat (fail)); exact HO_6.out) (Kd.R_base ho0) hb); have n1_ := Aside0.mk (Kd.R_elder' (by (with_reducible repeat (fail)); exact HO_10.out) (Kd.R_base ho0) hb); have n2_ := Aside0.mk (Kd.R_elder' (by (with_reducible repeat (fail)); exact HO_128.out) (Kd.R_base ho0) hb); have n3_ := Aside0.mk (Kd.R_elder' (by (with_reducible repeat (fail)); exact HO_301001.out) (Kd.R_base ho0) hb); have n4_ := Aside0.mk (Kd.R_elder' (by (with_reducible repeat (fail)); exact HO_323001.out) (Kd.R_base ho0) hb); have n5_ := Aside0.mk (Kd.R_elder' (by (with_reducible repeat (fail)); exact HO_329001.out) (Kd.R_base ho0) hb); have n6_ := Aside0.mk (Kd.R_lower (Kd.R_new' (Kd.R_new' (Kd.R_new' (Kd.R_new' (Kd.R_new' (Kd.R_new' ho0 (Kd.R_lt (by (with_reducible repeat (fail)); exact HO_6.out))) (Kd.R_lt (by (with_reducible repeat (fail)); exact HO_10.out))) (Kd.R_lt (by (with_reducible repeat (fail)); exact HO_128.out))) (Kd.R_lt (by (with_reducible repeat (fail)); exact HO_301001.out))) (Kd.R_lt (by (with_reducible repeat (fail)); exact HO_323001.out))) (Kd.R_lt (by (with_reducible repeat (fail)); exact HO_329001.out))) (below_size (by repeat ((with_reducible exact HB.out))))); have n7_ := Aside0.mk (blk_below (g := gb300) (o := .cells #[.int .i64 t296, .slice Ao16 t297.length co16] 26 (0, 0)) (by (with_reducible repeat (fail)); exact BK300.out) hb); have n8_ := Aside0.mk (blk_below (g := gb322) (o := .cells #[.int .i64 t317, .slice Ao29 t318.length co29] 26 (0, 0)) (by (with_reducible repeat (fail)); exact BK322.out) hb); have n9_ := Aside0.mk (blk_below (g := gb328) (o := .cells #[.int .i64 t323, .slice Ao36 t324.length co36] 26 (0, 0)) (by (with_reducible repeat (fail)); exact BK328.out) hb); have n10_ := Aside0.mk (below_step (by repeat ((with_reducible exact HB.out))) hb); clear HO_6; clear HO_10; clear HO_128; clear HO_301001; clear HO_323001; clear HO_329001; clear BK300; clear BK322; clear BK328; clear HB; have HO_6 := n0_; have HO_10 := n1_; have HO_128 := n2_; have HO_301001 := n3_; have HO_323001 := n4_; have HO_329001 := n5_; have HO344 := n6_; have BK300 := n7_; have BK322 := n8_; have BK328 := n9_; have HB := n10_; clear n0_ n1_ n2_ n3_ n4_ n5_ n6_ n7_ n8_ n9_ n10_; (try clear hb); (try clear hb2); (try clear hk); (try clear hi); (try clear ho0); have hnb157 := NB322_328.out; have hnc157 := NB328_322.out; have hcz158_0 : w156.cell? ⟨gb322, 0, none⟩ = some (.int .i64 t317) := (blk_cell BK322.out 0).trans rfl; have hcz158_1 : w156.cell? ⟨gb322, 1, none⟩ = some (.slice Ao29 t318.length co29) := (blk_cell BK322.out 1).trans rfl; have hfz158_0 := blk_frozen BK322.out 0; have hfz158_1 := blk_frozen BK322.out 1) | (go_at_call 18; (with_reducible refine (impl_ScoresOf.calls k3 t317 _ _ t318 t346 t349 _ ?side1 ?side2 A150.out).mono ?_); (case side1 => repeat (exact (Kd.R_reads' HO_323001.out).2.2)); (case side2 => exact (Kd.R_reads' HO_323001.out).2.1); rintro e w159 ⟨v347, rfl, ho0, hb⟩; have n0_ := Aside0.mk (Kd.R_elder' (by (with_reducible repeat (fail)); exact HO_6.out) (Kd.R_base ho0) hb); have n1_ := Aside0.mk (Kd.R_elder' (by (with_reducible repeat (fail)); exact HO_10.out) (Kd.R_base ho0) hb); have n2_ := Aside0.mk (Kd.R_elder' (by (with_reducible repeat (fail)); exact HO_128.out) (Kd.R_base ho0) hb); have n3_ := Aside0.mk (Kd.R_elder' (by (with_reducible repeat (fail)); exact HO_301001.out) (Kd.R_base ho0) hb); have n4_ := Aside0.mk (Kd.R_elder' (by (with_reducible repeat (fail)); exact HO_323001.out) (Kd.R_base ho0) hb); have n5_ := Aside0.mk (Kd.R_elder' (by (with_reducible repeat (fail)); exact HO_329001.out) (Kd.R_base ho0) hb); have n6_ := Aside0.mk (Kd.R_elder' (by (with_reducible repeat (fail)); exact HO344.out) (Kd.R_base ho0) hb); have n7_ := Aside0.mk (Kd.R_lower (Kd.R_new' (Kd.R_new' (Kd.R_new' (Kd.R_new' (Kd.R_new' (Kd.R_new' (Kd.R_new' ho0 (Kd.R_lt (by (with_reducible repeat (fail)); exact HO_6.out))) (Kd.R_lt (by (with_reducible repeat (fail)); exact HO_10.out))) (Kd.R_lt (by (with_reducible repeat (fail)); exact HO_128.out))) (Kd.R_lt (by (with_reducible repeat (fail)); exact HO_301001.out))) (Kd.R_lt (by (with_reducible repeat (fail)); exact HO_323001.out))) (Kd.R_lt (by (with_reducible repeat (fail)); exact HO_329001.out))) (Kd.R_lt (by (with_reducible repeat (fail)); exact HO344.out))) (below_size (by repeat ((with_reducible exact HB.out))))); have n8_ := Aside0.mk (blk_below (g := gb300) (o := .cells #[.int .i64 t296, .slice Ao16 t297.length co16] 26 (0, 0)) (by (with_reducible repeat (fail)); exact BK300.out) hb); have n9_ := Aside0.mk (blk_below (g := gb322) (o := .cells #[.int .i64 t317, .slice Ao29 t318.length co29] 26 (0, 0)) (by (with_reducible repeat (fail)); exact BK322.out) hb); have n10_ := Aside0.mk (blk_below (g := gb328) (o := .cells #[.int .i64 t323, .slice Ao36 t324.length co36] 26 (0, 0)) (by (with_reducible repeat (fail)); exact BK328.out) hb); have n11_ := Aside0.mk (below_step (by repeat ((with_reducible exact HB.out))) hb); clear HO_6; clear HO_10; clear HO_128; clear HO_301001; clear HO_323001; clear HO_329001; clear HO344; clear BK300; clear BK322; clear BK328; clear HB; have HO_6 := n0_; have HO_10 := n1_; have HO_128 := n2_; have HO_301001 := n3_; have HO_323001 := n4_; have HO_329001 := n5_; have HO344 := n6_; have HO348 := n7_; have BK300 := n8_; have BK322 := n9_; have BK328 := n10_; have HB := n11_; clear n0_ n1_ n2_ n3_ n4_ n5_ n6_ n7_ n8_ n9_ n10_ n11_; (try clear hb); (try clear hb2); (try clear hk); (try clear hi); (try clear ho0); have hcz160_0 : w159.cell? ⟨gb322, 0, none⟩ = some (.int .i64 t317) := (blk_cell BK322.out 0).trans rfl; have hcz160_1 : w159.cell? ⟨gb322, 1, none⟩ = some (.slice Ao29 t318.length co29) := (blk_cell BK322.out 1).trans rfl; have hfz160_0 := blk_frozen BK322.out 0; have hfz160_1 := blk_frozen BK322.out 1) | (go_at_call 11; (with_reducible refine (impl_MirrorTournament.calls k3 t317 _ _ t318 t350 t351 t354 _ ?side1 ?side2 A151.out).mono ?_); (case side1 => repeat (exact (Kd.R_reads' HO_323001.out).2.2)); (case side2 => exact (Kd.R_reads' HO_323001.out).2.1); rintro e w161 ⟨v352, rfl, ho0, hb⟩; have n0_ := Aside0.mk (Kd.R_elder' (by (with_reducible repeat (fail)); exact HO_6.out) (Kd.R_base ho0) hb); have n1_ := Aside0.mk (Kd.R_elder' (by (with_reducible repeat (fail)); exact HO_10.out) (Kd.R_base ho0) hb); have n2_ := Aside0.mk (Kd.R_elder' (by (with_reducible repeat (fail)); exact HO_128.out) (Kd.R_base ho0) hb); have n3_ := Aside0.mk (Kd.R_elder' (by (with_reducible repeat (fail)); exact HO_301001.out) (Kd.R_base ho0) hb); have n4_ := Aside0.mk (Kd.R_elder' (by (with_reducible repeat (fail)); exact HO_323001.out) (Kd.R_base ho0) hb); have n5_ := Aside0.mk (Kd.R_elder' (by (with_reducible repeat (fail)); exact HO_329001.out) (Kd.R_base ho0) hb); have n6_ := Aside0.mk (Kd.R_elder' (by (with_reducible repeat (fail)); exact HO344.out) (Kd.R_base ho0) hb); have n7_ := Aside0.mk (Kd.R_elder' (by (with_reducible repeat (fail)); exact HO348.out) (Kd.R_base ho0) hb); have n8_ := Aside0.mk (Kd.R_lower (Kd.R_new' (Kd.R_new' (Kd.R_new' (Kd.R_new' (Kd.R_new' (Kd.R_new' (Kd.R_new' (Kd.R_new' ho0 (Kd.R_lt (by (with_reducible repeat (fail)); exact HO_6.out))) (Kd.R_lt (by (with_reducible repeat (fail)); exact HO_10.out))) (Kd.R_lt (by (with_reducible repeat (fail)); exact HO_128.out))) (Kd.R_lt (by (with_reducible repeat (fail)); exact HO_301001.out))) (Kd.R_lt (by (with_reducible repeat (fail)); exact HO_323001.out))) (Kd.R_lt (by (with_reducible repeat (fail)); exact HO_329001.out))) (Kd.R_lt (by (with_reducible repeat (fail)); exact HO344.out))) (Kd.R_lt (by (with_reducible repeat (fail)); exact HO348.out))) (below_size (by repeat ((with_reducible exact HB.out))))); have n9_ := Aside0.mk (blk_below (g := gb300) (o := .cells #[.int .i64 t296, .slice Ao16 t297.length co16] 26 (0, 0)) (by (with_reducible repeat (fail)); exact BK300.out) hb); have n10_ := Aside0.mk (blk_below (g := gb322) (o := .cells #[.int .i64 t317, .slice Ao29 t318.length co29] 26 (0, 0)) (by (with_reducible repeat (fail)); exact BK322.out) hb); have n11_ := Aside0.mk (blk_below (g := gb328) (o := .cells #[.int .i64 t323, .slice Ao36 t324.length co36] 26 (0, 0)) (by (with_reducible repeat (fail)); exact BK328.out) hb); have n12_ := Aside0.mk (below_step (by repeat ((with_reducible exact HB.out))) hb); clear HO_6; clear HO_10; clear HO_128; clear HO_301001; clear HO_323001; clear HO_329001; clear HO344; clear HO348; clear BK300; clear BK322; clear BK328; clear HB; have HO_6 := n0_; have HO_10 := n1_; have HO_128 := n2_; have HO_301001 := n3_; have HO_323001 := n4_; have HO_329001 := n5_; have HO344 := n6_; have HO348 := n7_; have HO353 := n8_; have BK300 := n9_; have BK322 := n10_; have BK328 := n11_; have HB := n12_; clear n0_ n1_ n2_ n3_ n4_ n5_ n6_ n7_ n8_ n9_ n10_ n11_ n12_; (try clear hb); (try clear hb2); (try clear hk); (try clear hi); (try clear ho0)) | ((with_reducible refine gate_dst (N := 24) rfl ?_); (try (refine gate_guard (by rfl) ?_; dsimp only)); refine box_event ?hg (N := 24) ?hd (cs := #[.int .i64 0, .slice none 0 0]) (t := 26) ?hr ?_; (case hd => rfl); (case hg => rfl); (case hr => first | (go_simp; done) | (go_simp; rfl)); intro gb355 hg w162 hbox hb; have n0_ := Aside0.mk (Kd.R_below (by (with_reducible repeat (fail)); exact HO_6.out) hb); have n1_ := Aside0.mk (Kd.R_below (by (with_reducible repeat (fail)); exact HO_10.out) hb); have n2_ := Aside0.mk (Kd.R_below (by (with_reducible repeat (fail)); exact HO_128.out) hb); have n3_ := Aside0.mk (Kd.R_below (by (with_reducible repeat (fail)); exact HO_301001.out) hb); have n4_ := Aside0.mk (Kd.R_below (by (with_reducible repeat (fail)); exact HO_323001.out) hb); have n5_ := Aside0.mk (Kd.R_below (by (with_reducible repeat (fail)); exact HO_329001.out) hb); have n6_ := Aside0.mk (Kd.R_below (by (with_reducible repeat (fail)); exact HO344.out) hb); have n7_ := Aside0.mk (Kd.R_below (by (with_reducible repeat (fail)); exact HO348.out) hb); have n8_ := Aside0.mk (Kd.R_below (by (with_reducible repeat (fail)); exact HO353.out) hb); have n9_ := Aside0.mk (blk_below (g := gb300) (o := .cells #[.int .i64 t296, .slice Ao16 t297.length co16] 26 (0, 0)) (by (with_reducible repeat (fail)); exact BK300.out) hb); have n10_ := Aside0.mk (blk_below (g := gb322) (o := .cells #[.int .i64 t317, .slice Ao29 t318.length co29] 26 (0, 0)) (by (with_reducible repeat (fail)); exact BK322.out) hb); have n11_ := Aside0.mk (blk_below (g := gb328) (o := .cells #[.int .i64 t323, .slice Ao36 t324.length co36] 26 (0, 0)) (by (with_reducible repeat (fail)); exact BK328.out) hb); have n12_ := Aside0.mk (below_step (by repeat ((with_reducible exact HB.out))) hb); have n13_ := Aside0.mk (hbox); have n14_ := Aside0.mk ((by rw [hg]; exact (below_size (by repeat ((with_reducible exact HB.out)))) : w.heap.size ≤ gb355)); have n15_ := Aside0.mk ((by rw [hg]; exact (below_size (by repeat ((with_reducible exact HB.out)))) : w.heap.size ≤ gb355)); have n16_ := Aside0.mk ((by rw [hg]; exact Nat.ne_of_lt (blk_lt (g := gb300) (o := .cells #[.int .i64 t296, .slice Ao16 t297.length co16] 26 (0, 0)) (by (with_reducible repeat (fail)); exact BK300.out)) : gb300 ≠ gb355)); have n17_ := Aside0.mk ((by rw [hg]; exact Nat.ne_of_gt (blk_lt (g := gb300) (o := .cells #[.int .i64 t296, .slice Ao16 t297.length co16] 26 (0, 0)) (by (with_reducible repeat (fail)); exact BK300.out)) : gb355 ≠ gb300)); have n18_ := Aside0.mk ((by rw [hg]; exact Nat.ne_of_lt (blk_lt (g := gb322) (o := .cells #[.int .i64 t317, .slice Ao29 t318.length co29] 26 (0, 0)) (by (with_reducible repeat (fail)); exact BK322.out)) : gb322 ≠ gb355)); have n19_ := Aside0.mk ((by rw [hg]; exact Nat.ne_of_gt (blk_lt (g := gb322) (o := .cells #[.int .i64 t317, .slice Ao29 t318.length co29] 26 (0, 0)) (by (with_reducible repeat (fail)); exact BK322.out)) : gb355 ≠ gb322)); have n20_ := Aside0.mk ((by rw [hg]; exact Nat.ne_of_lt (blk_lt (g := gb328) (o := .cells #[.int .i64 t323, .slice Ao36 t324.length co36] 26 (0, 0)) (by (with_reducible repeat (fail)); exact BK328.out)) : gb328 ≠ gb355)); have n21_ := Aside0.mk ((by rw [hg]; exact Nat.ne_of_gt (blk_lt (g := gb328) (o := .cells #[.int .i64 t323, .slice Ao36 t324.length co36] 26 (0, 0)) (by (with_reducible repeat (fail)); exact BK328.out)) : gb355 ≠ gb328)); clear HO_6; clear HO_10; clear HO_128; clear HO_301001; clear HO_323001; clear HO_329001; clear HO344; clear HO348; clear HO353; clear BK300; clear BK322; clear BK328; clear HB; have HO_6 := n0_; have HO_10 := n1_; have HO_128 := n2_; have HO_301001 := n3_; have HO_323001 := n4_; have HO_329001 := n5_; have HO344 := n6_; have HO348 := n7_; have HO353 := n8_; have BK300 := n9_; have BK322 := n10_; have BK328 := n11_; have HB := n12_; have BK355 := n13_; have GW355 := n14_; have GE355 := n15_; have NB300_355 := n16_; have NB355_300 := n17_; have NB322_355 := n18_; have NB355_322 := n19_; have NB328_355 := n20_; have NB355_328 := n21_; clear n0_ n1_ n2_ n3_ n4_ n5_ n6_ n7_ n8_ n9_ n10_ n11_ n12_ n13_ n14_ n15_ n16_ n17_ n18_ n19_ n20_ n21_; clear hb hbox hg; have hnb163 := NB355_300.out; have hnc163 := NB300_355.out; have hnb164 := NB355_322.out; have hnc164 := NB322_355.out; have hnb165 := NB355_328.out; have hnc165 := NB328_355.out; have hcz166_0 : w162.cell? ⟨gb355, 0, none⟩ = some (.int .i64 0) := (blk_cell BK355.out 0).trans rfl; have hcz166_1 : w162.cell? ⟨gb355, 1, none⟩ = some (.slice none 0 0) := (blk_cell BK355.out 1).trans rfl; have hfz166_0 := blk_frozen BK355.out 0; have hfz166_1 := blk_frozen BK355.out 1; obtain ⟨Ao167, co167, eo167⟩ := Kd.R_slice HO353.out; subst eo167))
               repeat (go_quiet (fail); go_upto_region 25 with (fail))
               (try simp only [Act.put, List.setIfInBounds_toArray, List.set_cons_zero, List.set_cons_succ])
               go_cut [189] (fun v189 wc => ∃ (kq : Nat) (x189_151 : Bool), v189 = .bool x189_151 ∧ Aside0 (laws_FnOrdersAndKings.j3 kq t309 t342 t346 x189_151 t296 t297 = some r) ∧ Aside0 (kq ≤ k3) ∧ Aside0 (Kd.R (Kd.int .i64) 3 wc w.heap.size (fun k_ => some k_ ≠ (v343 : Value).ownBlock ∧ some k_ ≠ (v347 : Value).ownBlock ∧ some k_ ≠ ((.slice Ao16 t297.length co16) : Value).ownBlock ∧ some k_ ≠ ((.slice Ao29 t318.length co29) : Value).ownBlock ∧ some k_ ≠ ((.slice Ao36 t324.length co36) : Value).ownBlock ∧ some k_ ≠ ((.slice Ao167 t351.length co167) : Value).ownBlock) v310 t309) ∧ Aside0 (Kd.R (Kd.int .i64) 3 wc w.heap.size (fun k_ => some k_ ≠ (v310 : Value).ownBlock ∧ some k_ ≠ (v347 : Value).ownBlock ∧ some k_ ≠ ((.slice Ao16 t297.length co16) : Value).ownBlock ∧ some k_ ≠ ((.slice Ao29 t318.length co29) : Value).ownBlock ∧ some k_ ≠ ((.slice Ao36 t324.length co36) : Value).ownBlock ∧ some k_ ≠ ((.slice Ao167 t351.length co167) : Value).ownBlock) v343 t342) ∧ Aside0 (Kd.R (Kd.int .i64) 3 wc w.heap.size (fun k_ => some k_ ≠ (v310 : Value).ownBlock ∧ some k_ ≠ (v343 : Value).ownBlock ∧ some k_ ≠ ((.slice Ao16 t297.length co16) : Value).ownBlock ∧ some k_ ≠ ((.slice Ao29 t318.length co29) : Value).ownBlock ∧ some k_ ≠ ((.slice Ao36 t324.length co36) : Value).ownBlock ∧ some k_ ≠ ((.slice Ao167 t351.length co167) : Value).ownBlock) v347 t346) ∧ Aside0 (Kd.R (Kd.int .i64) 3 wc w.heap.size (fun k_ => some k_ ≠ (v310 : Value).ownBlock ∧ some k_ ≠ (v343 : Value).ownBlock ∧ some k_ ≠ (v347 : Value).ownBlock ∧ some k_ ≠ ((.slice Ao29 t318.length co29) : Value).ownBlock ∧ some k_ ≠ ((.slice Ao36 t324.length co36) : Value).ownBlock ∧ some k_ ≠ ((.slice Ao167 t351.length co167) : Value).ownBlock) (.slice Ao16 t297.length co16) t297) ∧ Aside0 (Kd.R (Kd.int .i64) 3 wc w.heap.size (fun k_ => some k_ ≠ (v310 : Value).ownBlock ∧ some k_ ≠ (v343 : Value).ownBlock ∧ some k_ ≠ (v347 : Value).ownBlock ∧ some k_ ≠ ((.slice Ao16 t297.length co16) : Value).ownBlock ∧ some k_ ≠ ((.slice Ao36 t324.length co36) : Value).ownBlock ∧ some k_ ≠ ((.slice Ao167 t351.length co167) : Value).ownBlock) (.slice Ao29 t318.length co29) t318) ∧ Aside0 (Kd.R (Kd.int .i64) 3 wc w.heap.size (fun k_ => some k_ ≠ (v310 : Value).ownBlock ∧ some k_ ≠ (v343 : Value).ownBlock ∧ some k_ ≠ (v347 : Value).ownBlock ∧ some k_ ≠ ((.slice Ao16 t297.length co16) : Value).ownBlock ∧ some k_ ≠ ((.slice Ao29 t318.length co29) : Value).ownBlock ∧ some k_ ≠ ((.slice Ao167 t351.length co167) : Value).ownBlock) (.slice Ao36 t324.length co36) t324) ∧ Aside0 (Kd.R (Kd.int .i64) 3 wc w.heap.size (fun k_ => some k_ ≠ (v310 : Value).ownBlock ∧ some k_ ≠ (v343 : Value).ownBlock ∧ some k_ ≠ (v347 : Value).ownBlock ∧ some k_ ≠ ((.slice Ao16 t297.length co16) : Value).ownBlock ∧ some k_ ≠ ((.slice Ao29 t318.length co29) : Value).ownBlock ∧ some k_ ≠ ((.slice Ao36 t324.length co36) : Value).ownBlock) (.slice Ao167 t351.length co167) t351) ∧ Aside0 (wc.heap[gb300]? = some (.cells #[.int .i64 t296, (.slice Ao16 t297.length co16)] 26 (0, 0))) ∧ Aside0 (wc.heap[gb322]? = some (.cells #[.int .i64 t317, (.slice Ao29 t318.length co29)] 26 (0, 0))) ∧ Aside0 (wc.heap[gb328]? = some (.cells #[.int .i64 t323, (.slice Ao36 t324.length co36)] 26 (0, 0))) ∧ Aside0 (wc.heap[gb355]? = some (.cells #[.int .i64 t350, (.slice Ao167 t351.length co167)] 26 (0, 0))) ∧ Aside0 (Below w.heap.size w wc))
               case first =>
                as_aux_lemma =>
                 have H := HC152.out
                 clear HC152
                 by_cases c168 : t345 = true
                 ·
                  subst c168
                  have H1 : (if t349 = true then (if t354 = true then ((laws_yTournament.f k3 t350 t351 t296 t297).bind fun t356 => (laws_FnOrdersAndKings.j3 k3 t309 t342 t346 (!t356) t296 t297)) else (laws_FnOrdersAndKings.j3 k3 t309 t342 t346 true t296 t297)) else (laws_FnOrdersAndKings.j3 k3 t309 t342 t346 true t296 t297)) = some r := by rw [if_pos rfl] at H; exact H
                  clear H
                  have H := H1
                  clear H1
                  by_cases c169 : t349 = true
                  ·
                   subst c169
                   have H1 : (if t354 = true then ((laws_yTournament.f k3 t350 t351 t296 t297).bind fun t356 => (laws_FnOrdersAndKings.j3 k3 t309 t342 t346 (!t356) t296 t297)) else (laws_FnOrdersAndKings.j3 k3 t309 t342 t346 true t296 t297)) = some r := by rw [if_pos rfl] at H; exact H
                   clear H
                   have H := H1
                   clear H1
                   by_cases c170 : t354 = true
                   ·
                    subst c170
                    have H1 : ((laws_yTournament.f k3 t350 t351 t296 t297).bind fun t356 => (laws_FnOrdersAndKings.j3 k3 t309 t342 t346 (!t356) t296 t297)) = some r := by rw [if_pos rfl] at H; exact H
                    clear H
                    have H := H1
                    clear H1
                    replace H := Option.bind_eq_some_iff.mp H
                    obtain ⟨t356, A1710, H⟩ := H
                    replace H : (laws_FnOrdersAndKings.j3 k3 t309 t342 t346 (!t356) t296 t297) = some r := H
                    have A171 := Aside0.mk A1710
                    clear A1710
                    have H' := Aside0.mk H
                    clear H
                    have hnb172 := NB355_300.out
                    have hnc172 := NB300_355.out
                    have hnb173 := NB355_322.out
                    have hnc173 := NB322_355.out
                    have hnb174 := NB355_328.out
                    have hnc174 := NB328_355.out
                    have hcz175_0 : w162.cell? ⟨gb355, 0, none⟩ = some (.int .i64 0) := (blk_cell BK355.out 0).trans rfl
                    have hcz175_1 : w162.cell? ⟨gb355, 1, none⟩ = some (.slice none 0 0) := (blk_cell BK355.out 1).trans rfl
                    have hfz175_0 := blk_frozen BK355.out 0
                    have hfz175_1 := blk_frozen BK355.out 1
                    have hnb176 := NB300_322.out
                    have hnc176 := NB322_300.out
                    have hnb177 := NB300_328.out
                    have hnc177 := NB328_300.out
                    have hcz178_0 : w162.cell? ⟨gb300, 0, none⟩ = some (.int .i64 t296) := (blk_cell BK300.out 0).trans rfl
                    have hcz178_1 : w162.cell? ⟨gb300, 1, none⟩ = some (.slice Ao16 t297.length co16) := (blk_cell BK300.out 1).trans rfl
                    have hfz178_0 := blk_frozen BK300.out 0
                    have hfz178_1 := blk_frozen BK300.out 1
                    go_wp2_with ((go_at_call 14; (with_reducible refine (laws_yTournament.calls k3 t350 _ _ t351 t296 _ _ t297 t356 _ ?side1 ?side2 ?side3 ?side4 A171.out).mono ?_); (case side1 => refine (Kd.R_reads' (e := 3) (base := w.heap.size) (ok := fun k_ => ((((((((True ∧ some k_ ≠ (.slice Ao123 t301.length co123 : Value).ownBlock) ∧ some k_ ≠ (v310 : Value).ownBlock) ∧ some k_ ≠ (.slice Ao123 t301.length co123 : Value).ownBlock) ∧ some k_ ≠ (.slice Ao16 t297.length co16 : Value).ownBlock) ∧ some k_ ≠ (.slice Ao29 t318.length co29 : Value).ownBlock) ∧ some k_ ≠ (.slice Ao36 t324.length co36 : Value).ownBlock) ∧ some k_ ≠ (v343 : Value).ownBlock) ∧ some k_ ≠ (v347 : Value).ownBlock)) (n := t351.length) (c := co167) ?_).2.2; exact (by (with_reducible repeat (fail)); exact (Kd.R_mono (Kd.R_far (p := ⟨gb355, 1, none⟩) (Kd.R_far (p := ⟨gb355, 0, none⟩) (Kd.R_types HO353.out BK355.out (by decide)) (fun _ hk => hk.2) (.int .i64 t350)) (fun _ hk => hk.2) (.slice Ao167 t351.length co167)) (fun _ h_ => h_.1)))); (case side2 => exact (Kd.R_reads' HO353.out).2.1); (case side3 => refine (Kd.R_reads' (e := 3) (base := w.heap.size) (ok := fun k_ => ((((some k_ ≠ (.slice Ao123 t301.length co123 : Value).ownBlock ∧ (some k_ ≠ (v310 : Value).ownBlock ∧ (some k_ ≠ (.slice Ao123 t301.length co123 : Value).ownBlock ∧ (some k_ ≠ (.slice Ao29 t318.length co29 : Value).ownBlock ∧ some k_ ≠ (.slice Ao36 t324.length co36 : Value).ownBlock)))) ∧ some k_ ≠ (v343 : Value).ownBlock) ∧ some k_ ≠ (v347 : Value).ownBlock) ∧ some k_ ≠ (.slice Ao167 t351.length co167 : Value).ownBlock)) (n := t297.length) (c := co16) ?_).2.2; exact (by (with_reducible repeat (fail)); exact (Kd.R_mono (Kd.R_far (p := ⟨gb355, 1, none⟩) (Kd.R_far (p := ⟨gb355, 0, none⟩) (Kd.R_types HO_301001.out BK355.out (by decide)) (fun _ hk => hk.2) (.int .i64 t350)) (fun _ hk => hk.2) (.slice Ao167 t351.length co167)) (fun _ h_ => h_.1)))); (case side4 => exact (Kd.R_reads' HO_301001.out).2.1); rintro e w179 ⟨rfl, hb⟩; have n0_ := Aside0.mk (Kd.R_below (by (with_reducible repeat (fail)); exact (Kd.R_mono (Kd.R_far (p := ⟨gb355, 1, none⟩) (Kd.R_far (p := ⟨gb355, 0, none⟩) (Kd.R_types HO_6.out BK355.out (by decide)) (fun _ hk => hk.2) (.int .i64 t350)) (fun _ hk => hk.2) (.slice Ao167 t351.length co167)) (fun _ h_ => h_.1))) hb); have n1_ := Aside0.mk (Kd.R_below (by (with_reducible repeat (fail)); exact (Kd.R_mono (Kd.R_far (p := ⟨gb355, 1, none⟩) (Kd.R_far (p := ⟨gb355, 0, none⟩) (Kd.R_types HO_10.out BK355.out (by decide)) (fun _ hk => hk.2) (.int .i64 t350)) (fun _ hk => hk.2) (.slice Ao167 t351.length co167)) (fun _ h_ => h_.1))) hb); have n2_ := Aside0.mk (Kd.R_below (by (with_reducible repeat (fail)); exact (Kd.R_mono (Kd.R_far (p := ⟨gb355, 1, none⟩) (Kd.R_far (p := ⟨gb355, 0, none⟩) (Kd.R_types HO_128.out BK355.out (by decide)) (fun _ hk => hk.2) (.int .i64 t350)) (fun _ hk => hk.2) (.slice Ao167 t351.length co167)) (fun _ h_ => h_.1))) hb); have n3_ := Aside0.mk (Kd.R_below (by (with_reducible repeat (fail)); exact (Kd.R_mono (Kd.R_far (p := ⟨gb355, 1, none⟩) (Kd.R_far (p := ⟨gb355, 0, none⟩) (Kd.R_types HO_301001.out BK355.out (by decide)) (fun _ hk => hk.2) (.int .i64 t350)) (fun _ hk => hk.2) (.slice Ao167 t351.length co167)) (fun _ h_ => h_.1))) hb); have n4_ := Aside0.mk (Kd.R_below (by (with_reducible repeat (fail)); exact (Kd.R_mono (Kd.R_far (p := ⟨gb355, 1, none⟩) (Kd.R_far (p := ⟨gb355, 0, none⟩) (Kd.R_types HO_323001.out BK355.out (by decide)) (fun _ hk => hk.2) (.int .i64 t350)) (fun _ hk => hk.2) (.slice Ao167 t351.length co167)) (fun _ h_ => h_.1))) hb); have n5_ := Aside0.mk (Kd.R_below (by (with_reducible repeat (fail)); exact (Kd.R_mono (Kd.R_far (p := ⟨gb355, 1, none⟩) (Kd.R_far (p := ⟨gb355, 0, none⟩) (Kd.R_types HO_329001.out BK355.out (by decide)) (fun _ hk => hk.2) (.int .i64 t350)) (fun _ hk => hk.2) (.slice Ao167 t351.length co167)) (fun _ h_ => h_.1))) hb); have n6_ := Aside0.mk (Kd.R_below (by (with_reducible repeat (fail)); exact (Kd.R_mono (Kd.R_far (p := ⟨gb355, 1, none⟩) (Kd.R_far (p := ⟨gb355, 0, none⟩) (Kd.R_types HO344.out BK355.out (by decide)) (fun _ hk => hk.2) (.int .i64 t350)) (fun _ hk => hk.2) (.slice Ao167 t351.length co167)) (fun _ h_ => h_.1))) hb); have n7_ := Aside0.mk (Kd.R_below (by (with_reducible repeat (fail)); exact (Kd.R_mono (Kd.R_far (p := ⟨gb355, 1, none⟩) (Kd.R_far (p := ⟨gb355, 0, none⟩) (Kd.R_types HO348.out BK355.out (by decide)) (fun _ hk => hk.2) (.int .i64 t350)) (fun _ hk => hk.2) (.slice Ao167 t351.length co167)) (fun _ h_ => h_.1))) hb); have n8_ := Aside0.mk (Kd.R_below (by (with_reducible repeat (fail)); exact (Kd.R_mono (Kd.R_far (p := ⟨gb355, 1, none⟩) (Kd.R_far (p := ⟨gb355, 0, none⟩) (Kd.R_types HO353.out BK355.out (by decide)) (fun _ hk => hk.2) (.int .i64 t350)) (fun _ hk => hk.2) (.slice Ao167 t351.length co167)) (fun _ h_ => h_.1))) hb); have n9_ := Aside0.mk (blk_below (g := gb300) (o := .cells #[.int .i64 t296, .slice Ao16 t297.length co16] 26 (0, 0)) (by (with_reducible repeat (fail)); refine blk_far ?_ NB300_355.out _; (with_reducible repeat (fail)); refine blk_far ?_ NB300_355.out _; (with_reducible repeat (fail)); exact BK300.out) hb); have n10_ := Aside0.mk (blk_below (g := gb322) (o := .cells #[.int .i64 t317, .slice Ao29 t318.length co29] 26 (0, 0)) (by (with_reducible repeat (fail)); refine blk_far ?_ NB322_355.out _; (with_reducible repeat (fail)); refine blk_far ?_ NB322_355.out _; (with_reducible repeat (fail)); exact BK322.out) hb); have n11_ := Aside0.mk (blk_below (g := gb328) (o := .cells #[.int .i64 t323, .slice Ao36 t324.length co36] 26 (0, 0)) (by (with_reducible repeat (fail)); refine blk_far ?_ NB328_355.out _; (with_reducible repeat (fail)); refine blk_far ?_ NB328_355.out _; (with_reducible repeat (fail)); exact BK328.out) hb); have n12_ := Aside0.mk (blk_below (g := gb355) (o := .cells #[.int .i64 t350, .slice Ao167 t351.length co167] 26 (0, 0)) (by (with_reducible repeat (fail)); refine blk_put (cs := #[.int .i64 t350, .slice none 0 0]) ?_ 1 _ rfl; (with_reducible repeat (fail)); refine blk_put (cs := #[.int .i64 0, .slice none 0 0]) ?_ 0 _ rfl; (with_reducible repeat (fail)); exact BK355.out) hb); have n13_ := Aside0.mk (below_step (by repeat ((with_reducible first | exact HB.out | refine below_set ?_ GE355.out))) hb); clear HO_6; clear HO_10; clear HO_128; clear HO_301001; clear HO_323001; clear HO_329001; clear HO344; clear HO348; clear HO353; clear BK300; clear BK322; clear BK328; clear BK355; clear HB; have HO_6 := n0_; have HO_10 := n1_; have HO_128 := n2_; have HO_301001 := n3_; have HO_323001 := n4_; have HO_329001 := n5_; have HO344 := n6_; have HO348 := n7_; have HO353 := n8_; have BK300 := n9_; have BK322 := n10_; have BK328 := n11_; have BK355 := n12_; have HB := n13_; clear n0_ n1_ n2_ n3_ n4_ n5_ n6_ n7_ n8_ n9_ n10_ n11_ n12_ n13_; (try clear hb); (try clear hb2); (try clear hk); (try clear hi)))
                    repeat (go_quiet (fail); try go_wp2_with (fail))
                    go_meet
                    case rel => exact ⟨_, (!t356), (by first | rfl | (simp; done) | (simp [*]; done)), H', ⟨by have := HJ11.out; have := HJ104.out; have := HK3.out; first | omega | exact Nat.le_refl _⟩, ⟨by (with_reducible repeat (fail)); exact Kd.R_mono HO_10.out (fun _ hk => ⟨hk.1.1.2, ⟨hk.1.2, ⟨hk.1.1.1.2.2.1, ⟨hk.1.1.1.2.2.2.1, ⟨hk.1.1.1.2.2.2.2, hk.2⟩⟩⟩⟩⟩)⟩, ⟨by (with_reducible repeat (fail)); exact Kd.R_mono HO344.out (fun _ hk => ⟨hk.1.1.1.1.1.1.2, ⟨hk.1.2, ⟨hk.1.1.1.1.2, ⟨hk.1.1.1.2, ⟨hk.1.1.2, hk.2⟩⟩⟩⟩⟩)⟩, ⟨by (with_reducible repeat (fail)); exact Kd.R_mono HO348.out (fun _ hk => ⟨hk.1.1.1.1.1.1.2, ⟨hk.1.2, ⟨hk.1.1.1.1.2, ⟨hk.1.1.1.2, ⟨hk.1.1.2, hk.2⟩⟩⟩⟩⟩)⟩, ⟨by (with_reducible repeat (fail)); exact Kd.R_mono HO_301001.out (fun _ hk => ⟨hk.1.1.1.2.1, ⟨hk.1.1.2, ⟨hk.1.2, ⟨hk.1.1.1.2.2.2.1, ⟨hk.1.1.1.2.2.2.2, hk.2⟩⟩⟩⟩⟩)⟩, ⟨by (with_reducible repeat (fail)); exact Kd.R_mono HO_323001.out (fun _ hk => ⟨hk.1.1.1.2.1, ⟨hk.1.1.2, ⟨hk.1.2, ⟨hk.1.1.1.2.2.2.1, ⟨hk.1.1.1.2.2.2.2, hk.2⟩⟩⟩⟩⟩)⟩, ⟨by (with_reducible repeat (fail)); exact Kd.R_mono HO_329001.out (fun _ hk => ⟨hk.1.1.1.2.1, ⟨hk.1.1.2, ⟨hk.1.2, ⟨hk.1.1.1.2.2.2.1, ⟨hk.1.1.1.2.2.2.2, hk.2⟩⟩⟩⟩⟩)⟩, ⟨by (with_reducible repeat (fail)); exact Kd.R_mono HO353.out (fun _ hk => ⟨hk.1.1.1.1.1.1.2, ⟨hk.1.2, ⟨hk.2, ⟨hk.1.1.1.1.2, ⟨hk.1.1.1.2, hk.1.1.2⟩⟩⟩⟩⟩)⟩, ⟨by (with_reducible repeat (fail)); exact BK300.out⟩, ⟨by (with_reducible repeat (fail)); exact BK322.out⟩, ⟨by (with_reducible repeat (fail)); exact BK328.out⟩, ⟨by (with_reducible repeat (fail)); exact BK355.out⟩, ⟨by repeat ((with_reducible exact HB.out))⟩⟩
                   ·
                    replace c170 := Bool.eq_false_iff.mpr c170
                    subst c170
                    have H1 : (laws_FnOrdersAndKings.j3 k3 t309 t342 t346 true t296 t297) = some r := by rw [if_neg (show ¬ (false = true) by decide)] at H; exact H
                    clear H
                    have H := H1
                    clear H1
                    have H' := Aside0.mk H
                    clear H
                    go_wp2
                    repeat (go_quiet (fail); try go_wp2)
                    go_meet
                    case rel => exact ⟨_, (true), (by first | rfl | (simp; done) | (simp [*]; done)), H', ⟨by have := HJ11.out; have := HJ104.out; have := HK3.out; first | omega | exact Nat.le_refl _⟩, ⟨by (with_reducible repeat (fail)); exact Kd.R_mono (Kd.R_far (p := ⟨gb355, 1, none⟩) (Kd.R_far (p := ⟨gb355, 0, none⟩) (Kd.R_types HO_10.out BK355.out (by decide)) (fun _ hk => hk.2) (.int .i64 t350)) (fun _ hk => hk.2) (.slice Ao167 t351.length co167)) (fun _ hk => ⟨hk.1.1.1.2, ⟨hk.1.1.2, ⟨hk.1.1.1.1.2.2.1, ⟨hk.1.1.1.1.2.2.2.1, ⟨hk.1.1.1.1.2.2.2.2, hk.1.2⟩⟩⟩⟩⟩)⟩, ⟨by (with_reducible repeat (fail)); exact Kd.R_mono (Kd.R_far (p := ⟨gb355, 1, none⟩) (Kd.R_far (p := ⟨gb355, 0, none⟩) (Kd.R_types HO344.out BK355.out (by decide)) (fun _ hk => hk.2) (.int .i64 t350)) (fun _ hk => hk.2) (.slice Ao167 t351.length co167)) (fun _ hk => ⟨hk.1.1.1.1.1.1.1.2, ⟨hk.1.1.2, ⟨hk.1.1.1.1.1.2, ⟨hk.1.1.1.1.2, ⟨hk.1.1.1.2, hk.1.2⟩⟩⟩⟩⟩)⟩, ⟨by (with_reducible repeat (fail)); exact Kd.R_mono (Kd.R_far (p := ⟨gb355, 1, none⟩) (Kd.R_far (p := ⟨gb355, 0, none⟩) (Kd.R_types HO348.out BK355.out (by decide)) (fun _ hk => hk.2) (.int .i64 t350)) (fun _ hk => hk.2) (.slice Ao167 t351.length co167)) (fun _ hk => ⟨hk.1.1.1.1.1.1.1.2, ⟨hk.1.1.2, ⟨hk.1.1.1.1.1.2, ⟨hk.1.1.1.1.2, ⟨hk.1.1.1.2, hk.1.2⟩⟩⟩⟩⟩)⟩, ⟨by (with_reducible repeat (fail)); exact Kd.R_mono (Kd.R_far (p := ⟨gb355, 1, none⟩) (Kd.R_far (p := ⟨gb355, 0, none⟩) (Kd.R_types HO_301001.out BK355.out (by decide)) (fun _ hk => hk.2) (.int .i64 t350)) (fun _ hk => hk.2) (.slice Ao167 t351.length co167)) (fun _ hk => ⟨hk.1.1.1.1.2.1, ⟨hk.1.1.1.2, ⟨hk.1.1.2, ⟨hk.1.1.1.1.2.2.2.1, ⟨hk.1.1.1.1.2.2.2.2, hk.1.2⟩⟩⟩⟩⟩)⟩, ⟨by (with_reducible repeat (fail)); exact Kd.R_mono (Kd.R_far (p := ⟨gb355, 1, none⟩) (Kd.R_far (p := ⟨gb355, 0, none⟩) (Kd.R_types HO_323001.out BK355.out (by decide)) (fun _ hk => hk.2) (.int .i64 t350)) (fun _ hk => hk.2) (.slice Ao167 t351.length co167)) (fun _ hk => ⟨hk.1.1.1.1.2.1, ⟨hk.1.1.1.2, ⟨hk.1.1.2, ⟨hk.1.1.1.1.2.2.2.1, ⟨hk.1.1.1.1.2.2.2.2, hk.1.2⟩⟩⟩⟩⟩)⟩, ⟨by (with_reducible repeat (fail)); exact Kd.R_mono (Kd.R_far (p := ⟨gb355, 1, none⟩) (Kd.R_far (p := ⟨gb355, 0, none⟩) (Kd.R_types HO_329001.out BK355.out (by decide)) (fun _ hk => hk.2) (.int .i64 t350)) (fun _ hk => hk.2) (.slice Ao167 t351.length co167)) (fun _ hk => ⟨hk.1.1.1.1.2.1, ⟨hk.1.1.1.2, ⟨hk.1.1.2, ⟨hk.1.1.1.1.2.2.2.1, ⟨hk.1.1.1.1.2.2.2.2, hk.1.2⟩⟩⟩⟩⟩)⟩, ⟨by (with_reducible repeat (fail)); exact Kd.R_mono (Kd.R_far (p := ⟨gb355, 1, none⟩) (Kd.R_far (p := ⟨gb355, 0, none⟩) (Kd.R_types HO353.out BK355.out (by decide)) (fun _ hk => hk.2) (.int .i64 t350)) (fun _ hk => hk.2) (.slice Ao167 t351.length co167)) (fun _ hk => ⟨hk.1.1.1.1.1.1.1.2, ⟨hk.1.1.2, ⟨hk.1.2, ⟨hk.1.1.1.1.1.2, ⟨hk.1.1.1.1.2, hk.1.1.1.2⟩⟩⟩⟩⟩)⟩, ⟨by (with_reducible repeat (fail)); refine blk_far ?_ NB300_355.out _; (with_reducible repeat (fail)); refine blk_far ?_ NB300_355.out _; (with_reducible repeat (fail)); exact BK300.out⟩, ⟨by (with_reducible repeat (fail)); refine blk_far ?_ NB322_355.out _; (with_reducible repeat (fail)); refine blk_far ?_ NB322_355.out _; (with_reducible repeat (fail)); exact BK322.out⟩, ⟨by (with_reducible repeat (fail)); refine blk_far ?_ NB328_355.out _; (with_reducible repeat (fail)); refine blk_far ?_ NB328_355.out _; (with_reducible repeat (fail)); exact BK328.out⟩, ⟨by (with_reducible repeat (fail)); refine blk_put (cs := #[.int .i64 t350, .slice none 0 0]) ?_ 1 _ rfl; (with_reducible repeat (fail)); refine blk_put (cs := #[.int .i64 0, .slice none 0 0]) ?_ 0 _ rfl; (with_reducible repeat (fail)); exact BK355.out⟩, ⟨by repeat ((with_reducible first | exact HB.out | refine below_set ?_ GE355.out))⟩⟩
                  ·
                   replace c169 := Bool.eq_false_iff.mpr c169
                   subst c169
                   have H1 : (laws_FnOrdersAndKings.j3 k3 t309 t342 t346 true t296 t297) = some r := by rw [if_neg (show ¬ (false = true) by decide)] at H; exact H
                   clear H
                   have H := H1
                   clear H1
                   have H' := Aside0.mk H
                   clear H
                   go_wp2
                   repeat (go_quiet (fail); try go_wp2)
                   go_meet
                   case rel => exact ⟨_, (true), (by first | rfl | (simp; done) | (simp [*]; done)), H', ⟨by have := HJ11.out; have := HJ104.out; have := HK3.out; first | omega | exact Nat.le_refl _⟩, ⟨by (with_reducible repeat (fail)); exact Kd.R_mono (Kd.R_far (p := ⟨gb355, 1, none⟩) (Kd.R_far (p := ⟨gb355, 0, none⟩) (Kd.R_types HO_10.out BK355.out (by decide)) (fun _ hk => hk.2) (.int .i64 t350)) (fun _ hk => hk.2) (.slice Ao167 t351.length co167)) (fun _ hk => ⟨hk.1.1.1.2, ⟨hk.1.1.2, ⟨hk.1.1.1.1.2.2.1, ⟨hk.1.1.1.1.2.2.2.1, ⟨hk.1.1.1.1.2.2.2.2, hk.1.2⟩⟩⟩⟩⟩)⟩, ⟨by (with_reducible repeat (fail)); exact Kd.R_mono (Kd.R_far (p := ⟨gb355, 1, none⟩) (Kd.R_far (p := ⟨gb355, 0, none⟩) (Kd.R_types HO344.out BK355.out (by decide)) (fun _ hk => hk.2) (.int .i64 t350)) (fun _ hk => hk.2) (.slice Ao167 t351.length co167)) (fun _ hk => ⟨hk.1.1.1.1.1.1.1.2, ⟨hk.1.1.2, ⟨hk.1.1.1.1.1.2, ⟨hk.1.1.1.1.2, ⟨hk.1.1.1.2, hk.1.2⟩⟩⟩⟩⟩)⟩, ⟨by (with_reducible repeat (fail)); exact Kd.R_mono (Kd.R_far (p := ⟨gb355, 1, none⟩) (Kd.R_far (p := ⟨gb355, 0, none⟩) (Kd.R_types HO348.out BK355.out (by decide)) (fun _ hk => hk.2) (.int .i64 t350)) (fun _ hk => hk.2) (.slice Ao167 t351.length co167)) (fun _ hk => ⟨hk.1.1.1.1.1.1.1.2, ⟨hk.1.1.2, ⟨hk.1.1.1.1.1.2, ⟨hk.1.1.1.1.2, ⟨hk.1.1.1.2, hk.1.2⟩⟩⟩⟩⟩)⟩, ⟨by (with_reducible repeat (fail)); exact Kd.R_mono (Kd.R_far (p := ⟨gb355, 1, none⟩) (Kd.R_far (p := ⟨gb355, 0, none⟩) (Kd.R_types HO_301001.out BK355.out (by decide)) (fun _ hk => hk.2) (.int .i64 t350)) (fun _ hk => hk.2) (.slice Ao167 t351.length co167)) (fun _ hk => ⟨hk.1.1.1.1.2.1, ⟨hk.1.1.1.2, ⟨hk.1.1.2, ⟨hk.1.1.1.1.2.2.2.1, ⟨hk.1.1.1.1.2.2.2.2, hk.1.2⟩⟩⟩⟩⟩)⟩, ⟨by (with_reducible repeat (fail)); exact Kd.R_mono (Kd.R_far (p := ⟨gb355, 1, none⟩) (Kd.R_far (p := ⟨gb355, 0, none⟩) (Kd.R_types HO_323001.out BK355.out (by decide)) (fun _ hk => hk.2) (.int .i64 t350)) (fun _ hk => hk.2) (.slice Ao167 t351.length co167)) (fun _ hk => ⟨hk.1.1.1.1.2.1, ⟨hk.1.1.1.2, ⟨hk.1.1.2, ⟨hk.1.1.1.1.2.2.2.1, ⟨hk.1.1.1.1.2.2.2.2, hk.1.2⟩⟩⟩⟩⟩)⟩, ⟨by (with_reducible repeat (fail)); exact Kd.R_mono (Kd.R_far (p := ⟨gb355, 1, none⟩) (Kd.R_far (p := ⟨gb355, 0, none⟩) (Kd.R_types HO_329001.out BK355.out (by decide)) (fun _ hk => hk.2) (.int .i64 t350)) (fun _ hk => hk.2) (.slice Ao167 t351.length co167)) (fun _ hk => ⟨hk.1.1.1.1.2.1, ⟨hk.1.1.1.2, ⟨hk.1.1.2, ⟨hk.1.1.1.1.2.2.2.1, ⟨hk.1.1.1.1.2.2.2.2, hk.1.2⟩⟩⟩⟩⟩)⟩, ⟨by (with_reducible repeat (fail)); exact Kd.R_mono (Kd.R_far (p := ⟨gb355, 1, none⟩) (Kd.R_far (p := ⟨gb355, 0, none⟩) (Kd.R_types HO353.out BK355.out (by decide)) (fun _ hk => hk.2) (.int .i64 t350)) (fun _ hk => hk.2) (.slice Ao167 t351.length co167)) (fun _ hk => ⟨hk.1.1.1.1.1.1.1.2, ⟨hk.1.1.2, ⟨hk.1.2, ⟨hk.1.1.1.1.1.2, ⟨hk.1.1.1.1.2, hk.1.1.1.2⟩⟩⟩⟩⟩)⟩, ⟨by (with_reducible repeat (fail)); refine blk_far ?_ NB300_355.out _; (with_reducible repeat (fail)); refine blk_far ?_ NB300_355.out _; (with_reducible repeat (fail)); exact BK300.out⟩, ⟨by (with_reducible repeat (fail)); refine blk_far ?_ NB322_355.out _; (with_reducible repeat (fail)); refine blk_far ?_ NB322_355.out _; (with_reducible repeat (fail)); exact BK322.out⟩, ⟨by (with_reducible repeat (fail)); refine blk_far ?_ NB328_355.out _; (with_reducible repeat (fail)); refine blk_far ?_ NB328_355.out _; (with_reducible repeat (fail)); exact BK328.out⟩, ⟨by (with_reducible repeat (fail)); refine blk_put (cs := #[.int .i64 t350, .slice none 0 0]) ?_ 1 _ rfl; (with_reducible repeat (fail)); refine blk_put (cs := #[.int .i64 0, .slice none 0 0]) ?_ 0 _ rfl; (with_reducible repeat (fail)); exact BK355.out⟩, ⟨by repeat ((with_reducible first | exact HB.out | refine below_set ?_ GE355.out))⟩⟩
                 ·
                  replace c168 := Bool.eq_false_iff.mpr c168
                  subst c168
                  have H1 : (laws_FnOrdersAndKings.j3 k3 t309 t342 t346 true t296 t297) = some r := by rw [if_neg (show ¬ (false = true) by decide)] at H; exact H
                  clear H
                  have H := H1
                  clear H1
                  have H' := Aside0.mk H
                  clear H
                  go_wp2
                  repeat (go_quiet (fail); try go_wp2)
                  go_meet
                  case rel => exact ⟨_, (true), (by first | rfl | (simp; done) | (simp [*]; done)), H', ⟨by have := HJ11.out; have := HJ104.out; have := HK3.out; first | omega | exact Nat.le_refl _⟩, ⟨by (with_reducible repeat (fail)); exact Kd.R_mono (Kd.R_far (p := ⟨gb355, 1, none⟩) (Kd.R_far (p := ⟨gb355, 0, none⟩) (Kd.R_types HO_10.out BK355.out (by decide)) (fun _ hk => hk.2) (.int .i64 t350)) (fun _ hk => hk.2) (.slice Ao167 t351.length co167)) (fun _ hk => ⟨hk.1.1.1.2, ⟨hk.1.1.2, ⟨hk.1.1.1.1.2.2.1, ⟨hk.1.1.1.1.2.2.2.1, ⟨hk.1.1.1.1.2.2.2.2, hk.1.2⟩⟩⟩⟩⟩)⟩, ⟨by (with_reducible repeat (fail)); exact Kd.R_mono (Kd.R_far (p := ⟨gb355, 1, none⟩) (Kd.R_far (p := ⟨gb355, 0, none⟩) (Kd.R_types HO344.out BK355.out (by decide)) (fun _ hk => hk.2) (.int .i64 t350)) (fun _ hk => hk.2) (.slice Ao167 t351.length co167)) (fun _ hk => ⟨hk.1.1.1.1.1.1.1.2, ⟨hk.1.1.2, ⟨hk.1.1.1.1.1.2, ⟨hk.1.1.1.1.2, ⟨hk.1.1.1.2, hk.1.2⟩⟩⟩⟩⟩)⟩, ⟨by (with_reducible repeat (fail)); exact Kd.R_mono (Kd.R_far (p := ⟨gb355, 1, none⟩) (Kd.R_far (p := ⟨gb355, 0, none⟩) (Kd.R_types HO348.out BK355.out (by decide)) (fun _ hk => hk.2) (.int .i64 t350)) (fun _ hk => hk.2) (.slice Ao167 t351.length co167)) (fun _ hk => ⟨hk.1.1.1.1.1.1.1.2, ⟨hk.1.1.2, ⟨hk.1.1.1.1.1.2, ⟨hk.1.1.1.1.2, ⟨hk.1.1.1.2, hk.1.2⟩⟩⟩⟩⟩)⟩, ⟨by (with_reducible repeat (fail)); exact Kd.R_mono (Kd.R_far (p := ⟨gb355, 1, none⟩) (Kd.R_far (p := ⟨gb355, 0, none⟩) (Kd.R_types HO_301001.out BK355.out (by decide)) (fun _ hk => hk.2) (.int .i64 t350)) (fun _ hk => hk.2) (.slice Ao167 t351.length co167)) (fun _ hk => ⟨hk.1.1.1.1.2.1, ⟨hk.1.1.1.2, ⟨hk.1.1.2, ⟨hk.1.1.1.1.2.2.2.1, ⟨hk.1.1.1.1.2.2.2.2, hk.1.2⟩⟩⟩⟩⟩)⟩, ⟨by (with_reducible repeat (fail)); exact Kd.R_mono (Kd.R_far (p := ⟨gb355, 1, none⟩) (Kd.R_far (p := ⟨gb355, 0, none⟩) (Kd.R_types HO_323001.out BK355.out (by decide)) (fun _ hk => hk.2) (.int .i64 t350)) (fun _ hk => hk.2) (.slice Ao167 t351.length co167)) (fun _ hk => ⟨hk.1.1.1.1.2.1, ⟨hk.1.1.1.2, ⟨hk.1.1.2, ⟨hk.1.1.1.1.2.2.2.1, ⟨hk.1.1.1.1.2.2.2.2, hk.1.2⟩⟩⟩⟩⟩)⟩, ⟨by (with_reducible repeat (fail)); exact Kd.R_mono (Kd.R_far (p := ⟨gb355, 1, none⟩) (Kd.R_far (p := ⟨gb355, 0, none⟩) (Kd.R_types HO_329001.out BK355.out (by decide)) (fun _ hk => hk.2) (.int .i64 t350)) (fun _ hk => hk.2) (.slice Ao167 t351.length co167)) (fun _ hk => ⟨hk.1.1.1.1.2.1, ⟨hk.1.1.1.2, ⟨hk.1.1.2, ⟨hk.1.1.1.1.2.2.2.1, ⟨hk.1.1.1.1.2.2.2.2, hk.1.2⟩⟩⟩⟩⟩)⟩, ⟨by (with_reducible repeat (fail)); exact Kd.R_mono (Kd.R_far (p := ⟨gb355, 1, none⟩) (Kd.R_far (p := ⟨gb355, 0, none⟩) (Kd.R_types HO353.out BK355.out (by decide)) (fun _ hk => hk.2) (.int .i64 t350)) (fun _ hk => hk.2) (.slice Ao167 t351.length co167)) (fun _ hk => ⟨hk.1.1.1.1.1.1.1.2, ⟨hk.1.1.2, ⟨hk.1.2, ⟨hk.1.1.1.1.1.2, ⟨hk.1.1.1.1.2, hk.1.1.1.2⟩⟩⟩⟩⟩)⟩, ⟨by (with_reducible repeat (fail)); refine blk_far ?_ NB300_355.out _; (with_reducible repeat (fail)); refine blk_far ?_ NB300_355.out _; (with_reducible repeat (fail)); exact BK300.out⟩, ⟨by (with_reducible repeat (fail)); refine blk_far ?_ NB322_355.out _; (with_reducible repeat (fail)); refine blk_far ?_ NB322_355.out _; (with_reducible repeat (fail)); exact BK322.out⟩, ⟨by (with_reducible repeat (fail)); refine blk_far ?_ NB328_355.out _; (with_reducible repeat (fail)); refine blk_far ?_ NB328_355.out _; (with_reducible repeat (fail)); exact BK328.out⟩, ⟨by (with_reducible repeat (fail)); refine blk_put (cs := #[.int .i64 t350, .slice none 0 0]) ?_ 1 _ rfl; (with_reducible repeat (fail)); refine blk_put (cs := #[.int .i64 0, .slice none 0 0]) ?_ 0 _ rfl; (with_reducible repeat (fail)); exact BK355.out⟩, ⟨by repeat ((with_reducible first | exact HB.out | refine below_set ?_ GE355.out))⟩⟩
               case rest =>
                as_aux_lemma =>
                 clear HC152
                 clear c124b0 hcz155_0 hcz155_1 hcz158_0 hcz158_1 hcz160_0 hcz160_1 hcz166_0 hcz166_1 hfz155_0 hfz155_1 hfz158_0 hfz158_1 hfz160_0 hfz160_1 hfz166_0 hfz166_1
                 obtain ⟨kq, x189_151, rfl, HA, HJ151, HO_10, HO_20, HO_22, HO_301001, HO_323001, HO_329001, HO_356001, BK300, BK322, BK328, BK355, HB⟩ := hcut
                 cases kq with
                 | zero => exact absurd HA.out (by simp [laws_FnOrdersAndKings.j3])
                 | succ kj151 =>
                  have H := HA.out
                  clear HA
                  simp only [laws_FnOrdersAndKings.j3] at H
                  by_cases c180 : x189_151 = true
                  ·
                   subst c180
                   have H1 : (some false) = some r := by rw [if_pos rfl] at H; exact H
                   clear H
                   have H := H1
                   clear H1
                   obtain rfl := Option.some.inj H
                   go_wp2
                   repeat (go_quiet (fail); try go_wp2)
                   go_ret
                   exact ⟨by first | rfl | (simp [errW_none, errW_some] <;> rfl) | (simp [*, errW_none, errW_some] <;> rfl), by repeat ((with_reducible exact HB.out))⟩
                  ·
                   replace c180 := Bool.eq_false_iff.mpr c180
                   subst c180
                   have H1 : (laws_FnOrdersAndKings.l1 kj151 t309 t342 t346 0 t342 (t342.length : Int) 0 t296 t297) = some r := by rw [if_neg (show ¬ (false = true) by decide)] at H; exact H
                   clear H
                   have H := H1
                   clear H1
                   have H' := Aside0.mk H
                   clear H
                   obtain ⟨Ao181, co181, eo181⟩ := Kd.R_slice HO_20.out
                   subst eo181
                   go_wp2
                   repeat (go_quiet (fail); try go_wp2)
                   go_loopg [26, 192] kj151 (fun kq v26 v192 w' => ∃ (x26_5 : Int) (x192_5 : Int), v26 = .int .i64 x26_5 ∧ v192 = .int .i64 x192_5 ∧ Aside0 (laws_FnOrdersAndKings.l1 kq t309 t342 t346 x26_5 t342 (t342.length : Int) x192_5 t296 t297 = some r) ∧ Aside0 (kq ≤ kj151) ∧ Aside0 (Kd.R (Kd.int .i64) 3 w' w.heap.size (fun k_ => some k_ ≠ ((.slice Ao181 t342.length co181) : Value).ownBlock ∧ some k_ ≠ (v347 : Value).ownBlock ∧ some k_ ≠ ((.slice Ao181 t342.length co181) : Value).ownBlock ∧ some k_ ≠ ((.slice Ao16 t297.length co16) : Value).ownBlock ∧ some k_ ≠ ((.slice Ao29 t318.length co29) : Value).ownBlock ∧ some k_ ≠ ((.slice Ao36 t324.length co36) : Value).ownBlock ∧ some k_ ≠ ((.slice Ao167 t351.length co167) : Value).ownBlock) v310 t309) ∧ Aside0 (Kd.R (Kd.int .i64) 3 w' w.heap.size (fun k_ => some k_ ≠ (v310 : Value).ownBlock ∧ some k_ ≠ (v347 : Value).ownBlock ∧ some k_ ≠ ((.slice Ao16 t297.length co16) : Value).ownBlock ∧ some k_ ≠ ((.slice Ao29 t318.length co29) : Value).ownBlock ∧ some k_ ≠ ((.slice Ao36 t324.length co36) : Value).ownBlock ∧ some k_ ≠ ((.slice Ao167 t351.length co167) : Value).ownBlock) (.slice Ao181 t342.length co181) t342) ∧ Aside0 (Kd.R (Kd.int .i64) 3 w' w.heap.size (fun k_ => some k_ ≠ (v310 : Value).ownBlock ∧ some k_ ≠ ((.slice Ao181 t342.length co181) : Value).ownBlock ∧ some k_ ≠ ((.slice Ao181 t342.length co181) : Value).ownBlock ∧ some k_ ≠ ((.slice Ao16 t297.length co16) : Value).ownBlock ∧ some k_ ≠ ((.slice Ao29 t318.length co29) : Value).ownBlock ∧ some k_ ≠ ((.slice Ao36 t324.length co36) : Value).ownBlock ∧ some k_ ≠ ((.slice Ao167 t351.length co167) : Value).ownBlock) v347 t346) ∧ Aside0 (Kd.R (Kd.int .i64) 3 w' w.heap.size (fun k_ => some k_ ≠ (v310 : Value).ownBlock ∧ some k_ ≠ (v347 : Value).ownBlock ∧ some k_ ≠ ((.slice Ao16 t297.length co16) : Value).ownBlock ∧ some k_ ≠ ((.slice Ao29 t318.length co29) : Value).ownBlock ∧ some k_ ≠ ((.slice Ao36 t324.length co36) : Value).ownBlock ∧ some k_ ≠ ((.slice Ao167 t351.length co167) : Value).ownBlock) (.slice Ao181 t342.length co181) t342) ∧ Aside0 (Kd.R (Kd.int .i64) 3 w' w.heap.size (fun k_ => some k_ ≠ (v310 : Value).ownBlock ∧ some k_ ≠ ((.slice Ao181 t342.length co181) : Value).ownBlock ∧ some k_ ≠ (v347 : Value).ownBlock ∧ some k_ ≠ ((.slice Ao181 t342.length co181) : Value).ownBlock ∧ some k_ ≠ ((.slice Ao29 t318.length co29) : Value).ownBlock ∧ some k_ ≠ ((.slice Ao36 t324.length co36) : Value).ownBlock ∧ some k_ ≠ ((.slice Ao167 t351.length co167) : Value).ownBlock) (.slice Ao16 t297.length co16) t297) ∧ Aside0 (Kd.R (Kd.int .i64) 3 w' w.heap.size (fun k_ => some k_ ≠ (v310 : Value).ownBlock ∧ some k_ ≠ ((.slice Ao181 t342.length co181) : Value).ownBlock ∧ some k_ ≠ (v347 : Value).ownBlock ∧ some k_ ≠ ((.slice Ao181 t342.length co181) : Value).ownBlock ∧ some k_ ≠ ((.slice Ao16 t297.length co16) : Value).ownBlock ∧ some k_ ≠ ((.slice Ao36 t324.length co36) : Value).ownBlock ∧ some k_ ≠ ((.slice Ao167 t351.length co167) : Value).ownBlock) (.slice Ao29 t318.length co29) t318) ∧ Aside0 (Kd.R (Kd.int .i64) 3 w' w.heap.size (fun k_ => some k_ ≠ (v310 : Value).ownBlock ∧ some k_ ≠ ((.slice Ao181 t342.length co181) : Value).ownBlock ∧ some k_ ≠ (v347 : Value).ownBlock ∧ some k_ ≠ ((.slice Ao181 t342.length co181) : Value).ownBlock ∧ some k_ ≠ ((.slice Ao16 t297.length co16) : Value).ownBlock ∧ some k_ ≠ ((.slice Ao29 t318.length co29) : Value).ownBlock ∧ some k_ ≠ ((.slice Ao167 t351.length co167) : Value).ownBlock) (.slice Ao36 t324.length co36) t324) ∧ Aside0 (Kd.R (Kd.int .i64) 3 w' w.heap.size (fun k_ => some k_ ≠ (v310 : Value).ownBlock ∧ some k_ ≠ ((.slice Ao181 t342.length co181) : Value).ownBlock ∧ some k_ ≠ (v347 : Value).ownBlock ∧ some k_ ≠ ((.slice Ao181 t342.length co181) : Value).ownBlock ∧ some k_ ≠ ((.slice Ao16 t297.length co16) : Value).ownBlock ∧ some k_ ≠ ((.slice Ao29 t318.length co29) : Value).ownBlock ∧ some k_ ≠ ((.slice Ao36 t324.length co36) : Value).ownBlock) (.slice Ao167 t351.length co167) t351) ∧ Aside0 (w'.heap[gb300]? = some (.cells #[.int .i64 t296, (.slice Ao16 t297.length co16)] 26 (0, 0))) ∧ Aside0 (w'.heap[gb322]? = some (.cells #[.int .i64 t317, (.slice Ao29 t318.length co29)] 26 (0, 0))) ∧ Aside0 (w'.heap[gb328]? = some (.cells #[.int .i64 t323, (.slice Ao36 t324.length co36)] 26 (0, 0))) ∧ Aside0 (w'.heap[gb355]? = some (.cells #[.int .i64 t350, (.slice Ao167 t351.length co167)] 26 (0, 0))) ∧ Aside0 (Below w.heap.size w w'))
                   case atStart => exact ⟨(0), (0), (by first | rfl | (simp; done) | (simp [*]; done)), (by first | rfl | (simp; done) | (simp [*]; done)), H', ⟨Nat.le_refl _⟩, ⟨by (with_reducible repeat (fail)); exact Kd.R_mono HO_10.out (fun _ hk => ⟨hk.1, ⟨hk.2.1, ⟨hk.1, ⟨hk.2.2.1, ⟨hk.2.2.2.1, ⟨hk.2.2.2.2.1, hk.2.2.2.2.2⟩⟩⟩⟩⟩⟩)⟩, ⟨by (with_reducible repeat (fail)); exact HO_20.out⟩, ⟨by (with_reducible repeat (fail)); exact Kd.R_mono HO_22.out (fun _ hk => ⟨hk.1, ⟨hk.2.1, ⟨hk.2.1, ⟨hk.2.2.1, ⟨hk.2.2.2.1, ⟨hk.2.2.2.2.1, hk.2.2.2.2.2⟩⟩⟩⟩⟩⟩)⟩, ⟨by (with_reducible repeat (fail)); exact HO_20.out⟩, ⟨by (with_reducible repeat (fail)); exact Kd.R_mono HO_301001.out (fun _ hk => ⟨hk.1, ⟨hk.2.1, ⟨hk.2.2.1, ⟨hk.2.1, ⟨hk.2.2.2.1, ⟨hk.2.2.2.2.1, hk.2.2.2.2.2⟩⟩⟩⟩⟩⟩)⟩, ⟨by (with_reducible repeat (fail)); exact Kd.R_mono HO_323001.out (fun _ hk => ⟨hk.1, ⟨hk.2.1, ⟨hk.2.2.1, ⟨hk.2.1, ⟨hk.2.2.2.1, ⟨hk.2.2.2.2.1, hk.2.2.2.2.2⟩⟩⟩⟩⟩⟩)⟩, ⟨by (with_reducible repeat (fail)); exact Kd.R_mono HO_329001.out (fun _ hk => ⟨hk.1, ⟨hk.2.1, ⟨hk.2.2.1, ⟨hk.2.1, ⟨hk.2.2.2.1, ⟨hk.2.2.2.2.1, hk.2.2.2.2.2⟩⟩⟩⟩⟩⟩)⟩, ⟨by (with_reducible repeat (fail)); exact Kd.R_mono HO_356001.out (fun _ hk => ⟨hk.1, ⟨hk.2.1, ⟨hk.2.2.1, ⟨hk.2.1, ⟨hk.2.2.2.1, ⟨hk.2.2.2.2.1, hk.2.2.2.2.2⟩⟩⟩⟩⟩⟩)⟩, ⟨by (with_reducible repeat (fail)); exact BK300.out⟩, ⟨by (with_reducible repeat (fail)); exact BK322.out⟩, ⟨by (with_reducible repeat (fail)); exact BK328.out⟩, ⟨by (with_reducible repeat (fail)); exact BK355.out⟩, ⟨by repeat ((with_reducible exact HB.out))⟩⟩
                   case round =>
                    as_aux_lemma =>
                     clear H'
                     obtain ⟨x26_5, x192_5, rfl, rfl, HA, HK5, HO_10, HO_20, HO_22, HO_190, HO_301001, HO_323001, HO_329001, HO_356001, BK300, BK322, BK328, BK355, HB⟩ := hrel
                     cases gk with
                     | zero => exact absurd HA.out (by simp [laws_FnOrdersAndKings.l1])
                     | succ k5 =>
                      have H := HA.out
                      clear HA
                      simp only [laws_FnOrdersAndKings.l1] at H
                      by_cases c182 : x192_5 < (t342.length : Int)
                      ·
                       rw [if_pos c182] at H
                       have c182b0 : decide (x192_5 < (t342.length : Int)) = true := decide_eq_true c182
                       clear c182
                       by_cases c183 : 0 ≤ x192_5
                       ·
                        rw [if_pos c183] at H
                        have c183b0 : decide (0 ≤ x192_5) = true := decide_eq_true c183
                        clear c183
                        by_cases c184 : x192_5 < (t342.length : Int)
                        ·
                         rw [if_pos c184] at H
                         have c184b0 : decide (x192_5 < (t342.length : Int)) = true := decide_eq_true c184
                         clear c184
                         by_cases c185 : x192_5 < (t346.length : Int)
                         ·
                          rw [if_pos c185] at H
                          have c185b0 : decide (x192_5 < (t346.length : Int)) = true := decide_eq_true c185
                          clear c185
                          by_cases c186 : (wrap64 ((rd t342 x192_5) + (rd t346 x192_5))) = (wrap64 (t296 - 1))
                          ·
                           rw [if_pos c186] at H
                           have c186b0 : ((wrap64 ((rd t342 x192_5) + (rd t346 x192_5))) == (wrap64 (t296 - 1))) = true := beq_iff_eq.mpr c186
                           have c186b1 : ((wrap64 ((rd t342 x192_5) + (rd t346 x192_5))) != (wrap64 (t296 - 1))) = false := bne_eq_false_iff_eq.mpr c186
                           clear c186
                           by_cases c187 : 0 ≤ x26_5
                           ·
                            rw [if_pos c187] at H
                            have c187b0 : decide (0 ≤ x26_5) = true := decide_eq_true c187
                            clear c187
                            by_cases c188 : x26_5 < (t342.length : Int)
                            ·
                             rw [if_pos c188] at H
                             have c188b0 : decide (x26_5 < (t342.length : Int)) = true := decide_eq_true c188
                             clear c188
                             by_cases c189 : (rd t342 x192_5) > (rd t342 x26_5)
                             ·
                              rw [if_pos c189] at H
                              have c189b0 : decide ((rd t342 x26_5) < (rd t342 x192_5)) = true := decide_eq_true c189
                              clear c189
                              have H' := Aside0.mk H
                              clear H
                              have p358 : 0 ≤ (x192_5 : Int) := of_decide_eq_true (by first | (with_reducible assumption) | assumption)
                              have q358 : x192_5 < (t342.length : Int) := of_decide_eq_true (by first | (with_reducible assumption) | assumption)
                              obtain ⟨ad358, e358, hx358_0⟩ := Kd.at_int (Kd.R_reads' HO_190.out).2.2 x192_5 p358 q358
                              cases e358
                              replace p358 := eq_true p358
                              replace q358 := eq_true q358
                              obtain ⟨Ao190, co190, eo190⟩ := Kd.R_slice HO_22.out
                              subst eo190
                              have p359 : 0 ≤ (x192_5 : Int) := of_decide_eq_true (by first | (with_reducible assumption) | assumption)
                              have q359 : x192_5 < (t346.length : Int) := of_decide_eq_true (by first | (with_reducible assumption) | assumption)
                              obtain ⟨ad359, e359, hx359_0⟩ := Kd.at_int (Kd.R_reads' HO_22.out).2.2 x192_5 p359 q359
                              cases e359
                              replace p359 := eq_true p359
                              replace q359 := eq_true q359
                              have hnb191 := NB300_322.out
                              have hnc191 := NB322_300.out
                              have hnb192 := NB300_328.out
                              have hnc192 := NB328_300.out
                              have hnb193 := NB300_355.out
                              have hnc193 := NB355_300.out
                              have hcz194_0 : wr.cell? ⟨gb300, 0, none⟩ = some (.int .i64 t296) := (blk_cell BK300.out 0).trans rfl
                              have hcz194_1 : wr.cell? ⟨gb300, 1, none⟩ = some (.slice Ao16 t297.length co16) := (blk_cell BK300.out 1).trans rfl
                              have hfz194_0 := blk_frozen BK300.out 0
                              have hfz194_1 := blk_frozen BK300.out 1
                              have p360 : 0 ≤ (x26_5 : Int) := of_decide_eq_true (by first | (with_reducible assumption) | assumption)
                              have q360 : x26_5 < (t342.length : Int) := of_decide_eq_true (by first | (with_reducible assumption) | assumption)
                              obtain ⟨ad360, e360, hx360_0⟩ := Kd.at_int (Kd.R_reads' HO_20.out).2.2 x26_5 p360 q360
                              obtain rfl : ad358 = ad360 := (by injection e360)
                              replace p360 := eq_true p360
                              replace q360 := eq_true q360
                              go_wp2
                              repeat (go_quiet (fail); try go_wp2)
                              go_roundg k5
                              case measure => have := HJ11.out; have := HJ104.out; have := HK3.out; have := HJ151.out; have := HK5.out; omega
                              case rel => exact ⟨(x192_5), (wrap64 (x192_5 + 1)), (by first | rfl | (simp; done) | (simp [*]; done)), (by first | rfl | (simp; done) | (simp [*]; done)), H', ⟨by have := HJ11.out; have := HJ104.out; have := HK3.out; have := HJ151.out; have := HK5.out; omega⟩, ⟨by (with_reducible repeat (apply Kd.R_drewN)); exact HO_10.out⟩, ⟨by (with_reducible repeat (apply Kd.R_drewN)); exact HO_20.out⟩, ⟨by (with_reducible repeat (apply Kd.R_drewN)); exact HO_22.out⟩, ⟨by (with_reducible repeat (apply Kd.R_drewN)); exact HO_190.out⟩, ⟨by (with_reducible repeat (apply Kd.R_drewN)); exact HO_301001.out⟩, ⟨by (with_reducible repeat (apply Kd.R_drewN)); exact HO_323001.out⟩, ⟨by (with_reducible repeat (apply Kd.R_drewN)); exact HO_329001.out⟩, ⟨by (with_reducible repeat (apply Kd.R_drewN)); exact HO_356001.out⟩, ⟨by (with_reducible repeat (refine blk_drewN ?_ _)); exact BK300.out⟩, ⟨by (with_reducible repeat (refine blk_drewN ?_ _)); exact BK322.out⟩, ⟨by (with_reducible repeat (refine blk_drewN ?_ _)); exact BK328.out⟩, ⟨by (with_reducible repeat (refine blk_drewN ?_ _)); exact BK355.out⟩, ⟨by repeat ((with_reducible first | exact HB.out | apply pw_below_drewN))⟩⟩
                             ·
                              rw [if_neg c189] at H
                              have c189b0 : decide ((rd t342 x26_5) < (rd t342 x192_5)) = false := decide_eq_false c189
                              clear c189
                              have H' := Aside0.mk H
                              clear H
                              have p358 : 0 ≤ (x192_5 : Int) := of_decide_eq_true (by first | (with_reducible assumption) | assumption)
                              have q358 : x192_5 < (t342.length : Int) := of_decide_eq_true (by first | (with_reducible assumption) | assumption)
                              obtain ⟨ad358, e358, hx358_0⟩ := Kd.at_int (Kd.R_reads' HO_190.out).2.2 x192_5 p358 q358
                              cases e358
                              replace p358 := eq_true p358
                              replace q358 := eq_true q358
                              obtain ⟨Ao195, co195, eo195⟩ := Kd.R_slice HO_22.out
                              subst eo195
                              have p359 : 0 ≤ (x192_5 : Int) := of_decide_eq_true (by first | (with_reducible assumption) | assumption)
                              have q359 : x192_5 < (t346.length : Int) := of_decide_eq_true (by first | (with_reducible assumption) | assumption)
                              obtain ⟨ad359, e359, hx359_0⟩ := Kd.at_int (Kd.R_reads' HO_22.out).2.2 x192_5 p359 q359
                              cases e359
                              replace p359 := eq_true p359
                              replace q359 := eq_true q359
                              have hnb196 := NB300_322.out
                              have hnc196 := NB322_300.out
                              have hnb197 := NB300_328.out
                              have hnc197 := NB328_300.out
                              have hnb198 := NB300_355.out
                              have hnc198 := NB355_300.out
                              have hcz199_0 : wr.cell? ⟨gb300, 0, none⟩ = some (.int .i64 t296) := (blk_cell BK300.out 0).trans rfl
                              have hcz199_1 : wr.cell? ⟨gb300, 1, none⟩ = some (.slice Ao16 t297.length co16) := (blk_cell BK300.out 1).trans rfl
                              have hfz199_0 := blk_frozen BK300.out 0
                              have hfz199_1 := blk_frozen BK300.out 1
                              have p360 : 0 ≤ (x26_5 : Int) := of_decide_eq_true (by first | (with_reducible assumption) | assumption)
                              have q360 : x26_5 < (t342.length : Int) := of_decide_eq_true (by first | (with_reducible assumption) | assumption)
                              obtain ⟨ad360, e360, hx360_0⟩ := Kd.at_int (Kd.R_reads' HO_20.out).2.2 x26_5 p360 q360
                              obtain rfl : ad358 = ad360 := (by injection e360)
                              replace p360 := eq_true p360
                              replace q360 := eq_true q360
                              go_wp2
                              repeat (go_quiet (fail); try go_wp2)
                              go_roundg k5
                              case measure => have := HJ11.out; have := HJ104.out; have := HK3.out; have := HJ151.out; have := HK5.out; omega
                              case rel => exact ⟨(x26_5), (wrap64 (x192_5 + 1)), (by first | rfl | (simp; done) | (simp [*]; done)), (by first | rfl | (simp; done) | (simp [*]; done)), H', ⟨by have := HJ11.out; have := HJ104.out; have := HK3.out; have := HJ151.out; have := HK5.out; omega⟩, ⟨by (with_reducible repeat (apply Kd.R_drewN)); exact HO_10.out⟩, ⟨by (with_reducible repeat (apply Kd.R_drewN)); exact HO_20.out⟩, ⟨by (with_reducible repeat (apply Kd.R_drewN)); exact HO_22.out⟩, ⟨by (with_reducible repeat (apply Kd.R_drewN)); exact HO_190.out⟩, ⟨by (with_reducible repeat (apply Kd.R_drewN)); exact HO_301001.out⟩, ⟨by (with_reducible repeat (apply Kd.R_drewN)); exact HO_323001.out⟩, ⟨by (with_reducible repeat (apply Kd.R_drewN)); exact HO_329001.out⟩, ⟨by (with_reducible repeat (apply Kd.R_drewN)); exact HO_356001.out⟩, ⟨by (with_reducible repeat (refine blk_drewN ?_ _)); exact BK300.out⟩, ⟨by (with_reducible repeat (refine blk_drewN ?_ _)); exact BK322.out⟩, ⟨by (with_reducible repeat (refine blk_drewN ?_ _)); exact BK328.out⟩, ⟨by (with_reducible repeat (refine blk_drewN ?_ _)); exact BK355.out⟩, ⟨by repeat ((with_reducible first | exact HB.out | apply pw_below_drewN))⟩⟩
                            ·
                             rw [if_neg c188] at H
                             exact absurd H (by simp)
                           ·
                            rw [if_neg c187] at H
                            exact absurd H (by simp)
                          ·
                           rw [if_neg c186] at H
                           have c186b0 : ((wrap64 ((rd t342 x192_5) + (rd t346 x192_5))) == (wrap64 (t296 - 1))) = false := beq_eq_false_iff_ne.mpr c186
                           have c186b1 : ((wrap64 ((rd t342 x192_5) + (rd t346 x192_5))) != (wrap64 (t296 - 1))) = true := bne_iff_ne.mpr c186
                           obtain rfl := Option.some.inj H
                           have p358 : 0 ≤ (x192_5 : Int) := of_decide_eq_true (by first | (with_reducible assumption) | assumption)
                           have q358 : x192_5 < (t342.length : Int) := of_decide_eq_true (by first | (with_reducible assumption) | assumption)
                           obtain ⟨ad358, e358, hx358_0⟩ := Kd.at_int (Kd.R_reads' HO_190.out).2.2 x192_5 p358 q358
                           cases e358
                           replace p358 := eq_true p358
                           replace q358 := eq_true q358
                           obtain ⟨Ao200, co200, eo200⟩ := Kd.R_slice HO_22.out
                           subst eo200
                           have p359 : 0 ≤ (x192_5 : Int) := of_decide_eq_true (by first | (with_reducible assumption) | assumption)
                           have q359 : x192_5 < (t346.length : Int) := of_decide_eq_true (by first | (with_reducible assumption) | assumption)
                           obtain ⟨ad359, e359, hx359_0⟩ := Kd.at_int (Kd.R_reads' HO_22.out).2.2 x192_5 p359 q359
                           cases e359
                           replace p359 := eq_true p359
                           replace q359 := eq_true q359
                           have hnb201 := NB300_322.out
                           have hnc201 := NB322_300.out
                           have hnb202 := NB300_328.out
                           have hnc202 := NB328_300.out
                           have hnb203 := NB300_355.out
                           have hnc203 := NB355_300.out
                           have hcz204_0 : wr.cell? ⟨gb300, 0, none⟩ = some (.int .i64 t296) := (blk_cell BK300.out 0).trans rfl
                           have hcz204_1 : wr.cell? ⟨gb300, 1, none⟩ = some (.slice Ao16 t297.length co16) := (blk_cell BK300.out 1).trans rfl
                           have hfz204_0 := blk_frozen BK300.out 0
                           have hfz204_1 := blk_frozen BK300.out 1
                           go_wp2
                           repeat (go_quiet (fail); try go_wp2)
                           go_ret
                           exact ⟨by first | rfl | (simp [errW_none, errW_some] <;> rfl) | (simp [*, errW_none, errW_some] <;> rfl), by repeat ((with_reducible first | exact HB.out | apply pw_below_drewN))⟩
                         ·
                          rw [if_neg c185] at H
                          exact absurd H (by simp)
                        ·
                         rw [if_neg c184] at H
                         exact absurd H (by simp)
                       ·
                        rw [if_neg c183] at H
                        exact absurd H (by simp)
                      ·
                       rw [if_neg c182] at H
                       have c182b0 : decide (x192_5 < (t342.length : Int)) = false := decide_eq_false c182
                       clear c182
                       replace H := Option.bind_eq_some_iff.mp H
                       obtain ⟨t357, A2050, H⟩ := H
                       replace H : (some t357) = some r := H
                       have A205 := Aside0.mk A2050
                       clear A2050
                       obtain rfl := Option.some.inj H
                       obtain ⟨Ao206, co206, eo206⟩ := Kd.R_slice HO_10.out
                       subst eo206
                       go_wp2_with ((go_at_call 16; (with_reducible refine (laws_yHas.calls k5 _ _ t309 x26_5 t357 _ ?side1 ?side2 A205.out).mono ?_); (case side1 => repeat (exact (Kd.R_reads' HO_10.out).2.2)); (case side2 => exact (Kd.R_reads' HO_10.out).2.1); rintro e w' ⟨rfl, ⟨nd, rfl⟩⟩; (skip)))
                       repeat (go_quiet (fail); try go_wp2_with (fail))
                       go_ret
                       exact ⟨by first | rfl | (simp [errW_none, errW_some] <;> rfl) | (simp [*, errW_none, errW_some] <;> rfl), by repeat ((with_reducible first | exact HB.out | apply pw_below_drewN))⟩
      ·
       replace c104 := Bool.eq_false_iff.mpr c104
       subst c104
       have H1 : (some true) = some r := by rw [if_neg (show ¬ (false = true) by decide)] at H; exact H
       clear H
       have H := H1
       clear H1
       obtain rfl := Option.some.inj H
       go_wp2
       repeat (go_quiet (fail); try go_wp2)
       go_ret
       exact ⟨by first | rfl | (simp [errW_none, errW_some] <;> rfl) | (simp [*, errW_none, errW_some] <;> rfl), by repeat ((with_reducible exact HB.out))⟩
def laws_FnOrdersAndKings.Pure : Prop := ∀ (l0 : List Int) (l1 : List Int), l0.length ≤ maxLen → l0.length * 1 ≤ 140737488351232 → (∀ x ∈ l0, (Lit.int .u8 x).wf = true) → l1.length ≤ maxLen → l1.length * 1 ≤ 140737488351232 → (∀ x ∈ l1, (Lit.int .u8 x).wf = true) → ∃ k, laws_FnOrdersAndKings.f k l0 l1 = some true
end Go.Proofs.YtcheoendfcgjgaaDoor.P
namespace Go.Proofs.YtcheoendfcgjgaaDoor.K
open Go.RowKit Go.Proofs.YtcheoendfcgjgaaDoorW.PrintWords
abbrev BM : Nat := 17592186044416
theorem wrap_id {x : Int} (h1 : -9223372036854775808 ≤ x) (h2 : x < 9223372036854775808) : wrap64 x = x := by unfold wrap64; omega
theorem mid (x : Int) (done rest : List Int) (h : (done ++ x :: rest).length ≤ BM) :
    ((done.length : Int) < ((done ++ x :: rest).length : Int)) ∧ 0 ≤ (done.length : Int) ∧ rd (done ++ x :: rest) (done.length : Int) = x ∧ wrap64 ((done.length : Int) + 1) = ((done ++ [x]).length : Int) ∧ done ++ [x] ++ rest = done ++ x :: rest := by
  simp only [BM] at h
  refine ⟨by simp; omega, by omega, by simp [rd], ?_, by simp⟩
  simp at h ⊢
  unfold wrap64; omega
theorem Ev.ite {α : Type} {c : Prop} [Decidable c] {f g : Nat → Option α} {r : α} (h1 : c → Ev f r) (h2 : ¬ c → Ev g r) : Ev (fun k => if c then f k else g k) r := by
  by_cases h : c
  · simpa [h] using h1 h
  · simpa [h] using h2 h
theorem Ev.some {α : Type} {r r' : α} (h : r = r') : Ev (fun _ => Option.some r) r' := h ▸ Ev.now r
theorem Ev.pair {α : Type} {f : Nat → Option α} {r r' : α} (h : Ev f r) (e : r = r') : Ev f r' := e ▸ h
def EvB (g : Nat → Option Bool) (P : Prop) : Prop := (P → Ev g true) ∧ (¬ P → Ev g false)
theorem EvB.congr {g : Nat → Option Bool} {P Q : Prop} (h : EvB g P) (e : P ↔ Q) : EvB g Q := ⟨fun q => h.1 (e.2 q), fun q => h.2 (fun p => q (e.1 p))⟩
theorem EvB.ev {g : Nat → Option Bool} {P : Prop} (h : EvB g P) : ∃ b : Bool, Ev g b ∧ (b = true ↔ P) := by
  by_cases p : P
  · exact ⟨true, h.1 p, by simp [p]⟩
  · exact ⟨false, h.2 p, by simp [p]⟩
theorem EvB.of {g : Nat → Option Bool} {P : Prop} {b : Bool} (h : Ev g b) (e : b = true ↔ P) : EvB g P := by
  cases b with
  | true => exact ⟨fun _ => h, fun p => absurd (e.1 rfl) p⟩
  | false => exact ⟨fun p => absurd (e.2 p) (by simp), fun _ => h⟩
theorem EvB.true_ : EvB (fun _ => some true) True := ⟨fun _ => Ev.now _, fun h => absurd trivial h⟩
theorem EvB.false_ : EvB (fun _ => some false) False := ⟨fun h => h.elim, fun _ => Ev.now _⟩
theorem EvB.now (b : Bool) : EvB (fun _ => some b) (b = true) := EvB.of (Ev.now b) Iff.rfl
theorem EvB.fn {g f : Nat → Option Bool} {P : Prop} (h : ∀ k, g k = f k) (k : EvB f P) : EvB g P := ⟨fun p => Ev.congr h (k.1 p), fun p => Ev.congr h (k.2 p)⟩
theorem EvB.step {g f : Nat → Option Bool} {P : Prop} (h : ∀ k, g (k + 1) = f k) (k : EvB f P) : EvB g P := ⟨fun p => Ev.step h (k.1 p), fun p => Ev.step h (k.2 p)⟩
theorem EvB.ite {c : Prop} [Decidable c] {f g : Nat → Option Bool} {P Q : Prop} (h1 : c → EvB f P) (h2 : ¬ c → EvB g Q) : EvB (fun k => if c then f k else g k) ((c ∧ P) ∨ (¬ c ∧ Q)) := by
  by_cases h : c
  · simpa [h] using h1 h
  · simpa [h] using h2 h
theorem EvB.and {c : Prop} [Decidable c] {f : Nat → Option Bool} {P : Prop} (h1 : c → EvB f P) : EvB (fun k => if c then f k else some false) (c ∧ P) := by
  by_cases h : c
  · simpa [h] using h1 h
  · simpa [h] using EvB.false_
theorem EvB.bind {α : Type} {g : Nat → Option α} {f : Nat → α → Option Bool} {a : α} {P : Prop} (h : Ev g a) (k : EvB (fun n => f n a) P) : EvB (fun n => (g n).bind (f n)) P :=
  ⟨fun p => Ev.bind h (k.1 p), fun p => Ev.bind h (k.2 p)⟩
theorem allLoop (g : Nat → Nat → Option Bool) (n : Nat) (P : Nat → Prop) (Q : Prop) (hend : EvB (g n) Q)
    (hs : ∀ j, j < n → ∀ R, EvB (g (j + 1)) R → EvB (g j) (P j ∧ R)) : ∀ d j, j + d = n → EvB (g j) ((∀ i, j ≤ i → i < n → P i) ∧ Q) := by
  intro d
  induction d with
  | zero =>
    intro j hj
    obtain rfl : j = n := by omega
    exact hend.congr ⟨fun q => ⟨fun i h1 h2 => by omega, q⟩, fun h => h.2⟩
  | succ d ih =>
    intro j hj
    refine (hs j (by omega) _ (ih (j + 1) (by omega))).congr ⟨?_, ?_⟩
    · rintro ⟨h1, h2, h3⟩
      refine ⟨fun i h4 h5 => ?_, h3⟩
      by_cases e : i = j
      · subst e; exact h1
      · exact h2 i (by omega) h5
    · rintro ⟨h1, h2⟩
      exact ⟨h1 j (Nat.le_refl _) (by omega), fun i h4 h5 => h1 i (by omega) h5, h2⟩
theorem allLoop0 (g : Nat → Nat → Option Bool) (n : Nat) (P : Nat → Prop) (Q : Prop) (hend : EvB (g n) Q)
    (hs : ∀ j, j < n → ∀ R, EvB (g (j + 1)) R → EvB (g j) (P j ∧ R)) : EvB (g 0) ((∀ i, i < n → P i) ∧ Q) :=
  (allLoop g n P Q hend hs n 0 (by omega)).congr ⟨fun h => ⟨fun i hi => h.1 i (Nat.zero_le _) hi, h.2⟩, fun h => ⟨fun i _ hi => h.1 i hi, h.2⟩⟩
theorem wrap_nat (i : Nat) (h : i < 9223372036854775807) : wrap64 ((i : Int) + 1) = ((i + 1 : Nat) : Int) := by unfold wrap64; omega
def ints (ns : List Nat) : List Int := ns.map (fun n : Nat => (n : Int))
theorem ints_length (ns : List Nat) : (ints ns).length = ns.length := by simp [ints]
theorem rd_ints (ns : List Nat) (i : Nat) : rd (ints ns) (i : Int) = ((ns.getD i 0 : Nat) : Int) := by
  simp only [rd, ints, Int.toNat_natCast, List.getD_eq_getElem?_getD, List.getElem?_map]
  cases ns[i]? <;> simp
theorem ints_of (l : List Int) (h : ∀ x ∈ l, 0 ≤ x) : ∃ ns, l = ints ns := by
  refine ⟨l.map Int.toNat, ?_⟩
  simp only [ints, List.map_map]
  rw [List.map_congr_left (g := id) (fun x hx => by have := h x hx; simp; omega)]
  simp
theorem ints_set (ns : List Nat) (i v : Nat) : (ints ns).set (i : Int).toNat (v : Int) = ints (ns.set i v) := by simp [ints, List.map_set]
end Go.Proofs.YtcheoendfcgjgaaDoor.K
namespace Go.Proofs.YtcheoendfcgjgaaDoor.K
open Go.RowKit Go.Proofs.YtcheoendfcgjgaaDoorW.PrintWords Go.Proofs.YtcheoendfcgjgaaDoorW.PrintMore
theorem wrap_i64 (n : Int) (h0 : 0 ≤ n) (h1 : n < 2 ^ 62) : IntKind.i64.wrap n = n := by
  have : IntKind.i64.wrap n = wrap64 n := by simp [IntKind.wrap, IntKind.bits, IntKind.signed, wrap64]; omega
  rw [this]; unfold wrap64; omega
theorem and_nat (a b : Nat) (ha : a < 2 ^ 62) (hb : b < 2 ^ 62) : Go.bits .and .i64 (a : Int) (b : Int) = ((a &&& b : Nat) : Int) := (bits_nat .i64 62 (by decide) wrap_i64 a b ha hb).1
theorem or_nat (a b : Nat) (ha : a < 2 ^ 62) (hb : b < 2 ^ 62) : Go.bits .or .i64 (a : Int) (b : Int) = ((a ||| b : Nat) : Int) := (bits_nat .i64 62 (by decide) wrap_i64 a b ha hb).2
theorem bv_nat (a : Nat) (ha : a < 2 ^ 62) : a % 2 ^ 64 = a := Nat.mod_eq_of_lt (by omega)
theorem andNot_nat (a b : Nat) (ha : a < 2 ^ 62) (hb : b < 2 ^ 62) : Go.bits .andNot .i64 (a : Int) (b : Int) = ((a ^^^ (a &&& b) : Nat) : Int) := by
  simp only [Go.bits, show IntKind.i64.bits = 64 from rfl, BitVec.ofInt_natCast]
  have h1 : (BitVec.ofNat 64 a) &&& ~~~ (BitVec.ofNat 64 b) = (BitVec.ofNat 64 a) ^^^ ((BitVec.ofNat 64 a) &&& (BitVec.ofNat 64 b)) := by
    ext i hi; simp only [BitVec.getElem_and, BitVec.getElem_xor, BitVec.getElem_not]
    cases (BitVec.ofNat 64 a)[i] <;> cases (BitVec.ofNat 64 b)[i] <;> rfl
  have h2 : ((BitVec.ofNat 64 a) ^^^ ((BitVec.ofNat 64 a) &&& (BitVec.ofNat 64 b))).toNat = a ^^^ (a &&& b) := by
    rw [BitVec.toNat_xor, BitVec.toNat_and, BitVec.toNat_ofNat, BitVec.toNat_ofNat, bv_nat a ha, bv_nat b hb]
  have h3 : ((BitVec.ofNat 64 a) &&& ~~~ (BitVec.ofNat 64 b)).toNat = a ^^^ (a &&& b) := by rw [h1, h2]
  have h4 : a ^^^ (a &&& b) < 2 ^ 62 := Nat.xor_lt_two_pow ha (Nat.lt_of_le_of_lt Nat.and_le_left ha)
  refine Eq.trans (congrArg (fun n : Nat => IntKind.i64.wrap (n : Int)) h3) ?_
  exact wrap_i64 _ (by omega) (by exact_mod_cast h4)
theorem shl_one (i : Nat) (h : i ≤ 61) : shl .i64 1 (i : Int) = ((2 ^ i : Nat) : Int) := by
  unfold shl
  have h1 : min ((i : Int).toNat) IntKind.i64.bits = i := by simp [show IntKind.i64.bits = 64 from rfl]; omega
  rw [h1, Int.one_mul]
  have h2 : 2 ^ i ≤ 2 ^ 61 := Nat.pow_le_pow_right (by decide) h
  rw [wrap_i64 _ (by exact_mod_cast Nat.zero_le (2 ^ i)) (by exact_mod_cast Nat.lt_of_le_of_lt h2 (by decide))]
  exact_mod_cast rfl
theorem shr_nat (a i : Nat) (ha : a < 2 ^ 62) : shr .i64 (a : Int) (i : Int) = ((a >>> i : Nat) : Int) := by
  unfold shr
  rw [Nat.shiftRight_eq_div_pow]
  have e : min ((i : Int).toNat) IntKind.i64.bits = min i 64 := by simp [show IntKind.i64.bits = 64 from rfl]
  rw [e]
  have : a / 2 ^ i = a / 2 ^ (min i 64) := by
    by_cases h : i ≤ 64
    · rw [Nat.min_eq_left h]
    · rw [Nat.min_eq_right (by omega), Nat.div_eq_of_lt (Nat.lt_of_lt_of_le ha (Nat.pow_le_pow_right (by decide) (by omega))), Nat.div_eq_of_lt (Nat.lt_of_lt_of_le ha (by decide))]
  rw [this]
  exact_mod_cast rfl
theorem bit_one (a : Nat) (i : Nat) : (a >>> i) &&& 1 = if a.testBit i then 1 else 0 := by
  rw [Nat.and_one_is_mod, Nat.testBit, Nat.and_comm, Nat.and_one_is_mod]
  rcases Nat.mod_two_eq_zero_or_one (a >>> i) with h | h <;> simp [h]
theorem bit_mod (a : Nat) (i : Nat) : (a >>> i) % 2 = if a.testBit i then 1 else 0 := by rw [← Nat.and_one_is_mod, bit_one]
theorem hasB (a i : Nat) (ha : a < 2 ^ 62) : (Go.bits .and .i64 (shr .i64 (a : Int) (i : Int)) 1 == 1) = a.testBit i := by
  rw [shr_nat a i ha, show (1 : Int) = ((1 : Nat) : Int) from rfl, and_nat _ _ (Nat.lt_of_le_of_lt (by rw [Nat.shiftRight_eq_div_pow]; exact Nat.div_le_self _ _) ha) (by decide), bit_one]
  cases a.testBit i <;> rfl
theorem deHasB (a i : Nat) (ha : a < 2 ^ 62) : (Int.tmod (shr .i64 (a : Int) (i : Int)) 2 == 1) = a.testBit i := by
  rw [shr_nat a i ha, show (2 : Int) = ((2 : Nat) : Int) from rfl, ← Int.ofNat_tmod, bit_mod]
  cases a.testBit i <;> rfl
def nb (ns : List Nat) (i j : Nat) : Bool := (ns.getD i 0).testBit j
structure Sets (n : Nat) (ns : List Nat) : Prop where
  n1 : 1 ≤ n
  n8 : n ≤ 8
  len : ns.length = n
  lt : ∀ x ∈ ns, x < 2 ^ n
theorem Sets.get {n : Nat} {ns : List Nat} (h : Sets n ns) (i : Nat) : ns.getD i 0 < 2 ^ n := by
  rw [List.getD_eq_getElem?_getD]
  cases e : ns[i]? with
  | none => simp; exact Nat.two_pow_pos n
  | some x => exact h.lt x (List.mem_of_getElem? e)
theorem pow8 {n : Nat} (h : n ≤ 8) : 2 ^ n ≤ 256 := Nat.le_trans (Nat.pow_le_pow_right (by decide) h) (by decide)
theorem Sets.get62 {n : Nat} {ns : List Nat} (h : Sets n ns) (i : Nat) : ns.getD i 0 < 2 ^ 62 := Nat.lt_of_lt_of_le (h.get i) (Nat.le_trans (pow8 h.n8) (by decide))
theorem Sets.nb_lt {n : Nat} {ns : List Nat} (h : Sets n ns) {i j : Nat} (hj : n ≤ j) : nb ns i j = false :=
  Nat.testBit_lt_two_pow (Nat.lt_of_lt_of_le (h.get i) (Nat.pow_le_pow_right (by decide) hj))
end Go.Proofs.YtcheoendfcgjgaaDoor.K
namespace Go.Proofs.YtcheoendfcgjgaaDoor.K
open Go.RowKit Go.Proofs.YtcheoendfcgjgaaDoorW.PrintWords Go.Proofs.YtcheoendfcgjgaaDoor.P
def within (a b : Int) (l : List Int) : Bool := l.all fun n => decide (a ≤ n) && decide (n ≤ b)
theorem l1All_l0 (a b : Int) : ∀ (rest done : List Int), (done ++ rest).length ≤ BM → Ev (fun k => spec_l1All.l0 k a b (done ++ rest) (done ++ rest).length done.length) (within a b rest) := by
  intro rest
  induction rest with
  | nil => intro done h; exact Ev.step (fun k => by simp [spec_l1All.l0]; rfl) (Ev.some (by simp [within]))
  | cons x rest ih =>
    intro done h
    have ih' := ih (done ++ [x])
    obtain ⟨h1, h2, h3, h4, h5⟩ := mid x done rest h
    rw [h5] at ih'
    refine Ev.step (fun k => by rw [spec_l1All.l0]) ?_
    simp only [if_pos h1, if_pos h2, h3, h4, spec_l1In.f]
    by_cases ha : x ≥ a
    · by_cases hb : x ≤ b
      · simpa [ha, hb, within] using ih' h
      · simpa [ha, hb, within] using Ev.now _
    · simpa [ha, within] using Ev.now _
theorem allWithin_eq : ∀ k a b xs n i, impl_allWithin.l0 k a b xs n i = spec_l1All.l0 k a b xs n i := by
  intro k
  induction k with
  | zero => intros; rfl
  | succ k ih => intros; simp only [impl_allWithin.l0, spec_l1All.l0, ih, impl_within.f, spec_l1In.f]
theorem l1All_f (l : List Int) (a b : Int) (h : l.length ≤ BM) : Ev (fun k => spec_l1All.f k l a b) (within a b l) := l1All_l0 a b l [] h
theorem allWithin_f (l : List Int) (a b : Int) (h : l.length ≤ BM) : Ev (fun k => impl_allWithin.f k l a b) (within a b l) := Ev.congr (fun k => allWithin_eq ..) (l1All_f l a b h)
theorem l1In_f (n a b : Int) : spec_l1In.f n a b = some (decide (a ≤ n) && decide (n ≤ b)) := by
  unfold spec_l1In.f; by_cases h : a ≤ n <;> simp [h]
theorem within_f (n a b : Int) : impl_within.f n a b = some (decide (a ≤ n) && decide (n ≤ b)) := l1In_f n a b
end Go.Proofs.YtcheoendfcgjgaaDoor.K
namespace Go.Proofs.YtcheoendfcgjgaaDoor.K
open Go.RowKit Go.Proofs.YtcheoendfcgjgaaDoorW.PrintWords Go.Proofs.YtcheoendfcgjgaaDoorW.PrintMore Go.Proofs.YtcheoendfcgjgaaDoor.P
theorem has_f (a i : Nat) (h : a < 2 ^ 62) : impl_has.f (a : Int) (i : Int) = some (a.testBit i) := by
  unfold impl_has.f; rw [if_pos (by omega), hasB a i h]
theorem deHas_f (a i : Nat) (h : a < 2 ^ 62) : spec_deHas.f (a : Int) (i : Int) = some (a.testBit i) := by
  unfold spec_deHas.f; rw [if_pos (by omega), deHasB a i h]
theorem has_nb {n : Nat} {ns : List Nat} (h : Sets n ns) (i j : Nat) : impl_has.f ((ns.getD i 0 : Nat) : Int) (j : Int) = some (nb ns i j) := has_f _ _ (h.get62 i)
theorem deHas_nb {n : Nat} {ns : List Nat} (h : Sets n ns) (i j : Nat) : spec_deHas.f ((ns.getD i 0 : Nat) : Int) (j : Int) = some (nb ns i j) := deHas_f _ _ (h.get62 i)
def Near (n : Nat) (ns : List Nat) : Prop := Sets n ns ∧ ∀ i, i < n → nb ns i i = false
def Tour (n : Nat) (ns : List Nat) : Prop := Near n ns ∧ ∀ i, i < n → ∀ j, j < i → nb ns i j ≠ nb ns j i
theorem sets_iff (a : Int) (l : List Int) : ((1 ≤ a ∧ a ≤ 8) ∧ (l.length : Int) = a ∧ within 0 (wrap64 (shl .i64 1 a - 1)) l = true) ↔ ∃ n ns, a = ((n : Nat) : Int) ∧ l = ints ns ∧ Sets n ns := by
  constructor
  · rintro ⟨⟨h1, h2⟩, h3, h4⟩
    obtain ⟨n, rfl⟩ := Int.eq_ofNat_of_zero_le (show 0 ≤ a by omega)
    have hp := pow8 (show n ≤ 8 by omega)
    have hp0 := Nat.two_pow_pos n
    have e : wrap64 (shl .i64 1 (n : Int) - 1) = ((2 ^ n - 1 : Nat) : Int) := by
      rw [shl_one n (by omega)]; unfold wrap64; omega
    rw [e] at h4
    simp only [within, List.all_eq_true, Bool.and_eq_true, decide_eq_true_eq] at h4
    obtain ⟨ns, rfl⟩ := ints_of l (fun x hx => (h4 x hx).1)
    rw [ints_length] at h3
    exact ⟨n, ns, rfl, rfl, by omega, by omega, by omega, fun x hx => by have := (h4 x (List.mem_map.2 ⟨x, hx, rfl⟩)).2; omega⟩
  · rintro ⟨n, ns, rfl, rfl, h⟩
    have hp := pow8 h.n8
    have hp0 := Nat.two_pow_pos n
    have := h.n1; have := h.n8; have := h.len
    have e : wrap64 (shl .i64 1 (n : Int) - 1) = ((2 ^ n - 1 : Nat) : Int) := by
      rw [shl_one n (by omega)]; unfold wrap64; omega
    rw [e]
    refine ⟨⟨by omega, by omega⟩, by rw [ints_length]; omega, ?_⟩
    simp only [within, List.all_eq_true, Bool.and_eq_true, decide_eq_true_eq, ints, List.mem_map]
    rintro x ⟨y, hy, rfl⟩
    have := h.lt y hy
    omega
theorem near_l0 {n : Nat} {ns : List Nat} (h : Sets n ns) : EvB (fun k => impl_areNear.l0 k (ints ns) (n : Int) 0) (∀ i, i < n → nb ns i i = false) := by
  have hl := h.len
  have hn := h.n8
  refine (allLoop0 (fun j k => impl_areNear.l0 k (ints ns) (n : Int) (j : Int)) n (fun i => nb ns i i = false) True ?_ ?_).congr (by simp)
  · exact EvB.step (fun k => by rw [impl_areNear.l0, if_neg (by omega)]) EvB.true_
  · intro j hj R hR
    have e : _ = nb ns j j := hasB (ns.getD j 0) j (h.get62 j)
    refine EvB.step (f := fun k => if nb ns j j = false then impl_areNear.l0 k (ints ns) n ((j + 1 : Nat) : Int) else some false) (fun k => ?_) (EvB.and fun _ => hR)
    rw [impl_areNear.l0, if_pos (by omega), if_pos (by omega), if_pos (by rw [ints_length]; omega), rd_ints, wrap_nat j (by omega)]
    cases hb : nb ns j j with
    | true => rw [if_pos (by rw [hb] at e; simpa using e), if_neg (by simp)]
    | false => rw [if_neg (by rw [hb] at e; simpa using e), if_pos rfl]
theorem areNear_f (a : Int) (l : List Int) (hl : l.length ≤ BM) : EvB (fun k => impl_areNear.f k a l) (∃ n ns, a = ((n : Nat) : Int) ∧ l = ints ns ∧ Near n ns) := by
  have hj : ∀ l, Ev (fun k => impl_areNear.j0 k l true) false := fun l => Ev.step (fun k => by rw [impl_areNear.j0]) (by simpa using Ev.now _)
  have no : ∀ {g : Nat → Option Bool}, ¬ ((1 ≤ a ∧ a ≤ 8) ∧ (l.length : Int) = a ∧ within 0 (wrap64 (shl .i64 1 a - 1)) l = true) → Ev g false → EvB g (∃ n ns, a = ((n : Nat) : Int) ∧ l = ints ns ∧ Near n ns) := by
    intro g h1 h2
    exact ⟨fun ⟨n, ns, e1, e2, h⟩ => absurd ((sets_iff a l).2 ⟨n, ns, e1, e2, h.1⟩) h1, fun _ => h2⟩
  unfold impl_areNear.f
  simp only [within_f, Option.bind_some]
  by_cases h1 : 1 ≤ a ∧ a ≤ 8
  · rw [show (decide (1 ≤ a) && decide (a ≤ 8)) = true by simp; omega]
    simp only [if_true]
    by_cases h2 : (l.length : Int) = a
    · have h3 : 0 ≤ a := by omega
      simp only [if_pos h2, if_pos h3]
      refine EvB.bind (allWithin_f l 0 _ hl) ?_
      cases h4 : within 0 (wrap64 (shl .i64 1 a - 1)) l with
      | false => exact no (by simp [h4]) (hj l)
      | true =>
        obtain ⟨n, ns, rfl, rfl, hs⟩ := (sets_iff a l).1 ⟨h1, h2, h4⟩
        refine EvB.step (fun k => by rw [impl_areNear.j0]) ?_
        simp only [Bool.not_true, Bool.false_eq_true, if_false, h2]
        refine (near_l0 hs).congr ⟨fun h => ⟨n, ns, rfl, rfl, hs, h⟩, ?_⟩
        rintro ⟨n', ns', e1, e2, h⟩
        obtain rfl : n = n' := by omega
        obtain rfl : ns = ns' := by
          have := congrArg (List.map Int.toNat) e2
          simpa [ints, Function.comp_def] using this
        exact h.2
    · simp only [if_neg h2]
      exact no (fun h => h2 h.2.1) (hj l)
  · rw [show (decide (1 ≤ a) && decide (a ≤ 8)) = false by simp; omega]
    exact no (fun h => h1 h.1) (by simpa using hj l)
theorem ints_inj {ns ms : List Nat} (h : ints ns = ints ms) : ns = ms := by
  have := congrArg (List.map Int.toNat) h
  simpa [ints, Function.comp_def] using this
def mem8 (a : Nat) : List Nat := (List.range 8).filter fun i => a.testBit i
theorem members_all : (List.range 256).all (fun a => impl_members.f 10 (a : Int) == some (ints (mem8 a))) = true := by decide +kernel
theorem members_f (a : Nat) (h : a < 256) : Ev (fun k => impl_members.f k (a : Int)) (ints (mem8 a)) := by
  have := List.all_eq_true.1 members_all a (List.mem_range.2 h)
  exact Ev.of (fun k => impl_members.mono _ k) (beq_iff_eq.1 this)
theorem Sets.b256 {n : Nat} {ns : List Nat} (h : Sets n ns) (i : Nat) : ns.getD i 0 < 256 := Nat.lt_of_lt_of_le (h.get i) (pow8 h.n8)
theorem mem8_mem {n : Nat} {ns : List Nat} (h : Sets n ns) (i j : Nat) : j ∈ mem8 (ns.getD i 0) ↔ j < n ∧ nb ns i j = true := by
  simp only [mem8, List.mem_filter, List.mem_range]
  constructor
  · rintro ⟨h1, h2⟩
    refine ⟨?_, h2⟩
    refine Nat.lt_of_not_le fun hh => ?_
    have := h.nb_lt (i := i) hh
    unfold nb at this
    rw [h2] at this; cases this
  · rintro ⟨h1, h2⟩
    exact ⟨by have := h.n8; omega, h2⟩
theorem getD_mem {l : List Nat} {p : Nat} (h : p < l.length) : l.getD p 0 ∈ l := by
  rw [List.getD_eq_getElem?_getD, List.getElem?_eq_getElem h]; exact List.getElem_mem h
theorem mem8_len (a : Nat) : (mem8 a).length ≤ 8 := by
  have := List.length_filter_le (fun i => a.testBit i) (List.range 8)
  simpa [mem8] using this
def flipSet (n : Nat) (ns : List Nat) (i : Nat) : Nat := (2 ^ n - 1) ^^^ ((2 ^ n - 1) &&& (ns.getD i 0))
def flipOf (n : Nat) (ns : List Nat) (i : Nat) : Nat := flipSet n ns i ^^^ (flipSet n ns i &&& 2 ^ i)
theorem flip_int {n : Nat} {ns : List Nat} (h : Sets n ns) (i : Nat) (hi : i < n) : Go.bits .andNot .i64 (Go.bits .andNot .i64 (wrap64 ((shl .i64 1 (n : Int)) - 1)) ((ns.getD i 0 : Nat) : Int)) (shl .i64 1 (i : Int)) = ((flipOf n ns i : Nat) : Int) := by
  have hp := pow8 h.n8
  have hp0 := Nat.two_pow_pos n
  have hn := h.n8
  have e : wrap64 (shl .i64 1 (n : Int) - 1) = ((2 ^ n - 1 : Nat) : Int) := by
    rw [shl_one n (by omega)]; unfold wrap64; omega
  have h1 : 2 ^ n - 1 < 2 ^ 62 := by have : (256 : Nat) < 2 ^ 62 := by decide
                                     omega
  rw [e, andNot_nat _ _ h1 (h.get62 i), shl_one i (by omega), andNot_nat]
  · rfl
  · exact Nat.xor_lt_two_pow h1 (Nat.lt_of_le_of_lt Nat.and_le_left h1)
  · exact Nat.pow_lt_pow_right (by decide) (by omega)
def mirrorUpto (n : Nat) (ns : List Nat) (j : Nat) : List Nat := (List.range j).map (flipOf n ns)
end Go.Proofs.YtcheoendfcgjgaaDoor.K
namespace Go.Proofs.YtcheoendfcgjgaaDoor.M
def sm (f : Nat → Nat) : Nat → Nat
  | 0 => 0
  | n + 1 => sm f n + f n
theorem sm_congr {f g : Nat → Nat} : ∀ {n : Nat}, (∀ i, i < n → f i = g i) → sm f n = sm g n
  | 0, _ => rfl
  | n + 1, h => by rw [sm, sm, sm_congr (fun i hi => h i (by omega)), h n (by omega)]
theorem sm_add (f g : Nat → Nat) : ∀ n, sm (fun i => f i + g i) n = sm f n + sm g n
  | 0 => rfl
  | n + 1 => by rw [sm, sm, sm, sm_add f g n]; omega
def tB (b : Bool) : Nat := if b then 1 else 0
def Tou (n : Nat) (R : Nat → Nat → Bool) : Prop := ∀ i j, i < n → j < n → (i = j → R i j = false) ∧ (i ≠ j → R i j = !R j i)
end Go.Proofs.YtcheoendfcgjgaaDoor.M
namespace Go.Proofs.YtcheoendfcgjgaaDoor.K
open Go.RowKit Go.Proofs.YtcheoendfcgjgaaDoorW.PrintWords Go.Proofs.YtcheoendfcgjgaaDoor.P
def pop (a : Nat) : Nat := (List.range 8).countP (fun i => a.testBit i)
end Go.Proofs.YtcheoendfcgjgaaDoor.K
namespace Go.Proofs.YtcheoendfcgjgaaDoor.K
open Go.RowKit Go.Proofs.YtcheoendfcgjgaaDoorW.PrintWords Go.Proofs.YtcheoendfcgjgaaDoorW.PrintMore
theorem smC {f g : Nat → Nat} {n : Nat} (h : ∀ i, i < n → f i = g i) : M.sm f n = M.sm g n := M.sm_congr h
def wins (n : Nat) (ns : List Nat) (i : Nat) : Nat := M.sm (fun b => M.tB (nb ns i b)) n
theorem sm_set1 (p : Nat → Bool) (t : Nat) (hp : p t = false) : ∀ n, M.sm (fun b => M.tB (p b || decide (b = t))) n = M.sm (fun b => M.tB (p b)) n + (if t < n then 1 else 0)
  | 0 => rfl
  | n + 1 => by
    rw [M.sm, M.sm, sm_set1 p t hp n]
    by_cases e : n = t
    · subst e
      rw [hp, if_neg (by omega), if_pos (by omega)]
      simp [M.tB]
    · have e1 : decide (n = t) = false := by simpa using e
      rw [e1, Bool.or_false]
      by_cases c : t < n
      · rw [if_pos c, if_pos (by omega)]; omega
      · rw [if_neg c, if_neg (by omega)]; omega
theorem pop_wins {n : Nat} {ns : List Nat} (h : Sets n ns) (i : Nat) : pop (ns.getD i 0) = wins n ns i := by
  have key : ∀ (p : Nat → Bool) (m : Nat), (List.range m).countP p = M.sm (fun b => M.tB (p b)) m := by
    intro p m
    induction m with
    | zero => rfl
    | succ m ih => rw [List.range_succ, List.countP_append, ih, M.sm]; simp [M.tB]
  have ext : ∀ d, n + d ≤ 8 → M.sm (fun b => M.tB ((ns.getD i 0).testBit b)) (n + d) = wins n ns i := by
    intro d
    induction d with
    | zero => intro _; rfl
    | succ d ih =>
      intro hd
      rw [← Nat.add_assoc, M.sm, ih (by omega)]
      have : (ns.getD i 0).testBit (n + d) = false := h.nb_lt (i := i) (j := n + d) (by omega)
      rw [this]; rfl
  have := ext (8 - n) (by have := h.n8; omega)
  rw [show n + (8 - n) = 8 by have := h.n8; omega] at this
  rw [← this]
  exact key _ 8
theorem sets_extG {n : Nat} {a b : List Nat} (ha : Sets n a) (hb : Sets n b) (h : ∀ x y, nb a x y = nb b x y) : a = b := by
  apply List.ext_getElem (by rw [ha.len, hb.len])
  intro x h1 h2
  have e1 : a[x] = a.getD x 0 := by rw [List.getD_eq_getElem?_getD, List.getElem?_eq_getElem h1]; rfl
  have e2 : b[x] = b.getD x 0 := by rw [List.getD_eq_getElem?_getD, List.getElem?_eq_getElem h2]; rfl
  rw [e1, e2]
  exact Nat.eq_of_testBit_eq (fun y => h x y)
end Go.Proofs.YtcheoendfcgjgaaDoor.K
