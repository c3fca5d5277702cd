/- Parts: contracts and plain lemmas for the law FnStrongParts, part 7 of 8 (what the Go functions answer). -/
import Derived.Lib.SlicesCompact
import Derived.Lib.Slices
import Derived.Laws.BitsLemmas
import Derived.Test.YtcheoendfcgjgaaCFnStrongPartsa
import Derived.Test.YtcheoendfcgjgaaCFnStrongPartsb
import Derived.Test.YtcheoendfcgjgaaCFnStrongPartsc
import Derived.Test.YtcheoendfcgjgaaCFnStrongPartsd
import Derived.Test.YtcheoendfcgjgaaCFnStrongPartse
import Derived.Test.YtcheoendfcgjgaaCFnStrongPartsf
set_option linter.unusedVariables false
set_option linter.unusedSimpArgs false
namespace Go.Proofs.Ytcheoendfcgjgaa.P
open Go.RowKit Go.Proofs.YtcheoendfcgjgaaW.PrintWords Go.Proofs.YtcheoendfcgjgaaW.PrintLast Go.Proofs.YtcheoendfcgjgaaW.PrintMore
attribute [local go_sem] max2_int min2_int max_two min_two max_three min_three max_four min_four
mutual
def laws_FnStrongParts.j0 : Nat → List Int → Bool → List Int → Bool → List Int → Bool → Int → List Int → Option (Bool)
 | 0, _, _, _, _, _, _, _, _ => none
 | k + 1, x6, x7, x10, x11, x14, x82, x519000, x519001 => if x82 = true then (some false) else (if x7 = true then (laws_FnStrongParts.l0 k x6 x10 x11 x14 0 x6 (x6.length : Int) 0 x519000 x519001) else (some true))
def laws_FnStrongParts.l0 : Nat → List Int → List Int → Bool → List Int → Int → List Int → Int → Int → Int → List Int → Option (Bool)
 | 0, _, _, _, _, _, _, _, _, _, _ => none
 | k + 1, x6, x10, x11, x14, x16, x85, x86, x87, x519000, x519001 => if x87 < x86 then (if 0 ≤ x87 then (if x87 < (x85.length : Int) then (if (rd x85 x87) > x16 then (laws_FnStrongParts.j2 k x6 x10 x11 x14 (rd x85 x87) x87 (rd x85 x87) x85 x86 x87 x519000 x519001) else (laws_FnStrongParts.j2 k x6 x10 x11 x14 x16 x87 (rd x85 x87) x85 x86 x87 x519000 x519001)) else (none)) else (none)) else ((impl_RankingOf.f k x14).bind fun bt545 => (laws_FnStrongParts.l2 k x10 x11 x16 bt545.1 bt545.2 0 0 1 x519000 x519001))
def laws_FnStrongParts.j2 : Nat → List Int → List Int → Bool → List Int → Int → Int → Int → List Int → Int → Int → Int → List Int → Option (Bool)
 | 0, _, _, _, _, _, _, _, _, _, _, _, _ => none
 | k + 1, x6, x10, x11, x14, x16, x17, x18, x85, x86, x87, x519000, x519001 => laws_FnStrongParts.l1 k x6 x10 x11 x14 x16 x17 x18 x85 x86 x87 x6 (x6.length : Int) 0 x519000 x519001
def laws_FnStrongParts.l1 : Nat → List Int → List Int → Bool → List Int → Int → Int → Int → List Int → Int → Int → List Int → Int → Int → Int → List Int → Option (Bool)
 | 0, _, _, _, _, _, _, _, _, _, _, _, _, _, _, _ => none
 | k + 1, x6, x10, x11, x14, x16, x17, x18, x85, x86, x87, x96, x97, x98, x519000, x519001 => if x98 < x97 then (if 0 ≤ x98 then (if x98 < (x96.length : Int) then (if x18 < (rd x96 x98) then (if 0 ≤ x17 then (if x17 < (x519001.length : Int) then ((laws_yIn.f (rd x519001 x17) x98).bind fun t544 => (if t544 = true then (laws_FnStrongParts.l1 k x6 x10 x11 x14 x16 x17 x18 x85 x86 x87 x96 x97 (wrap64 (x98 + 1)) x519000 x519001) else (some false))) else (none)) else (none)) else (laws_FnStrongParts.l1 k x6 x10 x11 x14 x16 x17 x18 x85 x86 x87 x96 x97 (wrap64 (x98 + 1)) x519000 x519001)) else (none)) else (none)) else (laws_FnStrongParts.l0 k x6 x10 x11 x14 x16 x85 x86 (wrap64 (x87 + 1)) x519000 x519001)
def laws_FnStrongParts.l2 : Nat → List Int → Bool → Int → List Int → Bool → Int → Int → Int → Int → List Int → Option (Bool)
 | 0, _, _, _, _, _, _, _, _, _, _ => none
 | k + 1, x10, x11, x16, x21, x22, x23, x24, x25, x519000, x519001 => if x25 ≤ (x21.length : Int) then (if 0 ≤ (wrap64 ((x21.length : Int) - x25)) then (if (wrap64 ((x21.length : Int) - x25)) < (x21.length : Int) then (if (wrap64 (x23 + (rd x21 (wrap64 ((x21.length : Int) - x25))))) = (wrap64 (Int.tdiv (wrap64 (x25 * (wrap64 (x25 - 1)))) 2)) then (laws_FnStrongParts.l2 k x10 x11 x16 x21 x22 (wrap64 (x23 + (rd x21 (wrap64 ((x21.length : Int) - x25))))) (wrap64 (x24 + 1)) (wrap64 (x25 + 1)) x519000 x519001) else (laws_FnStrongParts.l2 k x10 x11 x16 x21 x22 (wrap64 (x23 + (rd x21 (wrap64 ((x21.length : Int) - x25))))) x24 (wrap64 (x25 + 1)) x519000 x519001)) else (none)) else (none)) else (if x22 = true then (if x24 = (wrap64 (x16 + 1)) then (if x519000 ≥ 3 then (laws_FnStrongParts.j5 k x10 x11 (x11 != (x16 == 0)) x519000 x519001) else (laws_FnStrongParts.j5 k x10 x11 false x519000 x519001)) else (laws_FnStrongParts.j5 k x10 x11 true x519000 x519001)) else (laws_FnStrongParts.j5 k x10 x11 true x519000 x519001))
def laws_FnStrongParts.j5 : Nat → List Int → Bool → Bool → Int → List Int → Option (Bool)
 | 0, _, _, _, _, _ => none
 | k + 1, x10, x11, x165, x519000, x519001 => if x165 = true then (some false) else (if x11 = true then (if 0 < (x10.length : Int) then (if (rd x10 0) = 0 then (laws_FnStrongParts.j6 k x10 ((x10.length : Int) != x519000) x519000 x519001) else (laws_FnStrongParts.j6 k x10 true x519000 x519001)) else (none)) else (some true))
def laws_FnStrongParts.j6 : Nat → List Int → Bool → Int → List Int → Option (Bool)
 | 0, _, _, _, _ => none
 | k + 1, x10, x177, x519000, x519001 => if x177 = true then (some false) else (laws_FnStrongParts.l3 k x10 x10 (x10.length : Int) 0 x519000 x519001)
def laws_FnStrongParts.l3 : Nat → List Int → List Int → Int → Int → Int → List Int → Option (Bool)
 | 0, _, _, _, _, _, _ => none
 | k + 1, x10, x178, x179, x180, x519000, x519001 => if x180 < x179 then (if 0 ≤ x180 then (if x180 < (x178.length : Int) then (if 0 ≤ (rd x178 x180) then (if (rd x178 x180) < (x519001.length : Int) then (if (x10.length : Int) = 0 then (none) else (if 0 ≤ (Int.tmod (wrap64 (x180 + 1)) (x10.length : Int)) then (if (Int.tmod (wrap64 (x180 + 1)) (x10.length : Int)) < (x10.length : Int) then ((laws_yIn.f (rd x519001 (rd x178 x180)) (rd x10 (Int.tmod (wrap64 (x180 + 1)) (x10.length : Int)))).bind fun t554 => (if t554 = true then (if x180 ≤ (x10.length : Int) then ((laws_yHas.f k (x10.take (x180 : Int).toNat) (rd x178 x180)).bind fun t559 => (if t559 = true then (some false) else (laws_FnStrongParts.l3 k x10 x178 x179 (wrap64 (x180 + 1)) x519000 x519001))) else (none)) else (some false))) else (none)) else (none))) else (none)) else (none)) else (none)) else (none)) else (some true)
end
def laws_FnStrongParts.f (k : Nat) (l0 : List Int) (l1 : List Int) : Option (Bool) := (laws_big.f l0 l1).bind fun t513 => (if t513 = true then (some true) else ((spec_DrawStrongParts.f k l0).bind fun bt514 => ((impl_StrongParts.f k bt514.1 bt514.2).bind fun bt519 => ((spec_StrongParts.f k bt514.1 bt514.2).bind fun bt523 => ((impl_FirstRound.f k bt514.1 bt514.2).bind fun bt527 => ((spec_FirstRound.f k bt514.1 bt514.2).bind fun bt531 => ((impl_ScoresOf.f k bt514.1 bt514.2).bind fun bt535 => (if (bt519.2 != bt523.2) = true then (laws_FnStrongParts.j0 k bt519.1 bt519.2 bt527.1 bt527.2 bt535.1 true bt514.1 bt514.2) else ((laws_ySame.f k bt519.1 bt523.1).bind fun t539 => (if t539 = true then (if (bt527.2 != bt531.2) = true then (laws_FnStrongParts.j0 k bt519.1 bt519.2 bt527.1 bt527.2 bt535.1 true bt514.1 bt514.2) else ((laws_ySame.f k bt527.1 bt531.1).bind fun t540 => (if t540 = true then (laws_FnStrongParts.j0 k bt519.1 bt519.2 bt527.1 bt527.2 bt535.1 (bt535.2 != bt519.2) bt514.1 bt514.2) else (laws_FnStrongParts.j0 k bt519.1 bt519.2 bt527.1 bt527.2 bt535.1 true bt514.1 bt514.2)))) else (laws_FnStrongParts.j0 k bt519.1 bt519.2 bt527.1 bt527.2 bt535.1 true bt514.1 bt514.2)))))))))))
theorem laws_FnStrongParts.mono_l : ∀ k, (∀ y0 y1 y2 y3 y4 y5 y6 y7, LeO (laws_FnStrongParts.j0 k y0 y1 y2 y3 y4 y5 y6 y7) (laws_FnStrongParts.j0 (k + 1) y0 y1 y2 y3 y4 y5 y6 y7)) ∧ (∀ y0 y1 y2 y3 y4 y5 y6 y7 y8 y9, LeO (laws_FnStrongParts.l0 k y0 y1 y2 y3 y4 y5 y6 y7 y8 y9) (laws_FnStrongParts.l0 (k + 1) y0 y1 y2 y3 y4 y5 y6 y7 y8 y9)) ∧ (∀ y0 y1 y2 y3 y4 y5 y6 y7 y8 y9 y10 y11, LeO (laws_FnStrongParts.j2 k y0 y1 y2 y3 y4 y5 y6 y7 y8 y9 y10 y11) (laws_FnStrongParts.j2 (k + 1) y0 y1 y2 y3 y4 y5 y6 y7 y8 y9 y10 y11)) ∧ (∀ y0 y1 y2 y3 y4 y5 y6 y7 y8 y9 y10 y11 y12 y13 y14, LeO (laws_FnStrongParts.l1 k y0 y1 y2 y3 y4 y5 y6 y7 y8 y9 y10 y11 y12 y13 y14) (laws_FnStrongParts.l1 (k + 1) y0 y1 y2 y3 y4 y5 y6 y7 y8 y9 y10 y11 y12 y13 y14)) ∧ (∀ y0 y1 y2 y3 y4 y5 y6 y7 y8 y9, LeO (laws_FnStrongParts.l2 k y0 y1 y2 y3 y4 y5 y6 y7 y8 y9) (laws_FnStrongParts.l2 (k + 1) y0 y1 y2 y3 y4 y5 y6 y7 y8 y9)) ∧ (∀ y0 y1 y2 y3 y4, LeO (laws_FnStrongParts.j5 k y0 y1 y2 y3 y4) (laws_FnStrongParts.j5 (k + 1) y0 y1 y2 y3 y4)) ∧ (∀ y0 y1 y2 y3, LeO (laws_FnStrongParts.j6 k y0 y1 y2 y3) (laws_FnStrongParts.j6 (k + 1) y0 y1 y2 y3)) ∧ (∀ y0 y1 y2 y3 y4 y5, LeO (laws_FnStrongParts.l3 k y0 y1 y2 y3 y4 y5) (laws_FnStrongParts.l3 (k + 1) y0 y1 y2 y3 y4 y5))
 | 0 => ⟨fun _ _ _ _ _ _ _ _ r h => by simp [laws_FnStrongParts.j0] at h, fun _ _ _ _ _ _ _ _ _ _ r h => by simp [laws_FnStrongParts.l0] at h, fun _ _ _ _ _ _ _ _ _ _ _ _ r h => by simp [laws_FnStrongParts.j2] at h, fun _ _ _ _ _ _ _ _ _ _ _ _ _ _ _ r h => by simp [laws_FnStrongParts.l1] at h, fun _ _ _ _ _ _ _ _ _ _ r h => by simp [laws_FnStrongParts.l2] at h, fun _ _ _ _ _ r h => by simp [laws_FnStrongParts.j5] at h, fun _ _ _ _ r h => by simp [laws_FnStrongParts.j6] at h, fun _ _ _ _ _ _ r h => by simp [laws_FnStrongParts.l3] at h⟩
 | k + 1 => by
  obtain ⟨ih0, ih1, ih2, ih3, ih4, ih5, ih6, ih7⟩ := laws_FnStrongParts.mono_l k
  refine ⟨?_, ?_, ?_, ?_, ?_, ?_, ?_, ?_⟩
  ·
   intro y0 y1 y2 y3 y4 y5 y6 y7
   unfold laws_FnStrongParts.j0
   repeat' first
   | (with_reducible exact ih0 _ _ _ _ _ _ _ _)
   | (with_reducible exact ih1 _ _ _ _ _ _ _ _ _ _)
   | (with_reducible exact ih2 _ _ _ _ _ _ _ _ _ _ _ _)
   | (with_reducible exact ih3 _ _ _ _ _ _ _ _ _ _ _ _ _ _ _)
   | (with_reducible exact ih4 _ _ _ _ _ _ _ _ _ _)
   | (with_reducible exact ih5 _ _ _ _ _)
   | (with_reducible exact ih6 _ _ _ _)
   | (with_reducible exact ih7 _ _ _ _ _ _)
   | (with_reducible exact impl_FirstRound.mono _ _ _)
   | (with_reducible exact impl_RankingOf.mono _ _)
   | (with_reducible exact impl_ScoresOf.mono _ _ _)
   | (with_reducible exact impl_StrongParts.mono _ _ _)
   | (with_reducible exact laws_yHas.mono _ _ _)
   | (with_reducible exact laws_ySame.mono _ _ _)
   | (with_reducible exact spec_DrawStrongParts.mono _ _)
   | (with_reducible exact spec_FirstRound.mono _ _ _)
   | (with_reducible exact spec_StrongParts.mono _ _ _)
   | (with_reducible exact LeO.refl _)
   | (with_reducible exact LeO.none _)
   | (with_reducible refine LeO.ite ?_ ?_)
   | (with_reducible refine LeO.bind ?_ (fun _ => ?_))
   | exact ih0 _ _ _ _ _ _ _ _
   | exact ih1 _ _ _ _ _ _ _ _ _ _
   | exact ih2 _ _ _ _ _ _ _ _ _ _ _ _
   | exact ih3 _ _ _ _ _ _ _ _ _ _ _ _ _ _ _
   | exact ih4 _ _ _ _ _ _ _ _ _ _
   | exact ih5 _ _ _ _ _
   | exact ih6 _ _ _ _
   | exact ih7 _ _ _ _ _ _
   | exact impl_FirstRound.mono _ _ _
   | exact impl_RankingOf.mono _ _
   | exact impl_ScoresOf.mono _ _ _
   | exact impl_StrongParts.mono _ _ _
   | exact laws_yHas.mono _ _ _
   | exact laws_ySame.mono _ _ _
   | exact spec_DrawStrongParts.mono _ _
   | exact spec_FirstRound.mono _ _ _
   | exact spec_StrongParts.mono _ _ _
   | exact LeO.none _
   | refine LeO.ite ?_ ?_
   | refine LeO.bind ?_ (fun _ => ?_)
  ·
   intro y0 y1 y2 y3 y4 y5 y6 y7 y8 y9
   unfold laws_FnStrongParts.l0
   repeat' first
   | (with_reducible exact ih0 _ _ _ _ _ _ _ _)
   | (with_reducible exact ih1 _ _ _ _ _ _ _ _ _ _)
   | (with_reducible exact ih2 _ _ _ _ _ _ _ _ _ _ _ _)
   | (with_reducible exact ih3 _ _ _ _ _ _ _ _ _ _ _ _ _ _ _)
   | (with_reducible exact ih4 _ _ _ _ _ _ _ _ _ _)
   | (with_reducible exact ih5 _ _ _ _ _)
   | (with_reducible exact ih6 _ _ _ _)
   | (with_reducible exact ih7 _ _ _ _ _ _)
   | (with_reducible exact impl_FirstRound.mono _ _ _)
   | (with_reducible exact impl_RankingOf.mono _ _)
   | (with_reducible exact impl_ScoresOf.mono _ _ _)
   | (with_reducible exact impl_StrongParts.mono _ _ _)
   | (with_reducible exact laws_yHas.mono _ _ _)
   | (with_reducible exact laws_ySame.mono _ _ _)
   | (with_reducible exact spec_DrawStrongParts.mono _ _)
   | (with_reducible exact spec_FirstRound.mono _ _ _)
   | (with_reducible exact spec_StrongParts.mono _ _ _)
   | (with_reducible exact LeO.refl _)
   | (with_reducible exact LeO.none _)
   | (with_reducible refine LeO.ite ?_ ?_)
   | (with_reducible refine LeO.bind ?_ (fun _ => ?_))
   | exact ih0 _ _ _ _ _ _ _ _
   | exact ih1 _ _ _ _ _ _ _ _ _ _
   | exact ih2 _ _ _ _ _ _ _ _ _ _ _ _
   | exact ih3 _ _ _ _ _ _ _ _ _ _ _ _ _ _ _
   | exact ih4 _ _ _ _ _ _ _ _ _ _
   | exact ih5 _ _ _ _ _
   | exact ih6 _ _ _ _
   | exact ih7 _ _ _ _ _ _
   | exact impl_FirstRound.mono _ _ _
   | exact impl_RankingOf.mono _ _
   | exact impl_ScoresOf.mono _ _ _
   | exact impl_StrongParts.mono _ _ _
   | exact laws_yHas.mono _ _ _
   | exact laws_ySame.mono _ _ _
   | exact spec_DrawStrongParts.mono _ _
   | exact spec_FirstRound.mono _ _ _
   | exact spec_StrongParts.mono _ _ _
   | exact LeO.none _
   | refine LeO.ite ?_ ?_
   | refine LeO.bind ?_ (fun _ => ?_)
  ·
   intro y0 y1 y2 y3 y4 y5 y6 y7 y8 y9 y10 y11
   unfold laws_FnStrongParts.j2
   repeat' first
   | (with_reducible exact ih0 _ _ _ _ _ _ _ _)
   | (with_reducible exact ih1 _ _ _ _ _ _ _ _ _ _)
   | (with_reducible exact ih2 _ _ _ _ _ _ _ _ _ _ _ _)
   | (with_reducible exact ih3 _ _ _ _ _ _ _ _ _ _ _ _ _ _ _)
   | (with_reducible exact ih4 _ _ _ _ _ _ _ _ _ _)
   | (with_reducible exact ih5 _ _ _ _ _)
   | (with_reducible exact ih6 _ _ _ _)
   | (with_reducible exact ih7 _ _ _ _ _ _)
   | (with_reducible exact impl_FirstRound.mono _ _ _)
   | (with_reducible exact impl_RankingOf.mono _ _)
   | (with_reducible exact impl_ScoresOf.mono _ _ _)
   | (with_reducible exact impl_StrongParts.mono _ _ _)
   | (with_reducible exact laws_yHas.mono _ _ _)
   | (with_reducible exact laws_ySame.mono _ _ _)
   | (with_reducible exact spec_DrawStrongParts.mono _ _)
   | (with_reducible exact spec_FirstRound.mono _ _ _)
   | (with_reducible exact spec_StrongParts.mono _ _ _)
   | (with_reducible exact LeO.refl _)
   | (with_reducible exact LeO.none _)
   | (with_reducible refine LeO.ite ?_ ?_)
   | (with_reducible refine LeO.bind ?_ (fun _ => ?_))
   | exact ih0 _ _ _ _ _ _ _ _
   | exact ih1 _ _ _ _ _ _ _ _ _ _
   | exact ih2 _ _ _ _ _ _ _ _ _ _ _ _
   | exact ih3 _ _ _ _ _ _ _ _ _ _ _ _ _ _ _
   | exact ih4 _ _ _ _ _ _ _ _ _ _
   | exact ih5 _ _ _ _ _
   | exact ih6 _ _ _ _
   | exact ih7 _ _ _ _ _ _
   | exact impl_FirstRound.mono _ _ _
   | exact impl_RankingOf.mono _ _
   | exact impl_ScoresOf.mono _ _ _
   | exact impl_StrongParts.mono _ _ _
   | exact laws_yHas.mono _ _ _
   | exact laws_ySame.mono _ _ _
   | exact spec_DrawStrongParts.mono _ _
   | exact spec_FirstRound.mono _ _ _
   | exact spec_StrongParts.mono _ _ _
   | exact LeO.none _
   | refine LeO.ite ?_ ?_
   | refine LeO.bind ?_ (fun _ => ?_)
  ·
   intro y0 y1 y2 y3 y4 y5 y6 y7 y8 y9 y10 y11 y12 y13 y14
   unfold laws_FnStrongParts.l1
   repeat' first
   | (with_reducible exact ih0 _ _ _ _ _ _ _ _)
   | (with_reducible exact ih1 _ _ _ _ _ _ _ _ _ _)
   | (with_reducible exact ih2 _ _ _ _ _ _ _ _ _ _ _ _)
   | (with_reducible exact ih3 _ _ _ _ _ _ _ _ _ _ _ _ _ _ _)
   | (with_reducible exact ih4 _ _ _ _ _ _ _ _ _ _)
   | (with_reducible exact ih5 _ _ _ _ _)
   | (with_reducible exact ih6 _ _ _ _)
   | (with_reducible exact ih7 _ _ _ _ _ _)
   | (with_reducible exact impl_FirstRound.mono _ _ _)
   | (with_reducible exact impl_RankingOf.mono _ _)
   | (with_reducible exact impl_ScoresOf.mono _ _ _)
   | (with_reducible exact impl_StrongParts.mono _ _ _)
   | (with_reducible exact laws_yHas.mono _ _ _)
   | (with_reducible exact laws_ySame.mono _ _ _)
   | (with_reducible exact spec_DrawStrongParts.mono _ _)
   | (with_reducible exact spec_FirstRound.mono _ _ _)
   | (with_reducible exact spec_StrongParts.mono _ _ _)
   | (with_reducible exact LeO.refl _)
   | (with_reducible exact LeO.none _)
   | (with_reducible refine LeO.ite ?_ ?_)
   | (with_reducible refine LeO.bind ?_ (fun _ => ?_))
   | exact ih0 _ _ _ _ _ _ _ _
   | exact ih1 _ _ _ _ _ _ _ _ _ _
   | exact ih2 _ _ _ _ _ _ _ _ _ _ _ _
   | exact ih3 _ _ _ _ _ _ _ _ _ _ _ _ _ _ _
   | exact ih4 _ _ _ _ _ _ _ _ _ _
   | exact ih5 _ _ _ _ _
   | exact ih6 _ _ _ _
   | exact ih7 _ _ _ _ _ _
   | exact impl_FirstRound.mono _ _ _
   | exact impl_RankingOf.mono _ _
   | exact impl_ScoresOf.mono _ _ _
   | exact impl_StrongParts.mono _ _ _
   | exact laws_yHas.mono _ _ _
   | exact laws_ySame.mono _ _ _
   | exact spec_DrawStrongParts.mono _ _
   | exact spec_FirstRound.mono _ _ _
   | exact spec_StrongParts.mono _ _ _
   | exact LeO.none _
   | refine LeO.ite ?_ ?_
   | refine LeO.bind ?_ (fun _ => ?_)
  ·
   intro y0 y1 y2 y3 y4 y5 y6 y7 y8 y9
   unfold laws_FnStrongParts.l2
   repeat' first
   | (with_reducible exact ih0 _ _ _ _ _ _ _ _)
   | (with_reducible exact ih1 _ _ _ _ _ _ _ _ _ _)
   | (with_reducible exact ih2 _ _ _ _ _ _ _ _ _ _ _ _)
   | (with_reducible exact ih3 _ _ _ _ _ _ _ _ _ _ _ _ _ _ _)
   | (with_reducible exact ih4 _ _ _ _ _ _ _ _ _ _)
   | (with_reducible exact ih5 _ _ _ _ _)
   | (with_reducible exact ih6 _ _ _ _)
   | (with_reducible exact ih7 _ _ _ _ _ _)
   | (with_reducible exact impl_FirstRound.mono _ _ _)
   | (with_reducible exact impl_RankingOf.mono _ _)
   | (with_reducible exact impl_ScoresOf.mono _ _ _)
   | (with_reducible exact impl_StrongParts.mono _ _ _)
   | (with_reducible exact laws_yHas.mono _ _ _)
   | (with_reducible exact laws_ySame.mono _ _ _)
   | (with_reducible exact spec_DrawStrongParts.mono _ _)
   | (with_reducible exact spec_FirstRound.mono _ _ _)
   | (with_reducible exact spec_StrongParts.mono _ _ _)
   | (with_reducible exact LeO.refl _)
   | (with_reducible exact LeO.none _)
   | (with_reducible refine LeO.ite ?_ ?_)
   | (with_reducible refine LeO.bind ?_ (fun _ => ?_))
   | exact ih0 _ _ _ _ _ _ _ _
   | exact ih1 _ _ _ _ _ _ _ _ _ _
   | exact ih2 _ _ _ _ _ _ _ _ _ _ _ _
   | exact ih3 _ _ _ _ _ _ _ _ _ _ _ _ _ _ _
   | exact ih4 _ _ _ _ _ _ _ _ _ _
   | exact ih5 _ _ _ _ _
   | exact ih6 _ _ _ _
   | exact ih7 _ _ _ _ _ _
   | exact impl_FirstRound.mono _ _ _
   | exact impl_RankingOf.mono _ _
   | exact impl_ScoresOf.mono _ _ _
   | exact impl_StrongParts.mono _ _ _
   | exact laws_yHas.mono _ _ _
   | exact laws_ySame.mono _ _ _
   | exact spec_DrawStrongParts.mono _ _
   | exact spec_FirstRound.mono _ _ _
   | exact spec_StrongParts.mono _ _ _
   | exact LeO.none _
   | refine LeO.ite ?_ ?_
   | refine LeO.bind ?_ (fun _ => ?_)
  ·
   intro y0 y1 y2 y3 y4
   unfold laws_FnStrongParts.j5
   repeat' first
   | (with_reducible exact ih0 _ _ _ _ _ _ _ _)
   | (with_reducible exact ih1 _ _ _ _ _ _ _ _ _ _)
   | (with_reducible exact ih2 _ _ _ _ _ _ _ _ _ _ _ _)
   | (with_reducible exact ih3 _ _ _ _ _ _ _ _ _ _ _ _ _ _ _)
   | (with_reducible exact ih4 _ _ _ _ _ _ _ _ _ _)
   | (with_reducible exact ih5 _ _ _ _ _)
   | (with_reducible exact ih6 _ _ _ _)
   | (with_reducible exact ih7 _ _ _ _ _ _)
   | (with_reducible exact impl_FirstRound.mono _ _ _)
   | (with_reducible exact impl_RankingOf.mono _ _)
   | (with_reducible exact impl_ScoresOf.mono _ _ _)
   | (with_reducible exact impl_StrongParts.mono _ _ _)
   | (with_reducible exact laws_yHas.mono _ _ _)
   | (with_reducible exact laws_ySame.mono _ _ _)
   | (with_reducible exact spec_DrawStrongParts.mono _ _)
   | (with_reducible exact spec_FirstRound.mono _ _ _)
   | (with_reducible exact spec_StrongParts.mono _ _ _)
   | (with_reducible exact LeO.refl _)
   | (with_reducible exact LeO.none _)
   | (with_reducible refine LeO.ite ?_ ?_)
   | (with_reducible refine LeO.bind ?_ (fun _ => ?_))
   | exact ih0 _ _ _ _ _ _ _ _
   | exact ih1 _ _ _ _ _ _ _ _ _ _
   | exact ih2 _ _ _ _ _ _ _ _ _ _ _ _
   | exact ih3 _ _ _ _ _ _ _ _ _ _ _ _ _ _ _
   | exact ih4 _ _ _ _ _ _ _ _ _ _
   | exact ih5 _ _ _ _ _
   | exact ih6 _ _ _ _
   | exact ih7 _ _ _ _ _ _
   | exact impl_FirstRound.mono _ _ _
   | exact impl_RankingOf.mono _ _
   | exact impl_ScoresOf.mono _ _ _
   | exact impl_StrongParts.mono _ _ _
   | exact laws_yHas.mono _ _ _
   | exact laws_ySame.mono _ _ _
   | exact spec_DrawStrongParts.mono _ _
   | exact spec_FirstRound.mono _ _ _
   | exact spec_StrongParts.mono _ _ _
   | exact LeO.none _
   | refine LeO.ite ?_ ?_
   | refine LeO.bind ?_ (fun _ => ?_)
  ·
   intro y0 y1 y2 y3
   unfold laws_FnStrongParts.j6
   repeat' first
   | (with_reducible exact ih0 _ _ _ _ _ _ _ _)
   | (with_reducible exact ih1 _ _ _ _ _ _ _ _ _ _)
   | (with_reducible exact ih2 _ _ _ _ _ _ _ _ _ _ _ _)
   | (with_reducible exact ih3 _ _ _ _ _ _ _ _ _ _ _ _ _ _ _)
   | (with_reducible exact ih4 _ _ _ _ _ _ _ _ _ _)
   | (with_reducible exact ih5 _ _ _ _ _)
   | (with_reducible exact ih6 _ _ _ _)
   | (with_reducible exact ih7 _ _ _ _ _ _)
   | (with_reducible exact impl_FirstRound.mono _ _ _)
   | (with_reducible exact impl_RankingOf.mono _ _)
   | (with_reducible exact impl_ScoresOf.mono _ _ _)
   | (with_reducible exact impl_StrongParts.mono _ _ _)
   | (with_reducible exact laws_yHas.mono _ _ _)
   | (with_reducible exact laws_ySame.mono _ _ _)
   | (with_reducible exact spec_DrawStrongParts.mono _ _)
   | (with_reducible exact spec_FirstRound.mono _ _ _)
   | (with_reducible exact spec_StrongParts.mono _ _ _)
   | (with_reducible exact LeO.refl _)
   | (with_reducible exact LeO.none _)
   | (with_reducible refine LeO.ite ?_ ?_)
   | (with_reducible refine LeO.bind ?_ (fun _ => ?_))
   | exact ih0 _ _ _ _ _ _ _ _
   | exact ih1 _ _ _ _ _ _ _ _ _ _
   | exact ih2 _ _ _ _ _ _ _ _ _ _ _ _
   | exact ih3 _ _ _ _ _ _ _ _ _ _ _ _ _ _ _
   | exact ih4 _ _ _ _ _ _ _ _ _ _
   | exact ih5 _ _ _ _ _
   | exact ih6 _ _ _ _
   | exact ih7 _ _ _ _ _ _
   | exact impl_FirstRound.mono _ _ _
   | exact impl_RankingOf.mono _ _
   | exact impl_ScoresOf.mono _ _ _
   | exact impl_StrongParts.mono _ _ _
   | exact laws_yHas.mono _ _ _
   | exact laws_ySame.mono _ _ _
   | exact spec_DrawStrongParts.mono _ _
   | exact spec_FirstRound.mono _ _ _
   | exact spec_StrongParts.mono _ _ _
   | exact LeO.none _
   | refine LeO.ite ?_ ?_
   | refine LeO.bind ?_ (fun _ => ?_)
  ·
   intro y0 y1 y2 y3 y4 y5
   unfold laws_FnStrongParts.l3
   repeat' first
   | (with_reducible exact ih0 _ _ _ _ _ _ _ _)
   | (with_reducible exact ih1 _ _ _ _ _ _ _ _ _ _)
   | (with_reducible exact ih2 _ _ _ _ _ _ _ _ _ _ _ _)
   | (with_reducible exact ih3 _ _ _ _ _ _ _ _ _ _ _ _ _ _ _)
   | (with_reducible exact ih4 _ _ _ _ _ _ _ _ _ _)
   | (with_reducible exact ih5 _ _ _ _ _)
   | (with_reducible exact ih6 _ _ _ _)
   | (with_reducible exact ih7 _ _ _ _ _ _)
   | (with_reducible exact impl_FirstRound.mono _ _ _)
   | (with_reducible exact impl_RankingOf.mono _ _)
   | (with_reducible exact impl_ScoresOf.mono _ _ _)
   | (with_reducible exact impl_StrongParts.mono _ _ _)
   | (with_reducible exact laws_yHas.mono _ _ _)
   | (with_reducible exact laws_ySame.mono _ _ _)
   | (with_reducible exact spec_DrawStrongParts.mono _ _)
   | (with_reducible exact spec_FirstRound.mono _ _ _)
   | (with_reducible exact spec_StrongParts.mono _ _ _)
   | (with_reducible exact LeO.refl _)
   | (with_reducible exact LeO.none _)
   | (with_reducible refine LeO.ite ?_ ?_)
   | (with_reducible refine LeO.bind ?_ (fun _ => ?_))
   | exact ih0 _ _ _ _ _ _ _ _
   | exact ih1 _ _ _ _ _ _ _ _ _ _
   | exact ih2 _ _ _ _ _ _ _ _ _ _ _ _
   | exact ih3 _ _ _ _ _ _ _ _ _ _ _ _ _ _ _
   | exact ih4 _ _ _ _ _ _ _ _ _ _
   | exact ih5 _ _ _ _ _
   | exact ih6 _ _ _ _
   | exact ih7 _ _ _ _ _ _
   | exact impl_FirstRound.mono _ _ _
   | exact impl_RankingOf.mono _ _
   | exact impl_ScoresOf.mono _ _ _
   | exact impl_StrongParts.mono _ _ _
   | exact laws_yHas.mono _ _ _
   | exact laws_ySame.mono _ _ _
   | exact spec_DrawStrongParts.mono _ _
   | exact spec_FirstRound.mono _ _ _
   | exact spec_StrongParts.mono _ _ _
   | exact LeO.none _
   | refine LeO.ite ?_ ?_
   | refine LeO.bind ?_ (fun _ => ?_)
theorem laws_FnStrongParts.mono : ∀ a0 a1 k, LeO (laws_FnStrongParts.f k a0 a1) (laws_FnStrongParts.f (k + 1) a0 a1) := by
 intro a0 a1 k
 obtain ⟨ih0, ih1, ih2, ih3, ih4, ih5, ih6, ih7⟩ := laws_FnStrongParts.mono_l k
 unfold laws_FnStrongParts.f
 repeat' first
   | (with_reducible exact ih0 _ _ _ _ _ _ _ _)
   | (with_reducible exact ih1 _ _ _ _ _ _ _ _ _ _)
   | (with_reducible exact ih2 _ _ _ _ _ _ _ _ _ _ _ _)
   | (with_reducible exact ih3 _ _ _ _ _ _ _ _ _ _ _ _ _ _ _)
   | (with_reducible exact ih4 _ _ _ _ _ _ _ _ _ _)
   | (with_reducible exact ih5 _ _ _ _ _)
   | (with_reducible exact ih6 _ _ _ _)
   | (with_reducible exact ih7 _ _ _ _ _ _)
   | (with_reducible exact impl_FirstRound.mono _ _ _)
   | (with_reducible exact impl_RankingOf.mono _ _)
   | (with_reducible exact impl_ScoresOf.mono _ _ _)
   | (with_reducible exact impl_StrongParts.mono _ _ _)
   | (with_reducible exact laws_yHas.mono _ _ _)
   | (with_reducible exact laws_ySame.mono _ _ _)
   | (with_reducible exact spec_DrawStrongParts.mono _ _)
   | (with_reducible exact spec_FirstRound.mono _ _ _)
   | (with_reducible exact spec_StrongParts.mono _ _ _)
   | (with_reducible exact LeO.refl _)
   | (with_reducible exact LeO.none _)
   | (with_reducible refine LeO.ite ?_ ?_)
   | (with_reducible refine LeO.bind ?_ (fun _ => ?_))
   | exact ih0 _ _ _ _ _ _ _ _
   | exact ih1 _ _ _ _ _ _ _ _ _ _
   | exact ih2 _ _ _ _ _ _ _ _ _ _ _ _
   | exact ih3 _ _ _ _ _ _ _ _ _ _ _ _ _ _ _
   | exact ih4 _ _ _ _ _ _ _ _ _ _
   | exact ih5 _ _ _ _ _
   | exact ih6 _ _ _ _
   | exact ih7 _ _ _ _ _ _
   | exact impl_FirstRound.mono _ _ _
   | exact impl_RankingOf.mono _ _
   | exact impl_ScoresOf.mono _ _ _
   | exact impl_StrongParts.mono _ _ _
   | exact laws_yHas.mono _ _ _
   | exact laws_ySame.mono _ _ _
   | exact spec_DrawStrongParts.mono _ _
   | exact spec_FirstRound.mono _ _ _
   | exact spec_StrongParts.mono _ _ _
   | exact LeO.none _
   | refine LeO.ite ?_ ?_
   | refine LeO.bind ?_ (fun _ => ?_)
set_option maxHeartbeats 8000000 in
set_option maxRecDepth 100000 in
theorem laws_FnStrongParts.calls (k : Nat) (A0 : Option Addr) (c0 : Nat) (l0 : List Int) (A1 : Option Addr) (c1 : Nat) (l1 : List Int) (r : Bool) (w : World) (hr0 : Kd.C (Kd.int .u8) w A0 l0.length l0) (hc0 : l0.length ≤ c0) (hr1 : Kd.C (Kd.int .u8) w A1 l1.length l1) (hc1 : l1.length ≤ c1) (h : laws_FnStrongParts.f k l0 l1 = some r) :
  Calls Try.prog 4 #[.slice A0 l0.length c0, .slice A1 l1.length c1] w fun e w' => e = .returned (.bool r) ∧ Below w.heap.size w w' := by
 have hu27 := Try.underlying27
 have HR0 := Am hr0
 have HC0 := Am hc0
 clear hr0 hc0
 have HR1 := Am hr1
 have HC1 := Am hc1
 clear hr1 hc1
 have HB := Am (Below.refl w.heap.size w)
 have H : ((laws_big.f l0 l1).bind fun t513 => (if t513 = true then (some true) else ((spec_DrawStrongParts.f k l0).bind fun bt514 => ((impl_StrongParts.f k bt514.1 bt514.2).bind fun bt519 => ((spec_StrongParts.f k bt514.1 bt514.2).bind fun bt523 => ((impl_FirstRound.f k bt514.1 bt514.2).bind fun bt527 => ((spec_FirstRound.f k bt514.1 bt514.2).bind fun bt531 => ((impl_ScoresOf.f k bt514.1 bt514.2).bind fun bt535 => (if (bt519.2 != bt523.2) = true then (laws_FnStrongParts.j0 k bt519.1 bt519.2 bt527.1 bt527.2 bt535.1 true bt514.1 bt514.2) else ((laws_ySame.f k bt519.1 bt523.1).bind fun t539 => (if t539 = true then (if (bt527.2 != bt531.2) = true then (laws_FnStrongParts.j0 k bt519.1 bt519.2 bt527.1 bt527.2 bt535.1 true bt514.1 bt514.2) else ((laws_ySame.f k bt527.1 bt531.1).bind fun t540 => (if t540 = true then (laws_FnStrongParts.j0 k bt519.1 bt519.2 bt527.1 bt527.2 bt535.1 (bt535.2 != bt519.2) bt514.1 bt514.2) else (laws_FnStrongParts.j0 k bt519.1 bt519.2 bt527.1 bt527.2 bt535.1 true bt514.1 bt514.2)))) else (laws_FnStrongParts.j0 k bt519.1 bt519.2 bt527.1 bt527.2 bt535.1 true bt514.1 bt514.2)))))))))))) = some r := h
 clear h
 replace H := Option.bind_eq_some_iff.mp H
 obtain ⟨t513, A30, H⟩ := H
 replace H : (if t513 = true then (some true) else ((spec_DrawStrongParts.f k l0).bind fun bt514 => ((impl_StrongParts.f k bt514.1 bt514.2).bind fun bt519 => ((spec_StrongParts.f k bt514.1 bt514.2).bind fun bt523 => ((impl_FirstRound.f k bt514.1 bt514.2).bind fun bt527 => ((spec_FirstRound.f k bt514.1 bt514.2).bind fun bt531 => ((impl_ScoresOf.f k bt514.1 bt514.2).bind fun bt535 => (if (bt519.2 != bt523.2) = true then (laws_FnStrongParts.j0 k bt519.1 bt519.2 bt527.1 bt527.2 bt535.1 true bt514.1 bt514.2) else ((laws_ySame.f k bt519.1 bt523.1).bind fun t539 => (if t539 = true then (if (bt527.2 != bt531.2) = true then (laws_FnStrongParts.j0 k bt519.1 bt519.2 bt527.1 bt527.2 bt535.1 true bt514.1 bt514.2) else ((laws_ySame.f k bt527.1 bt531.1).bind fun t540 => (if t540 = true then (laws_FnStrongParts.j0 k bt519.1 bt519.2 bt527.1 bt527.2 bt535.1 (bt535.2 != bt519.2) bt514.1 bt514.2) else (laws_FnStrongParts.j0 k bt519.1 bt519.2 bt527.1 bt527.2 bt535.1 true bt514.1 bt514.2)))) else (laws_FnStrongParts.j0 k bt519.1 bt519.2 bt527.1 bt527.2 bt535.1 true bt514.1 bt514.2))))))))))) = some r := H
 have A3 := Am A30
 clear A30
 by_cases c4 : t513 = true
 ·
  subst c4
  have H1 : (some true) = some r := by rw [if_pos rfl] at H; exact H
  clear H
  have H := H1
  clear H1
  obtain rfl := Option.some.inj H
  go_enter Try.func4, Try.ntmps4
  go_wp2_with (first | (go_at_call 5; (with_reducible refine (laws_big.calls _ _ l0 _ _ l1 true _ ?side1 ?side2 ?side3 ?side4 A3.out).mono ?_); (case side1 => repeat (first | exact HR0.out | (with_reducible refine Ca ?_ _) | (with_reducible refine Cn ?_ _) | (with_reducible refine Cd ?_))); (case side2 => exact HC0.out); (case side3 => repeat (first | exact HR1.out | (with_reducible refine Ca ?_ _) | (with_reducible refine Cn ?_ _) | (with_reducible refine Cd ?_))); (case side4 => exact HC1.out); rintro e w' ⟨rfl, ⟨nd, rfl⟩⟩; (try first | exact ⟨rfl, _, World.drewN_drewN _ _ _⟩ | exact ⟨rfl, _, Eq.trans (World.drewN_drewN _ _ _) (congrArg (World.drewN _) (Nat.add_assoc _ _ _))⟩)))
  repeat (go_quiet (first | (go_at_call 5; (with_reducible refine (laws_big.calls _ _ l0 _ _ l1 true _ ?side1 ?side2 ?side3 ?side4 A3.out).mono ?_); (case side1 => repeat (first | exact HR0.out | (with_reducible refine Ca ?_ _) | (with_reducible refine Cn ?_ _) | (with_reducible refine Cd ?_))); (case side2 => exact HC0.out); (case side3 => repeat (first | exact HR1.out | (with_reducible refine Ca ?_ _) | (with_reducible refine Cn ?_ _) | (with_reducible refine Cd ?_))); (case side4 => exact HC1.out); rintro e w' ⟨rfl, ⟨nd, rfl⟩⟩; (try first | exact ⟨rfl, _, World.drewN_drewN _ _ _⟩ | exact ⟨rfl, _, Eq.trans (World.drewN_drewN _ _ _) (congrArg (World.drewN _) (Nat.add_assoc _ _ _))⟩))); try go_wp2_with (first | (go_at_call 5; (with_reducible refine (laws_big.calls _ _ l0 _ _ l1 true _ ?side1 ?side2 ?side3 ?side4 A3.out).mono ?_); (case side1 => repeat (first | exact HR0.out | (with_reducible refine Ca ?_ _) | (with_reducible refine Cn ?_ _) | (with_reducible refine Cd ?_))); (case side2 => exact HC0.out); (case side3 => repeat (first | exact HR1.out | (with_reducible refine Ca ?_ _) | (with_reducible refine Cn ?_ _) | (with_reducible refine Cd ?_))); (case side4 => exact HC1.out); rintro e w' ⟨rfl, ⟨nd, rfl⟩⟩; (try first | exact ⟨rfl, _, World.drewN_drewN _ _ _⟩ | exact ⟨rfl, _, Eq.trans (World.drewN_drewN _ _ _) (congrArg (World.drewN _) (Nat.add_assoc _ _ _))⟩))))
  go_ret
  exact ⟨by first | rfl | (simp [errW_none, errW_some] <;> rfl) | (simp [*, errW_none, errW_some] <;> rfl), by repeat (first | (with_reducible first | exact HB.out | apply Ba | apply Bn | apply Bd) | exact HB.out)⟩
 ·
  replace c4 := Bool.eq_false_iff.mpr c4
  subst c4
  have H1 : ((spec_DrawStrongParts.f k l0).bind fun bt514 => ((impl_StrongParts.f k bt514.1 bt514.2).bind fun bt519 => ((spec_StrongParts.f k bt514.1 bt514.2).bind fun bt523 => ((impl_FirstRound.f k bt514.1 bt514.2).bind fun bt527 => ((spec_FirstRound.f k bt514.1 bt514.2).bind fun bt531 => ((impl_ScoresOf.f k bt514.1 bt514.2).bind fun bt535 => (if (bt519.2 != bt523.2) = true then (laws_FnStrongParts.j0 k bt519.1 bt519.2 bt527.1 bt527.2 bt535.1 true bt514.1 bt514.2) else ((laws_ySame.f k bt519.1 bt523.1).bind fun t539 => (if t539 = true then (if (bt527.2 != bt531.2) = true then (laws_FnStrongParts.j0 k bt519.1 bt519.2 bt527.1 bt527.2 bt535.1 true bt514.1 bt514.2) else ((laws_ySame.f k bt527.1 bt531.1).bind fun t540 => (if t540 = true then (laws_FnStrongParts.j0 k bt519.1 bt519.2 bt527.1 bt527.2 bt535.1 (bt535.2 != bt519.2) bt514.1 bt514.2) else (laws_FnStrongParts.j0 k bt519.1 bt519.2 bt527.1 bt527.2 bt535.1 true bt514.1 bt514.2)))) else (laws_FnStrongParts.j0 k bt519.1 bt519.2 bt527.1 bt527.2 bt535.1 true bt514.1 bt514.2)))))))))) = some r := by rw [if_neg (show ¬ (false = true) by decide)] at H; exact H
  clear H
  have H := H1
  clear H1
  replace H := Option.bind_eq_some_iff.mp H
  obtain ⟨⟨t514, t515⟩, A50, H⟩ := H
  replace H : ((impl_StrongParts.f k t514 t515).bind fun bt519 => ((spec_StrongParts.f k t514 t515).bind fun bt523 => ((impl_FirstRound.f k t514 t515).bind fun bt527 => ((spec_FirstRound.f k t514 t515).bind fun bt531 => ((impl_ScoresOf.f k t514 t515).bind fun bt535 => (if (bt519.2 != bt523.2) = true then (laws_FnStrongParts.j0 k bt519.1 bt519.2 bt527.1 bt527.2 bt535.1 true t514 t515) else ((laws_ySame.f k bt519.1 bt523.1).bind fun t539 => (if t539 = true then (if (bt527.2 != bt531.2) = true then (laws_FnStrongParts.j0 k bt519.1 bt519.2 bt527.1 bt527.2 bt535.1 true t514 t515) else ((laws_ySame.f k bt527.1 bt531.1).bind fun t540 => (if t540 = true then (laws_FnStrongParts.j0 k bt519.1 bt519.2 bt527.1 bt527.2 bt535.1 (bt535.2 != bt519.2) t514 t515) else (laws_FnStrongParts.j0 k bt519.1 bt519.2 bt527.1 bt527.2 bt535.1 true t514 t515)))) else (laws_FnStrongParts.j0 k bt519.1 bt519.2 bt527.1 bt527.2 bt535.1 true t514 t515))))))))) = some r := H
  have A5 := Am A50
  clear A50
  replace H := Option.bind_eq_some_iff.mp H
  obtain ⟨⟨t519, t522⟩, A60, H⟩ := H
  replace H : ((spec_StrongParts.f k t514 t515).bind fun bt523 => ((impl_FirstRound.f k t514 t515).bind fun bt527 => ((spec_FirstRound.f k t514 t515).bind fun bt531 => ((impl_ScoresOf.f k t514 t515).bind fun bt535 => (if (t522 != bt523.2) = true then (laws_FnStrongParts.j0 k t519 t522 bt527.1 bt527.2 bt535.1 true t514 t515) else ((laws_ySame.f k t519 bt523.1).bind fun t539 => (if t539 = true then (if (bt527.2 != bt531.2) = true then (laws_FnStrongParts.j0 k t519 t522 bt527.1 bt527.2 bt535.1 true t514 t515) else ((laws_ySame.f k bt527.1 bt531.1).bind fun t540 => (if t540 = true then (laws_FnStrongParts.j0 k t519 t522 bt527.1 bt527.2 bt535.1 (bt535.2 != t522) t514 t515) else (laws_FnStrongParts.j0 k t519 t522 bt527.1 bt527.2 bt535.1 true t514 t515)))) else (laws_FnStrongParts.j0 k t519 t522 bt527.1 bt527.2 bt535.1 true t514 t515)))))))) = some r := H
  have A6 := Am A60
  clear A60
  replace H := Option.bind_eq_some_iff.mp H
  obtain ⟨⟨t523, t526⟩, A70, H⟩ := H
  replace H : ((impl_FirstRound.f k t514 t515).bind fun bt527 => ((spec_FirstRound.f k t514 t515).bind fun bt531 => ((impl_ScoresOf.f k t514 t515).bind fun bt535 => (if (t522 != t526) = true then (laws_FnStrongParts.j0 k t519 t522 bt527.1 bt527.2 bt535.1 true t514 t515) else ((laws_ySame.f k t519 t523).bind fun t539 => (if t539 = true then (if (bt527.2 != bt531.2) = true then (laws_FnStrongParts.j0 k t519 t522 bt527.1 bt527.2 bt535.1 true t514 t515) else ((laws_ySame.f k bt527.1 bt531.1).bind fun t540 => (if t540 = true then (laws_FnStrongParts.j0 k t519 t522 bt527.1 bt527.2 bt535.1 (bt535.2 != t522) t514 t515) else (laws_FnStrongParts.j0 k t519 t522 bt527.1 bt527.2 bt535.1 true t514 t515)))) else (laws_FnStrongParts.j0 k t519 t522 bt527.1 bt527.2 bt535.1 true t514 t515))))))) = some r := H
  have A7 := Am A70
  clear A70
  replace H := Option.bind_eq_some_iff.mp H
  obtain ⟨⟨t527, t530⟩, A80, H⟩ := H
  replace H : ((spec_FirstRound.f k t514 t515).bind fun bt531 => ((impl_ScoresOf.f k t514 t515).bind fun bt535 => (if (t522 != t526) = true then (laws_FnStrongParts.j0 k t519 t522 t527 t530 bt535.1 true t514 t515) else ((laws_ySame.f k t519 t523).bind fun t539 => (if t539 = true then (if (t530 != bt531.2) = true then (laws_FnStrongParts.j0 k t519 t522 t527 t530 bt535.1 true t514 t515) else ((laws_ySame.f k t527 bt531.1).bind fun t540 => (if t540 = true then (laws_FnStrongParts.j0 k t519 t522 t527 t530 bt535.1 (bt535.2 != t522) t514 t515) else (laws_FnStrongParts.j0 k t519 t522 t527 t530 bt535.1 true t514 t515)))) else (laws_FnStrongParts.j0 k t519 t522 t527 t530 bt535.1 true t514 t515)))))) = some r := H
  have A8 := Am A80
  clear A80
  replace H := Option.bind_eq_some_iff.mp H
  obtain ⟨⟨t531, t534⟩, A90, H⟩ := H
  replace H : ((impl_ScoresOf.f k t514 t515).bind fun bt535 => (if (t522 != t526) = true then (laws_FnStrongParts.j0 k t519 t522 t527 t530 bt535.1 true t514 t515) else ((laws_ySame.f k t519 t523).bind fun t539 => (if t539 = true then (if (t530 != t534) = true then (laws_FnStrongParts.j0 k t519 t522 t527 t530 bt535.1 true t514 t515) else ((laws_ySame.f k t527 t531).bind fun t540 => (if t540 = true then (laws_FnStrongParts.j0 k t519 t522 t527 t530 bt535.1 (bt535.2 != t522) t514 t515) else (laws_FnStrongParts.j0 k t519 t522 t527 t530 bt535.1 true t514 t515)))) else (laws_FnStrongParts.j0 k t519 t522 t527 t530 bt535.1 true t514 t515))))) = some r := H
  have A9 := Am A90
  clear A90
  replace H := Option.bind_eq_some_iff.mp H
  obtain ⟨⟨t535, t538⟩, A100, H⟩ := H
  replace H : (if (t522 != t526) = true then (laws_FnStrongParts.j0 k t519 t522 t527 t530 t535 true t514 t515) else ((laws_ySame.f k t519 t523).bind fun t539 => (if t539 = true then (if (t530 != t534) = true then (laws_FnStrongParts.j0 k t519 t522 t527 t530 t535 true t514 t515) else ((laws_ySame.f k t527 t531).bind fun t540 => (if t540 = true then (laws_FnStrongParts.j0 k t519 t522 t527 t530 t535 (t538 != t522) t514 t515) else (laws_FnStrongParts.j0 k t519 t522 t527 t530 t535 true t514 t515)))) else (laws_FnStrongParts.j0 k t519 t522 t527 t530 t535 true t514 t515)))) = some r := H
  have A10 := Am A100
  clear A100
  have HC11 := Am H
  clear H
  go_enter Try.func4, Try.ntmps4
  go_upto_region 9 with (first | (go_at_call 5; (with_reducible refine (laws_big.calls _ _ l0 _ _ l1 false _ ?side1 ?side2 ?side3 ?side4 A3.out).mono ?_); (case side1 => repeat (first | exact HR0.out | (with_reducible refine Ca ?_ _) | (with_reducible refine Cn ?_ _) | (with_reducible refine Cd ?_))); (case side2 => exact HC0.out); (case side3 => repeat (first | exact HR1.out | (with_reducible refine Ca ?_ _) | (with_reducible refine Cn ?_ _) | (with_reducible refine Cd ?_))); (case side4 => exact HC1.out); rintro e w' ⟨rfl, ⟨nd, rfl⟩⟩; (try first | exact ⟨rfl, _, World.drewN_drewN _ _ _⟩ | exact ⟨rfl, _, Eq.trans (World.drewN_drewN _ _ _) (congrArg (World.drewN _) (Nat.add_assoc _ _ _))⟩)) | (go_at_call 20; (with_reducible refine (spec_DrawStrongParts.calls k _ _ l0 t514 t515 _ ?side1 ?side2 A5.out).mono ?_); (case side1 => repeat (first | exact HR0.out | (with_reducible refine Ca ?_ _) | (with_reducible refine Cn ?_ _) | (with_reducible refine Cd ?_))); (case side2 => exact HC0.out); rintro e w12 ⟨v516, rfl, ho0, hb⟩; have n0_ := Am (Kd.R_lower ho0 (below_size (by repeat (first | (with_reducible first | exact HB.out | apply Ba | apply Bn | apply Bd))))); have n1_ := Am (below_step (by repeat (first | (with_reducible first | exact HB.out | apply Ba | apply Bn | apply Bd))) hb); clear HB; have HO517 := n0_; have HB := n1_; clear n0_ n1_; (try clear hb); (try clear hb2); (try clear hk); (try clear hi); (try clear ho0)) | ((with_reducible refine gate_dst (N := 5) rfl ?_); (try (refine gate_guard (by rfl) ?_; dsimp only)); refine box_event ?hg (N := 5) ?hd (cs := #[.int .i64 0, .slice none 0 0]) (t := 27) ?hr ?_; (case hd => rfl); (case hg => rfl); (case hr => first | (go_simp; done) | (go_simp; rfl)); intro gb518 hg w13 hbox hb; have n0_ := Am (Kd.R_below (by (with_reducible repeat (first | apply Ra | apply Rn | apply Rd)); exact HO517.out) hb); have n1_ := Am (below_step (by repeat (first | (with_reducible first | exact HB.out | apply Ba | apply Bn | apply Bd))) hb); have n2_ := Am (hbox); have n3_ := Am ((by rw [hg]; exact (below_size (by repeat (first | (with_reducible first | exact HB.out | apply Ba | apply Bn | apply Bd)))) : w.heap.size ≤ gb518)); have n4_ := Am ((by rw [hg]; exact (below_size (by repeat (first | (with_reducible first | exact HB.out | apply Ba | apply Bn | apply Bd)))) : w.heap.size ≤ gb518)); clear HO517; clear HB; have HO517 := n0_; have HB := n1_; have BK518 := n2_; have GW518 := n3_; have GE518 := n4_; clear n0_ n1_ n2_ n3_ n4_; clear hb hbox hg; have hcz14_0 : w13.cell? ⟨gb518, 0, none⟩ = some (.int .i64 0) := (Kc BK518.out 0).trans rfl; have hcz14_1 : w13.cell? ⟨gb518, 1, none⟩ = some (.slice none 0 0) := (Kc BK518.out 1).trans rfl; have hfz14_0 := Kf BK518.out 0; have hfz14_1 := Kf BK518.out 1; obtain ⟨Ao15, co15, eo15⟩ := Kd.R_slice HO517.out; subst eo15) | (go_at_call 21; (with_reducible refine (impl_StrongParts.calls k t514 _ _ t515 t519 t522 _ ?side1 ?side2 A6.out).mono ?_); (case side1 => refine (Kd.R_reads' (e := 3) (base := w.heap.size) (ok := fun k_ => True) (n := t515.length) (c := co15) ?_).2.2; exact (by (with_reducible repeat (first | apply Ra | apply Rn | apply Rd)); exact (Kd.R_mono (Kd.R_far (p := ⟨gb518, 1, none⟩) (Kd.R_far (p := ⟨gb518, 0, none⟩) (Kd.R_types HO517.out BK518.out (by decide)) (fun _ hk => hk.2) (.int .i64 t514)) (fun _ hk => hk.2) (.slice Ao15 t515.length co15)) (fun _ h_ => h_.1)))); (case side2 => exact (Kd.R_reads' HO517.out).2.1); rintro e w16 ⟨v520, rfl, ho0, hb⟩; have n0_ := Am (Kd.R_elder' (by (with_reducible repeat (first | apply Ra | apply Rn | apply Rd)); exact (Kd.R_mono (Kd.R_far (p := ⟨gb518, 1, none⟩) (Kd.R_far (p := ⟨gb518, 0, none⟩) (Kd.R_types HO517.out BK518.out (by decide)) (fun _ hk => hk.2) (.int .i64 t514)) (fun _ hk => hk.2) (.slice Ao15 t515.length co15)) (fun _ h_ => h_.1))) (Kd.R_base ho0) hb); have n1_ := Am (Kd.R_lower (Kd.R_new' ho0 (Kd.R_lt (by (with_reducible repeat (first | apply Ra | apply Rn | apply Rd)); exact (Kd.R_mono (Kd.R_far (p := ⟨gb518, 1, none⟩) (Kd.R_far (p := ⟨gb518, 0, none⟩) (Kd.R_types HO517.out BK518.out (by decide)) (fun _ hk => hk.2) (.int .i64 t514)) (fun _ hk => hk.2) (.slice Ao15 t515.length co15)) (fun _ h_ => h_.1))))) (below_size (by repeat (first | (with_reducible first | exact HB.out | apply Ba | apply Bn | apply Bd | refine Bs ?_ GE518.out) | exact HB.out)))); have n2_ := Am (blk_below (g := gb518) (o := .cells #[.int .i64 t514, .slice Ao15 t515.length co15] 27 (0, 0)) (by (with_reducible repeat (first | refine Kn ?_ _ | refine Ke ?_ | refine Ka ?_ _)); refine blk_put (cs := #[.int .i64 t514, .slice none 0 0]) ?_ 1 _ rfl; (with_reducible repeat (first | refine Kn ?_ _ | refine Ke ?_ | refine Ka ?_ _)); refine blk_put (cs := #[.int .i64 0, .slice none 0 0]) ?_ 0 _ rfl; (with_reducible repeat (first | refine Kn ?_ _ | refine Ke ?_ | refine Ka ?_ _)); exact BK518.out) hb); have n3_ := Am (below_step (by repeat (first | (with_reducible first | exact HB.out | apply Ba | apply Bn | apply Bd | refine Bs ?_ GE518.out) | exact HB.out)) hb); clear HO517; clear BK518; clear HB; have HO517 := n0_; have HO521 := n1_; have BK518 := n2_; have HB := n3_; clear n0_ n1_ n2_ n3_; (try clear hb); (try clear hb2); (try clear hk); (try clear hi); (try clear ho0); have hcz17_0 : w16.cell? ⟨gb518, 0, none⟩ = some (.int .i64 t514) := (Kc BK518.out 0).trans rfl; have hcz17_1 : w16.cell? ⟨gb518, 1, none⟩ = some (.slice Ao15 t515.length co15) := (Kc BK518.out 1).trans rfl; have hfz17_0 := Kf BK518.out 0; have hfz17_1 := Kf BK518.out 1) | (go_at_call 22; (with_reducible refine (spec_StrongParts.calls k t514 _ _ t515 t523 t526 _ ?side1 ?side2 A7.out).mono ?_); (case side1 => repeat (first | exact (Kd.R_reads' HO517.out).2.2 | (with_reducible refine Ca ?_ _) | (with_reducible refine Cn ?_ _) | (with_reducible refine Cd ?_))); (case side2 => exact (Kd.R_reads' HO517.out).2.1); rintro e w18 ⟨v524, rfl, ho0, hb⟩; have n0_ := Am (Kd.R_elder' (by (with_reducible repeat (first | apply Ra | apply Rn | apply Rd)); exact HO517.out) (Kd.R_base ho0) hb); have n1_ := Am (Kd.R_elder' (by (with_reducible repeat (first | apply Ra | apply Rn | apply Rd)); exact HO521.out) (Kd.R_base ho0) hb); have n2_ := Am (Kd.R_lower (Kd.R_new' (Kd.R_new' ho0 (Kd.R_lt (by (with_reducible repeat (first | apply Ra | apply Rn | apply Rd)); exact HO517.out))) (Kd.R_lt (by (with_reducible repeat (first | apply Ra | apply Rn | apply Rd)); exact HO521.out))) (below_size (by repeat (first | (with_reducible first | exact HB.out | apply Ba | apply Bn | apply Bd | refine Bs ?_ GE518.out) | exact HB.out)))); have n3_ := Am (blk_below (g := gb518) (o := .cells #[.int .i64 t514, .slice Ao15 t515.length co15] 27 (0, 0)) (by (with_reducible repeat (first | refine Kn ?_ _ | refine Ke ?_ | refine Ka ?_ _)); exact BK518.out) hb); have n4_ := Am (below_step (by repeat (first | (with_reducible first | exact HB.out | apply Ba | apply Bn | apply Bd | refine Bs ?_ GE518.out) | exact HB.out)) hb); clear HO517; clear HO521; clear BK518; clear HB; have HO517 := n0_; have HO521 := n1_; have HO525 := n2_; have BK518 := n3_; have HB := n4_; clear n0_ n1_ n2_ n3_ n4_; (try clear hb); (try clear hb2); (try clear hk); (try clear hi); (try clear ho0); have hcz19_0 : w18.cell? ⟨gb518, 0, none⟩ = some (.int .i64 t514) := (Kc BK518.out 0).trans rfl; have hcz19_1 : w18.cell? ⟨gb518, 1, none⟩ = some (.slice Ao15 t515.length co15) := (Kc BK518.out 1).trans rfl; have hfz19_0 := Kf BK518.out 0; have hfz19_1 := Kf BK518.out 1) | (go_at_call 23; (with_reducible refine (impl_FirstRound.calls k t514 _ _ t515 t527 t530 _ ?side1 ?side2 A8.out).mono ?_); (case side1 => repeat (first | exact (Kd.R_reads' HO517.out).2.2 | (with_reducible refine Ca ?_ _) | (with_reducible refine Cn ?_ _) | (with_reducible refine Cd ?_))); (case side2 => exact (Kd.R_reads' HO517.out).2.1); rintro e w20 ⟨v528, rfl, ho0, hb⟩; have n0_ := Am (Kd.R_elder' (by (with_reducible repeat (first | apply Ra | apply Rn | apply Rd)); exact HO517.out) (Kd.R_base ho0) hb); have n1_ := Am (Kd.R_elder' (by (with_reducible repeat (first | apply Ra | apply Rn | apply Rd)); exact HO521.out) (Kd.R_base ho0) hb); have n2_ := Am (Kd.R_elder' (by (with_reducible repeat (first | apply Ra | apply Rn | apply Rd)); exact HO525.out) (Kd.R_base ho0) hb); have n3_ := Am (Kd.R_lower (Kd.R_new' (Kd.R_new' (Kd.R_new' ho0 (Kd.R_lt (by (with_reducible repeat (first | apply Ra | apply Rn | apply Rd)); exact HO517.out))) (Kd.R_lt (by (with_reducible repeat (first | apply Ra | apply Rn | apply Rd)); exact HO521.out))) (Kd.R_lt (by (with_reducible repeat (first | apply Ra | apply Rn | apply Rd)); exact HO525.out))) (below_size (by repeat (first | (with_reducible first | exact HB.out | apply Ba | apply Bn | apply Bd | refine Bs ?_ GE518.out) | exact HB.out)))); have n4_ := Am (blk_below (g := gb518) (o := .cells #[.int .i64 t514, .slice Ao15 t515.length co15] 27 (0, 0)) (by (with_reducible repeat (first | refine Kn ?_ _ | refine Ke ?_ | refine Ka ?_ _)); exact BK518.out) hb); have n5_ := Am (below_step (by repeat (first | (with_reducible first | exact HB.out | apply Ba | apply Bn | apply Bd | refine Bs ?_ GE518.out) | exact HB.out)) hb); clear HO517; clear HO521; clear HO525; clear BK518; clear HB; have HO517 := n0_; have HO521 := n1_; have HO525 := n2_; have HO529 := n3_; have BK518 := n4_; have HB := n5_; clear n0_ n1_ n2_ n3_ n4_ n5_; (try clear hb); (try clear hb2); (try clear hk); (try clear hi); (try clear ho0); have hcz21_0 : w20.cell? ⟨gb518, 0, none⟩ = some (.int .i64 t514) := (Kc BK518.out 0).trans rfl; have hcz21_1 : w20.cell? ⟨gb518, 1, none⟩ = some (.slice Ao15 t515.length co15) := (Kc BK518.out 1).trans rfl; have hfz21_0 := Kf BK518.out 0; have hfz21_1 := Kf BK518.out 1) | (go_at_call 24; (with_reducible refine (spec_FirstRound.calls k t514 _ _ t515 t531 t534 _ ?side1 ?side2 A9.out).mono ?_); (case side1 => repeat (first | exact (Kd.R_reads' HO517.out).2.2 | (with_reducible refine Ca ?_ _) | (with_reducible refine Cn ?_ _) | (with_reducible refine Cd ?_))); (case side2 => exact (Kd.R_reads' HO517.out).2.1); rintro e w22 ⟨v532, rfl, ho0, hb⟩; have n0_ := Am (Kd.R_elder' (by (with_reducible repeat (first | apply Ra | apply Rn | apply Rd)); exact HO517.out) (Kd.R_base ho0) hb); have n1_ := Am (Kd.R_elder' (by (with_reducible repeat (first | apply Ra | apply Rn | apply Rd)); exact HO521.out) (Kd.R_base ho0) hb); have n2_ := Am (Kd.R_elder' (by (with_reducible repeat (first | apply Ra | apply Rn | apply Rd)); exact HO525.out) (Kd.R_base ho0) hb); have n3_ := Am (Kd.R_elder' (by (with_reducible repeat (first | apply Ra | apply Rn | apply Rd)); exact HO529.out) (Kd.R_base ho0) hb); have n4_ := Am (Kd.R_lower (Kd.R_new' (Kd.R_new' (Kd.R_new' (Kd.R_new' ho0 (Kd.R_lt (by (with_reducible repeat (first | apply Ra | apply Rn | apply Rd)); exact HO517.out))) (Kd.R_lt (by (with_reducible repeat (first | apply Ra | apply Rn | apply Rd)); exact HO521.out))) (Kd.R_lt (by (with_reducible repeat (first | apply Ra | apply Rn | apply Rd)); exact HO525.out))) (Kd.R_lt (by (with_reducible repeat (first | apply Ra | apply Rn | apply Rd)); exact HO529.out))) (below_size (by repeat (first | (with_reducible first | exact HB.out | apply Ba | apply Bn | apply Bd | refine Bs ?_ GE518.out) | exact HB.out)))); have n5_ := Am (blk_below (g := gb518) (o := .cells #[.int .i64 t514, .slice Ao15 t515.length co15] 27 (0, 0)) (by (with_reducible repeat (first | refine Kn ?_ _ | refine Ke ?_ | refine Ka ?_ _)); exact BK518.out) hb); have n6_ := Am (below_step (by repeat (first | (with_reducible first | exact HB.out | apply Ba | apply Bn | apply Bd | refine Bs ?_ GE518.out) | exact HB.out)) hb); clear HO517; clear HO521; clear HO525; clear HO529; clear BK518; clear HB; have HO517 := n0_; have HO521 := n1_; have HO525 := n2_; have HO529 := n3_; have HO533 := n4_; have BK518 := n5_; have HB := n6_; clear n0_ n1_ n2_ n3_ n4_ n5_ n6_; (try clear hb); (try clear hb2); (try clear hk); (try clear hi); (try clear ho0); have hcz23_0 : w22.cell? ⟨gb518, 0, none⟩ = some (.int .i64 t514) := (Kc BK518.out 0).trans rfl; have hcz23_1 : w22.cell? ⟨gb518, 1, none⟩ = some (.slice Ao15 t515.length co15) := (Kc BK518.out 1).trans rfl; have hfz23_0 := Kf BK518.out 0; have hfz23_1 := Kf BK518.out 1) | (go_at_call 16; (with_reducible refine (impl_ScoresOf.calls k t514 _ _ t515 t535 t538 _ ?side1 ?side2 A10.out).mono ?_); (case side1 => repeat (first | exact (Kd.R_reads' HO517.out).2.2 | (with_reducible refine Ca ?_ _) | (with_reducible refine Cn ?_ _) | (with_reducible refine Cd ?_))); (case side2 => exact (Kd.R_reads' HO517.out).2.1); rintro e w24 ⟨v536, rfl, ho0, hb⟩; have n0_ := Am (Kd.R_elder' (by (with_reducible repeat (first | apply Ra | apply Rn | apply Rd)); exact HO517.out) (Kd.R_base ho0) hb); have n1_ := Am (Kd.R_elder' (by (with_reducible repeat (first | apply Ra | apply Rn | apply Rd)); exact HO521.out) (Kd.R_base ho0) hb); have n2_ := Am (Kd.R_elder' (by (with_reducible repeat (first | apply Ra | apply Rn | apply Rd)); exact HO525.out) (Kd.R_base ho0) hb); have n3_ := Am (Kd.R_elder' (by (with_reducible repeat (first | apply Ra | apply Rn | apply Rd)); exact HO529.out) (Kd.R_base ho0) hb); have n4_ := Am (Kd.R_elder' (by (with_reducible repeat (first | apply Ra | apply Rn | apply Rd)); exact HO533.out) (Kd.R_base ho0) hb); have n5_ := Am (Kd.R_lower (Kd.R_new' (Kd.R_new' (Kd.R_new' (Kd.R_new' (Kd.R_new' ho0 (Kd.R_lt (by (with_reducible repeat (first | apply Ra | apply Rn | apply Rd)); exact HO517.out))) (Kd.R_lt (by (with_reducible repeat (first | apply Ra | apply Rn | apply Rd)); exact HO521.out))) (Kd.R_lt (by (with_reducible repeat (first | apply Ra | apply Rn | apply Rd)); exact HO525.out))) (Kd.R_lt (by (with_reducible repeat (first | apply Ra | apply Rn | apply Rd)); exact HO529.out))) (Kd.R_lt (by (with_reducible repeat (first | apply Ra | apply Rn | apply Rd)); exact HO533.out))) (below_size (by repeat (first | (with_reducible first | exact HB.out | apply Ba | apply Bn | apply Bd | refine Bs ?_ GE518.out) | exact HB.out)))); have n6_ := Am (blk_below (g := gb518) (o := .cells #[.int .i64 t514, .slice Ao15 t515.length co15] 27 (0, 0)) (by (with_reducible repeat (first | refine Kn ?_ _ | refine Ke ?_ | refine Ka ?_ _)); exact BK518.out) hb); have n7_ := Am (below_step (by repeat (first | (with_reducible first | exact HB.out | apply Ba | apply Bn | apply Bd | refine Bs ?_ GE518.out) | exact HB.out)) hb); clear HO517; clear HO521; clear HO525; clear HO529; clear HO533; clear BK518; clear HB; have HO517 := n0_; have HO521 := n1_; have HO525 := n2_; have HO529 := n3_; have HO533 := n4_; have HO537 := n5_; have BK518 := n6_; have HB := n7_; clear n0_ n1_ n2_ n3_ n4_ n5_ n6_ n7_; (try clear hb); (try clear hb2); (try clear hk); (try clear hi); (try clear ho0)))
  repeat (go_quiet (first | (go_at_call 5; (with_reducible refine (laws_big.calls _ _ l0 _ _ l1 false _ ?side1 ?side2 ?side3 ?side4 A3.out).mono ?_); (case side1 => repeat (first | exact HR0.out | (with_reducible refine Ca ?_ _) | (with_reducible refine Cn ?_ _) | (with_reducible refine Cd ?_))); (case side2 => exact HC0.out); (case side3 => repeat (first | exact HR1.out | (with_reducible refine Ca ?_ _) | (with_reducible refine Cn ?_ _) | (with_reducible refine Cd ?_))); (case side4 => exact HC1.out); rintro e w' ⟨rfl, ⟨nd, rfl⟩⟩; (try first | exact ⟨rfl, _, World.drewN_drewN _ _ _⟩ | exact ⟨rfl, _, Eq.trans (World.drewN_drewN _ _ _) (congrArg (World.drewN _) (Nat.add_assoc _ _ _))⟩)) | (go_at_call 20; (with_reducible refine (spec_DrawStrongParts.calls k _ _ l0 t514 t515 _ ?side1 ?side2 A5.out).mono ?_); (case side1 => repeat (first | exact HR0.out | (with_reducible refine Ca ?_ _) | (with_reducible refine Cn ?_ _) | (with_reducible refine Cd ?_))); (case side2 => exact HC0.out); rintro e w12 ⟨v516, rfl, ho0, hb⟩; have n0_ := Am (Kd.R_lower ho0 (below_size (by repeat (first | (with_reducible first | exact HB.out | apply Ba | apply Bn | apply Bd))))); have n1_ := Am (below_step (by repeat (first | (with_reducible first | exact HB.out | apply Ba | apply Bn | apply Bd))) hb); clear HB; have HO517 := n0_; have HB := n1_; clear n0_ n1_; (try clear hb); (try clear hb2); (try clear hk); (try clear hi); (try clear ho0)) | ((with_reducible refine gate_dst (N := 5) rfl ?_); (try (refine gate_guard (by rfl) ?_; dsimp only)); refine box_event ?hg (N := 5) ?hd (cs := #[.int .i64 0, .slice none 0 0]) (t := 27) ?hr ?_; (case hd => rfl); (case hg => rfl); (case hr => first | (go_simp; done) | (go_simp; rfl)); intro gb518 hg w13 hbox hb; have n0_ := Am (Kd.R_below (by (with_reducible repeat (first | apply Ra | apply Rn | apply Rd)); exact HO517.out) hb); have n1_ := Am (below_step (by repeat (first | (with_reducible first | exact HB.out | apply Ba | apply Bn | apply Bd))) hb); have n2_ := Am (hbox); have n3_ := Am ((by rw [hg]; exact (below_size (by repeat (first | (with_reducible first | exact HB.out | apply Ba | apply Bn | apply Bd)))) : w.heap.size ≤ gb518)); have n4_ := Am ((by rw [hg]; exact (below_size (by repeat (first | (with_reducible first | exact HB.out | apply Ba | apply Bn | apply Bd)))) : w.heap.size ≤ gb518)); clear HO517; clear HB; have HO517 := n0_; have HB := n1_; have BK518 := n2_; have GW518 := n3_; have GE518 := n4_; clear n0_ n1_ n2_ n3_ n4_; clear hb hbox hg; have hcz14_0 : w13.cell? ⟨gb518, 0, none⟩ = some (.int .i64 0) := (Kc BK518.out 0).trans rfl; have hcz14_1 : w13.cell? ⟨gb518, 1, none⟩ = some (.slice none 0 0) := (Kc BK518.out 1).trans rfl; have hfz14_0 := Kf BK518.out 0; have hfz14_1 := Kf BK518.out 1; obtain ⟨Ao15, co15, eo15⟩ := Kd.R_slice HO517.out; subst eo15) | (go_at_call 21; (with_reducible refine (impl_StrongParts.calls k t514 _ _ t515 t519 t522 _ ?side1 ?side2 A6.out).mono ?_); (case side1 => refine (Kd.R_reads' (e := 3) (base := w.heap.size) (ok := fun k_ => True) (n := t515.length) (c := co15) ?_).2.2; exact (by (with_reducible repeat (first | apply Ra | apply Rn | apply Rd)); exact (Kd.R_mono (Kd.R_far (p := ⟨gb518, 1, none⟩) (Kd.R_far (p := ⟨gb518, 0, none⟩) (Kd.R_types HO517.out BK518.out (by decide)) (fun _ hk => hk.2) (.int .i64 t514)) (fun _ hk => hk.2) (.slice Ao15 t515.length co15)) (fun _ h_ => h_.1)))); (case side2 => exact (Kd.R_reads' HO517.out).2.1); rintro e w16 ⟨v520, rfl, ho0, hb⟩; have n0_ := Am (Kd.R_elder' (by (with_reducible repeat (first | apply Ra | apply Rn | apply Rd)); exact (Kd.R_mono (Kd.R_far (p := ⟨gb518, 1, none⟩) (Kd.R_far (p := ⟨gb518, 0, none⟩) (Kd.R_types HO517.out BK518.out (by decide)) (fun _ hk => hk.2) (.int .i64 t514)) (fun _ hk => hk.2) (.slice Ao15 t515.length co15)) (fun _ h_ => h_.1))) (Kd.R_base ho0) hb); have n1_ := Am (Kd.R_lower (Kd.R_new' ho0 (Kd.R_lt (by (with_reducible repeat (first | apply Ra | apply Rn | apply Rd)); exact (Kd.R_mono (Kd.R_far (p := ⟨gb518, 1, none⟩) (Kd.R_far (p := ⟨gb518, 0, none⟩) (Kd.R_types HO517.out BK518.out (by decide)) (fun _ hk => hk.2) (.int .i64 t514)) (fun _ hk => hk.2) (.slice Ao15 t515.length co15)) (fun _ h_ => h_.1))))) (below_size (by repeat (first | (with_reducible first | exact HB.out | apply Ba | apply Bn | apply Bd | refine Bs ?_ GE518.out) | exact HB.out)))); have n2_ := Am (blk_below (g := gb518) (o := .cells #[.int .i64 t514, .slice Ao15 t515.length co15] 27 (0, 0)) (by (with_reducible repeat (first | refine Kn ?_ _ | refine Ke ?_ | refine Ka ?_ _)); refine blk_put (cs := #[.int .i64 t514, .slice none 0 0]) ?_ 1 _ rfl; (with_reducible repeat (first | refine Kn ?_ _ | refine Ke ?_ | refine Ka ?_ _)); refine blk_put (cs := #[.int .i64 0, .slice none 0 0]) ?_ 0 _ rfl; (with_reducible repeat (first | refine Kn ?_ _ | refine Ke ?_ | refine Ka ?_ _)); exact BK518.out) hb); have n3_ := Am (below_step (by repeat (first | (with_reducible first | exact HB.out | apply Ba | apply Bn | apply Bd | refine Bs ?_ GE518.out) | exact HB.out)) hb); clear HO517; clear BK518; clear HB; have HO517 := n0_; have HO521 := n1_; have BK518 := n2_; have HB := n3_; clear n0_ n1_ n2_ n3_; (try clear hb); (try clear hb2); (try clear hk); (try clear hi); (try clear ho0); have hcz17_0 : w16.cell? ⟨gb518, 0, none⟩ = some (.int .i64 t514) := (Kc BK518.out 0).trans rfl; have hcz17_1 : w16.cell? ⟨gb518, 1, none⟩ = some (.slice Ao15 t515.length co15) := (Kc BK518.out 1).trans rfl; have hfz17_0 := Kf BK518.out 0; have hfz17_1 := Kf BK518.out 1) | (go_at_call 22; (with_reducible refine (spec_StrongParts.calls k t514 _ _ t515 t523 t526 _ ?side1 ?side2 A7.out).mono ?_); (case side1 => repeat (first | exact (Kd.R_reads' HO517.out).2.2 | (with_reducible refine Ca ?_ _) | (with_reducible refine Cn ?_ _) | (with_reducible refine Cd ?_))); (case side2 => exact (Kd.R_reads' HO517.out).2.1); rintro e w18 ⟨v524, rfl, ho0, hb⟩; have n0_ := Am (Kd.R_elder' (by (with_reducible repeat (first | apply Ra | apply Rn | apply Rd)); exact HO517.out) (Kd.R_base ho0) hb); have n1_ := Am (Kd.R_elder' (by (with_reducible repeat (first | apply Ra | apply Rn | apply Rd)); exact HO521.out) (Kd.R_base ho0) hb); have n2_ := Am (Kd.R_lower (Kd.R_new' (Kd.R_new' ho0 (Kd.R_lt (by (with_reducible repeat (first | apply Ra | apply Rn | apply Rd)); exact HO517.out))) (Kd.R_lt (by (with_reducible repeat (first | apply Ra | apply Rn | apply Rd)); exact HO521.out))) (below_size (by repeat (first | (with_reducible first | exact HB.out | apply Ba | apply Bn | apply Bd | refine Bs ?_ GE518.out) | exact HB.out)))); have n3_ := Am (blk_below (g := gb518) (o := .cells #[.int .i64 t514, .slice Ao15 t515.length co15] 27 (0, 0)) (by (with_reducible repeat (first | refine Kn ?_ _ | refine Ke ?_ | refine Ka ?_ _)); exact BK518.out) hb); have n4_ := Am (below_step (by repeat (first | (with_reducible first | exact HB.out | apply Ba | apply Bn | apply Bd | refine Bs ?_ GE518.out) | exact HB.out)) hb); clear HO517; clear HO521; clear BK518; clear HB; have HO517 := n0_; have HO521 := n1_; have HO525 := n2_; have BK518 := n3_; have HB := n4_; clear n0_ n1_ n2_ n3_ n4_; (try clear hb); (try clear hb2); (try clear hk); (try clear hi); (try clear ho0); have hcz19_0 : w18.cell? ⟨gb518, 0, none⟩ = some (.int .i64 t514) := (Kc BK518.out 0).trans rfl; have hcz19_1 : w18.cell? ⟨gb518, 1, none⟩ = some (.slice Ao15 t515.length co15) := (Kc BK518.out 1).trans rfl; have hfz19_0 := Kf BK518.out 0; have hfz19_1 := Kf BK518.out 1) | (go_at_call 23; (with_reducible refine (impl_FirstRound.calls k t514 _ _ t515 t527 t530 _ ?side1 ?side2 A8.out).mono ?_); (case side1 => repeat (first | exact (Kd.R_reads' HO517.out).2.2 | (with_reducible refine Ca ?_ _) | (with_reducible refine Cn ?_ _) | (with_reducible refine Cd ?_))); (case side2 => exact (Kd.R_reads' HO517.out).2.1); rintro e w20 ⟨v528, rfl, ho0, hb⟩; have n0_ := Am (Kd.R_elder' (by (with_reducible repeat (first | apply Ra | apply Rn | apply Rd)); exact HO517.out) (Kd.R_base ho0) hb); have n1_ := Am (Kd.R_elder' (by (with_reducible repeat (first | apply Ra | apply Rn | apply Rd)); exact HO521.out) (Kd.R_base ho0) hb); have n2_ := Am (Kd.R_elder' (by (with_reducible repeat (first | apply Ra | apply Rn | apply Rd)); exact HO525.out) (Kd.R_base ho0) hb); have n3_ := Am (Kd.R_lower (Kd.R_new' (Kd.R_new' (Kd.R_new' ho0 (Kd.R_lt (by (with_reducible repeat (first | apply Ra | apply Rn | apply Rd)); exact HO517.out))) (Kd.R_lt (by (with_reducible repeat (first | apply Ra | apply Rn | apply Rd)); exact HO521.out))) (Kd.R_lt (by (with_reducible repeat (first | apply Ra | apply Rn | apply Rd)); exact HO525.out))) (below_size (by repeat (first | (with_reducible first | exact HB.out | apply Ba | apply Bn | apply Bd | refine Bs ?_ GE518.out) | exact HB.out)))); have n4_ := Am (blk_below (g := gb518) (o := .cells #[.int .i64 t514, .slice Ao15 t515.length co15] 27 (0, 0)) (by (with_reducible repeat (first | refine Kn ?_ _ | refine Ke ?_ | refine Ka ?_ _)); exact BK518.out) hb); have n5_ := Am (below_step (by repeat (first | (with_reducible first | exact HB.out | apply Ba | apply Bn | apply Bd | refine Bs ?_ GE518.out) | exact HB.out)) hb); clear HO517; clear HO521; clear HO525; clear BK518; clear HB; have HO517 := n0_; have HO521 := n1_; have HO525 := n2_; have HO529 := n3_; have BK518 := n4_; have HB := n5_; clear n0_ n1_ n2_ n3_ n4_ n5_; (try clear hb); (try clear hb2); (try clear hk); (try clear hi); (try clear ho0); have hcz21_0 : w20.cell? ⟨gb518, 0, none⟩ = some (.int .i64 t514) := (Kc BK518.out 0).trans rfl; have hcz21_1 : w20.cell? ⟨gb518, 1, none⟩ = some (.slice Ao15 t515.length co15) := (Kc BK518.out 1).trans rfl; have hfz21_0 := Kf BK518.out 0; have hfz21_1 := Kf BK518.out 1) | (go_at_call 24; (with_reducible refine (spec_FirstRound.calls k t514 _ _ t515 t531 t534 _ ?side1 ?side2 A9.out).mono ?_); (case side1 => repeat (first | exact (Kd.R_reads' HO517.out).2.2 | (with_reducible refine Ca ?_ _) | (with_reducible refine Cn ?_ _) | (with_reducible refine Cd ?_))); (case side2 => exact (Kd.R_reads' HO517.out).2.1); rintro e w22 ⟨v532, rfl, ho0, hb⟩; have n0_ := Am (Kd.R_elder' (by (with_reducible repeat (first | apply Ra | apply Rn | apply Rd)); exact HO517.out) (Kd.R_base ho0) hb); have n1_ := Am (Kd.R_elder' (by (with_reducible repeat (first | apply Ra | apply Rn | apply Rd)); exact HO521.out) (Kd.R_base ho0) hb); have n2_ := Am (Kd.R_elder' (by (with_reducible repeat (first | apply Ra | apply Rn | apply Rd)); exact HO525.out) (Kd.R_base ho0) hb); have n3_ := Am (Kd.R_elder' (by (with_reducible repeat (first | apply Ra | apply Rn | apply Rd)); exact HO529.out) (Kd.R_base ho0) hb); have n4_ := Am (Kd.R_lower (Kd.R_new' (Kd.R_new' (Kd.R_new' (Kd.R_new' ho0 (Kd.R_lt (by (with_reducible repeat (first | apply Ra | apply Rn | apply Rd)); exact HO517.out))) (Kd.R_lt (by (with_reducible repeat (first | apply Ra | apply Rn | apply Rd)); exact HO521.out))) (Kd.R_lt (by (with_reducible repeat (first | apply Ra | apply Rn | apply Rd)); exact HO525.out))) (Kd.R_lt (by (with_reducible repeat (first | apply Ra | apply Rn | apply Rd)); exact HO529.out))) (below_size (by repeat (first | (with_reducible first | exact HB.out | apply Ba | apply Bn | apply Bd | refine Bs ?_ GE518.out) | exact HB.out)))); have n5_ := Am (blk_below (g := gb518) (o := .cells #[.int .i64 t514, .slice Ao15 t515.length co15] 27 (0, 0)) (by (with_reducible repeat (first | refine Kn ?_ _ | refine Ke ?_ | refine Ka ?_ _)); exact BK518.out) hb); have n6_ := Am (below_step (by repeat (first | (with_reducible first | exact HB.out | apply Ba | apply Bn | apply Bd | refine Bs ?_ GE518.out) | exact HB.out)) hb); clear HO517; clear HO521; clear HO525; clear HO529; clear BK518; clear HB; have HO517 := n0_; have HO521 := n1_; have HO525 := n2_; have HO529 := n3_; have HO533 := n4_; have BK518 := n5_; have HB := n6_; clear n0_ n1_ n2_ n3_ n4_ n5_ n6_; (try clear hb); (try clear hb2); (try clear hk); (try clear hi); (try clear ho0); have hcz23_0 : w22.cell? ⟨gb518, 0, none⟩ = some (.int .i64 t514) := (Kc BK518.out 0).trans rfl; have hcz23_1 : w22.cell? ⟨gb518, 1, none⟩ = some (.slice Ao15 t515.length co15) := (Kc BK518.out 1).trans rfl; have hfz23_0 := Kf BK518.out 0; have hfz23_1 := Kf BK518.out 1) | (go_at_call 16; (with_reducible refine (impl_ScoresOf.calls k t514 _ _ t515 t535 t538 _ ?side1 ?side2 A10.out).mono ?_); (case side1 => repeat (first | exact (Kd.R_reads' HO517.out).2.2 | (with_reducible refine Ca ?_ _) | (with_reducible refine Cn ?_ _) | (with_reducible refine Cd ?_))); (case side2 => exact (Kd.R_reads' HO517.out).2.1); rintro e w24 ⟨v536, rfl, ho0, hb⟩; have n0_ := Am (Kd.R_elder' (by (with_reducible repeat (first | apply Ra | apply Rn | apply Rd)); exact HO517.out) (Kd.R_base ho0) hb); have n1_ := Am (Kd.R_elder' (by (with_reducible repeat (first | apply Ra | apply Rn | apply Rd)); exact HO521.out) (Kd.R_base ho0) hb); have n2_ := Am (Kd.R_elder' (by (with_reducible repeat (first | apply Ra | apply Rn | apply Rd)); exact HO525.out) (Kd.R_base ho0) hb); have n3_ := Am (Kd.R_elder' (by (with_reducible repeat (first | apply Ra | apply Rn | apply Rd)); exact HO529.out) (Kd.R_base ho0) hb); have n4_ := Am (Kd.R_elder' (by (with_reducible repeat (first | apply Ra | apply Rn | apply Rd)); exact HO533.out) (Kd.R_base ho0) hb); have n5_ := Am (Kd.R_lower (Kd.R_new' (Kd.R_new' (Kd.R_new' (Kd.R_new' (Kd.R_new' ho0 (Kd.R_lt (by (with_reducible repeat (first | apply Ra | apply Rn | apply Rd)); exact HO517.out))) (Kd.R_lt (by (with_reducible repeat (first | apply Ra | apply Rn | apply Rd)); exact HO521.out))) (Kd.R_lt (by (with_reducible repeat (first | apply Ra | apply Rn | apply Rd)); exact HO525.out))) (Kd.R_lt (by (with_reducible repeat (first | apply Ra | apply Rn | apply Rd)); exact HO529.out))) (Kd.R_lt (by (with_reducible repeat (first | apply Ra | apply Rn | apply Rd)); exact HO533.out))) (below_size (by repeat (first | (with_reducible first | exact HB.out | apply Ba | apply Bn | apply Bd | refine Bs ?_ GE518.out) | exact HB.out)))); have n6_ := Am (blk_below (g := gb518) (o := .cells #[.int .i64 t514, .slice Ao15 t515.length co15] 27 (0, 0)) (by (with_reducible repeat (first | refine Kn ?_ _ | refine Ke ?_ | refine Ka ?_ _)); exact BK518.out) hb); have n7_ := Am (below_step (by repeat (first | (with_reducible first | exact HB.out | apply Ba | apply Bn | apply Bd | refine Bs ?_ GE518.out) | exact HB.out)) hb); clear HO517; clear HO521; clear HO525; clear HO529; clear HO533; clear BK518; clear HB; have HO517 := n0_; have HO521 := n1_; have HO525 := n2_; have HO529 := n3_; have HO533 := n4_; have HO537 := n5_; have BK518 := n6_; have HB := n7_; clear n0_ n1_ n2_ n3_ n4_ n5_ n6_ n7_; (try clear hb); (try clear hb2); (try clear hk); (try clear hi); (try clear ho0))); go_upto_region 9 with (first | (go_at_call 5; (with_reducible refine (laws_big.calls _ _ l0 _ _ l1 false _ ?side1 ?side2 ?side3 ?side4 A3.out).mono ?_); (case side1 => repeat (first | exact HR0.out | (with_reducible refine Ca ?_ _) | (with_reducible refine Cn ?_ _) | (with_reducible refine Cd ?_))); (case side2 => exact HC0.out); (case side3 => repeat (first | exact HR1.out | (with_reducible refine Ca ?_ _) | (with_reducible refine Cn ?_ _) | (with_reducible refine Cd ?_))); (case side4 => exact HC1.out); rintro e w' ⟨rfl, ⟨nd, rfl⟩⟩; (try first | exact ⟨rfl, _, World.drewN_drewN _ _ _⟩ | exact ⟨rfl, _, Eq.trans (World.drewN_drewN _ _ _) (congrArg (World.drewN _) (Nat.add_assoc _ _ _))⟩)) | (go_at_call 20; (with_reducible refine (spec_DrawStrongParts.calls k _ _ l0 t514 t515 _ ?side1 ?side2 A5.out).mono ?_); (case side1 => repeat (first | exact HR0.out | (with_reducible refine Ca ?_ _) | (with_reducible refine Cn ?_ _) | (with_reducible refine Cd ?_))); (case side2 => exact HC0.out); rintro e w12 ⟨v516, rfl, ho0, hb⟩; have n0_ := Am (Kd.R_lower ho0 (below_size (by repeat (first | (with_reducible first | exact HB.out | apply Ba | apply Bn | apply Bd))))); have n1_ := Am (below_step (by repeat (first | (with_reducible first | exact HB.out | apply Ba | apply Bn | apply Bd))) hb); clear HB; have HO517 := n0_; have HB := n1_; clear n0_ n1_; (try clear hb); (try clear hb2); (try clear hk); (try clear hi); (try clear ho0)) | ((with_reducible refine gate_dst (N := 5) rfl ?_); (try (refine gate_guard (by rfl) ?_; dsimp only)); refine box_event ?hg (N := 5) ?hd (cs := #[.int .i64 0, .slice none 0 0]) (t := 27) ?hr ?_; (case hd => rfl); (case hg => rfl); (case hr => first | (go_simp; done) | (go_simp; rfl)); intro gb518 hg w13 hbox hb; have n0_ := Am (Kd.R_below (by (with_reducible repeat (first | apply Ra | apply Rn | apply Rd)); exact HO517.out) hb); have n1_ := Am (below_step (by repeat (first | (with_reducible first | exact HB.out | apply Ba | apply Bn | apply Bd))) hb); have n2_ := Am (hbox); have n3_ := Am ((by rw [hg]; exact (below_size (by repeat (first | (with_reducible first | exact HB.out | apply Ba | apply Bn | apply Bd)))) : w.heap.size ≤ gb518)); have n4_ := Am ((by rw [hg]; exact (below_size (by repeat (first | (with_reducible first | exact HB.out | apply Ba | apply Bn | apply Bd)))) : w.heap.size ≤ gb518)); clear HO517; clear HB; have HO517 := n0_; have HB := n1_; have BK518 := n2_; have GW518 := n3_; have GE518 := n4_; clear n0_ n1_ n2_ n3_ n4_; clear hb hbox hg; have hcz14_0 : w13.cell? ⟨gb518, 0, none⟩ = some (.int .i64 0) := (Kc BK518.out 0).trans rfl; have hcz14_1 : w13.cell? ⟨gb518, 1, none⟩ = some (.slice none 0 0) := (Kc BK518.out 1).trans rfl; have hfz14_0 := Kf BK518.out 0; have hfz14_1 := Kf BK518.out 1; obtain ⟨Ao15, co15, eo15⟩ := Kd.R_slice HO517.out; subst eo15) | (go_at_call 21; (with_reducible refine (impl_StrongParts.calls k t514 _ _ t515 t519 t522 _ ?side1 ?side2 A6.out).mono ?_); (case side1 => refine (Kd.R_reads' (e := 3) (base := w.heap.size) (ok := fun k_ => True) (n := t515.length) (c := co15) ?_).2.2; exact (by (with_reducible repeat (first | apply Ra | apply Rn | apply Rd)); exact (Kd.R_mono (Kd.R_far (p := ⟨gb518, 1, none⟩) (Kd.R_far (p := ⟨gb518, 0, none⟩) (Kd.R_types HO517.out BK518.out (by decide)) (fun _ hk => hk.2) (.int .i64 t514)) (fun _ hk => hk.2) (.slice Ao15 t515.length co15)) (fun _ h_ => h_.1)))); (case side2 => exact (Kd.R_reads' HO517.out).2.1); rintro e w16 ⟨v520, rfl, ho0, hb⟩; have n0_ := Am (Kd.R_elder' (by (with_reducible repeat (first | apply Ra | apply Rn | apply Rd)); exact (Kd.R_mono (Kd.R_far (p := ⟨gb518, 1, none⟩) (Kd.R_far (p := ⟨gb518, 0, none⟩) (Kd.R_types HO517.out BK518.out (by decide)) (fun _ hk => hk.2) (.int .i64 t514)) (fun _ hk => hk.2) (.slice Ao15 t515.length co15)) (fun _ h_ => h_.1))) (Kd.R_base ho0) hb); have n1_ := Am (Kd.R_lower (Kd.R_new' ho0 (Kd.R_lt (by (with_reducible repeat (first | apply Ra | apply Rn | apply Rd)); exact (Kd.R_mono (Kd.R_far (p := ⟨gb518, 1, none⟩) (Kd.R_far (p := ⟨gb518, 0, none⟩) (Kd.R_types HO517.out BK518.out (by decide)) (fun _ hk => hk.2) (.int .i64 t514)) (fun _ hk => hk.2) (.slice Ao15 t515.length co15)) (fun _ h_ => h_.1))))) (below_size (by repeat (first | (with_reducible first | exact HB.out | apply Ba | apply Bn | apply Bd | refine Bs ?_ GE518.out) | exact HB.out)))); have n2_ := Am (blk_below (g := gb518) (o := .cells #[.int .i64 t514, .slice Ao15 t515.length co15] 27 (0, 0)) (by (with_reducible repeat (first | refine Kn ?_ _ | refine Ke ?_ | refine Ka ?_ _)); refine blk_put (cs := #[.int .i64 t514, .slice none 0 0]) ?_ 1 _ rfl; (with_reducible repeat (first | refine Kn ?_ _ | refine Ke ?_ | refine Ka ?_ _)); refine blk_put (cs := #[.int .i64 0, .slice none 0 0]) ?_ 0 _ rfl; (with_reducible repeat (first | refine Kn ?_ _ | refine Ke ?_ | refine Ka ?_ _)); exact BK518.out) hb); have n3_ := Am (below_step (by repeat (first | (with_reducible first | exact HB.out | apply Ba | apply Bn | apply Bd | refine Bs ?_ GE518.out) | exact HB.out)) hb); clear HO517; clear BK518; clear HB; have HO517 := n0_; have HO521 := n1_; have BK518 := n2_; have HB := n3_; clear n0_ n1_ n2_ n3_; (try clear hb); (try clear hb2); (try clear hk); (try clear hi); (try clear ho0); have hcz17_0 : w16.cell? ⟨gb518, 0, none⟩ = some (.int .i64 t514) := (Kc BK518.out 0).trans rfl; have hcz17_1 : w16.cell? ⟨gb518, 1, none⟩ = some (.slice Ao15 t515.length co15) := (Kc BK518.out 1).trans rfl; have hfz17_0 := Kf BK518.out 0; have hfz17_1 := Kf BK518.out 1) | (go_at_call 22; (with_reducible refine (spec_StrongParts.calls k t514 _ _ t515 t523 t526 _ ?side1 ?side2 A7.out).mono ?_); (case side1 => repeat (first | exact (Kd.R_reads' HO517.out).2.2 | (with_reducible refine Ca ?_ _) | (with_reducible refine Cn ?_ _) | (with_reducible refine Cd ?_))); (case side2 => exact (Kd.R_reads' HO517.out).2.1); rintro e w18 ⟨v524, rfl, ho0, hb⟩; have n0_ := Am (Kd.R_elder' (by (with_reducible repeat (first | apply Ra | apply Rn | apply Rd)); exact HO517.out) (Kd.R_base ho0) hb); have n1_ := Am (Kd.R_elder' (by (with_reducible repeat (first | apply Ra | apply Rn | apply Rd)); exact HO521.out) (Kd.R_base ho0) hb); have n2_ := Am (Kd.R_lower (Kd.R_new' (Kd.R_new' ho0 (Kd.R_lt (by (with_reducible repeat (first | apply Ra | apply Rn | apply Rd)); exact HO517.out))) (Kd.R_lt (by (with_reducible repeat (first | apply Ra | apply Rn | apply Rd)); exact HO521.out))) (below_size (by repeat (first | (with_reducible first | exact HB.out | apply Ba | apply Bn | apply Bd | refine Bs ?_ GE518.out) | exact HB.out)))); have n3_ := Am (blk_below (g := gb518) (o := .cells #[.int .i64 t514, .slice Ao15 t515.length co15] 27 (0, 0)) (by (with_reducible repeat (first | refine Kn ?_ _ | refine Ke ?_ | refine Ka ?_ _)); exact BK518.out) hb); have n4_ := Am (below_step (by repeat (first | (with_reducible first | exact HB.out | apply Ba | apply Bn | apply Bd | refine Bs ?_ GE518.out) | exact HB.out)) hb); clear HO517; clear HO521; clear BK518; clear HB; have HO517 := n0_; have HO521 := n1_; have HO525 := n2_; have BK518 := n3_; have HB := n4_; clear n0_ n1_ n2_ n3_ n4_; (try clear hb); (try clear hb2); (try clear hk); (try clear hi); (try clear ho0); have hcz19_0 : w18.cell? ⟨gb518, 0, none⟩ = some (.int .i64 t514) := (Kc BK518.out 0).trans rfl; have hcz19_1 : w18.cell? ⟨gb518, 1, none⟩ = some (.slice Ao15 t515.length co15) := (Kc BK518.out 1).trans rfl; have hfz19_0 := Kf BK518.out 0; have hfz19_1 := Kf BK518.out 1) | (go_at_call 23; (with_reducible refine (impl_FirstRound.calls k t514 _ _ t515 t527 t530 _ ?side1 ?side2 A8.out).mono ?_); (case side1 => repeat (first | exact (Kd.R_reads' HO517.out).2.2 | (with_reducible refine Ca ?_ _) | (with_reducible refine Cn ?_ _) | (with_reducible refine Cd ?_))); (case side2 => exact (Kd.R_reads' HO517.out).2.1); rintro e w20 ⟨v528, rfl, ho0, hb⟩; have n0_ := Am (Kd.R_elder' (by (with_reducible repeat (first | apply Ra | apply Rn | apply Rd)); exact HO517.out) (Kd.R_base ho0) hb); have n1_ := Am (Kd.R_elder' (by (with_reducible repeat (first | apply Ra | apply Rn | apply Rd)); exact HO521.out) (Kd.R_base ho0) hb); have n2_ := Am (Kd.R_elder' (by (with_reducible repeat (first | apply Ra | apply Rn | apply Rd)); exact HO525.out) (Kd.R_base ho0) hb); have n3_ := Am (Kd.R_lower (Kd.R_new' (Kd.R_new' (Kd.R_new' ho0 (Kd.R_lt (by (with_reducible repeat (first | apply Ra | apply Rn | apply Rd)); exact HO517.out))) (Kd.R_lt (by (with_reducible repeat (first | apply Ra | apply Rn | apply Rd)); exact HO521.out))) (Kd.R_lt (by (with_reducible repeat (first | apply Ra | apply Rn | apply Rd)); exact HO525.out))) (below_size (by repeat (first | (with_reducible first | exact HB.out | apply Ba | apply Bn | apply Bd | refine Bs ?_ GE518.out) | exact HB.out)))); have n4_ := Am (blk_below (g := gb518) (o := .cells #[.int .i64 t514, .slice Ao15 t515.length co15] 27 (0, 0)) (by (with_reducible repeat (first | refine Kn ?_ _ | refine Ke ?_ | refine Ka ?_ _)); exact BK518.out) hb); have n5_ := Am (below_step (by repeat (first | (with_reducible first | exact HB.out | apply Ba | apply Bn | apply Bd | refine Bs ?_ GE518.out) | exact HB.out)) hb); clear HO517; clear HO521; clear HO525; clear BK518; clear HB; have HO517 := n0_; have HO521 := n1_; have HO525 := n2_; have HO529 := n3_; have BK518 := n4_; have HB := n5_; clear n0_ n1_ n2_ n3_ n4_ n5_; (try clear hb); (try clear hb2); (try clear hk); (try clear hi); (try clear ho0); have hcz21_0 : w20.cell? ⟨gb518, 0, none⟩ = some (.int .i64 t514) := (Kc BK518.out 0).trans rfl; have hcz21_1 : w20.cell? ⟨gb518, 1, none⟩ = some (.slice Ao15 t515.length co15) := (Kc BK518.out 1).trans rfl; have hfz21_0 := Kf BK518.out 0; have hfz21_1 := Kf BK518.out 1) | (go_at_call 24; (with_reducible refine (spec_FirstRound.calls k t514 _ _ t515 t531 t534 _ ?side1 ?side2 A9.out).mono ?_); (case side1 => repeat (first | exact (Kd.R_reads' HO517.out).2.2 | (with_reducible refine Ca ?_ _) | (with_reducible refine Cn ?_ _) | (with_reducible refine Cd ?_))); (case side2 => exact (Kd.R_reads' HO517.out).2.1); rintro e w22 ⟨v532, rfl, ho0, hb⟩; have n0_ := Am (Kd.R_elder' (by (with_reducible repeat (first | apply Ra | apply Rn | apply Rd)); exact HO517.out) (Kd.R_base ho0) hb); have n1_ := Am (Kd.R_elder' (by (with_reducible repeat (first | apply Ra | apply Rn | apply Rd)); exact HO521.out) (Kd.R_base ho0) hb); have n2_ := Am (Kd.R_elder' (by (with_reducible repeat (first | apply Ra | apply Rn | apply Rd)); exact HO525.out) (Kd.R_base ho0) hb); have n3_ := Am (Kd.R_elder' (by (with_reducible repeat (first | apply Ra | apply Rn | apply Rd)); exact HO529.out) (Kd.R_base ho0) hb); have n4_ := Am (Kd.R_lower (Kd.R_new' (Kd.R_new' (Kd.R_new' (Kd.R_new' ho0 (Kd.R_lt (by (with_reducible repeat (first | apply Ra | apply Rn | apply Rd)); exact HO517.out))) (Kd.R_lt (by (with_reducible repeat (first | apply Ra | apply Rn | apply Rd)); exact HO521.out))) (Kd.R_lt (by (with_reducible repeat (first | apply Ra | apply Rn | apply Rd)); exact HO525.out))) (Kd.R_lt (by (with_reducible repeat (first | apply Ra | apply Rn | apply Rd)); exact HO529.out))) (below_size (by repeat (first | (with_reducible first | exact HB.out | apply Ba | apply Bn | apply Bd | refine Bs ?_ GE518.out) | exact HB.out)))); have n5_ := Am (blk_below (g := gb518) (o := .cells #[.int .i64 t514, .slice Ao15 t515.length co15] 27 (0, 0)) (by (with_reducible repeat (first | refine Kn ?_ _ | refine Ke ?_ | refine Ka ?_ _)); exact BK518.out) hb); have n6_ := Am (below_step (by repeat (first | (with_reducible first | exact HB.out | apply Ba | apply Bn | apply Bd | refine Bs ?_ GE518.out) | exact HB.out)) hb); clear HO517; clear HO521; clear HO525; clear HO529; clear BK518; clear HB; have HO517 := n0_; have HO521 := n1_; have HO525 := n2_; have HO529 := n3_; have HO533 := n4_; have BK518 := n5_; have HB := n6_; clear n0_ n1_ n2_ n3_ n4_ n5_ n6_; (try clear hb); (try clear hb2); (try clear hk); (try clear hi); (try clear ho0); have hcz23_0 : w22.cell? ⟨gb518, 0, none⟩ = some (.int .i64 t514) := (Kc BK518.out 0).trans rfl; have hcz23_1 : w22.cell? ⟨gb518, 1, none⟩ = some (.slice Ao15 t515.length co15) := (Kc BK518.out 1).trans rfl; have hfz23_0 := Kf BK518.out 0; have hfz23_1 := Kf BK518.out 1) | (go_at_call 16; (with_reducible refine (impl_ScoresOf.calls k t514 _ _ t515 t535 t538 _ ?side1 ?side2 A10.out).mono ?_); (case side1 => repeat (first | exact (Kd.R_reads' HO517.out).2.2 | (with_reducible refine Ca ?_ _) | (with_reducible refine Cn ?_ _) | (with_reducible refine Cd ?_))); (case side2 => exact (Kd.R_reads' HO517.out).2.1); rintro e w24 ⟨v536, rfl, ho0, hb⟩; have n0_ := Am (Kd.R_elder' (by (with_reducible repeat (first | apply Ra | apply Rn | apply Rd)); exact HO517.out) (Kd.R_base ho0) hb); have n1_ := Am (Kd.R_elder' (by (with_reducible repeat (first | apply Ra | apply Rn | apply Rd)); exact HO521.out) (Kd.R_base ho0) hb); have n2_ := Am (Kd.R_elder' (by (with_reducible repeat (first | apply Ra | apply Rn | apply Rd)); exact HO525.out) (Kd.R_base ho0) hb); have n3_ := Am (Kd.R_elder' (by (with_reducible repeat (first | apply Ra | apply Rn | apply Rd)); exact HO529.out) (Kd.R_base ho0) hb); have n4_ := Am (Kd.R_elder' (by (with_reducible repeat (first | apply Ra | apply Rn | apply Rd)); exact HO533.out) (Kd.R_base ho0) hb); have n5_ := Am (Kd.R_lower (Kd.R_new' (Kd.R_new' (Kd.R_new' (Kd.R_new' (Kd.R_new' ho0 (Kd.R_lt (by (with_reducible repeat (first | apply Ra | apply Rn | apply Rd)); exact HO517.out))) (Kd.R_lt (by (with_reducible repeat (first | apply Ra | apply Rn | apply Rd)); exact HO521.out))) (Kd.R_lt (by (with_reducible repeat (first | apply Ra | apply Rn | apply Rd)); exact HO525.out))) (Kd.R_lt (by (with_reducible repeat (first | apply Ra | apply Rn | apply Rd)); exact HO529.out))) (Kd.R_lt (by (with_reducible repeat (first | apply Ra | apply Rn | apply Rd)); exact HO533.out))) (below_size (by repeat (first | (with_reducible first | exact HB.out | apply Ba | apply Bn | apply Bd | refine Bs ?_ GE518.out) | exact HB.out)))); have n6_ := Am (blk_below (g := gb518) (o := .cells #[.int .i64 t514, .slice Ao15 t515.length co15] 27 (0, 0)) (by (with_reducible repeat (first | refine Kn ?_ _ | refine Ke ?_ | refine Ka ?_ _)); exact BK518.out) hb); have n7_ := Am (below_step (by repeat (first | (with_reducible first | exact HB.out | apply Ba | apply Bn | apply Bd | refine Bs ?_ GE518.out) | exact HB.out)) hb); clear HO517; clear HO521; clear HO525; clear HO529; clear HO533; clear BK518; clear HB; have HO517 := n0_; have HO521 := n1_; have HO525 := n2_; have HO529 := n3_; have HO533 := n4_; have HO537 := n5_; have BK518 := n6_; have HB := n7_; clear n0_ n1_ n2_ n3_ n4_ n5_ n6_ n7_; (try clear hb); (try clear hb2); (try clear hk); (try clear hi); (try clear ho0))))
  (try simp only [Act.put, List.setIfInBounds_toArray, List.set_cons_zero, List.set_cons_succ])
  go_cut [82] (fun v82 wc => ∃ (kq : Nat) (x82_10 : Bool), v82 = .bool x82_10 ∧ Aside0 (laws_FnStrongParts.j0 kq t519 t522 t527 t530 t535 x82_10 t514 t515 = some r) ∧ Aside0 (kq ≤ k) ∧ Aside0 (Kd.R (Kd.int .i64) 3 wc w.heap.size (fun k_ => some k_ ≠ (v528 : Value).ownBlock ∧ some k_ ≠ (v536 : Value).ownBlock ∧ some k_ ≠ ((.slice Ao15 t515.length co15) : Value).ownBlock) v520 t519) ∧ Aside0 (Kd.R (Kd.int .i64) 3 wc w.heap.size (fun k_ => some k_ ≠ (v520 : Value).ownBlock ∧ some k_ ≠ (v536 : Value).ownBlock ∧ some k_ ≠ ((.slice Ao15 t515.length co15) : Value).ownBlock) v528 t527) ∧ Aside0 (Kd.R (Kd.int .i64) 3 wc w.heap.size (fun k_ => some k_ ≠ (v520 : Value).ownBlock ∧ some k_ ≠ (v528 : Value).ownBlock ∧ some k_ ≠ ((.slice Ao15 t515.length co15) : Value).ownBlock) v536 t535) ∧ Aside0 (Kd.R (Kd.int .i64) 3 wc w.heap.size (fun k_ => some k_ ≠ (v520 : Value).ownBlock ∧ some k_ ≠ (v528 : Value).ownBlock ∧ some k_ ≠ (v536 : Value).ownBlock) (.slice Ao15 t515.length co15) t515) ∧ Aside0 (wc.heap[gb518]? = some (.cells #[.int .i64 t514, (.slice Ao15 t515.length co15)] 27 (0, 0))) ∧ Aside0 (Below w.heap.size w wc))
  case first =>
   have H := HC11.out
   clear HC11
   by_cases c25 : (t522 != t526) = true
   ·
    rw [if_pos c25] at H
    have c25b0 : (t522 != t526) = true := c25
    (try (have c25b1 : decide (t522 = t526) = false := by simpa using c25))
    (try (have c25b2 : (t522 == t526) = false := by simpa using c25))
    (try (have c25b3 : ¬ (t522 = t526) := by simpa using c25))
    clear c25
    (first | rw [c25b0] | (simp only [i64_w, i32_w]; rw [c25b0]) | skip)
    have H' := Am H
    clear H
    go_wp2
    repeat (go_quiet (fail); try go_wp2)
    go_meet
    case rel => exact ⟨_, (true), (by first | rfl | (simp; done) | (simp [*]; done)), H', ⟨by first | omega | exact Nat.le_refl _⟩, ⟨by (with_reducible repeat (first | apply Ra | apply Rn | apply Rd)); exact Kd.R_mono HO521.out (fun _ hk => ⟨hk.1.1.2, ⟨hk.2, hk.1.1.1.1.2⟩⟩)⟩, ⟨by (with_reducible repeat (first | apply Ra | apply Rn | apply Rd)); exact Kd.R_mono HO529.out (fun _ hk => ⟨hk.1.1.1.2, ⟨hk.2, hk.1.1.1.1.2⟩⟩)⟩, ⟨by (with_reducible repeat (first | apply Ra | apply Rn | apply Rd)); exact Kd.R_mono HO537.out (fun _ hk => ⟨hk.1.1.1.2, ⟨hk.1.2, hk.1.1.1.1.2⟩⟩)⟩, ⟨by (with_reducible repeat (first | apply Ra | apply Rn | apply Rd)); exact Kd.R_mono HO517.out (fun _ hk => ⟨hk.1.1.1.1.2, ⟨hk.1.1.2, hk.2⟩⟩)⟩, ⟨by (with_reducible repeat (first | refine Kn ?_ _ | refine Ke ?_ | refine Ka ?_ _)); exact BK518.out⟩, ⟨by repeat (first | (with_reducible first | exact HB.out | apply Ba | apply Bn | apply Bd | refine Bs ?_ GE518.out) | exact HB.out)⟩⟩
   ·
    rw [if_neg c25] at H
    have c25b0 : (t522 != t526) = false := by simpa using c25
    (try (have c25b1 : decide (t522 = t526) = true := by simpa using c25))
    (try (have c25b2 : (t522 == t526) = true := by simpa using c25))
    clear c25
    (first | rw [c25b0] | (simp only [i64_w, i32_w]; rw [c25b0]) | skip)
    replace H := Option.bind_eq_some_iff.mp H
    obtain ⟨t539, A260, H⟩ := H
    replace H : (if t539 = true then (if (t530 != t534) = true then (laws_FnStrongParts.j0 k t519 t522 t527 t530 t535 true t514 t515) else ((laws_ySame.f k t527 t531).bind fun t540 => (if t540 = true then (laws_FnStrongParts.j0 k t519 t522 t527 t530 t535 (t538 != t522) t514 t515) else (laws_FnStrongParts.j0 k t519 t522 t527 t530 t535 true t514 t515)))) else (laws_FnStrongParts.j0 k t519 t522 t527 t530 t535 true t514 t515)) = some r := H
    have A26 := Am A260
    clear A260
    by_cases c27 : t539 = true
    ·
     subst c27
     have H1 : (if (t530 != t534) = true then (laws_FnStrongParts.j0 k t519 t522 t527 t530 t535 true t514 t515) else ((laws_ySame.f k t527 t531).bind fun t540 => (if t540 = true then (laws_FnStrongParts.j0 k t519 t522 t527 t530 t535 (t538 != t522) t514 t515) else (laws_FnStrongParts.j0 k t519 t522 t527 t530 t535 true t514 t515)))) = some r := by rw [if_pos rfl] at H; exact H
     clear H
     have H := H1
     clear H1
     by_cases c28 : (t530 != t534) = true
     ·
      rw [if_pos c28] at H
      have c28b0 : (t530 != t534) = true := c28
      (try (have c28b1 : decide (t530 = t534) = false := by simpa using c28))
      (try (have c28b2 : (t530 == t534) = false := by simpa using c28))
      (try (have c28b3 : ¬ (t530 = t534) := by simpa using c28))
      clear c28
      have H' := Am H
      clear H
      obtain ⟨Ao29, co29, eo29⟩ := Kd.R_slice HO521.out
      subst eo29
      obtain ⟨Ao30, co30, eo30⟩ := Kd.R_slice HO525.out
      subst eo30
      go_wp2_with (first | (go_at_call 18; (with_reducible refine (laws_ySame.calls k _ _ t519 _ _ t523 true _ ?side1 ?side2 ?side3 ?side4 A26.out).mono ?_); (case side1 => repeat (first | exact (Kd.R_reads' HO521.out).2.2 | (with_reducible refine Ca ?_ _) | (with_reducible refine Cn ?_ _) | (with_reducible refine Cd ?_))); (case side2 => exact (Kd.R_reads' HO521.out).2.1); (case side3 => repeat (first | exact (Kd.R_reads' HO525.out).2.2 | (with_reducible refine Ca ?_ _) | (with_reducible refine Cn ?_ _) | (with_reducible refine Cd ?_))); (case side4 => exact (Kd.R_reads' HO525.out).2.1); rintro e w' ⟨rfl, ⟨nd, rfl⟩⟩; (try first | exact ⟨rfl, _, World.drewN_drewN _ _ _⟩ | exact ⟨rfl, _, Eq.trans (World.drewN_drewN _ _ _) (congrArg (World.drewN _) (Nat.add_assoc _ _ _))⟩)))
      repeat (go_quiet (first | (go_at_call 18; (with_reducible refine (laws_ySame.calls k _ _ t519 _ _ t523 true _ ?side1 ?side2 ?side3 ?side4 A26.out).mono ?_); (case side1 => repeat (first | exact (Kd.R_reads' HO521.out).2.2 | (with_reducible refine Ca ?_ _) | (with_reducible refine Cn ?_ _) | (with_reducible refine Cd ?_))); (case side2 => exact (Kd.R_reads' HO521.out).2.1); (case side3 => repeat (first | exact (Kd.R_reads' HO525.out).2.2 | (with_reducible refine Ca ?_ _) | (with_reducible refine Cn ?_ _) | (with_reducible refine Cd ?_))); (case side4 => exact (Kd.R_reads' HO525.out).2.1); rintro e w' ⟨rfl, ⟨nd, rfl⟩⟩; (try first | exact ⟨rfl, _, World.drewN_drewN _ _ _⟩ | exact ⟨rfl, _, Eq.trans (World.drewN_drewN _ _ _) (congrArg (World.drewN _) (Nat.add_assoc _ _ _))⟩))); try go_wp2_with (first | (go_at_call 18; (with_reducible refine (laws_ySame.calls k _ _ t519 _ _ t523 true _ ?side1 ?side2 ?side3 ?side4 A26.out).mono ?_); (case side1 => repeat (first | exact (Kd.R_reads' HO521.out).2.2 | (with_reducible refine Ca ?_ _) | (with_reducible refine Cn ?_ _) | (with_reducible refine Cd ?_))); (case side2 => exact (Kd.R_reads' HO521.out).2.1); (case side3 => repeat (first | exact (Kd.R_reads' HO525.out).2.2 | (with_reducible refine Ca ?_ _) | (with_reducible refine Cn ?_ _) | (with_reducible refine Cd ?_))); (case side4 => exact (Kd.R_reads' HO525.out).2.1); rintro e w' ⟨rfl, ⟨nd, rfl⟩⟩; (try first | exact ⟨rfl, _, World.drewN_drewN _ _ _⟩ | exact ⟨rfl, _, Eq.trans (World.drewN_drewN _ _ _) (congrArg (World.drewN _) (Nat.add_assoc _ _ _))⟩))))
      go_meet
      case rel => exact ⟨_, (true), (by first | rfl | (simp; done) | (simp [*]; done)), H', ⟨by first | omega | exact Nat.le_refl _⟩, ⟨by (with_reducible repeat (first | apply Ra | apply Rn | apply Rd)); exact Kd.R_mono HO521.out (fun _ hk => ⟨hk.1.1.2, ⟨hk.2, hk.1.1.1.1.2⟩⟩)⟩, ⟨by (with_reducible repeat (first | apply Ra | apply Rn | apply Rd)); exact Kd.R_mono HO529.out (fun _ hk => ⟨hk.1.1.1.2, ⟨hk.2, hk.1.1.1.1.2⟩⟩)⟩, ⟨by (with_reducible repeat (first | apply Ra | apply Rn | apply Rd)); exact Kd.R_mono HO537.out (fun _ hk => ⟨hk.1.1.1.2, ⟨hk.1.2, hk.1.1.1.1.2⟩⟩)⟩, ⟨by (with_reducible repeat (first | apply Ra | apply Rn | apply Rd)); exact Kd.R_mono HO517.out (fun _ hk => ⟨hk.1.1.1.1.2, ⟨hk.1.1.2, hk.2⟩⟩)⟩, ⟨by (with_reducible repeat (first | refine Kn ?_ _ | refine Ke ?_ | refine Ka ?_ _)); exact BK518.out⟩, ⟨by repeat (first | (with_reducible first | exact HB.out | apply Ba | apply Bn | apply Bd | refine Bs ?_ GE518.out) | exact HB.out)⟩⟩
     ·
      rw [if_neg c28] at H
      have c28b0 : (t530 != t534) = false := by simpa using c28
      (try (have c28b1 : decide (t530 = t534) = true := by simpa using c28))
      (try (have c28b2 : (t530 == t534) = true := by simpa using c28))
      clear c28
      replace H := Option.bind_eq_some_iff.mp H
      obtain ⟨t540, A310, H⟩ := H
      replace H : (if t540 = true then (laws_FnStrongParts.j0 k t519 t522 t527 t530 t535 (t538 != t522) t514 t515) else (laws_FnStrongParts.j0 k t519 t522 t527 t530 t535 true t514 t515)) = some r := H
      have A31 := Am A310
      clear A310
      by_cases c32 : t540 = true
      ·
       subst c32
       have H1 : (laws_FnStrongParts.j0 k t519 t522 t527 t530 t535 (t538 != t522) t514 t515) = some r := by rw [if_pos rfl] at H; exact H
       clear H
       have H := H1
       clear H1
       have H' := Am H
       clear H
       obtain ⟨Ao33, co33, eo33⟩ := Kd.R_slice HO521.out
       subst eo33
       obtain ⟨Ao34, co34, eo34⟩ := Kd.R_slice HO525.out
       subst eo34
       go_wp2_with (first | (go_at_call 18; (with_reducible refine (laws_ySame.calls k _ _ t519 _ _ t523 true _ ?side1 ?side2 ?side3 ?side4 A26.out).mono ?_); (case side1 => repeat (first | exact (Kd.R_reads' HO521.out).2.2 | (with_reducible refine Ca ?_ _) | (with_reducible refine Cn ?_ _) | (with_reducible refine Cd ?_))); (case side2 => exact (Kd.R_reads' HO521.out).2.1); (case side3 => repeat (first | exact (Kd.R_reads' HO525.out).2.2 | (with_reducible refine Ca ?_ _) | (with_reducible refine Cn ?_ _) | (with_reducible refine Cd ?_))); (case side4 => exact (Kd.R_reads' HO525.out).2.1); rintro e w' ⟨rfl, ⟨nd, rfl⟩⟩; (try first | exact ⟨rfl, _, World.drewN_drewN _ _ _⟩ | exact ⟨rfl, _, Eq.trans (World.drewN_drewN _ _ _) (congrArg (World.drewN _) (Nat.add_assoc _ _ _))⟩); obtain ⟨Ao35, co35, eo35⟩ := Kd.R_slice HO529.out; subst eo35; obtain ⟨Ao36, co36, eo36⟩ := Kd.R_slice HO533.out; subst eo36) | (go_at_call 18; (with_reducible refine (laws_ySame.calls k _ _ t527 _ _ t531 true _ ?side1 ?side2 ?side3 ?side4 A31.out).mono ?_); (case side1 => repeat (first | exact (Kd.R_reads' HO529.out).2.2 | (with_reducible refine Ca ?_ _) | (with_reducible refine Cn ?_ _) | (with_reducible refine Cd ?_))); (case side2 => exact (Kd.R_reads' HO529.out).2.1); (case side3 => repeat (first | exact (Kd.R_reads' HO533.out).2.2 | (with_reducible refine Ca ?_ _) | (with_reducible refine Cn ?_ _) | (with_reducible refine Cd ?_))); (case side4 => exact (Kd.R_reads' HO533.out).2.1); rintro e w' ⟨rfl, ⟨nd, rfl⟩⟩; (try first | exact ⟨rfl, _, World.drewN_drewN _ _ _⟩ | exact ⟨rfl, _, Eq.trans (World.drewN_drewN _ _ _) (congrArg (World.drewN _) (Nat.add_assoc _ _ _))⟩)))
       repeat (go_quiet (first | (go_at_call 18; (with_reducible refine (laws_ySame.calls k _ _ t519 _ _ t523 true _ ?side1 ?side2 ?side3 ?side4 A26.out).mono ?_); (case side1 => repeat (first | exact (Kd.R_reads' HO521.out).2.2 | (with_reducible refine Ca ?_ _) | (with_reducible refine Cn ?_ _) | (with_reducible refine Cd ?_))); (case side2 => exact (Kd.R_reads' HO521.out).2.1); (case side3 => repeat (first | exact (Kd.R_reads' HO525.out).2.2 | (with_reducible refine Ca ?_ _) | (with_reducible refine Cn ?_ _) | (with_reducible refine Cd ?_))); (case side4 => exact (Kd.R_reads' HO525.out).2.1); rintro e w' ⟨rfl, ⟨nd, rfl⟩⟩; (try first | exact ⟨rfl, _, World.drewN_drewN _ _ _⟩ | exact ⟨rfl, _, Eq.trans (World.drewN_drewN _ _ _) (congrArg (World.drewN _) (Nat.add_assoc _ _ _))⟩); obtain ⟨Ao35, co35, eo35⟩ := Kd.R_slice HO529.out; subst eo35; obtain ⟨Ao36, co36, eo36⟩ := Kd.R_slice HO533.out; subst eo36) | (go_at_call 18; (with_reducible refine (laws_ySame.calls k _ _ t527 _ _ t531 true _ ?side1 ?side2 ?side3 ?side4 A31.out).mono ?_); (case side1 => repeat (first | exact (Kd.R_reads' HO529.out).2.2 | (with_reducible refine Ca ?_ _) | (with_reducible refine Cn ?_ _) | (with_reducible refine Cd ?_))); (case side2 => exact (Kd.R_reads' HO529.out).2.1); (case side3 => repeat (first | exact (Kd.R_reads' HO533.out).2.2 | (with_reducible refine Ca ?_ _) | (with_reducible refine Cn ?_ _) | (with_reducible refine Cd ?_))); (case side4 => exact (Kd.R_reads' HO533.out).2.1); rintro e w' ⟨rfl, ⟨nd, rfl⟩⟩; (try first | exact ⟨rfl, _, World.drewN_drewN _ _ _⟩ | exact ⟨rfl, _, Eq.trans (World.drewN_drewN _ _ _) (congrArg (World.drewN _) (Nat.add_assoc _ _ _))⟩))); try go_wp2_with (first | (go_at_call 18; (with_reducible refine (laws_ySame.calls k _ _ t519 _ _ t523 true _ ?side1 ?side2 ?side3 ?side4 A26.out).mono ?_); (case side1 => repeat (first | exact (Kd.R_reads' HO521.out).2.2 | (with_reducible refine Ca ?_ _) | (with_reducible refine Cn ?_ _) | (with_reducible refine Cd ?_))); (case side2 => exact (Kd.R_reads' HO521.out).2.1); (case side3 => repeat (first | exact (Kd.R_reads' HO525.out).2.2 | (with_reducible refine Ca ?_ _) | (with_reducible refine Cn ?_ _) | (with_reducible refine Cd ?_))); (case side4 => exact (Kd.R_reads' HO525.out).2.1); rintro e w' ⟨rfl, ⟨nd, rfl⟩⟩; (try first | exact ⟨rfl, _, World.drewN_drewN _ _ _⟩ | exact ⟨rfl, _, Eq.trans (World.drewN_drewN _ _ _) (congrArg (World.drewN _) (Nat.add_assoc _ _ _))⟩); obtain ⟨Ao35, co35, eo35⟩ := Kd.R_slice HO529.out; subst eo35; obtain ⟨Ao36, co36, eo36⟩ := Kd.R_slice HO533.out; subst eo36) | (go_at_call 18; (with_reducible refine (laws_ySame.calls k _ _ t527 _ _ t531 true _ ?side1 ?side2 ?side3 ?side4 A31.out).mono ?_); (case side1 => repeat (first | exact (Kd.R_reads' HO529.out).2.2 | (with_reducible refine Ca ?_ _) | (with_reducible refine Cn ?_ _) | (with_reducible refine Cd ?_))); (case side2 => exact (Kd.R_reads' HO529.out).2.1); (case side3 => repeat (first | exact (Kd.R_reads' HO533.out).2.2 | (with_reducible refine Ca ?_ _) | (with_reducible refine Cn ?_ _) | (with_reducible refine Cd ?_))); (case side4 => exact (Kd.R_reads' HO533.out).2.1); rintro e w' ⟨rfl, ⟨nd, rfl⟩⟩; (try first | exact ⟨rfl, _, World.drewN_drewN _ _ _⟩ | exact ⟨rfl, _, Eq.trans (World.drewN_drewN _ _ _) (congrArg (World.drewN _) (Nat.add_assoc _ _ _))⟩))))
       go_meet
       case rel => exact ⟨_, ((t538 != t522)), (by first | rfl | (simp; done) | (simp [*]; done)), H', ⟨by first | omega | exact Nat.le_refl _⟩, ⟨by (with_reducible repeat (first | apply Ra | apply Rn | apply Rd)); exact Kd.R_mono HO521.out (fun _ hk => ⟨hk.1.1.2, ⟨hk.2, hk.1.1.1.1.2⟩⟩)⟩, ⟨by (with_reducible repeat (first | apply Ra | apply Rn | apply Rd)); exact Kd.R_mono HO529.out (fun _ hk => ⟨hk.1.1.1.2, ⟨hk.2, hk.1.1.1.1.2⟩⟩)⟩, ⟨by (with_reducible repeat (first | apply Ra | apply Rn | apply Rd)); exact Kd.R_mono HO537.out (fun _ hk => ⟨hk.1.1.1.2, ⟨hk.1.2, hk.1.1.1.1.2⟩⟩)⟩, ⟨by (with_reducible repeat (first | apply Ra | apply Rn | apply Rd)); exact Kd.R_mono HO517.out (fun _ hk => ⟨hk.1.1.1.1.2, ⟨hk.1.1.2, hk.2⟩⟩)⟩, ⟨by (with_reducible repeat (first | refine Kn ?_ _ | refine Ke ?_ | refine Ka ?_ _)); exact BK518.out⟩, ⟨by repeat (first | (with_reducible first | exact HB.out | apply Ba | apply Bn | apply Bd | refine Bs ?_ GE518.out) | exact HB.out)⟩⟩
      ·
       replace c32 := Bool.eq_false_iff.mpr c32
       subst c32
       have H1 : (laws_FnStrongParts.j0 k t519 t522 t527 t530 t535 true t514 t515) = some r := by rw [if_neg (show ¬ (false = true) by decide)] at H; exact H
       clear H
       have H := H1
       clear H1
       have H' := Am H
       clear H
       obtain ⟨Ao37, co37, eo37⟩ := Kd.R_slice HO521.out
       subst eo37
       obtain ⟨Ao38, co38, eo38⟩ := Kd.R_slice HO525.out
       subst eo38
       go_wp2_with (first | (go_at_call 18; (with_reducible refine (laws_ySame.calls k _ _ t519 _ _ t523 true _ ?side1 ?side2 ?side3 ?side4 A26.out).mono ?_); (case side1 => repeat (first | exact (Kd.R_reads' HO521.out).2.2 | (with_reducible refine Ca ?_ _) | (with_reducible refine Cn ?_ _) | (with_reducible refine Cd ?_))); (case side2 => exact (Kd.R_reads' HO521.out).2.1); (case side3 => repeat (first | exact (Kd.R_reads' HO525.out).2.2 | (with_reducible refine Ca ?_ _) | (with_reducible refine Cn ?_ _) | (with_reducible refine Cd ?_))); (case side4 => exact (Kd.R_reads' HO525.out).2.1); rintro e w' ⟨rfl, ⟨nd, rfl⟩⟩; (try first | exact ⟨rfl, _, World.drewN_drewN _ _ _⟩ | exact ⟨rfl, _, Eq.trans (World.drewN_drewN _ _ _) (congrArg (World.drewN _) (Nat.add_assoc _ _ _))⟩); obtain ⟨Ao39, co39, eo39⟩ := Kd.R_slice HO529.out; subst eo39; obtain ⟨Ao40, co40, eo40⟩ := Kd.R_slice HO533.out; subst eo40) | (go_at_call 18; (with_reducible refine (laws_ySame.calls k _ _ t527 _ _ t531 false _ ?side1 ?side2 ?side3 ?side4 A31.out).mono ?_); (case side1 => repeat (first | exact (Kd.R_reads' HO529.out).2.2 | (with_reducible refine Ca ?_ _) | (with_reducible refine Cn ?_ _) | (with_reducible refine Cd ?_))); (case side2 => exact (Kd.R_reads' HO529.out).2.1); (case side3 => repeat (first | exact (Kd.R_reads' HO533.out).2.2 | (with_reducible refine Ca ?_ _) | (with_reducible refine Cn ?_ _) | (with_reducible refine Cd ?_))); (case side4 => exact (Kd.R_reads' HO533.out).2.1); rintro e w' ⟨rfl, ⟨nd, rfl⟩⟩; (try first | exact ⟨rfl, _, World.drewN_drewN _ _ _⟩ | exact ⟨rfl, _, Eq.trans (World.drewN_drewN _ _ _) (congrArg (World.drewN _) (Nat.add_assoc _ _ _))⟩)))
       repeat (go_quiet (first | (go_at_call 18; (with_reducible refine (laws_ySame.calls k _ _ t519 _ _ t523 true _ ?side1 ?side2 ?side3 ?side4 A26.out).mono ?_); (case side1 => repeat (first | exact (Kd.R_reads' HO521.out).2.2 | (with_reducible refine Ca ?_ _) | (with_reducible refine Cn ?_ _) | (with_reducible refine Cd ?_))); (case side2 => exact (Kd.R_reads' HO521.out).2.1); (case side3 => repeat (first | exact (Kd.R_reads' HO525.out).2.2 | (with_reducible refine Ca ?_ _) | (with_reducible refine Cn ?_ _) | (with_reducible refine Cd ?_))); (case side4 => exact (Kd.R_reads' HO525.out).2.1); rintro e w' ⟨rfl, ⟨nd, rfl⟩⟩; (try first | exact ⟨rfl, _, World.drewN_drewN _ _ _⟩ | exact ⟨rfl, _, Eq.trans (World.drewN_drewN _ _ _) (congrArg (World.drewN _) (Nat.add_assoc _ _ _))⟩); obtain ⟨Ao39, co39, eo39⟩ := Kd.R_slice HO529.out; subst eo39; obtain ⟨Ao40, co40, eo40⟩ := Kd.R_slice HO533.out; subst eo40) | (go_at_call 18; (with_reducible refine (laws_ySame.calls k _ _ t527 _ _ t531 false _ ?side1 ?side2 ?side3 ?side4 A31.out).mono ?_); (case side1 => repeat (first | exact (Kd.R_reads' HO529.out).2.2 | (with_reducible refine Ca ?_ _) | (with_reducible refine Cn ?_ _) | (with_reducible refine Cd ?_))); (case side2 => exact (Kd.R_reads' HO529.out).2.1); (case side3 => repeat (first | exact (Kd.R_reads' HO533.out).2.2 | (with_reducible refine Ca ?_ _) | (with_reducible refine Cn ?_ _) | (with_reducible refine Cd ?_))); (case side4 => exact (Kd.R_reads' HO533.out).2.1); rintro e w' ⟨rfl, ⟨nd, rfl⟩⟩; (try first | exact ⟨rfl, _, World.drewN_drewN _ _ _⟩ | exact ⟨rfl, _, Eq.trans (World.drewN_drewN _ _ _) (congrArg (World.drewN _) (Nat.add_assoc _ _ _))⟩))); try go_wp2_with (first | (go_at_call 18; (with_reducible refine (laws_ySame.calls k _ _ t519 _ _ t523 true _ ?side1 ?side2 ?side3 ?side4 A26.out).mono ?_); (case side1 => repeat (first | exact (Kd.R_reads' HO521.out).2.2 | (with_reducible refine Ca ?_ _) | (with_reducible refine Cn ?_ _) | (with_reducible refine Cd ?_))); (case side2 => exact (Kd.R_reads' HO521.out).2.1); (case side3 => repeat (first | exact (Kd.R_reads' HO525.out).2.2 | (with_reducible refine Ca ?_ _) | (with_reducible refine Cn ?_ _) | (with_reducible refine Cd ?_))); (case side4 => exact (Kd.R_reads' HO525.out).2.1); rintro e w' ⟨rfl, ⟨nd, rfl⟩⟩; (try first | exact ⟨rfl, _, World.drewN_drewN _ _ _⟩ | exact ⟨rfl, _, Eq.trans (World.drewN_drewN _ _ _) (congrArg (World.drewN _) (Nat.add_assoc _ _ _))⟩); obtain ⟨Ao39, co39, eo39⟩ := Kd.R_slice HO529.out; subst eo39; obtain ⟨Ao40, co40, eo40⟩ := Kd.R_slice HO533.out; subst eo40) | (go_at_call 18; (with_reducible refine (laws_ySame.calls k _ _ t527 _ _ t531 false _ ?side1 ?side2 ?side3 ?side4 A31.out).mono ?_); (case side1 => repeat (first | exact (Kd.R_reads' HO529.out).2.2 | (with_reducible refine Ca ?_ _) | (with_reducible refine Cn ?_ _) | (with_reducible refine Cd ?_))); (case side2 => exact (Kd.R_reads' HO529.out).2.1); (case side3 => repeat (first | exact (Kd.R_reads' HO533.out).2.2 | (with_reducible refine Ca ?_ _) | (with_reducible refine Cn ?_ _) | (with_reducible refine Cd ?_))); (case side4 => exact (Kd.R_reads' HO533.out).2.1); rintro e w' ⟨rfl, ⟨nd, rfl⟩⟩; (try first | exact ⟨rfl, _, World.drewN_drewN _ _ _⟩ | exact ⟨rfl, _, Eq.trans (World.drewN_drewN _ _ _) (congrArg (World.drewN _) (Nat.add_assoc _ _ _))⟩))))
       go_meet
       case rel => exact ⟨_, (true), (by first | rfl | (simp; done) | (simp [*]; done)), H', ⟨by first | omega | exact Nat.le_refl _⟩, ⟨by (with_reducible repeat (first | apply Ra | apply Rn | apply Rd)); exact Kd.R_mono HO521.out (fun _ hk => ⟨hk.1.1.2, ⟨hk.2, hk.1.1.1.1.2⟩⟩)⟩, ⟨by (with_reducible repeat (first | apply Ra | apply Rn | apply Rd)); exact Kd.R_mono HO529.out (fun _ hk => ⟨hk.1.1.1.2, ⟨hk.2, hk.1.1.1.1.2⟩⟩)⟩, ⟨by (with_reducible repeat (first | apply Ra | apply Rn | apply Rd)); exact Kd.R_mono HO537.out (fun _ hk => ⟨hk.1.1.1.2, ⟨hk.1.2, hk.1.1.1.1.2⟩⟩)⟩, ⟨by (with_reducible repeat (first | apply Ra | apply Rn | apply Rd)); exact Kd.R_mono HO517.out (fun _ hk => ⟨hk.1.1.1.1.2, ⟨hk.1.1.2, hk.2⟩⟩)⟩, ⟨by (with_reducible repeat (first | refine Kn ?_ _ | refine Ke ?_ | refine Ka ?_ _)); exact BK518.out⟩, ⟨by repeat (first | (with_reducible first | exact HB.out | apply Ba | apply Bn | apply Bd | refine Bs ?_ GE518.out) | exact HB.out)⟩⟩
    ·
     replace c27 := Bool.eq_false_iff.mpr c27
     subst c27
     have H1 : (laws_FnStrongParts.j0 k t519 t522 t527 t530 t535 true t514 t515) = some r := by rw [if_neg (show ¬ (false = true) by decide)] at H; exact H
     clear H
     have H := H1
     clear H1
     have H' := Am H
     clear H
     obtain ⟨Ao41, co41, eo41⟩ := Kd.R_slice HO521.out
     subst eo41
     obtain ⟨Ao42, co42, eo42⟩ := Kd.R_slice HO525.out
     subst eo42
     go_wp2_with (first | (go_at_call 18; (with_reducible refine (laws_ySame.calls k _ _ t519 _ _ t523 false _ ?side1 ?side2 ?side3 ?side4 A26.out).mono ?_); (case side1 => repeat (first | exact (Kd.R_reads' HO521.out).2.2 | (with_reducible refine Ca ?_ _) | (with_reducible refine Cn ?_ _) | (with_reducible refine Cd ?_))); (case side2 => exact (Kd.R_reads' HO521.out).2.1); (case side3 => repeat (first | exact (Kd.R_reads' HO525.out).2.2 | (with_reducible refine Ca ?_ _) | (with_reducible refine Cn ?_ _) | (with_reducible refine Cd ?_))); (case side4 => exact (Kd.R_reads' HO525.out).2.1); rintro e w' ⟨rfl, ⟨nd, rfl⟩⟩; (try first | exact ⟨rfl, _, World.drewN_drewN _ _ _⟩ | exact ⟨rfl, _, Eq.trans (World.drewN_drewN _ _ _) (congrArg (World.drewN _) (Nat.add_assoc _ _ _))⟩)))
     repeat (go_quiet (first | (go_at_call 18; (with_reducible refine (laws_ySame.calls k _ _ t519 _ _ t523 false _ ?side1 ?side2 ?side3 ?side4 A26.out).mono ?_); (case side1 => repeat (first | exact (Kd.R_reads' HO521.out).2.2 | (with_reducible refine Ca ?_ _) | (with_reducible refine Cn ?_ _) | (with_reducible refine Cd ?_))); (case side2 => exact (Kd.R_reads' HO521.out).2.1); (case side3 => repeat (first | exact (Kd.R_reads' HO525.out).2.2 | (with_reducible refine Ca ?_ _) | (with_reducible refine Cn ?_ _) | (with_reducible refine Cd ?_))); (case side4 => exact (Kd.R_reads' HO525.out).2.1); rintro e w' ⟨rfl, ⟨nd, rfl⟩⟩; (try first | exact ⟨rfl, _, World.drewN_drewN _ _ _⟩ | exact ⟨rfl, _, Eq.trans (World.drewN_drewN _ _ _) (congrArg (World.drewN _) (Nat.add_assoc _ _ _))⟩))); try go_wp2_with (first | (go_at_call 18; (with_reducible refine (laws_ySame.calls k _ _ t519 _ _ t523 false _ ?side1 ?side2 ?side3 ?side4 A26.out).mono ?_); (case side1 => repeat (first | exact (Kd.R_reads' HO521.out).2.2 | (with_reducible refine Ca ?_ _) | (with_reducible refine Cn ?_ _) | (with_reducible refine Cd ?_))); (case side2 => exact (Kd.R_reads' HO521.out).2.1); (case side3 => repeat (first | exact (Kd.R_reads' HO525.out).2.2 | (with_reducible refine Ca ?_ _) | (with_reducible refine Cn ?_ _) | (with_reducible refine Cd ?_))); (case side4 => exact (Kd.R_reads' HO525.out).2.1); rintro e w' ⟨rfl, ⟨nd, rfl⟩⟩; (try first | exact ⟨rfl, _, World.drewN_drewN _ _ _⟩ | exact ⟨rfl, _, Eq.trans (World.drewN_drewN _ _ _) (congrArg (World.drewN _) (Nat.add_assoc _ _ _))⟩))))
     go_meet
     case rel => exact ⟨_, (true), (by first | rfl | (simp; done) | (simp [*]; done)), H', ⟨by first | omega | exact Nat.le_refl _⟩, ⟨by (with_reducible repeat (first | apply Ra | apply Rn | apply Rd)); exact Kd.R_mono HO521.out (fun _ hk => ⟨hk.1.1.2, ⟨hk.2, hk.1.1.1.1.2⟩⟩)⟩, ⟨by (with_reducible repeat (first | apply Ra | apply Rn | apply Rd)); exact Kd.R_mono HO529.out (fun _ hk => ⟨hk.1.1.1.2, ⟨hk.2, hk.1.1.1.1.2⟩⟩)⟩, ⟨by (with_reducible repeat (first | apply Ra | apply Rn | apply Rd)); exact Kd.R_mono HO537.out (fun _ hk => ⟨hk.1.1.1.2, ⟨hk.1.2, hk.1.1.1.1.2⟩⟩)⟩, ⟨by (with_reducible repeat (first | apply Ra | apply Rn | apply Rd)); exact Kd.R_mono HO517.out (fun _ hk => ⟨hk.1.1.1.1.2, ⟨hk.1.1.2, hk.2⟩⟩)⟩, ⟨by (with_reducible repeat (first | refine Kn ?_ _ | refine Ke ?_ | refine Ka ?_ _)); exact BK518.out⟩, ⟨by repeat (first | (with_reducible first | exact HB.out | apply Ba | apply Bn | apply Bd | refine Bs ?_ GE518.out) | exact HB.out)⟩⟩
  case rest =>
   clear HC11
   (try clear c1); (try clear c2); (try clear p2); (try clear c3); (try clear c4); (try clear c25); (try clear c25b0); (try clear c25b1); (try clear c25b2); (try clear c27); (try clear c28); (try clear c28b0); (try clear c28b1); (try clear c28b2); (try clear c32); (try clear hcz14_0); (try clear hcz14_1); (try clear hcz17_0); (try clear hcz17_1); (try clear hcz19_0); (try clear hcz19_1); (try clear hcz21_0); (try clear hcz21_1); (try clear hcz23_0); (try clear hcz23_1); (try clear hfz14_0); (try clear hfz14_1); (try clear hfz17_0); (try clear hfz17_1); (try clear hfz19_0); (try clear hfz19_1); (try clear hfz21_0); (try clear hfz21_1); (try clear hfz23_0); (try clear hfz23_1)
   obtain ⟨kq, x82_10, rfl, HA, HJ10, HO_6, HO_10, HO_14, HO_519001, BK518, HB⟩ := hcut
   cases kq with
   | zero => exact absurd HA.out (by simp [laws_FnStrongParts.j0])
   | succ kj10 =>
    have H := HA.out
    clear HA
    simp only [laws_FnStrongParts.j0] at H
    by_cases c43 : x82_10 = true
    ·
     subst c43
     have H1 : (some false) = some r := by rw [if_pos rfl] at H; exact H
     clear H
     have H := H1
     clear H1
     obtain rfl := Option.some.inj H
     go_wp2
     repeat (go_quiet (fail); try go_wp2)
     go_ret
     exact ⟨by first | rfl | (simp [errW_none, errW_some] <;> rfl) | (simp [*, errW_none, errW_some] <;> rfl), by repeat (first | (with_reducible first | exact HB.out | apply Ba | apply Bn | apply Bd | refine Bs ?_ GE518.out) | exact HB.out)⟩
    ·
     replace c43 := Bool.eq_false_iff.mpr c43
     subst c43
     have H1 : (if t522 = true then (laws_FnStrongParts.l0 kj10 t519 t527 t530 t535 0 t519 (t519.length : Int) 0 t514 t515) else (some true)) = some r := by rw [if_neg (show ¬ (false = true) by decide)] at H; exact H
     clear H
     have H := H1
     clear H1
     by_cases c44 : t522 = true
     ·
      subst c44
      have H1 : (laws_FnStrongParts.l0 kj10 t519 t527 t530 t535 0 t519 (t519.length : Int) 0 t514 t515) = some r := by rw [if_pos rfl] at H; exact H
      clear H
      have H := H1
      clear H1
      have H' := Am H
      clear H
      obtain ⟨Ao45, co45, eo45⟩ := Kd.R_slice HO_6.out
      subst eo45
      go_wp2
      repeat (go_quiet (fail); try go_wp2)
      go_loopg [16, 87] kj10 (fun kq v16 v87 w' => ∃ (x16_2 : Int) (x87_2 : Int), v16 = .int .i64 x16_2 ∧ v87 = .int .i64 x87_2 ∧ Aside0 (laws_FnStrongParts.l0 kq t519 t527 t530 t535 x16_2 t519 (t519.length : Int) x87_2 t514 t515 = some r) ∧ Aside0 (kq ≤ kj10) ∧ Aside0 (Kd.R (Kd.int .i64) 3 w' w.heap.size (fun k_ => some k_ ≠ (v528 : Value).ownBlock ∧ some k_ ≠ (v536 : Value).ownBlock ∧ some k_ ≠ ((.slice Ao15 t515.length co15) : Value).ownBlock) (.slice Ao45 t519.length co45) t519) ∧ Aside0 (Kd.R (Kd.int .i64) 3 w' w.heap.size (fun k_ => some k_ ≠ ((.slice Ao45 t519.length co45) : Value).ownBlock ∧ some k_ ≠ (v536 : Value).ownBlock ∧ some k_ ≠ ((.slice Ao45 t519.length co45) : Value).ownBlock ∧ some k_ ≠ ((.slice Ao15 t515.length co15) : Value).ownBlock) v528 t527) ∧ Aside0 (Kd.R (Kd.int .i64) 3 w' w.heap.size (fun k_ => some k_ ≠ ((.slice Ao45 t519.length co45) : Value).ownBlock ∧ some k_ ≠ (v528 : Value).ownBlock ∧ some k_ ≠ ((.slice Ao45 t519.length co45) : Value).ownBlock ∧ some k_ ≠ ((.slice Ao15 t515.length co15) : Value).ownBlock) v536 t535) ∧ Aside0 (Kd.R (Kd.int .i64) 3 w' w.heap.size (fun k_ => some k_ ≠ (v528 : Value).ownBlock ∧ some k_ ≠ (v536 : Value).ownBlock ∧ some k_ ≠ ((.slice Ao15 t515.length co15) : Value).ownBlock) (.slice Ao45 t519.length co45) t519) ∧ Aside0 (Kd.R (Kd.int .i64) 3 w' w.heap.size (fun k_ => some k_ ≠ ((.slice Ao45 t519.length co45) : Value).ownBlock ∧ some k_ ≠ (v528 : Value).ownBlock ∧ some k_ ≠ (v536 : Value).ownBlock ∧ some k_ ≠ ((.slice Ao45 t519.length co45) : Value).ownBlock) (.slice Ao15 t515.length co15) t515) ∧ Aside0 (w'.heap[gb518]? = some (.cells #[.int .i64 t514, (.slice Ao15 t515.length co15)] 27 (0, 0))) ∧ Aside0 (Below w.heap.size w w'))
      case atStart => exact ⟨(0), (0), (by first | rfl | (simp; done) | (simp [*]; done)), (by first | rfl | (simp; done) | (simp [*]; done)), H', ⟨Nat.le_refl _⟩, ⟨by (with_reducible repeat (first | apply Ra | apply Rn | apply Rd)); exact HO_6.out⟩, ⟨by (with_reducible repeat (first | apply Ra | apply Rn | apply Rd)); exact Kd.R_mono HO_10.out (fun _ hk => ⟨hk.1, ⟨hk.2.1, ⟨hk.1, hk.2.2⟩⟩⟩)⟩, ⟨by (with_reducible repeat (first | apply Ra | apply Rn | apply Rd)); exact Kd.R_mono HO_14.out (fun _ hk => ⟨hk.1, ⟨hk.2.1, ⟨hk.1, hk.2.2⟩⟩⟩)⟩, ⟨by (with_reducible repeat (first | apply Ra | apply Rn | apply Rd)); exact HO_6.out⟩, ⟨by (with_reducible repeat (first | apply Ra | apply Rn | apply Rd)); exact Kd.R_mono HO_519001.out (fun _ hk => ⟨hk.1, ⟨hk.2.1, ⟨hk.2.2, hk.1⟩⟩⟩)⟩, ⟨by (with_reducible repeat (first | refine Kn ?_ _ | refine Ke ?_ | refine Ka ?_ _)); exact BK518.out⟩, ⟨by repeat (first | (with_reducible first | exact HB.out | apply Ba | apply Bn | apply Bd | refine Bs ?_ GE518.out) | exact HB.out)⟩⟩
      case round =>
       as_aux_lemma =>
        clear H'
        (try clear c1); (try clear c2); (try clear p2); (try clear c3); (try clear c4); (try clear c25); (try clear c25b0); (try clear c25b1); (try clear c25b2); (try clear c27); (try clear c28); (try clear c28b0); (try clear c28b1); (try clear c28b2); (try clear c32); (try clear c43); (try clear c44); (try clear hcz14_0); (try clear hcz14_1); (try clear hcz17_0); (try clear hcz17_1); (try clear hcz19_0); (try clear hcz19_1); (try clear hcz21_0); (try clear hcz21_1); (try clear hcz23_0); (try clear hcz23_1); (try clear hfz14_0); (try clear hfz14_1); (try clear hfz17_0); (try clear hfz17_1); (try clear hfz19_0); (try clear hfz19_1); (try clear hfz21_0); (try clear hfz21_1); (try clear hfz23_0); (try clear hfz23_1); (try clear p2)
        obtain ⟨x16_2, x87_2, rfl, rfl, HA, HK2, HO_6, HO_10, HO_14, HO_85, HO_519001, BK518, HB⟩ := hrel
        cases gk with
        | zero => exact absurd HA.out (by simp [laws_FnStrongParts.l0])
        | succ k2 =>
         have H := HA.out
         clear HA
         simp only [laws_FnStrongParts.l0] at H
         by_cases c46 : x87_2 < (t519.length : Int)
         ·
          rw [if_pos c46] at H
          have c46b0 : decide (x87_2 < (t519.length : Int)) = true := De c46
          clear c46
          by_cases c47 : 0 ≤ x87_2
          ·
           rw [if_pos c47] at H
           have c47b0 : decide (0 ≤ x87_2) = true := De c47
           clear c47
           by_cases c48 : x87_2 < (t519.length : Int)
           ·
            rw [if_pos c48] at H
            have c48b0 : decide (x87_2 < (t519.length : Int)) = true := De c48
            clear c48
            have HC49 := Am H
            clear H
            have p541 : 0 ≤ (x87_2 : Int) := Oe (by first | (with_reducible assumption) | assumption)
            have q541 : x87_2 < (t519.length : Int) := Oe (by first | (with_reducible assumption) | assumption)
            obtain ⟨ad541, e541, hx541_0⟩ := Kd.at_int (Kd.R_reads' HO_85.out).2.2 x87_2 p541 q541
            cases e541
            replace p541 := eq_true p541
            replace q541 := eq_true q541
            go_upto_if 94 with (fail)
            repeat (go_quiet (fail); go_upto_if 94 with (fail))
            go_cut [16] (fun v16 wc => ∃ (kq : Nat) (x16_48 : Int), v16 = .int .i64 x16_48 ∧ Aside0 (laws_FnStrongParts.j2 kq t519 t527 t530 t535 x16_48 x87_2 (rd t519 x87_2) t519 (t519.length : Int) x87_2 t514 t515 = some r) ∧ Aside0 (kq ≤ k2) ∧ Aside0 (Kd.R (Kd.int .i64) 3 wc w.heap.size (fun k_ => some k_ ≠ (v528 : Value).ownBlock ∧ some k_ ≠ (v536 : Value).ownBlock ∧ some k_ ≠ ((.slice Ao15 t515.length co15) : Value).ownBlock) (.slice (some ad541) t519.length co45) t519) ∧ Aside0 (Kd.R (Kd.int .i64) 3 wc w.heap.size (fun k_ => some k_ ≠ ((.slice (some ad541) t519.length co45) : Value).ownBlock ∧ some k_ ≠ (v536 : Value).ownBlock ∧ some k_ ≠ ((.slice (some ad541) t519.length co45) : Value).ownBlock ∧ some k_ ≠ ((.slice Ao15 t515.length co15) : Value).ownBlock) v528 t527) ∧ Aside0 (Kd.R (Kd.int .i64) 3 wc w.heap.size (fun k_ => some k_ ≠ ((.slice (some ad541) t519.length co45) : Value).ownBlock ∧ some k_ ≠ (v528 : Value).ownBlock ∧ some k_ ≠ ((.slice (some ad541) t519.length co45) : Value).ownBlock ∧ some k_ ≠ ((.slice Ao15 t515.length co15) : Value).ownBlock) v536 t535) ∧ Aside0 (Kd.R (Kd.int .i64) 3 wc w.heap.size (fun k_ => some k_ ≠ (v528 : Value).ownBlock ∧ some k_ ≠ (v536 : Value).ownBlock ∧ some k_ ≠ ((.slice Ao15 t515.length co15) : Value).ownBlock) (.slice (some ad541) t519.length co45) t519) ∧ Aside0 (Kd.R (Kd.int .i64) 3 wc w.heap.size (fun k_ => some k_ ≠ ((.slice (some ad541) t519.length co45) : Value).ownBlock ∧ some k_ ≠ (v528 : Value).ownBlock ∧ some k_ ≠ (v536 : Value).ownBlock ∧ some k_ ≠ ((.slice (some ad541) t519.length co45) : Value).ownBlock) (.slice Ao15 t515.length co15) t515) ∧ Aside0 (wc.heap[gb518]? = some (.cells #[.int .i64 t514, (.slice Ao15 t515.length co15)] 27 (0, 0))) ∧ Aside0 (Below w.heap.size w wc))
            case first =>
             have H := HC49.out
             clear HC49
             by_cases c50 : (rd t519 x87_2) > x16_2
             ·
              rw [if_pos c50] at H
              have c50b0 : decide (x16_2 < (rd t519 x87_2)) = true := De c50
              clear c50
              (first | rw [c50b0] | (simp only [i64_w, i32_w]; rw [c50b0]) | skip)
              have H' := Am H
              clear H
              go_wp2
              repeat (go_quiet (fail); try go_wp2)
              go_meet
              case rel => exact ⟨_, (rd t519 x87_2), (by first | rfl | (simp; done) | (simp [*]; done)), H', ⟨by have := HJ10.out; have := HK2.out; first | omega | exact Nat.le_refl _⟩, ⟨by (with_reducible repeat (first | apply Ra | apply Rn | apply Rd)); exact HO_6.out⟩, ⟨by (with_reducible repeat (first | apply Ra | apply Rn | apply Rd)); exact HO_10.out⟩, ⟨by (with_reducible repeat (first | apply Ra | apply Rn | apply Rd)); exact HO_14.out⟩, ⟨by (with_reducible repeat (first | apply Ra | apply Rn | apply Rd)); exact HO_85.out⟩, ⟨by (with_reducible repeat (first | apply Ra | apply Rn | apply Rd)); exact HO_519001.out⟩, ⟨by (with_reducible repeat (first | refine Kn ?_ _ | refine Ke ?_ | refine Ka ?_ _)); exact BK518.out⟩, ⟨by repeat (first | (with_reducible first | exact HB.out | apply Ba | apply Bn | apply Bd | refine Bs ?_ GE518.out) | exact HB.out)⟩⟩
             ·
              rw [if_neg c50] at H
              have c50b0 : decide (x16_2 < (rd t519 x87_2)) = false := Df c50
              clear c50
              (first | rw [c50b0] | (simp only [i64_w, i32_w]; rw [c50b0]) | skip)
              have H' := Am H
              clear H
              go_wp2
              repeat (go_quiet (fail); try go_wp2)
              go_meet
              case rel => exact ⟨_, (x16_2), (by first | rfl | (simp; done) | (simp [*]; done)), H', ⟨by have := HJ10.out; have := HK2.out; first | omega | exact Nat.le_refl _⟩, ⟨by (with_reducible repeat (first | apply Ra | apply Rn | apply Rd)); exact HO_6.out⟩, ⟨by (with_reducible repeat (first | apply Ra | apply Rn | apply Rd)); exact HO_10.out⟩, ⟨by (with_reducible repeat (first | apply Ra | apply Rn | apply Rd)); exact HO_14.out⟩, ⟨by (with_reducible repeat (first | apply Ra | apply Rn | apply Rd)); exact HO_85.out⟩, ⟨by (with_reducible repeat (first | apply Ra | apply Rn | apply Rd)); exact HO_519001.out⟩, ⟨by (with_reducible repeat (first | refine Kn ?_ _ | refine Ke ?_ | refine Ka ?_ _)); exact BK518.out⟩, ⟨by repeat (first | (with_reducible first | exact HB.out | apply Ba | apply Bn | apply Bd | refine Bs ?_ GE518.out) | exact HB.out)⟩⟩
            case rest =>
             clear HC49
             (try clear c1); (try clear c2); (try clear p2); (try clear c3); (try clear c4); (try clear c5); (try clear p5); (try clear q5); (try clear hx5); (try clear c25); (try clear c25b0); (try clear c25b1); (try clear c25b2); (try clear c27); (try clear c28); (try clear c28b0); (try clear c28b1); (try clear c28b2); (try clear c32); (try clear c43); (try clear c44); (try clear c46); (try clear c46b0); (try clear c47); (try clear c47b0); (try clear c48); (try clear c48b0); (try clear c50); (try clear c50b0); (try clear hcz14_0); (try clear hcz14_1); (try clear hcz17_0); (try clear hcz17_1); (try clear hcz19_0); (try clear hcz19_1); (try clear hcz21_0); (try clear hcz21_1); (try clear hcz23_0); (try clear hcz23_1); (try clear hfz14_0); (try clear hfz14_1); (try clear hfz17_0); (try clear hfz17_1); (try clear hfz19_0); (try clear hfz19_1); (try clear hfz21_0); (try clear hfz21_1); (try clear hfz23_0); (try clear hfz23_1); (try clear hx541_0); (try clear p2); (try clear p541); (try clear q541)
             obtain ⟨kq, x16_48, rfl, HA, HJ48, HO_6, HO_10, HO_14, HO_85, HO_519001, BK518, HB⟩ := hcut
             cases kq with
             | zero => exact absurd HA.out (by simp [laws_FnStrongParts.j2])
             | succ kj48 =>
              have H := HA.out
              clear HA
              simp only [laws_FnStrongParts.j2] at H
              have H' := Am H
              clear H
              go_wp2
              repeat (go_quiet (fail); try go_wp2)
              go_loopg [98] kj48 (fun kq v98 w' => ∃ (x98_4 : Int), v98 = .int .i64 x98_4 ∧ Aside0 (laws_FnStrongParts.l1 kq t519 t527 t530 t535 x16_48 x87_2 (rd t519 x87_2) t519 (t519.length : Int) x87_2 t519 (t519.length : Int) x98_4 t514 t515 = some r) ∧ Aside0 (kq ≤ kj48) ∧ Aside0 (Kd.R (Kd.int .i64) 3 w' w.heap.size (fun k_ => some k_ ≠ (v528 : Value).ownBlock ∧ some k_ ≠ (v536 : Value).ownBlock ∧ some k_ ≠ ((.slice Ao15 t515.length co15) : Value).ownBlock) (.slice (some ad541) t519.length co45) t519) ∧ Aside0 (Kd.R (Kd.int .i64) 3 w' w.heap.size (fun k_ => some k_ ≠ ((.slice (some ad541) t519.length co45) : Value).ownBlock ∧ some k_ ≠ (v536 : Value).ownBlock ∧ some k_ ≠ ((.slice (some ad541) t519.length co45) : Value).ownBlock ∧ some k_ ≠ ((.slice (some ad541) t519.length co45) : Value).ownBlock ∧ some k_ ≠ ((.slice Ao15 t515.length co15) : Value).ownBlock) v528 t527) ∧ Aside0 (Kd.R (Kd.int .i64) 3 w' w.heap.size (fun k_ => some k_ ≠ ((.slice (some ad541) t519.length co45) : Value).ownBlock ∧ some k_ ≠ (v528 : Value).ownBlock ∧ some k_ ≠ ((.slice (some ad541) t519.length co45) : Value).ownBlock ∧ some k_ ≠ ((.slice (some ad541) t519.length co45) : Value).ownBlock ∧ some k_ ≠ ((.slice Ao15 t515.length co15) : Value).ownBlock) v536 t535) ∧ Aside0 (Kd.R (Kd.int .i64) 3 w' w.heap.size (fun k_ => some k_ ≠ (v528 : Value).ownBlock ∧ some k_ ≠ (v536 : Value).ownBlock ∧ some k_ ≠ ((.slice Ao15 t515.length co15) : Value).ownBlock) (.slice (some ad541) t519.length co45) t519) ∧ Aside0 (Kd.R (Kd.int .i64) 3 w' w.heap.size (fun k_ => some k_ ≠ (v528 : Value).ownBlock ∧ some k_ ≠ (v536 : Value).ownBlock ∧ some k_ ≠ ((.slice Ao15 t515.length co15) : Value).ownBlock) (.slice (some ad541) t519.length co45) t519) ∧ Aside0 (Kd.R (Kd.int .i64) 3 w' w.heap.size (fun k_ => some k_ ≠ ((.slice (some ad541) t519.length co45) : Value).ownBlock ∧ some k_ ≠ (v528 : Value).ownBlock ∧ some k_ ≠ (v536 : Value).ownBlock ∧ some k_ ≠ ((.slice (some ad541) t519.length co45) : Value).ownBlock ∧ some k_ ≠ ((.slice (some ad541) t519.length co45) : Value).ownBlock) (.slice Ao15 t515.length co15) t515) ∧ Aside0 (w'.heap[gb518]? = some (.cells #[.int .i64 t514, (.slice Ao15 t515.length co15)] 27 (0, 0))) ∧ Aside0 (Below w.heap.size w w'))
              case atStart => exact ⟨(0), (by first | rfl | (simp; done) | (simp [*]; done)), H', ⟨Nat.le_refl _⟩, ⟨by (with_reducible repeat (first | apply Ra | apply Rn | apply Rd)); exact HO_6.out⟩, ⟨by (with_reducible repeat (first | apply Ra | apply Rn | apply Rd)); exact Kd.R_mono HO_10.out (fun _ hk => ⟨hk.1, ⟨hk.2.1, ⟨hk.2.2.1, ⟨hk.1, hk.2.2.2⟩⟩⟩⟩)⟩, ⟨by (with_reducible repeat (first | apply Ra | apply Rn | apply Rd)); exact Kd.R_mono HO_14.out (fun _ hk => ⟨hk.1, ⟨hk.2.1, ⟨hk.2.2.1, ⟨hk.1, hk.2.2.2⟩⟩⟩⟩)⟩, ⟨by (with_reducible repeat (first | apply Ra | apply Rn | apply Rd)); exact HO_85.out⟩, ⟨by (with_reducible repeat (first | apply Ra | apply Rn | apply Rd)); exact HO_6.out⟩, ⟨by (with_reducible repeat (first | apply Ra | apply Rn | apply Rd)); exact Kd.R_mono HO_519001.out (fun _ hk => ⟨hk.1, ⟨hk.2.1, ⟨hk.2.2.1, ⟨hk.2.2.2, hk.1⟩⟩⟩⟩)⟩, ⟨by (with_reducible repeat (first | refine Kn ?_ _ | refine Ke ?_ | refine Ka ?_ _)); exact BK518.out⟩, ⟨by repeat (first | (with_reducible first | exact HB.out | apply Ba | apply Bn | apply Bd | refine Bs ?_ GE518.out) | exact HB.out)⟩⟩
              case round =>
               as_aux_lemma =>
                clear H'
                (try clear c1); (try clear c2); (try clear p2); (try clear c3); (try clear c4); (try clear c5); (try clear p5); (try clear q5); (try clear hx5); (try clear c25); (try clear c25b0); (try clear c25b1); (try clear c25b2); (try clear c27); (try clear c28); (try clear c28b0); (try clear c28b1); (try clear c28b2); (try clear c32); (try clear c43); (try clear c44); (try clear c46); (try clear c46b0); (try clear c47); (try clear c47b0); (try clear c48); (try clear c48b0); (try clear c50); (try clear c50b0); (try clear hcz14_0); (try clear hcz14_1); (try clear hcz17_0); (try clear hcz17_1); (try clear hcz19_0); (try clear hcz19_1); (try clear hcz21_0); (try clear hcz21_1); (try clear hcz23_0); (try clear hcz23_1); (try clear hfz14_0); (try clear hfz14_1); (try clear hfz17_0); (try clear hfz17_1); (try clear hfz19_0); (try clear hfz19_1); (try clear hfz21_0); (try clear hfz21_1); (try clear hfz23_0); (try clear hfz23_1); (try clear hx541_0); (try clear p2); (try clear p5); (try clear p541); (try clear q5); (try clear q541)
                obtain ⟨x98_4, rfl, HA, HK4, HO_6, HO_10, HO_14, HO_85, HO_96, HO_519001, BK518, HB⟩ := hrel
                cases gk with
                | zero => exact absurd HA.out (by simp [laws_FnStrongParts.l1])
                | succ k4 =>
                 have H := HA.out
                 clear HA
                 simp only [laws_FnStrongParts.l1] at H
                 by_cases c51 : x98_4 < (t519.length : Int)
                 ·
                  rw [if_pos c51] at H
                  have c51b0 : decide (x98_4 < (t519.length : Int)) = true := De c51
                  clear c51
                  by_cases c52 : 0 ≤ x98_4
                  ·
                   rw [if_pos c52] at H
                   have c52b0 : decide (0 ≤ x98_4) = true := De c52
                   clear c52
                   by_cases c53 : x98_4 < (t519.length : Int)
                   ·
                    rw [if_pos c53] at H
                    have c53b0 : decide (x98_4 < (t519.length : Int)) = true := De c53
                    clear c53
                    by_cases c54 : (rd t519 x87_2) < (rd t519 x98_4)
                    ·
                     rw [if_pos c54] at H
                     have c54b0 : decide ((rd t519 x87_2) < (rd t519 x98_4)) = true := De c54
                     clear c54
                     by_cases c55 : 0 ≤ x87_2
                     ·
                      rw [if_pos c55] at H
                      have c55b0 : decide (0 ≤ x87_2) = true := De c55
                      clear c55
                      by_cases c56 : x87_2 < (t515.length : Int)
                      ·
                       rw [if_pos c56] at H
                       have c56b0 : decide (x87_2 < (t515.length : Int)) = true := De c56
                       clear c56
                       replace H := Option.bind_eq_some_iff.mp H
                       obtain ⟨t544, A570, H⟩ := H
                       replace H : (if t544 = true then (laws_FnStrongParts.l1 k4 t519 t527 t530 t535 x16_48 x87_2 (rd t519 x87_2) t519 (t519.length : Int) x87_2 t519 (t519.length : Int) (wrap64 (x98_4 + 1)) t514 t515) else (some false)) = some r := H
                       have A57 := Am A570
                       clear A570
                       by_cases c58 : t544 = true
                       ·
                        subst c58
                        have H1 : (laws_FnStrongParts.l1 k4 t519 t527 t530 t535 x16_48 x87_2 (rd t519 x87_2) t519 (t519.length : Int) x87_2 t519 (t519.length : Int) (wrap64 (x98_4 + 1)) t514 t515) = some r := by rw [if_pos rfl] at H; exact H
                        clear H
                        have H := H1
                        clear H1
                        have H' := Am H
                        clear H
                        have p542 : 0 ≤ (x98_4 : Int) := Oe (by first | (with_reducible assumption) | assumption)
                        have q542 : x98_4 < (t519.length : Int) := Oe (by first | (with_reducible assumption) | assumption)
                        obtain ⟨ad542, e542, hx542_0⟩ := Kd.at_int (Kd.R_reads' HO_96.out).2.2 x98_4 p542 q542
                        obtain rfl : ad541 = ad542 := (by injection e542)
                        replace p542 := eq_true p542
                        replace q542 := eq_true q542
                        have hcz59_0 : wr.cell? ⟨gb518, 0, none⟩ = some (.int .i64 t514) := (Kc BK518.out 0).trans rfl
                        have hcz59_1 : wr.cell? ⟨gb518, 1, none⟩ = some (.slice Ao15 t515.length co15) := (Kc BK518.out 1).trans rfl
                        have hfz59_0 := Kf BK518.out 0
                        have hfz59_1 := Kf BK518.out 1
                        have p543 : 0 ≤ (x87_2 : Int) := Oe (by first | (with_reducible assumption) | assumption)
                        have q543 : x87_2 < (t515.length : Int) := Oe (by first | (with_reducible assumption) | assumption)
                        obtain ⟨ad543, e543, hx543_0⟩ := Kd.at_int (Kd.R_reads' HO_519001.out).2.2 x87_2 p543 q543
                        cases e543
                        replace p543 := eq_true p543
                        replace q543 := eq_true q543
                        go_wp2_with (first | (go_at_call 25; (with_reducible refine (laws_yIn.calls (rd t515 x87_2) x98_4 true _ A57.out).mono ?_); rintro e w' ⟨rfl, ⟨nd, rfl⟩⟩; (try first | exact ⟨rfl, _, World.drewN_drewN _ _ _⟩ | exact ⟨rfl, _, Eq.trans (World.drewN_drewN _ _ _) (congrArg (World.drewN _) (Nat.add_assoc _ _ _))⟩)))
                        repeat (go_quiet (first | (go_at_call 25; (with_reducible refine (laws_yIn.calls (rd t515 x87_2) x98_4 true _ A57.out).mono ?_); rintro e w' ⟨rfl, ⟨nd, rfl⟩⟩; (try first | exact ⟨rfl, _, World.drewN_drewN _ _ _⟩ | exact ⟨rfl, _, Eq.trans (World.drewN_drewN _ _ _) (congrArg (World.drewN _) (Nat.add_assoc _ _ _))⟩))); try go_wp2_with (first | (go_at_call 25; (with_reducible refine (laws_yIn.calls (rd t515 x87_2) x98_4 true _ A57.out).mono ?_); rintro e w' ⟨rfl, ⟨nd, rfl⟩⟩; (try first | exact ⟨rfl, _, World.drewN_drewN _ _ _⟩ | exact ⟨rfl, _, Eq.trans (World.drewN_drewN _ _ _) (congrArg (World.drewN _) (Nat.add_assoc _ _ _))⟩))))
                        go_roundg k4
                        case measure => have := HJ10.out; have := HK2.out; have := HJ48.out; have := HK4.out; omega
                        case rel => exact ⟨(wrap64 (x98_4 + 1)), (by first | rfl | (simp; done) | (simp [*]; done)), H', ⟨by have := HJ10.out; have := HK2.out; have := HJ48.out; have := HK4.out; omega⟩, ⟨by (with_reducible repeat (first | apply Ra | apply Rn | apply Rd)); exact HO_6.out⟩, ⟨by (with_reducible repeat (first | apply Ra | apply Rn | apply Rd)); exact HO_10.out⟩, ⟨by (with_reducible repeat (first | apply Ra | apply Rn | apply Rd)); exact HO_14.out⟩, ⟨by (with_reducible repeat (first | apply Ra | apply Rn | apply Rd)); exact HO_85.out⟩, ⟨by (with_reducible repeat (first | apply Ra | apply Rn | apply Rd)); exact HO_96.out⟩, ⟨by (with_reducible repeat (first | apply Ra | apply Rn | apply Rd)); exact HO_519001.out⟩, ⟨by (with_reducible repeat (first | refine Kn ?_ _ | refine Ke ?_ | refine Ka ?_ _)); exact BK518.out⟩, ⟨by repeat (first | (with_reducible first | exact HB.out | apply Ba | apply Bn | apply Bd | refine Bs ?_ GE518.out) | exact HB.out)⟩⟩
                       ·
                        replace c58 := Bool.eq_false_iff.mpr c58
                        subst c58
                        have H1 : (some false) = some r := by rw [if_neg (show ¬ (false = true) by decide)] at H; exact H
                        clear H
                        have H := H1
                        clear H1
                        obtain rfl := Option.some.inj H
                        have p542 : 0 ≤ (x98_4 : Int) := Oe (by first | (with_reducible assumption) | assumption)
                        have q542 : x98_4 < (t519.length : Int) := Oe (by first | (with_reducible assumption) | assumption)
                        obtain ⟨ad542, e542, hx542_0⟩ := Kd.at_int (Kd.R_reads' HO_96.out).2.2 x98_4 p542 q542
                        obtain rfl : ad541 = ad542 := (by injection e542)
                        replace p542 := eq_true p542
                        replace q542 := eq_true q542
                        have hcz60_0 : wr.cell? ⟨gb518, 0, none⟩ = some (.int .i64 t514) := (Kc BK518.out 0).trans rfl
                        have hcz60_1 : wr.cell? ⟨gb518, 1, none⟩ = some (.slice Ao15 t515.length co15) := (Kc BK518.out 1).trans rfl
                        have hfz60_0 := Kf BK518.out 0
                        have hfz60_1 := Kf BK518.out 1
                        have p543 : 0 ≤ (x87_2 : Int) := Oe (by first | (with_reducible assumption) | assumption)
                        have q543 : x87_2 < (t515.length : Int) := Oe (by first | (with_reducible assumption) | assumption)
                        obtain ⟨ad543, e543, hx543_0⟩ := Kd.at_int (Kd.R_reads' HO_519001.out).2.2 x87_2 p543 q543
                        cases e543
                        replace p543 := eq_true p543
                        replace q543 := eq_true q543
                        go_wp2_with (first | (go_at_call 25; (with_reducible refine (laws_yIn.calls (rd t515 x87_2) x98_4 false _ A57.out).mono ?_); rintro e w' ⟨rfl, ⟨nd, rfl⟩⟩; (try first | exact ⟨rfl, _, World.drewN_drewN _ _ _⟩ | exact ⟨rfl, _, Eq.trans (World.drewN_drewN _ _ _) (congrArg (World.drewN _) (Nat.add_assoc _ _ _))⟩)))
                        repeat (go_quiet (first | (go_at_call 25; (with_reducible refine (laws_yIn.calls (rd t515 x87_2) x98_4 false _ A57.out).mono ?_); rintro e w' ⟨rfl, ⟨nd, rfl⟩⟩; (try first | exact ⟨rfl, _, World.drewN_drewN _ _ _⟩ | exact ⟨rfl, _, Eq.trans (World.drewN_drewN _ _ _) (congrArg (World.drewN _) (Nat.add_assoc _ _ _))⟩))); try go_wp2_with (first | (go_at_call 25; (with_reducible refine (laws_yIn.calls (rd t515 x87_2) x98_4 false _ A57.out).mono ?_); rintro e w' ⟨rfl, ⟨nd, rfl⟩⟩; (try first | exact ⟨rfl, _, World.drewN_drewN _ _ _⟩ | exact ⟨rfl, _, Eq.trans (World.drewN_drewN _ _ _) (congrArg (World.drewN _) (Nat.add_assoc _ _ _))⟩))))
                        go_ret
                        exact ⟨by first | rfl | (simp [errW_none, errW_some] <;> rfl) | (simp [*, errW_none, errW_some] <;> rfl), by repeat (first | (with_reducible first | exact HB.out | apply Ba | apply Bn | apply Bd | refine Bs ?_ GE518.out) | exact HB.out)⟩
                      ·
                       rw [if_neg c56] at H
                       exact absurd H (by simp)
                     ·
                      rw [if_neg c55] at H
                      exact absurd H (by simp)
                    ·
                     rw [if_neg c54] at H
                     have c54b0 : decide ((rd t519 x87_2) < (rd t519 x98_4)) = false := Df c54
                     clear c54
                     have H' := Am H
                     clear H
                     have p542 : 0 ≤ (x98_4 : Int) := Oe (by first | (with_reducible assumption) | assumption)
                     have q542 : x98_4 < (t519.length : Int) := Oe (by first | (with_reducible assumption) | assumption)
                     obtain ⟨ad542, e542, hx542_0⟩ := Kd.at_int (Kd.R_reads' HO_96.out).2.2 x98_4 p542 q542
                     obtain rfl : ad541 = ad542 := (by injection e542)
                     replace p542 := eq_true p542
                     replace q542 := eq_true q542
                     go_wp2
                     repeat (go_quiet (fail); try go_wp2)
                     go_roundg k4
                     case measure => have := HJ10.out; have := HK2.out; have := HJ48.out; have := HK4.out; omega
                     case rel => exact ⟨(wrap64 (x98_4 + 1)), (by first | rfl | (simp; done) | (simp [*]; done)), H', ⟨by have := HJ10.out; have := HK2.out; have := HJ48.out; have := HK4.out; omega⟩, ⟨by (with_reducible repeat (first | apply Ra | apply Rn | apply Rd)); exact HO_6.out⟩, ⟨by (with_reducible repeat (first | apply Ra | apply Rn | apply Rd)); exact HO_10.out⟩, ⟨by (with_reducible repeat (first | apply Ra | apply Rn | apply Rd)); exact HO_14.out⟩, ⟨by (with_reducible repeat (first | apply Ra | apply Rn | apply Rd)); exact HO_85.out⟩, ⟨by (with_reducible repeat (first | apply Ra | apply Rn | apply Rd)); exact HO_96.out⟩, ⟨by (with_reducible repeat (first | apply Ra | apply Rn | apply Rd)); exact HO_519001.out⟩, ⟨by (with_reducible repeat (first | refine Kn ?_ _ | refine Ke ?_ | refine Ka ?_ _)); exact BK518.out⟩, ⟨by repeat (first | (with_reducible first | exact HB.out | apply Ba | apply Bn | apply Bd | refine Bs ?_ GE518.out) | exact HB.out)⟩⟩
                   ·
                    rw [if_neg c53] at H
                    exact absurd H (by simp)
                  ·
                   rw [if_neg c52] at H
                   exact absurd H (by simp)
                 ·
                  rw [if_neg c51] at H
                  have c51b0 : decide (x98_4 < (t519.length : Int)) = false := Df c51
                  clear c51
                  have H' := Am H
                  clear H
                  go_wp2
                  repeat (go_quiet (fail); try go_wp2)
                  go_roundg k4
                  case measure => have := HJ10.out; have := HK2.out; have := HJ48.out; have := HK4.out; omega
                  case rel => exact ⟨(x16_48), (wrap64 (x87_2 + 1)), (by first | rfl | (simp; done) | (simp [*]; done)), (by first | rfl | (simp; done) | (simp [*]; done)), H', ⟨by have := HJ10.out; have := HK2.out; have := HJ48.out; have := HK4.out; omega⟩, ⟨by (with_reducible repeat (first | apply Ra | apply Rn | apply Rd)); exact HO_6.out⟩, ⟨by (with_reducible repeat (first | apply Ra | apply Rn | apply Rd)); exact Kd.R_mono HO_10.out (fun _ hk => ⟨hk.1, ⟨hk.2.1, ⟨hk.2.2.1, hk.2.2.2.2⟩⟩⟩)⟩, ⟨by (with_reducible repeat (first | apply Ra | apply Rn | apply Rd)); exact Kd.R_mono HO_14.out (fun _ hk => ⟨hk.1, ⟨hk.2.1, ⟨hk.2.2.1, hk.2.2.2.2⟩⟩⟩)⟩, ⟨by (with_reducible repeat (first | apply Ra | apply Rn | apply Rd)); exact HO_85.out⟩, ⟨by (with_reducible repeat (first | apply Ra | apply Rn | apply Rd)); exact Kd.R_mono HO_519001.out (fun _ hk => ⟨hk.1, ⟨hk.2.1, ⟨hk.2.2.1, hk.2.2.2.1⟩⟩⟩)⟩, ⟨by (with_reducible repeat (first | refine Kn ?_ _ | refine Ke ?_ | refine Ka ?_ _)); exact BK518.out⟩, ⟨by repeat (first | (with_reducible first | exact HB.out | apply Ba | apply Bn | apply Bd | refine Bs ?_ GE518.out) | exact HB.out)⟩⟩
           ·
            rw [if_neg c48] at H
            exact absurd H (by simp)
          ·
           rw [if_neg c47] at H
           exact absurd H (by simp)
         ·
          rw [if_neg c46] at H
          have c46b0 : decide (x87_2 < (t519.length : Int)) = false := Df c46
          clear c46
          replace H := Option.bind_eq_some_iff.mp H
          obtain ⟨⟨t545, t546⟩, A610, H⟩ := H
          replace H : (laws_FnStrongParts.l2 k2 t527 t530 x16_2 t545 t546 0 0 1 t514 t515) = some r := H
          have A61 := Am A610
          clear A610
          have H' := Am H
          clear H
          obtain ⟨Ao62, co62, eo62⟩ := Kd.R_slice HO_14.out
          subst eo62
          go_wp2_with (first | (go_at_call 26; (with_reducible refine (impl_RankingOf.calls k2 _ _ t535 t545 t546 _ ?side1 ?side2 A61.out).mono ?_); (case side1 => repeat (first | exact (Kd.R_reads' HO_14.out).2.2 | (with_reducible refine Ca ?_ _) | (with_reducible refine Cn ?_ _) | (with_reducible refine Cd ?_))); (case side2 => exact (Kd.R_reads' HO_14.out).2.1); rintro e w63 ⟨v547, rfl, ho0, hb⟩; have n0_ := Am (Kd.R_elder' (by (with_reducible repeat (first | apply Ra | apply Rn | apply Rd)); exact HO_6.out) (Kd.R_base ho0) hb); have n1_ := Am (Kd.R_elder' (by (with_reducible repeat (first | apply Ra | apply Rn | apply Rd)); exact HO_10.out) (Kd.R_base ho0) hb); have n2_ := Am (Kd.R_elder' (by (with_reducible repeat (first | apply Ra | apply Rn | apply Rd)); exact HO_14.out) (Kd.R_base ho0) hb); have n3_ := Am (Kd.R_elder' (by (with_reducible repeat (first | apply Ra | apply Rn | apply Rd)); exact HO_85.out) (Kd.R_base ho0) hb); have n4_ := Am (Kd.R_elder' (by (with_reducible repeat (first | apply Ra | apply Rn | apply Rd)); exact HO_519001.out) (Kd.R_base ho0) hb); have n5_ := Am (Kd.R_lower (Kd.R_new' (Kd.R_new' (Kd.R_new' (Kd.R_new' (Kd.R_new' ho0 (Kd.R_lt (by (with_reducible repeat (first | apply Ra | apply Rn | apply Rd)); exact HO_6.out))) (Kd.R_lt (by (with_reducible repeat (first | apply Ra | apply Rn | apply Rd)); exact HO_10.out))) (Kd.R_lt (by (with_reducible repeat (first | apply Ra | apply Rn | apply Rd)); exact HO_14.out))) (Kd.R_lt (by (with_reducible repeat (first | apply Ra | apply Rn | apply Rd)); exact HO_85.out))) (Kd.R_lt (by (with_reducible repeat (first | apply Ra | apply Rn | apply Rd)); exact HO_519001.out))) (below_size (by repeat (first | (with_reducible first | exact HB.out | apply Ba | apply Bn | apply Bd | refine Bs ?_ GE518.out) | exact HB.out)))); have n6_ := Am (blk_below (g := gb518) (o := .cells #[.int .i64 t514, .slice Ao15 t515.length co15] 27 (0, 0)) (by (with_reducible repeat (first | refine Kn ?_ _ | refine Ke ?_ | refine Ka ?_ _)); exact BK518.out) hb); have n7_ := Am (below_step (by repeat (first | (with_reducible first | exact HB.out | apply Ba | apply Bn | apply Bd | refine Bs ?_ GE518.out) | exact HB.out)) hb); clear HO_6; clear HO_10; clear HO_14; clear HO_85; clear HO_519001; clear BK518; clear HB; have HO_6 := n0_; have HO_10 := n1_; have HO_14 := n2_; have HO_85 := n3_; have HO_519001 := n4_; have HO548 := n5_; have BK518 := n6_; have HB := n7_; clear n0_ n1_ n2_ n3_ n4_ n5_ n6_ n7_; (try clear hb); (try clear hb2); (try clear hk); (try clear hi); (try clear ho0)))
          repeat (go_quiet (first | (go_at_call 26; (with_reducible refine (impl_RankingOf.calls k2 _ _ t535 t545 t546 _ ?side1 ?side2 A61.out).mono ?_); (case side1 => repeat (first | exact (Kd.R_reads' HO_14.out).2.2 | (with_reducible refine Ca ?_ _) | (with_reducible refine Cn ?_ _) | (with_reducible refine Cd ?_))); (case side2 => exact (Kd.R_reads' HO_14.out).2.1); rintro e w63 ⟨v547, rfl, ho0, hb⟩; have n0_ := Am (Kd.R_elder' (by (with_reducible repeat (first | apply Ra | apply Rn | apply Rd)); exact HO_6.out) (Kd.R_base ho0) hb); have n1_ := Am (Kd.R_elder' (by (with_reducible repeat (first | apply Ra | apply Rn | apply Rd)); exact HO_10.out) (Kd.R_base ho0) hb); have n2_ := Am (Kd.R_elder' (by (with_reducible repeat (first | apply Ra | apply Rn | apply Rd)); exact HO_14.out) (Kd.R_base ho0) hb); have n3_ := Am (Kd.R_elder' (by (with_reducible repeat (first | apply Ra | apply Rn | apply Rd)); exact HO_85.out) (Kd.R_base ho0) hb); have n4_ := Am (Kd.R_elder' (by (with_reducible repeat (first | apply Ra | apply Rn | apply Rd)); exact HO_519001.out) (Kd.R_base ho0) hb); have n5_ := Am (Kd.R_lower (Kd.R_new' (Kd.R_new' (Kd.R_new' (Kd.R_new' (Kd.R_new' ho0 (Kd.R_lt (by (with_reducible repeat (first | apply Ra | apply Rn | apply Rd)); exact HO_6.out))) (Kd.R_lt (by (with_reducible repeat (first | apply Ra | apply Rn | apply Rd)); exact HO_10.out))) (Kd.R_lt (by (with_reducible repeat (first | apply Ra | apply Rn | apply Rd)); exact HO_14.out))) (Kd.R_lt (by (with_reducible repeat (first | apply Ra | apply Rn | apply Rd)); exact HO_85.out))) (Kd.R_lt (by (with_reducible repeat (first | apply Ra | apply Rn | apply Rd)); exact HO_519001.out))) (below_size (by repeat (first | (with_reducible first | exact HB.out | apply Ba | apply Bn | apply Bd | refine Bs ?_ GE518.out) | exact HB.out)))); have n6_ := Am (blk_below (g := gb518) (o := .cells #[.int .i64 t514, .slice Ao15 t515.length co15] 27 (0, 0)) (by (with_reducible repeat (first | refine Kn ?_ _ | refine Ke ?_ | refine Ka ?_ _)); exact BK518.out) hb); have n7_ := Am (below_step (by repeat (first | (with_reducible first | exact HB.out | apply Ba | apply Bn | apply Bd | refine Bs ?_ GE518.out) | exact HB.out)) hb); clear HO_6; clear HO_10; clear HO_14; clear HO_85; clear HO_519001; clear BK518; clear HB; have HO_6 := n0_; have HO_10 := n1_; have HO_14 := n2_; have HO_85 := n3_; have HO_519001 := n4_; have HO548 := n5_; have BK518 := n6_; have HB := n7_; clear n0_ n1_ n2_ n3_ n4_ n5_ n6_ n7_; (try clear hb); (try clear hb2); (try clear hk); (try clear hi); (try clear ho0))); try go_wp2_with (first | (go_at_call 26; (with_reducible refine (impl_RankingOf.calls k2 _ _ t535 t545 t546 _ ?side1 ?side2 A61.out).mono ?_); (case side1 => repeat (first | exact (Kd.R_reads' HO_14.out).2.2 | (with_reducible refine Ca ?_ _) | (with_reducible refine Cn ?_ _) | (with_reducible refine Cd ?_))); (case side2 => exact (Kd.R_reads' HO_14.out).2.1); rintro e w63 ⟨v547, rfl, ho0, hb⟩; have n0_ := Am (Kd.R_elder' (by (with_reducible repeat (first | apply Ra | apply Rn | apply Rd)); exact HO_6.out) (Kd.R_base ho0) hb); have n1_ := Am (Kd.R_elder' (by (with_reducible repeat (first | apply Ra | apply Rn | apply Rd)); exact HO_10.out) (Kd.R_base ho0) hb); have n2_ := Am (Kd.R_elder' (by (with_reducible repeat (first | apply Ra | apply Rn | apply Rd)); exact HO_14.out) (Kd.R_base ho0) hb); have n3_ := Am (Kd.R_elder' (by (with_reducible repeat (first | apply Ra | apply Rn | apply Rd)); exact HO_85.out) (Kd.R_base ho0) hb); have n4_ := Am (Kd.R_elder' (by (with_reducible repeat (first | apply Ra | apply Rn | apply Rd)); exact HO_519001.out) (Kd.R_base ho0) hb); have n5_ := Am (Kd.R_lower (Kd.R_new' (Kd.R_new' (Kd.R_new' (Kd.R_new' (Kd.R_new' ho0 (Kd.R_lt (by (with_reducible repeat (first | apply Ra | apply Rn | apply Rd)); exact HO_6.out))) (Kd.R_lt (by (with_reducible repeat (first | apply Ra | apply Rn | apply Rd)); exact HO_10.out))) (Kd.R_lt (by (with_reducible repeat (first | apply Ra | apply Rn | apply Rd)); exact HO_14.out))) (Kd.R_lt (by (with_reducible repeat (first | apply Ra | apply Rn | apply Rd)); exact HO_85.out))) (Kd.R_lt (by (with_reducible repeat (first | apply Ra | apply Rn | apply Rd)); exact HO_519001.out))) (below_size (by repeat (first | (with_reducible first | exact HB.out | apply Ba | apply Bn | apply Bd | refine Bs ?_ GE518.out) | exact HB.out)))); have n6_ := Am (blk_below (g := gb518) (o := .cells #[.int .i64 t514, .slice Ao15 t515.length co15] 27 (0, 0)) (by (with_reducible repeat (first | refine Kn ?_ _ | refine Ke ?_ | refine Ka ?_ _)); exact BK518.out) hb); have n7_ := Am (below_step (by repeat (first | (with_reducible first | exact HB.out | apply Ba | apply Bn | apply Bd | refine Bs ?_ GE518.out) | exact HB.out)) hb); clear HO_6; clear HO_10; clear HO_14; clear HO_85; clear HO_519001; clear BK518; clear HB; have HO_6 := n0_; have HO_10 := n1_; have HO_14 := n2_; have HO_85 := n3_; have HO_519001 := n4_; have HO548 := n5_; have BK518 := n6_; have HB := n7_; clear n0_ n1_ n2_ n3_ n4_ n5_ n6_ n7_; (try clear hb); (try clear hb2); (try clear hk); (try clear hi); (try clear ho0))))
          go_loopg [23, 24, 25] k2 (fun kq v23 v24 v25 w' => ∃ (x23_3 : Int) (x24_3 : Int) (x25_3 : Int), v23 = .int .i64 x23_3 ∧ v24 = .int .i64 x24_3 ∧ v25 = .int .i64 x25_3 ∧ Aside0 (laws_FnStrongParts.l2 kq t527 t530 x16_2 t545 t546 x23_3 x24_3 x25_3 t514 t515 = some r) ∧ Aside0 (kq ≤ k2) ∧ Aside0 (Kd.R (Kd.int .i64) 3 w' w.heap.size (fun k_ => some k_ ≠ (v547 : Value).ownBlock ∧ some k_ ≠ ((.slice Ao15 t515.length co15) : Value).ownBlock) v528 t527) ∧ Aside0 (Kd.R (Kd.int .i64) 3 w' w.heap.size (fun k_ => some k_ ≠ (v528 : Value).ownBlock ∧ some k_ ≠ ((.slice Ao15 t515.length co15) : Value).ownBlock) v547 t545) ∧ Aside0 (Kd.R (Kd.int .i64) 3 w' w.heap.size (fun k_ => some k_ ≠ (v528 : Value).ownBlock ∧ some k_ ≠ (v547 : Value).ownBlock) (.slice Ao15 t515.length co15) t515) ∧ Aside0 (w'.heap[gb518]? = some (.cells #[.int .i64 t514, (.slice Ao15 t515.length co15)] 27 (0, 0))) ∧ Aside0 (Below w.heap.size w w'))
          case atStart => exact ⟨(0), (0), (1), (by first | rfl | (simp; done) | (simp [*]; done)), (by first | rfl | (simp; done) | (simp [*]; done)), (by first | rfl | (simp; done) | (simp [*]; done)), H', ⟨Nat.le_refl _⟩, ⟨by (with_reducible repeat (first | apply Ra | apply Rn | apply Rd)); exact Kd.R_mono HO_10.out (fun _ hk => ⟨hk.2, hk.1.2.2.2⟩)⟩, ⟨by (with_reducible repeat (first | apply Ra | apply Rn | apply Rd)); exact Kd.R_mono HO548.out (fun _ hk => ⟨hk.1.1.1.2, hk.2⟩)⟩, ⟨by (with_reducible repeat (first | apply Ra | apply Rn | apply Rd)); exact Kd.R_mono HO_519001.out (fun _ hk => ⟨hk.1.2.1, hk.2⟩)⟩, ⟨by (with_reducible repeat (first | refine Kn ?_ _ | refine Ke ?_ | refine Ka ?_ _)); exact BK518.out⟩, ⟨by repeat (first | (with_reducible first | exact HB.out | apply Ba | apply Bn | apply Bd | refine Bs ?_ GE518.out) | exact HB.out)⟩⟩
          case round =>
           as_aux_lemma =>
            clear H'
            (try clear c1); (try clear c2); (try clear p2); (try clear c3); (try clear c4); (try clear c5); (try clear p5); (try clear q5); (try clear hx5); (try clear p6); (try clear c25); (try clear c25b0); (try clear c25b1); (try clear c25b2); (try clear c27); (try clear c28); (try clear c28b0); (try clear c28b1); (try clear c28b2); (try clear c32); (try clear c43); (try clear c44); (try clear c46); (try clear c46b0); (try clear c47); (try clear c47b0); (try clear c48); (try clear c48b0); (try clear c50); (try clear c50b0); (try clear c51); (try clear c51b0); (try clear c52); (try clear c52b0); (try clear c53); (try clear c53b0); (try clear c54); (try clear c54b0); (try clear p54); (try clear q54); (try clear hx54); (try clear c55); (try clear c55b0); (try clear c56); (try clear c56b0); (try clear c58); (try clear hcz14_0); (try clear hcz14_1); (try clear hcz17_0); (try clear hcz17_1); (try clear hcz19_0); (try clear hcz19_1); (try clear hcz21_0); (try clear hcz21_1); (try clear hcz23_0); (try clear hcz23_1); (try clear hcz59_0); (try clear hcz59_1); (try clear hcz60_0); (try clear hcz60_1); (try clear hfz14_0); (try clear hfz14_1); (try clear hfz17_0); (try clear hfz17_1); (try clear hfz19_0); (try clear hfz19_1); (try clear hfz21_0); (try clear hfz21_1); (try clear hfz23_0); (try clear hfz23_1); (try clear hfz59_0); (try clear hfz59_1); (try clear hfz60_0); (try clear hfz60_1); (try clear hx541_0); (try clear hx542_0); (try clear hx543_0); (try clear p2); (try clear p5); (try clear p541); (try clear p542); (try clear p543); (try clear q5); (try clear q541); (try clear q542); (try clear q543)
            obtain ⟨x23_3, x24_3, x25_3, rfl, rfl, rfl, HA, HK3, HO_10, HO_21, HO_519001, BK518, HB⟩ := hrel
            cases gk with
            | zero => exact absurd HA.out (by simp [laws_FnStrongParts.l2])
            | succ k3 =>
             have H := HA.out
             clear HA
             simp only [laws_FnStrongParts.l2] at H
             by_cases c64 : x25_3 ≤ (t545.length : Int)
             ·
              rw [if_pos c64] at H
              have c64b0 : decide (x25_3 ≤ (t545.length : Int)) = true := De c64
              clear c64
              obtain ⟨ji65, hji65⟩ : ∃ j_ : Int, (wrap64 ((t545.length : Int) - x25_3)) = j_ := ⟨_, rfl⟩
              replace H : (if 0 ≤ (ji65) then (if (ji65) < (t545.length : Int) then (if (wrap64 (x23_3 + (rd t545 (ji65)))) = (wrap64 (Int.tdiv (wrap64 (x25_3 * (wrap64 (x25_3 - 1)))) 2)) then (laws_FnStrongParts.l2 k3 t527 t530 x16_2 t545 t546 (wrap64 (x23_3 + (rd t545 (ji65)))) (wrap64 (x24_3 + 1)) (wrap64 (x25_3 + 1)) t514 t515) else (laws_FnStrongParts.l2 k3 t527 t530 x16_2 t545 t546 (wrap64 (x23_3 + (rd t545 (ji65)))) x24_3 (wrap64 (x25_3 + 1)) t514 t515)) else (none)) else (none)) = some r := by first | (rw [hji65] at H; exact H) | (simp only [hji65] at H ⊢; exact H)
              have hji65w : (IntKind.i64.wrap ((t545.length : Int) - x25_3)) = ji65 := (i64_w _).trans hji65
              by_cases c66 : 0 ≤ (ji65)
              ·
               rw [if_pos c66] at H
               have c66b0 : decide (0 ≤ (ji65)) = true := De c66
               clear c66
               by_cases c67 : (ji65) < (t545.length : Int)
               ·
                rw [if_pos c67] at H
                have c67b0 : decide ((ji65) < (t545.length : Int)) = true := De c67
                clear c67
                by_cases c68 : (wrap64 (x23_3 + (rd t545 (ji65)))) = (wrap64 (Int.tdiv (wrap64 (x25_3 * (wrap64 (x25_3 - 1)))) 2))
                ·
                 rw [if_pos c68] at H
                 have c68b0 : ((wrap64 (x23_3 + (rd t545 (ji65)))) == (wrap64 (Int.tdiv (wrap64 (x25_3 * (wrap64 (x25_3 - 1)))) 2))) = true := beq_iff_eq.mpr c68
                 have c68b1 : ((wrap64 (x23_3 + (rd t545 (ji65)))) != (wrap64 (Int.tdiv (wrap64 (x25_3 * (wrap64 (x25_3 - 1)))) 2))) = false := bne_eq_false_iff_eq.mpr c68
                 clear c68
                 have H' := Am H
                 clear H
                 obtain ⟨Ao69, co69, eo69⟩ := Kd.R_slice HO_21.out
                 subst eo69
                 have p549 : 0 ≤ ((ji65) : Int) := Oe (by first | (with_reducible assumption) | assumption)
                 have q549 : (ji65) < (t545.length : Int) := Oe (by first | (with_reducible assumption) | assumption)
                 obtain ⟨ad549, e549, hx549_0⟩ := Kd.at_int (Kd.R_reads' HO_21.out).2.2 (ji65) p549 q549
                 cases e549
                 replace p549 := eq_true p549
                 replace q549 := eq_true q549
                 go_wp2
                 repeat (go_quiet (fail); try go_wp2)
                 go_roundg k3
                 case measure => have := HJ10.out; have := HK2.out; have := HK3.out; omega
                 case rel => exact ⟨(wrap64 (x23_3 + (rd t545 (ji65)))), (wrap64 (x24_3 + 1)), (wrap64 (x25_3 + 1)), (by first | rfl | (simp; done) | (simp only [← hji65] <;> (first | rfl | simp)) | (simp [*]; done)), (by first | rfl | (simp; done) | (simp [*]; done)), (by first | rfl | (simp; done) | (simp [*]; done)), H', ⟨by have := HJ10.out; have := HK2.out; have := HK3.out; omega⟩, ⟨by (with_reducible repeat (first | apply Ra | apply Rn | apply Rd)); exact HO_10.out⟩, ⟨by (with_reducible repeat (first | apply Ra | apply Rn | apply Rd)); exact HO_21.out⟩, ⟨by (with_reducible repeat (first | apply Ra | apply Rn | apply Rd)); exact HO_519001.out⟩, ⟨by (with_reducible repeat (first | refine Kn ?_ _ | refine Ke ?_ | refine Ka ?_ _)); exact BK518.out⟩, ⟨by repeat (first | (with_reducible first | exact HB.out | apply Ba | apply Bn | apply Bd | refine Bs ?_ GE518.out) | exact HB.out)⟩⟩
                ·
                 rw [if_neg c68] at H
                 have c68b0 : ((wrap64 (x23_3 + (rd t545 (ji65)))) == (wrap64 (Int.tdiv (wrap64 (x25_3 * (wrap64 (x25_3 - 1)))) 2))) = false := beq_eq_false_iff_ne.mpr c68
                 have c68b1 : ((wrap64 (x23_3 + (rd t545 (ji65)))) != (wrap64 (Int.tdiv (wrap64 (x25_3 * (wrap64 (x25_3 - 1)))) 2))) = true := bne_iff_ne.mpr c68
                 have H' := Am H
                 clear H
                 obtain ⟨Ao70, co70, eo70⟩ := Kd.R_slice HO_21.out
                 subst eo70
                 have p549 : 0 ≤ ((ji65) : Int) := Oe (by first | (with_reducible assumption) | assumption)
                 have q549 : (ji65) < (t545.length : Int) := Oe (by first | (with_reducible assumption) | assumption)
                 obtain ⟨ad549, e549, hx549_0⟩ := Kd.at_int (Kd.R_reads' HO_21.out).2.2 (ji65) p549 q549
                 cases e549
                 replace p549 := eq_true p549
                 replace q549 := eq_true q549
                 go_wp2
                 repeat (go_quiet (fail); try go_wp2)
                 go_roundg k3
                 case measure => have := HJ10.out; have := HK2.out; have := HK3.out; omega
                 case rel => exact ⟨(wrap64 (x23_3 + (rd t545 (ji65)))), (x24_3), (wrap64 (x25_3 + 1)), (by first | rfl | (simp; done) | (simp only [← hji65] <;> (first | rfl | simp)) | (simp [*]; done)), (by first | rfl | (simp; done) | (simp [*]; done)), (by first | rfl | (simp; done) | (simp [*]; done)), H', ⟨by have := HJ10.out; have := HK2.out; have := HK3.out; omega⟩, ⟨by (with_reducible repeat (first | apply Ra | apply Rn | apply Rd)); exact HO_10.out⟩, ⟨by (with_reducible repeat (first | apply Ra | apply Rn | apply Rd)); exact HO_21.out⟩, ⟨by (with_reducible repeat (first | apply Ra | apply Rn | apply Rd)); exact HO_519001.out⟩, ⟨by (with_reducible repeat (first | refine Kn ?_ _ | refine Ke ?_ | refine Ka ?_ _)); exact BK518.out⟩, ⟨by repeat (first | (with_reducible first | exact HB.out | apply Ba | apply Bn | apply Bd | refine Bs ?_ GE518.out) | exact HB.out)⟩⟩
               ·
                rw [if_neg c67] at H
                exact absurd H (by simp)
              ·
               rw [if_neg c66] at H
               exact absurd H (by simp)
             ·
              rw [if_neg c64] at H
              have c64b0 : decide (x25_3 ≤ (t545.length : Int)) = false := Df c64
              clear c64
              have HC71 := Am H
              clear H
              obtain ⟨Ao72, co72, eo72⟩ := Kd.R_slice HO_21.out
              subst eo72
              go_upto_region 34 with (fail)
              repeat (go_quiet (fail); go_upto_region 34 with (fail))
              go_cut [165] (fun v165 wc => ∃ (kq : Nat) (x165_70 : Bool), v165 = .bool x165_70 ∧ Aside0 (laws_FnStrongParts.j5 kq t527 t530 x165_70 t514 t515 = some r) ∧ Aside0 (kq ≤ k3) ∧ Aside0 (Kd.R (Kd.int .i64) 3 wc w.heap.size (fun k_ => some k_ ≠ ((.slice Ao15 t515.length co15) : Value).ownBlock) v528 t527) ∧ Aside0 (Kd.R (Kd.int .i64) 3 wc w.heap.size (fun k_ => some k_ ≠ (v528 : Value).ownBlock) (.slice Ao15 t515.length co15) t515) ∧ Aside0 (wc.heap[gb518]? = some (.cells #[.int .i64 t514, (.slice Ao15 t515.length co15)] 27 (0, 0))) ∧ Aside0 (Below w.heap.size w wc))
              case first =>
               have H := HC71.out
               clear HC71
               by_cases c73 : t546 = true
               ·
                subst c73
                have H1 : (if x24_3 = (wrap64 (x16_2 + 1)) then (if t514 ≥ 3 then (laws_FnStrongParts.j5 k3 t527 t530 (t530 != (x16_2 == 0)) t514 t515) else (laws_FnStrongParts.j5 k3 t527 t530 false t514 t515)) else (laws_FnStrongParts.j5 k3 t527 t530 true t514 t515)) = some r := by rw [if_pos rfl] at H; exact H
                clear H
                have H := H1
                clear H1
                by_cases c74 : x24_3 = (wrap64 (x16_2 + 1))
                ·
                 rw [if_pos c74] at H
                 have c74b0 : (x24_3 == (wrap64 (x16_2 + 1))) = true := beq_iff_eq.mpr c74
                 have c74b1 : (x24_3 != (wrap64 (x16_2 + 1))) = false := bne_eq_false_iff_eq.mpr c74
                 clear c74
                 (first | rw [c74b0] | (simp only [i64_w, i32_w]; rw [c74b0]) | skip)
                 by_cases c75 : t514 ≥ 3
                 ·
                  rw [if_pos c75] at H
                  have c75b0 : decide (3 ≤ t514) = true := De c75
                  clear c75
                  have H' := Am H
                  clear H
                  have hcz76_0 : wr.cell? ⟨gb518, 0, none⟩ = some (.int .i64 t514) := (Kc BK518.out 0).trans rfl
                  have hcz76_1 : wr.cell? ⟨gb518, 1, none⟩ = some (.slice Ao15 t515.length co15) := (Kc BK518.out 1).trans rfl
                  have hfz76_0 := Kf BK518.out 0
                  have hfz76_1 := Kf BK518.out 1
                  go_wp2
                  repeat (go_quiet (fail); try go_wp2)
                  go_meet
                  case rel => exact ⟨_, ((t530 != (x16_2 == 0))), (by first | rfl | (simp; done) | (simp [*]; done)), H', ⟨by have := HJ10.out; have := HK2.out; have := HK3.out; first | omega | exact Nat.le_refl _⟩, ⟨by (with_reducible repeat (first | apply Ra | apply Rn | apply Rd)); exact Kd.R_mono HO_10.out (fun _ hk => hk.2)⟩, ⟨by (with_reducible repeat (first | apply Ra | apply Rn | apply Rd)); exact Kd.R_mono HO_519001.out (fun _ hk => hk.1)⟩, ⟨by (with_reducible repeat (first | refine Kn ?_ _ | refine Ke ?_ | refine Ka ?_ _)); exact BK518.out⟩, ⟨by repeat (first | (with_reducible first | exact HB.out | apply Ba | apply Bn | apply Bd | refine Bs ?_ GE518.out) | exact HB.out)⟩⟩
                 ·
                  rw [if_neg c75] at H
                  have c75b0 : decide (3 ≤ t514) = false := Df c75
                  clear c75
                  have H' := Am H
                  clear H
                  have hcz77_0 : wr.cell? ⟨gb518, 0, none⟩ = some (.int .i64 t514) := (Kc BK518.out 0).trans rfl
                  have hcz77_1 : wr.cell? ⟨gb518, 1, none⟩ = some (.slice Ao15 t515.length co15) := (Kc BK518.out 1).trans rfl
                  have hfz77_0 := Kf BK518.out 0
                  have hfz77_1 := Kf BK518.out 1
                  go_wp2
                  repeat (go_quiet (fail); try go_wp2)
                  go_meet
                  case rel => exact ⟨_, (false), (by first | rfl | (simp; done) | (simp [*]; done)), H', ⟨by have := HJ10.out; have := HK2.out; have := HK3.out; first | omega | exact Nat.le_refl _⟩, ⟨by (with_reducible repeat (first | apply Ra | apply Rn | apply Rd)); exact Kd.R_mono HO_10.out (fun _ hk => hk.2)⟩, ⟨by (with_reducible repeat (first | apply Ra | apply Rn | apply Rd)); exact Kd.R_mono HO_519001.out (fun _ hk => hk.1)⟩, ⟨by (with_reducible repeat (first | refine Kn ?_ _ | refine Ke ?_ | refine Ka ?_ _)); exact BK518.out⟩, ⟨by repeat (first | (with_reducible first | exact HB.out | apply Ba | apply Bn | apply Bd | refine Bs ?_ GE518.out) | exact HB.out)⟩⟩
                ·
                 rw [if_neg c74] at H
                 have c74b0 : (x24_3 == (wrap64 (x16_2 + 1))) = false := beq_eq_false_iff_ne.mpr c74
                 have c74b1 : (x24_3 != (wrap64 (x16_2 + 1))) = true := bne_iff_ne.mpr c74
                 (first | rw [c74b0] | (simp only [i64_w, i32_w]; rw [c74b0]) | skip)
                 have H' := Am H
                 clear H
                 go_wp2
                 repeat (go_quiet (fail); try go_wp2)
                 go_meet
                 case rel => exact ⟨_, (true), (by first | rfl | (simp; done) | (simp [*]; done)), H', ⟨by have := HJ10.out; have := HK2.out; have := HK3.out; first | omega | exact Nat.le_refl _⟩, ⟨by (with_reducible repeat (first | apply Ra | apply Rn | apply Rd)); exact Kd.R_mono HO_10.out (fun _ hk => hk.2)⟩, ⟨by (with_reducible repeat (first | apply Ra | apply Rn | apply Rd)); exact Kd.R_mono HO_519001.out (fun _ hk => hk.1)⟩, ⟨by (with_reducible repeat (first | refine Kn ?_ _ | refine Ke ?_ | refine Ka ?_ _)); exact BK518.out⟩, ⟨by repeat (first | (with_reducible first | exact HB.out | apply Ba | apply Bn | apply Bd | refine Bs ?_ GE518.out) | exact HB.out)⟩⟩
               ·
                replace c73 := Bool.eq_false_iff.mpr c73
                subst c73
                have H1 : (laws_FnStrongParts.j5 k3 t527 t530 true t514 t515) = some r := by rw [if_neg (show ¬ (false = true) by decide)] at H; exact H
                clear H
                have H := H1
                clear H1
                have H' := Am H
                clear H
                go_wp2
                repeat (go_quiet (fail); try go_wp2)
                go_meet
                case rel => exact ⟨_, (true), (by first | rfl | (simp; done) | (simp [*]; done)), H', ⟨by have := HJ10.out; have := HK2.out; have := HK3.out; first | omega | exact Nat.le_refl _⟩, ⟨by (with_reducible repeat (first | apply Ra | apply Rn | apply Rd)); exact Kd.R_mono HO_10.out (fun _ hk => hk.2)⟩, ⟨by (with_reducible repeat (first | apply Ra | apply Rn | apply Rd)); exact Kd.R_mono HO_519001.out (fun _ hk => hk.1)⟩, ⟨by (with_reducible repeat (first | refine Kn ?_ _ | refine Ke ?_ | refine Ka ?_ _)); exact BK518.out⟩, ⟨by repeat (first | (with_reducible first | exact HB.out | apply Ba | apply Bn | apply Bd | refine Bs ?_ GE518.out) | exact HB.out)⟩⟩
              case rest =>
               clear HC71
               (try clear c1); (try clear c2); (try clear p2); (try clear c3); (try clear c4); (try clear c5); (try clear p5); (try clear q5); (try clear hx5); (try clear c6); (try clear p6); (try clear c7); (try clear c25); (try clear c25b0); (try clear c25b1); (try clear c25b2); (try clear c27); (try clear c28); (try clear c28b0); (try clear c28b1); (try clear c28b2); (try clear c32); (try clear c43); (try clear c44); (try clear c46); (try clear c46b0); (try clear c47); (try clear c47b0); (try clear c48); (try clear c48b0); (try clear c50); (try clear c50b0); (try clear c51); (try clear c51b0); (try clear c52); (try clear c52b0); (try clear c53); (try clear c53b0); (try clear c54); (try clear c54b0); (try clear p54); (try clear q54); (try clear hx54); (try clear c55); (try clear c55b0); (try clear c56); (try clear c56b0); (try clear c58); (try clear c64); (try clear c64b0); (try clear p64); (try clear c66); (try clear c66b0); (try clear c67); (try clear c67b0); (try clear c68); (try clear c68b0); (try clear c68b1); (try clear c73); (try clear c74); (try clear c74b0); (try clear c74b1); (try clear c75); (try clear c75b0); (try clear hcz14_0); (try clear hcz14_1); (try clear hcz17_0); (try clear hcz17_1); (try clear hcz19_0); (try clear hcz19_1); (try clear hcz21_0); (try clear hcz21_1); (try clear hcz23_0); (try clear hcz23_1); (try clear hcz59_0); (try clear hcz59_1); (try clear hcz60_0); (try clear hcz60_1); (try clear hcz76_0); (try clear hcz76_1); (try clear hcz77_0); (try clear hcz77_1); (try clear hfz14_0); (try clear hfz14_1); (try clear hfz17_0); (try clear hfz17_1); (try clear hfz19_0); (try clear hfz19_1); (try clear hfz21_0); (try clear hfz21_1); (try clear hfz23_0); (try clear hfz23_1); (try clear hfz59_0); (try clear hfz59_1); (try clear hfz60_0); (try clear hfz60_1); (try clear hfz76_0); (try clear hfz76_1); (try clear hfz77_0); (try clear hfz77_1); (try clear hx541_0); (try clear hx542_0); (try clear hx543_0); (try clear hx549_0); (try clear p2); (try clear p5); (try clear p54); (try clear p541); (try clear p542); (try clear p543); (try clear p549); (try clear p6); (try clear q5); (try clear q54); (try clear q541); (try clear q542); (try clear q543); (try clear q549)
               obtain ⟨kq, x165_70, rfl, HA, HJ70, HO_10, HO_519001, BK518, HB⟩ := hcut
               cases kq with
               | zero => exact absurd HA.out (by simp [laws_FnStrongParts.j5])
               | succ kj70 =>
                have H := HA.out
                clear HA
                simp only [laws_FnStrongParts.j5] at H
                by_cases c78 : x165_70 = true
                ·
                 subst c78
                 have H1 : (some false) = some r := by rw [if_pos rfl] at H; exact H
                 clear H
                 have H := H1
                 clear H1
                 obtain rfl := Option.some.inj H
                 go_wp2
                 repeat (go_quiet (fail); try go_wp2)
                 go_ret
                 exact ⟨by first | rfl | (simp [errW_none, errW_some] <;> rfl) | (simp [*, errW_none, errW_some] <;> rfl), by repeat (first | (with_reducible first | exact HB.out | apply Ba | apply Bn | apply Bd | refine Bs ?_ GE518.out) | exact HB.out)⟩
                ·
                 replace c78 := Bool.eq_false_iff.mpr c78
                 subst c78
                 have H1 : (if t530 = true then (if 0 < (t527.length : Int) then (if (rd t527 0) = 0 then (laws_FnStrongParts.j6 kj70 t527 ((t527.length : Int) != t514) t514 t515) else (laws_FnStrongParts.j6 kj70 t527 true t514 t515)) else (none)) else (some true)) = some r := by rw [if_neg (show ¬ (false = true) by decide)] at H; exact H
                 clear H
                 have H := H1
                 clear H1
                 by_cases c79 : t530 = true
                 ·
                  subst c79
                  have H1 : (if 0 < (t527.length : Int) then (if (rd t527 0) = 0 then (laws_FnStrongParts.j6 kj70 t527 ((t527.length : Int) != t514) t514 t515) else (laws_FnStrongParts.j6 kj70 t527 true t514 t515)) else (none)) = some r := by rw [if_pos rfl] at H; exact H
                  clear H
                  have H := H1
                  clear H1
                  have HC80 := Am H
                  clear H
                  go_upto_region 37 with (fail)
                  repeat (go_quiet (fail); go_upto_region 37 with (fail))
                  go_cut [177] (fun v177 wc => ∃ (kq : Nat) (x177_79 : Bool), v177 = .bool x177_79 ∧ Aside0 (laws_FnStrongParts.j6 kq t527 x177_79 t514 t515 = some r) ∧ Aside0 (kq ≤ kj70) ∧ Aside0 (Kd.R (Kd.int .i64) 3 wc w.heap.size (fun k_ => some k_ ≠ ((.slice Ao15 t515.length co15) : Value).ownBlock) v528 t527) ∧ Aside0 (Kd.R (Kd.int .i64) 3 wc w.heap.size (fun k_ => some k_ ≠ (v528 : Value).ownBlock) (.slice Ao15 t515.length co15) t515) ∧ Aside0 (wc.heap[gb518]? = some (.cells #[.int .i64 t514, (.slice Ao15 t515.length co15)] 27 (0, 0))) ∧ Aside0 (Below w.heap.size w wc))
                  case first =>
                   have H := HC80.out
                   clear HC80
                   by_cases c81 : 0 < (t527.length : Int)
                   ·
                    rw [if_pos c81] at H
                    have c81b0 : decide (0 < (t527.length : Int)) = true := De c81
                    have c81b1 : decide (0 < t527.length) = true := De (by omega)
                    clear c81
                    (first | rw [c81b0] | (simp only [i64_w, i32_w]; rw [c81b0]) | skip)
                    by_cases c82 : (rd t527 0) = 0
                    ·
                     rw [if_pos c82] at H
                     have c82b0 : ((rd t527 0) == 0) = true := beq_iff_eq.mpr c82
                     have c82b1 : ((rd t527 0) != 0) = false := bne_eq_false_iff_eq.mpr c82
                     clear c82
                     have H' := Am H
                     clear H
                     obtain ⟨Ao83, co83, eo83⟩ := Kd.R_slice HO_10.out
                     subst eo83
                     have p550 : 0 ≤ (0 : Int) := (by omega)
                     have q550 : 0 < (t527.length : Int) := Oe (by first | (with_reducible assumption) | assumption)
                     obtain ⟨ad550, e550, hx550_0⟩ := Kd.at_int (Kd.R_reads' HO_10.out).2.2 0 p550 q550
                     cases e550
                     have qi550 : (0 < t527.length) = True := eq_true (by omega)
                     (try rw [show ((0 : Int)).toNat = 0 from rfl] at hx550_0)
                     (try rw [Addr.add_zero'] at hx550_0)
                     replace p550 := eq_true p550
                     replace q550 := eq_true q550
                     have hcz84_0 : wc.cell? ⟨gb518, 0, none⟩ = some (.int .i64 t514) := (Kc BK518.out 0).trans rfl
                     have hcz84_1 : wc.cell? ⟨gb518, 1, none⟩ = some (.slice Ao15 t515.length co15) := (Kc BK518.out 1).trans rfl
                     have hfz84_0 := Kf BK518.out 0
                     have hfz84_1 := Kf BK518.out 1
                     go_wp2
                     repeat (go_quiet (fail); try go_wp2)
                     go_meet
                     case rel => exact ⟨_, (((t527.length : Int) != t514)), (by first | rfl | (simp; done) | (simp [*]; done)), H', ⟨by have := HJ10.out; have := HK2.out; have := HK3.out; have := HJ70.out; first | omega | exact Nat.le_refl _⟩, ⟨by (with_reducible repeat (first | apply Ra | apply Rn | apply Rd)); exact HO_10.out⟩, ⟨by (with_reducible repeat (first | apply Ra | apply Rn | apply Rd)); exact HO_519001.out⟩, ⟨by (with_reducible repeat (first | refine Kn ?_ _ | refine Ke ?_ | refine Ka ?_ _)); exact BK518.out⟩, ⟨by repeat (first | (with_reducible first | exact HB.out | apply Ba | apply Bn | apply Bd | refine Bs ?_ GE518.out) | exact HB.out)⟩⟩
                    ·
                     rw [if_neg c82] at H
                     have c82b0 : ((rd t527 0) == 0) = false := beq_eq_false_iff_ne.mpr c82
                     have c82b1 : ((rd t527 0) != 0) = true := bne_iff_ne.mpr c82
                     have H' := Am H
                     clear H
                     obtain ⟨Ao85, co85, eo85⟩ := Kd.R_slice HO_10.out
                     subst eo85
                     have p550 : 0 ≤ (0 : Int) := (by omega)
                     have q550 : 0 < (t527.length : Int) := Oe (by first | (with_reducible assumption) | assumption)
                     obtain ⟨ad550, e550, hx550_0⟩ := Kd.at_int (Kd.R_reads' HO_10.out).2.2 0 p550 q550
                     cases e550
                     have qi550 : (0 < t527.length) = True := eq_true (by omega)
                     (try rw [show ((0 : Int)).toNat = 0 from rfl] at hx550_0)
                     (try rw [Addr.add_zero'] at hx550_0)
                     replace p550 := eq_true p550
                     replace q550 := eq_true q550
                     go_wp2
                     repeat (go_quiet (fail); try go_wp2)
                     go_meet
                     case rel => exact ⟨_, (true), (by first | rfl | (simp; done) | (simp [*]; done)), H', ⟨by have := HJ10.out; have := HK2.out; have := HK3.out; have := HJ70.out; first | omega | exact Nat.le_refl _⟩, ⟨by (with_reducible repeat (first | apply Ra | apply Rn | apply Rd)); exact HO_10.out⟩, ⟨by (with_reducible repeat (first | apply Ra | apply Rn | apply Rd)); exact HO_519001.out⟩, ⟨by (with_reducible repeat (first | refine Kn ?_ _ | refine Ke ?_ | refine Ka ?_ _)); exact BK518.out⟩, ⟨by repeat (first | (with_reducible first | exact HB.out | apply Ba | apply Bn | apply Bd | refine Bs ?_ GE518.out) | exact HB.out)⟩⟩
                   ·
                    rw [if_neg c81] at H
                    exact absurd H (by simp)
                  case rest =>
                   clear HC80
                   (try clear c1); (try clear c2); (try clear p2); (try clear c3); (try clear c4); (try clear c5); (try clear p5); (try clear q5); (try clear hx5); (try clear qi5); (try clear c6); (try clear p6); (try clear c7); (try clear c8); (try clear c25); (try clear c25b0); (try clear c25b1); (try clear c25b2); (try clear c27); (try clear c28); (try clear c28b0); (try clear c28b1); (try clear c28b2); (try clear c32); (try clear c43); (try clear c44); (try clear c46); (try clear c46b0); (try clear c47); (try clear c47b0); (try clear c48); (try clear c48b0); (try clear c50); (try clear c50b0); (try clear c51); (try clear c51b0); (try clear c52); (try clear c52b0); (try clear c53); (try clear c53b0); (try clear c54); (try clear c54b0); (try clear p54); (try clear q54); (try clear hx54); (try clear c55); (try clear c55b0); (try clear p55); (try clear q55); (try clear hx55); (try clear qi55); (try clear c56); (try clear c56b0); (try clear c58); (try clear c64); (try clear c64b0); (try clear p64); (try clear c66); (try clear c66b0); (try clear c67); (try clear c67b0); (try clear c68); (try clear c68b0); (try clear c68b1); (try clear c73); (try clear c74); (try clear c74b0); (try clear c74b1); (try clear c75); (try clear c75b0); (try clear c78); (try clear c79); (try clear c81); (try clear c81b0); (try clear c81b1); (try clear c82); (try clear c82b0); (try clear c82b1); (try clear hcz14_0); (try clear hcz14_1); (try clear hcz17_0); (try clear hcz17_1); (try clear hcz19_0); (try clear hcz19_1); (try clear hcz21_0); (try clear hcz21_1); (try clear hcz23_0); (try clear hcz23_1); (try clear hcz59_0); (try clear hcz59_1); (try clear hcz60_0); (try clear hcz60_1); (try clear hcz76_0); (try clear hcz76_1); (try clear hcz77_0); (try clear hcz77_1); (try clear hcz84_0); (try clear hcz84_1); (try clear hfz14_0); (try clear hfz14_1); (try clear hfz17_0); (try clear hfz17_1); (try clear hfz19_0); (try clear hfz19_1); (try clear hfz21_0); (try clear hfz21_1); (try clear hfz23_0); (try clear hfz23_1); (try clear hfz59_0); (try clear hfz59_1); (try clear hfz60_0); (try clear hfz60_1); (try clear hfz76_0); (try clear hfz76_1); (try clear hfz77_0); (try clear hfz77_1); (try clear hfz84_0); (try clear hfz84_1); (try clear hx541_0); (try clear hx542_0); (try clear hx543_0); (try clear hx549_0); (try clear hx550_0); (try clear p2); (try clear p5); (try clear p54); (try clear p541); (try clear p542); (try clear p543); (try clear p549); (try clear p550); (try clear p6); (try clear p64); (try clear q5); (try clear q54); (try clear q541); (try clear q542); (try clear q543); (try clear q549); (try clear q550)
                   obtain ⟨kq, x177_79, rfl, HA, HJ79, HO_10, HO_519001, BK518, HB⟩ := hcut
                   cases kq with
                   | zero => exact absurd HA.out (by simp [laws_FnStrongParts.j6])
                   | succ kj79 =>
                    have H := HA.out
                    clear HA
                    simp only [laws_FnStrongParts.j6] at H
                    by_cases c86 : x177_79 = true
                    ·
                     subst c86
                     have H1 : (some false) = some r := by rw [if_pos rfl] at H; exact H
                     clear H
                     have H := H1
                     clear H1
                     obtain rfl := Option.some.inj H
                     go_wp2
                     repeat (go_quiet (fail); try go_wp2)
                     go_ret
                     exact ⟨by first | rfl | (simp [errW_none, errW_some] <;> rfl) | (simp [*, errW_none, errW_some] <;> rfl), by repeat (first | (with_reducible first | exact HB.out | apply Ba | apply Bn | apply Bd | refine Bs ?_ GE518.out) | exact HB.out)⟩
                    ·
                     replace c86 := Bool.eq_false_iff.mpr c86
                     subst c86
                     have H1 : (laws_FnStrongParts.l3 kj79 t527 t527 (t527.length : Int) 0 t514 t515) = some r := by rw [if_neg (show ¬ (false = true) by decide)] at H; exact H
                     clear H
                     have H := H1
                     clear H1
                     have H' := Am H
                     clear H
                     obtain ⟨Ao87, co87, eo87⟩ := Kd.R_slice HO_10.out
                     subst eo87
                     go_wp2
                     repeat (go_quiet (fail); try go_wp2)
                     go_loopg [180] kj79 (fun kq v180 w' => ∃ (x180_6 : Int), v180 = .int .i64 x180_6 ∧ Aside0 (laws_FnStrongParts.l3 kq t527 t527 (t527.length : Int) x180_6 t514 t515 = some r) ∧ Aside0 (kq ≤ kj79) ∧ Aside0 (Kd.R (Kd.int .i64) 3 w' w.heap.size (fun k_ => some k_ ≠ ((.slice Ao15 t515.length co15) : Value).ownBlock) (.slice Ao87 t527.length co87) t527) ∧ Aside0 (Kd.R (Kd.int .i64) 3 w' w.heap.size (fun k_ => some k_ ≠ ((.slice Ao15 t515.length co15) : Value).ownBlock) (.slice Ao87 t527.length co87) t527) ∧ Aside0 (Kd.R (Kd.int .i64) 3 w' w.heap.size (fun k_ => some k_ ≠ ((.slice Ao87 t527.length co87) : Value).ownBlock ∧ some k_ ≠ ((.slice Ao87 t527.length co87) : Value).ownBlock) (.slice Ao15 t515.length co15) t515) ∧ Aside0 (w'.heap[gb518]? = some (.cells #[.int .i64 t514, (.slice Ao15 t515.length co15)] 27 (0, 0))) ∧ Aside0 (Below w.heap.size w w'))
                     case atStart => exact ⟨(0), (by first | rfl | (simp; done) | (simp [*]; done)), H', ⟨Nat.le_refl _⟩, ⟨by (with_reducible repeat (first | apply Ra | apply Rn | apply Rd)); exact HO_10.out⟩, ⟨by (with_reducible repeat (first | apply Ra | apply Rn | apply Rd)); exact HO_10.out⟩, ⟨by (with_reducible repeat (first | apply Ra | apply Rn | apply Rd)); exact Kd.R_mono HO_519001.out (fun _ hk => ⟨hk, hk⟩)⟩, ⟨by (with_reducible repeat (first | refine Kn ?_ _ | refine Ke ?_ | refine Ka ?_ _)); exact BK518.out⟩, ⟨by repeat (first | (with_reducible first | exact HB.out | apply Ba | apply Bn | apply Bd | refine Bs ?_ GE518.out) | exact HB.out)⟩⟩
                     case round =>
                      as_aux_lemma =>
                       clear H'
                       (try clear c1); (try clear c2); (try clear p2); (try clear c3); (try clear c4); (try clear c5); (try clear p5); (try clear q5); (try clear hx5); (try clear qi5); (try clear c6); (try clear p6); (try clear c7); (try clear c8); (try clear c25); (try clear c25b0); (try clear c25b1); (try clear c25b2); (try clear c27); (try clear c28); (try clear c28b0); (try clear c28b1); (try clear c28b2); (try clear c32); (try clear c43); (try clear c44); (try clear c46); (try clear c46b0); (try clear c47); (try clear c47b0); (try clear c48); (try clear c48b0); (try clear c50); (try clear c50b0); (try clear c51); (try clear c51b0); (try clear c52); (try clear c52b0); (try clear c53); (try clear c53b0); (try clear c54); (try clear c54b0); (try clear p54); (try clear q54); (try clear hx54); (try clear c55); (try clear c55b0); (try clear p55); (try clear q55); (try clear hx55); (try clear qi55); (try clear c56); (try clear c56b0); (try clear c58); (try clear c64); (try clear c64b0); (try clear p64); (try clear c66); (try clear c66b0); (try clear c67); (try clear c67b0); (try clear c68); (try clear c68b0); (try clear c68b1); (try clear c73); (try clear c74); (try clear c74b0); (try clear c74b1); (try clear c75); (try clear c75b0); (try clear c78); (try clear c79); (try clear c81); (try clear c81b0); (try clear c81b1); (try clear c82); (try clear c82b0); (try clear c82b1); (try clear c86); (try clear hcz14_0); (try clear hcz14_1); (try clear hcz17_0); (try clear hcz17_1); (try clear hcz19_0); (try clear hcz19_1); (try clear hcz21_0); (try clear hcz21_1); (try clear hcz23_0); (try clear hcz23_1); (try clear hcz59_0); (try clear hcz59_1); (try clear hcz60_0); (try clear hcz60_1); (try clear hcz76_0); (try clear hcz76_1); (try clear hcz77_0); (try clear hcz77_1); (try clear hcz84_0); (try clear hcz84_1); (try clear hfz14_0); (try clear hfz14_1); (try clear hfz17_0); (try clear hfz17_1); (try clear hfz19_0); (try clear hfz19_1); (try clear hfz21_0); (try clear hfz21_1); (try clear hfz23_0); (try clear hfz23_1); (try clear hfz59_0); (try clear hfz59_1); (try clear hfz60_0); (try clear hfz60_1); (try clear hfz76_0); (try clear hfz76_1); (try clear hfz77_0); (try clear hfz77_1); (try clear hfz84_0); (try clear hfz84_1); (try clear hx541_0); (try clear hx542_0); (try clear hx543_0); (try clear hx549_0); (try clear hx550_0); (try clear p2); (try clear p5); (try clear p54); (try clear p541); (try clear p542); (try clear p543); (try clear p549); (try clear p55); (try clear p550); (try clear p6); (try clear p64); (try clear q5); (try clear q54); (try clear q541); (try clear q542); (try clear q543); (try clear q549); (try clear q55); (try clear q550)
                       obtain ⟨x180_6, rfl, HA, HK6, HO_10, HO_178, HO_519001, BK518, HB⟩ := hrel
                       cases gk with
                       | zero => exact absurd HA.out (by simp [laws_FnStrongParts.l3])
                       | succ k6 =>
                        have H := HA.out
                        clear HA
                        simp only [laws_FnStrongParts.l3] at H
                        by_cases c88 : x180_6 < (t527.length : Int)
                        ·
                         rw [if_pos c88] at H
                         have c88b0 : decide (x180_6 < (t527.length : Int)) = true := De c88
                         clear c88
                         by_cases c89 : 0 ≤ x180_6
                         ·
                          rw [if_pos c89] at H
                          have c89b0 : decide (0 ≤ x180_6) = true := De c89
                          clear c89
                          by_cases c90 : x180_6 < (t527.length : Int)
                          ·
                           rw [if_pos c90] at H
                           have c90b0 : decide (x180_6 < (t527.length : Int)) = true := De c90
                           clear c90
                           by_cases c91 : 0 ≤ (rd t527 x180_6)
                           ·
                            rw [if_pos c91] at H
                            have c91b0 : decide (0 ≤ (rd t527 x180_6)) = true := De c91
                            clear c91
                            by_cases c92 : (rd t527 x180_6) < (t515.length : Int)
                            ·
                             rw [if_pos c92] at H
                             have c92b0 : decide ((rd t527 x180_6) < (t515.length : Int)) = true := De c92
                             clear c92
                             by_cases c93 : (t527.length : Int) = 0
                             ·
                              rw [if_pos c93] at H
                              exact absurd H (by simp)
                             ·
                              rw [if_neg c93] at H
                              have c93b0 : ((t527.length : Int) == 0) = false := beq_eq_false_iff_ne.mpr c93
                              have c93b1 : ((t527.length : Int) != 0) = true := bne_iff_ne.mpr c93
                              have c93b2 : ¬ (t527 = []) := fun h_ => c93 (by rw [h_]; rfl)
                              obtain ⟨ji94, hji94⟩ : ∃ j_ : Int, (Int.tmod (wrap64 (x180_6 + 1)) (t527.length : Int)) = j_ := ⟨_, rfl⟩
                              have hjw94 : (IntKind.i64.wrap (x180_6 + 1)).tmod (t527.length : Int) = ji94 := by rw [i64_w]; exact hji94
                              replace H : (if 0 ≤ (ji94) then (if (ji94) < (t527.length : Int) then ((laws_yIn.f (rd t515 (rd t527 x180_6)) (rd t527 (ji94))).bind fun t554 => (if t554 = true then (if x180_6 ≤ (t527.length : Int) then ((laws_yHas.f k6 (t527.take (x180_6 : Int).toNat) (rd t527 x180_6)).bind fun t559 => (if t559 = true then (some false) else (laws_FnStrongParts.l3 k6 t527 t527 (t527.length : Int) (wrap64 (x180_6 + 1)) t514 t515))) else (none)) else (some false))) else (none)) else (none)) = some r := by first | (rw [hji94] at H; exact H) | (simp only [hji94] at H ⊢; exact H)
                              by_cases c95 : 0 ≤ (ji94)
                              ·
                               rw [if_pos c95] at H
                               have c95b0 : decide (0 ≤ (ji94)) = true := De c95
                               clear c95
                               by_cases c96 : (ji94) < (t527.length : Int)
                               ·
                                rw [if_pos c96] at H
                                have c96b0 : decide ((ji94) < (t527.length : Int)) = true := De c96
                                clear c96
                                replace H := Option.bind_eq_some_iff.mp H
                                obtain ⟨t554, A970, H⟩ := H
                                replace H : (if t554 = true then (if x180_6 ≤ (t527.length : Int) then ((laws_yHas.f k6 (t527.take (x180_6 : Int).toNat) (rd t527 x180_6)).bind fun t559 => (if t559 = true then (some false) else (laws_FnStrongParts.l3 k6 t527 t527 (t527.length : Int) (wrap64 (x180_6 + 1)) t514 t515))) else (none)) else (some false)) = some r := H
                                have A97 := Am A970
                                clear A970
                                by_cases c98 : t554 = true
                                ·
                                 subst c98
                                 have H1 : (if x180_6 ≤ (t527.length : Int) then ((laws_yHas.f k6 (t527.take (x180_6 : Int).toNat) (rd t527 x180_6)).bind fun t559 => (if t559 = true then (some false) else (laws_FnStrongParts.l3 k6 t527 t527 (t527.length : Int) (wrap64 (x180_6 + 1)) t514 t515))) else (none)) = some r := by rw [if_pos rfl] at H; exact H
                                 clear H
                                 have H := H1
                                 clear H1
                                 have c99b0 := eq_true (Oe (by first | (with_reducible assumption) | assumption) : 0 ≤ x180_6)
                                 by_cases c100 : x180_6 ≤ (t527.length : Int)
                                 ·
                                  rw [if_pos c100] at H
                                  have c100b0 := eq_true c100
                                  have c100b1 : decide (x180_6 ≤ (t527.length : Int)) = true := De c100
                                  clear c100
                                  obtain ⟨y555, hy555⟩ : ∃ y_ : List Int, y_ = (t527.take (x180_6 : Int).toNat) := ⟨_, rfl⟩
                                  replace H : ((laws_yHas.f k6 y555 (rd t527 x180_6)).bind fun t559 => (if t559 = true then (some false) else (laws_FnStrongParts.l3 k6 t527 t527 (t527.length : Int) (wrap64 (x180_6 + 1)) t514 t515))) = some r := by first | (rw [hy555]; with_reducible exact H) | (have H2_ := (Option.bind_some _ _).symm.trans H; rw [hy555]; with_reducible exact H2_) | (have H2_ := (Option.bind_some _ _).symm.trans H; with_reducible exact H2_) | with_reducible exact H | (rw [hy555]; exact H) | exact H
                                  have Ny555 := Am hy555
                                  clear hy555
                                  replace H := Option.bind_eq_some_iff.mp H
                                  obtain ⟨t559, A1010, H⟩ := H
                                  replace H : (if t559 = true then (some false) else (laws_FnStrongParts.l3 k6 t527 t527 (t527.length : Int) (wrap64 (x180_6 + 1)) t514 t515)) = some r := H
                                  have A101 := Am A1010
                                  clear A1010
                                  by_cases c102 : t559 = true
                                  ·
                                   subst c102
                                   have H1 : (some false) = some r := by rw [if_pos rfl] at H; exact H
                                   clear H
                                   have H := H1
                                   clear H1
                                   obtain rfl := Option.some.inj H
                                   have p551 : 0 ≤ (x180_6 : Int) := Oe (by first | (with_reducible assumption) | assumption)
                                   have q551 : x180_6 < (t527.length : Int) := Oe (by first | (with_reducible assumption) | assumption)
                                   obtain ⟨ad551, e551, hx551_0⟩ := Kd.at_int (Kd.R_reads' HO_178.out).2.2 x180_6 p551 q551
                                   cases e551
                                   replace p551 := eq_true p551
                                   replace q551 := eq_true q551
                                   have hcz103_0 : wr.cell? ⟨gb518, 0, none⟩ = some (.int .i64 t514) := (Kc BK518.out 0).trans rfl
                                   have hcz103_1 : wr.cell? ⟨gb518, 1, none⟩ = some (.slice Ao15 t515.length co15) := (Kc BK518.out 1).trans rfl
                                   have hfz103_0 := Kf BK518.out 0
                                   have hfz103_1 := Kf BK518.out 1
                                   have p552 : 0 ≤ ((rd t527 x180_6) : Int) := Oe (by first | (with_reducible assumption) | assumption)
                                   have q552 : (rd t527 x180_6) < (t515.length : Int) := Oe (by first | (with_reducible assumption) | assumption)
                                   obtain ⟨ad552, e552, hx552_0⟩ := Kd.at_int (Kd.R_reads' HO_519001.out).2.2 (rd t527 x180_6) p552 q552
                                   cases e552
                                   replace p552 := eq_true p552
                                   replace q552 := eq_true q552
                                   have p553 : 0 ≤ ((ji94) : Int) := Oe (by first | (with_reducible assumption) | assumption)
                                   have q553 : (ji94) < (t527.length : Int) := Oe (by first | (with_reducible assumption) | assumption)
                                   obtain ⟨ad553, e553, hx553_0⟩ := Kd.at_int (Kd.R_reads' HO_10.out).2.2 (ji94) p553 q553
                                   obtain rfl : ad551 = ad553 := (by injection e553)
                                   replace p553 := eq_true p553
                                   replace q553 := eq_true q553
                                   go_wp2_with (first | (go_at_call 25; (with_reducible refine (laws_yIn.calls (rd t515 (rd t527 x180_6)) (rd t527 (ji94)) true _ A97.out).mono ?_); rintro e w' ⟨rfl, ⟨nd, rfl⟩⟩; (try first | exact ⟨rfl, _, World.drewN_drewN _ _ _⟩ | exact ⟨rfl, _, Eq.trans (World.drewN_drewN _ _ _) (congrArg (World.drewN _) (Nat.add_assoc _ _ _))⟩); have q104 : (x180_6 : Int) ≤ ((t527.length : Int) : Int) := Oe (by first | (with_reducible assumption) | assumption); obtain ⟨i0104, hi0104, _, hsz104, _⟩ := info_parts info3; have hroom104 : t527.length ≤ co87 := (Kd.R_reads' HO_10.out).2.1; have hC104 : Kd.C (Kd.int .i64) _ (some ad551) t527.length t527 := (Kd.R_reads' HO_10.out).2.2; have hcut104 := cut_to (P := Try.prog) 24 3 .i64 Try.underlying24 hi0104 (some ad551) t527.length co87 x180_6 (Oe (by first | (with_reducible assumption) | assumption)) q104 hroom104; have hr104 := Kd.C_take (m := (x180_6 : Int).toNat) hC104 (by omega); have hy104 : y555.length = (x180_6 : Int).toNat := (by rw [Ny555.out, List.length_take]; omega); rw [← Ny555.out] at hr104; rw [← hy104] at hcut104; have HR558 := Am hr104; have HC558 := Am (show y555.length ≤ co87 from by omega); clear hr104 hC104 hroom104 hi0104 hsz104; have KY104 := Am hy104; clear hy104; have KL104 := Am (show (x180_6 : Int).toNat ≤ t527.length from by omega); replace q104 := eq_true q104) | (go_at_call 27; (with_reducible refine (laws_yHas.calls k6 _ _ y555 (rd t527 x180_6) true _ ?side1 ?side2 A101.out).mono ?_); (case side1 => repeat (first | exact (by repeat (first | (with_reducible exact HR558.out) | (with_reducible refine Ca ?_ _) | (with_reducible refine Cn ?_ _) | (with_reducible refine Cd ?_) | exact HR558.out)) | (with_reducible refine Ca ?_ _) | (with_reducible refine Cn ?_ _) | (with_reducible refine Cd ?_))); (case side2 => exact HC558.out); rintro e w' ⟨rfl, ⟨nd, rfl⟩⟩; (try first | exact ⟨rfl, _, World.drewN_drewN _ _ _⟩ | exact ⟨rfl, _, Eq.trans (World.drewN_drewN _ _ _) (congrArg (World.drewN _) (Nat.add_assoc _ _ _))⟩)))
                                   repeat (go_quiet (first | (go_at_call 25; (with_reducible refine (laws_yIn.calls (rd t515 (rd t527 x180_6)) (rd t527 (ji94)) true _ A97.out).mono ?_); rintro e w' ⟨rfl, ⟨nd, rfl⟩⟩; (try first | exact ⟨rfl, _, World.drewN_drewN _ _ _⟩ | exact ⟨rfl, _, Eq.trans (World.drewN_drewN _ _ _) (congrArg (World.drewN _) (Nat.add_assoc _ _ _))⟩); have q104 : (x180_6 : Int) ≤ ((t527.length : Int) : Int) := Oe (by first | (with_reducible assumption) | assumption); obtain ⟨i0104, hi0104, _, hsz104, _⟩ := info_parts info3; have hroom104 : t527.length ≤ co87 := (Kd.R_reads' HO_10.out).2.1; have hC104 : Kd.C (Kd.int .i64) _ (some ad551) t527.length t527 := (Kd.R_reads' HO_10.out).2.2; have hcut104 := cut_to (P := Try.prog) 24 3 .i64 Try.underlying24 hi0104 (some ad551) t527.length co87 x180_6 (Oe (by first | (with_reducible assumption) | assumption)) q104 hroom104; have hr104 := Kd.C_take (m := (x180_6 : Int).toNat) hC104 (by omega); have hy104 : y555.length = (x180_6 : Int).toNat := (by rw [Ny555.out, List.length_take]; omega); rw [← Ny555.out] at hr104; rw [← hy104] at hcut104; have HR558 := Am hr104; have HC558 := Am (show y555.length ≤ co87 from by omega); clear hr104 hC104 hroom104 hi0104 hsz104; have KY104 := Am hy104; clear hy104; have KL104 := Am (show (x180_6 : Int).toNat ≤ t527.length from by omega); replace q104 := eq_true q104) | (go_at_call 27; (with_reducible refine (laws_yHas.calls k6 _ _ y555 (rd t527 x180_6) true _ ?side1 ?side2 A101.out).mono ?_); (case side1 => repeat (first | exact (by repeat (first | (with_reducible exact HR558.out) | (with_reducible refine Ca ?_ _) | (with_reducible refine Cn ?_ _) | (with_reducible refine Cd ?_) | exact HR558.out)) | (with_reducible refine Ca ?_ _) | (with_reducible refine Cn ?_ _) | (with_reducible refine Cd ?_))); (case side2 => exact HC558.out); rintro e w' ⟨rfl, ⟨nd, rfl⟩⟩; (try first | exact ⟨rfl, _, World.drewN_drewN _ _ _⟩ | exact ⟨rfl, _, Eq.trans (World.drewN_drewN _ _ _) (congrArg (World.drewN _) (Nat.add_assoc _ _ _))⟩))); try go_wp2_with (first | (go_at_call 25; (with_reducible refine (laws_yIn.calls (rd t515 (rd t527 x180_6)) (rd t527 (ji94)) true _ A97.out).mono ?_); rintro e w' ⟨rfl, ⟨nd, rfl⟩⟩; (try first | exact ⟨rfl, _, World.drewN_drewN _ _ _⟩ | exact ⟨rfl, _, Eq.trans (World.drewN_drewN _ _ _) (congrArg (World.drewN _) (Nat.add_assoc _ _ _))⟩); have q104 : (x180_6 : Int) ≤ ((t527.length : Int) : Int) := Oe (by first | (with_reducible assumption) | assumption); obtain ⟨i0104, hi0104, _, hsz104, _⟩ := info_parts info3; have hroom104 : t527.length ≤ co87 := (Kd.R_reads' HO_10.out).2.1; have hC104 : Kd.C (Kd.int .i64) _ (some ad551) t527.length t527 := (Kd.R_reads' HO_10.out).2.2; have hcut104 := cut_to (P := Try.prog) 24 3 .i64 Try.underlying24 hi0104 (some ad551) t527.length co87 x180_6 (Oe (by first | (with_reducible assumption) | assumption)) q104 hroom104; have hr104 := Kd.C_take (m := (x180_6 : Int).toNat) hC104 (by omega); have hy104 : y555.length = (x180_6 : Int).toNat := (by rw [Ny555.out, List.length_take]; omega); rw [← Ny555.out] at hr104; rw [← hy104] at hcut104; have HR558 := Am hr104; have HC558 := Am (show y555.length ≤ co87 from by omega); clear hr104 hC104 hroom104 hi0104 hsz104; have KY104 := Am hy104; clear hy104; have KL104 := Am (show (x180_6 : Int).toNat ≤ t527.length from by omega); replace q104 := eq_true q104) | (go_at_call 27; (with_reducible refine (laws_yHas.calls k6 _ _ y555 (rd t527 x180_6) true _ ?side1 ?side2 A101.out).mono ?_); (case side1 => repeat (first | exact (by repeat (first | (with_reducible exact HR558.out) | (with_reducible refine Ca ?_ _) | (with_reducible refine Cn ?_ _) | (with_reducible refine Cd ?_) | exact HR558.out)) | (with_reducible refine Ca ?_ _) | (with_reducible refine Cn ?_ _) | (with_reducible refine Cd ?_))); (case side2 => exact HC558.out); rintro e w' ⟨rfl, ⟨nd, rfl⟩⟩; (try first | exact ⟨rfl, _, World.drewN_drewN _ _ _⟩ | exact ⟨rfl, _, Eq.trans (World.drewN_drewN _ _ _) (congrArg (World.drewN _) (Nat.add_assoc _ _ _))⟩))))
                                   go_ret
                                   exact ⟨by first | rfl | (simp [errW_none, errW_some] <;> rfl) | (simp only [← hji94]; first | rfl | (simp [errW_none, errW_some] <;> rfl)) | (simp [*, errW_none, errW_some] <;> rfl), by repeat (first | (with_reducible first | exact HB.out | apply Ba | apply Bn | apply Bd | refine Bs ?_ GE518.out) | exact HB.out)⟩
                                  ·
                                   replace c102 := Bool.eq_false_iff.mpr c102
                                   subst c102
                                   have H1 : (laws_FnStrongParts.l3 k6 t527 t527 (t527.length : Int) (wrap64 (x180_6 + 1)) t514 t515) = some r := by rw [if_neg (show ¬ (false = true) by decide)] at H; exact H
                                   clear H
                                   have H := H1
                                   clear H1
                                   have H' := Am H
                                   clear H
                                   have p551 : 0 ≤ (x180_6 : Int) := Oe (by first | (with_reducible assumption) | assumption)
                                   have q551 : x180_6 < (t527.length : Int) := Oe (by first | (with_reducible assumption) | assumption)
                                   obtain ⟨ad551, e551, hx551_0⟩ := Kd.at_int (Kd.R_reads' HO_178.out).2.2 x180_6 p551 q551
                                   cases e551
                                   replace p551 := eq_true p551
                                   replace q551 := eq_true q551
                                   have hcz105_0 : wr.cell? ⟨gb518, 0, none⟩ = some (.int .i64 t514) := (Kc BK518.out 0).trans rfl
                                   have hcz105_1 : wr.cell? ⟨gb518, 1, none⟩ = some (.slice Ao15 t515.length co15) := (Kc BK518.out 1).trans rfl
                                   have hfz105_0 := Kf BK518.out 0
                                   have hfz105_1 := Kf BK518.out 1
                                   have p552 : 0 ≤ ((rd t527 x180_6) : Int) := Oe (by first | (with_reducible assumption) | assumption)
                                   have q552 : (rd t527 x180_6) < (t515.length : Int) := Oe (by first | (with_reducible assumption) | assumption)
                                   obtain ⟨ad552, e552, hx552_0⟩ := Kd.at_int (Kd.R_reads' HO_519001.out).2.2 (rd t527 x180_6) p552 q552
                                   cases e552
                                   replace p552 := eq_true p552
                                   replace q552 := eq_true q552
                                   have p553 : 0 ≤ ((ji94) : Int) := Oe (by first | (with_reducible assumption) | assumption)
                                   have q553 : (ji94) < (t527.length : Int) := Oe (by first | (with_reducible assumption) | assumption)
                                   obtain ⟨ad553, e553, hx553_0⟩ := Kd.at_int (Kd.R_reads' HO_10.out).2.2 (ji94) p553 q553
                                   obtain rfl : ad551 = ad553 := (by injection e553)
                                   replace p553 := eq_true p553
                                   replace q553 := eq_true q553
                                   go_wp2_with (first | (go_at_call 25; (with_reducible refine (laws_yIn.calls (rd t515 (rd t527 x180_6)) (rd t527 (ji94)) true _ A97.out).mono ?_); rintro e w' ⟨rfl, ⟨nd, rfl⟩⟩; (try first | exact ⟨rfl, _, World.drewN_drewN _ _ _⟩ | exact ⟨rfl, _, Eq.trans (World.drewN_drewN _ _ _) (congrArg (World.drewN _) (Nat.add_assoc _ _ _))⟩); have q106 : (x180_6 : Int) ≤ ((t527.length : Int) : Int) := Oe (by first | (with_reducible assumption) | assumption); obtain ⟨i0106, hi0106, _, hsz106, _⟩ := info_parts info3; have hroom106 : t527.length ≤ co87 := (Kd.R_reads' HO_10.out).2.1; have hC106 : Kd.C (Kd.int .i64) _ (some ad551) t527.length t527 := (Kd.R_reads' HO_10.out).2.2; have hcut106 := cut_to (P := Try.prog) 24 3 .i64 Try.underlying24 hi0106 (some ad551) t527.length co87 x180_6 (Oe (by first | (with_reducible assumption) | assumption)) q106 hroom106; have hr106 := Kd.C_take (m := (x180_6 : Int).toNat) hC106 (by omega); have hy106 : y555.length = (x180_6 : Int).toNat := (by rw [Ny555.out, List.length_take]; omega); rw [← Ny555.out] at hr106; rw [← hy106] at hcut106; have HR558 := Am hr106; have HC558 := Am (show y555.length ≤ co87 from by omega); clear hr106 hC106 hroom106 hi0106 hsz106; have KY106 := Am hy106; clear hy106; have KL106 := Am (show (x180_6 : Int).toNat ≤ t527.length from by omega); replace q106 := eq_true q106) | (go_at_call 27; (with_reducible refine (laws_yHas.calls k6 _ _ y555 (rd t527 x180_6) false _ ?side1 ?side2 A101.out).mono ?_); (case side1 => repeat (first | exact (by repeat (first | (with_reducible exact HR558.out) | (with_reducible refine Ca ?_ _) | (with_reducible refine Cn ?_ _) | (with_reducible refine Cd ?_) | exact HR558.out)) | (with_reducible refine Ca ?_ _) | (with_reducible refine Cn ?_ _) | (with_reducible refine Cd ?_))); (case side2 => exact HC558.out); rintro e w' ⟨rfl, ⟨nd, rfl⟩⟩; (try first | exact ⟨rfl, _, World.drewN_drewN _ _ _⟩ | exact ⟨rfl, _, Eq.trans (World.drewN_drewN _ _ _) (congrArg (World.drewN _) (Nat.add_assoc _ _ _))⟩)))
                                   repeat (go_quiet (first | (go_at_call 25; (with_reducible refine (laws_yIn.calls (rd t515 (rd t527 x180_6)) (rd t527 (ji94)) true _ A97.out).mono ?_); rintro e w' ⟨rfl, ⟨nd, rfl⟩⟩; (try first | exact ⟨rfl, _, World.drewN_drewN _ _ _⟩ | exact ⟨rfl, _, Eq.trans (World.drewN_drewN _ _ _) (congrArg (World.drewN _) (Nat.add_assoc _ _ _))⟩); have q106 : (x180_6 : Int) ≤ ((t527.length : Int) : Int) := Oe (by first | (with_reducible assumption) | assumption); obtain ⟨i0106, hi0106, _, hsz106, _⟩ := info_parts info3; have hroom106 : t527.length ≤ co87 := (Kd.R_reads' HO_10.out).2.1; have hC106 : Kd.C (Kd.int .i64) _ (some ad551) t527.length t527 := (Kd.R_reads' HO_10.out).2.2; have hcut106 := cut_to (P := Try.prog) 24 3 .i64 Try.underlying24 hi0106 (some ad551) t527.length co87 x180_6 (Oe (by first | (with_reducible assumption) | assumption)) q106 hroom106; have hr106 := Kd.C_take (m := (x180_6 : Int).toNat) hC106 (by omega); have hy106 : y555.length = (x180_6 : Int).toNat := (by rw [Ny555.out, List.length_take]; omega); rw [← Ny555.out] at hr106; rw [← hy106] at hcut106; have HR558 := Am hr106; have HC558 := Am (show y555.length ≤ co87 from by omega); clear hr106 hC106 hroom106 hi0106 hsz106; have KY106 := Am hy106; clear hy106; have KL106 := Am (show (x180_6 : Int).toNat ≤ t527.length from by omega); replace q106 := eq_true q106) | (go_at_call 27; (with_reducible refine (laws_yHas.calls k6 _ _ y555 (rd t527 x180_6) false _ ?side1 ?side2 A101.out).mono ?_); (case side1 => repeat (first | exact (by repeat (first | (with_reducible exact HR558.out) | (with_reducible refine Ca ?_ _) | (with_reducible refine Cn ?_ _) | (with_reducible refine Cd ?_) | exact HR558.out)) | (with_reducible refine Ca ?_ _) | (with_reducible refine Cn ?_ _) | (with_reducible refine Cd ?_))); (case side2 => exact HC558.out); rintro e w' ⟨rfl, ⟨nd, rfl⟩⟩; (try first | exact ⟨rfl, _, World.drewN_drewN _ _ _⟩ | exact ⟨rfl, _, Eq.trans (World.drewN_drewN _ _ _) (congrArg (World.drewN _) (Nat.add_assoc _ _ _))⟩))); try go_wp2_with (first | (go_at_call 25; (with_reducible refine (laws_yIn.calls (rd t515 (rd t527 x180_6)) (rd t527 (ji94)) true _ A97.out).mono ?_); rintro e w' ⟨rfl, ⟨nd, rfl⟩⟩; (try first | exact ⟨rfl, _, World.drewN_drewN _ _ _⟩ | exact ⟨rfl, _, Eq.trans (World.drewN_drewN _ _ _) (congrArg (World.drewN _) (Nat.add_assoc _ _ _))⟩); have q106 : (x180_6 : Int) ≤ ((t527.length : Int) : Int) := Oe (by first | (with_reducible assumption) | assumption); obtain ⟨i0106, hi0106, _, hsz106, _⟩ := info_parts info3; have hroom106 : t527.length ≤ co87 := (Kd.R_reads' HO_10.out).2.1; have hC106 : Kd.C (Kd.int .i64) _ (some ad551) t527.length t527 := (Kd.R_reads' HO_10.out).2.2; have hcut106 := cut_to (P := Try.prog) 24 3 .i64 Try.underlying24 hi0106 (some ad551) t527.length co87 x180_6 (Oe (by first | (with_reducible assumption) | assumption)) q106 hroom106; have hr106 := Kd.C_take (m := (x180_6 : Int).toNat) hC106 (by omega); have hy106 : y555.length = (x180_6 : Int).toNat := (by rw [Ny555.out, List.length_take]; omega); rw [← Ny555.out] at hr106; rw [← hy106] at hcut106; have HR558 := Am hr106; have HC558 := Am (show y555.length ≤ co87 from by omega); clear hr106 hC106 hroom106 hi0106 hsz106; have KY106 := Am hy106; clear hy106; have KL106 := Am (show (x180_6 : Int).toNat ≤ t527.length from by omega); replace q106 := eq_true q106) | (go_at_call 27; (with_reducible refine (laws_yHas.calls k6 _ _ y555 (rd t527 x180_6) false _ ?side1 ?side2 A101.out).mono ?_); (case side1 => repeat (first | exact (by repeat (first | (with_reducible exact HR558.out) | (with_reducible refine Ca ?_ _) | (with_reducible refine Cn ?_ _) | (with_reducible refine Cd ?_) | exact HR558.out)) | (with_reducible refine Ca ?_ _) | (with_reducible refine Cn ?_ _) | (with_reducible refine Cd ?_))); (case side2 => exact HC558.out); rintro e w' ⟨rfl, ⟨nd, rfl⟩⟩; (try first | exact ⟨rfl, _, World.drewN_drewN _ _ _⟩ | exact ⟨rfl, _, Eq.trans (World.drewN_drewN _ _ _) (congrArg (World.drewN _) (Nat.add_assoc _ _ _))⟩))))
                                   go_roundg k6
                                   case measure => have := HJ10.out; have := HK2.out; have := HK3.out; have := HJ70.out; have := HJ79.out; have := HK6.out; omega
                                   case rel => exact ⟨(wrap64 (x180_6 + 1)), (by first | rfl | (simp; done) | (simp [*]; done)), H', ⟨by have := HJ10.out; have := HK2.out; have := HK3.out; have := HJ70.out; have := HJ79.out; have := HK6.out; omega⟩, ⟨by (with_reducible repeat (first | apply Ra | apply Rn | apply Rd)); exact HO_10.out⟩, ⟨by (with_reducible repeat (first | apply Ra | apply Rn | apply Rd)); exact HO_178.out⟩, ⟨by (with_reducible repeat (first | apply Ra | apply Rn | apply Rd)); exact HO_519001.out⟩, ⟨by (with_reducible repeat (first | refine Kn ?_ _ | refine Ke ?_ | refine Ka ?_ _)); exact BK518.out⟩, ⟨by repeat (first | (with_reducible first | exact HB.out | apply Ba | apply Bn | apply Bd | refine Bs ?_ GE518.out) | exact HB.out)⟩⟩
                                 ·
                                  rw [if_neg c100] at H
                                  exact absurd H (by simp)
                                ·
                                 replace c98 := Bool.eq_false_iff.mpr c98
                                 subst c98
                                 have H1 : (some false) = some r := by rw [if_neg (show ¬ (false = true) by decide)] at H; exact H
                                 clear H
                                 have H := H1
                                 clear H1
                                 obtain rfl := Option.some.inj H
                                 have p551 : 0 ≤ (x180_6 : Int) := Oe (by first | (with_reducible assumption) | assumption)
                                 have q551 : x180_6 < (t527.length : Int) := Oe (by first | (with_reducible assumption) | assumption)
                                 obtain ⟨ad551, e551, hx551_0⟩ := Kd.at_int (Kd.R_reads' HO_178.out).2.2 x180_6 p551 q551
                                 cases e551
                                 replace p551 := eq_true p551
                                 replace q551 := eq_true q551
                                 have hcz107_0 : wr.cell? ⟨gb518, 0, none⟩ = some (.int .i64 t514) := (Kc BK518.out 0).trans rfl
                                 have hcz107_1 : wr.cell? ⟨gb518, 1, none⟩ = some (.slice Ao15 t515.length co15) := (Kc BK518.out 1).trans rfl
                                 have hfz107_0 := Kf BK518.out 0
                                 have hfz107_1 := Kf BK518.out 1
                                 have p552 : 0 ≤ ((rd t527 x180_6) : Int) := Oe (by first | (with_reducible assumption) | assumption)
                                 have q552 : (rd t527 x180_6) < (t515.length : Int) := Oe (by first | (with_reducible assumption) | assumption)
                                 obtain ⟨ad552, e552, hx552_0⟩ := Kd.at_int (Kd.R_reads' HO_519001.out).2.2 (rd t527 x180_6) p552 q552
                                 cases e552
                                 replace p552 := eq_true p552
                                 replace q552 := eq_true q552
                                 have p553 : 0 ≤ ((ji94) : Int) := Oe (by first | (with_reducible assumption) | assumption)
                                 have q553 : (ji94) < (t527.length : Int) := Oe (by first | (with_reducible assumption) | assumption)
                                 obtain ⟨ad553, e553, hx553_0⟩ := Kd.at_int (Kd.R_reads' HO_10.out).2.2 (ji94) p553 q553
                                 obtain rfl : ad551 = ad553 := (by injection e553)
                                 replace p553 := eq_true p553
                                 replace q553 := eq_true q553
                                 go_wp2_with (first | (go_at_call 25; (with_reducible refine (laws_yIn.calls (rd t515 (rd t527 x180_6)) (rd t527 (ji94)) false _ A97.out).mono ?_); rintro e w' ⟨rfl, ⟨nd, rfl⟩⟩; (try first | exact ⟨rfl, _, World.drewN_drewN _ _ _⟩ | exact ⟨rfl, _, Eq.trans (World.drewN_drewN _ _ _) (congrArg (World.drewN _) (Nat.add_assoc _ _ _))⟩)))
                                 repeat (go_quiet (first | (go_at_call 25; (with_reducible refine (laws_yIn.calls (rd t515 (rd t527 x180_6)) (rd t527 (ji94)) false _ A97.out).mono ?_); rintro e w' ⟨rfl, ⟨nd, rfl⟩⟩; (try first | exact ⟨rfl, _, World.drewN_drewN _ _ _⟩ | exact ⟨rfl, _, Eq.trans (World.drewN_drewN _ _ _) (congrArg (World.drewN _) (Nat.add_assoc _ _ _))⟩))); try go_wp2_with (first | (go_at_call 25; (with_reducible refine (laws_yIn.calls (rd t515 (rd t527 x180_6)) (rd t527 (ji94)) false _ A97.out).mono ?_); rintro e w' ⟨rfl, ⟨nd, rfl⟩⟩; (try first | exact ⟨rfl, _, World.drewN_drewN _ _ _⟩ | exact ⟨rfl, _, Eq.trans (World.drewN_drewN _ _ _) (congrArg (World.drewN _) (Nat.add_assoc _ _ _))⟩))))
                                 go_ret
                                 exact ⟨by first | rfl | (simp [errW_none, errW_some] <;> rfl) | (simp only [← hji94]; first | rfl | (simp [errW_none, errW_some] <;> rfl)) | (simp [*, errW_none, errW_some] <;> rfl), by repeat (first | (with_reducible first | exact HB.out | apply Ba | apply Bn | apply Bd | refine Bs ?_ GE518.out) | exact HB.out)⟩
                               ·
                                rw [if_neg c96] at H
                                exact absurd H (by simp)
                              ·
                               rw [if_neg c95] at H
                               exact absurd H (by simp)
                            ·
                             rw [if_neg c92] at H
                             exact absurd H (by simp)
                           ·
                            rw [if_neg c91] at H
                            exact absurd H (by simp)
                          ·
                           rw [if_neg c90] at H
                           exact absurd H (by simp)
                         ·
                          rw [if_neg c89] at H
                          exact absurd H (by simp)
                        ·
                         rw [if_neg c88] at H
                         have c88b0 : decide (x180_6 < (t527.length : Int)) = false := Df c88
                         clear c88
                         obtain rfl := Option.some.inj H
                         go_wp2
                         repeat (go_quiet (fail); try go_wp2)
                         go_ret
                         exact ⟨by first | rfl | (simp [errW_none, errW_some] <;> rfl) | (simp [*, errW_none, errW_some] <;> rfl), by repeat (first | (with_reducible first | exact HB.out | apply Ba | apply Bn | apply Bd | refine Bs ?_ GE518.out) | exact HB.out)⟩
                 ·
                  replace c79 := Bool.eq_false_iff.mpr c79
                  subst c79
                  have H1 : (some true) = some r := by rw [if_neg (show ¬ (false = true) by decide)] at H; exact H
                  clear H
                  have H := H1
                  clear H1
                  obtain rfl := Option.some.inj H
                  go_wp2
                  repeat (go_quiet (fail); try go_wp2)
                  go_ret
                  exact ⟨by first | rfl | (simp [errW_none, errW_some] <;> rfl) | (simp [*, errW_none, errW_some] <;> rfl), by repeat (first | (with_reducible first | exact HB.out | apply Ba | apply Bn | apply Bd | refine Bs ?_ GE518.out) | exact HB.out)⟩
     ·
      replace c44 := Bool.eq_false_iff.mpr c44
      subst c44
      have H1 : (some true) = some r := by rw [if_neg (show ¬ (false = true) by decide)] at H; exact H
      clear H
      have H := H1
      clear H1
      obtain rfl := Option.some.inj H
      go_wp2
      repeat (go_quiet (fail); try go_wp2)
      go_ret
      exact ⟨by first | rfl | (simp [errW_none, errW_some] <;> rfl) | (simp [*, errW_none, errW_some] <;> rfl), by repeat (first | (with_reducible first | exact HB.out | apply Ba | apply Bn | apply Bd | refine Bs ?_ GE518.out) | exact HB.out)⟩
def laws_FnStrongParts.Pure : Prop := ∀ (l0 : List Int) (l1 : List Int), l0.length ≤ maxLen → l0.length * 1 ≤ 140737488351232 → (∀ x ∈ l0, (Lit.int .u8 x).wf = true) → l1.length ≤ maxLen → l1.length * 1 ≤ 140737488351232 → (∀ x ∈ l1, (Lit.int .u8 x).wf = true) → ∃ k, laws_FnStrongParts.f k l0 l1 = some true
theorem laws_FnStrongParts.walk (P : laws_FnStrongParts.Pure) (a0 : Option Addr) (len0 cap0 : Nat) (z0 : List Int) (a1 : Option Addr) (len1 cap1 : Nat) (z1 : List Int) (w : World) (w0 : (a0 = none ∧ len0 = 0 ∧ cap0 = 0 ∧ z0 = []) ∨ ∃ x, a0 = some x ∧ len0 ≤ cap0 ∧ cap0 ≤ maxLen ∧ z0.length = cap0 ∧ (∀ i, i < z0.length → w.cell? (x.add i) = some (.int .u8 (z0.getD i 0))) ∧ ∀ n ∈ z0, (Lit.int .u8 n).wf = true) (y0 : len0 * 1 ≤ 140737488351232) (w1 : (a1 = none ∧ len1 = 0 ∧ cap1 = 0 ∧ z1 = []) ∨ ∃ x, a1 = some x ∧ len1 ≤ cap1 ∧ cap1 ≤ maxLen ∧ z1.length = cap1 ∧ (∀ i, i < z1.length → w.cell? (x.add i) = some (.int .u8 (z1.getD i 0))) ∧ ∀ n ∈ z1, (Lit.int .u8 n).wf = true) (y1 : len1 * 1 ≤ 140737488351232) :
  Calls Try.prog 4 #[.slice a0 len0 cap0, .slice a1 len1 cap1] w fun e w' => e = .returned (.bool true) ∧ Below w.heap.size w w' := by
 obtain ⟨l0, rfl, hr0, hm0, hw0, hc0⟩ := ReadsInt.ofRowC w0
 obtain ⟨l1, rfl, hr1, hm1, hw1, hc1⟩ := ReadsInt.ofRowC w1
 obtain ⟨k, h⟩ := P l0 l1 hm0 y0 hw0 hm1 y1 hw1
 refine (laws_FnStrongParts.calls k _ _ l0 _ _ l1 true w (Kd.C_of_reads (d := (0 : Int)) (h1 := fun _ => rfl) hr0) hc0 (Kd.C_of_reads (d := (0 : Int)) (h1 := fun _ => rfl) hr1) hc1 h).mono ?_
 rintro e w' ⟨rfl, hd⟩
 exact ⟨rfl, hd⟩
end Go.Proofs.Ytcheoendfcgjgaa.P
namespace Go.Proofs.Ytcheoendfcgjgaa.M
inductive Way (r : Nat → Nat → Bool) : Nat → Nat → Prop
  | refl (i : Nat) : Way r i i
  | tail {i j k : Nat} : Way r i j → r j k = true → Way r i k
theorem Way.trans {r : Nat → Nat → Bool} {i j k : Nat} (h : Way r i j) (g : Way r j k) : Way r i k := by
  induction g with
  | refl => exact h
  | tail _ hr ih => exact Way.tail ih hr
def bt (m : List Nat) (i j : Nat) : Bool := (m.getD i 0).testBit j
theorem bt_len {m : List Nat} {i j : Nat} (h : m.length ≤ i) : bt m i j = false := by
  unfold bt
  rw [List.getD_eq_getElem?_getD, List.getElem?_eq_none h]
  simp
def pivF (p : Nat) (k : Nat) (s : Nat) : Nat := if s.testBit k then s ||| p else s
def piv (m : List Nat) (k : Nat) : List Nat := m.map (pivF (m.getD k 0) k)
theorem piv_length (m : List Nat) (k : Nat) : (piv m k).length = m.length := by simp [piv]
theorem bt_piv (m : List Nat) (k i j : Nat) : bt (piv m k) i j = (bt m i j || (bt m i k && bt m k j)) := by
  unfold bt piv
  simp only [List.getD_eq_getElem?_getD, List.getElem?_map]
  cases h : m[i]? with
  | none => simp
  | some s =>
    simp only [Option.map_some, Option.getD_some, pivF]
    by_cases hk : s.testBit k
    · rw [if_pos hk, Nat.testBit_or, hk]; simp
    · simp [hk]
structure Inv (r : Nat → Nat → Bool) (n : Nat) (k : Nat) (m : List Nat) : Prop where
  len : m.length = n
  sound : ∀ i j, bt m i j = true → Way r i j
  self : ∀ i, i < n → bt m i i = true
  has : ∀ i j, i < n → r i j = true → bt m i j = true
  trans : ∀ p, p < k → ∀ i j, bt m i p = true → bt m p j = true → bt m i j = true
theorem Inv.step {r : Nat → Nat → Bool} {n k : Nat} {m : List Nat} (h : Inv r n k m) : Inv r n (k + 1) (piv m k) where
  len := by rw [piv_length, h.len]
  sound := fun i j hb => by
    rw [bt_piv] at hb
    simp only [Bool.or_eq_true, Bool.and_eq_true] at hb
    rcases hb with hb | ⟨h1, h2⟩
    · exact h.sound i j hb
    · exact (h.sound i k h1).trans (h.sound k j h2)
  self := fun i hi => by rw [bt_piv, h.self i hi]; rfl
  has := fun i j hi hr => by rw [bt_piv, h.has i j hi hr]; rfl
  trans := fun p hp i j h1 h2 => by
    rw [bt_piv] at h1 h2 ⊢
    simp only [Bool.or_eq_true, Bool.and_eq_true] at h1 h2 ⊢
    by_cases e : p = k
    · subst e
      have a : bt m i p = true := by
        rcases h1 with h1 | h1
        · exact h1
        · exact h1.1
      have b : bt m p j = true := by
        rcases h2 with h2 | h2
        · exact h2
        · exact h2.2
      exact Or.inr ⟨a, b⟩
    · have hp' : p < k := by omega
      rcases h1 with h1 | ⟨h1, h3⟩ <;> rcases h2 with h2 | ⟨h2, h4⟩
      · exact Or.inl (h.trans p hp' i j h1 h2)
      · exact Or.inr ⟨h.trans p hp' i k h1 h2, h4⟩
      · exact Or.inr ⟨h1, h.trans p hp' k j h3 h2⟩
      · exact Or.inr ⟨h1, h4⟩
def startM (ns : List Nat) : List Nat := (List.range ns.length).map (fun i => ns.getD i 0 ||| 2 ^ i)
theorem bt_start (ns : List Nat) (i j : Nat) (hi : i < ns.length) : bt (startM ns) i j = (bt ns i j || decide (i = j)) := by
  unfold bt startM
  simp only [List.getD_eq_getElem?_getD, List.getElem?_map, List.getElem?_range hi, Option.map_some, Option.getD_some, Nat.testBit_or, Nat.testBit_two_pow]
theorem start_inv (ns : List Nat) : Inv (bt ns) ns.length 0 (startM ns) where
  len := by simp [startM]
  sound := fun i j hb => by
    by_cases hi : i < ns.length
    · rw [bt_start ns i j hi, Bool.or_eq_true, decide_eq_true_eq] at hb
      rcases hb with hb | rfl
      · exact Way.tail (Way.refl i) hb
      · exact Way.refl i
    · rw [bt_len (by simp [startM]; omega)] at hb; cases hb
  self := fun i hi => by rw [bt_start ns i i hi]; simp
  has := fun i j hi hr => by rw [bt_start ns i j hi, hr]; rfl
  trans := fun p hp => absurd hp (Nat.not_lt_zero _)
def warshall (ns : List Nat) : List Nat := (List.range ns.length).foldl piv (startM ns)
theorem foldl_inv {r : Nat → Nat → Bool} {n : Nat} : ∀ (d k : Nat) (m : List Nat), Inv r n k m → Inv r n (k + d) ((List.range' k d).foldl piv m)
  | 0, k, m, h => h
  | d + 1, k, m, h => by
    rw [List.range'_succ, List.foldl_cons, show k + (d + 1) = (k + 1) + d by omega]
    exact foldl_inv d (k + 1) (piv m k) h.step
theorem warshall_inv (ns : List Nat) : Inv (bt ns) ns.length ns.length (warshall ns) := by
  have := foldl_inv ns.length 0 _ (start_inv ns)
  rw [Nat.zero_add] at this
  unfold warshall
  rw [List.range_eq_range']
  exact this
theorem way_lt {ns : List Nat} (hlt : ∀ i j, bt ns i j = true → j < ns.length) {i j : Nat} (hi : i < ns.length) (h : Way (bt ns) i j) : j < ns.length := by
  cases h with
  | refl => exact hi
  | tail _ hr => exact hlt _ _ hr
theorem warshall_iff (ns : List Nat) (hlt : ∀ i j, bt ns i j = true → j < ns.length) (i j : Nat) (hi : i < ns.length) : bt (warshall ns) i j = true ↔ Way (bt ns) i j := by
  have hv := warshall_inv ns
  refine ⟨hv.sound i j, fun h => ?_⟩
  induction h with
  | refl => exact hv.self i hi
  | @tail j k hw hr ih =>
    have hj := way_lt hlt hi hw
    exact hv.trans j hj i k ih (hv.has j k hj hr)
def swF (ns : List Nat) (s j : Nat) : Nat := if s.testBit j then s ||| ns.getD j 0 else s
def sweep (ns : List Nat) (s : Nat) : Nat := (List.range ns.length).foldl (swF ns) s
theorem swF_keep (ns : List Nat) (s j x : Nat) (h : s.testBit x = true) : (swF ns s j).testBit x = true := by
  unfold swF
  split
  · rw [Nat.testBit_or, h]; rfl
  · exact h
theorem fold_keep (ns : List Nat) : ∀ (l : List Nat) (s x : Nat), s.testBit x = true → (l.foldl (swF ns) s).testBit x = true
  | [], s, x, h => h
  | j :: l, s, x, h => fold_keep ns l _ x (swF_keep ns s j x h)
theorem fold_add (ns : List Nat) : ∀ (l : List Nat) (s j k : Nat), j ∈ l → s.testBit j = true → bt ns j k = true → (l.foldl (swF ns) s).testBit k = true
  | [], s, j, k, h, _, _ => by cases h
  | i :: l, s, j, k, h, h1, h2 => by
    rw [List.foldl_cons]
    rcases List.mem_cons.1 h with rfl | h
    · apply fold_keep
      unfold swF
      rw [if_pos h1, Nat.testBit_or]
      unfold bt at h2
      rw [h2]; simp
    · exact fold_add ns l _ j k h (swF_keep ns s i j h1) h2
theorem fold_sound (ns : List Nat) (i : Nat) : ∀ (l : List Nat) (s : Nat), (∀ x, s.testBit x = true → Way (bt ns) i x) → ∀ x, (l.foldl (swF ns) s).testBit x = true → Way (bt ns) i x
  | [], s, h => h
  | j :: l, s, h => fold_sound ns i l _ (fun x hx => by
    unfold swF at hx
    split at hx
    · rename_i hj
      rw [Nat.testBit_or, Bool.or_eq_true] at hx
      rcases hx with hx | hx
      · exact h x hx
      · exact Way.tail (h j hj) hx
    · exact h x hx)
def Closed (ns : List Nat) (s : Nat) : Prop := ∀ j k, s.testBit j = true → bt ns j k = true → s.testBit k = true
theorem closed_fold {ns : List Nat} {s : Nat} (h : Closed ns s) : ∀ l : List Nat, l.foldl (swF ns) s = s
  | [] => rfl
  | j :: l => by
    have : swF ns s j = s := by
      unfold swF
      split
      · rename_i hj
        apply Nat.eq_of_testBit_eq
        intro x
        rw [Nat.testBit_or]
        cases hx : s.testBit x with
        | true => rfl
        | false =>
          rw [Bool.false_or, Bool.eq_false_iff]
          intro hb
          have := h j x hj hb
          rw [hx] at this; cases this
      · rfl
    rw [List.foldl_cons, this]
    exact closed_fold h l
def cnt (n s : Nat) : Nat := (List.range n).countP (fun i => s.testBit i)
theorem countP_le {α : Type} (p q : α → Bool) : ∀ l : List α, (∀ x ∈ l, p x = true → q x = true) → l.countP p ≤ l.countP q := fun l h => List.countP_mono_left h
theorem countP_lt {α : Type} (p q : α → Bool) : ∀ l : List α, (∀ x ∈ l, p x = true → q x = true) → ∀ y ∈ l, p y = false → q y = true → l.countP p < l.countP q
  | [], _, y, hy, _, _ => by cases hy
  | x :: l, h, y, hy, h1, h2 => by
    rcases List.mem_cons.1 hy with rfl | hy
    · rw [List.countP_cons_of_neg (by simp [h1]), List.countP_cons_of_pos (by simpa using h2)]
      have := countP_le p q l (fun z hz => h z (by simp [hz]))
      omega
    · have ih := countP_lt p q l (fun z hz => h z (by simp [hz])) y hy h1 h2
      have hx := h x (by simp)
      cases hp : p x with
      | true => rw [List.countP_cons_of_pos (by simpa using hp), List.countP_cons_of_pos (by simpa using hx hp)]; omega
      | false =>
        rw [List.countP_cons_of_neg (by simp [hp])]
        have : l.countP q ≤ (x :: l).countP q := by
          rw [List.countP_cons]; omega
        omega
def sweeps (ns : List Nat) : Nat → Nat → Nat
  | 0, s => s
  | k + 1, s => sweeps ns k (sweep ns s)
theorem sweeps_sound (ns : List Nat) (i : Nat) : ∀ (k s : Nat), (∀ x, s.testBit x = true → Way (bt ns) i x) → ∀ x, (sweeps ns k s).testBit x = true → Way (bt ns) i x
  | 0, s, h => h
  | k + 1, s, h => sweeps_sound ns i k _ (fold_sound ns i _ s h)
theorem sweeps_keep (ns : List Nat) : ∀ (k s x : Nat), s.testBit x = true → (sweeps ns k s).testBit x = true
  | 0, s, x, h => h
  | k + 1, s, x, h => sweeps_keep ns k _ x (fold_keep ns _ s x h)
theorem sweeps_closed {ns : List Nat} {s : Nat} (h : Closed ns s) : ∀ k, sweeps ns k s = s
  | 0 => rfl
  | k + 1 => by
    unfold sweeps
    have : sweep ns s = s := closed_fold h _
    rw [this]; exact sweeps_closed h k
theorem closed_or (ns : List Nat) (hlt : ∀ i j, bt ns i j = true → j < ns.length) : ∀ (k s c : Nat), (∀ x, s.testBit x = true → x < ns.length) → c ≤ cnt ns.length s → Closed ns (sweeps ns k s) ∨ c + k ≤ cnt ns.length (sweeps ns k s)
  | 0, s, c, _, h => Or.inr h
  | k + 1, s, c, hs, h => by
    by_cases hc : Closed ns s
    · left; rw [sweeps_closed hc]; exact hc
    · unfold Closed at hc
      have ⟨j, k', h1, h2, h3⟩ : ∃ j k, s.testBit j = true ∧ bt ns j k = true ∧ s.testBit k = false := by
        apply Classical.byContradiction
        intro hn
        apply hc
        intro j k h1 h2
        cases h3 : s.testBit k with
        | true => rfl
        | false => exact absurd ⟨j, k, h1, h2, h3⟩ hn
      have hk := hlt j k' h2
      have hj := hs j h1
      have hlt' : cnt ns.length s < cnt ns.length (sweep ns s) := countP_lt _ _ _ (fun x _ hx => fold_keep ns _ s x hx) k' (List.mem_range.2 hk) h3 (fold_add ns _ s j k' (List.mem_range.2 hj) h1 h2)
      have hs' : ∀ x, (sweep ns s).testBit x = true → x < ns.length := by
        intro x hx
        have : ∀ (l : List Nat) (s : Nat), (∀ x, s.testBit x = true → x < ns.length) → ∀ x, (l.foldl (swF ns) s).testBit x = true → x < ns.length := by
          intro l
          induction l with
          | nil => intro s h; exact h
          | cons j l ih =>
            intro s h
            rw [List.foldl_cons]
            refine ih _ (fun x hx => ?_)
            unfold swF at hx
            split at hx
            · rw [Nat.testBit_or, Bool.or_eq_true] at hx
              rcases hx with hx | hx
              · exact h x hx
              · exact hlt j x hx
            · exact h x hx
        exact this _ s hs x hx
      have := closed_or ns hlt k (sweep ns s) (c + 1) hs' (by omega)
      unfold sweeps
      rcases this with h | h
      · exact Or.inl h
      · exact Or.inr (by omega)
theorem cnt_le (n s : Nat) : cnt n s ≤ n := by
  have := List.countP_le_length (p := fun i => s.testBit i) (l := List.range n)
  simpa [cnt] using this
theorem sweeps_iff (ns : List Nat) (hlt : ∀ i j, bt ns i j = true → j < ns.length) (i : Nat) (hi : i < ns.length) (j : Nat) : (sweeps ns ns.length (2 ^ i)).testBit j = true ↔ Way (bt ns) i j := by
  have hs0 : ∀ x, (2 ^ i).testBit x = true → x = i := fun x hx => by rw [Nat.testBit_two_pow, decide_eq_true_eq] at hx; exact hx.symm
  constructor
  · exact sweeps_sound ns i _ _ (fun x hx => by rw [hs0 x hx]; exact Way.refl i) j
  · have h1 : 1 ≤ cnt ns.length (2 ^ i) := by
      unfold cnt
      exact List.countP_pos_iff.2 ⟨i, List.mem_range.2 hi, by simp [Nat.testBit_two_pow]⟩
    have hc : Closed ns (sweeps ns ns.length (2 ^ i)) := by
      rcases closed_or ns hlt ns.length (2 ^ i) 1 (fun x hx => by rw [hs0 x hx]; exact hi) h1 with h | h
      · exact h
      · have := cnt_le ns.length (sweeps ns ns.length (2 ^ i)); omega
    intro h
    induction h with
    | refl => exact sweeps_keep ns _ _ i (by simp [Nat.testBit_two_pow])
    | @tail j k _ hr ih => exact hc j k ih hr
theorem reached_same (ns : List Nat) (hlt : ∀ i j, bt ns i j = true → j < ns.length) : warshall ns = (List.range ns.length).map (fun i => sweeps ns ns.length (2 ^ i)) := by
  apply List.ext_getElem
  · rw [(warshall_inv ns).len]; simp
  · intro i h1 h2
    have hi : i < ns.length := by rw [(warshall_inv ns).len] at h1; exact h1
    rw [List.getElem_map, List.getElem_range]
    apply Nat.eq_of_testBit_eq
    intro j
    have e : (warshall ns)[i].testBit j = bt (warshall ns) i j := by
      unfold bt; rw [List.getD_eq_getElem?_getD, List.getElem?_eq_getElem h1]; rfl
    rw [e, Bool.eq_iff_iff, warshall_iff ns hlt i j hi, sweeps_iff ns hlt i hi j]
end Go.Proofs.Ytcheoendfcgjgaa.M
namespace Go.Proofs.Ytcheoendfcgjgaa.M
open Go.Lib
theorem get_toArray (d : List Int) (i : Nat) (h : i < d.length) : d.toArray[i]! = d[i] := by
  rw [getElem!_pos _ _ (by simpa using h)]; simp
theorem compact_lt {d : List Int} (hd : d.Pairwise (fun a b => b ≤ a)) : (compact d).Pairwise (fun a b => b < a) := by
  unfold compact compactUpTo
  rw [List.pairwise_map]
  have h1 : ((List.range d.length).filter (keeps d.toArray)).Pairwise (· < ·) := List.Pairwise.filter _ List.pairwise_lt_range
  refine List.Pairwise.imp_of_mem ?_ h1
  intro i j hi hj hij
  rw [List.mem_filter, List.mem_range] at hi hj
  have hk := hj.2
  unfold keeps at hk
  simp only [decide_eq_true_eq] at hk
  have hj0 : j ≠ 0 := by omega
  rcases hk with hk | hk
  · omega
  · rw [get_toArray d j hj.1, get_toArray d (j - 1) (by omega)] at hk
    rw [get_toArray d i hi.1, get_toArray d j hj.1]
    rw [List.pairwise_iff_getElem] at hd
    have a := hd (j - 1) j (by omega) hj.1 (by omega)
    by_cases e : i = j - 1
    · subst e; omega
    · have b := hd i (j - 1) hi.1 (by omega) (by omega)
      omega
theorem compact_mem (d : List Int) (x : Int) : x ∈ compact d ↔ x ∈ d := by
  unfold compact compactUpTo
  rw [List.mem_map]
  constructor
  · rintro ⟨i, hi, rfl⟩
    rw [List.mem_filter, List.mem_range] at hi
    rw [get_toArray d i hi.1]
    exact List.getElem_mem _
  · intro h
    obtain ⟨i, hi, rfl⟩ := List.getElem_of_mem h
    have : ∀ i, (hi : i < d.length) → ∃ a, a ∈ (List.range d.length).filter (keeps d.toArray) ∧ d.toArray[a]! = d[i] := by
      intro i
      induction i with
      | zero => intro hi; exact ⟨0, by rw [List.mem_filter, List.mem_range]; exact ⟨hi, by simp [keeps]⟩, get_toArray d 0 hi⟩
      | succ i ih =>
        intro hi
        by_cases e : d[i + 1] = d[i]
        · obtain ⟨a, h1, h2⟩ := ih (by omega)
          exact ⟨a, h1, by rw [h2, e]⟩
        · refine ⟨i + 1, ?_, get_toArray d _ hi⟩
          rw [List.mem_filter, List.mem_range]
          refine ⟨hi, ?_⟩
          unfold keeps
          simp only [decide_eq_true_eq, Nat.add_sub_cancel]
          right
          rw [get_toArray d _ hi, get_toArray d i (by omega)]
          exact e
    exact this i hi
theorem idxFrom_desc (x : Int) : ∀ (D : List Int) (i : Nat), D.Pairwise (fun a b => b < a) → x ∈ D → idxFrom D x i = ((i + (D.filter (fun y => decide (x < y))).length : Nat) : Int)
  | [], i, _, h => by cases h
  | z :: zs, i, hp, h => by
    rw [List.pairwise_cons] at hp
    by_cases e : z = x
    · subst e
      have : (z :: zs).filter (fun y => decide (z < y)) = [] := by
        rw [List.filter_eq_nil_iff]
        intro y hy
        rcases List.mem_cons.1 hy with rfl | hy
        · simp
        · have := hp.1 y hy; simp; omega
      rw [this]; simp [idxFrom]
    · have hx : x ∈ zs := by
        rcases List.mem_cons.1 h with rfl | h
        · exact absurd rfl e
        · exact h
      have hz := hp.1 x hx
      rw [List.filter_cons_of_pos (by simpa using hz)]
      unfold idxFrom
      rw [if_neg e, idxFrom_desc x zs (i + 1) hp.2 hx]
      simp only [List.length_cons]
      omega
def putI (y : Int) : List Int → List Int
  | [] => [y]
  | z :: l => if z < y then z :: putI y l else if z = y then z :: l else y :: z :: l
theorem putI_mem (y x : Int) : ∀ l : List Int, x ∈ putI y l ↔ x = y ∨ x ∈ l
  | [] => by simp [putI]
  | z :: l => by
    unfold putI
    split
    · rw [List.mem_cons, putI_mem y x l, List.mem_cons]
      constructor
      · rintro (h | h | h) <;> simp [h]
      · rintro (h | h | h) <;> simp [h]
    · split
      · rename_i h; subst h; simp
      · simp
theorem putI_rise (y : Int) : ∀ l : List Int, l.Pairwise (· < ·) → (putI y l).Pairwise (· < ·)
  | [], _ => by simp [putI]
  | z :: l, h => by
    rw [List.pairwise_cons] at h
    unfold putI
    split
    · rename_i hz
      rw [List.pairwise_cons]
      refine ⟨fun x hx => ?_, putI_rise y l h.2⟩
      rcases (putI_mem y x l).1 hx with rfl | hx
      · exact hz
      · exact h.1 x hx
    · split
      · rw [List.pairwise_cons]; exact h
      · rw [List.pairwise_cons, List.pairwise_cons]
        refine ⟨fun x hx => ?_, h⟩
        rcases List.mem_cons.1 hx with rfl | hx
        · omega
        · have := h.1 x hx; omega
theorem putI_length (y : Int) : ∀ l : List Int, (putI y l).length ≤ l.length + 1
  | [] => by simp [putI]
  | z :: l => by
    unfold putI
    have := putI_length y l
    split
    · simp; omega
    · split
      · simp
      · simp
def great (x : Int) (l g : List Int) : List Int := l.foldl (fun g y => if x < y then putI y g else g) g
theorem great_mem (x y : Int) : ∀ (l g : List Int), y ∈ great x l g ↔ y ∈ g ∨ (y ∈ l ∧ x < y)
  | [], g => by simp [great]
  | z :: l, g => by
    have ih := great_mem x y l (if x < z then putI z g else g)
    unfold great at ih ⊢
    rw [List.foldl_cons, ih]
    by_cases h : x < z
    · rw [if_pos h, putI_mem]
      constructor
      · rintro ((rfl | h1) | h1)
        · exact Or.inr ⟨by simp, h⟩
        · exact Or.inl h1
        · exact Or.inr ⟨by simp [h1.1], h1.2⟩
      · rintro (h1 | ⟨h1, h2⟩)
        · exact Or.inl (Or.inr h1)
        · rcases List.mem_cons.1 h1 with rfl | h1
          · exact Or.inl (Or.inl rfl)
          · exact Or.inr ⟨h1, h2⟩
    · rw [if_neg h]
      constructor
      · rintro (h1 | h1)
        · exact Or.inl h1
        · exact Or.inr ⟨by simp [h1.1], h1.2⟩
      · rintro (h1 | ⟨h1, h2⟩)
        · exact Or.inl h1
        · rcases List.mem_cons.1 h1 with rfl | h1
          · exact absurd h2 h
          · exact Or.inr ⟨h1, h2⟩
theorem great_rise (x : Int) : ∀ (l g : List Int), g.Pairwise (· < ·) → (great x l g).Pairwise (· < ·)
  | [], g, h => h
  | z :: l, g, h => by
    have ih := great_rise x l (if x < z then putI z g else g)
    unfold great at ih ⊢
    rw [List.foldl_cons]
    apply ih
    split
    · exact putI_rise z g h
    · exact h
theorem nodup_lt {l : List Int} (h : l.Pairwise (· < ·)) : l.Nodup := List.Pairwise.imp (fun h => by omega) h
theorem nodup_gt {l : List Int} (h : l.Pairwise (fun a b => b < a)) : l.Nodup := List.Pairwise.imp (fun h => by omega) h
theorem idx_great (l r : List Int) (hr : r.Pairwise (fun a b => b ≤ a)) (hm : ∀ y, y ∈ r ↔ y ∈ l) (x : Int) (hx : x ∈ l) : idxOf (compact r) x = ((great x l []).length : Int) := by
  have hc := compact_lt hr
  have h1 := idxFrom_desc x (compact r) 0 hc ((compact_mem r x).2 ((hm x).2 hx))
  unfold idxOf
  rw [h1, Nat.zero_add]
  congr 1
  refine List.Perm.length_eq ((List.perm_ext_iff_of_nodup (nodup_gt (List.Pairwise.filter _ hc)) (nodup_lt (great_rise x l [] List.Pairwise.nil))).2 (fun y => ?_))
  rw [List.mem_filter, compact_mem, hm, great_mem]
  simp
end Go.Proofs.Ytcheoendfcgjgaa.M
namespace Go.Proofs.Ytcheoendfcgjgaa.K
open Go.RowKit Go.Proofs.YtcheoendfcgjgaaW.PrintWords
abbrev BM : Nat := 17592186044416
theorem wrap_id {x : Int} (h1 : -9223372036854775808 ≤ x) (h2 : x < 9223372036854775808) : wrap64 x = x := by unfold wrap64; omega
theorem mid (x : Int) (done rest : List Int) (h : (done ++ x :: rest).length ≤ BM) :
    ((done.length : Int) < ((done ++ x :: rest).length : Int)) ∧ 0 ≤ (done.length : Int) ∧ rd (done ++ x :: rest) (done.length : Int) = x ∧ wrap64 ((done.length : Int) + 1) = ((done ++ [x]).length : Int) ∧ done ++ [x] ++ rest = done ++ x :: rest := by
  simp only [BM] at h
  refine ⟨by simp; omega, by omega, by simp [rd], ?_, by simp⟩
  simp at h ⊢
  unfold wrap64; omega
theorem Ev.ite {α : Type} {c : Prop} [Decidable c] {f g : Nat → Option α} {r : α} (h1 : c → Ev f r) (h2 : ¬ c → Ev g r) : Ev (fun k => if c then f k else g k) r := by
  by_cases h : c
  · simpa [h] using h1 h
  · simpa [h] using h2 h
theorem Ev.some {α : Type} {r r' : α} (h : r = r') : Ev (fun _ => Option.some r) r' := h ▸ Ev.now r
theorem Ev.pair {α : Type} {f : Nat → Option α} {r r' : α} (h : Ev f r) (e : r = r') : Ev f r' := e ▸ h
def EvB (g : Nat → Option Bool) (P : Prop) : Prop := (P → Ev g true) ∧ (¬ P → Ev g false)
theorem EvB.congr {g : Nat → Option Bool} {P Q : Prop} (h : EvB g P) (e : P ↔ Q) : EvB g Q := ⟨fun q => h.1 (e.2 q), fun q => h.2 (fun p => q (e.1 p))⟩
theorem EvB.ev {g : Nat → Option Bool} {P : Prop} (h : EvB g P) : ∃ b : Bool, Ev g b ∧ (b = true ↔ P) := by
  by_cases p : P
  · exact ⟨true, h.1 p, by simp [p]⟩
  · exact ⟨false, h.2 p, by simp [p]⟩
theorem EvB.of {g : Nat → Option Bool} {P : Prop} {b : Bool} (h : Ev g b) (e : b = true ↔ P) : EvB g P := by
  cases b with
  | true => exact ⟨fun _ => h, fun p => absurd (e.1 rfl) p⟩
  | false => exact ⟨fun p => absurd (e.2 p) (by simp), fun _ => h⟩
theorem EvB.true_ : EvB (fun _ => some true) True := ⟨fun _ => Ev.now _, fun h => absurd trivial h⟩
theorem EvB.false_ : EvB (fun _ => some false) False := ⟨fun h => h.elim, fun _ => Ev.now _⟩
theorem EvB.now (b : Bool) : EvB (fun _ => some b) (b = true) := EvB.of (Ev.now b) Iff.rfl
theorem EvB.fn {g f : Nat → Option Bool} {P : Prop} (h : ∀ k, g k = f k) (k : EvB f P) : EvB g P := ⟨fun p => Ev.congr h (k.1 p), fun p => Ev.congr h (k.2 p)⟩
theorem EvB.step {g f : Nat → Option Bool} {P : Prop} (h : ∀ k, g (k + 1) = f k) (k : EvB f P) : EvB g P := ⟨fun p => Ev.step h (k.1 p), fun p => Ev.step h (k.2 p)⟩
theorem EvB.ite {c : Prop} [Decidable c] {f g : Nat → Option Bool} {P Q : Prop} (h1 : c → EvB f P) (h2 : ¬ c → EvB g Q) : EvB (fun k => if c then f k else g k) ((c ∧ P) ∨ (¬ c ∧ Q)) := by
  by_cases h : c
  · simpa [h] using h1 h
  · simpa [h] using h2 h
theorem EvB.and {c : Prop} [Decidable c] {f : Nat → Option Bool} {P : Prop} (h1 : c → EvB f P) : EvB (fun k => if c then f k else some false) (c ∧ P) := by
  by_cases h : c
  · simpa [h] using h1 h
  · simpa [h] using EvB.false_
theorem EvB.bind {α : Type} {g : Nat → Option α} {f : Nat → α → Option Bool} {a : α} {P : Prop} (h : Ev g a) (k : EvB (fun n => f n a) P) : EvB (fun n => (g n).bind (f n)) P :=
  ⟨fun p => Ev.bind h (k.1 p), fun p => Ev.bind h (k.2 p)⟩
theorem allLoop (g : Nat → Nat → Option Bool) (n : Nat) (P : Nat → Prop) (Q : Prop) (hend : EvB (g n) Q)
    (hs : ∀ j, j < n → ∀ R, EvB (g (j + 1)) R → EvB (g j) (P j ∧ R)) : ∀ d j, j + d = n → EvB (g j) ((∀ i, j ≤ i → i < n → P i) ∧ Q) := by
  intro d
  induction d with
  | zero =>
    intro j hj
    obtain rfl : j = n := by omega
    exact hend.congr ⟨fun q => ⟨fun i h1 h2 => by omega, q⟩, fun h => h.2⟩
  | succ d ih =>
    intro j hj
    refine (hs j (by omega) _ (ih (j + 1) (by omega))).congr ⟨?_, ?_⟩
    · rintro ⟨h1, h2, h3⟩
      refine ⟨fun i h4 h5 => ?_, h3⟩
      by_cases e : i = j
      · subst e; exact h1
      · exact h2 i (by omega) h5
    · rintro ⟨h1, h2⟩
      exact ⟨h1 j (Nat.le_refl _) (by omega), fun i h4 h5 => h1 i (by omega) h5, h2⟩
theorem allLoop0 (g : Nat → Nat → Option Bool) (n : Nat) (P : Nat → Prop) (Q : Prop) (hend : EvB (g n) Q)
    (hs : ∀ j, j < n → ∀ R, EvB (g (j + 1)) R → EvB (g j) (P j ∧ R)) : EvB (g 0) ((∀ i, i < n → P i) ∧ Q) :=
  (allLoop g n P Q hend hs n 0 (by omega)).congr ⟨fun h => ⟨fun i hi => h.1 i (Nat.zero_le _) hi, h.2⟩, fun h => ⟨fun i _ hi => h.1 i hi, h.2⟩⟩
theorem wrap_nat (i : Nat) (h : i < 9223372036854775807) : wrap64 ((i : Int) + 1) = ((i + 1 : Nat) : Int) := by unfold wrap64; omega
def ints (ns : List Nat) : List Int := ns.map (fun n : Nat => (n : Int))
theorem ints_length (ns : List Nat) : (ints ns).length = ns.length := by simp [ints]
theorem rd_ints (ns : List Nat) (i : Nat) : rd (ints ns) (i : Int) = ((ns.getD i 0 : Nat) : Int) := by
  simp only [rd, ints, Int.toNat_natCast, List.getD_eq_getElem?_getD, List.getElem?_map]
  cases ns[i]? <;> simp
theorem ints_of (l : List Int) (h : ∀ x ∈ l, 0 ≤ x) : ∃ ns, l = ints ns := by
  refine ⟨l.map Int.toNat, ?_⟩
  simp only [ints, List.map_map]
  rw [List.map_congr_left (g := id) (fun x hx => by have := h x hx; simp; omega)]
  simp
theorem ints_set (ns : List Nat) (i v : Nat) : (ints ns).set (i : Int).toNat (v : Int) = ints (ns.set i v) := by simp [ints, List.map_set]
end Go.Proofs.Ytcheoendfcgjgaa.K
namespace Go.Proofs.Ytcheoendfcgjgaa.K
open Go.RowKit Go.Proofs.YtcheoendfcgjgaaW.PrintWords Go.Proofs.YtcheoendfcgjgaaW.PrintMore
theorem wrap_i64 (n : Int) (h0 : 0 ≤ n) (h1 : n < 2 ^ 62) : IntKind.i64.wrap n = n := by
  have : IntKind.i64.wrap n = wrap64 n := by simp [IntKind.wrap, IntKind.bits, IntKind.signed, wrap64]; omega
  rw [this]; unfold wrap64; omega
theorem and_nat (a b : Nat) (ha : a < 2 ^ 62) (hb : b < 2 ^ 62) : Go.bits .and .i64 (a : Int) (b : Int) = ((a &&& b : Nat) : Int) := (bits_nat .i64 62 (by decide) wrap_i64 a b ha hb).1
theorem or_nat (a b : Nat) (ha : a < 2 ^ 62) (hb : b < 2 ^ 62) : Go.bits .or .i64 (a : Int) (b : Int) = ((a ||| b : Nat) : Int) := (bits_nat .i64 62 (by decide) wrap_i64 a b ha hb).2
theorem shl_one (i : Nat) (h : i ≤ 61) : shl .i64 1 (i : Int) = ((2 ^ i : Nat) : Int) := by
  unfold shl
  have h1 : min ((i : Int).toNat) IntKind.i64.bits = i := by simp [show IntKind.i64.bits = 64 from rfl]; omega
  rw [h1, Int.one_mul]
  have h2 : 2 ^ i ≤ 2 ^ 61 := Nat.pow_le_pow_right (by decide) h
  rw [wrap_i64 _ (by exact_mod_cast Nat.zero_le (2 ^ i)) (by exact_mod_cast Nat.lt_of_le_of_lt h2 (by decide))]
  exact_mod_cast rfl
theorem shr_nat (a i : Nat) (ha : a < 2 ^ 62) : shr .i64 (a : Int) (i : Int) = ((a >>> i : Nat) : Int) := by
  unfold shr
  rw [Nat.shiftRight_eq_div_pow]
  have e : min ((i : Int).toNat) IntKind.i64.bits = min i 64 := by simp [show IntKind.i64.bits = 64 from rfl]
  rw [e]
  have : a / 2 ^ i = a / 2 ^ (min i 64) := by
    by_cases h : i ≤ 64
    · rw [Nat.min_eq_left h]
    · rw [Nat.min_eq_right (by omega), Nat.div_eq_of_lt (Nat.lt_of_lt_of_le ha (Nat.pow_le_pow_right (by decide) (by omega))), Nat.div_eq_of_lt (Nat.lt_of_lt_of_le ha (by decide))]
  rw [this]
  exact_mod_cast rfl
theorem bit_one (a : Nat) (i : Nat) : (a >>> i) &&& 1 = if a.testBit i then 1 else 0 := by
  rw [Nat.and_one_is_mod, Nat.testBit, Nat.and_comm, Nat.and_one_is_mod]
  rcases Nat.mod_two_eq_zero_or_one (a >>> i) with h | h <;> simp [h]
theorem bit_mod (a : Nat) (i : Nat) : (a >>> i) % 2 = if a.testBit i then 1 else 0 := by rw [← Nat.and_one_is_mod, bit_one]
theorem hasB (a i : Nat) (ha : a < 2 ^ 62) : (Go.bits .and .i64 (shr .i64 (a : Int) (i : Int)) 1 == 1) = a.testBit i := by
  rw [shr_nat a i ha, show (1 : Int) = ((1 : Nat) : Int) from rfl, and_nat _ _ (Nat.lt_of_le_of_lt (by rw [Nat.shiftRight_eq_div_pow]; exact Nat.div_le_self _ _) ha) (by decide), bit_one]
  cases a.testBit i <;> rfl
theorem deHasB (a i : Nat) (ha : a < 2 ^ 62) : (Int.tmod (shr .i64 (a : Int) (i : Int)) 2 == 1) = a.testBit i := by
  rw [shr_nat a i ha, show (2 : Int) = ((2 : Nat) : Int) from rfl, ← Int.ofNat_tmod, bit_mod]
  cases a.testBit i <;> rfl
def nb (ns : List Nat) (i j : Nat) : Bool := (ns.getD i 0).testBit j
structure Sets (n : Nat) (ns : List Nat) : Prop where
  n1 : 1 ≤ n
  n8 : n ≤ 8
  len : ns.length = n
  lt : ∀ x ∈ ns, x < 2 ^ n
theorem Sets.get {n : Nat} {ns : List Nat} (h : Sets n ns) (i : Nat) : ns.getD i 0 < 2 ^ n := by
  rw [List.getD_eq_getElem?_getD]
  cases e : ns[i]? with
  | none => simp; exact Nat.two_pow_pos n
  | some x => exact h.lt x (List.mem_of_getElem? e)
theorem pow8 {n : Nat} (h : n ≤ 8) : 2 ^ n ≤ 256 := Nat.le_trans (Nat.pow_le_pow_right (by decide) h) (by decide)
theorem Sets.get62 {n : Nat} {ns : List Nat} (h : Sets n ns) (i : Nat) : ns.getD i 0 < 2 ^ 62 := Nat.lt_of_lt_of_le (h.get i) (Nat.le_trans (pow8 h.n8) (by decide))
theorem Sets.nb_lt {n : Nat} {ns : List Nat} (h : Sets n ns) {i j : Nat} (hj : n ≤ j) : nb ns i j = false :=
  Nat.testBit_lt_two_pow (Nat.lt_of_lt_of_le (h.get i) (Nat.pow_le_pow_right (by decide) hj))
end Go.Proofs.Ytcheoendfcgjgaa.K
namespace Go.Proofs.Ytcheoendfcgjgaa.K
open Go.RowKit Go.Proofs.YtcheoendfcgjgaaW.PrintWords Go.Proofs.Ytcheoendfcgjgaa.P
def within (a b : Int) (l : List Int) : Bool := l.all fun n => decide (a ≤ n) && decide (n ≤ b)
theorem l1All_l0 (a b : Int) : ∀ (rest done : List Int), (done ++ rest).length ≤ BM → Ev (fun k => spec_l1All.l0 k a b (done ++ rest) (done ++ rest).length done.length) (within a b rest) := by
  intro rest
  induction rest with
  | nil => intro done h; exact Ev.step (fun k => by simp [spec_l1All.l0]; rfl) (Ev.some (by simp [within]))
  | cons x rest ih =>
    intro done h
    have ih' := ih (done ++ [x])
    obtain ⟨h1, h2, h3, h4, h5⟩ := mid x done rest h
    rw [h5] at ih'
    refine Ev.step (fun k => by rw [spec_l1All.l0]) ?_
    simp only [if_pos h1, if_pos h2, h3, h4, spec_l1In.f]
    by_cases ha : x ≥ a
    · by_cases hb : x ≤ b
      · simpa [ha, hb, within] using ih' h
      · simpa [ha, hb, within] using Ev.now _
    · simpa [ha, within] using Ev.now _
theorem allWithin_eq : ∀ k a b xs n i, impl_allWithin.l0 k a b xs n i = spec_l1All.l0 k a b xs n i := by
  intro k
  induction k with
  | zero => intros; rfl
  | succ k ih => intros; simp only [impl_allWithin.l0, spec_l1All.l0, ih, impl_within.f, spec_l1In.f]
theorem l1All_f (l : List Int) (a b : Int) (h : l.length ≤ BM) : Ev (fun k => spec_l1All.f k l a b) (within a b l) := l1All_l0 a b l [] h
theorem allWithin_f (l : List Int) (a b : Int) (h : l.length ≤ BM) : Ev (fun k => impl_allWithin.f k l a b) (within a b l) := Ev.congr (fun k => allWithin_eq ..) (l1All_f l a b h)
theorem l1In_f (n a b : Int) : spec_l1In.f n a b = some (decide (a ≤ n) && decide (n ≤ b)) := by
  unfold spec_l1In.f; by_cases h : a ≤ n <;> simp [h]
theorem within_f (n a b : Int) : impl_within.f n a b = some (decide (a ≤ n) && decide (n ≤ b)) := l1In_f n a b
end Go.Proofs.Ytcheoendfcgjgaa.K
namespace Go.Proofs.Ytcheoendfcgjgaa.K
open Go.RowKit Go.Proofs.YtcheoendfcgjgaaW.PrintWords Go.Proofs.YtcheoendfcgjgaaW.PrintMore Go.Proofs.Ytcheoendfcgjgaa.P
def Near (n : Nat) (ns : List Nat) : Prop := Sets n ns ∧ ∀ i, i < n → nb ns i i = false
def Tour (n : Nat) (ns : List Nat) : Prop := Near n ns ∧ ∀ i, i < n → ∀ j, j < i → nb ns i j ≠ nb ns j i
theorem has_f (a i : Nat) (h : a < 2 ^ 62) : impl_has.f (a : Int) (i : Int) = some (a.testBit i) := by
  unfold impl_has.f; rw [if_pos (by omega), hasB a i h]
theorem deHas_f (a i : Nat) (h : a < 2 ^ 62) : spec_deHas.f (a : Int) (i : Int) = some (a.testBit i) := by
  unfold spec_deHas.f; rw [if_pos (by omega), deHasB a i h]
theorem has_nb {n : Nat} {ns : List Nat} (h : Sets n ns) (i j : Nat) : impl_has.f ((ns.getD i 0 : Nat) : Int) (j : Int) = some (nb ns i j) := has_f _ _ (h.get62 i)
theorem deHas_nb {n : Nat} {ns : List Nat} (h : Sets n ns) (i j : Nat) : spec_deHas.f ((ns.getD i 0 : Nat) : Int) (j : Int) = some (nb ns i j) := deHas_f _ _ (h.get62 i)
theorem sets_iff (a : Int) (l : List Int) : ((1 ≤ a ∧ a ≤ 8) ∧ (l.length : Int) = a ∧ within 0 (wrap64 (shl .i64 1 a - 1)) l = true) ↔ ∃ n ns, a = ((n : Nat) : Int) ∧ l = ints ns ∧ Sets n ns := by
  constructor
  · rintro ⟨⟨h1, h2⟩, h3, h4⟩
    obtain ⟨n, rfl⟩ := Int.eq_ofNat_of_zero_le (show 0 ≤ a by omega)
    have hp := pow8 (show n ≤ 8 by omega)
    have hp0 := Nat.two_pow_pos n
    have e : wrap64 (shl .i64 1 (n : Int) - 1) = ((2 ^ n - 1 : Nat) : Int) := by
      rw [shl_one n (by omega)]; unfold wrap64; omega
    rw [e] at h4
    simp only [within, List.all_eq_true, Bool.and_eq_true, decide_eq_true_eq] at h4
    obtain ⟨ns, rfl⟩ := ints_of l (fun x hx => (h4 x hx).1)
    rw [ints_length] at h3
    exact ⟨n, ns, rfl, rfl, by omega, by omega, by omega, fun x hx => by have := (h4 x (List.mem_map.2 ⟨x, hx, rfl⟩)).2; omega⟩
  · rintro ⟨n, ns, rfl, rfl, h⟩
    have hp := pow8 h.n8
    have hp0 := Nat.two_pow_pos n
    have := h.n1; have := h.n8; have := h.len
    have e : wrap64 (shl .i64 1 (n : Int) - 1) = ((2 ^ n - 1 : Nat) : Int) := by
      rw [shl_one n (by omega)]; unfold wrap64; omega
    rw [e]
    refine ⟨⟨by omega, by omega⟩, by rw [ints_length]; omega, ?_⟩
    simp only [within, List.all_eq_true, Bool.and_eq_true, decide_eq_true_eq, ints, List.mem_map]
    rintro x ⟨y, hy, rfl⟩
    have := h.lt y hy
    omega
theorem near_l0 {n : Nat} {ns : List Nat} (h : Sets n ns) : EvB (fun k => impl_areNear.l0 k (ints ns) (n : Int) 0) (∀ i, i < n → nb ns i i = false) := by
  have hl := h.len
  have hn := h.n8
  refine (allLoop0 (fun j k => impl_areNear.l0 k (ints ns) (n : Int) (j : Int)) n (fun i => nb ns i i = false) True ?_ ?_).congr (by simp)
  · exact EvB.step (fun k => by rw [impl_areNear.l0, if_neg (by omega)]) EvB.true_
  · intro j hj R hR
    have e : _ = nb ns j j := hasB (ns.getD j 0) j (h.get62 j)
    refine EvB.step (f := fun k => if nb ns j j = false then impl_areNear.l0 k (ints ns) n ((j + 1 : Nat) : Int) else some false) (fun k => ?_) (EvB.and fun _ => hR)
    rw [impl_areNear.l0, if_pos (by omega), if_pos (by omega), if_pos (by rw [ints_length]; omega), rd_ints, wrap_nat j (by omega)]
    cases hb : nb ns j j with
    | true => rw [if_pos (by rw [hb] at e; simpa using e), if_neg (by simp)]
    | false => rw [if_neg (by rw [hb] at e; simpa using e), if_pos rfl]
theorem areNear_f (a : Int) (l : List Int) (hl : l.length ≤ BM) : EvB (fun k => impl_areNear.f k a l) (∃ n ns, a = ((n : Nat) : Int) ∧ l = ints ns ∧ Near n ns) := by
  have hj : ∀ l, Ev (fun k => impl_areNear.j0 k l true) false := fun l => Ev.step (fun k => by rw [impl_areNear.j0]) (by simpa using Ev.now _)
  have no : ∀ {g : Nat → Option Bool}, ¬ ((1 ≤ a ∧ a ≤ 8) ∧ (l.length : Int) = a ∧ within 0 (wrap64 (shl .i64 1 a - 1)) l = true) → Ev g false → EvB g (∃ n ns, a = ((n : Nat) : Int) ∧ l = ints ns ∧ Near n ns) := by
    intro g h1 h2
    exact ⟨fun ⟨n, ns, e1, e2, h⟩ => absurd ((sets_iff a l).2 ⟨n, ns, e1, e2, h.1⟩) h1, fun _ => h2⟩
  unfold impl_areNear.f
  simp only [within_f, Option.bind_some]
  by_cases h1 : 1 ≤ a ∧ a ≤ 8
  · rw [show (decide (1 ≤ a) && decide (a ≤ 8)) = true by simp; omega]
    simp only [if_true]
    by_cases h2 : (l.length : Int) = a
    · have h3 : 0 ≤ a := by omega
      simp only [if_pos h2, if_pos h3]
      refine EvB.bind (allWithin_f l 0 _ hl) ?_
      cases h4 : within 0 (wrap64 (shl .i64 1 a - 1)) l with
      | false => exact no (by simp [h4]) (hj l)
      | true =>
        obtain ⟨n, ns, rfl, rfl, hs⟩ := (sets_iff a l).1 ⟨h1, h2, h4⟩
        refine EvB.step (fun k => by rw [impl_areNear.j0]) ?_
        simp only [Bool.not_true, Bool.false_eq_true, if_false, h2]
        refine (near_l0 hs).congr ⟨fun h => ⟨n, ns, rfl, rfl, hs, h⟩, ?_⟩
        rintro ⟨n', ns', e1, e2, h⟩
        obtain rfl : n = n' := by omega
        obtain rfl : ns = ns' := by
          have := congrArg (List.map Int.toNat) e2
          simpa [ints, Function.comp_def] using this
        exact h.2
    · simp only [if_neg h2]
      exact no (fun h => h2 h.2.1) (hj l)
  · rw [show (decide (1 ≤ a) && decide (a ≤ 8)) = false by simp; omega]
    exact no (fun h => h1 h.1) (by simpa using hj l)
theorem ints_inj {ns ms : List Nat} (h : ints ns = ints ms) : ns = ms := by
  have := congrArg (List.map Int.toNat) h
  simpa [ints, Function.comp_def] using this
theorem tour_l1 {n : Nat} {ns : List Nat} (h : Sets n ns) (i : Nat) (hi : i < n) (R : Prop) (hR : EvB (fun k => impl_IsTournament.l0 k (ints ns) n ((i + 1 : Nat) : Int) n (ints ns)) R) :
    EvB (fun k => impl_IsTournament.l1 k i ((ns.getD i 0 : Nat) : Int) (ints ns) n i i ((0 : Nat) : Int) n (ints ns)) ((∀ j, j < i → nb ns i j ≠ nb ns j i) ∧ R) := by
  have hl := h.len
  have hn := h.n8
  refine allLoop0 (fun j k => impl_IsTournament.l1 k i ((ns.getD i 0 : Nat) : Int) (ints ns) n i i (j : Int) n (ints ns)) i (fun j => nb ns i j ≠ nb ns j i) R ?_ ?_
  · refine EvB.step (fun k => ?_) hR
    rw [impl_IsTournament.l1, if_neg (by omega), wrap_nat i (by omega)]
  · intro j hj R hR
    refine EvB.step (f := fun k => if nb ns i j ≠ nb ns j i then impl_IsTournament.l1 k i ((ns.getD i 0 : Nat) : Int) (ints ns) n i i ((j + 1 : Nat) : Int) n (ints ns) else some false) (fun k => ?_) (EvB.and fun _ => hR)
    rw [impl_IsTournament.l1, if_pos (by omega), has_nb h i, Option.bind_some, if_pos (by omega), if_pos (by rw [ints_length]; omega), rd_ints, has_nb h j, Option.bind_some, wrap_nat j (by omega)]
    by_cases e : nb ns i j = nb ns j i
    · rw [if_pos (by simpa using e), if_neg (by simpa using e)]
    · rw [if_neg (by simpa using e), if_pos e]
theorem tour_l0 {n : Nat} {ns : List Nat} (h : Sets n ns) : EvB (fun k => impl_IsTournament.l0 k (ints ns) n ((0 : Nat) : Int) n (ints ns)) (∀ i, i < n → ∀ j, j < i → nb ns i j ≠ nb ns j i) := by
  have hl := h.len
  have hn := h.n8
  refine (allLoop0 (fun j k => impl_IsTournament.l0 k (ints ns) n (j : Int) n (ints ns)) n (fun i => ∀ j, j < i → nb ns i j ≠ nb ns j i) True ?_ ?_).congr (by simp)
  · exact EvB.step (fun k => by rw [impl_IsTournament.l0, if_neg (by omega)]) EvB.true_
  · intro i hi R hR
    refine EvB.step (fun k => ?_) (tour_l1 h i hi R hR)
    rw [impl_IsTournament.l0, if_pos (by omega), if_pos (by omega), if_pos (by rw [ints_length]; omega), rd_ints]
    rfl
def IsTour (a : Int) (l : List Int) : Prop := ∃ n ns, a = ((n : Nat) : Int) ∧ l = ints ns ∧ Tour n ns
theorem IsTournament_f (a : Int) (l : List Int) (hl : l.length ≤ BM) : EvB (fun k => impl_IsTournament.f k a l) (IsTour a l) := by
  unfold impl_IsTournament.f
  obtain ⟨b, hb, hbb⟩ := (areNear_f a l hl).ev
  refine EvB.bind hb ?_
  cases b with
  | false => exact ⟨fun ⟨n, ns, e1, e2, h⟩ => absurd (hbb.2 ⟨n, ns, e1, e2, h.1⟩) (by simp), fun _ => by simpa using Ev.now false⟩
  | true =>
    obtain ⟨n, ns, rfl, rfl, hn⟩ := hbb.1 rfl
    simp only [if_true, ints_length, hn.1.len]
    refine (tour_l0 hn.1).congr ⟨fun h => ⟨n, ns, rfl, rfl, hn, h⟩, ?_⟩
    rintro ⟨n', ns', e1, e2, h⟩
    obtain rfl : n = n' := by omega
    obtain rfl := ints_inj e2
    exact h.2
theorem sgood_l1 {n : Nat} {ns : List Nat} (h : Sets n ns) (i : Nat) (hi : i < n) (R : Prop) (hR : EvB (fun k => spec_scGood.l0 k (ints ns) n ((i + 1 : Nat) : Int) n (ints ns)) R) :
    EvB (fun k => spec_scGood.l1 k i ((ns.getD i 0 : Nat) : Int) (ints ns) n i (ints ns) n ((0 : Nat) : Int) n (ints ns)) ((∀ j, j < n → if i = j then nb ns i j = false else nb ns i j ≠ nb ns j i) ∧ R) := by
  have hl := h.len
  have hn := h.n8
  refine allLoop0 (fun j k => spec_scGood.l1 k i ((ns.getD i 0 : Nat) : Int) (ints ns) n i (ints ns) n (j : Int) n (ints ns)) n (fun j => if i = j then nb ns i j = false else nb ns i j ≠ nb ns j i) R ?_ ?_
  · refine EvB.step (fun k => ?_) hR
    rw [spec_scGood.l1, if_neg (by omega), wrap_nat i (by omega)]
  · intro j hj R hR
    by_cases hij : i = j
    · subst hij
      refine EvB.step (f := fun k => if nb ns i i = false then spec_scGood.l1 k i ((ns.getD i 0 : Nat) : Int) (ints ns) n i (ints ns) n ((i + 1 : Nat) : Int) n (ints ns) else some false) (fun k => ?_) ((EvB.and fun _ => hR).congr (by simp))
      rw [spec_scGood.l1, if_pos (by omega), if_pos (by omega), if_pos (by rw [ints_length]; omega), if_pos rfl, deHas_nb h i, Option.bind_some, wrap_nat i (by omega)]
      cases nb ns i i <;> rfl
    · refine EvB.step (f := fun k => if nb ns i j ≠ nb ns j i then spec_scGood.l1 k i ((ns.getD i 0 : Nat) : Int) (ints ns) n i (ints ns) n ((j + 1 : Nat) : Int) n (ints ns) else some false) (fun k => ?_) ((EvB.and fun _ => hR).congr (by simp [hij]))
      rw [spec_scGood.l1, if_pos (by omega), if_pos (by omega), if_pos (by rw [ints_length]; omega), if_neg (by omega), deHas_nb h i, Option.bind_some, rd_ints, deHas_nb h j, Option.bind_some, wrap_nat j (by omega)]
      by_cases e : nb ns i j = nb ns j i
      · rw [if_pos (by simpa using e), if_neg (by simpa using e)]
      · rw [if_neg (by simpa using e), if_pos e]
theorem sgood_l0 {n : Nat} {ns : List Nat} (h : Sets n ns) : EvB (fun k => spec_scGood.l0 k (ints ns) n ((0 : Nat) : Int) n (ints ns)) (∀ i, i < n → ∀ j, j < n → if i = j then nb ns i j = false else nb ns i j ≠ nb ns j i) := by
  have hl := h.len
  have hn := h.n8
  refine (allLoop0 (fun j k => spec_scGood.l0 k (ints ns) n (j : Int) n (ints ns)) n (fun i => ∀ j, j < n → if i = j then nb ns i j = false else nb ns i j ≠ nb ns j i) True ?_ ?_).congr (by simp)
  · exact EvB.step (fun k => by rw [spec_scGood.l0, if_neg (by omega)]) EvB.true_
  · intro i hi R hR
    refine EvB.step (fun k => ?_) (sgood_l1 h i hi R hR)
    rw [spec_scGood.l0, if_pos (by omega), if_pos (by omega), if_pos (by rw [ints_length]; omega), rd_ints, ints_length, hl]
    rfl
theorem tour_iff {n : Nat} {ns : List Nat} (h : Sets n ns) : (∀ i, i < n → ∀ j, j < n → if i = j then nb ns i j = false else nb ns i j ≠ nb ns j i) ↔ Tour n ns := by
  constructor
  · intro g
    refine ⟨⟨h, fun i hi => by simpa using g i hi i hi⟩, fun i hi j hj => ?_⟩
    have := g i hi j (by omega)
    rwa [if_neg (by omega)] at this
  · intro g i hi j hj
    by_cases e : i = j
    · subst e; simpa using g.1.2 i hi
    · rw [if_neg e]
      by_cases c : j < i
      · exact g.2 i hi j c
      · exact fun q => g.2 j hj i (by omega) q.symm
theorem scGood_f (a : Int) (l : List Int) (hl : l.length ≤ BM) : EvB (fun k => spec_scGood.f k a l) (IsTour a l) := by
  have hj : ∀ a l, Ev (fun k => spec_scGood.j0 k true a l) false := fun a l => Ev.step (fun k => by rw [spec_scGood.j0]) (by simpa using Ev.now _)
  have no : ∀ {g : Nat → Option Bool}, ¬ ((1 ≤ a ∧ a ≤ 8) ∧ (l.length : Int) = a ∧ within 0 (wrap64 (shl .i64 1 a - 1)) l = true) → Ev g false → EvB g (IsTour a l) := by
    intro g h1 h2
    exact ⟨fun ⟨n, ns, e1, e2, h⟩ => absurd ((sets_iff a l).2 ⟨n, ns, e1, e2, h.1.1⟩) h1, fun _ => h2⟩
  unfold spec_scGood.f
  simp only [l1In_f, Option.bind_some]
  by_cases h1 : 1 ≤ a ∧ a ≤ 8
  · rw [show (decide (1 ≤ a) && decide (a ≤ 8)) = true by simp; omega]
    simp only [if_true]
    by_cases h2 : (l.length : Int) = a
    · have h3 : 0 ≤ a := by omega
      simp only [if_pos h2, if_pos h3]
      refine EvB.bind (l1All_f l 0 _ hl) ?_
      cases h4 : within 0 (wrap64 (shl .i64 1 a - 1)) l with
      | false => exact no (by simp [h4]) (hj a l)
      | true =>
        obtain ⟨n, ns, rfl, rfl, hs⟩ := (sets_iff a l).1 ⟨h1, h2, h4⟩
        refine EvB.step (fun k => by rw [spec_scGood.j0]) ?_
        simp only [Bool.not_true, Bool.false_eq_true, if_false, h2]
        refine (sgood_l0 hs).congr ⟨fun h => ⟨n, ns, rfl, rfl, (tour_iff hs).1 h⟩, ?_⟩
        rintro ⟨n', ns', e1, e2, h⟩
        obtain rfl : n = n' := by omega
        obtain rfl := ints_inj e2
        exact (tour_iff hs).2 h
    · simp only [if_neg h2]
      exact no (fun h => h2 h.2.1) (hj a l)
  · rw [show (decide (1 ≤ a) && decide (a ≤ 8)) = false by simp; omega]
    exact no (fun h => h1 h.1) (by simpa using hj a l)
end Go.Proofs.Ytcheoendfcgjgaa.K
namespace Go.Proofs.Ytcheoendfcgjgaa.K
open Go.RowKit Go.Proofs.YtcheoendfcgjgaaW.PrintWords Go.Proofs.Ytcheoendfcgjgaa.P
def pop (a : Nat) : Nat := (List.range 8).countP (fun i => a.testBit i)
theorem pop_many : (List.range 256).all (fun a => spec_deMany.f 10 (a : Int) == some ((pop a : Nat) : Int)) = true := by decide +kernel
theorem deMany_f (a : Nat) (h : a < 256) : Ev (fun k => spec_deMany.f k (a : Int)) ((pop a : Nat) : Int) :=
  Ev.of (fun k => spec_deMany.mono _ k) (beq_iff_eq.1 (List.all_eq_true.1 pop_many a (List.mem_range.2 h)))
theorem pop_ones : (List.range 256).all (fun a => bits_OnesCount.f (IntKind.u64.wrap (a : Int)) == some ((pop a : Nat) : Int)) = true := by decide +kernel
theorem onesCount_f (a : Nat) (h : a < 256) : bits_OnesCount.f (IntKind.u64.wrap (a : Int)) = some ((pop a : Nat) : Int) := beq_iff_eq.1 (List.all_eq_true.1 pop_ones a (List.mem_range.2 h))
theorem counts_l0 : ∀ (rest done : List Nat), (done ++ rest).length ≤ 1000 → (∀ x ∈ rest, x < 256) → Ev (fun k => impl_counts.l0 k (ints (done.map pop)) (ints (done ++ rest)) ((done ++ rest).length : Int) done.length) (ints ((done ++ rest).map pop)) := by
  intro rest
  induction rest with
  | nil => intro done h _; exact Ev.step (fun k => by rw [impl_counts.l0, if_neg (by simp)]) (Ev.some (by simp))
  | cons x rest ih =>
    intro done h hx
    have e : ints (done ++ x :: rest) = ints done ++ (x : Int) :: ints rest := by simp [ints]
    have hl : (ints done).length = done.length := ints_length _
    obtain ⟨h1, h2, h3, h4, h5⟩ := mid (x : Int) (ints done) (ints rest) (by simp [ints_length, BM] at h ⊢; omega)
    rw [← e, hl] at h3
    have ih' := ih (done ++ [x]) (by simpa using h) (fun y hy => hx y (by simp [hy]))
    rw [show done ++ [x] ++ rest = done ++ x :: rest by simp] at ih'
    have g1 : (done.length : Int) < ((done ++ x :: rest).length : Int) := by simp; omega
    refine Ev.step (fun k => ?_) ih'
    rw [impl_counts.l0, if_pos g1, if_pos (by omega), if_pos (by rw [ints_length]; exact g1), h3, onesCount_f x (hx x (by simp)), Option.bind_some, if_pos (by simp [ints_length] at h ⊢; omega), wrap_nat _ (by simp at h; omega)]
    simp [ints]
theorem counts_f (ns : List Nat) (h : ns.length ≤ 1000) (hx : ∀ x ∈ ns, x < 256) : Ev (fun k => impl_counts.f k (ints ns)) (ints (ns.map pop)) := by
  unfold impl_counts.f
  have := counts_l0 ns [] (by simpa using h) hx
  simpa [ints_length, ints] using this
end Go.Proofs.Ytcheoendfcgjgaa.K
