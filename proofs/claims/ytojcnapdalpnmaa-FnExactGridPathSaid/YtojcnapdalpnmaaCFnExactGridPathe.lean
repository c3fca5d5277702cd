/- The row of the law FnExactGridPath: contracts and plain lemmas for the law FnExactGridPath, part 5 of 5 (what the Go functions answer). -/
import Derived.Test.YtojcnapdalpnmaaWMore
import Derived.Test.YtojcnapdalpnmaaWWords
import Derived.ProofKit
import Derived.OpenShut
import Derived.Deep.Matrix
import Derived.Lib.SmallJoins
import Derived.Test.YtojcnapdalpnmaaRows
import Derived.WalkKit
import Derived.ShutString
import Derived.ChangeOld
import Derived.Below
import Derived.SizedLaws
import Derived.Test.YtojcnapdalpnmaaCFnExactGridPatha
import Derived.Test.YtojcnapdalpnmaaCFnExactGridPathb
import Derived.Test.YtojcnapdalpnmaaCFnExactGridPathc
import Derived.Test.YtojcnapdalpnmaaCFnExactGridPathd
set_option linter.unusedVariables false
set_option linter.unusedSimpArgs false
namespace Go.Proofs.Ytojcnapdalpnmaa.K
open Go.RowKit Go.Proofs.YtojcnapdalpnmaaW.PrintWords Go.Proofs.Ytojcnapdalpnmaa.P
theorem rdL_at {l : List (List Int)} {i : Nat} (h : i < l.length) : rd_L1 l (i : Int) = l[i] := by
  unfold rd_L1; simp [List.getD_eq_getElem?_getD, List.getElem?_eq_getElem h]
theorem rdI_at {l : List Int} {i : Nat} (h : i < l.length) : rd l (i : Int) = l[i] := by
  unfold rd; simp [List.getD_eq_getElem?_getD, List.getElem?_eq_getElem h]
theorem map_range_set {m j : Nat} (f : Nat → Int) (v : Int) : ((List.range m).map f).set j v = (List.range m).map fun j' => if j' = j then v else f j' := by
  apply List.ext_getElem
  · simp
  · intro i h1 h2
    simp only [List.getElem_set, List.getElem_map, List.getElem_range]
    by_cases e : j = i
    · subst e; simp
    · rw [if_neg e, if_neg (fun h => e h.symm)]
theorem grid_fair {l : List (List Int)} (hg : gridB l = true) : ∀ r ∈ l, Fair r := fun r hr => by
  obtain ⟨g1, g2, g3, g4, g5⟩ := grid_get hg
  obtain ⟨h1, h2⟩ := g5 r hr
  exact ⟨by omega, fun x hx => by rcases h2 x hx with h | h <;> omega⟩
theorem rowSums_l0 : ∀ (rest done : List (List Int)) (x3 : List Int), (done ++ rest).length ≤ 1048576 → (∀ r ∈ rest, Fair r) → x3.length = done.length → Ev (fun k => impl_rowSums.l0 k x3 (done ++ rest) ((done ++ rest).length : Int) (done.length : Int)) (x3 ++ rest.map List.sum) := by
  intro rest
  induction rest with
  | nil => intro done x3 h _ _; exact Ev.step (fun k => by simp [impl_rowSums.l0]; rfl) (Ev.some (by simp))
  | cons r rest ih =>
    intro done x3 h hf hx
    obtain ⟨q1, q2, q3, q4, q5⟩ := midL r done rest (by unfold maxLen; omega)
    have ih' := ih (done ++ [r]) (x3 ++ [r.sum]) (by rw [q5]; exact h) (fun y hy => hf y (by simp [hy])) (by simp [hx])
    rw [q5] at ih'
    have hl : x3.length < 17592186044416 := by simp at h; omega
    refine Ev.step (fun k => by rw [impl_rowSums.l0]) ?_
    simp only [if_pos q1, if_pos q2, q3, q4]
    refine Ev.bind (total_f (hf r (by simp))) ?_
    simp only [if_pos hl]
    exact Ev.pair ih' (by simp)
theorem rowSums_f {l : List (List Int)} (h : l.length ≤ 1048576) (hf : ∀ r ∈ l, Fair r) : Ev (fun k => impl_rowSums.f k l) (l.map List.sum) := by
  unfold impl_rowSums.f
  exact rowSums_l0 l [] [] h hf rfl
theorem colI_bd {l : List (List Int)} (hg : gridB l = true) (j i : Nat) (hi : i ≤ l.length) (hj : j < (rd_L1 l 0).length) : 0 ≤ (colI l j i).sum ∧ (colI l j i).sum ≤ i := by
  obtain ⟨g1, g2, g3, g4, g5⟩ := grid_get hg
  induction i with
  | zero => simp [colI]
  | succ i ih =>
    have hm := g5 _ (rdL_mem (show i < l.length by omega))
    have hr : rd (rd_L1 l (i : Int)) (j : Int) ∈ rd_L1 l (i : Int) := by rw [rdI_at (by omega)]; exact List.getElem_mem _
    have := hm.2 _ hr
    have := ih (by omega)
    rw [colI_succ, List.sum_append]
    simp; omega
theorem colsI_fair {l : List (List Int)} (hg : gridB l = true) : ∀ r ∈ colsI l (rd_L1 l 0).length l.length, Fair r := by
  obtain ⟨g1, g2, g3, g4, g5⟩ := grid_get hg
  intro r hr
  obtain ⟨j, hj, rfl⟩ := List.mem_map.1 hr
  refine ⟨by rw [colI_length]; omega, fun x hx => ?_⟩
  obtain ⟨i, hi, rfl⟩ := List.mem_map.1 hx
  have hi := List.mem_range.1 hi
  have hj := List.mem_range.1 hj
  have hm := g5 _ (rdL_mem hi)
  have hr : rd (rd_L1 l (i : Int)) (j : Int) ∈ rd_L1 l (i : Int) := by rw [rdI_at (by omega)]; exact List.getElem_mem _
  have := hm.2 _ hr
  omega
/-- The sums of the rows and of the columns. -/
def gSums (l : List (List Int)) : List Int × List Int := (l.map List.sum, (colsI l (rd_L1 l 0).length l.length).map List.sum)
theorem maSums_f {l : List (List Int)} (hg : gridB l = true) : Ev (fun k => spec_maSums.f k l) (gSums l) := by
  obtain ⟨g1, g2, g3, g4, g5⟩ := grid_get hg
  have p0 : 0 < (l.length : Int) := by omega
  unfold spec_maSums.f
  have p1 : 0 ≤ ((rd_L1 l 0).length : Int) := by omega
  have p2 : (((rd_L1 l 0).length : Int) : Int).toNat ≤ 35184372088832 := by omega
  simp only [if_pos p0, if_pos p1, if_pos p2]
  generalize hn : (rd_L1 l 0).length = n at *
  have hst : List.replicate ((n : Int)).toNat (0 : Int) = (List.range n).map fun j => (colI l j 0).sum := by simp [colI, List.map_const']
  rw [hst]
  obtain ⟨s', rfl, h2⟩ := contLoopI (fun (s : List Int × List Int) i k => spec_maSums.l0 k s.1 s.2 l (l.length : Int) (i : Int)) l.length (fun s i => s = ((l.take i).map List.sum, (List.range n).map fun j => (colI l j i).sum))
    (fun s i hi hs => by
      subst hs
      refine ⟨_, rfl, fun x hx => Ev.step (fun k => by rw [spec_maSums.l0]) ?_⟩
      have e1 : (rd_L1 l (i : Int)).length = n := (g5 _ (rdL_mem hi)).1
      have q1 : (i : Int) < (l.length : Int) := by omega
      have q2 : 0 ≤ (i : Int) := by omega
      simp only [if_pos q1, if_pos q2]
      refine Ev.bind (liSum_f (grid_fair hg _ (rdL_mem hi))) ?_
      have q3 : ((l.take i).map List.sum).length < 17592186044416 := by simp; omega
      simp only [if_pos q3]
      have ht : (l.take i).map List.sum ++ [(rd_L1 l (i : Int)).sum] = (l.take (i + 1)).map List.sum := by
        rw [List.take_succ_eq_append_getElem hi, List.map_append, rdL_at hi]; rfl
      rw [ht]
      obtain ⟨s', hs', h2⟩ := contLoopI (fun s j k => spec_maSums.l1 k ((l.take (i + 1)).map List.sum) s l (l.length : Int) i (rd_L1 l (i : Int)) ((rd_L1 l (i : Int)).length : Int) (j : Int)) n (fun s j => s = (List.range n).map fun j' => (colI l j' (if j' < j then i + 1 else i)).sum)
        (fun s j hj hs => by
          refine ⟨_, rfl, fun x hx => Ev.step (fun k => by rw [spec_maSums.l1]) ?_⟩
          have hsl : s.length = n := by rw [hs]; simp
          have q1 : (j : Int) < ((rd_L1 l (i : Int)).length : Int) := by omega
          have q2 : 0 ≤ (j : Int) := by omega
          have q3 : (j : Int) < (s.length : Int) := by omega
          have hr : rd s (j : Int) = (colI l j i).sum := by
            rw [hs]; unfold rd; simp [List.getD_eq_getElem?_getD, hj]
          have hv : rd s (j : Int) + rd (rd_L1 l (i : Int)) (j : Int) = (colI l j (i + 1)).sum := by rw [hr, colI_succ, List.sum_append]; simp
          have hb := colI_bd hg j (i + 1) (by omega) (by omega)
          have hw : wrap64 (rd s (j : Int) + rd (rd_L1 l (i : Int)) (j : Int)) = (colI l j (i + 1)).sum := by rw [hv]; exact wrap_id (by omega) (by omega)
          simp only [if_pos q1, if_pos q2, if_pos q3, wrap_nat j (by omega), hw]
          have hset : s.set (j : Int).toNat (colI l j (i + 1)).sum = (List.range n).map fun j' => (colI l j' (if j' < j + 1 then i + 1 else i)).sum := by
            rw [hs, Int.toNat_natCast, map_range_set]
            apply List.map_congr_left
            intro j' _
            by_cases e : j' = j
            · subst e; simp
            · rw [if_neg e]
              by_cases e2 : j' < j
              · rw [if_pos e2, if_pos (by omega)]
              · rw [if_neg e2, if_neg (by omega)]
          rw [hset]; exact hx) n ((List.range n).map fun j => (colI l j i).sum) 0 (by omega) (by simp)
      have hs2 : s' = (List.range n).map fun j => (colI l j (i + 1)).sum := by
        rw [hs']; apply List.map_congr_left; intro j' hj'; rw [if_pos (List.mem_range.1 hj')]
      subst hs2
      refine h2 x (Ev.step (fun k => by rw [spec_maSums.l1]) ?_)
      have q1 : ¬ (n : Int) < ((rd_L1 l (i : Int)).length : Int) := by omega
      simp only [if_neg q1, wrap_nat i (by omega)]
      exact hx) l.length ([], (List.range n).map fun j => (colI l j 0).sum) 0 (by omega) (by simp)
  refine h2 _ (Ev.step (fun k => by rw [spec_maSums.l0]) ?_)
  have q1 : ¬ (l.length : Int) < (l.length : Int) := by omega
  simp only [if_neg q1]
  refine Ev.some ?_
  simp [gSums, colsI, hn]
end Go.Proofs.Ytojcnapdalpnmaa.K

namespace Go.Proofs.Ytojcnapdalpnmaa.K
open Go.RowKit Go.Proofs.YtojcnapdalpnmaaW.PrintWords Go.Proofs.YtojcnapdalpnmaaW.PrintMore Go.Proofs.Ytojcnapdalpnmaa.P
def optI : Option Nat → Int | some i => i | none => -1
theorem evPos {α : Type} {c : Prop} [Decidable c] {f g : Nat → Option α} {r : α} (h : c) (hf : Ev f r) : Ev (fun k => if c then f k else g k) r := Ev.ite (fun _ => hf) (fun h' => absurd h h')
theorem evNeg {α : Type} {c : Prop} [Decidable c] {f g : Nat → Option α} {r : α} (h : ¬ c) (hg : Ev g r) : Ev (fun k => if c then f k else g k) r := Ev.ite (fun h' => absurd h' h) (fun _ => hg)
theorem firstLoop (g : Nat → Nat → Option Int) (n : Nat) (P : Nat → Bool) (hend : Ev (g n) (-1)) (hr : ∀ i, i < n → (P i = true → Ev (g i) (i : Int)) ∧ (P i = false → ∀ x, Ev (g (i + 1)) x → Ev (g i) x)) : ∀ (d i : Nat), i + d = n → Ev (g i) (optI (firstI P i d))
  | 0, i, h => by obtain rfl : i = n := by omega
                  exact hend
  | d + 1, i, h => by
    obtain ⟨h1, h2⟩ := hr i (by omega)
    simp only [firstI]
    by_cases hp : P i = true
    · rw [if_pos hp]; exact h1 hp
    · rw [if_neg hp]; exact h2 (by simpa using hp) _ (firstLoop g n P hend hr d (i + 1) (by omega))
section
variable {n m : Nat} {t u : List (List Int)}
theorem firstRow_f (ht : Shape n m t) (hu : Shape n m u) (hn : n ≤ 6) (hm : m ≤ 6) (c : Nat) (hc : c < m) (a b : Int) : Ev (fun k => impl_firstRow.f k t u c a b) (optI (firstI (fun i => decide (at2 t i c = a) && decide (at2 u i c = b)) 0 n)) := by
  unfold impl_firstRow.f
  have e1 := ht.1
  have e2 := hu.1
  rw [e1]
  refine firstLoop (fun i k => impl_firstRow.l0 k t u c a b (n : Int) (i : Int)) n _ ?_ (fun i hi => ?_) n 0 (by omega)
  · refine Ev.step (fun k => by rw [impl_firstRow.l0]) ?_
    exact evNeg (by omega) (Ev.now _)
  · have q1 : (i : Int) < (n : Int) := by omega
    have q2 : 0 ≤ (i : Int) := by omega
    have q3 : (i : Int) < (t.length : Int) := by omega
    have q4 : 0 ≤ (c : Int) := by omega
    have q5 : (c : Int) < ((rd_L1 t (i : Int)).length : Int) := by have : (rd_L1 t (i : Int)).length = m := ht.2.1 i hi; omega
    have q6 : (i : Int) < (u.length : Int) := by omega
    have q7 : (c : Int) < ((rd_L1 u (i : Int)).length : Int) := by have : (rd_L1 u (i : Int)).length = m := hu.2.1 i hi; omega
    have z1 : rd (rd_L1 t (i : Int)) (c : Int) = at2 t i c := rfl
    have z2 : rd (rd_L1 u (i : Int)) (c : Int) = at2 u i c := rfl
    refine ⟨fun hp => Ev.step (fun k => by rw [impl_firstRow.l0]) ?_, fun hp x hx => Ev.step (fun k => by rw [impl_firstRow.l0]) ?_⟩
    · simp only [Bool.and_eq_true, decide_eq_true_eq] at hp
      simp only [if_pos q1, if_pos q2, if_pos q3, if_pos q4, if_pos q5, if_pos q6, if_pos q7, z1, z2, if_pos hp.1, if_pos hp.2]
      exact Ev.now _
    · simp only [if_pos q1, if_pos q2, if_pos q3, if_pos q4, if_pos q5, if_pos q6, if_pos q7, z1, z2, wrap_nat i (by omega)]
      refine Ev.ite (fun h1 => Ev.ite (fun h2 => ?_) (fun _ => hx)) (fun _ => hx)
      simp [h1, h2] at hp
theorem maFirst_f (ht : Shape n m t) (hu : Shape n m u) (hn : n ≤ 6) (hm : m ≤ 6) (c : Nat) (hc : c < m) : Ev (fun k => spec_maFirst.f k t u c) (optI (pRow t u n c)) := by
  unfold spec_maFirst.f pRow
  have e1 := ht.1
  have e2 := hu.1
  rw [e1]
  refine firstLoop (fun i k => spec_maFirst.l0 k t u c (n : Int) (i : Int)) n _ ?_ (fun i hi => ?_) n 0 (by omega)
  · refine Ev.step (fun k => by rw [spec_maFirst.l0]) ?_
    exact evNeg (by omega) (Ev.now _)
  · have q1 : (i : Int) < (n : Int) := by omega
    have q2 : 0 ≤ (i : Int) := by omega
    have q3 : (i : Int) < (t.length : Int) := by omega
    have q4 : 0 ≤ (c : Int) := by omega
    have q5 : (c : Int) < ((rd_L1 t (i : Int)).length : Int) := by have : (rd_L1 t (i : Int)).length = m := ht.2.1 i hi; omega
    have q6 : (i : Int) < (u.length : Int) := by omega
    have q7 : (c : Int) < ((rd_L1 u (i : Int)).length : Int) := by have : (rd_L1 u (i : Int)).length = m := hu.2.1 i hi; omega
    have z1 : rd (rd_L1 t (i : Int)) (c : Int) = at2 t i c := rfl
    have z2 : rd (rd_L1 u (i : Int)) (c : Int) = at2 u i c := rfl
    have y1 := ht.2.2 i c hi hc
    have y2 := hu.2.2 i c hi hc
    refine ⟨fun hp => Ev.step (fun k => by rw [spec_maFirst.l0]) ?_, fun hp x hx => Ev.step (fun k => by rw [spec_maFirst.l0]) ?_⟩
    · simp only [Bool.and_eq_true, decide_eq_true_eq] at hp
      have q8 : at2 t i c > at2 u i c := by omega
      simp only [if_pos q1, if_pos q2, if_pos q3, if_pos q4, if_pos q5, if_pos q6, if_pos q7, z1, z2, if_pos q8]
      exact Ev.now _
    · have q8 : ¬ at2 t i c > at2 u i c := fun h => by
        have h1 : at2 t i c = 1 := by omega
        have h2 : at2 u i c = 0 := by omega
        simp [h1, h2] at hp
      simp only [if_pos q1, if_pos q2, if_pos q3, if_pos q4, if_pos q5, if_pos q6, if_pos q7, z1, z2, if_neg q8, wrap_nat i (by omega)]
      exact hx
theorem laterColumn_f (ht : Shape n m t) (hn : n ≤ 6) (hm : m ≤ 6) (c r s : Nat) (hc : c < m) (hr : r < n) (hs : s < n) (a b : Int) : Ev (fun k => impl_laterColumn.f k t c r s a b) (optI (pCol t m c r s a b)) := by
  unfold impl_laterColumn.f pCol
  have e1 := ht.1
  have e0 : (rd_L1 t 0).length = m := ht.2.1 0 (by omega)
  rw [wrap_nat c (by omega)]
  refine firstLoop (fun i k => impl_laterColumn.l0 k t r s a b (i : Int)) m _ ?_ (fun i hi => ?_) (m - (c + 1)) (c + 1) (by omega)
  · refine Ev.step (fun k => by rw [impl_laterColumn.l0]) ?_
    exact evPos (by omega) (evNeg (by omega) (Ev.now _))
  · have q0 : 0 < (t.length : Int) := by omega
    have q1 : (i : Int) < ((rd_L1 t 0).length : Int) := by omega
    have q2 : 0 ≤ (i : Int) := by omega
    have q3 : 0 ≤ (r : Int) := by omega
    have q4 : (r : Int) < (t.length : Int) := by omega
    have q5 : (i : Int) < ((rd_L1 t (r : Int)).length : Int) := by have : (rd_L1 t (r : Int)).length = m := ht.2.1 r hr; omega
    have q6 : 0 ≤ (s : Int) := by omega
    have q7 : (s : Int) < (t.length : Int) := by omega
    have q8 : (i : Int) < ((rd_L1 t (s : Int)).length : Int) := by have : (rd_L1 t (s : Int)).length = m := ht.2.1 s hs; omega
    have z1 : rd (rd_L1 t (r : Int)) (i : Int) = at2 t r i := rfl
    have z2 : rd (rd_L1 t (s : Int)) (i : Int) = at2 t s i := rfl
    refine ⟨fun hp => Ev.step (fun k => by rw [impl_laterColumn.l0]) ?_, fun hp x hx => Ev.step (fun k => by rw [impl_laterColumn.l0]) ?_⟩
    · simp only [Bool.and_eq_true, decide_eq_true_eq] at hp
      simp only [if_pos q0, if_pos q1, if_pos q2, if_pos q3, if_pos q4, if_pos q5, if_pos q6, if_pos q7, if_pos q8, z1, z2, if_pos hp.1, if_pos hp.2]
      exact Ev.now _
    · simp only [if_pos q0, if_pos q1, if_pos q2, if_pos q3, if_pos q4, if_pos q5, if_pos q6, if_pos q7, if_pos q8, z1, z2, wrap_nat i (by omega)]
      refine Ev.ite (fun h1 => Ev.ite (fun h2 => ?_) (fun _ => hx)) (fun _ => hx)
      simp [h1, h2] at hp
theorem maBeside_f (ht : Shape n m t) (hn : n ≤ 6) (hm : m ≤ 6) (c r s : Nat) (hc : c < m) (hr : r < n) (hs : s < n) : Ev (fun k => spec_maBeside.f k t r s c) (optI (pCol t m c r s 0 1)) := by
  unfold spec_maBeside.f pCol
  have e1 := ht.1
  have e0 : (rd_L1 t 0).length = m := ht.2.1 0 (by omega)
  rw [wrap_nat c (by omega)]
  refine firstLoop (fun i k => spec_maBeside.l0 k t r s (i : Int)) m _ ?_ (fun i hi => ?_) (m - (c + 1)) (c + 1) (by omega)
  · refine Ev.step (fun k => by rw [spec_maBeside.l0]) ?_
    exact evPos (by omega) (evNeg (by omega) (Ev.now _))
  · have q0 : 0 < (t.length : Int) := by omega
    have q1 : (i : Int) < ((rd_L1 t 0).length : Int) := by omega
    have q2 : 0 ≤ (i : Int) := by omega
    have q3 : 0 ≤ (r : Int) := by omega
    have q4 : (r : Int) < (t.length : Int) := by omega
    have q5 : (i : Int) < ((rd_L1 t (r : Int)).length : Int) := by have : (rd_L1 t (r : Int)).length = m := ht.2.1 r hr; omega
    have q6 : 0 ≤ (s : Int) := by omega
    have q7 : (s : Int) < (t.length : Int) := by omega
    have q8 : (i : Int) < ((rd_L1 t (s : Int)).length : Int) := by have : (rd_L1 t (s : Int)).length = m := ht.2.1 s hs; omega
    have z1 : rd (rd_L1 t (r : Int)) (i : Int) = at2 t r i := rfl
    have z2 : rd (rd_L1 t (s : Int)) (i : Int) = at2 t s i := rfl
    refine ⟨fun hp => Ev.step (fun k => by rw [spec_maBeside.l0]) ?_, fun hp x hx => Ev.step (fun k => by rw [spec_maBeside.l0]) ?_⟩
    · simp only [Bool.and_eq_true, decide_eq_true_eq] at hp
      simp only [if_pos q0, if_pos q1, if_pos q2, if_pos q3, if_pos q4, if_pos q5, if_pos q6, if_pos q7, if_pos q8, z1, z2, if_pos hp.1, if_pos hp.2]
      exact Ev.now _
    · simp only [if_pos q0, if_pos q1, if_pos q2, if_pos q3, if_pos q4, if_pos q5, if_pos q6, if_pos q7, if_pos q8, z1, z2, wrap_nat i (by omega)]
      refine Ev.ite (fun h1 => Ev.ite (fun h2 => ?_) (fun _ => hx)) (fun _ => hx)
      simp [h1, h2] at hp
end
theorem pRow_swap (t u : List (List Int)) (n c : Nat) : firstI (fun i => decide (at2 t i c = 0) && decide (at2 u i c = 1)) 0 n = pRow u t n c := by
  unfold pRow; congr 1; funext i; rw [Bool.and_comm]
theorem pCol_swap (t : List (List Int)) (m c r s : Nat) (a b : Int) : pCol t m c s r b a = pCol t m c r s a b := by
  unfold pCol; congr 1; funext i; rw [Bool.and_comm]
theorem mn_nat (r s : Nat) : mn (r : Int) (s : Int) = ((min r s : Nat) : Int) := by unfold mn; split <;> omega
theorem mx_nat (r s : Nat) : mx (r : Int) (s : Int) = ((max r s : Nat) : Int) := by unfold mx; split <;> omega
theorem gpStep_len {n m c : Nat} {g g' : GP} (h : gpStep n m c g = some g') : g'.fst.length + g'.snd.length = g.fst.length + g.snd.length + 1 := by
  unfold gpStep at h
  split at h
  · split at h
    · obtain rfl := Option.some.inj h; simp; omega
    · split at h
      · obtain rfl := Option.some.inj h; simp; omega
      · cases h
  · cases h
theorem gpCol_len {n m c : Nat} : ∀ (f : Nat) (g : GP), (gpCol n m c f g).fst.length + (gpCol n m c f g).snd.length ≤ g.fst.length + g.snd.length + f
  | 0, g => by simp [gpCol]
  | f + 1, g => by
    simp only [gpCol]
    split
    · rename_i g' h
      have := gpStep_len h
      have := gpCol_len (n := n) (m := m) (c := c) f g'
      omega
    · omega
theorem shape_bd {n m : Nat} {t : List (List Int)} (h : Shape n m t) (hn : n ≤ 6) (hm : m ≤ 6) : t.length ≤ 1048576 ∧ ∀ x ∈ t, x.length ≤ 1048576 := by
  refine ⟨by have := h.1; omega, fun x hx => ?_⟩
  obtain ⟨i, hi, rfl⟩ := List.getElem_of_mem hx
  have := h.2.1 i (by have := h.1; omega)
  rw [rowN_at hi] at this; omega
/-- The rounds of one column. -/
theorem implCol {n m : Nat} (hn : n ≤ 6) (hm : m ≤ 6) (c : Nat) (hc : c < m) : ∀ (f : Nat) (g : GP), PInv n m c g → dOff n c g < f → g.fst.length + g.snd.length + f < 4398046511104 →
    PInv n m (c + 1) (gpCol n m c f g) ∧ ∀ x, Ev (fun k => impl_GridPath.l0 k (gpCol n m c f g).t (gpCol n m c f g).u (gpCol n m c f g).fst (gpCol n m c f g).snd (m : Int) ((c + 1 : Nat) : Int)) x → Ev (fun k => impl_GridPath.l1 k g.t g.u g.fst g.snd (c : Int) (m : Int) (c : Int)) x
  | 0, g, hI, hd, _ => by have := dOff_nonneg n c g; omega
  | f + 1, g, hI, hd, hl => by
    have f1 := firstRow_f hI.st hI.su hn hm c hc 1 0
    have f2 := firstRow_f hI.st hI.su hn hm c hc 0 1
    rw [pRow_swap] at f2
    replace f1 : Ev (fun k => impl_firstRow.f k g.t g.u c 1 0) (optI (pRow g.t g.u n c)) := f1
    cases h1 : pRow g.t g.u n c with
    | none =>
      have hs : gpStep n m c g = none := by unfold gpStep; rw [h1]
      simp only [gpCol, hs]
      refine ⟨col_done hI hc h1, fun x hx => Ev.step (fun k => by rw [impl_GridPath.l1]) ?_⟩
      rw [h1] at f1
      refine Ev.bind f1 (Ev.bind f2 ?_)
      refine evPos (by simp [optI]) ?_
      rw [wrap_nat c (by omega)]; exact hx
    | some r =>
      obtain ⟨r1, r2, r3⟩ := pRow_some h1
      cases h2 : pRow g.u g.t n c with
      | none => rw [pRow_back hI hc h2] at h1; cases h1
      | some s =>
        obtain ⟨s1, s2, s3⟩ := pRow_some h2
        rw [h1] at f1
        rw [h2] at f2
        have z0 : ¬ optI (some r) < 0 := by simp [optI]
        cases h3 : pCol g.t m c r s 0 1 with
        | some d =>
          obtain ⟨d1, d2, d3, d4⟩ := pCol_some h3
          have hs : gpStep n m c g = some ⟨pSw g.t r s c d, g.u, g.fst ++ [pX r s c d], g.snd⟩ := by unfold gpStep; simp only [h1, h2, h3]
          simp only [gpCol, hs]
          obtain ⟨i1, i2⟩ := stepT (x := g.fst ++ [pX r s c d]) hI hc h1 h2 h3
          obtain ⟨j1, j2⟩ := implCol hn hm c hc f ⟨pSw g.t r s c d, g.u, g.fst ++ [pX r s c d], g.snd⟩ i1 (by omega) (by simp; omega)
          refine ⟨j1, fun x hx => Ev.step (fun k => by rw [impl_GridPath.l1]) ?_⟩
          refine Ev.bind f1 (Ev.bind f2 ?_)
          refine evNeg z0 ?_
          have f3 := laterColumn_f hI.st hn hm c r s hc r1 s1 0 1
          rw [h3] at f3
          refine Ev.bind f3 ?_
          have z1 : optI (some d) > 0 := by simp [optI]; omega
          refine evPos z1 ?_
          simp only [optI, mn_nat, mx_nat, impl_switched.f, if_pos (shape_bd hI.st hn hm), Option.bind_some]
          refine evPos (by simp; omega) ?_
          exact j2 x hx
        | none =>
          have h4 : ∃ d, pCol g.u m c r s 1 0 = some d := by
            cases h : pCol g.u m c r s 1 0 with
            | none => exact absurd h (col_switch hI hc h1 h2 h3)
            | some d => exact ⟨d, rfl⟩
          obtain ⟨d, h4⟩ := h4
          obtain ⟨d1, d2, d3, d4⟩ := pCol_some h4
          have hs : gpStep n m c g = some ⟨g.t, pSw g.u r s c d, g.fst, pX r s c d :: g.snd⟩ := by unfold gpStep; simp only [h1, h2, h3, h4]
          simp only [gpCol, hs]
          obtain ⟨i1, i2⟩ := stepU (x := pX r s c d :: g.snd) hI hc h1 h2 h4
          obtain ⟨j1, j2⟩ := implCol hn hm c hc f ⟨g.t, pSw g.u r s c d, g.fst, pX r s c d :: g.snd⟩ i1 (by omega) (by simp; omega)
          refine ⟨j1, fun x hx => Ev.step (fun k => by rw [impl_GridPath.l1]) ?_⟩
          refine Ev.bind f1 (Ev.bind f2 ?_)
          refine evNeg z0 ?_
          have f3 := laterColumn_f hI.st hn hm c r s hc r1 s1 0 1
          rw [h3] at f3
          refine Ev.bind f3 ?_
          refine evNeg (by simp [optI]) ?_
          have f4 := laterColumn_f hI.su hn hm c r s hc r1 s1 1 0
          rw [h4] at f4
          refine Ev.bind f4 ?_
          simp only [optI, mn_nat, mx_nat, impl_switched.f, if_pos (shape_bd hI.su hn hm), Option.bind_some]
          refine evPos (by simp; omega) ?_
          exact j2 x hx
theorem specCol {n m : Nat} (hn : n ≤ 6) (hm : m ≤ 6) (c : Nat) (hc : c < m) : ∀ (f : Nat) (g : GP), PInv n m c g → dOff n c g < f → g.fst.length + g.snd.length + f < 4398046511104 →
    ∀ x, Ev (fun k => spec_GridPath.l0 k (gpCol n m c f g).t (gpCol n m c f g).u (gpCol n m c f g).fst (gpCol n m c f g).snd (m : Int) ((c + 1 : Nat) : Int)) x → Ev (fun k => spec_GridPath.l1 k g.t g.u g.fst g.snd (c : Int) (m : Int) (c : Int)) x
  | 0, g, hI, hd, _ => by have := dOff_nonneg n c g; omega
  | f + 1, g, hI, hd, hl => by
    have f1 := maFirst_f hI.st hI.su hn hm c hc
    have f2 := maFirst_f hI.su hI.st hn hm c hc
    cases h1 : pRow g.t g.u n c with
    | none =>
      have hs : gpStep n m c g = none := by unfold gpStep; rw [h1]
      simp only [gpCol, hs]
      refine fun x hx => Ev.step (fun k => by rw [spec_GridPath.l1]) ?_
      rw [h1] at f1
      refine Ev.bind f1 ?_
      refine evNeg (by simp [optI]) ?_
      rw [wrap_nat c (by omega)]; exact hx
    | some r =>
      obtain ⟨r1, r2, r3⟩ := pRow_some h1
      cases h2 : pRow g.u g.t n c with
      | none => rw [pRow_back hI hc h2] at h1; cases h1
      | some s =>
        obtain ⟨s1, s2, s3⟩ := pRow_some h2
        rw [h1] at f1
        rw [h2] at f2
        have hrs : r ≠ s := fun e => by subst e; omega
        have z0 : optI (some r) ≥ 0 := by simp [optI]
        have l1 : spec_l1Least.f (r : Int) (s : Int) = some ((min r s : Nat) : Int) := by unfold spec_l1Least.f; split <;> congr 1 <;> omega
        have l2 : spec_l1Most.f (r : Int) (s : Int) = some ((max r s : Nat) : Int) := by unfold spec_l1Most.f; split <;> congr 1 <;> omega
        have w1 : min r s < max r s := by omega
        have w2 : max r s < n := by omega
        cases h3 : pCol g.t m c r s 0 1 with
        | some d =>
          obtain ⟨d1, d2, d3, d4⟩ := pCol_some h3
          have hs : gpStep n m c g = some ⟨pSw g.t r s c d, g.u, g.fst ++ [pX r s c d], g.snd⟩ := by unfold gpStep; simp only [h1, h2, h3]
          simp only [gpCol, hs]
          obtain ⟨i1, i2⟩ := stepT (x := g.fst ++ [pX r s c d]) hI hc h1 h2 h3
          have j2 := specCol hn hm c hc f ⟨pSw g.t r s c d, g.u, g.fst ++ [pX r s c d], g.snd⟩ i1 (by omega) (by simp; omega)
          refine fun x hx => Ev.step (fun k => by rw [spec_GridPath.l1]) ?_
          refine Ev.bind f1 ?_
          refine evPos z0 ?_
          refine Ev.bind f1 (Ev.bind f2 ?_)
          have f3 := maBeside_f hI.st hn hm c r s hc r1 s1
          rw [h3] at f3
          simp only [optI, l1, l2, Option.bind_some]
          simp only [optI] at f3
          refine Ev.bind f3 ?_
          refine evPos (by omega) ?_
          refine Ev.bind (maDo_f g.t _ _ c d m (shape_bd hI.st hn hm).1 w1 (by rw [hI.st.1]; exact w2) d1 d2 (by omega) (fun i hi => hI.st.2.1 i (by rw [← hI.st.1]; exact hi))) ?_
          refine evPos (by omega) ?_
          exact j2 x hx
        | none =>
          have h4 : ∃ d, pCol g.u m c r s 1 0 = some d := by
            cases h : pCol g.u m c r s 1 0 with
            | none => exact absurd h (col_switch hI hc h1 h2 h3)
            | some d => exact ⟨d, rfl⟩
          obtain ⟨d, h4⟩ := h4
          obtain ⟨d1, d2, d3, d4⟩ := pCol_some h4
          have hs : gpStep n m c g = some ⟨g.t, pSw g.u r s c d, g.fst, pX r s c d :: g.snd⟩ := by unfold gpStep; simp only [h1, h2, h3, h4]
          simp only [gpCol, hs]
          obtain ⟨i1, i2⟩ := stepU (x := pX r s c d :: g.snd) hI hc h1 h2 h4
          have j2 := specCol hn hm c hc f ⟨g.t, pSw g.u r s c d, g.fst, pX r s c d :: g.snd⟩ i1 (by omega) (by simp; omega)
          refine fun x hx => Ev.step (fun k => by rw [spec_GridPath.l1]) ?_
          refine Ev.bind f1 ?_
          refine evPos z0 ?_
          refine Ev.bind f1 (Ev.bind f2 ?_)
          have f3 := maBeside_f hI.st hn hm c r s hc r1 s1
          rw [h3] at f3
          simp only [optI, l1, l2, Option.bind_some]
          simp only [optI] at f3
          refine Ev.bind f3 ?_
          refine evNeg (by omega) ?_
          have f4 := maBeside_f hI.su hn hm c s r hc s1 r1
          rw [pCol_swap, h4] at f4
          simp only [optI] at f4
          refine Ev.bind f4 ?_
          refine Ev.bind (maDo_f g.u _ _ c d m (shape_bd hI.su hn hm).1 w1 (by rw [hI.su.1]; exact w2) d1 d2 (by omega) (fun i hi => hI.su.2.1 i (by rw [← hI.su.1]; exact hi))) ?_
          refine evPos (by simp; omega) ?_
          exact j2 x hx
theorem gpAll_len {n m : Nat} : ∀ (d c : Nat) (g : GP), (gpAll n m c d g).fst.length + (gpAll n m c d g).snd.length ≤ g.fst.length + g.snd.length + d * (n + 1)
  | 0, c, g => by simp [gpAll]
  | d + 1, c, g => by
    have h1 := gpAll_len (n := n) (m := m) d (c + 1) (gpCol n m c (n + 1) g)
    have h2 := gpCol_len (n := n) (m := m) (c := c) (n + 1) g
    simp only [gpAll]
    rw [Nat.add_mul]; omega
theorem implAll {n m : Nat} (hn : n ≤ 6) (hm : m ≤ 6) : ∀ (d c : Nat) (g : GP), c + d = m → PInv n m c g → g.fst.length + g.snd.length ≤ 7 * c →
    Ev (fun k => impl_GridPath.l0 k g.t g.u g.fst g.snd (m : Int) (c : Int)) ((gpAll n m c d g).fst ++ (gpAll n m c d g).snd, true) ∧ Ev (fun k => spec_GridPath.l0 k g.t g.u g.fst g.snd (m : Int) (c : Int)) ((gpAll n m c d g).fst ++ (gpAll n m c d g).snd, true)
  | 0, c, g, hcd, hI, hl => by
    have q1 : ¬ (c : Int) < (m : Int) := by omega
    have q2 : g.fst.length + g.snd.length < 4398046511104 := by omega
    exact ⟨Ev.step (fun k => by rw [impl_GridPath.l0, if_neg q1, if_pos q2]; rfl) (Ev.now _), Ev.step (fun k => by rw [spec_GridPath.l0, if_neg q1, if_pos q2]; rfl) (Ev.now _)⟩
  | d + 1, c, g, hcd, hI, hl => by
    have q1 : (c : Int) < (m : Int) := by omega
    have hd : dOff n c g < ((n + 1 : Nat) : Int) := by have := dOff_le n c g; omega
    obtain ⟨h1, h2⟩ := implCol hn hm c (by omega) (n + 1) g hI hd (by omega)
    have h3 := specCol hn hm c (by omega) (n + 1) g hI hd (by omega)
    have h5 := gpCol_len (n := n) (m := m) (c := c) (n + 1) g
    obtain ⟨j1, j2⟩ := implAll hn hm d (c + 1) (gpCol n m c (n + 1) g) (by omega) h1 (by omega)
    simp only [gpAll]
    exact ⟨Ev.step (fun k => by rw [impl_GridPath.l0, if_pos q1]) (h2 _ j1), Ev.step (fun k => by rw [spec_GridPath.l0, if_pos q1]) (h3 _ j2)⟩
/-- Lists of numbers are compared. -/
theorem l1Same_l0 : ∀ (rest done rest2 done2 : List Int), done.length = done2.length → rest.length = rest2.length → (done ++ rest).length ≤ 1048576 → Ev (fun k => spec_l1Same.l0 k (done ++ rest) (done2 ++ rest2) ((done ++ rest).length : Int) (done.length : Int)) (decide (rest = rest2)) := by
  intro rest
  induction rest with
  | nil =>
    intro done rest2 done2 hl hl2 h
    obtain rfl : rest2 = [] := by simpa using hl2.symm
    exact Ev.step (fun k => by simp [spec_l1Same.l0]; rfl) (Ev.some (by simp))
  | cons x rest ih =>
    intro done rest2 done2 hl hl2 h
    obtain ⟨y, rest2, rfl⟩ : ∃ y r, rest2 = y :: r := by cases rest2 with | nil => simp at hl2 | cons y r => exact ⟨y, r, rfl⟩
    have ih' := ih (done ++ [x]) rest2 (done2 ++ [y]) (by simp [hl]) (by simpa using hl2) (by simpa using h)
    rw [show done ++ [x] ++ rest = done ++ x :: rest by simp, show done2 ++ [y] ++ rest2 = done2 ++ y :: rest2 by simp] at ih'
    have hlen : (done ++ x :: rest).length = done.length + 1 + rest.length := by simp; omega
    have hlen2 : (done2 ++ y :: rest2).length = done2.length + 1 + rest2.length := by simp; omega
    have q1 : (done.length : Int) < ((done ++ x :: rest).length : Int) := by omega
    have q2 : 0 ≤ (done.length : Int) := by omega
    have q3 : (done.length : Int) < ((done2 ++ y :: rest2).length : Int) := by omega
    have z1 : rd (done ++ x :: rest) (done.length : Int) = x := by simp [rd]
    have z2 : rd (done2 ++ y :: rest2) (done.length : Int) = y := by rw [hl]; simp [rd]
    refine Ev.step (fun k => by rw [spec_l1Same.l0]) ?_
    simp only [if_pos q1, if_pos q2, if_pos q3, z1, z2, wrap_nat done.length (by omega)]
    refine Ev.ite (fun he => ?_) (fun he => ?_)
    · subst he
      have e2 : ((done ++ [x]).length : Int) = ((done.length + 1 : Nat) : Int) := by simp
      rw [e2] at ih'
      exact Ev.pair ih' (by simp)
    · exact Ev.some (by simp [he])
theorem l1Same_f (a b : List Int) (h : a.length ≤ 1048576) : Ev (fun k => spec_l1Same.f k a b) (decide (a = b)) := by
  unfold spec_l1Same.f
  refine Ev.ite (fun hl => ?_) (fun hl => ?_)
  · exact l1Same_l0 a [] b [] rfl (by omega) (by simpa using h)
  · exact Ev.some (by rw [decide_eq_false]; intro e; subst e; exact hl rfl)
theorem slEq_l0 : ∀ (k : Nat) (a b : List Int) (n i : Int), slices_Equal_int_int.l0 k a b n i = spec_l1Same.l0 k a b n i
  | 0, _, _, _, _ => rfl
  | k + 1, a, b, n, i => by rw [slices_Equal_int_int.l0, spec_l1Same.l0, slEq_l0 k]
theorem slEq_f (a b : List Int) (h : a.length ≤ 1048576) : Ev (fun k => slices_Equal_int_int.f k a b) (decide (a = b)) :=
  Ev.congr (fun k => by unfold slices_Equal_int_int.f spec_l1Same.f; rw [slEq_l0]) (l1Same_f a b h)
/-- The sums of rows and columns, told by places. -/
theorem sum_sumR (l : List Int) : ∀ k, k ≤ l.length → (l.take k).sum = sumR k (fun j => rd l (j : Int))
  | 0, _ => by simp [sumR]
  | k + 1, h => by
    rw [List.take_succ_eq_append_getElem (by omega), List.sum_append, sum_sumR l k (by omega)]
    simp only [sumR]
    rw [rdI_at (by omega)]; simp
theorem row_sumR (l : List Int) : l.sum = sumR l.length (fun j => rd l (j : Int)) := by
  have := sum_sumR l l.length (Nat.le_refl _)
  rwa [List.take_length] at this
theorem col_sumR (l : List (List Int)) (j : Nat) : ∀ i, (colI l j i).sum = sumR i (fun i => at2 l i j)
  | 0 => by simp [colI, sumR]
  | i + 1 => by rw [colI_succ, List.sum_append, col_sumR l j i]; simp [sumR]; rfl
theorem grid_shape {l : List (List Int)} (hg : gridB l = true) : Shape l.length (rd_L1 l 0).length l := by
  obtain ⟨g1, g2, g3, g4, g5⟩ := grid_get hg
  refine ⟨rfl, grid_rowN hg, fun i j hi hj => ?_⟩
  have h := g5 _ (rowN_mem hi)
  unfold at2
  rw [rdN_at (show j < (rowN l i).length by rw [h.1]; exact hj)]
  exact h.2 _ (List.getElem_mem _)
theorem alike_inv {l0 l1 : List (List Int)} (h0 : gridB l0 = true) (h1 : gridB l1 = true) (e1 : (gSums l0).1 = (gSums l1).1) (e2 : (gSums l0).2 = (gSums l1).2) : PInv l0.length (rd_L1 l0 0).length 0 ⟨l0, l1, [], []⟩ := by
  have en : l0.length = l1.length := by have := congrArg List.length e1; simpa [gSums] using this
  have em : (rd_L1 l0 0).length = (rd_L1 l1 0).length := by have := congrArg List.length e2; simpa [gSums, colsI_length] using this
  have s0 := grid_shape h0
  have s1 := grid_shape h1
  refine ⟨s0, by rw [en, em]; exact s1, fun i hi => ?_, fun j hj => ?_, fun i j hi hj => by omega⟩
  · have q : (l0.map List.sum)[i]? = (l1.map List.sum)[i]? := by have e : l0.map List.sum = l1.map List.sum := e1; rw [e]
    rw [List.getElem?_map, List.getElem?_map, List.getElem?_eq_getElem hi, List.getElem?_eq_getElem (show i < l1.length by omega)] at q
    simp only [Option.map_some, Option.some.injEq] at q
    rw [← rowN_at hi, ← rowN_at (show i < l1.length by omega), row_sumR, row_sumR, s0.2.1 i hi, s1.2.1 i (by omega), ← em] at q
    exact q
  · have q : ((colsI l0 (rd_L1 l0 0).length l0.length).map List.sum)[j]? = ((colsI l1 (rd_L1 l1 0).length l1.length).map List.sum)[j]? := by have e : (colsI l0 (rd_L1 l0 0).length l0.length).map List.sum = (colsI l1 (rd_L1 l1 0).length l1.length).map List.sum := e2; rw [e]
    unfold colsI at q
    rw [← em, ← en] at q
    simp only [List.getElem?_map, List.getElem?_range hj, Option.map_some, Option.some.injEq] at q
    rw [col_sumR, col_sumR] at q
    exact q
/-- What both functions answer. -/
def alikeP (l0 l1 : List (List Int)) : Prop := gridB l0 = true ∧ gridB l1 = true ∧ (gSums l0).1 = (gSums l1).1 ∧ (gSums l0).2 = (gSums l1).2
instance (l0 l1 : List (List Int)) : Decidable (alikeP l0 l1) := by unfold alikeP; infer_instance
def gpG (l0 l1 : List (List Int)) : GP := gpAll l0.length (rd_L1 l0 0).length 0 (rd_L1 l0 0).length ⟨l0, l1, [], []⟩
def gpRes (l0 l1 : List (List Int)) : List S41 × Bool := if alikeP l0 l1 then ((gpG l0 l1).fst ++ (gpG l0 l1).snd, true) else ([], false)
theorem impl_no {l0 l1 : List (List Int)} (h : ¬ alikeP l0 l1) : Ev (fun k => impl_GridPath.j0 k l0 l1 true) (gpRes l0 l1) := by
  unfold gpRes; rw [if_neg h]
  exact Ev.step (fun k => by rw [impl_GridPath.j0, if_pos rfl]) (Ev.now _)
theorem spec_no {l0 l1 : List (List Int)} (h : ¬ alikeP l0 l1) : Ev (fun k => spec_GridPath.j0 k l0 l1 true) (gpRes l0 l1) := by
  unfold gpRes; rw [if_neg h]
  exact Ev.step (fun k => by rw [spec_GridPath.j0, if_pos rfl]) (Ev.now _)
theorem both_yes {l0 l1 : List (List Int)} (h : alikeP l0 l1) : Ev (fun k => impl_GridPath.j0 k l0 l1 false) (gpRes l0 l1) ∧ Ev (fun k => spec_GridPath.j0 k l0 l1 false) (gpRes l0 l1) := by
  obtain ⟨a0, a1, e1, e2⟩ := id h
  obtain ⟨g1, g2, g3, g4, g5⟩ := grid_get a0
  obtain ⟨h1, h2⟩ := implAll (n := l0.length) (m := (rd_L1 l0 0).length) (by omega) (by omega) (rd_L1 l0 0).length 0 ⟨l0, l1, [], []⟩ (by omega) (alike_inv a0 a1 e1 e2) (by simp)
  unfold gpRes; rw [if_pos h]
  have q : 0 < (l0.length : Int) := by omega
  exact ⟨Ev.step (fun k => by rw [impl_GridPath.j0, if_neg (by simp), if_pos q]; rfl) h1, Ev.step (fun k => by rw [spec_GridPath.j0, if_neg (by simp), if_pos q]; rfl) h2⟩
theorem impl_GridPath_f {l0 l1 : List (List Int)} (h0 : l0.length ≤ 1048576 ∧ ∀ r ∈ l0, r.length ≤ 1048576) (h1 : l1.length ≤ 1048576 ∧ ∀ r ∈ l1, r.length ≤ 1048576) : Ev (fun k => impl_GridPath.f k l0 l1) (gpRes l0 l1) := by
  have b0 : l0.length ≤ BM := by have := h0.1; simp only [BM]; omega
  have b1 : l1.length ≤ BM := by have := h1.1; simp only [BM]; omega
  have c0 : ∀ r ∈ l0, r.length ≤ BM := fun x hx => by have := h0.2 x hx; simp only [BM]; omega
  have c1 : ∀ r ∈ l1, r.length ≤ BM := fun x hx => by have := h1.2 x hx; simp only [BM]; omega
  unfold impl_GridPath.f
  simp only [IsGrid_f l0 b0 c0, IsGrid_f l1 b1 c1, Option.bind_some]
  refine Ev.ite (fun a0 => Ev.ite (fun a1 => ?_) (fun a1 => impl_no (fun h => a1 h.2.1))) (fun a0 => impl_no (fun h => a0 h.1))
  have G0 := grid_get a0
  have G1 := grid_get a1
  refine Ev.bind (rowSums_f (by omega) (grid_fair a0)) (Ev.bind (rowSums_f (by omega) (grid_fair a1)) (Ev.bind (slEq_f _ _ (by rw [List.length_map]; omega)) (Ev.ite (fun e1 => ?_) (fun e1 => impl_no (fun h => e1 (decide_eq_true h.2.2.1))))))
  refine Ev.bind (turnI_f a0 b0 c0) (Ev.bind (rowSums_f (by rw [colsI_length]; omega) (colsI_fair a0)) (Ev.bind (turnI_f a1 b1 c1) (Ev.bind (rowSums_f (by rw [colsI_length]; omega) (colsI_fair a1)) (Ev.bind (slEq_f _ _ (by rw [List.length_map, colsI_length]; omega)) ?_))))
  by_cases e2 : (gSums l0).2 = (gSums l1).2
  · have e3 : decide (List.map List.sum (colsI l0 (rd_L1 l0 0).length l0.length) = List.map List.sum (colsI l1 (rd_L1 l1 0).length l1.length)) = true := decide_eq_true e2
    rw [e3]
    exact (both_yes ⟨a0, a1, of_decide_eq_true e1, e2⟩).1
  · have e3 : decide (List.map List.sum (colsI l0 (rd_L1 l0 0).length l0.length) = List.map List.sum (colsI l1 (rd_L1 l1 0).length l1.length)) = false := decide_eq_false e2
    rw [e3]
    exact impl_no (fun h => e2 h.2.2.2)
theorem spec_GridPath_f {l0 l1 : List (List Int)} (h0 : l0.length ≤ 1048576 ∧ ∀ r ∈ l0, r.length ≤ 1048576) (h1 : l1.length ≤ 1048576 ∧ ∀ r ∈ l1, r.length ≤ 1048576) : Ev (fun k => spec_GridPath.f k l0 l1) (gpRes l0 l1) := by
  have b0 : l0.length ≤ BM := by have := h0.1; simp only [BM]; omega
  have b1 : l1.length ≤ BM := by have := h1.1; simp only [BM]; omega
  have c0 : ∀ r ∈ l0, r.length ≤ BM := fun x hx => by have := h0.2 x hx; simp only [BM]; omega
  have c1 : ∀ r ∈ l1, r.length ≤ BM := fun x hx => by have := h1.2 x hx; simp only [BM]; omega
  unfold spec_GridPath.f
  refine Ev.bind (maGrid_f l0 b0 c0) (Ev.ite (fun a0 => Ev.bind (maGrid_f l1 b1 c1) (Ev.ite (fun a1 => ?_) (fun a1 => spec_no (fun h => a1 h.2.1)))) (fun a0 => spec_no (fun h => a0 h.1)))
  have G0 := grid_get a0
  have G1 := grid_get a1
  have hA : Ev (fun k => spec_maAlike.f k l0 l1) (decide (alikeP l0 l1)) := by
    unfold spec_maAlike.f
    refine Ev.bind (maSums_f a0) (Ev.bind (maSums_f a1) (Ev.bind (l1Same_f _ _ (by simp [gSums]; omega)) (Ev.ite (fun e1 => ?_) (fun e1 => ?_))))
    · refine Ev.bind (l1Same_f _ _ (by simp [gSums, colsI_length]; omega)) (Ev.some ?_)
      by_cases e2 : (gSums l0).2 = (gSums l1).2
      · rw [decide_eq_true e2, decide_eq_true]; exact ⟨a0, a1, of_decide_eq_true e1, e2⟩
      · rw [decide_eq_false e2, decide_eq_false]; exact fun h => e2 h.2.2.2
    · exact Ev.some (decide_eq_false (fun h => e1 (decide_eq_true h.2.2.1))).symm
  refine Ev.bind hA ?_
  by_cases h : alikeP l0 l1
  · rw [decide_eq_true h]; exact (both_yes h).2
  · rw [decide_eq_false h]; exact spec_no h
theorem GridPath_ans (l0 l1 : List (List Int)) (h0 : l0.length ≤ 1048576 ∧ ∀ r ∈ l0, r.length ≤ 1048576) (h1 : l1.length ≤ 1048576 ∧ ∀ r ∈ l1, r.length ≤ 1048576) :
    ∃ (w0 : List S41) (wb : Bool), Ev (fun k => spec_GridPath.f k l0 l1) (w0, wb) ∧ Ev (fun k => impl_GridPath.f k l0 l1) (w0, wb) ∧ w0.length ≤ 1048576 := by
  refine ⟨(gpRes l0 l1).1, (gpRes l0 l1).2, spec_GridPath_f h0 h1, impl_GridPath_f h0 h1, ?_⟩
  unfold gpRes
  split
  · rename_i h
    obtain ⟨g1, g2, g3, g4, g5⟩ := grid_get h.1
    have e := gpAll_len (n := l0.length) (m := (rd_L1 l0 0).length) (rd_L1 l0 0).length 0 ⟨l0, l1, [], []⟩
    have e2 : (rd_L1 l0 0).length * (l0.length + 1) ≤ 6 * 7 := Nat.mul_le_mul g4 (by omega)
    show ((gpG l0 l1).fst ++ (gpG l0 l1).snd).length ≤ 1048576
    rw [List.length_append]
    simp only [List.length_nil] at e
    unfold gpG
    omega
  · simp
end Go.Proofs.Ytojcnapdalpnmaa.K

namespace Go.Proofs.Ytojcnapdalpnmaa.K
open Go.RowKit Go.Proofs.YtojcnapdalpnmaaW.PrintWords Go.Proofs.Ytojcnapdalpnmaa.P
theorem seqOf_from (a : Int) (n : Nat) : seqOf a n = seqFrom a n := by
  induction n generalizing a with
  | zero => rfl
  | succ n ih => simp [seqOf, seqFrom, ih]
theorem seqRows_length (a : Int) (l : List (List Int)) : (seqRows a l).2.length = l.length := by
  induction l generalizing a with
  | nil => rfl
  | cons r l ih => simp [seqRows, ih]
theorem seqRows_le (a : Int) (l : List (List Int)) : a ≤ (seqRows a l).1 := by
  induction l generalizing a with
  | nil => simp [seqRows]
  | cons r l ih => have := ih (a + r.length); simp only [seqRows]; omega
theorem markSS_f (l : List (List Int)) (h : l.length ≤ 1048576) (hr : ∀ r ∈ l, r.length ≤ 1048576) : laws_markIntSS.f l 1 = some (seqRows 1 l) := by
  unfold laws_markIntSS.f
  rw [if_pos ⟨by omega, by omega, h, hr⟩]
theorem markSS_f' (l : List (List Int)) (a : Int) (h0 : 0 ≤ a) (h1 : a ≤ 1048576) (h : l.length ≤ 1048576) (hr : ∀ r ∈ l, r.length ≤ 1048576) : laws_markIntSS.f l a = some (seqRows a l) := by
  unfold laws_markIntSS.f
  rw [if_pos ⟨h0, h1, h, hr⟩]
theorem heldSS_l0 : ∀ (rest : List (List Int)) (done : List (List Int)) (b : Int), (done ++ (seqRows b rest).2).length ≤ 1048576 → (∀ r ∈ rest, r.length ≤ 1048576) → 0 ≤ b → b ≤ 1048576 + 1048576 * done.length → Ev (fun k => laws_heldIntSS.l0 k (done ++ (seqRows b rest).2) b done.length) (seqRows b rest).1 := by
  intro rest
  induction rest with
  | nil => intro done b h _ _ _; exact Ev.step (fun k => by simp [laws_heldIntSS.l0, seqRows]; rfl) (Ev.some (by simp [seqRows]))
  | cons x rest ih =>
    intro done b h hr h0 hb
    simp only [seqRows] at h ⊢
    have hx := hr x (by simp)
    have hlen : (done ++ seqOf b x.length :: (seqRows (b + x.length) rest).2).length = done.length + 1 + rest.length := by simp [seqRows_length]; omega
    have ih' := ih (done ++ [seqOf b x.length]) (b + x.length) (by simpa using h) (fun r h => hr r (by simp [h])) (by omega) (by rw [List.length_append, List.length_singleton]; omega)
    have h1 : (done.length : Int) < ((done ++ seqOf b x.length :: (seqRows (b + x.length) rest).2).length : Int) := by omega
    have h2 : 0 ≤ (done.length : Int) := by omega
    have h3 : rd_L1 (done ++ seqOf b x.length :: (seqRows (b + x.length) rest).2) (done.length : Int) = seqOf b x.length := by simp [rd_L1]
    have h4 : wrap64 ((done.length : Int) + 1) = ((done ++ [seqOf b x.length]).length : Int) := by rw [wrap_nat _ (by omega)]; simp
    refine Ev.step (fun k => by rw [laws_heldIntSS.l0]) ?_
    simp only [if_pos h1, if_pos h2, h3, h4]
    have hd : Ev (fun k => laws_heldIntS.f k (seqOf b x.length) b) (b + x.length) := by rw [seqOf_from]; exact heldIntS_f b x.length (by simp only [BM]; omega) h0 (by omega)
    refine Ev.bind hd ?_
    have h5 : ¬ (b + (x.length : Int) < 0) := by omega
    simp only [if_neg h5]
    simpa using ih'
theorem heldSS_f (l : List (List Int)) (h : l.length ≤ 1048576) (hr : ∀ r ∈ l, r.length ≤ 1048576) : Ev (fun k => laws_heldIntSS.f k (seqRows 1 l).2 1) (seqRows 1 l).1 := by
  unfold laws_heldIntSS.f
  exact heldSS_l0 l [] 1 (by simpa [seqRows_length] using h) hr (by omega) (by simp)
end Go.Proofs.Ytojcnapdalpnmaa.K

namespace Go.Proofs.Ytojcnapdalpnmaa.K
open Go.RowKit Go.Proofs.YtojcnapdalpnmaaW.PrintWords Go.Proofs.Ytojcnapdalpnmaa.P
/-- How many numbers a list of rows holds. -/
def totL : List (List Int) → Int
  | [] => 0
  | r :: l => (r.length : Int) + totL l
theorem totL_nonneg : ∀ l, 0 ≤ totL l
  | [] => Int.le_refl _
  | r :: l => by have := totL_nonneg l; simp only [totL]; omega
theorem totL_mem : ∀ {l : List (List Int)} {r : List Int}, r ∈ l → (r.length : Int) ≤ totL l
  | [], _, h => by cases h
  | x :: l, r, h => by
    have := totL_nonneg l
    rcases List.mem_cons.1 h with rfl | h
    · simp only [totL]; omega
    · have := totL_mem h; simp only [totL]; omega
theorem seqRows_tot : ∀ (a : Int) (l : List (List Int)), (seqRows a l).1 = a + totL l
  | a, [] => by simp [seqRows, totL]
  | a, r :: l => by have := seqRows_tot (a + r.length) l; simp only [seqRows, totL]; omega
theorem szIntS_g (l : List Int) (a : Int) (hl : l.length ≤ maxLen) (h0 : 0 ≤ a) (h1 : a ≤ 1048576) : ∃ r, laws_szIntS.f l a = some r ∧ (0 ≤ r → r = a - l.length) := by
  unfold maxLen at hl
  have e : wrap64 (a - (l.length : Int)) = a - l.length := by unfold wrap64; omega
  unfold laws_szIntS.f
  rw [e]
  by_cases h : a - (l.length : Int) < 0
  · rw [if_pos h]; exact ⟨-1, rfl, by omega⟩
  · rw [if_neg h]; exact ⟨_, rfl, fun _ => rfl⟩
theorem szIntSS_g0 : ∀ (rest done : List (List Int)) (a : Int), (done ++ rest).length ≤ maxLen → (∀ r ∈ rest, r.length ≤ maxLen) → 0 ≤ a → a ≤ 1048576 → ∃ r, Ev (fun k => laws_szIntSS.l0 k (done ++ rest) a done.length) r ∧ r ≤ a ∧ (0 ≤ r → r = a - totL rest) := by
  intro rest
  induction rest with
  | nil => intro done a h _ h0 _; exact ⟨a, Ev.step (fun k => by simp [laws_szIntSS.l0]; rfl) (Ev.some (by simp)), Int.le_refl _, by simp [totL]⟩
  | cons x rest ih =>
    intro done a h hr h0 h1'
    obtain ⟨h1, h2, h3, h4, h5⟩ := midL x done rest h
    obtain ⟨s, hs, hs'⟩ := szIntS_g x a (hr x (by simp)) h0 h1'
    by_cases hn : s < 0
    · refine ⟨-1, Ev.step (fun k => by rw [laws_szIntSS.l0]) ?_, by omega, by omega⟩
      simp only [if_pos h1, if_pos h2, h3, hs, Option.bind_some, if_pos hn]
      exact Ev.now _
    · have hs1 := hs' (by omega)
      obtain ⟨r, hr1, hr2, hr3⟩ := ih (done ++ [x]) s (by rw [h5]; exact h) (fun y hy => hr y (by simp [hy])) (by omega) (by omega)
      rw [h5] at hr1
      refine ⟨r, Ev.step (fun k => by rw [laws_szIntSS.l0]) ?_, by omega, fun hr0 => ?_⟩
      · simp only [if_pos h1, if_pos h2, h3, hs, Option.bind_some, if_neg hn, h4]
        exact hr1
      · have := hr3 hr0; simp only [totL]; omega
theorem szIntSS_g (l : List (List Int)) (a : Int) (hl : l.length ≤ maxLen) (hr : ∀ r ∈ l, r.length ≤ maxLen) (h0 : 0 ≤ a) (h1 : a ≤ 1048576) : ∃ r, Ev (fun k => laws_szIntSS.f k l a) r ∧ (r ≤ a) ∧ (0 ≤ r → ((l.length : Int) ≤ a ∧ ∀ x ∈ l, (x.length : Int) ≤ a) ∧ r = a - l.length - totL l ∧ (1 + totL l ≤ 1048576)) := by
  have e : wrap64 (a - (l.length : Int)) = a - l.length := by unfold maxLen at hl; unfold wrap64; omega
  unfold laws_szIntSS.f
  simp only [e]
  by_cases h : a - (l.length : Int) < 0
  · simp only [if_pos h]; exact ⟨-1, Ev.now _, by omega, by omega⟩
  · simp only [if_neg h]
    obtain ⟨r, hr1, hr2, hr3⟩ := szIntSS_g0 l [] (a - l.length) hl hr (by omega) (by omega)
    refine ⟨r, hr1, by omega, fun h0 => ⟨⟨by omega, fun x hx => by have := hr3 h0; have := totL_mem hx; omega⟩, by have := hr3 h0; omega, ?_⟩⟩
    have := hr3 h0
    cases l with
    | nil => simp [totL]
    | cons x l => simp only [List.length_cons] at this ⊢; omega
end Go.Proofs.Ytojcnapdalpnmaa.K

namespace Go.Proofs.Ytojcnapdalpnmaa.K
open Go.RowKit Go.Proofs.YtojcnapdalpnmaaW.PrintWords Go.Proofs.Ytojcnapdalpnmaa.P
theorem midW (x : S41) (done rest : List S41) (h : (done ++ x :: rest).length ≤ 1048576) :
    ((done.length : Int) < ((done ++ x :: rest).length : Int)) ∧ 0 ≤ (done.length : Int) ∧ rd_T41 (done ++ x :: rest) (done.length : Int) = x ∧ wrap64 ((done.length : Int) + 1) = ((done ++ [x]).length : Int) ∧ done ++ [x] ++ rest = done ++ x :: rest := by
  refine ⟨by simp; omega, by omega, by simp [rd_T41], ?_, by simp⟩
  simp at h ⊢
  unfold wrap64; omega
theorem setW_mid (y x : S41) (done rest : List S41) : (done ++ y :: rest).set (done.length : Int).toNat x = done ++ [x] ++ rest := by simp
def seqSw (a : Int) : Nat → List S41
  | 0 => []
  | n + 1 => ⟨a, a + 1, a + 2, a + 3⟩ :: seqSw (a + 4) n
theorem seqSw_length (a : Int) (n : Nat) : (seqSw a n).length = n := by
  induction n generalizing a with
  | zero => rfl
  | succ n ih => simp [seqSw, ih]
theorem eqSwitchS_l0 : ∀ (rest done : List S41), (done ++ rest).length ≤ 1048576 → Ev (fun k => laws_eqSwitchS.l0 k (done ++ rest) (done ++ rest) (done.length : Int)) true := by
  intro rest
  induction rest with
  | nil => intro done h; exact Ev.step (f := fun _ => some true) (fun k => by simp [laws_eqSwitchS.l0]) (Ev.now _)
  | cons x rest ih =>
    intro done h
    obtain ⟨q1, q2, q3, q4, q5⟩ := midW x done rest h
    have ih' := ih (done ++ [x]) (by rw [q5]; exact h)
    rw [q5] at ih'
    refine Ev.step (fun k => by rw [laws_eqSwitchS.l0]) ?_
    simp only [if_pos q1, if_pos q2, q3, q4, laws_eqSwitch.f, if_true, Option.bind_some]
    exact ih'
theorem eqSwitchS_same (l : List S41) (h : l.length ≤ 1048576) : Ev (fun k => laws_eqSwitchS.f k l l) true := by
  unfold laws_eqSwitchS.f
  simp only [if_true]
  exact eqSwitchS_l0 l [] h
theorem w4 {a : Int} (h0 : 0 ≤ a) (h : a ≤ 4611686018427387904) : wrap64 (a + 1) = a + 1 ∧ wrap64 (a + 1 + 1) = a + 2 ∧ wrap64 (a + 2 + 1) = a + 3 ∧ wrap64 (a + 3 + 1) = a + 4 := by unfold wrap64; omega
theorem markSwitchS_l0 : ∀ (rest done : List S41) (a : Int), (done ++ rest).length ≤ 1048576 → 0 ≤ a → a + 4 * rest.length ≤ 4611686018427387904 → Ev (fun k => laws_markSwitchS.l0 k (done ++ rest) a (done.length : Int)) (a + 4 * rest.length, done ++ seqSw a rest.length) := by
  intro rest
  induction rest with
  | nil => intro done a h h0 h1; exact Ev.step (fun k => by simp [laws_markSwitchS.l0]; rfl) (Ev.some (by simp [seqSw]))
  | cons x rest ih =>
    intro done a h h0 h1
    have hl : (x :: rest).length = rest.length + 1 := rfl
    have hlen : ∀ y : S41, (done ++ y :: rest).length ≤ 1048576 := fun y => by simp at h ⊢; omega
    obtain ⟨q1, q2, q3, q4, q5⟩ := midW x done rest h
    obtain ⟨e1, e2, e3, e4⟩ := w4 h0 (by rw [hl] at h1; omega)
    have hr : ∀ y : S41, rd_T41 (done ++ [y] ++ rest) (done.length : Int) = y := fun y => by simp [rd_T41]
    have hs : ∀ y z : S41, (done ++ [y] ++ rest).set (done.length : Int).toNat z = done ++ [z] ++ rest := fun y z => by simp
    have ih' := ih (done ++ [⟨a, a + 1, a + 2, a + 3⟩]) (a + 4) (by rw [List.append_assoc]; exact hlen _) (by omega) (by rw [hl] at h1; omega)
    refine Ev.step (fun k => by rw [laws_markSwitchS.l0]) ?_
    simp only [if_pos q1, if_pos q2, q3, q4, Option.bind_some, e1, e2, e3, e4, setW_mid, hr, hs]
    have hd : ((done ++ [(⟨a, a + 1, a + 2, a + 3⟩ : S41)]).length : Int) = ((done ++ [x]).length : Int) := by simp
    rw [hd] at ih'
    refine Ev.pair ih' ?_
    simp only [seqSw, hl]
    refine Prod.ext ?_ (by simp)
    simp only; omega
theorem markSwitchS_f (l : List S41) (a : Int) (h : l.length ≤ 1048576) (h0 : 0 ≤ a) (h1 : a ≤ 1099511627776) : Ev (fun k => laws_markSwitchS.f k l a) (a + 4 * l.length, seqSw a l.length) := by
  unfold laws_markSwitchS.f
  exact markSwitchS_l0 l [] a h h0 (by omega)
theorem heldSwitchS_l0 : ∀ (n : Nat) (done : List S41) (a : Int), (done ++ seqSw a n).length ≤ 1048576 → 0 ≤ a → a + 4 * n ≤ 4611686018427387904 → Ev (fun k => laws_heldSwitchS.l0 k (done ++ seqSw a n) a (done.length : Int)) (a + 4 * n) := by
  intro n
  induction n with
  | zero => intro done a h h0 h1; exact Ev.step (fun k => by simp [laws_heldSwitchS.l0, seqSw]; rfl) (Ev.some (by simp))
  | succ n ih =>
    intro done a h h0 h1
    simp only [seqSw] at h ⊢
    obtain ⟨q1, q2, q3, q4, q5⟩ := midW ⟨a, a + 1, a + 2, a + 3⟩ done (seqSw (a + 4) n) h
    obtain ⟨e1, e2, e3, e4⟩ := w4 h0 (by omega)
    have ih' := ih (done ++ [⟨a, a + 1, a + 2, a + 3⟩]) (a + 4) (by rw [q5]; exact h) (by omega) (by omega)
    rw [q5] at ih'
    refine Ev.step (fun k => by rw [laws_heldSwitchS.l0]) ?_
    simp only [if_pos q1, if_pos q2, q3, q4, e1, e2, e3, e4, if_true]
    refine Ev.pair ih' ?_
    omega
theorem heldSwitchS_f (n : Nat) (a : Int) (h : n ≤ 1048576) (h0 : 0 ≤ a) (h1 : a ≤ 1099511627776) : Ev (fun k => laws_heldSwitchS.f k (seqSw a n) a) (a + 4 * n) := by
  unfold laws_heldSwitchS.f
  exact heldSwitchS_l0 n [] a (by simpa [seqSw_length] using h) h0 (by omega)
end Go.Proofs.Ytojcnapdalpnmaa.K

/- The law FnExactGridPath: the program's GridPath answers as the reference's, for all arguments (no condition); what the walk asks of the functions that it calls. -/
namespace Go.Proofs.Ytojcnapdalpnmaa.Pure
open Go.RowKit Go.Proofs.YtojcnapdalpnmaaW.PrintWords Go.Proofs.Ytojcnapdalpnmaa.P Go.Proofs.Ytojcnapdalpnmaa.K
set_option maxRecDepth 10000 in
theorem FnExactGridPath : ∀ (l0 : List (List Int)) (l1 : List (List Int)), l0.length ≤ maxLen → (∀ r ∈ l0, r.length ≤ maxLen ∧ ∀ n ∈ r, (Lit.int .i64 n).wf = true) → l1.length ≤ maxLen → (∀ r ∈ l1, r.length ≤ maxLen ∧ ∀ n ∈ r, (Lit.int .i64 n).wf = true) → laws_FnExactGridPath.Good l0 l1 true := by
  intro l0 l1 hm0 hw0 hm1 hw1
  refine ⟨rfl, ?_⟩
  obtain ⟨n0, hs0, hle0, hb0⟩ := szIntSS_g l0 1048576 hm0 (fun r h => (hw0 r h).1) (by omega) (by omega)
  refine ⟨n0, Ev.rounds hs0, ?_⟩
  by_cases hn0 : n0 < 0
  · exact Or.inl hn0
  refine Or.inr ⟨by omega, ?_⟩
  obtain ⟨⟨b1_0, b2_0⟩, b3_0, b4_0⟩ := hb0 (by omega)
  have B0 : l0.length ≤ 1048576 ∧ ∀ r ∈ l0, r.length ≤ 1048576 := ⟨by omega, fun x hx => by have := b2_0 x hx; omega⟩
  obtain ⟨n1, hs1, hle1, hb1⟩ := szIntSS_g l1 n0 hm1 (fun r h => (hw1 r h).1) (by omega) (by omega)
  refine ⟨n1, Ev.rounds hs1, ?_⟩
  by_cases hn1 : n1 < 0
  · exact Or.inl hn1
  refine Or.inr ⟨by omega, ?_⟩
  obtain ⟨⟨b1_1, b2_1⟩, b3_1, b4_1⟩ := hb1 (by omega)
  have B1 : l1.length ≤ 1048576 ∧ ∀ r ∈ l1, r.length ≤ 1048576 := ⟨by omega, fun x hx => by have := b2_1 x hx; omega⟩
  obtain ⟨w0, wb, hsp, him, W0⟩ := GridPath_ans l0 l1 B0 B1
  have le0 := seqRows_le 1 l0
  have lt0 := seqRows_tot 1 l0
  have ln0 := totL_nonneg l0
  have le1 := seqRows_le (seqRows 1 l0).1 l1
  have lt1 := seqRows_tot (seqRows 1 l0).1 l1
  have ln1 := totL_nonneg l1
  exact ⟨w0, (seqSw 1 w0.length), (seqRows 1 l0).2, (seqRows (seqRows 1 l0).1 l1).2, wb, (seqRows 1 l0).1, (seqRows (seqRows 1 l0).1 l1).1, (1 + 4 * (w0.length : Int)), Ev.rounds (toIntSS_f l0 B0.1 (fun r hr => by have := B0.2 r hr; simp only [BM]; omega)), Ev.rounds (toIntSS_f l1 B1.1 (fun r hr => by have := B1.2 r hr; simp only [BM]; omega)), Ev.rounds (hsp), Ev.rounds (him), Ev.rounds (eqSwitchS_same w0 W0), Ev.rounds (eqIntSS_same l0 (by have := B0.1; simp only [BM]; omega) (fun r hr => by have := B0.2 r hr; simp only [BM]; omega)), Ev.rounds (eqIntSS_same l1 (by have := B1.1; simp only [BM]; omega) (fun r hr => by have := B1.2 r hr; simp only [BM]; omega)), markSS_f' l0 1 (by omega) (by omega) B0.1 B0.2, markSS_f' l1 (seqRows 1 l0).1 (by omega) (by omega) B1.1 B1.2, Ev.rounds (markSwitchS_f w0 1 W0 (by omega) (by have := W0; omega)), Ev.rounds (heldSwitchS_f w0.length 1 W0 (by omega) (by have := W0; omega)), by omega, by omega, seqSw_length _ _⟩
end Go.Proofs.Ytojcnapdalpnmaa.Pure

namespace Go.Proofs.Ytojcnapdalpnmaa.K
open Go.RowKit Go.ChangeShapes Go.WideShapes Go.ChangeAt Go.Deep Go.Proofs.YtojcnapdalpnmaaW.PrintWords
section
variable {H : Type} {enc : TypeId × Value → H} {P : Program} {w : World}
/-- A row of whole numbers among the arguments. -/
theorem open_row {t e : TypeId} {fuel : Nat} {cs : List Value} {x : DataW H × List MemPlace} (ht : P.underlying t = some (.slice e)) (he : P.underlying e = some (.int .i64)) (hc : P.cellsOf e = 1)
    (h : DataW.trod enc P w 0 (fun _ => true) true fuel t cs = some x) :
    ∃ (A : Option Addr) (c : Nat) (l : List Int), cs = [.slice A l.length c] ∧ l.length ≤ c ∧ l.length ≤ maxLen ∧ (∀ n ∈ l, (Lit.int .i64 n).wf = true) ∧ Kd.C (Kd.int .i64) w A l.length l := by
  rcases open_ints ht he hc h with ⟨rfl, _⟩ | ⟨a, l, c, zs, rfl, _, hl, hm, hz, _, hcell, hwz⟩
  · exact ⟨none, 0, [], rfl, Nat.le_refl _, by simp [maxLen], by simp, Kd.C_nil _ _⟩
  · obtain ⟨l0, rfl, hr0, hm0, hw0, hc0⟩ := ReadsInt.ofRowC (k := .i64) (w := w) (a := some a) (len := l) (cap := c) (zs := zs) (.inr ⟨a, rfl, hl, hm, by simpa using hz, hcell, hwz⟩)
    exact ⟨some a, c, l0, rfl, hc0, hm0, hw0, Kd.C_of_reads (d := (0 : Int)) (h1 := fun _ => rfl) hr0⟩
/-- A slice of rows of whole numbers among the arguments. -/
theorem open_rows {t e q : TypeId} {fuel : Nat} {cs : List Value} {x : DataW H × List MemPlace} (ht : P.underlying t = some (.slice e)) (he : P.underlying e = some (.slice q)) (hq : P.underlying q = some (.int .i64))
    (ce : P.cellsOf e = 1) (cq : P.cellsOf q = 1) (h : DataW.trod enc P w 0 (fun _ => true) true fuel t cs = some x) :
    ∃ (A : Option Addr) (c : Nat) (l : List (List Int)), cs = [.slice A l.length c] ∧ l.length ≤ c ∧ l.length ≤ maxLen ∧ (∀ r ∈ l, r.length ≤ maxLen ∧ ∀ n ∈ r, (Lit.int .i64 n).wf = true) ∧ Kd.C (Kd.slice q (Kd.int .i64)) w A l.length l := by
  rcases open_int_rows ht he hq ce cq h with ⟨rfl, _⟩ | ⟨a, len, cap, A, L, C, Z, rfl, _, hl, hm, _, hr⟩
  · exact ⟨none, 0, [], rfl, Nat.le_refl _, by simp [maxLen], by simp, Kd.C_nil _ _⟩
  · have hrow : ∀ r, r < cap → ∃ l0 : List Int, L r = l0.length ∧ l0.length ≤ C r ∧ l0.length ≤ maxLen ∧ (∀ n ∈ l0, (Lit.int .i64 n).wf = true) ∧ Kd.C (Kd.int .i64) w (A r) l0.length l0 := by
      intro r hrc
      obtain ⟨h1, h2, h3, h4, h5, h6, h7⟩ := hr r hrc
      cases hA : A r with
      | none =>
        have hC := h6 hA
        exact ⟨[], by simp; omega, by simp, by simp [maxLen], by simp, Kd.C_nil _ _⟩
      | some a' =>
        obtain ⟨_, h8⟩ := h7 a' hA
        obtain ⟨l0, e0, hr0, hm0, hw0, hc0⟩ := ReadsInt.ofRowC (k := .i64) (w := w) (a := some a') (len := L r) (cap := C r) (zs := Z r) (.inr ⟨a', rfl, h2, h3, h4, fun i hi => h8 i (by omega), h5⟩)
        exact ⟨l0, e0, hc0, hm0, hw0, Kd.C_of_reads (d := (0 : Int)) (h1 := fun _ => rfl) hr0⟩
    let F : Nat → List Int := fun r => if h : r < cap then Classical.choose (hrow r h) else []
    have hF : ∀ r, r < cap → L r = (F r).length ∧ (F r).length ≤ C r ∧ (F r).length ≤ maxLen ∧ (∀ n ∈ F r, (Lit.int .i64 n).wf = true) ∧ Kd.C (Kd.int .i64) w (A r) (F r).length (F r) := by
      intro r h
      have := Classical.choose_spec (hrow r h)
      simpa [F, h] using this
    refine ⟨some a, cap, (List.range len).map F, by simp, by simpa using hl, by simp; omega, ?_, ?_⟩
    · intro r hmem
      obtain ⟨i, hi, rfl⟩ := List.mem_map.1 hmem
      have := hF i (by have := List.mem_range.1 hi; omega)
      exact ⟨this.2.2.1, this.2.2.2.1⟩
    · refine ⟨by simp, by simp; unfold maxLen at hm; omega, fun _ => ⟨a, rfl, ?_⟩⟩
      intro j p hp
      obtain ⟨hj, rfl⟩ : j < len ∧ F j = p := by
        rw [List.getElem?_map] at hp
        by_cases hj : j < len
        · rw [List.getElem?_range hj] at hp; simpa [hj] using hp
        · rw [List.getElem?_eq_none (by simp; omega)] at hp; simp at hp
      obtain ⟨f1, f2, f3, f4, f5⟩ := hF j (by omega)
      obtain ⟨h1, _⟩ := hr j (by omega)
      refine ⟨[.slice (A j) (F j).length (C j)], rfl, ⟨A j, C j, rfl, f2, f5⟩, ?_⟩
      intro i u hu
      cases i with
      | zero =>
        obtain rfl : Value.slice (A j) (F j).length (C j) = u := by simpa using hu
        rw [f1] at h1
        show w.cell? (a.add (j * 1 + 0)) = _
        rw [Nat.mul_one, Nat.add_zero]; exact h1
      | succ i => simp at hu
end
end Go.Proofs.Ytojcnapdalpnmaa.K

/- The row of the law FnExactGridPath: for every input the call returns true, and the arguments read as before; out of the law's pure statement and the walk. No condition. -/
namespace Go.Proofs.Ytojcnapdalpnmaa.fnExactGridPath
open Go.ChangeShapes Go.WideShapes Go.ChangeAt Go.RowKit
open Go.ChangeMaps (open_string shut_string)
theorem own : ownKnob Try.prog.godebug = none := by kernel_rfl
theorem laidOut : laidOutB Try.prog = true := by kernel_rfl
set_option maxRecDepth 100000 in
theorem lifted (os : Os) (started : os.Started) (H : Type) (enc : TypeId × Value → H) :
    ReturnsInHanded {} Try.checked os 11 .any (Rows.fnExactGridPathSpec.pre6 enc Try.prog Try.f11 Rows.fnExactGridPathRow.domain false) (Rows.fnExactGridPathSpec.post enc Try.prog Try.f11 false true false false) := by
  refine returnsInHanded_of_change_sized (C := Try.checked) own started (by kernel_rfl) Try.func11
    (ChangeSpec.witness6 (enc := enc) (C := Try.checked) false ⟨#[], #[.slice none 0 0, .slice none 0 0], []⟩ 8 (by kernel_rfl) (by kernel_rfl) (by kernel_rfl) (by kernel_rfl)) ?_
  intro W base args ds gs before hval0 hW hcnd hsz0 _
  have hsz : (DataW.weightsEach Try.prog (Try.f11.params.toList ++ Rows.fnExactGridPathSpec.plain.varTypes Try.prog) (ds ++ gs)).all (· ≤ reachBytes) = true := hsz0
  have hval : ∀ (j : Nat) t v, Try.f11.params[j]? = some t → args[j]? = some v → Value.okWide Try.prog W .any base t v := hval0
  have hW' := hW
  obtain ⟨p, q, hA0, hV, rfl, hfz, hnd⟩ := hW
  have hA : DataW.TrodAll enc Try.prog W 0 (fun _ => true) true Try.f11.params.toList args.toList ds p := hA0
  rw [Try.params11] at hA hval hsz
  obtain ⟨v0, vs0, d0, ds0, p0, q0, hargs, rfl, rfl, h0, r0⟩ := trodAll_cons hA
  obtain ⟨v1, vs1, d1, ds1, p1, q1, rfl, rfl, rfl, h1, r1⟩ := trodAll_cons r0
  obtain ⟨rfl, rfl, rfl⟩ := trodAll_nil r1
  obtain rfl : args = #[v0, v1] := by cases args; simp_all
  obtain ⟨rfl, rfl⟩ := trodVars_none hV
  obtain ⟨a0, len0, cap0, rfl⟩ := okWide_slice Try.underlying22 (hval 0 22 v0 rfl rfl)
  have k0 := h0
  have lt0 : ∀ x ∈ p0, x.block < W.heap.size := by obtain ⟨m, hm⟩ := k0; exact DataW.trod_lt m _ _ _ hm
  obtain ⟨fuel0, hf0⟩ := h0
  obtain ⟨A0, c0, l0, hcs0, hc0, hm0, hw0, hr0⟩ := K.open_rows Try.underlying22 Try.underlying33 Try.underlying3 (by kernel_rfl) (by kernel_rfl) hf0
  simp only [Value.cells, List.cons.injEq, and_true, Value.slice.injEq] at hcs0
  obtain ⟨rfl, rfl, rfl⟩ := hcs0
  obtain ⟨a1, len1, cap1, rfl⟩ := okWide_slice Try.underlying22 (hval 1 22 v1 rfl rfl)
  have k1 := h1
  have lt1 : ∀ x ∈ p1, x.block < W.heap.size := by obtain ⟨m, hm⟩ := k1; exact DataW.trod_lt m _ _ _ hm
  obtain ⟨fuel1, hf1⟩ := h1
  obtain ⟨A1, c1, l1, hcs1, hc1, hm1, hw1, hr1⟩ := K.open_rows Try.underlying22 Try.underlying33 Try.underlying3 (by kernel_rfl) (by kernel_rfl) hf1
  simp only [Value.cells, List.cons.injEq, and_true, Value.slice.injEq] at hcs1
  obtain ⟨rfl, rfl, rfl⟩ := hcs1
  clear hA0 hval0 hsz0 hsz
  have hk := Pure.FnExactGridPath l0 l1 hm0 hw0 hm1 hw1
  refine (P.laws_FnExactGridPath.calls _ _ l0 _ _ l1 true W hr0 hc0 hr1 hc1 hk).mono fun e W' ⟨he, bel⟩ => ?_
  subst he
  exact ⟨_, rfl, _, _, _, [], _, [], hW', trodAll_mk1 (shut_bool Try.underlying4 _), (trodAll_cons_mk (Below.trod laidOut (by kernel_rfl) (of_decide_eq_true (by kernel_rfl)) k0 bel lt0) (trodAll_cons_mk (Below.trod laidOut (by kernel_rfl) (of_decide_eq_true (by kernel_rfl)) k1 bel lt1) trodAll_mk0)), rfl, bel.frame _, fun h => by cases h⟩
set_option maxHeartbeats 4000000 in
theorem joined : joinedFacts Try.prog 11 Try.f11 Rows.fnExactGridPathSpec Rows.fnExactGridPathRow = true := by
  unfold joinedFacts
  repeat' (with_reducible refine (Bool.and_eq_true _ _).mpr ⟨?_, ?_⟩)
  all_goals first
    | (with_reducible exact Head.mayEnter)
    | ((with_reducible rw [Head.lifts]); rfl)
    | ((with_reducible rw [Head.make]); rfl)
    | (as_aux_lemma => kernel_rfl)
theorem over : Rows.fnExactGridPathRow.holds Try.pinned (OpenSpec.ofChange Rows.fnExactGridPathSpec) :=
  OpenClaim.holds_of_wide 11 Try.f11 rfl rfl rfl rfl rfl rfl rfl ⟨rfl, rfl, rfl, rfl, rfl⟩ rfl rfl rfl rfl rfl (by kernel_rfl) Try.func11 joined
    (of_decide_eq_true (by kernel_rfl)) (by unfold Func.isWrapper; first | (rw [if_pos (by decide +kernel)]; kernel_rfl) | (rw [if_neg (by decide +kernel)]; exact ⟨rfl, rfl⟩))
    (fun os started H enc _ => lifted os started H enc)
theorem proved : Rows.FnExactGridPathSaid := over
#print axioms proved
end Go.Proofs.Ytojcnapdalpnmaa.fnExactGridPath
namespace Go.Proofs.Ytojcnapdalpnmaa
theorem fnExactGridPath_holds : Rows.FnExactGridPathSaid := fnExactGridPath.proved
end Go.Proofs.Ytojcnapdalpnmaa
