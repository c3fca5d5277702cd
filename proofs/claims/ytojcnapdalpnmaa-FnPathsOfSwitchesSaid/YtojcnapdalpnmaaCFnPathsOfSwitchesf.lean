/- The row of the law FnPathsOfSwitches: contracts and plain lemmas for the law FnPathsOfSwitches, part 6 of 6 (what the Go functions answer). -/
import Derived.Test.YtojcnapdalpnmaaRows
import Derived.WalkKit
import Derived.ProofKit
import Derived.OpenShut
import Derived.ShutString
import Derived.ChangeOld
import Derived.Below
import Derived.SizedLaws
import Derived.Test.YtojcnapdalpnmaaCFnPathsOfSwitchesa
import Derived.Test.YtojcnapdalpnmaaCFnPathsOfSwitchesb
import Derived.Test.YtojcnapdalpnmaaCFnPathsOfSwitchesc
import Derived.Test.YtojcnapdalpnmaaCFnPathsOfSwitchesd
import Derived.Test.YtojcnapdalpnmaaCFnPathsOfSwitchese
set_option linter.unusedVariables false
set_option linter.unusedSimpArgs false
namespace Go.Proofs.Ytojcnapdalpnmaa.K
open Go.RowKit Go.Proofs.YtojcnapdalpnmaaW.PrintWords Go.Proofs.Ytojcnapdalpnmaa.P
def firstI (P : Nat → Bool) : Nat → Nat → Option Nat
  | _, 0 => none
  | i, d + 1 => if P i then some i else firstI P (i + 1) d
theorem firstI_some {P : Nat → Bool} : ∀ {d i j : Nat}, firstI P i d = some j → i ≤ j ∧ j < i + d ∧ P j = true ∧ ∀ k, i ≤ k → k < j → P k = false
  | 0, _, _, h => by cases h
  | d + 1, i, j, h => by
    simp only [firstI] at h
    split at h
    · rename_i hp
      obtain rfl := Option.some.inj h
      exact ⟨Nat.le_refl _, by omega, hp, fun k h1 h2 => by omega⟩
    · rename_i hp
      obtain ⟨h1, h2, h3, h4⟩ := firstI_some h
      refine ⟨by omega, by omega, h3, fun k hk1 hk2 => ?_⟩
      by_cases e : k = i
      · subst e; simpa using hp
      · exact h4 k (by omega) hk2
theorem firstI_none {P : Nat → Bool} : ∀ {d i : Nat}, firstI P i d = none → ∀ k, i ≤ k → k < i + d → P k = false
  | 0, _, _, k, h1, h2 => by omega
  | d + 1, i, h, k, h1, h2 => by
    simp only [firstI] at h
    split at h
    · cases h
    · rename_i hp
      by_cases e : k = i
      · subst e; simpa using hp
      · exact firstI_none h k (by omega) (by omega)
def sumR : Nat → (Nat → Int) → Int
  | 0, _ => 0
  | n + 1, f => sumR n f + f n
theorem sumR_congr : ∀ {n : Nat} {f g : Nat → Int}, (∀ i, i < n → f i = g i) → sumR n f = sumR n g
  | 0, _, _, _ => rfl
  | n + 1, f, g, h => by simp only [sumR]; rw [sumR_congr (fun i hi => h i (by omega)), h n (by omega)]
theorem sumR_sub : ∀ (n : Nat) (f g : Nat → Int), sumR n (fun i => f i - g i) = sumR n f - sumR n g
  | 0, _, _ => by simp [sumR]
  | n + 1, f, g => by simp only [sumR]; rw [sumR_sub n f g]; omega
theorem sumR_nonpos : ∀ {n : Nat} {f : Nat → Int}, (∀ i, i < n → f i ≤ 0) → sumR n f ≤ 0
  | 0, _, _ => by simp [sumR]
  | n + 1, f, h => by have := sumR_nonpos (fun i hi => h i (by omega)) (n := n) (f := f); have := h n (by omega); simp only [sumR]; omega
theorem sumR_at : ∀ {n : Nat} {f : Nat → Int} {a : Nat}, (∀ i, i < n → f i ≤ 0) → a < n → sumR n f ≤ f a
  | 0, _, _, _, h => by omega
  | n + 1, f, a, h, ha => by
    simp only [sumR]
    by_cases e : a = n
    · subst e
      have := sumR_nonpos (n := a) (f := f) (fun i hi => h i (by omega)); omega
    · have := sumR_at (n := n) (f := f) (fun i hi => h i (by omega)) (show a < n by omega)
      have := h n (by omega); omega
theorem sumR_set : ∀ (n : Nat) (f : Nat → Int) (a : Nat) (v : Int), a < n → sumR n (fun i => if i = a then v else f i) = sumR n f + (v - f a)
  | 0, _, _, _, h => by omega
  | n + 1, f, a, v, ha => by
    simp only [sumR]
    by_cases e : a = n
    · subst e
      rw [sumR_congr (g := f) (fun i hi => by rw [if_neg (by omega)])]; simp; omega
    · rw [sumR_set n f a v (by omega), if_neg (fun h => e h.symm)]; omega
structure GP where
  t : List (List Int)
  u : List (List Int)
  fst : List S41
  snd : List S41
def pRow (t u : List (List Int)) (n c : Nat) : Option Nat := firstI (fun i => decide (at2 t i c = 1) && decide (at2 u i c = 0)) 0 n
def pCol (t : List (List Int)) (m c r s : Nat) (inR inS : Int) : Option Nat := firstI (fun d => decide (at2 t r d = inR) && decide (at2 t s d = inS)) (c + 1) (m - (c + 1))
def pSw (t : List (List Int)) (r s c d : Nat) : List (List Int) := mapRows (swNum ((min r s : Nat) : Int) ((max r s : Nat) : Int) (c : Int) (d : Int)) 0 t
def pX (r s c d : Nat) : S41 := ⟨((min r s : Nat) : Int), ((max r s : Nat) : Int), (c : Int), (d : Int)⟩
def gpStep (n m c : Nat) (g : GP) : Option GP :=
  match pRow g.t g.u n c, pRow g.u g.t n c with
  | some r, some s =>
    match pCol g.t m c r s 0 1 with
    | some d => some ⟨pSw g.t r s c d, g.u, g.fst ++ [pX r s c d], g.snd⟩
    | none =>
      match pCol g.u m c r s 1 0 with
      | some d => some ⟨g.t, pSw g.u r s c d, g.fst, pX r s c d :: g.snd⟩
      | none => none
  | _, _ => none
def gpCol (n m c : Nat) : Nat → GP → GP
  | 0, g => g
  | f + 1, g => match gpStep n m c g with | some g' => gpCol n m c f g' | none => g
def gpAll (n m : Nat) : Nat → Nat → GP → GP
  | _, 0, g => g
  | c, d + 1, g => gpAll n m (c + 1) d (gpCol n m c (n + 1) g)
def Shape (n m : Nat) (t : List (List Int)) : Prop := t.length = n ∧ (∀ i, i < n → (rowN t i).length = m) ∧ ∀ i j, i < n → j < m → at2 t i j = 0 ∨ at2 t i j = 1
structure PInv (n m c : Nat) (g : GP) : Prop where
  st : Shape n m g.t
  su : Shape n m g.u
  rows : ∀ i, i < n → sumR m (at2 g.t i) = sumR m (at2 g.u i)
  cols : ∀ j, j < m → sumR n (fun i => at2 g.t i j) = sumR n (fun i => at2 g.u i j)
  eqs : ∀ i j, i < n → j < c → at2 g.t i j = at2 g.u i j
def dOff (n c : Nat) (g : GP) : Int := sumR n (fun i => if at2 g.t i c = at2 g.u i c then 0 else 1)
theorem pSw_at {n m : Nat} {t : List (List Int)} (h : Shape n m t) {r s c d : Nat} (hr : r < n) (hs : s < n) (hc : c < m) (hd : d < m) (i j : Nat) (hi : i < n) (hj : j < m) :
    at2 (pSw t r s c d) i j = if (i = r ∨ i = s) ∧ (j = c ∨ j = d) then 1 - at2 t i j else at2 t i j := by
  obtain ⟨h1, h2, h3⟩ := h
  unfold pSw
  rw [mapRows_at _ _ _ _ (by omega) (by rw [h2 i hi]; exact hj)]
  unfold swNum
  have hx := h3 i j hi hj
  have hw : wrap64 (1 - at2 t i j) = 1 - at2 t i j := by unfold wrap64; omega
  rw [hw]
  have e : ((i : Int) = ((min r s : Nat) : Int) ∨ (i : Int) = ((max r s : Nat) : Int)) ↔ (i = r ∨ i = s) := by omega
  have e2 : ((j : Int) = (c : Int) ∨ (j : Int) = (d : Int)) ↔ (j = c ∨ j = d) := by omega
  simp only [e, e2]
theorem pSw_shape {n m : Nat} {t : List (List Int)} (h : Shape n m t) {r s c d : Nat} (hr : r < n) (hs : s < n) (hc : c < m) (hd : d < m) : Shape n m (pSw t r s c d) := by
  have h' := h
  obtain ⟨h1, h2, h3⟩ := h
  refine ⟨by unfold pSw; rw [mapRows_length]; exact h1, fun i hi => ?_, fun i j hi hj => ?_⟩
  · unfold pSw; rw [mapRows_row _ _ _ _ (by omega), mapRow_length]; exact h2 i hi
  · rw [pSw_at h' hr hs hc hd i j hi hj]
    have := h3 i j hi hj
    split <;> omega
theorem pSw_rows {n m : Nat} {t : List (List Int)} (h : Shape n m t) {r s c d : Nat} (hr : r < n) (hs : s < n) (hc : c < m) (hd : d < m) (hcd : c ≠ d) (h1 : at2 t r c + at2 t r d = 1) (h2 : at2 t s c + at2 t s d = 1) (i : Nat) (hi : i < n) :
    sumR m (at2 (pSw t r s c d) i) = sumR m (at2 t i) := by
  by_cases hrs : i = r ∨ i = s
  · have e : ∀ j, j < m → at2 (pSw t r s c d) i j = (fun j => if j = c then 1 - at2 t i c else (fun j => if j = d then 1 - at2 t i d else at2 t i j) j) j := fun j hj => by
      rw [pSw_at h hr hs hc hd i j hi hj]
      by_cases e1 : j = c
      · subst e1; simp [hrs]
      · by_cases e2 : j = d
        · subst e2; simp [hrs, e1]
        · simp [e1, e2]
    rw [sumR_congr e, sumR_set m _ c _ hc, sumR_set m _ d _ hd]
    rw [if_neg hcd]
    rcases hrs with rfl | rfl <;> omega
  · exact sumR_congr (fun j hj => by rw [pSw_at h hr hs hc hd i j hi hj, if_neg (fun hh => hrs hh.1)])
theorem pSw_cols {n m : Nat} {t : List (List Int)} (h : Shape n m t) {r s c d : Nat} (hr : r < n) (hs : s < n) (hc : c < m) (hd : d < m) (hrs : r ≠ s) (h1 : at2 t r c + at2 t s c = 1) (h2 : at2 t r d + at2 t s d = 1) (j : Nat) (hj : j < m) :
    sumR n (fun i => at2 (pSw t r s c d) i j) = sumR n (fun i => at2 t i j) := by
  by_cases hcd : j = c ∨ j = d
  · have e : ∀ i, i < n → (fun i => at2 (pSw t r s c d) i j) i = (fun i => if i = r then 1 - at2 t r j else (fun i => if i = s then 1 - at2 t s j else at2 t i j) i) i := fun i hi => by
      (try dsimp only)
      rw [pSw_at h hr hs hc hd i j hi hj]
      by_cases e1 : i = r
      · subst e1; simp [hcd]
      · by_cases e2 : i = s
        · subst e2; simp [hcd, e1]
        · simp [e1, e2]
    rw [sumR_congr e, sumR_set n _ r _ hr, sumR_set n _ s _ hs]
    rw [if_neg hrs]
    rcases hcd with rfl | rfl <;> omega
  · exact sumR_congr (fun i hi => by rw [pSw_at h hr hs hc hd i j hi hj, if_neg (fun hh => hcd hh.2)])
theorem pRow_some {t u : List (List Int)} {n c r : Nat} (h : pRow t u n c = some r) : r < n ∧ at2 t r c = 1 ∧ at2 u r c = 0 := by
  obtain ⟨-, h2, h3, -⟩ := firstI_some h
  simp only [Bool.and_eq_true, decide_eq_true_eq] at h3
  exact ⟨by omega, h3⟩
theorem pRow_none {t u : List (List Int)} {n c : Nat} (h : pRow t u n c = none) : ∀ i, i < n → ¬ (at2 t i c = 1 ∧ at2 u i c = 0) := fun i hi => by
  have := firstI_none h i (Nat.zero_le _) (by omega)
  intro hh
  simp [hh.1, hh.2] at this
theorem pCol_some {t : List (List Int)} {m c r s d : Nat} {a b : Int} (h : pCol t m c r s a b = some d) : c < d ∧ d < m ∧ at2 t r d = a ∧ at2 t s d = b := by
  obtain ⟨h1, h2, h3, -⟩ := firstI_some h
  simp only [Bool.and_eq_true, decide_eq_true_eq] at h3
  exact ⟨by omega, by omega, h3⟩
theorem pCol_none {t : List (List Int)} {m c r s : Nat} {a b : Int} (h : pCol t m c r s a b = none) : ∀ d, c < d → d < m → ¬ (at2 t r d = a ∧ at2 t s d = b) := fun d h1 h2 => by
  have := firstI_none h d (by omega) (by omega)
  intro hh
  simp [hh.1, hh.2] at this
theorem pRow_back {n m c : Nat} {g : GP} (hI : PInv n m c g) (hc : c < m) (h : pRow g.u g.t n c = none) : pRow g.t g.u n c = none := by
  cases h2 : pRow g.t g.u n c with
  | none => rfl
  | some r =>
    exfalso
    obtain ⟨q1, q2, q3⟩ := pRow_some h2
    have e := hI.cols c hc
    have hle : ∀ i, i < n → (fun i => at2 g.u i c - at2 g.t i c) i ≤ 0 := fun i hi => by
      have a := hI.st.2.2 i c hi hc
      have b := hI.su.2.2 i c hi hc
      have := pRow_none h i hi
      (try dsimp only)
      omega
    have := sumR_at hle q1
    rw [sumR_sub n (fun i => at2 g.u i c) (fun i => at2 g.t i c)] at this
    (try dsimp only at this)
    omega
theorem pRow_fwd {n m c : Nat} {g : GP} (hI : PInv n m c g) (hc : c < m) (h : pRow g.t g.u n c = none) : pRow g.u g.t n c = none :=
  pRow_back (g := ⟨g.u, g.t, [], []⟩) ⟨hI.su, hI.st, fun i hi => (hI.rows i hi).symm, fun j hj => (hI.cols j hj).symm, fun i j hi hj => (hI.eqs i j hi hj).symm⟩ hc h
theorem col_done {n m c : Nat} {g : GP} (hI : PInv n m c g) (hc : c < m) (h : pRow g.t g.u n c = none) : PInv n m (c + 1) g := by
  refine ⟨hI.st, hI.su, hI.rows, hI.cols, fun i j hi hj => ?_⟩
  by_cases e : j = c
  · subst e
    have a := hI.st.2.2 i j hi hc
    have b := hI.su.2.2 i j hi hc
    have h1 := pRow_none h i hi
    have h2 := pRow_none (pRow_fwd hI hc h) i hi
    omega
  · exact hI.eqs i j hi (by omega)
theorem col_switch {n m c r s : Nat} {g : GP} (hI : PInv n m c g) (hc : c < m) (hr : pRow g.t g.u n c = some r) (hs : pRow g.u g.t n c = some s) (h1 : pCol g.t m c r s 0 1 = none) : pCol g.u m c r s 1 0 ≠ none := by
  intro h2
  obtain ⟨r1, r2, r3⟩ := pRow_some hr
  obtain ⟨s1, s2, s3⟩ := pRow_some hs
  have e1 := hI.rows r r1
  have e2 := hI.rows s s1
  have hle : ∀ d, d < m → (fun d => (fun d => at2 g.u r d - at2 g.t r d) d - (fun d => at2 g.u s d - at2 g.t s d) d) d ≤ 0 := fun d hd => by
    (try dsimp only)
    by_cases k1 : d < c
    · have := hI.eqs r d r1 k1
      have := hI.eqs s d s1 k1
      omega
    · by_cases k2 : d = c
      · subst k2; omega
      · have q1 := pCol_none h1 d (by omega) hd
        have q2 := pCol_none h2 d (by omega) hd
        have a1 := hI.st.2.2 r d r1 hd
        have a2 := hI.st.2.2 s d s1 hd
        have a3 := hI.su.2.2 r d r1 hd
        have a4 := hI.su.2.2 s d s1 hd
        omega
  have := sumR_at hle hc
  rw [sumR_sub m (fun d => at2 g.u r d - at2 g.t r d) (fun d => at2 g.u s d - at2 g.t s d), sumR_sub m (fun d => at2 g.u r d) (fun d => at2 g.t r d), sumR_sub m (fun d => at2 g.u s d) (fun d => at2 g.t s d)] at this
  (try dsimp only at this)
  have z1 : sumR m (fun d => at2 g.u r d) = sumR m (at2 g.u r) := rfl
  have z2 : sumR m (fun d => at2 g.t r d) = sumR m (at2 g.t r) := rfl
  have z3 : sumR m (fun d => at2 g.u s d) = sumR m (at2 g.u s) := rfl
  have z4 : sumR m (fun d => at2 g.t s d) = sumR m (at2 g.t s) := rfl
  omega
theorem stepT {n m c r s d : Nat} {g : GP} {x : List S41} (hI : PInv n m c g) (hc : c < m) (hr : pRow g.t g.u n c = some r) (hs : pRow g.u g.t n c = some s) (h1 : pCol g.t m c r s 0 1 = some d) :
    PInv n m c ⟨pSw g.t r s c d, g.u, x, g.snd⟩ ∧ dOff n c ⟨pSw g.t r s c d, g.u, x, g.snd⟩ + 2 = dOff n c g := by
  obtain ⟨r1, r2, r3⟩ := pRow_some hr
  obtain ⟨s1, s2, s3⟩ := pRow_some hs
  obtain ⟨d1, d2, d3, d4⟩ := pCol_some h1
  have hrs : r ≠ s := fun e => by subst e; omega
  refine ⟨⟨pSw_shape hI.st r1 s1 hc d2, hI.su, fun i hi => ?_, fun j hj => ?_, fun i j hi hj => ?_⟩, ?_⟩
  · exact (pSw_rows hI.st r1 s1 hc d2 (by omega) (by omega) (by omega) i hi).trans (hI.rows i hi)
  · exact (pSw_cols hI.st r1 s1 hc d2 hrs (by omega) (by omega) j hj).trans (hI.cols j hj)
  · have := pSw_at hI.st r1 s1 hc d2 i j hi (by omega)
    rw [if_neg (by omega)] at this
    exact this.trans (hI.eqs i j hi hj)
  · unfold dOff
    have e : ∀ i, i < n → (fun i => if at2 (pSw g.t r s c d) i c = at2 g.u i c then (0 : Int) else 1) i = (fun i => if i = r then (0 : Int) else (fun i => if i = s then (0 : Int) else (fun i => if at2 g.t i c = at2 g.u i c then (0 : Int) else 1) i) i) i := fun i hi => by
      (try dsimp only)
      rw [pSw_at hI.st r1 s1 hc d2 i c hi hc]
      by_cases e1 : i = r
      · subst e1; simp [r2, r3]
      · by_cases e2 : i = s
        · subst e2; simp [s2, s3]
        · simp [e1, e2]
    (try dsimp only)
    rw [sumR_congr e, sumR_set n _ r _ r1, sumR_set n _ s _ s1]
    have k1 : ¬ at2 g.t r c = at2 g.u r c := by omega
    have k2 : ¬ at2 g.t s c = at2 g.u s c := by omega
    simp [hrs, k1, k2]
    omega
theorem stepU {n m c r s d : Nat} {g : GP} {x : List S41} (hI : PInv n m c g) (hc : c < m) (hr : pRow g.t g.u n c = some r) (hs : pRow g.u g.t n c = some s) (h1 : pCol g.u m c r s 1 0 = some d) :
    PInv n m c ⟨g.t, pSw g.u r s c d, g.fst, x⟩ ∧ dOff n c ⟨g.t, pSw g.u r s c d, g.fst, x⟩ + 2 = dOff n c g := by
  obtain ⟨r1, r2, r3⟩ := pRow_some hr
  obtain ⟨s1, s2, s3⟩ := pRow_some hs
  obtain ⟨d1, d2, d3, d4⟩ := pCol_some h1
  have hrs : r ≠ s := fun e => by subst e; omega
  refine ⟨⟨hI.st, pSw_shape hI.su r1 s1 hc d2, fun i hi => ?_, fun j hj => ?_, fun i j hi hj => ?_⟩, ?_⟩
  · exact (hI.rows i hi).trans (pSw_rows hI.su r1 s1 hc d2 (by omega) (by omega) (by omega) i hi).symm
  · exact (hI.cols j hj).trans (pSw_cols hI.su r1 s1 hc d2 hrs (by omega) (by omega) j hj).symm
  · have := pSw_at hI.su r1 s1 hc d2 i j hi (by omega)
    rw [if_neg (by omega)] at this
    exact (hI.eqs i j hi hj).trans this.symm
  · unfold dOff
    have e : ∀ i, i < n → (fun i => if at2 g.t i c = at2 (pSw g.u r s c d) i c then (0 : Int) else 1) i = (fun i => if i = r then (0 : Int) else (fun i => if i = s then (0 : Int) else (fun i => if at2 g.t i c = at2 g.u i c then (0 : Int) else 1) i) i) i := fun i hi => by
      (try dsimp only)
      rw [pSw_at hI.su r1 s1 hc d2 i c hi hc]
      by_cases e1 : i = r
      · subst e1; simp [r2, r3]
      · by_cases e2 : i = s
        · subst e2; simp [s2, s3]
        · simp [e1, e2]
    (try dsimp only)
    rw [sumR_congr e, sumR_set n _ r _ r1, sumR_set n _ s _ s1]
    have k1 : ¬ at2 g.t r c = at2 g.u r c := by omega
    have k2 : ¬ at2 g.t s c = at2 g.u s c := by omega
    simp [hrs, k1, k2]
    omega
theorem dOff_nonneg : ∀ (n c : Nat) (g : GP), 0 ≤ dOff n c g
  | 0, c, g => by simp [dOff, sumR]
  | n + 1, c, g => by
    have := dOff_nonneg n c g
    simp only [dOff, sumR] at this ⊢
    split <;> omega
theorem dOff_le : ∀ (n c : Nat) (g : GP), dOff n c g ≤ n
  | 0, c, g => by simp [dOff, sumR]
  | n + 1, c, g => by
    have := dOff_le n c g
    simp only [dOff, sumR] at this ⊢
    split <;> omega
theorem l1Own_f (l : List Int) (h : l.length ≤ 1048576) : spec_l1Own.f l = some l := by
  unfold spec_l1Own.f
  simp only [Option.bind_some, List.length_nil, List.nil_append]
  rw [if_pos (by omega)]
theorem maOwn_l0 : ∀ (rest done x3 : List (List Int)), (done ++ rest).length ≤ 1048576 → (∀ r ∈ rest, r.length ≤ 1048576) → x3.length = done.length → Ev (fun k => spec_maOwn.l0 k x3 (done ++ rest) ((done ++ rest).length : Int) (done.length : Int)) (x3 ++ rest) := by
  intro rest
  induction rest with
  | nil => intro done x3 h _ _; exact Ev.step (fun k => by simp [spec_maOwn.l0]; rfl) (Ev.some (by simp))
  | cons r rest ih =>
    intro done x3 h hr hx
    obtain ⟨q1, q2, q3, q4, q5⟩ := midL r done rest (by unfold maxLen; omega)
    have ih' := ih (done ++ [r]) (x3 ++ [r]) (by rw [q5]; exact h) (fun y hy => hr y (by simp [hy])) (by simp [hx])
    rw [q5] at ih'
    have hl : x3.length < 5864062014805 := by simp at h; omega
    refine Ev.step (fun k => by rw [spec_maOwn.l0]) ?_
    simp only [if_pos q1, if_pos q2, q3, q4, l1Own_f r (hr r (by simp)), Option.bind_some, if_pos hl]
    exact Ev.pair ih' (by simp)
theorem maOwn_f (l : List (List Int)) (h : l.length ≤ 1048576) (hr : ∀ r ∈ l, r.length ≤ 1048576) : Ev (fun k => spec_maOwn.f k l) l := by
  unfold spec_maOwn.f
  exact maOwn_l0 l [] [] h hr rfl
theorem maDo_l1 (l : List (List Int)) (i c b : Nat) (x16 : List Int) (x17 x18 u0 u1 u2 u3 : Int) (hi : i < l.length) (hc : c < (rowN l i).length) (hb : b < (rowN l i).length) (y : List (List Int))
    (h : Ev (fun k => spec_maDo.l0 k (flip2 (flip2 l i c) i b) x16 x17 (wrap64 (x18 + 1)) u0 u1 u2 u3) y) :
    Ev (fun k => spec_maDo.l1 k l (i : Int) x16 x17 x18 [(c : Int), (b : Int)] 2 0 u0 u1 u2 u3) y := by
  have step : ∀ (l : List (List Int)) (j : Nat) (x28 : Int) (m : Nat), x28 = m → m < 2 → rd [(c : Int), (b : Int)] x28 = (j : Int) → i < l.length → j < (rowN l i).length → Ev (fun k => spec_maDo.l1 k (flip2 l i j) (i : Int) x16 x17 x18 [(c : Int), (b : Int)] 2 (wrap64 (x28 + 1)) u0 u1 u2 u3) y → Ev (fun k => spec_maDo.l1 k l (i : Int) x16 x17 x18 [(c : Int), (b : Int)] 2 x28 u0 u1 u2 u3) y := by
    intro l j x28 m hm hm2 hrd hi hj hy
    refine Ev.step (fun k => by rw [spec_maDo.l1]) ?_
    have q1 : x28 < 2 := by omega
    have q2 : 0 ≤ x28 := by omega
    have q3 : x28 < ([(c : Int), (b : Int)].length : Int) := by simp; omega
    have q4 : 0 ≤ (i : Int) := by omega
    have q5 : (i : Int) < (l.length : Int) := by omega
    have q6 : 0 ≤ (j : Int) := by omega
    have q7 : (j : Int) < ((rd_L1 l (i : Int)).length : Int) := by have : (rowN l i).length = (rd_L1 l (i : Int)).length := rfl; omega
    simp only [if_pos q1, if_pos q2, if_pos q3, if_pos q4, if_pos q5, hrd, if_pos q6, if_pos q7, Int.toNat_natCast]
    exact hy
  refine step l c 0 0 rfl (by omega) (by simp [rd]) hi hc ?_
  rw [show wrap64 (0 + 1) = ((1 : Nat) : Int) by unfold wrap64; omega]
  refine step (flip2 l i c) b _ 1 rfl (by omega) (by simp [rd]) (by rw [flip2_length]; exact hi) (by rw [flip2_rowlen _ _ _ _ hi]; exact hb) ?_
  rw [show wrap64 (((1 : Nat) : Int) + 1) = 2 by unfold wrap64; omega]
  refine Ev.step (fun k => by rw [spec_maDo.l1]) ?_
  simp only [if_neg (show ¬ (2 : Int) < 2 by omega)]
  exact h
def flips (l : List (List Int)) (r o c b : Nat) : List (List Int) := flip2 (flip2 (flip2 (flip2 l r c) r b) o c) o b
theorem flips_eq (l : List (List Int)) (r o c b m : Nat) (h1 : r < o) (h2 : o < l.length) (h3 : c < b) (h4 : b < m) (hm : ∀ i, i < l.length → (rowN l i).length = m) : flips l r o c b = mapRows (swNum r o c b) 0 l := by
  have z : ∀ (l : List (List Int)) (i j : Nat), i < l.length → ∀ i', (rowN (flip2 l i j) i').length = (rowN l i').length := fun l i j hi i' => flip2_rowlen l i j i' hi
  have e1 : ∀ i', (rowN (flip2 l r c) i').length = (rowN l i').length := z l r c (by omega)
  have e2 : ∀ i', (rowN (flip2 (flip2 l r c) r b) i').length = (rowN l i').length := fun i' => (z _ r b (by rw [flip2_length]; omega) i').trans (e1 i')
  have e3 : ∀ i', (rowN (flip2 (flip2 (flip2 l r c) r b) o c) i').length = (rowN l i').length := fun i' => (z _ o c (by simp only [flip2_length]; omega) i').trans (e2 i')
  have e4 : ∀ i', (rowN (flips l r o c b) i').length = (rowN l i').length := fun i' => (z _ o b (by simp only [flip2_length]; omega) i').trans (e3 i')
  have hr := hm r (by omega)
  have ho := hm o h2
  apply rows_ext
  · simp only [flips, flip2_length, mapRows_length]
  · intro i hi
    simp only [flips, flip2_length] at hi
    rw [e4, mapRows_row _ _ _ _ hi, mapRow_length]
  · intro i j hi hj
    simp only [flips, flip2_length] at hi
    rw [e4] at hj
    rw [mapRows_at _ _ _ _ hi hj]
    unfold flips
    rw [flip2_at _ o b i j (by simp only [flip2_length]; omega) (by rw [e3]; omega), flip2_at _ o c i j (by simp only [flip2_length]; omega) (by rw [e2]; omega), flip2_at _ o c o b (by simp only [flip2_length]; omega) (by rw [e2]; omega),
      flip2_at _ r b i j (by simp only [flip2_length]; omega) (by rw [e1]; omega), flip2_at _ r b o c (by simp only [flip2_length]; omega) (by rw [e1]; omega), flip2_at _ r b o b (by simp only [flip2_length]; omega) (by rw [e1]; omega),
      flip2_at _ r c i j (by omega) (by omega), flip2_at _ r c o c (by omega) (by omega), flip2_at _ r c o b (by omega) (by omega), flip2_at _ r c r b (by omega) (by omega)]
    unfold swNum
    have n1 : ¬ o = r := by omega
    have n2 : ¬ b = c := by omega
    simp only [n1, n2, false_and, and_false, if_false]
    have w : ∀ a b : Nat, ((a : Int) = (b : Int)) ↔ a = b := fun a b => by omega
    simp only [w]
    by_cases a1 : i = o
    · subst a1
      by_cases a3 : j = b
      · subst a3; simp
      · by_cases a4 : j = c
        · subst a4; simp [a3]
        · simp [a3, a4]
    · by_cases a2 : i = r
      · subst a2
        by_cases a3 : j = b
        · subst a3; simp [a1]
        · by_cases a4 : j = c
          · subst a4; simp [a1, a3]
          · simp [a1, a3, a4]
      · simp [a1, a2]
theorem maDo_f (l : List (List Int)) (r o c b m : Nat) (h0 : l.length ≤ 1048576) (h1 : r < o) (h2 : o < l.length) (h3 : c < b) (h4 : b < m) (hm1 : m ≤ 1048576) (hm : ∀ i, i < l.length → (rowN l i).length = m) : Ev (fun k => spec_maDo.f k l r o c b) (mapRows (swNum r o c b) 0 l) := by
  unfold spec_maDo.f
  refine Ev.bind (maOwn_f l h0 (fun x hx => ?_)) ?_
  · obtain ⟨i, hi, rfl⟩ := List.getElem_of_mem hx
    rw [← rowN_at hi, hm i hi]; exact hm1
  simp only [Option.bind_some]
  have hl : (([(r : Int), (o : Int)] : List Int).length : Int) = 2 := rfl
  have hl2 : (([(c : Int), (b : Int)] : List Int).length : Int) = 2 := rfl
  rw [hl]
  refine Ev.step (fun k => by rw [spec_maDo.l0]) ?_
  simp only [if_pos (show (0 : Int) < 2 by omega), if_pos (show (0 : Int) ≤ 0 by omega), hl, Option.bind_some, hl2, show rd [(r : Int), (o : Int)] 0 = (r : Int) by simp [rd]]
  refine maDo_l1 l r c b _ _ _ _ _ _ _ (by omega) (by rw [hm r (by omega)]; omega) (by rw [hm r (by omega)]; omega) _ ?_
  rw [show wrap64 (0 + 1) = 1 by unfold wrap64; omega]
  refine Ev.step (fun k => by rw [spec_maDo.l0]) ?_
  simp only [if_pos (show (1 : Int) < 2 by omega), if_pos (show (0 : Int) ≤ 1 by omega), hl, Option.bind_some, hl2, show rd [(r : Int), (o : Int)] 1 = (o : Int) by simp [rd]]
  have hlen : ∀ i', (rowN (flip2 (flip2 l r c) r b) i').length = (rowN l i').length := fun i' => (flip2_rowlen _ r b i' (by rw [flip2_length]; omega)).trans (flip2_rowlen l r c i' (by omega))
  refine maDo_l1 _ o c b _ _ _ _ _ _ _ (by simp only [flip2_length]; omega) (by rw [hlen, hm o h2]; omega) (by rw [hlen, hm o h2]; omega) _ ?_
  rw [show wrap64 (1 + 1) = 2 by unfold wrap64; omega]
  refine Ev.step (fun k => by rw [spec_maDo.l0]) ?_
  simp only [if_neg (show ¬ (2 : Int) < 2 by omega)]
  exact Ev.some (flips_eq l r o c b m h1 h2 h3 h4 hm)
def Fair (l : List Int) : Prop := l.length ≤ 1048576 ∧ ∀ x ∈ l, -1048576 ≤ x ∧ x ≤ 1048576
theorem liSum_l0 : ∀ (rest done : List Int) (a : Int), (done ++ rest).length ≤ 1048576 → (∀ x ∈ rest, -1048576 ≤ x ∧ x ≤ 1048576) → -(1048576 * (done.length : Int)) ≤ a → a ≤ 1048576 * (done.length : Int) → Ev (fun k => spec_liSum.l0 k a (done ++ rest) ((done ++ rest).length : Int) (done.length : Int)) (a + rest.sum) := by
  intro rest
  induction rest with
  | nil => intro done a h _ _ _; exact Ev.step (fun k => by simp [spec_liSum.l0]; rfl) (Ev.some (by simp))
  | cons x rest ih =>
    intro done a h hx h0 h1
    have hx1 := hx x (by simp)
    obtain ⟨q1, q2, q3, q4, q5⟩ := mid x done rest (by simp only [BM]; omega)
    have hl : (done.length : Int) < 1048576 := by simp at h; omega
    have hw : wrap64 (a + x) = a + x := wrap_id (by omega) (by omega)
    have ih' := ih (done ++ [x]) (a + x) (by rw [q5]; exact h) (fun y hy => hx y (by simp [hy])) (by rw [List.length_append, List.length_singleton]; omega) (by rw [List.length_append, List.length_singleton]; omega)
    rw [q5] at ih'
    refine Ev.step (fun k => by rw [spec_liSum.l0]) ?_
    simp only [if_pos q1, if_pos q2, q3, q4, hw]
    refine Ev.pair ih' ?_
    simp only [List.sum_cons]; omega
theorem liSum_f {l : List Int} (h : Fair l) : Ev (fun k => spec_liSum.f k l) l.sum := by
  unfold spec_liSum.f
  exact Ev.pair (liSum_l0 l [] 0 h.1 h.2 (by simp) (by simp)) (by simp)
theorem total_l0 : ∀ k a xs n i, impl_total.l0 k a xs n i = spec_liSum.l0 k a xs n i := by
  intro k
  induction k with
  | zero => intros; rfl
  | succ k ih => intros; simp only [impl_total.l0, spec_liSum.l0, ih]
theorem total_f {l : List Int} (h : Fair l) : Ev (fun k => impl_total.f k l) l.sum := Ev.congr (fun k => total_l0 ..) (liSum_f h)
def colI (l : List (List Int)) (j i : Nat) : List Int := (List.range i).map fun (i' : Nat) => rd (rd_L1 l (i' : Int)) (j : Int)
def colsI (l : List (List Int)) (n i : Nat) : List (List Int) := (List.range n).map fun j => colI l j i
theorem colI_succ (l : List (List Int)) (j i : Nat) : colI l j (i + 1) = colI l j i ++ [rd (rd_L1 l (i : Int)) (j : Int)] := by simp [colI, List.range_succ]
theorem colI_length (l : List (List Int)) (j i : Nat) : (colI l j i).length = i := by simp [colI]
theorem colsI_length (l : List (List Int)) (n i : Nat) : (colsI l n i).length = n := by simp [colsI]
theorem rdL_mem {l : List (List Int)} {i : Nat} (h : i < l.length) : rd_L1 l (i : Int) ∈ l := by
  unfold rd_L1
  simp [List.getD_eq_getElem?_getD, List.getElem?_eq_getElem h]
theorem turnI_f {l : List (List Int)} (hg : gridB l = true) (h4 : l.length ≤ BM) (h5 : ∀ r ∈ l, r.length ≤ BM) : Ev (fun k => impl_turn.f k l) (colsI l (rd_L1 l 0).length l.length) := by
  obtain ⟨g1, g2, g3, g4, g5⟩ := grid_get hg
  have p0 : 0 < (l.length : Int) := by omega
  unfold impl_turn.f
  have p1 : 0 ≤ ((rd_L1 l 0).length : Int) := by omega
  have p2 : (((rd_L1 l 0).length : Int) : Int).toNat ≤ 11728124029610 := by omega
  simp only [if_pos p0, if_pos p1, if_pos p2]
  generalize hn : (rd_L1 l 0).length = n at *
  have hst : List.replicate ((n : Int)).toNat ([] : List Int) = colsI l n 0 := by
    simp [colsI, colI, List.map_const']
  rw [hst]
  obtain ⟨s', rfl, h2⟩ := contLoopI (fun s i k => impl_turn.l0 k s l (l.length : Int) (i : Int)) l.length (fun s i => s = colsI l n i)
    (fun s i hi hs => by
      subst hs
      refine ⟨colsI l n (i + 1), rfl, fun x hx => Ev.step (fun k => by rw [impl_turn.l0]) ?_⟩
      have e1 : (rd_L1 l (i : Int)).length = n := (g5 _ (rdL_mem hi)).1
      have q1 : (i : Int) < (l.length : Int) := by omega
      have q2 : 0 ≤ (i : Int) := by omega
      simp only [if_pos q1, if_pos q2]
      obtain ⟨s', hs', h2⟩ := contLoopI (fun s j k => impl_turn.l1 k s l (l.length : Int) i (rd_L1 l (i : Int)) ((rd_L1 l (i : Int)).length : Int) (j : Int)) n (fun s j => s = (List.range n).map fun j' => colI l j' (if j' < j then i + 1 else i))
        (fun s j hj hs => by
          refine ⟨_, rfl, fun x hx => Ev.step (fun k => by rw [impl_turn.l1]) ?_⟩
          have hsl : s.length = n := by rw [hs]; simp
          have q1 : (j : Int) < ((rd_L1 l (i : Int)).length : Int) := by omega
          have q2 : 0 ≤ (j : Int) := by omega
          have q3 : (j : Int) < (s.length : Int) := by omega
          have hr : rd_L1 s (j : Int) = colI l j i := by
            rw [hs]; unfold rd_L1; simp [List.getD_eq_getElem?_getD, hj]
          have q4 : (rd_L1 s (j : Int)).length < 17592186044416 := by rw [hr, colI_length]; omega
          simp only [if_pos q1, if_pos q2, if_pos q3, if_pos q4, wrap_nat j (by omega)]
          have hset : s.set (j : Int).toNat (rd_L1 s (j : Int) ++ [rd (rd_L1 l (i : Int)) (j : Int)]) = (List.range n).map fun j' => colI l j' (if j' < j + 1 then i + 1 else i) := by
            rw [hr, ← colI_succ, Int.toNat_natCast]
            apply List.ext_getElem
            · simp [hsl]
            · intro m hm1 hm2
              subst hs
              simp only [List.getElem_set, List.getElem_map, List.getElem_range]
              by_cases e : j = m
              · subst e; simp
              · rw [if_neg e]
                by_cases e2 : m < j
                · rw [if_pos e2, if_pos (by omega)]
                · rw [if_neg e2, if_neg (by omega)]
          rw [hset]; exact hx) n (colsI l n i) 0 (by omega) (by simp [colsI])
      have hs2 : s' = colsI l n (i + 1) := by
        rw [hs']; unfold colsI; apply List.map_congr_left; intro j' hj'; rw [if_pos (List.mem_range.1 hj')]
      subst hs2
      refine h2 x (Ev.step (fun k => by rw [impl_turn.l1]) ?_)
      have q1 : ¬ (n : Int) < ((rd_L1 l (i : Int)).length : Int) := by omega
      simp only [if_neg q1, wrap_nat i (by omega)]
      exact hx) l.length (colsI l n 0) 0 (by omega) rfl
  refine h2 _ (Ev.step (fun k => by rw [impl_turn.l0]) ?_)
  have q1 : ¬ (l.length : Int) < (l.length : Int) := by omega
  simp only [if_neg q1]
  exact Ev.now _
theorem rdL_at {l : List (List Int)} {i : Nat} (h : i < l.length) : rd_L1 l (i : Int) = l[i] := by
  unfold rd_L1; simp [List.getD_eq_getElem?_getD, List.getElem?_eq_getElem h]
theorem rdI_at {l : List Int} {i : Nat} (h : i < l.length) : rd l (i : Int) = l[i] := by
  unfold rd; simp [List.getD_eq_getElem?_getD, List.getElem?_eq_getElem h]
theorem map_range_set {m j : Nat} (f : Nat → Int) (v : Int) : ((List.range m).map f).set j v = (List.range m).map fun j' => if j' = j then v else f j' := by
  apply List.ext_getElem
  · simp
  · intro i h1 h2
    simp only [List.getElem_set, List.getElem_map, List.getElem_range]
    by_cases e : j = i
    · subst e; simp
    · rw [if_neg e, if_neg (fun h => e h.symm)]
theorem grid_fair {l : List (List Int)} (hg : gridB l = true) : ∀ r ∈ l, Fair r := fun r hr => by
  obtain ⟨g1, g2, g3, g4, g5⟩ := grid_get hg
  obtain ⟨h1, h2⟩ := g5 r hr
  exact ⟨by omega, fun x hx => by rcases h2 x hx with h | h <;> omega⟩
theorem rowSums_l0 : ∀ (rest done : List (List Int)) (x3 : List Int), (done ++ rest).length ≤ 1048576 → (∀ r ∈ rest, Fair r) → x3.length = done.length → Ev (fun k => impl_rowSums.l0 k x3 (done ++ rest) ((done ++ rest).length : Int) (done.length : Int)) (x3 ++ rest.map List.sum) := by
  intro rest
  induction rest with
  | nil => intro done x3 h _ _; exact Ev.step (fun k => by simp [impl_rowSums.l0]; rfl) (Ev.some (by simp))
  | cons r rest ih =>
    intro done x3 h hf hx
    obtain ⟨q1, q2, q3, q4, q5⟩ := midL r done rest (by unfold maxLen; omega)
    have ih' := ih (done ++ [r]) (x3 ++ [r.sum]) (by rw [q5]; exact h) (fun y hy => hf y (by simp [hy])) (by simp [hx])
    rw [q5] at ih'
    have hl : x3.length < 17592186044416 := by simp at h; omega
    refine Ev.step (fun k => by rw [impl_rowSums.l0]) ?_
    simp only [if_pos q1, if_pos q2, q3, q4]
    refine Ev.bind (total_f (hf r (by simp))) ?_
    simp only [if_pos hl]
    exact Ev.pair ih' (by simp)
theorem rowSums_f {l : List (List Int)} (h : l.length ≤ 1048576) (hf : ∀ r ∈ l, Fair r) : Ev (fun k => impl_rowSums.f k l) (l.map List.sum) := by
  unfold impl_rowSums.f
  exact rowSums_l0 l [] [] h hf rfl
theorem colI_bd {l : List (List Int)} (hg : gridB l = true) (j i : Nat) (hi : i ≤ l.length) (hj : j < (rd_L1 l 0).length) : 0 ≤ (colI l j i).sum ∧ (colI l j i).sum ≤ i := by
  obtain ⟨g1, g2, g3, g4, g5⟩ := grid_get hg
  induction i with
  | zero => simp [colI]
  | succ i ih =>
    have hm := g5 _ (rdL_mem (show i < l.length by omega))
    have hr : rd (rd_L1 l (i : Int)) (j : Int) ∈ rd_L1 l (i : Int) := by rw [rdI_at (by omega)]; exact List.getElem_mem _
    have := hm.2 _ hr
    have := ih (by omega)
    rw [colI_succ, List.sum_append]
    simp; omega
theorem colsI_fair {l : List (List Int)} (hg : gridB l = true) : ∀ r ∈ colsI l (rd_L1 l 0).length l.length, Fair r := by
  obtain ⟨g1, g2, g3, g4, g5⟩ := grid_get hg
  intro r hr
  obtain ⟨j, hj, rfl⟩ := List.mem_map.1 hr
  refine ⟨by rw [colI_length]; omega, fun x hx => ?_⟩
  obtain ⟨i, hi, rfl⟩ := List.mem_map.1 hx
  have hi := List.mem_range.1 hi
  have hj := List.mem_range.1 hj
  have hm := g5 _ (rdL_mem hi)
  have hr : rd (rd_L1 l (i : Int)) (j : Int) ∈ rd_L1 l (i : Int) := by rw [rdI_at (by omega)]; exact List.getElem_mem _
  have := hm.2 _ hr
  omega
def gSums (l : List (List Int)) : List Int × List Int := (l.map List.sum, (colsI l (rd_L1 l 0).length l.length).map List.sum)
theorem maSums_f {l : List (List Int)} (hg : gridB l = true) : Ev (fun k => spec_maSums.f k l) (gSums l) := by
  obtain ⟨g1, g2, g3, g4, g5⟩ := grid_get hg
  have p0 : 0 < (l.length : Int) := by omega
  unfold spec_maSums.f
  have p1 : 0 ≤ ((rd_L1 l 0).length : Int) := by omega
  have p2 : (((rd_L1 l 0).length : Int) : Int).toNat ≤ 35184372088832 := by omega
  simp only [if_pos p0, if_pos p1, if_pos p2]
  generalize hn : (rd_L1 l 0).length = n at *
  have hst : List.replicate ((n : Int)).toNat (0 : Int) = (List.range n).map fun j => (colI l j 0).sum := by simp [colI, List.map_const']
  rw [hst]
  obtain ⟨s', rfl, h2⟩ := contLoopI (fun (s : List Int × List Int) i k => spec_maSums.l0 k s.1 s.2 l (l.length : Int) (i : Int)) l.length (fun s i => s = ((l.take i).map List.sum, (List.range n).map fun j => (colI l j i).sum))
    (fun s i hi hs => by
      subst hs
      refine ⟨_, rfl, fun x hx => Ev.step (fun k => by rw [spec_maSums.l0]) ?_⟩
      have e1 : (rd_L1 l (i : Int)).length = n := (g5 _ (rdL_mem hi)).1
      have q1 : (i : Int) < (l.length : Int) := by omega
      have q2 : 0 ≤ (i : Int) := by omega
      simp only [if_pos q1, if_pos q2]
      refine Ev.bind (liSum_f (grid_fair hg _ (rdL_mem hi))) ?_
      have q3 : ((l.take i).map List.sum).length < 17592186044416 := by simp; omega
      simp only [if_pos q3]
      have ht : (l.take i).map List.sum ++ [(rd_L1 l (i : Int)).sum] = (l.take (i + 1)).map List.sum := by
        rw [List.take_succ_eq_append_getElem hi, List.map_append, rdL_at hi]; rfl
      rw [ht]
      obtain ⟨s', hs', h2⟩ := contLoopI (fun s j k => spec_maSums.l1 k ((l.take (i + 1)).map List.sum) s l (l.length : Int) i (rd_L1 l (i : Int)) ((rd_L1 l (i : Int)).length : Int) (j : Int)) n (fun s j => s = (List.range n).map fun j' => (colI l j' (if j' < j then i + 1 else i)).sum)
        (fun s j hj hs => by
          refine ⟨_, rfl, fun x hx => Ev.step (fun k => by rw [spec_maSums.l1]) ?_⟩
          have hsl : s.length = n := by rw [hs]; simp
          have q1 : (j : Int) < ((rd_L1 l (i : Int)).length : Int) := by omega
          have q2 : 0 ≤ (j : Int) := by omega
          have q3 : (j : Int) < (s.length : Int) := by omega
          have hr : rd s (j : Int) = (colI l j i).sum := by
            rw [hs]; unfold rd; simp [List.getD_eq_getElem?_getD, hj]
          have hv : rd s (j : Int) + rd (rd_L1 l (i : Int)) (j : Int) = (colI l j (i + 1)).sum := by rw [hr, colI_succ, List.sum_append]; simp
          have hb := colI_bd hg j (i + 1) (by omega) (by omega)
          have hw : wrap64 (rd s (j : Int) + rd (rd_L1 l (i : Int)) (j : Int)) = (colI l j (i + 1)).sum := by rw [hv]; exact wrap_id (by omega) (by omega)
          simp only [if_pos q1, if_pos q2, if_pos q3, wrap_nat j (by omega), hw]
          have hset : s.set (j : Int).toNat (colI l j (i + 1)).sum = (List.range n).map fun j' => (colI l j' (if j' < j + 1 then i + 1 else i)).sum := by
            rw [hs, Int.toNat_natCast, map_range_set]
            apply List.map_congr_left
            intro j' _
            by_cases e : j' = j
            · subst e; simp
            · rw [if_neg e]
              by_cases e2 : j' < j
              · rw [if_pos e2, if_pos (by omega)]
              · rw [if_neg e2, if_neg (by omega)]
          rw [hset]; exact hx) n ((List.range n).map fun j => (colI l j i).sum) 0 (by omega) (by simp)
      have hs2 : s' = (List.range n).map fun j => (colI l j (i + 1)).sum := by
        rw [hs']; apply List.map_congr_left; intro j' hj'; rw [if_pos (List.mem_range.1 hj')]
      subst hs2
      refine h2 x (Ev.step (fun k => by rw [spec_maSums.l1]) ?_)
      have q1 : ¬ (n : Int) < ((rd_L1 l (i : Int)).length : Int) := by omega
      simp only [if_neg q1, wrap_nat i (by omega)]
      exact hx) l.length ([], (List.range n).map fun j => (colI l j 0).sum) 0 (by omega) (by simp)
  refine h2 _ (Ev.step (fun k => by rw [spec_maSums.l0]) ?_)
  have q1 : ¬ (l.length : Int) < (l.length : Int) := by omega
  simp only [if_neg q1]
  refine Ev.some ?_
  simp [gSums, colsI, hn]
end Go.Proofs.Ytojcnapdalpnmaa.K
namespace Go.Proofs.Ytojcnapdalpnmaa.K
open Go.RowKit Go.Proofs.YtojcnapdalpnmaaW.PrintWords Go.Proofs.YtojcnapdalpnmaaW.PrintMore Go.Proofs.Ytojcnapdalpnmaa.P
def optI : Option Nat → Int | some i => i | none => -1
theorem evPos {α : Type} {c : Prop} [Decidable c] {f g : Nat → Option α} {r : α} (h : c) (hf : Ev f r) : Ev (fun k => if c then f k else g k) r := Ev.ite (fun _ => hf) (fun h' => absurd h h')
theorem evNeg {α : Type} {c : Prop} [Decidable c] {f g : Nat → Option α} {r : α} (h : ¬ c) (hg : Ev g r) : Ev (fun k => if c then f k else g k) r := Ev.ite (fun h' => absurd h' h) (fun _ => hg)
theorem firstLoop (g : Nat → Nat → Option Int) (n : Nat) (P : Nat → Bool) (hend : Ev (g n) (-1)) (hr : ∀ i, i < n → (P i = true → Ev (g i) (i : Int)) ∧ (P i = false → ∀ x, Ev (g (i + 1)) x → Ev (g i) x)) : ∀ (d i : Nat), i + d = n → Ev (g i) (optI (firstI P i d))
  | 0, i, h => by obtain rfl : i = n := by omega
                  exact hend
  | d + 1, i, h => by
    obtain ⟨h1, h2⟩ := hr i (by omega)
    simp only [firstI]
    by_cases hp : P i = true
    · rw [if_pos hp]; exact h1 hp
    · rw [if_neg hp]; exact h2 (by simpa using hp) _ (firstLoop g n P hend hr d (i + 1) (by omega))
section
variable {n m : Nat} {t u : List (List Int)}
theorem firstRow_f (ht : Shape n m t) (hu : Shape n m u) (hn : n ≤ 6) (hm : m ≤ 6) (c : Nat) (hc : c < m) (a b : Int) : Ev (fun k => impl_firstRow.f k t u c a b) (optI (firstI (fun i => decide (at2 t i c = a) && decide (at2 u i c = b)) 0 n)) := by
  unfold impl_firstRow.f
  have e1 := ht.1
  have e2 := hu.1
  rw [e1]
  refine firstLoop (fun i k => impl_firstRow.l0 k t u c a b (n : Int) (i : Int)) n _ ?_ (fun i hi => ?_) n 0 (by omega)
  · refine Ev.step (fun k => by rw [impl_firstRow.l0]) ?_
    exact evNeg (by omega) (Ev.now _)
  · have q1 : (i : Int) < (n : Int) := by omega
    have q2 : 0 ≤ (i : Int) := by omega
    have q3 : (i : Int) < (t.length : Int) := by omega
    have q4 : 0 ≤ (c : Int) := by omega
    have q5 : (c : Int) < ((rd_L1 t (i : Int)).length : Int) := by have : (rd_L1 t (i : Int)).length = m := ht.2.1 i hi; omega
    have q6 : (i : Int) < (u.length : Int) := by omega
    have q7 : (c : Int) < ((rd_L1 u (i : Int)).length : Int) := by have : (rd_L1 u (i : Int)).length = m := hu.2.1 i hi; omega
    have z1 : rd (rd_L1 t (i : Int)) (c : Int) = at2 t i c := rfl
    have z2 : rd (rd_L1 u (i : Int)) (c : Int) = at2 u i c := rfl
    refine ⟨fun hp => Ev.step (fun k => by rw [impl_firstRow.l0]) ?_, fun hp x hx => Ev.step (fun k => by rw [impl_firstRow.l0]) ?_⟩
    · simp only [Bool.and_eq_true, decide_eq_true_eq] at hp
      simp only [if_pos q1, if_pos q2, if_pos q3, if_pos q4, if_pos q5, if_pos q6, if_pos q7, z1, z2, if_pos hp.1, if_pos hp.2]
      exact Ev.now _
    · simp only [if_pos q1, if_pos q2, if_pos q3, if_pos q4, if_pos q5, if_pos q6, if_pos q7, z1, z2, wrap_nat i (by omega)]
      refine Ev.ite (fun h1 => Ev.ite (fun h2 => ?_) (fun _ => hx)) (fun _ => hx)
      simp [h1, h2] at hp
theorem maFirst_f (ht : Shape n m t) (hu : Shape n m u) (hn : n ≤ 6) (hm : m ≤ 6) (c : Nat) (hc : c < m) : Ev (fun k => spec_maFirst.f k t u c) (optI (pRow t u n c)) := by
  unfold spec_maFirst.f pRow
  have e1 := ht.1
  have e2 := hu.1
  rw [e1]
  refine firstLoop (fun i k => spec_maFirst.l0 k t u c (n : Int) (i : Int)) n _ ?_ (fun i hi => ?_) n 0 (by omega)
  · refine Ev.step (fun k => by rw [spec_maFirst.l0]) ?_
    exact evNeg (by omega) (Ev.now _)
  · have q1 : (i : Int) < (n : Int) := by omega
    have q2 : 0 ≤ (i : Int) := by omega
    have q3 : (i : Int) < (t.length : Int) := by omega
    have q4 : 0 ≤ (c : Int) := by omega
    have q5 : (c : Int) < ((rd_L1 t (i : Int)).length : Int) := by have : (rd_L1 t (i : Int)).length = m := ht.2.1 i hi; omega
    have q6 : (i : Int) < (u.length : Int) := by omega
    have q7 : (c : Int) < ((rd_L1 u (i : Int)).length : Int) := by have : (rd_L1 u (i : Int)).length = m := hu.2.1 i hi; omega
    have z1 : rd (rd_L1 t (i : Int)) (c : Int) = at2 t i c := rfl
    have z2 : rd (rd_L1 u (i : Int)) (c : Int) = at2 u i c := rfl
    have y1 := ht.2.2 i c hi hc
    have y2 := hu.2.2 i c hi hc
    refine ⟨fun hp => Ev.step (fun k => by rw [spec_maFirst.l0]) ?_, fun hp x hx => Ev.step (fun k => by rw [spec_maFirst.l0]) ?_⟩
    · simp only [Bool.and_eq_true, decide_eq_true_eq] at hp
      have q8 : at2 t i c > at2 u i c := by omega
      simp only [if_pos q1, if_pos q2, if_pos q3, if_pos q4, if_pos q5, if_pos q6, if_pos q7, z1, z2, if_pos q8]
      exact Ev.now _
    · have q8 : ¬ at2 t i c > at2 u i c := fun h => by
        have h1 : at2 t i c = 1 := by omega
        have h2 : at2 u i c = 0 := by omega
        simp [h1, h2] at hp
      simp only [if_pos q1, if_pos q2, if_pos q3, if_pos q4, if_pos q5, if_pos q6, if_pos q7, z1, z2, if_neg q8, wrap_nat i (by omega)]
      exact hx
theorem laterColumn_f (ht : Shape n m t) (hn : n ≤ 6) (hm : m ≤ 6) (c r s : Nat) (hc : c < m) (hr : r < n) (hs : s < n) (a b : Int) : Ev (fun k => impl_laterColumn.f k t c r s a b) (optI (pCol t m c r s a b)) := by
  unfold impl_laterColumn.f pCol
  have e1 := ht.1
  have e0 : (rd_L1 t 0).length = m := ht.2.1 0 (by omega)
  rw [wrap_nat c (by omega)]
  refine firstLoop (fun i k => impl_laterColumn.l0 k t r s a b (i : Int)) m _ ?_ (fun i hi => ?_) (m - (c + 1)) (c + 1) (by omega)
  · refine Ev.step (fun k => by rw [impl_laterColumn.l0]) ?_
    exact evPos (by omega) (evNeg (by omega) (Ev.now _))
  · have q0 : 0 < (t.length : Int) := by omega
    have q1 : (i : Int) < ((rd_L1 t 0).length : Int) := by omega
    have q2 : 0 ≤ (i : Int) := by omega
    have q3 : 0 ≤ (r : Int) := by omega
    have q4 : (r : Int) < (t.length : Int) := by omega
    have q5 : (i : Int) < ((rd_L1 t (r : Int)).length : Int) := by have : (rd_L1 t (r : Int)).length = m := ht.2.1 r hr; omega
    have q6 : 0 ≤ (s : Int) := by omega
    have q7 : (s : Int) < (t.length : Int) := by omega
    have q8 : (i : Int) < ((rd_L1 t (s : Int)).length : Int) := by have : (rd_L1 t (s : Int)).length = m := ht.2.1 s hs; omega
    have z1 : rd (rd_L1 t (r : Int)) (i : Int) = at2 t r i := rfl
    have z2 : rd (rd_L1 t (s : Int)) (i : Int) = at2 t s i := rfl
    refine ⟨fun hp => Ev.step (fun k => by rw [impl_laterColumn.l0]) ?_, fun hp x hx => Ev.step (fun k => by rw [impl_laterColumn.l0]) ?_⟩
    · simp only [Bool.and_eq_true, decide_eq_true_eq] at hp
      simp only [if_pos q0, if_pos q1, if_pos q2, if_pos q3, if_pos q4, if_pos q5, if_pos q6, if_pos q7, if_pos q8, z1, z2, if_pos hp.1, if_pos hp.2]
      exact Ev.now _
    · simp only [if_pos q0, if_pos q1, if_pos q2, if_pos q3, if_pos q4, if_pos q5, if_pos q6, if_pos q7, if_pos q8, z1, z2, wrap_nat i (by omega)]
      refine Ev.ite (fun h1 => Ev.ite (fun h2 => ?_) (fun _ => hx)) (fun _ => hx)
      simp [h1, h2] at hp
theorem maBeside_f (ht : Shape n m t) (hn : n ≤ 6) (hm : m ≤ 6) (c r s : Nat) (hc : c < m) (hr : r < n) (hs : s < n) : Ev (fun k => spec_maBeside.f k t r s c) (optI (pCol t m c r s 0 1)) := by
  unfold spec_maBeside.f pCol
  have e1 := ht.1
  have e0 : (rd_L1 t 0).length = m := ht.2.1 0 (by omega)
  rw [wrap_nat c (by omega)]
  refine firstLoop (fun i k => spec_maBeside.l0 k t r s (i : Int)) m _ ?_ (fun i hi => ?_) (m - (c + 1)) (c + 1) (by omega)
  · refine Ev.step (fun k => by rw [spec_maBeside.l0]) ?_
    exact evPos (by omega) (evNeg (by omega) (Ev.now _))
  · have q0 : 0 < (t.length : Int) := by omega
    have q1 : (i : Int) < ((rd_L1 t 0).length : Int) := by omega
    have q2 : 0 ≤ (i : Int) := by omega
    have q3 : 0 ≤ (r : Int) := by omega
    have q4 : (r : Int) < (t.length : Int) := by omega
    have q5 : (i : Int) < ((rd_L1 t (r : Int)).length : Int) := by have : (rd_L1 t (r : Int)).length = m := ht.2.1 r hr; omega
    have q6 : 0 ≤ (s : Int) := by omega
    have q7 : (s : Int) < (t.length : Int) := by omega
    have q8 : (i : Int) < ((rd_L1 t (s : Int)).length : Int) := by have : (rd_L1 t (s : Int)).length = m := ht.2.1 s hs; omega
    have z1 : rd (rd_L1 t (r : Int)) (i : Int) = at2 t r i := rfl
    have z2 : rd (rd_L1 t (s : Int)) (i : Int) = at2 t s i := rfl
    refine ⟨fun hp => Ev.step (fun k => by rw [spec_maBeside.l0]) ?_, fun hp x hx => Ev.step (fun k => by rw [spec_maBeside.l0]) ?_⟩
    · simp only [Bool.and_eq_true, decide_eq_true_eq] at hp
      simp only [if_pos q0, if_pos q1, if_pos q2, if_pos q3, if_pos q4, if_pos q5, if_pos q6, if_pos q7, if_pos q8, z1, z2, if_pos hp.1, if_pos hp.2]
      exact Ev.now _
    · simp only [if_pos q0, if_pos q1, if_pos q2, if_pos q3, if_pos q4, if_pos q5, if_pos q6, if_pos q7, if_pos q8, z1, z2, wrap_nat i (by omega)]
      refine Ev.ite (fun h1 => Ev.ite (fun h2 => ?_) (fun _ => hx)) (fun _ => hx)
      simp [h1, h2] at hp
end
theorem pRow_swap (t u : List (List Int)) (n c : Nat) : firstI (fun i => decide (at2 t i c = 0) && decide (at2 u i c = 1)) 0 n = pRow u t n c := by
  unfold pRow; congr 1; funext i; rw [Bool.and_comm]
theorem pCol_swap (t : List (List Int)) (m c r s : Nat) (a b : Int) : pCol t m c s r b a = pCol t m c r s a b := by
  unfold pCol; congr 1; funext i; rw [Bool.and_comm]
theorem mn_nat (r s : Nat) : mn (r : Int) (s : Int) = ((min r s : Nat) : Int) := by unfold mn; split <;> omega
theorem mx_nat (r s : Nat) : mx (r : Int) (s : Int) = ((max r s : Nat) : Int) := by unfold mx; split <;> omega
theorem gpStep_len {n m c : Nat} {g g' : GP} (h : gpStep n m c g = some g') : g'.fst.length + g'.snd.length = g.fst.length + g.snd.length + 1 := by
  unfold gpStep at h
  split at h
  · split at h
    · obtain rfl := Option.some.inj h; simp; omega
    · split at h
      · obtain rfl := Option.some.inj h; simp; omega
      · cases h
  · cases h
theorem gpCol_len {n m c : Nat} : ∀ (f : Nat) (g : GP), (gpCol n m c f g).fst.length + (gpCol n m c f g).snd.length ≤ g.fst.length + g.snd.length + f
  | 0, g => by simp [gpCol]
  | f + 1, g => by
    simp only [gpCol]
    split
    · rename_i g' h
      have := gpStep_len h
      have := gpCol_len (n := n) (m := m) (c := c) f g'
      omega
    · omega
theorem shape_bd {n m : Nat} {t : List (List Int)} (h : Shape n m t) (hn : n ≤ 6) (hm : m ≤ 6) : t.length ≤ 1048576 ∧ ∀ x ∈ t, x.length ≤ 1048576 := by
  refine ⟨by have := h.1; omega, fun x hx => ?_⟩
  obtain ⟨i, hi, rfl⟩ := List.getElem_of_mem hx
  have := h.2.1 i (by have := h.1; omega)
  rw [rowN_at hi] at this; omega
theorem implCol {n m : Nat} (hn : n ≤ 6) (hm : m ≤ 6) (c : Nat) (hc : c < m) : ∀ (f : Nat) (g : GP), PInv n m c g → dOff n c g < f → g.fst.length + g.snd.length + f < 4398046511104 →
    PInv n m (c + 1) (gpCol n m c f g) ∧ ∀ x, Ev (fun k => impl_GridPath.l0 k (gpCol n m c f g).t (gpCol n m c f g).u (gpCol n m c f g).fst (gpCol n m c f g).snd (m : Int) ((c + 1 : Nat) : Int)) x → Ev (fun k => impl_GridPath.l1 k g.t g.u g.fst g.snd (c : Int) (m : Int) (c : Int)) x
  | 0, g, hI, hd, _ => by have := dOff_nonneg n c g; omega
  | f + 1, g, hI, hd, hl => by
    have f1 := firstRow_f hI.st hI.su hn hm c hc 1 0
    have f2 := firstRow_f hI.st hI.su hn hm c hc 0 1
    rw [pRow_swap] at f2
    replace f1 : Ev (fun k => impl_firstRow.f k g.t g.u c 1 0) (optI (pRow g.t g.u n c)) := f1
    cases h1 : pRow g.t g.u n c with
    | none =>
      have hs : gpStep n m c g = none := by unfold gpStep; rw [h1]
      simp only [gpCol, hs]
      refine ⟨col_done hI hc h1, fun x hx => Ev.step (fun k => by rw [impl_GridPath.l1]) ?_⟩
      rw [h1] at f1
      refine Ev.bind f1 (Ev.bind f2 ?_)
      refine evPos (by simp [optI]) ?_
      rw [wrap_nat c (by omega)]; exact hx
    | some r =>
      obtain ⟨r1, r2, r3⟩ := pRow_some h1
      cases h2 : pRow g.u g.t n c with
      | none => rw [pRow_back hI hc h2] at h1; cases h1
      | some s =>
        obtain ⟨s1, s2, s3⟩ := pRow_some h2
        rw [h1] at f1
        rw [h2] at f2
        have z0 : ¬ optI (some r) < 0 := by simp [optI]
        cases h3 : pCol g.t m c r s 0 1 with
        | some d =>
          obtain ⟨d1, d2, d3, d4⟩ := pCol_some h3
          have hs : gpStep n m c g = some ⟨pSw g.t r s c d, g.u, g.fst ++ [pX r s c d], g.snd⟩ := by unfold gpStep; simp only [h1, h2, h3]
          simp only [gpCol, hs]
          obtain ⟨i1, i2⟩ := stepT (x := g.fst ++ [pX r s c d]) hI hc h1 h2 h3
          obtain ⟨j1, j2⟩ := implCol hn hm c hc f ⟨pSw g.t r s c d, g.u, g.fst ++ [pX r s c d], g.snd⟩ i1 (by omega) (by simp; omega)
          refine ⟨j1, fun x hx => Ev.step (fun k => by rw [impl_GridPath.l1]) ?_⟩
          refine Ev.bind f1 (Ev.bind f2 ?_)
          refine evNeg z0 ?_
          have f3 := laterColumn_f hI.st hn hm c r s hc r1 s1 0 1
          rw [h3] at f3
          refine Ev.bind f3 ?_
          have z1 : optI (some d) > 0 := by simp [optI]; omega
          refine evPos z1 ?_
          simp only [optI, mn_nat, mx_nat, impl_switched.f, if_pos (shape_bd hI.st hn hm), Option.bind_some]
          refine evPos (by simp; omega) ?_
          exact j2 x hx
        | none =>
          have h4 : ∃ d, pCol g.u m c r s 1 0 = some d := by
            cases h : pCol g.u m c r s 1 0 with
            | none => exact absurd h (col_switch hI hc h1 h2 h3)
            | some d => exact ⟨d, rfl⟩
          obtain ⟨d, h4⟩ := h4
          obtain ⟨d1, d2, d3, d4⟩ := pCol_some h4
          have hs : gpStep n m c g = some ⟨g.t, pSw g.u r s c d, g.fst, pX r s c d :: g.snd⟩ := by unfold gpStep; simp only [h1, h2, h3, h4]
          simp only [gpCol, hs]
          obtain ⟨i1, i2⟩ := stepU (x := pX r s c d :: g.snd) hI hc h1 h2 h4
          obtain ⟨j1, j2⟩ := implCol hn hm c hc f ⟨g.t, pSw g.u r s c d, g.fst, pX r s c d :: g.snd⟩ i1 (by omega) (by simp; omega)
          refine ⟨j1, fun x hx => Ev.step (fun k => by rw [impl_GridPath.l1]) ?_⟩
          refine Ev.bind f1 (Ev.bind f2 ?_)
          refine evNeg z0 ?_
          have f3 := laterColumn_f hI.st hn hm c r s hc r1 s1 0 1
          rw [h3] at f3
          refine Ev.bind f3 ?_
          refine evNeg (by simp [optI]) ?_
          have f4 := laterColumn_f hI.su hn hm c r s hc r1 s1 1 0
          rw [h4] at f4
          refine Ev.bind f4 ?_
          simp only [optI, mn_nat, mx_nat, impl_switched.f, if_pos (shape_bd hI.su hn hm), Option.bind_some]
          refine evPos (by simp; omega) ?_
          exact j2 x hx
theorem specCol {n m : Nat} (hn : n ≤ 6) (hm : m ≤ 6) (c : Nat) (hc : c < m) : ∀ (f : Nat) (g : GP), PInv n m c g → dOff n c g < f → g.fst.length + g.snd.length + f < 4398046511104 →
    ∀ x, Ev (fun k => spec_GridPath.l0 k (gpCol n m c f g).t (gpCol n m c f g).u (gpCol n m c f g).fst (gpCol n m c f g).snd (m : Int) ((c + 1 : Nat) : Int)) x → Ev (fun k => spec_GridPath.l1 k g.t g.u g.fst g.snd (c : Int) (m : Int) (c : Int)) x
  | 0, g, hI, hd, _ => by have := dOff_nonneg n c g; omega
  | f + 1, g, hI, hd, hl => by
    have f1 := maFirst_f hI.st hI.su hn hm c hc
    have f2 := maFirst_f hI.su hI.st hn hm c hc
    cases h1 : pRow g.t g.u n c with
    | none =>
      have hs : gpStep n m c g = none := by unfold gpStep; rw [h1]
      simp only [gpCol, hs]
      refine fun x hx => Ev.step (fun k => by rw [spec_GridPath.l1]) ?_
      rw [h1] at f1
      refine Ev.bind f1 ?_
      refine evNeg (by simp [optI]) ?_
      rw [wrap_nat c (by omega)]; exact hx
    | some r =>
      obtain ⟨r1, r2, r3⟩ := pRow_some h1
      cases h2 : pRow g.u g.t n c with
      | none => rw [pRow_back hI hc h2] at h1; cases h1
      | some s =>
        obtain ⟨s1, s2, s3⟩ := pRow_some h2
        rw [h1] at f1
        rw [h2] at f2
        have hrs : r ≠ s := fun e => by subst e; omega
        have z0 : optI (some r) ≥ 0 := by simp [optI]
        have l1 : spec_l1Least.f (r : Int) (s : Int) = some ((min r s : Nat) : Int) := by unfold spec_l1Least.f; split <;> congr 1 <;> omega
        have l2 : spec_l1Most.f (r : Int) (s : Int) = some ((max r s : Nat) : Int) := by unfold spec_l1Most.f; split <;> congr 1 <;> omega
        have w1 : min r s < max r s := by omega
        have w2 : max r s < n := by omega
        cases h3 : pCol g.t m c r s 0 1 with
        | some d =>
          obtain ⟨d1, d2, d3, d4⟩ := pCol_some h3
          have hs : gpStep n m c g = some ⟨pSw g.t r s c d, g.u, g.fst ++ [pX r s c d], g.snd⟩ := by unfold gpStep; simp only [h1, h2, h3]
          simp only [gpCol, hs]
          obtain ⟨i1, i2⟩ := stepT (x := g.fst ++ [pX r s c d]) hI hc h1 h2 h3
          have j2 := specCol hn hm c hc f ⟨pSw g.t r s c d, g.u, g.fst ++ [pX r s c d], g.snd⟩ i1 (by omega) (by simp; omega)
          refine fun x hx => Ev.step (fun k => by rw [spec_GridPath.l1]) ?_
          refine Ev.bind f1 ?_
          refine evPos z0 ?_
          refine Ev.bind f1 (Ev.bind f2 ?_)
          have f3 := maBeside_f hI.st hn hm c r s hc r1 s1
          rw [h3] at f3
          simp only [optI, l1, l2, Option.bind_some]
          simp only [optI] at f3
          refine Ev.bind f3 ?_
          refine evPos (by omega) ?_
          refine Ev.bind (maDo_f g.t _ _ c d m (shape_bd hI.st hn hm).1 w1 (by rw [hI.st.1]; exact w2) d1 d2 (by omega) (fun i hi => hI.st.2.1 i (by rw [← hI.st.1]; exact hi))) ?_
          refine evPos (by omega) ?_
          exact j2 x hx
        | none =>
          have h4 : ∃ d, pCol g.u m c r s 1 0 = some d := by
            cases h : pCol g.u m c r s 1 0 with
            | none => exact absurd h (col_switch hI hc h1 h2 h3)
            | some d => exact ⟨d, rfl⟩
          obtain ⟨d, h4⟩ := h4
          obtain ⟨d1, d2, d3, d4⟩ := pCol_some h4
          have hs : gpStep n m c g = some ⟨g.t, pSw g.u r s c d, g.fst, pX r s c d :: g.snd⟩ := by unfold gpStep; simp only [h1, h2, h3, h4]
          simp only [gpCol, hs]
          obtain ⟨i1, i2⟩ := stepU (x := pX r s c d :: g.snd) hI hc h1 h2 h4
          have j2 := specCol hn hm c hc f ⟨g.t, pSw g.u r s c d, g.fst, pX r s c d :: g.snd⟩ i1 (by omega) (by simp; omega)
          refine fun x hx => Ev.step (fun k => by rw [spec_GridPath.l1]) ?_
          refine Ev.bind f1 ?_
          refine evPos z0 ?_
          refine Ev.bind f1 (Ev.bind f2 ?_)
          have f3 := maBeside_f hI.st hn hm c r s hc r1 s1
          rw [h3] at f3
          simp only [optI, l1, l2, Option.bind_some]
          simp only [optI] at f3
          refine Ev.bind f3 ?_
          refine evNeg (by omega) ?_
          have f4 := maBeside_f hI.su hn hm c s r hc s1 r1
          rw [pCol_swap, h4] at f4
          simp only [optI] at f4
          refine Ev.bind f4 ?_
          refine Ev.bind (maDo_f g.u _ _ c d m (shape_bd hI.su hn hm).1 w1 (by rw [hI.su.1]; exact w2) d1 d2 (by omega) (fun i hi => hI.su.2.1 i (by rw [← hI.su.1]; exact hi))) ?_
          refine evPos (by simp; omega) ?_
          exact j2 x hx
theorem implAll {n m : Nat} (hn : n ≤ 6) (hm : m ≤ 6) : ∀ (d c : Nat) (g : GP), c + d = m → PInv n m c g → g.fst.length + g.snd.length ≤ 7 * c →
    Ev (fun k => impl_GridPath.l0 k g.t g.u g.fst g.snd (m : Int) (c : Int)) ((gpAll n m c d g).fst ++ (gpAll n m c d g).snd, true) ∧ Ev (fun k => spec_GridPath.l0 k g.t g.u g.fst g.snd (m : Int) (c : Int)) ((gpAll n m c d g).fst ++ (gpAll n m c d g).snd, true)
  | 0, c, g, hcd, hI, hl => by
    have q1 : ¬ (c : Int) < (m : Int) := by omega
    have q2 : g.fst.length + g.snd.length < 4398046511104 := by omega
    exact ⟨Ev.step (fun k => by rw [impl_GridPath.l0, if_neg q1, if_pos q2]; rfl) (Ev.now _), Ev.step (fun k => by rw [spec_GridPath.l0, if_neg q1, if_pos q2]; rfl) (Ev.now _)⟩
  | d + 1, c, g, hcd, hI, hl => by
    have q1 : (c : Int) < (m : Int) := by omega
    have hd : dOff n c g < ((n + 1 : Nat) : Int) := by have := dOff_le n c g; omega
    obtain ⟨h1, h2⟩ := implCol hn hm c (by omega) (n + 1) g hI hd (by omega)
    have h3 := specCol hn hm c (by omega) (n + 1) g hI hd (by omega)
    have h5 := gpCol_len (n := n) (m := m) (c := c) (n + 1) g
    obtain ⟨j1, j2⟩ := implAll hn hm d (c + 1) (gpCol n m c (n + 1) g) (by omega) h1 (by omega)
    simp only [gpAll]
    exact ⟨Ev.step (fun k => by rw [impl_GridPath.l0, if_pos q1]) (h2 _ j1), Ev.step (fun k => by rw [spec_GridPath.l0, if_pos q1]) (h3 _ j2)⟩
theorem l1Same_l0 : ∀ (rest done rest2 done2 : List Int), done.length = done2.length → rest.length = rest2.length → (done ++ rest).length ≤ 1048576 → Ev (fun k => spec_l1Same.l0 k (done ++ rest) (done2 ++ rest2) ((done ++ rest).length : Int) (done.length : Int)) (decide (rest = rest2)) := by
  intro rest
  induction rest with
  | nil =>
    intro done rest2 done2 hl hl2 h
    obtain rfl : rest2 = [] := by simpa using hl2.symm
    exact Ev.step (fun k => by simp [spec_l1Same.l0]; rfl) (Ev.some (by simp))
  | cons x rest ih =>
    intro done rest2 done2 hl hl2 h
    obtain ⟨y, rest2, rfl⟩ : ∃ y r, rest2 = y :: r := by cases rest2 with | nil => simp at hl2 | cons y r => exact ⟨y, r, rfl⟩
    have ih' := ih (done ++ [x]) rest2 (done2 ++ [y]) (by simp [hl]) (by simpa using hl2) (by simpa using h)
    rw [show done ++ [x] ++ rest = done ++ x :: rest by simp, show done2 ++ [y] ++ rest2 = done2 ++ y :: rest2 by simp] at ih'
    have hlen : (done ++ x :: rest).length = done.length + 1 + rest.length := by simp; omega
    have hlen2 : (done2 ++ y :: rest2).length = done2.length + 1 + rest2.length := by simp; omega
    have q1 : (done.length : Int) < ((done ++ x :: rest).length : Int) := by omega
    have q2 : 0 ≤ (done.length : Int) := by omega
    have q3 : (done.length : Int) < ((done2 ++ y :: rest2).length : Int) := by omega
    have z1 : rd (done ++ x :: rest) (done.length : Int) = x := by simp [rd]
    have z2 : rd (done2 ++ y :: rest2) (done.length : Int) = y := by rw [hl]; simp [rd]
    refine Ev.step (fun k => by rw [spec_l1Same.l0]) ?_
    simp only [if_pos q1, if_pos q2, if_pos q3, z1, z2, wrap_nat done.length (by omega)]
    refine Ev.ite (fun he => ?_) (fun he => ?_)
    · subst he
      have e2 : ((done ++ [x]).length : Int) = ((done.length + 1 : Nat) : Int) := by simp
      rw [e2] at ih'
      exact Ev.pair ih' (by simp)
    · exact Ev.some (by simp [he])
theorem l1Same_f (a b : List Int) (h : a.length ≤ 1048576) : Ev (fun k => spec_l1Same.f k a b) (decide (a = b)) := by
  unfold spec_l1Same.f
  refine Ev.ite (fun hl => ?_) (fun hl => ?_)
  · exact l1Same_l0 a [] b [] rfl (by omega) (by simpa using h)
  · exact Ev.some (by rw [decide_eq_false]; intro e; subst e; exact hl rfl)
theorem slEq_l0 : ∀ (k : Nat) (a b : List Int) (n i : Int), slices_Equal_int_int.l0 k a b n i = spec_l1Same.l0 k a b n i
  | 0, _, _, _, _ => rfl
  | k + 1, a, b, n, i => by rw [slices_Equal_int_int.l0, spec_l1Same.l0, slEq_l0 k]
theorem slEq_f (a b : List Int) (h : a.length ≤ 1048576) : Ev (fun k => slices_Equal_int_int.f k a b) (decide (a = b)) :=
  Ev.congr (fun k => by unfold slices_Equal_int_int.f spec_l1Same.f; rw [slEq_l0]) (l1Same_f a b h)
theorem sum_sumR (l : List Int) : ∀ k, k ≤ l.length → (l.take k).sum = sumR k (fun j => rd l (j : Int))
  | 0, _ => by simp [sumR]
  | k + 1, h => by
    rw [List.take_succ_eq_append_getElem (by omega), List.sum_append, sum_sumR l k (by omega)]
    simp only [sumR]
    rw [rdI_at (by omega)]; simp
theorem row_sumR (l : List Int) : l.sum = sumR l.length (fun j => rd l (j : Int)) := by
  have := sum_sumR l l.length (Nat.le_refl _)
  rwa [List.take_length] at this
theorem col_sumR (l : List (List Int)) (j : Nat) : ∀ i, (colI l j i).sum = sumR i (fun i => at2 l i j)
  | 0 => by simp [colI, sumR]
  | i + 1 => by rw [colI_succ, List.sum_append, col_sumR l j i]; simp [sumR]; rfl
theorem grid_shape {l : List (List Int)} (hg : gridB l = true) : Shape l.length (rd_L1 l 0).length l := by
  obtain ⟨g1, g2, g3, g4, g5⟩ := grid_get hg
  refine ⟨rfl, grid_rowN hg, fun i j hi hj => ?_⟩
  have h := g5 _ (rowN_mem hi)
  unfold at2
  rw [rdN_at (show j < (rowN l i).length by rw [h.1]; exact hj)]
  exact h.2 _ (List.getElem_mem _)
theorem alike_inv {l0 l1 : List (List Int)} (h0 : gridB l0 = true) (h1 : gridB l1 = true) (e1 : (gSums l0).1 = (gSums l1).1) (e2 : (gSums l0).2 = (gSums l1).2) : PInv l0.length (rd_L1 l0 0).length 0 ⟨l0, l1, [], []⟩ := by
  have en : l0.length = l1.length := by have := congrArg List.length e1; simpa [gSums] using this
  have em : (rd_L1 l0 0).length = (rd_L1 l1 0).length := by have := congrArg List.length e2; simpa [gSums, colsI_length] using this
  have s0 := grid_shape h0
  have s1 := grid_shape h1
  refine ⟨s0, by rw [en, em]; exact s1, fun i hi => ?_, fun j hj => ?_, fun i j hi hj => by omega⟩
  · have q : (l0.map List.sum)[i]? = (l1.map List.sum)[i]? := by have e : l0.map List.sum = l1.map List.sum := e1; rw [e]
    rw [List.getElem?_map, List.getElem?_map, List.getElem?_eq_getElem hi, List.getElem?_eq_getElem (show i < l1.length by omega)] at q
    simp only [Option.map_some, Option.some.injEq] at q
    rw [← rowN_at hi, ← rowN_at (show i < l1.length by omega), row_sumR, row_sumR, s0.2.1 i hi, s1.2.1 i (by omega), ← em] at q
    exact q
  · have q : ((colsI l0 (rd_L1 l0 0).length l0.length).map List.sum)[j]? = ((colsI l1 (rd_L1 l1 0).length l1.length).map List.sum)[j]? := by have e : (colsI l0 (rd_L1 l0 0).length l0.length).map List.sum = (colsI l1 (rd_L1 l1 0).length l1.length).map List.sum := e2; rw [e]
    unfold colsI at q
    rw [← em, ← en] at q
    simp only [List.getElem?_map, List.getElem?_range hj, Option.map_some, Option.some.injEq] at q
    rw [col_sumR, col_sumR] at q
    exact q
def alikeP (l0 l1 : List (List Int)) : Prop := gridB l0 = true ∧ gridB l1 = true ∧ (gSums l0).1 = (gSums l1).1 ∧ (gSums l0).2 = (gSums l1).2
instance (l0 l1 : List (List Int)) : Decidable (alikeP l0 l1) := by unfold alikeP; infer_instance
def gpG (l0 l1 : List (List Int)) : GP := gpAll l0.length (rd_L1 l0 0).length 0 (rd_L1 l0 0).length ⟨l0, l1, [], []⟩
def gpRes (l0 l1 : List (List Int)) : List S41 × Bool := if alikeP l0 l1 then ((gpG l0 l1).fst ++ (gpG l0 l1).snd, true) else ([], false)
theorem impl_no {l0 l1 : List (List Int)} (h : ¬ alikeP l0 l1) : Ev (fun k => impl_GridPath.j0 k l0 l1 true) (gpRes l0 l1) := by
  unfold gpRes; rw [if_neg h]
  exact Ev.step (fun k => by rw [impl_GridPath.j0, if_pos rfl]) (Ev.now _)
theorem spec_no {l0 l1 : List (List Int)} (h : ¬ alikeP l0 l1) : Ev (fun k => spec_GridPath.j0 k l0 l1 true) (gpRes l0 l1) := by
  unfold gpRes; rw [if_neg h]
  exact Ev.step (fun k => by rw [spec_GridPath.j0, if_pos rfl]) (Ev.now _)
theorem both_yes {l0 l1 : List (List Int)} (h : alikeP l0 l1) : Ev (fun k => impl_GridPath.j0 k l0 l1 false) (gpRes l0 l1) ∧ Ev (fun k => spec_GridPath.j0 k l0 l1 false) (gpRes l0 l1) := by
  obtain ⟨a0, a1, e1, e2⟩ := id h
  obtain ⟨g1, g2, g3, g4, g5⟩ := grid_get a0
  obtain ⟨h1, h2⟩ := implAll (n := l0.length) (m := (rd_L1 l0 0).length) (by omega) (by omega) (rd_L1 l0 0).length 0 ⟨l0, l1, [], []⟩ (by omega) (alike_inv a0 a1 e1 e2) (by simp)
  unfold gpRes; rw [if_pos h]
  have q : 0 < (l0.length : Int) := by omega
  exact ⟨Ev.step (fun k => by rw [impl_GridPath.j0, if_neg (by simp), if_pos q]; rfl) h1, Ev.step (fun k => by rw [spec_GridPath.j0, if_neg (by simp), if_pos q]; rfl) h2⟩
theorem impl_GridPath_f {l0 l1 : List (List Int)} (h0 : l0.length ≤ 1048576 ∧ ∀ r ∈ l0, r.length ≤ 1048576) (h1 : l1.length ≤ 1048576 ∧ ∀ r ∈ l1, r.length ≤ 1048576) : Ev (fun k => impl_GridPath.f k l0 l1) (gpRes l0 l1) := by
  have b0 : l0.length ≤ BM := by have := h0.1; simp only [BM]; omega
  have b1 : l1.length ≤ BM := by have := h1.1; simp only [BM]; omega
  have c0 : ∀ r ∈ l0, r.length ≤ BM := fun x hx => by have := h0.2 x hx; simp only [BM]; omega
  have c1 : ∀ r ∈ l1, r.length ≤ BM := fun x hx => by have := h1.2 x hx; simp only [BM]; omega
  unfold impl_GridPath.f
  simp only [IsGrid_f l0 b0 c0, IsGrid_f l1 b1 c1, Option.bind_some]
  refine Ev.ite (fun a0 => Ev.ite (fun a1 => ?_) (fun a1 => impl_no (fun h => a1 h.2.1))) (fun a0 => impl_no (fun h => a0 h.1))
  have G0 := grid_get a0
  have G1 := grid_get a1
  refine Ev.bind (rowSums_f (by omega) (grid_fair a0)) (Ev.bind (rowSums_f (by omega) (grid_fair a1)) (Ev.bind (slEq_f _ _ (by rw [List.length_map]; omega)) (Ev.ite (fun e1 => ?_) (fun e1 => impl_no (fun h => e1 (decide_eq_true h.2.2.1))))))
  refine Ev.bind (turnI_f a0 b0 c0) (Ev.bind (rowSums_f (by rw [colsI_length]; omega) (colsI_fair a0)) (Ev.bind (turnI_f a1 b1 c1) (Ev.bind (rowSums_f (by rw [colsI_length]; omega) (colsI_fair a1)) (Ev.bind (slEq_f _ _ (by rw [List.length_map, colsI_length]; omega)) ?_))))
  by_cases e2 : (gSums l0).2 = (gSums l1).2
  · have e3 : decide (List.map List.sum (colsI l0 (rd_L1 l0 0).length l0.length) = List.map List.sum (colsI l1 (rd_L1 l1 0).length l1.length)) = true := decide_eq_true e2
    rw [e3]
    exact (both_yes ⟨a0, a1, of_decide_eq_true e1, e2⟩).1
  · have e3 : decide (List.map List.sum (colsI l0 (rd_L1 l0 0).length l0.length) = List.map List.sum (colsI l1 (rd_L1 l1 0).length l1.length)) = false := decide_eq_false e2
    rw [e3]
    exact impl_no (fun h => e2 h.2.2.2)
theorem spec_GridPath_f {l0 l1 : List (List Int)} (h0 : l0.length ≤ 1048576 ∧ ∀ r ∈ l0, r.length ≤ 1048576) (h1 : l1.length ≤ 1048576 ∧ ∀ r ∈ l1, r.length ≤ 1048576) : Ev (fun k => spec_GridPath.f k l0 l1) (gpRes l0 l1) := by
  have b0 : l0.length ≤ BM := by have := h0.1; simp only [BM]; omega
  have b1 : l1.length ≤ BM := by have := h1.1; simp only [BM]; omega
  have c0 : ∀ r ∈ l0, r.length ≤ BM := fun x hx => by have := h0.2 x hx; simp only [BM]; omega
  have c1 : ∀ r ∈ l1, r.length ≤ BM := fun x hx => by have := h1.2 x hx; simp only [BM]; omega
  unfold spec_GridPath.f
  refine Ev.bind (maGrid_f l0 b0 c0) (Ev.ite (fun a0 => Ev.bind (maGrid_f l1 b1 c1) (Ev.ite (fun a1 => ?_) (fun a1 => spec_no (fun h => a1 h.2.1)))) (fun a0 => spec_no (fun h => a0 h.1)))
  have G0 := grid_get a0
  have G1 := grid_get a1
  have hA : Ev (fun k => spec_maAlike.f k l0 l1) (decide (alikeP l0 l1)) := by
    unfold spec_maAlike.f
    refine Ev.bind (maSums_f a0) (Ev.bind (maSums_f a1) (Ev.bind (l1Same_f _ _ (by simp [gSums]; omega)) (Ev.ite (fun e1 => ?_) (fun e1 => ?_))))
    · refine Ev.bind (l1Same_f _ _ (by simp [gSums, colsI_length]; omega)) (Ev.some ?_)
      by_cases e2 : (gSums l0).2 = (gSums l1).2
      · rw [decide_eq_true e2, decide_eq_true]; exact ⟨a0, a1, of_decide_eq_true e1, e2⟩
      · rw [decide_eq_false e2, decide_eq_false]; exact fun h => e2 h.2.2.2
    · exact Ev.some (decide_eq_false (fun h => e1 (decide_eq_true h.2.2.1))).symm
  refine Ev.bind hA ?_
  by_cases h : alikeP l0 l1
  · rw [decide_eq_true h]; exact (both_yes h).2
  · rw [decide_eq_false h]; exact spec_no h
end Go.Proofs.Ytojcnapdalpnmaa.K
namespace Go.Proofs.Ytojcnapdalpnmaa.K
open Go.RowKit Go.Proofs.YtojcnapdalpnmaaW.PrintWords Go.Proofs.Ytojcnapdalpnmaa.P
theorem contLoop {σ α : Type} (g : σ → Nat → Nat → Option α) (n : Nat) (f : σ → Nat → σ) (I : σ → Nat → Prop)
    (hs : ∀ s j, j < n → I s j → I (f s j) (j + 1) ∧ ∀ x, Ev (g (f s j) (j + 1)) x → Ev (g s j) x) : ∀ d s j, j + d = n → I s j → I ((List.range' j d).foldl f s) n ∧ ∀ x, Ev (g ((List.range' j d).foldl f s) n) x → Ev (g s j) x := by
  intro d
  induction d with
  | zero =>
    intro s j hj hi
    obtain rfl : j = n := by omega
    exact ⟨hi, fun x h => h⟩
  | succ d ih =>
    intro s j hj hi
    obtain ⟨h1, h2⟩ := hs s j (by omega) hi
    obtain ⟨h3, h4⟩ := ih _ _ (by omega) h1
    rw [List.range'_succ, List.foldl_cons]
    exact ⟨h3, fun x h => h2 x (h4 x h)⟩
def sw3 {S : Type} (p : Nat → Nat → Nat → Nat → Bool) (mk : Nat → Nat → Nat → Nat → S) (n i k c : Nat) (s : List S) : List S := (List.range' (c + 1) (n - (c + 1))).foldl (fun s d => if p i k c d then s ++ [mk i k c d] else s) s
def sw2 {S : Type} (p : Nat → Nat → Nat → Nat → Bool) (mk : Nat → Nat → Nat → Nat → S) (n i k : Nat) (s : List S) : List S := (List.range' 0 n).foldl (fun s c => sw3 p mk n i k c s) s
def sw1 {S : Type} (p : Nat → Nat → Nat → Nat → Bool) (mk : Nat → Nat → Nat → Nat → S) (m n i : Nat) (s : List S) : List S := (List.range' (i + 1) (m - (i + 1))).foldl (fun s k => sw2 p mk n i k s) s
def sw0 {S : Type} (p : Nat → Nat → Nat → Nat → Bool) (mk : Nat → Nat → Nat → Nat → S) (m n : Nat) : List S := (List.range' 0 m).foldl (fun s i => sw1 p mk m n i s) []
def isSw (l : List (List Int)) (i k c d : Nat) : Bool :=
  let g := fun (a b : Nat) => rd (rd_L1 l (a : Int)) (b : Int)
  decide (g i c = g k d) && decide (g i d = g k c) && decide (g i c ≠ g i d)
theorem maIs_f {l : List (List Int)} (hg : gridB l = true) {i k c d : Nat} (h1 : i < k) (h2 : k < l.length) (h3 : c < d) (h4 : d < (rd_L1 l 0).length) : spec_maIs.f l i k c d = some (isSw l i k c d) := by
  unfold spec_maIs.f
  rw [if_pos hg]
  have e : swIn l i k c d = true := by simp only [swIn, decide_eq_true_eq]; omega
  simp only [swB, e, Bool.true_and, swAt, isSw]
def mkSw (i k c d : Nat) : S41 := ⟨i, k, c, d⟩
def sws (l : List (List Int)) : List S41 := sw0 (isSw l) mkSw l.length (rd_L1 l 0).length
theorem maSwitches_f {l : List (List Int)} (hg : gridB l = true) : Ev (fun k => spec_maSwitches.f k l) (sws l) := by
  obtain ⟨g1, g2, g3, g4, -⟩ := grid_get hg
  have p0 : 0 < (l.length : Int) := by omega
  unfold spec_maSwitches.f
  have L3 : ∀ (i k c : Nat) (B : Nat) (x25 : Int), i < k → k < l.length → c < (rd_L1 l 0).length → B ≤ 4096 → ∀ s : List S41, s.length ≤ B → (sw3 (isSw l) mkSw (rd_L1 l 0).length i k c s).length ≤ B + 6 ∧ ∀ x, Ev (fun n => spec_maSwitches.l2 n l (sw3 (isSw l) mkSw (rd_L1 l 0).length i k c s) i k (l.length : Int) i x25 ((c + 1 : Nat) : Int)) x → Ev (fun n => spec_maSwitches.l3 n l s i k c ((c + 1 : Nat) : Int) (l.length : Int) i x25 c) x := by
    intro i k c B x25 hik hk hc hB s hs
    obtain ⟨h1, h2⟩ := contLoop (fun s j n => spec_maSwitches.l3 n l s i k c (j : Int) (l.length : Int) i x25 c) (rd_L1 l 0).length (fun s d => if isSw l i k c d then s ++ [mkSw i k c d] else s) (fun s j => s.length ≤ B + j ∧ c < j)
      (fun s j hj hi => by
        have q : (j : Int) < ((rd_L1 l 0).length : Int) := by omega
        have hi' : s.length ≤ B + j := hi.1
        have hj' : c < j := hi.2
        refine ⟨⟨by split <;> (first | (simp only [List.length_append, List.length_cons, List.length_nil]; omega) | omega), by omega⟩, fun x hx => Ev.step (fun n => by rw [spec_maSwitches.l3]) ?_⟩
        simp only [if_pos p0, if_pos q, maIs_f hg hik hk hi.2 hj, Option.bind_some, wrap_nat j (by omega)]
        cases hb : isSw l i k c j with
        | true =>
          have q2 : s.length < 4398046511104 := by omega
          simp only [hb, if_true] at hx
          simpa only [if_true, if_pos q2, mkSw] using hx
        | false =>
          simp only [hb, Bool.false_eq_true, if_false] at hx
          simpa only [Bool.false_eq_true, if_false] using hx) ((rd_L1 l 0).length - (c + 1)) s (c + 1) (by omega) ⟨by omega, by omega⟩
    refine ⟨by have := h1.1; unfold sw3; omega, fun x hx => h2 x (Ev.step (fun n => by rw [spec_maSwitches.l3]) ?_)⟩
    have q : ¬ ((rd_L1 l 0).length : Int) < ((rd_L1 l 0).length : Int) := by omega
    simp only [if_pos p0, if_neg q, wrap_nat c (by omega)]
    exact hx
  have L2 : ∀ (i k : Nat) (B : Nat), i < k → k < l.length → B ≤ 2048 → ∀ s : List S41, s.length ≤ B → (sw2 (isSw l) mkSw (rd_L1 l 0).length i k s).length ≤ B + 36 ∧ ∀ x, Ev (fun n => spec_maSwitches.l1 n l (sw2 (isSw l) mkSw (rd_L1 l 0).length i k s) i ((k + 1 : Nat) : Int) (l.length : Int) i) x → Ev (fun n => spec_maSwitches.l1 n l s i k (l.length : Int) i) x := by
    intro i k B hik hk hB s hs
    obtain ⟨h1, h2⟩ := contLoop (fun s j n => spec_maSwitches.l2 n l s i k (l.length : Int) i ((rd_L1 l 0).length : Int) (j : Int)) (rd_L1 l 0).length (fun s c => sw3 (isSw l) mkSw (rd_L1 l 0).length i k c s) (fun s j => s.length ≤ B + 6 * j)
      (fun s j hj hi => by
        have q : (j : Int) < ((rd_L1 l 0).length : Int) := by omega
        obtain ⟨h3, h4⟩ := L3 i k j (B + 6 * j) ((rd_L1 l 0).length : Int) hik hk hj (by omega) s hi
        refine ⟨by omega, fun x hx => Ev.step (fun n => by rw [spec_maSwitches.l2]) ?_⟩
        simp only [if_pos q, wrap_nat j (by omega)]
        exact h4 x hx) (rd_L1 l 0).length s 0 (by omega) (by omega)
    refine ⟨by unfold sw2; omega, fun x hx => Ev.step (fun n => by rw [spec_maSwitches.l1]) ?_⟩
    have q : (k : Int) < (l.length : Int) := by omega
    simp only [if_pos p0, if_pos q]
    refine h2 x (Ev.step (fun n => by rw [spec_maSwitches.l2]) ?_)
    have q : ¬ ((rd_L1 l 0).length : Int) < ((rd_L1 l 0).length : Int) := by omega
    simp only [if_neg q, wrap_nat k (by omega)]
    exact hx
  have L1 : ∀ (i : Nat) (B : Nat), i < l.length → B ≤ 1500 → ∀ s : List S41, s.length ≤ B → (sw1 (isSw l) mkSw l.length (rd_L1 l 0).length i s).length ≤ B + 216 ∧ ∀ x, Ev (fun n => spec_maSwitches.l0 n l (sw1 (isSw l) mkSw l.length (rd_L1 l 0).length i s) (l.length : Int) ((i + 1 : Nat) : Int)) x → Ev (fun n => spec_maSwitches.l0 n l s (l.length : Int) i) x := by
    intro i B hik hB s hs
    obtain ⟨h1, h2⟩ := contLoop (fun s j n => spec_maSwitches.l1 n l s i (j : Int) (l.length : Int) i) l.length (fun s k => sw2 (isSw l) mkSw (rd_L1 l 0).length i k s) (fun s j => s.length ≤ B + 36 * j ∧ i < j)
      (fun s j hj hi => by
        obtain ⟨h3, h4⟩ := L2 i j (B + 36 * j) hi.2 hj (by omega) s hi.1
        exact ⟨⟨by omega, by omega⟩, h4⟩) (l.length - (i + 1)) s (i + 1) (by omega) ⟨by omega, by omega⟩
    refine ⟨by have := h1.1; unfold sw1; omega, fun x hx => Ev.step (fun n => by rw [spec_maSwitches.l0]) ?_⟩
    have q : (i : Int) < (l.length : Int) := by omega
    simp only [if_pos q, wrap_nat i (by omega)]
    refine h2 x (Ev.step (fun n => by rw [spec_maSwitches.l1]) ?_)
    have q : ¬ (l.length : Int) < (l.length : Int) := by omega
    simp only [if_neg q, wrap_nat i (by omega)]
    exact hx
  obtain ⟨h1, h2⟩ := contLoop (fun s j n => spec_maSwitches.l0 n l s (l.length : Int) (j : Int)) l.length (fun s i => sw1 (isSw l) mkSw l.length (rd_L1 l 0).length i s) (fun s j => s.length ≤ 216 * j)
    (fun s j hj hi => by
      obtain ⟨h3, h4⟩ := L1 j (216 * j) hj (by omega) s hi
      exact ⟨by omega, h4⟩) l.length [] 0 (by omega) (by simp)
  refine h2 _ (Ev.step (fun n => by rw [spec_maSwitches.l0]) ?_)
  have q : ¬ (l.length : Int) < (l.length : Int) := by omega
  simp only [if_neg q]
  exact Ev.now _
theorem fold_le {S : Type} (f : List S → Nat → List S) (c : Nat) : ∀ (L : List Nat) (s : List S), (∀ s, ∀ j ∈ L, (f s j).length ≤ s.length + c) → (L.foldl f s).length ≤ s.length + c * L.length
  | [], s, _ => by simp
  | j :: L, s, h => by
    have h1 := h s j (by simp)
    have h2 := fold_le f c L (f s j) (fun s j hj => h s j (by simp [hj]))
    simp only [List.foldl_cons, List.length_cons, Nat.mul_add, Nat.mul_one]
    omega
theorem sws_le {l : List (List Int)} (hg : gridB l = true) : (sws l).length ≤ 1296 := by
  obtain ⟨g1, g2, g3, g4, g5⟩ := grid_get hg
  generalize hn : (rd_L1 l 0).length = n at *
  have L3 : ∀ i k c (s : List S41), (sw3 (isSw l) mkSw n i k c s).length ≤ s.length + 6 := fun i k c s => by
    have := fold_le (fun s d => if isSw l i k c d then s ++ [mkSw i k c d] else s) 1 (List.range' (c + 1) (n - (c + 1))) s (fun s j _ => by split <;> simp)
    unfold sw3; simp only [List.length_range', Nat.one_mul] at this; omega
  have L2 : ∀ i k (s : List S41), (sw2 (isSw l) mkSw n i k s).length ≤ s.length + 36 := fun i k s => by
    have := fold_le (fun s c => sw3 (isSw l) mkSw n i k c s) 6 (List.range' 0 n) s (fun s j _ => L3 i k j s)
    unfold sw2; simp only [List.length_range'] at this; omega
  have L1 : ∀ i (s : List S41), (sw1 (isSw l) mkSw l.length n i s).length ≤ s.length + 216 := fun i s => by
    have := fold_le (fun s k => sw2 (isSw l) mkSw n i k s) 36 (List.range' (i + 1) (l.length - (i + 1))) s (fun s j _ => L2 i j s)
    unfold sw1; simp only [List.length_range'] at this; omega
  have := fold_le (fun s i => sw1 (isSw l) mkSw l.length n i s) 216 (List.range' 0 l.length) [] (fun s j _ => L1 j s)
  unfold sws sw0; rw [hn]; simp only [List.length_range', List.length_nil] at this; omega
theorem swIn_nat {l : List (List Int)} {r o c b : Int} (h : swIn l r o c b = true) : ∃ r' o' c' b' : Nat, r = r' ∧ o = o' ∧ c = c' ∧ b = b' ∧ r' < o' ∧ o' < l.length ∧ c' < b' ∧ b' < (rd_L1 l 0).length := by
  simp only [swIn, decide_eq_true_eq] at h
  obtain ⟨s1, s2, s3, s4, s5, s6⟩ := h
  exact ⟨r.toNat, o.toNat, c.toNat, b.toNat, by omega, by omega, by omega, by omega, by omega, by omega, by omega, by omega⟩
theorem impl_DoSwitch_f {l : List (List Int)} (r o c b : Int) (h0 : l.length ≤ 1048576 ∧ ∀ x ∈ l, x.length ≤ 1048576) : impl_DoSwitch.f l r o c b = some (if gridB l = true ∧ swB l r o c b = true then (mapRows (swNum r o c b) 0 l, true) else ([], false)) := by
  have h4 : l.length ≤ BM := by have := h0.1; simp only [BM]; omega
  have h5 : ∀ r ∈ l, r.length ≤ BM := fun x hx => by have := h0.2 x hx; simp only [BM]; omega
  unfold impl_DoSwitch.f impl_switched.f
  simp only [IsGrid_f l h4 h5, Option.bind_some]
  by_cases hg : gridB l = true
  · have hs : impl_isSwitch.f l r o c b = some (swB l r o c b) := by unfold impl_isSwitch.f; rw [if_pos hg]
    rw [if_pos hg, hs, Option.bind_some, if_pos h0, Option.bind_some]
    by_cases hb : swB l r o c b = true
    · rw [if_pos hb, if_pos ⟨hg, hb⟩]
    · rw [if_neg hb, if_neg (fun h => hb h.2)]
  · rw [if_neg hg, if_neg (fun h => hg h.1)]
end Go.Proofs.Ytojcnapdalpnmaa.K
namespace Go.Proofs.Ytojcnapdalpnmaa.K
open Go.RowKit Go.Proofs.YtojcnapdalpnmaaW.PrintWords Go.Proofs.YtojcnapdalpnmaaW.PrintMore Go.Proofs.Ytojcnapdalpnmaa.P
theorem fold_mem {S : Type} (f : List S → Nat → List S) (Q : Nat → S → Prop) (h : ∀ s d x, x ∈ f s d ↔ x ∈ s ∨ Q d x) : ∀ (L : List Nat) (s : List S) (x : S), x ∈ L.foldl f s ↔ x ∈ s ∨ ∃ d ∈ L, Q d x
  | [], s, x => by simp
  | a :: L, s, x => by
    rw [List.foldl_cons, fold_mem f Q h L, h]
    simp only [List.mem_cons, exists_eq_or_imp]
    exact or_assoc
section
variable {S : Type} (p : Nat → Nat → Nat → Nat → Bool) (mk : Nat → Nat → Nat → Nat → S)
theorem sw3_mem (n i k c : Nat) (s : List S) (x : S) : x ∈ sw3 p mk n i k c s ↔ x ∈ s ∨ ∃ d, c < d ∧ d < n ∧ p i k c d = true ∧ x = mk i k c d := by
  unfold sw3
  rw [fold_mem _ (fun d x => p i k c d = true ∧ x = mk i k c d) (fun s d x => by by_cases h : p i k c d = true <;> simp [h])]
  refine or_congr Iff.rfl ⟨fun ⟨d, h1, h2, h3⟩ => ⟨d, ?_, ?_, h2, h3⟩, fun ⟨d, h1, h2, h3, h4⟩ => ⟨d, ?_, h3, h4⟩⟩
  · have := List.mem_range'_1.1 h1; omega
  · have := List.mem_range'_1.1 h1; omega
  · exact List.mem_range'_1.2 (by omega)
theorem sw2_mem (n i k : Nat) (s : List S) (x : S) : x ∈ sw2 p mk n i k s ↔ x ∈ s ∨ ∃ c d, c < d ∧ d < n ∧ p i k c d = true ∧ x = mk i k c d := by
  unfold sw2
  rw [fold_mem _ (fun c x => ∃ d, c < d ∧ d < n ∧ p i k c d = true ∧ x = mk i k c d) (fun s c x => sw3_mem p mk n i k c s x)]
  refine or_congr Iff.rfl ⟨fun ⟨c, h1, d, h2⟩ => ⟨c, d, h2⟩, fun ⟨c, d, h2⟩ => ⟨c, List.mem_range'_1.2 (by omega), d, h2⟩⟩
theorem sw1_mem (m n i : Nat) (s : List S) (x : S) : x ∈ sw1 p mk m n i s ↔ x ∈ s ∨ ∃ k c d, i < k ∧ k < m ∧ c < d ∧ d < n ∧ p i k c d = true ∧ x = mk i k c d := by
  unfold sw1
  rw [fold_mem _ (fun k x => ∃ c d, c < d ∧ d < n ∧ p i k c d = true ∧ x = mk i k c d) (fun s k x => sw2_mem p mk n i k s x)]
  refine or_congr Iff.rfl ⟨fun ⟨k, h1, c, d, h2⟩ => ⟨k, c, d, ?_, ?_, h2⟩, fun ⟨k, c, d, h0, h1, h2⟩ => ⟨k, List.mem_range'_1.2 (by omega), c, d, h2⟩⟩
  · have := List.mem_range'_1.1 h1; omega
  · have := List.mem_range'_1.1 h1; omega
theorem sw0_mem (m n : Nat) (x : S) : x ∈ sw0 p mk m n ↔ ∃ i k c d, i < k ∧ k < m ∧ c < d ∧ d < n ∧ p i k c d = true ∧ x = mk i k c d := by
  unfold sw0
  rw [fold_mem _ (fun i x => ∃ k c d, i < k ∧ k < m ∧ c < d ∧ d < n ∧ p i k c d = true ∧ x = mk i k c d) (fun s i x => sw1_mem p mk m n i s x)]
  simp only [List.not_mem_nil, false_or]
  refine ⟨fun ⟨i, h1, k, c, d, h2⟩ => ⟨i, k, c, d, h2⟩, fun ⟨i, k, c, d, h2⟩ => ⟨i, List.mem_range'_1.2 (by omega), k, c, d, h2⟩⟩
end
theorem sws_mem {l : List (List Int)} {x : S41} : x ∈ sws l ↔ ∃ i k c d, i < k ∧ k < l.length ∧ c < d ∧ d < (rd_L1 l 0).length ∧ isSw l i k c d = true ∧ x = mkSw i k c d := sw0_mem _ _ _ _ _
theorem swB_nat {l : List (List Int)} {r o c b : Int} : swB l r o c b = true ↔ ∃ r' o' c' b' : Nat, r = r' ∧ o = o' ∧ c = c' ∧ b = b' ∧ r' < o' ∧ o' < l.length ∧ c' < b' ∧ b' < (rd_L1 l 0).length ∧ isSw l r' o' c' b' = true := by
  constructor
  · intro h
    simp only [swB, Bool.and_eq_true] at h
    obtain ⟨r', o', c', b', rfl, rfl, rfl, rfl, q⟩ := swIn_nat h.1
    exact ⟨r', o', c', b', rfl, rfl, rfl, rfl, q.1, q.2.1, q.2.2.1, q.2.2.2, by have := h.2; simpa only [swAt, isSw] using this⟩
  · rintro ⟨r', o', c', b', rfl, rfl, rfl, rfl, q1, q2, q3, q4, q5⟩
    have e : swIn l r' o' c' b' = true := by simp only [swIn, decide_eq_true_eq]; omega
    simp only [swB, e, Bool.true_and]
    simpa only [swAt, isSw] using q5
theorem isSw_at {l : List (List Int)} {i k c d : Nat} : isSw l i k c d = true ↔ at2 l i c = at2 l k d ∧ at2 l i d = at2 l k c ∧ at2 l i c ≠ at2 l i d := by
  simp only [isSw, Bool.and_eq_true, decide_eq_true_eq, and_assoc]; exact Iff.rfl
theorem shape_grid {n m : Nat} {t : List (List Int)} (h : Shape n m t) (hn : 1 ≤ n ∧ n ≤ 6) (hm : 1 ≤ m ∧ m ≤ 6) : gridB t = true := by
  obtain ⟨h1, h2, h3⟩ := h
  have e0 : (rd_L1 t 0).length = m := h2 0 (by omega)
  have hr : t.any (rowBad m) = false := by
    rw [List.any_eq_false]
    intro r hr
    obtain ⟨i, hi, rfl⟩ := List.getElem_of_mem hr
    have e1 := h2 i (by omega)
    rw [rowN_at hi] at e1
    simp only [rowBad, Bool.or_eq_true, Bool.not_eq_true', not_or, Bool.not_eq_false, decide_eq_true_eq, within, List.all_eq_true, Bool.and_eq_true]
    refine ⟨by simpa using e1, fun x hx => ?_⟩
    obtain ⟨j, hj, rfl⟩ := List.getElem_of_mem hx
    have := h3 i j (by omega) (by omega)
    unfold at2 at this
    rw [rowN_at hi, rdN_at hj] at this
    omega
  unfold gridB
  rw [e0, hr, h1]
  simp only [Bool.and_eq_true, decide_eq_true_eq, Bool.not_false]
  refine ⟨⟨hn.1, hn.2⟩, ⟨hm.1, hm.2⟩, ?_⟩
  first | trivial | rfl
theorem pSw_eq (t : List (List Int)) {r o : Nat} (h : r < o) (c b : Nat) : mapRows (swNum r o c b) 0 t = pSw t r o c b := by
  unfold pSw; rw [show min r o = r by omega, show max r o = o by omega]
theorem pSw_twice {n m : Nat} {t : List (List Int)} (h : Shape n m t) {r s c d : Nat} (hr : r < n) (hs : s < n) (hc : c < m) (hd : d < m) : pSw (pSw t r s c d) r s c d = t := by
  have h2 := pSw_shape h hr hs hc hd
  have h3 := pSw_shape h2 hr hs hc hd
  refine rows_ext (by rw [h3.1, h.1]) (fun i hi => by rw [h3.2.1 i (by rw [← h3.1]; exact hi), h.2.1 i (by rw [← h3.1]; exact hi)]) (fun i j hi hj => ?_)
  have hi' : i < n := by rw [← h3.1]; exact hi
  have hj' : j < m := by rw [← h3.2.1 i hi']; exact hj
  rw [pSw_at h2 hr hs hc hd i j hi' hj', pSw_at h hr hs hc hd i j hi' hj']
  split <;> omega
theorem upLoop {α : Type} (g : Nat → Nat → Option α) (n : Nat) (hs : ∀ j, j < n → ∀ x, Ev (g (j + 1)) x → Ev (g j) x) : ∀ d j, j + d = n → ∀ x, Ev (g n) x → Ev (g j) x
  | 0, j, h, x, hx => by obtain rfl : j = n := by omega
                         exact hx
  | d + 1, j, h, x, hx => hs j (by omega) x (upLoop g n hs d (j + 1) (by omega) x hx)
def dif (t u : List (List Int)) (i j : Nat) : Int := if at2 u i j = at2 t i j then 0 else 1
def apartN (n m : Nat) (t u : List (List Int)) : Int := sumR n (fun i => sumR m (dif t u i))
theorem sumR_01 : ∀ {n : Nat} {f : Nat → Int} {c : Int}, (∀ i, i < n → 0 ≤ f i ∧ f i ≤ c) → 0 ≤ c → 0 ≤ sumR n f ∧ sumR n f ≤ c * n
  | 0, f, c, _, hc => by simp [sumR]
  | n + 1, f, c, h, hc => by
    have h1 := sumR_01 (fun i hi => h i (by omega)) hc (n := n) (f := f)
    have h2 := h n (by omega)
    simp only [sumR]
    rw [show ((n + 1 : Nat) : Int) = (n : Int) + 1 from rfl, Int.mul_add]
    omega
theorem dif_01 (t u : List (List Int)) (i j : Nat) : 0 ≤ dif t u i j ∧ dif t u i j ≤ 1 := by unfold dif; split <;> omega
theorem GridsApart_f {n m : Nat} {t u : List (List Int)} (ht : Shape n m t) (hu : Shape n m u) (hn : 1 ≤ n ∧ n ≤ 6) (hm : 1 ≤ m ∧ m ≤ 6) : Ev (fun k => impl_GridsApart.f k t u) (apartN n m t u, true) := by
  have gt := shape_grid ht hn hm
  have gu := shape_grid hu hn hm
  have l1 := ht.1
  have l2 := hu.1
  have r1 : (rd_L1 t 0).length = m := ht.2.1 0 (by omega)
  have r2 : (rd_L1 u 0).length = m := hu.2.1 0 (by omega)
  have b : ∀ {x : List (List Int)}, Shape n m x → x.length ≤ BM ∧ ∀ r ∈ x, r.length ≤ BM := fun hx => by
    refine ⟨by have := hx.1; simp only [BM]; omega, fun r hr => ?_⟩
    obtain ⟨i, hi, rfl⟩ := List.getElem_of_mem hr
    have := hx.2.1 i (by rw [← hx.1]; exact hi)
    rw [rowN_at hi] at this
    simp only [BM]; omega
  unfold impl_GridsApart.f
  simp only [IsGrid_f t (b ht).1 (b ht).2, IsGrid_f u (b hu).1 (b hu).2, Option.bind_some]
  refine evPos gt (evPos gu (evPos (by omega) (evPos (by omega) (evPos (by omega) ?_))))
  rw [r1, r2]
  refine Ev.step (fun k => by rw [impl_GridsApart.j0]) ?_
  refine evNeg (by simp) ?_
  rw [l1]
  have row : ∀ i, i < n → ∀ C : Int, 0 ≤ C → C ≤ 1000 → ∀ x, Ev (fun k => impl_GridsApart.l0 k u (C + sumR m (dif t u i)) t (n : Int) ((i + 1 : Nat) : Int)) x → Ev (fun k => impl_GridsApart.l0 k u C t (n : Int) (i : Int)) x := by
    intro i hi C hC hC2 x hx
    have q1 : (i : Int) < (n : Int) := by omega
    have q2 : 0 ≤ (i : Int) := by omega
    have q3 : (i : Int) < (t.length : Int) := by omega
    have q4 : (i : Int) < (u.length : Int) := by omega
    have a1 : (rd_L1 t (i : Int)).length = m := ht.2.1 i hi
    have a2 : (rd_L1 u (i : Int)).length = m := hu.2.1 i hi
    refine Ev.step (fun k => by rw [impl_GridsApart.l0]) ?_
    simp only [if_pos q1, if_pos q2, if_pos q3, a1]
    have h0 : C = C + sumR 0 (dif t u i) := by simp [sumR]
    rw [h0]
    refine upLoop (fun j k => impl_GridsApart.l1 k u (C + sumR j (dif t u i)) (i : Int) t (n : Int) (i : Int) (rd_L1 t (i : Int)) (m : Int) (j : Int)) m (fun j hj y hy => ?_) m 0 (by omega) x ?_
    · have p1 : (j : Int) < (m : Int) := by omega
      have p2 : 0 ≤ (j : Int) := by omega
      have p3 : (j : Int) < ((rd_L1 t (i : Int)).length : Int) := by omega
      have p4 : (j : Int) < ((rd_L1 u (i : Int)).length : Int) := by omega
      have p5 := sumR_01 (n := j) (fun i' _ => dif_01 t u i i') (by omega)
      have z1 : rd (rd_L1 u (i : Int)) (j : Int) = at2 u i j := rfl
      have z2 : rd (rd_L1 t (i : Int)) (j : Int) = at2 t i j := rfl
      refine Ev.step (fun k => by rw [impl_GridsApart.l1]) ?_
      simp only [if_pos p1, if_pos p2, if_pos p3, if_pos q2, if_pos q4, if_pos p4, z1, z2, wrap_nat j (by omega)]
      refine Ev.ite (fun e => ?_) (fun e => ?_)
      · have : sumR (j + 1) (dif t u i) = sumR j (dif t u i) := by simp only [sumR, dif, if_pos e]; omega
        (try dsimp only at hy)
        rw [this] at hy; exact hy
      · have : wrap64 (C + sumR j (dif t u i) + 1) = C + sumR (j + 1) (dif t u i) := by
          have e9 : sumR (j + 1) (dif t u i) = sumR j (dif t u i) + 1 := by simp only [sumR, dif, if_neg e]
          rw [e9, wrap_id (by omega) (by omega)]; omega
        rw [this]; exact hy
    · refine Ev.step (fun k => by rw [impl_GridsApart.l1]) ?_
      have p1 : ¬ (m : Int) < (m : Int) := by omega
      simp only [if_neg p1, wrap_nat i (by omega)]
      exact hx
  have all := upLoop (fun i k => impl_GridsApart.l0 k u (sumR i (fun i => sumR m (dif t u i))) t (n : Int) (i : Int)) n (fun i hi y hy => ?_) n 0 (by omega) (apartN n m t u, true) ?_
  · exact all
  · have p5 := sumR_01 (n := i) (f := fun i => sumR m (dif t u i)) (c := 6) (fun i' _ => by have := sumR_01 (n := m) (fun j _ => dif_01 t u i' j) (by omega); omega) (by omega)
    exact row i hi _ p5.1 (by omega) y hy
  · refine Ev.step (fun k => by rw [impl_GridsApart.l0]) ?_
    have p1 : ¬ (n : Int) < (n : Int) := by omega
    exact evNeg p1 (Ev.now _)
theorem sumR_two {n : Nat} {f : Nat → Int} {a b : Nat} (ha : a < n) (hb : b < n) (hab : a ≠ b) (h : ∀ i, i < n → f i = if i = a then f a else if i = b then f b else 0) : sumR n f = f a + f b := by
  have e : ∀ i, i < n → f i = (fun i => if i = a then f a else (fun i => if i = b then f b else (fun _ => (0 : Int)) i) i) i := h
  have z : ∀ n : Nat, sumR n (fun _ => (0 : Int)) = 0 := fun n => by induction n with | zero => rfl | succ n ih => simp only [sumR, ih]; rfl
  rw [sumR_congr e, sumR_set n _ a _ ha, sumR_set n _ b _ hb, z]
  simp only [if_neg hab]; omega
theorem apart_pSw {n m : Nat} {t : List (List Int)} (h : Shape n m t) {r s c d : Nat} (hr : r < n) (hs : s < n) (hc : c < m) (hd : d < m) (hrs : r ≠ s) (hcd : c ≠ d) : apartN n m t (pSw t r s c d) = 4 := by
  unfold apartN
  have e0 : ∀ i j, i < n → j < m → dif t (pSw t r s c d) i j = if (i = r ∨ i = s) ∧ (j = c ∨ j = d) then 1 else 0 := fun i j hi hj => by
    unfold dif
    rw [pSw_at h hr hs hc hd i j hi hj]
    have := h.2.2 i j hi hj
    by_cases q : (i = r ∨ i = s) ∧ (j = c ∨ j = d)
    · rw [if_pos q, if_pos q, if_neg (by omega)]
    · rw [if_neg q, if_neg q, if_pos rfl]
  have er : ∀ i, i < n → sumR m (dif t (pSw t r s c d) i) = if i = r ∨ i = s then 2 else 0 := fun i hi => by
    by_cases q : i = r ∨ i = s
    · rw [if_pos q, sumR_two hc hd hcd (fun j hj => by
        rw [e0 i j hi hj, e0 i c hi hc, e0 i d hi hd]
        by_cases q1 : j = c
        · simp [q, q1]
        · by_cases q2 : j = d
          · simp [q, q1, q2]
          · simp [q1, q2])]
      rw [e0 i c hi hc, e0 i d hi hd]; simp [q]
    · rw [if_neg q]
      have z : ∀ n : Nat, sumR n (fun _ => (0 : Int)) = 0 := fun n => by induction n with | zero => rfl | succ n ih => simp only [sumR, ih]; rfl
      rw [sumR_congr (g := fun _ => 0) (fun j hj => by rw [e0 i j hi hj, if_neg (fun hh => q hh.1)]), z]
  rw [sumR_two hr hs hrs (fun i hi => by
    (try dsimp only)
    rw [er i hi, er r hr, er s hs]
    by_cases q1 : i = r
    · simp [q1]
    · by_cases q2 : i = s
      · simp [q1, q2]
      · simp [q1, q2])]
  rw [er r hr, er s hs]; simp
def Fit (t : List (List Int)) : Prop := t.length ≤ 1048576 ∧ ∀ r ∈ t, r.length ≤ 1048576
theorem Rows8.fit {t : List (List Int)} (h : Rows8 t) : Fit t := ⟨by have := h.1; omega, fun r hr => by have := (h.2 r hr).1; omega⟩
theorem Fit.bm {t : List (List Int)} (h : Fit t) : t.length ≤ BM ∧ ∀ r ∈ t, r.length ≤ BM := ⟨by have := h.1; simp only [BM]; omega, fun r hr => by have := h.2 r hr; simp only [BM]; omega⟩
theorem rdT_mem {l : List S41} {i : Int} (h0 : 0 ≤ i) (h : i < (l.length : Int)) : rd_T41 l i ∈ l := by
  unfold rd_T41
  rw [List.getD_eq_getElem?_getD, List.getElem?_eq_getElem (show i.toNat < l.length by omega)]
  exact List.getElem_mem _
theorem alike_l0 {code : List Int} (hc : Bytes code) (t : List (List Int)) (n m : Nat) (hn : 1 ≤ n ∧ n ≤ 6) (hm : 1 ≤ m ∧ m ≤ 6) : ∀ (d : Nat) (u : List (List Int)) (a s : Int), d ≤ 100 → Shape n m u → 0 ≤ a → a + 2 * d ≤ 1048576 →
    ∃ u' a' s', Ev (fun k => spec_l1Cur_alike.l0 k t u (d : Int) code a s) (t, u', a', s') ∧ Fit u' := by
  intro d
  induction d with
  | zero =>
    intro u a s hd hu h0 h1
    refine ⟨u, a, s, Ev.step (fun k => by rw [spec_l1Cur_alike.l0]) (evNeg (by omega) (Ev.now _)), ?_⟩
    exact shape_bd hu hn.2 hm.2
  | succ d ih =>
    intro u a s hd hu h0 h1
    have hw2 : wrap64 (((d + 1 : Nat) : Int) - 1) = (d : Int) := by rw [wrap_id (by omega) (by omega)]; omega
    have p1 : ((d + 1 : Nat) : Int) > 0 := by omega
    have hg := shape_grid hu hn hm
    have e1 := hu.1
    have e2 : (rd_L1 u 0).length = m := hu.2.1 0 (by omega)
    by_cases hl : ((sws u).length : Int) > 0
    · obtain ⟨x, a1, s1, e, x0, x1, -, b1, b2⟩ := pick_ok hc a s ((sws u).length : Int) h0 (by omega) (by have := sws_le hg; omega)
      have x1 := x1 (by omega)
      obtain ⟨i, k, c, b, q1, q2, q3, q4, q5, q6⟩ := sws_mem.1 (rdT_mem x0 x1)
      have hu2 := pSw_shape hu (show i < n by omega) (show k < n by omega) (show c < m by omega) (show b < m by omega)
      obtain ⟨u', a', s', z1, z2⟩ := ih (pSw u i k c b) a1 s1 (by omega) hu2 (by omega) (by omega)
      refine ⟨u', a', s', Ev.step (fun k => by rw [spec_l1Cur_alike.l0]) ?_, z2⟩
      refine evPos p1 (Ev.bind (maSwitches_f hg) (evPos hl ?_))
      simp only [e, Option.bind_some, if_pos x0, if_pos x1, q6, hw2]
      refine Ev.bind (maDo_f u i k c b m (shape_bd hu hn.2 hm.2).1 q1 (by omega) q3 (by omega) (by omega) (fun j hj => hu.2.1 j (by omega))) ?_
      rw [pSw_eq u q1]
      exact z1
    · obtain ⟨u', a', s', z1, z2⟩ := ih u a s (by omega) hu (by omega) (by omega)
      refine ⟨u', a', s', Ev.step (fun k => by rw [spec_l1Cur_alike.l0]) ?_, z2⟩
      refine evPos p1 (Ev.bind (maSwitches_f hg) (evNeg hl ?_))
      rw [hw2]; exact z1
theorem alike_yes {code : List Int} (hc : Bytes code) (t : List (List Int)) (a s : Int) (h0 : 0 ≤ a) (h1 : a ≤ 1048576) : ∃ u a' s', Ev (fun k => spec_l1Cur_alike.j0 k t true code a s) (t, u, a', s') ∧ Fit u := by
  obtain ⟨u, a', s', q1, q2, q3, q4⟩ := grid_ok hc a s h0 (by omega)
  exact ⟨u, a', s', Ev.step (fun k => by rw [spec_l1Cur_alike.j0]) (evPos rfl (Ev.bind q1 (Ev.now _))), q2.fit⟩
theorem drawGridPath_ok {code : List Int} (hc : Bytes code) : ∃ t u, Ev (fun k => spec_DrawGridPath.f k code) (t, u) ∧ Fit t ∧ Fit u := by
  suffices h : ∃ t u a s, Ev (fun k => spec_l1Cur_alike.f k code 0 0) (t, u, a, s) ∧ Fit t ∧ Fit u by
    obtain ⟨t, u, a, s, h1, h2⟩ := h
    refine ⟨t, u, ?_, h2⟩
    unfold spec_DrawGridPath.f
    exact Ev.bind h1 (Ev.now _)
  obtain ⟨t, a, s, h1, h2, h3, h4⟩ := grid_ok hc 0 0 (by omega) (by omega)
  have hf := h2.fit
  unfold spec_l1Cur_alike.f
  by_cases hg : gridB t = true
  · obtain ⟨g1, g2, g3, g4, g5⟩ := grid_get hg
    obtain ⟨o, a1, s1, e, b1, b2⟩ := one_ok hc a s 6 h3 (by omega) (by omega)
    by_cases ho : o = true
    · obtain ⟨u, a', s', q1, q2⟩ := alike_yes hc t a1 s1 (by omega) (by omega)
      refine ⟨t, u, a', s', Ev.bind h1 (Ev.bind (maGrid_f t hf.bm.1 hf.bm.2) (evPos hg ?_)), hf, q2⟩
      simp only [e, Option.bind_some, ho]
      exact q1
    · have ho : o = false := by simpa using ho
      obtain ⟨x, a2, s2, e2, x0, x1, -, c1, c2⟩ := pick_ok hc a1 s1 7 (by omega) (by omega) (by omega)
      have x1 := x1 (by omega)
      obtain ⟨d, rfl⟩ := Int.eq_ofNat_of_zero_le x0
      have hw : wrap64 (1 + (d : Int)) = ((d + 1 : Nat) : Int) := by rw [wrap_id (by omega) (by omega)]; omega
      obtain ⟨u, a', s', q1, q2⟩ := alike_l0 hc t t.length (rd_L1 t 0).length ⟨g1, g2⟩ ⟨g3, g4⟩ (d + 1) t a2 s2 (by omega) (grid_shape hg) (by omega) (by omega)
      refine ⟨t, u, a', s', Ev.bind h1 (Ev.bind (maGrid_f t hf.bm.1 hf.bm.2) (evPos hg ?_)), hf, q2⟩
      simp only [e, Option.bind_some, ho]
      refine Ev.step (fun k => by rw [spec_l1Cur_alike.j0]) ?_
      refine evNeg (by simp) (Ev.bind (maOwn_f t hf.1 hf.2) ?_)
      simp only [e2, Option.bind_some, hw]
      exact q1
  · obtain ⟨u, a', s', q1, q2⟩ := alike_yes hc t a s (by omega) (by omega)
    exact ⟨t, u, a', s', Ev.bind h1 (Ev.bind (maGrid_f t hf.bm.1 hf.bm.2) (evNeg hg q1)), hf, q2⟩
inductive PathR (n m : Nat) : List (List Int) → List S41 → List (List Int) → Prop
  | nil (t) : PathR n m t [] t
  | cons (t u : List (List Int)) (r s c d : Nat) (p : List S41) (ht : Shape n m t) (h1 : r < s) (h2 : s < n) (h3 : c < d) (h4 : d < m) (h5 : isSw t r s c d = true) (hp : PathR n m (pSw t r s c d) p u) : PathR n m t (⟨r, s, c, d⟩ :: p) u
theorem PathR.trans {n m : Nat} {t u v : List (List Int)} {p q : List S41} (h1 : PathR n m t p u) (h2 : PathR n m u q v) : PathR n m t (p ++ q) v := by
  induction h1 with
  | nil => exact h2
  | cons t u r s c d p ht a1 a2 a3 a4 a5 _ ih => exact PathR.cons t v r s c d _ ht a1 a2 a3 a4 a5 (ih h2)
theorem pSw_minmax (t : List (List Int)) (r s c d : Nat) : pSw t (min r s) (max r s) c d = pSw t r s c d := by
  unfold pSw; rw [show min (min r s) (max r s) = min r s by omega, show max (min r s) (max r s) = max r s by omega]
theorem PathR.one {n m : Nat} {t : List (List Int)} {r s c d : Nat} (ht : Shape n m t) (hr : r < n) (hs : s < n) (hc : c < d) (hd : d < m) (h1 : at2 t r c = at2 t s d) (h2 : at2 t r d = at2 t s c) (h3 : at2 t r c ≠ at2 t r d) : PathR n m t [pX r s c d] (pSw t r s c d) := by
  have hne : r ≠ s := fun e => by subst e; exact h3 h1
  have h := PathR.cons (n := n) (m := m) t (pSw t r s c d) (min r s) (max r s) c d [] ht (by omega) (by omega) hc hd (isSw_at.2 (by
    rcases Nat.lt_or_ge r s with h | h
    · rw [show min r s = r by omega, show max r s = s by omega]; exact ⟨h1, h2, h3⟩
    · rw [show min r s = s by omega, show max r s = r by omega]; exact ⟨h2.symm, h1.symm, fun e => h3 (by rw [h1, h2, e])⟩)) (by rw [pSw_minmax]; exact PathR.nil _)
  exact h
structure Led (n m : Nat) (t0 u0 : List (List Int)) (g : GP) : Prop where
  a : PathR n m t0 g.fst g.t
  b : PathR n m g.u g.snd u0
theorem gpStep_led {n m c : Nat} {t0 u0 : List (List Int)} {g g' : GP} (hI : PInv n m c g) (hc : c < m) (hL : Led n m t0 u0 g) (h : gpStep n m c g = some g') :
    PInv n m c g' ∧ Led n m t0 u0 g' ∧ 2 * ((g'.fst.length + g'.snd.length : Nat) : Int) + dOff n c g' = 2 * ((g.fst.length + g.snd.length : Nat) : Int) + dOff n c g := by
  unfold gpStep at h
  split at h
  · rename_i r s hr hs
    obtain ⟨r1, r2, r3⟩ := pRow_some hr
    obtain ⟨s1, s2, s3⟩ := pRow_some hs
    split at h
    · rename_i d hd
      obtain rfl := Option.some.inj h
      obtain ⟨d1, d2, d3, d4⟩ := pCol_some hd
      obtain ⟨i1, i2⟩ := stepT (x := g.fst ++ [pX r s c d]) hI hc hr hs hd
      refine ⟨i1, ⟨hL.a.trans (PathR.one hI.st r1 s1 d1 d2 (by omega) (by omega) (by omega)), hL.b⟩, ?_⟩
      simp only [List.length_append, List.length_cons, List.length_nil]; omega
    · split at h
      · rename_i d hd
        obtain rfl := Option.some.inj h
        obtain ⟨d1, d2, d3, d4⟩ := pCol_some hd
        obtain ⟨i1, i2⟩ := stepU (x := pX r s c d :: g.snd) hI hc hr hs hd
        have e : ∀ i j, i < n → j < m → (i = r ∨ i = s) → (j = c ∨ j = d) → at2 (pSw g.u r s c d) i j = 1 - at2 g.u i j := fun i j hi hj a b => by rw [pSw_at hI.su r1 s1 hc d2 i j hi hj, if_pos ⟨a, b⟩]
        have e1 := e r c r1 hc (.inl rfl) (.inl rfl)
        have e2 := e r d r1 d2 (.inl rfl) (.inr rfl)
        have e3 := e s c s1 hc (.inr rfl) (.inl rfl)
        have e4 := e s d s1 d2 (.inr rfl) (.inr rfl)
        have hp := PathR.one i1.su r1 s1 d1 d2 (by (try dsimp only); omega) (by (try dsimp only); omega) (by (try dsimp only); omega)
        (try dsimp only at hp)
        rw [pSw_twice hI.su r1 s1 hc d2] at hp
        refine ⟨i1, ⟨hL.a, hp.trans hL.b⟩, ?_⟩
        simp only [List.length_cons]; omega
      · cases h
  · cases h
theorem gpCol_led {n m c : Nat} {t0 u0 : List (List Int)} (hc : c < m) : ∀ (f : Nat) (g : GP), PInv n m c g → dOff n c g < f → Led n m t0 u0 g →
    PInv n m (c + 1) (gpCol n m c f g) ∧ Led n m t0 u0 (gpCol n m c f g) ∧ 2 * (((gpCol n m c f g).fst.length + (gpCol n m c f g).snd.length : Nat) : Int) ≤ 2 * ((g.fst.length + g.snd.length : Nat) : Int) + dOff n c g
  | 0, g, hI, hd, _ => by have := dOff_nonneg n c g; omega
  | f + 1, g, hI, hd, hL => by
    cases hs : gpStep n m c g with
    | none =>
      simp only [gpCol, hs]
      have h1 : pRow g.t g.u n c = none := by
        cases h1 : pRow g.t g.u n c with
        | none => rfl
        | some r =>
          exfalso
          cases h2 : pRow g.u g.t n c with
          | none => rw [pRow_back hI hc h2] at h1; cases h1
          | some s =>
            cases h3 : pCol g.t m c r s 0 1 with
            | some d => unfold gpStep at hs; simp only [h1, h2, h3] at hs; cases hs
            | none =>
              cases h4 : pCol g.u m c r s 1 0 with
              | none => exact col_switch hI hc h1 h2 h3 h4
              | some d => unfold gpStep at hs; simp only [h1, h2, h3, h4] at hs; cases hs
      have := dOff_nonneg n c g
      exact ⟨col_done hI hc h1, hL, by omega⟩
    | some g' =>
      simp only [gpCol, hs]
      obtain ⟨i1, i2, i3⟩ := gpStep_led hI hc hL hs
      have hl := gpStep_len hs
      obtain ⟨j1, j2, j3⟩ := gpCol_led hc f g' i1 (by omega) i2
      exact ⟨j1, j2, by omega⟩
theorem gpAll_led {n m : Nat} {t0 u0 : List (List Int)} : ∀ (d c : Nat) (g : GP), c + d = m → PInv n m c g → Led n m t0 u0 g →
    PInv n m m (gpAll n m c d g) ∧ Led n m t0 u0 (gpAll n m c d g) ∧ 2 * ((gpAll n m c d g).fst.length + (gpAll n m c d g).snd.length) ≤ 2 * (g.fst.length + g.snd.length) + n * d
  | 0, c, g, h, hI, hL => by obtain rfl : c = m := by omega
                             exact ⟨hI, hL, by simp [gpAll]⟩
  | d + 1, c, g, h, hI, hL => by
    have hd : dOff n c g < ((n + 1 : Nat) : Int) := by have := dOff_le n c g; omega
    obtain ⟨i1, i2, i3⟩ := gpCol_led (by omega) (n + 1) g hI hd hL
    obtain ⟨j1, j2, j3⟩ := gpAll_led d (c + 1) (gpCol n m c (n + 1) g) (by omega) i1 i2
    have := dOff_le n c g
    simp only [gpAll]
    refine ⟨j1, j2, ?_⟩
    have e9 : n * (d + 1) = n * d + n := by rw [Nat.mul_add, Nat.mul_one]
    omega
theorem shape_ext {n m : Nat} {t u : List (List Int)} (ht : Shape n m t) (hu : Shape n m u) (h : ∀ i j, i < n → j < m → at2 t i j = at2 u i j) : t = u := by
  refine rows_ext (by rw [ht.1, hu.1]) (fun i hi => by rw [ht.2.1 i (by rw [← ht.1]; exact hi), hu.2.1 i (by rw [← ht.1]; exact hi)]) (fun i j hi hj => ?_)
  have hi' : i < n := by rw [← ht.1]; exact hi
  exact h i j hi' (by rw [← ht.2.1 i hi']; exact hj)
theorem sumR_le : ∀ {n : Nat} {f g : Nat → Int}, (∀ i, i < n → f i ≤ g i) → sumR n f ≤ sumR n g
  | 0, _, _, _ => by simp [sumR]
  | n + 1, f, g, h => by have := sumR_le (n := n) (fun i hi => h i (by omega)) (f := f) (g := g); have := h n (by omega); simp only [sumR]; omega
theorem sumR_add : ∀ (n : Nat) (f g : Nat → Int), sumR n (fun i => f i + g i) = sumR n f + sumR n g
  | 0, _, _ => by simp [sumR]
  | n + 1, f, g => by simp only [sumR]; rw [sumR_add n f g]; omega
theorem dif_tri (t u v : List (List Int)) (i j : Nat) : dif t v i j ≤ dif t u i j + dif u v i j := by
  unfold dif; split <;> split <;> split <;> omega
theorem apart_tri (n m : Nat) (t u v : List (List Int)) : apartN n m t v ≤ apartN n m t u + apartN n m u v := by
  unfold apartN
  rw [← sumR_add]
  refine sumR_le fun i _ => ?_
  (try dsimp only)
  rw [← sumR_add]
  exact sumR_le fun j _ => dif_tri t u v i j
theorem apart_self (n m : Nat) (t : List (List Int)) : apartN n m t t = 0 := by
  unfold apartN
  have z : ∀ n : Nat, sumR n (fun _ => (0 : Int)) = 0 := fun n => by induction n with | zero => rfl | succ n ih => simp only [sumR, ih]; rfl
  have e : ∀ i, sumR m (dif t t i) = 0 := fun i => by rw [sumR_congr (g := fun _ => 0) (fun j _ => by simp [dif]), z]
  simp only [e, z]
theorem PathR.apart {n m : Nat} {t u : List (List Int)} {p : List S41} (h : PathR n m t p u) : apartN n m t u ≤ 4 * (p.length : Int) := by
  induction h with
  | nil t => simp [apart_self]
  | cons t u r s c d p ht a1 a2 a3 a4 a5 _ ih =>
    have h1 := apart_tri n m t (pSw t r s c d) u
    rw [apart_pSw ht (by omega) a2 (by omega) a4 (by omega) (by omega)] at h1
    simp only [List.length_cons]; omega
theorem sumR_zero : ∀ {n : Nat} {f : Nat → Int}, (∀ i, i < n → 0 ≤ f i) → sumR n f = 0 → ∀ i, i < n → f i = 0
  | 0, _, _, _, i, hi => by omega
  | n + 1, f, h, h0, i, hi => by
    simp only [sumR] at h0
    have h2 := h n (by omega)
    have h3 : 0 ≤ sumR n f := by
      have := sumR_le (n := n) (f := fun _ => (0 : Int)) (g := f) (fun i hi => h i (by omega))
      have z : ∀ n : Nat, sumR n (fun _ => (0 : Int)) = 0 := fun n => by induction n with | zero => rfl | succ n ih => simp only [sumR, ih]; rfl
      rw [z] at this; exact this
    by_cases e : i = n
    · subst e; omega
    · exact sumR_zero (n := n) (fun i hi => h i (by omega)) (by omega) i (by omega)
theorem apart_zero {n m : Nat} {t u : List (List Int)} (ht : Shape n m t) (hu : Shape n m u) (h : apartN n m t u = 0) : t = u := by
  refine shape_ext ht hu fun i j hi hj => ?_
  have h1 := sumR_zero (fun i _ => (sumR_01 (n := m) (fun j _ => dif_01 t u i j) (by omega)).1) h i hi
  have h2 := sumR_zero (fun j _ => (dif_01 t u i j).1) h1 j hj
  unfold dif at h2
  split at h2
  · rename_i e; exact e.symm
  · omega
theorem gpCol_same {n m c : Nat} {g : GP} (h : g.t = g.u) : ∀ f, gpCol n m c f g = g
  | 0 => rfl
  | f + 1 => by
    have h1 : pRow g.t g.u n c = none := by
      cases h1 : pRow g.t g.u n c with
      | none => rfl
      | some r => obtain ⟨_, r2, r3⟩ := pRow_some h1; rw [h] at r2; omega
    have hs : gpStep n m c g = none := by unfold gpStep; rw [h1]
    simp only [gpCol, hs]
theorem gpAll_same {n m : Nat} {g : GP} (h : g.t = g.u) : ∀ d c, gpAll n m c d g = g
  | 0, c => rfl
  | d + 1, c => by simp only [gpAll]; rw [gpCol_same h, gpAll_same h]
theorem gp_path {l0 l1 : List (List Int)} (h : alikeP l0 l1) : ∃ n m, 1 ≤ n ∧ n ≤ 6 ∧ 1 ≤ m ∧ m ≤ 6 ∧ Shape n m l0 ∧ Shape n m l1 ∧ PathR n m l0 ((gpG l0 l1).fst ++ (gpG l0 l1).snd) l1 ∧ 2 * ((gpG l0 l1).fst ++ (gpG l0 l1).snd).length ≤ n * m ∧ (l0 = l1 → (gpG l0 l1).fst ++ (gpG l0 l1).snd = []) ∧ n = l0.length ∧ m = (rd_L1 l0 0).length := by
  obtain ⟨a0, a1, e1, e2⟩ := id h
  obtain ⟨g1, g2, g3, g4, g5⟩ := grid_get a0
  have hI := alike_inv a0 a1 e1 e2
  obtain ⟨j1, j2, j3⟩ := gpAll_led (t0 := l0) (u0 := l1) (rd_L1 l0 0).length 0 ⟨l0, l1, [], []⟩ (by omega) hI ⟨PathR.nil _, PathR.nil _⟩
  refine ⟨l0.length, (rd_L1 l0 0).length, g1, g2, g3, g4, hI.st, hI.su, ?_, ?_, fun e => ?_, rfl, rfl⟩
  · have e : (gpAll l0.length (rd_L1 l0 0).length 0 (rd_L1 l0 0).length ⟨l0, l1, [], []⟩).t = (gpAll l0.length (rd_L1 l0 0).length 0 (rd_L1 l0 0).length ⟨l0, l1, [], []⟩).u := shape_ext j1.st j1.su (fun i j hi hj => j1.eqs i j hi hj)
    have hb := j2.b
    rw [← e] at hb
    exact j2.a.trans hb
  · rw [List.length_append]; simpa [gpG] using j3
  · subst e
    unfold gpG
    rw [gpAll_same rfl]; rfl
end Go.Proofs.Ytojcnapdalpnmaa.K
namespace Go.Proofs.Ytojcnapdalpnmaa.K
open Go.RowKit Go.Proofs.YtojcnapdalpnmaaW.PrintWords Go.Proofs.Ytojcnapdalpnmaa.P
theorem midW (x : S41) (done rest : List S41) (h : (done ++ x :: rest).length ≤ 1048576) :
    ((done.length : Int) < ((done ++ x :: rest).length : Int)) ∧ 0 ≤ (done.length : Int) ∧ rd_T41 (done ++ x :: rest) (done.length : Int) = x ∧ wrap64 ((done.length : Int) + 1) = ((done ++ [x]).length : Int) ∧ done ++ [x] ++ rest = done ++ x :: rest := by
  refine ⟨by simp; omega, by omega, by simp [rd_T41], ?_, by simp⟩
  simp at h ⊢
  unfold wrap64; omega
theorem w4 {a : Int} (h0 : 0 ≤ a) (h : a ≤ 4611686018427387904) : wrap64 (a + 1) = a + 1 ∧ wrap64 (a + 1 + 1) = a + 2 ∧ wrap64 (a + 2 + 1) = a + 3 ∧ wrap64 (a + 3 + 1) = a + 4 := by unfold wrap64; omega
end Go.Proofs.Ytojcnapdalpnmaa.K
namespace Go.Proofs.Ytojcnapdalpnmaa.K
open Go.RowKit Go.Proofs.YtojcnapdalpnmaaW.PrintWords Go.Proofs.YtojcnapdalpnmaaW.PrintMore Go.Proofs.Ytojcnapdalpnmaa.P
theorem big_f {a b : List Int} (ha : ¬ a.length > 1048576) : laws_big.f a b = some (decide (a.length + b.length > 1048576)) := by
  unfold laws_big.f
  rw [if_neg (by omega), wrap_id (by omega) (by omega)]
  congr 1
  by_cases h : a.length + b.length > 1048576
  · rw [decide_eq_true h, decide_eq_true (by omega)]
  · rw [decide_eq_false h, decide_eq_false (by omega)]
theorem pSame_l0 : ∀ (k : Nat) (a b : List Int) (n i : Int), laws_pSame.l0 k a b n i = spec_l1Same.l0 k a b n i
  | 0, _, _, _, _ => rfl
  | k + 1, a, b, n, i => by rw [laws_pSame.l0, spec_l1Same.l0, pSame_l0 k]
theorem pSame_f (a b : List Int) (h : a.length ≤ 1048576) : Ev (fun k => laws_pSame.f k a b) (decide (a = b)) :=
  Ev.congr (fun k => by unfold laws_pSame.f spec_l1Same.f; rw [pSame_l0]) (l1Same_f a b h)
theorem pSameRows_l0 : ∀ (rest done rest2 done2 : List (List Int)), done.length = done2.length → rest.length = rest2.length → (done ++ rest).length ≤ 1048576 → (∀ r ∈ rest, r.length ≤ 1048576) → Ev (fun k => laws_pSameRows.l0 k (done ++ rest) (done2 ++ rest2) ((done ++ rest).length : Int) (done.length : Int)) (decide (rest = rest2)) := by
  intro rest
  induction rest with
  | nil =>
    intro done rest2 done2 hl hl2 h _
    obtain rfl : rest2 = [] := by simpa using hl2.symm
    exact Ev.step (fun k => by simp [laws_pSameRows.l0]; rfl) (Ev.some (by simp))
  | cons x rest ih =>
    intro done rest2 done2 hl hl2 h hr
    obtain ⟨y, rest2, rfl⟩ : ∃ y r, rest2 = y :: r := by cases rest2 with | nil => simp at hl2 | cons y r => exact ⟨y, r, rfl⟩
    have ih' := ih (done ++ [x]) rest2 (done2 ++ [y]) (by simp [hl]) (by simpa using hl2) (by simpa using h) (fun r hr' => hr r (by simp [hr']))
    rw [show done ++ [x] ++ rest = done ++ x :: rest by simp, show done2 ++ [y] ++ rest2 = done2 ++ y :: rest2 by simp] at ih'
    have hlen : (done ++ x :: rest).length = done.length + 1 + rest.length := by simp; omega
    have hlen2 : (done2 ++ y :: rest2).length = done2.length + 1 + rest2.length := by simp; omega
    have q1 : (done.length : Int) < ((done ++ x :: rest).length : Int) := by omega
    have q2 : 0 ≤ (done.length : Int) := by omega
    have q3 : (done.length : Int) < ((done2 ++ y :: rest2).length : Int) := by omega
    have z1 : rd_L1 (done ++ x :: rest) (done.length : Int) = x := by simp [rd_L1]
    have z2 : rd_L1 (done2 ++ y :: rest2) (done.length : Int) = y := by rw [hl]; simp [rd_L1]
    refine Ev.step (fun k => by rw [laws_pSameRows.l0]) ?_
    simp only [if_pos q1, if_pos q2, if_pos q3, z1, z2, wrap_nat done.length (by omega)]
    refine Ev.bind (pSame_f x y (hr x (by simp))) (Ev.ite (fun he => ?_) (fun he => ?_))
    · have he := of_decide_eq_true he
      subst he
      have e2 : ((done ++ [x]).length : Int) = ((done.length + 1 : Nat) : Int) := by simp
      rw [e2] at ih'
      exact Ev.pair ih' (by simp)
    · exact Ev.some (by simp at he; simp [he])
theorem pSameRows_f (a b : List (List Int)) (h : a.length ≤ 1048576) (hr : ∀ r ∈ a, r.length ≤ 1048576) : Ev (fun k => laws_pSameRows.f k a b) (decide (a = b)) := by
  unfold laws_pSameRows.f
  refine Ev.ite (fun hl => ?_) (fun hl => ?_)
  · exact pSameRows_l0 a [] b [] rfl (by omega) (by simpa using h) hr
  · exact Ev.some (by rw [decide_eq_false]; intro e; subst e; exact hl rfl)
theorem pSameRows_same (a : List (List Int)) (h : a.length ≤ 1048576 ∧ ∀ r ∈ a, r.length ≤ 1048576) : Ev (fun k => laws_pSameRows.f k a a) true := Ev.pair (pSameRows_f a a h.1 h.2) (by simp)
theorem pSwitches_l0 : ∀ (rest done : List S41), (done ++ rest).length ≤ 1048576 → Ev (fun k => laws_pSwitches.l0 k (done ++ rest) (done ++ rest) ((done ++ rest).length : Int) (done.length : Int)) true := by
  intro rest
  induction rest with
  | nil => intro done h; exact Ev.step (fun k => by rw [laws_pSwitches.l0, if_neg (by simp)]) (Ev.now _)
  | cons x rest ih =>
    intro done h
    have ih' := ih (done ++ [x]) (by simpa using h)
    rw [show done ++ [x] ++ rest = done ++ x :: rest by simp] at ih'
    have hlen : (done ++ x :: rest).length = done.length + 1 + rest.length := by simp; omega
    have q1 : (done.length : Int) < ((done ++ x :: rest).length : Int) := by omega
    have q2 : 0 ≤ (done.length : Int) := by omega
    refine Ev.step (fun k => by rw [laws_pSwitches.l0]) ?_
    simp only [if_pos q1, if_pos q2, wrap_nat done.length (by omega), beq_self_eq_true, Bool.not_true, Bool.or_false, Bool.false_eq_true, if_false]
    have e2 : ((done ++ [x]).length : Int) = ((done.length + 1 : Nat) : Int) := by simp
    rw [e2] at ih'
    exact ih'
theorem pSwitches_same (l : List S41) (h : l.length ≤ 1048576) : Ev (fun k => laws_pSwitches.f k l l) true := by
  unfold laws_pSwitches.f
  exact Ev.ite (fun _ => pSwitches_l0 l [] (by simpa using h)) (fun hh => absurd rfl hh)
end Go.Proofs.Ytojcnapdalpnmaa.K
namespace Go.Proofs.Ytojcnapdalpnmaa.K
open Go.RowKit Go.Proofs.YtojcnapdalpnmaaW.PrintWords Go.Proofs.Ytojcnapdalpnmaa.P
theorem impl_SumsOfGrid_f {l : List (List Int)} (h4 : l.length ≤ BM) (h5 : ∀ r ∈ l, r.length ≤ BM) : Ev (fun k => impl_SumsOfGrid.f k l) (if gridB l = true then ((gSums l).1, (gSums l).2, true) else ([], [], false)) := by
  unfold impl_SumsOfGrid.f
  simp only [IsGrid_f l h4 h5, Option.bind_some]
  refine Ev.ite (fun hg => ?_) (fun hg => ?_)
  · obtain ⟨g1, g2, g3, g4, g5⟩ := grid_get hg
    rw [if_pos hg]
    refine Ev.bind (rowSums_f (by omega) (grid_fair hg)) (Ev.bind (turnI_f hg h4 h5) (Ev.bind (rowSums_f (by rw [colsI_length]; omega) (colsI_fair hg)) (Ev.now _)))
  · rw [if_neg hg]; exact Ev.now _
end Go.Proofs.Ytojcnapdalpnmaa.K
namespace Go.Proofs.Ytojcnapdalpnmaa.K
open Go.RowKit Go.Proofs.YtojcnapdalpnmaaW.PrintWords Go.Proofs.YtojcnapdalpnmaaW.PrintMore Go.Proofs.Ytojcnapdalpnmaa.P
theorem len_no (a q : Nat) (h : 2 * a ≤ q) : decide (2 * (a : Int) > (q : Int)) = false := decide_eq_false (by omega)
theorem path_l0 {n m : Nat} (hn : 1 ≤ n ∧ n ≤ 6) (hm : 1 ≤ m ∧ m ≤ 6) {u : List (List Int)} (hu : Shape n m u) : ∀ (rest done : List S41) (t : List (List Int)), (done ++ rest).length ≤ 1048576 → PathR n m t rest u → Shape n m t →
    Ev (fun k => laws_FnPathsOfSwitches.l0 k u t (done ++ rest) ((done ++ rest).length : Int) (done.length : Int)) true := by
  intro rest
  induction rest with
  | nil =>
    intro done t h hp ht
    cases hp
    refine Ev.step (fun k => by rw [laws_FnPathsOfSwitches.l0]) (evNeg (by simp) ?_)
    exact Ev.bind (pSameRows_same _ (shape_bd hu hn.2 hm.2)) (Ev.now _)
  | cons x rest ih =>
    intro done t h hp ht
    cases hp with
    | cons _ _ r s c d _ ht' h1 h2 h3 h4 h5 hp' =>
      obtain ⟨q1, q2, q3, q4, q5⟩ := midW (⟨r, s, c, d⟩ : S41) done rest h
      have ih' := ih (done ++ [⟨r, s, c, d⟩]) (pSw t r s c d) (by rw [q5]; exact h) hp' (pSw_shape ht (by omega) h2 (by omega) h4)
      rw [q5] at ih'
      have hg := shape_grid ht hn hm
      have hb : swB t r s c d = true := swB_nat.2 ⟨r, s, c, d, rfl, rfl, rfl, rfl, h1, by rw [ht.1]; exact h2, h3, Nat.lt_of_lt_of_eq h4 (ht.2.1 0 (by omega)).symm, h5⟩
      have hd := impl_DoSwitch_f (r : Int) (s : Int) (c : Int) (d : Int) (shape_bd ht hn.2 hm.2)
      rw [if_pos ⟨hg, hb⟩, pSw_eq t h1] at hd
      refine Ev.step (fun k => by rw [laws_FnPathsOfSwitches.l0]) ?_
      simp only [if_pos q1, if_pos q2, q3, q4, hd, Option.bind_some, if_true]
      exact ih'
theorem GridsApart_any {t u : List (List Int)} (ht : t.length ≤ BM ∧ ∀ r ∈ t, r.length ≤ BM) (hu : u.length ≤ BM ∧ ∀ r ∈ u, r.length ≤ BM) : ∃ r, Ev (fun k => impl_GridsApart.f k t u) r := by
  by_cases hg : gridB t = true ∧ gridB u = true ∧ t.length = u.length ∧ (rd_L1 t 0).length = (rd_L1 u 0).length
  · obtain ⟨h1, h2, h3, h4⟩ := hg
    obtain ⟨g1, g2, g3, g4, g5⟩ := grid_get h1
    have su := grid_shape h2
    rw [← h3, ← h4] at su
    exact ⟨_, GridsApart_f (grid_shape h1) su ⟨g1, g2⟩ ⟨g3, g4⟩⟩
  · refine ⟨(0, false), ?_⟩
    have no : Ev (fun k => impl_GridsApart.j0 k t u true) (0, false) := Ev.step (fun k => by rw [impl_GridsApart.j0]) (evPos rfl (Ev.now _))
    unfold impl_GridsApart.f
    simp only [IsGrid_f t ht.1 ht.2, IsGrid_f u hu.1 hu.2, Option.bind_some]
    refine Ev.ite (fun h1 => Ev.ite (fun h2 => Ev.ite (fun h3 => ?_) (fun _ => no)) (fun _ => no)) (fun _ => no)
    have G1 := grid_get h1
    have G2 := grid_get h2
    refine evPos (by omega) (evPos (by omega) ?_)
    have e : (((rd_L1 t 0).length : Int) != ((rd_L1 u 0).length : Int)) = true := by
      rw [bne_iff_ne]; intro e; exact hg ⟨h1, h2, by omega, by omega⟩
    rw [e]; exact no
end Go.Proofs.Ytojcnapdalpnmaa.K
namespace Go.Proofs.Ytojcnapdalpnmaa.Pure
open Go.RowKit Go.Proofs.YtojcnapdalpnmaaW.PrintWords Go.Proofs.Ytojcnapdalpnmaa.P Go.Proofs.Ytojcnapdalpnmaa.K
theorem FnPathsOfSwitches : laws_FnPathsOfSwitches.Pure := by
  intro l0 l1 hm0 hz0 hw0 hm1 hz1 hw1
  refine Ev.rounds ?_
  unfold laws_FnPathsOfSwitches.f
  by_cases hb1 : l0.length > 1048576
  · have e : laws_big.f l0 l1 = some true := by unfold laws_big.f; rw [if_pos (by omega)]
    simp only [e, Option.bind_some, if_true]; exact Ev.now _
  by_cases hb2 : l0.length + l1.length > 1048576
  · simp only [big_f hb1, decide_eq_true hb2, Option.bind_some, if_true]; exact Ev.now _
  simp only [big_f hb1, decide_eq_false hb2, Option.bind_some, Bool.false_eq_true, if_false]
  obtain ⟨t, u, hd, ht, hu⟩ := drawGridPath_ok (bytes_of (by omega) hw0)
  refine Ev.bind hd (Ev.bind (impl_GridPath_f ht hu) (Ev.bind (spec_GridPath_f ht hu) ?_))
  have hlen : (gpRes t u).1.length ≤ 1048576 := by
    unfold gpRes
    split
    · rename_i h
      obtain ⟨n, m, n1, n2, m1, m2, -, -, -, h4, -⟩ := gp_path h
      have : n * m ≤ 6 * 6 := Nat.mul_le_mul n2 m2
      (try dsimp only); omega
    · simp
  simp only [bne_self_eq_false, Bool.false_eq_true, if_false]
  refine Ev.bind (pSwitches_same _ hlen) ?_
  refine Ev.step (fun k => by rw [laws_FnPathsOfSwitches.j0]) (evNeg (by simp) ?_)
  refine Ev.bind (impl_SumsOfGrid_f ht.bm.1 ht.bm.2) (Ev.bind (impl_SumsOfGrid_f hu.bm.1 hu.bm.2) ?_)
  obtain ⟨ap, hap⟩ := GridsApart_any ht.bm hu.bm
  by_cases h : alikeP t u
  · obtain ⟨a0, a1, e1, e2⟩ := id h
    have hr : gpRes t u = ((gpG t u).fst ++ (gpG t u).snd, true) := by unfold gpRes; rw [if_pos h]
    rw [hr] at hlen ⊢
    simp only [if_pos a0, if_pos a1, if_true]
    obtain ⟨n, m, n1, n2, m1, m2, s0, s1, hp, h4, h5, en, em⟩ := gp_path h
    have hap := GridsApart_f s0 s1 ⟨n1, n2⟩ ⟨m1, m2⟩
    have z1 : (gSums t).1.length = n := by simp [gSums]; omega
    have z2 : (gSums t).2.length = m := by simp [gSums, colsI_length]; omega
    refine Ev.bind (Ev.pair (pSame_f (gSums t).1 (gSums u).1 (by omega)) (decide_eq_true e1)) ?_
    simp only [if_true]
    refine Ev.bind (Ev.pair (pSame_f (gSums t).2 (gSums u).2 (by omega)) (decide_eq_true e2)) ?_
    have hxx : (true != true) = false := rfl
    rw [hxx]
    refine Ev.step (fun k => by rw [laws_FnPathsOfSwitches.j1]) (evNeg (by simp) (Ev.bind hap ?_))
    simp only [if_true]
    have hnm : n * m ≤ 6 * 6 := Nat.mul_le_mul n2 m2
    generalize (gpG t u).fst ++ (gpG t u).snd = p at *
    have hle := hp.apart
    have c1 : ((apartN n m t u == 0) != ((p.length : Int) == 0)) = false := by
      by_cases e : t = u
      · have := h5 e
        subst this
        subst e
        rw [apart_self]; rfl
      · have k1 : apartN n m t u ≠ 0 := fun hh => e (apart_zero s0 s1 hh)
        have k2 : (p.length : Int) ≠ 0 := fun hh => by
          have h0 := hp.apart
          have h1 := (sumR_01 (n := n) (f := fun i => sumR m (dif t u i)) (c := m) (fun i _ => by have := sumR_01 (n := m) (fun j _ => dif_01 t u i j) (by omega); omega) (by omega)).1
          have : apartN n m t u = sumR n (fun i => sumR m (dif t u i)) := rfl
          omega
        rw [beq_false_of_ne k1, beq_false_of_ne k2]; rfl
    rw [c1]
    refine evNeg (by simp) ?_
    have w1 : wrap64 (4 * (p.length : Int)) = 4 * (p.length : Int) := wrap_id (by omega) (by omega)
    have w2 : wrap64 (2 * (p.length : Int)) = 2 * (p.length : Int) := wrap_id (by omega) (by omega)
    have w3 : wrap64 (((gSums t).1.length : Int) * ((gSums t).2.length : Int)) = ((n * m : Nat) : Int) := by
      rw [z1, z2, ← Int.natCast_mul]; exact wrap_id (by omega) (by omega)
    rw [w1, w2, w3]
    refine evNeg (by omega) ?_
    have c2 : decide (2 * (p.length : Int) > ((n * m : Nat) : Int)) = false := len_no p.length (n * m) h4
    rw [c2]
    refine Ev.step (fun k => by rw [laws_FnPathsOfSwitches.j2]) (evNeg (by simp) ?_)
    exact path_l0 ⟨n1, n2⟩ ⟨m1, m2⟩ s1 p [] t (by simpa using hlen) hp s0
  · have hr : gpRes t u = ([], false) := by unfold gpRes; rw [if_neg h]
    rw [hr]
    have fin : Ev (fun k => laws_FnPathsOfSwitches.j1 k t u [] false (if gridB t = true then ((gSums t).1, (gSums t).2, true) else ([], [], false)).1 (if gridB t = true then ((gSums t).1, (gSums t).2, true) else ([], [], false)).2.1 false) true :=
      Ev.step (fun k => by rw [laws_FnPathsOfSwitches.j1]) (evNeg Bool.false_ne_true (Ev.bind hap (evNeg Bool.false_ne_true (Ev.now _))))
    have x0 : (false != false) = false := rfl
    by_cases a0 : gridB t = true
    · simp only [if_pos a0] at fin ⊢
      simp only [if_true]
      by_cases a1 : gridB u = true
      · simp only [if_pos a1, if_true]
        have z1 : (gSums t).1.length ≤ 6 := by have := grid_get a0; simp [gSums]; omega
        have z2 : (gSums t).2.length ≤ 6 := by have := grid_get a0; simp [gSums, colsI_length]; omega
        by_cases e1 : (gSums t).1 = (gSums u).1
        · refine Ev.bind (Ev.pair (pSame_f (gSums t).1 (gSums u).1 (by omega)) (decide_eq_true e1)) ?_
          simp only [if_true]
          refine Ev.bind (Ev.pair (pSame_f (gSums t).2 (gSums u).2 (by omega)) (decide_eq_false (fun e2 => h ⟨a0, a1, e1, e2⟩))) ?_
          rw [x0]; exact fin
        · refine Ev.bind (Ev.pair (pSame_f (gSums t).1 (gSums u).1 (by omega)) (decide_eq_false e1)) ?_
          simp only [Bool.false_eq_true, if_false]
          rw [x0]; exact fin
      · simp only [if_neg a1, Bool.false_eq_true, if_false]
        rw [x0]; exact fin
    · simp only [if_neg a0, Bool.false_eq_true, if_false] at fin ⊢
      rw [x0]; exact fin
end Go.Proofs.Ytojcnapdalpnmaa.Pure
namespace Go.Proofs.Ytojcnapdalpnmaa.fnPathsOfSwitches
open Go.ChangeShapes Go.WideShapes Go.ChangeAt Go.RowKit
open Go.ChangeMaps (open_string shut_string)
theorem own : ownKnob Try.prog.godebug = none := by kernel_rfl
theorem laidOut : laidOutB Try.prog = true := by kernel_rfl
def IsRow (k : IntKind) (w : World) (a : Option Addr) (len cap : Nat) (zs : List Int) : Prop :=
  (a = none ∧ len = 0 ∧ cap = 0 ∧ zs = []) ∨
  ∃ x, a = some x ∧ len ≤ cap ∧ cap ≤ maxLen ∧ zs.length = cap ∧ (∀ i, i < zs.length → w.cell? (x.add i) = some (.int k (zs.getD i 0))) ∧ ∀ n ∈ zs, (Lit.int k n).wf = true
set_option maxRecDepth 100000 in
theorem lifted (os : Os) (started : os.Started) (H : Type) (enc : TypeId × Value → H) :
    ReturnsInHanded {} Try.checked os 16 .any (Rows.fnPathsOfSwitchesSpec.pre6 enc Try.prog Try.f16 Rows.fnPathsOfSwitchesRow.domain false) (Rows.fnPathsOfSwitchesSpec.post enc Try.prog Try.f16 false true false false) := by
  refine returnsInHanded_of_change_sized (C := Try.checked) own started (by kernel_rfl) Try.func16
    (ChangeSpec.witness6 (enc := enc) (C := Try.checked) false ⟨#[], #[.slice none 0 0, .slice none 0 0], []⟩ 8 (by kernel_rfl) (by kernel_rfl) (by kernel_rfl) (by kernel_rfl)) ?_
  intro W base args ds gs before hval0 hW hcnd hsz0 _
  have hsz : (DataW.weightsEach Try.prog (Try.f16.params.toList ++ Rows.fnPathsOfSwitchesSpec.plain.varTypes Try.prog) (ds ++ gs)).all (· ≤ reachBytes) = true := hsz0
  have hval : ∀ (j : Nat) t v, Try.f16.params[j]? = some t → args[j]? = some v → Value.okWide Try.prog W .any base t v := hval0
  have hW' := hW
  obtain ⟨p, q, hA0, hV, rfl, hfz, hnd⟩ := hW
  have hA : DataW.TrodAll enc Try.prog W 0 (fun _ => true) true Try.f16.params.toList args.toList ds p := hA0
  rw [Try.params16] at hA hval hsz
  obtain ⟨v0, vs0, d0, ds0, p0, q0, hargs, rfl, rfl, h0, r0⟩ := trodAll_cons hA
  obtain ⟨v1, vs1, d1, ds1, p1, q1, rfl, rfl, rfl, h1, r1⟩ := trodAll_cons r0
  obtain ⟨rfl, rfl, rfl⟩ := trodAll_nil r1
  obtain rfl : args = #[v0, v1] := by cases args; simp_all
  obtain ⟨rfl, rfl⟩ := trodVars_none hV
  obtain ⟨a0, len0, cap0, rfl⟩ := okWide_slice Try.underlying54 (hval 0 54 v0 rfl rfl)
  have k0 := h0
  have lt0 : ∀ x ∈ p0, x.block < W.heap.size := by obtain ⟨m, hm⟩ := k0; exact DataW.trod_lt m _ _ _ hm
  obtain ⟨z0, w0⟩ : ∃ zs, IsRow .u8 W a0 len0 cap0 zs := by
    obtain ⟨fuel, hf⟩ := h0
    rcases open_ints Try.underlying54 Try.underlying5 (by kernel_rfl) hf with ⟨hcs, _⟩ | ⟨x, l, c, zs, hcs, _, hl, hm, hz, _, hcell, hwz⟩
    · simp [Value.cells] at hcs
      obtain ⟨rfl, rfl, rfl⟩ := hcs
      exact ⟨[], .inl ⟨rfl, rfl, rfl, rfl⟩⟩
    · simp [Value.cells] at hcs
      obtain ⟨rfl, rfl, rfl⟩ := hcs
      exact ⟨zs, .inr ⟨_, rfl, hl, hm, by simpa using hz, hcell, hwz⟩⟩
  have y0 : len0 * 1 ≤ 140737488351232 := Go.Proofs.YtojcnapdalpnmaaW.PrintWords.sized_ints hsz (j := 0) (t := 54) rfl rfl Try.underlying54 Try.underlying5 (by kernel_rfl) (by kernel_rfl) h0
  obtain ⟨a1, len1, cap1, rfl⟩ := okWide_slice Try.underlying54 (hval 1 54 v1 rfl rfl)
  have k1 := h1
  have lt1 : ∀ x ∈ p1, x.block < W.heap.size := by obtain ⟨m, hm⟩ := k1; exact DataW.trod_lt m _ _ _ hm
  obtain ⟨z1, w1⟩ : ∃ zs, IsRow .u8 W a1 len1 cap1 zs := by
    obtain ⟨fuel, hf⟩ := h1
    rcases open_ints Try.underlying54 Try.underlying5 (by kernel_rfl) hf with ⟨hcs, _⟩ | ⟨x, l, c, zs, hcs, _, hl, hm, hz, _, hcell, hwz⟩
    · simp [Value.cells] at hcs
      obtain ⟨rfl, rfl, rfl⟩ := hcs
      exact ⟨[], .inl ⟨rfl, rfl, rfl, rfl⟩⟩
    · simp [Value.cells] at hcs
      obtain ⟨rfl, rfl, rfl⟩ := hcs
      exact ⟨zs, .inr ⟨_, rfl, hl, hm, by simpa using hz, hcell, hwz⟩⟩
  have y1 : len1 * 1 ≤ 140737488351232 := Go.Proofs.YtojcnapdalpnmaaW.PrintWords.sized_ints hsz (j := 1) (t := 54) rfl rfl Try.underlying54 Try.underlying5 (by kernel_rfl) (by kernel_rfl) h1
  clear hA0 hval0 hsz0 hsz
  refine (P.laws_FnPathsOfSwitches.walk Pure.FnPathsOfSwitches a0 len0 cap0 z0 a1 len1 cap1 z1 W w0 y0 w1 y1).mono fun e W' ⟨he, bel⟩ => ?_
  subst he
  exact ⟨_, rfl, _, _, _, [], _, [], hW', trodAll_mk1 (shut_bool Try.underlying4 _), (trodAll_cons_mk (Below.trod laidOut (by kernel_rfl) (of_decide_eq_true (by kernel_rfl)) k0 bel lt0) (trodAll_cons_mk (Below.trod laidOut (by kernel_rfl) (of_decide_eq_true (by kernel_rfl)) k1 bel lt1) trodAll_mk0)), rfl, bel.frame _, fun h => by cases h⟩
set_option maxHeartbeats 4000000 in
theorem joined : joinedFacts Try.prog 16 Try.f16 Rows.fnPathsOfSwitchesSpec Rows.fnPathsOfSwitchesRow = true := by
  unfold joinedFacts
  repeat' (with_reducible refine (Bool.and_eq_true _ _).mpr ⟨?_, ?_⟩)
  all_goals first
    | (with_reducible exact Head.mayEnter)
    | ((with_reducible rw [Head.lifts]); rfl)
    | ((with_reducible rw [Head.make]); rfl)
    | (as_aux_lemma => kernel_rfl)
theorem over : Rows.fnPathsOfSwitchesRow.holds Try.pinned (OpenSpec.ofChange Rows.fnPathsOfSwitchesSpec) :=
  OpenClaim.holds_of_wide 16 Try.f16 rfl rfl rfl rfl rfl rfl rfl ⟨rfl, rfl, rfl, rfl, rfl⟩ rfl rfl rfl rfl rfl (by kernel_rfl) Try.func16 joined
    (of_decide_eq_true (by kernel_rfl)) (by unfold Func.isWrapper; first | (rw [if_pos (by decide +kernel)]; kernel_rfl) | (rw [if_neg (by decide +kernel)]; exact ⟨rfl, rfl⟩))
    (fun os started H enc _ => lifted os started H enc)
theorem proved : Rows.FnPathsOfSwitchesSaid := over
#print axioms proved
end Go.Proofs.Ytojcnapdalpnmaa.fnPathsOfSwitches
namespace Go.Proofs.Ytojcnapdalpnmaa
theorem fnPathsOfSwitches_holds : Rows.FnPathsOfSwitchesSaid := fnPathsOfSwitches.proved
end Go.Proofs.Ytojcnapdalpnmaa
