/- The row of the law FnExactTurnGrid: contracts and plain lemmas for the law FnExactTurnGrid, part 2 of 2: what the Go functions that it reaches answer. No condition beyond those in each statement. -/
import Derived.Test.YtojcnapdalpnmaaWMore
import Derived.Test.YtojcnapdalpnmaaWWords
import Derived.ProofKit
import Derived.OpenShut
import Derived.Deep.Matrix
import Derived.Lib.SmallJoins
import Derived.Test.YtojcnapdalpnmaaRows
import Derived.WalkKit
import Derived.ShutString
import Derived.ChangeOld
import Derived.Below
import Derived.SizedLaws
import Derived.Test.YtojcnapdalpnmaaWSized
import Derived.Test.YtojcnapdalpnmaaCFnExactTurnGrida
namespace Go.Proofs.Ytojcnapdalpnmaa.K
open Go.RowKit Go.Proofs.YtojcnapdalpnmaaW.PrintWords Go.Proofs.Ytojcnapdalpnmaa.P
set_option linter.unusedVariables false
set_option linter.unusedSimpArgs false

/-- The head of a round of a loop over a list of lists. -/
theorem midL (x : List Int) (done rest : List (List Int)) (h : (done ++ x :: rest).length ≤ maxLen) :
    ((done.length : Int) < ((done ++ x :: rest).length : Int)) ∧ 0 ≤ (done.length : Int) ∧ rd_L1 (done ++ x :: rest) (done.length : Int) = x ∧ wrap64 ((done.length : Int) + 1) = ((done ++ [x]).length : Int) ∧ done ++ [x] ++ rest = done ++ x :: rest := by
  unfold maxLen at h
  refine ⟨by simp; omega, by omega, by simp [rd_L1], ?_, by simp⟩
  simp at h ⊢
  unfold wrap64; omega
theorem setL_mid (y x : List Int) (done rest : List (List Int)) : (done ++ y :: rest).set (done.length : Int).toNat x = done ++ [x] ++ rest := by simp
theorem szIntSS_l0 : ∀ (rest done : List (List Int)) (a : Int), (done ++ rest).length ≤ maxLen → (∀ r ∈ rest, r.length ≤ maxLen) → 0 ≤ a → a ≤ 1048576 → ∃ r, Ev (fun k => laws_szIntSS.l0 k (done ++ rest) a done.length) r ∧ r ≤ a ∧ (0 ≤ r → ∀ x ∈ rest, (x.length : Int) ≤ a) := by
  intro rest
  induction rest with
  | nil => intro done a h _ h0 _; exact ⟨a, Ev.step (fun k => by simp [laws_szIntSS.l0]; rfl) (Ev.some (by simp)), Int.le_refl _, by simp⟩
  | cons x rest ih =>
    intro done a h hr h0 h1'
    obtain ⟨h1, h2, h3, h4, h5⟩ := midL x done rest h
    obtain ⟨s, hs, hs'⟩ := szIntS_f x a (hr x (by simp)) h0 h1'
    by_cases hn : s < 0
    · refine ⟨-1, Ev.step (fun k => by rw [laws_szIntSS.l0]) ?_, by omega, by omega⟩
      simp only [if_pos h1, if_pos h2, h3, hs, Option.bind_some, if_pos hn]
      exact Ev.now _
    · obtain ⟨hs1, hs2⟩ := hs' (by omega)
      obtain ⟨r, hr1, hr2, hr3⟩ := ih (done ++ [x]) s (by rw [h5]; exact h) (fun y hy => hr y (by simp [hy])) (by omega) (by omega)
      rw [h5] at hr1
      refine ⟨r, Ev.step (fun k => by rw [laws_szIntSS.l0]) ?_, by omega, fun hr0 y hy => ?_⟩
      · simp only [if_pos h1, if_pos h2, h3, hs, Option.bind_some, if_neg hn, h4]
        exact hr1
      · rcases List.mem_cons.1 hy with e | e
        · rw [e]; exact hs1
        · have := hr3 hr0 y e; omega
theorem szIntSS_f (l : List (List Int)) (a : Int) (hl : l.length ≤ maxLen) (hr : ∀ r ∈ l, r.length ≤ maxLen) (h0 : 0 ≤ a) (h1 : a ≤ 1048576) : ∃ r, Ev (fun k => laws_szIntSS.f k l a) r ∧ (r ≤ a) ∧ (0 ≤ r → (l.length : Int) ≤ a ∧ ∀ x ∈ l, (x.length : Int) ≤ a) := by
  have e : wrap64 (a - (l.length : Int)) = a - l.length := by unfold maxLen at hl; unfold wrap64; omega
  unfold laws_szIntSS.f
  simp only [e]
  by_cases h : a - (l.length : Int) < 0
  · simp only [if_pos h]; exact ⟨-1, Ev.now _, by omega, by omega⟩
  · simp only [if_neg h]
    obtain ⟨r, hr1, hr2, hr3⟩ := szIntSS_l0 l [] (a - l.length) hl hr (by omega) (by omega)
    exact ⟨r, hr1, by omega, fun h0 => ⟨by omega, fun x hx => by have := hr3 h0 x hx; omega⟩⟩
theorem toIntSS_l0 : ∀ (rest done : List (List Int)), (done ++ rest).length ≤ BM → (∀ r ∈ rest, r.length ≤ BM) → Ev (fun k => laws_toIntSS.l0 k (done ++ rest) (done ++ List.replicate rest.length []) done.length) (done ++ rest) := by
  intro rest
  induction rest with
  | nil => intro done h _; exact Ev.step (fun k => by simp [laws_toIntSS.l0]; rfl) (Ev.some (by simp))
  | cons x rest ih =>
    intro done h hr
    have ih' := ih (done ++ [x])
    obtain ⟨h1, h2, h3, h4, h5⟩ := midL x done rest (by unfold maxLen; simp only [BM] at h; omega)
    rw [h5] at ih'
    refine Ev.step (fun k => by rw [laws_toIntSS.l0]) ?_
    have h6 : (done.length : Int) < ((done ++ List.replicate (x :: rest).length ([] : List Int)).length : Int) := by simp; omega
    simp only [if_pos h1, if_pos h2, h3, h4]
    refine Ev.bind (toIntS_f x (hr x (by simp))) ?_
    simp only [if_pos h6]
    rw [List.length_cons, List.replicate_succ, setL_mid]
    exact ih' h (fun y hy => hr y (by simp [hy]))
theorem toIntSS_f (l : List (List Int)) (h : l.length ≤ 1048576) (hr : ∀ r ∈ l, r.length ≤ BM) : Ev (fun k => laws_toIntSS.f k l) l := by
  unfold laws_toIntSS.f
  have e1 : 0 ≤ (l.length : Int) := by omega
  have e2 : (l.length : Int).toNat ≤ 11728124029610 := by omega
  simp only [if_pos e1, if_pos e2]
  exact toIntSS_l0 l [] (by simp only [BM]; simp; omega) hr
theorem eqIntSS_l0 : ∀ (rest done rest2 done2 : List (List Int)), done.length = done2.length → rest.length = rest2.length → (done ++ rest).length ≤ BM → (∀ r ∈ rest, r.length ≤ BM) → Ev (fun k => laws_eqIntSS.l0 k (done ++ rest) (done2 ++ rest2) done.length) (decide (rest = rest2)) := by
  intro rest
  induction rest with
  | nil =>
    intro done rest2 done2 hl hl2 h _
    obtain rfl : rest2 = [] := by simpa using hl2.symm
    exact Ev.step (fun k => by simp [laws_eqIntSS.l0]; rfl) (Ev.some (by simp))
  | cons x rest ih =>
    intro done rest2 done2 hl hl2 h hr
    obtain ⟨y, rest2, rfl⟩ : ∃ y r, rest2 = y :: r := by cases rest2 with | nil => simp at hl2 | cons y r => exact ⟨y, r, rfl⟩
    have ih' := ih (done ++ [x]) rest2 (done2 ++ [y]) (by simp [hl]) (by simpa using hl2)
    have hm : (done ++ x :: rest).length ≤ maxLen := by unfold maxLen; simp only [BM] at h; omega
    obtain ⟨h1, h2, h3, h4, h5⟩ := midL x done rest hm
    have hh : (done2 ++ y :: rest2).length ≤ maxLen := by simp at hm hl2 ⊢; omega
    obtain ⟨g1, g2, g3, g4, g5⟩ := midL y done2 rest2 hh
    rw [h5, g5] at ih'
    refine Ev.step (fun k => by rw [laws_eqIntSS.l0]) ?_
    rw [← hl] at g1 g3
    simp only [if_pos h1, if_pos h2, if_pos g1, h3, h4, g3]
    refine Ev.bind (eqIntS_f x y (hr x (by simp))) ?_
    by_cases e : x = y
    · subst e; simpa using ih' h (fun y hy => hr y (by simp [hy]))
    · simpa [e] using Ev.now false
theorem eqIntSS_f (l m : List (List Int)) (h : l.length ≤ BM) (hr : ∀ r ∈ l, r.length ≤ BM) : Ev (fun k => laws_eqIntSS.f k l m) (decide (l = m)) := by
  unfold laws_eqIntSS.f
  refine Ev.ite (fun e => ?_) (fun e => ?_)
  · exact eqIntSS_l0 l [] m [] rfl (by omega) h hr
  · exact Ev.some (by symm; simp; rintro rfl; exact e rfl)
theorem eqIntSS_same (l : List (List Int)) (h : l.length ≤ BM) (hr : ∀ r ∈ l, r.length ≤ BM) : Ev (fun k => laws_eqIntSS.f k l l) true := by simpa using eqIntSS_f l l h hr

end Go.Proofs.Ytojcnapdalpnmaa.K

namespace Go.Proofs.Ytojcnapdalpnmaa.K
open Go.RowKit Go.Proofs.YtojcnapdalpnmaaW.PrintWords
set_option linter.unusedVariables false
set_option linter.unusedSimpArgs false

/-- From some number of rounds on, the answer is whether P holds. -/
def EvB (g : Nat → Option Bool) (P : Prop) : Prop := (P → Ev g true) ∧ (¬ P → Ev g false)
theorem EvB.congr {g : Nat → Option Bool} {P Q : Prop} (h : EvB g P) (e : P ↔ Q) : EvB g Q := ⟨fun q => h.1 (e.2 q), fun q => h.2 (fun p => q (e.1 p))⟩
theorem EvB.ev {g : Nat → Option Bool} {P : Prop} (h : EvB g P) : ∃ b : Bool, Ev g b ∧ (b = true ↔ P) := by
  by_cases p : P
  · exact ⟨true, h.1 p, by simp [p]⟩
  · exact ⟨false, h.2 p, by simp [p]⟩
theorem EvB.of {g : Nat → Option Bool} {P : Prop} {b : Bool} (h : Ev g b) (e : b = true ↔ P) : EvB g P := by
  cases b with
  | true => exact ⟨fun _ => h, fun p => absurd (e.1 rfl) p⟩
  | false => exact ⟨fun p => absurd (e.2 p) (by simp), fun _ => h⟩
theorem EvB.true_ : EvB (fun _ => some true) True := ⟨fun _ => Ev.now _, fun h => absurd trivial h⟩
theorem EvB.false_ : EvB (fun _ => some false) False := ⟨fun h => h.elim, fun _ => Ev.now _⟩
theorem EvB.now (b : Bool) : EvB (fun _ => some b) (b = true) := EvB.of (Ev.now b) Iff.rfl
theorem EvB.fn {g f : Nat → Option Bool} {P : Prop} (h : ∀ k, g k = f k) (k : EvB f P) : EvB g P := ⟨fun p => Ev.congr h (k.1 p), fun p => Ev.congr h (k.2 p)⟩
theorem EvB.step {g f : Nat → Option Bool} {P : Prop} (h : ∀ k, g (k + 1) = f k) (k : EvB f P) : EvB g P := ⟨fun p => Ev.step h (k.1 p), fun p => Ev.step h (k.2 p)⟩
theorem EvB.ite {c : Prop} [Decidable c] {f g : Nat → Option Bool} {P Q : Prop} (h1 : c → EvB f P) (h2 : ¬ c → EvB g Q) : EvB (fun k => if c then f k else g k) ((c ∧ P) ∨ (¬ c ∧ Q)) := by
  by_cases h : c
  · simpa [h] using h1 h
  · simpa [h] using h2 h
/-- 'if test then go on else false' -/
theorem EvB.and {c : Prop} [Decidable c] {f : Nat → Option Bool} {P : Prop} (h1 : c → EvB f P) : EvB (fun k => if c then f k else some false) (c ∧ P) := by
  by_cases h : c
  · simpa [h] using h1 h
  · simpa [h] using EvB.false_
theorem EvB.bind {α : Type} {g : Nat → Option α} {f : Nat → α → Option Bool} {a : α} {P : Prop} (h : Ev g a) (k : EvB (fun n => f n a) P) : EvB (fun n => (g n).bind (f n)) P :=
  ⟨fun p => Ev.bind h (k.1 p), fun p => Ev.bind h (k.2 p)⟩
/-- a test by a call, then 'go on' or 'false' -/
theorem EvB.bindB {g : Nat → Option Bool} {f : Nat → Bool → Option Bool} {P Q : Prop} (h : EvB g P) (k1 : P → EvB (fun n => f n true) Q) (k2 : ¬ P → Ev (fun n => f n false) false) : EvB (fun n => (g n).bind (f n)) (P ∧ Q) := by
  by_cases p : P
  · exact (EvB.bind (h.1 p) (k1 p)).congr (by simp [p])
  · exact ⟨fun q => absurd q.1 p, fun _ => Ev.bind (h.2 p) (k2 p)⟩
/-- A loop that answers false where P fails, and goes on behind n. -/
theorem allLoop (g : Nat → Nat → Option Bool) (n : Nat) (P : Nat → Prop) (Q : Prop) (hend : EvB (g n) Q)
    (hs : ∀ j, j < n → ∀ R, EvB (g (j + 1)) R → EvB (g j) (P j ∧ R)) : ∀ d j, j + d = n → EvB (g j) ((∀ i, j ≤ i → i < n → P i) ∧ Q) := by
  intro d
  induction d with
  | zero =>
    intro j hj
    obtain rfl : j = n := by omega
    exact hend.congr ⟨fun q => ⟨fun i h1 h2 => by omega, q⟩, fun h => h.2⟩
  | succ d ih =>
    intro j hj
    refine (hs j (by omega) _ (ih (j + 1) (by omega))).congr ⟨?_, ?_⟩
    · rintro ⟨h1, h2, h3⟩
      refine ⟨fun i h4 h5 => ?_, h3⟩
      by_cases e : i = j
      · subst e; exact h1
      · exact h2 i (by omega) h5
    · rintro ⟨h1, h2⟩
      exact ⟨h1 j (Nat.le_refl _) (by omega), fun i h4 h5 => h1 i (by omega) h5, h2⟩
theorem allLoop0 (g : Nat → Nat → Option Bool) (n : Nat) (P : Nat → Prop) (Q : Prop) (hend : EvB (g n) Q)
    (hs : ∀ j, j < n → ∀ R, EvB (g (j + 1)) R → EvB (g j) (P j ∧ R)) : EvB (g 0) ((∀ i, i < n → P i) ∧ Q) :=
  (allLoop g n P Q hend hs n 0 (by omega)).congr ⟨fun h => ⟨fun i hi => h.1 i (Nat.zero_le _) hi, h.2⟩, fun h => ⟨fun i _ hi => h.1 i hi, h.2⟩⟩
/-- A loop over indices that carries a state. -/
theorem foldLoop {σ α : Type} (g : σ → Nat → Nat → Option α) (n : Nat) (f : σ → Nat → σ) (r : σ → α) (I : σ → Nat → Prop) (hend : ∀ s, I s n → Ev (g s n) (r s))
    (hs : ∀ s j, j < n → I s j → I (f s j) (j + 1) ∧ ∀ x, Ev (g (f s j) (j + 1)) x → Ev (g s j) x) : ∀ d s j, j + d = n → I s j → Ev (g s j) (r ((List.range' j d).foldl f s)) := by
  intro d
  induction d with
  | zero =>
    intro s j hj hi
    obtain rfl : j = n := by omega
    exact hend s hi
  | succ d ih =>
    intro s j hj hi
    obtain ⟨h1, h2⟩ := hs s j (by omega) hi
    rw [List.range'_succ, List.foldl_cons]
    exact h2 _ (ih _ _ (by omega) h1)
theorem wrap_nat (i : Nat) (h : i < 9223372036854775807) : wrap64 ((i : Int) + 1) = ((i + 1 : Nat) : Int) := by unfold wrap64; omega
/-- A list of natural numbers, as it stands in Go. -/
def ints (ns : List Nat) : List Int := ns.map (fun n : Nat => (n : Int))
theorem ints_length (ns : List Nat) : (ints ns).length = ns.length := by simp [ints]
theorem rd_ints (ns : List Nat) (i : Nat) : rd (ints ns) (i : Int) = ((ns.getD i 0 : Nat) : Int) := by
  simp only [rd, ints, Int.toNat_natCast, List.getD_eq_getElem?_getD, List.getElem?_map]
  cases ns[i]? <;> simp
theorem ints_of (l : List Int) (h : ∀ x ∈ l, 0 ≤ x) : ∃ ns, l = ints ns := by
  refine ⟨l.map Int.toNat, ?_⟩
  simp only [ints, List.map_map]
  rw [List.map_congr_left (g := id) (fun x hx => by have := h x hx; simp; omega)]
  simp
theorem ints_set (ns : List Nat) (i v : Nat) : (ints ns).set (i : Int).toNat (v : Int) = ints (ns.set i v) := by simp [ints, List.map_set]

end Go.Proofs.Ytojcnapdalpnmaa.K

namespace Go.Proofs.Ytojcnapdalpnmaa.K
open Go.RowKit Go.Proofs.YtojcnapdalpnmaaW.PrintWords Go.Proofs.Ytojcnapdalpnmaa.P
set_option linter.unusedVariables false
set_option linter.unusedSimpArgs false

theorem maGrid_l0 (l : List (List Int)) (h0 : 0 < l.length) : ∀ (rest done : List (List Int)), (done ++ rest).length ≤ BM → (∀ r ∈ rest, r.length ≤ BM) → Ev (fun k => spec_maGrid.l0 k l (done ++ rest) (done ++ rest).length done.length) (!rest.any (rowBad (rd_L1 l 0).length)) := by
  intro rest
  induction rest with
  | nil => intro done h _; exact Ev.step (fun k => by simp [spec_maGrid.l0]; rfl) (Ev.some (by simp))
  | cons x rest ih =>
    intro done h hr
    have ih' := ih (done ++ [x])
    obtain ⟨h1, h2, h3, h4, h5⟩ := midL x done rest (by unfold maxLen; simp only [BM] at h; omega)
    rw [h5] at ih'
    have h6 : 0 < (l.length : Int) := by omega
    refine Ev.step (fun k => by rw [spec_maGrid.l0]) ?_
    simp only [if_pos h1, if_pos h2, if_pos h6, h3, h4]
    by_cases e : (x.length : Int) = ((rd_L1 l 0).length : Int)
    · simp only [if_pos e]
      have e' : x.length = (rd_L1 l 0).length := by omega
      refine Ev.bind (l1All_f x 0 1 (hr x (by simp))) ?_
      cases hw : within 0 1 x with
      | true => simp only [if_true]; exact Ev.pair (ih' h (fun y hy => hr y (by simp [hy]))) (by simp [rowBad, hw, e'])
      | false => simpa [rowBad, hw] using Ev.now false
    · simp only [if_neg e]
      have e' : ¬ x.length = (rd_L1 l 0).length := by omega
      exact Ev.some (by simp [rowBad, e'])
theorem maGrid_f (l : List (List Int)) (h : l.length ≤ BM) (hr : ∀ r ∈ l, r.length ≤ BM) : Ev (fun k => spec_maGrid.f k l) (gridB l) := by
  unfold spec_maGrid.f
  simp only [l1In_f, Option.bind_some]
  have hj : ∀ l, Ev (fun k => spec_maGrid.j0 k l true) false := fun l => Ev.step (fun k => by rw [spec_maGrid.j0]) (by simpa using Ev.now _)
  by_cases h1 : 1 ≤ l.length ∧ l.length ≤ 6
  · rw [show (decide (1 ≤ (l.length : Int)) && decide ((l.length : Int) ≤ 6)) = true by simp; omega]
    have h2 : 0 < (l.length : Int) := by omega
    simp only [if_true, if_pos h2]
    by_cases h3 : 1 ≤ (rd_L1 l 0).length ∧ (rd_L1 l 0).length ≤ 6
    · rw [show (decide (1 ≤ ((rd_L1 l 0).length : Int)) && decide (((rd_L1 l 0).length : Int) ≤ 6)) = true by simp; omega]
      refine Ev.step (fun k => by rw [spec_maGrid.j0]) ?_
      simp only [Bool.not_true, Bool.false_eq_true, if_false]
      refine Ev.pair (maGrid_l0 l (by omega) l [] h hr) ?_
      unfold gridB
      rw [show decide (1 ≤ l.length) = true by simp; omega, show decide (l.length ≤ 6) = true by simp; omega, show decide (1 ≤ (rd_L1 l 0).length) = true by simp; omega, show decide ((rd_L1 l 0).length ≤ 6) = true by simp; omega]; simp
    · rw [show (decide (1 ≤ ((rd_L1 l 0).length : Int)) && decide (((rd_L1 l 0).length : Int) ≤ 6)) = false by simp; omega]
      exact Ev.pair (hj l) (by symm; simp [gridB]; omega)
  · rw [show (decide (1 ≤ (l.length : Int)) && decide ((l.length : Int) ≤ 6)) = false by simp; omega]
    simp only [Bool.false_eq_true, if_false]
    exact Ev.pair (hj l) (by symm; simp [gridB]; omega)
theorem IsGrid_f (l : List (List Int)) (h : l.length ≤ BM) (hr : ∀ r ∈ l, r.length ≤ BM) : impl_IsGrid.f l = some (gridB l) := by unfold impl_IsGrid.f; rw [if_pos ⟨h, hr⟩]
theorem grid_get {l : List (List Int)} (h : gridB l = true) : 1 ≤ l.length ∧ l.length ≤ 6 ∧ 1 ≤ (rd_L1 l 0).length ∧ (rd_L1 l 0).length ≤ 6 ∧ ∀ r ∈ l, r.length = (rd_L1 l 0).length ∧ ∀ x ∈ r, x = 0 ∨ x = 1 := by
  unfold gridB at h
  simp only [Bool.and_eq_true, decide_eq_true_eq, Bool.not_eq_true', List.any_eq_false] at h
  refine ⟨h.1.1, h.1.2, h.2.1.1, h.2.1.2, fun r hr => ?_⟩
  have := h.2.2 r hr
  simp only [rowBad, Bool.or_eq_true, Bool.not_eq_true', not_or, Bool.not_eq_false, decide_eq_true_eq, within, List.all_eq_true, Bool.and_eq_true] at this
  exact ⟨this.1, fun x hx => by have := this.2 x hx; omega⟩

end Go.Proofs.Ytojcnapdalpnmaa.K

namespace Go.Proofs.Ytojcnapdalpnmaa.K
open Go.RowKit Go.Proofs.YtojcnapdalpnmaaW.PrintWords
set_option linter.unusedVariables false
/-- A loop over indices that carries a state with an invariant; what goes on behind it answers for it. -/
theorem contLoopI {σ α : Type} (g : σ → Nat → Nat → Option α) (n : Nat) (I : σ → Nat → Prop)
    (hs : ∀ s j, j < n → I s j → ∃ s', I s' (j + 1) ∧ ∀ x, Ev (g s' (j + 1)) x → Ev (g s j) x) : ∀ d s j, j + d = n → I s j → ∃ s', I s' n ∧ ∀ x, Ev (g s' n) x → Ev (g s j) x := by
  intro d
  induction d with
  | zero =>
    intro s j hj hi
    obtain rfl : j = n := by omega
    exact ⟨s, hi, fun x h => h⟩
  | succ d ih =>
    intro s j hj hi
    obtain ⟨s1, h1, h2⟩ := hs s j (by omega) hi
    obtain ⟨s2, h3, h4⟩ := ih _ _ (by omega) h1
    exact ⟨s2, h3, fun x h => h2 x (h4 x h)⟩

end Go.Proofs.Ytojcnapdalpnmaa.K

namespace Go.Proofs.Ytojcnapdalpnmaa.K
open Go.RowKit Go.Proofs.YtojcnapdalpnmaaW.PrintWords Go.Proofs.Ytojcnapdalpnmaa.P
set_option linter.unusedVariables false
set_option linter.unusedSimpArgs false
/-- The first i places of column j; the first n columns with i places each. -/
def colI (l : List (List Int)) (j i : Nat) : List Int := (List.range i).map fun (i' : Nat) => rd (rd_L1 l (i' : Int)) (j : Int)
def colsI (l : List (List Int)) (n i : Nat) : List (List Int) := (List.range n).map fun j => colI l j i
theorem colI_succ (l : List (List Int)) (j i : Nat) : colI l j (i + 1) = colI l j i ++ [rd (rd_L1 l (i : Int)) (j : Int)] := by simp [colI, List.range_succ]
theorem colI_length (l : List (List Int)) (j i : Nat) : (colI l j i).length = i := by simp [colI]
theorem colsI_length (l : List (List Int)) (n i : Nat) : (colsI l n i).length = n := by simp [colsI]
theorem rdL_mem {l : List (List Int)} {i : Nat} (h : i < l.length) : rd_L1 l (i : Int) ∈ l := by
  unfold rd_L1
  simp [List.getD_eq_getElem?_getD, List.getElem?_eq_getElem h]
theorem spec_turn_f {l : List (List Int)} (hg : gridB l = true) (h4 : l.length ≤ BM) (h5 : ∀ r ∈ l, r.length ≤ BM) : Ev (fun k => spec_TurnGrid.f k l) (colsI l (rd_L1 l 0).length l.length, true) := by
  obtain ⟨g1, g2, g3, g4, g5⟩ := grid_get hg
  have p0 : 0 < (l.length : Int) := by omega
  unfold spec_TurnGrid.f
  refine Ev.bind (maGrid_f l h4 h5) ?_
  simp only [hg, if_true, if_pos p0]
  have L1 : ∀ (j : Nat) (x4 : List (List Int)) (x14 : Int), j < (rd_L1 l 0).length → x4.length = j → ∀ x, Ev (fun k => spec_TurnGrid.l0 k l (x4 ++ [colI l j l.length]) x14 ((j + 1 : Nat) : Int)) x → Ev (fun k => spec_TurnGrid.l1 k l x4 j ([] : List Int) x14 j (l.length : Int) 0) x := by
    intro j x4 x14 hj hx4 x hx
    obtain ⟨s', rfl, h2⟩ := contLoopI (fun s i k => spec_TurnGrid.l1 k l x4 j s x14 j (l.length : Int) (i : Int)) l.length (fun s i => s = colI l j i)
      (fun s i hi hs => by
        subst hs
        refine ⟨colI l j (i + 1), rfl, fun x hx => Ev.step (fun k => by rw [spec_TurnGrid.l1]) ?_⟩
        have e1 := (g5 _ (rdL_mem hi)).1
        have q1 : (i : Int) < (l.length : Int) := by omega
        have q2 : 0 ≤ (i : Int) := by omega
        have q3 : 0 ≤ (j : Int) := by omega
        have q4 : (j : Int) < ((rd_L1 l (i : Int)).length : Int) := by omega
        have q5 : (colI l j i).length < 17592186044416 := by rw [colI_length]; omega
        simp only [if_pos q1, if_pos q2, if_pos q3, if_pos q4, if_pos q5, wrap_nat i (by omega), ← colI_succ]
        exact hx) l.length [] 0 (by omega) rfl
    refine h2 x (Ev.step (fun k => by rw [spec_TurnGrid.l1]) ?_)
    have q1 : ¬ (l.length : Int) < (l.length : Int) := by omega
    have q2 : x4.length < 5864062014805 := by omega
    simp only [if_neg q1, if_pos q2, wrap_nat j (by omega)]
    exact hx
  obtain ⟨s', rfl, h2⟩ := contLoopI (fun s j k => spec_TurnGrid.l0 k l s ((rd_L1 l 0).length : Int) (j : Int)) (rd_L1 l 0).length (fun s j => s = colsI l j l.length)
    (fun s j hj hs => by
      subst hs
      refine ⟨colsI l (j + 1) l.length, rfl, fun x hx => Ev.step (fun k => by rw [spec_TurnGrid.l0]) ?_⟩
      have q1 : (j : Int) < ((rd_L1 l 0).length : Int) := by omega
      simp only [if_pos q1]
      refine L1 j _ _ hj (colsI_length ..) x ?_
      have : colsI l j l.length ++ [colI l j l.length] = colsI l (j + 1) l.length := by simp [colsI, List.range_succ]
      rw [this]; exact hx) (rd_L1 l 0).length [] 0 (by omega) rfl
  refine h2 _ (Ev.step (fun k => by rw [spec_TurnGrid.l0]) ?_)
  have q1 : ¬ ((rd_L1 l 0).length : Int) < ((rd_L1 l 0).length : Int) := by omega
  simp only [if_neg q1]
  exact Ev.now _
theorem impl_turn_f {l : List (List Int)} (hg : gridB l = true) (h4 : l.length ≤ BM) (h5 : ∀ r ∈ l, r.length ≤ BM) : Ev (fun k => impl_TurnGrid.f k l) (colsI l (rd_L1 l 0).length l.length, true) := by
  obtain ⟨g1, g2, g3, g4, g5⟩ := grid_get hg
  have p0 : 0 < (l.length : Int) := by omega
  unfold impl_TurnGrid.f
  simp only [IsGrid_f l h4 h5, hg, Option.bind_some, if_true]
  suffices h : Ev (fun k => impl_turn.f k l) (colsI l (rd_L1 l 0).length l.length) from Ev.bind h (Ev.now _)
  unfold impl_turn.f
  have p1 : 0 ≤ ((rd_L1 l 0).length : Int) := by omega
  have p2 : (((rd_L1 l 0).length : Int) : Int).toNat ≤ 11728124029610 := by omega
  simp only [if_pos p0, if_pos p1, if_pos p2]
  generalize hn : (rd_L1 l 0).length = n at *
  have hst : List.replicate ((n : Int)).toNat ([] : List Int) = colsI l n 0 := by
    simp [colsI, colI, List.map_const']
  rw [hst]
  obtain ⟨s', rfl, h2⟩ := contLoopI (fun s i k => impl_turn.l0 k s l (l.length : Int) (i : Int)) l.length (fun s i => s = colsI l n i)
    (fun s i hi hs => by
      subst hs
      refine ⟨colsI l n (i + 1), rfl, fun x hx => Ev.step (fun k => by rw [impl_turn.l0]) ?_⟩
      have e1 : (rd_L1 l (i : Int)).length = n := (g5 _ (rdL_mem hi)).1
      have q1 : (i : Int) < (l.length : Int) := by omega
      have q2 : 0 ≤ (i : Int) := by omega
      simp only [if_pos q1, if_pos q2]
      obtain ⟨s', hs', h2⟩ := contLoopI (fun s j k => impl_turn.l1 k s l (l.length : Int) i (rd_L1 l (i : Int)) ((rd_L1 l (i : Int)).length : Int) (j : Int)) n (fun s j => s = (List.range n).map fun j' => colI l j' (if j' < j then i + 1 else i))
        (fun s j hj hs => by
          refine ⟨_, rfl, fun x hx => Ev.step (fun k => by rw [impl_turn.l1]) ?_⟩
          have hsl : s.length = n := by rw [hs]; simp
          have q1 : (j : Int) < ((rd_L1 l (i : Int)).length : Int) := by omega
          have q2 : 0 ≤ (j : Int) := by omega
          have q3 : (j : Int) < (s.length : Int) := by omega
          have hr : rd_L1 s (j : Int) = colI l j i := by
            rw [hs]; unfold rd_L1; simp [List.getD_eq_getElem?_getD, hj]
          have q4 : (rd_L1 s (j : Int)).length < 17592186044416 := by rw [hr, colI_length]; omega
          simp only [if_pos q1, if_pos q2, if_pos q3, if_pos q4, wrap_nat j (by omega)]
          have hset : s.set (j : Int).toNat (rd_L1 s (j : Int) ++ [rd (rd_L1 l (i : Int)) (j : Int)]) = (List.range n).map fun j' => colI l j' (if j' < j + 1 then i + 1 else i) := by
            rw [hr, ← colI_succ, Int.toNat_natCast]
            apply List.ext_getElem
            · simp [hsl]
            · intro m hm1 hm2
              subst hs
              simp only [List.getElem_set, List.getElem_map, List.getElem_range]
              by_cases e : j = m
              · subst e; simp
              · rw [if_neg e]
                by_cases e2 : m < j
                · rw [if_pos e2, if_pos (by omega)]
                · rw [if_neg e2, if_neg (by omega)]
          rw [hset]; exact hx) n (colsI l n i) 0 (by omega) (by simp [colsI])
      have hs2 : s' = colsI l n (i + 1) := by
        rw [hs']; unfold colsI; apply List.map_congr_left; intro j' hj'; rw [if_pos (List.mem_range.1 hj')]
      subst hs2
      refine h2 x (Ev.step (fun k => by rw [impl_turn.l1]) ?_)
      have q1 : ¬ (n : Int) < ((rd_L1 l (i : Int)).length : Int) := by omega
      simp only [if_neg q1, wrap_nat i (by omega)]
      exact hx) l.length (colsI l n 0) 0 (by omega) rfl
  refine h2 _ (Ev.step (fun k => by rw [impl_turn.l0]) ?_)
  have q1 : ¬ (l.length : Int) < (l.length : Int) := by omega
  simp only [if_neg q1]
  exact Ev.now _

end Go.Proofs.Ytojcnapdalpnmaa.K

namespace Go.Proofs.Ytojcnapdalpnmaa.K
open Go.RowKit Go.Proofs.YtojcnapdalpnmaaW.PrintWords Go.Proofs.Ytojcnapdalpnmaa.P
set_option linter.unusedVariables false
set_option linter.unusedSimpArgs false

theorem seqOf_from (a : Int) (n : Nat) : seqOf a n = seqFrom a n := by
  induction n generalizing a with
  | zero => rfl
  | succ n ih => simp [seqOf, seqFrom, ih]
theorem seqRows_length (a : Int) (l : List (List Int)) : (seqRows a l).2.length = l.length := by
  induction l generalizing a with
  | nil => rfl
  | cons r l ih => simp [seqRows, ih]
theorem seqRows_le (a : Int) (l : List (List Int)) : a ≤ (seqRows a l).1 := by
  induction l generalizing a with
  | nil => simp [seqRows]
  | cons r l ih => have := ih (a + r.length); simp only [seqRows]; omega
theorem markSS_f (l : List (List Int)) (h : l.length ≤ 1048576) (hr : ∀ r ∈ l, r.length ≤ 1048576) : laws_markIntSS.f l 1 = some (seqRows 1 l) := by
  unfold laws_markIntSS.f
  rw [if_pos ⟨by omega, by omega, h, hr⟩]
theorem heldSS_l0 : ∀ (rest : List (List Int)) (done : List (List Int)) (b : Int), (done ++ (seqRows b rest).2).length ≤ 1048576 → (∀ r ∈ rest, r.length ≤ 1048576) → 0 ≤ b → b ≤ 1048576 + 1048576 * done.length → Ev (fun k => laws_heldIntSS.l0 k (done ++ (seqRows b rest).2) b done.length) (seqRows b rest).1 := by
  intro rest
  induction rest with
  | nil => intro done b h _ _ _; exact Ev.step (fun k => by simp [laws_heldIntSS.l0, seqRows]; rfl) (Ev.some (by simp [seqRows]))
  | cons x rest ih =>
    intro done b h hr h0 hb
    simp only [seqRows] at h ⊢
    have hx := hr x (by simp)
    have hlen : (done ++ seqOf b x.length :: (seqRows (b + x.length) rest).2).length = done.length + 1 + rest.length := by simp [seqRows_length]; omega
    have ih' := ih (done ++ [seqOf b x.length]) (b + x.length) (by simpa using h) (fun r h => hr r (by simp [h])) (by omega) (by rw [List.length_append, List.length_singleton]; omega)
    have h1 : (done.length : Int) < ((done ++ seqOf b x.length :: (seqRows (b + x.length) rest).2).length : Int) := by omega
    have h2 : 0 ≤ (done.length : Int) := by omega
    have h3 : rd_L1 (done ++ seqOf b x.length :: (seqRows (b + x.length) rest).2) (done.length : Int) = seqOf b x.length := by simp [rd_L1]
    have h4 : wrap64 ((done.length : Int) + 1) = ((done ++ [seqOf b x.length]).length : Int) := by rw [wrap_nat _ (by omega)]; simp
    refine Ev.step (fun k => by rw [laws_heldIntSS.l0]) ?_
    simp only [if_pos h1, if_pos h2, h3, h4]
    have hd : Ev (fun k => laws_heldIntS.f k (seqOf b x.length) b) (b + x.length) := by rw [seqOf_from]; exact heldIntS_f b x.length (by simp only [BM]; omega) h0 (by omega)
    refine Ev.bind hd ?_
    have h5 : ¬ (b + (x.length : Int) < 0) := by omega
    simp only [if_neg h5]
    simpa using ih'
theorem heldSS_f (l : List (List Int)) (h : l.length ≤ 1048576) (hr : ∀ r ∈ l, r.length ≤ 1048576) : Ev (fun k => laws_heldIntSS.f k (seqRows 1 l).2 1) (seqRows 1 l).1 := by
  unfold laws_heldIntSS.f
  exact heldSS_l0 l [] 1 (by simpa [seqRows_length] using h) hr (by omega) (by simp)

end Go.Proofs.Ytojcnapdalpnmaa.K

/- The law FnExactTurnGrid: the program's TurnGrid answers as the reference's, for all slices of rows (no condition); what the walk asks of the functions that it calls. -/
namespace Go.Proofs.Ytojcnapdalpnmaa.Pure
open Go.RowKit Go.Proofs.YtojcnapdalpnmaaW.PrintWords Go.Proofs.Ytojcnapdalpnmaa.P Go.Proofs.Ytojcnapdalpnmaa.K
set_option linter.unusedVariables false
set_option linter.unusedSimpArgs false

theorem FnExactTurnGrid : ∀ (l : List (List Int)), l.length ≤ maxLen → (∀ r ∈ l, r.length ≤ maxLen ∧ ∀ n ∈ r, (Lit.int .i64 n).wf = true) → laws_FnExactTurnGrid.Good l true := by
  intro l hl hr
  obtain ⟨r, hr1, _, hr2⟩ := szIntSS_f l 1048576 hl (fun r h => (hr r h).1) (by omega) (by omega)
  refine ⟨rfl, r, Ev.rounds hr1, ?_⟩
  by_cases h : r < 0
  · exact Or.inl h
  · obtain ⟨h1, h2⟩ := hr2 (by omega)
    have h3 : l.length ≤ 1048576 := by omega
    have h4 : l.length ≤ BM := by simp only [BM]; omega
    have h5 : ∀ r ∈ l, r.length ≤ BM := fun x hx => by have := h2 x hx; simp only [BM]; omega
    have h6 : ∀ r ∈ l, r.length ≤ 1048576 := fun x hx => by have := h2 x hx; omega
    obtain ⟨wl, wb, hs, hi, w1, w2⟩ : ∃ (wl : List (List Int)) (wb : Bool), Ev (fun k => spec_TurnGrid.f k l) (wl, wb) ∧ Ev (fun k => impl_TurnGrid.f k l) (wl, wb) ∧ wl.length ≤ 1048576 ∧ ∀ r ∈ wl, r.length ≤ 1048576 := by
      cases hg : gridB l with
      | true =>
        obtain ⟨g1, g2, g3, g4, g5⟩ := grid_get hg
        refine ⟨_, _, spec_turn_f hg h4 h5, impl_turn_f hg h4 h5, by rw [colsI_length]; omega, fun r hr => ?_⟩
        obtain ⟨j, -, rfl⟩ := List.mem_map.1 hr
        rw [colI_length]; omega
      | false =>
        refine ⟨[], false, ?_, ?_, by simp, by simp⟩
        · unfold spec_TurnGrid.f
          refine Ev.bind (maGrid_f l h4 h5) ?_
          simp only [hg, Bool.false_eq_true, if_false]
          exact Ev.now _
        · unfold impl_TurnGrid.f
          simp only [IsGrid_f l h4 h5, hg, Option.bind_some, Bool.false_eq_true, if_false]
          exact Ev.now _
    have e1 := seqRows_le 1 l
    have e2 := seqRows_le 1 wl
    refine Or.inr ⟨by omega, wl, (seqRows 1 wl).2, (seqRows 1 l).2, wb, (seqRows 1 l).1, (seqRows 1 wl).1, Ev.rounds (toIntSS_f l h3 h5), Ev.rounds hs, Ev.rounds hi, Ev.rounds (eqIntSS_same wl ?_ ?_), Ev.rounds (eqIntSS_same l h4 h5), markSS_f l h3 h6, markSS_f wl w1 w2, Ev.rounds (heldSS_f wl w1 w2), by omega, by omega, seqRows_length ..⟩
    · simp only [BM]; omega
    · intro r hr; have := w2 r hr; simp only [BM]; omega

end Go.Proofs.Ytojcnapdalpnmaa.Pure

namespace Go.Proofs.Ytojcnapdalpnmaa.K
open Go.RowKit Go.ChangeShapes Go.WideShapes Go.ChangeAt Go.Deep Go.Proofs.YtojcnapdalpnmaaW.PrintWords
set_option linter.unusedVariables false
set_option linter.unusedSimpArgs false
section
variable {H : Type} {enc : TypeId × Value → H} {P : Program} {w : World}

/-- A row of whole numbers among the arguments. -/
theorem open_row {t e : TypeId} {fuel : Nat} {cs : List Value} {x : DataW H × List MemPlace} (ht : P.underlying t = some (.slice e)) (he : P.underlying e = some (.int .i64)) (hc : P.cellsOf e = 1)
    (h : DataW.trod enc P w 0 (fun _ => true) true fuel t cs = some x) :
    ∃ (A : Option Addr) (c : Nat) (l : List Int), cs = [.slice A l.length c] ∧ l.length ≤ c ∧ l.length ≤ maxLen ∧ (∀ n ∈ l, (Lit.int .i64 n).wf = true) ∧ Kd.C (Kd.int .i64) w A l.length l := by
  rcases open_ints ht he hc h with ⟨rfl, _⟩ | ⟨a, l, c, zs, rfl, _, hl, hm, hz, _, hcell, hwz⟩
  · exact ⟨none, 0, [], rfl, Nat.le_refl _, by simp [maxLen], by simp, Kd.C_nil _ _⟩
  · obtain ⟨l0, rfl, hr0, hm0, hw0, hc0⟩ := ReadsInt.ofRowC (k := .i64) (w := w) (a := some a) (len := l) (cap := c) (zs := zs) (.inr ⟨a, rfl, hl, hm, by simpa using hz, hcell, hwz⟩)
    exact ⟨some a, c, l0, rfl, hc0, hm0, hw0, Kd.C_of_reads (d := (0 : Int)) (h1 := fun _ => rfl) hr0⟩
/-- A slice of rows of whole numbers among the arguments. -/
theorem open_rows {t e q : TypeId} {fuel : Nat} {cs : List Value} {x : DataW H × List MemPlace} (ht : P.underlying t = some (.slice e)) (he : P.underlying e = some (.slice q)) (hq : P.underlying q = some (.int .i64))
    (ce : P.cellsOf e = 1) (cq : P.cellsOf q = 1) (h : DataW.trod enc P w 0 (fun _ => true) true fuel t cs = some x) :
    ∃ (A : Option Addr) (c : Nat) (l : List (List Int)), cs = [.slice A l.length c] ∧ l.length ≤ c ∧ l.length ≤ maxLen ∧ (∀ r ∈ l, r.length ≤ maxLen ∧ ∀ n ∈ r, (Lit.int .i64 n).wf = true) ∧ Kd.C (Kd.slice q (Kd.int .i64)) w A l.length l := by
  rcases open_int_rows ht he hq ce cq h with ⟨rfl, _⟩ | ⟨a, len, cap, A, L, C, Z, rfl, _, hl, hm, _, hr⟩
  · exact ⟨none, 0, [], rfl, Nat.le_refl _, by simp [maxLen], by simp, Kd.C_nil _ _⟩
  · have hrow : ∀ r, r < cap → ∃ l0 : List Int, L r = l0.length ∧ l0.length ≤ C r ∧ l0.length ≤ maxLen ∧ (∀ n ∈ l0, (Lit.int .i64 n).wf = true) ∧ Kd.C (Kd.int .i64) w (A r) l0.length l0 := by
      intro r hrc
      obtain ⟨h1, h2, h3, h4, h5, h6, h7⟩ := hr r hrc
      cases hA : A r with
      | none =>
        have hC := h6 hA
        exact ⟨[], by simp; omega, by simp, by simp [maxLen], by simp, Kd.C_nil _ _⟩
      | some a' =>
        obtain ⟨_, h8⟩ := h7 a' hA
        obtain ⟨l0, e0, hr0, hm0, hw0, hc0⟩ := ReadsInt.ofRowC (k := .i64) (w := w) (a := some a') (len := L r) (cap := C r) (zs := Z r) (.inr ⟨a', rfl, h2, h3, h4, fun i hi => h8 i (by omega), h5⟩)
        exact ⟨l0, e0, hc0, hm0, hw0, Kd.C_of_reads (d := (0 : Int)) (h1 := fun _ => rfl) hr0⟩
    let F : Nat → List Int := fun r => if h : r < cap then Classical.choose (hrow r h) else []
    have hF : ∀ r, r < cap → L r = (F r).length ∧ (F r).length ≤ C r ∧ (F r).length ≤ maxLen ∧ (∀ n ∈ F r, (Lit.int .i64 n).wf = true) ∧ Kd.C (Kd.int .i64) w (A r) (F r).length (F r) := by
      intro r h
      have := Classical.choose_spec (hrow r h)
      simpa [F, h] using this
    refine ⟨some a, cap, (List.range len).map F, by simp, by simpa using hl, by simp; omega, ?_, ?_⟩
    · intro r hmem
      obtain ⟨i, hi, rfl⟩ := List.mem_map.1 hmem
      have := hF i (by have := List.mem_range.1 hi; omega)
      exact ⟨this.2.2.1, this.2.2.2.1⟩
    · refine ⟨by simp, by simp; unfold maxLen at hm; omega, fun _ => ⟨a, rfl, ?_⟩⟩
      intro j p hp
      obtain ⟨hj, rfl⟩ : j < len ∧ F j = p := by
        rw [List.getElem?_map] at hp
        by_cases hj : j < len
        · rw [List.getElem?_range hj] at hp; simpa [hj] using hp
        · rw [List.getElem?_eq_none (by simp; omega)] at hp; simp at hp
      obtain ⟨f1, f2, f3, f4, f5⟩ := hF j (by omega)
      obtain ⟨h1, _⟩ := hr j (by omega)
      refine ⟨[.slice (A j) (F j).length (C j)], rfl, ⟨A j, C j, rfl, f2, f5⟩, ?_⟩
      intro i u hu
      cases i with
      | zero =>
        obtain rfl : Value.slice (A j) (F j).length (C j) = u := by simpa using hu
        rw [f1] at h1
        show w.cell? (a.add (j * 1 + 0)) = _
        rw [Nat.mul_one, Nat.add_zero]; exact h1
      | succ i => simp at hu
end
end Go.Proofs.Ytojcnapdalpnmaa.K

/- The row of the law FnExactTurnGrid: for every input the call returns true, and the arguments read as before; out of the law's pure statement and the walk. No condition. -/
namespace Go.Proofs.Ytojcnapdalpnmaa.fnExactTurnGrid
open Go.ChangeShapes Go.WideShapes Go.ChangeAt Go.RowKit
open Go.ChangeMaps (open_string shut_string)
set_option linter.unusedVariables false
set_option linter.unusedSimpArgs false
theorem own : ownKnob Try.prog.godebug = none := by kernel_rfl
theorem laidOut : laidOutB Try.prog = true := by kernel_rfl
set_option maxRecDepth 100000 in
theorem lifted (os : Os) (started : os.Started) (H : Type) (enc : TypeId × Value → H) :
    ReturnsInHanded {} Try.checked os 6 .any (Rows.fnExactTurnGridSpec.pre6 enc Try.prog Try.f6 Rows.fnExactTurnGridRow.domain false) (Rows.fnExactTurnGridSpec.post enc Try.prog Try.f6 false true false false) := by
  refine returnsInHanded_of_change_sized (C := Try.checked) own started (by kernel_rfl) Try.func6
    (ChangeSpec.witness6 (enc := enc) (C := Try.checked) false ⟨#[], #[.slice none 0 0], []⟩ 8 (by kernel_rfl) (by kernel_rfl) (by kernel_rfl) (by kernel_rfl)) ?_
  intro W base args ds gs before hval0 hW hcnd hsz0 _
  have hsz : (DataW.weightsEach Try.prog (Try.f6.params.toList ++ Rows.fnExactTurnGridSpec.plain.varTypes Try.prog) (ds ++ gs)).all (· ≤ reachBytes) = true := hsz0
  have hval : ∀ (j : Nat) t v, Try.f6.params[j]? = some t → args[j]? = some v → Value.okWide Try.prog W .any base t v := hval0
  have hW' := hW
  obtain ⟨p, q, hA0, hV, rfl, hfz, hnd⟩ := hW
  have hA : DataW.TrodAll enc Try.prog W 0 (fun _ => true) true Try.f6.params.toList args.toList ds p := hA0
  rw [Try.params6] at hA hval hsz
  obtain ⟨v0, vs0, d0, ds0, p0, q0, hargs, rfl, rfl, h0, r0⟩ := trodAll_cons hA
  obtain ⟨rfl, rfl, rfl⟩ := trodAll_nil r0
  obtain rfl : args = #[v0] := by cases args; simp_all
  obtain ⟨rfl, rfl⟩ := trodVars_none hV
  obtain ⟨a0, len0, cap0, rfl⟩ := okWide_slice Try.underlying22 (hval 0 22 v0 rfl rfl)
  have k0 := h0
  have lt0 : ∀ x ∈ p0, x.block < W.heap.size := by obtain ⟨m, hm⟩ := k0; exact DataW.trod_lt m _ _ _ hm
  obtain ⟨fuel0, hf0⟩ := h0
  obtain ⟨A0, c0, l0, hcs0, hc0, hm0, hw0, hr0⟩ := K.open_rows Try.underlying22 Try.underlying33 Try.underlying3 (by kernel_rfl) (by kernel_rfl) hf0
  simp only [Value.cells, List.cons.injEq, and_true, Value.slice.injEq] at hcs0
  obtain ⟨rfl, rfl, rfl⟩ := hcs0
  clear hA0 hval0 hsz0 hsz
  have hk := Pure.FnExactTurnGrid l0 hm0 hw0
  refine (P.laws_FnExactTurnGrid.calls _ _ l0 true W hr0 hc0 hk).mono fun e W' ⟨he, bel⟩ => ?_
  subst he
  exact ⟨_, rfl, _, _, _, [], _, [], hW', trodAll_mk1 (shut_bool Try.underlying4 _), (trodAll_cons_mk (Below.trod laidOut (by kernel_rfl) (of_decide_eq_true (by kernel_rfl)) k0 bel lt0) trodAll_mk0), rfl, bel.frame _, fun h => by cases h⟩
set_option maxHeartbeats 4000000 in
theorem joined : joinedFacts Try.prog 6 Try.f6 Rows.fnExactTurnGridSpec Rows.fnExactTurnGridRow = true := by
  unfold joinedFacts
  repeat' (with_reducible refine (Bool.and_eq_true _ _).mpr ⟨?_, ?_⟩)
  all_goals first
    | (with_reducible exact Head.mayEnter)
    | ((with_reducible rw [Head.lifts]); rfl)
    | ((with_reducible rw [Head.make]); rfl)
    | (as_aux_lemma => kernel_rfl)
theorem over : Rows.fnExactTurnGridRow.holds Try.pinned (OpenSpec.ofChange Rows.fnExactTurnGridSpec) :=
  OpenClaim.holds_of_wide 6 Try.f6 rfl rfl rfl rfl rfl rfl rfl ⟨rfl, rfl, rfl, rfl, rfl⟩ rfl rfl rfl rfl rfl (by kernel_rfl) Try.func6 joined
    (of_decide_eq_true (by kernel_rfl)) (by unfold Func.isWrapper; first | (rw [if_pos (by decide +kernel)]; kernel_rfl) | (rw [if_neg (by decide +kernel)]; exact ⟨rfl, rfl⟩))
    (fun os started H enc _ => lifted os started H enc)
theorem proved : Rows.FnExactTurnGridSaid := over
#print axioms proved
end Go.Proofs.Ytojcnapdalpnmaa.fnExactTurnGrid
namespace Go.Proofs.Ytojcnapdalpnmaa
/-- The row, under a short name, for the claim. -/
theorem fnExactTurnGrid_holds : Rows.FnExactTurnGridSaid := fnExactTurnGrid.proved
end Go.Proofs.Ytojcnapdalpnmaa
