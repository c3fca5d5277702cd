/- The row of the law FnExactGridRefusal: contracts and plain lemmas for the law FnExactGridRefusal, part 2 of 2: what the Go functions that it reaches answer. No condition beyond those in each statement. -/
import Derived.Test.YtojcnapdalpnmaaWWords
import Derived.Test.YtojcnapdalpnmaaRows
import Derived.WalkKit
import Derived.ProofKit
import Derived.OpenShut
import Derived.ShutString
import Derived.ChangeOld
import Derived.Below
import Derived.SizedLaws
import Derived.Test.YtojcnapdalpnmaaWSized
import Derived.Test.YtojcnapdalpnmaaCFnExactGridRefusala
namespace Go.Proofs.Ytojcnapdalpnmaa.K
open Go.RowKit Go.Proofs.YtojcnapdalpnmaaW.PrintWords
set_option linter.unusedVariables false
set_option linter.unusedSimpArgs false

/-- A bound on the lengths of rows that come in. -/
abbrev BM : Nat := 17592186044416
theorem le_BM {n : Nat} (h : n * 8 ≤ 140737488351232) : n ≤ BM := by simp only [BM]; omega
theorem wrap_id {x : Int} (h1 : -9223372036854775808 ≤ x) (h2 : x < 9223372036854775808) : wrap64 x = x := by unfold wrap64; omega
/-- The head of a round of a loop over a list. -/
theorem mid (x : Int) (done rest : List Int) (h : (done ++ x :: rest).length ≤ BM) :
    ((done.length : Int) < ((done ++ x :: rest).length : Int)) ∧ 0 ≤ (done.length : Int) ∧ rd (done ++ x :: rest) (done.length : Int) = x ∧ wrap64 ((done.length : Int) + 1) = ((done ++ [x]).length : Int) ∧ done ++ [x] ++ rest = done ++ x :: rest := by
  simp only [BM] at h
  refine ⟨by simp; omega, by omega, by simp [rd], ?_, by simp⟩
  simp at h ⊢
  unfold wrap64; omega
theorem Ev.ite {α : Type} {c : Prop} [Decidable c] {f g : Nat → Option α} {r : α} (h1 : c → Ev f r) (h2 : ¬ c → Ev g r) : Ev (fun k => if c then f k else g k) r := by
  by_cases h : c
  · simpa [h] using h1 h
  · simpa [h] using h2 h
theorem Ev.some {α : Type} {r r' : α} (h : r = r') : Ev (fun _ => Option.some r) r' := h ▸ Ev.now r
theorem Ev.pair {α : Type} {f : Nat → Option α} {r r' : α} (h : Ev f r) (e : r = r') : Ev f r' := e ▸ h
theorem set_mid (y x : Int) (done rest : List Int) : (done ++ y :: rest).set (done.length : Int).toNat x = done ++ [x] ++ rest := by simp

end Go.Proofs.Ytojcnapdalpnmaa.K

namespace Go.Proofs.Ytojcnapdalpnmaa.K
open Go.RowKit Go.Proofs.YtojcnapdalpnmaaW.PrintWords
set_option linter.unusedVariables false
set_option linter.unusedSimpArgs false

/-- From some number of rounds on, the answer is whether P holds. -/
def EvB (g : Nat → Option Bool) (P : Prop) : Prop := (P → Ev g true) ∧ (¬ P → Ev g false)
theorem EvB.congr {g : Nat → Option Bool} {P Q : Prop} (h : EvB g P) (e : P ↔ Q) : EvB g Q := ⟨fun q => h.1 (e.2 q), fun q => h.2 (fun p => q (e.1 p))⟩
theorem EvB.ev {g : Nat → Option Bool} {P : Prop} (h : EvB g P) : ∃ b : Bool, Ev g b ∧ (b = true ↔ P) := by
  by_cases p : P
  · exact ⟨true, h.1 p, by simp [p]⟩
  · exact ⟨false, h.2 p, by simp [p]⟩
theorem EvB.of {g : Nat → Option Bool} {P : Prop} {b : Bool} (h : Ev g b) (e : b = true ↔ P) : EvB g P := by
  cases b with
  | true => exact ⟨fun _ => h, fun p => absurd (e.1 rfl) p⟩
  | false => exact ⟨fun p => absurd (e.2 p) (by simp), fun _ => h⟩
theorem EvB.true_ : EvB (fun _ => some true) True := ⟨fun _ => Ev.now _, fun h => absurd trivial h⟩
theorem EvB.false_ : EvB (fun _ => some false) False := ⟨fun h => h.elim, fun _ => Ev.now _⟩
theorem EvB.now (b : Bool) : EvB (fun _ => some b) (b = true) := EvB.of (Ev.now b) Iff.rfl
theorem EvB.fn {g f : Nat → Option Bool} {P : Prop} (h : ∀ k, g k = f k) (k : EvB f P) : EvB g P := ⟨fun p => Ev.congr h (k.1 p), fun p => Ev.congr h (k.2 p)⟩
theorem EvB.step {g f : Nat → Option Bool} {P : Prop} (h : ∀ k, g (k + 1) = f k) (k : EvB f P) : EvB g P := ⟨fun p => Ev.step h (k.1 p), fun p => Ev.step h (k.2 p)⟩
theorem EvB.ite {c : Prop} [Decidable c] {f g : Nat → Option Bool} {P Q : Prop} (h1 : c → EvB f P) (h2 : ¬ c → EvB g Q) : EvB (fun k => if c then f k else g k) ((c ∧ P) ∨ (¬ c ∧ Q)) := by
  by_cases h : c
  · simpa [h] using h1 h
  · simpa [h] using h2 h
/-- 'if test then go on else false' -/
theorem EvB.and {c : Prop} [Decidable c] {f : Nat → Option Bool} {P : Prop} (h1 : c → EvB f P) : EvB (fun k => if c then f k else some false) (c ∧ P) := by
  by_cases h : c
  · simpa [h] using h1 h
  · simpa [h] using EvB.false_
theorem EvB.bind {α : Type} {g : Nat → Option α} {f : Nat → α → Option Bool} {a : α} {P : Prop} (h : Ev g a) (k : EvB (fun n => f n a) P) : EvB (fun n => (g n).bind (f n)) P :=
  ⟨fun p => Ev.bind h (k.1 p), fun p => Ev.bind h (k.2 p)⟩
/-- a test by a call, then 'go on' or 'false' -/
theorem EvB.bindB {g : Nat → Option Bool} {f : Nat → Bool → Option Bool} {P Q : Prop} (h : EvB g P) (k1 : P → EvB (fun n => f n true) Q) (k2 : ¬ P → Ev (fun n => f n false) false) : EvB (fun n => (g n).bind (f n)) (P ∧ Q) := by
  by_cases p : P
  · exact (EvB.bind (h.1 p) (k1 p)).congr (by simp [p])
  · exact ⟨fun q => absurd q.1 p, fun _ => Ev.bind (h.2 p) (k2 p)⟩
/-- A loop that answers false where P fails, and goes on behind n. -/
theorem allLoop (g : Nat → Nat → Option Bool) (n : Nat) (P : Nat → Prop) (Q : Prop) (hend : EvB (g n) Q)
    (hs : ∀ j, j < n → ∀ R, EvB (g (j + 1)) R → EvB (g j) (P j ∧ R)) : ∀ d j, j + d = n → EvB (g j) ((∀ i, j ≤ i → i < n → P i) ∧ Q) := by
  intro d
  induction d with
  | zero =>
    intro j hj
    obtain rfl : j = n := by omega
    exact hend.congr ⟨fun q => ⟨fun i h1 h2 => by omega, q⟩, fun h => h.2⟩
  | succ d ih =>
    intro j hj
    refine (hs j (by omega) _ (ih (j + 1) (by omega))).congr ⟨?_, ?_⟩
    · rintro ⟨h1, h2, h3⟩
      refine ⟨fun i h4 h5 => ?_, h3⟩
      by_cases e : i = j
      · subst e; exact h1
      · exact h2 i (by omega) h5
    · rintro ⟨h1, h2⟩
      exact ⟨h1 j (Nat.le_refl _) (by omega), fun i h4 h5 => h1 i (by omega) h5, h2⟩
theorem allLoop0 (g : Nat → Nat → Option Bool) (n : Nat) (P : Nat → Prop) (Q : Prop) (hend : EvB (g n) Q)
    (hs : ∀ j, j < n → ∀ R, EvB (g (j + 1)) R → EvB (g j) (P j ∧ R)) : EvB (g 0) ((∀ i, i < n → P i) ∧ Q) :=
  (allLoop g n P Q hend hs n 0 (by omega)).congr ⟨fun h => ⟨fun i hi => h.1 i (Nat.zero_le _) hi, h.2⟩, fun h => ⟨fun i _ hi => h.1 i hi, h.2⟩⟩
/-- A loop over indices that carries a state. -/
theorem foldLoop {σ α : Type} (g : σ → Nat → Nat → Option α) (n : Nat) (f : σ → Nat → σ) (r : σ → α) (I : σ → Nat → Prop) (hend : ∀ s, I s n → Ev (g s n) (r s))
    (hs : ∀ s j, j < n → I s j → I (f s j) (j + 1) ∧ ∀ x, Ev (g (f s j) (j + 1)) x → Ev (g s j) x) : ∀ d s j, j + d = n → I s j → Ev (g s j) (r ((List.range' j d).foldl f s)) := by
  intro d
  induction d with
  | zero =>
    intro s j hj hi
    obtain rfl : j = n := by omega
    exact hend s hi
  | succ d ih =>
    intro s j hj hi
    obtain ⟨h1, h2⟩ := hs s j (by omega) hi
    rw [List.range'_succ, List.foldl_cons]
    exact h2 _ (ih _ _ (by omega) h1)
theorem wrap_nat (i : Nat) (h : i < 9223372036854775807) : wrap64 ((i : Int) + 1) = ((i + 1 : Nat) : Int) := by unfold wrap64; omega
/-- A list of natural numbers, as it stands in Go. -/
def ints (ns : List Nat) : List Int := ns.map (fun n : Nat => (n : Int))
theorem ints_length (ns : List Nat) : (ints ns).length = ns.length := by simp [ints]
theorem rd_ints (ns : List Nat) (i : Nat) : rd (ints ns) (i : Int) = ((ns.getD i 0 : Nat) : Int) := by
  simp only [rd, ints, Int.toNat_natCast, List.getD_eq_getElem?_getD, List.getElem?_map]
  cases ns[i]? <;> simp
theorem ints_of (l : List Int) (h : ∀ x ∈ l, 0 ≤ x) : ∃ ns, l = ints ns := by
  refine ⟨l.map Int.toNat, ?_⟩
  simp only [ints, List.map_map]
  rw [List.map_congr_left (g := id) (fun x hx => by have := h x hx; simp; omega)]
  simp
theorem ints_set (ns : List Nat) (i v : Nat) : (ints ns).set (i : Int).toNat (v : Int) = ints (ns.set i v) := by simp [ints, List.map_set]

end Go.Proofs.Ytojcnapdalpnmaa.K

namespace Go.Proofs.Ytojcnapdalpnmaa.K
open Go.RowKit Go.Proofs.YtojcnapdalpnmaaW.PrintWords Go.Proofs.Ytojcnapdalpnmaa.P
set_option linter.unusedVariables false
set_option linter.unusedSimpArgs false
/-- Numbers of a size at which nothing wraps. -/
def Fair (l : List Int) : Prop := l.length ≤ 1048576 ∧ ∀ x ∈ l, -1048576 ≤ x ∧ x ≤ 1048576
theorem liSum_l0 : ∀ (rest done : List Int) (a : Int), (done ++ rest).length ≤ 1048576 → (∀ x ∈ rest, -1048576 ≤ x ∧ x ≤ 1048576) → -(1048576 * (done.length : Int)) ≤ a → a ≤ 1048576 * (done.length : Int) → Ev (fun k => spec_liSum.l0 k a (done ++ rest) ((done ++ rest).length : Int) (done.length : Int)) (a + rest.sum) := by
  intro rest
  induction rest with
  | nil => intro done a h _ _ _; exact Ev.step (fun k => by simp [spec_liSum.l0]; rfl) (Ev.some (by simp))
  | cons x rest ih =>
    intro done a h hx h0 h1
    have hx1 := hx x (by simp)
    obtain ⟨q1, q2, q3, q4, q5⟩ := mid x done rest (by simp only [BM]; omega)
    have hl : (done.length : Int) < 1048576 := by simp at h; omega
    have hw : wrap64 (a + x) = a + x := wrap_id (by omega) (by omega)
    have ih' := ih (done ++ [x]) (a + x) (by rw [q5]; exact h) (fun y hy => hx y (by simp [hy])) (by rw [List.length_append, List.length_singleton]; omega) (by rw [List.length_append, List.length_singleton]; omega)
    rw [q5] at ih'
    refine Ev.step (fun k => by rw [spec_liSum.l0]) ?_
    simp only [if_pos q1, if_pos q2, q3, q4, hw]
    refine Ev.pair ih' ?_
    simp only [List.sum_cons]; omega
theorem liSum_f {l : List Int} (h : Fair l) : Ev (fun k => spec_liSum.f k l) l.sum := by
  unfold spec_liSum.f
  exact Ev.pair (liSum_l0 l [] 0 h.1 h.2 (by simp) (by simp)) (by simp)
theorem total_l0 : ∀ k a xs n i, impl_total.l0 k a xs n i = spec_liSum.l0 k a xs n i := by
  intro k
  induction k with
  | zero => intros; rfl
  | succ k ih => intros; simp only [impl_total.l0, spec_liSum.l0, ih]
theorem total_f {l : List Int} (h : Fair l) : Ev (fun k => impl_total.f k l) l.sum := Ev.congr (fun k => total_l0 ..) (liSum_f h)

end Go.Proofs.Ytojcnapdalpnmaa.K

namespace Go.Proofs.Ytojcnapdalpnmaa.K
open Go.RowKit Go.Proofs.YtojcnapdalpnmaaW.PrintWords Go.Proofs.Ytojcnapdalpnmaa.P
set_option linter.unusedVariables false
set_option linter.unusedSimpArgs false

/-- All numbers lie between two others. -/
def within (a b : Int) (l : List Int) : Bool := l.all fun n => decide (a ≤ n) && decide (n ≤ b)
theorem l1All_l0 (a b : Int) : ∀ (rest done : List Int), (done ++ rest).length ≤ BM → Ev (fun k => spec_l1All.l0 k a b (done ++ rest) (done ++ rest).length done.length) (within a b rest) := by
  intro rest
  induction rest with
  | nil => intro done h; exact Ev.step (fun k => by simp [spec_l1All.l0]; rfl) (Ev.some (by simp [within]))
  | cons x rest ih =>
    intro done h
    have ih' := ih (done ++ [x])
    obtain ⟨h1, h2, h3, h4, h5⟩ := mid x done rest h
    rw [h5] at ih'
    refine Ev.step (fun k => by rw [spec_l1All.l0]) ?_
    simp only [if_pos h1, if_pos h2, h3, h4, spec_l1In.f]
    by_cases ha : x ≥ a
    · by_cases hb : x ≤ b
      · simpa [ha, hb, within] using ih' h
      · simpa [ha, hb, within] using Ev.now _
    · simpa [ha, within] using Ev.now _
theorem allWithin_eq : ∀ k a b xs n i, impl_allWithin.l0 k a b xs n i = spec_l1All.l0 k a b xs n i := by
  intro k
  induction k with
  | zero => intros; rfl
  | succ k ih => intros; simp only [impl_allWithin.l0, spec_l1All.l0, ih, impl_within.f, spec_l1In.f]
theorem l1All_f (l : List Int) (a b : Int) (h : l.length ≤ BM) : Ev (fun k => spec_l1All.f k l a b) (within a b l) := l1All_l0 a b l [] h
theorem allWithin_f (l : List Int) (a b : Int) (h : l.length ≤ BM) : Ev (fun k => impl_allWithin.f k l a b) (within a b l) := Ev.congr (fun k => allWithin_eq ..) (l1All_f l a b h)
theorem l1In_f (n a b : Int) : spec_l1In.f n a b = some (decide (a ≤ n) && decide (n ≤ b)) := by
  unfold spec_l1In.f; by_cases h : a ≤ n <;> simp [h]
theorem within_f (n a b : Int) : impl_within.f n a b = some (decide (a ≤ n) && decide (n ≤ b)) := l1In_f n a b

end Go.Proofs.Ytojcnapdalpnmaa.K

namespace Go.Proofs.Ytojcnapdalpnmaa.P
open Go.RowKit Go.Proofs.YtojcnapdalpnmaaW.PrintWords Go.Proofs.YtojcnapdalpnmaaW.PrintLast Go.Proofs.YtojcnapdalpnmaaW.PrintMore
attribute [local go_sem] max2_int min2_int max_two min_two max_three min_three max_four min_four   -- for this text's walks alone
set_option linter.unusedVariables false
set_option linter.unusedSimpArgs false

/-! ### spec_maHas: function 98 -/
def spec_maHas.f (k : Nat) (l0 : List Int) (l1 : List Int) : Option (Bool) := (spec_maFit.f k l0 l1).bind fun t578 => (if t578 = true then ((spec_maOver.f k l0 l1).bind fun t579 => (some (t579 == 0))) else (some false))
theorem spec_maHas.mono : ∀ a0 a1 k, LeO (spec_maHas.f k a0 a1) (spec_maHas.f (k + 1) a0 a1) := by
  intro a0 a1 k
  unfold spec_maHas.f
  repeat' first
      | (with_reducible exact spec_maFit.mono _ _ _)
      | (with_reducible exact spec_maOver.mono _ _ _)
      | (with_reducible exact LeO.refl _)
      | (with_reducible exact LeO.none _)
      | (with_reducible refine LeO.ite ?_ ?_)
      | (with_reducible refine LeO.bind ?_ (fun _ => ?_))
      | exact spec_maFit.mono _ _ _
      | exact spec_maOver.mono _ _ _
      | exact LeO.none _
      | refine LeO.ite ?_ ?_
      | refine LeO.bind ?_ (fun _ => ?_)
set_option maxHeartbeats 8000000 in
set_option maxRecDepth 100000 in
theorem spec_maHas.calls (k : Nat) (A0 : Option Addr) (c0 : Nat) (l0 : List Int) (A1 : Option Addr) (c1 : Nat) (l1 : List Int) (r : Bool) (w : World) (hr0 : Kd.C (Kd.int .i64) w A0 l0.length l0) (hc0 : l0.length ≤ c0) (hr1 : Kd.C (Kd.int .i64) w A1 l1.length l1) (hc1 : l1.length ≤ c1) (h : spec_maHas.f k l0 l1 = some r) :
    Calls Try.prog 98 #[.slice A0 l0.length c0, .slice A1 l1.length c1] w fun e w' => e = .returned (.bool r) ∧ Below w.heap.size w w' := by
  have HR0 := Aside0.mk hr0
  have HC0 := Aside0.mk hc0
  clear hr0 hc0
  have HR1 := Aside0.mk hr1
  have HC1 := Aside0.mk hc1
  clear hr1 hc1
  have HB := Aside0.mk (Below.refl w.heap.size w)
  have H : ((spec_maFit.f k l0 l1).bind fun t578 => (if t578 = true then ((spec_maOver.f k l0 l1).bind fun t579 => (some (t579 == 0))) else (some false))) = some r := h
  clear h
  replace H := Option.bind_eq_some_iff.mp H
  obtain ⟨t578, A30, H⟩ := H
  replace H : (if t578 = true then ((spec_maOver.f k l0 l1).bind fun t579 => (some (t579 == 0))) else (some false)) = some r := H
  have A3 := Aside0.mk A30
  clear A30
  by_cases c4 : t578 = true
  · subst c4
    have H1 : ((spec_maOver.f k l0 l1).bind fun t579 => (some (t579 == 0))) = some r := by rw [if_pos rfl] at H; exact H
    clear H
    have H := H1
    clear H1
    replace H := Option.bind_eq_some_iff.mp H
    obtain ⟨t579, A50, H⟩ := H
    replace H : (some (t579 == 0)) = some r := H
    have A5 := Aside0.mk A50
    clear A50
    obtain rfl := Option.some.inj H
    go_enter Try.func98, Try.ntmps98
    go_wp2_with (first | ((with_reducible refine gate_callee (f := 93) rfl ?_); refine goesL_ (some 7) rfl rfl Try.func93 (by kernel_rfl) rfl #[.slice A0 l0.length c0, .slice A1 l1.length c1] rfl (by (try simp only [List.map_toArray, List.map_cons, List.map_nil]); first | done | rfl | (simp only [List.length_drop, List.length_take]; rfl)) ?_; (with_reducible refine (spec_maFit.calls k _ _ l0 _ _ l1 true _ ?side1 ?side2 ?side3 ?side4 A3.out).mono ?_); (case side1 => repeat (first | exact HR0.out | (with_reducible refine Kd.C_alloc ?_ _) | (with_reducible refine Kd.C_drewN ?_ _) | (with_reducible refine Kd.C_drew ?_))); (case side2 => exact HC0.out); (case side3 => repeat (first | exact HR1.out | (with_reducible refine Kd.C_alloc ?_ _) | (with_reducible refine Kd.C_drewN ?_ _) | (with_reducible refine Kd.C_drew ?_))); (case side4 => exact HC1.out); rintro e w' ⟨rfl, ⟨nd, rfl⟩⟩; refine ⟨_, rfl, ?_⟩) | (go_at_call 94; (with_reducible refine (spec_maOver.calls k _ _ l0 _ _ l1 t579 _ ?side1 ?side2 ?side3 ?side4 A5.out).mono ?_); (case side1 => repeat (first | exact HR0.out | (with_reducible refine Kd.C_alloc ?_ _) | (with_reducible refine Kd.C_drewN ?_ _) | (with_reducible refine Kd.C_drew ?_))); (case side2 => exact HC0.out); (case side3 => repeat (first | exact HR1.out | (with_reducible refine Kd.C_alloc ?_ _) | (with_reducible refine Kd.C_drewN ?_ _) | (with_reducible refine Kd.C_drew ?_))); (case side4 => exact HC1.out); rintro e w6 ⟨rfl, hb⟩; have n0_ := Aside0.mk (below_step (by repeat (first | (with_reducible first | exact HB.out | apply below_alloc | apply pw_below_drewN | apply below_drew1) | exact HB.out)) hb); clear HB; have HB := n0_; clear n0_; (try clear hb); (try clear hb2); (try clear hk); (try clear hi)))
    go_ret
    exact ⟨by first | rfl | (simp [errW_none, errW_some] <;> rfl) | (simp [*, errW_none, errW_some] <;> rfl), by repeat (first | (with_reducible first | exact HB.out | apply below_alloc | apply pw_below_drewN | apply below_drew1) | exact HB.out)⟩
  · replace c4 := Bool.eq_false_iff.mpr c4
    subst c4
    have H1 : (some false) = some r := by rw [if_neg (show ¬ (false = true) by decide)] at H; exact H
    clear H
    have H := H1
    clear H1
    obtain rfl := Option.some.inj H
    go_enter Try.func98, Try.ntmps98
    go_wp2_with (first | ((with_reducible refine gate_callee (f := 93) rfl ?_); refine goesL_ (some 7) rfl rfl Try.func93 (by kernel_rfl) rfl #[.slice A0 l0.length c0, .slice A1 l1.length c1] rfl (by (try simp only [List.map_toArray, List.map_cons, List.map_nil]); first | done | rfl | (simp only [List.length_drop, List.length_take]; rfl)) ?_; (with_reducible refine (spec_maFit.calls k _ _ l0 _ _ l1 false _ ?side1 ?side2 ?side3 ?side4 A3.out).mono ?_); (case side1 => repeat (first | exact HR0.out | (with_reducible refine Kd.C_alloc ?_ _) | (with_reducible refine Kd.C_drewN ?_ _) | (with_reducible refine Kd.C_drew ?_))); (case side2 => exact HC0.out); (case side3 => repeat (first | exact HR1.out | (with_reducible refine Kd.C_alloc ?_ _) | (with_reducible refine Kd.C_drewN ?_ _) | (with_reducible refine Kd.C_drew ?_))); (case side4 => exact HC1.out); rintro e w' ⟨rfl, ⟨nd, rfl⟩⟩; refine ⟨_, rfl, ?_⟩))
    go_ret
    exact ⟨by first | rfl | (simp [errW_none, errW_some] <;> rfl) | (simp [*, errW_none, errW_some] <;> rfl), by repeat (first | (with_reducible first | exact HB.out | apply below_alloc | apply pw_below_drewN | apply below_drew1) | exact HB.out)⟩

end Go.Proofs.Ytojcnapdalpnmaa.P

namespace Go.Proofs.Ytojcnapdalpnmaa.P
open Go.RowKit Go.Proofs.YtojcnapdalpnmaaW.PrintWords Go.Proofs.YtojcnapdalpnmaaW.PrintLast Go.Proofs.YtojcnapdalpnmaaW.PrintMore
attribute [local go_sem] max2_int min2_int max_two min_two max_three min_three max_four min_four   -- for this text's walks alone
set_option linter.unusedVariables false
set_option linter.unusedSimpArgs false

/-! ### impl_hasGrid: function 99 -/
def impl_hasGrid.f (k : Nat) (l0 : List Int) (l1 : List Int) : Option (Bool) := (impl_isAsked.f k l0 l1).bind fun t582 => (if t582 = true then ((impl_gridRefusal.f k l0 l1).bind fun t583 => (some (t583 == 0))) else (some false))
theorem impl_hasGrid.mono : ∀ a0 a1 k, LeO (impl_hasGrid.f k a0 a1) (impl_hasGrid.f (k + 1) a0 a1) := by
  intro a0 a1 k
  unfold impl_hasGrid.f
  repeat' first
      | (with_reducible exact impl_gridRefusal.mono _ _ _)
      | (with_reducible exact impl_isAsked.mono _ _ _)
      | (with_reducible exact LeO.refl _)
      | (with_reducible exact LeO.none _)
      | (with_reducible refine LeO.ite ?_ ?_)
      | (with_reducible refine LeO.bind ?_ (fun _ => ?_))
      | exact impl_gridRefusal.mono _ _ _
      | exact impl_isAsked.mono _ _ _
      | exact LeO.none _
      | refine LeO.ite ?_ ?_
      | refine LeO.bind ?_ (fun _ => ?_)
set_option maxHeartbeats 8000000 in
set_option maxRecDepth 100000 in
theorem impl_hasGrid.calls (k : Nat) (A0 : Option Addr) (c0 : Nat) (l0 : List Int) (A1 : Option Addr) (c1 : Nat) (l1 : List Int) (r : Bool) (w : World) (hr0 : Kd.C (Kd.int .i64) w A0 l0.length l0) (hc0 : l0.length ≤ c0) (hr1 : Kd.C (Kd.int .i64) w A1 l1.length l1) (hc1 : l1.length ≤ c1) (h : impl_hasGrid.f k l0 l1 = some r) :
    Calls Try.prog 99 #[.slice A0 l0.length c0, .slice A1 l1.length c1] w fun e w' => e = .returned (.bool r) ∧ Below w.heap.size w w' := by
  have HR0 := Aside0.mk hr0
  have HC0 := Aside0.mk hc0
  clear hr0 hc0
  have HR1 := Aside0.mk hr1
  have HC1 := Aside0.mk hc1
  clear hr1 hc1
  have HB := Aside0.mk (Below.refl w.heap.size w)
  have H : ((impl_isAsked.f k l0 l1).bind fun t582 => (if t582 = true then ((impl_gridRefusal.f k l0 l1).bind fun t583 => (some (t583 == 0))) else (some false))) = some r := h
  clear h
  replace H := Option.bind_eq_some_iff.mp H
  obtain ⟨t582, A30, H⟩ := H
  replace H : (if t582 = true then ((impl_gridRefusal.f k l0 l1).bind fun t583 => (some (t583 == 0))) else (some false)) = some r := H
  have A3 := Aside0.mk A30
  clear A30
  by_cases c4 : t582 = true
  · subst c4
    have H1 : ((impl_gridRefusal.f k l0 l1).bind fun t583 => (some (t583 == 0))) = some r := by rw [if_pos rfl] at H; exact H
    clear H
    have H := H1
    clear H1
    replace H := Option.bind_eq_some_iff.mp H
    obtain ⟨t583, A50, H⟩ := H
    replace H : (some (t583 == 0)) = some r := H
    have A5 := Aside0.mk A50
    clear A50
    obtain rfl := Option.some.inj H
    go_enter Try.func99, Try.ntmps99
    go_wp2_with (first | ((with_reducible refine gate_callee (f := 96) rfl ?_); refine goesL_ (some 7) rfl rfl Try.func96 (by kernel_rfl) rfl #[.slice A0 l0.length c0, .slice A1 l1.length c1] rfl (by (try simp only [List.map_toArray, List.map_cons, List.map_nil]); first | done | rfl | (simp only [List.length_drop, List.length_take]; rfl)) ?_; (with_reducible refine (impl_isAsked.calls k _ _ l0 _ _ l1 true _ ?side1 ?side2 ?side3 ?side4 A3.out).mono ?_); (case side1 => repeat (first | exact HR0.out | (with_reducible refine Kd.C_alloc ?_ _) | (with_reducible refine Kd.C_drewN ?_ _) | (with_reducible refine Kd.C_drew ?_))); (case side2 => exact HC0.out); (case side3 => repeat (first | exact HR1.out | (with_reducible refine Kd.C_alloc ?_ _) | (with_reducible refine Kd.C_drewN ?_ _) | (with_reducible refine Kd.C_drew ?_))); (case side4 => exact HC1.out); rintro e w' ⟨rfl, ⟨nd, rfl⟩⟩; refine ⟨_, rfl, ?_⟩) | (go_at_call 97; (with_reducible refine (impl_gridRefusal.calls k _ _ l0 _ _ l1 t583 _ ?side1 ?side2 ?side3 ?side4 A5.out).mono ?_); (case side1 => repeat (first | exact HR0.out | (with_reducible refine Kd.C_alloc ?_ _) | (with_reducible refine Kd.C_drewN ?_ _) | (with_reducible refine Kd.C_drew ?_))); (case side2 => exact HC0.out); (case side3 => repeat (first | exact HR1.out | (with_reducible refine Kd.C_alloc ?_ _) | (with_reducible refine Kd.C_drewN ?_ _) | (with_reducible refine Kd.C_drew ?_))); (case side4 => exact HC1.out); rintro e w6 ⟨rfl, hb⟩; have n0_ := Aside0.mk (below_step (by repeat (first | (with_reducible first | exact HB.out | apply below_alloc | apply pw_below_drewN | apply below_drew1) | exact HB.out)) hb); clear HB; have HB := n0_; clear n0_; (try clear hb); (try clear hb2); (try clear hk); (try clear hi)))
    go_ret
    exact ⟨by first | rfl | (simp [errW_none, errW_some] <;> rfl) | (simp [*, errW_none, errW_some] <;> rfl), by repeat (first | (with_reducible first | exact HB.out | apply below_alloc | apply pw_below_drewN | apply below_drew1) | exact HB.out)⟩
  · replace c4 := Bool.eq_false_iff.mpr c4
    subst c4
    have H1 : (some false) = some r := by rw [if_neg (show ¬ (false = true) by decide)] at H; exact H
    clear H
    have H := H1
    clear H1
    obtain rfl := Option.some.inj H
    go_enter Try.func99, Try.ntmps99
    go_wp2_with (first | ((with_reducible refine gate_callee (f := 96) rfl ?_); refine goesL_ (some 7) rfl rfl Try.func96 (by kernel_rfl) rfl #[.slice A0 l0.length c0, .slice A1 l1.length c1] rfl (by (try simp only [List.map_toArray, List.map_cons, List.map_nil]); first | done | rfl | (simp only [List.length_drop, List.length_take]; rfl)) ?_; (with_reducible refine (impl_isAsked.calls k _ _ l0 _ _ l1 false _ ?side1 ?side2 ?side3 ?side4 A3.out).mono ?_); (case side1 => repeat (first | exact HR0.out | (with_reducible refine Kd.C_alloc ?_ _) | (with_reducible refine Kd.C_drewN ?_ _) | (with_reducible refine Kd.C_drew ?_))); (case side2 => exact HC0.out); (case side3 => repeat (first | exact HR1.out | (with_reducible refine Kd.C_alloc ?_ _) | (with_reducible refine Kd.C_drewN ?_ _) | (with_reducible refine Kd.C_drew ?_))); (case side4 => exact HC1.out); rintro e w' ⟨rfl, ⟨nd, rfl⟩⟩; refine ⟨_, rfl, ?_⟩))
    go_ret
    exact ⟨by first | rfl | (simp [errW_none, errW_some] <;> rfl) | (simp [*, errW_none, errW_some] <;> rfl), by repeat (first | (with_reducible first | exact HB.out | apply below_alloc | apply pw_below_drewN | apply below_drew1) | exact HB.out)⟩

end Go.Proofs.Ytojcnapdalpnmaa.P

namespace Go.Proofs.Ytojcnapdalpnmaa.K
open Go.RowKit Go.Proofs.YtojcnapdalpnmaaW.PrintWords Go.Proofs.YtojcnapdalpnmaaW.PrintMore Go.Proofs.Ytojcnapdalpnmaa.P
set_option linter.unusedVariables false
set_option linter.unusedSimpArgs false
/-- The sums of the first numbers. -/
def runs (a : Int) : List Int → List Int
  | [] => []
  | x :: l => (a + x) :: runs (a + x) l
theorem runs_length (a : Int) : ∀ l, (runs a l).length = l.length
  | [] => rfl
  | x :: l => by simp [runs, runs_length (a + x) l]
theorem liSums_l0 : ∀ (rest done x3 : List Int) (a : Int), (done ++ rest).length ≤ 1048576 → (∀ x ∈ rest, -1048576 ≤ x ∧ x ≤ 1048576) → x3.length = done.length → -(1048576 * (done.length : Int)) ≤ a → a ≤ 1048576 * (done.length : Int) → Ev (fun k => spec_liSums.l0 k x3 a (done ++ rest) ((done ++ rest).length : Int) (done.length : Int)) (x3 ++ runs a rest) := by
  intro rest
  induction rest with
  | nil => intro done x3 a h _ _ _ _; exact Ev.step (fun k => by simp [spec_liSums.l0]; rfl) (Ev.some (by simp [runs]))
  | cons x rest ih =>
    intro done x3 a h hx h3 h0 h1
    have hx1 := hx x (by simp)
    obtain ⟨q1, q2, q3, q4, q5⟩ := mid x done rest (by simp only [BM]; omega)
    have hl : (done.length : Int) < 1048576 := by simp at h; omega
    have hw : wrap64 (a + x) = a + x := wrap_id (by omega) (by omega)
    have ih' := ih (done ++ [x]) (x3 ++ [a + x]) (a + x) (by rw [q5]; exact h) (fun y hy => hx y (by simp [hy])) (by simp [h3]) (by rw [List.length_append, List.length_singleton]; omega) (by rw [List.length_append, List.length_singleton]; omega)
    rw [q5] at ih'
    have h3' : x3.length < 17592186044416 := by omega
    refine Ev.step (fun k => by rw [spec_liSums.l0]) ?_
    simp only [if_pos q1, if_pos q2, q3, q4, hw, if_pos h3']
    exact Ev.pair ih' (by simp [runs])
theorem liSums_f {l : List Int} (h : Fair l) : Ev (fun k => spec_liSums.f k l) (runs 0 l) := by
  unfold spec_liSums.f
  exact Ev.pair (liSums_l0 l [] [] 0 h.1 h.2 rfl (by simp) (by simp)) (by simp)
theorem partial_l0 : ∀ k x3 a xs n i, impl_partial.l0 k x3 a xs n i = spec_liSums.l0 k x3 a xs n i := by
  intro k
  induction k with
  | zero => intros; rfl
  | succ k ih => intros; simp only [impl_partial.l0, spec_liSums.l0, ih]
/-- One to twelve numbers of fair size. -/
def Few (l : List Int) : Prop := 1 ≤ l.length ∧ l.length ≤ 12 ∧ ∀ x ∈ l, -1048576 ≤ x ∧ x ≤ 1048576
theorem Few.fair {l : List Int} (h : Few l) : Fair l := ⟨by have := h.2.1; omega, h.2.2⟩
theorem Few.rank {l : List Int} (h : Few l) : Few (rankL l) := ⟨by rw [rankL_length]; exact h.1, by rw [rankL_length]; exact h.2.1, fun x hx => h.2.2 x (rankL_mem.1 hx)⟩
theorem ranking_f {l : List Int} (h : Few l) : impl_ranking.f l = some (rankL l) := by unfold impl_ranking.f; exact if_pos h
theorem liRank_f {l : List Int} (h : l.length ≤ 1048576) : spec_liRank.f l = some (rankL l) := by unfold spec_liRank.f; rw [if_pos h]
theorem partial_f {l : List Int} (h : Few l) : Ev (fun k => impl_partial.f k l) (runs 0 (rankL l)) := by
  unfold impl_partial.f
  simp only [ranking_f h, Option.bind_some]
  exact Ev.congr (fun k => partial_l0 ..) (Ev.pair (liSums_l0 (rankL l) [] [] 0 h.rank.fair.1 h.rank.fair.2 rfl (by simp) (by simp)) (by simp))
theorem liPartial_f {l : List Int} (h : Few l) : Ev (fun k => spec_liPartial.f k l) (runs 0 (rankL l)) := by
  unfold spec_liPartial.f
  simp only [liRank_f h.fair.1, Option.bind_some]
  exact Ev.bind (liSums_f h.rank.fair) (Ev.now _)
/-- How much room k columns have for rows; the least k whose sum is greater, or 0. -/
def room (rows : List Int) (k : Int) : Int := (rows.map fun r => min r k).sum
def overGo (rows : List Int) : Nat → List Int → Int
  | _, [] => 0
  | i, s :: l => if s > room rows ((i + 1 : Nat) : Int) then ((i + 1 : Nat) : Int) else overGo rows (i + 1) l
def overK (rows columns : List Int) : Int := overGo rows 0 (runs 0 (rankL columns))
theorem maOver_l1 (x0 x11 : List Int) (i : Nat) (s x12 x13 : Int) (hi : i ≤ 1048576) (y : Int) : ∀ (rest done : List Int) (a : Int), (done ++ rest).length ≤ 1048576 → (∀ x ∈ rest, -1048576 ≤ x ∧ x ≤ 1048576) → -(1048577 * (done.length : Int)) ≤ a → a ≤ 1048577 * (done.length : Int) →
    Ev (fun k => if s > a + room rest ((i + 1 : Nat) : Int) then some ((i + 1 : Nat) : Int) else spec_maOver.l0 k x0 x11 x12 (wrap64 (x13 + 1))) y →
    Ev (fun k => spec_maOver.l1 k x0 (i : Int) s a x11 x12 x13 (done ++ rest) ((done ++ rest).length : Int) (done.length : Int)) y := by
  have hw1 : wrap64 ((i : Int) + 1) = ((i + 1 : Nat) : Int) := wrap_nat i (by omega)
  intro rest
  induction rest with
  | nil =>
    intro done a h _ _ _ hy
    refine Ev.step (fun k => by rw [spec_maOver.l1]) ?_
    simp only [List.append_nil, if_neg (show ¬ (done.length : Int) < (done.length : Int) by omega), hw1]
    simpa [room] using hy
  | cons x rest ih =>
    intro done a h hx h0 h1 hy
    have hx1 := hx x (by simp)
    obtain ⟨q1, q2, q3, q4, q5⟩ := mid x done rest (by simp only [BM]; omega)
    have hl : (done.length : Int) < 1048576 := by simp at h; omega
    have hm : min x ((i + 1 : Nat) : Int) ≤ 1048577 ∧ -1048577 ≤ min x ((i + 1 : Nat) : Int) := by omega
    have hw : wrap64 (a + min x ((i + 1 : Nat) : Int)) = a + min x ((i + 1 : Nat) : Int) := wrap_id (by omega) (by omega)
    have hle : spec_l1Least.f x ((i + 1 : Nat) : Int) = some (min x ((i + 1 : Nat) : Int)) := by
      unfold spec_l1Least.f
      by_cases e : x < ((i + 1 : Nat) : Int)
      · rw [if_pos e]; congr 1; omega
      · rw [if_neg e]; congr 1; omega
    have ih' := ih (done ++ [x]) (a + min x ((i + 1 : Nat) : Int)) (by rw [q5]; exact h) (fun y hy => hx y (by simp [hy])) (by rw [List.length_append, List.length_singleton]; omega) (by rw [List.length_append, List.length_singleton]; omega)
      (by have e : a + min x ((i + 1 : Nat) : Int) + room rest ((i + 1 : Nat) : Int) = a + room (x :: rest) ((i + 1 : Nat) : Int) := by simp [room]; omega
          rw [e]; exact hy)
    rw [q5] at ih'
    refine Ev.step (fun k => by rw [spec_maOver.l1]) ?_
    simp only [if_pos q1, if_pos q2, q3, q4, hw1, hle, Option.bind_some, hw]
    exact ih'
theorem maOver_l0 {rows : List Int} (hr : Fair rows) : ∀ (rest done : List Int), (done ++ rest).length ≤ 1048576 → Ev (fun k => spec_maOver.l0 k rows (done ++ rest) ((done ++ rest).length : Int) (done.length : Int)) (overGo rows done.length rest) := by
  intro rest
  induction rest with
  | nil => intro done h; exact Ev.step (fun k => by simp [spec_maOver.l0]; rfl) (Ev.some (by simp [overGo]))
  | cons s rest ih =>
    intro done h
    obtain ⟨q1, q2, q3, q4, q5⟩ := mid s done rest (by simp only [BM]; omega)
    have ih' := ih (done ++ [s]) (by rw [q5]; exact h)
    rw [q5] at ih'
    refine Ev.step (fun k => by rw [spec_maOver.l0]) ?_
    simp only [if_pos q1, if_pos q2, q3]
    refine maOver_l1 rows _ done.length s _ _ (by simp at h; omega) _ rows [] 0 hr.1 hr.2 (by simp) (by simp) ?_
    simp only [Int.zero_add, overGo]
    refine Ev.ite (fun e => ?_) (fun e => ?_)
    · rw [if_pos e]; exact Ev.now _
    · rw [if_neg e, q4]; exact Ev.pair ih' (by simp)
theorem maOver_f {rows columns : List Int} (hr : Fair rows) (hc : Few columns) : Ev (fun k => spec_maOver.f k rows columns) (overK rows columns) := by
  unfold spec_maOver.f
  refine Ev.bind (liPartial_f hc) ?_
  exact maOver_l0 hr _ [] (by rw [List.nil_append, runs_length]; exact hc.rank.fair.1)
theorem refusal_l : ∀ k, (∀ a b c d, impl_gridRefusal.l0 k a b c d = spec_maOver.l0 k a b c d) ∧ (∀ a b c d e f g h i j, impl_gridRefusal.l1 k a b c d e f g h i j = spec_maOver.l1 k a b c d e f g h i j) := by
  have hm : ∀ x y : Int, spec_l1Least.f x y = some (mn x y) := fun x y => by
    unfold spec_l1Least.f mn
    by_cases e : x < y
    · rw [if_pos e]; first | rw [if_pos e] | (rw [if_neg (by omega)]) | (split <;> first | rfl | (congr 1; omega))
    · rw [if_neg e]; first | rw [if_neg e] | (split <;> first | rfl | (congr 1; omega))
  intro k
  induction k with
  | zero => exact ⟨fun _ _ _ _ => rfl, fun _ _ _ _ _ _ _ _ _ _ => rfl⟩
  | succ k ih =>
    refine ⟨fun a b c d => ?_, fun a b c d e f g h i j => ?_⟩
    · simp only [impl_gridRefusal.l0, spec_maOver.l0, ih.2]
    · simp only [impl_gridRefusal.l1, spec_maOver.l1, ih.1, ih.2, hm, Option.bind_some]
theorem gridRefusal_f {rows columns : List Int} (hr : Fair rows) (hc : Few columns) : Ev (fun k => impl_gridRefusal.f k rows columns) (overK rows columns) := by
  unfold impl_gridRefusal.f
  refine Ev.bind (partial_f hc) ?_
  exact Ev.congr (fun k => (refusal_l k).1 ..) (maOver_l0 hr _ [] (by rw [List.nil_append, runs_length]; exact hc.rank.fair.1))
/-- Sums are equal and no row's is too great. -/
def fitK (rows columns : List Int) : Bool := decide (rows.sum = columns.sum) && within 0 columns.length rows
theorem maFit_f {rows columns : List Int} (hr : Fair rows) (hc : Fair columns) : Ev (fun k => spec_maFit.f k rows columns) (fitK rows columns) := by
  unfold spec_maFit.f
  refine Ev.bind (liSum_f hr) (Ev.bind (liSum_f hc) (Ev.ite (fun e => ?_) (fun e => ?_)))
  · exact Ev.bind (l1All_f rows 0 _ (by have := hr.1; simp only [BM]; omega)) (Ev.some (by simp [fitK, e]))
  · exact Ev.some (by simp [fitK, e])
theorem isAsked_f {rows columns : List Int} (hr : Fair rows) (hc : Fair columns) : Ev (fun k => impl_isAsked.f k rows columns) (fitK rows columns) := by
  unfold impl_isAsked.f
  refine Ev.bind (total_f hr) (Ev.bind (total_f hc) (Ev.ite (fun e => ?_) (fun e => ?_)))
  · exact Ev.bind (allWithin_f rows 0 _ (by have := hr.1; simp only [BM]; omega)) (Ev.some (by simp [fitK, e]))
  · exact Ev.some (by simp [fitK, e])
/-- There is a grid with these sums (as the program tells it). -/
def hasK (rows columns : List Int) : Bool := fitK rows columns && decide (overK rows columns = 0)
theorem maHas_f {rows columns : List Int} (hr : Fair rows) (hc : Few columns) : Ev (fun k => spec_maHas.f k rows columns) (hasK rows columns) := by
  unfold spec_maHas.f
  refine Ev.bind (maFit_f hr hc.fair) (Ev.ite (fun e => ?_) (fun e => ?_))
  · exact Ev.bind (maOver_f hr hc) (Ev.some (by simp [hasK, e, Bool.beq_eq_decide_eq]))
  · exact Ev.some (by simp [hasK, e])
theorem hasGrid_f {rows columns : List Int} (hr : Fair rows) (hc : Few columns) : Ev (fun k => impl_hasGrid.f k rows columns) (hasK rows columns) := by
  unfold impl_hasGrid.f
  refine Ev.bind (isAsked_f hr hc.fair) (Ev.ite (fun e => ?_) (fun e => ?_))
  · exact Ev.bind (gridRefusal_f hr hc) (Ev.some (by simp [hasK, e, Bool.beq_eq_decide_eq]))
  · exact Ev.some (by simp [hasK, e])

end Go.Proofs.Ytojcnapdalpnmaa.K

namespace Go.Proofs.Ytojcnapdalpnmaa.K
open Go.RowKit Go.Proofs.YtojcnapdalpnmaaW.PrintWords Go.Proofs.YtojcnapdalpnmaaW.PrintMore Go.Proofs.Ytojcnapdalpnmaa.P
set_option linter.unusedVariables false
set_option linter.unusedSimpArgs false
/-- One to six numbers from 0 to 6. -/
def isSums (l : List Int) : Bool := decide (1 ≤ l.length) && decide (l.length ≤ 6) && within 0 6 l
theorem isSums_few {l : List Int} (h : isSums l = true) : Few l ∧ l.length ≤ 6 ∧ ∀ x ∈ l, 0 ≤ x ∧ x ≤ 6 := by
  simp only [isSums, within, Bool.and_eq_true, decide_eq_true_eq, List.all_eq_true] at h
  obtain ⟨⟨h1, h2⟩, h3⟩ := h
  exact ⟨⟨h1, by omega, fun x hx => by have := h3 x hx; omega⟩, h2, fun x hx => h3 x hx⟩
theorem areSums_f {l : List Int} (h : l.length ≤ 1048576) : Ev (fun k => impl_areSums.f k l) (isSums l) := by
  unfold impl_areSums.f
  simp only [within_f, Option.bind_some]
  refine Ev.ite (fun h1 => ?_) (fun h1 => ?_)
  · refine Ev.bind (allWithin_f l 0 6 (by simp only [BM]; omega)) (Ev.some ?_)
    simp at h1
    simp only [isSums]
    rw [decide_eq_true (show 1 ≤ l.length by omega), decide_eq_true (show l.length ≤ 6 by omega)]; simp
  · refine Ev.some ?_
    simp at h1
    simp only [isSums]
    by_cases e : 1 ≤ l.length
    · rw [decide_eq_false (show ¬ l.length ≤ 6 by omega)]; simp
    · rw [decide_eq_false e]; simp
theorem maGiven_f {a b : List Int} (ha : a.length ≤ 1048576) (hb : b.length ≤ 1048576) : Ev (fun k => spec_maGiven.f k a b) (isSums a && isSums b) := by
  unfold spec_maGiven.f
  simp only [l1In_f, Option.bind_some]
  refine Ev.ite (fun h1 => ?_) (fun h1 => ?_)
  · refine Ev.ite (fun h2 => ?_) (fun h2 => ?_)
    · simp at h1 h2
      refine Ev.bind (l1All_f a 0 6 (by simp only [BM]; omega)) (Ev.ite (fun h3 => ?_) (fun h3 => ?_))
      · refine Ev.bind (l1All_f b 0 6 (by simp only [BM]; omega)) (Ev.some ?_)
        simp only [isSums, h3]
        rw [decide_eq_true (show 1 ≤ a.length by omega), decide_eq_true (show a.length ≤ 6 by omega), decide_eq_true (show 1 ≤ b.length by omega), decide_eq_true (show b.length ≤ 6 by omega)]; simp
      · refine Ev.some ?_
        have h3 := Bool.eq_false_iff.mpr h3
        simp only [isSums, h3]; simp
    · refine Ev.some ?_
      simp at h2
      simp only [isSums]
      by_cases e : 1 ≤ b.length
      · rw [decide_eq_false (show ¬ b.length ≤ 6 by omega)]; simp
      · rw [decide_eq_false e]; simp
  · refine Ev.some ?_
    simp at h1
    simp only [isSums]
    by_cases e : 1 ≤ a.length
    · rw [decide_eq_false (show ¬ a.length ≤ 6 by omega)]; simp
    · rw [decide_eq_false e]; simp

end Go.Proofs.Ytojcnapdalpnmaa.K

namespace Go.Proofs.Ytojcnapdalpnmaa.K
open Go.RowKit Go.Proofs.YtojcnapdalpnmaaW.PrintWords Go.Proofs.Ytojcnapdalpnmaa.P
set_option linter.unusedVariables false
set_option linter.unusedSimpArgs false

theorem toIntS_l0 : ∀ (rest done : List Int) , (done ++ rest).length ≤ BM → Ev (fun k => laws_toIntS.l0 k (done ++ rest) (done ++ List.replicate rest.length 0) done.length) (done ++ rest) := by
  intro rest
  induction rest with
  | nil => intro done h; exact Ev.step (fun k => by simp [laws_toIntS.l0]; rfl) (Ev.some (by simp))
  | cons x rest ih =>
    intro done h
    have ih' := ih (done ++ [x])
    obtain ⟨h1, h2, h3, h4, h5⟩ := mid x done rest h
    rw [h5] at ih'
    refine Ev.step (fun k => by rw [laws_toIntS.l0]) ?_
    have h6 : (done.length : Int) < ((done ++ List.replicate (x :: rest).length (0:Int)).length : Int) := by simp; omega
    simp only [if_pos h1, if_pos h2, if_pos h6, h3, h4]
    rw [List.length_cons, List.replicate_succ, set_mid]
    exact ih' h
theorem toIntS_f (l : List Int) (h : l.length ≤ BM) : Ev (fun k => laws_toIntS.f k l) l := by
  unfold laws_toIntS.f
  simp only [BM] at h
  have e1 : 0 ≤ (l.length : Int) := by omega
  have e2 : (l.length : Int).toNat ≤ 35184372088832 := by omega
  simp only [if_pos e1, if_pos e2]
  exact toIntS_l0 l [] h
theorem eqIntS_l0 : ∀ (rest done rest2 done2 : List Int), done.length = done2.length → rest.length = rest2.length → (done ++ rest).length ≤ BM → Ev (fun k => laws_eqIntS.l0 k (done ++ rest) (done2 ++ rest2) done.length) (decide (rest = rest2)) := by
  intro rest
  induction rest with
  | nil =>
    intro done rest2 done2 hl hl2 h
    obtain rfl : rest2 = [] := by simpa using hl2.symm
    exact Ev.step (fun k => by simp [laws_eqIntS.l0]; rfl) (Ev.some (by simp))
  | cons x rest ih =>
    intro done rest2 done2 hl hl2 h
    obtain ⟨y, rest2, rfl⟩ : ∃ y r, rest2 = y :: r := by cases rest2 with | nil => simp at hl2 | cons y r => exact ⟨y, r, rfl⟩
    have ih' := ih (done ++ [x]) rest2 (done2 ++ [y]) (by simp [hl]) (by simpa using hl2)
    obtain ⟨h1, h2, h3, h4, h5⟩ := mid x done rest h
    have hh : (done2 ++ y :: rest2).length ≤ BM := by simp at h hl2 ⊢; omega
    obtain ⟨g1, g2, g3, g4, g5⟩ := mid y done2 rest2 hh
    rw [h5, g5] at ih'
    refine Ev.step (fun k => by rw [laws_eqIntS.l0]) ?_
    rw [← hl] at g1 g3
    simp only [if_pos h1, if_pos h2, if_pos g1, h3, h4, g3]
    refine Ev.ite (fun e => ?_) (fun e => ?_)
    · subst e; simpa using ih' h
    · exact Ev.some (by simp [e])
theorem eqIntS_f (l m : List Int) (h : l.length ≤ BM) : Ev (fun k => laws_eqIntS.f k l m) (decide (l = m)) := by
  unfold laws_eqIntS.f
  refine Ev.ite (fun e => ?_) (fun e => ?_)
  · exact eqIntS_l0 l [] m [] rfl (by omega) h
  · exact Ev.some (by symm; simp; rintro rfl; exact e rfl)
theorem eqIntS_same (l : List Int) (h : l.length ≤ BM) : Ev (fun k => laws_eqIntS.f k l l) true := by simpa using eqIntS_f l l h

end Go.Proofs.Ytojcnapdalpnmaa.K

/- The law FnExactGridRefusal holds: the program's GridRefusal returns what the reference's returns, for all arguments (no condition). -/
namespace Go.Proofs.Ytojcnapdalpnmaa.Pure
open Go.RowKit Go.Proofs.YtojcnapdalpnmaaW.PrintWords Go.Proofs.Ytojcnapdalpnmaa.P Go.Proofs.Ytojcnapdalpnmaa.K
set_option linter.unusedVariables false
set_option linter.unusedSimpArgs false
theorem overGo_nonneg (rows : List Int) : ∀ (l : List Int) (i : Nat), 0 ≤ overGo rows i l
  | [], _ => by simp [overGo]
  | s :: l, i => by
    simp only [overGo]
    split
    · omega
    · exact overGo_nonneg rows l (i + 1)
theorem both {a b : List Int} (ha : a.length ≤ 1048576) (hb : b.length ≤ 1048576) : ∃ v : Int × Bool, Ev (fun k => spec_GridRefusal.f k a b) v ∧ Ev (fun k => impl_GridRefusal.f k a b) v := by
  refine ⟨if isSums a = true ∧ isSums b = true ∧ fitK a b = true then (overK a b, decide (overK a b > 0)) else (0, false), ?_, ?_⟩
  · unfold spec_GridRefusal.f
    refine Ev.bind (maGiven_f ha hb) (Ev.ite (fun h => ?_) (fun h => ?_))
    · simp only [Bool.and_eq_true] at h
      have f1 := (isSums_few h.1).1.fair
      have f2 := (isSums_few h.2).1
      refine Ev.bind (maFit_f f1 f2.fair) (Ev.ite (fun hf => ?_) (fun hf => ?_))
      · rw [if_pos ⟨h.1, h.2, hf⟩]
        refine Ev.bind (maOver_f f1 f2) (Ev.ite (fun h0 => ?_) (fun h0 => ?_))
        · rw [h0]; exact Ev.now _
        · have := overGo_nonneg a (runs 0 (rankL b)) 0
          have hp : overK a b > 0 := by unfold overK at h0 ⊢; omega
          rw [decide_eq_true hp]
          exact Ev.bind (maOver_f f1 f2) (Ev.now _)
      · rw [if_neg (fun h => hf h.2.2)]; exact Ev.now _
    · simp only [Bool.and_eq_true] at h
      rw [if_neg (fun hh => h ⟨hh.1, hh.2.1⟩)]; exact Ev.now _
  · unfold impl_GridRefusal.f
    refine Ev.bind (areSums_f ha) (Ev.ite (fun h1 => ?_) (fun h1 => ?_))
    · refine Ev.bind (areSums_f hb) (Ev.ite (fun h2 => ?_) (fun h2 => ?_))
      · have f1 := (isSums_few h1).1.fair
        have f2 := (isSums_few h2).1
        refine Ev.bind (isAsked_f f1 f2.fair) (Ev.ite (fun hf => ?_) (fun hf => ?_))
        · rw [if_pos ⟨h1, h2, hf⟩]
          exact Ev.bind (gridRefusal_f f1 f2) (Ev.now _)
        · rw [if_neg (fun h => hf h.2.2)]; exact Ev.now _
      · rw [if_neg (fun h => h2 h.2.1)]; exact Ev.now _
    · rw [if_neg (fun h => h1 h.1)]; exact Ev.now _
theorem FnExactGridRefusal : laws_FnExactGridRefusal.Pure := by
  intro l0 l1 h0 y0 w0 h1 y1 w1
  refine Ev.rounds (g := fun k => laws_FnExactGridRefusal.f k l0 l1) ?_
  unfold laws_FnExactGridRefusal.f
  refine Ev.ite (fun _ => Ev.now _) (fun ha => Ev.ite (fun _ => Ev.now _) (fun hb => ?_))
  have ha' : l0.length ≤ 1048576 := by omega
  have hb' : l1.length ≤ 1048576 := by omega
  have t0 := toIntS_f l0 (by simp only [BM]; omega)
  have t1 := toIntS_f l1 (by simp only [BM]; omega)
  obtain ⟨v, hs, hi⟩ := both ha' hb'
  refine Ev.bind t0 (Ev.bind t1 (Ev.bind hs (Ev.bind t0 (Ev.bind t1 (Ev.bind hi ?_)))))
  simp only [bne_self_eq_false, Bool.false_eq_true, if_false, if_true]
  refine Ev.step (fun k => by rw [laws_FnExactGridRefusal.j0]) ?_
  simp only [Bool.false_eq_true, if_false]
  refine Ev.bind t0 (Ev.bind (eqIntS_same l0 (by simp only [BM]; omega)) ?_)
  simp only [if_true]
  refine Ev.bind t1 (Ev.bind (eqIntS_same l1 (by simp only [BM]; omega)) ?_)
  simpa using Ev.now true

end Go.Proofs.Ytojcnapdalpnmaa.Pure

namespace Go.Proofs.Ytojcnapdalpnmaa.fnExactGridRefusal
open Go.ChangeShapes Go.WideShapes Go.ChangeAt Go.RowKit
open Go.ChangeMaps (open_string shut_string)
set_option linter.unusedVariables false
theorem own : ownKnob Try.prog.godebug = none := by kernel_rfl
theorem laidOut : laidOutB Try.prog = true := by kernel_rfl
def IsRow (k : IntKind) (w : World) (a : Option Addr) (len cap : Nat) (zs : List Int) : Prop :=
  (a = none ∧ len = 0 ∧ cap = 0 ∧ zs = []) ∨
  ∃ x, a = some x ∧ len ≤ cap ∧ cap ≤ maxLen ∧ zs.length = cap ∧ (∀ i, i < zs.length → w.cell? (x.add i) = some (.int k (zs.getD i 0))) ∧ ∀ n ∈ zs, (Lit.int k n).wf = true
set_option maxRecDepth 100000 in
theorem lifted (os : Os) (started : os.Started) (H : Type) (enc : TypeId × Value → H) :
    ReturnsInHanded {} Try.checked os 12 .any (Rows.fnExactGridRefusalSpec.pre6 enc Try.prog Try.f12 Rows.fnExactGridRefusalRow.domain false) (Rows.fnExactGridRefusalSpec.post enc Try.prog Try.f12 false true false false) := by
  refine returnsInHanded_of_change_sized (C := Try.checked) own started (by kernel_rfl) Try.func12
    (ChangeSpec.witness6 (enc := enc) (C := Try.checked) false ⟨#[], #[.slice none 0 0, .slice none 0 0], []⟩ 8 (by kernel_rfl) (by kernel_rfl) (by kernel_rfl) (by kernel_rfl)) ?_
  intro W base args ds gs before hval0 hW hcnd hsz0 _
  have hsz : (DataW.weightsEach Try.prog (Try.f12.params.toList ++ Rows.fnExactGridRefusalSpec.plain.varTypes Try.prog) (ds ++ gs)).all (· ≤ reachBytes) = true := hsz0
  have hval : ∀ (j : Nat) t v, Try.f12.params[j]? = some t → args[j]? = some v → Value.okWide Try.prog W .any base t v := hval0
  have hW' := hW
  obtain ⟨p, q, hA0, hV, rfl, hfz, hnd⟩ := hW
  have hA : DataW.TrodAll enc Try.prog W 0 (fun _ => true) true Try.f12.params.toList args.toList ds p := hA0
  rw [Try.params12] at hA hval hsz
  obtain ⟨v0, vs0, d0, ds0, p0, q0, hargs, rfl, rfl, h0, r0⟩ := trodAll_cons hA
  obtain ⟨v1, vs1, d1, ds1, p1, q1, rfl, rfl, rfl, h1, r1⟩ := trodAll_cons r0
  obtain ⟨rfl, rfl, rfl⟩ := trodAll_nil r1
  obtain rfl : args = #[v0, v1] := by cases args; simp_all
  obtain ⟨rfl, rfl⟩ := trodVars_none hV
  obtain ⟨a0, len0, cap0, rfl⟩ := okWide_slice Try.underlying33 (hval 0 33 v0 rfl rfl)
  have k0 := h0
  have lt0 : ∀ x ∈ p0, x.block < W.heap.size := by obtain ⟨m, hm⟩ := k0; exact DataW.trod_lt m _ _ _ hm
  obtain ⟨z0, w0⟩ : ∃ zs, IsRow .i64 W a0 len0 cap0 zs := by
    obtain ⟨fuel, hf⟩ := h0
    rcases open_ints Try.underlying33 Try.underlying3 (by kernel_rfl) hf with ⟨hcs, _⟩ | ⟨x, l, c, zs, hcs, _, hl, hm, hz, _, hcell, hwz⟩
    · simp [Value.cells] at hcs
      obtain ⟨rfl, rfl, rfl⟩ := hcs
      exact ⟨[], .inl ⟨rfl, rfl, rfl, rfl⟩⟩
    · simp [Value.cells] at hcs
      obtain ⟨rfl, rfl, rfl⟩ := hcs
      exact ⟨zs, .inr ⟨_, rfl, hl, hm, by simpa using hz, hcell, hwz⟩⟩
  have y0 : len0 * 8 ≤ 140737488351232 := Go.Proofs.YtojcnapdalpnmaaW.PrintWords.sized_ints hsz (j := 0) (t := 33) rfl rfl Try.underlying33 Try.underlying3 (by kernel_rfl) (by kernel_rfl) h0
  obtain ⟨a1, len1, cap1, rfl⟩ := okWide_slice Try.underlying33 (hval 1 33 v1 rfl rfl)
  have k1 := h1
  have lt1 : ∀ x ∈ p1, x.block < W.heap.size := by obtain ⟨m, hm⟩ := k1; exact DataW.trod_lt m _ _ _ hm
  obtain ⟨z1, w1⟩ : ∃ zs, IsRow .i64 W a1 len1 cap1 zs := by
    obtain ⟨fuel, hf⟩ := h1
    rcases open_ints Try.underlying33 Try.underlying3 (by kernel_rfl) hf with ⟨hcs, _⟩ | ⟨x, l, c, zs, hcs, _, hl, hm, hz, _, hcell, hwz⟩
    · simp [Value.cells] at hcs
      obtain ⟨rfl, rfl, rfl⟩ := hcs
      exact ⟨[], .inl ⟨rfl, rfl, rfl, rfl⟩⟩
    · simp [Value.cells] at hcs
      obtain ⟨rfl, rfl, rfl⟩ := hcs
      exact ⟨zs, .inr ⟨_, rfl, hl, hm, by simpa using hz, hcell, hwz⟩⟩
  have y1 : len1 * 8 ≤ 140737488351232 := Go.Proofs.YtojcnapdalpnmaaW.PrintWords.sized_ints hsz (j := 1) (t := 33) rfl rfl Try.underlying33 Try.underlying3 (by kernel_rfl) (by kernel_rfl) h1
  clear hA0 hval0 hsz0 hsz
  refine (P.laws_FnExactGridRefusal.walk Pure.FnExactGridRefusal a0 len0 cap0 z0 a1 len1 cap1 z1 W w0 y0 w1 y1).mono fun e W' ⟨he, bel⟩ => ?_
  subst he
  exact ⟨_, rfl, _, _, _, [], _, [], hW', trodAll_mk1 (shut_bool Try.underlying4 _), (trodAll_cons_mk (Below.trod laidOut (by kernel_rfl) (of_decide_eq_true (by kernel_rfl)) k0 bel lt0) (trodAll_cons_mk (Below.trod laidOut (by kernel_rfl) (of_decide_eq_true (by kernel_rfl)) k1 bel lt1) trodAll_mk0)), rfl, bel.frame _, fun h => by cases h⟩
set_option maxHeartbeats 4000000 in
theorem joined : joinedFacts Try.prog 12 Try.f12 Rows.fnExactGridRefusalSpec Rows.fnExactGridRefusalRow = true := by
  unfold joinedFacts
  repeat' (with_reducible refine (Bool.and_eq_true _ _).mpr ⟨?_, ?_⟩)
  all_goals first
    | (with_reducible exact Head.mayEnter)
    | ((with_reducible rw [Head.lifts]); rfl)
    | ((with_reducible rw [Head.make]); rfl)
    | (as_aux_lemma => kernel_rfl)
theorem over : Rows.fnExactGridRefusalRow.holds Try.pinned (OpenSpec.ofChange Rows.fnExactGridRefusalSpec) :=
  OpenClaim.holds_of_wide 12 Try.f12 rfl rfl rfl rfl rfl rfl rfl ⟨rfl, rfl, rfl, rfl, rfl⟩ rfl rfl rfl rfl rfl (by kernel_rfl) Try.func12 joined
    (of_decide_eq_true (by kernel_rfl)) (by unfold Func.isWrapper; first | (rw [if_pos (by decide +kernel)]; kernel_rfl) | (rw [if_neg (by decide +kernel)]; exact ⟨rfl, rfl⟩))
    (fun os started H enc _ => lifted os started H enc)
theorem proved : Rows.FnExactGridRefusalSaid := over
#print axioms proved
end Go.Proofs.Ytojcnapdalpnmaa.fnExactGridRefusal
namespace Go.Proofs.Ytojcnapdalpnmaa
/-- The row, under a short name, for the claim. -/
theorem fnExactGridRefusal_holds : Rows.FnExactGridRefusalSaid := fnExactGridRefusal.proved
end Go.Proofs.Ytojcnapdalpnmaa
