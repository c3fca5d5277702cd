/- The row of the law FnExactMirrorTournament: contracts and plain lemmas for the law FnExactMirrorTournament, part 4 of 4: what the Go functions that it reaches answer. No condition beyond those in each statement. -/
import Derived.Test.YtjkhdblhbjndiaaWMore
import Derived.Test.YtjkhdblhbjndiaaWWords
import Derived.ProofKit
import Derived.OpenShut
import Derived.Deep.Matrix
import Derived.Lib.SmallJoins
import Derived.Test.YtjkhdblhbjndiaaRows
import Derived.WalkKit
import Derived.ShutString
import Derived.ChangeOld
import Derived.Below
import Derived.SizedLaws
import Derived.Test.YtjkhdblhbjndiaaWSized
import Derived.Test.YtjkhdblhbjndiaaCFnExactMirrorTournamenta
import Derived.Test.YtjkhdblhbjndiaaCFnExactMirrorTournamentb
import Derived.Test.YtjkhdblhbjndiaaCFnExactMirrorTournamentc
namespace Go.Proofs.Ytjkhdblhbjndiaa.K
open Go.RowKit Go.ChangeShapes Go.WideShapes Go.ChangeAt Go.Deep Go.Proofs.YtjkhdblhbjndiaaW.PrintWords
set_option linter.unusedVariables false
set_option linter.unusedSimpArgs false
section
variable {H : Type} {enc : TypeId × Value → H} {P : Program} {w : World}

/-- A row of whole numbers among the arguments. -/
theorem open_row {t e : TypeId} {fuel : Nat} {cs : List Value} {x : DataW H × List MemPlace} (ht : P.underlying t = some (.slice e)) (he : P.underlying e = some (.int .i64)) (hc : P.cellsOf e = 1)
    (h : DataW.trod enc P w 0 (fun _ => true) true fuel t cs = some x) :
    ∃ (A : Option Addr) (c : Nat) (l : List Int), cs = [.slice A l.length c] ∧ l.length ≤ c ∧ l.length ≤ maxLen ∧ (∀ n ∈ l, (Lit.int .i64 n).wf = true) ∧ Kd.C (Kd.int .i64) w A l.length l := by
  rcases open_ints ht he hc h with ⟨rfl, _⟩ | ⟨a, l, c, zs, rfl, _, hl, hm, hz, _, hcell, hwz⟩
  · exact ⟨none, 0, [], rfl, Nat.le_refl _, by simp [maxLen], by simp, Kd.C_nil _ _⟩
  · obtain ⟨l0, rfl, hr0, hm0, hw0, hc0⟩ := ReadsInt.ofRowC (k := .i64) (w := w) (a := some a) (len := l) (cap := c) (zs := zs) (.inr ⟨a, rfl, hl, hm, by simpa using hz, hcell, hwz⟩)
    exact ⟨some a, c, l0, rfl, hc0, hm0, hw0, Kd.C_of_reads (d := (0 : Int)) (h1 := fun _ => rfl) hr0⟩
/-- A slice of rows of whole numbers among the arguments. -/
theorem open_rows {t e q : TypeId} {fuel : Nat} {cs : List Value} {x : DataW H × List MemPlace} (ht : P.underlying t = some (.slice e)) (he : P.underlying e = some (.slice q)) (hq : P.underlying q = some (.int .i64))
    (ce : P.cellsOf e = 1) (cq : P.cellsOf q = 1) (h : DataW.trod enc P w 0 (fun _ => true) true fuel t cs = some x) :
    ∃ (A : Option Addr) (c : Nat) (l : List (List Int)), cs = [.slice A l.length c] ∧ l.length ≤ c ∧ l.length ≤ maxLen ∧ (∀ r ∈ l, r.length ≤ maxLen ∧ ∀ n ∈ r, (Lit.int .i64 n).wf = true) ∧ Kd.C (Kd.slice q (Kd.int .i64)) w A l.length l := by
  rcases open_int_rows ht he hq ce cq h with ⟨rfl, _⟩ | ⟨a, len, cap, A, L, C, Z, rfl, _, hl, hm, _, hr⟩
  · exact ⟨none, 0, [], rfl, Nat.le_refl _, by simp [maxLen], by simp, Kd.C_nil _ _⟩
  · have hrow : ∀ r, r < cap → ∃ l0 : List Int, L r = l0.length ∧ l0.length ≤ C r ∧ l0.length ≤ maxLen ∧ (∀ n ∈ l0, (Lit.int .i64 n).wf = true) ∧ Kd.C (Kd.int .i64) w (A r) l0.length l0 := by
      intro r hrc
      obtain ⟨h1, h2, h3, h4, h5, h6, h7⟩ := hr r hrc
      cases hA : A r with
      | none =>
        have hC := h6 hA
        exact ⟨[], by simp; omega, by simp, by simp [maxLen], by simp, Kd.C_nil _ _⟩
      | some a' =>
        obtain ⟨_, h8⟩ := h7 a' hA
        obtain ⟨l0, e0, hr0, hm0, hw0, hc0⟩ := ReadsInt.ofRowC (k := .i64) (w := w) (a := some a') (len := L r) (cap := C r) (zs := Z r) (.inr ⟨a', rfl, h2, h3, h4, fun i hi => h8 i (by omega), h5⟩)
        exact ⟨l0, e0, hc0, hm0, hw0, Kd.C_of_reads (d := (0 : Int)) (h1 := fun _ => rfl) hr0⟩
    let F : Nat → List Int := fun r => if h : r < cap then Classical.choose (hrow r h) else []
    have hF : ∀ r, r < cap → L r = (F r).length ∧ (F r).length ≤ C r ∧ (F r).length ≤ maxLen ∧ (∀ n ∈ F r, (Lit.int .i64 n).wf = true) ∧ Kd.C (Kd.int .i64) w (A r) (F r).length (F r) := by
      intro r h
      have := Classical.choose_spec (hrow r h)
      simpa [F, h] using this
    refine ⟨some a, cap, (List.range len).map F, by simp, by simpa using hl, by simp; omega, ?_, ?_⟩
    · intro r hmem
      obtain ⟨i, hi, rfl⟩ := List.mem_map.1 hmem
      have := hF i (by have := List.mem_range.1 hi; omega)
      exact ⟨this.2.2.1, this.2.2.2.1⟩
    · refine ⟨by simp, by simp; unfold maxLen at hm; omega, fun _ => ⟨a, rfl, ?_⟩⟩
      intro j p hp
      obtain ⟨hj, rfl⟩ : j < len ∧ F j = p := by
        rw [List.getElem?_map] at hp
        by_cases hj : j < len
        · rw [List.getElem?_range hj] at hp; simpa [hj] using hp
        · rw [List.getElem?_eq_none (by simp; omega)] at hp; simp at hp
      obtain ⟨f1, f2, f3, f4, f5⟩ := hF j (by omega)
      obtain ⟨h1, _⟩ := hr j (by omega)
      refine ⟨[.slice (A j) (F j).length (C j)], rfl, ⟨A j, C j, rfl, f2, f5⟩, ?_⟩
      intro i u hu
      cases i with
      | zero =>
        obtain rfl : Value.slice (A j) (F j).length (C j) = u := by simpa using hu
        rw [f1] at h1
        show w.cell? (a.add (j * 1 + 0)) = _
        rw [Nat.mul_one, Nat.add_zero]; exact h1
      | succ i => simp at hu
end
end Go.Proofs.Ytjkhdblhbjndiaa.K

/- The row of the law FnExactMirrorTournament: for every input the call returns true, and the arguments read as before; out of the law's pure statement and the walk. No condition. -/
namespace Go.Proofs.Ytjkhdblhbjndiaa.fnExactMirrorTournament
open Go.ChangeShapes Go.WideShapes Go.ChangeAt Go.RowKit
open Go.ChangeMaps (open_string shut_string)
set_option linter.unusedVariables false
set_option linter.unusedSimpArgs false
theorem own : ownKnob Try.prog.godebug = none := by kernel_rfl
theorem laidOut : laidOutB Try.prog = true := by kernel_rfl
set_option maxRecDepth 100000 in
theorem lifted (os : Os) (started : os.Started) (H : Type) (enc : TypeId × Value → H) :
    ReturnsInHanded {} Try.checked os 7 .any (Rows.fnExactMirrorTournamentSpec.pre6 enc Try.prog Try.f7 Rows.fnExactMirrorTournamentRow.domain false) (Rows.fnExactMirrorTournamentSpec.post enc Try.prog Try.f7 false true false false) := by
  refine returnsInHanded_of_change_sized (C := Try.checked) own started (by kernel_rfl) Try.func7
    (ChangeSpec.witness6 (enc := enc) (C := Try.checked) false ⟨#[], #[.agg #[.int .i64 0, .slice none 0 0]], []⟩ 8 (by kernel_rfl) (by kernel_rfl) (by kernel_rfl) (by kernel_rfl)) ?_
  intro W base args ds gs before hval0 hW hcnd hsz0 _
  have hsz : (DataW.weightsEach Try.prog (Try.f7.params.toList ++ Rows.fnExactMirrorTournamentSpec.plain.varTypes Try.prog) (ds ++ gs)).all (· ≤ reachBytes) = true := hsz0
  have hval : ∀ (j : Nat) t v, Try.f7.params[j]? = some t → args[j]? = some v → Value.okWide Try.prog W .any base t v := hval0
  have hW' := hW
  obtain ⟨p, q, hA0, hV, rfl, hfz, hnd⟩ := hW
  have hA : DataW.TrodAll enc Try.prog W 0 (fun _ => true) true Try.f7.params.toList args.toList ds p := hA0
  rw [Try.params7] at hA hval hsz
  obtain ⟨v0, vs0, d0, ds0, p0, q0, hargs, rfl, rfl, h0, r0⟩ := trodAll_cons hA
  obtain ⟨rfl, rfl, rfl⟩ := trodAll_nil r0
  obtain rfl : args = #[v0] := by cases args; simp_all
  obtain ⟨rfl, rfl⟩ := trodVars_none hV
  have k0 := h0
  have lt0 : ∀ x ∈ p0, x.block < W.heap.size := by obtain ⟨m, hm⟩ := k0; exact DataW.trod_lt m _ _ _ hm
  obtain ⟨u0_0, u0_1, y0_0, y0_1, m0, rfl, rfl, rfl, g0_0, g0_1⟩ := Joins.open_agg2 Try.underlying30 (by kernel_rfl) (by kernel_rfl) (hval 0 30 v0 rfl rfl) h0
  obtain ⟨a0_0, hcs0_0, _, w0_0⟩ := DataW.trod_int Try.underlying3 g0_0
  obtain rfl := List.singleton_inj.1 hcs0_0
  obtain ⟨A0_1, c0_1, l0_1, hcs0_1, hc0_1, hm0_1, hw0_1, hr0_1⟩ := K.open_row Try.underlying22 Try.underlying3 (by kernel_rfl) g0_1
  obtain rfl := List.singleton_inj.1 hcs0_1
  clear hA0 hval0 hsz0 hsz
  obtain ⟨k, hk⟩ := Pure.FnExactMirrorTournament a0_0 l0_1 w0_0 hm0_1 hw0_1
  refine (P.laws_FnExactMirrorTournament.calls k a0_0 _ _ l0_1 true W hr0_1 hc0_1 hk).mono fun e W' ⟨he, bel⟩ => ?_
  subst he
  exact ⟨_, rfl, _, _, _, [], _, [], hW', trodAll_mk1 (shut_bool Try.underlying4 _), (trodAll_cons_mk (Below.trod laidOut (by kernel_rfl) (of_decide_eq_true (by kernel_rfl)) k0 bel lt0) trodAll_mk0), rfl, bel.frame _, fun h => by cases h⟩
set_option maxHeartbeats 4000000 in
theorem joined : joinedFacts Try.prog 7 Try.f7 Rows.fnExactMirrorTournamentSpec Rows.fnExactMirrorTournamentRow = true := by
  unfold joinedFacts
  repeat' (with_reducible refine (Bool.and_eq_true _ _).mpr ⟨?_, ?_⟩)
  all_goals first
    | (with_reducible exact Head.mayEnter)
    | ((with_reducible rw [Head.lifts]); rfl)
    | ((with_reducible rw [Head.make]); rfl)
    | (as_aux_lemma => kernel_rfl)
theorem over : Rows.fnExactMirrorTournamentRow.holds Try.pinned (OpenSpec.ofChange Rows.fnExactMirrorTournamentSpec) :=
  OpenClaim.holds_of_wide 7 Try.f7 rfl rfl rfl rfl rfl rfl rfl ⟨rfl, rfl, rfl, rfl, rfl⟩ rfl rfl rfl rfl rfl (by kernel_rfl) Try.func7 joined
    (of_decide_eq_true (by kernel_rfl)) (by unfold Func.isWrapper; first | (rw [if_pos (by decide +kernel)]; kernel_rfl) | (rw [if_neg (by decide +kernel)]; exact ⟨rfl, rfl⟩))
    (fun os started H enc _ => lifted os started H enc)
theorem proved : Rows.FnExactMirrorTournamentSaid := over
#print axioms proved
end Go.Proofs.Ytjkhdblhbjndiaa.fnExactMirrorTournament
namespace Go.Proofs.Ytjkhdblhbjndiaa
/-- The row, under a short name, for the claim. -/
theorem fnExactMirrorTournament_holds : Rows.FnExactMirrorTournamentSaid := fnExactMirrorTournament.proved
end Go.Proofs.Ytjkhdblhbjndiaa
