/- The row of the law FnExactIsGraph: contracts and plain lemmas for the law FnExactIsGraph, part 3 of 3 (what the Go functions answer). -/
import Derived.ProofKit
import Derived.OpenShut
import Derived.Deep.Matrix
import Derived.Lib.SmallJoins
import Derived.Test.YtbcbgehdikockaaDoorRows
import Derived.Test.YtbcbgehdikockaaDoorCards
import Derived.Test.YtbcbgehdikockaaDoorTie
import Derived.Deep.DeepHandedRow
import Derived.Lib.LaidTab
import Derived.Stop.LaidErr
import Derived.WalkKit
import Derived.ShutString
import Derived.ChangeOld
import Derived.Below
import Derived.SizedLaws
import Derived.Test.YtbcbgehdikockaaDoorCFnExactIsGrapha
import Derived.Test.YtbcbgehdikockaaDoorCFnExactIsGraphb
set_option linter.unusedVariables false
set_option linter.unusedSimpArgs false
namespace Go.Proofs.YtbcbgehdikockaaDoor.K
open Go.RowKit Go.Proofs.YtbcbgehdikockaaDoorW.PrintWords Go.Proofs.YtbcbgehdikockaaDoorW.PrintMore Go.Proofs.YtbcbgehdikockaaDoor.P
def Gr (n : Nat) (ns : List Nat) : Prop := Near n ns ∧ ∀ i, i < n → ∀ j, j < n → nb ns i j = true → nb ns j i = true
def IsGr (a : Int) (l : List Int) : Prop := ∃ n ns, a = ((n : Nat) : Int) ∧ l = ints ns ∧ Gr n ns
theorem graph_l1 {n : Nat} {ns : List Nat} (h : Sets n ns) (i : Nat) (hi : i < n) (R : Prop) (hR : EvB (fun k => impl_IsGraph.l0 k (ints ns) n ((i + 1 : Nat) : Int) n (ints ns)) R) :
    EvB (fun k => impl_IsGraph.l1 k i (ints ns) n i (ints (mem8 (ns.getD i 0))) ((mem8 (ns.getD i 0)).length : Int) ((0 : Nat) : Int) n (ints ns)) ((∀ j, j < n → nb ns i j = true → nb ns j i = true) ∧ R) := by
  have hl := h.len
  have hn := h.n8
  have hm := mem8_len (ns.getD i 0)
  refine (allLoop0 (fun p k => impl_IsGraph.l1 k i (ints ns) n i (ints (mem8 (ns.getD i 0))) ((mem8 (ns.getD i 0)).length : Int) (p : Int) n (ints ns)) (mem8 (ns.getD i 0)).length (fun p => nb ns ((mem8 (ns.getD i 0)).getD p 0) i = true) R ?_ ?_).congr ?_
  · refine EvB.step (fun k => ?_) hR
    rw [impl_IsGraph.l1, if_neg (by omega), wrap_nat i (by omega)]
  · intro p hp R hR
    have hg := (mem8_mem h i _).1 (getD_mem hp)
    refine EvB.step (f := fun k => if nb ns ((mem8 (ns.getD i 0)).getD p 0) i = true then impl_IsGraph.l1 k i (ints ns) n i (ints (mem8 (ns.getD i 0))) ((mem8 (ns.getD i 0)).length : Int) ((p + 1 : Nat) : Int) n (ints ns) else some false) (fun k => ?_) (EvB.and fun _ => hR)
    rw [impl_IsGraph.l1, if_pos (by omega), if_pos (by omega), if_pos (by rw [ints_length]; omega), rd_ints, if_pos (by omega), if_pos (by rw [ints_length]; omega), rd_ints, has_nb h, Option.bind_some, wrap_nat p (by omega)]
  · refine and_congr ⟨fun hh j hj hb => ?_, fun hh p hp => ?_⟩ Iff.rfl
    · obtain ⟨p, hp, rfl⟩ := mem_getD ((mem8_mem h i j).2 ⟨hj, hb⟩)
      exact hh p hp
    · obtain ⟨h1, h2⟩ := (mem8_mem h i _).1 (getD_mem hp)
      exact hh _ h1 h2
theorem graph_l0 {n : Nat} {ns : List Nat} (h : Sets n ns) : EvB (fun k => impl_IsGraph.l0 k (ints ns) n ((0 : Nat) : Int) n (ints ns)) (∀ i, i < n → ∀ j, j < n → nb ns i j = true → nb ns j i = true) := by
  have hl := h.len
  have hn := h.n8
  refine (allLoop0 (fun j k => impl_IsGraph.l0 k (ints ns) n (j : Int) n (ints ns)) n (fun i => ∀ j, j < n → nb ns i j = true → nb ns j i = true) True ?_ ?_).congr (by simp)
  · exact EvB.step (fun k => by rw [impl_IsGraph.l0, if_neg (by omega)]) EvB.true_
  · intro i hi R hR
    refine EvB.step (fun k => ?_) (EvB.bind (f := fun k (t : List Int) => impl_IsGraph.l1 k i (ints ns) n i t (t.length : Int) ((0 : Nat) : Int) n (ints ns)) (members_f (ns.getD i 0) (h.b256 i)) ?_)
    · rw [impl_IsGraph.l0, if_pos (by omega), if_pos (by omega), if_pos (by rw [ints_length]; omega), rd_ints]
      rfl
    · simp only [ints_length]
      exact graph_l1 h i hi R hR
theorem IsGraph_f (a : Int) (l : List Int) (hl : l.length ≤ BM) : EvB (fun k => impl_IsGraph.f k a l) (IsGr a l) := by
  unfold impl_IsGraph.f
  obtain ⟨b, hb, hbb⟩ := (areNear_f a l hl).ev
  refine EvB.bind hb ?_
  cases b with
  | false => exact ⟨fun ⟨n, ns, e1, e2, h⟩ => absurd (hbb.2 ⟨n, ns, e1, e2, h.1⟩) (by simp), fun _ => by simpa using Ev.now false⟩
  | true =>
    obtain ⟨n, ns, rfl, rfl, hn⟩ := hbb.1 rfl
    simp only [if_true, ints_length, hn.1.len]
    refine (graph_l0 hn.1).congr ⟨fun h => ⟨n, ns, rfl, rfl, hn, h⟩, ?_⟩
    rintro ⟨n', ns', e1, e2, h⟩
    obtain rfl : n = n' := by omega
    obtain rfl := ints_inj e2
    exact h.2
theorem dgood_l1 {n : Nat} {ns : List Nat} (h : Sets n ns) (i : Nat) (hi : i < n) (R : Prop) (hR : EvB (fun k => spec_deGood.l0 k (ints ns) n ((i + 1 : Nat) : Int) n (ints ns)) R) :
    EvB (fun k => spec_deGood.l1 k i ((ns.getD i 0 : Nat) : Int) (ints ns) n i n ((0 : Nat) : Int) n (ints ns)) ((∀ j, j < n → (nb ns i j = true → i ≠ j ∧ nb ns j i = true)) ∧ R) := by
  have hl := h.len
  have hn := h.n8
  refine allLoop0 (fun j k => spec_deGood.l1 k i ((ns.getD i 0 : Nat) : Int) (ints ns) n i n (j : Int) n (ints ns)) n (fun j => nb ns i j = true → i ≠ j ∧ nb ns j i = true) R ?_ ?_
  · refine EvB.step (fun k => ?_) hR
    rw [spec_deGood.l1, if_neg (by omega), wrap_nat i (by omega)]
  · intro j hj R hR
    refine EvB.step (f := fun k => if (nb ns i j = true → i ≠ j ∧ nb ns j i = true) then spec_deGood.l1 k i ((ns.getD i 0 : Nat) : Int) (ints ns) n i n ((j + 1 : Nat) : Int) n (ints ns) else some false) (fun k => ?_) (EvB.and fun _ => hR)
    rw [spec_deGood.l1, if_pos (by omega), deHas_nb h i, Option.bind_some, wrap_nat j (by omega)]
    by_cases e : nb ns i j = true
    · rw [if_pos e]
      by_cases hij : i = j
      · subst hij
        rw [if_pos rfl, if_neg (fun hh => (hh e).1 rfl)]
      · rw [if_neg (by omega), if_pos (by omega), if_pos (by rw [ints_length]; omega), rd_ints, deHas_nb h j, Option.bind_some]
        by_cases e2 : nb ns j i = true
        · rw [if_pos e2, if_pos (fun _ => ⟨hij, e2⟩)]
        · rw [if_neg e2, if_neg (fun hh => e2 (hh e).2)]
    · rw [if_neg e, if_pos (fun hh => absurd hh e)]
theorem dgood_l0 {n : Nat} {ns : List Nat} (h : Sets n ns) : EvB (fun k => spec_deGood.l0 k (ints ns) n ((0 : Nat) : Int) n (ints ns)) (∀ i, i < n → ∀ j, j < n → (nb ns i j = true → i ≠ j ∧ nb ns j i = true)) := by
  have hl := h.len
  have hn := h.n8
  refine (allLoop0 (fun j k => spec_deGood.l0 k (ints ns) n (j : Int) n (ints ns)) n (fun i => ∀ j, j < n → (nb ns i j = true → i ≠ j ∧ nb ns j i = true)) True ?_ ?_).congr (by simp)
  · exact EvB.step (fun k => by rw [spec_deGood.l0, if_neg (by omega)]) EvB.true_
  · intro i hi R hR
    refine EvB.step (fun k => ?_) (dgood_l1 h i hi R hR)
    rw [spec_deGood.l0, if_pos (by omega), if_pos (by omega), if_pos (by rw [ints_length]; omega), rd_ints, ints_length, hl]
    rfl
theorem gr_iff {n : Nat} {ns : List Nat} (h : Sets n ns) : (∀ i, i < n → ∀ j, j < n → (nb ns i j = true → i ≠ j ∧ nb ns j i = true)) ↔ Gr n ns := by
  constructor
  · intro g
    refine ⟨⟨h, fun i hi => ?_⟩, fun i hi j hj hb => (g i hi j hj hb).2⟩
    cases e : nb ns i i with
    | false => rfl
    | true => exact absurd rfl (g i hi i hi e).1
  · intro g i hi j hj hb
    refine ⟨fun e => ?_, g.2 i hi j hj hb⟩
    subst e
    rw [g.1.2 i hi] at hb; cases hb
theorem deGood_f (a : Int) (l : List Int) (hl : l.length ≤ BM) : EvB (fun k => spec_deGood.f k a l) (IsGr a l) := by
  have hj : ∀ a l, Ev (fun k => spec_deGood.j0 k true a l) false := fun a l => Ev.step (fun k => by rw [spec_deGood.j0]) (by simpa using Ev.now _)
  have no : ∀ {g : Nat → Option Bool}, ¬ ((1 ≤ a ∧ a ≤ 8) ∧ (l.length : Int) = a ∧ within 0 (wrap64 (shl .i64 1 a - 1)) l = true) → Ev g false → EvB g (IsGr a l) := by
    intro g h1 h2
    exact ⟨fun ⟨n, ns, e1, e2, h⟩ => absurd ((sets_iff a l).2 ⟨n, ns, e1, e2, h.1.1⟩) h1, fun _ => h2⟩
  unfold spec_deGood.f
  simp only [l1In_f, Option.bind_some]
  by_cases h1 : 1 ≤ a ∧ a ≤ 8
  · rw [show (decide (1 ≤ a) && decide (a ≤ 8)) = true by simp; omega]
    simp only [if_true]
    by_cases h2 : (l.length : Int) = a
    · have h3 : 0 ≤ a := by omega
      simp only [if_pos h2, if_pos h3]
      refine EvB.bind (l1All_f l 0 _ hl) ?_
      cases h4 : within 0 (wrap64 (shl .i64 1 a - 1)) l with
      | false => exact no (by simp [h4]) (hj a l)
      | true =>
        obtain ⟨n, ns, rfl, rfl, hs⟩ := (sets_iff a l).1 ⟨h1, h2, h4⟩
        refine EvB.step (fun k => by rw [spec_deGood.j0]) ?_
        simp only [Bool.not_true, Bool.false_eq_true, if_false, h2]
        refine (dgood_l0 hs).congr ⟨fun h => ⟨n, ns, rfl, rfl, (gr_iff hs).1 h⟩, ?_⟩
        rintro ⟨n', ns', e1, e2, h⟩
        obtain rfl : n = n' := by omega
        obtain rfl := ints_inj e2
        exact (gr_iff hs).2 h
    · simp only [if_neg h2]
      exact no (fun h => h2 h.2.1) (hj a l)
  · rw [show (decide (1 ≤ a) && decide (a ≤ 8)) = false by simp; omega]
    exact no (fun h => h1 h.1) (by simpa using hj a l)
end Go.Proofs.YtbcbgehdikockaaDoor.K
namespace Go.Proofs.YtbcbgehdikockaaDoor.Pure
open Go.RowKit Go.Proofs.YtbcbgehdikockaaDoorW.PrintWords Go.Proofs.YtbcbgehdikockaaDoor.P Go.Proofs.YtbcbgehdikockaaDoor.K
theorem FnExactIsGraph : ∀ (a : Int) (l : List Int), (Lit.int .i64 a).wf = true → l.length ≤ maxLen → (∀ n ∈ l, (Lit.int .i64 n).wf = true) → ∃ k, laws_FnExactIsGraph.f k a l = some true := by
  intro a l _ hl _
  refine Ev.rounds (g := fun k => laws_FnExactIsGraph.f k a l) ?_
  unfold laws_FnExactIsGraph.f
  obtain ⟨r, hr, hr'⟩ := szGraph_f a l hl
  rw [hr]
  simp only [Option.bind_some]
  refine Ev.ite (fun _ => Ev.now _) (fun h => ?_)
  have h : l.length ≤ BM := by have := hr' (by omega); simp only [BM]; omega
  obtain ⟨b, hb, hbb⟩ := (deGood_f a l h).ev
  obtain ⟨c, hc, hcc⟩ := (IsGraph_f a l h).ev
  have e : b = c := by rw [Bool.eq_iff_iff, hbb, hcc]
  subst e
  have hs : Ev (fun k => spec_IsGraph.f k a l) b := by unfold spec_IsGraph.f; exact Ev.bind hb (Ev.now _)
  refine Ev.bind (toGraph_f a l h) (Ev.bind hs (Ev.bind (toGraph_f a l h) (Ev.bind hc ?_)))
  simp only [bne_self_eq_false, Bool.false_eq_true, if_false]
  refine Ev.bind (toGraph_f a l h) (Ev.bind (eqGraphL_same a l h) ?_)
  simpa using Ev.now true
end Go.Proofs.YtbcbgehdikockaaDoor.Pure
namespace Go.Proofs.YtbcbgehdikockaaDoor.K
open Go.RowKit Go.ChangeShapes Go.WideShapes Go.ChangeAt Go.Deep Go.Proofs.YtbcbgehdikockaaDoorW.PrintWords
section
variable {H : Type} {enc : TypeId × Value → H} {P : Program} {w : World}
theorem open_row {t e : TypeId} {fuel : Nat} {cs : List Value} {x : DataW H × List MemPlace} (ht : P.underlying t = some (.slice e)) (he : P.underlying e = some (.int .i64)) (hc : P.cellsOf e = 1)
    (h : DataW.trod enc P w 0 (fun _ => true) true fuel t cs = some x) :
    ∃ (A : Option Addr) (c : Nat) (l : List Int), cs = [.slice A l.length c] ∧ l.length ≤ c ∧ l.length ≤ maxLen ∧ (∀ n ∈ l, (Lit.int .i64 n).wf = true) ∧ Kd.C (Kd.int .i64) w A l.length l := by
  rcases open_ints ht he hc h with ⟨rfl, _⟩ | ⟨a, l, c, zs, rfl, _, hl, hm, hz, _, hcell, hwz⟩
  · exact ⟨none, 0, [], rfl, Nat.le_refl _, by simp [maxLen], by simp, Kd.C_nil _ _⟩
  · obtain ⟨l0, rfl, hr0, hm0, hw0, hc0⟩ := ReadsInt.ofRowC (k := .i64) (w := w) (a := some a) (len := l) (cap := c) (zs := zs) (.inr ⟨a, rfl, hl, hm, by simpa using hz, hcell, hwz⟩)
    exact ⟨some a, c, l0, rfl, hc0, hm0, hw0, Kd.C_of_reads (d := (0 : Int)) (h1 := fun _ => rfl) hr0⟩
end
end Go.Proofs.YtbcbgehdikockaaDoor.K
namespace Go.Proofs.YtbcbgehdikockaaDoor.fnExactIsGraph
open Go.ChangeShapes Go.WideShapes Go.ChangeAt Go.RowKit
open Go.ChangeMaps (open_string shut_string)
theorem own : ownKnob Tryd.prog.godebug = none := by kernel_rfl
theorem laidOut : laidOutB Tryd.prog = true := by kernel_rfl
theorem gTab : Tryd.prog.globalNamed "math/bits.deBruijn64tab" = some 1 := by kernel_rfl
theorem gTabType : (Tryd.prog.globals[1]?).map (·.type) = some 76 := by kernel_rfl
theorem cellsT : Tryd.prog.cellsOf 76 = 64 := by kernel_rfl
theorem cellsE : Tryd.prog.cellsOf 5 = 1 := by kernel_rfl
theorem table {W : World} (h : laidMetH Tryd.prog Rows.fnExactIsGraphRow.laid W) : K.TabOK W := by
  have h2 : laidMet Tryd.prog [("math/bits.deBruijn32tab", Rows.laid_math_bits_deBruijn32tab), ("math/bits.deBruijn64tab", Rows.laid_math_bits_deBruijn64tab)] W := h
  have h3 : laidMet Tryd.prog (("math/bits.deBruijn64tab", Lib.tabData .u8 K.zs64) :: []) W := h2.tail
  have h4 := Lib.tabIs_of_head gTab gTabType Tryd.underlying76 Tryd.underlying5 cellsE cellsT h3
  intro j hj
  have h5 := h4.cell gTab j hj
  rw [h5, K.zs64_at j hj]
theorem contract (H : Type) (enc : TypeId × Value → H) (W : World) (base : Nat) (args : Array Value) (ds gs : List (DataW H)) (before : List MemPlace)
    (hval0 : ∀ (j : Nat) t v, Tryd.f3.params[j]? = some t → args[j]? = some v → Value.okWide Tryd.prog W .any base t v)
    (hW : DataW.Whole enc Tryd.prog Tryd.f3.params.toList Rows.fnExactIsGraphSpec.vars false W args.toList ds gs before) (hsz0 : (DataW.weightsEach Tryd.prog (Tryd.f3.params.toList ++ Rows.fnExactIsGraphSpec.plain.varTypes Tryd.prog) (ds ++ gs)).all (· ≤ reachBytes) = true) (hL : laidMetH Tryd.prog Rows.fnExactIsGraphRow.laid W) :
    Calls Tryd.prog 3 args W fun e W' => ∃ v, e = .returned v ∧ Rows.fnExactIsGraphSpec.post enc Tryd.prog Tryd.f3 false true false false W args v W' := by
  have hsz : (DataW.weightsEach Tryd.prog (Tryd.f3.params.toList ++ Rows.fnExactIsGraphSpec.plain.varTypes Tryd.prog) (ds ++ gs)).all (· ≤ reachBytes) = true := hsz0
  have hval : ∀ (j : Nat) t v, Tryd.f3.params[j]? = some t → args[j]? = some v → Value.okWide Tryd.prog W .any base t v := hval0
  have hW' := hW
  obtain ⟨p, q, hA0, hV, rfl, hfz, hnd⟩ := hW
  have hA : DataW.TrodAll enc Tryd.prog W 0 (fun _ => true) true Tryd.f3.params.toList args.toList ds p := hA0
  rw [Tryd.params3] at hA hval hsz
  obtain ⟨v0, vs0, d0, ds0, p0, q0, hargs, rfl, rfl, h0, r0⟩ := trodAll_cons hA
  obtain ⟨rfl, rfl, rfl⟩ := trodAll_nil r0
  obtain rfl : args = #[v0] := by cases args; simp_all
  obtain ⟨rfl, rfl⟩ := trodVars_none hV
  have k0 := h0
  have lt0 : ∀ x ∈ p0, x.block < W.heap.size := by obtain ⟨m, hm⟩ := k0; exact DataW.trod_lt m _ _ _ hm
  obtain ⟨u0_0, u0_1, y0_0, y0_1, m0, rfl, rfl, rfl, g0_0, g0_1⟩ := Joins.open_agg2 Tryd.underlying24 (by kernel_rfl) (by kernel_rfl) (hval 0 24 v0 rfl rfl) h0
  obtain ⟨a0_0, hcs0_0, _, w0_0⟩ := DataW.trod_int Tryd.underlying3 g0_0
  obtain rfl := List.singleton_inj.1 hcs0_0
  obtain ⟨A0_1, c0_1, l0_1, hcs0_1, hc0_1, hm0_1, hw0_1, hr0_1⟩ := K.open_row Tryd.underlying22 Tryd.underlying3 (by kernel_rfl) g0_1
  obtain rfl := List.singleton_inj.1 hcs0_1
  clear hA0 hval0 hsz0 hsz
  obtain ⟨k, hk⟩ := Pure.FnExactIsGraph a0_0 l0_1 w0_0 hm0_1 hw0_1
  refine (P.laws_FnExactIsGraph.calls k a0_0 _ _ l0_1 true W (table hL) hr0_1 hc0_1 hk).mono fun e W' ⟨he, bel⟩ => ?_
  subst he
  exact ⟨_, rfl, _, _, _, [], _, [], hW', trodAll_mk1 (shut_bool Tryd.underlying4 _), (trodAll_cons_mk (Below.trod laidOut (by kernel_rfl) (of_decide_eq_true (by kernel_rfl)) k0 bel lt0) trodAll_mk0), rfl, bel.frame _, fun h => by cases h⟩
noncomputable def laidWorld (os : Os) : World :=
  { World.holding Tryd.prog os ⟨#[], #[], []⟩ with heap := (((World.holding Tryd.prog os ⟨#[], #[], []⟩).heap.modify 0 fun | .cells _ t frozen => .cells #[.int .u8 0, .int .u8 1, .int .u8 28, .int .u8 2, .int .u8 29, .int .u8 14, .int .u8 24, .int .u8 3, .int .u8 30, .int .u8 22, .int .u8 20, .int .u8 15, .int .u8 25, .int .u8 17, .int .u8 4, .int .u8 8, .int .u8 31, .int .u8 27, .int .u8 13, .int .u8 23, .int .u8 21, .int .u8 19, .int .u8 16, .int .u8 7, .int .u8 26, .int .u8 12, .int .u8 18, .int .u8 6, .int .u8 11, .int .u8 5, .int .u8 10, .int .u8 9] t frozen | o => o).modify 1 fun | .cells _ t frozen => .cells #[.int .u8 0, .int .u8 1, .int .u8 56, .int .u8 2, .int .u8 57, .int .u8 49, .int .u8 28, .int .u8 3, .int .u8 61, .int .u8 58, .int .u8 42, .int .u8 50, .int .u8 38, .int .u8 29, .int .u8 17, .int .u8 4, .int .u8 62, .int .u8 47, .int .u8 59, .int .u8 36, .int .u8 45, .int .u8 43, .int .u8 51, .int .u8 22, .int .u8 53, .int .u8 39, .int .u8 33, .int .u8 30, .int .u8 24, .int .u8 18, .int .u8 12, .int .u8 5, .int .u8 63, .int .u8 55, .int .u8 48, .int .u8 27, .int .u8 60, .int .u8 41, .int .u8 37, .int .u8 16, .int .u8 46, .int .u8 35, .int .u8 44, .int .u8 21, .int .u8 52, .int .u8 32, .int .u8 23, .int .u8 11, .int .u8 54, .int .u8 26, .int .u8 40, .int .u8 15, .int .u8 34, .int .u8 20, .int .u8 31, .int .u8 10, .int .u8 25, .int .u8 14, .int .u8 19, .int .u8 9, .int .u8 13, .int .u8 8, .int .u8 7, .int .u8 6] t frozen | o => o) }
theorem laid_met (os : Os) : laidMet Tryd.prog Rows.fnExactIsGraphRow.laid ((laidWorld os).forCall (fun _ _ => 0) ⟨#[], #[.agg #[.int .i64 0, .slice none 0 0]], []⟩).memory :=
  laidMet_of_run' 8 (by kernel_rfl) (by kernel_rfl)
theorem reads (os : Os) {H : Type} (enc : TypeId × Value → H) : ∃ places, DataW.whole enc Tryd.prog ((laidWorld os).forCall (fun _ _ => 0) ⟨#[], #[.agg #[.int .i64 0, .slice none 0 0]], []⟩).memory Tryd.f3.params.toList Rows.fnExactIsGraphSpec.vars false #[.agg #[.int .i64 0, .slice none 0 0]].toList 8 = some ([.agg [.lit (.int .i64 0), .nil]], [], places) :=
  ⟨[], by kernel_rfl⟩
set_option maxRecDepth 100000 in
theorem lifted (os : Os) (started : os.Started) (H : Type) (enc : TypeId × Value → H) (F : Stop.Interp) :
    ReturnsInHanded {} Tryd.checked os 3 .any ((OpenSpec.ofChange Rows.fnExactIsGraphSpec).preRow enc Tryd.prog Tryd.f3 Rows.fnExactIsGraphRow.domain false Rows.fnExactIsGraphRow.laid) (((OpenSpec.ofChange Rows.fnExactIsGraphSpec).at F).post enc Tryd.prog Tryd.f3 false true false false) := by
  obtain ⟨places, hx⟩ := reads os enc
  refine returnsInHanded_of_row (C := Tryd.checked) (s := OpenSpec.ofChange Rows.fnExactIsGraphSpec) own started (by kernel_rfl) Tryd.func3
    (witness_row_at (enc := enc) (C := Tryd.checked) false (laidWorld os) #[.agg #[.int .i64 0, .slice none 0 0]] rfl (by kernel_rfl) (by kernel_rfl) (by kernel_rfl)
      (OpenSpec.preRow_of_cond 8 hx (by kernel_rfl) (fun k hk => by cases hk) (by kernel_rfl) (laid_met os))) ?_
  intro W base args ds gs before hval hW _ _ hsz hL _ _
  exact contract H enc W base args ds gs before hval hW hsz hL
set_option maxHeartbeats 4000000 in
theorem said : Rows.FnExactIsGraphSaid :=
  OpenClaim.holds_of_cond 3 Tryd.f3 rfl rfl rfl rfl rfl rfl rfl ⟨rfl, rfl, rfl, rfl, rfl⟩ rfl rfl rfl rfl rfl (by kernel_rfl) Tryd.func3 (by kernel_rfl)
    (of_decide_eq_true (by kernel_rfl)) (by unfold Func.isWrapper; first | (rw [if_pos (by decide +kernel)]; kernel_rfl) | (rw [if_neg (by decide +kernel)]; exact ⟨rfl, rfl⟩))
    (fun os started H enc _ F => by rw [OpenClaim.pre_eq_preRow]; exact lifted os started H enc F)
theorem plain (f : FuncId) (fn : Func) (hf : Tryd.pinned.checked.prog.funcNamed "loop.example/g01113/laws.FnExactIsGraph" = some f) (hfn : Tryd.pinned.checked.prog.funcs[f]? = some fn) :
    false = Tryd.pinned.checked.prog.looks [] ∧ ∀ (j : Nat) t, fn.params[j]? = some t → Tryd.pinned.checked.prog.wantsStandIn t = false := by
  obtain rfl : f = 3 := Option.some.inj ((show Tryd.prog.funcNamed "loop.example/g01113/laws.FnExactIsGraph" = some 3 by kernel_rfl).symm.trans hf) |>.symm
  obtain rfl : fn = Tryd.f3 := (Option.some.inj (Tryd.func3.symm.trans hfn)).symm
  refine ⟨by kernel_rfl, fun j t ht => ?_⟩
  rw [Tryd.params3] at ht
  have hm := Array.mem_of_getElem? ht
  simp only [List.mem_toArray, List.mem_cons, List.not_mem_nil, or_false] at hm
  subst hm
  exact (show Tryd.prog.wantsStandIn 24 = false by kernel_rfl)
theorem card : Rows.FnExactIsGraphCardSaid :=
  Claim7.holds_tied_plain_at .later [] _ _ _ _ said (fun _ h => by cases h) (by kernel_rfl) (fun _ h => by cases h) fnExactIsGraph_row_tie rfl ⟨rfl, rfl⟩ (by kernel_rfl) rfl plain (by kernel_rfl)
#print axioms card
end Go.Proofs.YtbcbgehdikockaaDoor.fnExactIsGraph
namespace Go.Proofs.YtbcbgehdikockaaDoor
theorem fnExactIsGraph_holds : Rows.FnExactIsGraphCardSaid := fnExactIsGraph.card
end Go.Proofs.YtbcbgehdikockaaDoor
