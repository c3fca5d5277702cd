/- The row of the law FnExactSumsOfGrid: contracts and plain lemmas for the law FnExactSumsOfGrid, part 3 of 3: what the Go functions that it reaches answer. No condition beyond those in each statement. -/
import Derived.Test.YtojcnapdalpnmaaWMore
import Derived.Test.YtojcnapdalpnmaaWWords
import Derived.ProofKit
import Derived.OpenShut
import Derived.Deep.Matrix
import Derived.Lib.SmallJoins
import Derived.Test.YtojcnapdalpnmaaRows
import Derived.WalkKit
import Derived.ShutString
import Derived.ChangeOld
import Derived.Below
import Derived.SizedLaws
import Derived.Test.YtojcnapdalpnmaaWSized
import Derived.Test.YtojcnapdalpnmaaCFnExactSumsOfGrida
import Derived.Test.YtojcnapdalpnmaaCFnExactSumsOfGridb
namespace Go.Proofs.Ytojcnapdalpnmaa.P
open Go.RowKit Go.Proofs.YtojcnapdalpnmaaW.PrintWords Go.Proofs.YtojcnapdalpnmaaW.PrintLast Go.Proofs.YtojcnapdalpnmaaW.PrintMore
attribute [local go_sem] max2_int min2_int max_two min_two max_three min_three max_four min_four   -- for this text's walks alone
set_option linter.unusedVariables false
set_option linter.unusedSimpArgs false

/-! ### impl_TurnGrid: function 28 -/
def impl_TurnGrid.f (k : Nat) (l0 : List (List Int)) : Option ((List (List Int)) × Bool) := (impl_IsGrid.f l0).bind fun t249 => (if t249 = true then ((impl_turn.f k l0).bind fun t250 => (some (t250, true))) else (some (([] : List (List Int)), false)))
theorem impl_TurnGrid.mono : ∀ a0 k, LeO (impl_TurnGrid.f k a0) (impl_TurnGrid.f (k + 1) a0) := by
  intro a0 k
  unfold impl_TurnGrid.f
  repeat' first
      | (with_reducible exact impl_turn.mono _ _)
      | (with_reducible exact LeO.refl _)
      | (with_reducible exact LeO.none _)
      | (with_reducible refine LeO.ite ?_ ?_)
      | (with_reducible refine LeO.bind ?_ (fun _ => ?_))
      | exact impl_turn.mono _ _
      | exact LeO.none _
      | refine LeO.ite ?_ ?_
      | refine LeO.bind ?_ (fun _ => ?_)
set_option maxHeartbeats 8000000 in
set_option maxRecDepth 100000 in
theorem impl_TurnGrid.calls (k : Nat) (A0 : Option Addr) (c0 : Nat) (l0 : List (List Int)) (r1 : List (List Int)) (r2 : Bool) (w : World) (hr0 : Kd.C (Kd.slice 3 (Kd.int .i64)) w A0 l0.length l0) (hc0 : l0.length ≤ c0) (h : impl_TurnGrid.f k l0 = some (r1, r2)) :
    Calls Try.prog 28 #[.slice A0 l0.length c0] w fun e w' => ∃ v0_ : Value, e = .returned (.tuple #[v0_, .bool r2]) ∧ Kd.S (Kd.slice 3 (Kd.int .i64)) 33 w' w.heap.size (fun _ => True) v0_ r1 ∧ Below w.heap.size w w' := by
  have HR0 := Aside0.mk hr0
  have HC0 := Aside0.mk hc0
  clear hr0 hc0
  have HB := Aside0.mk (Below.refl w.heap.size w)
  have H : ((impl_IsGrid.f l0).bind fun t249 => (if t249 = true then ((impl_turn.f k l0).bind fun t250 => (some (t250, true))) else (some (([] : List (List Int)), false)))) = some (r1, r2) := h
  clear h
  replace H := Option.bind_eq_some_iff.mp H
  obtain ⟨t249, A20, H⟩ := H
  replace H : (if t249 = true then ((impl_turn.f k l0).bind fun t250 => (some (t250, true))) else (some (([] : List (List Int)), false))) = some (r1, r2) := H
  have A2 := Aside0.mk A20
  clear A20
  by_cases c3 : t249 = true
  · subst c3
    have H1 : ((impl_turn.f k l0).bind fun t250 => (some (t250, true))) = some (r1, r2) := by rw [if_pos rfl] at H; exact H
    clear H
    have H := H1
    clear H1
    replace H := Option.bind_eq_some_iff.mp H
    obtain ⟨t250, A40, H⟩ := H
    replace H : (some (t250, true)) = some (r1, r2) := H
    have A4 := Aside0.mk A40
    clear A40
    simp only [Option.some.injEq, Prod.mk.injEq] at H
    obtain ⟨rfl, rfl⟩ := H
    go_enter Try.func28, Try.ntmps28
    go_wp2_with (first | ((with_reducible refine gate_callee (f := 21) rfl ?_); refine goesL_ (some 5) rfl rfl Try.func21 (by kernel_rfl) rfl #[.slice A0 l0.length c0] rfl (by (try simp only [List.map_toArray, List.map_cons, List.map_nil]); first | done | rfl | (simp only [List.length_drop, List.length_take]; rfl)) ?_; (with_reducible refine (impl_IsGrid.calls _ _ l0 true _ ?side1 ?side2 A2.out).mono ?_); (case side1 => repeat (first | exact HR0.out | (with_reducible refine Kd.C_alloc ?_ _) | (with_reducible refine Kd.C_drewN ?_ _) | (with_reducible refine Kd.C_drew ?_))); (case side2 => exact HC0.out); rintro e w5 ⟨rfl, hb⟩; refine ⟨_, rfl, ?_⟩; have n0_ := Aside0.mk (below_step (by repeat (first | (with_reducible first | exact HB.out | apply below_alloc | apply pw_below_drewN | apply below_drew1) | exact HB.out)) hb); clear HB; have HB := n0_; clear n0_; (try clear hb); (try clear hb2); (try clear hk); (try clear hi)) | ((with_reducible refine gate_callee (f := 75) rfl ?_); refine goesL_ (some 8) rfl rfl Try.func75 (by kernel_rfl) rfl #[.slice A0 l0.length c0] rfl (by (try simp only [List.map_toArray, List.map_cons, List.map_nil]); first | done | rfl | (simp only [List.length_drop, List.length_take]; rfl)) ?_; (with_reducible refine (impl_turn.calls k _ _ l0 t250 _ ?side1 ?side2 A4.out).mono ?_); (case side1 => repeat (first | exact (Kd.C_below HR0.out HB.out) | (with_reducible refine Kd.C_alloc ?_ _) | (with_reducible refine Kd.C_drewN ?_ _) | (with_reducible refine Kd.C_drew ?_))); (case side2 => exact HC0.out); rintro e w6 ⟨v251, rfl, ho0, hb⟩; refine ⟨_, rfl, ?_⟩; have n0_ := Aside0.mk (Kd.S_lower ho0 (below_size (by repeat (first | (with_reducible first | exact HB.out | apply below_alloc | apply pw_below_drewN | apply below_drew1) | exact HB.out)))); have n1_ := Aside0.mk (below_step (by repeat (first | (with_reducible first | exact HB.out | apply below_alloc | apply pw_below_drewN | apply below_drew1) | exact HB.out)) hb); clear HB; have HO252 := n0_; have HB := n1_; clear n0_ n1_; (try clear hb); (try clear hb2); (try clear hk); (try clear hi); (try clear ho0)))
    go_ret2
    exact ⟨_, by first | rfl | (simp [errW_none, errW_some] <;> rfl) | (simp [*, errW_none, errW_some] <;> rfl), by (with_reducible repeat (first | apply Kd.S_alloc | apply Kd.S_drewN | apply Kd.S_drew)); exact HO252.out, by repeat (first | (with_reducible first | exact HB.out | apply below_alloc | apply pw_below_drewN | apply below_drew1) | exact HB.out)⟩
  · replace c3 := Bool.eq_false_iff.mpr c3
    subst c3
    have H1 : (some (([] : List (List Int)), false)) = some (r1, r2) := by rw [if_neg (show ¬ (false = true) by decide)] at H; exact H
    clear H
    have H := H1
    clear H1
    simp only [Option.some.injEq, Prod.mk.injEq] at H
    obtain ⟨rfl, rfl⟩ := H
    go_enter Try.func28, Try.ntmps28
    go_wp2_with (first | ((with_reducible refine gate_callee (f := 21) rfl ?_); refine goesL_ (some 5) rfl rfl Try.func21 (by kernel_rfl) rfl #[.slice A0 l0.length c0] rfl (by (try simp only [List.map_toArray, List.map_cons, List.map_nil]); first | done | rfl | (simp only [List.length_drop, List.length_take]; rfl)) ?_; (with_reducible refine (impl_IsGrid.calls _ _ l0 false _ ?side1 ?side2 A2.out).mono ?_); (case side1 => repeat (first | exact HR0.out | (with_reducible refine Kd.C_alloc ?_ _) | (with_reducible refine Kd.C_drewN ?_ _) | (with_reducible refine Kd.C_drew ?_))); (case side2 => exact HC0.out); rintro e w7 ⟨rfl, hb⟩; refine ⟨_, rfl, ?_⟩; have n0_ := Aside0.mk (below_step (by repeat (first | (with_reducible first | exact HB.out | apply below_alloc | apply pw_below_drewN | apply below_drew1) | exact HB.out)) hb); clear HB; have HB := n0_; clear n0_; (try clear hb); (try clear hb2); (try clear hk); (try clear hi)))
    go_ret2
    exact ⟨_, by first | rfl | (simp [errW_none, errW_some] <;> rfl) | (simp [*, errW_none, errW_some] <;> rfl), by first | exact Kd.S_nil _ _ _ _ _ | exact Kd.N_nil _ _ _ _ _ | exact Kd.V_nil _ _ _ _ _ | exact Kd.Q_nil _ _ _ _ _ | exact Kd.R_nil _ _ _ _ _, by repeat (first | (with_reducible first | exact HB.out | apply below_alloc | apply pw_below_drewN | apply below_drew1) | exact HB.out)⟩

end Go.Proofs.Ytojcnapdalpnmaa.P

namespace Go.Proofs.Ytojcnapdalpnmaa.K
open Go.RowKit Go.Proofs.YtojcnapdalpnmaaW.PrintWords Go.Proofs.Ytojcnapdalpnmaa.P
set_option linter.unusedVariables false
set_option linter.unusedSimpArgs false
/-- The first i places of column j; the first n columns with i places each. -/
def colI (l : List (List Int)) (j i : Nat) : List Int := (List.range i).map fun (i' : Nat) => rd (rd_L1 l (i' : Int)) (j : Int)
def colsI (l : List (List Int)) (n i : Nat) : List (List Int) := (List.range n).map fun j => colI l j i
theorem colI_succ (l : List (List Int)) (j i : Nat) : colI l j (i + 1) = colI l j i ++ [rd (rd_L1 l (i : Int)) (j : Int)] := by simp [colI, List.range_succ]
theorem colI_length (l : List (List Int)) (j i : Nat) : (colI l j i).length = i := by simp [colI]
theorem colsI_length (l : List (List Int)) (n i : Nat) : (colsI l n i).length = n := by simp [colsI]
theorem rdL_mem {l : List (List Int)} {i : Nat} (h : i < l.length) : rd_L1 l (i : Int) ∈ l := by
  unfold rd_L1
  simp [List.getD_eq_getElem?_getD, List.getElem?_eq_getElem h]
theorem spec_turn_f {l : List (List Int)} (hg : gridB l = true) (h4 : l.length ≤ BM) (h5 : ∀ r ∈ l, r.length ≤ BM) : Ev (fun k => spec_TurnGrid.f k l) (colsI l (rd_L1 l 0).length l.length, true) := by
  obtain ⟨g1, g2, g3, g4, g5⟩ := grid_get hg
  have p0 : 0 < (l.length : Int) := by omega
  unfold spec_TurnGrid.f
  refine Ev.bind (maGrid_f l h4 h5) ?_
  simp only [hg, if_true, if_pos p0]
  have L1 : ∀ (j : Nat) (x4 : List (List Int)) (x14 : Int), j < (rd_L1 l 0).length → x4.length = j → ∀ x, Ev (fun k => spec_TurnGrid.l0 k l (x4 ++ [colI l j l.length]) x14 ((j + 1 : Nat) : Int)) x → Ev (fun k => spec_TurnGrid.l1 k l x4 j ([] : List Int) x14 j (l.length : Int) 0) x := by
    intro j x4 x14 hj hx4 x hx
    obtain ⟨s', rfl, h2⟩ := contLoopI (fun s i k => spec_TurnGrid.l1 k l x4 j s x14 j (l.length : Int) (i : Int)) l.length (fun s i => s = colI l j i)
      (fun s i hi hs => by
        subst hs
        refine ⟨colI l j (i + 1), rfl, fun x hx => Ev.step (fun k => by rw [spec_TurnGrid.l1]) ?_⟩
        have e1 := (g5 _ (rdL_mem hi)).1
        have q1 : (i : Int) < (l.length : Int) := by omega
        have q2 : 0 ≤ (i : Int) := by omega
        have q3 : 0 ≤ (j : Int) := by omega
        have q4 : (j : Int) < ((rd_L1 l (i : Int)).length : Int) := by omega
        have q5 : (colI l j i).length < 17592186044416 := by rw [colI_length]; omega
        simp only [if_pos q1, if_pos q2, if_pos q3, if_pos q4, if_pos q5, wrap_nat i (by omega), ← colI_succ]
        exact hx) l.length [] 0 (by omega) rfl
    refine h2 x (Ev.step (fun k => by rw [spec_TurnGrid.l1]) ?_)
    have q1 : ¬ (l.length : Int) < (l.length : Int) := by omega
    have q2 : x4.length < 5864062014805 := by omega
    simp only [if_neg q1, if_pos q2, wrap_nat j (by omega)]
    exact hx
  obtain ⟨s', rfl, h2⟩ := contLoopI (fun s j k => spec_TurnGrid.l0 k l s ((rd_L1 l 0).length : Int) (j : Int)) (rd_L1 l 0).length (fun s j => s = colsI l j l.length)
    (fun s j hj hs => by
      subst hs
      refine ⟨colsI l (j + 1) l.length, rfl, fun x hx => Ev.step (fun k => by rw [spec_TurnGrid.l0]) ?_⟩
      have q1 : (j : Int) < ((rd_L1 l 0).length : Int) := by omega
      simp only [if_pos q1]
      refine L1 j _ _ hj (colsI_length ..) x ?_
      have : colsI l j l.length ++ [colI l j l.length] = colsI l (j + 1) l.length := by simp [colsI, List.range_succ]
      rw [this]; exact hx) (rd_L1 l 0).length [] 0 (by omega) rfl
  refine h2 _ (Ev.step (fun k => by rw [spec_TurnGrid.l0]) ?_)
  have q1 : ¬ ((rd_L1 l 0).length : Int) < ((rd_L1 l 0).length : Int) := by omega
  simp only [if_neg q1]
  exact Ev.now _
theorem turnI_f {l : List (List Int)} (hg : gridB l = true) (h4 : l.length ≤ BM) (h5 : ∀ r ∈ l, r.length ≤ BM) : Ev (fun k => impl_turn.f k l) (colsI l (rd_L1 l 0).length l.length) := by
  obtain ⟨g1, g2, g3, g4, g5⟩ := grid_get hg
  have p0 : 0 < (l.length : Int) := by omega
  unfold impl_turn.f
  have p1 : 0 ≤ ((rd_L1 l 0).length : Int) := by omega
  have p2 : (((rd_L1 l 0).length : Int) : Int).toNat ≤ 11728124029610 := by omega
  simp only [if_pos p0, if_pos p1, if_pos p2]
  generalize hn : (rd_L1 l 0).length = n at *
  have hst : List.replicate ((n : Int)).toNat ([] : List Int) = colsI l n 0 := by
    simp [colsI, colI, List.map_const']
  rw [hst]
  obtain ⟨s', rfl, h2⟩ := contLoopI (fun s i k => impl_turn.l0 k s l (l.length : Int) (i : Int)) l.length (fun s i => s = colsI l n i)
    (fun s i hi hs => by
      subst hs
      refine ⟨colsI l n (i + 1), rfl, fun x hx => Ev.step (fun k => by rw [impl_turn.l0]) ?_⟩
      have e1 : (rd_L1 l (i : Int)).length = n := (g5 _ (rdL_mem hi)).1
      have q1 : (i : Int) < (l.length : Int) := by omega
      have q2 : 0 ≤ (i : Int) := by omega
      simp only [if_pos q1, if_pos q2]
      obtain ⟨s', hs', h2⟩ := contLoopI (fun s j k => impl_turn.l1 k s l (l.length : Int) i (rd_L1 l (i : Int)) ((rd_L1 l (i : Int)).length : Int) (j : Int)) n (fun s j => s = (List.range n).map fun j' => colI l j' (if j' < j then i + 1 else i))
        (fun s j hj hs => by
          refine ⟨_, rfl, fun x hx => Ev.step (fun k => by rw [impl_turn.l1]) ?_⟩
          have hsl : s.length = n := by rw [hs]; simp
          have q1 : (j : Int) < ((rd_L1 l (i : Int)).length : Int) := by omega
          have q2 : 0 ≤ (j : Int) := by omega
          have q3 : (j : Int) < (s.length : Int) := by omega
          have hr : rd_L1 s (j : Int) = colI l j i := by
            rw [hs]; unfold rd_L1; simp [List.getD_eq_getElem?_getD, hj]
          have q4 : (rd_L1 s (j : Int)).length < 17592186044416 := by rw [hr, colI_length]; omega
          simp only [if_pos q1, if_pos q2, if_pos q3, if_pos q4, wrap_nat j (by omega)]
          have hset : s.set (j : Int).toNat (rd_L1 s (j : Int) ++ [rd (rd_L1 l (i : Int)) (j : Int)]) = (List.range n).map fun j' => colI l j' (if j' < j + 1 then i + 1 else i) := by
            rw [hr, ← colI_succ, Int.toNat_natCast]
            apply List.ext_getElem
            · simp [hsl]
            · intro m hm1 hm2
              subst hs
              simp only [List.getElem_set, List.getElem_map, List.getElem_range]
              by_cases e : j = m
              · subst e; simp
              · rw [if_neg e]
                by_cases e2 : m < j
                · rw [if_pos e2, if_pos (by omega)]
                · rw [if_neg e2, if_neg (by omega)]
          rw [hset]; exact hx) n (colsI l n i) 0 (by omega) (by simp [colsI])
      have hs2 : s' = colsI l n (i + 1) := by
        rw [hs']; unfold colsI; apply List.map_congr_left; intro j' hj'; rw [if_pos (List.mem_range.1 hj')]
      subst hs2
      refine h2 x (Ev.step (fun k => by rw [impl_turn.l1]) ?_)
      have q1 : ¬ (n : Int) < ((rd_L1 l (i : Int)).length : Int) := by omega
      simp only [if_neg q1, wrap_nat i (by omega)]
      exact hx) l.length (colsI l n 0) 0 (by omega) rfl
  refine h2 _ (Ev.step (fun k => by rw [impl_turn.l0]) ?_)
  have q1 : ¬ (l.length : Int) < (l.length : Int) := by omega
  simp only [if_neg q1]
  exact Ev.now _
theorem impl_turn_f {l : List (List Int)} (hg : gridB l = true) (h4 : l.length ≤ BM) (h5 : ∀ r ∈ l, r.length ≤ BM) : Ev (fun k => impl_TurnGrid.f k l) (colsI l (rd_L1 l 0).length l.length, true) := by
  unfold impl_TurnGrid.f
  simp only [IsGrid_f l h4 h5, hg, Option.bind_some, if_true]
  exact Ev.bind (turnI_f hg h4 h5) (Ev.now _)

end Go.Proofs.Ytojcnapdalpnmaa.K

namespace Go.Proofs.Ytojcnapdalpnmaa.K
open Go.RowKit Go.Proofs.YtojcnapdalpnmaaW.PrintWords Go.Proofs.Ytojcnapdalpnmaa.P
set_option linter.unusedVariables false
set_option linter.unusedSimpArgs false
theorem rdL_at {l : List (List Int)} {i : Nat} (h : i < l.length) : rd_L1 l (i : Int) = l[i] := by
  unfold rd_L1; simp [List.getD_eq_getElem?_getD, List.getElem?_eq_getElem h]
theorem rdI_at {l : List Int} {i : Nat} (h : i < l.length) : rd l (i : Int) = l[i] := by
  unfold rd; simp [List.getD_eq_getElem?_getD, List.getElem?_eq_getElem h]
theorem map_range_set {m j : Nat} (f : Nat → Int) (v : Int) : ((List.range m).map f).set j v = (List.range m).map fun j' => if j' = j then v else f j' := by
  apply List.ext_getElem
  · simp
  · intro i h1 h2
    simp only [List.getElem_set, List.getElem_map, List.getElem_range]
    by_cases e : j = i
    · subst e; simp
    · rw [if_neg e, if_neg (fun h => e h.symm)]
theorem grid_fair {l : List (List Int)} (hg : gridB l = true) : ∀ r ∈ l, Fair r := fun r hr => by
  obtain ⟨g1, g2, g3, g4, g5⟩ := grid_get hg
  obtain ⟨h1, h2⟩ := g5 r hr
  exact ⟨by omega, fun x hx => by rcases h2 x hx with h | h <;> omega⟩
theorem rowSums_l0 : ∀ (rest done : List (List Int)) (x3 : List Int), (done ++ rest).length ≤ 1048576 → (∀ r ∈ rest, Fair r) → x3.length = done.length → Ev (fun k => impl_rowSums.l0 k x3 (done ++ rest) ((done ++ rest).length : Int) (done.length : Int)) (x3 ++ rest.map List.sum) := by
  intro rest
  induction rest with
  | nil => intro done x3 h _ _; exact Ev.step (fun k => by simp [impl_rowSums.l0]; rfl) (Ev.some (by simp))
  | cons r rest ih =>
    intro done x3 h hf hx
    obtain ⟨q1, q2, q3, q4, q5⟩ := midL r done rest (by unfold maxLen; omega)
    have ih' := ih (done ++ [r]) (x3 ++ [r.sum]) (by rw [q5]; exact h) (fun y hy => hf y (by simp [hy])) (by simp [hx])
    rw [q5] at ih'
    have hl : x3.length < 17592186044416 := by simp at h; omega
    refine Ev.step (fun k => by rw [impl_rowSums.l0]) ?_
    simp only [if_pos q1, if_pos q2, q3, q4]
    refine Ev.bind (total_f (hf r (by simp))) ?_
    simp only [if_pos hl]
    exact Ev.pair ih' (by simp)
theorem rowSums_f {l : List (List Int)} (h : l.length ≤ 1048576) (hf : ∀ r ∈ l, Fair r) : Ev (fun k => impl_rowSums.f k l) (l.map List.sum) := by
  unfold impl_rowSums.f
  exact rowSums_l0 l [] [] h hf rfl
theorem colI_bd {l : List (List Int)} (hg : gridB l = true) (j i : Nat) (hi : i ≤ l.length) (hj : j < (rd_L1 l 0).length) : 0 ≤ (colI l j i).sum ∧ (colI l j i).sum ≤ i := by
  obtain ⟨g1, g2, g3, g4, g5⟩ := grid_get hg
  induction i with
  | zero => simp [colI]
  | succ i ih =>
    have hm := g5 _ (rdL_mem (show i < l.length by omega))
    have hr : rd (rd_L1 l (i : Int)) (j : Int) ∈ rd_L1 l (i : Int) := by rw [rdI_at (by omega)]; exact List.getElem_mem _
    have := hm.2 _ hr
    have := ih (by omega)
    rw [colI_succ, List.sum_append]
    simp; omega
theorem colsI_fair {l : List (List Int)} (hg : gridB l = true) : ∀ r ∈ colsI l (rd_L1 l 0).length l.length, Fair r := by
  obtain ⟨g1, g2, g3, g4, g5⟩ := grid_get hg
  intro r hr
  obtain ⟨j, hj, rfl⟩ := List.mem_map.1 hr
  refine ⟨by rw [colI_length]; omega, fun x hx => ?_⟩
  obtain ⟨i, hi, rfl⟩ := List.mem_map.1 hx
  have hi := List.mem_range.1 hi
  have hj := List.mem_range.1 hj
  have hm := g5 _ (rdL_mem hi)
  have hr : rd (rd_L1 l (i : Int)) (j : Int) ∈ rd_L1 l (i : Int) := by rw [rdI_at (by omega)]; exact List.getElem_mem _
  have := hm.2 _ hr
  omega
/-- The sums of the rows and of the columns. -/
def gSums (l : List (List Int)) : List Int × List Int := (l.map List.sum, (colsI l (rd_L1 l 0).length l.length).map List.sum)
theorem maSums_f {l : List (List Int)} (hg : gridB l = true) : Ev (fun k => spec_maSums.f k l) (gSums l) := by
  obtain ⟨g1, g2, g3, g4, g5⟩ := grid_get hg
  have p0 : 0 < (l.length : Int) := by omega
  unfold spec_maSums.f
  have p1 : 0 ≤ ((rd_L1 l 0).length : Int) := by omega
  have p2 : (((rd_L1 l 0).length : Int) : Int).toNat ≤ 35184372088832 := by omega
  simp only [if_pos p0, if_pos p1, if_pos p2]
  generalize hn : (rd_L1 l 0).length = n at *
  have hst : List.replicate ((n : Int)).toNat (0 : Int) = (List.range n).map fun j => (colI l j 0).sum := by simp [colI, List.map_const']
  rw [hst]
  obtain ⟨s', rfl, h2⟩ := contLoopI (fun (s : List Int × List Int) i k => spec_maSums.l0 k s.1 s.2 l (l.length : Int) (i : Int)) l.length (fun s i => s = ((l.take i).map List.sum, (List.range n).map fun j => (colI l j i).sum))
    (fun s i hi hs => by
      subst hs
      refine ⟨_, rfl, fun x hx => Ev.step (fun k => by rw [spec_maSums.l0]) ?_⟩
      have e1 : (rd_L1 l (i : Int)).length = n := (g5 _ (rdL_mem hi)).1
      have q1 : (i : Int) < (l.length : Int) := by omega
      have q2 : 0 ≤ (i : Int) := by omega
      simp only [if_pos q1, if_pos q2]
      refine Ev.bind (liSum_f (grid_fair hg _ (rdL_mem hi))) ?_
      have q3 : ((l.take i).map List.sum).length < 17592186044416 := by simp; omega
      simp only [if_pos q3]
      have ht : (l.take i).map List.sum ++ [(rd_L1 l (i : Int)).sum] = (l.take (i + 1)).map List.sum := by
        rw [List.take_succ_eq_append_getElem hi, List.map_append, rdL_at hi]; rfl
      rw [ht]
      obtain ⟨s', hs', h2⟩ := contLoopI (fun s j k => spec_maSums.l1 k ((l.take (i + 1)).map List.sum) s l (l.length : Int) i (rd_L1 l (i : Int)) ((rd_L1 l (i : Int)).length : Int) (j : Int)) n (fun s j => s = (List.range n).map fun j' => (colI l j' (if j' < j then i + 1 else i)).sum)
        (fun s j hj hs => by
          refine ⟨_, rfl, fun x hx => Ev.step (fun k => by rw [spec_maSums.l1]) ?_⟩
          have hsl : s.length = n := by rw [hs]; simp
          have q1 : (j : Int) < ((rd_L1 l (i : Int)).length : Int) := by omega
          have q2 : 0 ≤ (j : Int) := by omega
          have q3 : (j : Int) < (s.length : Int) := by omega
          have hr : rd s (j : Int) = (colI l j i).sum := by
            rw [hs]; unfold rd; simp [List.getD_eq_getElem?_getD, hj]
          have hv : rd s (j : Int) + rd (rd_L1 l (i : Int)) (j : Int) = (colI l j (i + 1)).sum := by rw [hr, colI_succ, List.sum_append]; simp
          have hb := colI_bd hg j (i + 1) (by omega) (by omega)
          have hw : wrap64 (rd s (j : Int) + rd (rd_L1 l (i : Int)) (j : Int)) = (colI l j (i + 1)).sum := by rw [hv]; exact wrap_id (by omega) (by omega)
          simp only [if_pos q1, if_pos q2, if_pos q3, wrap_nat j (by omega), hw]
          have hset : s.set (j : Int).toNat (colI l j (i + 1)).sum = (List.range n).map fun j' => (colI l j' (if j' < j + 1 then i + 1 else i)).sum := by
            rw [hs, Int.toNat_natCast, map_range_set]
            apply List.map_congr_left
            intro j' _
            by_cases e : j' = j
            · subst e; simp
            · rw [if_neg e]
              by_cases e2 : j' < j
              · rw [if_pos e2, if_pos (by omega)]
              · rw [if_neg e2, if_neg (by omega)]
          rw [hset]; exact hx) n ((List.range n).map fun j => (colI l j i).sum) 0 (by omega) (by simp)
      have hs2 : s' = (List.range n).map fun j => (colI l j (i + 1)).sum := by
        rw [hs']; apply List.map_congr_left; intro j' hj'; rw [if_pos (List.mem_range.1 hj')]
      subst hs2
      refine h2 x (Ev.step (fun k => by rw [spec_maSums.l1]) ?_)
      have q1 : ¬ (n : Int) < ((rd_L1 l (i : Int)).length : Int) := by omega
      simp only [if_neg q1, wrap_nat i (by omega)]
      exact hx) l.length ([], (List.range n).map fun j => (colI l j 0).sum) 0 (by omega) (by simp)
  refine h2 _ (Ev.step (fun k => by rw [spec_maSums.l0]) ?_)
  have q1 : ¬ (l.length : Int) < (l.length : Int) := by omega
  simp only [if_neg q1]
  refine Ev.some ?_
  simp [gSums, colsI, hn]
theorem impl_SumsOfGrid_f {l : List (List Int)} (h4 : l.length ≤ BM) (h5 : ∀ r ∈ l, r.length ≤ BM) : Ev (fun k => impl_SumsOfGrid.f k l) (if gridB l = true then ((gSums l).1, (gSums l).2, true) else ([], [], false)) := by
  unfold impl_SumsOfGrid.f
  simp only [IsGrid_f l h4 h5, Option.bind_some]
  refine Ev.ite (fun hg => ?_) (fun hg => ?_)
  · obtain ⟨g1, g2, g3, g4, g5⟩ := grid_get hg
    rw [if_pos hg]
    refine Ev.bind (rowSums_f (by omega) (grid_fair hg)) (Ev.bind (turnI_f hg h4 h5) (Ev.bind (rowSums_f (by rw [colsI_length]; omega) (colsI_fair hg)) (Ev.now _)))
  · rw [if_neg hg]; exact Ev.now _
theorem spec_SumsOfGrid_f {l : List (List Int)} (h4 : l.length ≤ BM) (h5 : ∀ r ∈ l, r.length ≤ BM) : Ev (fun k => spec_SumsOfGrid.f k l) (if gridB l = true then ((gSums l).1, (gSums l).2, true) else ([], [], false)) := by
  unfold spec_SumsOfGrid.f
  refine Ev.bind (maGrid_f l h4 h5) (Ev.ite (fun hg => ?_) (fun hg => ?_))
  · rw [if_pos hg]; exact Ev.bind (maSums_f hg) (Ev.now _)
  · rw [if_neg hg]; exact Ev.now _
theorem SumsOfGrid_ans (l0 : List (List Int)) (h0 : l0.length ≤ 1048576 ∧ ∀ r ∈ l0, r.length ≤ 1048576) :
    ∃ (w0 w1 : List Int) (wb : Bool), Ev (fun k => spec_SumsOfGrid.f k l0) (w0, w1, wb) ∧ Ev (fun k => impl_SumsOfGrid.f k l0) (w0, w1, wb) ∧ w0.length ≤ 1048576 ∧ w1.length ≤ 1048576 := by
  have h4 : l0.length ≤ BM := by have := h0.1; simp only [BM]; omega
  have h5 : ∀ r ∈ l0, r.length ≤ BM := fun x hx => by have := h0.2 x hx; simp only [BM]; omega
  by_cases hg : gridB l0 = true
  · obtain ⟨g1, g2, g3, g4, g5⟩ := grid_get hg
    exact ⟨_, _, _, Ev.pair (spec_SumsOfGrid_f h4 h5) (if_pos hg), Ev.pair (impl_SumsOfGrid_f h4 h5) (if_pos hg), by simp [gSums]; omega, by simp [gSums, colsI]; omega⟩
  · exact ⟨_, _, _, Ev.pair (spec_SumsOfGrid_f h4 h5) (if_neg hg), Ev.pair (impl_SumsOfGrid_f h4 h5) (if_neg hg), by simp, by simp⟩

end Go.Proofs.Ytojcnapdalpnmaa.K

namespace Go.Proofs.Ytojcnapdalpnmaa.K
open Go.RowKit Go.Proofs.YtojcnapdalpnmaaW.PrintWords Go.Proofs.Ytojcnapdalpnmaa.P
set_option linter.unusedVariables false
set_option linter.unusedSimpArgs false

theorem seqOf_from (a : Int) (n : Nat) : seqOf a n = seqFrom a n := by
  induction n generalizing a with
  | zero => rfl
  | succ n ih => simp [seqOf, seqFrom, ih]
theorem seqRows_length (a : Int) (l : List (List Int)) : (seqRows a l).2.length = l.length := by
  induction l generalizing a with
  | nil => rfl
  | cons r l ih => simp [seqRows, ih]
theorem seqRows_le (a : Int) (l : List (List Int)) : a ≤ (seqRows a l).1 := by
  induction l generalizing a with
  | nil => simp [seqRows]
  | cons r l ih => have := ih (a + r.length); simp only [seqRows]; omega
theorem markSS_f (l : List (List Int)) (h : l.length ≤ 1048576) (hr : ∀ r ∈ l, r.length ≤ 1048576) : laws_markIntSS.f l 1 = some (seqRows 1 l) := by
  unfold laws_markIntSS.f
  rw [if_pos ⟨by omega, by omega, h, hr⟩]
theorem markSS_f' (l : List (List Int)) (a : Int) (h0 : 0 ≤ a) (h1 : a ≤ 1048576) (h : l.length ≤ 1048576) (hr : ∀ r ∈ l, r.length ≤ 1048576) : laws_markIntSS.f l a = some (seqRows a l) := by
  unfold laws_markIntSS.f
  rw [if_pos ⟨h0, h1, h, hr⟩]
theorem heldSS_l0 : ∀ (rest : List (List Int)) (done : List (List Int)) (b : Int), (done ++ (seqRows b rest).2).length ≤ 1048576 → (∀ r ∈ rest, r.length ≤ 1048576) → 0 ≤ b → b ≤ 1048576 + 1048576 * done.length → Ev (fun k => laws_heldIntSS.l0 k (done ++ (seqRows b rest).2) b done.length) (seqRows b rest).1 := by
  intro rest
  induction rest with
  | nil => intro done b h _ _ _; exact Ev.step (fun k => by simp [laws_heldIntSS.l0, seqRows]; rfl) (Ev.some (by simp [seqRows]))
  | cons x rest ih =>
    intro done b h hr h0 hb
    simp only [seqRows] at h ⊢
    have hx := hr x (by simp)
    have hlen : (done ++ seqOf b x.length :: (seqRows (b + x.length) rest).2).length = done.length + 1 + rest.length := by simp [seqRows_length]; omega
    have ih' := ih (done ++ [seqOf b x.length]) (b + x.length) (by simpa using h) (fun r h => hr r (by simp [h])) (by omega) (by rw [List.length_append, List.length_singleton]; omega)
    have h1 : (done.length : Int) < ((done ++ seqOf b x.length :: (seqRows (b + x.length) rest).2).length : Int) := by omega
    have h2 : 0 ≤ (done.length : Int) := by omega
    have h3 : rd_L1 (done ++ seqOf b x.length :: (seqRows (b + x.length) rest).2) (done.length : Int) = seqOf b x.length := by simp [rd_L1]
    have h4 : wrap64 ((done.length : Int) + 1) = ((done ++ [seqOf b x.length]).length : Int) := by rw [wrap_nat _ (by omega)]; simp
    refine Ev.step (fun k => by rw [laws_heldIntSS.l0]) ?_
    simp only [if_pos h1, if_pos h2, h3, h4]
    have hd : Ev (fun k => laws_heldIntS.f k (seqOf b x.length) b) (b + x.length) := by rw [seqOf_from]; exact heldIntS_f b x.length (by simp only [BM]; omega) h0 (by omega)
    refine Ev.bind hd ?_
    have h5 : ¬ (b + (x.length : Int) < 0) := by omega
    simp only [if_neg h5]
    simpa using ih'
theorem heldSS_f (l : List (List Int)) (h : l.length ≤ 1048576) (hr : ∀ r ∈ l, r.length ≤ 1048576) : Ev (fun k => laws_heldIntSS.f k (seqRows 1 l).2 1) (seqRows 1 l).1 := by
  unfold laws_heldIntSS.f
  exact heldSS_l0 l [] 1 (by simpa [seqRows_length] using h) hr (by omega) (by simp)

end Go.Proofs.Ytojcnapdalpnmaa.K

/- The law FnExactSumsOfGrid: the program's SumsOfGrid answers as the reference's, for all arguments (no condition); what the walk asks of the functions that it calls. -/
namespace Go.Proofs.Ytojcnapdalpnmaa.Pure
open Go.RowKit Go.Proofs.YtojcnapdalpnmaaW.PrintWords Go.Proofs.Ytojcnapdalpnmaa.P Go.Proofs.Ytojcnapdalpnmaa.K
set_option linter.unusedVariables false
set_option linter.unusedSimpArgs false
set_option maxRecDepth 10000 in
theorem FnExactSumsOfGrid : ∀ (l0 : List (List Int)), l0.length ≤ maxLen → (∀ r ∈ l0, r.length ≤ maxLen ∧ ∀ n ∈ r, (Lit.int .i64 n).wf = true) → laws_FnExactSumsOfGrid.Good l0 true := by
  intro l0 hm0 hw0
  refine ⟨rfl, ?_⟩
  obtain ⟨n0, hs0, hle0, hb0⟩ := szIntSS_f l0 1048576 hm0 (fun r h => (hw0 r h).1) (by omega) (by omega)
  refine ⟨n0, Ev.rounds hs0, ?_⟩
  by_cases hn0 : n0 < 0
  · exact Or.inl hn0
  refine Or.inr ⟨by omega, ?_⟩
  obtain ⟨b1_0, b2_0⟩ := hb0 (by omega)
  have B0 : l0.length ≤ 1048576 ∧ ∀ r ∈ l0, r.length ≤ 1048576 := ⟨by omega, fun x hx => by have := b2_0 x hx; omega⟩
  obtain ⟨w0, w1, wb, hsp, him, W0, W1⟩ := SumsOfGrid_ans l0 B0
  have le0 := seqRows_le 1 l0
  exact ⟨w0, (seqFrom 1 w0.length), w1, (seqFrom (1 + (w0.length : Int)) w1.length), (seqRows 1 l0).2, wb, (seqRows 1 l0).1, (1 + (w0.length : Int)), ((1 + (w0.length : Int)) + (w1.length : Int)), Ev.rounds (toIntSS_f l0 B0.1 (fun r hr => by have := B0.2 r hr; simp only [BM]; omega)), Ev.rounds (hsp), Ev.rounds (him), Ev.rounds (eqIntS_same w0 (by have := W0; simp only [BM]; omega)), Ev.rounds (eqIntS_same w1 (by have := W1; simp only [BM]; omega)), Ev.rounds (eqIntSS_same l0 (by have := B0.1; simp only [BM]; omega) (fun r hr => by have := B0.2 r hr; simp only [BM]; omega)), markSS_f' l0 1 (by omega) (by omega) B0.1 B0.2, Ev.rounds (markIntS_f w0 1 (by have := W0; simp only [BM]; omega) (by omega) (by have := W0; omega)), Ev.rounds (markIntS_f w1 (1 + (w0.length : Int)) (by have := W1; simp only [BM]; omega) (by omega) (by have := W1; omega)), Ev.rounds (heldIntS_f 1 w0.length (by have := W0; simp only [BM]; omega) (by omega) (by have := W0; omega)), Ev.rounds (heldIntS_f (1 + (w0.length : Int)) w1.length (by have := W1; simp only [BM]; omega) (by omega) (by have := W1; omega)), by omega, by omega, by omega, by simp [seqFrom_length], by simp [seqFrom_length]⟩

end Go.Proofs.Ytojcnapdalpnmaa.Pure

namespace Go.Proofs.Ytojcnapdalpnmaa.K
open Go.RowKit Go.ChangeShapes Go.WideShapes Go.ChangeAt Go.Deep Go.Proofs.YtojcnapdalpnmaaW.PrintWords
set_option linter.unusedVariables false
set_option linter.unusedSimpArgs false
section
variable {H : Type} {enc : TypeId × Value → H} {P : Program} {w : World}

/-- A row of whole numbers among the arguments. -/
theorem open_row {t e : TypeId} {fuel : Nat} {cs : List Value} {x : DataW H × List MemPlace} (ht : P.underlying t = some (.slice e)) (he : P.underlying e = some (.int .i64)) (hc : P.cellsOf e = 1)
    (h : DataW.trod enc P w 0 (fun _ => true) true fuel t cs = some x) :
    ∃ (A : Option Addr) (c : Nat) (l : List Int), cs = [.slice A l.length c] ∧ l.length ≤ c ∧ l.length ≤ maxLen ∧ (∀ n ∈ l, (Lit.int .i64 n).wf = true) ∧ Kd.C (Kd.int .i64) w A l.length l := by
  rcases open_ints ht he hc h with ⟨rfl, _⟩ | ⟨a, l, c, zs, rfl, _, hl, hm, hz, _, hcell, hwz⟩
  · exact ⟨none, 0, [], rfl, Nat.le_refl _, by simp [maxLen], by simp, Kd.C_nil _ _⟩
  · obtain ⟨l0, rfl, hr0, hm0, hw0, hc0⟩ := ReadsInt.ofRowC (k := .i64) (w := w) (a := some a) (len := l) (cap := c) (zs := zs) (.inr ⟨a, rfl, hl, hm, by simpa using hz, hcell, hwz⟩)
    exact ⟨some a, c, l0, rfl, hc0, hm0, hw0, Kd.C_of_reads (d := (0 : Int)) (h1 := fun _ => rfl) hr0⟩
/-- A slice of rows of whole numbers among the arguments. -/
theorem open_rows {t e q : TypeId} {fuel : Nat} {cs : List Value} {x : DataW H × List MemPlace} (ht : P.underlying t = some (.slice e)) (he : P.underlying e = some (.slice q)) (hq : P.underlying q = some (.int .i64))
    (ce : P.cellsOf e = 1) (cq : P.cellsOf q = 1) (h : DataW.trod enc P w 0 (fun _ => true) true fuel t cs = some x) :
    ∃ (A : Option Addr) (c : Nat) (l : List (List Int)), cs = [.slice A l.length c] ∧ l.length ≤ c ∧ l.length ≤ maxLen ∧ (∀ r ∈ l, r.length ≤ maxLen ∧ ∀ n ∈ r, (Lit.int .i64 n).wf = true) ∧ Kd.C (Kd.slice q (Kd.int .i64)) w A l.length l := by
  rcases open_int_rows ht he hq ce cq h with ⟨rfl, _⟩ | ⟨a, len, cap, A, L, C, Z, rfl, _, hl, hm, _, hr⟩
  · exact ⟨none, 0, [], rfl, Nat.le_refl _, by simp [maxLen], by simp, Kd.C_nil _ _⟩
  · have hrow : ∀ r, r < cap → ∃ l0 : List Int, L r = l0.length ∧ l0.length ≤ C r ∧ l0.length ≤ maxLen ∧ (∀ n ∈ l0, (Lit.int .i64 n).wf = true) ∧ Kd.C (Kd.int .i64) w (A r) l0.length l0 := by
      intro r hrc
      obtain ⟨h1, h2, h3, h4, h5, h6, h7⟩ := hr r hrc
      cases hA : A r with
      | none =>
        have hC := h6 hA
        exact ⟨[], by simp; omega, by simp, by simp [maxLen], by simp, Kd.C_nil _ _⟩
      | some a' =>
        obtain ⟨_, h8⟩ := h7 a' hA
        obtain ⟨l0, e0, hr0, hm0, hw0, hc0⟩ := ReadsInt.ofRowC (k := .i64) (w := w) (a := some a') (len := L r) (cap := C r) (zs := Z r) (.inr ⟨a', rfl, h2, h3, h4, fun i hi => h8 i (by omega), h5⟩)
        exact ⟨l0, e0, hc0, hm0, hw0, Kd.C_of_reads (d := (0 : Int)) (h1 := fun _ => rfl) hr0⟩
    let F : Nat → List Int := fun r => if h : r < cap then Classical.choose (hrow r h) else []
    have hF : ∀ r, r < cap → L r = (F r).length ∧ (F r).length ≤ C r ∧ (F r).length ≤ maxLen ∧ (∀ n ∈ F r, (Lit.int .i64 n).wf = true) ∧ Kd.C (Kd.int .i64) w (A r) (F r).length (F r) := by
      intro r h
      have := Classical.choose_spec (hrow r h)
      simpa [F, h] using this
    refine ⟨some a, cap, (List.range len).map F, by simp, by simpa using hl, by simp; omega, ?_, ?_⟩
    · intro r hmem
      obtain ⟨i, hi, rfl⟩ := List.mem_map.1 hmem
      have := hF i (by have := List.mem_range.1 hi; omega)
      exact ⟨this.2.2.1, this.2.2.2.1⟩
    · refine ⟨by simp, by simp; unfold maxLen at hm; omega, fun _ => ⟨a, rfl, ?_⟩⟩
      intro j p hp
      obtain ⟨hj, rfl⟩ : j < len ∧ F j = p := by
        rw [List.getElem?_map] at hp
        by_cases hj : j < len
        · rw [List.getElem?_range hj] at hp; simpa [hj] using hp
        · rw [List.getElem?_eq_none (by simp; omega)] at hp; simp at hp
      obtain ⟨f1, f2, f3, f4, f5⟩ := hF j (by omega)
      obtain ⟨h1, _⟩ := hr j (by omega)
      refine ⟨[.slice (A j) (F j).length (C j)], rfl, ⟨A j, C j, rfl, f2, f5⟩, ?_⟩
      intro i u hu
      cases i with
      | zero =>
        obtain rfl : Value.slice (A j) (F j).length (C j) = u := by simpa using hu
        rw [f1] at h1
        show w.cell? (a.add (j * 1 + 0)) = _
        rw [Nat.mul_one, Nat.add_zero]; exact h1
      | succ i => simp at hu
end
end Go.Proofs.Ytojcnapdalpnmaa.K

/- The row of the law FnExactSumsOfGrid: for every input the call returns true, and the arguments read as before; out of the law's pure statement and the walk. No condition. -/
namespace Go.Proofs.Ytojcnapdalpnmaa.fnExactSumsOfGrid
open Go.ChangeShapes Go.WideShapes Go.ChangeAt Go.RowKit
open Go.ChangeMaps (open_string shut_string)
set_option linter.unusedVariables false
set_option linter.unusedSimpArgs false
theorem own : ownKnob Try.prog.godebug = none := by kernel_rfl
theorem laidOut : laidOutB Try.prog = true := by kernel_rfl
set_option maxRecDepth 100000 in
theorem lifted (os : Os) (started : os.Started) (H : Type) (enc : TypeId × Value → H) :
    ReturnsInHanded {} Try.checked os 8 .any (Rows.fnExactSumsOfGridSpec.pre6 enc Try.prog Try.f8 Rows.fnExactSumsOfGridRow.domain false) (Rows.fnExactSumsOfGridSpec.post enc Try.prog Try.f8 false true false false) := by
  refine returnsInHanded_of_change_sized (C := Try.checked) own started (by kernel_rfl) Try.func8
    (ChangeSpec.witness6 (enc := enc) (C := Try.checked) false ⟨#[], #[.slice none 0 0], []⟩ 8 (by kernel_rfl) (by kernel_rfl) (by kernel_rfl) (by kernel_rfl)) ?_
  intro W base args ds gs before hval0 hW hcnd hsz0 _
  have hsz : (DataW.weightsEach Try.prog (Try.f8.params.toList ++ Rows.fnExactSumsOfGridSpec.plain.varTypes Try.prog) (ds ++ gs)).all (· ≤ reachBytes) = true := hsz0
  have hval : ∀ (j : Nat) t v, Try.f8.params[j]? = some t → args[j]? = some v → Value.okWide Try.prog W .any base t v := hval0
  have hW' := hW
  obtain ⟨p, q, hA0, hV, rfl, hfz, hnd⟩ := hW
  have hA : DataW.TrodAll enc Try.prog W 0 (fun _ => true) true Try.f8.params.toList args.toList ds p := hA0
  rw [Try.params8] at hA hval hsz
  obtain ⟨v0, vs0, d0, ds0, p0, q0, hargs, rfl, rfl, h0, r0⟩ := trodAll_cons hA
  obtain ⟨rfl, rfl, rfl⟩ := trodAll_nil r0
  obtain rfl : args = #[v0] := by cases args; simp_all
  obtain ⟨rfl, rfl⟩ := trodVars_none hV
  obtain ⟨a0, len0, cap0, rfl⟩ := okWide_slice Try.underlying22 (hval 0 22 v0 rfl rfl)
  have k0 := h0
  have lt0 : ∀ x ∈ p0, x.block < W.heap.size := by obtain ⟨m, hm⟩ := k0; exact DataW.trod_lt m _ _ _ hm
  obtain ⟨fuel0, hf0⟩ := h0
  obtain ⟨A0, c0, l0, hcs0, hc0, hm0, hw0, hr0⟩ := K.open_rows Try.underlying22 Try.underlying33 Try.underlying3 (by kernel_rfl) (by kernel_rfl) hf0
  simp only [Value.cells, List.cons.injEq, and_true, Value.slice.injEq] at hcs0
  obtain ⟨rfl, rfl, rfl⟩ := hcs0
  clear hA0 hval0 hsz0 hsz
  have hk := Pure.FnExactSumsOfGrid l0 hm0 hw0
  refine (P.laws_FnExactSumsOfGrid.calls _ _ l0 true W hr0 hc0 hk).mono fun e W' ⟨he, bel⟩ => ?_
  subst he
  exact ⟨_, rfl, _, _, _, [], _, [], hW', trodAll_mk1 (shut_bool Try.underlying4 _), (trodAll_cons_mk (Below.trod laidOut (by kernel_rfl) (of_decide_eq_true (by kernel_rfl)) k0 bel lt0) trodAll_mk0), rfl, bel.frame _, fun h => by cases h⟩
set_option maxHeartbeats 4000000 in
theorem joined : joinedFacts Try.prog 8 Try.f8 Rows.fnExactSumsOfGridSpec Rows.fnExactSumsOfGridRow = true := by
  unfold joinedFacts
  repeat' (with_reducible refine (Bool.and_eq_true _ _).mpr ⟨?_, ?_⟩)
  all_goals first
    | (with_reducible exact Head.mayEnter)
    | ((with_reducible rw [Head.lifts]); rfl)
    | ((with_reducible rw [Head.make]); rfl)
    | (as_aux_lemma => kernel_rfl)
theorem over : Rows.fnExactSumsOfGridRow.holds Try.pinned (OpenSpec.ofChange Rows.fnExactSumsOfGridSpec) :=
  OpenClaim.holds_of_wide 8 Try.f8 rfl rfl rfl rfl rfl rfl rfl ⟨rfl, rfl, rfl, rfl, rfl⟩ rfl rfl rfl rfl rfl (by kernel_rfl) Try.func8 joined
    (of_decide_eq_true (by kernel_rfl)) (by unfold Func.isWrapper; first | (rw [if_pos (by decide +kernel)]; kernel_rfl) | (rw [if_neg (by decide +kernel)]; exact ⟨rfl, rfl⟩))
    (fun os started H enc _ => lifted os started H enc)
theorem proved : Rows.FnExactSumsOfGridSaid := over
#print axioms proved
end Go.Proofs.Ytojcnapdalpnmaa.fnExactSumsOfGrid
namespace Go.Proofs.Ytojcnapdalpnmaa
/-- The row, under a short name, for the claim. -/
theorem fnExactSumsOfGrid_holds : Rows.FnExactSumsOfGridSaid := fnExactSumsOfGrid.proved
end Go.Proofs.Ytojcnapdalpnmaa
