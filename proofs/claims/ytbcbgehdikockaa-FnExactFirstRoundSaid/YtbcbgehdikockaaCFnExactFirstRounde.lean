/- The row of the law FnExactFirstRound: contracts and plain lemmas for the law FnExactFirstRound, part 5 of 5 (what the Go functions answer). -/
import Derived.ProofKit
import Derived.OpenShut
import Derived.Deep.Matrix
import Derived.Lib.SmallJoins
import Derived.Test.YtbcbgehdikockaaRows
import Derived.WalkKit
import Derived.ShutString
import Derived.ChangeOld
import Derived.Below
import Derived.SizedLaws
import Derived.Test.YtbcbgehdikockaaCFnExactFirstRounda
import Derived.Test.YtbcbgehdikockaaCFnExactFirstRoundb
import Derived.Test.YtbcbgehdikockaaCFnExactFirstRoundc
import Derived.Test.YtbcbgehdikockaaCFnExactFirstRoundd
set_option linter.unusedVariables false
set_option linter.unusedSimpArgs false
namespace Go.Proofs.Ytbcbgehdikockaa.K
open Go.RowKit Go.Proofs.YtbcbgehdikockaaW.PrintWords Go.Proofs.YtbcbgehdikockaaW.PrintMore Go.Proofs.Ytbcbgehdikockaa.P
def lastN (l : List Nat) : Nat := l.getD (l.length - 1) 0
def stepOk (ns : List Nat) (l : List Nat) (j : Nat) : Bool := !(l.any fun y => decide (y = j)) && (decide (l.length = 0) || nb ns (lastN l) j)
def firstNE (g : Nat → List Nat) : List Nat → List Nat
  | [] => []
  | j :: js => if 0 < (g j).length then g j else firstNE g js
def way (n : Nat) (ns : List Nat) (fin : List Nat → Bool) : Nat → List Nat → List Nat
  | 0, l => if fin l then l else []
  | d + 1, l => firstNE (fun j => if stepOk ns l j then way n ns fin d (l ++ [j]) else []) (List.range n)
theorem way_len (n : Nat) (ns : List Nat) (fin : List Nat → Bool) : ∀ d l, l.length + d = n → (way n ns fin d l).length = 0 ∨ (way n ns fin d l).length = n := by
  intro d
  induction d with
  | zero => intro l h; unfold way; split <;> simp <;> omega
  | succ d ih =>
    intro l h
    have : ∀ L : List Nat, (firstNE (fun j => if stepOk ns l j then way n ns fin d (l ++ [j]) else []) L).length = 0 ∨ (firstNE (fun j => if stepOk ns l j then way n ns fin d (l ++ [j]) else []) L).length = n := by
      intro L
      induction L with
      | nil => simp [firstNE]
      | cons j L ihL =>
        unfold firstNE
        by_cases e : 0 < (if stepOk ns l j then way n ns fin d (l ++ [j]) else []).length
        · simp only [if_pos e]
          by_cases q : stepOk ns l j = true
          · simp only [if_pos q]; exact ih _ (by simp; omega)
          · simp [q]
        · simp only [if_neg e]; exact ihL
    exact this _
theorem hasN (l : List Nat) (j : Nat) : ((ints l).any fun y => decide (y = (j : Int))) = l.any fun y => decide (y = j) := by
  induction l with
  | nil => rfl
  | cons x l ih =>
    have e : decide ((x : Int) = (j : Int)) = decide (x = j) := by rw [decide_eq_decide]; omega
    simp only [ints, List.map_cons, List.any_cons, e]
    rw [← ih]; rfl
def roundFin (ns : List Nat) (rnd : Bool) (l : List Nat) : Bool := !rnd || nb ns (lastN l) (l.getD 0 0)
theorem lastN_lt {n : Nat} {l : List Nat} (h : ∀ x ∈ l, x < n) (h0 : 0 < l.length) : lastN l < n := by
  unfold lastN
  have hp : l.length - 1 < l.length := by omega
  rw [List.getD_eq_getElem?_getD, List.getElem?_eq_getElem hp]
  exact h _ (List.getElem_mem hp)
theorem scWay_l0 {n : Nat} {ns : List Nat} (h : Sets n ns) (rnd : Bool) (d : Nat) (l : List Nat) (hd : l.length + (d + 1) = n) (hl : ∀ x ∈ l, x < n)
    (ih : ∀ j, j < n → Ev (fun k => spec_scWay.f k (n : Int) (ints ns) (ints (l ++ [j])) rnd) (ints (way n ns (roundFin ns rnd) d (l ++ [j])))) :
    ∀ m j, j + m = n → Ev (fun k => spec_scWay.l0 k (ints l) rnd (n : Int) (j : Int) (n : Int) (ints ns)) (ints (firstNE (fun j => if stepOk ns l j then way n ns (roundFin ns rnd) d (l ++ [j]) else []) (List.range' j m))) := by
  have hn := h.n8
  have hL := h.len
  intro m
  induction m with
  | zero =>
    intro j hj
    exact Ev.step (fun k => by rw [spec_scWay.l0, if_neg (by omega)]) (Ev.some (by simp [firstNE, ints]))
  | succ m ihm =>
    intro j hj
    have hjn : j < n := by omega
    have next := ihm (j + 1) (by omega)
    have hJ : ∀ b : Bool, Ev (fun k => spec_scWay.j1 k (ints l) rnd (j : Int) (n : Int) (j : Int) b (n : Int) (ints ns)) (ints (if b = true then firstNE (fun j => if stepOk ns l j then way n ns (roundFin ns rnd) d (l ++ [j]) else []) (List.range' (j + 1) m) else if 0 < (way n ns (roundFin ns rnd) d (l ++ [j])).length then way n ns (roundFin ns rnd) d (l ++ [j]) else firstNE (fun j => if stepOk ns l j then way n ns (roundFin ns rnd) d (l ++ [j]) else []) (List.range' (j + 1) m))) := by
      intro b
      refine Ev.step (fun k => by rw [spec_scWay.j1]) ?_
      cases b with
      | true => simp only [if_true]; rw [wrap_nat j (by omega)]; exact next
      | false =>
        have ho : spec_l1Own.f (ints l) = some (ints l) := by unfold spec_l1Own.f; rw [Option.bind_some, if_pos (by rw [ints_length]; simp; omega)]; rfl
        have hlen : (ints l).length + ([(j : Int)] : List Int).length < 17592186044416 := by rw [ints_length]; simp; omega
        simp only [Bool.false_eq_true, if_false, ho, Option.bind_some, if_pos hlen]
        rw [show ints l ++ [(j : Int)] = ints (l ++ [j]) by simp [ints]]
        refine Ev.bind (ih j hjn) ?_
        rw [ints_length]
        by_cases q : 0 < (way n ns (roundFin ns rnd) d (l ++ [j])).length
        · simp only [if_pos q, if_pos (show ((way n ns (roundFin ns rnd) d (l ++ [j])).length : Int) > 0 by omega)]; exact Ev.now _
        · simp only [if_neg q, if_neg (show ¬ ((way n ns (roundFin ns rnd) d (l ++ [j])).length : Int) > 0 by omega)]; rw [wrap_nat j (by omega)]; exact next
    have hcont := l1Has_f (ints l) (j : Int) (by rw [ints_length]; simp only [BM]; omega)
    rw [hasN] at hcont
    have hval : firstNE (fun j => if stepOk ns l j then way n ns (roundFin ns rnd) d (l ++ [j]) else []) (List.range' j (m + 1)) = if stepOk ns l j = true then (if 0 < (way n ns (roundFin ns rnd) d (l ++ [j])).length then way n ns (roundFin ns rnd) d (l ++ [j]) else firstNE (fun j => if stepOk ns l j then way n ns (roundFin ns rnd) d (l ++ [j]) else []) (List.range' (j + 1) m)) else firstNE (fun j => if stepOk ns l j then way n ns (roundFin ns rnd) d (l ++ [j]) else []) (List.range' (j + 1) m) := by
      rw [List.range'_succ]
      by_cases q : stepOk ns l j = true
      · simp [firstNE, q]
      · simp [firstNE, q]
    rw [hval]
    refine Ev.step (fun k => by rw [spec_scWay.l0, if_pos (by omega)]) ?_
    refine Ev.bind hcont ?_
    cases hc : l.any (fun y => decide (y = j)) with
    | true =>
      simp only [if_true]
      exact Ev.pair (hJ true) (by simp [stepOk, hc])
    | false =>
      simp only [Bool.false_eq_true, if_false]
      by_cases h0 : 0 < l.length
      · have h0' : ((ints l).length : Int) > 0 := by rw [ints_length]; omega
        have hw : wrap64 (((ints l).length : Int) - 1) = ((l.length - 1 : Nat) : Int) := by rw [ints_length, wrap_id (by omega) (by omega)]; omega
        have hlast := lastN_lt hl h0
        have e1 : rd (ints l) ((l.length - 1 : Nat) : Int) = ((lastN l : Nat) : Int) := by rw [rd_ints]; rfl
        simp only [if_pos h0', hw, if_pos (show (0 : Int) ≤ ((l.length - 1 : Nat) : Int) by omega), if_pos (show ((l.length - 1 : Nat) : Int) < ((ints l).length : Int) by rw [ints_length]; omega), e1, if_pos (show (0 : Int) ≤ ((lastN l : Nat) : Int) by omega), if_pos (show ((lastN l : Nat) : Int) < ((ints ns).length : Int) by rw [ints_length]; omega), rd_ints, deHas_nb h, Option.bind_some]
        refine Ev.pair (hJ _) ?_
        have hne : decide (l.length = 0) = false := decide_eq_false (by omega)
        simp only [stepOk, hc, hne]
        cases nb ns (lastN l) j <;> simp
      · have h0' : ¬ ((ints l).length : Int) > 0 := by rw [ints_length]; omega
        simp only [if_neg h0']
        have hne : decide (l.length = 0) = true := decide_eq_true (by omega)
        have e : stepOk ns l j = true := by unfold stepOk; rw [hc, hne]; rfl
        exact Ev.pair (hJ false) (by simp only [Bool.false_eq_true, if_false, if_pos e])
theorem scWay_f {n : Nat} {ns : List Nat} (h : Sets n ns) (rnd : Bool) : ∀ (d : Nat) (l : List Nat), l.length + d = n → (∀ x ∈ l, x < n) → Ev (fun k => spec_scWay.f k (n : Int) (ints ns) (ints l) rnd) (ints (way n ns (roundFin ns rnd) d l)) := by
  have hn := h.n8
  have hn1 := h.n1
  have hL := h.len
  intro d
  induction d with
  | zero =>
    intro l hd hl
    refine Ev.step (fun k => by rw [spec_scWay.f, if_pos (by rw [ints_length]; omega)]) ?_
    cases rnd with
    | false => simp [way, roundFin]; exact Ev.now _
    | true =>
      have h0 : 0 < l.length := by omega
      have hw : wrap64 (((ints l).length : Int) - 1) = ((l.length - 1 : Nat) : Int) := by rw [ints_length, wrap_id (by omega) (by omega)]; omega
      have hlast := lastN_lt hl h0
      have e1 : rd (ints l) ((l.length - 1 : Nat) : Int) = ((lastN l : Nat) : Int) := by rw [rd_ints]; rfl
      have e2 : rd (ints l) 0 = ((l.getD 0 0 : Nat) : Int) := rd_ints l 0
      simp only [if_true, hw, if_pos (show (0 : Int) ≤ ((l.length - 1 : Nat) : Int) by omega), if_pos (show ((l.length - 1 : Nat) : Int) < ((ints l).length : Int) by rw [ints_length]; omega), e1, if_pos (show (0 : Int) ≤ ((lastN l : Nat) : Int) by omega), if_pos (show ((lastN l : Nat) : Int) < ((ints ns).length : Int) by rw [ints_length]; omega), if_pos (show (0 : Int) < ((ints l).length : Int) by rw [ints_length]; omega), e2, rd_ints, deHas_nb h, Option.bind_some]
      have r : roundFin ns true l = nb ns (lastN l) (l.getD 0 0) := rfl
      unfold way
      rw [r]
      cases e : nb ns (lastN l) (l.getD 0 0) with
      | false => simp only [Bool.false_eq_true, if_false]; exact Ev.some (by simp [ints])
      | true => simp only [if_true]; exact Ev.now _
  | succ d ih =>
    intro l hd hl
    refine Ev.step (fun k => by rw [spec_scWay.f, if_neg (by rw [ints_length]; omega)]) ?_
    have := scWay_l0 h rnd d l hd hl (fun j hj => ih (l ++ [j]) (by simp; omega) (fun x hx => by
      rcases List.mem_append.1 hx with hx | hx
      · exact hl x hx
      · simp at hx; omega)) n 0 (by omega)
    rw [ints_length, hL]
    unfold way
    rw [List.range_eq_range']
    exact this
theorem index_l0 (x : Int) : ∀ (rest done : List Int), (done ++ rest).length ≤ BM → ∃ r : Int, Ev (fun k => slices_Index_int_int.l0 k (done ++ rest) x ((done ++ rest).length : Int) (done.length : Int)) r ∧ decide (r ≥ 0) = rest.any fun y => decide (y = x) := by
  intro rest
  induction rest with
  | nil => intro done h; exact ⟨-1, Ev.step (fun k => by rw [slices_Index_int_int.l0, if_neg (by simp)]) (Ev.now _), by simp⟩
  | cons y rest ih =>
    intro done h
    obtain ⟨q1, q2, q3, q4, q5⟩ := mid y done rest h
    obtain ⟨r, ih1, ih2⟩ := ih (done ++ [y]) (by rw [q5]; exact h)
    rw [q5] at ih1
    by_cases e : y = x
    · refine ⟨(done.length : Int), Ev.step (fun k => by rw [slices_Index_int_int.l0]) ?_, by simp [e]⟩
      simp only [if_pos q1, if_pos q2, q3, if_pos e.symm]
      exact Ev.now _
    · refine ⟨r, Ev.step (fun k => by rw [slices_Index_int_int.l0]) ?_, by rw [ih2]; simp [e]⟩
      simp only [if_pos q1, if_pos q2, q3, q4, if_neg (show ¬ x = y from fun z => e z.symm)]
      exact ih1
theorem contains_f (l : List Int) (x : Int) (h : l.length ≤ BM) : Ev (fun k => slices_Contains_int_int.f k l x) (l.any fun y => decide (y = x)) := by
  obtain ⟨r, h1, h2⟩ := index_l0 x l [] h
  unfold slices_Contains_int_int.f slices_Index_int_int.f
  exact Ev.bind h1 (Ev.some h2)
theorem firstList_l0 {n : Nat} {ns : List Nat} (h : Sets n ns) (e : Int → Option Bool) (fin : List Nat → Bool) (d : Nat) (l : List Nat) (hd : l.length + (d + 1) = n) (hl : ∀ x ∈ l, x < n)
    (ih : ∀ j, j < n → Ev (fun k => impl_firstList.f k (n : Int) (ints ns) (ints (l ++ [j])) e) (ints (way n ns fin d (l ++ [j])))) :
    ∀ m j, j + m = n → Ev (fun k => impl_firstList.l0 k (ints l) e (n : Int) (j : Int) (n : Int) (ints ns)) (ints (firstNE (fun j => if stepOk ns l j then way n ns fin d (l ++ [j]) else []) (List.range' j m))) := by
  have hn := h.n8
  have hL := h.len
  intro m
  induction m with
  | zero =>
    intro j hj
    exact Ev.step (fun k => by rw [impl_firstList.l0, if_neg (by omega)]) (Ev.some (by simp [firstNE, ints]))
  | succ m ihm =>
    intro j hj
    have hjn : j < n := by omega
    have next := ihm (j + 1) (by omega)
    have hJ : ∀ b : Bool, Ev (fun k => impl_firstList.j1 k (ints l) e (j : Int) (n : Int) (j : Int) b (n : Int) (ints ns)) (ints (if b = true then firstNE (fun j => if stepOk ns l j then way n ns fin d (l ++ [j]) else []) (List.range' (j + 1) m) else if 0 < (way n ns fin d (l ++ [j])).length then way n ns fin d (l ++ [j]) else firstNE (fun j => if stepOk ns l j then way n ns fin d (l ++ [j]) else []) (List.range' (j + 1) m))) := by
      intro b
      refine Ev.step (fun k => by rw [impl_firstList.j1]) ?_
      cases b with
      | true => simp only [if_true]; rw [wrap_nat j (by omega)]; exact next
      | false =>
        have ho : slices_Clone_int_int.f (ints l) = some (ints l) := by unfold slices_Clone_int_int.f; rw [if_pos (by rw [ints_length]; omega)]
        have hlen : (ints l).length + ([(j : Int)] : List Int).length < 17592186044416 := by rw [ints_length]; simp; omega
        simp only [Bool.false_eq_true, if_false, ho, Option.bind_some, if_pos hlen]
        rw [show ints l ++ [(j : Int)] = ints (l ++ [j]) by simp [ints]]
        refine Ev.bind (ih j hjn) ?_
        rw [ints_length]
        by_cases q : 0 < (way n ns fin d (l ++ [j])).length
        · simp only [if_pos q, if_pos (show ((way n ns fin d (l ++ [j])).length : Int) > 0 by omega)]; exact Ev.now _
        · simp only [if_neg q, if_neg (show ¬ ((way n ns fin d (l ++ [j])).length : Int) > 0 by omega)]; rw [wrap_nat j (by omega)]; exact next
    have hcont := contains_f (ints l) (j : Int) (by rw [ints_length]; simp only [BM]; omega)
    rw [hasN] at hcont
    have hval : firstNE (fun j => if stepOk ns l j then way n ns fin d (l ++ [j]) else []) (List.range' j (m + 1)) = if stepOk ns l j = true then (if 0 < (way n ns fin d (l ++ [j])).length then way n ns fin d (l ++ [j]) else firstNE (fun j => if stepOk ns l j then way n ns fin d (l ++ [j]) else []) (List.range' (j + 1) m)) else firstNE (fun j => if stepOk ns l j then way n ns fin d (l ++ [j]) else []) (List.range' (j + 1) m) := by
      rw [List.range'_succ]
      by_cases q : stepOk ns l j = true
      · simp [firstNE, q]
      · simp [firstNE, q]
    rw [hval]
    refine Ev.step (fun k => by rw [impl_firstList.l0, if_pos (by omega)]) ?_
    refine Ev.bind hcont ?_
    cases hc : l.any (fun y => decide (y = j)) with
    | true =>
      simp only [if_true]
      exact Ev.pair (hJ true) (by simp [stepOk, hc])
    | false =>
      simp only [Bool.false_eq_true, if_false]
      by_cases h0 : 0 < l.length
      · have h0' : ((ints l).length : Int) > 0 := by rw [ints_length]; omega
        have hw : wrap64 (((ints l).length : Int) - 1) = ((l.length - 1 : Nat) : Int) := by rw [ints_length, wrap_id (by omega) (by omega)]; omega
        have hlast := lastN_lt hl h0
        have e1 : rd (ints l) ((l.length - 1 : Nat) : Int) = ((lastN l : Nat) : Int) := by rw [rd_ints]; rfl
        simp only [if_pos h0', hw, if_pos (show (0 : Int) ≤ ((l.length - 1 : Nat) : Int) by omega), if_pos (show ((l.length - 1 : Nat) : Int) < ((ints l).length : Int) by rw [ints_length]; omega), e1, if_pos (show (0 : Int) ≤ ((lastN l : Nat) : Int) by omega), if_pos (show ((lastN l : Nat) : Int) < ((ints ns).length : Int) by rw [ints_length]; omega), rd_ints, has_nb h, Option.bind_some]
        refine Ev.pair (hJ _) ?_
        have hne : decide (l.length = 0) = false := decide_eq_false (by omega)
        simp only [stepOk, hc, hne]
        cases nb ns (lastN l) j <;> simp
      · have h0' : ¬ ((ints l).length : Int) > 0 := by rw [ints_length]; omega
        simp only [if_neg h0']
        have hne : decide (l.length = 0) = true := decide_eq_true (by omega)
        have e : stepOk ns l j = true := by unfold stepOk; rw [hc, hne]; rfl
        exact Ev.pair (hJ false) (by simp only [Bool.false_eq_true, if_false, if_pos e])
theorem firstList_f {n : Nat} {ns : List Nat} (h : Sets n ns) (e : Int → Option Bool) (fin : List Nat → Bool) (he : ∀ l : List Nat, l.length = n → (∀ x ∈ l, x < n) → (∃ t, l = t) → (0 < l.length) → e ((lastN l : Nat) : Int) = some (fin l)) : ∀ (d : Nat) (l : List Nat), l.length + d = n → (∀ x ∈ l, x < n) → Ev (fun k => impl_firstList.f k (n : Int) (ints ns) (ints l) e) (ints (way n ns fin d l)) := by
  have hn := h.n8
  have hn1 := h.n1
  have hL := h.len
  intro d
  induction d with
  | zero =>
    intro l hd hl
    refine Ev.step (fun k => by rw [impl_firstList.f, if_pos (by rw [ints_length]; omega)]) ?_
    have h0 : 0 < l.length := by omega
    have hw : wrap64 (((ints l).length : Int) - 1) = ((l.length - 1 : Nat) : Int) := by rw [ints_length, wrap_id (by omega) (by omega)]; omega
    have e1 : rd (ints l) ((l.length - 1 : Nat) : Int) = ((lastN l : Nat) : Int) := by rw [rd_ints]; rfl
    simp only [hw, if_pos (show (0 : Int) ≤ ((l.length - 1 : Nat) : Int) by omega), if_pos (show ((l.length - 1 : Nat) : Int) < ((ints l).length : Int) by rw [ints_length]; omega), e1, he l (by omega) hl ⟨l, rfl⟩ h0, Option.bind_some]
    unfold way
    cases e2 : fin l with
    | false => simp only [Bool.false_eq_true, if_false]; exact Ev.some (by simp [ints])
    | true => simp only [if_true]; exact Ev.now _
  | succ d ih =>
    intro l hd hl
    refine Ev.step (fun k => by rw [impl_firstList.f, if_neg (by rw [ints_length]; omega)]) ?_
    have := firstList_l0 h e fin d l hd hl (fun j hj => ih (l ++ [j]) (by simp; omega) (fun x hx => by
      rcases List.mem_append.1 hx with hx | hx
      · exact hl x hx
      · simp at hx; omega)) n 0 (by omega)
    unfold way
    rw [List.range_eq_range']
    exact this
theorem firstNE_congr {g1 g2 : Nat → List Nat} (h : ∀ j, g1 j = g2 j) (L : List Nat) : firstNE g1 L = firstNE g2 L := by
  have : g1 = g2 := funext h
  rw [this]
theorem way_congr (n : Nat) (ns : List Nat) (f1 f2 : List Nat → Bool) (h : ∀ l : List Nat, 0 < l.length → l.getD 0 0 = 0 → f1 l = f2 l) : ∀ d l, 0 < l.length → l.getD 0 0 = 0 → way n ns f1 d l = way n ns f2 d l := by
  intro d
  induction d with
  | zero => intro l h1 h2; unfold way; rw [h l h1 h2]
  | succ d ih =>
    intro l h1 h2
    unfold way
    refine firstNE_congr (fun j => ?_) _
    rw [ih (l ++ [j]) (by simp) (by
      cases l with
      | nil => simp at h1
      | cons x l => simpa using h2)]
theorem FirstRound_ans (a0 : Int) (l0 : List Int) (hl : l0.length ≤ 1048576) : ∃ (w0 : List Int) (wb : Bool), Ev (fun k => spec_FirstRound.f k a0 l0) (w0, wb) ∧ Ev (fun k => impl_FirstRound.f k a0 l0) (w0, wb) ∧ w0.length ≤ 1048576 := by
  have hB : l0.length ≤ BM := by simp only [BM]; omega
  by_cases hT : IsTour a0 l0
  · have e1 := (IsTournament_f a0 l0 hB).1 hT
    have e2 := (scGood_f a0 l0 hB).1 hT
    obtain ⟨n, ns, rfl, rfl, hT⟩ := hT
    have hS : Sets n ns := hT.1.1
    have hn := hS.n8
    have hL := hS.len
    by_cases h3 : (n : Int) < 3
    · refine ⟨[], false, ?_, ?_, by simp⟩
      · unfold spec_FirstRound.f
        refine Ev.bind e2 ?_
        simp only [if_true, if_pos h3]
        exact Ev.now _
      · unfold impl_FirstRound.f
        refine Ev.bind e1 ?_
        simp only [if_true, if_pos h3]
        exact Ev.now _
    · have hw := way_len n ns (roundFin ns true) (n - 1) [0] (by simp; omega)
      have g1 := scWay_f hS true (n - 1) [0] (by simp; omega) (by simp; omega)
      have g2 := firstList_f hS (FRend (ints ns)) (fun l => nb ns (lastN l) 0) (fun l hl1 hl2 _ h0 => by
        have hlt := lastN_lt hl2 h0
        unfold FRend
        rw [if_pos (by omega), if_pos (by rw [ints_length]; omega), rd_ints]
        exact has_nb hS (lastN l) 0) (n - 1) [0] (by simp; omega) (by simp; omega)
      rw [way_congr n ns _ (roundFin ns true) (fun l _ h2 => by unfold roundFin; rw [h2]; rfl) (n - 1) [0] (by simp) rfl] at g2
      refine ⟨ints (way n ns (roundFin ns true) (n - 1) [0]), decide (((ints (way n ns (roundFin ns true) (n - 1) [0])).length : Int) > 0), ?_, ?_, by rw [ints_length]; omega⟩
      · unfold spec_FirstRound.f
        refine Ev.bind e2 ?_
        simp only [if_true, if_neg h3]
        exact Ev.bind g1 (Ev.now _)
      · unfold impl_FirstRound.f
        refine Ev.bind e1 ?_
        simp only [if_true, if_neg h3]
        exact Ev.bind g2 (Ev.now _)
  · have e1 := (IsTournament_f a0 l0 hB).2 hT
    have e2 := (scGood_f a0 l0 hB).2 hT
    refine ⟨[], false, ?_, ?_, by simp⟩
    · unfold spec_FirstRound.f
      refine Ev.bind e2 ?_
      simp only [Bool.false_eq_true, if_false]
      exact Ev.now _
    · unfold impl_FirstRound.f
      refine Ev.bind e1 ?_
      simp only [Bool.false_eq_true, if_false]
      exact Ev.now _
end Go.Proofs.Ytbcbgehdikockaa.K
namespace Go.Proofs.Ytbcbgehdikockaa.K
open Go.RowKit Go.Proofs.YtbcbgehdikockaaW.PrintWords Go.Proofs.Ytbcbgehdikockaa.P
def seqFrom (a : Int) : Nat → List Int
  | 0 => []
  | n + 1 => a :: seqFrom (a + 1) n
theorem seqFrom_length (a : Int) (n : Nat) : (seqFrom a n).length = n := by
  induction n generalizing a with
  | zero => rfl
  | succ n ih => simp [seqFrom, ih]
theorem markIntS_l0 : ∀ (rest done : List Int) (b : Int), (done ++ rest).length ≤ BM → 0 ≤ b → b + rest.length ≤ 4611686018427387904 → Ev (fun k => laws_markIntS.l0 k (done ++ rest) b done.length) (b + rest.length, done ++ seqFrom b rest.length) := by
  intro rest
  induction rest with
  | nil => intro done b h _ _; exact Ev.step (fun k => by simp [laws_markIntS.l0]; rfl) (Ev.some (by simp [seqFrom]))
  | cons x rest ih =>
    intro done b h hb0 hb
    obtain ⟨h1, h2, h3, h4, h5⟩ := mid x done rest h
    have ih' := ih (done ++ [b]) (b + 1) (by simpa using h) (by omega) (by simp at hb; omega)
    refine Ev.step (fun k => by rw [laws_markIntS.l0]) ?_
    have h6 : wrap64 (b + 1) = b + 1 := wrap_id (by omega) (by simp at hb; omega)
    simp only [if_pos h1, if_pos h2, h4, h6, set_mid]
    refine Ev.pair ?_ (show (b + 1 + (rest.length : Int), done ++ [b] ++ seqFrom (b + 1) rest.length) = _ by simp [seqFrom]; omega)
    simpa using ih'
theorem markIntS_f (l : List Int) (a : Int) (h : l.length ≤ BM) (h0 : 0 ≤ a) (ha : a + l.length ≤ 4611686018427387904) : Ev (fun k => laws_markIntS.f k l a) (a + l.length, seqFrom a l.length) := markIntS_l0 l [] a h h0 ha
theorem heldIntS_l0 : ∀ (n : Nat) (done : List Int) (b : Int), (done ++ seqFrom b n).length ≤ BM → 0 ≤ b → b + n ≤ 4611686018427387904 → Ev (fun k => laws_heldIntS.l0 k (done ++ seqFrom b n) b done.length) (b + n) := by
  intro n
  induction n with
  | zero => intro done b h _ _; exact Ev.step (fun k => by simp [laws_heldIntS.l0, seqFrom]; rfl) (Ev.some (by simp))
  | succ n ih =>
    intro done b h hb0 hb
    simp only [seqFrom] at h ⊢
    obtain ⟨h1, h2, h3, h4, h5⟩ := mid b done (seqFrom (b + 1) n) h
    have ih' := ih (done ++ [b]) (b + 1) (by simpa using h) (by omega) (by omega)
    rw [h5] at ih'
    refine Ev.step (fun k => by rw [laws_heldIntS.l0]) ?_
    have h6 : wrap64 (b + 1) = b + 1 := wrap_id (by omega) (by omega)
    simp only [if_pos h1, if_pos h2, h3, h4, h6, if_true]
    exact Ev.pair ih' (by omega)
theorem heldIntS_f (a : Int) (n : Nat) (h : n ≤ BM) (h0 : 0 ≤ a) (ha : a + n ≤ 4611686018427387904) : Ev (fun k => laws_heldIntS.f k (seqFrom a n) a) (a + n) := heldIntS_l0 n [] a (by simpa [seqFrom_length] using h) h0 ha
theorem toIntS_l0 : ∀ (rest done : List Int) , (done ++ rest).length ≤ BM → Ev (fun k => laws_toIntS.l0 k (done ++ rest) (done ++ List.replicate rest.length 0) done.length) (done ++ rest) := by
  intro rest
  induction rest with
  | nil => intro done h; exact Ev.step (fun k => by simp [laws_toIntS.l0]; rfl) (Ev.some (by simp))
  | cons x rest ih =>
    intro done h
    have ih' := ih (done ++ [x])
    obtain ⟨h1, h2, h3, h4, h5⟩ := mid x done rest h
    rw [h5] at ih'
    refine Ev.step (fun k => by rw [laws_toIntS.l0]) ?_
    have h6 : (done.length : Int) < ((done ++ List.replicate (x :: rest).length (0:Int)).length : Int) := by simp; omega
    simp only [if_pos h1, if_pos h2, if_pos h6, h3, h4]
    rw [List.length_cons, List.replicate_succ, set_mid]
    exact ih' h
theorem toIntS_f (l : List Int) (h : l.length ≤ BM) : Ev (fun k => laws_toIntS.f k l) l := by
  unfold laws_toIntS.f
  simp only [BM] at h
  have e1 : 0 ≤ (l.length : Int) := by omega
  have e2 : (l.length : Int).toNat ≤ 35184372088832 := by omega
  simp only [if_pos e1, if_pos e2]
  exact toIntS_l0 l [] h
theorem eqIntS_l0 : ∀ (rest done rest2 done2 : List Int), done.length = done2.length → rest.length = rest2.length → (done ++ rest).length ≤ BM → Ev (fun k => laws_eqIntS.l0 k (done ++ rest) (done2 ++ rest2) done.length) (decide (rest = rest2)) := by
  intro rest
  induction rest with
  | nil =>
    intro done rest2 done2 hl hl2 h
    obtain rfl : rest2 = [] := by simpa using hl2.symm
    exact Ev.step (fun k => by simp [laws_eqIntS.l0]; rfl) (Ev.some (by simp))
  | cons x rest ih =>
    intro done rest2 done2 hl hl2 h
    obtain ⟨y, rest2, rfl⟩ : ∃ y r, rest2 = y :: r := by cases rest2 with | nil => simp at hl2 | cons y r => exact ⟨y, r, rfl⟩
    have ih' := ih (done ++ [x]) rest2 (done2 ++ [y]) (by simp [hl]) (by simpa using hl2)
    obtain ⟨h1, h2, h3, h4, h5⟩ := mid x done rest h
    have hh : (done2 ++ y :: rest2).length ≤ BM := by simp at h hl2 ⊢; omega
    obtain ⟨g1, g2, g3, g4, g5⟩ := mid y done2 rest2 hh
    rw [h5, g5] at ih'
    refine Ev.step (fun k => by rw [laws_eqIntS.l0]) ?_
    rw [← hl] at g1 g3
    simp only [if_pos h1, if_pos h2, if_pos g1, h3, h4, g3]
    refine Ev.ite (fun e => ?_) (fun e => ?_)
    · subst e; simpa using ih' h
    · exact Ev.some (by simp [e])
theorem eqIntS_f (l m : List Int) (h : l.length ≤ BM) : Ev (fun k => laws_eqIntS.f k l m) (decide (l = m)) := by
  unfold laws_eqIntS.f
  refine Ev.ite (fun e => ?_) (fun e => ?_)
  · exact eqIntS_l0 l [] m [] rfl (by omega) h
  · exact Ev.some (by symm; simp; rintro rfl; exact e rfl)
theorem eqIntS_same (l : List Int) (h : l.length ≤ BM) : Ev (fun k => laws_eqIntS.f k l l) true := by simpa using eqIntS_f l l h
theorem szIntS_f (l : List Int) (a : Int) (hl : l.length ≤ maxLen) (h0 : 0 ≤ a) (h1 : a ≤ 1048576) : ∃ r, laws_szIntS.f l a = some r ∧ (0 ≤ r → l.length ≤ a ∧ r ≤ a) := by
  unfold maxLen at hl
  have e : wrap64 (a - (l.length : Int)) = a - l.length := by unfold wrap64; omega
  unfold laws_szIntS.f
  rw [e]
  by_cases h : a - (l.length : Int) < 0
  · rw [if_pos h]; exact ⟨-1, rfl, by omega⟩
  · rw [if_neg h]; exact ⟨_, rfl, by omega⟩
theorem szTournament_f (n : Int) (l : List Int) (hl : l.length ≤ maxLen) : ∃ r, laws_szTournament.f n l 1048576 = some r ∧ (0 ≤ r → l.length ≤ 1048576) := by
  obtain ⟨r, h1, h2⟩ := szIntS_f l 1048576 hl (by omega) (by omega)
  unfold laws_szTournament.f
  rw [h1, Option.bind_some]
  by_cases h : r < 0
  · rw [if_pos h]; exact ⟨-1, rfl, by omega⟩
  · rw [if_neg h]; exact ⟨r, rfl, fun h => by have := (h2 h).1; omega⟩
theorem toTournament_f (n : Int) (l : List Int) (h : l.length ≤ BM) : Ev (fun k => laws_toTournament.f k n l) (n, l) := by
  unfold laws_toTournament.f
  exact Ev.bind (toIntS_f l h) (Ev.now _)
theorem eqTournament_same (n : Int) (l : List Int) (h : l.length ≤ BM) : Ev (fun k => laws_eqTournament.f k n l n l) true := by
  unfold laws_eqTournament.f
  simp only [if_true]
  exact Ev.bind (eqIntS_same l h) (by simpa using Ev.now true)
theorem markTournament_f (n : Int) (l : List Int) (a : Int) (h : l.length ≤ BM) (h0 : 0 ≤ a) (ha : a + l.length ≤ 4611686018427387904) : Ev (fun k => laws_markTournament.f k n l a) (a + l.length, seqFrom a l.length) := by
  unfold laws_markTournament.f
  exact Ev.bind (markIntS_f l a h h0 ha) (Ev.now _)
end Go.Proofs.Ytbcbgehdikockaa.K
namespace Go.Proofs.Ytbcbgehdikockaa.Pure
open Go.RowKit Go.Proofs.YtbcbgehdikockaaW.PrintWords Go.Proofs.Ytbcbgehdikockaa.P Go.Proofs.Ytbcbgehdikockaa.K
set_option maxRecDepth 10000 in
theorem FnExactFirstRound : ∀ (a0 : Int) (l0 : List Int), (Lit.int .i64 a0).wf = true → l0.length ≤ maxLen → (∀ n ∈ l0, (Lit.int .i64 n).wf = true) → laws_FnExactFirstRound.Good a0 l0 true := by
  intro a0 l0 hw_a0 hm0 hw0
  refine ⟨rfl, ?_⟩
  obtain ⟨n0, hs0, hb0⟩ := szTournament_f a0 l0 hm0
  refine ⟨n0, hs0, ?_⟩
  by_cases hn0 : n0 < 0
  · exact Or.inl hn0
  refine Or.inr ⟨by omega, ?_⟩
  have B0 : l0.length ≤ 1048576 := hb0 (by omega)
  obtain ⟨w0, wb, hsp, him, W0⟩ := FirstRound_ans a0 l0 B0
  exact ⟨w0, (seqFrom 1 w0.length), (seqFrom 1 l0.length), wb, (1 + (l0.length : Int)), (1 + (w0.length : Int)), Ev.rounds (toTournament_f a0 l0 (by have := B0; simp only [BM]; omega)), Ev.rounds (hsp), Ev.rounds (him), Ev.rounds (eqIntS_same w0 (by have := W0; simp only [BM]; omega)), Ev.rounds (eqTournament_same a0 l0 (by have := B0; simp only [BM]; omega)), Ev.rounds (markTournament_f a0 l0 1 (by have := B0; simp only [BM]; omega) (by omega) (by have := B0; omega)), Ev.rounds (markIntS_f w0 1 (by have := W0; simp only [BM]; omega) (by omega) (by have := W0; omega)), Ev.rounds (heldIntS_f 1 w0.length (by have := W0; simp only [BM]; omega) (by omega) (by have := W0; omega)), by omega, by omega, by simp [seqFrom_length]⟩
end Go.Proofs.Ytbcbgehdikockaa.Pure
namespace Go.Proofs.Ytbcbgehdikockaa.K
open Go.RowKit Go.ChangeShapes Go.WideShapes Go.ChangeAt Go.Deep Go.Proofs.YtbcbgehdikockaaW.PrintWords
section
variable {H : Type} {enc : TypeId × Value → H} {P : Program} {w : World}
theorem open_row {t e : TypeId} {fuel : Nat} {cs : List Value} {x : DataW H × List MemPlace} (ht : P.underlying t = some (.slice e)) (he : P.underlying e = some (.int .i64)) (hc : P.cellsOf e = 1)
    (h : DataW.trod enc P w 0 (fun _ => true) true fuel t cs = some x) :
    ∃ (A : Option Addr) (c : Nat) (l : List Int), cs = [.slice A l.length c] ∧ l.length ≤ c ∧ l.length ≤ maxLen ∧ (∀ n ∈ l, (Lit.int .i64 n).wf = true) ∧ Kd.C (Kd.int .i64) w A l.length l := by
  rcases open_ints ht he hc h with ⟨rfl, _⟩ | ⟨a, l, c, zs, rfl, _, hl, hm, hz, _, hcell, hwz⟩
  · exact ⟨none, 0, [], rfl, Nat.le_refl _, by simp [maxLen], by simp, Kd.C_nil _ _⟩
  · obtain ⟨l0, rfl, hr0, hm0, hw0, hc0⟩ := ReadsInt.ofRowC (k := .i64) (w := w) (a := some a) (len := l) (cap := c) (zs := zs) (.inr ⟨a, rfl, hl, hm, by simpa using hz, hcell, hwz⟩)
    exact ⟨some a, c, l0, rfl, hc0, hm0, hw0, Kd.C_of_reads (d := (0 : Int)) (h1 := fun _ => rfl) hr0⟩
end
end Go.Proofs.Ytbcbgehdikockaa.K
namespace Go.Proofs.Ytbcbgehdikockaa.fnExactFirstRound
open Go.ChangeShapes Go.WideShapes Go.ChangeAt Go.RowKit
open Go.ChangeMaps (open_string shut_string)
theorem own : ownKnob Try.prog.godebug = none := by kernel_rfl
theorem laidOut : laidOutB Try.prog = true := by kernel_rfl
set_option maxRecDepth 100000 in
theorem lifted (os : Os) (started : os.Started) (H : Type) (enc : TypeId × Value → H) :
    ReturnsInHanded {} Try.checked os 5 .any (Rows.fnExactFirstRoundSpec.pre6 enc Try.prog Try.f5 Rows.fnExactFirstRoundRow.domain false) (Rows.fnExactFirstRoundSpec.post enc Try.prog Try.f5 false true false false) := by
  refine returnsInHanded_of_change_sized (C := Try.checked) own started (by kernel_rfl) Try.func5
    (ChangeSpec.witness6 (enc := enc) (C := Try.checked) false ⟨#[], #[.agg #[.int .i64 0, .slice none 0 0]], []⟩ 8 (by kernel_rfl) (by kernel_rfl) (by kernel_rfl) (by kernel_rfl)) ?_
  intro W base args ds gs before hval0 hW hcnd hsz0 _
  have hsz : (DataW.weightsEach Try.prog (Try.f5.params.toList ++ Rows.fnExactFirstRoundSpec.plain.varTypes Try.prog) (ds ++ gs)).all (· ≤ reachBytes) = true := hsz0
  have hval : ∀ (j : Nat) t v, Try.f5.params[j]? = some t → args[j]? = some v → Value.okWide Try.prog W .any base t v := hval0
  have hW' := hW
  obtain ⟨p, q, hA0, hV, rfl, hfz, hnd⟩ := hW
  have hA : DataW.TrodAll enc Try.prog W 0 (fun _ => true) true Try.f5.params.toList args.toList ds p := hA0
  rw [Try.params5] at hA hval hsz
  obtain ⟨v0, vs0, d0, ds0, p0, q0, hargs, rfl, rfl, h0, r0⟩ := trodAll_cons hA
  obtain ⟨rfl, rfl, rfl⟩ := trodAll_nil r0
  obtain rfl : args = #[v0] := by cases args; simp_all
  obtain ⟨rfl, rfl⟩ := trodVars_none hV
  have k0 := h0
  have lt0 : ∀ x ∈ p0, x.block < W.heap.size := by obtain ⟨m, hm⟩ := k0; exact DataW.trod_lt m _ _ _ hm
  obtain ⟨u0_0, u0_1, y0_0, y0_1, m0, rfl, rfl, rfl, g0_0, g0_1⟩ := Joins.open_agg2 Try.underlying24 (by kernel_rfl) (by kernel_rfl) (hval 0 24 v0 rfl rfl) h0
  obtain ⟨a0_0, hcs0_0, _, w0_0⟩ := DataW.trod_int Try.underlying3 g0_0
  obtain rfl := List.singleton_inj.1 hcs0_0
  obtain ⟨A0_1, c0_1, l0_1, hcs0_1, hc0_1, hm0_1, hw0_1, hr0_1⟩ := K.open_row Try.underlying22 Try.underlying3 (by kernel_rfl) g0_1
  obtain rfl := List.singleton_inj.1 hcs0_1
  clear hA0 hval0 hsz0 hsz
  have hk := Pure.FnExactFirstRound a0_0 l0_1 w0_0 hm0_1 hw0_1
  refine (P.laws_FnExactFirstRound.calls a0_0 _ _ l0_1 true W hr0_1 hc0_1 hk).mono fun e W' ⟨he, bel⟩ => ?_
  subst he
  exact ⟨_, rfl, _, _, _, [], _, [], hW', trodAll_mk1 (shut_bool Try.underlying4 _), (trodAll_cons_mk (Below.trod laidOut (by kernel_rfl) (of_decide_eq_true (by kernel_rfl)) k0 bel lt0) trodAll_mk0), rfl, bel.frame _, fun h => by cases h⟩
set_option maxHeartbeats 4000000 in
theorem joined : joinedFacts Try.prog 5 Try.f5 Rows.fnExactFirstRoundSpec Rows.fnExactFirstRoundRow = true := by
  unfold joinedFacts
  repeat' (with_reducible refine (Bool.and_eq_true _ _).mpr ⟨?_, ?_⟩)
  all_goals first
    | (with_reducible exact Head.mayEnter)
    | ((with_reducible rw [Head.lifts]); rfl)
    | ((with_reducible rw [Head.make]); rfl)
    | (as_aux_lemma => kernel_rfl)
theorem over : Rows.fnExactFirstRoundRow.holds Try.pinned (OpenSpec.ofChange Rows.fnExactFirstRoundSpec) :=
  OpenClaim.holds_of_wide 5 Try.f5 rfl rfl rfl rfl rfl rfl rfl ⟨rfl, rfl, rfl, rfl, rfl⟩ rfl rfl rfl rfl rfl (by kernel_rfl) Try.func5 joined
    (of_decide_eq_true (by kernel_rfl)) (by unfold Func.isWrapper; first | (rw [if_pos (by decide +kernel)]; kernel_rfl) | (rw [if_neg (by decide +kernel)]; exact ⟨rfl, rfl⟩))
    (fun os started H enc _ => lifted os started H enc)
theorem proved : Rows.FnExactFirstRoundSaid := over
#print axioms proved
end Go.Proofs.Ytbcbgehdikockaa.fnExactFirstRound
namespace Go.Proofs.Ytbcbgehdikockaa
theorem fnExactFirstRound_holds : Rows.FnExactFirstRoundSaid := fnExactFirstRound.proved
end Go.Proofs.Ytbcbgehdikockaa
