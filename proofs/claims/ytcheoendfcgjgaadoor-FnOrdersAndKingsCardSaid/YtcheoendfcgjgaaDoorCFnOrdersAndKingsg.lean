/- The row of the law FnOrdersAndKings: contracts and plain lemmas for the law FnOrdersAndKings, part 7 of 7 (what the Go functions answer). -/
import Derived.ProofKit
import Derived.OpenShut
import Derived.Deep.Matrix
import Derived.Lib.SmallJoins
import Derived.Test.YtcheoendfcgjgaaDoorRows
import Derived.Test.YtcheoendfcgjgaaDoorCards
import Derived.Test.YtcheoendfcgjgaaDoorTie
import Derived.Deep.DeepHandedRow
import Derived.Lib.LaidTab
import Derived.Stop.LaidErr
import Derived.WalkKit
import Derived.ShutString
import Derived.ChangeOld
import Derived.Below
import Derived.SizedLaws
import Derived.Test.YtcheoendfcgjgaaDoorCFnOrdersAndKingsa
import Derived.Test.YtcheoendfcgjgaaDoorCFnOrdersAndKingsb
import Derived.Test.YtcheoendfcgjgaaDoorCFnOrdersAndKingsc
import Derived.Test.YtcheoendfcgjgaaDoorCFnOrdersAndKingsd
import Derived.Test.YtcheoendfcgjgaaDoorCFnOrdersAndKingse
import Derived.Test.YtcheoendfcgjgaaDoorCFnOrdersAndKingsf
set_option linter.unusedVariables false
set_option linter.unusedSimpArgs false
namespace Go.Proofs.YtcheoendfcgjgaaDoor.K
open Go.RowKit Go.Proofs.YtcheoendfcgjgaaDoorW.PrintWords Go.Proofs.YtcheoendfcgjgaaDoorW.PrintMore Go.Proofs.YtcheoendfcgjgaaDoor.P
theorem flip_bit {n : Nat} {ns : List Nat} (i b : Nat) : (flipOf n ns i).testBit b = (decide (b < n) && !nb ns i b && !decide (b = i)) := by
  unfold flipOf flipSet
  simp only [Nat.testBit_xor, Nat.testBit_and, Nat.testBit_two_pow_sub_one, Nat.testBit_two_pow]
  have : (ns.getD i 0).testBit b = nb ns i b := rfl
  rw [this]
  rw [show decide (i = b) = decide (b = i) by rw [decide_eq_decide]; exact eq_comm]
  cases decide (b < n) <;> cases nb ns i b <;> cases decide (b = i) <;> rfl
theorem mirror_nb {n : Nat} {ns : List Nat} (a b : Nat) : nb (mirrorUpto n ns n) a b = (decide (a < n) && (decide (b < n) && !nb ns a b && !decide (b = a))) := by
  unfold mirrorUpto
  show (((List.range n).map (flipOf n ns)).getD a 0).testBit b = _
  rw [List.getD_eq_getElem?_getD, List.getElem?_map]
  by_cases ha : a < n
  · rw [List.getElem?_range ha]
    simp only [Option.map_some, Option.getD_some, flip_bit]
    simp [ha]
  · rw [List.getElem?_eq_none (by simp; omega)]
    simp [ha]
theorem mirror_sets {n : Nat} {ns : List Nat} (h : Sets n ns) : Sets n (mirrorUpto n ns n) := by
  refine ⟨h.n1, h.n8, by simp [mirrorUpto], fun x hx => ?_⟩
  unfold mirrorUpto at hx
  obtain ⟨i, hi, rfl⟩ := List.mem_map.1 hx
  refine Nat.lt_pow_two_of_testBit _ (fun b hb => ?_)
  rw [flip_bit]
  simp; omega
theorem mirror_mirrorN {n : Nat} {ns : List Nat} (h : Near n ns) : mirrorUpto n (mirrorUpto n ns n) n = ns := by
  refine sets_extG (mirror_sets (mirror_sets h.1)) h.1 (fun x y => ?_)
  rw [mirror_nb, mirror_nb]
  by_cases hx : x < n
  · by_cases hy : y < n
    · by_cases e : y = x
      · subst e; rw [h.2 y hy]; simp
      · simp [hx, hy, e]
    · have : nb ns x y = false := h.1.nb_lt (by omega)
      rw [this]; simp [hy]
  · have : nb ns x y = false := by
      unfold nb
      rw [List.getD_eq_getElem?_getD, List.getElem?_eq_none (by rw [h.1.len]; omega)]
      simp
    rw [this]; simp [hx]
theorem sm_one : ∀ n, M.sm (fun _ => 1) n = n
  | 0 => rfl
  | n + 1 => by rw [M.sm, sm_one n]
theorem sm_zero : ∀ n, M.sm (fun _ => 0) n = 0
  | 0 => rfl
  | n + 1 => by rw [M.sm, sm_zero n]
theorem mirror_winsN {n : Nat} {ns : List Nat} (h : Near n ns) (x : Nat) (hx : x < n) : wins n ns x + wins n (mirrorUpto n ns n) x + 1 = n := by
  have e1 : M.sm (fun b => M.tB (false || decide (b = x))) n = 1 := by
    rw [sm_set1 (fun _ => false) x rfl n, if_pos hx]
    have : M.sm (fun b => M.tB false) n = 0 := sm_zero n
    rw [this]
  unfold wins
  rw [← M.sm_add, ← e1, ← M.sm_add]
  refine (smC (g := fun _ => 1) (fun b hb => ?_)).trans (sm_one n)
  rw [mirror_nb]
  by_cases e : b = x
  · subst e; rw [h.2 b hb]; simp [M.tB]
  · cases nb ns x b <;> simp [hx, hb, e, M.tB]
theorem tour_l1 {n : Nat} {ns : List Nat} (h : Sets n ns) (i : Nat) (hi : i < n) (R : Prop) (hR : EvB (fun k => impl_IsTournament.l0 k (ints ns) n ((i + 1 : Nat) : Int) n (ints ns)) R) :
    EvB (fun k => impl_IsTournament.l1 k i ((ns.getD i 0 : Nat) : Int) (ints ns) n i i ((0 : Nat) : Int) n (ints ns)) ((∀ j, j < i → nb ns i j ≠ nb ns j i) ∧ R) := by
  have hl := h.len
  have hn := h.n8
  refine allLoop0 (fun j k => impl_IsTournament.l1 k i ((ns.getD i 0 : Nat) : Int) (ints ns) n i i (j : Int) n (ints ns)) i (fun j => nb ns i j ≠ nb ns j i) R ?_ ?_
  · refine EvB.step (fun k => ?_) hR
    rw [impl_IsTournament.l1, if_neg (by omega), wrap_nat i (by omega)]
  · intro j hj R hR
    refine EvB.step (f := fun k => if nb ns i j ≠ nb ns j i then impl_IsTournament.l1 k i ((ns.getD i 0 : Nat) : Int) (ints ns) n i i ((j + 1 : Nat) : Int) n (ints ns) else some false) (fun k => ?_) (EvB.and fun _ => hR)
    rw [impl_IsTournament.l1, if_pos (by omega), has_nb h i, Option.bind_some, if_pos (by omega), if_pos (by rw [ints_length]; omega), rd_ints, has_nb h j, Option.bind_some, wrap_nat j (by omega)]
    by_cases e : nb ns i j = nb ns j i
    · rw [if_pos (by simpa using e), if_neg (by simpa using e)]
    · rw [if_neg (by simpa using e), if_pos e]
theorem tour_l0 {n : Nat} {ns : List Nat} (h : Sets n ns) : EvB (fun k => impl_IsTournament.l0 k (ints ns) n ((0 : Nat) : Int) n (ints ns)) (∀ i, i < n → ∀ j, j < i → nb ns i j ≠ nb ns j i) := by
  have hl := h.len
  have hn := h.n8
  refine (allLoop0 (fun j k => impl_IsTournament.l0 k (ints ns) n (j : Int) n (ints ns)) n (fun i => ∀ j, j < i → nb ns i j ≠ nb ns j i) True ?_ ?_).congr (by simp)
  · exact EvB.step (fun k => by rw [impl_IsTournament.l0, if_neg (by omega)]) EvB.true_
  · intro i hi R hR
    refine EvB.step (fun k => ?_) (tour_l1 h i hi R hR)
    rw [impl_IsTournament.l0, if_pos (by omega), if_pos (by omega), if_pos (by rw [ints_length]; omega), rd_ints]
    rfl
def IsTour (a : Int) (l : List Int) : Prop := ∃ n ns, a = ((n : Nat) : Int) ∧ l = ints ns ∧ Tour n ns
theorem IsTournament_f (a : Int) (l : List Int) (hl : l.length ≤ BM) : EvB (fun k => impl_IsTournament.f k a l) (IsTour a l) := by
  unfold impl_IsTournament.f
  obtain ⟨b, hb, hbb⟩ := (areNear_f a l hl).ev
  refine EvB.bind hb ?_
  cases b with
  | false => exact ⟨fun ⟨n, ns, e1, e2, h⟩ => absurd (hbb.2 ⟨n, ns, e1, e2, h.1⟩) (by simp), fun _ => by simpa using Ev.now false⟩
  | true =>
    obtain ⟨n, ns, rfl, rfl, hn⟩ := hbb.1 rfl
    simp only [if_true, ints_length, hn.1.len]
    refine (tour_l0 hn.1).congr ⟨fun h => ⟨n, ns, rfl, rfl, hn, h⟩, ?_⟩
    rintro ⟨n', ns', e1, e2, h⟩
    obtain rfl : n = n' := by omega
    obtain rfl := ints_inj e2
    exact h.2
theorem sgood_l1 {n : Nat} {ns : List Nat} (h : Sets n ns) (i : Nat) (hi : i < n) (R : Prop) (hR : EvB (fun k => spec_scGood.l0 k (ints ns) n ((i + 1 : Nat) : Int) n (ints ns)) R) :
    EvB (fun k => spec_scGood.l1 k i ((ns.getD i 0 : Nat) : Int) (ints ns) n i (ints ns) n ((0 : Nat) : Int) n (ints ns)) ((∀ j, j < n → if i = j then nb ns i j = false else nb ns i j ≠ nb ns j i) ∧ R) := by
  have hl := h.len
  have hn := h.n8
  refine allLoop0 (fun j k => spec_scGood.l1 k i ((ns.getD i 0 : Nat) : Int) (ints ns) n i (ints ns) n (j : Int) n (ints ns)) n (fun j => if i = j then nb ns i j = false else nb ns i j ≠ nb ns j i) R ?_ ?_
  · refine EvB.step (fun k => ?_) hR
    rw [spec_scGood.l1, if_neg (by omega), wrap_nat i (by omega)]
  · intro j hj R hR
    by_cases hij : i = j
    · subst hij
      refine EvB.step (f := fun k => if nb ns i i = false then spec_scGood.l1 k i ((ns.getD i 0 : Nat) : Int) (ints ns) n i (ints ns) n ((i + 1 : Nat) : Int) n (ints ns) else some false) (fun k => ?_) ((EvB.and fun _ => hR).congr (by simp))
      rw [spec_scGood.l1, if_pos (by omega), if_pos (by omega), if_pos (by rw [ints_length]; omega), if_pos rfl, deHas_nb h i, Option.bind_some, wrap_nat i (by omega)]
      cases nb ns i i <;> rfl
    · refine EvB.step (f := fun k => if nb ns i j ≠ nb ns j i then spec_scGood.l1 k i ((ns.getD i 0 : Nat) : Int) (ints ns) n i (ints ns) n ((j + 1 : Nat) : Int) n (ints ns) else some false) (fun k => ?_) ((EvB.and fun _ => hR).congr (by simp [hij]))
      rw [spec_scGood.l1, if_pos (by omega), if_pos (by omega), if_pos (by rw [ints_length]; omega), if_neg (by omega), deHas_nb h i, Option.bind_some, rd_ints, deHas_nb h j, Option.bind_some, wrap_nat j (by omega)]
      by_cases e : nb ns i j = nb ns j i
      · rw [if_pos (by simpa using e), if_neg (by simpa using e)]
      · rw [if_neg (by simpa using e), if_pos e]
theorem sgood_l0 {n : Nat} {ns : List Nat} (h : Sets n ns) : EvB (fun k => spec_scGood.l0 k (ints ns) n ((0 : Nat) : Int) n (ints ns)) (∀ i, i < n → ∀ j, j < n → if i = j then nb ns i j = false else nb ns i j ≠ nb ns j i) := by
  have hl := h.len
  have hn := h.n8
  refine (allLoop0 (fun j k => spec_scGood.l0 k (ints ns) n (j : Int) n (ints ns)) n (fun i => ∀ j, j < n → if i = j then nb ns i j = false else nb ns i j ≠ nb ns j i) True ?_ ?_).congr (by simp)
  · exact EvB.step (fun k => by rw [spec_scGood.l0, if_neg (by omega)]) EvB.true_
  · intro i hi R hR
    refine EvB.step (fun k => ?_) (sgood_l1 h i hi R hR)
    rw [spec_scGood.l0, if_pos (by omega), if_pos (by omega), if_pos (by rw [ints_length]; omega), rd_ints, ints_length, hl]
    rfl
theorem tour_iff {n : Nat} {ns : List Nat} (h : Sets n ns) : (∀ i, i < n → ∀ j, j < n → if i = j then nb ns i j = false else nb ns i j ≠ nb ns j i) ↔ Tour n ns := by
  constructor
  · intro g
    refine ⟨⟨h, fun i hi => by simpa using g i hi i hi⟩, fun i hi j hj => ?_⟩
    have := g i hi j (by omega)
    rwa [if_neg (by omega)] at this
  · intro g i hi j hj
    by_cases e : i = j
    · subst e; simpa using g.1.2 i hi
    · rw [if_neg e]
      by_cases c : j < i
      · exact g.2 i hi j c
      · exact fun q => g.2 j hj i (by omega) q.symm
theorem scGood_f (a : Int) (l : List Int) (hl : l.length ≤ BM) : EvB (fun k => spec_scGood.f k a l) (IsTour a l) := by
  have hj : ∀ a l, Ev (fun k => spec_scGood.j0 k true a l) false := fun a l => Ev.step (fun k => by rw [spec_scGood.j0]) (by simpa using Ev.now _)
  have no : ∀ {g : Nat → Option Bool}, ¬ ((1 ≤ a ∧ a ≤ 8) ∧ (l.length : Int) = a ∧ within 0 (wrap64 (shl .i64 1 a - 1)) l = true) → Ev g false → EvB g (IsTour a l) := by
    intro g h1 h2
    exact ⟨fun ⟨n, ns, e1, e2, h⟩ => absurd ((sets_iff a l).2 ⟨n, ns, e1, e2, h.1.1⟩) h1, fun _ => h2⟩
  unfold spec_scGood.f
  simp only [l1In_f, Option.bind_some]
  by_cases h1 : 1 ≤ a ∧ a ≤ 8
  · rw [show (decide (1 ≤ a) && decide (a ≤ 8)) = true by simp; omega]
    simp only [if_true]
    by_cases h2 : (l.length : Int) = a
    · have h3 : 0 ≤ a := by omega
      simp only [if_pos h2, if_pos h3]
      refine EvB.bind (l1All_f l 0 _ hl) ?_
      cases h4 : within 0 (wrap64 (shl .i64 1 a - 1)) l with
      | false => exact no (by simp [h4]) (hj a l)
      | true =>
        obtain ⟨n, ns, rfl, rfl, hs⟩ := (sets_iff a l).1 ⟨h1, h2, h4⟩
        refine EvB.step (fun k => by rw [spec_scGood.j0]) ?_
        simp only [Bool.not_true, Bool.false_eq_true, if_false, h2]
        refine (sgood_l0 hs).congr ⟨fun h => ⟨n, ns, rfl, rfl, (tour_iff hs).1 h⟩, ?_⟩
        rintro ⟨n', ns', e1, e2, h⟩
        obtain rfl : n = n' := by omega
        obtain rfl := ints_inj e2
        exact (tour_iff hs).2 h
    · simp only [if_neg h2]
      exact no (fun h => h2 h.2.1) (hj a l)
  · rw [show (decide (1 ≤ a) && decide (a ≤ 8)) = false by simp; omega]
    exact no (fun h => h1 h.1) (by simpa using hj a l)
end Go.Proofs.YtcheoendfcgjgaaDoor.K
namespace Go.Proofs.YtcheoendfcgjgaaDoor.K
open Go.RowKit Go.Proofs.YtcheoendfcgjgaaDoorW.PrintWords Go.Proofs.YtcheoendfcgjgaaDoor.P
theorem pop_ones : (List.range 256).all (fun a => bits_OnesCount.f (IntKind.u64.wrap (a : Int)) == some ((pop a : Nat) : Int)) = true := by decide +kernel
theorem onesCount_f (a : Nat) (h : a < 256) : bits_OnesCount.f (IntKind.u64.wrap (a : Int)) = some ((pop a : Nat) : Int) := beq_iff_eq.1 (List.all_eq_true.1 pop_ones a (List.mem_range.2 h))
theorem counts_l0 : ∀ (rest done : List Nat), (done ++ rest).length ≤ 1000 → (∀ x ∈ rest, x < 256) → Ev (fun k => impl_counts.l0 k (ints (done.map pop)) (ints (done ++ rest)) ((done ++ rest).length : Int) done.length) (ints ((done ++ rest).map pop)) := by
  intro rest
  induction rest with
  | nil => intro done h _; exact Ev.step (fun k => by rw [impl_counts.l0, if_neg (by simp)]) (Ev.some (by simp))
  | cons x rest ih =>
    intro done h hx
    have e : ints (done ++ x :: rest) = ints done ++ (x : Int) :: ints rest := by simp [ints]
    have hl : (ints done).length = done.length := ints_length _
    obtain ⟨h1, h2, h3, h4, h5⟩ := mid (x : Int) (ints done) (ints rest) (by simp [ints_length, BM] at h ⊢; omega)
    rw [← e, hl] at h3
    have ih' := ih (done ++ [x]) (by simpa using h) (fun y hy => hx y (by simp [hy]))
    rw [show done ++ [x] ++ rest = done ++ x :: rest by simp] at ih'
    have g1 : (done.length : Int) < ((done ++ x :: rest).length : Int) := by simp; omega
    refine Ev.step (fun k => ?_) ih'
    rw [impl_counts.l0, if_pos g1, if_pos (by omega), if_pos (by rw [ints_length]; exact g1), h3, onesCount_f x (hx x (by simp)), Option.bind_some, if_pos (by simp [ints_length] at h ⊢; omega), wrap_nat _ (by simp at h; omega)]
    simp [ints]
theorem counts_f (ns : List Nat) (h : ns.length ≤ 1000) (hx : ∀ x ∈ ns, x < 256) : Ev (fun k => impl_counts.f k (ints ns)) (ints (ns.map pop)) := by
  unfold impl_counts.f
  have := counts_l0 ns [] (by simpa using h) hx
  simpa [ints_length, ints] using this
end Go.Proofs.YtcheoendfcgjgaaDoor.K
namespace Go.Proofs.YtcheoendfcgjgaaDoor.K
open Go.RowKit Go.Proofs.YtcheoendfcgjgaaDoorW.PrintWords Go.Proofs.YtcheoendfcgjgaaDoorW.PrintMore Go.Proofs.YtcheoendfcgjgaaDoor.P
theorem newT_f (n : Nat) (h : n ≤ 8) : impl_newTournament.f (n : Int) = some ((n : Int), ints (List.replicate n 0)) := by
  unfold impl_newTournament.f
  rw [if_pos (by omega), if_pos (by omega)]
  simp [ints]
theorem mirT_impl {n : Nat} {ns : List Nat} (h : Sets n ns) : ∀ d j, j + d = n → Ev (fun k => impl_MirrorTournament.l0 k (ints ns) n j n (ints ns) n (ints (mirrorUpto n ns j ++ List.replicate d 0))) ((n : Int), ints (mirrorUpto n ns n), true) := by
  have hl := h.len
  have hn := h.n8
  intro d
  induction d with
  | zero =>
    intro j hj
    obtain rfl : j = n := by omega
    refine Ev.step (fun k => ?_) (Ev.some rfl)
    rw [impl_MirrorTournament.l0, if_neg (by omega)]; simp
  | succ d ih =>
    intro j hj
    refine Ev.step (fun k => ?_) (ih (j + 1) (by omega))
    rw [impl_MirrorTournament.l0, if_pos (by omega), if_pos (by omega), if_pos (by rw [ints_length]; omega), if_pos (by omega), if_pos (by simp [ints_length, mirrorUpto]; omega), rd_ints, flip_int h j (by omega), ints_set, wrap_nat j (by omega)]
    congr 2
    rw [show mirrorUpto n ns (j + 1) = mirrorUpto n ns j ++ [flipOf n ns j] by simp [mirrorUpto, List.range_succ]]
    have e : (mirrorUpto n ns j).length = j := by simp [mirrorUpto]
    rw [List.replicate_succ, List.set_append_right _ _ (by omega)]
    simp [e]
theorem mirT_spec {n : Nat} {ns : List Nat} (h : Sets n ns) : ∀ d j, j + d = n → Ev (fun k => spec_MirrorTournament.l0 k (ints ns) n j n (ints ns) n (ints (mirrorUpto n ns j))) ((n : Int), ints (mirrorUpto n ns n), true) := by
  have hl := h.len
  have hn := h.n8
  intro d
  induction d with
  | zero =>
    intro j hj
    obtain rfl : j = n := by omega
    refine Ev.step (fun k => ?_) (Ev.some rfl)
    rw [spec_MirrorTournament.l0, if_neg (by omega)]
  | succ d ih =>
    intro j hj
    refine Ev.step (fun k => ?_) (ih (j + 1) (by omega))
    have e : (mirrorUpto n ns j).length = j := by simp [mirrorUpto]
    rw [spec_MirrorTournament.l0, if_pos (by omega), if_pos (by omega), if_pos (by rw [ints_length]; omega), if_pos (by omega), if_pos (by rw [ints_length]; omega), rd_ints, flip_int h j (by omega), wrap_nat j (by omega)]
    congr 2
    rw [show mirrorUpto n ns (j + 1) = mirrorUpto n ns j ++ [flipOf n ns j] by simp [mirrorUpto, List.range_succ]]
    simp [ints]
theorem mirT_of {n : Nat} {ns : List Nat} (ht : Tour n ns) : Ev (fun k => spec_MirrorTournament.f k (n : Int) (ints ns)) ((n : Int), ints (mirrorUpto n ns n), true) ∧ Ev (fun k => impl_MirrorTournament.f k (n : Int) (ints ns)) ((n : Int), ints (mirrorUpto n ns n), true) := by
  have hs := ht.1.1
  have hlen := hs.len
  have hn := hs.n8
  have hB : (ints ns).length ≤ BM := by rw [ints_length]; simp only [BM]; omega
  have hT : IsTour (n : Int) (ints ns) := ⟨n, ns, rfl, rfl, ht⟩
  unfold spec_MirrorTournament.f impl_MirrorTournament.f
  refine ⟨Ev.bind ((scGood_f _ _ hB).1 hT) ?_, Ev.bind ((IsTournament_f _ _ hB).1 hT) ?_⟩
  · simp only [if_true, ints_length, hlen]
    exact mirT_spec hs n 0 (by omega)
  · simp only [if_true, ints_length, hlen, newT_f n hn, Option.bind_some]
    have := mirT_impl hs n 0 (by omega)
    simpa [mirrorUpto] using this
theorem mirT_no {a : Int} {l : List Int} (hl : l.length ≤ BM) (h : ¬ IsTour a l) : Ev (fun k => spec_MirrorTournament.f k a l) (0, [], false) ∧ Ev (fun k => impl_MirrorTournament.f k a l) (0, [], false) := by
  unfold spec_MirrorTournament.f impl_MirrorTournament.f
  refine ⟨Ev.bind ((scGood_f _ _ hl).2 h) ?_, Ev.bind ((IsTournament_f _ _ hl).2 h) ?_⟩
  · simp only [Bool.false_eq_true, if_false]; exact Ev.now _
  · simp only [Bool.false_eq_true, if_false]; exact Ev.now _
theorem mirror_tour {n : Nat} {ns : List Nat} (h : Tour n ns) : Tour n (mirrorUpto n ns n) := by
  refine ⟨⟨mirror_sets h.1.1, fun i hi => by rw [mirror_nb]; simp⟩, fun i hi j hj e => ?_⟩
  rw [mirror_nb, mirror_nb] at e
  have hne : ¬ j = i := by omega
  have hne2 : ¬ i = j := by omega
  simp only [hi, show j < n by omega, decide_true, Bool.true_and, hne, hne2, decide_false, Bool.not_false, Bool.and_true] at e
  exact h.2 i hi j hj (by
    cases c1 : nb ns i j <;> cases c2 : nb ns j i <;> simp [c1, c2] at e ⊢)
theorem scoresT_k {n : Nat} {ns : List Nat} (hT : Tour n ns) : Ev (fun k => impl_ScoresOf.f k (n : Int) (ints ns)) (ints (ns.map pop), true) := by
  have hs := hT.1.1
  have := hs.n8
  have := hs.len
  have hB : (ints ns).length ≤ BM := by rw [ints_length]; simp only [BM]; omega
  unfold impl_ScoresOf.f
  refine Ev.bind ((IsTournament_f _ _ hB).1 ⟨n, ns, rfl, rfl, hT⟩) ?_
  simp only [if_true]
  exact Ev.bind (counts_f ns (by omega) (fun x hx => Nat.lt_of_lt_of_le (hs.lt x hx) (pow8 hs.n8))) (Ev.now _)
end Go.Proofs.YtcheoendfcgjgaaDoor.K
namespace Go.Proofs.YtcheoendfcgjgaaDoor.K
open Go.RowKit Go.Proofs.YtcheoendfcgjgaaDoorW.PrintWords
theorem upLoop {α : Type} (g : Nat → Nat → Option α) (n : Nat) (hs : ∀ j, j < n → ∀ x, Ev (g (j + 1)) x → Ev (g j) x) : ∀ d j, j + d = n → ∀ x, Ev (g n) x → Ev (g j) x
  | 0, j, h, x, hx => by obtain rfl : j = n := by omega
                         exact hx
  | d + 1, j, h, x, hx => hs j (by omega) x (upLoop g n hs d (j + 1) (by omega) x hx)
end Go.Proofs.YtcheoendfcgjgaaDoor.K
namespace Go.Proofs.YtcheoendfcgjgaaDoor.K
open Go.RowKit Go.Proofs.YtcheoendfcgjgaaDoorW.PrintWords Go.Proofs.YtcheoendfcgjgaaDoorW.PrintMore Go.Proofs.YtcheoendfcgjgaaDoor.P
theorem or256 {a b : Nat} (ha : a < 256) (hb : b < 256) : a ||| b < 256 := Nat.or_lt_two_pow (n := 8) ha hb
def orS (ns : List Nat) (a j : Nat) : Nat := a ||| ns.getD j 0
theorem orS_lt {n : Nat} {ns : List Nat} (h : Sets n ns) : ∀ (L : List Nat) (a : Nat), a < 256 → L.foldl (orS ns) a < 256
  | [], a, ha => ha
  | j :: L, a, ha => orS_lt h L (orS ns a j) (or256 ha (h.b256 j))
def far (n : Nat) (ns : List Nat) (i : Nat) : Nat := (mem8 (ns.getD i 0)).foldl (orS ns) (ns.getD i 0 ||| 2 ^ i)
theorem start_lt {n : Nat} {ns : List Nat} (h : Sets n ns) (i : Nat) (hi : i < n) : ns.getD i 0 ||| 2 ^ i < 256 := by
  refine or256 (h.b256 i) ?_
  have := h.n8
  exact Nat.lt_of_lt_of_le (Nat.pow_lt_pow_right (by decide) (show i < 8 by omega)) (by decide)
theorem start_int {n : Nat} {ns : List Nat} (h : Sets n ns) (i : Nat) (hi : i < n) : Go.bits .or .i64 ((ns.getD i 0 : Nat) : Int) (shl .i64 1 (i : Int)) = ((ns.getD i 0 ||| 2 ^ i : Nat) : Int) := by
  have := h.n8
  rw [shl_one i (by omega), or_nat _ _ (h.get62 i) (Nat.pow_lt_pow_right (by decide) (by omega))]
theorem full_int {n : Nat} {ns : List Nat} (h : Sets n ns) : wrap64 (shl .i64 1 (n : Int) - 1) = ((2 ^ n - 1 : Nat) : Int) := by
  have hp := pow8 h.n8
  have hp0 := Nat.two_pow_pos n
  have := h.n8
  rw [shl_one n (by omega)]; unfold wrap64; omega
theorem or_int {n : Nat} {ns : List Nat} (h : Sets n ns) (a j : Nat) (ha : a < 256) : Go.bits .or .i64 (a : Int) ((ns.getD j 0 : Nat) : Int) = ((orS ns a j : Nat) : Int) := by
  rw [or_nat _ _ (Nat.lt_trans ha (by decide)) (h.get62 j)]; rfl
theorem kings_impl1 {n : Nat} {ns : List Nat} (h : Sets n ns) (i : Nat) (hi : i < n) (out : List Int) (x : List Int × Bool) (hx : Ev (fun k => impl_KingsOf.l1 k out (i : Int) ((far n ns i : Nat) : Int) (ints ns) n i (ints (mem8 (ns.getD i 0))) ((mem8 (ns.getD i 0)).length : Int) ((mem8 (ns.getD i 0)).length : Int) n (ints ns)) x) :
    Ev (fun k => impl_KingsOf.l1 k out (i : Int) ((ns.getD i 0 ||| 2 ^ i : Nat) : Int) (ints ns) n i (ints (mem8 (ns.getD i 0))) ((mem8 (ns.getD i 0)).length : Int) ((0 : Nat) : Int) n (ints ns)) x := by
  have hl := h.len
  have hn := h.n8
  have hm := mem8_len (ns.getD i 0)
  have hs := start_lt h i hi
  generalize hL : mem8 (ns.getD i 0) = L at *
  refine upLoop (fun p k => impl_KingsOf.l1 k out (i : Int) (((L.take p).foldl (orS ns) (ns.getD i 0 ||| 2 ^ i) : Nat) : Int) (ints ns) n i (ints L) (L.length : Int) (p : Int) n (ints ns)) L.length (fun p hp y hy => ?_) L.length 0 (by omega) x ?_
  · have hj : L.getD p 0 < n := by have := (mem8_mem h i (L.getD p 0)).1 (by rw [hL]; exact getD_mem hp); exact this.1
    have hlt := orS_lt h (L.take p) _ hs
    refine Ev.step (fun k => ?_) hy
    rw [impl_KingsOf.l1, if_pos (by omega), if_pos (by omega), if_pos (by rw [ints_length]; omega), rd_ints, if_pos (by omega), if_pos (by rw [ints_length]; omega), rd_ints, or_int h _ _ hlt, wrap_nat p (by omega)]
    rw [List.take_succ_eq_append_getElem hp, List.foldl_append]
    have e9 : L.getD p 0 = L[p] := by rw [List.getD_eq_getElem?_getD, List.getElem?_eq_getElem hp]; rfl
    rw [e9]
    rfl
  · (try dsimp only)
    rw [List.take_length]
    unfold far at hx
    rw [hL] at hx
    exact hx
theorem kings_spec1 {n : Nat} {ns : List Nat} (h : Sets n ns) (i : Nat) (hi : i < n) (out : List Int) (x : List Int × Bool) (hx : Ev (fun k => spec_KingsOf.l1 k out (i : Int) ((ns.getD i 0 : Nat) : Int) ((far n ns i : Nat) : Int) (ints ns) n i (ints ns) n (n : Int) n (ints ns)) x) :
    Ev (fun k => spec_KingsOf.l1 k out (i : Int) ((ns.getD i 0 : Nat) : Int) ((ns.getD i 0 ||| 2 ^ i : Nat) : Int) (ints ns) n i (ints ns) n ((0 : Nat) : Int) n (ints ns)) x := by
  have hl := h.len
  have hn := h.n8
  have hs := start_lt h i hi
  have hf : far n ns i = ((List.range n).filter (nb ns i)).foldl (orS ns) (ns.getD i 0 ||| 2 ^ i) := by
    have e : List.range 8 = List.range n ++ List.range' n (8 - n) := by
      rw [List.range_eq_range', List.range_eq_range', show List.range' n (8 - n) = List.range' (0 + n) (8 - n) by rw [Nat.zero_add], List.range'_append_1]; congr 1; omega
    have e2 : (List.range' n (8 - n)).filter (nb ns i) = [] := by
      rw [List.filter_eq_nil_iff]
      intro j hj
      have := (List.mem_range'_1.1 hj).1
      rw [h.nb_lt this]; simp
    unfold far mem8
    have e3 : (List.range 8).filter (fun j => (ns.getD i 0).testBit j) = (List.range n).filter (nb ns i) := by
      show (List.range 8).filter (nb ns i) = _
      rw [e, List.filter_append, e2, List.append_nil]
    rw [e3]
  rw [hf] at hx
  refine upLoop (fun j k => spec_KingsOf.l1 k out (i : Int) ((ns.getD i 0 : Nat) : Int) ((((List.range j).filter (nb ns i)).foldl (orS ns) (ns.getD i 0 ||| 2 ^ i) : Nat) : Int) (ints ns) n i (ints ns) n (j : Int) n (ints ns)) n (fun j hj y hy => ?_) n 0 (by omega) x hx
  have hlt := orS_lt h ((List.range j).filter (nb ns i)) _ hs
  refine Ev.step (fun k => ?_) hy
  rw [spec_KingsOf.l1, if_pos (by omega), if_pos (by omega), if_pos (by rw [ints_length]; omega), deHas_nb h i, Option.bind_some, rd_ints, or_int h _ _ hlt, wrap_nat j (by omega)]
  rw [List.range_succ, List.filter_append]
  cases hb : nb ns i j with
  | true => simp [hb, List.foldl_append, orS]
  | false => simp [hb]
def kingsUpto (n : Nat) (ns : List Nat) (i : Nat) : List Nat := (List.range i).filter fun j => decide (far n ns j = 2 ^ n - 1)
theorem kingsUpto_len (n : Nat) (ns : List Nat) (i : Nat) : (kingsUpto n ns i).length ≤ i := by
  have := List.length_filter_le (fun j => decide (far n ns j = 2 ^ n - 1)) (List.range i)
  simpa [kingsUpto] using this
theorem kings_next {n : Nat} {ns : List Nat} (i : Nat) (hn : n ≤ 8) (hi : i < n) (g : List Int → Nat → Option (List Int × Bool)) (x : List Int × Bool) (hx : Ev (g (ints (kingsUpto n ns (i + 1)))) x) :
    Ev (fun k => if ((far n ns i : Nat) : Int) = ((2 ^ n - 1 : Nat) : Int) then (if (ints (kingsUpto n ns i)).length < 17592186044416 then g (ints (kingsUpto n ns i) ++ [(i : Int)]) k else none) else g (ints (kingsUpto n ns i)) k) x := by
  have hlen := kingsUpto_len n ns i
  have e : kingsUpto n ns (i + 1) = if far n ns i = 2 ^ n - 1 then kingsUpto n ns i ++ [i] else kingsUpto n ns i := by
    unfold kingsUpto
    rw [List.range_succ, List.filter_append]
    by_cases e : far n ns i = 2 ^ n - 1 <;> simp [e]
  rw [e] at hx
  refine Ev.ite (fun h1 => ?_) (fun h1 => ?_)
  · rw [if_pos (by omega)] at hx
    refine Ev.ite (fun _ => ?_) (fun h2 => absurd (by rw [ints_length]; omega) h2)
    simpa [ints] using hx
  · rw [if_neg (by omega)] at hx
    exact hx
theorem kings_impl {n : Nat} {ns : List Nat} (h : Sets n ns) : Ev (fun k => impl_KingsOf.l0 k [] (ints ns) n ((0 : Nat) : Int) n (ints ns)) (ints (kingsUpto n ns n), true) := by
  have hl := h.len
  have hn := h.n8
  refine upLoop (fun i k => impl_KingsOf.l0 k (ints (kingsUpto n ns i)) (ints ns) n (i : Int) n (ints ns)) n (fun i hi y hy => ?_) n 0 (by omega) _ ?_
  · refine Ev.step (f := fun k => (impl_members.f k ((ns.getD i 0 : Nat) : Int)).bind fun t => impl_KingsOf.l1 k (ints (kingsUpto n ns i)) (i : Int) ((ns.getD i 0 ||| 2 ^ i : Nat) : Int) (ints ns) n i t (t.length : Int) ((0 : Nat) : Int) n (ints ns)) (fun k => ?_) (Ev.bind (members_f _ (h.b256 i)) ?_)
    · rw [impl_KingsOf.l0, if_pos (by omega), if_pos (by omega), if_pos (by rw [ints_length]; omega), rd_ints, start_int h i hi]
      rfl
    · simp only [ints_length]
      refine kings_impl1 h i hi _ _ (Ev.step (f := fun k => if ((far n ns i : Nat) : Int) = ((2 ^ n - 1 : Nat) : Int) then (if (ints (kingsUpto n ns i)).length < 17592186044416 then impl_KingsOf.l0 k (ints (kingsUpto n ns i) ++ [(i : Int)]) (ints ns) n ((i + 1 : Nat) : Int) n (ints ns) else none) else impl_KingsOf.l0 k (ints (kingsUpto n ns i)) (ints ns) n ((i + 1 : Nat) : Int) n (ints ns)) (fun k => ?_) (kings_next i hn hi (fun o k => impl_KingsOf.l0 k o (ints ns) n ((i + 1 : Nat) : Int) n (ints ns)) _ hy))
      rw [impl_KingsOf.l1, if_neg (by omega), if_pos (by omega), full_int h, wrap_nat i (by omega)]
  · refine Ev.step (fun k => ?_) (Ev.now _)
    rw [impl_KingsOf.l0, if_neg (by omega)]
theorem kings_spec {n : Nat} {ns : List Nat} (h : Sets n ns) : Ev (fun k => spec_KingsOf.l0 k [] (ints ns) n ((0 : Nat) : Int) n (ints ns)) (ints (kingsUpto n ns n), true) := by
  have hl := h.len
  have hn := h.n8
  refine upLoop (fun i k => spec_KingsOf.l0 k (ints (kingsUpto n ns i)) (ints ns) n (i : Int) n (ints ns)) n (fun i hi y hy => ?_) n 0 (by omega) _ ?_
  · refine Ev.step (fun k => ?_) (kings_spec1 h i hi (ints (kingsUpto n ns i)) y (Ev.step (f := fun k => if ((far n ns i : Nat) : Int) = ((2 ^ n - 1 : Nat) : Int) then (if (ints (kingsUpto n ns i)).length < 17592186044416 then spec_KingsOf.l0 k (ints (kingsUpto n ns i) ++ [(i : Int)]) (ints ns) n ((i + 1 : Nat) : Int) n (ints ns) else none) else spec_KingsOf.l0 k (ints (kingsUpto n ns i)) (ints ns) n ((i + 1 : Nat) : Int) n (ints ns)) (fun k => ?_) (kings_next i hn hi (fun o k => spec_KingsOf.l0 k o (ints ns) n ((i + 1 : Nat) : Int) n (ints ns)) _ hy)))
    · rw [spec_KingsOf.l0, if_pos (by omega), if_pos (by omega), if_pos (by rw [ints_length]; omega), rd_ints, start_int h i hi, ints_length, hl]
      rfl
    · rw [spec_KingsOf.l1, if_neg (by omega), if_pos (by omega), full_int h, wrap_nat i (by omega)]
  · refine Ev.step (fun k => ?_) (Ev.now _)
    rw [spec_KingsOf.l0, if_neg (by omega)]
end Go.Proofs.YtcheoendfcgjgaaDoor.K
namespace Go.Proofs.YtcheoendfcgjgaaDoor.M
def pathR (R : Nat → Nat → Bool) : List Nat → Prop
  | [] => True
  | [_] => True
  | x :: y :: l => R x y = true ∧ pathR R (y :: l)
theorem pathR.tail {R : Nat → Nat → Bool} {x : Nat} : ∀ {l : List Nat}, pathR R (x :: l) → pathR R l
  | [], _ => trivial
  | _ :: _, h => h.2
theorem pathR.cons {R : Nat → Nat → Bool} {x : Nat} : ∀ {l : List Nat}, pathR R l → (∀ y, l.head? = some y → R x y = true) → pathR R (x :: l)
  | [], _, _ => trivial
  | y :: _, h, hh => ⟨hh y rfl, h⟩
theorem pathR_append {R : Nat → Nat → Bool} : ∀ {a b : List Nat}, pathR R (a ++ b) ↔ pathR R a ∧ pathR R b ∧ (∀ x y, a.getLast? = some x → b.head? = some y → R x y = true)
  | [], b => by simp [pathR]
  | [x], [] => by simp [pathR]
  | [x], y :: b => by simp [pathR, And.comm]
  | x :: y :: a, b => by
    have ih := pathR_append (R := R) (a := y :: a) (b := b)
    have e : (x :: y :: a).getLast? = (y :: a).getLast? := by simp [List.getLast?_cons_cons]
    rw [e]
    simp only [List.cons_append, pathR] at ih ⊢
    rw [ih, and_assoc]
theorem pathR_get {R : Nat → Nat → Bool} : ∀ {l : List Nat}, pathR R l → ∀ k, k + 1 < l.length → R (l.getD k 0) (l.getD (k + 1) 0) = true
  | [], _, k, h => by simp at h
  | [_], _, k, h => by simp at h
  | x :: y :: l, h, 0, _ => h.1
  | x :: y :: l, h, k + 1, hk => by
    have := pathR_get h.2 k (by simp at hk ⊢; omega)
    simpa using this
section
variable {n : Nat} {R : Nat → Nat → Bool}
def insR (R : Nat → Nat → Bool) (v : Nat) : List Nat → List Nat
  | [] => [v]
  | x :: l => if R v x = true then v :: x :: l else x :: insR R v l
theorem insR_perm (v : Nat) : ∀ l, (insR R v l).Perm (v :: l)
  | [] => List.Perm.refl _
  | x :: l => by
    rw [insR]
    split
    · exact List.Perm.refl _
    · exact ((insR_perm v l).cons x).trans (List.Perm.swap v x l)
theorem Tou.beats (h : Tou n R) {i j : Nat} (hi : i < n) (hj : j < n) (hne : i ≠ j) (hb : ¬ R i j = true) : R j i = true := by
  have := (h i j hi hj).2 hne
  cases hR : R j i with
  | true => rfl
  | false => rw [hR] at this; exact absurd this hb
theorem insR_path (h : Tou n R) {v : Nat} (hv : v < n) : ∀ {l : List Nat}, pathR R l → (∀ x ∈ l, x < n ∧ x ≠ v) → pathR R (insR R v l) ∧ (∀ x, (insR R v l).head? = some x → x = v ∨ l.head? = some x)
  | [], _, _ => ⟨trivial, fun x hx => .inl (by simpa [insR] using hx.symm)⟩
  | y :: l, hp, hl => by
    obtain ⟨q1, q2⟩ := insR_path h hv hp.tail (fun x hx => hl x (List.mem_cons_of_mem _ hx))
    obtain ⟨y1, y2⟩ := hl y List.mem_cons_self
    rw [insR]
    split
    · rename_i c
      exact ⟨⟨c, hp⟩, fun x hx => .inl (by simpa using hx.symm)⟩
    · rename_i c
      refine ⟨q1.cons (fun z hz => ?_), fun x hx => .inr (by simpa using hx)⟩
      rcases q2 z hz with e | e
      · rw [e]; exact h.beats hv y1 (Ne.symm y2) c
      · cases l with
        | nil => simp at e
        | cons w l =>
          have : w = z := by simpa using e
          rw [← this]; exact hp.1
theorem redei (h : Tou n R) : ∀ m, m ≤ n → ∃ l : List Nat, l.Perm (List.range m) ∧ pathR R l
  | 0, _ => ⟨[], by simp, trivial⟩
  | m + 1, hm => by
    obtain ⟨l, h1, h2⟩ := redei h m (by omega)
    refine ⟨insR R m l, ?_, (insR_path h (by omega) h2 (fun x hx => by
      have := List.mem_range.1 (h1.mem_iff.1 hx)
      omega)).1⟩
    rw [List.range_succ]
    exact (insR_perm m l).trans ((h1.cons m).trans (List.perm_append_singleton m _).symm)
end
theorem sm_le {f g : Nat → Nat} : ∀ {n : Nat}, (∀ i, i < n → f i ≤ g i) → sm f n ≤ sm g n
  | 0, _ => Nat.le_refl _
  | n + 1, h => by
    have h1 := sm_le (f := f) (g := g) (n := n) (fun i hi => h i (by omega))
    have h2 := h n (by omega)
    rw [sm, sm]; omega
theorem sm_lt {f g : Nat → Nat} : ∀ {n : Nat}, (∀ i, i < n → f i ≤ g i) → ∀ u, u < n → f u < g u → sm f n < sm g n
  | 0, _, u, hu, _ => by omega
  | n + 1, h, u, hu, hl => by
    rw [sm, sm]
    have h2 := h n (by omega)
    by_cases e : u = n
    · subst e
      have h1 := sm_le (f := f) (g := g) (n := u) (fun i hi => h i (by omega))
      omega
    · have h1 := sm_lt (f := f) (g := g) (n := n) (fun i hi => h i (by omega)) u (by omega) hl
      omega
theorem tB_le {p q : Bool} (h : p = true → q = true) : tB p ≤ tB q := by
  cases p <;> cases q <;> simp [tB] at h ⊢
theorem most_of (p : Nat → Bool) (f : Nat → Nat) : ∀ n, (∃ v, v < n ∧ p v = true) → ∃ u, u < n ∧ p u = true ∧ ∀ v, v < n → p v = true → f v ≤ f u
  | 0, ⟨v, hv, _⟩ => by omega
  | n + 1, ⟨v, hv, hp⟩ => by
    by_cases c : ∃ v, v < n ∧ p v = true
    · obtain ⟨u, h1, h2, h3⟩ := most_of p f n c
      by_cases d : p n = true ∧ f u < f n
      · refine ⟨n, by omega, d.1, fun x hx hpx => ?_⟩
        by_cases e : x = n
        · subst e; exact Nat.le_refl _
        · have := h3 x (by omega) hpx; omega
      · refine ⟨u, by omega, h2, fun x hx hpx => ?_⟩
        by_cases e : x = n
        · subst e
          have : ¬ f u < f x := fun q => d ⟨hpx, q⟩
          omega
        · exact h3 x (by omega) hpx
    · have e : v = n := by
        by_cases e : v = n
        · exact e
        · exact absurd ⟨v, by omega, hp⟩ c
      subst e
      refine ⟨v, by omega, hp, fun x hx hpx => ?_⟩
      by_cases e : x = v
      · subst e; exact Nat.le_refl _
      · exact absurd ⟨x, by omega, hpx⟩ c
section
variable {n : Nat} {R : Nat → Nat → Bool}
def King (n : Nat) (R : Nat → Nat → Bool) (i : Nat) : Prop := i < n ∧ ∀ j, j < n → j ≠ i → R i j = true ∨ ∃ k, k < n ∧ R i k = true ∧ R k j = true
theorem king_among (h : Tou n R) (p : Nat → Bool) {u : Nat} (hu : u < n) (hp : p u = true) (hmax : ∀ v, v < n → p v = true → sm (fun w => tB (p w && R v w)) n ≤ sm (fun w => tB (p w && R u w)) n) :
    ∀ j, j < n → p j = true → j ≠ u → R u j = true ∨ ∃ k, k < n ∧ R u k = true ∧ R k j = true := by
  intro j hj hpj hne
  by_cases c : R u j = true
  · exact .inl c
  · by_cases d : ∃ k, k < n ∧ R u k = true ∧ R k j = true
    · exact .inr d
    · exfalso
      have hju := h.beats hu hj (Ne.symm hne) c
      have huu : R u u = false := (h u u hu hu).1 rfl
      have := sm_lt (f := fun w => tB (p w && R u w)) (g := fun w => tB (p w && R j w)) (n := n) (fun w hw => tB_le (fun q => by
        rw [Bool.and_eq_true] at q ⊢
        refine ⟨q.1, ?_⟩
        have hne2 : w ≠ j := fun e => c (e ▸ q.2)
        exact h.beats hw hj hne2 (fun q2 => d ⟨w, hw, q.2, q2⟩))) u hu (by simp [hp, huu, hju, tB])
      have := hmax j hj hpj
      omega
theorem king_most (h : Tou n R) {u : Nat} (hu : u < n) (hmax : ∀ v, v < n → sm (fun w => tB (R v w)) n ≤ sm (fun w => tB (R u w)) n) : King n R u :=
  ⟨hu, fun j hj hne => king_among h (fun _ => true) hu rfl (fun v hv _ => by simpa using hmax v hv) j hj rfl hne⟩
theorem king_above (h : Tou n R) {v : Nat} (hv : v < n) (hb : ∃ x, x < n ∧ R x v = true) : ∃ u, King n R u ∧ R u v = true := by
  obtain ⟨u, h1, h2, h3⟩ := most_of (fun x => R x v) (fun x => sm (fun w => tB (R w v && R x w)) n) n hb
  refine ⟨u, ⟨h1, fun j hj hne => ?_⟩, h2⟩
  by_cases c : R j v = true
  · exact king_among h (fun x => R x v) h1 h2 h3 j hj c hne
  · by_cases e : j = v
    · subst e; exact .inl h2
    · exact .inr ⟨v, hv, h2, h.beats hj hv e c⟩
theorem kings_ne_two (h : Tou n R) {a b : Nat} (hab : a ≠ b) (hk : ∀ i, King n R i ↔ i = a ∨ i = b) : False := by
  have ka := (hk a).2 (.inl rfl)
  have kb := (hk b).2 (.inr rfl)
  have key : ∀ x y, King n R x → King n R y → y ≠ x → ∃ z, z < n ∧ R z x = true := by
    intro x y kx ky hne
    rcases ky.2 x kx.1 (Ne.symm hne) with q | ⟨k, q1, q2, q3⟩
    · exact ⟨y, ky.1, q⟩
    · exact ⟨k, q1, q3⟩
  obtain ⟨u, u1, u2⟩ := king_above h ka.1 (key a b ka kb (Ne.symm hab))
  obtain ⟨v, v1, v2⟩ := king_above h kb.1 (key b a kb ka hab)
  have eu : u = b := by
    rcases (hk u).1 u1 with e | e
    · subst e; rw [(h u u ka.1 ka.1).1 rfl] at u2; cases u2
    · exact e
  have ev : v = a := by
    rcases (hk v).1 v1 with e | e
    · exact e
    · subst e; rw [(h v v kb.1 kb.1).1 rfl] at v2; cases v2
  subst eu ev
  have := (h u v kb.1 ka.1).2 (Ne.symm hab)
  rw [u2, v2] at this
  cases this
theorem king_exists (h : Tou n R) (hn : 0 < n) : ∃ u, King n R u := by
  obtain ⟨u, h1, _, h3⟩ := most_of (fun _ => true) (fun v => sm (fun w => tB (R v w)) n) n ⟨0, hn, rfl⟩
  exact ⟨u, king_most h h1 (fun v hv => h3 v hv rfl)⟩
end
end Go.Proofs.YtcheoendfcgjgaaDoor.M
namespace Go.Proofs.YtcheoendfcgjgaaDoor.K
open Go.RowKit Go.Proofs.YtcheoendfcgjgaaDoorW.PrintWords Go.Proofs.YtcheoendfcgjgaaDoorW.PrintMore Go.Proofs.YtcheoendfcgjgaaDoor.P
theorem orS_bit (ns : List Nat) (j : Nat) : ∀ (L : List Nat) (a : Nat), (L.foldl (orS ns) a).testBit j = (a.testBit j || L.any fun k => nb ns k j)
  | [], a => by simp
  | k :: L, a => by rw [List.foldl_cons, orS_bit ns j L, orS, Nat.testBit_or, List.any_cons, Bool.or_assoc]; rfl
theorem far_bit {n : Nat} {ns : List Nat} (i j : Nat) : (far n ns i).testBit j = ((nb ns i j || decide (i = j)) || (mem8 (ns.getD i 0)).any fun k => nb ns k j) := by
  unfold far
  rw [orS_bit, Nat.testBit_or, Nat.testBit_two_pow]
  rfl
theorem tou_of {n : Nat} {ns : List Nat} (h : Tour n ns) : M.Tou n (nb ns) := by
  intro i j hi hj
  refine ⟨fun e => by subst e; exact h.1.2 i hi, fun hne => ?_⟩
  have key : nb ns i j ≠ nb ns j i := by
    rcases Nat.lt_or_gt_of_ne hne with c | c
    · exact fun q => h.2 j hj i c q.symm
    · exact h.2 i hi j c
  cases e1 : nb ns i j <;> cases e2 : nb ns j i <;> simp [e1, e2] at key ⊢
theorem far_king {n : Nat} {ns : List Nat} (h : Sets n ns) (i : Nat) (hi : i < n) : far n ns i = 2 ^ n - 1 ↔ M.King n (nb ns) i := by
  constructor
  · intro e
    refine ⟨hi, fun j hj hne => ?_⟩
    have hb := far_bit (n := n) (ns := ns) i j
    rw [e, Nat.testBit_two_pow_sub_one, decide_eq_true hj] at hb
    have hne2 : decide (i = j) = false := decide_eq_false (Ne.symm hne)
    rw [hne2, Bool.or_false] at hb
    cases c : nb ns i j with
    | true => exact .inl rfl
    | false =>
      rw [c, Bool.false_or] at hb
      obtain ⟨k, hk, hkj⟩ := List.any_eq_true.1 hb.symm
      obtain ⟨k1, k2⟩ := (mem8_mem h i k).1 hk
      exact .inr ⟨k, k1, k2, hkj⟩
  · rintro ⟨_, hk⟩
    apply Nat.eq_of_testBit_eq
    intro j
    rw [far_bit, Nat.testBit_two_pow_sub_one]
    by_cases hj : j < n
    · rw [decide_eq_true hj]
      by_cases e : j = i
      · subst e; simp
      · rcases hk j hj e with c | ⟨k, k1, k2, k3⟩
        · simp [c]
        · have : ((mem8 (ns.getD i 0)).any fun k => nb ns k j) = true := List.any_eq_true.2 ⟨k, (mem8_mem h i k).2 ⟨k1, k2⟩, k3⟩
          rw [this, Bool.or_true]
    · rw [decide_eq_false hj, h.nb_lt (by omega), decide_eq_false (by omega)]
      have : ((mem8 (ns.getD i 0)).any fun k => nb ns k j) = false := by
        rw [List.any_eq_false]
        intro k _
        rw [h.nb_lt (by omega)]; simp
      rw [this]; rfl
theorem kings_mem {n : Nat} {ns : List Nat} (h : Sets n ns) (i : Nat) : i ∈ kingsUpto n ns n ↔ M.King n (nb ns) i := by
  unfold kingsUpto
  rw [List.mem_filter, List.mem_range, decide_eq_true_eq]
  constructor
  · rintro ⟨h1, h2⟩; exact (far_king h i h1).1 h2
  · intro hk; exact ⟨hk.1, (far_king h i hk.1).2 hk⟩
theorem kings_nodup (n : Nat) (ns : List Nat) : (kingsUpto n ns n).Nodup := List.Nodup.sublist List.filter_sublist List.nodup_range
theorem kings_not {n : Nat} {ns : List Nat} (h : Tour n ns) : (kingsUpto n ns n).length ≠ 0 ∧ (kingsUpto n ns n).length ≠ 2 := by
  have hS := h.1.1
  refine ⟨fun e => ?_, fun e => ?_⟩
  · obtain ⟨u, hu⟩ := M.king_exists (tou_of h) hS.n1
    have := (kings_mem hS u).2 hu
    rw [List.eq_nil_of_length_eq_zero e] at this
    cases this
  · have hN := kings_nodup n ns
    match hq : kingsUpto n ns n, e with
    | [a, b], _ =>
      rw [hq] at hN
      have hab : a ≠ b := by simpa using hN
      exact M.kings_ne_two (tou_of h) hab (fun i => by rw [← kings_mem hS i, hq]; simp)
end Go.Proofs.YtcheoendfcgjgaaDoor.K
namespace Go.Proofs.YtcheoendfcgjgaaDoor.K
open Go.RowKit Go.Proofs.YtcheoendfcgjgaaDoorW.PrintWords Go.Proofs.YtcheoendfcgjgaaDoor.P
theorem l1Has_l0 (x : Int) (t : Int) : ∀ (rest done : List Int), (done ++ rest).length ≤ BM → Ev (fun k => spec_l1Has.l0 k x (done ++ rest) ((done ++ rest).length : Int) (done.length : Int)) (rest.any fun y => decide (y = x)) := by
  intro rest
  induction rest with
  | nil => intro done h; exact Ev.step (fun k => by simp [spec_l1Has.l0]; rfl) (Ev.some (by simp))
  | cons y rest ih =>
    intro done h
    obtain ⟨q1, q2, q3, q4, q5⟩ := mid y done rest h
    have ih' := ih (done ++ [y]) (by rw [q5]; exact h)
    rw [q5] at ih'
    refine Ev.step (fun k => by rw [spec_l1Has.l0]) ?_
    simp only [if_pos q1, if_pos q2, q3, q4]
    by_cases e : y = x
    · simp only [if_pos e]; exact Ev.some (by simp [e])
    · simp only [if_neg e]; exact Ev.pair ih' (by simp [e])
theorem l1Has_f (l : List Int) (x : Int) (h : l.length ≤ BM) : Ev (fun k => spec_l1Has.f k l x) (l.any fun y => decide (y = x)) := l1Has_l0 x 0 l [] h
end Go.Proofs.YtcheoendfcgjgaaDoor.K
namespace Go.Proofs.YtcheoendfcgjgaaDoor.K
open Go.RowKit Go.Proofs.YtcheoendfcgjgaaDoorW.PrintWords Go.Proofs.YtcheoendfcgjgaaDoorW.PrintMore Go.Proofs.YtcheoendfcgjgaaDoor.P
def lastN (l : List Nat) : Nat := l.getD (l.length - 1) 0
def stepOk (ns : List Nat) (l : List Nat) (j : Nat) : Bool := !(l.any fun y => decide (y = j)) && (decide (l.length = 0) || nb ns (lastN l) j)
def firstNE (g : Nat → List Nat) : List Nat → List Nat
  | [] => []
  | j :: js => if 0 < (g j).length then g j else firstNE g js
def way (n : Nat) (ns : List Nat) (fin : List Nat → Bool) : Nat → List Nat → List Nat
  | 0, l => if fin l then l else []
  | d + 1, l => firstNE (fun j => if stepOk ns l j then way n ns fin d (l ++ [j]) else []) (List.range n)
theorem hasN (l : List Nat) (j : Nat) : ((ints l).any fun y => decide (y = (j : Int))) = l.any fun y => decide (y = j) := by
  induction l with
  | nil => rfl
  | cons x l ih =>
    have e : decide ((x : Int) = (j : Int)) = decide (x = j) := by rw [decide_eq_decide]; omega
    simp only [ints, List.map_cons, List.any_cons, e]
    rw [← ih]; rfl
def roundFin (ns : List Nat) (rnd : Bool) (l : List Nat) : Bool := !rnd || nb ns (lastN l) (l.getD 0 0)
theorem lastN_lt {n : Nat} {l : List Nat} (h : ∀ x ∈ l, x < n) (h0 : 0 < l.length) : lastN l < n := by
  unfold lastN
  have hp : l.length - 1 < l.length := by omega
  rw [List.getD_eq_getElem?_getD, List.getElem?_eq_getElem hp]
  exact h _ (List.getElem_mem hp)
theorem scWay_l0 {n : Nat} {ns : List Nat} (h : Sets n ns) (rnd : Bool) (d : Nat) (l : List Nat) (hd : l.length + (d + 1) = n) (hl : ∀ x ∈ l, x < n)
    (ih : ∀ j, j < n → Ev (fun k => spec_scWay.f k (n : Int) (ints ns) (ints (l ++ [j])) rnd) (ints (way n ns (roundFin ns rnd) d (l ++ [j])))) :
    ∀ m j, j + m = n → Ev (fun k => spec_scWay.l0 k (ints l) rnd (n : Int) (j : Int) (n : Int) (ints ns)) (ints (firstNE (fun j => if stepOk ns l j then way n ns (roundFin ns rnd) d (l ++ [j]) else []) (List.range' j m))) := by
  have hn := h.n8
  have hL := h.len
  intro m
  induction m with
  | zero =>
    intro j hj
    exact Ev.step (fun k => by rw [spec_scWay.l0, if_neg (by omega)]) (Ev.some (by simp [firstNE, ints]))
  | succ m ihm =>
    intro j hj
    have hjn : j < n := by omega
    have next := ihm (j + 1) (by omega)
    have hJ : ∀ b : Bool, Ev (fun k => spec_scWay.j1 k (ints l) rnd (j : Int) (n : Int) (j : Int) b (n : Int) (ints ns)) (ints (if b = true then firstNE (fun j => if stepOk ns l j then way n ns (roundFin ns rnd) d (l ++ [j]) else []) (List.range' (j + 1) m) else if 0 < (way n ns (roundFin ns rnd) d (l ++ [j])).length then way n ns (roundFin ns rnd) d (l ++ [j]) else firstNE (fun j => if stepOk ns l j then way n ns (roundFin ns rnd) d (l ++ [j]) else []) (List.range' (j + 1) m))) := by
      intro b
      refine Ev.step (fun k => by rw [spec_scWay.j1]) ?_
      cases b with
      | true => simp only [if_true]; rw [wrap_nat j (by omega)]; exact next
      | false =>
        have ho : spec_l1Own.f (ints l) = some (ints l) := by unfold spec_l1Own.f; rw [Option.bind_some, if_pos (by rw [ints_length]; simp; omega)]; rfl
        have hlen : (ints l).length + ([(j : Int)] : List Int).length < 17592186044416 := by rw [ints_length]; simp; omega
        simp only [Bool.false_eq_true, if_false, ho, Option.bind_some, if_pos hlen]
        rw [show ints l ++ [(j : Int)] = ints (l ++ [j]) by simp [ints]]
        refine Ev.bind (ih j hjn) ?_
        rw [ints_length]
        by_cases q : 0 < (way n ns (roundFin ns rnd) d (l ++ [j])).length
        · simp only [if_pos q, if_pos (show ((way n ns (roundFin ns rnd) d (l ++ [j])).length : Int) > 0 by omega)]; exact Ev.now _
        · simp only [if_neg q, if_neg (show ¬ ((way n ns (roundFin ns rnd) d (l ++ [j])).length : Int) > 0 by omega)]; rw [wrap_nat j (by omega)]; exact next
    have hcont := l1Has_f (ints l) (j : Int) (by rw [ints_length]; simp only [BM]; omega)
    rw [hasN] at hcont
    have hval : firstNE (fun j => if stepOk ns l j then way n ns (roundFin ns rnd) d (l ++ [j]) else []) (List.range' j (m + 1)) = if stepOk ns l j = true then (if 0 < (way n ns (roundFin ns rnd) d (l ++ [j])).length then way n ns (roundFin ns rnd) d (l ++ [j]) else firstNE (fun j => if stepOk ns l j then way n ns (roundFin ns rnd) d (l ++ [j]) else []) (List.range' (j + 1) m)) else firstNE (fun j => if stepOk ns l j then way n ns (roundFin ns rnd) d (l ++ [j]) else []) (List.range' (j + 1) m) := by
      rw [List.range'_succ]
      by_cases q : stepOk ns l j = true
      · simp [firstNE, q]
      · simp [firstNE, q]
    rw [hval]
    refine Ev.step (fun k => by rw [spec_scWay.l0, if_pos (by omega)]) ?_
    refine Ev.bind hcont ?_
    cases hc : l.any (fun y => decide (y = j)) with
    | true =>
      simp only [if_true]
      exact Ev.pair (hJ true) (by simp [stepOk, hc])
    | false =>
      simp only [Bool.false_eq_true, if_false]
      by_cases h0 : 0 < l.length
      · have h0' : ((ints l).length : Int) > 0 := by rw [ints_length]; omega
        have hw : wrap64 (((ints l).length : Int) - 1) = ((l.length - 1 : Nat) : Int) := by rw [ints_length, wrap_id (by omega) (by omega)]; omega
        have hlast := lastN_lt hl h0
        have e1 : rd (ints l) ((l.length - 1 : Nat) : Int) = ((lastN l : Nat) : Int) := by rw [rd_ints]; rfl
        simp only [if_pos h0', hw, if_pos (show (0 : Int) ≤ ((l.length - 1 : Nat) : Int) by omega), if_pos (show ((l.length - 1 : Nat) : Int) < ((ints l).length : Int) by rw [ints_length]; omega), e1, if_pos (show (0 : Int) ≤ ((lastN l : Nat) : Int) by omega), if_pos (show ((lastN l : Nat) : Int) < ((ints ns).length : Int) by rw [ints_length]; omega), rd_ints, deHas_nb h, Option.bind_some]
        refine Ev.pair (hJ _) ?_
        have hne : decide (l.length = 0) = false := decide_eq_false (by omega)
        simp only [stepOk, hc, hne]
        cases nb ns (lastN l) j <;> simp
      · have h0' : ¬ ((ints l).length : Int) > 0 := by rw [ints_length]; omega
        simp only [if_neg h0']
        have hne : decide (l.length = 0) = true := decide_eq_true (by omega)
        have e : stepOk ns l j = true := by unfold stepOk; rw [hc, hne]; rfl
        exact Ev.pair (hJ false) (by simp only [Bool.false_eq_true, if_false, if_pos e])
theorem scWay_f {n : Nat} {ns : List Nat} (h : Sets n ns) (rnd : Bool) : ∀ (d : Nat) (l : List Nat), l.length + d = n → (∀ x ∈ l, x < n) → Ev (fun k => spec_scWay.f k (n : Int) (ints ns) (ints l) rnd) (ints (way n ns (roundFin ns rnd) d l)) := by
  have hn := h.n8
  have hn1 := h.n1
  have hL := h.len
  intro d
  induction d with
  | zero =>
    intro l hd hl
    refine Ev.step (fun k => by rw [spec_scWay.f, if_pos (by rw [ints_length]; omega)]) ?_
    cases rnd with
    | false => simp [way, roundFin]; exact Ev.now _
    | true =>
      have h0 : 0 < l.length := by omega
      have hw : wrap64 (((ints l).length : Int) - 1) = ((l.length - 1 : Nat) : Int) := by rw [ints_length, wrap_id (by omega) (by omega)]; omega
      have hlast := lastN_lt hl h0
      have e1 : rd (ints l) ((l.length - 1 : Nat) : Int) = ((lastN l : Nat) : Int) := by rw [rd_ints]; rfl
      have e2 : rd (ints l) 0 = ((l.getD 0 0 : Nat) : Int) := rd_ints l 0
      simp only [if_true, hw, if_pos (show (0 : Int) ≤ ((l.length - 1 : Nat) : Int) by omega), if_pos (show ((l.length - 1 : Nat) : Int) < ((ints l).length : Int) by rw [ints_length]; omega), e1, if_pos (show (0 : Int) ≤ ((lastN l : Nat) : Int) by omega), if_pos (show ((lastN l : Nat) : Int) < ((ints ns).length : Int) by rw [ints_length]; omega), if_pos (show (0 : Int) < ((ints l).length : Int) by rw [ints_length]; omega), e2, rd_ints, deHas_nb h, Option.bind_some]
      have r : roundFin ns true l = nb ns (lastN l) (l.getD 0 0) := rfl
      unfold way
      rw [r]
      cases e : nb ns (lastN l) (l.getD 0 0) with
      | false => simp only [Bool.false_eq_true, if_false]; exact Ev.some (by simp [ints])
      | true => simp only [if_true]; exact Ev.now _
  | succ d ih =>
    intro l hd hl
    refine Ev.step (fun k => by rw [spec_scWay.f, if_neg (by rw [ints_length]; omega)]) ?_
    have := scWay_l0 h rnd d l hd hl (fun j hj => ih (l ++ [j]) (by simp; omega) (fun x hx => by
      rcases List.mem_append.1 hx with hx | hx
      · exact hl x hx
      · simp at hx; omega)) n 0 (by omega)
    rw [ints_length, hL]
    unfold way
    rw [List.range_eq_range']
    exact this
structure OkL (n : Nat) (ns : List Nat) (l : List Nat) : Prop where
  nodup : l.Nodup
  lt : ∀ x ∈ l, x < n
  path : M.pathR (nb ns) l
theorem lastN_eq {l : List Nat} {x : Nat} (h : l.getLast? = some x) : lastN l = x := by
  unfold lastN
  rw [List.getLast?_eq_getElem?] at h
  rw [List.getD_eq_getElem?_getD, h]
  rfl
theorem last_of {l : List Nat} (h : 0 < l.length) : l.getLast? = some (lastN l) := by
  cases hq : l.getLast? with
  | none => rw [List.getLast?_eq_none_iff] at hq; rw [hq] at h; simp at h
  | some x => rw [lastN_eq hq]
theorem stepOk_iff {n : Nat} {ns l : List Nat} {j : Nat} (hl : OkL n ns l) (hj : j < n) : stepOk ns l j = true ↔ OkL n ns (l ++ [j]) := by
  unfold stepOk
  rw [Bool.and_eq_true, Bool.or_eq_true, decide_eq_true_eq, Bool.not_eq_true', List.any_eq_false]
  constructor
  · rintro ⟨h1, h2⟩
    have hm : j ∉ l := fun h => h1 j h (by simp)
    refine ⟨?_, fun x hx => ?_, M.pathR_append.2 ⟨hl.path, trivial, fun x y hx hy => ?_⟩⟩
    · have hp : (l ++ [j]).Perm (j :: l) := List.perm_append_singleton j l
      exact hp.nodup_iff.2 (List.nodup_cons.2 ⟨hm, hl.nodup⟩)
    · rcases List.mem_append.1 hx with q | q
      · exact hl.lt x q
      · rw [List.mem_singleton.1 q]; exact hj
    · have e : j = y := by simpa using hy
      rw [← e]
      rcases h2 with h2 | h2
      · rw [List.eq_nil_of_length_eq_zero h2] at hx; simp at hx
      · rw [lastN_eq hx] at h2; exact h2
  · intro h
    have hp : (l ++ [j]).Perm (j :: l) := List.perm_append_singleton j l
    have hN := List.nodup_cons.1 (hp.nodup_iff.1 h.nodup)
    refine ⟨fun y hy e => hN.1 (by have : y = j := by simpa using e
                                   rw [← this]; exact hy), ?_⟩
    by_cases h0 : l.length = 0
    · exact .inl h0
    · exact .inr ((M.pathR_append.1 h.path).2.2 (lastN l) j (last_of (by omega)) rfl)
theorem firstNE_sound {g : Nat → List Nat} : ∀ {L : List Nat}, 0 < (firstNE g L).length → ∃ j ∈ L, 0 < (g j).length ∧ firstNE g L = g j
  | [], h => by simp [firstNE] at h
  | j :: L, h => by
    rw [firstNE] at h ⊢
    split at h
    · rename_i c
      rw [if_pos c]
      exact ⟨j, by simp, c, rfl⟩
    · rename_i c
      rw [if_neg c]
      obtain ⟨i, h1, h2, h3⟩ := firstNE_sound h
      exact ⟨i, List.mem_cons_of_mem _ h1, h2, h3⟩
theorem firstNE_some {g : Nat → List Nat} : ∀ {L : List Nat} {j : Nat}, j ∈ L → 0 < (g j).length → 0 < (firstNE g L).length
  | [], _, h, _ => by cases h
  | i :: L, j, h, hg => by
    rw [firstNE]
    split
    · rename_i c; exact c
    · rename_i c
      rcases List.mem_cons.1 h with rfl | q
      · exact absurd hg c
      · exact firstNE_some q hg
theorem way_sound {n : Nat} {ns : List Nat} (fin : List Nat → Bool) : ∀ d l, l.length + d = n → OkL n ns l → 0 < (way n ns fin d l).length → OkL n ns (way n ns fin d l) ∧ fin (way n ns fin d l) = true ∧ (way n ns fin d l).length = n ∧ ∃ t, way n ns fin d l = l ++ t
  | 0, l, hd, hl, h => by
    rw [way] at h ⊢
    split at h
    · rename_i c
      rw [if_pos c]
      exact ⟨hl, c, by omega, [], by simp⟩
    · simp at h
  | d + 1, l, hd, hl, h => by
    rw [way] at h ⊢
    obtain ⟨j, h1, h2, h3⟩ := firstNE_sound h
    rw [h3]
    by_cases c : stepOk ns l j = true
    · rw [if_pos c] at h2 ⊢
      obtain ⟨q1, q2, q3, t, q4⟩ := way_sound fin d (l ++ [j]) (by simp; omega) ((stepOk_iff hl (List.mem_range.1 h1)).1 c) h2
      exact ⟨q1, q2, q3, j :: t, by rw [q4]; simp⟩
    · rw [if_neg c] at h2
      simp at h2
theorem OkL.left {n : Nat} {ns a b : List Nat} (h : OkL n ns (a ++ b)) : OkL n ns a :=
  ⟨(List.nodup_append.1 h.nodup).1, fun x hx => h.lt x (List.mem_append_left _ hx), (M.pathR_append.1 h.path).1⟩
theorem way_complete {n : Nat} {ns : List Nat} (hn : 0 < n) (fin : List Nat → Bool) : ∀ (t l : List Nat), (l ++ t).length = n → OkL n ns (l ++ t) → fin (l ++ t) = true → 0 < (way n ns fin t.length l).length
  | [], l, hd, hl, hf => by
    rw [List.append_nil] at hd hf
    rw [List.length_nil, way, if_pos hf]
    omega
  | j :: t, l, hd, hl, hf => by
    have e : l ++ j :: t = (l ++ [j]) ++ t := by simp
    rw [e] at hd hl hf
    rw [List.length_cons, way]
    have hj : j < n := hl.lt j (by simp)
    refine firstNE_some (j := j) (List.mem_range.2 hj) ?_
    rw [if_pos ((stepOk_iff hl.left.left hj).2 hl.left)]
    exact way_complete hn fin t (l ++ [j]) hd hl hf
theorem index_l0 (x : Int) : ∀ (rest done : List Int), (done ++ rest).length ≤ BM → ∃ r : Int, Ev (fun k => slices_Index_int_int.l0 k (done ++ rest) x ((done ++ rest).length : Int) (done.length : Int)) r ∧ decide (r ≥ 0) = rest.any fun y => decide (y = x) := by
  intro rest
  induction rest with
  | nil => intro done h; exact ⟨-1, Ev.step (fun k => by rw [slices_Index_int_int.l0, if_neg (by simp)]) (Ev.now _), by simp⟩
  | cons y rest ih =>
    intro done h
    obtain ⟨q1, q2, q3, q4, q5⟩ := mid y done rest h
    obtain ⟨r, ih1, ih2⟩ := ih (done ++ [y]) (by rw [q5]; exact h)
    rw [q5] at ih1
    by_cases e : y = x
    · refine ⟨(done.length : Int), Ev.step (fun k => by rw [slices_Index_int_int.l0]) ?_, by simp [e]⟩
      simp only [if_pos q1, if_pos q2, q3, if_pos e.symm]
      exact Ev.now _
    · refine ⟨r, Ev.step (fun k => by rw [slices_Index_int_int.l0]) ?_, by rw [ih2]; simp [e]⟩
      simp only [if_pos q1, if_pos q2, q3, q4, if_neg (show ¬ x = y from fun z => e z.symm)]
      exact ih1
theorem contains_f (l : List Int) (x : Int) (h : l.length ≤ BM) : Ev (fun k => slices_Contains_int_int.f k l x) (l.any fun y => decide (y = x)) := by
  obtain ⟨r, h1, h2⟩ := index_l0 x l [] h
  unfold slices_Contains_int_int.f slices_Index_int_int.f
  exact Ev.bind h1 (Ev.some h2)
theorem firstList_l0 {n : Nat} {ns : List Nat} (h : Sets n ns) (e : Int → Option Bool) (fin : List Nat → Bool) (d : Nat) (l : List Nat) (hd : l.length + (d + 1) = n) (hl : ∀ x ∈ l, x < n)
    (ih : ∀ j, j < n → Ev (fun k => impl_firstList.f k (n : Int) (ints ns) (ints (l ++ [j])) e) (ints (way n ns fin d (l ++ [j])))) :
    ∀ m j, j + m = n → Ev (fun k => impl_firstList.l0 k (ints l) e (n : Int) (j : Int) (n : Int) (ints ns)) (ints (firstNE (fun j => if stepOk ns l j then way n ns fin d (l ++ [j]) else []) (List.range' j m))) := by
  have hn := h.n8
  have hL := h.len
  intro m
  induction m with
  | zero =>
    intro j hj
    exact Ev.step (fun k => by rw [impl_firstList.l0, if_neg (by omega)]) (Ev.some (by simp [firstNE, ints]))
  | succ m ihm =>
    intro j hj
    have hjn : j < n := by omega
    have next := ihm (j + 1) (by omega)
    have hJ : ∀ b : Bool, Ev (fun k => impl_firstList.j1 k (ints l) e (j : Int) (n : Int) (j : Int) b (n : Int) (ints ns)) (ints (if b = true then firstNE (fun j => if stepOk ns l j then way n ns fin d (l ++ [j]) else []) (List.range' (j + 1) m) else if 0 < (way n ns fin d (l ++ [j])).length then way n ns fin d (l ++ [j]) else firstNE (fun j => if stepOk ns l j then way n ns fin d (l ++ [j]) else []) (List.range' (j + 1) m))) := by
      intro b
      refine Ev.step (fun k => by rw [impl_firstList.j1]) ?_
      cases b with
      | true => simp only [if_true]; rw [wrap_nat j (by omega)]; exact next
      | false =>
        have ho : slices_Clone_int_int.f (ints l) = some (ints l) := by unfold slices_Clone_int_int.f; rw [if_pos (by rw [ints_length]; omega)]
        have hlen : (ints l).length + ([(j : Int)] : List Int).length < 17592186044416 := by rw [ints_length]; simp; omega
        simp only [Bool.false_eq_true, if_false, ho, Option.bind_some, if_pos hlen]
        rw [show ints l ++ [(j : Int)] = ints (l ++ [j]) by simp [ints]]
        refine Ev.bind (ih j hjn) ?_
        rw [ints_length]
        by_cases q : 0 < (way n ns fin d (l ++ [j])).length
        · simp only [if_pos q, if_pos (show ((way n ns fin d (l ++ [j])).length : Int) > 0 by omega)]; exact Ev.now _
        · simp only [if_neg q, if_neg (show ¬ ((way n ns fin d (l ++ [j])).length : Int) > 0 by omega)]; rw [wrap_nat j (by omega)]; exact next
    have hcont := contains_f (ints l) (j : Int) (by rw [ints_length]; simp only [BM]; omega)
    rw [hasN] at hcont
    have hval : firstNE (fun j => if stepOk ns l j then way n ns fin d (l ++ [j]) else []) (List.range' j (m + 1)) = if stepOk ns l j = true then (if 0 < (way n ns fin d (l ++ [j])).length then way n ns fin d (l ++ [j]) else firstNE (fun j => if stepOk ns l j then way n ns fin d (l ++ [j]) else []) (List.range' (j + 1) m)) else firstNE (fun j => if stepOk ns l j then way n ns fin d (l ++ [j]) else []) (List.range' (j + 1) m) := by
      rw [List.range'_succ]
      by_cases q : stepOk ns l j = true
      · simp [firstNE, q]
      · simp [firstNE, q]
    rw [hval]
    refine Ev.step (fun k => by rw [impl_firstList.l0, if_pos (by omega)]) ?_
    refine Ev.bind hcont ?_
    cases hc : l.any (fun y => decide (y = j)) with
    | true =>
      simp only [if_true]
      exact Ev.pair (hJ true) (by simp [stepOk, hc])
    | false =>
      simp only [Bool.false_eq_true, if_false]
      by_cases h0 : 0 < l.length
      · have h0' : ((ints l).length : Int) > 0 := by rw [ints_length]; omega
        have hw : wrap64 (((ints l).length : Int) - 1) = ((l.length - 1 : Nat) : Int) := by rw [ints_length, wrap_id (by omega) (by omega)]; omega
        have hlast := lastN_lt hl h0
        have e1 : rd (ints l) ((l.length - 1 : Nat) : Int) = ((lastN l : Nat) : Int) := by rw [rd_ints]; rfl
        simp only [if_pos h0', hw, if_pos (show (0 : Int) ≤ ((l.length - 1 : Nat) : Int) by omega), if_pos (show ((l.length - 1 : Nat) : Int) < ((ints l).length : Int) by rw [ints_length]; omega), e1, if_pos (show (0 : Int) ≤ ((lastN l : Nat) : Int) by omega), if_pos (show ((lastN l : Nat) : Int) < ((ints ns).length : Int) by rw [ints_length]; omega), rd_ints, has_nb h, Option.bind_some]
        refine Ev.pair (hJ _) ?_
        have hne : decide (l.length = 0) = false := decide_eq_false (by omega)
        simp only [stepOk, hc, hne]
        cases nb ns (lastN l) j <;> simp
      · have h0' : ¬ ((ints l).length : Int) > 0 := by rw [ints_length]; omega
        simp only [if_neg h0']
        have hne : decide (l.length = 0) = true := decide_eq_true (by omega)
        have e : stepOk ns l j = true := by unfold stepOk; rw [hc, hne]; rfl
        exact Ev.pair (hJ false) (by simp only [Bool.false_eq_true, if_false, if_pos e])
theorem firstList_f {n : Nat} {ns : List Nat} (h : Sets n ns) (e : Int → Option Bool) (fin : List Nat → Bool) (he : ∀ l : List Nat, l.length = n → (∀ x ∈ l, x < n) → (∃ t, l = t) → (0 < l.length) → e ((lastN l : Nat) : Int) = some (fin l)) : ∀ (d : Nat) (l : List Nat), l.length + d = n → (∀ x ∈ l, x < n) → Ev (fun k => impl_firstList.f k (n : Int) (ints ns) (ints l) e) (ints (way n ns fin d l)) := by
  have hn := h.n8
  have hn1 := h.n1
  have hL := h.len
  intro d
  induction d with
  | zero =>
    intro l hd hl
    refine Ev.step (fun k => by rw [impl_firstList.f, if_pos (by rw [ints_length]; omega)]) ?_
    have h0 : 0 < l.length := by omega
    have hw : wrap64 (((ints l).length : Int) - 1) = ((l.length - 1 : Nat) : Int) := by rw [ints_length, wrap_id (by omega) (by omega)]; omega
    have e1 : rd (ints l) ((l.length - 1 : Nat) : Int) = ((lastN l : Nat) : Int) := by rw [rd_ints]; rfl
    simp only [hw, if_pos (show (0 : Int) ≤ ((l.length - 1 : Nat) : Int) by omega), if_pos (show ((l.length - 1 : Nat) : Int) < ((ints l).length : Int) by rw [ints_length]; omega), e1, he l (by omega) hl ⟨l, rfl⟩ h0, Option.bind_some]
    unfold way
    cases e2 : fin l with
    | false => simp only [Bool.false_eq_true, if_false]; exact Ev.some (by simp [ints])
    | true => simp only [if_true]; exact Ev.now _
  | succ d ih =>
    intro l hd hl
    refine Ev.step (fun k => by rw [impl_firstList.f, if_neg (by rw [ints_length]; omega)]) ?_
    have := firstList_l0 h e fin d l hd hl (fun j hj => ih (l ++ [j]) (by simp; omega) (fun x hx => by
      rcases List.mem_append.1 hx with hx | hx
      · exact hl x hx
      · simp at hx; omega)) n 0 (by omega)
    unfold way
    rw [List.range_eq_range']
    exact this
def Bytes (code : List Int) : Prop := code.length ≤ 1048576 ∧ ∀ x ∈ code, 0 ≤ x ∧ x ≤ 255
theorem bytes_of {l : List Int} (hl : l.length ≤ 1048576) (h : ∀ x ∈ l, (Lit.int .u8 x).wf = true) : Bytes l := by
  refine ⟨hl, fun x hx => ?_⟩
  have := h x hx
  simp [Lit.wf, IntKind.min, IntKind.max, IntKind.signed, IntKind.bits] at this
  omega
theorem and255 (x : Int) : 0 ≤ Go.bits .and .u64 x 255 ∧ Go.bits .and .u64 x 255 ≤ 255 := by
  have h : (BitVec.ofInt 64 x &&& BitVec.ofInt 64 255).toNat ≤ 255 := by
    rw [BitVec.toNat_and]
    exact Nat.le_trans Nat.and_le_right (by decide)
  have key : Go.bits .and .u64 x 255 = IntKind.u64.wrap ((BitVec.ofInt 64 x &&& BitVec.ofInt 64 255).toNat : Int) := rfl
  rw [key]
  generalize (BitVec.ofInt 64 x &&& BitVec.ofInt 64 255).toNat = n at *
  simp only [IntKind.wrap, IntKind.bits, IntKind.signed]
  simp
  omega
theorem rd_byte {code : List Int} (hc : Bytes code) (i : Int) : 0 ≤ rd code i ∧ rd code i ≤ 255 := by
  unfold rd
  rw [List.getD_eq_getElem?_getD]
  cases h : code[i.toNat]? with
  | none => simp
  | some x =>
    have := List.mem_of_getElem? h
    exact hc.2 x this
section
variable {code : List Int}
theorem next_ok (hc : Bytes code) (a s : Int) (h0 : 0 ≤ a) (h1 : a ≤ 2305843009213693952) : ∃ x s', spec_l1Cur_next.f code a s = some (x, a + 1, s') ∧ 0 ≤ x ∧ x ≤ 255 := by
  have hw : wrap64 (a + 1) = a + 1 := wrap_id (by omega) (by omega)
  have hi : ∀ y, wrap64 (Go.bits .and .u64 y 255) = Go.bits .and .u64 y 255 := fun y => by have := and255 y; exact wrap_id (by omega) (by omega)
  have hr := rd_byte hc a
  have hq : wrap64 (rd code a) = rd code a := wrap_id (by omega) (by omega)
  unfold spec_l1Cur_next.f
  simp only [hw, hi, hq, if_pos h0]
  split
  · split
    · exact ⟨_, _, rfl, hr⟩
    · exact ⟨_, _, rfl, and255 _⟩
  · split
    · exact ⟨_, _, rfl, by omega, by omega⟩
    · exact ⟨_, _, rfl, and255 _⟩
theorem pick_ok (hc : Bytes code) (a s n : Int) (h0 : 0 ≤ a) (h1 : a ≤ 1152921504606846976) (hn : n ≤ 1099511627776) : ∃ x a' s', spec_l1Cur_pick.f code a s n = some (x, a', s') ∧ 0 ≤ x ∧ (1 ≤ n → x < n) ∧ (n ≤ 1 → x = 0) ∧ a ≤ a' ∧ a' ≤ a + 2 := by
  unfold spec_l1Cur_pick.f
  by_cases e : n ≤ 1
  · rw [if_pos e]; exact ⟨_, _, _, rfl, by omega, by omega, fun _ => rfl, by omega, by omega⟩
  · rw [if_neg e]
    obtain ⟨x, s1, e1, x0, x1⟩ := next_ok hc a s h0 (by omega)
    rw [e1, Option.bind_some]
    have hz : ¬ n = 0 := by omega
    by_cases e2 : n > 200
    · rw [if_pos e2]
      obtain ⟨y, s2, e3, y0, y1⟩ := next_ok hc (a + 1) s1 (by omega) (by omega)
      simp only [e3, Option.bind_some, if_neg hz]
      have hw : wrap64 (wrap64 (x * 256) + y) = x * 256 + y := by
        rw [show wrap64 (x * 256) = x * 256 from wrap_id (by omega) (by omega)]; exact wrap_id (by omega) (by omega)
      rw [hw]
      have t0 := Int.tmod_nonneg n (show (0 : Int) ≤ x * 256 + y by omega)
      have t1 := Int.tmod_lt_of_pos (x * 256 + y) (show (0 : Int) < n by omega)
      exact ⟨_, _, _, rfl, t0, fun _ => t1, by omega, by omega, by omega⟩
    · rw [if_neg e2]
      simp only [if_neg hz]
      have t0 := Int.tmod_nonneg n x0
      have t1 := Int.tmod_lt_of_pos x (show (0 : Int) < n by omega)
      exact ⟨_, _, _, rfl, t0, fun _ => t1, by omega, by omega, by omega⟩
theorem one_ok (hc : Bytes code) (a s n : Int) (h0 : 0 ≤ a) (h1 : a ≤ 1152921504606846976) (hn : n ≤ 1099511627776) : ∃ x a' s', spec_l1Cur_one.f code a s n = some (x, a', s') ∧ a ≤ a' ∧ a' ≤ a + 2 := by
  unfold spec_l1Cur_one.f
  obtain ⟨x, a', s', e, -, -, -, h2, h3⟩ := pick_ok hc a s n h0 h1 hn
  rw [e]
  exact ⟨_, _, _, rfl, h2, h3⟩
end
section
variable {code : List Int}
theorem among_ok (hc : Bytes code) (a s : Int) (l : List Int) (hl : 1 ≤ l.length) (hl2 : l.length ≤ 1000) (h0 : 0 ≤ a) (h1 : a ≤ 1152921504606846976) : ∃ x a' s', spec_l1Cur_among.f code a s l = some (x, a', s') ∧ x ∈ l ∧ a ≤ a' ∧ a' ≤ a + 2 := by
  obtain ⟨x, a', s', e, x0, x1, -, a0, a2⟩ := pick_ok hc a s (l.length : Int) h0 h1 (by omega)
  have := x1 (by omega)
  obtain ⟨i, rfl⟩ := Int.eq_ofNat_of_zero_le x0
  have hi : i < l.length := by omega
  refine ⟨rd l (i : Int), a', s', ?_, ?_, a0, a2⟩
  · unfold spec_l1Cur_among.f
    rw [e, Option.bind_some, if_pos x0, if_pos this]
  · rw [rd, Int.toNat_natCast, List.getD_eq_getElem?_getD, List.getElem?_eq_getElem hi]
    exact List.getElem_mem hi
end
section
variable {code : List Int}
theorem dtour_l1 (hc : Bytes code) (n : Nat) (hn : n ≤ 8) (od sz : Int) (hod : od ≤ 1000) (i : Nat) (hi : i < n) : ∀ (d j : Nat) (b : List Int) (a s : Int), j + d = n → b.length = n → 0 ≤ a → a + 2 * d ≤ 1152921504606846976 →
    ∃ b' a' s', b'.length = n ∧ 0 ≤ a' ∧ a' ≤ a + 2 * d ∧ ∀ y, Ev (fun k => spec_l1Cur_tournament.l0 k n od ((i + 1 : Nat) : Int) code a' s' sz b') y → Ev (fun k => spec_l1Cur_tournament.l1 k n od (i : Int) (j : Int) code a s sz b) y := by
  intro d
  induction d with
  | zero =>
    intro j b a s hj hb h0 h1
    refine ⟨b, a, s, hb, h0, by omega, fun y hy => Ev.step (fun k => by rw [spec_l1Cur_tournament.l1]) ?_⟩
    have p1 : ¬ (j : Int) < (n : Int) := by omega
    simp only [if_neg p1, wrap_nat i (show i < 9223372036854775807 by omega)]
    exact hy
  | succ d ih =>
    intro j b a s hj hb h0 h1
    obtain ⟨x, a1, s1, e, a0, a2⟩ := one_ok hc a s od h0 (by omega) (by omega)
    cases x with
    | true =>
      obtain ⟨b', a', s', q1, q2, q3, q4⟩ := ih (j + 1) (b.set (j : Int).toNat (Go.bits .or .i64 (rd b (j : Int)) (shl .i64 1 (i : Int)))) a1 s1 (by omega) (by rw [List.length_set]; exact hb) (by omega) (by omega)
      refine ⟨b', a', s', q1, q2, by omega, fun y hy => Ev.step (fun k => by rw [spec_l1Cur_tournament.l1]) ?_⟩
      have p1 : (j : Int) < (n : Int) := by omega
      have p2 : (0 : Int) ≤ (j : Int) := by omega
      have p3 : (j : Int) < (b.length : Int) := by omega
      have p4 : (0 : Int) ≤ (i : Int) := by omega
      simp only [if_pos p1, e, Option.bind_some, if_true, if_pos p2, if_pos p3, if_pos p4, wrap_nat j (show j < 9223372036854775807 by omega)]
      exact q4 y hy
    | false =>
      obtain ⟨b', a', s', q1, q2, q3, q4⟩ := ih (j + 1) (b.set (i : Int).toNat (Go.bits .or .i64 (rd b (i : Int)) (shl .i64 1 (j : Int)))) a1 s1 (by omega) (by rw [List.length_set]; exact hb) (by omega) (by omega)
      refine ⟨b', a', s', q1, q2, by omega, fun y hy => Ev.step (fun k => by rw [spec_l1Cur_tournament.l1]) ?_⟩
      have p1 : (j : Int) < (n : Int) := by omega
      have p2 : (0 : Int) ≤ (j : Int) := by omega
      have p3 : (i : Int) < (b.length : Int) := by omega
      have p4 : (0 : Int) ≤ (i : Int) := by omega
      simp only [if_pos p1, e, Option.bind_some, Bool.false_eq_true, if_false, if_pos p2, if_pos p3, if_pos p4, wrap_nat j (show j < 9223372036854775807 by omega)]
      exact q4 y hy
theorem dtour_end (hc : Bytes code) (n : Nat) (h1n : 1 ≤ n) (hn : n ≤ 8) (od sz : Int) (b : List Int) (a s : Int) (hb : b.length = n) (h0 : 0 ≤ a) (h1 : a ≤ 1152921504606846000) :
    ∃ sz' b' a' s', Ev (fun k => spec_l1Cur_tournament.l0 k n od (n : Int) code a s sz b) (sz', b', a', s') ∧ b'.length = n ∧ 0 ≤ a' ∧ a' ≤ a + 6 := by
  obtain ⟨x, a1, s1, e, x0, x1, -, a0, a2⟩ := pick_ok hc a s 24 h0 (by omega) (by omega)
  have nn : ¬ (n : Int) < (n : Int) := by omega
  by_cases e1 : x = 0
  · obtain ⟨y, a3, s3, f, y0, y1, -, b0, b2⟩ := pick_ok hc a1 s1 (n : Int) (by omega) (by omega) (by omega)
    obtain ⟨z, a4, s4, g, -, c0, c2⟩ := among_ok hc a3 s3 [(-1), 0, 1, 2, shl .i64 1 (n : Int)] (by simp) (by simp) (by omega) (by omega)
    have := y1 (by omega)
    refine ⟨sz, b.set y.toNat z, a4, s4, Ev.step (fun k => by rw [spec_l1Cur_tournament.l0]) ?_, by rw [List.length_set]; exact hb, by omega, by omega⟩
    simp only [if_neg nn, e, Option.bind_some, if_pos e1, f, if_pos (show (0 : Int) ≤ (n : Int) by omega), g, if_pos y0, if_pos (show y < (b.length : Int) by omega)]
    exact Ev.now _
  · by_cases e2 : x = 1
    · obtain ⟨z, a4, s4, g, -, c0, c2⟩ := among_ok hc a1 s1 [0, (-1), wrap64 ((n : Int) + 1), 9] (by simp) (by simp) (by omega) (by omega)
      refine ⟨z, b, a4, s4, Ev.step (fun k => by rw [spec_l1Cur_tournament.l0]) ?_, hb, by omega, by omega⟩
      simp only [if_neg nn, e, Option.bind_some, if_neg e1, if_pos e2, g]
      exact Ev.now _
    · refine ⟨sz, b, a1, s1, Ev.step (fun k => by rw [spec_l1Cur_tournament.l0]) ?_, hb, by omega, by omega⟩
      simp only [if_neg nn, e, Option.bind_some, if_neg e1, if_neg e2]
      exact Ev.now _
theorem dtour_l0 (hc : Bytes code) (n : Nat) (h1n : 1 ≤ n) (hn : n ≤ 8) (od sz : Int) (hod : od ≤ 1000) : ∀ (d i : Nat) (b : List Int) (a s : Int), i + d = n → b.length = n → 0 ≤ a → a + 16 * d ≤ 1152921504606846000 →
    ∃ sz' b' a' s', Ev (fun k => spec_l1Cur_tournament.l0 k n od (i : Int) code a s sz b) (sz', b', a', s') ∧ b'.length = n ∧ 0 ≤ a' ∧ a' ≤ a + 16 * d + 6 := by
  intro d
  induction d with
  | zero =>
    intro i b a s hi hb h0 h1
    obtain rfl : i = n := by omega
    obtain ⟨sz', b', a', s', q1, q2, q3, q4⟩ := dtour_end hc i h1n hn od sz b a s hb h0 (by omega)
    exact ⟨sz', b', a', s', q1, q2, q3, by omega⟩
  | succ d ih =>
    intro i b a s hi hb h0 h1
    obtain ⟨b1, a1, s1, q1, q2, q3, q4⟩ := dtour_l1 hc n hn od sz hod i (by omega) (n - (i + 1)) (i + 1) b a s (by omega) hb h0 (by omega)
    obtain ⟨sz', b', a', s', r1, r2, r3, r4⟩ := ih (i + 1) b1 a1 s1 (by omega) q1 q2 (by omega)
    refine ⟨sz', b', a', s', Ev.step (fun k => by rw [spec_l1Cur_tournament.l0]) ?_, r2, r3, by omega⟩
    have p1 : (i : Int) < (n : Int) := by omega
    simp only [if_pos p1, wrap_nat i (show i < 9223372036854775807 by omega)]
    exact q4 _ r1
theorem dtour_ok (hc : Bytes code) (a s : Int) (most : Nat) (hm : 1 ≤ most) (hm8 : most ≤ 8) (h0 : 0 ≤ a) (h1 : a ≤ 1048576) :
    ∃ sz b a' s', Ev (fun k => spec_l1Cur_tournament.f k code a s (most : Int)) (sz, b, a', s') ∧ 1 ≤ b.length ∧ b.length ≤ 8 ∧ 0 ≤ a' ∧ a' ≤ a + 200 := by
  obtain ⟨x, a1, s1, e, x0, x1, x2, a0, a2⟩ := pick_ok hc a s (most : Int) h0 (by omega) (by omega)
  have hx : x < 8 := by
    by_cases c : 1 ≤ (most : Int)
    · have := x1 c; omega
    · have := x2 (by omega); omega
  obtain ⟨m, rfl⟩ := Int.eq_ofNat_of_zero_le x0
  have hw : wrap64 (1 + (m : Int)) = ((m + 1 : Nat) : Int) := by rw [wrap_id (by omega) (by omega)]; omega
  obtain ⟨od, a3, s3, f, fm, b0, b2⟩ := among_ok hc a1 s1 [2, 2, 4] (by simp) (by simp) (by omega) (by omega)
  have hod : od ≤ 1000 := by simp at fm; omega
  obtain ⟨sz', b', a', s', q1, q2, q3, q4⟩ := dtour_l0 hc (m + 1) (by omega) (by omega) od ((m + 1 : Nat) : Int) hod (m + 1) 0 (List.replicate (m + 1) 0) a3 s3 (by omega) (by simp) (by omega) (by omega)
  refine ⟨sz', b', a', s', ?_, by omega, by omega, q3, by omega⟩
  have e0 : ((0 : Nat) : Int) = 0 := by simp
  rw [e0] at q1
  have e1 : (((m + 1 : Nat) : Int)).toNat = m + 1 := by simp
  have p1 : (0 : Int) ≤ ((m + 1 : Nat) : Int) := by omega
  have p3 : (((m + 1 : Nat) : Int)).toNat ≤ 35184372088832 := by rw [e1]; omega
  have key : ∀ k, spec_l1Cur_tournament.f k code a s (most : Int) = spec_l1Cur_tournament.l0 k ((m + 1 : Nat) : Int) od 0 code a3 s3 ((m + 1 : Nat) : Int) (List.replicate (m + 1) 0) := fun k => by
    unfold spec_l1Cur_tournament.f
    rw [e, Option.bind_some, hw, if_pos p1, if_pos p3, f, Option.bind_some, e1]
  rw [show (fun k => spec_l1Cur_tournament.f k code a s (most : Int)) = fun k => spec_l1Cur_tournament.l0 k ((m + 1 : Nat) : Int) od 0 code a3 s3 ((m + 1 : Nat) : Int) (List.replicate (m + 1) 0) from funext key]
  exact q1
end
theorem ySame_l0 (l : List Int) (h : l.length ≤ BM) : ∀ d i : Nat, i + d = l.length → Ev (fun k => laws_ySame.l0 k l l (l.length : Int) (i : Int)) true := by
  intro d
  induction d with
  | zero =>
    intro i hi
    refine Ev.step (fun k => by rw [laws_ySame.l0]) ?_
    have p1 : ¬ (i : Int) < (l.length : Int) := by omega
    simp only [if_neg p1]
    exact Ev.now _
  | succ d ih =>
    intro i hi
    refine Ev.step (fun k => by rw [laws_ySame.l0]) ?_
    have p1 : (i : Int) < (l.length : Int) := by omega
    have p2 : (0 : Int) ≤ (i : Int) := by omega
    simp only [BM] at h
    simp only [if_pos p1, if_pos p2, if_true, wrap_nat i (show i < 9223372036854775807 by omega)]
    exact ih (i + 1) (by omega)
theorem ySame_same (l : List Int) (h : l.length ≤ BM) : Ev (fun k => laws_ySame.f k l l) true := by
  unfold laws_ySame.f
  simp only [if_true]
  exact ySame_l0 l h l.length 0 (by omega)
theorem yIn_f (a i : Nat) (h : a < 2 ^ 62) : laws_yIn.f (a : Int) (i : Int) = some (a.testBit i) := deHas_f a i h
theorem yIn_nb {n : Nat} {ns : List Nat} (h : Sets n ns) (i j : Nat) : laws_yIn.f ((ns.getD i 0 : Nat) : Int) (j : Int) = some (nb ns i j) := yIn_f _ _ (h.get62 i)
theorem yHas_l0 (l : List Nat) (x : Nat) (h : l.length ≤ BM) : ∀ d i : Nat, i + d = l.length → Ev (fun k => laws_yHas.l0 k (x : Int) (ints l) ((ints l).length : Int) (i : Int)) ((l.drop i).any fun y => decide (y = x)) := by
  intro d
  have hl := ints_length l
  simp only [BM] at h
  induction d with
  | zero =>
    intro i hi
    refine Ev.step (fun k => by rw [laws_yHas.l0]) ?_
    have p1 : ¬ (i : Int) < ((ints l).length : Int) := by omega
    have e : l.drop i = [] := List.drop_eq_nil_of_le (by omega)
    simp only [if_neg p1, e]
    exact Ev.now _
  | succ d ih =>
    intro i hi
    have hil : i < l.length := by omega
    have e : l.drop i = l.getD i 0 :: l.drop (i + 1) := by rw [List.drop_eq_getElem_cons hil, List.getD_eq_getElem?_getD, List.getElem?_eq_getElem hil]; rfl
    refine Ev.step (fun k => by rw [laws_yHas.l0]) ?_
    have p1 : (i : Int) < ((ints l).length : Int) := by omega
    have p2 : (0 : Int) ≤ (i : Int) := by omega
    simp only [if_pos p1, if_pos p2, rd_ints]
    rw [e, List.any_cons]
    by_cases c : l.getD i 0 = x
    · have c2 : ((l.getD i 0 : Nat) : Int) = (x : Int) := by omega
      simp only [if_pos c2, decide_eq_true c, Bool.true_or]
      exact Ev.now _
    · have c2 : ¬ ((l.getD i 0 : Nat) : Int) = (x : Int) := by omega
      simp only [if_neg c2, decide_eq_false c, Bool.false_or, wrap_nat i (show i < 9223372036854775807 by omega)]
      exact ih (i + 1) (by omega)
theorem yHas_f (l : List Nat) (x : Nat) (h : l.length ≤ BM) : Ev (fun k => laws_yHas.f k (ints l) (x : Int)) (l.any fun y => decide (y = x)) := by
  have := yHas_l0 l x h l.length 0 (by omega)
  rw [List.drop_zero] at this
  exact this
theorem yHas_not (l : List Nat) (x : Nat) (h : l.length ≤ BM) (hx : x ∉ l) : Ev (fun k => laws_yHas.f k (ints l) (x : Int)) false := by
  have := yHas_f l x h
  have e : (l.any fun y => decide (y = x)) = false := by
    rw [List.any_eq_false]
    intro y hy e
    have e2 : y = x := by simpa using e
    exact hx (e2 ▸ hy)
  rw [e] at this
  exact this
theorem big_f {a b : List Int} (ha : ¬ a.length > 1048576) : laws_big.f a b = some (decide (a.length + b.length > 1048576)) := by
  unfold laws_big.f
  rw [if_neg (by omega), wrap_id (by omega) (by omega)]
  congr 1
  by_cases h : a.length + b.length > 1048576
  · rw [decide_eq_true h, decide_eq_true (by omega)]
  · rw [decide_eq_false h, decide_eq_false (by omega)]
end Go.Proofs.YtcheoendfcgjgaaDoor.K
namespace Go.Proofs.YtcheoendfcgjgaaDoor.Pure
open Go.RowKit Go.Proofs.YtcheoendfcgjgaaDoorW.PrintWords Go.Proofs.YtcheoendfcgjgaaDoor.P Go.Proofs.YtcheoendfcgjgaaDoor.K
theorem yTour_same (n : Int) (l : List Int) (h : l.length ≤ BM) : Ev (fun k => laws_yTournament.f k n l n l) true := by
  unfold laws_yTournament.f
  simp only [if_true]
  exact Ev.bind (ySame_same l h) (Ev.now _)
theorem rd_pop (ns : List Nat) (i : Nat) (hi : i < ns.length) : rd (ints (ns.map pop)) (i : Int) = ((pop (ns.getD i 0) : Nat) : Int) := by
  rw [rd_ints, List.getD_eq_getElem?_getD, List.getElem?_map, List.getD_eq_getElem?_getD, List.getElem?_eq_getElem hi]
  rfl
theorem order_ok {n : Nat} {ns : List Nat} (h : Tour n ns) : ∃ L, L = way n ns (roundFin ns false) n [] ∧ OkL n ns L ∧ L.length = n := by
  have hn := h.1.1.n1
  obtain ⟨l, h1, h2⟩ := M.redei (tou_of h) n (Nat.le_refl _)
  have hl : l.length = n := by rw [h1.length_eq, List.length_range]
  have hO : OkL n ns l := ⟨h1.nodup_iff.2 List.nodup_range, fun x hx => List.mem_range.1 (h1.mem_iff.1 hx), h2⟩
  have hc := way_complete (n := n) (ns := ns) hn (roundFin ns false) l [] (by simpa using hl) (by simpa using hO) rfl
  rw [hl] at hc
  obtain ⟨q1, -, q3, -⟩ := way_sound (roundFin ns false) n [] (by simp) ⟨List.nodup_nil, fun x hx => absurd hx List.not_mem_nil, trivial⟩ hc
  exact ⟨_, rfl, q1, q3⟩
theorem ol1 {n : Nat} {ns : List Nat} (h : Tour n ns) (b : List Int) : ∀ d i best, i + d = n → best < n → (∀ v, v < i → wins n ns v ≤ wins n ns best) → Ev (fun k => laws_FnOrdersAndKings.l1 k (ints (kingsUpto n ns n)) (ints (ns.map pop)) (ints ((mirrorUpto n ns n).map pop)) (best : Int) (ints (ns.map pop)) (n : Int) (i : Int) (n : Int) b) true := by
  have hs := h.1.1
  have hm := mirror_sets hs
  have hn := hs.n8
  have e1 : (ints (ns.map pop)).length = n := by rw [ints_length, List.length_map, hs.len]
  have e2 : (ints ((mirrorUpto n ns n).map pop)).length = n := by rw [ints_length, List.length_map, hm.len]
  intro d
  induction d with
  | zero =>
    intro i best hi hb hmax
    have hk : M.King n (nb ns) best := M.king_most (tou_of h) hb (fun v hv => hmax v (by omega))
    have hmem := (kings_mem hs best).2 hk
    have hlen := kingsUpto_len n ns n
    have hy := yHas_f (kingsUpto n ns n) best (by simp only [BM]; omega)
    have e : ((kingsUpto n ns n).any fun y => decide (y = best)) = true := List.any_eq_true.2 ⟨best, hmem, by simp⟩
    rw [e] at hy
    refine Ev.step (fun k => by rw [laws_FnOrdersAndKings.l1, if_neg (by omega)]) (Ev.bind hy (Ev.now _))
  | succ d ih =>
    intro i best hi hb hmax
    have w := mirror_winsN h.1 i (by omega)
    have key : ∀ best', best' < n → (best' = if wins n ns i > wins n ns best then i else best) → Ev (fun k => laws_FnOrdersAndKings.l1 k (ints (kingsUpto n ns n)) (ints (ns.map pop)) (ints ((mirrorUpto n ns n).map pop)) (best' : Int) (ints (ns.map pop)) (n : Int) ((i + 1 : Nat) : Int) (n : Int) b) true := fun best' hb' e => ih (i + 1) best' (by omega) hb' (fun v hv => by
      by_cases c : wins n ns i > wins n ns best
      · rw [if_pos c] at e
        subst e
        by_cases q : v = best'
        · subst q; exact Nat.le_refl _
        · have := hmax v (by omega); omega
      · rw [if_neg c] at e
        subst e
        by_cases q : v = i
        · subst q; omega
        · exact hmax v (by omega))
    by_cases c : wins n ns i > wins n ns best
    · refine Ev.step (fun k => ?_) (key i (by omega) (by rw [if_pos c]))
      rw [laws_FnOrdersAndKings.l1, if_pos (by omega), if_pos (by omega), if_pos (by omega), if_pos (by omega), rd_pop ns i (by rw [hs.len]; omega), rd_pop _ i (by rw [hm.len]; omega), rd_pop ns best (by rw [hs.len]; omega), pop_wins hs, pop_wins hm, pop_wins hs, wrap_id (by omega) (by omega), wrap_id (by omega) (by omega), if_pos (by omega), if_pos (by omega), if_pos (by omega), if_pos (by omega), wrap_nat i (by omega)]
    · refine Ev.step (fun k => ?_) (key best hb (by rw [if_neg c]))
      rw [laws_FnOrdersAndKings.l1, if_pos (by omega), if_pos (by omega), if_pos (by omega), if_pos (by omega), rd_pop ns i (by rw [hs.len]; omega), rd_pop _ i (by rw [hm.len]; omega), rd_pop ns best (by rw [hs.len]; omega), pop_wins hs, pop_wins hm, pop_wins hs, wrap_id (by omega) (by omega), wrap_id (by omega) (by omega), if_pos (by omega), if_pos (by omega), if_pos (by omega), if_neg (by omega), wrap_nat i (by omega)]
theorem rd_get (L : List Nat) (i : Nat) : rd (ints L) (i : Int) = ((L.getD i 0 : Nat) : Int) := rd_ints L i
theorem ol0 {n : Nat} {ns : List Nat} (h : Tour n ns) {L : List Nat} (hL : OkL n ns L) (hlen : L.length = n) : ∀ d i, i + d = n → Ev (fun k => laws_FnOrdersAndKings.l0 k (ints L) (ints (kingsUpto n ns n)) (ints L) (n : Int) (i : Int) (n : Int) (ints ns) (n : Int) (ints (mirrorUpto n ns n))) true := by
  have hs := h.1.1
  have hn := hs.n8
  have hM := mirror_tour h
  have eL : (ints L).length = n := by rw [ints_length, hlen]
  have eN : (ints ns).length = n := by rw [ints_length, hs.len]
  intro d
  induction d with
  | zero =>
    intro i hi
    refine Ev.step (fun k => by rw [laws_FnOrdersAndKings.l0, if_neg (by omega)]) ?_
    have hmm := (mirT_of hM).2
    rw [mirror_mirrorN h.1] at hmm
    refine Ev.bind (scoresT_k h) (Ev.bind (scoresT_k hM) (Ev.bind hmm ?_))
    simp only [if_true]
    refine Ev.bind (yTour_same _ _ (by simp only [BM]; omega)) ?_
    refine Ev.step (fun k => by rw [laws_FnOrdersAndKings.j3]) ?_
    simp only [Bool.not_true, Bool.false_eq_true, if_false]
    rw [show ((ints (ns.map pop)).length : Int) = (n : Int) by rw [ints_length, List.length_map, hs.len]]
    exact ol1 h (ints ns) n 0 0 (by omega) hs.n1 (fun v hv => by omega)
  | succ d ih =>
    intro i hi
    have hin : i < L.length := by omega
    have hgi : L.getD i 0 = L[i] := by rw [List.getD_eq_getElem?_getD, List.getElem?_eq_getElem hin]; rfl
    have hni : L.getD i 0 ∉ L.take i := by
      rw [hgi]
      intro hm
      have hN := hL.nodup
      rw [← List.take_append_drop i L, List.nodup_append] at hN
      refine hN.2.2 _ hm (L[i]) ?_ rfl
      rw [List.drop_eq_getElem_cons hin]
      exact List.mem_cons_self
    have hy := yHas_not (L.take i) (L.getD i 0) (by rw [List.length_take]; simp only [BM]; omega) hni
    have et : (ints L).take i = ints (L.take i) := by simp [ints, List.map_take]
    refine Ev.step (f := fun k => (laws_yHas.f k (ints (L.take i)) ((L.getD i 0 : Nat) : Int)).bind fun t338 => (if t338 = true then (some false) else (if (i : Int) > 0 then (if nb ns (L.getD (i - 1) 0) (L.getD i 0) = true then laws_FnOrdersAndKings.l0 k (ints L) (ints (kingsUpto n ns n)) (ints L) (n : Int) ((i + 1 : Nat) : Int) (n : Int) (ints ns) (n : Int) (ints (mirrorUpto n ns n)) else some false) else laws_FnOrdersAndKings.l0 k (ints L) (ints (kingsUpto n ns n)) (ints L) (n : Int) ((i + 1 : Nat) : Int) (n : Int) (ints ns) (n : Int) (ints (mirrorUpto n ns n))))) (fun k => ?_) (Ev.bind hy ?_)
    · rw [laws_FnOrdersAndKings.l0, if_pos (by omega), if_pos (by omega), if_pos (by omega), if_pos (by omega), Int.toNat_natCast, et, rd_get, wrap_nat i (by omega)]
      congr 1
      funext t
      cases t with
      | true => simp only [if_true]
      | false =>
      simp only [Bool.false_eq_true, if_false]
      by_cases h0 : (i : Int) > 0
      · have hw : wrap64 ((i : Int) - 1) = ((i - 1 : Nat) : Int) := by rw [wrap_id (by omega) (by omega)]; omega
        have hlt : L.getD (i - 1) 0 < n := by
          rw [List.getD_eq_getElem?_getD, List.getElem?_eq_getElem (show i - 1 < L.length by omega)]
          exact hL.lt _ (List.getElem_mem _)
        rw [if_pos h0, if_pos h0, hw, if_pos (by omega), if_pos (by omega), rd_get, if_pos (by omega), if_pos (by omega), rd_ints, yIn_nb hs, Option.bind_some]
      · rw [if_neg h0, if_neg h0]
    · simp only [Bool.false_eq_true, if_false]
      have nx := ih (i + 1) (by omega)
      refine Ev.ite (fun h0 => ?_) (fun _ => nx)
      have hp := M.pathR_get hL.path (i - 1) (by omega)
      rw [show i - 1 + 1 = i by omega] at hp
      rw [hp]
      simp only [if_true]
      exact nx
theorem FnOrdersAndKings : laws_FnOrdersAndKings.Pure := by
  intro l0 l1 h0 h0z hw0 h1 h1z hw1
  refine Ev.rounds (g := fun k => laws_FnOrdersAndKings.f k l0 l1) ?_
  unfold laws_FnOrdersAndKings.f
  by_cases hb0 : l0.length > 1048576
  · have e : laws_big.f l0 l1 = some true := by unfold laws_big.f; rw [if_pos (by omega)]
    simp only [e, Option.bind_some, if_true]
    exact Ev.now _
  · rw [big_f hb0]
    simp only [Option.bind_some]
    refine Ev.ite (fun _ => Ev.now _) (fun h => ?_)
    have hl0 : l0.length ≤ 1048576 := by omega
    obtain ⟨sz, b, a', s', hd, hl1, hl8, -, -⟩ := dtour_ok (bytes_of hl0 hw0) 0 0 7 (by omega) (by omega) (by omega) (by omega)
    have hdraw : Ev (fun k => spec_DrawFirstOrder.f k l0) (sz, b) := by
      unfold spec_DrawFirstOrder.f spec_DrawIsTournament.f
      exact Ev.bind (Ev.bind hd (Ev.now _)) (Ev.now _)
    have hB : b.length ≤ BM := by simp only [BM]; omega
    refine Ev.bind hdraw ?_
    by_cases hT : IsTour sz b
    · have e1 := (IsTournament_f sz b hB).1 hT
      have e2 := (scGood_f sz b hB).1 hT
      obtain ⟨n, ns, rfl, rfl, hT⟩ := hT
      have hS : Sets n ns := hT.1.1
      have hn := hS.n8
      obtain ⟨L, hLe, hL, hlen⟩ := order_ok hT
      have g1 := scWay_f hS false n [] (by simp) (by simp)
      have g2 := firstList_f hS (fun _ => some true) (roundFin ns false) (fun l _ _ _ _ => rfl) n [] (by simp) (by simp)
      rw [← hLe] at g1 g2
      have f1 : Ev (fun k => spec_FirstOrder.f k (n : Int) (ints ns)) (ints L, true) := by
        unfold spec_FirstOrder.f
        refine Ev.bind e2 ?_
        simp only [if_true]
        exact Ev.bind g1 (Ev.now _)
      have f2 : Ev (fun k => impl_FirstOrder.f k (n : Int) (ints ns)) (ints L, true) := by
        unfold impl_FirstOrder.f
        refine Ev.bind e1 ?_
        simp only [if_true]
        exact Ev.bind g2 (Ev.now _)
      have k1 : Ev (fun k => spec_KingsOf.f k (n : Int) (ints ns)) (ints (kingsUpto n ns n), true) := by
        unfold spec_KingsOf.f
        refine Ev.bind e2 ?_
        simp only [if_true, ints_length, hS.len]
        exact kings_spec hS
      have k2 : Ev (fun k => impl_KingsOf.f k (n : Int) (ints ns)) (ints (kingsUpto n ns n), true) := by
        unfold impl_KingsOf.f
        refine Ev.bind e1 ?_
        simp only [if_true, ints_length, hS.len]
        exact kings_impl hS
      obtain ⟨m1, m2⟩ := mirT_of hT
      have hkl := kingsUpto_len n ns n
      obtain ⟨kn0, kn2⟩ := kings_not hT
      refine Ev.bind f2 (Ev.bind f1 (Ev.bind k2 (Ev.bind k1 (Ev.bind m2 (Ev.bind m1 ?_)))))
      simp only [bne_self_eq_false, Bool.false_eq_true, if_false]
      refine Ev.bind (ySame_same _ (by rw [ints_length]; simp only [BM]; omega)) ?_
      simp only [if_true]
      refine Ev.bind (ySame_same _ (by rw [ints_length]; simp only [BM]; omega)) ?_
      simp only [if_true]
      refine Ev.bind (yTour_same _ _ (by rw [ints_length, (mirror_sets hS).len]; simp only [BM]; omega)) ?_
      simp only [if_true]
      refine Ev.bind e1 ?_
      simp only [bne_self_eq_false]
      have c2 : (((ints (kingsUpto n ns n)).length : Int) == 2) = false := by
        rw [ints_length]
        simp; omega
      refine Ev.step (fun k => by rw [laws_FnOrdersAndKings.j0, if_neg (by decide), if_pos rfl, if_pos (by rw [ints_length]; omega), if_neg (by rw [ints_length]; omega), c2]) ?_
      refine Ev.step (fun k => by rw [laws_FnOrdersAndKings.j1, if_neg (by decide)]) ?_
      rw [show ((ints L).length : Int) = (n : Int) by rw [ints_length]; omega]
      exact ol0 hT hL hlen n 0 (by omega)
    · have e1 := (IsTournament_f sz b hB).2 hT
      have e2 := (scGood_f sz b hB).2 hT
      have f1 : Ev (fun k => spec_FirstOrder.f k sz b) ([], false) := by
        unfold spec_FirstOrder.f
        refine Ev.bind e2 ?_
        simp only [Bool.false_eq_true, if_false]
        exact Ev.now _
      have f2 : Ev (fun k => impl_FirstOrder.f k sz b) ([], false) := by
        unfold impl_FirstOrder.f
        refine Ev.bind e1 ?_
        simp only [Bool.false_eq_true, if_false]
        exact Ev.now _
      have k1 : Ev (fun k => spec_KingsOf.f k sz b) ([], false) := by
        unfold spec_KingsOf.f
        refine Ev.bind e2 ?_
        simp only [Bool.false_eq_true, if_false]
        exact Ev.now _
      have k2 : Ev (fun k => impl_KingsOf.f k sz b) ([], false) := by
        unfold impl_KingsOf.f
        refine Ev.bind e1 ?_
        simp only [Bool.false_eq_true, if_false]
        exact Ev.now _
      obtain ⟨m1, m2⟩ := mirT_no hB hT
      refine Ev.bind f2 (Ev.bind f1 (Ev.bind k2 (Ev.bind k1 (Ev.bind m2 (Ev.bind m1 ?_)))))
      simp only [bne_self_eq_false, Bool.false_eq_true, if_false]
      refine Ev.bind (ySame_same _ (by simp)) ?_
      simp only [if_true]
      refine Ev.bind (ySame_same _ (by simp)) ?_
      simp only [if_true]
      refine Ev.bind (yTour_same _ _ (by simp)) ?_
      simp only [if_true]
      refine Ev.bind e1 ?_
      simp only [bne_self_eq_false]
      exact Ev.step (fun k => by rw [laws_FnOrdersAndKings.j0, if_neg (by decide), if_neg (by decide)]) (Ev.now _)
end Go.Proofs.YtcheoendfcgjgaaDoor.Pure
namespace Go.Proofs.YtcheoendfcgjgaaDoor.K
open Go.RowKit Go.ChangeShapes Go.WideShapes Go.ChangeAt Go.Deep Go.Proofs.YtcheoendfcgjgaaDoorW.PrintWords
section
variable {H : Type} {enc : TypeId × Value → H} {P : Program} {w : World}
theorem open_row8 {t e : TypeId} {fuel : Nat} {cs : List Value} {x : DataW H × List MemPlace} (ht : P.underlying t = some (.slice e)) (he : P.underlying e = some (.int .u8)) (hc : P.cellsOf e = 1)
    (h : DataW.trod enc P w 0 (fun _ => true) true fuel t cs = some x) :
    ∃ (A : Option Addr) (c : Nat) (l : List Int), cs = [.slice A l.length c] ∧ l.length ≤ c ∧ l.length ≤ maxLen ∧ (∀ n ∈ l, (Lit.int .u8 n).wf = true) ∧ Kd.C (Kd.int .u8) w A l.length l := by
  rcases open_ints ht he hc h with ⟨rfl, _⟩ | ⟨a, l, c, zs, rfl, _, hl, hm, hz, _, hcell, hwz⟩
  · exact ⟨none, 0, [], rfl, Nat.le_refl _, by simp [maxLen], by simp, Kd.C_nil _ _⟩
  · obtain ⟨l0, rfl, hr0, hm0, hw0, hc0⟩ := ReadsInt.ofRowC (k := .u8) (w := w) (a := some a) (len := l) (cap := c) (zs := zs) (.inr ⟨a, rfl, hl, hm, by simpa using hz, hcell, hwz⟩)
    exact ⟨some a, c, l0, rfl, hc0, hm0, hw0, Kd.C_of_reads (d := (0 : Int)) (h1 := fun _ => rfl) hr0⟩
end
end Go.Proofs.YtcheoendfcgjgaaDoor.K
namespace Go.Proofs.YtcheoendfcgjgaaDoor.fnOrdersAndKings
open Go.ChangeShapes Go.WideShapes Go.ChangeAt Go.RowKit
open Go.ChangeMaps (open_string shut_string)
theorem own : ownKnob Tryd.prog.godebug = none := by kernel_rfl
theorem laidOut : laidOutB Tryd.prog = true := by kernel_rfl
theorem gTab : Tryd.prog.globalNamed "math/bits.deBruijn64tab" = some 1 := by kernel_rfl
theorem gTabType : (Tryd.prog.globals[1]?).map (·.type) = some 92 := by kernel_rfl
theorem cellsT : Tryd.prog.cellsOf 92 = 64 := by kernel_rfl
theorem cellsE : Tryd.prog.cellsOf 5 = 1 := by kernel_rfl
theorem table {W : World} (h : laidMetH Tryd.prog Rows.fnOrdersAndKingsRow.laid W) : K.TabOK W := by
  have h2 : laidMet Tryd.prog [("math/bits.deBruijn32tab", Rows.laid_math_bits_deBruijn32tab), ("math/bits.deBruijn64tab", Rows.laid_math_bits_deBruijn64tab)] W := h
  have h3 : laidMet Tryd.prog (("math/bits.deBruijn64tab", Lib.tabData .u8 K.zs64) :: []) W := h2.tail
  have h4 := Lib.tabIs_of_head gTab gTabType Tryd.underlying92 Tryd.underlying5 cellsE cellsT h3
  intro j hj
  have h5 := h4.cell gTab j hj
  rw [h5, K.zs64_at j hj]
theorem contract (H : Type) (enc : TypeId × Value → H) (W : World) (base : Nat) (args : Array Value) (ds gs : List (DataW H)) (before : List MemPlace)
    (hval0 : ∀ (j : Nat) t v, Tryd.f3.params[j]? = some t → args[j]? = some v → Value.okWide Tryd.prog W .any base t v)
    (hW : DataW.Whole enc Tryd.prog Tryd.f3.params.toList Rows.fnOrdersAndKingsSpec.vars false W args.toList ds gs before) (hsz0 : (DataW.weightsEach Tryd.prog (Tryd.f3.params.toList ++ Rows.fnOrdersAndKingsSpec.plain.varTypes Tryd.prog) (ds ++ gs)).all (· ≤ reachBytes) = true) (hL : laidMetH Tryd.prog Rows.fnOrdersAndKingsRow.laid W) :
    Calls Tryd.prog 3 args W fun e W' => ∃ v, e = .returned v ∧ Rows.fnOrdersAndKingsSpec.post enc Tryd.prog Tryd.f3 false true false false W args v W' := by
  have hsz : (DataW.weightsEach Tryd.prog (Tryd.f3.params.toList ++ Rows.fnOrdersAndKingsSpec.plain.varTypes Tryd.prog) (ds ++ gs)).all (· ≤ reachBytes) = true := hsz0
  have hval : ∀ (j : Nat) t v, Tryd.f3.params[j]? = some t → args[j]? = some v → Value.okWide Tryd.prog W .any base t v := hval0
  have hW' := hW
  obtain ⟨p, q, hA0, hV, rfl, hfz, hnd⟩ := hW
  have hA : DataW.TrodAll enc Tryd.prog W 0 (fun _ => true) true Tryd.f3.params.toList args.toList ds p := hA0
  rw [Tryd.params3] at hA hval hsz
  obtain ⟨v0, vs0, d0, ds0, p0, q0, hargs, rfl, rfl, h0, r0⟩ := trodAll_cons hA
  obtain ⟨v1, vs1, d1, ds1, p1, q1, rfl, rfl, rfl, h1, r1⟩ := trodAll_cons r0
  obtain ⟨rfl, rfl, rfl⟩ := trodAll_nil r1
  obtain rfl : args = #[v0, v1] := by cases args; simp_all
  obtain ⟨rfl, rfl⟩ := trodVars_none hV
  obtain ⟨a0, len0, cap0, rfl⟩ := okWide_slice Tryd.underlying22 (hval 0 22 v0 rfl rfl)
  have k0 := h0
  have lt0 : ∀ x ∈ p0, x.block < W.heap.size := by obtain ⟨m, hm⟩ := k0; exact DataW.trod_lt m _ _ _ hm
  have y0 : len0 * 1 ≤ 140737488351232 := Go.Proofs.YtcheoendfcgjgaaDoorW.PrintWords.sized_ints hsz (j := 0) (t := 22) rfl rfl Tryd.underlying22 Tryd.underlying5 (by kernel_rfl) (by kernel_rfl) h0
  obtain ⟨fuel0, hf0⟩ := h0
  obtain ⟨A0, c0, l0, hcs0, hc0, hm0, hw0, hr0⟩ := K.open_row8 Tryd.underlying22 Tryd.underlying5 (by kernel_rfl) hf0
  simp only [Value.cells, List.cons.injEq, and_true, Value.slice.injEq] at hcs0
  obtain ⟨rfl, rfl, rfl⟩ := hcs0
  obtain ⟨a1, len1, cap1, rfl⟩ := okWide_slice Tryd.underlying22 (hval 1 22 v1 rfl rfl)
  have k1 := h1
  have lt1 : ∀ x ∈ p1, x.block < W.heap.size := by obtain ⟨m, hm⟩ := k1; exact DataW.trod_lt m _ _ _ hm
  have y1 : len1 * 1 ≤ 140737488351232 := Go.Proofs.YtcheoendfcgjgaaDoorW.PrintWords.sized_ints hsz (j := 1) (t := 22) rfl rfl Tryd.underlying22 Tryd.underlying5 (by kernel_rfl) (by kernel_rfl) h1
  obtain ⟨fuel1, hf1⟩ := h1
  obtain ⟨A1, c1, l1, hcs1, hc1, hm1, hw1, hr1⟩ := K.open_row8 Tryd.underlying22 Tryd.underlying5 (by kernel_rfl) hf1
  simp only [Value.cells, List.cons.injEq, and_true, Value.slice.injEq] at hcs1
  obtain ⟨rfl, rfl, rfl⟩ := hcs1
  clear hA0 hval0 hsz0 hsz
  obtain ⟨k, hk⟩ := Pure.FnOrdersAndKings l0 l1 hm0 y0 hw0 hm1 y1 hw1
  refine (P.laws_FnOrdersAndKings.calls k _ _ l0 _ _ l1 true W (table hL) hr0 hc0 hr1 hc1 hk).mono fun e W' ⟨he, bel⟩ => ?_
  subst he
  exact ⟨_, rfl, _, _, _, [], _, [], hW', trodAll_mk1 (shut_bool Tryd.underlying4 _), (trodAll_cons_mk (Below.trod laidOut (by kernel_rfl) (of_decide_eq_true (by kernel_rfl)) k0 bel lt0) (trodAll_cons_mk (Below.trod laidOut (by kernel_rfl) (of_decide_eq_true (by kernel_rfl)) k1 bel lt1) trodAll_mk0)), rfl, bel.frame _, fun h => by cases h⟩
noncomputable def laidWorld (os : Os) : World :=
  { World.holding Tryd.prog os ⟨#[], #[], []⟩ with heap := (((World.holding Tryd.prog os ⟨#[], #[], []⟩).heap.modify 0 fun | .cells _ t frozen => .cells #[.int .u8 0, .int .u8 1, .int .u8 28, .int .u8 2, .int .u8 29, .int .u8 14, .int .u8 24, .int .u8 3, .int .u8 30, .int .u8 22, .int .u8 20, .int .u8 15, .int .u8 25, .int .u8 17, .int .u8 4, .int .u8 8, .int .u8 31, .int .u8 27, .int .u8 13, .int .u8 23, .int .u8 21, .int .u8 19, .int .u8 16, .int .u8 7, .int .u8 26, .int .u8 12, .int .u8 18, .int .u8 6, .int .u8 11, .int .u8 5, .int .u8 10, .int .u8 9] t frozen | o => o).modify 1 fun | .cells _ t frozen => .cells #[.int .u8 0, .int .u8 1, .int .u8 56, .int .u8 2, .int .u8 57, .int .u8 49, .int .u8 28, .int .u8 3, .int .u8 61, .int .u8 58, .int .u8 42, .int .u8 50, .int .u8 38, .int .u8 29, .int .u8 17, .int .u8 4, .int .u8 62, .int .u8 47, .int .u8 59, .int .u8 36, .int .u8 45, .int .u8 43, .int .u8 51, .int .u8 22, .int .u8 53, .int .u8 39, .int .u8 33, .int .u8 30, .int .u8 24, .int .u8 18, .int .u8 12, .int .u8 5, .int .u8 63, .int .u8 55, .int .u8 48, .int .u8 27, .int .u8 60, .int .u8 41, .int .u8 37, .int .u8 16, .int .u8 46, .int .u8 35, .int .u8 44, .int .u8 21, .int .u8 52, .int .u8 32, .int .u8 23, .int .u8 11, .int .u8 54, .int .u8 26, .int .u8 40, .int .u8 15, .int .u8 34, .int .u8 20, .int .u8 31, .int .u8 10, .int .u8 25, .int .u8 14, .int .u8 19, .int .u8 9, .int .u8 13, .int .u8 8, .int .u8 7, .int .u8 6] t frozen | o => o) }
theorem laid_met (os : Os) : laidMet Tryd.prog Rows.fnOrdersAndKingsRow.laid ((laidWorld os).forCall (fun _ _ => 0) ⟨#[], #[.slice none 0 0, .slice none 0 0], []⟩).memory :=
  laidMet_of_run' 8 (by kernel_rfl) (by kernel_rfl)
theorem reads (os : Os) {H : Type} (enc : TypeId × Value → H) : ∃ places, DataW.whole enc Tryd.prog ((laidWorld os).forCall (fun _ _ => 0) ⟨#[], #[.slice none 0 0, .slice none 0 0], []⟩).memory Tryd.f3.params.toList Rows.fnOrdersAndKingsSpec.vars false #[.slice none 0 0, .slice none 0 0].toList 8 = some ([.nil, .nil], [], places) :=
  ⟨[], by kernel_rfl⟩
set_option maxRecDepth 100000 in
theorem lifted (os : Os) (started : os.Started) (H : Type) (enc : TypeId × Value → H) (F : Stop.Interp) :
    ReturnsInHanded {} Tryd.checked os 3 .any ((OpenSpec.ofChange Rows.fnOrdersAndKingsSpec).preRow enc Tryd.prog Tryd.f3 Rows.fnOrdersAndKingsRow.domain false Rows.fnOrdersAndKingsRow.laid) (((OpenSpec.ofChange Rows.fnOrdersAndKingsSpec).at F).post enc Tryd.prog Tryd.f3 false true false false) := by
  obtain ⟨places, hx⟩ := reads os enc
  refine returnsInHanded_of_row (C := Tryd.checked) (s := OpenSpec.ofChange Rows.fnOrdersAndKingsSpec) own started (by kernel_rfl) Tryd.func3
    (witness_row_at (enc := enc) (C := Tryd.checked) false (laidWorld os) #[.slice none 0 0, .slice none 0 0] rfl (by kernel_rfl) (by kernel_rfl) (by kernel_rfl)
      (OpenSpec.preRow_of_cond 8 hx (by kernel_rfl) (fun k hk => by cases hk) (by kernel_rfl) (laid_met os))) ?_
  intro W base args ds gs before hval hW _ _ hsz hL _ _
  exact contract H enc W base args ds gs before hval hW hsz hL
set_option maxHeartbeats 4000000 in
theorem said : Rows.FnOrdersAndKingsSaid :=
  OpenClaim.holds_of_cond 3 Tryd.f3 rfl rfl rfl rfl rfl rfl rfl ⟨rfl, rfl, rfl, rfl, rfl⟩ rfl rfl rfl rfl rfl (by kernel_rfl) Tryd.func3 (by kernel_rfl)
    (of_decide_eq_true (by kernel_rfl)) (by unfold Func.isWrapper; first | (rw [if_pos (by decide +kernel)]; kernel_rfl) | (rw [if_neg (by decide +kernel)]; exact ⟨rfl, rfl⟩))
    (fun os started H enc _ F => by rw [OpenClaim.pre_eq_preRow]; exact lifted os started H enc F)
theorem plain (f : FuncId) (fn : Func) (hf : Tryd.pinned.checked.prog.funcNamed "loop.example/g01113/laws.FnOrdersAndKings" = some f) (hfn : Tryd.pinned.checked.prog.funcs[f]? = some fn) :
    false = Tryd.pinned.checked.prog.looks [] ∧ ∀ (j : Nat) t, fn.params[j]? = some t → Tryd.pinned.checked.prog.wantsStandIn t = false := by
  obtain rfl : f = 3 := Option.some.inj ((show Tryd.prog.funcNamed "loop.example/g01113/laws.FnOrdersAndKings" = some 3 by kernel_rfl).symm.trans hf) |>.symm
  obtain rfl : fn = Tryd.f3 := (Option.some.inj (Tryd.func3.symm.trans hfn)).symm
  refine ⟨by kernel_rfl, fun j t ht => ?_⟩
  rw [Tryd.params3] at ht
  have hm := Array.mem_of_getElem? ht
  simp only [List.mem_toArray, List.mem_cons, List.not_mem_nil, or_false] at hm
  rcases hm with rfl | rfl
  · exact (show Tryd.prog.wantsStandIn 22 = false by kernel_rfl)
  · exact (show Tryd.prog.wantsStandIn 22 = false by kernel_rfl)
theorem card : Rows.FnOrdersAndKingsCardSaid :=
  Claim7.holds_tied_plain_at .later [] _ _ _ _ said (fun _ h => by cases h) (by kernel_rfl) (fun _ h => by cases h) fnOrdersAndKings_row_tie rfl ⟨rfl, rfl⟩ (by kernel_rfl) rfl plain (by kernel_rfl)
#print axioms card
end Go.Proofs.YtcheoendfcgjgaaDoor.fnOrdersAndKings
namespace Go.Proofs.YtcheoendfcgjgaaDoor
theorem fnOrdersAndKings_holds : Rows.FnOrdersAndKingsCardSaid := fnOrdersAndKings.card
end Go.Proofs.YtcheoendfcgjgaaDoor
