/- The row of the law FnExactTurnCircle: contracts and plain lemmas for the law FnExactTurnCircle, part 4 of 4: what the Go functions that it reaches answer. No condition beyond those in each statement. -/
import Derived.Test.YtjkhdblhbjndiaaWMore
import Derived.Test.YtjkhdblhbjndiaaWWords
import Derived.ProofKit
import Derived.OpenShut
import Derived.Deep.Matrix
import Derived.Lib.SmallJoins
import Derived.Test.YtjkhdblhbjndiaaRows
import Derived.WalkKit
import Derived.ShutString
import Derived.ChangeOld
import Derived.Below
import Derived.SizedLaws
import Derived.Test.YtjkhdblhbjndiaaWSized
import Derived.Test.YtjkhdblhbjndiaaCFnExactTurnCirclea
import Derived.Test.YtjkhdblhbjndiaaCFnExactTurnCircleb
import Derived.Test.YtjkhdblhbjndiaaCFnExactTurnCirclec
namespace Go.Proofs.Ytjkhdblhbjndiaa.K
open Go.RowKit Go.Proofs.YtjkhdblhbjndiaaW.PrintWords Go.Proofs.YtjkhdblhbjndiaaW.PrintMore Go.Proofs.Ytjkhdblhbjndiaa.P
set_option linter.unusedVariables false
set_option linter.unusedSimpArgs false

theorem getD_set (ns : List Nat) (i v p : Nat) : (ns.set i v).getD p 0 = if p = i ∧ i < ns.length then v else ns.getD p 0 := by
  simp only [List.getD_eq_getElem?_getD, List.getElem?_set]
  by_cases h : i = p
  · subst h
    by_cases hl : i < ns.length
    · simp [hl]
    · simp [hl]
  · rw [if_neg h, if_neg (fun h' => h h'.1.symm)]
/-- i beats j from now on. -/
def beatN (ns : List Nat) (i j : Nat) : List Nat :=
  let y := ns.set i (ns.getD i 0 ||| 2 ^ j)
  y.set j (y.getD j 0 ^^^ (y.getD j 0 &&& 2 ^ i))
theorem beatN_length (ns : List Nat) (i j : Nat) : (beatN ns i j).length = ns.length := by simp [beatN]
theorem nb_beatN (ns : List Nat) (i j p q : Nat) (hi : i < ns.length) (hj : j < ns.length) (hij : i ≠ j) :
    nb (beatN ns i j) p q = if p = i ∧ q = j then true else if p = j ∧ q = i then false else nb ns p q := by
  unfold nb beatN
  simp only [getD_set, List.length_set]
  by_cases h1 : p = j
  · subst h1
    rw [if_pos ⟨rfl, hj⟩, if_neg (fun h => hij h.1.symm), testBit_andNot, Nat.testBit_two_pow]
    rw [if_neg (fun h => hij h.1.symm)]
    by_cases h2 : i = q
    · subst h2; simp
    · have h2' : ¬ q = i := fun h => h2 h.symm
      simp [h2, h2']
  · rw [if_neg (fun h => h1 h.1)]
    by_cases h2 : p = i
    · subst h2
      rw [if_pos ⟨rfl, hi⟩, Nat.testBit_or, Nat.testBit_two_pow]
      by_cases h3 : j = q
      · subst h3; simp
      · have h3' : ¬ q = j := fun h => h3 h.symm
        simp [h3, h3', h1]
    · rw [if_neg (fun h => h2 h.1), if_neg (fun h => h2 h.1), if_neg (fun h => h1 h.1)]
theorem sets_ext {ns ms : List Nat} (h : ns.length = ms.length) (e : ∀ i, i < ns.length → ∀ j, nb ns i j = nb ms i j) : ns = ms := by
  refine List.ext_getElem h fun i h1 h2 => ?_
  have := fun j => e i h1 j
  unfold nb at this
  simp only [List.getD_eq_getElem?_getD, List.getElem?_eq_getElem h1, List.getElem?_eq_getElem h2, Option.getD_some] at this
  exact Nat.eq_of_testBit_eq this
theorem nb_lt_pow {n : Nat} {ns : List Nat} (h : ∀ i, i < ns.length → ∀ j, n ≤ j → nb ns i j = false) : ∀ x ∈ ns, x < 2 ^ n := by
  intro x hx
  obtain ⟨i, hi, rfl⟩ := List.mem_iff_getElem.1 hx
  refine Nat.lt_pow_two_of_testBit _ fun j hj => ?_
  have := h i hi j hj
  unfold nb at this
  simpa only [List.getD_eq_getElem?_getD, List.getElem?_eq_getElem hi, Option.getD_some] using this
theorem sets_of_nb {n : Nat} {ns : List Nat} (h1 : 1 ≤ n) (h8 : n ≤ 8) (hl : ns.length = n) (h : ∀ i, i < n → ∀ j, n ≤ j → nb ns i j = false) : Sets n ns := ⟨h1, h8, hl, nb_lt_pow (by rw [hl]; exact h)⟩
theorem beatN_sets {n : Nat} {ns : List Nat} (h : Sets n ns) {i j : Nat} (hi : i < n) (hj : j < n) (hij : i ≠ j) : Sets n (beatN ns i j) := by
  refine sets_of_nb h.n1 h.n8 (by rw [beatN_length, h.len]) fun p hp q hq => ?_
  rw [nb_beatN ns i j p q (by rw [h.len]; exact hi) (by rw [h.len]; exact hj) hij, if_neg (by omega), h.nb_lt hq]
  split <;> rfl
theorem two_pow62 {i : Nat} (h : i < 8) : 2 ^ i < 2 ^ 62 := Nat.pow_lt_pow_right (by decide) (by omega)
theorem lt62 {a n : Nat} (hn : n ≤ 8) (h : a < 2 ^ n) : a < 2 ^ 62 := Nat.lt_of_lt_of_le h (Nat.pow_le_pow_right (by decide) (by omega))
theorem beat_f {n : Nat} {ns : List Nat} (h : Sets n ns) (a : Int) {i j : Nat} (hi : i < n) (hj : j < n) : impl_Tournament_beat.f a (ints ns) i j = some (ints (beatN ns i j)) := by
  have hl := h.len
  have hn := h.n8
  have hy : (ns.set i (ns.getD i 0 ||| 2 ^ j)).getD j 0 < 2 ^ 62 := by
    rw [getD_set]
    split
    · exact Nat.or_lt_two_pow (h.get62 i) (two_pow62 (by omega))
    · exact h.get62 j
  unfold impl_Tournament_beat.f
  rw [if_pos (by omega), if_pos (by rw [ints_length]; omega), if_pos (by omega)]
  simp only [Option.bind_some]
  rw [rd_ints, shl_one j (by omega), or_nat _ _ (h.get62 i) (two_pow62 (by omega)), ints_set, if_pos (by rw [ints_length]; omega), rd_ints, shl_one i (by omega), andNot_nat _ _ hy (two_pow62 (by omega)), ints_set]
  rfl
/-- Three players of which each beats the next one. -/
def Circ (n : Nat) (ns : List Nat) (a b c : Nat) : Prop := a < n ∧ b < n ∧ c < n ∧ nb ns a b = true ∧ nb ns b c = true ∧ nb ns c a = true
theorem circ_f {n : Nat} {ns : List Nat} (h : Sets n ns) (a b c : Int) : EvB (fun k => impl_isCircle.f k n (ints ns) a b c) (∃ i j l : Nat, a = i ∧ b = j ∧ c = l ∧ Circ n ns i j l) ∧ EvB (fun k => spec_scCircle.f k n (ints ns) a b c) (∃ i j l : Nat, a = i ∧ b = j ∧ c = l ∧ Circ n ns i j l) := by
  have hl := h.len
  have hn := h.n8
  have h1 := h.n1
  have hw : wrap64 ((n : Int) - 1) = ((n - 1 : Nat) : Int) := by unfold wrap64; omega
  unfold impl_isCircle.f spec_scCircle.f
  rw [hw]
  have wi := allWithin_f [a, b, c] 0 ((n - 1 : Nat) : Int) (by simp [BM])
  have ws := l1All_f [a, b, c] 0 ((n - 1 : Nat) : Int) (by simp [BM])
  cases hb : within 0 ((n - 1 : Nat) : Int) [a, b, c] with
  | false =>
    rw [hb] at wi ws
    have no : ¬ (∃ i j l : Nat, a = i ∧ b = j ∧ c = l ∧ Circ n ns i j l) := by
      rintro ⟨i, j, l, rfl, rfl, rfl, q1, q2, q3, _⟩
      simp only [within, List.all_cons, List.all_nil, Bool.and_true, Bool.and_eq_false_iff, decide_eq_false_iff_not] at hb
      omega
    exact ⟨⟨fun p => absurd p no, fun _ => Ev.bind wi (by simpa using Ev.now false)⟩, ⟨fun p => absurd p no, fun _ => Ev.bind ws (by simpa using Ev.now false)⟩⟩
  | true =>
    rw [hb] at wi ws
    simp only [within, List.all_cons, List.all_nil, Bool.and_true, Bool.and_eq_true, decide_eq_true_eq] at hb
    obtain ⟨i, rfl⟩ := Int.eq_ofNat_of_zero_le hb.1.1
    obtain ⟨j, rfl⟩ := Int.eq_ofNat_of_zero_le hb.2.1.1
    obtain ⟨l, rfl⟩ := Int.eq_ofNat_of_zero_le hb.2.2.1
    have e : (∃ i' j' l' : Nat, (i : Int) = i' ∧ (j : Int) = j' ∧ (l : Int) = l' ∧ Circ n ns i' j' l') ↔ (nb ns i j = true ∧ nb ns j l = true ∧ nb ns l i = true) := by
      constructor
      · rintro ⟨i', j', l', e1, e2, e3, _, _, _, q⟩
        obtain rfl : i = i' := by omega
        obtain rfl : j = j' := by omega
        obtain rfl : l = l' := by omega
        exact q
      · intro q; exact ⟨i, j, l, rfl, rfl, rfl, by omega, by omega, by omega, q⟩
    have g1 : (i : Int) < ((ints ns).length : Int) := by rw [ints_length]; omega
    have g2 : (j : Int) < ((ints ns).length : Int) := by rw [ints_length]; omega
    have g3 : (l : Int) < ((ints ns).length : Int) := by rw [ints_length]; omega
    have p1 : 0 ≤ (i : Int) := by omega
    have p2 : 0 ≤ (j : Int) := by omega
    have p3 : 0 ≤ (l : Int) := by omega
    refine ⟨EvB.congr (EvB.bind wi ?_) e.symm, EvB.congr (EvB.bind ws ?_) e.symm⟩
    · simp only [if_true, if_pos g1, if_pos g2, if_pos g3, if_pos p1, if_pos p2, if_pos p3, rd_ints, has_nb h, Option.bind_some]
      cases nb ns i j <;> cases nb ns j l <;> cases nb ns l i <;> first | exact EvB.of (Ev.now true) (by simp) | exact EvB.of (Ev.now false) (by simp)
    · simp only [if_true, if_pos g1, if_pos g2, if_pos g3, if_pos p1, if_pos p2, if_pos p3, rd_ints, deHas_nb h, Option.bind_some]
      cases nb ns i j <;> cases nb ns j l <;> cases nb ns l i <;> first | exact EvB.of (Ev.now true) (by simp) | exact EvB.of (Ev.now false) (by simp)
/-- The tournament with a circle turned. -/
def turnN (ns : List Nat) (a b c : Nat) : List Nat := beatN (beatN (beatN ns b a) c b) a c
theorem turnN_length (ns : List Nat) (a b c : Nat) : (turnN ns a b c).length = ns.length := by simp [turnN, beatN_length]
theorem turned_f {n : Nat} {ns : List Nat} (h : Sets n ns) (m : Int) {a b c : Nat} (ha : a < n) (hb : b < n) (hc : c < n) (ab : a ≠ b) (bc : b ≠ c) (ca : c ≠ a) :
    Ev (fun k => impl_turned.f k m (ints ns) [(a : Int), b, c]) (m, ints (turnN ns a b c)) := by
  have hl := h.len
  have hn := h.n8
  unfold impl_turned.f slices_Clone_int_int.f
  rw [if_pos (by rw [ints_length]; omega)]
  simp only [Option.bind_some]
  have s1 := beatN_sets h hb ha (fun e => ab e.symm)
  have s2 := beatN_sets s1 hc hb (fun e => bc e.symm)
  have r1 : rd [(a : Int), b, c] (Int.tmod 1 3) = b := by rw [show Int.tmod 1 3 = 1 from by decide +kernel]; rfl
  have r2 : rd [(a : Int), b, c] (Int.tmod 2 3) = c := by rw [show Int.tmod 2 3 = 2 from by decide +kernel]; rfl
  have r3 : rd [(a : Int), b, c] (Int.tmod 3 3) = a := by rw [show Int.tmod 3 3 = 0 from by decide +kernel]; rfl
  refine Ev.step (fun k => by rw [impl_turned.l0]) ?_
  have t1 : (0 : Int) < (([(a : Int), b, c].length : Nat) : Int) := by simp
  have t2 : 0 ≤ Int.tmod 1 3 := by decide +kernel
  have t3 : Int.tmod 1 3 < (([(a : Int), b, c].length : Nat) : Int) := by simp
  simp only [if_pos t1, if_pos t2, if_pos t3, r1, show rd [(a : Int), b, c] 0 = a from rfl, beat_f h m hb ha, Option.bind_some, if_pos (Int.le_refl 0), show wrap64 (0 + 1) = 1 from by decide +kernel]
  refine Ev.step (fun k => by rw [impl_turned.l0]) ?_
  have t1 : (1 : Int) < (([(a : Int), b, c].length : Nat) : Int) := by simp
  have t2 : 0 ≤ Int.tmod 2 3 := by decide +kernel
  have t3 : Int.tmod 2 3 < (([(a : Int), b, c].length : Nat) : Int) := by simp
  have t4 : (0 : Int) ≤ 1 := by decide
  simp only [if_pos t1, if_pos t2, if_pos t3, if_pos t4, r2, show rd [(a : Int), b, c] 1 = b from rfl, beat_f s1 m hc hb, Option.bind_some, show wrap64 (1 + 1) = 2 from by decide +kernel]
  refine Ev.step (fun k => by rw [impl_turned.l0]) ?_
  have t1 : (2 : Int) < (([(a : Int), b, c].length : Nat) : Int) := by simp
  have t2 : 0 ≤ Int.tmod 3 3 := by decide +kernel
  have t3 : Int.tmod 3 3 < (([(a : Int), b, c].length : Nat) : Int) := by simp
  have t4 : (0 : Int) ≤ 2 := by decide
  simp only [if_pos t1, if_pos t2, if_pos t3, if_pos t4, r3, show rd [(a : Int), b, c] 2 = c from rfl, beat_f s2 m ha hc, Option.bind_some, show wrap64 (2 + 1) = 3 from by decide +kernel]
  exact Ev.step (f := fun _ => some (m, ints (turnN ns a b c))) (fun k => by rw [impl_turned.l0, if_neg (by simp)]; rfl) (Ev.now _)
theorem nb_turnN {n : Nat} {ns : List Nat} (h : Sets n ns) {a b c : Nat} (ha : a < n) (hb : b < n) (hc : c < n) (ab : a ≠ b) (bc : b ≠ c) (ca : c ≠ a) (p q : Nat) :
    nb (turnN ns a b c) p q = if p = a ∧ q = c ∨ p = c ∧ q = b ∨ p = b ∧ q = a then true else if p = c ∧ q = a ∨ p = b ∧ q = c ∨ p = a ∧ q = b then false else nb ns p q := by
  have hl := h.len
  unfold turnN
  rw [nb_beatN _ _ _ _ _ (by simp [beatN_length]; omega) (by simp [beatN_length]; omega) (fun e => ca e.symm), nb_beatN _ _ _ _ _ (by simp [beatN_length]; omega) (by simp [beatN_length]; omega) (fun e => bc e.symm), nb_beatN _ _ _ _ _ (by omega) (by omega) (fun e => ab e.symm)]
  by_cases h1 : p = a <;> by_cases h2 : p = b <;> by_cases h3 : p = c <;> by_cases h4 : q = a <;> by_cases h5 : q = b <;> by_cases h6 : q = c <;> simp_all
theorem turnN_sets {n : Nat} {ns : List Nat} (h : Sets n ns) {a b c : Nat} (ha : a < n) (hb : b < n) (hc : c < n) (ab : a ≠ b) (bc : b ≠ c) (ca : c ≠ a) : Sets n (turnN ns a b c) :=
  beatN_sets (beatN_sets (beatN_sets h hb ha (fun e => ab e.symm)) hc hb (fun e => bc e.symm)) ha hc (fun e => ca e.symm)
/-- A circle's three are different. -/
theorem circ_ne {n : Nat} {ns : List Nat} (h : Tour n ns) {a b c : Nat} (hc : Circ n ns a b c) : a ≠ b ∧ b ≠ c ∧ c ≠ a := by
  obtain ⟨h1, h2, h3, h4, h5, h6⟩ := hc
  refine ⟨?_, ?_, ?_⟩ <;> rintro rfl
  · rw [h.1.2 _ h1] at h4; cases h4
  · rw [h.1.2 _ h2] at h5; cases h5
  · rw [h.1.2 _ h3] at h6; cases h6
theorem tour_ne {n : Nat} {ns : List Nat} (h : Tour n ns) {i j : Nat} (hi : i < n) (hj : j < n) (hij : i ≠ j) : nb ns i j = !nb ns j i := by
  by_cases c : j < i
  · have := h.2 i hi j c; cases h1 : nb ns i j <;> cases h2 : nb ns j i <;> simp_all
  · have := h.2 j hj i (by omega); cases h1 : nb ns i j <;> cases h2 : nb ns j i <;> simp_all
theorem scTurn_f {n : Nat} {ns : List Nat} (h : Tour n ns) (m : Int) {a b c : Nat} (hc : Circ n ns a b c) : spec_scTurn.f m (ints ns) a b c = some (m, ints (turnN ns a b c)) := by
  have hs := h.1.1
  have hl := hs.len
  have hn := hs.n8
  obtain ⟨ab, bc, ca⟩ := circ_ne h hc
  obtain ⟨h1, h2, h3, h4, h5, h6⟩ := hc
  have own : spec_l1Own.f (ints ns) = some (ints ns) := by
    unfold spec_l1Own.f; simp only [Option.bind_some]; rw [if_pos (by simp [ints_length]; omega)]; rfl
  have o1 : 2 ^ b ||| 2 ^ c < 2 ^ 62 := Nat.or_lt_two_pow (two_pow62 (by omega)) (two_pow62 (by omega))
  have o2 : 2 ^ a ||| 2 ^ c < 2 ^ 62 := Nat.or_lt_two_pow (two_pow62 (by omega)) (two_pow62 (by omega))
  have o3 : 2 ^ a ||| 2 ^ b < 2 ^ 62 := Nat.or_lt_two_pow (two_pow62 (by omega)) (two_pow62 (by omega))
  unfold spec_scTurn.f
  rw [own, Option.bind_some, if_pos (by omega), if_pos (by rw [ints_length]; omega), if_pos (by omega), if_pos (by omega)]
  have g2 : (b : Int) < ((ints ns).length : Int) := by rw [ints_length]; omega
  have g3 : (c : Int) < ((ints ns).length : Int) := by rw [ints_length]; omega
  simp only [Option.bind_some, if_pos g2, if_pos g3]
  rw [rd_ints, shl_one b (by omega), shl_one c (by omega), or_nat _ _ (two_pow62 (by omega)) (two_pow62 (by omega)), xor_nat _ _ (hs.get62 a) o1, ints_set]
  rw [rd_ints, getD_set, if_neg (fun e => ab e.1.symm), shl_one a (by omega), or_nat _ _ (two_pow62 (by omega)) (two_pow62 (by omega)), xor_nat _ _ (hs.get62 b) o2, ints_set]
  rw [rd_ints, getD_set, if_neg (fun e => bc e.1.symm), getD_set, if_neg (fun e => ca e.1), or_nat _ _ (two_pow62 (by omega)) (two_pow62 (by omega)), xor_nat _ _ (hs.get62 c) o3, ints_set]
  congr 3
  refine sets_ext (by simp [turnN_length]) fun p hp q => ?_
  simp only [List.length_set] at hp
  rw [nb_turnN hs h1 h2 h3 ab bc ca]
  have e1 := tour_ne h h1 h2 ab
  have e2 := tour_ne h h2 h3 bc
  have e3 := tour_ne h h3 h1 ca
  rw [h4] at e1; rw [h5] at e2; rw [h6] at e3
  have f1 : nb ns b a = false := by
    cases g : nb ns b a with
    | false => rfl
    | true => rw [g] at e1; cases e1
  have f2 : nb ns c b = false := by
    cases g : nb ns c b with
    | false => rfl
    | true => rw [g] at e2; cases e2
  have f3 : nb ns a c = false := by
    cases g : nb ns a c with
    | false => rfl
    | true => rw [g] at e3; cases e3
  show ((List.getD _ p 0).testBit q) = _
  simp only [getD_set, List.length_set]
  have hN : ∀ x y, (ns.getD x 0).testBit y = nb ns x y := fun _ _ => rfl
  by_cases p1 : p = c
  · subst p1
    rw [if_pos ⟨rfl, by omega⟩, Nat.testBit_xor, Nat.testBit_or, Nat.testBit_two_pow, Nat.testBit_two_pow, hN]
    by_cases q1 : q = a
    · subst q1; have z : ¬ q = p := fun e => ca e.symm; have z2 : ¬ b = q := fun e => ab e.symm; have z3 : ¬ p = b := fun e => bc e.symm; simp [h6, ca, z, ab, z2, z3]
    · by_cases q2 : q = b
      · subst q2; have z : ¬ p = q := fun e => bc e.symm; have z2 : ¬ a = q := fun e => q1 e.symm; simp [f2, z, q1, z2]
      · have z : ¬ p = b := fun e => bc e.symm; have z2 : ¬ a = q := fun e => q1 e.symm; have z3 : ¬ b = q := fun e => q2 e.symm; simp [q1, q2, z, z2, z3, ca]
  · rw [if_neg (fun e => p1 e.1)]
    by_cases p2 : p = b
    · subst p2
      rw [if_pos ⟨rfl, by omega⟩, Nat.testBit_xor, Nat.testBit_or, Nat.testBit_two_pow, Nat.testBit_two_pow, hN]
      by_cases q1 : q = a
      · subst q1; have z : ¬ p = q := fun e => ab e.symm; have z2 : ¬ c = q := ca; simp [f1, p1, z, z2]
      · by_cases q2 : q = c
        · subst q2; have z : ¬ p = a := fun e => ab e.symm; have z2 : ¬ a = q := fun e => q1 e.symm; simp [h5, p1, q1, z, z2]
        · have z : ¬ p = a := fun e => ab e.symm; have z2 : ¬ a = q := fun e => q1 e.symm; have z3 : ¬ c = q := fun e => q2 e.symm; simp [p1, q1, q2, z, z2, z3]
    · rw [if_neg (fun e => p2 e.1)]
      by_cases p3 : p = a
      · subst p3
        rw [if_pos ⟨rfl, by omega⟩, Nat.testBit_xor, Nat.testBit_or, Nat.testBit_two_pow, Nat.testBit_two_pow, hN]
        by_cases q1 : q = b
        · subst q1; have z : ¬ c = q := fun e => bc e.symm; simp [h4, p1, p2, bc, z]
        · by_cases q2 : q = c
          · subst q2; simp [f3, p2, q1]
          · have z2 : ¬ b = q := fun e => q1 e.symm; have z3 : ¬ c = q := fun e => q2 e.symm; simp [p1, p2, q1, q2, z2, z3]
      · rw [if_neg (fun e => p3 e.1), hN]; simp [p1, p2, p3]

end Go.Proofs.Ytjkhdblhbjndiaa.K

/- The law FnExactTurnCircle holds: the program's TurnCircle returns what the reference's returns, for every tournament and numbers, valid or not (no condition). -/
namespace Go.Proofs.Ytjkhdblhbjndiaa.Pure
open Go.RowKit Go.Proofs.YtjkhdblhbjndiaaW.PrintWords Go.Proofs.Ytjkhdblhbjndiaa.P Go.Proofs.Ytjkhdblhbjndiaa.K
set_option linter.unusedVariables false
set_option linter.unusedSimpArgs false

theorem turncircle_both (t : Int) (l : List Int) (a b c : Int) (hl : l.length ≤ BM) : ∃ r, Ev (fun k => spec_TurnCircle.f k t l a b c) r ∧ Ev (fun k => impl_TurnCircle.f k t l a b c) r ∧ r.2.1.length ≤ 8 := by
  unfold spec_TurnCircle.f impl_TurnCircle.f
  obtain ⟨o, ho, hoo⟩ := (scGood_f t l hl).ev
  obtain ⟨o', ho', hoo'⟩ := (IsTournament_f t l hl).ev
  have e : o = o' := by rw [Bool.eq_iff_iff, hoo, hoo']
  subst e
  cases o with
  | false => exact ⟨(0, [], false), Ev.bind ho (by simpa using Ev.now _), Ev.bind ho' (by simpa using Ev.now _), by simp⟩
  | true =>
    obtain ⟨n, ns, rfl, rfl, ht⟩ := hoo.1 rfl
    have hs := ht.1.1
    have hlen := hs.len
    have hn := hs.n8
    obtain ⟨hi, hsp⟩ := circ_f hs a b c
    by_cases hc : ∃ i j l : Nat, a = i ∧ b = j ∧ c = l ∧ Circ n ns i j l
    · have hi := hi.1 hc
      have hsp := hsp.1 hc
      obtain ⟨i, j, l, rfl, rfl, rfl, hc⟩ := hc
      obtain ⟨ab, bc, ca⟩ := circ_ne ht hc
      refine ⟨((n : Int), ints (turnN ns i j l), true), Ev.bind ho ?_, Ev.bind ho' ?_, by simp [ints_length, turnN_length]; omega⟩
      · simp only [if_true]
        refine Ev.bind hsp ?_
        simp only [if_true, scTurn_f ht _ hc, Option.bind_some]
        exact Ev.now _
      · simp only [if_true]
        refine Ev.bind hi ?_
        simp only [if_true]
        exact Ev.bind (turned_f hs _ hc.1 hc.2.1 hc.2.2.1 ab bc ca) (Ev.now _)
    · refine ⟨(0, [], false), Ev.bind ho ?_, Ev.bind ho' ?_, by simp⟩
      · simp only [if_true]
        exact Ev.bind (hsp.2 hc) (by simpa using Ev.now _)
      · simp only [if_true]
        exact Ev.bind (hi.2 hc) (by simpa using Ev.now _)
theorem FnExactTurnCircle : ∀ (a : Int) (l : List Int) (x y z : Int), (Lit.int .i64 a).wf = true → l.length ≤ maxLen → (∀ n ∈ l, (Lit.int .i64 n).wf = true) → (Lit.int .i64 x).wf = true → (Lit.int .i64 y).wf = true → (Lit.int .i64 z).wf = true → ∃ k, laws_FnExactTurnCircle.f k a l x y z = some true := by
  intro a l x y z _ hl _ _ _ _
  refine Ev.rounds (g := fun k => laws_FnExactTurnCircle.f k a l x y z) ?_
  unfold laws_FnExactTurnCircle.f
  obtain ⟨r, hr, hr'⟩ := szTournament_f a l hl
  rw [hr]
  simp only [Option.bind_some]
  refine Ev.ite (fun _ => Ev.now _) (fun h => ?_)
  have h : l.length ≤ BM := by have := hr' (by omega); simp only [BM]; omega
  obtain ⟨⟨n, m, ok⟩, hs, hi, hm⟩ := turncircle_both a l x y z h
  have hm : m.length ≤ 8 := hm
  have hm' : m.length ≤ BM := by simp only [BM]; omega
  have n1 : ¬ (1 + (l.length : Int) < 0) := by omega
  have n2 : ¬ (1 + (m.length : Int) < 0) := by omega
  have b1 : (1 : Int) + l.length ≤ 4611686018427387904 := by simp only [BM] at h; omega
  have b2 : (1 : Int) + m.length ≤ 4611686018427387904 := by omega
  refine Ev.bind (toTournament_f a l h) (Ev.bind hs (Ev.bind (toTournament_f a l h) (Ev.bind hi ?_)))
  repeat' first
    | exact Ev.now true
    | refine Ev.bind hi ?_
    | refine Ev.bind (toTournament_f a l h) ?_
    | refine Ev.bind (eqTournament_same _ _ h) ?_
    | refine Ev.bind (eqTournament_same _ _ hm') ?_
    | refine Ev.bind (markTournament_f _ l 1 h (by omega) b1) ?_
    | refine Ev.bind (markTournament_f _ m 1 hm' (by omega) b2) ?_
    | refine Ev.bind (heldTournament_f _ 1 m.length hm' (by omega) b2) ?_
    | simp only [if_true, bne_self_eq_false, Bool.false_eq_true, if_false, if_neg n1, if_neg n2]
    | refine Ev.step (fun k => by first | rw [laws_FnExactTurnCircle.j0] | rw [laws_FnExactTurnCircle.j1] | rw [laws_FnExactTurnCircle.j2]) ?_

end Go.Proofs.Ytjkhdblhbjndiaa.Pure

namespace Go.Proofs.Ytjkhdblhbjndiaa.K
open Go.RowKit Go.ChangeShapes Go.WideShapes Go.ChangeAt Go.Deep Go.Proofs.YtjkhdblhbjndiaaW.PrintWords
set_option linter.unusedVariables false
set_option linter.unusedSimpArgs false
section
variable {H : Type} {enc : TypeId × Value → H} {P : Program} {w : World}

/-- A row of whole numbers among the arguments. -/
theorem open_row {t e : TypeId} {fuel : Nat} {cs : List Value} {x : DataW H × List MemPlace} (ht : P.underlying t = some (.slice e)) (he : P.underlying e = some (.int .i64)) (hc : P.cellsOf e = 1)
    (h : DataW.trod enc P w 0 (fun _ => true) true fuel t cs = some x) :
    ∃ (A : Option Addr) (c : Nat) (l : List Int), cs = [.slice A l.length c] ∧ l.length ≤ c ∧ l.length ≤ maxLen ∧ (∀ n ∈ l, (Lit.int .i64 n).wf = true) ∧ Kd.C (Kd.int .i64) w A l.length l := by
  rcases open_ints ht he hc h with ⟨rfl, _⟩ | ⟨a, l, c, zs, rfl, _, hl, hm, hz, _, hcell, hwz⟩
  · exact ⟨none, 0, [], rfl, Nat.le_refl _, by simp [maxLen], by simp, Kd.C_nil _ _⟩
  · obtain ⟨l0, rfl, hr0, hm0, hw0, hc0⟩ := ReadsInt.ofRowC (k := .i64) (w := w) (a := some a) (len := l) (cap := c) (zs := zs) (.inr ⟨a, rfl, hl, hm, by simpa using hz, hcell, hwz⟩)
    exact ⟨some a, c, l0, rfl, hc0, hm0, hw0, Kd.C_of_reads (d := (0 : Int)) (h1 := fun _ => rfl) hr0⟩
/-- A slice of rows of whole numbers among the arguments. -/
theorem open_rows {t e q : TypeId} {fuel : Nat} {cs : List Value} {x : DataW H × List MemPlace} (ht : P.underlying t = some (.slice e)) (he : P.underlying e = some (.slice q)) (hq : P.underlying q = some (.int .i64))
    (ce : P.cellsOf e = 1) (cq : P.cellsOf q = 1) (h : DataW.trod enc P w 0 (fun _ => true) true fuel t cs = some x) :
    ∃ (A : Option Addr) (c : Nat) (l : List (List Int)), cs = [.slice A l.length c] ∧ l.length ≤ c ∧ l.length ≤ maxLen ∧ (∀ r ∈ l, r.length ≤ maxLen ∧ ∀ n ∈ r, (Lit.int .i64 n).wf = true) ∧ Kd.C (Kd.slice q (Kd.int .i64)) w A l.length l := by
  rcases open_int_rows ht he hq ce cq h with ⟨rfl, _⟩ | ⟨a, len, cap, A, L, C, Z, rfl, _, hl, hm, _, hr⟩
  · exact ⟨none, 0, [], rfl, Nat.le_refl _, by simp [maxLen], by simp, Kd.C_nil _ _⟩
  · have hrow : ∀ r, r < cap → ∃ l0 : List Int, L r = l0.length ∧ l0.length ≤ C r ∧ l0.length ≤ maxLen ∧ (∀ n ∈ l0, (Lit.int .i64 n).wf = true) ∧ Kd.C (Kd.int .i64) w (A r) l0.length l0 := by
      intro r hrc
      obtain ⟨h1, h2, h3, h4, h5, h6, h7⟩ := hr r hrc
      cases hA : A r with
      | none =>
        have hC := h6 hA
        exact ⟨[], by simp; omega, by simp, by simp [maxLen], by simp, Kd.C_nil _ _⟩
      | some a' =>
        obtain ⟨_, h8⟩ := h7 a' hA
        obtain ⟨l0, e0, hr0, hm0, hw0, hc0⟩ := ReadsInt.ofRowC (k := .i64) (w := w) (a := some a') (len := L r) (cap := C r) (zs := Z r) (.inr ⟨a', rfl, h2, h3, h4, fun i hi => h8 i (by omega), h5⟩)
        exact ⟨l0, e0, hc0, hm0, hw0, Kd.C_of_reads (d := (0 : Int)) (h1 := fun _ => rfl) hr0⟩
    let F : Nat → List Int := fun r => if h : r < cap then Classical.choose (hrow r h) else []
    have hF : ∀ r, r < cap → L r = (F r).length ∧ (F r).length ≤ C r ∧ (F r).length ≤ maxLen ∧ (∀ n ∈ F r, (Lit.int .i64 n).wf = true) ∧ Kd.C (Kd.int .i64) w (A r) (F r).length (F r) := by
      intro r h
      have := Classical.choose_spec (hrow r h)
      simpa [F, h] using this
    refine ⟨some a, cap, (List.range len).map F, by simp, by simpa using hl, by simp; omega, ?_, ?_⟩
    · intro r hmem
      obtain ⟨i, hi, rfl⟩ := List.mem_map.1 hmem
      have := hF i (by have := List.mem_range.1 hi; omega)
      exact ⟨this.2.2.1, this.2.2.2.1⟩
    · refine ⟨by simp, by simp; unfold maxLen at hm; omega, fun _ => ⟨a, rfl, ?_⟩⟩
      intro j p hp
      obtain ⟨hj, rfl⟩ : j < len ∧ F j = p := by
        rw [List.getElem?_map] at hp
        by_cases hj : j < len
        · rw [List.getElem?_range hj] at hp; simpa [hj] using hp
        · rw [List.getElem?_eq_none (by simp; omega)] at hp; simp at hp
      obtain ⟨f1, f2, f3, f4, f5⟩ := hF j (by omega)
      obtain ⟨h1, _⟩ := hr j (by omega)
      refine ⟨[.slice (A j) (F j).length (C j)], rfl, ⟨A j, C j, rfl, f2, f5⟩, ?_⟩
      intro i u hu
      cases i with
      | zero =>
        obtain rfl : Value.slice (A j) (F j).length (C j) = u := by simpa using hu
        rw [f1] at h1
        show w.cell? (a.add (j * 1 + 0)) = _
        rw [Nat.mul_one, Nat.add_zero]; exact h1
      | succ i => simp at hu
end
end Go.Proofs.Ytjkhdblhbjndiaa.K

/- The row of the law FnExactTurnCircle: for every input the call returns true, and the arguments read as before; out of the law's pure statement and the walk. No condition. -/
namespace Go.Proofs.Ytjkhdblhbjndiaa.fnExactTurnCircle
open Go.ChangeShapes Go.WideShapes Go.ChangeAt Go.RowKit
open Go.ChangeMaps (open_string shut_string)
set_option linter.unusedVariables false
set_option linter.unusedSimpArgs false
theorem own : ownKnob Try.prog.godebug = none := by kernel_rfl
theorem laidOut : laidOutB Try.prog = true := by kernel_rfl
set_option maxRecDepth 100000 in
theorem lifted (os : Os) (started : os.Started) (H : Type) (enc : TypeId × Value → H) :
    ReturnsInHanded {} Try.checked os 8 .any (Rows.fnExactTurnCircleSpec.pre6 enc Try.prog Try.f8 Rows.fnExactTurnCircleRow.domain false) (Rows.fnExactTurnCircleSpec.post enc Try.prog Try.f8 false true false false) := by
  refine returnsInHanded_of_change_sized (C := Try.checked) own started (by kernel_rfl) Try.func8
    (ChangeSpec.witness6 (enc := enc) (C := Try.checked) false ⟨#[], #[.agg #[.int .i64 0, .slice none 0 0], .int .i64 0, .int .i64 0, .int .i64 0], []⟩ 8 (by kernel_rfl) (by kernel_rfl) (by kernel_rfl) (by kernel_rfl)) ?_
  intro W base args ds gs before hval0 hW hcnd hsz0 _
  have hsz : (DataW.weightsEach Try.prog (Try.f8.params.toList ++ Rows.fnExactTurnCircleSpec.plain.varTypes Try.prog) (ds ++ gs)).all (· ≤ reachBytes) = true := hsz0
  have hval : ∀ (j : Nat) t v, Try.f8.params[j]? = some t → args[j]? = some v → Value.okWide Try.prog W .any base t v := hval0
  have hW' := hW
  obtain ⟨p, q, hA0, hV, rfl, hfz, hnd⟩ := hW
  have hA : DataW.TrodAll enc Try.prog W 0 (fun _ => true) true Try.f8.params.toList args.toList ds p := hA0
  rw [Try.params8] at hA hval hsz
  obtain ⟨v0, vs0, d0, ds0, p0, q0, hargs, rfl, rfl, h0, r0⟩ := trodAll_cons hA
  obtain ⟨v1, vs1, d1, ds1, p1, q1, rfl, rfl, rfl, h1, r1⟩ := trodAll_cons r0
  obtain ⟨v2, vs2, d2, ds2, p2, q2, rfl, rfl, rfl, h2, r2⟩ := trodAll_cons r1
  obtain ⟨v3, vs3, d3, ds3, p3, q3, rfl, rfl, rfl, h3, r3⟩ := trodAll_cons r2
  obtain ⟨rfl, rfl, rfl⟩ := trodAll_nil r3
  obtain rfl : args = #[v0, v1, v2, v3] := by cases args; simp_all
  obtain ⟨rfl, rfl⟩ := trodVars_none hV
  have k0 := h0
  have lt0 : ∀ x ∈ p0, x.block < W.heap.size := by obtain ⟨m, hm⟩ := k0; exact DataW.trod_lt m _ _ _ hm
  obtain ⟨u0_0, u0_1, y0_0, y0_1, m0, rfl, rfl, rfl, g0_0, g0_1⟩ := Joins.open_agg2 Try.underlying30 (by kernel_rfl) (by kernel_rfl) (hval 0 30 v0 rfl rfl) h0
  obtain ⟨a0_0, hcs0_0, _, w0_0⟩ := DataW.trod_int Try.underlying3 g0_0
  obtain rfl := List.singleton_inj.1 hcs0_0
  obtain ⟨A0_1, c0_1, l0_1, hcs0_1, hc0_1, hm0_1, hw0_1, hr0_1⟩ := K.open_row Try.underlying22 Try.underlying3 (by kernel_rfl) g0_1
  obtain rfl := List.singleton_inj.1 hcs0_1
  obtain ⟨a1, rfl, rfl, rfl, w1⟩ := open_int Try.underlying3 (hval 1 3 v1 rfl rfl) h1
  obtain ⟨a2, rfl, rfl, rfl, w2⟩ := open_int Try.underlying3 (hval 2 3 v2 rfl rfl) h2
  obtain ⟨a3, rfl, rfl, rfl, w3⟩ := open_int Try.underlying3 (hval 3 3 v3 rfl rfl) h3
  clear hA0 hval0 hsz0 hsz
  obtain ⟨k, hk⟩ := Pure.FnExactTurnCircle a0_0 l0_1 a1 a2 a3 w0_0 hm0_1 hw0_1 w1 w2 w3
  refine (P.laws_FnExactTurnCircle.calls k a0_0 _ _ l0_1 a1 a2 a3 true W hr0_1 hc0_1 hk).mono fun e W' ⟨he, bel⟩ => ?_
  subst he
  exact ⟨_, rfl, _, _, _, [], _, [], hW', trodAll_mk1 (shut_bool Try.underlying4 _), (trodAll_cons_mk (Below.trod laidOut (by kernel_rfl) (of_decide_eq_true (by kernel_rfl)) k0 bel lt0) (trodAll_cons_mk (shut_int Try.underlying3 w1) (trodAll_cons_mk (shut_int Try.underlying3 w2) (trodAll_cons_mk (shut_int Try.underlying3 w3) trodAll_mk0)))), rfl, bel.frame _, fun h => by cases h⟩
set_option maxHeartbeats 4000000 in
theorem joined : joinedFacts Try.prog 8 Try.f8 Rows.fnExactTurnCircleSpec Rows.fnExactTurnCircleRow = true := by
  unfold joinedFacts
  repeat' (with_reducible refine (Bool.and_eq_true _ _).mpr ⟨?_, ?_⟩)
  all_goals first
    | (with_reducible exact Head.mayEnter)
    | ((with_reducible rw [Head.lifts]); rfl)
    | ((with_reducible rw [Head.make]); rfl)
    | (as_aux_lemma => kernel_rfl)
theorem over : Rows.fnExactTurnCircleRow.holds Try.pinned (OpenSpec.ofChange Rows.fnExactTurnCircleSpec) :=
  OpenClaim.holds_of_wide 8 Try.f8 rfl rfl rfl rfl rfl rfl rfl ⟨rfl, rfl, rfl, rfl, rfl⟩ rfl rfl rfl rfl rfl (by kernel_rfl) Try.func8 joined
    (of_decide_eq_true (by kernel_rfl)) (by unfold Func.isWrapper; first | (rw [if_pos (by decide +kernel)]; kernel_rfl) | (rw [if_neg (by decide +kernel)]; exact ⟨rfl, rfl⟩))
    (fun os started H enc _ => lifted os started H enc)
theorem proved : Rows.FnExactTurnCircleSaid := over
#print axioms proved
end Go.Proofs.Ytjkhdblhbjndiaa.fnExactTurnCircle
namespace Go.Proofs.Ytjkhdblhbjndiaa
/-- The row, under a short name, for the claim. -/
theorem fnExactTurnCircle_holds : Rows.FnExactTurnCircleSaid := fnExactTurnCircle.proved
end Go.Proofs.Ytjkhdblhbjndiaa
