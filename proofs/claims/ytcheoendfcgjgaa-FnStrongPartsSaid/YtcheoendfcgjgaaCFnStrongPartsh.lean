/- The row of the law FnStrongParts: contracts and plain lemmas for the law FnStrongParts, part 8 of 8 (what the Go functions answer). -/
import Derived.Test.YtcheoendfcgjgaaRows
import Derived.WalkKit
import Derived.ProofKit
import Derived.OpenShut
import Derived.ShutString
import Derived.ChangeOld
import Derived.Below
import Derived.SizedLaws
import Derived.Test.YtcheoendfcgjgaaCFnStrongPartsa
import Derived.Test.YtcheoendfcgjgaaCFnStrongPartsb
import Derived.Test.YtcheoendfcgjgaaCFnStrongPartsc
import Derived.Test.YtcheoendfcgjgaaCFnStrongPartsd
import Derived.Test.YtcheoendfcgjgaaCFnStrongPartse
import Derived.Test.YtcheoendfcgjgaaCFnStrongPartsf
import Derived.Test.YtcheoendfcgjgaaCFnStrongPartsg
set_option linter.unusedVariables false
set_option linter.unusedSimpArgs false
namespace Go.Proofs.Ytcheoendfcgjgaa.K
open Go.RowKit Go.Proofs.YtcheoendfcgjgaaW.PrintWords Go.Proofs.YtcheoendfcgjgaaW.PrintMore Go.Proofs.Ytcheoendfcgjgaa.P Go.Proofs.Ytcheoendfcgjgaa.M
theorem bt_nb (ns : List Nat) (i j : Nat) : bt ns i j = nb ns i j := rfl
theorem Sets.bt_lt {n : Nat} {ns : List Nat} (h : Sets n ns) (i j : Nat) (hb : bt ns i j = true) : j < ns.length := by
  apply Classical.byContradiction
  intro hj
  have := h.nb_lt (i := i) (j := j) (by have := h.len; omega)
  rw [bt_nb, this] at hb; cases hb
theorem piv_lt {n : Nat} {m : List Nat} (h : ∀ x ∈ m, x < 2 ^ n) (k : Nat) : ∀ x ∈ piv m k, x < 2 ^ n := by
  intro x hx
  unfold piv at hx
  obtain ⟨y, hy, rfl⟩ := List.mem_map.1 hx
  unfold pivF
  split
  · refine Nat.or_lt_two_pow (h y hy) ?_
    rw [List.getD_eq_getElem?_getD]
    cases e : m[k]? with
    | none => exact Nat.two_pow_pos n
    | some z => exact h z (List.mem_of_getElem? e)
  · exact h y hy
theorem start_lt {n : Nat} {ns : List Nat} (h : Sets n ns) : ∀ x ∈ startM ns, x < 2 ^ n := by
  intro x hx
  unfold startM at hx
  obtain ⟨i, hi, rfl⟩ := List.mem_map.1 hx
  rw [List.mem_range, h.len] at hi
  exact Nat.or_lt_two_pow (h.get i) (Nat.pow_lt_pow_right (by decide) hi)
theorem lt62 {n x : Nat} (hn : n ≤ 8) (h : x < 2 ^ n) : x < 2 ^ 62 := Nat.lt_of_lt_of_le h (Nat.le_trans (pow8 hn) (by decide))
theorem getD_lt {n : Nat} {m : List Nat} (h : ∀ x ∈ m, x < 2 ^ n) (i : Nat) : m.getD i 0 < 2 ^ n := by
  rw [List.getD_eq_getElem?_getD]
  cases e : m[i]? with
  | none => exact Nat.two_pow_pos n
  | some z => exact h z (List.mem_of_getElem? e)
def half (m : List Nat) (k i : Nat) : List Nat := (piv m k).take i ++ m.drop i
theorem half_len {n : Nat} {m : List Nat} (hm : m.length = n) (k i : Nat) (hi : i ≤ n) : (half m k i).length = n := by
  unfold half; rw [List.length_append, List.length_take, List.length_drop, piv_length]; omega
theorem half_get {m : List Nat} (k i j : Nat) (hi : i ≤ m.length) : (half m k i).getD j 0 = if j < i then (piv m k).getD j 0 else m.getD j 0 := by
  unfold half
  simp only [List.getD_eq_getElem?_getD]
  have hl : ((piv m k).take i).length = i := by rw [List.length_take, piv_length]; omega
  by_cases h : j < i
  · rw [if_pos h, List.getElem?_append_left (by omega), List.getElem?_take_of_lt h]
  · rw [if_neg h, List.getElem?_append_right (by omega), List.getElem?_drop, hl]
    congr 2; omega
theorem piv_get (m : List Nat) (k j : Nat) : (piv m k).getD j 0 = pivF (m.getD k 0) k (m.getD j 0) := by
  unfold piv
  simp only [List.getD_eq_getElem?_getD, List.getElem?_map]
  cases m[j]? with
  | none => simp [pivF]
  | some s => rfl
theorem half_piv {m : List Nat} (k i : Nat) (hi : i ≤ m.length) : (half m k i).getD k 0 = m.getD k 0 := by
  rw [half_get k i k hi]
  split
  · rw [piv_get]; unfold pivF; split
    · exact Nat.or_self _
    · rfl
  · rfl
theorem half_set {m : List Nat} (k i : Nat) (hi : i < m.length) : (half m k i).set i (pivF (m.getD k 0) k (m.getD i 0)) = half m k (i + 1) := by
  apply List.ext_getElem?
  intro j
  have e : ∀ (l : List Nat), j < l.length → l[j]? = some (l.getD j 0) := fun l h => by rw [List.getD_eq_getElem?_getD, List.getElem?_eq_getElem h]; rfl
  by_cases hj : j < m.length
  · rw [e _ (by rw [List.length_set, half_len rfl k i (by omega)]; exact hj), e _ (by rw [half_len rfl k (i + 1) (by omega)]; exact hj)]
    congr 1
    rw [List.getD_eq_getElem?_getD, List.getElem?_set]
    by_cases hij : i = j
    · subst hij
      rw [if_pos rfl, if_pos (by rw [half_len rfl k i (by omega)]; exact hj), half_get k (i + 1) i (by omega), if_pos (by omega), piv_get]
      rfl
    · rw [if_neg hij, ← List.getD_eq_getElem?_getD, half_get k i j (by omega), half_get k (i + 1) j (by omega)]
      by_cases h : j < i
      · rw [if_pos h, if_pos (by omega)]
      · rw [if_neg h, if_neg (by omega)]
  · rw [List.getElem?_eq_none (by rw [List.length_set, half_len rfl k i (by omega)]; omega), List.getElem?_eq_none (by rw [half_len rfl k (i + 1) (by omega)]; omega)]
theorem half_skip {m : List Nat} (k i : Nat) (hi : i < m.length) (h : (m.getD i 0).testBit k = false) : half m k i = half m k (i + 1) := by
  rw [← half_set k i hi]
  have : pivF (m.getD k 0) k (m.getD i 0) = (half m k i).getD i 0 := by
    rw [half_get k i i (by omega), if_neg (by omega)]; unfold pivF; rw [if_neg (by rw [h]; simp)]
  rw [this]
  apply List.ext_getElem?
  intro j
  rw [List.getElem?_set]
  split
  · rename_i e; subst e
    split
    · rename_i e2; rw [List.getElem?_eq_getElem e2, List.getD_eq_getElem?_getD, List.getElem?_eq_getElem e2]; rfl
    · rename_i e2; rw [List.getElem?_eq_none (by omega)]
  · rfl
theorem reached_l2 {n : Nat} (hn : n ≤ 8) {m : List Nat} (hm : m.length = n) (hlt : ∀ x ∈ m, x < 2 ^ n) (k : Nat) (hk : k < n) (r : List Int)
    (hr : Ev (fun q => impl_reached.l1 q (ints (piv m k)) (n : Int) ((k + 1 : Nat) : Int)) r) : ∀ d i, i + d = n → Ev (fun q => impl_reached.l2 q (ints (half m k i)) (k : Int) (n : Int) (k : Int) (n : Int) (i : Int)) r
  | 0, i, h => by
    have e : half m k i = piv m k := by unfold half; rw [List.take_of_length_le (by rw [piv_length]; omega), List.drop_of_length_le (by omega)]; simp
    rw [e]
    refine Ev.step (fun q => ?_) hr
    rw [impl_reached.l2, if_neg (by omega), wrap_nat k (by omega)]
  | d + 1, i, h => by
    have ih := reached_l2 hn hm hlt k hk r hr d (i + 1) (by omega)
    have hl := half_len hm k i (by omega)
    have g1 : (half m k i).getD i 0 = m.getD i 0 := by rw [half_get k i i (by omega), if_neg (by omega)]
    have g2 := half_piv (m := m) k i (by omega)
    have a1 := lt62 hn (getD_lt hlt i)
    have a2 := lt62 hn (getD_lt hlt k)
    refine Ev.step (fun q => ?_) ih
    rw [impl_reached.l2, if_pos (by omega), if_pos (by omega), if_pos (by rw [ints_length, hl]; omega), rd_ints, rd_ints, g1, g2, has_f _ _ a1, Option.bind_some, wrap_nat i (by omega)]
    cases hb : (m.getD i 0).testBit k with
    | true =>
      rw [if_pos rfl, if_pos (by omega), if_pos (by rw [ints_length, hl]; omega), or_nat _ _ a1 a2, ints_set, ← half_set k i (by omega)]
      unfold pivF
      rw [if_pos hb]
    | false => rw [if_neg (by simp), half_skip k i (by omega) hb]
theorem reached_l1 {n : Nat} (hn : n ≤ 8) : ∀ (d k : Nat) (m : List Nat), m.length = n → (∀ x ∈ m, x < 2 ^ n) → k + d = n → Ev (fun q => impl_reached.l1 q (ints m) (n : Int) (k : Int)) (ints ((List.range' k d).foldl piv m))
  | 0, k, m, hm, hlt, h => Ev.step (fun q => by rw [impl_reached.l1, if_neg (by omega)]) (Ev.some (by simp))
  | d + 1, k, m, hm, hlt, h => by
    have ih := reached_l1 hn d (k + 1) (piv m k) (by rw [piv_length, hm]) (piv_lt hlt k) (by omega)
    rw [List.range'_succ, List.foldl_cons]
    have := reached_l2 hn hm hlt k (by omega) _ ih n 0 (by omega)
    have e : half m k 0 = m := by simp [half]
    rw [e] at this
    refine Ev.step (fun q => ?_) this
    rw [impl_reached.l1, if_pos (by omega), ints_length, hm]
    rfl
theorem start_get {ns : List Nat} (j : Nat) (hj : j < ns.length) : (startM ns)[j]? = some (ns.getD j 0 ||| 2 ^ j) := by
  unfold startM
  rw [List.getElem?_map, List.getElem?_range hj]; rfl
theorem reached_l0 {n : Nat} {ns : List Nat} (h : Sets n ns) (r : List Int) (hr : Ev (fun q => impl_reached.l1 q (ints (startM ns)) (n : Int) 0) r) : ∀ d j, j + d = n → Ev (fun q => impl_reached.l0 q (ints ((startM ns).take j)) (ints ns) (n : Int) (j : Int)) r
  | 0, j, e => by
    have hl := h.len
    have : (startM ns).length = n := by simp [startM, hl]
    rw [List.take_of_length_le (by omega)]
    refine Ev.step (fun q => ?_) hr
    rw [impl_reached.l0, if_neg (by omega), ints_length, this]
  | d + 1, j, e => by
    have hl := h.len
    have hn := h.n8
    have ih := reached_l0 h r hr d (j + 1) (by omega)
    have ht : (startM ns).take (j + 1) = (startM ns).take j ++ [ns.getD j 0 ||| 2 ^ j] := by
      rw [List.take_add_one, start_get j (by omega)]; rfl
    have hp : 2 ^ j < 2 ^ 62 := Nat.pow_lt_pow_right (by decide) (by omega)
    refine Ev.step (fun q => ?_) ih
    rw [impl_reached.l0, if_pos (by omega), if_pos (by omega), if_pos (by rw [ints_length]; omega), if_pos (by rw [ints_length, List.length_take]; omega), rd_ints, shl_one j (by omega), or_nat _ _ (h.get62 j) hp, wrap_nat j (by omega), ht]
    simp [ints]
theorem reached_f {n : Nat} {ns : List Nat} (h : Sets n ns) : Ev (fun q => impl_reached.f q (n : Int) (ints ns)) (ints (warshall ns)) := by
  have hl := h.len
  have h1 := reached_l1 h.n8 n 0 (startM ns) (by simp [startM, hl]) (start_lt h) (by omega)
  have := reached_l0 h _ h1 n 0 (by omega)
  unfold impl_reached.f warshall
  rw [List.range_eq_range', hl, ints_length, hl]
  simpa [ints] using this
theorem warshall_lt {n : Nat} {ns : List Nat} (h : Sets n ns) : ∀ x ∈ warshall ns, x < 2 ^ n := by
  have : ∀ (l : List Nat) (m : List Nat), (∀ x ∈ m, x < 2 ^ n) → ∀ x ∈ l.foldl piv m, x < 2 ^ n := by
    intro l
    induction l with
    | nil => intro m h; exact h
    | cons k l ih => intro m h; rw [List.foldl_cons]; exact ih _ (piv_lt h k)
  exact this _ _ (start_lt h)
theorem swF_lt {n : Nat} {ns : List Nat} (h : Sets n ns) {s : Nat} (hs : s < 2 ^ n) (j : Nat) : swF ns s j < 2 ^ n := by
  unfold swF
  split
  · exact Nat.or_lt_two_pow hs (h.get j)
  · exact hs
theorem scReached_l1 {n : Nat} {ns : List Nat} (h : Sets n ns) (t : Nat) (r : Int) : ∀ (d j s : Nat), j + d = n → s < 2 ^ n →
    (Ev (fun q => spec_scReached.l0 q (((List.range' j d).foldl (swF ns) s : Nat) : Int) (wrap64 ((t : Int) + 1)) (n : Int) (ints ns)) r) → Ev (fun q => spec_scReached.l1 q (s : Int) (t : Int) (ints ns) (n : Int) (j : Int) (n : Int) (ints ns)) r
  | 0, j, s, e, hs, hr => by
    refine Ev.step (fun q => ?_) hr
    rw [spec_scReached.l1, if_neg (by omega)]
    rfl
  | d + 1, j, s, e, hs, hr => by
    have hl := h.len
    have hn := h.n8
    have a1 := lt62 hn hs
    rw [List.range'_succ, List.foldl_cons] at hr
    have ih := scReached_l1 h t r d (j + 1) (swF ns s j) (by omega) (swF_lt h hs j) hr
    refine Ev.step (fun q => ?_) ih
    rw [spec_scReached.l1, if_pos (by omega), if_pos (by omega), if_pos (by rw [ints_length]; omega), deHas_f _ _ a1, Option.bind_some, rd_ints, or_nat _ _ a1 (h.get62 j), wrap_nat j (by omega)]
    unfold swF
    cases hb : s.testBit j with
    | true => rw [if_pos rfl, if_pos rfl]
    | false => rw [if_neg (by simp), if_neg (by simp)]
theorem sweep_lt {n : Nat} {ns : List Nat} (h : Sets n ns) : ∀ (l : List Nat) (s : Nat), s < 2 ^ n → l.foldl (swF ns) s < 2 ^ n
  | [], s, hs => hs
  | j :: l, s, hs => sweep_lt h l _ (swF_lt h hs j)
theorem scReached_l0 {n : Nat} {ns : List Nat} (h : Sets n ns) : ∀ (d t s : Nat), t + d = n → s < 2 ^ n → Ev (fun q => spec_scReached.l0 q (s : Int) (t : Int) (n : Int) (ints ns)) ((sweeps ns d s : Nat) : Int)
  | 0, t, s, e, hs => Ev.step (fun q => by rw [spec_scReached.l0, if_neg (by omega)]) (Ev.some (by simp [sweeps]))
  | d + 1, t, s, e, hs => by
    have hl := h.len
    have hn := h.n8
    have ih := scReached_l0 h d (t + 1) (sweep ns s) (by omega) (sweep_lt h _ s hs)
    have := scReached_l1 h t ((sweeps ns (d + 1) s : Nat) : Int) n 0 s (by omega) hs (by
      rw [wrap_nat t (by omega)]
      have e : (List.range' 0 n).foldl (swF ns) s = sweep ns s := by unfold sweep; rw [List.range_eq_range', hl]
      rw [e]
      exact ih)
    refine Ev.step (fun q => ?_) this
    rw [spec_scReached.l0, if_pos (by omega), ints_length, hl]
    rfl
theorem scReached_f {n : Nat} {ns : List Nat} (h : Sets n ns) (i : Nat) (hi : i < n) : Ev (fun q => spec_scReached.f q (n : Int) (ints ns) (i : Int)) (((warshall ns).getD i 0 : Nat) : Int) := by
  have hl := h.len
  have hn := h.n8
  have := scReached_l0 h n 0 (2 ^ i) (by omega) (Nat.pow_lt_pow_right (by decide) hi)
  unfold spec_scReached.f
  rw [reached_same ns h.bt_lt, List.getD_eq_getElem?_getD, List.getElem?_map, List.getElem?_range (by omega), hl]
  simp only [if_pos (show 0 ≤ (i : Int) by omega), shl_one i (by omega)]
  exact this
def szs (ns : List Nat) : List Nat := (warshall ns).map pop
theorem l1Put_l0 (n : Int) : ∀ (rest done : List Int), (done ++ rest).length ≤ 1000 → (∀ x ∈ done, x < n) → Ev (fun k => spec_l1Put.l0 k (done ++ rest) n (done.length : Int)) (done ++ putI n rest)
  | [], done, h, hd => by
    simp only [List.append_nil] at h ⊢
    refine Ev.step (fun k => ?_) (Ev.some (show done ++ [n] = done ++ putI n [] from rfl))
    rw [spec_l1Put.l0, if_neg (by omega)]
    simp only [Option.bind_some, List.nil_append, Int.toNat_natCast, List.take_length, List.drop_length, List.length_append, List.length_nil, List.length_singleton, List.append_nil]
    rw [if_pos (by omega), if_pos (by omega), if_pos (by omega), if_pos (by omega), if_pos (by omega)]
  | z :: rest, done, h, hd => by
    obtain ⟨h1, h2, h3, h4, h5⟩ := mid z done rest (by simp only [BM]; omega)
    by_cases c1 : z < n
    · have ih := l1Put_l0 n rest (done ++ [z]) (by rw [h5]; exact h) (fun x hx => (List.mem_append.1 hx).elim (hd x) (fun hx => by simp at hx; omega))
      rw [h5] at ih
      have e : done ++ putI n (z :: rest) = done ++ [z] ++ putI n rest := by simp [putI, c1]
      rw [e]
      refine Ev.step (fun k => ?_) ih
      rw [spec_l1Put.l0, if_pos h1, if_pos h2, h3, if_pos c1, h4]
    · by_cases c2 : z = n
      · refine Ev.step (fun k => ?_) (Ev.some (show done ++ z :: rest = done ++ putI n (z :: rest) by simp [putI, c1, c2]))
        rw [spec_l1Put.l0, if_pos h1, if_pos h2, h3, if_neg c1, if_pos c2]
      · refine Ev.step (fun k => ?_) (Ev.some (show done ++ [n] ++ z :: rest = done ++ putI n (z :: rest) by simp [putI, c1, c2]))
        have t1 : (done ++ z :: rest).take done.length = done := by simp
        have t2 : (done ++ z :: rest).drop done.length = z :: rest := by simp
        simp only [List.length_append, List.length_cons] at h
        rw [spec_l1Put.l0, if_pos h1, if_pos h2, h3, if_neg c1, if_neg c2]
        simp only [Option.bind_some, List.nil_append, Int.toNat_natCast, t1, t2, List.length_append, List.length_nil, List.length_singleton, List.length_cons]
        rw [if_pos (by omega), if_pos (by omega), if_pos (by omega), if_pos (by omega)]
theorem l1Put_f (l : List Int) (n : Int) (h : l.length ≤ 1000) : Ev (fun k => spec_l1Put.f k l n) (putI n l) := by
  unfold spec_l1Put.f
  have := l1Put_l0 n l [] (by simpa using h) (by simp)
  simpa using this
theorem indexP_l0 (x : Int) : ∀ (rest done : List Int), (done ++ rest).length ≤ 1000 → Ev (fun k => slices_Index_int_int.l0 k (done ++ rest) x ((done ++ rest).length : Int) (done.length : Int)) (Go.Lib.idxFrom rest x done.length)
  | [], done, h => Ev.step (fun k => by rw [slices_Index_int_int.l0, if_neg (by simp)]) (Ev.some (by simp [Go.Lib.idxFrom]))
  | z :: rest, done, h => by
    obtain ⟨h1, h2, h3, h4, h5⟩ := mid z done rest (by simp only [BM]; omega)
    by_cases c : z = x
    · refine Ev.step (fun k => ?_) (Ev.some (show ((done.length : Nat) : Int) = Go.Lib.idxFrom (z :: rest) x done.length by unfold Go.Lib.idxFrom; rw [if_pos c]))
      rw [slices_Index_int_int.l0, if_pos h1, if_pos h2, if_pos h1, h3, if_pos c.symm]
    · have ih := indexP_l0 x rest (done ++ [z]) (by rw [h5]; exact h)
      have hd1 : (done ++ [z]).length = done.length + 1 := by simp
      rw [h5, hd1] at ih
      rw [hd1] at h4
      have e : Go.Lib.idxFrom (z :: rest) x done.length = Go.Lib.idxFrom rest x (done.length + 1) := by rw [Go.Lib.idxFrom, if_neg c]
      rw [e]
      refine Ev.step (fun k => ?_) ih
      rw [slices_Index_int_int.l0, if_pos h1, if_pos h2, if_pos h1, h3, if_neg (fun q => c q.symm), h4]
theorem indexP_f (l : List Int) (x : Int) (h : l.length ≤ 1000) : Ev (fun k => slices_Index_int_int.f k l x) (Go.Lib.idxOf l x) := by
  unfold slices_Index_int_int.f Go.Lib.idxOf
  have := indexP_l0 x l [] (by simpa using h)
  simpa using this
def partsL (s : List Int) : List Int := s.map (fun x => ((great x s []).length : Int))
theorem scParts_l2 (s out : List Int) (hs : s.length ≤ 8) (ho : out.length ≤ 8) (x : Int) (i : Int) (r : List Int) : ∀ (rest done g : List Int), s = done ++ rest → g.length ≤ done.length →
    Ev (fun k => spec_scParts.l1 k s (out ++ [((great x rest g).length : Int)]) s (s.length : Int) (wrap64 (i + 1))) r → Ev (fun k => spec_scParts.l2 k s out x g s (s.length : Int) i s (s.length : Int) (done.length : Int)) r
  | [], done, g, e, hg, hr => by
    refine Ev.step (fun k => ?_) hr
    rw [spec_scParts.l2, if_neg (by rw [e]; simp), if_pos (by omega)]
    rfl
  | y :: rest, done, g, e, hg, hr => by
    obtain ⟨h1, h2, h3, h4, h5⟩ := mid y done rest (by rw [← e]; simp only [BM]; omega)
    rw [← e] at h1 h3
    by_cases c : x < y
    · have e2 : great x (y :: rest) g = great x rest (putI y g) := by unfold great; rw [List.foldl_cons, if_pos c]
      rw [e2] at hr
      have hp := putI_length y g
      have ih := scParts_l2 s out hs ho x i r rest (done ++ [y]) (putI y g) (by rw [h5]; exact e) (by simp; omega) hr
      have hdl : done.length ≤ s.length := by rw [e]; simp
      refine Ev.step (f := fun k => (spec_l1Put.f k g y).bind fun t => spec_scParts.l2 k s out x t s (s.length : Int) i s (s.length : Int) (((done ++ [y]).length : Nat) : Int)) (fun k => ?_) (Ev.bind (l1Put_f g y (by omega)) ih)
      rw [spec_scParts.l2, if_pos h1, if_pos h2, if_pos h1, h3, if_pos c, h4]
    · have e2 : great x (y :: rest) g = great x rest g := by unfold great; rw [List.foldl_cons, if_neg c]
      rw [e2] at hr
      have ih := scParts_l2 s out hs ho x i r rest (done ++ [y]) g (by rw [h5]; exact e) (by simp; omega) hr
      refine Ev.step (fun k => ?_) ih
      rw [spec_scParts.l2, if_pos h1, if_pos h2, if_pos h1, h3, if_neg c, h4]
theorem scParts_l1 (s : List Int) (hs : s.length ≤ 8) : ∀ (rest done : List Int), s = done ++ rest → Ev (fun k => spec_scParts.l1 k s (done.map (fun x => ((great x s []).length : Int))) s (s.length : Int) (done.length : Int)) (partsL s)
  | [], done, e => by
    refine Ev.step (fun k => by rw [spec_scParts.l1, if_neg (by rw [e]; simp)]) (Ev.some ?_)
    unfold partsL
    rw [e]; simp
  | x :: rest, done, e => by
    obtain ⟨h1, h2, h3, h4, h5⟩ := mid x done rest (by rw [← e]; simp only [BM]; omega)
    rw [← e] at h1 h3
    have hdl : done.length ≤ s.length := by rw [e]; simp
    have ih := scParts_l1 s hs rest (done ++ [x]) (by rw [h5]; exact e)
    have := scParts_l2 s (done.map (fun x => ((great x s []).length : Int))) hs (by simp; omega) x (done.length : Int) (partsL s) s [] [] rfl (by simp) (by
      rw [h4]
      simpa using ih)
    refine Ev.step (fun k => ?_) this
    rw [spec_scParts.l1, if_pos h1, if_pos h2, if_pos h1, h3]
    rfl
theorem warshall_len (ns : List Nat) : (warshall ns).length = ns.length := (warshall_inv ns).len
theorem szs_len (ns : List Nat) : (szs ns).length = ns.length := by simp [szs, warshall_len]
theorem scParts_l0 {n : Nat} {ns : List Nat} (h : Sets n ns) (r : List Int) (hr : Ev (fun k => spec_scParts.l1 k (ints (szs ns)) ([] : List Int) (ints (szs ns)) (n : Int) 0) r) : ∀ d j, j + d = n → Ev (fun k => spec_scParts.l0 k (ints ((szs ns).take j)) (n : Int) (j : Int) (n : Int) (ints ns)) r
  | 0, j, e => by
    have hl := h.len
    rw [List.take_of_length_le (by rw [szs_len]; omega)]
    refine Ev.step (fun k => ?_) hr
    rw [spec_scParts.l0, if_neg (by omega), ints_length, szs_len, hl]
  | d + 1, j, e => by
    have hl := h.len
    have hn := h.n8
    have ih := scParts_l0 h r hr d (j + 1) (by omega)
    have hw := getD_lt (warshall_lt h) j
    have ht : (szs ns).take (j + 1) = (szs ns).take j ++ [pop ((warshall ns).getD j 0)] := by
      rw [List.take_add_one]
      unfold szs
      rw [List.getElem?_map, List.getElem?_eq_getElem (by rw [warshall_len]; omega), List.getD_eq_getElem?_getD, List.getElem?_eq_getElem (by rw [warshall_len]; omega)]
      rfl
    refine Ev.step (f := fun k => (spec_scReached.f k (n : Int) (ints ns) (j : Int)).bind fun t => (spec_deMany.f k t).bind fun t2 => spec_scParts.l0 k (ints ((szs ns).take j) ++ [t2]) (n : Int) ((j + 1 : Nat) : Int) (n : Int) (ints ns)) (fun k => ?_) (Ev.bind (scReached_f h j (by omega)) (Ev.bind (deMany_f _ (Nat.lt_of_lt_of_le hw (pow8 hn))) ?_))
    · rw [spec_scParts.l0, if_pos (by omega), wrap_nat j (by omega)]
      congr 1; funext t; congr 1; funext t2
      rw [if_pos (by rw [ints_length, List.length_take]; omega)]
    · rw [ht] at ih
      simpa [ints] using ih
theorem scParts_f {n : Nat} {ns : List Nat} (h : Sets n ns) : Ev (fun k => spec_scParts.f k (n : Int) (ints ns)) (partsL (ints (szs ns))) := by
  have hl := h.len
  have hn := h.n8
  have h1 := scParts_l1 (ints (szs ns)) (by rw [ints_length, szs_len]; omega) (ints (szs ns)) [] rfl
  rw [ints_length, szs_len, hl] at h1
  have := scParts_l0 h _ h1 n 0 (by omega)
  unfold spec_scParts.f
  rw [ints_length, hl]
  simpa [ints] using this
theorem compact_len (l : List Int) : (Go.Lib.compact l).length ≤ l.length := by
  unfold Go.Lib.compact Go.Lib.compactUpTo
  rw [List.length_map]
  have := List.length_filter_le (Go.Lib.keeps l.toArray) (List.range l.length)
  simpa using this
theorem parts_l0 (s c : List Int) (hs : s.length ≤ 8) (hc : c.length ≤ 8) : ∀ (rest done : List Int), s = done ++ rest → Ev (fun k => impl_StrongParts.l0 k (done.map (fun x => Go.Lib.idxOf c x)) c s (s.length : Int) (done.length : Int)) (s.map (fun x => Go.Lib.idxOf c x), true)
  | [], done, e => by
    refine Ev.step (fun k => by rw [impl_StrongParts.l0, if_neg (by rw [e]; simp)]) (Ev.some ?_)
    rw [e]; simp
  | x :: rest, done, e => by
    obtain ⟨h1, h2, h3, h4, h5⟩ := mid x done rest (by rw [← e]; simp only [BM]; omega)
    rw [← e] at h1 h3
    have hdl : done.length ≤ s.length := by rw [e]; simp
    have ih := parts_l0 s c hs hc rest (done ++ [x]) (by rw [h5]; exact e)
    refine Ev.step (f := fun k => (slices_Index_int_int.f k c x).bind fun t => impl_StrongParts.l0 k (done.map (fun x => Go.Lib.idxOf c x) ++ [t]) c s (s.length : Int) (((done ++ [x]).length : Nat) : Int)) (fun k => ?_) (Ev.bind (indexP_f c x (by omega)) (by simpa using ih))
    rw [impl_StrongParts.l0, if_pos h1, if_pos h2, if_pos h1, h3, h4]
    congr 1; funext t
    rw [if_pos (by simp; omega)]
theorem pop_le (a : Nat) : pop a ≤ 8 := by
  unfold pop
  have := List.countP_le_length (p := fun i => a.testBit i) (l := List.range 8)
  simpa using this
end Go.Proofs.Ytcheoendfcgjgaa.K
namespace Go.Proofs.Ytcheoendfcgjgaa.K
open Go.RowKit Go.Proofs.YtcheoendfcgjgaaW.PrintWords Go.Proofs.Ytcheoendfcgjgaa.P
theorem l1Has_l0 (x : Int) (t : Int) : ∀ (rest done : List Int), (done ++ rest).length ≤ BM → Ev (fun k => spec_l1Has.l0 k x (done ++ rest) ((done ++ rest).length : Int) (done.length : Int)) (rest.any fun y => decide (y = x)) := by
  intro rest
  induction rest with
  | nil => intro done h; exact Ev.step (fun k => by simp [spec_l1Has.l0]; rfl) (Ev.some (by simp))
  | cons y rest ih =>
    intro done h
    obtain ⟨q1, q2, q3, q4, q5⟩ := mid y done rest h
    have ih' := ih (done ++ [y]) (by rw [q5]; exact h)
    rw [q5] at ih'
    refine Ev.step (fun k => by rw [spec_l1Has.l0]) ?_
    simp only [if_pos q1, if_pos q2, q3, q4]
    by_cases e : y = x
    · simp only [if_pos e]; exact Ev.some (by simp [e])
    · simp only [if_neg e]; exact Ev.pair ih' (by simp [e])
theorem l1Has_f (l : List Int) (x : Int) (h : l.length ≤ BM) : Ev (fun k => spec_l1Has.f k l x) (l.any fun y => decide (y = x)) := l1Has_l0 x 0 l [] h
end Go.Proofs.Ytcheoendfcgjgaa.K
namespace Go.Proofs.Ytcheoendfcgjgaa.K
open Go.RowKit Go.Proofs.YtcheoendfcgjgaaW.PrintWords Go.Proofs.YtcheoendfcgjgaaW.PrintMore Go.Proofs.Ytcheoendfcgjgaa.P
def lastN (l : List Nat) : Nat := l.getD (l.length - 1) 0
def stepOk (ns : List Nat) (l : List Nat) (j : Nat) : Bool := !(l.any fun y => decide (y = j)) && (decide (l.length = 0) || nb ns (lastN l) j)
def firstNE (g : Nat → List Nat) : List Nat → List Nat
  | [] => []
  | j :: js => if 0 < (g j).length then g j else firstNE g js
def way (n : Nat) (ns : List Nat) (fin : List Nat → Bool) : Nat → List Nat → List Nat
  | 0, l => if fin l then l else []
  | d + 1, l => firstNE (fun j => if stepOk ns l j then way n ns fin d (l ++ [j]) else []) (List.range n)
theorem way_len (n : Nat) (ns : List Nat) (fin : List Nat → Bool) : ∀ d l, l.length + d = n → (way n ns fin d l).length = 0 ∨ (way n ns fin d l).length = n := by
  intro d
  induction d with
  | zero => intro l h; unfold way; split <;> simp <;> omega
  | succ d ih =>
    intro l h
    have : ∀ L : List Nat, (firstNE (fun j => if stepOk ns l j then way n ns fin d (l ++ [j]) else []) L).length = 0 ∨ (firstNE (fun j => if stepOk ns l j then way n ns fin d (l ++ [j]) else []) L).length = n := by
      intro L
      induction L with
      | nil => simp [firstNE]
      | cons j L ihL =>
        unfold firstNE
        by_cases e : 0 < (if stepOk ns l j then way n ns fin d (l ++ [j]) else []).length
        · simp only [if_pos e]
          by_cases q : stepOk ns l j = true
          · simp only [if_pos q]; exact ih _ (by simp; omega)
          · simp [q]
        · simp only [if_neg e]; exact ihL
    exact this _
theorem hasN (l : List Nat) (j : Nat) : ((ints l).any fun y => decide (y = (j : Int))) = l.any fun y => decide (y = j) := by
  induction l with
  | nil => rfl
  | cons x l ih =>
    have e : decide ((x : Int) = (j : Int)) = decide (x = j) := by rw [decide_eq_decide]; omega
    simp only [ints, List.map_cons, List.any_cons, e]
    rw [← ih]; rfl
def roundFin (ns : List Nat) (rnd : Bool) (l : List Nat) : Bool := !rnd || nb ns (lastN l) (l.getD 0 0)
theorem lastN_lt {n : Nat} {l : List Nat} (h : ∀ x ∈ l, x < n) (h0 : 0 < l.length) : lastN l < n := by
  unfold lastN
  have hp : l.length - 1 < l.length := by omega
  rw [List.getD_eq_getElem?_getD, List.getElem?_eq_getElem hp]
  exact h _ (List.getElem_mem hp)
theorem scWay_l0 {n : Nat} {ns : List Nat} (h : Sets n ns) (rnd : Bool) (d : Nat) (l : List Nat) (hd : l.length + (d + 1) = n) (hl : ∀ x ∈ l, x < n)
    (ih : ∀ j, j < n → Ev (fun k => spec_scWay.f k (n : Int) (ints ns) (ints (l ++ [j])) rnd) (ints (way n ns (roundFin ns rnd) d (l ++ [j])))) :
    ∀ m j, j + m = n → Ev (fun k => spec_scWay.l0 k (ints l) rnd (n : Int) (j : Int) (n : Int) (ints ns)) (ints (firstNE (fun j => if stepOk ns l j then way n ns (roundFin ns rnd) d (l ++ [j]) else []) (List.range' j m))) := by
  have hn := h.n8
  have hL := h.len
  intro m
  induction m with
  | zero =>
    intro j hj
    exact Ev.step (fun k => by rw [spec_scWay.l0, if_neg (by omega)]) (Ev.some (by simp [firstNE, ints]))
  | succ m ihm =>
    intro j hj
    have hjn : j < n := by omega
    have next := ihm (j + 1) (by omega)
    have hJ : ∀ b : Bool, Ev (fun k => spec_scWay.j1 k (ints l) rnd (j : Int) (n : Int) (j : Int) b (n : Int) (ints ns)) (ints (if b = true then firstNE (fun j => if stepOk ns l j then way n ns (roundFin ns rnd) d (l ++ [j]) else []) (List.range' (j + 1) m) else if 0 < (way n ns (roundFin ns rnd) d (l ++ [j])).length then way n ns (roundFin ns rnd) d (l ++ [j]) else firstNE (fun j => if stepOk ns l j then way n ns (roundFin ns rnd) d (l ++ [j]) else []) (List.range' (j + 1) m))) := by
      intro b
      refine Ev.step (fun k => by rw [spec_scWay.j1]) ?_
      cases b with
      | true => simp only [if_true]; rw [wrap_nat j (by omega)]; exact next
      | false =>
        have ho : spec_l1Own.f (ints l) = some (ints l) := by unfold spec_l1Own.f; rw [Option.bind_some, if_pos (by rw [ints_length]; simp; omega)]; rfl
        have hlen : (ints l).length + ([(j : Int)] : List Int).length < 17592186044416 := by rw [ints_length]; simp; omega
        simp only [Bool.false_eq_true, if_false, ho, Option.bind_some, if_pos hlen]
        rw [show ints l ++ [(j : Int)] = ints (l ++ [j]) by simp [ints]]
        refine Ev.bind (ih j hjn) ?_
        rw [ints_length]
        by_cases q : 0 < (way n ns (roundFin ns rnd) d (l ++ [j])).length
        · simp only [if_pos q, if_pos (show ((way n ns (roundFin ns rnd) d (l ++ [j])).length : Int) > 0 by omega)]; exact Ev.now _
        · simp only [if_neg q, if_neg (show ¬ ((way n ns (roundFin ns rnd) d (l ++ [j])).length : Int) > 0 by omega)]; rw [wrap_nat j (by omega)]; exact next
    have hcont := l1Has_f (ints l) (j : Int) (by rw [ints_length]; simp only [BM]; omega)
    rw [hasN] at hcont
    have hval : firstNE (fun j => if stepOk ns l j then way n ns (roundFin ns rnd) d (l ++ [j]) else []) (List.range' j (m + 1)) = if stepOk ns l j = true then (if 0 < (way n ns (roundFin ns rnd) d (l ++ [j])).length then way n ns (roundFin ns rnd) d (l ++ [j]) else firstNE (fun j => if stepOk ns l j then way n ns (roundFin ns rnd) d (l ++ [j]) else []) (List.range' (j + 1) m)) else firstNE (fun j => if stepOk ns l j then way n ns (roundFin ns rnd) d (l ++ [j]) else []) (List.range' (j + 1) m) := by
      rw [List.range'_succ]
      by_cases q : stepOk ns l j = true
      · simp [firstNE, q]
      · simp [firstNE, q]
    rw [hval]
    refine Ev.step (fun k => by rw [spec_scWay.l0, if_pos (by omega)]) ?_
    refine Ev.bind hcont ?_
    cases hc : l.any (fun y => decide (y = j)) with
    | true =>
      simp only [if_true]
      exact Ev.pair (hJ true) (by simp [stepOk, hc])
    | false =>
      simp only [Bool.false_eq_true, if_false]
      by_cases h0 : 0 < l.length
      · have h0' : ((ints l).length : Int) > 0 := by rw [ints_length]; omega
        have hw : wrap64 (((ints l).length : Int) - 1) = ((l.length - 1 : Nat) : Int) := by rw [ints_length, wrap_id (by omega) (by omega)]; omega
        have hlast := lastN_lt hl h0
        have e1 : rd (ints l) ((l.length - 1 : Nat) : Int) = ((lastN l : Nat) : Int) := by rw [rd_ints]; rfl
        simp only [if_pos h0', hw, if_pos (show (0 : Int) ≤ ((l.length - 1 : Nat) : Int) by omega), if_pos (show ((l.length - 1 : Nat) : Int) < ((ints l).length : Int) by rw [ints_length]; omega), e1, if_pos (show (0 : Int) ≤ ((lastN l : Nat) : Int) by omega), if_pos (show ((lastN l : Nat) : Int) < ((ints ns).length : Int) by rw [ints_length]; omega), rd_ints, deHas_nb h, Option.bind_some]
        refine Ev.pair (hJ _) ?_
        have hne : decide (l.length = 0) = false := decide_eq_false (by omega)
        simp only [stepOk, hc, hne]
        cases nb ns (lastN l) j <;> simp
      · have h0' : ¬ ((ints l).length : Int) > 0 := by rw [ints_length]; omega
        simp only [if_neg h0']
        have hne : decide (l.length = 0) = true := decide_eq_true (by omega)
        have e : stepOk ns l j = true := by unfold stepOk; rw [hc, hne]; rfl
        exact Ev.pair (hJ false) (by simp only [Bool.false_eq_true, if_false, if_pos e])
theorem scWay_f {n : Nat} {ns : List Nat} (h : Sets n ns) (rnd : Bool) : ∀ (d : Nat) (l : List Nat), l.length + d = n → (∀ x ∈ l, x < n) → Ev (fun k => spec_scWay.f k (n : Int) (ints ns) (ints l) rnd) (ints (way n ns (roundFin ns rnd) d l)) := by
  have hn := h.n8
  have hn1 := h.n1
  have hL := h.len
  intro d
  induction d with
  | zero =>
    intro l hd hl
    refine Ev.step (fun k => by rw [spec_scWay.f, if_pos (by rw [ints_length]; omega)]) ?_
    cases rnd with
    | false => simp [way, roundFin]; exact Ev.now _
    | true =>
      have h0 : 0 < l.length := by omega
      have hw : wrap64 (((ints l).length : Int) - 1) = ((l.length - 1 : Nat) : Int) := by rw [ints_length, wrap_id (by omega) (by omega)]; omega
      have hlast := lastN_lt hl h0
      have e1 : rd (ints l) ((l.length - 1 : Nat) : Int) = ((lastN l : Nat) : Int) := by rw [rd_ints]; rfl
      have e2 : rd (ints l) 0 = ((l.getD 0 0 : Nat) : Int) := rd_ints l 0
      simp only [if_true, hw, if_pos (show (0 : Int) ≤ ((l.length - 1 : Nat) : Int) by omega), if_pos (show ((l.length - 1 : Nat) : Int) < ((ints l).length : Int) by rw [ints_length]; omega), e1, if_pos (show (0 : Int) ≤ ((lastN l : Nat) : Int) by omega), if_pos (show ((lastN l : Nat) : Int) < ((ints ns).length : Int) by rw [ints_length]; omega), if_pos (show (0 : Int) < ((ints l).length : Int) by rw [ints_length]; omega), e2, rd_ints, deHas_nb h, Option.bind_some]
      have r : roundFin ns true l = nb ns (lastN l) (l.getD 0 0) := rfl
      unfold way
      rw [r]
      cases e : nb ns (lastN l) (l.getD 0 0) with
      | false => simp only [Bool.false_eq_true, if_false]; exact Ev.some (by simp [ints])
      | true => simp only [if_true]; exact Ev.now _
  | succ d ih =>
    intro l hd hl
    refine Ev.step (fun k => by rw [spec_scWay.f, if_neg (by rw [ints_length]; omega)]) ?_
    have := scWay_l0 h rnd d l hd hl (fun j hj => ih (l ++ [j]) (by simp; omega) (fun x hx => by
      rcases List.mem_append.1 hx with hx | hx
      · exact hl x hx
      · simp at hx; omega)) n 0 (by omega)
    rw [ints_length, hL]
    unfold way
    rw [List.range_eq_range']
    exact this
end Go.Proofs.Ytcheoendfcgjgaa.K
namespace Go.Proofs.Ytcheoendfcgjgaa.M
def tB (b : Bool) : Nat := if b then 1 else 0
def Tou (n : Nat) (R : Nat → Nat → Bool) : Prop := ∀ i j, i < n → j < n → (i = j → R i j = false) ∧ (i ≠ j → R i j = !R j i)
theorem three (x y z : Bool) : tB (x && (y && z)) + tB (!z && (!y && !x)) + (tB (x && !z) + tB (!x && y) + tB (z && !y)) = 1 := by
  cases x <;> cases y <;> cases z <;> rfl
def pathR (R : Nat → Nat → Bool) : List Nat → Prop
  | [] => True
  | [_] => True
  | x :: y :: l => R x y = true ∧ pathR R (y :: l)
theorem pathR.tail {R : Nat → Nat → Bool} {x : Nat} : ∀ {l : List Nat}, pathR R (x :: l) → pathR R l
  | [], _ => trivial
  | _ :: _, h => h.2
theorem pathR.cons {R : Nat → Nat → Bool} {x : Nat} : ∀ {l : List Nat}, pathR R l → (∀ y, l.head? = some y → R x y = true) → pathR R (x :: l)
  | [], _, _ => trivial
  | y :: _, h, hh => ⟨hh y rfl, h⟩
theorem pathR_append {R : Nat → Nat → Bool} : ∀ {a b : List Nat}, pathR R (a ++ b) ↔ pathR R a ∧ pathR R b ∧ (∀ x y, a.getLast? = some x → b.head? = some y → R x y = true)
  | [], b => by simp [pathR]
  | [x], [] => by simp [pathR]
  | [x], y :: b => by simp [pathR, And.comm]
  | x :: y :: a, b => by
    have ih := pathR_append (R := R) (a := y :: a) (b := b)
    have e : (x :: y :: a).getLast? = (y :: a).getLast? := by simp [List.getLast?_cons_cons]
    rw [e]
    simp only [List.cons_append, pathR] at ih ⊢
    rw [ih, and_assoc]
theorem pathR_get {R : Nat → Nat → Bool} : ∀ {l : List Nat}, pathR R l → ∀ k, k + 1 < l.length → R (l.getD k 0) (l.getD (k + 1) 0) = true
  | [], _, k, h => by simp at h
  | [_], _, k, h => by simp at h
  | x :: y :: l, h, 0, _ => h.1
  | x :: y :: l, h, k + 1, hk => by
    have := pathR_get h.2 k (by simp at hk ⊢; omega)
    simpa using this
theorem nodup_le : ∀ {l m : List Nat}, l.Nodup → (∀ x, x ∈ l → x ∈ m) → l.length ≤ m.length
  | [], _, _, _ => Nat.zero_le _
  | x :: l, m, hN, hs => by
    obtain ⟨h1, h2⟩ := List.nodup_cons.1 hN
    have hx := hs x List.mem_cons_self
    have ih := nodup_le (l := l) (m := m.erase x) h2 (fun y hy => (List.mem_erase_of_ne (fun e => h1 (by rw [← e]; exact hy))).2 (hs y (List.mem_cons_of_mem _ hy)))
    rw [List.length_erase_of_mem hx] at ih
    have : 0 < m.length := List.length_pos_of_mem hx
    rw [List.length_cons]
    omega
section
variable {n : Nat} {R : Nat → Nat → Bool}
theorem Tou.beats (h : Tou n R) {i j : Nat} (hi : i < n) (hj : j < n) (hne : i ≠ j) (hb : ¬ R i j = true) : R j i = true := by
  have := (h i j hi hj).2 hne
  cases hR : R j i with
  | true => rfl
  | false => rw [hR] at this; exact absurd this hb
structure Round (n : Nat) (R : Nat → Nat → Bool) (c : List Nat) : Prop where
  nodup : c.Nodup
  lt : ∀ x ∈ c, x < n
  path : pathR R c
  back : ∀ x y, c.getLast? = some x → c.head? = some y → R x y = true
theorem Round.turn {a b : List Nat} (h : Round n R (a ++ b)) : Round n R (b ++ a) := by
  obtain ⟨p1, p2, p3⟩ := pathR_append.1 h.path
  refine ⟨(List.perm_append_comm.nodup_iff).1 h.nodup, fun x hx => h.lt x (by
    rcases List.mem_append.1 hx with q | q
    · exact List.mem_append_right _ q
    · exact List.mem_append_left _ q), pathR_append.2 ⟨p2, p1, fun x y hx hy => h.back x y ?_ ?_⟩, fun x y hx hy => ?_⟩
  · rw [List.getLast?_append, hx]; rfl
  · rw [List.head?_append, hy]; rfl
  · cases a with
    | nil =>
      rw [List.append_nil] at hx hy
      exact h.back x y (by simpa using hx) (by simpa using hy)
    | cons z a =>
      cases b with
      | nil =>
        exact h.back x y (by simpa using hx) (by simpa using hy)
      | cons w b =>
        refine p3 x y ?_ (by simpa using hy)
        rw [List.getLast?_append] at hx
        cases hz : (z :: a).getLast? with
        | none => simp at hz
        | some u => rw [hz] at hx; simpa using hx
theorem split_or (p : Nat → Bool) : ∀ (l : List Nat), (∀ x ∈ l, p x = true) ∨ (∀ x ∈ l, p x = false) ∨ (∃ a x y b, l = a ++ x :: y :: b ∧ p x = false ∧ p y = true) ∨ (∃ x y, l.head? = some x ∧ l.getLast? = some y ∧ p x = true ∧ p y = false)
  | [] => .inl (fun x hx => by cases hx)
  | [x] => by
    cases hx : p x with
    | true => exact .inl (fun y hy => by rw [List.mem_singleton.1 hy, hx])
    | false => exact .inr (.inl (fun y hy => by rw [List.mem_singleton.1 hy, hx]))
  | x :: y :: l => by
    have el : (x :: y :: l).getLast? = (y :: l).getLast? := by simp [List.getLast?_cons_cons]
    rcases split_or p (y :: l) with h | h | ⟨a, u, v, b, e, h1, h2⟩ | ⟨u, v, h1, h2, h3, h4⟩
    · cases hx : p x with
      | true =>
        refine .inl (fun z hz => ?_)
        rcases List.mem_cons.1 hz with rfl | q
        · exact hx
        · exact h z q
      | false => exact .inr (.inr (.inl ⟨[], x, y, l, rfl, hx, h y List.mem_cons_self⟩))
    · cases hx : p x with
      | true =>
        refine .inr (.inr (.inr ⟨x, (y :: l).getLast (by simp), rfl, by rw [el]; exact List.getLast?_eq_some_getLast (by simp), hx, h _ (List.getLast_mem _)⟩))
      | false =>
        refine .inr (.inl (fun z hz => ?_))
        rcases List.mem_cons.1 hz with rfl | q
        · exact hx
        · exact h z q
    · exact .inr (.inr (.inl ⟨x :: a, u, v, b, by rw [e]; rfl, h1, h2⟩))
    · have : u = y := by simpa using h1.symm
      subst this
      cases hx : p x with
      | true => exact .inr (.inr (.inr ⟨x, v, rfl, by rw [el]; exact h2, hx, h4⟩))
      | false => exact .inr (.inr (.inl ⟨[], x, u, l, rfl, hx, h3⟩))
theorem Round.grow1 (h : Tou n R) {c : List Nat} (hc : Round n R c) {v : Nat} (hv : v < n) (hvc : v ∉ c) {x y : Nat} (hx : x ∈ c) (hy : y ∈ c) (h1 : R v x = true) (h2 : R v y = false) : ∃ c', Round n R c' ∧ c'.length = c.length + 1 := by
  have hin : ∀ z, z ∈ c → R v z = false → R z v = true := fun z hz e => h.beats hv (hc.lt z hz) (fun e => hvc (e ▸ hz)) (by rw [e]; decide)
  rcases split_or (R v) c with q | q | ⟨a, u, w, b, e, q1, q2⟩ | ⟨u, w, q1, q2, q3, q4⟩
  · rw [q y hy] at h2; cases h2
  · rw [q x hx] at h1; cases h1
  · have hcu : u ∈ c := by rw [e]; simp
    have e2 : c = (a ++ [u]) ++ (w :: b) := by rw [e]; simp
    have hp := hc.path
    rw [e2] at hp
    obtain ⟨p1, p2, p3⟩ := pathR_append.1 hp
    refine ⟨(a ++ [u]) ++ (v :: w :: b), ⟨?_, ?_, ?_, ?_⟩, by rw [e]; simp; omega⟩
    · have := hc.nodup
      rw [e2] at this
      have hpm : ((a ++ [u]) ++ (v :: w :: b)).Perm (v :: ((a ++ [u]) ++ (w :: b))) := List.perm_middle
      rw [hpm.nodup_iff, List.nodup_cons, ← e2]
      exact ⟨hvc, hc.nodup⟩
    · intro z hz
      have hpm : ((a ++ [u]) ++ (v :: w :: b)).Perm (v :: ((a ++ [u]) ++ (w :: b))) := List.perm_middle
      rcases List.mem_cons.1 (hpm.mem_iff.1 hz) with rfl | q
      · exact hv
      · exact hc.lt z (by rw [e2]; exact q)
    · refine pathR_append.2 ⟨p1, ⟨q2, p2⟩, fun s t hs ht => ?_⟩
      have e3 : u = s := by simpa using hs
      have e4 : v = t := by simpa using ht
      rw [← e3, ← e4]
      exact hin u hcu q1
    · intro s t hs ht
      refine hc.back s t ?_ ?_
      · rw [e2]
        rw [List.getLast?_append] at hs ⊢
        simpa [List.getLast?_cons_cons] using hs
      · rw [e2]
        rw [List.head?_append] at ht ⊢
        cases a with
        | nil => simpa using ht
        | cons z a => simpa using ht
  · refine ⟨v :: c, ⟨List.nodup_cons.2 ⟨hvc, hc.nodup⟩, fun z hz => ?_, hc.path.cons (fun z hz => ?_), fun s t hs ht => ?_⟩, rfl⟩
    · rcases List.mem_cons.1 hz with rfl | q
      · exact hv
      · exact hc.lt z q
    · rw [q1] at hz; cases hz; exact q3
    · have e1 : t = v := by simpa using ht.symm
      have e2 : s = w := by
        cases c with
        | nil => simp at q2
        | cons z c => rw [List.getLast?_cons_cons, q2] at hs; simpa using hs.symm
      rw [e1, e2]
      exact hin w (List.mem_of_getLast? q2) q4
def Strong (n : Nat) (R : Nat → Nat → Bool) : Prop := ∀ S : Nat → Prop, (∀ i j, S i → i < n → j < n → R i j = true → S j) → (∃ i, i < n ∧ S i) → ∀ j, j < n → S j
theorem Round.grow (h : Tou n R) (hs : Strong n R) {c : List Nat} (hc : Round n R c) (h3 : 3 ≤ c.length) (hn : c.length < n) : ∃ c', Round n R c' ∧ 3 ≤ c'.length ∧ c.length < c'.length := by
  by_cases hg : ∃ v, v < n ∧ v ∉ c ∧ ∃ x ∈ c, ∃ y ∈ c, R v x = true ∧ R v y = false
  · obtain ⟨v, v1, v2, x, hx, y, hy, r1, r2⟩ := hg
    obtain ⟨c', g1, g2⟩ := hc.grow1 h v1 v2 hx hy r1 r2
    exact ⟨c', g1, by omega, by omega⟩
  · -- each other one beats all of the round, or is beaten by all of it
    have hside : ∀ v, v < n → v ∉ c → (∀ x ∈ c, R v x = true) ∨ (∀ x ∈ c, R v x = false) := by
      intro v v1 v2
      by_cases q : ∀ x ∈ c, R v x = true
      · exact .inl q
      · refine .inr (fun x hx => ?_)
        cases hr : R v x with
        | false => rfl
        | true =>
          refine absurd (fun y hy => ?_) q
          cases hr2 : R v y with
          | true => rfl
          | false => exact absurd ⟨v, v1, v2, x, hx, y, hy, hr, hr2⟩ hg
    obtain ⟨c0, c1, r, rfl⟩ : ∃ c0 c1 r, c = c0 :: c1 :: r := by
      cases c with
      | nil => simp at h3
      | cons c0 c => cases c with
        | nil => simp at h3
        | cons c1 r => exact ⟨c0, c1, r, rfl⟩
    have hout : ∃ v, v < n ∧ v ∉ (c0 :: c1 :: r) := by
      refine Classical.byContradiction (fun hno => ?_)
      have hsub : (List.range n) ⊆ (c0 :: c1 :: r) := fun v hv => Classical.byContradiction (fun hc => hno ⟨v, List.mem_range.1 hv, hc⟩)
      have := nodup_le List.nodup_range hsub
      rw [List.length_range] at this
      omega
    obtain ⟨v, v1, v2⟩ := hout
    -- someone beaten by the round beats someone who beats the round
    have hba : ∃ b a, b < n ∧ a < n ∧ b ∉ (c0 :: c1 :: r) ∧ a ∉ (c0 :: c1 :: r) ∧ (∀ x ∈ (c0 :: c1 :: r), R b x = false) ∧ (∀ x ∈ (c0 :: c1 :: r), R a x = true) ∧ R b a = true := by
      refine Classical.byContradiction (fun hno => ?_)
      have hc0 := hc.lt c0 List.mem_cons_self
      -- those of the round and those beaten by it
      have hall := hs (fun z => z ∈ (c0 :: c1 :: r) ∨ (z ∉ (c0 :: c1 :: r) ∧ ∀ x ∈ (c0 :: c1 :: r), R z x = false)) (fun i j hi hin hjn hr => by
        by_cases hj : j ∈ (c0 :: c1 :: r)
        · exact .inl hj
        · rcases hside j hjn hj with q | q
          · rcases hi with hi | ⟨hi, hi2⟩
            · have e1 := q i hi
              have := (h i j hin hjn).2 (fun e => hj (e ▸ hi))
              rw [hr, e1] at this; cases this
            · exact absurd ⟨i, j, hin, hjn, hi, hj, hi2, q, hr⟩ hno
          · exact .inr ⟨hj, q⟩) ⟨c0, hc0, .inl List.mem_cons_self⟩
      have hv2 : ∀ x ∈ (c0 :: c1 :: r), R v x = false := by
        rcases hall v v1 with q | q
        · exact absurd q v2
        · exact q.2
      -- so none who is beaten by it beats one of it
      have hall2 := hs (fun z => z ∉ (c0 :: c1 :: r)) (fun i j hi hin hjn hr hj => by
        rcases hall i hin with q | q
        · exact hi q
        · rw [q.2 j hj] at hr; cases hr) ⟨v, v1, v2⟩
      exact hall2 c0 hc0 List.mem_cons_self
    obtain ⟨b, a, b1, a1, b2, a2, b3, a3, hr⟩ := hba
    have hab : a ≠ b := fun e => by rw [e] at hr; rw [(h b b b1 b1).1 rfl] at hr; cases hr
    have hN := List.nodup_cons.1 hc.nodup
    refine ⟨c0 :: b :: a :: c1 :: r, ⟨?_, ?_, ?_, ?_⟩, by simp, by simp⟩
    · have b2' : b ∉ c1 :: r := fun q => b2 (List.mem_cons_of_mem _ q)
      have a2' : a ∉ c1 :: r := fun q => a2 (List.mem_cons_of_mem _ q)
      have b0 : c0 ≠ b := fun e => b2 (e ▸ List.mem_cons_self)
      have a0 : c0 ≠ a := fun e => a2 (e ▸ List.mem_cons_self)
      refine List.nodup_cons.2 ⟨fun q => ?_, List.nodup_cons.2 ⟨fun q => ?_, List.nodup_cons.2 ⟨a2', hN.2⟩⟩⟩
      · rcases List.mem_cons.1 q with q | q
        · exact b0 q
        · rcases List.mem_cons.1 q with q | q
          · exact a0 q
          · exact hN.1 q
      · rcases List.mem_cons.1 q with q | q
        · exact hab q.symm
        · exact b2' q
    · intro z hz
      rcases List.mem_cons.1 hz with rfl | hz
      · exact hc.lt _ List.mem_cons_self
      · rcases List.mem_cons.1 hz with rfl | hz
        · exact b1
        · rcases List.mem_cons.1 hz with rfl | hz
          · exact a1
          · exact hc.lt z (List.mem_cons_of_mem _ hz)
    · exact ⟨h.beats b1 (hc.lt c0 List.mem_cons_self) (fun e => b2 (e ▸ List.mem_cons_self)) (by rw [b3 c0 List.mem_cons_self]; decide), hr, a3 c1 (by simp), hc.path.2⟩
    · intro x y hx hy
      refine hc.back x y ?_ (by simpa using hy)
      simpa [List.getLast?_cons_cons] using hx
theorem camion (h : Tou n R) (hs : Strong n R) (h3 : 3 ≤ n) : ∃ c, Round n R c ∧ c.length = n := by
  -- three of them
  have h0 : 0 < n := by omega
  have t : ∃ a b, a < n ∧ b < n ∧ R 0 a = true ∧ R a b = true ∧ R b 0 = true := by
    refine Classical.byContradiction (fun hno => ?_)
    have hall := hs (fun z => z = 0 ∨ R 0 z = true) (fun i j hi hin hjn hr => by
      rcases hi with rfl | hi
      · exact .inr hr
      · by_cases e : j = 0
        · exact .inl e
        · refine .inr (Classical.byContradiction (fun hc => hno ⟨i, j, hin, hjn, hi, hr, h.beats h0 hjn (Ne.symm e) hc⟩))) ⟨0, h0, .inl rfl⟩
    have hall2 := hs (fun z => z ≠ 0) (fun i j hi hin hjn hr e => by
      subst e
      rcases hall i hin with q | q
      · exact hi q
      · have := (h i 0 hin h0).2 hi
        rw [hr, q] at this; cases this) ⟨1, by omega, by decide⟩
    exact hall2 0 h0 rfl
  obtain ⟨a, b, a1, b1, r1, r2, r3⟩ := t
  have hself : ∀ i, i < n → R i i = false := fun i hi => (h i i hi hi).1 rfl
  have n1 : 0 ≠ a := fun e => by rw [← e, hself 0 h0] at r1; cases r1
  have n2 : a ≠ b := fun e => by rw [← e, hself a a1] at r2; cases r2
  have n3 : b ≠ 0 := fun e => by rw [e, hself 0 h0] at r3; cases r3
  have start : Round n R [0, a, b] := ⟨by simp [n1, n2, Ne.symm n3], fun z hz => by simp at hz; omega, ⟨r1, r2, trivial⟩, fun x y hx hy => by
    have e1 : b = x := by simpa using hx
    have e2 : 0 = y := by simpa using hy
    rw [← e1, ← e2]; exact r3⟩
  have grow : ∀ d, ∀ c, Round n R c → 3 ≤ c.length → c.length + d = n → ∃ c, Round n R c ∧ c.length = n := by
    intro d
    induction d using Nat.strongRecOn with
    | ind d ih =>
      intro c hc hc3 hcd
      by_cases e : d = 0
      · exact ⟨c, hc, by omega⟩
      · obtain ⟨c', g1, g2, g3⟩ := hc.grow h hs hc3 (by omega)
        have hle : c'.length ≤ n := by
          have hsub : c' ⊆ List.range n := fun z hz => List.mem_range.2 (g1.lt z hz)
          have := nodup_le g1.nodup hsub
          rwa [List.length_range] at this
        exact ih (n - c'.length) (by omega) c' g1 g2 (by omega)
  exact grow (n - 3) [0, a, b] start (by simp) (by simp; omega)
end
end Go.Proofs.Ytcheoendfcgjgaa.M
namespace Go.Proofs.Ytcheoendfcgjgaa.K
open Go.RowKit Go.Proofs.YtcheoendfcgjgaaW.PrintWords Go.Proofs.YtcheoendfcgjgaaW.PrintMore Go.Proofs.Ytcheoendfcgjgaa.P
structure OkL (n : Nat) (ns : List Nat) (l : List Nat) : Prop where
  nodup : l.Nodup
  lt : ∀ x ∈ l, x < n
  path : M.pathR (nb ns) l
theorem lastN_eq {l : List Nat} {x : Nat} (h : l.getLast? = some x) : lastN l = x := by
  unfold lastN
  rw [List.getLast?_eq_getElem?] at h
  rw [List.getD_eq_getElem?_getD, h]
  rfl
theorem last_of {l : List Nat} (h : 0 < l.length) : l.getLast? = some (lastN l) := by
  cases hq : l.getLast? with
  | none => rw [List.getLast?_eq_none_iff] at hq; rw [hq] at h; simp at h
  | some x => rw [lastN_eq hq]
theorem stepOk_iff {n : Nat} {ns l : List Nat} {j : Nat} (hl : OkL n ns l) (hj : j < n) : stepOk ns l j = true ↔ OkL n ns (l ++ [j]) := by
  unfold stepOk
  rw [Bool.and_eq_true, Bool.or_eq_true, decide_eq_true_eq, Bool.not_eq_true', List.any_eq_false]
  constructor
  · rintro ⟨h1, h2⟩
    have hm : j ∉ l := fun h => h1 j h (by simp)
    refine ⟨?_, fun x hx => ?_, M.pathR_append.2 ⟨hl.path, trivial, fun x y hx hy => ?_⟩⟩
    · have hp : (l ++ [j]).Perm (j :: l) := List.perm_append_singleton j l
      exact hp.nodup_iff.2 (List.nodup_cons.2 ⟨hm, hl.nodup⟩)
    · rcases List.mem_append.1 hx with q | q
      · exact hl.lt x q
      · rw [List.mem_singleton.1 q]; exact hj
    · have e : j = y := by simpa using hy
      rw [← e]
      rcases h2 with h2 | h2
      · rw [List.eq_nil_of_length_eq_zero h2] at hx; simp at hx
      · rw [lastN_eq hx] at h2; exact h2
  · intro h
    have hp : (l ++ [j]).Perm (j :: l) := List.perm_append_singleton j l
    have hN := List.nodup_cons.1 (hp.nodup_iff.1 h.nodup)
    refine ⟨fun y hy e => hN.1 (by have : y = j := by simpa using e
                                   rw [← this]; exact hy), ?_⟩
    by_cases h0 : l.length = 0
    · exact .inl h0
    · exact .inr ((M.pathR_append.1 h.path).2.2 (lastN l) j (last_of (by omega)) rfl)
theorem firstNE_sound {g : Nat → List Nat} : ∀ {L : List Nat}, 0 < (firstNE g L).length → ∃ j ∈ L, 0 < (g j).length ∧ firstNE g L = g j
  | [], h => by simp [firstNE] at h
  | j :: L, h => by
    rw [firstNE] at h ⊢
    split at h
    · rename_i c
      rw [if_pos c]
      exact ⟨j, by simp, c, rfl⟩
    · rename_i c
      rw [if_neg c]
      obtain ⟨i, h1, h2, h3⟩ := firstNE_sound h
      exact ⟨i, List.mem_cons_of_mem _ h1, h2, h3⟩
theorem firstNE_some {g : Nat → List Nat} : ∀ {L : List Nat} {j : Nat}, j ∈ L → 0 < (g j).length → 0 < (firstNE g L).length
  | [], _, h, _ => by cases h
  | i :: L, j, h, hg => by
    rw [firstNE]
    split
    · rename_i c; exact c
    · rename_i c
      rcases List.mem_cons.1 h with rfl | q
      · exact absurd hg c
      · exact firstNE_some q hg
theorem way_sound {n : Nat} {ns : List Nat} (fin : List Nat → Bool) : ∀ d l, l.length + d = n → OkL n ns l → 0 < (way n ns fin d l).length → OkL n ns (way n ns fin d l) ∧ fin (way n ns fin d l) = true ∧ (way n ns fin d l).length = n ∧ ∃ t, way n ns fin d l = l ++ t
  | 0, l, hd, hl, h => by
    rw [way] at h ⊢
    split at h
    · rename_i c
      rw [if_pos c]
      exact ⟨hl, c, by omega, [], by simp⟩
    · simp at h
  | d + 1, l, hd, hl, h => by
    rw [way] at h ⊢
    obtain ⟨j, h1, h2, h3⟩ := firstNE_sound h
    rw [h3]
    by_cases c : stepOk ns l j = true
    · rw [if_pos c] at h2 ⊢
      obtain ⟨q1, q2, q3, t, q4⟩ := way_sound fin d (l ++ [j]) (by simp; omega) ((stepOk_iff hl (List.mem_range.1 h1)).1 c) h2
      exact ⟨q1, q2, q3, j :: t, by rw [q4]; simp⟩
    · rw [if_neg c] at h2
      simp at h2
theorem OkL.left {n : Nat} {ns a b : List Nat} (h : OkL n ns (a ++ b)) : OkL n ns a :=
  ⟨(List.nodup_append.1 h.nodup).1, fun x hx => h.lt x (List.mem_append_left _ hx), (M.pathR_append.1 h.path).1⟩
theorem way_complete {n : Nat} {ns : List Nat} (hn : 0 < n) (fin : List Nat → Bool) : ∀ (t l : List Nat), (l ++ t).length = n → OkL n ns (l ++ t) → fin (l ++ t) = true → 0 < (way n ns fin t.length l).length
  | [], l, hd, hl, hf => by
    rw [List.append_nil] at hd hf
    rw [List.length_nil, way, if_pos hf]
    omega
  | j :: t, l, hd, hl, hf => by
    have e : l ++ j :: t = (l ++ [j]) ++ t := by simp
    rw [e] at hd hl hf
    rw [List.length_cons, way]
    have hj : j < n := hl.lt j (by simp)
    refine firstNE_some (j := j) (List.mem_range.2 hj) ?_
    rw [if_pos ((stepOk_iff hl.left.left hj).2 hl.left)]
    exact way_complete hn fin t (l ++ [j]) hd hl hf
end Go.Proofs.Ytcheoendfcgjgaa.K
namespace Go.Proofs.Ytcheoendfcgjgaa.M
theorem sum_map_add (f g : Nat → Nat) : ∀ K : List Nat, (K.map fun y => f y + g y).sum = (K.map f).sum + (K.map g).sum
  | [] => rfl
  | x :: K => by rw [List.map_cons, List.map_cons, List.map_cons, List.sum_cons, List.sum_cons, List.sum_cons, sum_map_add f g K]; omega
theorem sum_map_if (p : Nat → Bool) : ∀ K : List Nat, (K.map fun y => if p y = true then 1 else 0).sum = K.countP p
  | [] => rfl
  | x :: K => by rw [List.map_cons, List.sum_cons, sum_map_if p K, List.countP_cons]; omega
theorem sum_zero {f : Nat → Nat} : ∀ {K : List Nat}, (K.map f).sum = 0 → ∀ y ∈ K, f y = 0
  | [], _, y, hy => by cases hy
  | x :: K, h, y, hy => by
    rw [List.map_cons, List.sum_cons] at h
    rcases List.mem_cons.1 hy with rfl | q
    · omega
    · exact sum_zero (by omega) y q
theorem sorted_eq {a b : List Nat} (hp : a.Perm b) (ha : a.Pairwise (fun a b => a ≤ b)) (hb : b.Pairwise (fun a b => a ≤ b)) : a = b :=
  hp.eq_of_pairwise (fun _ _ _ _ h1 h2 => Nat.le_antisymm h1 h2) ha hb
def srtN (l : List Nat) : List Nat := l.mergeSort (fun a b => decide (a ≤ b))
theorem srtN_perm (l : List Nat) : (srtN l).Perm l := List.mergeSort_perm _ _
theorem srtN_sorted (l : List Nat) : (srtN l).Pairwise (fun a b => a ≤ b) := by
  have := List.pairwise_mergeSort (le := fun a b : Nat => decide (a ≤ b)) (by intro a b c h1 h2; simp at *; omega) (by intro a b; simp; omega) l
  exact this.imp (fun h => by simpa using h)
section
variable {n : Nat} {R : Nat → Nat → Bool}
def cntR (R : Nat → Nat → Bool) (K : List Nat) (y : Nat) : Nat := K.countP (R y)
theorem one_each (h : Tou n R) {v : Nat} (hv : v < n) : ∀ {K : List Nat}, v ∉ K → (∀ x ∈ K, x < n) → K.countP (R v) + K.countP (fun y => R y v) = K.length
  | [], _, _ => rfl
  | y :: K, hn, hl => by
    have ih := one_each h hv (K := K) (fun q => hn (List.mem_cons_of_mem _ q)) (fun x hx => hl x (List.mem_cons_of_mem _ hx))
    have hy := hl y List.mem_cons_self
    have hne : v ≠ y := fun e => hn (by rw [e]; exact List.mem_cons_self)
    have e := (h v y hv hy).2 hne
    rw [List.countP_cons, List.countP_cons, List.length_cons, e]
    cases hr : R y v with
    | true => simp; omega
    | false => simp; omega
theorem inner_sum (h : Tou n R) : ∀ {K : List Nat}, K.Nodup → (∀ x ∈ K, x < n) → 2 * (K.map (cntR R K)).sum + K.length = K.length * K.length
  | [], _, _ => rfl
  | v :: K, hN, hl => by
    obtain ⟨h1, h2⟩ := List.nodup_cons.1 hN
    have hv := hl v List.mem_cons_self
    have ih := inner_sum h h2 (fun x hx => hl x (List.mem_cons_of_mem _ hx))
    have e1 : (K.map (cntR R (v :: K))).sum = (K.map (cntR R K)).sum + K.countP (fun y => R y v) := by
      rw [← sum_map_if (fun y => R y v) K, ← sum_map_add]
      congr 1
      exact List.map_congr_left (fun y _ => by unfold cntR; rw [List.countP_cons])
    have e2 : cntR R (v :: K) v = K.countP (R v) := by
      unfold cntR
      rw [List.countP_cons, (h v v hv hv).1 rfl]; simp
    have e3 := one_each h hv h1 (fun x hx => hl x (List.mem_cons_of_mem _ hx))
    rw [List.map_cons, List.sum_cons, e1, e2, List.length_cons]
    have e4 : (K.length + 1) * (K.length + 1) = K.length * K.length + 2 * K.length + 1 := by rw [Nat.mul_add, Nat.add_mul]; omega
    rw [e4]
    omega
def winsR (n : Nat) (R : Nat → Nat → Bool) (y : Nat) : Nat := (List.range n).countP (R y)
theorem wins_split {K C : List Nat} (hp : (K ++ C).Perm (List.range n)) (y : Nat) : winsR n R y = cntR R K y + cntR R C y := by
  unfold winsR cntR
  rw [← hp.countP_eq, List.countP_append]
theorem sum_split {K C : List Nat} (h : Tou n R) (hp : (K ++ C).Perm (List.range n)) : 2 * (K.map (winsR n R)).sum + K.length = K.length * K.length + 2 * (K.map (cntR R C)).sum := by
  have hN : (K ++ C).Nodup := hp.nodup_iff.2 List.nodup_range
  have hi := inner_sum h (List.nodup_append.1 hN).1 (fun x hx => List.mem_range.1 (hp.mem_iff.1 (List.mem_append_left _ hx)))
  have e : (K.map (winsR n R)).sum = (K.map (cntR R K)).sum + (K.map (cntR R C)).sum := by
    rw [← sum_map_add]
    congr 1
    exact List.map_congr_left (fun y _ => wins_split hp y)
  omega
variable (W : Nat → Nat → Bool)
def cOf (n : Nat) (W : Nat → Nat → Bool) (x : Nat) : Nat := (List.range n).countP (W x)
variable {W}
theorem way_stays {S : Nat → Prop} (hS : ∀ i j, S i → R i j = true → S j) {i j : Nat} (h : Way R i j) : S i → S j := by
  intro hi
  induction h with
  | refl => exact hi
  | tail _ hr ih => exact hS _ _ ih hr
theorem reach_le (h : Tou n R) (hW : ∀ i j, i < n → j < n → (W i j = true ↔ Way R i j)) {x y : Nat} (hx : x < n) (hy : y < n) : W x y = true ↔ cOf n W y ≤ cOf n W x := by
  constructor
  · intro hw
    refine countP_le _ _ _ (fun z hz hyz => ?_)
    have hz' := List.mem_range.1 hz
    exact (hW x z hx hz').2 (Way.trans ((hW x y hx hy).1 hw) ((hW y z hy hz').1 hyz))
  · intro hle
    refine Classical.byContradiction (fun hc => ?_)
    have hne : x ≠ y := fun e => hc ((hW x y hx hy).2 (by rw [e]; exact Way.refl y))
    have hr : ¬ R x y = true := fun hr => hc ((hW x y hx hy).2 (Way.tail (Way.refl x) hr))
    have hyx := h.beats hx hy hne hr
    have : cOf n W x < cOf n W y := countP_lt _ _ _ (fun z hz hxz => by
      have hz' := List.mem_range.1 hz
      exact (hW y z hy hz').2 (Way.trans (Way.tail (Way.refl y) hyx) ((hW x z hx hz').1 hxz))) y (List.mem_range.2 hy) (by simpa using hc) ((hW y y hy hy).2 (Way.refl y))
    omega
theorem beats_of_lt (h : Tou n R) (hW : ∀ i j, i < n → j < n → (W i j = true ↔ Way R i j)) {x y : Nat} (hx : x < n) (hy : y < n) (hlt : cOf n W y < cOf n W x) : R x y = true := by
  refine Classical.byContradiction (fun hc => ?_)
  have hne : x ≠ y := fun e => by rw [e] at hlt; omega
  have hyx := h.beats hx hy hne hc
  have := (reach_le h hW hy hx).1 ((hW y x hy hx).2 (Way.tail (Way.refl y) hyx))
  omega
theorem filter_append_perm (p : Nat → Bool) : ∀ l : List Nat, (l.filter p ++ l.filter (fun x => !p x)).Perm l
  | [] => by simp
  | x :: l => by
    have ih := filter_append_perm p l
    cases hp : p x with
    | true => rw [List.filter_cons_of_pos hp, List.filter_cons_of_neg (by simp [hp]), List.cons_append]; exact ih.cons x
    | false => rw [List.filter_cons_of_neg (by simp [hp]), List.filter_cons_of_pos (by simp [hp])]; exact List.perm_middle.trans (ih.cons x)
theorem max_of (f : Nat → Nat) : ∀ {K : List Nat}, K ≠ [] → ∃ x ∈ K, ∀ y ∈ K, f y ≤ f x
  | [], h => absurd rfl h
  | [x], _ => ⟨x, by simp, fun y hy => by rw [List.mem_singleton.1 hy]; exact Nat.le_refl _⟩
  | x :: z :: K, _ => by
    obtain ⟨m, h1, h2⟩ := max_of f (K := z :: K) (by simp)
    by_cases c : f m ≤ f x
    · refine ⟨x, by simp, fun y hy => ?_⟩
      rcases List.mem_cons.1 hy with rfl | q
      · exact Nat.le_refl _
      · exact Nat.le_trans (h2 y q) c
    · refine ⟨m, List.mem_cons_of_mem _ h1, fun y hy => ?_⟩
      rcases List.mem_cons.1 hy with rfl | q
      · omega
      · exact h2 y q
theorem cut_iff (h : Tou n R) (hlt : ∀ i j, i < n → R i j = true → j < n) (hW : ∀ i j, i < n → j < n → (W i j = true ↔ Way R i j)) {srt : List Nat} (hp : srt.Perm ((List.range n).map (winsR n R))) (hs : srt.Pairwise (fun a b => a ≤ b)) {k : Nat} (hk1 : 1 ≤ k) (hkn : k ≤ n) :
    2 * (srt.take k).sum + k = k * k ↔ ∃ x, x < n ∧ cOf n W x = k := by
  constructor
  · intro hsum
    obtain ⟨vs, hvs⟩ : ∃ vs, vs = (List.range n).mergeSort (fun a b => decide (winsR n R a ≤ winsR n R b)) := ⟨_, rfl⟩
    have hvp : vs.Perm (List.range n) := by rw [hvs]; exact List.mergeSort_perm _ _
    have hvS : (vs.map (winsR n R)).Pairwise (fun a b => a ≤ b) := by
      rw [List.pairwise_map, hvs]
      have := List.pairwise_mergeSort (le := fun a b => decide (winsR n R a ≤ winsR n R b)) (by intro a b c h1 h2; simp at *; omega) (by intro a b; simp; omega) (List.range n)
      exact this.imp (fun h => by simpa using h)
    have hse : srt = vs.map (winsR n R) := sorted_eq (hp.trans (hvp.map _).symm) hs hvS
    have hvl : vs.length = n := by rw [hvp.length_eq, List.length_range]
    have hKC : (vs.take k ++ vs.drop k).Perm (List.range n) := by rw [List.take_append_drop]; exact hvp
    have hKl : (vs.take k).length = k := by rw [List.length_take]; omega
    have e := sum_split h hKC
    rw [hKl, List.map_take, ← hse, hsum] at e
    have hz := sum_zero (f := cntR R (vs.drop k)) (K := vs.take k) (by omega)
    have hN : (vs.take k ++ vs.drop k).Nodup := hKC.nodup_iff.2 List.nodup_range
    have hKn : ∀ x ∈ vs.take k, x < n := fun x hx => List.mem_range.1 (hKC.mem_iff.1 (List.mem_append_left _ hx))
    have hclosed : ∀ i j, i ∈ vs.take k → R i j = true → j ∈ vs.take k := by
      intro i j hi hr
      have hj := hlt i j (hKn i hi) hr
      rcases List.mem_append.1 (hKC.mem_iff.2 (List.mem_range.2 hj)) with q | q
      · exact q
      · have h0 := hz i hi
        unfold cntR at h0
        exact absurd hr (by have := List.countP_eq_zero.1 h0 j q; simpa using this)
    obtain ⟨x, hx, hmax⟩ := max_of (cOf n W) (K := vs.take k) (fun e => by rw [e] at hKl; simp at hKl; omega)
    refine ⟨x, hKn x hx, ?_⟩
    unfold cOf
    rw [← hKC.countP_eq, List.countP_append]
    have e1 : (vs.take k).countP (W x) = k := by
      rw [List.countP_eq_length.2 (fun y hy => (reach_le h hW (hKn x hx) (hKn y hy)).2 (hmax y hy)), hKl]
    have e2 : (vs.drop k).countP (W x) = 0 := by
      rw [List.countP_eq_zero]
      intro y hy hw
      have hyn : y < n := List.mem_range.1 (hKC.mem_iff.1 (List.mem_append_right _ hy))
      have := way_stays (S := fun z => z ∈ vs.take k) hclosed ((hW x y (hKn x hx) hyn).1 hw) hx
      exact (List.nodup_append.1 hN).2.2 y this y hy rfl
    omega
  · rintro ⟨x, hx, hc⟩
    have hKC := filter_append_perm (W x) (List.range n)
    obtain ⟨K, hK⟩ : ∃ K, K = (List.range n).filter (W x) := ⟨_, rfl⟩
    obtain ⟨C, hC⟩ : ∃ C, C = (List.range n).filter (fun y => !W x y) := ⟨_, rfl⟩
    rw [← hK, ← hC] at hKC
    have hKl : K.length = k := by rw [hK, ← List.countP_eq_length_filter]; exact hc
    have hKm : ∀ y, y ∈ K ↔ y < n ∧ W x y = true := fun y => by rw [hK, List.mem_filter, List.mem_range]
    have hCm : ∀ y, y ∈ C ↔ y < n ∧ W x y = false := fun y => by rw [hC, List.mem_filter, List.mem_range]; simp
    have hno : ∀ y ∈ K, ∀ z ∈ C, R y z = false := fun y hy z hz => by
      obtain ⟨y1, y2⟩ := (hKm y).1 hy
      obtain ⟨z1, z2⟩ := (hCm z).1 hz
      cases hr : R y z with
      | false => rfl
      | true => rw [(hW x z hx z1).2 (Way.tail ((hW x y hx y1).1 y2) hr)] at z2; cases z2
    have hz : (K.map (cntR R C)).sum = 0 := by
      have : K.map (cntR R C) = K.map (fun _ => 0) := List.map_congr_left (fun y hy => by
        unfold cntR
        rw [List.countP_eq_zero]
        intro z hz
        rw [hno y hy z hz]; decide)
      rw [this]
      clear this hKl hKm hno hK hKC
      induction K with
      | nil => rfl
      | cons a K ih => rw [List.map_cons, List.sum_cons, ih]
    have e := sum_split h hKC
    rw [hz, hKl] at e
    have hle : ∀ a ∈ K.map (winsR n R), ∀ b ∈ C.map (winsR n R), a ≤ b := by
      intro a ha b hb
      obtain ⟨y, hy, rfl⟩ := List.mem_map.1 ha
      obtain ⟨z, hz', rfl⟩ := List.mem_map.1 hb
      rw [wins_split hKC y, wins_split hKC z]
      have h1 : cntR R C y = 0 := by
        unfold cntR
        rw [List.countP_eq_zero]
        intro u hu
        rw [hno y hy u hu]; decide
      have h2 : cntR R K z = K.length := by
        unfold cntR
        rw [List.countP_eq_length]
        intro u hu
        obtain ⟨u1, u2⟩ := (hKm u).1 hu
        obtain ⟨z1, z2⟩ := (hCm z).1 hz'
        exact h.beats u1 z1 (fun e => by rw [e, z2] at u2; cases u2) (by rw [hno u hu z hz']; decide)
      have h3 : cntR R K y ≤ K.length := List.countP_le_length
      omega
    have hsrt : srt = srtN (K.map (winsR n R)) ++ srtN (C.map (winsR n R)) := by
      refine sorted_eq ?_ hs ?_
      · refine hp.trans ?_
        refine (hKC.symm.map _).trans ?_
        rw [List.map_append]
        exact ((srtN_perm _).append (srtN_perm _)).symm
      · rw [List.pairwise_append]
        exact ⟨srtN_sorted _, srtN_sorted _, fun a ha b hb => hle a ((srtN_perm _).mem_iff.1 ha) b ((srtN_perm _).mem_iff.1 hb)⟩
    have hl2 : (srtN (K.map (winsR n R))).length = k := by rw [(srtN_perm _).length_eq, List.length_map, hKl]
    have htk : srt.take k = srtN (K.map (winsR n R)) := by rw [hsrt, List.take_left' hl2]
    rw [htk, (srtN_perm _).sum_nat]
    omega
theorem strong_of (h : Tou n R) (hlt : ∀ i j, i < n → R i j = true → j < n) (hall : ∀ i j, i < n → j < n → Way R i j) : Strong n R := by
  intro S hS hi j hj
  obtain ⟨i, hi1, hi2⟩ := hi
  have := way_stays (R := R) (S := fun z => z < n ∧ S z) (fun a b ha hr => ⟨hlt a b ha.1 hr, hS a b ha.2 ha.1 (hlt a b ha.1 hr) hr⟩) (hall i j hi1 hj) ⟨hi1, hi2⟩
  exact this.2
theorem path_way : ∀ {l : List Nat} {x : Nat}, pathR R (x :: l) → ∀ y ∈ x :: l, Way R x y
  | [], x, _, y, hy => by rw [List.mem_singleton.1 hy]; exact Way.refl x
  | z :: l, x, h, y, hy => by
    rcases List.mem_cons.1 hy with rfl | q
    · exact Way.refl _
    · exact Way.trans (Way.tail (Way.refl x) h.1) (path_way h.2 y q)
theorem path_last : ∀ {l : List Nat} {x : Nat}, pathR R (x :: l) → ∀ y ∈ x :: l, Way R y ((x :: l).getLast (by simp))
  | [], x, _, y, hy => by rw [List.mem_singleton.1 hy]; exact Way.refl x
  | z :: l, x, h, y, hy => by
    rw [List.getLast_cons (by simp)]
    rcases List.mem_cons.1 hy with rfl | q
    · exact Way.trans (Way.tail (Way.refl _) h.1) (path_last h.2 z List.mem_cons_self)
    · exact path_last h.2 y q
theorem round_way {c : List Nat} (hc : Round n R c) {x y : Nat} (hx : x ∈ c) (hy : y ∈ c) : Way R x y := by
  cases c with
  | nil => cases hx
  | cons z l =>
    have hb := hc.back ((z :: l).getLast (by simp)) z (List.getLast?_eq_some_getLast (by simp)) rfl
    exact Way.trans (path_last hc.path x hx) (Way.trans (Way.tail (Way.refl _) hb) (path_way hc.path y hy))
end
end Go.Proofs.Ytcheoendfcgjgaa.M
namespace Go.Proofs.Ytcheoendfcgjgaa.K
open Go.RowKit Go.Proofs.YtcheoendfcgjgaaW.PrintWords Go.Proofs.YtcheoendfcgjgaaW.PrintMore Go.Proofs.Ytcheoendfcgjgaa.P
open Go.Proofs.Ytcheoendfcgjgaa.M (warshall great great_mem great_rise warshall_iff)
theorem pop_count {n : Nat} {m : List Nat} (h : Sets n m) (i : Nat) : pop (m.getD i 0) = (List.range n).countP (nb m i) := by
  have ext : ∀ d, n + d ≤ 8 → (List.range (n + d)).countP (nb m i) = (List.range n).countP (nb m i) := by
    intro d
    induction d with
    | zero => intro _; rfl
    | succ d ih =>
      intro hd
      rw [← Nat.add_assoc, List.range_succ, List.countP_append, ih (by omega)]
      have : nb m i (n + d) = false := h.nb_lt (by omega)
      simp [this]
  have := ext (8 - n) (by have := h.n8; omega)
  rw [show n + (8 - n) = 8 by have := h.n8; omega] at this
  exact this
theorem countP_split (p q : Nat → Bool) : ∀ l : List Nat, l.countP p = l.countP (fun k => p k && q k) + l.countP (fun k => p k && !q k)
  | [] => rfl
  | x :: l => by
    rw [List.countP_cons, List.countP_cons, List.countP_cons, countP_split p q l]
    cases p x <;> cases q x <;> simp <;> omega
theorem count_one (x : Nat) (h : x < 9) : (List.range 9).countP (fun k => decide (k = x)) = 1 := by
  have := List.all_eq_true.1 (show (List.range 9).all (fun x => (List.range 9).countP (fun k => decide (k = x)) == 1) = true by decide +kernel) x (List.mem_range.2 h)
  simpa using this
theorem nodup_leI {α : Type} [DecidableEq α] : ∀ {l m : List α}, l.Nodup → (∀ x, x ∈ l → x ∈ m) → l.length ≤ m.length
  | [], _, _, _ => Nat.zero_le _
  | x :: l, m, hN, hs => by
    obtain ⟨h1, h2⟩ := List.nodup_cons.1 hN
    have hx := hs x List.mem_cons_self
    have ih := nodup_leI (l := l) (m := m.erase x) h2 (fun y hy => (List.mem_erase_of_ne (fun e => h1 (by rw [← e]; exact hy))).2 (hs y (List.mem_cons_of_mem _ hy)))
    rw [List.length_erase_of_mem hx] at ih
    have : 0 < m.length := List.length_pos_of_mem hx
    rw [List.length_cons]
    omega
def grs (s : List Nat) (c : Nat) : Nat := (List.range 9).countP (fun k => decide (k ∈ s) && decide (c < k))
def dif (s : List Nat) : Nat := (List.range 9).countP (fun k => decide (k ∈ s))
theorem great_grs (s : List Nat) (hs : ∀ x ∈ s, x ≤ 8) (c : Nat) : (great (c : Int) (ints s) []).length = grs s c := by
  have h1 : (great (c : Int) (ints s) []).Nodup := M.nodup_lt (great_rise _ _ _ List.Pairwise.nil)
  have h2 : (((List.range 9).filter (fun k => decide (k ∈ s) && decide (c < k))).map (fun x : Nat => (x : Int))).Nodup := by
    have : ((List.range 9).filter (fun k => decide (k ∈ s) && decide (c < k))).Nodup := List.nodup_range.sublist List.filter_sublist
    exact List.pairwise_map.2 (List.Pairwise.imp (fun h e => h (by omega)) this)
  have hm : ∀ y, y ∈ great (c : Int) (ints s) [] ↔ y ∈ ((List.range 9).filter (fun k => decide (k ∈ s) && decide (c < k))).map (fun x : Nat => (x : Int)) := by
    intro y
    rw [great_mem]
    simp only [List.not_mem_nil, false_or, List.mem_map, List.mem_filter, List.mem_range, Bool.and_eq_true, decide_eq_true_eq]
    constructor
    · rintro ⟨h3, h4⟩
      obtain ⟨k, hk, rfl⟩ := List.mem_map.1 h3
      exact ⟨k, ⟨by have := hs k hk; omega, hk, by omega⟩, rfl⟩
    · rintro ⟨k, ⟨_, h3, h4⟩, rfl⟩
      exact ⟨List.mem_map.2 ⟨k, h3, rfl⟩, by omega⟩
  have l1 := nodup_leI h1 (fun x hx => (hm x).1 hx)
  have l2 := nodup_leI h2 (fun x hx => (hm x).2 hx)
  rw [List.length_map, ← List.countP_eq_length_filter] at l1 l2
  unfold grs
  omega
theorem grs_mono (s : List Nat) {a b : Nat} (h : a ≤ b) : grs s b ≤ grs s a := List.countP_mono_left (fun k _ hk => by simp at hk ⊢; exact ⟨hk.1, by omega⟩)
theorem grs_dif (s : List Nat) (hs : ∀ x ∈ s, x ≤ 8) {c : Nat} (hc : c ∈ s) : grs s c + 1 ≤ dif s := by
  unfold grs dif
  rw [countP_split (fun k => decide (k ∈ s)) (fun k => decide (c < k))]
  have : 1 ≤ (List.range 9).countP (fun k => decide (k ∈ s) && !decide (c < k)) := by
    rw [← count_one c (by have := hs c hc; omega)]
    exact List.countP_mono_left (fun k _ hk => by have : k = c := by simpa using hk
                                                  subst this; simp [hc])
  omega
theorem grs_min (s : List Nat) (hs : ∀ x ∈ s, x ≤ 8) {c : Nat} (hc : c ∈ s) (hmin : ∀ x ∈ s, c ≤ x) : grs s c + 1 = dif s := by
  unfold grs dif
  rw [countP_split (fun k => decide (k ∈ s)) (fun k => decide (c < k)), ← count_one c (by have := hs c hc; omega)]
  congr 1
  refine List.countP_congr (fun k _ => ?_)
  simp only [Bool.and_eq_true, decide_eq_true_eq, Bool.not_eq_true', decide_eq_false_iff_not]
  constructor
  · rintro rfl; exact ⟨hc, by omega⟩
  · rintro ⟨h1, h2⟩; have := hmin k h1; omega
theorem min_of : ∀ {s : List Nat}, s ≠ [] → ∃ c ∈ s, ∀ x ∈ s, c ≤ x
  | [], h => absurd rfl h
  | [x], _ => ⟨x, by simp, fun y hy => by rw [List.mem_singleton.1 hy]; exact Nat.le_refl _⟩
  | x :: z :: s, _ => by
    obtain ⟨c, h1, h2⟩ := min_of (s := z :: s) (by simp)
    by_cases e : x ≤ c
    · refine ⟨x, by simp, fun y hy => ?_⟩
      rcases List.mem_cons.1 hy with rfl | q
      · exact Nat.le_refl _
      · exact Nat.le_trans e (h2 y q)
    · refine ⟨c, List.mem_cons_of_mem _ h1, fun y hy => ?_⟩
      rcases List.mem_cons.1 hy with rfl | q
      · omega
      · exact h2 y q
def mx : List Int → Int → Int
  | [], m => m
  | p :: l, m => mx l (if p > m then p else m)
theorem mx_ge : ∀ (l : List Int) (m : Int), m ≤ mx l m ∧ ∀ p ∈ l, p ≤ mx l m
  | [], m => ⟨Int.le_refl _, fun p hp => by cases hp⟩
  | p :: l, m => by
    obtain ⟨h1, h2⟩ := mx_ge l (if p > m then p else m)
    rw [mx]
    by_cases c : p > m
    · rw [if_pos c] at h1 h2 ⊢
      refine ⟨by omega, fun q hq => ?_⟩
      rcases List.mem_cons.1 hq with rfl | hq
      · exact h1
      · exact h2 q hq
    · rw [if_neg c] at h1 h2 ⊢
      refine ⟨h1, fun q hq => ?_⟩
      rcases List.mem_cons.1 hq with rfl | hq
      · omega
      · exact h2 q hq
theorem mx_mem : ∀ (l : List Int) (m : Int), mx l m = m ∨ mx l m ∈ l
  | [], m => .inl rfl
  | p :: l, m => by
    rw [mx]
    by_cases c : p > m
    · rw [if_pos c]
      rcases mx_mem l p with h | h
      · exact .inr (by rw [h]; simp)
      · exact .inr (List.mem_cons_of_mem _ h)
    · rw [if_neg c]
      rcases mx_mem l m with h | h
      · exact .inl h
      · exact .inr (List.mem_cons_of_mem _ h)
theorem mx_dif (s : List Nat) (hs : ∀ x ∈ s, x ≤ 8) (hne : s ≠ []) : mx (partsL (ints s)) 0 + 1 = (dif s : Int) := by
  have hp : ∀ p, p ∈ partsL (ints s) ↔ ∃ x ∈ s, p = (grs s x : Int) := by
    intro p
    unfold partsL ints
    simp only [List.map_map, List.mem_map, Function.comp]
    constructor
    · rintro ⟨x, hx, rfl⟩
      exact ⟨x, hx, by rw [← great_grs s hs x]; rfl⟩
    · rintro ⟨x, hx, rfl⟩
      exact ⟨x, hx, by rw [← great_grs s hs x]; rfl⟩
  obtain ⟨h1, h2⟩ := mx_ge (partsL (ints s)) 0
  obtain ⟨c, c1, c2⟩ := min_of hne
  have h3 := h2 (grs s c : Int) ((hp _).2 ⟨c, c1, rfl⟩)
  have h4 := grs_min s hs c1 c2
  rcases mx_mem (partsL (ints s)) 0 with h | h
  · omega
  · obtain ⟨x, hx, e⟩ := (hp _).1 h
    have := grs_dif s hs hx
    omega
section
variable {n : Nat} {ns : List Nat} (hT : Tour n ns)
include hT
theorem Tour.tou : M.Tou n (nb ns) := by
  intro i j hi hj
  refine ⟨fun e => ?_, fun hne => ?_⟩
  · subst e; exact hT.1.2 i hi
  · rcases Nat.lt_or_ge i j with h | h
    · have := hT.2 j hj i h
      revert this; cases nb ns i j <;> cases nb ns j i <;> simp
    · have := hT.2 i hi j (by omega)
      revert this; cases nb ns i j <;> cases nb ns j i <;> simp
theorem Tour.nlt : ∀ i j, i < n → nb ns i j = true → j < n := by
  intro i j hi h
  refine Classical.byContradiction (fun hc => ?_)
  rw [hT.1.1.nb_lt (by omega)] at h
  cases h
theorem Tour.way_iff : ∀ i j, i < n → j < n → (nb (warshall ns) i j = true ↔ M.Way (nb ns) i j) := by
  intro i j hi hj
  have hl := hT.1.1.len
  exact warshall_iff ns (fun a b hab => hT.1.1.bt_lt a b hab) i j (by omega)
theorem warshall_sets : Sets n (warshall ns) := ⟨hT.1.1.n1, hT.1.1.n8, by rw [warshall_len, hT.1.1.len], warshall_lt hT.1.1⟩
theorem szs_get (i : Nat) (hi : i < n) : (szs ns).getD i 0 = M.cOf n (nb (warshall ns)) i := by
  have hw : i < (warshall ns).length := by rw [warshall_len, hT.1.1.len]; exact hi
  have := pop_count (warshall_sets hT) i
  rw [List.getD_eq_getElem?_getD, List.getElem?_eq_getElem hw] at this
  unfold szs
  rw [List.getD_eq_getElem?_getD, List.getElem?_map, List.getElem?_eq_getElem hw]
  exact this
theorem szs_mem (k : Nat) : k ∈ szs ns ↔ ∃ x, x < n ∧ M.cOf n (nb (warshall ns)) x = k := by
  have hl : (szs ns).length = n := by rw [szs_len, hT.1.1.len]
  constructor
  · intro h
    obtain ⟨i, hi, rfl⟩ := List.getElem_of_mem h
    refine ⟨i, by omega, ?_⟩
    rw [← szs_get hT i (by omega), List.getD_eq_getElem?_getD, List.getElem?_eq_getElem hi]; rfl
  · rintro ⟨x, hx, rfl⟩
    rw [← szs_get hT x hx, List.getD_eq_getElem?_getD, List.getElem?_eq_getElem (by omega)]
    exact List.getElem_mem _
theorem szs_bd : ∀ k ∈ szs ns, 1 ≤ k ∧ k ≤ n := by
  intro k hk
  obtain ⟨x, hx, rfl⟩ := (szs_mem hT k).1 hk
  have hle : M.cOf n (nb (warshall ns)) x ≤ (List.range n).length := List.countP_le_length
  rw [List.length_range] at hle
  refine ⟨?_, hle⟩
  exact List.countP_pos_iff.2 ⟨x, List.mem_range.2 hx, (hT.way_iff x x hx hx).2 (M.Way.refl x)⟩
theorem szs_le8 : ∀ k ∈ szs ns, k ≤ 8 := fun k hk => by have := szs_bd hT k hk; have := hT.1.1.n8; omega
theorem szs_ne : szs ns ≠ [] := fun e => by have h1 := szs_len ns; rw [e, hT.1.1.len] at h1; have := hT.1.1.n1; simp at h1; omega
theorem part_wins {i j : Nat} (hi : i < n) (hj : j < n) (h : grs (szs ns) ((szs ns).getD i 0) < grs (szs ns) ((szs ns).getD j 0)) : nb ns i j = true := by
  refine M.beats_of_lt hT.tou hT.way_iff hi hj ?_
  rw [← szs_get hT i hi, ← szs_get hT j hj]
  refine Classical.byContradiction (fun hc => ?_)
  have := grs_mono (szs ns) (show (szs ns).getD i 0 ≤ (szs ns).getD j 0 by omega)
  omega
def cu (ns : List Nat) (k : Nat) : Nat := (List.range k).countP (fun j => decide (j + 1 ∈ szs ns))
omit hT in
theorem cu_succ (ns : List Nat) (k : Nat) : cu ns (k + 1) = cu ns k + (if k + 1 ∈ szs ns then 1 else 0) := by
  unfold cu
  rw [List.range_succ, List.countP_append]
  simp only [List.countP_cons, List.countP_nil, decide_eq_true_eq, Nat.zero_add]
theorem cu_all : cu ns n = dif (szs ns) := by
  have h0 : (0 : Nat) ∉ szs ns := fun h => by have := szs_bd hT 0 h; omega
  have e1 : dif (szs ns) = cu ns 8 := by
    unfold dif cu
    rw [show List.range 9 = 0 :: (List.range 8).map (· + 1) from rfl, List.countP_cons, List.countP_map]
    simp [h0, Function.comp_def]
  have ext : ∀ d, n + d ≤ 8 → cu ns (n + d) = cu ns n := by
    intro d
    induction d with
    | zero => intro _; rfl
    | succ d ih =>
      intro hd
      rw [← Nat.add_assoc, cu_succ, ih (by omega), if_neg (fun h => by have := szs_bd hT _ h; omega)]
      rfl
  rw [e1, ← ext (8 - n) (by have := hT.1.1.n8; omega), show n + (8 - n) = 8 by have := hT.1.1.n8; omega]
theorem scores_wins : ns.map pop = (List.range n).map (M.winsR n (nb ns)) := by
  have hl := hT.1.1.len
  refine List.ext_getElem (by simp [hl]) (fun i h1 h2 => ?_)
  have hi : i < ns.length := by simpa using h1
  have := pop_count hT.1.1 i
  rw [List.getD_eq_getElem?_getD, List.getElem?_eq_getElem hi] at this
  simp only [List.getElem_map, List.getElem_range]
  exact this
theorem cut_mem {k : Nat} (h1 : 1 ≤ k) (hn : k ≤ n) : 2 * ((M.srtN (ns.map pop)).take k).sum + k = k * k ↔ k ∈ szs ns := by
  rw [szs_mem hT k]
  refine M.cut_iff hT.tou hT.nlt hT.way_iff ?_ (M.srtN_sorted _) h1 hn
  rw [← scores_wins hT]
  exact M.srtN_perm _
theorem round_iff (h3 : 3 ≤ n) : 0 < (way n ns (roundFin ns true) (n - 1) [0]).length ↔ dif (szs ns) = 1 := by
  have h0 : OkL n ns [0] := ⟨by simp, fun x hx => by rw [List.mem_singleton.1 hx]; omega, trivial⟩
  constructor
  · intro h
    obtain ⟨q1, q2, q3, t, q4⟩ := way_sound (roundFin ns true) (n - 1) [0] (by simp; omega) h0 h
    generalize hc : way n ns (roundFin ns true) (n - 1) [0] = c at q1 q2 q3 q4 h
    have hR : M.Round n (nb ns) c := ⟨q1.nodup, q1.lt, q1.path, fun x y hx hy => by
      unfold roundFin at q2
      simp only [Bool.not_true, Bool.false_or] at q2
      rw [lastN_eq hx] at q2
      have : c.getD 0 0 = y := by rw [List.head?_eq_getElem?] at hy; rw [List.getD_eq_getElem?_getD, hy]; rfl
      rw [this] at q2; exact q2⟩
    have hall : ∀ x, x < n → x ∈ c := by
      intro x hx
      refine Classical.byContradiction (fun hc' => ?_)
      have := nodup_leI (List.nodup_cons.2 ⟨hc', q1.nodup⟩) (fun y hy => List.mem_range.2 (by
        rcases List.mem_cons.1 hy with rfl | q
        · exact hx
        · exact q1.lt y q) : ∀ y, y ∈ x :: c → y ∈ List.range n)
      rw [List.length_cons, List.length_range, q3] at this
      omega
    have hcn : ∀ x, x < n → M.cOf n (nb (warshall ns)) x = n := by
      intro x hx
      unfold M.cOf
      have := List.countP_eq_length.2 (fun y hy => (hT.way_iff x y hx (List.mem_range.1 hy)).2 (M.round_way hR (hall x hx) (hall y (List.mem_range.1 hy))) : ∀ y ∈ List.range n, nb (warshall ns) x y = true)
      rw [this, List.length_range]
    unfold dif
    rw [← count_one n (by have := hT.1.1.n8; omega)]
    refine List.countP_congr (fun k _ => ?_)
    rw [decide_eq_true_eq, decide_eq_true_eq, szs_mem hT k]
    constructor
    · rintro ⟨x, hx, rfl⟩; exact hcn x hx
    · rintro rfl; exact ⟨0, by omega, hcn 0 (by omega)⟩
  · intro hd
    have heq : ∀ a ∈ szs ns, ∀ b ∈ szs ns, a ≤ b := by
      intro a ha b hb
      refine Classical.byContradiction (fun hc => ?_)
      have h1 := grs_dif (szs ns) (szs_le8 hT) hb
      have : 1 ≤ grs (szs ns) b := List.countP_pos_iff.2 ⟨a, List.mem_range.2 (by have := szs_le8 hT a ha; omega), by simp [ha]; omega⟩
      omega
    have hways : ∀ i j, i < n → j < n → M.Way (nb ns) i j := fun i j hi hj =>
      (hT.way_iff i j hi hj).1 ((M.reach_le hT.tou hT.way_iff hi hj).2 (heq _ ((szs_mem hT _).2 ⟨j, hj, rfl⟩) _ ((szs_mem hT _).2 ⟨i, hi, rfl⟩)))
    obtain ⟨c, hc, hcl⟩ := M.camion hT.tou (M.strong_of hT.tou hT.nlt hways) h3
    have h0c : 0 ∈ c := by
      refine Classical.byContradiction (fun hc' => ?_)
      have := nodup_leI (List.nodup_cons.2 ⟨hc', hc.nodup⟩) (fun y hy => List.mem_range.2 (by
        rcases List.mem_cons.1 hy with rfl | q
        · omega
        · exact hc.lt y q) : ∀ y, y ∈ 0 :: c → y ∈ List.range n)
      rw [List.length_cons, List.length_range, hcl] at this
      omega
    obtain ⟨a, b, rfl⟩ := List.append_of_mem h0c
    have hr := hc.turn
    have hlen : ([0] ++ (b ++ a)).length = n := by rw [← hcl]; simp; omega
    have hrr : OkL n ns ([0] ++ (b ++ a)) := ⟨by simpa using hr.nodup, fun x hx => hr.lt x (by simpa using hx), by simpa using hr.path⟩
    have := way_complete (n := n) (ns := ns) (by omega) (roundFin ns true) (b ++ a) [0] hlen hrr (by
      unfold roundFin
      simp only [Bool.not_true, Bool.false_or]
      have hb := hr.back (lastN ([0] ++ (b ++ a))) 0 (by rw [← last_of (by simp)]; simp) (by simp)
      simpa using hb)
    rw [show (b ++ a).length = n - 1 by simp at hlen ⊢; omega] at this
    exact this
end
theorem index_l0 (x : Int) : ∀ (rest done : List Int), (done ++ rest).length ≤ BM → ∃ r : Int, Ev (fun k => slices_Index_int_int.l0 k (done ++ rest) x ((done ++ rest).length : Int) (done.length : Int)) r ∧ decide (r ≥ 0) = rest.any fun y => decide (y = x) := by
  intro rest
  induction rest with
  | nil => intro done h; exact ⟨-1, Ev.step (fun k => by rw [slices_Index_int_int.l0, if_neg (by simp)]) (Ev.now _), by simp⟩
  | cons y rest ih =>
    intro done h
    obtain ⟨q1, q2, q3, q4, q5⟩ := mid y done rest h
    obtain ⟨r, ih1, ih2⟩ := ih (done ++ [y]) (by rw [q5]; exact h)
    rw [q5] at ih1
    by_cases e : y = x
    · refine ⟨(done.length : Int), Ev.step (fun k => by rw [slices_Index_int_int.l0]) ?_, by simp [e]⟩
      simp only [if_pos q1, if_pos q2, q3, if_pos e.symm]
      exact Ev.now _
    · refine ⟨r, Ev.step (fun k => by rw [slices_Index_int_int.l0]) ?_, by rw [ih2]; simp [e]⟩
      simp only [if_pos q1, if_pos q2, q3, q4, if_neg (show ¬ x = y from fun z => e z.symm)]
      exact ih1
theorem contains_f (l : List Int) (x : Int) (h : l.length ≤ BM) : Ev (fun k => slices_Contains_int_int.f k l x) (l.any fun y => decide (y = x)) := by
  obtain ⟨r, h1, h2⟩ := index_l0 x l [] h
  unfold slices_Contains_int_int.f slices_Index_int_int.f
  exact Ev.bind h1 (Ev.some h2)
theorem firstList_l0 {n : Nat} {ns : List Nat} (h : Sets n ns) (e : Int → Option Bool) (fin : List Nat → Bool) (d : Nat) (l : List Nat) (hd : l.length + (d + 1) = n) (hl : ∀ x ∈ l, x < n)
    (ih : ∀ j, j < n → Ev (fun k => impl_firstList.f k (n : Int) (ints ns) (ints (l ++ [j])) e) (ints (way n ns fin d (l ++ [j])))) :
    ∀ m j, j + m = n → Ev (fun k => impl_firstList.l0 k (ints l) e (n : Int) (j : Int) (n : Int) (ints ns)) (ints (firstNE (fun j => if stepOk ns l j then way n ns fin d (l ++ [j]) else []) (List.range' j m))) := by
  have hn := h.n8
  have hL := h.len
  intro m
  induction m with
  | zero =>
    intro j hj
    exact Ev.step (fun k => by rw [impl_firstList.l0, if_neg (by omega)]) (Ev.some (by simp [firstNE, ints]))
  | succ m ihm =>
    intro j hj
    have hjn : j < n := by omega
    have next := ihm (j + 1) (by omega)
    have hJ : ∀ b : Bool, Ev (fun k => impl_firstList.j1 k (ints l) e (j : Int) (n : Int) (j : Int) b (n : Int) (ints ns)) (ints (if b = true then firstNE (fun j => if stepOk ns l j then way n ns fin d (l ++ [j]) else []) (List.range' (j + 1) m) else if 0 < (way n ns fin d (l ++ [j])).length then way n ns fin d (l ++ [j]) else firstNE (fun j => if stepOk ns l j then way n ns fin d (l ++ [j]) else []) (List.range' (j + 1) m))) := by
      intro b
      refine Ev.step (fun k => by rw [impl_firstList.j1]) ?_
      cases b with
      | true => simp only [if_true]; rw [wrap_nat j (by omega)]; exact next
      | false =>
        have ho : slices_Clone_int_int.f (ints l) = some (ints l) := by unfold slices_Clone_int_int.f; rw [if_pos (by rw [ints_length]; omega)]
        have hlen : (ints l).length + ([(j : Int)] : List Int).length < 17592186044416 := by rw [ints_length]; simp; omega
        simp only [Bool.false_eq_true, if_false, ho, Option.bind_some, if_pos hlen]
        rw [show ints l ++ [(j : Int)] = ints (l ++ [j]) by simp [ints]]
        refine Ev.bind (ih j hjn) ?_
        rw [ints_length]
        by_cases q : 0 < (way n ns fin d (l ++ [j])).length
        · simp only [if_pos q, if_pos (show ((way n ns fin d (l ++ [j])).length : Int) > 0 by omega)]; exact Ev.now _
        · simp only [if_neg q, if_neg (show ¬ ((way n ns fin d (l ++ [j])).length : Int) > 0 by omega)]; rw [wrap_nat j (by omega)]; exact next
    have hcont := contains_f (ints l) (j : Int) (by rw [ints_length]; simp only [BM]; omega)
    rw [hasN] at hcont
    have hval : firstNE (fun j => if stepOk ns l j then way n ns fin d (l ++ [j]) else []) (List.range' j (m + 1)) = if stepOk ns l j = true then (if 0 < (way n ns fin d (l ++ [j])).length then way n ns fin d (l ++ [j]) else firstNE (fun j => if stepOk ns l j then way n ns fin d (l ++ [j]) else []) (List.range' (j + 1) m)) else firstNE (fun j => if stepOk ns l j then way n ns fin d (l ++ [j]) else []) (List.range' (j + 1) m) := by
      rw [List.range'_succ]
      by_cases q : stepOk ns l j = true
      · simp [firstNE, q]
      · simp [firstNE, q]
    rw [hval]
    refine Ev.step (fun k => by rw [impl_firstList.l0, if_pos (by omega)]) ?_
    refine Ev.bind hcont ?_
    cases hc : l.any (fun y => decide (y = j)) with
    | true =>
      simp only [if_true]
      exact Ev.pair (hJ true) (by simp [stepOk, hc])
    | false =>
      simp only [Bool.false_eq_true, if_false]
      by_cases h0 : 0 < l.length
      · have h0' : ((ints l).length : Int) > 0 := by rw [ints_length]; omega
        have hw : wrap64 (((ints l).length : Int) - 1) = ((l.length - 1 : Nat) : Int) := by rw [ints_length, wrap_id (by omega) (by omega)]; omega
        have hlast := lastN_lt hl h0
        have e1 : rd (ints l) ((l.length - 1 : Nat) : Int) = ((lastN l : Nat) : Int) := by rw [rd_ints]; rfl
        simp only [if_pos h0', hw, if_pos (show (0 : Int) ≤ ((l.length - 1 : Nat) : Int) by omega), if_pos (show ((l.length - 1 : Nat) : Int) < ((ints l).length : Int) by rw [ints_length]; omega), e1, if_pos (show (0 : Int) ≤ ((lastN l : Nat) : Int) by omega), if_pos (show ((lastN l : Nat) : Int) < ((ints ns).length : Int) by rw [ints_length]; omega), rd_ints, has_nb h, Option.bind_some]
        refine Ev.pair (hJ _) ?_
        have hne : decide (l.length = 0) = false := decide_eq_false (by omega)
        simp only [stepOk, hc, hne]
        cases nb ns (lastN l) j <;> simp
      · have h0' : ¬ ((ints l).length : Int) > 0 := by rw [ints_length]; omega
        simp only [if_neg h0']
        have hne : decide (l.length = 0) = true := decide_eq_true (by omega)
        have e : stepOk ns l j = true := by unfold stepOk; rw [hc, hne]; rfl
        exact Ev.pair (hJ false) (by simp only [Bool.false_eq_true, if_false, if_pos e])
theorem firstList_f {n : Nat} {ns : List Nat} (h : Sets n ns) (e : Int → Option Bool) (fin : List Nat → Bool) (he : ∀ l : List Nat, l.length = n → (∀ x ∈ l, x < n) → (∃ t, l = t) → (0 < l.length) → e ((lastN l : Nat) : Int) = some (fin l)) : ∀ (d : Nat) (l : List Nat), l.length + d = n → (∀ x ∈ l, x < n) → Ev (fun k => impl_firstList.f k (n : Int) (ints ns) (ints l) e) (ints (way n ns fin d l)) := by
  have hn := h.n8
  have hn1 := h.n1
  have hL := h.len
  intro d
  induction d with
  | zero =>
    intro l hd hl
    refine Ev.step (fun k => by rw [impl_firstList.f, if_pos (by rw [ints_length]; omega)]) ?_
    have h0 : 0 < l.length := by omega
    have hw : wrap64 (((ints l).length : Int) - 1) = ((l.length - 1 : Nat) : Int) := by rw [ints_length, wrap_id (by omega) (by omega)]; omega
    have e1 : rd (ints l) ((l.length - 1 : Nat) : Int) = ((lastN l : Nat) : Int) := by rw [rd_ints]; rfl
    simp only [hw, if_pos (show (0 : Int) ≤ ((l.length - 1 : Nat) : Int) by omega), if_pos (show ((l.length - 1 : Nat) : Int) < ((ints l).length : Int) by rw [ints_length]; omega), e1, he l (by omega) hl ⟨l, rfl⟩ h0, Option.bind_some]
    unfold way
    cases e2 : fin l with
    | false => simp only [Bool.false_eq_true, if_false]; exact Ev.some (by simp [ints])
    | true => simp only [if_true]; exact Ev.now _
  | succ d ih =>
    intro l hd hl
    refine Ev.step (fun k => by rw [impl_firstList.f, if_neg (by rw [ints_length]; omega)]) ?_
    have := firstList_l0 h e fin d l hd hl (fun j hj => ih (l ++ [j]) (by simp; omega) (fun x hx => by
      rcases List.mem_append.1 hx with hx | hx
      · exact hl x hx
      · simp at hx; omega)) n 0 (by omega)
    unfold way
    rw [List.range_eq_range']
    exact this
theorem firstNE_congr {g1 g2 : Nat → List Nat} (h : ∀ j, g1 j = g2 j) (L : List Nat) : firstNE g1 L = firstNE g2 L := by
  have : g1 = g2 := funext h
  rw [this]
theorem way_congr (n : Nat) (ns : List Nat) (f1 f2 : List Nat → Bool) (h : ∀ l : List Nat, 0 < l.length → l.getD 0 0 = 0 → f1 l = f2 l) : ∀ d l, 0 < l.length → l.getD 0 0 = 0 → way n ns f1 d l = way n ns f2 d l := by
  intro d
  induction d with
  | zero => intro l h1 h2; unfold way; rw [h l h1 h2]
  | succ d ih =>
    intro l h1 h2
    unfold way
    refine firstNE_congr (fun j => ?_) _
    rw [ih (l ++ [j]) (by simp) (by
      cases l with
      | nil => simp at h1
      | cons x l => simpa using h2)]
end Go.Proofs.Ytcheoendfcgjgaa.K
namespace Go.Proofs.Ytcheoendfcgjgaa.K
open Go.RowKit Go.Proofs.YtcheoendfcgjgaaW.PrintWords Go.Proofs.Ytcheoendfcgjgaa.P
def isList (l : List Int) : Bool := decide (1 ≤ l.length) && decide (l.length ≤ 8) && within 0 60 l
theorem IsList_f (l : List Int) (h : l.length ≤ BM) : Ev (fun k => impl_IsList.f k l) (isList l) := by
  unfold impl_IsList.f
  simp only [within_f, Option.bind_some]
  refine Ev.ite (fun h1 => ?_) (fun h1 => ?_)
  · exact Ev.bind (allWithin_f l 0 60 h) (Ev.some (by simp at h1; simp [isList]; omega))
  · exact Ev.some (by simp at h1; simp [isList]; omega)
theorem isList_mem {l : List Int} (h : isList l = true) : 1 ≤ l.length ∧ l.length ≤ 8 ∧ ∀ x ∈ l, 0 ≤ x ∧ x ≤ 60 := by
  simp [isList, within] at h
  exact ⟨h.1.1, h.1.2, h.2⟩
end Go.Proofs.Ytcheoendfcgjgaa.K
namespace Go.Proofs.Ytcheoendfcgjgaa.K
open Go.RowKit Go.Proofs.YtcheoendfcgjgaaW.PrintWords Go.Proofs.YtcheoendfcgjgaaW.PrintMore Go.Proofs.Ytcheoendfcgjgaa.P Go.Proofs.Ytcheoendfcgjgaa.M
theorem no_tour {a : Int} {l : List Int} (hl : l.length ≤ BM) (h : ¬ IsTour a l) : Ev (fun k => impl_IsTournament.f k a l) false ∧ Ev (fun k => spec_scGood.f k a l) false := ⟨(IsTournament_f a l hl).2 h, (scGood_f a l hl).2 h⟩
section
variable {n : Nat} {ns : List Nat} (hT : Tour n ns)
include hT
theorem tour_bm : (ints ns).length ≤ BM := by have := hT.1.1.len; have := hT.1.1.n8; rw [ints_length]; simp only [BM]; omega
theorem tour_is : Ev (fun k => impl_IsTournament.f k (n : Int) (ints ns)) true ∧ Ev (fun k => spec_scGood.f k (n : Int) (ints ns)) true :=
  ⟨(IsTournament_f _ _ (tour_bm hT)).1 ⟨n, ns, rfl, rfl, hT⟩, (scGood_f _ _ (tour_bm hT)).1 ⟨n, ns, rfl, rfl, hT⟩⟩
theorem strong_t : Ev (fun k => spec_StrongParts.f k (n : Int) (ints ns)) (partsL (ints (szs ns)), true) ∧ Ev (fun k => impl_StrongParts.f k (n : Int) (ints ns)) (partsL (ints (szs ns)), true) := by
  obtain ⟨hb, hc⟩ := tour_is hT
  have hs := hT.1.1
  have hlen := hs.len
  have hn := hs.n8
  have hn1 := hs.n1
  have hx : ∀ x ∈ warshall ns, x < 256 := fun x hx => Nat.lt_of_lt_of_le (warshall_lt hs x hx) (pow8 hn)
  have hzl : (ints (szs ns)).length = n := by rw [ints_length, szs_len, hlen]
  have hzb : ∀ x ∈ ints (szs ns), -1048576 ≤ x ∧ x ≤ 1048576 := by
    intro x hx
    unfold ints szs at hx
    simp only [List.map_map, List.mem_map] at hx
    obtain ⟨y, _, rfl⟩ := hx
    have := pop_le y
    simp only [Function.comp]; omega
  unfold spec_StrongParts.f impl_StrongParts.f
  refine ⟨Ev.bind hc ?_, Ev.bind hb ?_⟩
  · simp only [if_true]
    exact Ev.bind (scParts_f hs) (Ev.now _)
  · simp only [if_true]
    refine Ev.bind (reached_f hs) (Ev.bind (counts_f (warshall ns) (by rw [warshall_len]; omega) hx) ?_)
    have e1 : impl_ranking.f (ints ((warshall ns).map pop)) = some (rankL (ints (szs ns))) := by
      unfold impl_ranking.f
      rw [if_pos ⟨by rw [show ints ((warshall ns).map pop) = ints (szs ns) from rfl]; omega, by rw [show ints ((warshall ns).map pop) = ints (szs ns) from rfl]; omega, hzb⟩]
      rfl
    have e2 : slices_Compact_int_int.f (rankL (ints (szs ns))) = some (Go.Lib.compact (rankL (ints (szs ns)))) := by
      unfold slices_Compact_int_int.f
      rw [if_pos ⟨by rw [rankL_length]; omega, by rw [rankL_length]; omega⟩]
    rw [e1]
    simp only [Option.bind_some]
    rw [e2]
    simp only [Option.bind_some]
    have hcl := compact_len (rankL (ints (szs ns)))
    rw [rankL_length, hzl] at hcl
    have := parts_l0 (ints (szs ns)) (Go.Lib.compact (rankL (ints (szs ns)))) (by omega) (by omega) (ints (szs ns)) [] rfl
    refine Ev.pair this ?_
    congr 1
    unfold partsL
    refine List.map_congr_left (fun x hx => ?_)
    exact idx_great (ints (szs ns)) (rankL (ints (szs ns))) (rankL_sorted _) (fun y => rankL_mem) x hx
def rnd (n : Nat) (ns : List Nat) : List Nat := if n < 3 then [] else way n ns (roundFin ns true) (n - 1) [0]
theorem round_t : Ev (fun k => spec_FirstRound.f k (n : Int) (ints ns)) (ints (rnd n ns), decide (0 < (rnd n ns).length)) ∧ Ev (fun k => impl_FirstRound.f k (n : Int) (ints ns)) (ints (rnd n ns), decide (0 < (rnd n ns).length)) := by
  obtain ⟨e1, e2⟩ := tour_is hT
  have hS := hT.1.1
  have hn := hS.n8
  have hL := hS.len
  unfold rnd
  by_cases h3 : n < 3
  · have h3' : (n : Int) < 3 := by omega
    rw [if_pos h3]
    refine ⟨?_, ?_⟩
    · unfold spec_FirstRound.f
      refine Ev.bind e2 ?_
      simp only [if_true, if_pos h3']
      exact Ev.now _
    · unfold impl_FirstRound.f
      refine Ev.bind e1 ?_
      simp only [if_true, if_pos h3']
      exact Ev.now _
  · have h3' : ¬ (n : Int) < 3 := by omega
    rw [if_neg h3]
    have g1 := scWay_f hS true (n - 1) [0] (by simp; omega) (by simp; omega)
    have g2 := firstList_f hS (FRend (ints ns)) (fun l => nb ns (lastN l) 0) (fun l hl1 hl2 _ h0 => by
      have hlt := lastN_lt hl2 h0
      unfold FRend
      rw [if_pos (by omega), if_pos (by rw [ints_length]; omega), rd_ints]
      exact has_nb hS (lastN l) 0) (n - 1) [0] (by simp; omega) (by simp; omega)
    rw [way_congr n ns _ (roundFin ns true) (fun l _ h2 => by unfold roundFin; rw [h2]; rfl) (n - 1) [0] (by simp) rfl] at g2
    have ed : decide (((ints (way n ns (roundFin ns true) (n - 1) [0])).length : Int) > 0) = decide (0 < (way n ns (roundFin ns true) (n - 1) [0]).length) := by
      rw [decide_eq_decide, ints_length]; omega
    refine ⟨?_, ?_⟩
    · unfold spec_FirstRound.f
      refine Ev.bind e2 ?_
      simp only [if_true, if_neg h3']
      exact Ev.bind g1 (by rw [ed]; exact Ev.now _)
    · unfold impl_FirstRound.f
      refine Ev.bind e1 ?_
      simp only [if_true, if_neg h3']
      exact Ev.bind g2 (by rw [ed]; exact Ev.now _)
theorem scores_t : Ev (fun k => impl_ScoresOf.f k (n : Int) (ints ns)) (ints (ns.map pop), true) := by
  have hs := hT.1.1
  have hlen := hs.len
  have hn := hs.n8
  have hx : ∀ x ∈ ns, x < 256 := fun x hx => Nat.lt_of_lt_of_le (hs.lt x hx) (pow8 hn)
  unfold impl_ScoresOf.f
  refine Ev.bind (tour_is hT).1 ?_
  simp only [if_true]
  exact Ev.bind (counts_f ns (by omega) hx) (Ev.now _)
theorem scores_list : isList (ints (ns.map pop)) = true := by
  have hs := hT.1.1
  have hlen := hs.len
  have h1 := hs.n1
  have h8 := hs.n8
  have hl : (ints (ns.map pop)).length = n := by rw [ints_length, List.length_map, hlen]
  unfold isList within
  rw [hl, decide_eq_true h1, decide_eq_true h8]
  simp only [Bool.and_self, Bool.true_and, List.all_eq_true, Bool.and_eq_true, decide_eq_true_eq]
  intro x hx
  obtain ⟨y, hy, rfl⟩ := List.mem_map.1 hx
  obtain ⟨z, _, rfl⟩ := List.mem_map.1 hy
  have := pop_le z
  omega
theorem ranking_t : Ev (fun k => impl_RankingOf.f k (ints (ns.map pop))) (rankL (ints (ns.map pop)), true) := by
  have hl := scores_list hT
  obtain ⟨h1, h8, h3⟩ := isList_mem hl
  have e := IsList_f (ints (ns.map pop)) (by simp only [BM]; omega)
  rw [hl] at e
  unfold impl_RankingOf.f
  refine Ev.bind e ?_
  have e1 : impl_ranking.f (ints (ns.map pop)) = some (rankL (ints (ns.map pop))) := by
    unfold impl_ranking.f
    rw [if_pos ⟨by omega, by omega, fun x hx => by have := h3 x hx; omega⟩]
  simp only [if_true, e1, Option.bind_some]
  exact Ev.now _
end
theorem strong_n {a : Int} {l : List Int} (hl : l.length ≤ BM) (h : ¬ IsTour a l) : Ev (fun k => spec_StrongParts.f k a l) ([], false) ∧ Ev (fun k => impl_StrongParts.f k a l) ([], false) ∧ Ev (fun k => spec_FirstRound.f k a l) ([], false) ∧ Ev (fun k => impl_FirstRound.f k a l) ([], false) ∧ Ev (fun k => impl_ScoresOf.f k a l) ([], false) := by
  obtain ⟨e1, e2⟩ := no_tour hl h
  unfold spec_StrongParts.f impl_StrongParts.f spec_FirstRound.f impl_FirstRound.f impl_ScoresOf.f
  refine ⟨Ev.bind e2 ?_, Ev.bind e1 ?_, Ev.bind e2 ?_, Ev.bind e1 ?_, Ev.bind e1 ?_⟩ <;> (simp only [Bool.false_eq_true, if_false]; exact Ev.now _)
theorem rank_srt (sc : List Nat) : rankL (ints sc) = (ints (srtN sc)).reverse := by
  refine (rankL_unique ?_ ?_).symm
  · exact (List.reverse_perm _).trans ((srtN_perm sc).map _)
  · rw [List.pairwise_reverse]
    unfold ints
    rw [List.pairwise_map]
    exact (srtN_sorted sc).imp (fun h => by omega)
end Go.Proofs.Ytcheoendfcgjgaa.K
namespace Go.Proofs.Ytcheoendfcgjgaa.K
open Go.RowKit Go.Proofs.YtcheoendfcgjgaaW.PrintWords Go.Proofs.YtcheoendfcgjgaaW.PrintMore Go.Proofs.Ytcheoendfcgjgaa.P
def Bytes (code : List Int) : Prop := code.length ≤ 1048576 ∧ ∀ x ∈ code, 0 ≤ x ∧ x ≤ 255
theorem bytes_of {l : List Int} (hl : l.length ≤ 1048576) (h : ∀ x ∈ l, (Lit.int .u8 x).wf = true) : Bytes l := by
  refine ⟨hl, fun x hx => ?_⟩
  have := h x hx
  simp [Lit.wf, IntKind.min, IntKind.max, IntKind.signed, IntKind.bits] at this
  omega
theorem and255 (x : Int) : 0 ≤ Go.bits .and .u64 x 255 ∧ Go.bits .and .u64 x 255 ≤ 255 := by
  have h : (BitVec.ofInt 64 x &&& BitVec.ofInt 64 255).toNat ≤ 255 := by
    rw [BitVec.toNat_and]
    exact Nat.le_trans Nat.and_le_right (by decide)
  have key : Go.bits .and .u64 x 255 = IntKind.u64.wrap ((BitVec.ofInt 64 x &&& BitVec.ofInt 64 255).toNat : Int) := rfl
  rw [key]
  generalize (BitVec.ofInt 64 x &&& BitVec.ofInt 64 255).toNat = n at *
  simp only [IntKind.wrap, IntKind.bits, IntKind.signed]
  simp
  omega
theorem rd_byte {code : List Int} (hc : Bytes code) (i : Int) : 0 ≤ rd code i ∧ rd code i ≤ 255 := by
  unfold rd
  rw [List.getD_eq_getElem?_getD]
  cases h : code[i.toNat]? with
  | none => simp
  | some x =>
    have := List.mem_of_getElem? h
    exact hc.2 x this
section
variable {code : List Int}
theorem next_ok (hc : Bytes code) (a s : Int) (h0 : 0 ≤ a) (h1 : a ≤ 2305843009213693952) : ∃ x s', spec_l1Cur_next.f code a s = some (x, a + 1, s') ∧ 0 ≤ x ∧ x ≤ 255 := by
  have hw : wrap64 (a + 1) = a + 1 := wrap_id (by omega) (by omega)
  have hi : ∀ y, wrap64 (Go.bits .and .u64 y 255) = Go.bits .and .u64 y 255 := fun y => by have := and255 y; exact wrap_id (by omega) (by omega)
  have hr := rd_byte hc a
  have hq : wrap64 (rd code a) = rd code a := wrap_id (by omega) (by omega)
  unfold spec_l1Cur_next.f
  simp only [hw, hi, hq, if_pos h0]
  split
  · split
    · exact ⟨_, _, rfl, hr⟩
    · exact ⟨_, _, rfl, and255 _⟩
  · split
    · exact ⟨_, _, rfl, by omega, by omega⟩
    · exact ⟨_, _, rfl, and255 _⟩
theorem pick_ok (hc : Bytes code) (a s n : Int) (h0 : 0 ≤ a) (h1 : a ≤ 1152921504606846976) (hn : n ≤ 1099511627776) : ∃ x a' s', spec_l1Cur_pick.f code a s n = some (x, a', s') ∧ 0 ≤ x ∧ (1 ≤ n → x < n) ∧ (n ≤ 1 → x = 0) ∧ a ≤ a' ∧ a' ≤ a + 2 := by
  unfold spec_l1Cur_pick.f
  by_cases e : n ≤ 1
  · rw [if_pos e]; exact ⟨_, _, _, rfl, by omega, by omega, fun _ => rfl, by omega, by omega⟩
  · rw [if_neg e]
    obtain ⟨x, s1, e1, x0, x1⟩ := next_ok hc a s h0 (by omega)
    rw [e1, Option.bind_some]
    have hz : ¬ n = 0 := by omega
    by_cases e2 : n > 200
    · rw [if_pos e2]
      obtain ⟨y, s2, e3, y0, y1⟩ := next_ok hc (a + 1) s1 (by omega) (by omega)
      simp only [e3, Option.bind_some, if_neg hz]
      have hw : wrap64 (wrap64 (x * 256) + y) = x * 256 + y := by
        rw [show wrap64 (x * 256) = x * 256 from wrap_id (by omega) (by omega)]; exact wrap_id (by omega) (by omega)
      rw [hw]
      have t0 := Int.tmod_nonneg n (show (0 : Int) ≤ x * 256 + y by omega)
      have t1 := Int.tmod_lt_of_pos (x * 256 + y) (show (0 : Int) < n by omega)
      exact ⟨_, _, _, rfl, t0, fun _ => t1, by omega, by omega, by omega⟩
    · rw [if_neg e2]
      simp only [if_neg hz]
      have t0 := Int.tmod_nonneg n x0
      have t1 := Int.tmod_lt_of_pos x (show (0 : Int) < n by omega)
      exact ⟨_, _, _, rfl, t0, fun _ => t1, by omega, by omega, by omega⟩
theorem one_ok (hc : Bytes code) (a s n : Int) (h0 : 0 ≤ a) (h1 : a ≤ 1152921504606846976) (hn : n ≤ 1099511627776) : ∃ x a' s', spec_l1Cur_one.f code a s n = some (x, a', s') ∧ a ≤ a' ∧ a' ≤ a + 2 := by
  unfold spec_l1Cur_one.f
  obtain ⟨x, a', s', e, -, -, -, h2, h3⟩ := pick_ok hc a s n h0 h1 hn
  rw [e]
  exact ⟨_, _, _, rfl, h2, h3⟩
end
section
variable {code : List Int}
theorem among_ok (hc : Bytes code) (a s : Int) (l : List Int) (hl : 1 ≤ l.length) (hl2 : l.length ≤ 1000) (h0 : 0 ≤ a) (h1 : a ≤ 1152921504606846976) : ∃ x a' s', spec_l1Cur_among.f code a s l = some (x, a', s') ∧ x ∈ l ∧ a ≤ a' ∧ a' ≤ a + 2 := by
  obtain ⟨x, a', s', e, x0, x1, -, a0, a2⟩ := pick_ok hc a s (l.length : Int) h0 h1 (by omega)
  have := x1 (by omega)
  obtain ⟨i, rfl⟩ := Int.eq_ofNat_of_zero_le x0
  have hi : i < l.length := by omega
  refine ⟨rd l (i : Int), a', s', ?_, ?_, a0, a2⟩
  · unfold spec_l1Cur_among.f
    rw [e, Option.bind_some, if_pos x0, if_pos this]
  · rw [rd, Int.toNat_natCast, List.getD_eq_getElem?_getD, List.getElem?_eq_getElem hi]
    exact List.getElem_mem hi
theorem dtour_l1 (hc : Bytes code) (n : Nat) (hn : n ≤ 8) (od sz : Int) (hod : od ≤ 1000) (i : Nat) (hi : i < n) : ∀ (d j : Nat) (b : List Int) (a s : Int), j + d = n → b.length = n → 0 ≤ a → a + 2 * d ≤ 1152921504606846976 →
    ∃ b' a' s', b'.length = n ∧ 0 ≤ a' ∧ a' ≤ a + 2 * d ∧ ∀ y, Ev (fun k => spec_l1Cur_tournament.l0 k n od ((i + 1 : Nat) : Int) code a' s' sz b') y → Ev (fun k => spec_l1Cur_tournament.l1 k n od (i : Int) (j : Int) code a s sz b) y := by
  intro d
  induction d with
  | zero =>
    intro j b a s hj hb h0 h1
    refine ⟨b, a, s, hb, h0, by omega, fun y hy => Ev.step (fun k => by rw [spec_l1Cur_tournament.l1]) ?_⟩
    have p1 : ¬ (j : Int) < (n : Int) := by omega
    simp only [if_neg p1, wrap_nat i (show i < 9223372036854775807 by omega)]
    exact hy
  | succ d ih =>
    intro j b a s hj hb h0 h1
    obtain ⟨x, a1, s1, e, a0, a2⟩ := one_ok hc a s od h0 (by omega) (by omega)
    cases x with
    | true =>
      obtain ⟨b', a', s', q1, q2, q3, q4⟩ := ih (j + 1) (b.set (j : Int).toNat (Go.bits .or .i64 (rd b (j : Int)) (shl .i64 1 (i : Int)))) a1 s1 (by omega) (by rw [List.length_set]; exact hb) (by omega) (by omega)
      refine ⟨b', a', s', q1, q2, by omega, fun y hy => Ev.step (fun k => by rw [spec_l1Cur_tournament.l1]) ?_⟩
      have p1 : (j : Int) < (n : Int) := by omega
      have p2 : (0 : Int) ≤ (j : Int) := by omega
      have p3 : (j : Int) < (b.length : Int) := by omega
      have p4 : (0 : Int) ≤ (i : Int) := by omega
      simp only [if_pos p1, e, Option.bind_some, if_true, if_pos p2, if_pos p3, if_pos p4, wrap_nat j (show j < 9223372036854775807 by omega)]
      exact q4 y hy
    | false =>
      obtain ⟨b', a', s', q1, q2, q3, q4⟩ := ih (j + 1) (b.set (i : Int).toNat (Go.bits .or .i64 (rd b (i : Int)) (shl .i64 1 (j : Int)))) a1 s1 (by omega) (by rw [List.length_set]; exact hb) (by omega) (by omega)
      refine ⟨b', a', s', q1, q2, by omega, fun y hy => Ev.step (fun k => by rw [spec_l1Cur_tournament.l1]) ?_⟩
      have p1 : (j : Int) < (n : Int) := by omega
      have p2 : (0 : Int) ≤ (j : Int) := by omega
      have p3 : (i : Int) < (b.length : Int) := by omega
      have p4 : (0 : Int) ≤ (i : Int) := by omega
      simp only [if_pos p1, e, Option.bind_some, Bool.false_eq_true, if_false, if_pos p2, if_pos p3, if_pos p4, wrap_nat j (show j < 9223372036854775807 by omega)]
      exact q4 y hy
theorem dtour_end (hc : Bytes code) (n : Nat) (h1n : 1 ≤ n) (hn : n ≤ 8) (od sz : Int) (b : List Int) (a s : Int) (hb : b.length = n) (h0 : 0 ≤ a) (h1 : a ≤ 1152921504606846000) :
    ∃ sz' b' a' s', Ev (fun k => spec_l1Cur_tournament.l0 k n od (n : Int) code a s sz b) (sz', b', a', s') ∧ b'.length = n ∧ 0 ≤ a' ∧ a' ≤ a + 6 := by
  obtain ⟨x, a1, s1, e, x0, x1, -, a0, a2⟩ := pick_ok hc a s 24 h0 (by omega) (by omega)
  have nn : ¬ (n : Int) < (n : Int) := by omega
  by_cases e1 : x = 0
  · obtain ⟨y, a3, s3, f, y0, y1, -, b0, b2⟩ := pick_ok hc a1 s1 (n : Int) (by omega) (by omega) (by omega)
    obtain ⟨z, a4, s4, g, -, c0, c2⟩ := among_ok hc a3 s3 [(-1), 0, 1, 2, shl .i64 1 (n : Int)] (by simp) (by simp) (by omega) (by omega)
    have := y1 (by omega)
    refine ⟨sz, b.set y.toNat z, a4, s4, Ev.step (fun k => by rw [spec_l1Cur_tournament.l0]) ?_, by rw [List.length_set]; exact hb, by omega, by omega⟩
    simp only [if_neg nn, e, Option.bind_some, if_pos e1, f, if_pos (show (0 : Int) ≤ (n : Int) by omega), g, if_pos y0, if_pos (show y < (b.length : Int) by omega)]
    exact Ev.now _
  · by_cases e2 : x = 1
    · obtain ⟨z, a4, s4, g, -, c0, c2⟩ := among_ok hc a1 s1 [0, (-1), wrap64 ((n : Int) + 1), 9] (by simp) (by simp) (by omega) (by omega)
      refine ⟨z, b, a4, s4, Ev.step (fun k => by rw [spec_l1Cur_tournament.l0]) ?_, hb, by omega, by omega⟩
      simp only [if_neg nn, e, Option.bind_some, if_neg e1, if_pos e2, g]
      exact Ev.now _
    · refine ⟨sz, b, a1, s1, Ev.step (fun k => by rw [spec_l1Cur_tournament.l0]) ?_, hb, by omega, by omega⟩
      simp only [if_neg nn, e, Option.bind_some, if_neg e1, if_neg e2]
      exact Ev.now _
theorem dtour_l0 (hc : Bytes code) (n : Nat) (h1n : 1 ≤ n) (hn : n ≤ 8) (od sz : Int) (hod : od ≤ 1000) : ∀ (d i : Nat) (b : List Int) (a s : Int), i + d = n → b.length = n → 0 ≤ a → a + 16 * d ≤ 1152921504606846000 →
    ∃ sz' b' a' s', Ev (fun k => spec_l1Cur_tournament.l0 k n od (i : Int) code a s sz b) (sz', b', a', s') ∧ b'.length = n ∧ 0 ≤ a' ∧ a' ≤ a + 16 * d + 6 := by
  intro d
  induction d with
  | zero =>
    intro i b a s hi hb h0 h1
    obtain rfl : i = n := by omega
    obtain ⟨sz', b', a', s', q1, q2, q3, q4⟩ := dtour_end hc i h1n hn od sz b a s hb h0 (by omega)
    exact ⟨sz', b', a', s', q1, q2, q3, by omega⟩
  | succ d ih =>
    intro i b a s hi hb h0 h1
    obtain ⟨b1, a1, s1, q1, q2, q3, q4⟩ := dtour_l1 hc n hn od sz hod i (by omega) (n - (i + 1)) (i + 1) b a s (by omega) hb h0 (by omega)
    obtain ⟨sz', b', a', s', r1, r2, r3, r4⟩ := ih (i + 1) b1 a1 s1 (by omega) q1 q2 (by omega)
    refine ⟨sz', b', a', s', Ev.step (fun k => by rw [spec_l1Cur_tournament.l0]) ?_, r2, r3, by omega⟩
    have p1 : (i : Int) < (n : Int) := by omega
    simp only [if_pos p1, wrap_nat i (show i < 9223372036854775807 by omega)]
    exact q4 _ r1
theorem dtour_ok (hc : Bytes code) (a s : Int) (most : Nat) (hm : 1 ≤ most) (hm8 : most ≤ 8) (h0 : 0 ≤ a) (h1 : a ≤ 1048576) :
    ∃ sz b a' s', Ev (fun k => spec_l1Cur_tournament.f k code a s (most : Int)) (sz, b, a', s') ∧ 1 ≤ b.length ∧ b.length ≤ 8 ∧ 0 ≤ a' ∧ a' ≤ a + 200 := by
  obtain ⟨x, a1, s1, e, x0, x1, x2, a0, a2⟩ := pick_ok hc a s (most : Int) h0 (by omega) (by omega)
  have hx : x < 8 := by
    by_cases c : 1 ≤ (most : Int)
    · have := x1 c; omega
    · have := x2 (by omega); omega
  obtain ⟨m, rfl⟩ := Int.eq_ofNat_of_zero_le x0
  have hw : wrap64 (1 + (m : Int)) = ((m + 1 : Nat) : Int) := by rw [wrap_id (by omega) (by omega)]; omega
  obtain ⟨od, a3, s3, f, fm, b0, b2⟩ := among_ok hc a1 s1 [2, 2, 4] (by simp) (by simp) (by omega) (by omega)
  have hod : od ≤ 1000 := by simp at fm; omega
  obtain ⟨sz', b', a', s', q1, q2, q3, q4⟩ := dtour_l0 hc (m + 1) (by omega) (by omega) od ((m + 1 : Nat) : Int) hod (m + 1) 0 (List.replicate (m + 1) 0) a3 s3 (by omega) (by simp) (by omega) (by omega)
  refine ⟨sz', b', a', s', ?_, by omega, by omega, q3, by omega⟩
  have e0 : ((0 : Nat) : Int) = 0 := by simp
  rw [e0] at q1
  have e1 : (((m + 1 : Nat) : Int)).toNat = m + 1 := by simp
  have p1 : (0 : Int) ≤ ((m + 1 : Nat) : Int) := by omega
  have p3 : (((m + 1 : Nat) : Int)).toNat ≤ 35184372088832 := by rw [e1]; omega
  have key : ∀ k, spec_l1Cur_tournament.f k code a s (most : Int) = spec_l1Cur_tournament.l0 k ((m + 1 : Nat) : Int) od 0 code a3 s3 ((m + 1 : Nat) : Int) (List.replicate (m + 1) 0) := fun k => by
    unfold spec_l1Cur_tournament.f
    rw [e, Option.bind_some, hw, if_pos p1, if_pos p3, f, Option.bind_some, e1]
  rw [show (fun k => spec_l1Cur_tournament.f k code a s (most : Int)) = fun k => spec_l1Cur_tournament.l0 k ((m + 1 : Nat) : Int) od 0 code a3 s3 ((m + 1 : Nat) : Int) (List.replicate (m + 1) 0) from funext key]
  exact q1
end
theorem ySame_l0 (l : List Int) (h : l.length ≤ BM) : ∀ d i : Nat, i + d = l.length → Ev (fun k => laws_ySame.l0 k l l (l.length : Int) (i : Int)) true := by
  intro d
  induction d with
  | zero =>
    intro i hi
    refine Ev.step (fun k => by rw [laws_ySame.l0]) ?_
    have p1 : ¬ (i : Int) < (l.length : Int) := by omega
    simp only [if_neg p1]
    exact Ev.now _
  | succ d ih =>
    intro i hi
    refine Ev.step (fun k => by rw [laws_ySame.l0]) ?_
    have p1 : (i : Int) < (l.length : Int) := by omega
    have p2 : (0 : Int) ≤ (i : Int) := by omega
    simp only [BM] at h
    simp only [if_pos p1, if_pos p2, if_true, wrap_nat i (show i < 9223372036854775807 by omega)]
    exact ih (i + 1) (by omega)
theorem ySame_same (l : List Int) (h : l.length ≤ BM) : Ev (fun k => laws_ySame.f k l l) true := by
  unfold laws_ySame.f
  simp only [if_true]
  exact ySame_l0 l h l.length 0 (by omega)
theorem yIn_f (a i : Nat) (h : a < 2 ^ 62) : laws_yIn.f (a : Int) (i : Int) = some (a.testBit i) := deHas_f a i h
theorem yIn_nb {n : Nat} {ns : List Nat} (h : Sets n ns) (i j : Nat) : laws_yIn.f ((ns.getD i 0 : Nat) : Int) (j : Int) = some (nb ns i j) := yIn_f _ _ (h.get62 i)
theorem yHas_l0 (l : List Nat) (x : Nat) (h : l.length ≤ BM) : ∀ d i : Nat, i + d = l.length → Ev (fun k => laws_yHas.l0 k (x : Int) (ints l) ((ints l).length : Int) (i : Int)) ((l.drop i).any fun y => decide (y = x)) := by
  intro d
  have hl := ints_length l
  simp only [BM] at h
  induction d with
  | zero =>
    intro i hi
    refine Ev.step (fun k => by rw [laws_yHas.l0]) ?_
    have p1 : ¬ (i : Int) < ((ints l).length : Int) := by omega
    have e : l.drop i = [] := List.drop_eq_nil_of_le (by omega)
    simp only [if_neg p1, e]
    exact Ev.now _
  | succ d ih =>
    intro i hi
    have hil : i < l.length := by omega
    have e : l.drop i = l.getD i 0 :: l.drop (i + 1) := by rw [List.drop_eq_getElem_cons hil, List.getD_eq_getElem?_getD, List.getElem?_eq_getElem hil]; rfl
    refine Ev.step (fun k => by rw [laws_yHas.l0]) ?_
    have p1 : (i : Int) < ((ints l).length : Int) := by omega
    have p2 : (0 : Int) ≤ (i : Int) := by omega
    simp only [if_pos p1, if_pos p2, rd_ints]
    rw [e, List.any_cons]
    by_cases c : l.getD i 0 = x
    · have c2 : ((l.getD i 0 : Nat) : Int) = (x : Int) := by omega
      simp only [if_pos c2, decide_eq_true c, Bool.true_or]
      exact Ev.now _
    · have c2 : ¬ ((l.getD i 0 : Nat) : Int) = (x : Int) := by omega
      simp only [if_neg c2, decide_eq_false c, Bool.false_or, wrap_nat i (show i < 9223372036854775807 by omega)]
      exact ih (i + 1) (by omega)
theorem yHas_f (l : List Nat) (x : Nat) (h : l.length ≤ BM) : Ev (fun k => laws_yHas.f k (ints l) (x : Int)) (l.any fun y => decide (y = x)) := by
  have := yHas_l0 l x h l.length 0 (by omega)
  rw [List.drop_zero] at this
  exact this
theorem yHas_not (l : List Nat) (x : Nat) (h : l.length ≤ BM) (hx : x ∉ l) : Ev (fun k => laws_yHas.f k (ints l) (x : Int)) false := by
  have := yHas_f l x h
  have e : (l.any fun y => decide (y = x)) = false := by
    rw [List.any_eq_false]
    intro y hy e
    have e2 : y = x := by simpa using e
    exact hx (e2 ▸ hy)
  rw [e] at this
  exact this
theorem big_f {a b : List Int} (ha : ¬ a.length > 1048576) : laws_big.f a b = some (decide (a.length + b.length > 1048576)) := by
  unfold laws_big.f
  rw [if_neg (by omega), wrap_id (by omega) (by omega)]
  congr 1
  by_cases h : a.length + b.length > 1048576
  · rw [decide_eq_true h, decide_eq_true (by omega)]
  · rw [decide_eq_false h, decide_eq_false (by omega)]
end Go.Proofs.Ytcheoendfcgjgaa.K
namespace Go.Proofs.Ytcheoendfcgjgaa.K
open Go.RowKit Go.Proofs.YtcheoendfcgjgaaW.PrintWords Go.Proofs.YtcheoendfcgjgaaW.PrintMore Go.Proofs.Ytcheoendfcgjgaa.P
open Go.Proofs.Ytcheoendfcgjgaa.M (srtN srtN_perm warshall)
section
variable {n : Nat} {ns : List Nat} (hT : Tour n ns)
include hT
theorem partsL_rd (i : Nat) (hi : i < n) : rd (partsL (ints (szs ns))) (i : Int) = (grs (szs ns) ((szs ns).getD i 0) : Int) := by
  have hl : (szs ns).length = n := by rw [szs_len, hT.1.1.len]
  have hi2 : i < (szs ns).length := by omega
  unfold partsL ints
  rw [rd, Int.toNat_natCast, List.map_map, List.getD_eq_getElem?_getD, List.getElem?_map, List.getElem?_eq_getElem hi2, List.getD_eq_getElem?_getD, List.getElem?_eq_getElem hi2]
  simp only [Option.map_some, Option.getD_some, Function.comp]
  exact congrArg _ (great_grs (szs ns) (szs_le8 hT) _)
theorem partsL_len : (partsL (ints (szs ns))).length = n := by
  unfold partsL
  rw [List.length_map, ints_length, szs_len, hT.1.1.len]
theorem sp_l1 (rw_ sc : List Int) (one : Bool) (most : Int) (i : Nat) (hi : i < n) (y : Bool) (hy : Ev (fun k => laws_FnStrongParts.l0 k (partsL (ints (szs ns))) rw_ one sc most (partsL (ints (szs ns))) (n : Int) ((i + 1 : Nat) : Int) (n : Int) (ints ns)) y) :
    ∀ d j, j + d = n → Ev (fun k => laws_FnStrongParts.l1 k (partsL (ints (szs ns))) rw_ one sc most (i : Int) (grs (szs ns) ((szs ns).getD i 0) : Int) (partsL (ints (szs ns))) (n : Int) (i : Int) (partsL (ints (szs ns))) (n : Int) (j : Int) (n : Int) (ints ns)) y := by
  have hl := hT.1.1.len
  have h8 := hT.1.1.n8
  have hpl := partsL_len hT
  intro d
  induction d with
  | zero =>
    intro j hj
    refine Ev.step (fun k => by rw [laws_FnStrongParts.l1]) ?_
    have p1 : ¬ (j : Int) < (n : Int) := by omega
    simp only [if_neg p1, wrap_nat i (show i < 9223372036854775807 by omega)]
    exact hy
  | succ d ih =>
    intro j hj
    have hjn : j < n := by omega
    refine Ev.step (fun k => by rw [laws_FnStrongParts.l1]) ?_
    have p1 : (j : Int) < (n : Int) := by omega
    have p2 : (0 : Int) ≤ (j : Int) := by omega
    have p3 : (j : Int) < ((partsL (ints (szs ns))).length : Int) := by omega
    have p4 : (0 : Int) ≤ (i : Int) := by omega
    have p5 : (i : Int) < ((ints ns).length : Int) := by rw [ints_length]; omega
    simp only [if_pos p1, if_pos p2, if_pos p3, partsL_rd hT j hjn, wrap_nat j (show j < 9223372036854775807 by omega)]
    by_cases c : (grs (szs ns) ((szs ns).getD i 0) : Int) < (grs (szs ns) ((szs ns).getD j 0) : Int)
    · have hw := part_wins hT hi hjn (by omega)
      have e := yIn_nb hT.1.1 i j
      rw [hw] at e
      simp only [if_pos c, if_pos p4, if_pos p5, rd_ints, e, Option.bind_some, if_true]
      exact ih (j + 1) (by omega)
    · simp only [if_neg c]
      exact ih (j + 1) (by omega)
theorem sp_l0 (rw_ sc : List Int) (one : Bool) (y : Bool) : ∀ d i (most : Int), i + d = n → Ev (fun k => (impl_RankingOf.f k sc).bind fun bt => laws_FnStrongParts.l2 k rw_ one (mx ((partsL (ints (szs ns))).drop i) most) bt.1 bt.2 0 0 1 (n : Int) (ints ns)) y →
    Ev (fun k => laws_FnStrongParts.l0 k (partsL (ints (szs ns))) rw_ one sc most (partsL (ints (szs ns))) (n : Int) (i : Int) (n : Int) (ints ns)) y := by
  have hpl := partsL_len hT
  intro d
  induction d with
  | zero =>
    intro i most hi hy
    refine Ev.step (fun k => by rw [laws_FnStrongParts.l0]) ?_
    have p1 : ¬ (i : Int) < (n : Int) := by omega
    rw [List.drop_eq_nil_of_le (by omega)] at hy
    simp only [if_neg p1]
    exact hy
  | succ d ih =>
    intro i most hi hy
    have hin : i < n := by omega
    have hip : i < (partsL (ints (szs ns))).length := by omega
    have e1 : (partsL (ints (szs ns))).drop i = rd (partsL (ints (szs ns))) (i : Int) :: (partsL (ints (szs ns))).drop (i + 1) := by
      rw [List.drop_eq_getElem_cons hip, rd, Int.toNat_natCast, List.getD_eq_getElem?_getD, List.getElem?_eq_getElem hip]; rfl
    rw [e1, mx, partsL_rd hT i hin] at hy
    refine Ev.step (fun k => by rw [laws_FnStrongParts.l0]) ?_
    have p1 : (i : Int) < (n : Int) := by omega
    have p2 : (0 : Int) ≤ (i : Int) := by omega
    have p3 : (i : Int) < ((partsL (ints (szs ns))).length : Int) := by omega
    simp only [if_pos p1, if_pos p2, if_pos p3, partsL_rd hT i hin]
    have hpl' : ((partsL (ints (szs ns))).length : Int) = (n : Int) := by omega
    by_cases c : (grs (szs ns) ((szs ns).getD i 0) : Int) > most
    · rw [if_pos c] at hy
      simp only [if_pos c]
      refine Ev.step (fun k => by rw [laws_FnStrongParts.j2]) ?_
      rw [hpl']
      have := sp_l1 hT rw_ sc one (grs (szs ns) ((szs ns).getD i 0) : Int) i hin y (ih (i + 1) _ (by omega) hy) n 0 (by omega)
      simpa using this
    · rw [if_neg c] at hy
      simp only [if_neg c]
      refine Ev.step (fun k => by rw [laws_FnStrongParts.j2]) ?_
      rw [hpl']
      have := sp_l1 hT rw_ sc one most i hin y (ih (i + 1) _ (by omega) hy) n 0 (by omega)
      simpa using this
def lsum (ns : List Nat) (k : Nat) : Nat := ((srtN (ns.map pop)).take k).sum
omit hT in
theorem sum_le8 : ∀ {l : List Nat}, (∀ x ∈ l, x ≤ 8) → l.sum ≤ 8 * l.length
  | [], _ => by simp
  | x :: l, h => by
    have h1 := h x List.mem_cons_self
    have h2 := sum_le8 (l := l) (fun y hy => h y (List.mem_cons_of_mem _ hy))
    rw [List.sum_cons, List.length_cons]; omega
omit hT in
theorem lsum_le (ns : List Nat) (k : Nat) : lsum ns k ≤ 8 * ns.length := by
  unfold lsum
  have h := sum_le8 (l := (srtN (ns.map pop)).take k) (fun x hx => by
    obtain ⟨z, _, rfl⟩ := List.mem_map.1 ((srtN_perm _).mem_iff.1 (List.mem_of_mem_take hx))
    exact pop_le z)
  have : ((srtN (ns.map pop)).take k).length ≤ ns.length := by rw [List.length_take, (srtN_perm _).length_eq, List.length_map]; omega
  omega
theorem rank_rd (k : Nat) (hk : k < n) : rd (rankL (ints (ns.map pop))) (((n - (k + 1) : Nat)) : Int) = ((srtN (ns.map pop)).getD k 0 : Int) := by
  have hl : (srtN (ns.map pop)).length = n := by rw [(srtN_perm _).length_eq, List.length_map, hT.1.1.len]
  have hk2 : k < (srtN (ns.map pop)).length := by omega
  rw [rank_srt, rd, Int.toNat_natCast, List.getD_eq_getElem?_getD, List.getElem?_reverse (by rw [ints_length]; omega), ints_length, hl]
  have e : n - 1 - (n - (k + 1)) = k := by omega
  rw [e]
  unfold ints
  rw [List.getElem?_map, List.getElem?_eq_getElem hk2, List.getD_eq_getElem?_getD, List.getElem?_eq_getElem hk2]
  rfl
theorem lsum_succ (k : Nat) (hk : k < n) : lsum ns (k + 1) = lsum ns k + (srtN (ns.map pop)).getD k 0 := by
  have hl : (srtN (ns.map pop)).length = n := by rw [(srtN_perm _).length_eq, List.length_map, hT.1.1.len]
  have hk2 : k < (srtN (ns.map pop)).length := by omega
  unfold lsum
  rw [List.take_add_one, List.getElem?_eq_getElem hk2, List.getD_eq_getElem?_getD, List.getElem?_eq_getElem hk2]
  simp only [Option.toList_some, List.sum_append, List.sum_cons, List.sum_nil, Option.getD_some, Nat.add_zero]
omit hT in
theorem half_prod : ∀ k : Nat, k ≤ 8 → 2 * Int.tdiv ((k : Int) * ((k : Int) - 1)) 2 + (k : Int) = (k : Int) * (k : Int) := by
  intro k h
  obtain rfl | rfl | rfl | rfl | rfl | rfl | rfl | rfl | rfl : k = 0 ∨ k = 1 ∨ k = 2 ∨ k = 3 ∨ k = 4 ∨ k = 5 ∨ k = 6 ∨ k = 7 ∨ k = 8 := by omega
  all_goals decide +kernel
omit hT in
theorem half_small : ∀ k : Nat, k ≤ 8 → wrap64 (Int.tdiv (wrap64 ((k : Int) * wrap64 ((k : Int) - 1))) 2) = Int.tdiv ((k : Int) * ((k : Int) - 1)) 2 := by
  intro k h
  obtain rfl | rfl | rfl | rfl | rfl | rfl | rfl | rfl | rfl : k = 0 ∨ k = 1 ∨ k = 2 ∨ k = 3 ∨ k = 4 ∨ k = 5 ∨ k = 6 ∨ k = 7 ∨ k = 8 := by omega
  all_goals decide +kernel
omit hT in
omit hT in
theorem cut_arith (a k Q2 : Nat) (T Q : Int) (h1 : 2 * T + (k : Int) = Q) (h2 : (Q2 : Int) = Q) : ((a : Int) = T) ↔ 2 * a + k = Q2 := by
  constructor <;> intro h <;> omega
omit hT in
theorem sp_l2 (h8 : n ≤ 8) (rk : List Int) (hrl : rk.length = n) (G S C : Nat → Nat) (P : Nat → Prop) [DecidablePred P] (hG : ∀ k, k < n → rd rk (((n - (k + 1) : Nat)) : Int) = (G k : Int)) (hS : ∀ k, k < n → S (k + 1) = S k + G k) (hSb : ∀ k, S k ≤ 64) (hCb : ∀ k, C k ≤ k)
    (hC : ∀ k, C (k + 1) = C k + (if P (k + 1) then 1 else 0)) (hP : ∀ k, 1 ≤ k → k ≤ n → (2 * S k + k = k * k ↔ P k)) (rw_ : List Int) (one : Bool) (y : Bool) (most : Int)
    (hy : Ev (fun k => if ((C n : Nat) : Int) = wrap64 (most + 1) then (if (n : Int) ≥ 3 then laws_FnStrongParts.j5 k rw_ one (one != (most == 0)) (n : Int) (ints ns) else laws_FnStrongParts.j5 k rw_ one false (n : Int) (ints ns)) else laws_FnStrongParts.j5 k rw_ one true (n : Int) (ints ns)) y) :
    ∀ d k : Nat, k + d = n → Ev (fun q => laws_FnStrongParts.l2 q rw_ one most rk true (S k : Int) (C k : Int) ((k + 1 : Nat) : Int) (n : Int) (ints ns)) y := by
  intro d
  induction d with
  | zero =>
    intro k hk
    obtain rfl : k = n := by omega
    refine Ev.step (fun q => by rw [laws_FnStrongParts.l2]) ?_
    have p1 : ¬ ((k + 1 : Nat) : Int) ≤ (rk.length : Int) := by omega
    simp only [if_neg p1, if_true]
    exact hy
  | succ d ih =>
    intro k hk
    have hkn : k < n := by omega
    have hle := hSb (k + 1)
    have hs := hS k hkn
    have hcb := hCb k
    have p1 : ((k + 1 : Nat) : Int) ≤ (rk.length : Int) := by omega
    have p2 : (0 : Int) ≤ ((n - (k + 1) : Nat) : Int) := by omega
    have p3 : ((n - (k + 1) : Nat) : Int) < (rk.length : Int) := by omega
    have hik : k + 1 + d = n := by omega
    have hk1 : 1 ≤ k + 1 := by omega
    have hk2 : k + 1 ≤ n := by omega
    have b8 : k + 1 ≤ 8 := by omega
    have bk : k + 1 < 9223372036854775807 := by omega
    have bc : C k < 9223372036854775807 := by omega
    have e1 : (rk.length : Int) - ((k + 1 : Nat) : Int) = ((n - (k + 1) : Nat) : Int) := by omega
    have e2 : (S k : Int) + (G k : Int) = (S (k + 1) : Int) := by omega
    have b1 : ((n - (k + 1) : Nat) : Int) < 9223372036854775808 := by omega
    have b2 : (S (k + 1) : Int) < 9223372036854775808 := by omega
    have b3 : (-9223372036854775808 : Int) ≤ (S (k + 1) : Int) := by omega
    have b4 : (-9223372036854775808 : Int) ≤ ((n - (k + 1) : Nat) : Int) := by omega
    have hw1 : wrap64 ((rk.length : Int) - ((k + 1 : Nat) : Int)) = ((n - (k + 1) : Nat) : Int) := by rw [e1]; exact wrap_id b4 b1
    have hw2 : wrap64 ((S k : Int) + (G k : Int)) = (S (k + 1) : Int) := by rw [e2]; exact wrap_id b3 b2
    have hs2 := half_small (k + 1) b8
    have hw3 := wrap_nat (k + 1) bk
    have hw4 := wrap_nat (C k) bc
    have hrr := hG k hkn
    have hh := half_prod (k + 1) b8
    have hcut : ((S (k + 1) : Int) = Int.tdiv (((k + 1 : Nat) : Int) * (((k + 1 : Nat) : Int) - 1)) 2) ↔ P (k + 1) := by
      have hcast : (((k + 1) * (k + 1) : Nat) : Int) = ((k + 1 : Nat) : Int) * ((k + 1 : Nat) : Int) := by rw [Int.natCast_mul]
      rw [← hP (k + 1) hk1 hk2]
      exact cut_arith _ _ _ _ _ hh hcast
    by_cases c : P (k + 1)
    · have hi := ih (k + 1) hik
      rw [hC, if_pos c] at hi
      refine Ev.step (fun q => ?_) hi
      rw [laws_FnStrongParts.l2, if_pos p1, hw1, if_pos p2, if_pos p3, hrr, hw2, hs2, if_pos (hcut.2 c), hw4, hw3]
    · have hi := ih (k + 1) hik
      rw [hC, if_neg c, Nat.add_zero] at hi
      refine Ev.step (fun q => ?_) hi
      rw [laws_FnStrongParts.l2, if_pos p1, hw1, if_pos p2, if_pos p3, hrr, hw2, hs2, if_neg (fun h => c (hcut.1 h)), hw3]
      rfl
theorem sp_l3 (c : List Nat) (hc : c.length = n) (hlt : ∀ x ∈ c, x < n) (hN : c.Nodup) (hp : ∀ i, i + 1 < n → nb ns (c.getD i 0) (c.getD (i + 1) 0) = true) (hb : nb ns (c.getD (n - 1) 0) (c.getD 0 0) = true) :
    ∀ d i, i + d = n → Ev (fun k => laws_FnStrongParts.l3 k (ints c) (ints c) ((ints c).length : Int) (i : Int) (n : Int) (ints ns)) true := by
  have hl := hT.1.1.len
  have h8 := hT.1.1.n8
  have h1 := hT.1.1.n1
  have hil : (ints c).length = n := by rw [ints_length, hc]
  have hnl : (ints ns).length = n := by rw [ints_length, hl]
  intro d
  induction d with
  | zero =>
    intro i hi
    refine Ev.step (fun k => by rw [laws_FnStrongParts.l3]) ?_
    have p1 : ¬ (i : Int) < ((ints c).length : Int) := by omega
    simp only [if_neg p1]
    exact Ev.now _
  | succ d ih =>
    intro i hi
    have hin : i < n := by omega
    have hci : c.getD i 0 < n := hlt _ (by rw [List.getD_eq_getElem?_getD, List.getElem?_eq_getElem (by omega)]; exact List.getElem_mem _)
    obtain ⟨m, hm⟩ : ∃ m, m = if i + 1 < n then i + 1 else 0 := ⟨_, rfl⟩
    have hmn : m < n := by rw [hm]; split <;> omega
    have hcm : nb ns (c.getD i 0) (c.getD m 0) = true := by
      rw [hm]
      by_cases q : i + 1 < n
      · rw [if_pos q]; exact hp i q
      · rw [if_neg q]
        have : i = n - 1 := by omega
        rw [this]; exact hb
    refine Ev.step (fun k => by rw [laws_FnStrongParts.l3]) ?_
    have p1 : (i : Int) < ((ints c).length : Int) := by omega
    have p2 : (0 : Int) ≤ (i : Int) := by omega
    have p3 : (0 : Int) ≤ ((c.getD i 0 : Nat) : Int) := by omega
    have p4 : ((c.getD i 0 : Nat) : Int) < ((ints ns).length : Int) := by omega
    have p5 : ¬ ((ints c).length : Int) = 0 := by omega
    have p6 : (0 : Int) ≤ (m : Int) := by omega
    have p7 : (m : Int) < ((ints c).length : Int) := by omega
    have p8 : (i : Int) ≤ ((ints c).length : Int) := by omega
    have bi : i < 9223372036854775807 := by omega
    have hik : i + 1 + d = n := by omega
    have htm : Int.tmod (wrap64 ((i : Int) + 1)) ((ints c).length : Int) = (m : Int) := by
      rw [wrap_nat i bi, hil, hm]
      by_cases q : i + 1 < n
      · rw [if_pos q, Int.tmod_eq_of_lt (by omega) (by omega)]
      · rw [if_neg q, show ((i + 1 : Nat) : Int) = (n : Int) by omega, Int.tmod_self]; rfl
    have e := yIn_nb hT.1.1 (c.getD i 0) (c.getD m 0)
    rw [hcm] at e
    have etk : (ints c).take (i : Int).toNat = ints (c.take i) := by rw [Int.toNat_natCast]; unfold ints; rw [List.map_take]
    have hni : c.getD i 0 ∉ c.take i := by
      intro h
      have hi2 : i < c.length := by omega
      have hs : c = c.take i ++ c.getD i 0 :: c.drop (i + 1) := by
        have e1 : c.drop i = c.getD i 0 :: c.drop (i + 1) := by rw [List.drop_eq_getElem_cons hi2, List.getD_eq_getElem?_getD, List.getElem?_eq_getElem hi2]; rfl
        rw [← e1, List.take_append_drop]
      rw [hs] at hN
      exact (List.nodup_append.1 hN).2.2 _ h _ (by simp) rfl
    have hyh := yHas_not (c.take i) (c.getD i 0) (by simp only [BM]; rw [List.length_take]; omega) hni
    simp only [if_pos p1, if_pos p2, rd_ints, if_pos p3, if_pos p4, if_neg p5, htm, if_pos p6, if_pos p7, e, Option.bind_some, if_true, if_pos p8, etk]
    refine Ev.bind hyh ?_
    simp only [Bool.false_eq_true, if_false, wrap_nat i bi]
    exact ih (i + 1) hik
end
end Go.Proofs.Ytcheoendfcgjgaa.K
namespace Go.Proofs.Ytcheoendfcgjgaa.Pure
open Go.RowKit Go.Proofs.YtcheoendfcgjgaaW.PrintWords Go.Proofs.Ytcheoendfcgjgaa.P Go.Proofs.Ytcheoendfcgjgaa.K
open Go.Proofs.Ytcheoendfcgjgaa.M (srtN srtN_perm warshall)
theorem sp_tour {n : Nat} {ns : List Nat} (hT : Tour n ns) : Ev (fun k => laws_FnStrongParts.l0 k (partsL (ints (szs ns))) (ints (rnd n ns)) (decide (0 < (rnd n ns).length)) (ints (ns.map pop)) 0 (partsL (ints (szs ns))) (n : Int) 0 (n : Int) (ints ns)) true := by
  have hl := hT.1.1.len
  have h8 := hT.1.1.n8
  have h1 := hT.1.1.n1
  have hmx := mx_dif (szs ns) (szs_le8 hT) (szs_ne hT)
  have hcu := cu_all hT
  have hd9 : dif (szs ns) ≤ 9 := by
    have : dif (szs ns) ≤ (List.range 9).length := List.countP_le_length
    rwa [List.length_range] at this
  refine sp_l0 hT (ints (rnd n ns)) (ints (ns.map pop)) (decide (0 < (rnd n ns).length)) true n 0 0 (by omega) ?_
  refine Ev.bind (ranking_t hT) ?_
  have hrl : (rankL (ints (ns.map pop))).length = n := by rw [rankL_length, ints_length, List.length_map, hl]
  have hcb : ∀ k, cu ns k ≤ k := fun k => by
    have : cu ns k ≤ (List.range k).length := List.countP_le_length
    rwa [List.length_range] at this
  have key := sp_l2 (ns := ns) h8 (rankL (ints (ns.map pop))) hrl (fun k => (srtN (ns.map pop)).getD k 0) (lsum ns) (cu ns) (fun k => k ∈ szs ns) (rank_rd hT) (lsum_succ hT) (fun k => Nat.le_trans (lsum_le ns k) (by rw [hl]; exact Nat.mul_le_mul_left 8 h8)) hcb (cu_succ ns) (fun k a b => cut_mem hT a b) (ints (rnd n ns)) (decide (0 < (rnd n ns).length)) true (mx ((partsL (ints (szs ns))).drop 0) 0) ?_ n 0 (Nat.zero_add n)
  · exact key
  · rw [List.drop_zero]
    have e1 : ((cu ns n : Nat) : Int) = wrap64 (mx (partsL (ints (szs ns))) 0 + 1) := by
      rw [hmx, hcu]
      have : ∀ q : Nat, q ≤ 9 → (q : Int) = wrap64 (q : Int) := fun q hq => (wrap_id (by omega) (by omega)).symm
      exact this _ hd9
    simp only [if_pos e1]
    have e5 : Ev (fun k => laws_FnStrongParts.j5 k (ints (rnd n ns)) (decide (0 < (rnd n ns).length)) false (n : Int) (ints ns)) true := by
      refine Ev.step (fun k => by rw [laws_FnStrongParts.j5]) ?_
      by_cases hr : 0 < (rnd n ns).length
      · have h3 : ¬ n < 3 := fun h => by unfold rnd at hr; rw [if_pos h] at hr; simp at hr
        have hrd : rnd n ns = way n ns (roundFin ns true) (n - 1) [0] := by unfold rnd; rw [if_neg h3]
        obtain ⟨q1, q2, q3, t, q4⟩ := way_sound (n := n) (ns := ns) (roundFin ns true) (n - 1) [0] (by simp; omega) ⟨by simp, fun x hx => by rw [List.mem_singleton.1 hx]; omega, trivial⟩ (by rw [← hrd]; exact hr)
        rw [← hrd] at q1 q2 q3 q4
        generalize rnd n ns = c at q1 q2 q3 q4 hr ⊢
        have h0 : c.getD 0 0 = 0 := by rw [q4]; rfl
        have p1 : 0 < ((ints c).length : Int) := by rw [ints_length]; omega
        have p2 : rd (ints c) 0 = 0 := by
          have := rd_ints c 0
          rw [h0] at this
          exact this
        have p3 : (((ints c).length : Int) != (n : Int)) = false := by rw [ints_length, q3]; simp
        simp only [Bool.false_eq_true, if_false, decide_eq_true hr, if_true, if_pos p1, if_pos p2, p3]
        refine Ev.step (fun k => by rw [laws_FnStrongParts.j6]) ?_
        simp only [Bool.false_eq_true, if_false]
        have := sp_l3 hT c q3 q1.lt q1.nodup (fun i hi => M.pathR_get q1.path i (by omega)) (by
          unfold roundFin lastN at q2
          simp only [Bool.not_true, Bool.false_or] at q2
          rw [q3] at q2
          exact q2) n 0 (by omega)
        exact this
      · simp only [Bool.false_eq_true, if_false, decide_eq_false hr]
        exact Ev.now _
    by_cases h3 : (n : Int) ≥ 3
    · have h3' : ¬ n < 3 := by omega
      have hrd : rnd n ns = way n ns (roundFin ns true) (n - 1) [0] := by unfold rnd; rw [if_neg h3']
      have hri := round_iff hT (show 3 ≤ n by omega)
      rw [← hrd] at hri
      have e2 : (decide (0 < (rnd n ns).length) != (mx (partsL (ints (szs ns))) 0 == 0)) = false := by
        by_cases q : dif (szs ns) = 1
        · have q2 : mx (partsL (ints (szs ns))) 0 = 0 := by rw [q] at hmx; generalize mx (partsL (ints (szs ns))) 0 = z at hmx; clear hcu hd9 hri; omega
          rw [decide_eq_true (hri.2 q), q2]; rfl
        · have q2 : ¬ mx (partsL (ints (szs ns))) 0 = 0 := fun hz => q (by rw [hz] at hmx; generalize dif (szs ns) = z at hmx; clear hcu hd9 hri; omega)
          rw [decide_eq_false (fun h => q (hri.1 h)), beq_false_of_ne q2]; rfl
      simp only [if_pos h3, e2]
      exact e5
    · simp only [if_neg h3]
      exact e5
theorem FnStrongParts : laws_FnStrongParts.Pure := by
  intro l0 l1 hm0 hz0 hw0 hm1 hz1 hw1
  refine Ev.rounds ?_
  unfold laws_FnStrongParts.f
  by_cases hb1 : l0.length > 1048576
  · have e : laws_big.f l0 l1 = some true := by unfold laws_big.f; rw [if_pos (by omega)]
    simp only [e, Option.bind_some, if_true]; exact Ev.now _
  by_cases hb2 : l0.length + l1.length > 1048576
  · simp only [big_f hb1, decide_eq_true hb2, Option.bind_some, if_true]; exact Ev.now _
  simp only [big_f hb1, decide_eq_false hb2, Option.bind_some, Bool.false_eq_true, if_false]
  obtain ⟨sz, b, a', s', hd, hl1, hl8, -, -⟩ := dtour_ok (bytes_of (show l0.length ≤ 1048576 by omega) hw0) 0 0 7 (by omega) (by omega) (by omega) (by omega)
  have hdraw : Ev (fun k => spec_DrawStrongParts.f k l0) (sz, b) := by
    unfold spec_DrawStrongParts.f spec_DrawIsTournament.f
    exact Ev.bind (Ev.bind hd (Ev.now _)) (Ev.now _)
  refine Ev.bind hdraw ?_
  have hbm : b.length ≤ BM := by simp only [BM]; omega
  by_cases hT : IsTour sz b
  · obtain ⟨n, ns, rfl, rfl, hT⟩ := hT
    have h8 := hT.1.1.n8
    obtain ⟨s1, s2⟩ := strong_t hT
    obtain ⟨r1, r2⟩ := round_t hT
    have hsc := scores_t hT
    have hpl := partsL_len hT
    have y1 := ySame_same (partsL (ints (szs ns))) (by simp only [BM]; omega)
    have hrl : (rnd n ns).length ≤ 8 := by
      unfold rnd
      split
      · simp
      · have := way_len n ns (roundFin ns true) (n - 1) [0] (by simp; omega)
        omega
    have y2 := ySame_same (ints (rnd n ns)) (by rw [ints_length]; simp only [BM]; omega)
    refine Ev.bind s2 (Ev.bind s1 (Ev.bind r2 (Ev.bind r1 (Ev.bind hsc ?_))))
    simp only [bne_self_eq_false, Bool.false_eq_true, if_false]
    refine Ev.bind y1 ?_
    simp only [if_true]
    refine Ev.bind y2 ?_
    simp only [if_true]
    refine Ev.step (fun k => by rw [laws_FnStrongParts.j0]) ?_
    simp only [Bool.false_eq_true, if_false, if_true]
    have hpl' : ((partsL (ints (szs ns))).length : Int) = (n : Int) := by omega
    rw [hpl']
    exact sp_tour hT
  · obtain ⟨s1, s2, r1, r2, hsc⟩ := strong_n hbm hT
    have y1 := ySame_same [] (by simp [BM])
    refine Ev.bind s2 (Ev.bind s1 (Ev.bind r2 (Ev.bind r1 (Ev.bind hsc ?_))))
    simp only [bne_self_eq_false, Bool.false_eq_true, if_false]
    refine Ev.bind y1 ?_
    simp only [if_true]
    refine Ev.bind y1 ?_
    simp only [if_true]
    refine Ev.step (fun k => by rw [laws_FnStrongParts.j0]) ?_
    simp only [Bool.false_eq_true, if_false]
    exact Ev.now _
end Go.Proofs.Ytcheoendfcgjgaa.Pure
namespace Go.Proofs.Ytcheoendfcgjgaa.fnStrongParts
open Go.ChangeShapes Go.WideShapes Go.ChangeAt Go.RowKit
open Go.ChangeMaps (open_string shut_string)
theorem own : ownKnob Try.prog.godebug = none := by kernel_rfl
theorem laidOut : laidOutB Try.prog = true := by kernel_rfl
def IsRow (k : IntKind) (w : World) (a : Option Addr) (len cap : Nat) (zs : List Int) : Prop :=
  (a = none ∧ len = 0 ∧ cap = 0 ∧ zs = []) ∨
  ∃ x, a = some x ∧ len ≤ cap ∧ cap ≤ maxLen ∧ zs.length = cap ∧ (∀ i, i < zs.length → w.cell? (x.add i) = some (.int k (zs.getD i 0))) ∧ ∀ n ∈ zs, (Lit.int k n).wf = true
set_option maxRecDepth 100000 in
theorem lifted (os : Os) (started : os.Started) (H : Type) (enc : TypeId × Value → H) :
    ReturnsInHanded {} Try.checked os 4 .any (Rows.fnStrongPartsSpec.pre6 enc Try.prog Try.f4 Rows.fnStrongPartsRow.domain false) (Rows.fnStrongPartsSpec.post enc Try.prog Try.f4 false true false false) := by
  refine returnsInHanded_of_change_sized (C := Try.checked) own started (by kernel_rfl) Try.func4
    (ChangeSpec.witness6 (enc := enc) (C := Try.checked) false ⟨#[], #[.slice none 0 0, .slice none 0 0], []⟩ 8 (by kernel_rfl) (by kernel_rfl) (by kernel_rfl) (by kernel_rfl)) ?_
  intro W base args ds gs before hval0 hW hcnd hsz0 _
  have hsz : (DataW.weightsEach Try.prog (Try.f4.params.toList ++ Rows.fnStrongPartsSpec.plain.varTypes Try.prog) (ds ++ gs)).all (· ≤ reachBytes) = true := hsz0
  have hval : ∀ (j : Nat) t v, Try.f4.params[j]? = some t → args[j]? = some v → Value.okWide Try.prog W .any base t v := hval0
  have hW' := hW
  obtain ⟨p, q, hA0, hV, rfl, hfz, hnd⟩ := hW
  have hA : DataW.TrodAll enc Try.prog W 0 (fun _ => true) true Try.f4.params.toList args.toList ds p := hA0
  rw [Try.params4] at hA hval hsz
  obtain ⟨v0, vs0, d0, ds0, p0, q0, hargs, rfl, rfl, h0, r0⟩ := trodAll_cons hA
  obtain ⟨v1, vs1, d1, ds1, p1, q1, rfl, rfl, rfl, h1, r1⟩ := trodAll_cons r0
  obtain ⟨rfl, rfl, rfl⟩ := trodAll_nil r1
  obtain rfl : args = #[v0, v1] := by cases args; simp_all
  obtain ⟨rfl, rfl⟩ := trodVars_none hV
  obtain ⟨a0, len0, cap0, rfl⟩ := okWide_slice Try.underlying22 (hval 0 22 v0 rfl rfl)
  have k0 := h0
  have lt0 : ∀ x ∈ p0, x.block < W.heap.size := by obtain ⟨m, hm⟩ := k0; exact DataW.trod_lt m _ _ _ hm
  obtain ⟨z0, w0⟩ : ∃ zs, IsRow .u8 W a0 len0 cap0 zs := by
    obtain ⟨fuel, hf⟩ := h0
    rcases open_ints Try.underlying22 Try.underlying5 (by kernel_rfl) hf with ⟨hcs, _⟩ | ⟨x, l, c, zs, hcs, _, hl, hm, hz, _, hcell, hwz⟩
    · simp [Value.cells] at hcs
      obtain ⟨rfl, rfl, rfl⟩ := hcs
      exact ⟨[], .inl ⟨rfl, rfl, rfl, rfl⟩⟩
    · simp [Value.cells] at hcs
      obtain ⟨rfl, rfl, rfl⟩ := hcs
      exact ⟨zs, .inr ⟨_, rfl, hl, hm, by simpa using hz, hcell, hwz⟩⟩
  have y0 : len0 * 1 ≤ 140737488351232 := Go.Proofs.YtcheoendfcgjgaaW.PrintWords.sized_ints hsz (j := 0) (t := 22) rfl rfl Try.underlying22 Try.underlying5 (by kernel_rfl) (by kernel_rfl) h0
  obtain ⟨a1, len1, cap1, rfl⟩ := okWide_slice Try.underlying22 (hval 1 22 v1 rfl rfl)
  have k1 := h1
  have lt1 : ∀ x ∈ p1, x.block < W.heap.size := by obtain ⟨m, hm⟩ := k1; exact DataW.trod_lt m _ _ _ hm
  obtain ⟨z1, w1⟩ : ∃ zs, IsRow .u8 W a1 len1 cap1 zs := by
    obtain ⟨fuel, hf⟩ := h1
    rcases open_ints Try.underlying22 Try.underlying5 (by kernel_rfl) hf with ⟨hcs, _⟩ | ⟨x, l, c, zs, hcs, _, hl, hm, hz, _, hcell, hwz⟩
    · simp [Value.cells] at hcs
      obtain ⟨rfl, rfl, rfl⟩ := hcs
      exact ⟨[], .inl ⟨rfl, rfl, rfl, rfl⟩⟩
    · simp [Value.cells] at hcs
      obtain ⟨rfl, rfl, rfl⟩ := hcs
      exact ⟨zs, .inr ⟨_, rfl, hl, hm, by simpa using hz, hcell, hwz⟩⟩
  have y1 : len1 * 1 ≤ 140737488351232 := Go.Proofs.YtcheoendfcgjgaaW.PrintWords.sized_ints hsz (j := 1) (t := 22) rfl rfl Try.underlying22 Try.underlying5 (by kernel_rfl) (by kernel_rfl) h1
  clear hA0 hval0 hsz0 hsz
  refine (P.laws_FnStrongParts.walk Pure.FnStrongParts a0 len0 cap0 z0 a1 len1 cap1 z1 W w0 y0 w1 y1).mono fun e W' ⟨he, bel⟩ => ?_
  subst he
  exact ⟨_, rfl, _, _, _, [], _, [], hW', trodAll_mk1 (shut_bool Try.underlying4 _), (trodAll_cons_mk (Below.trod laidOut (by kernel_rfl) (of_decide_eq_true (by kernel_rfl)) k0 bel lt0) (trodAll_cons_mk (Below.trod laidOut (by kernel_rfl) (of_decide_eq_true (by kernel_rfl)) k1 bel lt1) trodAll_mk0)), rfl, bel.frame _, fun h => by cases h⟩
set_option maxHeartbeats 4000000 in
theorem joined : joinedFacts Try.prog 4 Try.f4 Rows.fnStrongPartsSpec Rows.fnStrongPartsRow = true := by
  unfold joinedFacts
  repeat' (with_reducible refine (Bool.and_eq_true _ _).mpr ⟨?_, ?_⟩)
  all_goals first
    | (with_reducible exact Head.mayEnter)
    | ((with_reducible rw [Head.lifts]); rfl)
    | ((with_reducible rw [Head.make]); rfl)
    | (as_aux_lemma => kernel_rfl)
theorem over : Rows.fnStrongPartsRow.holds Try.pinned (OpenSpec.ofChange Rows.fnStrongPartsSpec) :=
  OpenClaim.holds_of_wide 4 Try.f4 rfl rfl rfl rfl rfl rfl rfl ⟨rfl, rfl, rfl, rfl, rfl⟩ rfl rfl rfl rfl rfl (by kernel_rfl) Try.func4 joined
    (of_decide_eq_true (by kernel_rfl)) (by unfold Func.isWrapper; first | (rw [if_pos (by decide +kernel)]; kernel_rfl) | (rw [if_neg (by decide +kernel)]; exact ⟨rfl, rfl⟩))
    (fun os started H enc _ => lifted os started H enc)
theorem proved : Rows.FnStrongPartsSaid := over
#print axioms proved
end Go.Proofs.Ytcheoendfcgjgaa.fnStrongParts
namespace Go.Proofs.Ytcheoendfcgjgaa
theorem fnStrongParts_holds : Rows.FnStrongPartsSaid := fnStrongParts.proved
end Go.Proofs.Ytcheoendfcgjgaa
