/- The row of the law FnTournamentsBuilt: contracts and plain lemmas for the law FnTournamentsBuilt, part 7 of 7 (what the Go functions answer). -/
import Derived.Test.YtcheoendfcgjgaaRows
import Derived.WalkKit
import Derived.ProofKit
import Derived.OpenShut
import Derived.ShutString
import Derived.ChangeOld
import Derived.Below
import Derived.SizedLaws
import Derived.Test.YtcheoendfcgjgaaCFnTournamentsBuilta
import Derived.Test.YtcheoendfcgjgaaCFnTournamentsBuiltb
import Derived.Test.YtcheoendfcgjgaaCFnTournamentsBuiltc
import Derived.Test.YtcheoendfcgjgaaCFnTournamentsBuiltd
import Derived.Test.YtcheoendfcgjgaaCFnTournamentsBuilte
import Derived.Test.YtcheoendfcgjgaaCFnTournamentsBuiltf
set_option linter.unusedVariables false
set_option linter.unusedSimpArgs false
namespace Go.Proofs.Ytcheoendfcgjgaa.K
open Go.RowKit Go.Proofs.YtcheoendfcgjgaaW.PrintWords Go.Proofs.YtcheoendfcgjgaaW.PrintMore Go.Proofs.Ytcheoendfcgjgaa.P
theorem smC {f g : Nat → Nat} {n : Nat} (h : ∀ i, i < n → f i = g i) : M.sm f n = M.sm g n := M.sm_congr h
def wins (n : Nat) (ns : List Nat) (i : Nat) : Nat := M.sm (fun b => M.tB (nb ns i b)) n
theorem sm_set1 (p : Nat → Bool) (t : Nat) (hp : p t = false) : ∀ n, M.sm (fun b => M.tB (p b || decide (b = t))) n = M.sm (fun b => M.tB (p b)) n + (if t < n then 1 else 0)
  | 0 => rfl
  | n + 1 => by
    rw [M.sm, M.sm, sm_set1 p t hp n]
    by_cases e : n = t
    · subst e
      rw [hp, if_neg (by omega), if_pos (by omega)]
      simp [M.tB]
    · have e1 : decide (n = t) = false := by simpa using e
      rw [e1, Bool.or_false]
      by_cases c : t < n
      · rw [if_pos c, if_pos (by omega)]; omega
      · rw [if_neg c, if_neg (by omega)]; omega
theorem sm_setT (n : Nat) : ∀ (T : List Nat) (p : Nat → Bool), T.Nodup → (∀ t ∈ T, t < n ∧ p t = false) → M.sm (fun b => M.tB (p b || decide (b ∈ T))) n = M.sm (fun b => M.tB (p b)) n + T.length
  | [], p, _, _ => by simp
  | t :: T, p, hN, hT => by
    obtain ⟨h1, h2⟩ := List.nodup_cons.1 hN
    obtain ⟨t1, t2⟩ := hT t List.mem_cons_self
    have ih := sm_setT n T (fun b => p b || decide (b = t)) h2 (fun x hx => ⟨(hT x (List.mem_cons_of_mem _ hx)).1, by
      have : x ≠ t := fun e => h1 (e ▸ hx)
      simp [(hT x (List.mem_cons_of_mem _ hx)).2, this]⟩)
    have e : M.sm (fun b => M.tB (p b || decide (b ∈ t :: T))) n = M.sm (fun b => M.tB ((p b || decide (b = t)) || decide (b ∈ T))) n := smC (fun b _ => by
      congr 1
      rw [Bool.or_assoc]
      congr 1
      rw [Bool.eq_iff_iff]; simp)
    rw [e, ih, sm_set1 p t t2, if_pos t1, List.length_cons]
    omega
theorem sum_neg : ∀ l : List Int, (∀ x ∈ l, x ≤ -1) → l.sum ≤ -(l.length : Int)
  | [], _ => by simp
  | x :: l, h => by
    have h1 := h x List.mem_cons_self
    have h2 := sum_neg l (fun y hy => h y (List.mem_cons_of_mem _ hy))
    rw [List.sum_cons, List.length_cons]
    omega
theorem sum_dec (f g : Nat → Int) : ∀ l : List Nat, (∀ x ∈ l, g x = f x - 1) → (l.map g).sum = (l.map f).sum - l.length
  | [], _ => by simp
  | x :: l, h => by
    rw [List.map_cons, List.map_cons, List.sum_cons, List.sum_cons, sum_dec f g l (fun y hy => h y (List.mem_cons_of_mem _ hy)), h x List.mem_cons_self, List.length_cons]
    omega
theorem perm_sumI {a b : List Int} (h : a.Perm b) : a.sum = b.sum := by
  induction h with
  | nil => rfl
  | cons x _ ih => rw [List.sum_cons, List.sum_cons, ih]
  | swap x y l => simp only [List.sum_cons]; omega
  | trans _ _ h1 h2 => rw [h1, h2]
structure BtFin (n : Nat) (left : List Nat) (nd : List Int) (ns R : List Nat) : Prop where
  sets : Sets n R
  far : ∀ a b, a ∉ left ∨ b ∉ left → nb R a b = nb ns a b
  pair : ∀ a ∈ left, ∀ b ∈ left, a ≠ b → nb R a b = !nb R b a
  self : ∀ a ∈ left, nb R a a = false
  wins : ∀ x ∈ left, (wins n R x : Int) = (wins n ns x : Int) + nd.getD x 0
theorem bt_end {n : Nat} (h8 : n ≤ 8) : ∀ d (left : List Nat) (nd : List Int) (ns : List Nat), left.length = d → nd.length = n → Sets n ns → (∀ x ∈ left, x < n) → left.Pairwise (fun a b => a < b) →
    (∀ a ∈ left, ∀ b ∈ left, nb ns a b = false) → 2 * (left.map fun x => nd.getD x 0).sum = (d : Int) * ((d : Int) - 1) → okL d (isortI (left.map fun x => nd.getD x 0)) = true → BtFin n left nd ns (btGo d nd ns left) := by
  intro d
  induction d with
  | zero =>
    intro left nd ns hlen hnd hS hL hP hZ hsum hok
    have : left = [] := List.eq_nil_of_length_eq_zero hlen
    subst this
    exact ⟨hS, fun a b _ => rfl, (fun a ha => by cases ha), (fun a ha => by cases ha), (fun x hx => by cases hx)⟩
  | succ d ih =>
    intro left nd ns hlen hnd hS hL hP hZ hsum hok
    have hne : left ≠ [] := fun e => by rw [e] at hlen; simp at hlen
    have hNd : left.Nodup := hP.imp (fun h => Nat.ne_of_lt h)
    obtain ⟨i, hi⟩ : ∃ i, i = btFirst nd left := ⟨_, rfl⟩
    obtain ⟨f1, f2⟩ := btFirst_best nd left hne hP
    rw [← hi] at f1 f2
    have hin : i < n := hL i f1
    obtain ⟨left', hl'⟩ : ∃ left', left' = left.filter (fun x => decide (x ≠ i)) := ⟨_, rfl⟩
    obtain ⟨o, ho⟩ : ∃ o, o = btOrd nd left' := ⟨_, rfl⟩
    have hperm : left.Perm (i :: left') := by rw [hl']; exact filter_perm i left hNd f1
    have hop : o.Perm left' := by rw [ho]; exact btOrd_perm nd left'
    have hos : o.Pairwise (ahead nd false) := by rw [ho]; exact btOrd_sorted nd left'
    have hm' : ∀ x, x ∈ left' ↔ x ∈ left ∧ x ≠ i := fun x => by rw [hl', List.mem_filter]; simp
    have hlen' : left'.length = d := by have := hperm.length_eq; simp at this; omega
    have holen : o.length = d := by rw [hop.length_eq, hlen']
    have hNd' : left'.Nodup := by rw [hl']; exact hNd.sublist List.filter_sublist
    have hNo : o.Nodup := hop.nodup_iff.2 hNd'
    have hmo : ∀ x, x ∈ o ↔ x ∈ left ∧ x ≠ i := fun x => by rw [hop.mem_iff, hm']
    obtain ⟨M, hMd⟩ : ∃ M, M = nd.getD i 0 := ⟨_, rfl⟩
    have hpm : (left.map fun x => nd.getD x 0).Perm ((o ++ [i]).map fun x => nd.getD x 0) := (hperm.trans ((hop.symm.cons i).trans (List.perm_append_singleton i o).symm)).map _
    have hsrt : isortI (left.map fun x => nd.getD x 0) = o.map (fun x => nd.getD x 0) ++ [M] := by
      refine isortI_eq ?_ ?_
      · have := hpm
        rw [List.map_append] at this
        rw [hMd]
        exact this
      · rw [List.pairwise_append]
        refine ⟨?_, by simp, fun a ha b hb => ?_⟩
        · rw [List.pairwise_map]
          exact hos.imp (fun h => by unfold ahead at h; simp only [Bool.false_eq_true, if_false] at h; omega)
        · obtain ⟨x, hx, rfl⟩ := List.mem_map.1 ha
          rw [List.mem_singleton.1 hb, hMd]
          have := f2 x ((hmo x).1 hx).1
          unfold ahead at this; simp only [if_true] at this; omega
    rw [hsrt, okL, List.getLastD_concat, List.dropLast_concat, Bool.and_eq_true, decide_eq_true_eq, List.length_map] at hok
    obtain ⟨k1, k2⟩ := hok
    have hsum2 : (left.map fun x => nd.getD x 0).sum = (o.map fun x => nd.getD x 0).sum + M := by
      rw [perm_sumI hpm, List.map_append, List.sum_append, hMd]; simp
    have hM0 : 0 ≤ M := by
      refine Decidable.byContradiction (fun hc => ?_)
      have := sum_neg (left.map fun x => nd.getD x 0) (fun y hy => by
        obtain ⟨x, hx, rfl⟩ := List.mem_map.1 hy
        have := f2 x hx
        unfold ahead at this; simp only [if_true] at this; omega)
      rw [List.length_map, hlen] at this
      have h0 : (0 : Int) ≤ ((d + 1 : Nat) : Int) * (((d + 1 : Nat) : Int) - 1) := Int.mul_nonneg (by omega) (by omega)
      omega
    have hio : i ∉ o := fun h => ((hmo i).1 h).2 rfl
    have hoL : ∀ x ∈ o, x < n := fun x hx => hL x ((hmo x).1 hx).1
    obtain ⟨c1, c2, c3, c4⟩ := btIn_char (n := n) i M hin o 0 nd ns hNo hio hoL hnd hS (fun x hx => ⟨hZ i f1 x ((hmo x).1 hx).1, hZ x ((hmo x).1 hx).1 i f1⟩)
    have ht : (M - ((0 : Nat) : Int)).toNat = M.toNat := by congr 1; omega
    rw [ht] at c3 c4
    have hN2 := hNo
    rw [← List.take_append_drop M.toNat o, List.nodup_append] at hN2
    have hd1 : ∀ x ∈ o.take M.toNat, x ∉ o.drop M.toNat := fun x hx q => hN2.2.2 x hx x q rfl
    have e2 : (o.map fun x => (btIn i M o 0 nd ns).1.getD x 0) = (o.take M.toNat).map (fun x => nd.getD x 0) ++ (o.drop M.toNat).map (fun x => nd.getD x 0 - 1) := by
      have e3 : (o.map fun x => (btIn i M o 0 nd ns).1.getD x 0) = ((o.take M.toNat) ++ (o.drop M.toNat)).map fun x => (btIn i M o 0 nd ns).1.getD x 0 := by rw [List.take_append_drop]
      rw [e3, List.map_append]
      congr 1
      · exact List.map_congr_left (fun x hx => by rw [c3, if_neg (hd1 x hx)])
      · exact List.map_congr_left (fun x hx => by rw [c3, if_pos hx])
    have hF := ih left' (btIn i M o 0 nd ns).1 (btIn i M o 0 nd ns).2 hlen' c1 c2 (fun x hx => hL x ((hm' x).1 hx).1) (by rw [hl']; exact hP.sublist List.filter_sublist) (fun a ha b hb => by
        obtain ⟨a1, a2⟩ := (hm' a).1 ha
        obtain ⟨b1, b2⟩ := (hm' b).1 hb
        rw [c4, hZ a a1 b b1]; simp [a2, b2]) (by
        have h1 : (left'.map fun x => (btIn i M o 0 nd ns).1.getD x 0).sum = (o.map fun x => (btIn i M o 0 nd ns).1.getD x 0).sum := perm_sumI (hop.symm.map _)
        have h2 : ((o.drop M.toNat).map (fun x => nd.getD x 0 - 1)).sum = ((o.drop M.toNat).map (fun x => nd.getD x 0)).sum - (o.drop M.toNat).length := sum_dec _ _ _ (fun _ _ => rfl)
        have h3 : (o.map fun x => nd.getD x 0).sum = ((o.take M.toNat).map (fun x => nd.getD x 0)).sum + ((o.drop M.toNat).map (fun x => nd.getD x 0)).sum := by
          rw [← List.sum_append, ← List.map_append, List.take_append_drop]
        rw [h1, e2, List.sum_append, h2, List.length_drop, holen]
        rw [hsum2, h3] at hsum
        have h4 : ((d + 1 : Nat) : Int) * (((d + 1 : Nat) : Int) - 1) = (d : Int) * ((d : Int) - 1) + 2 * d := by
          rw [show ((d + 1 : Nat) : Int) = (d : Int) + 1 by omega, show (d : Int) + 1 - 1 = d by omega, Int.add_mul, Int.mul_sub]; omega
        omega) (by
        rw [← k2]
        congr 1
        apply isortI_congr
        have e1 : (left'.map fun x => (btIn i M o 0 nd ns).1.getD x 0).Perm (o.map fun x => (btIn i M o 0 nd ns).1.getD x 0) := hop.symm.map _
        refine e1.trans (List.Perm.of_eq ?_)
        rw [e2, ← List.map_take, ← List.map_drop, List.map_map]
        rfl)
    have hgo : btGo (d + 1) nd ns left = btGo d (btIn i M o 0 nd ns).1 (btIn i M o 0 nd ns).2 left' := by
      rw [btGo, ← hi, ← hl', ← ho, ← hMd]
    rw [hgo]
    generalize btGo d (btIn i M o 0 nd ns).1 (btIn i M o 0 nd ns).2 left' = R at hF ⊢
    have hnl : i ∉ left' := fun h => ((hm' i).1 h).2 rfl
    have row : ∀ b, nb R i b = (nb ns i b || decide (b ∈ o.take M.toNat)) := fun b => by
      rw [hF.far i b (.inl hnl), c4]
      have : i ∉ o.drop M.toNat := fun h => hio (List.mem_of_mem_drop h)
      simp [this]
    have col : ∀ a, a ≠ i → nb R a i = (nb ns a i || decide (a ∈ o.drop M.toNat)) := fun a ha => by
      rw [hF.far a i (.inr hnl), c4]
      simp [ha]
    have tod : ∀ x ∈ left', x ∈ o.take M.toNat ∨ x ∈ o.drop M.toNat := fun x hx => by
      rw [← List.mem_append, List.take_append_drop]
      exact hop.mem_iff.2 hx
    refine ⟨hF.sets, fun a b hab => ?_, fun a ha b hb hne => ?_, fun a ha => ?_, fun x hx => ?_⟩
    · have hn' : a ∉ left' ∨ b ∉ left' := hab.imp (fun h q => h ((hm' a).1 q).1) (fun h q => h ((hm' b).1 q).1)
      rw [hF.far a b hn', c4]
      have q1 : (decide (a = i) && decide (b ∈ o.take M.toNat)) = false := by
        simp only [Bool.and_eq_false_iff, decide_eq_false_iff_not]
        rcases hab with q | q
        · exact .inl (fun e => q (e ▸ f1))
        · exact .inr (fun h => q ((hmo b).1 (List.mem_of_mem_take h)).1)
      have q2 : (decide (a ∈ o.drop M.toNat) && decide (b = i)) = false := by
        simp only [Bool.and_eq_false_iff, decide_eq_false_iff_not]
        rcases hab with q | q
        · exact .inl (fun h => q ((hmo a).1 (List.mem_of_mem_drop h)).1)
        · exact .inr (fun e => q (e ▸ f1))
      rw [q1, q2]; simp
    · by_cases ea : a = i
      · subst ea
        have hb' : b ∈ left' := (hm' b).2 ⟨hb, Ne.symm hne⟩
        rw [row b, col b (Ne.symm hne), hZ a ha b hb, hZ b hb a ha, Bool.false_or, Bool.false_or]
        rcases tod b hb' with q | q
        · rw [decide_eq_true q, decide_eq_false (hd1 b q)]; rfl
        · rw [decide_eq_true q, decide_eq_false (fun h => hd1 b h q)]; rfl
      · by_cases eb : b = i
        · subst eb
          have ha' : a ∈ left' := (hm' a).2 ⟨ha, ea⟩
          rw [row a, col a ea, hZ a ha b hb, hZ b hb a ha, Bool.false_or, Bool.false_or]
          rcases tod a ha' with q | q
          · rw [decide_eq_true q, decide_eq_false (hd1 a q)]; rfl
          · rw [decide_eq_true q, decide_eq_false (fun h => hd1 a h q)]; rfl
        · exact hF.pair a ((hm' a).2 ⟨ha, ea⟩) b ((hm' b).2 ⟨hb, eb⟩) hne
    · by_cases ea : a = i
      · subst ea
        have : a ∉ o.take M.toNat := fun h => hio (List.mem_of_mem_take h)
        rw [row a, hZ a ha a ha]; simp [this]
      · exact hF.self a ((hm' a).2 ⟨ha, ea⟩)
    · by_cases ex : x = i
      · subst ex
        have e4 : wins n R x = wins n ns x + (o.take M.toNat).length := by
          unfold wins
          rw [smC (fun b _ => by rw [row b])]
          exact sm_setT n _ (nb ns x) hN2.1 (fun t ht => ⟨hoL t (List.mem_of_mem_take ht), hZ x hx t ((hmo t).1 (List.mem_of_mem_take ht)).1⟩)
        rw [e4, List.length_take, ← hMd]
        omega
      · have hx' : x ∈ left' := (hm' x).2 ⟨hx, ex⟩
        rw [hF.wins x hx', c3]
        have row2 : ∀ b, nb (btIn i M o 0 nd ns).2 x b = (nb ns x b || decide (x ∈ o.drop M.toNat ∧ b = i)) := fun b => by
          rw [c4]; simp [ex]
        rcases tod x hx' with q | q
        · have : wins n (btIn i M o 0 nd ns).2 x = wins n ns x := smC (fun b _ => by rw [row2 b]; simp [hd1 x q])
          rw [this, if_neg (hd1 x q)]
        · have : wins n (btIn i M o 0 nd ns).2 x = wins n ns x + 1 := by
            unfold wins
            rw [smC (g := fun b => Go.Proofs.Ytcheoendfcgjgaa.M.tB (nb ns x b || decide (b = i))) (fun b _ => by rw [row2 b]; simp [q]), sm_set1 _ _ (hZ x hx i f1), if_pos hin]
          rw [this, if_pos q]
          omega
theorem refuse_sum_eq (n : Nat) : ∀ (l : List Int) (i : Nat) (s : Int), i + l.length = n → l ≠ [] → refuseS n i s l = 0 → s + l.sum = Int.tdiv (((n - 1 : Nat) : Int) * (((n - 1 : Nat) : Int) + 1)) 2
  | [x], i, s, hi, _, h => by
    obtain ⟨h1, -⟩ := refuse_tst n i s x [] (by simp at hi; omega) h
    have : i = n - 1 := by simp at hi; omega
    subst this
    unfold tst at h1
    simp only [Bool.or_eq_false_iff, Bool.and_eq_false_iff, decide_eq_false_iff_not] at h1
    simp at hi ⊢
    omega
  | x :: y :: l, i, s, hi, _, h => by
    obtain ⟨-, h2⟩ := refuse_tst n i s x (y :: l) (by simp at hi; omega) h
    have := refuse_sum_eq n (y :: l) (i + 1) (s + x) (by simp at hi ⊢; omega) (by simp) h2
    rw [List.sum_cons]
    omega
theorem tri2 : ∀ n, 1 ≤ n → n ≤ 8 → 2 * Int.tdiv (((n - 1 : Nat) : Int) * (((n - 1 : Nat) : Int) + 1)) 2 = (n : Int) * ((n : Int) - 1) := by
  intro n h1 h
  obtain rfl | rfl | rfl | rfl | rfl | rfl | rfl | rfl : n = 1 ∨ n = 2 ∨ n = 3 ∨ n = 4 ∨ n = 5 ∨ n = 6 ∨ n = 7 ∨ n = 8 := by omega
  all_goals decide +kernel
theorem refS_sum (l : List Int) (h1 : 1 ≤ l.length) (h8 : l.length ≤ 8) (hr : refS l = 0) : 2 * l.sum = (l.length : Int) * ((l.length : Int) - 1) := by
  unfold refS at hr
  have hp := sortL_perm' l
  have := refuse_sum_eq l.length (sortL l) 0 0 (by rw [hp.length_eq]; omega) (fun e => by rw [e] at hp; have := hp.length_eq; simp at this; omega) hr
  rw [perm_sumI hp] at this
  rw [← tri2 l.length h1 h8, ← this]
  omega
theorem zero_nb (n a b : Nat) : nb (List.replicate n 0) a b = false := by
  unfold nb
  rw [List.getD_eq_getElem?_getD, List.getElem?_replicate]
  split <;> simp
theorem pop_wins {n : Nat} {ns : List Nat} (h : Sets n ns) (i : Nat) : pop (ns.getD i 0) = wins n ns i := by
  have key : ∀ (p : Nat → Bool) (m : Nat), (List.range m).countP p = M.sm (fun b => M.tB (p b)) m := by
    intro p m
    induction m with
    | zero => rfl
    | succ m ih => rw [List.range_succ, List.countP_append, ih, M.sm]; simp [M.tB]
  have ext : ∀ d, n + d ≤ 8 → M.sm (fun b => M.tB ((ns.getD i 0).testBit b)) (n + d) = wins n ns i := by
    intro d
    induction d with
    | zero => intro _; rfl
    | succ d ih =>
      intro hd
      rw [← Nat.add_assoc, M.sm, ih (by omega)]
      have : (ns.getD i 0).testBit (n + d) = false := h.nb_lt (i := i) (j := n + d) (by omega)
      rw [this]; rfl
  have := ext (8 - n) (by have := h.n8; omega)
  rw [show n + (8 - n) = 8 by have := h.n8; omega] at this
  rw [← this]
  exact key _ 8
theorem built_tour {l : List Int} (hb : isList l = true) (hr : refS l = 0) :
    Tour l.length (btGo l.length l (List.replicate l.length 0) (List.range l.length)) ∧ ints ((btGo l.length l (List.replicate l.length 0) (List.range l.length)).map pop) = l := by
  obtain ⟨h1, h8, h3⟩ := isList_mem hb
  have hz : Sets l.length (List.replicate l.length 0) := ⟨h1, h8, by simp, fun x hx => by rw [(List.mem_replicate.1 hx).2]; exact Nat.two_pow_pos _⟩
  have em : ((List.range l.length).map fun x => l.getD x 0) = l := by
    apply getD_ext (by simp)
    intro x
    rw [List.getD_eq_getElem?_getD, List.getElem?_map]
    by_cases hx : x < l.length
    · rw [List.getElem?_range hx]; rfl
    · rw [List.getElem?_eq_none (by simp; omega), List.getD_eq_getElem?_getD, List.getElem?_eq_none (by omega)]; rfl
  have F := bt_end h8 l.length (List.range l.length) l (List.replicate l.length 0) (by simp) rfl hz (fun x hx => List.mem_range.1 hx) List.pairwise_lt_range (fun a _ b _ => zero_nb _ a b) (by rw [em]; exact refS_sum l h1 h8 hr) (by rw [em]; exact okL_start l h8 (fun x hx => (h3 x hx).1) hr)
  generalize btGo l.length l (List.replicate l.length 0) (List.range l.length) = R at F
  refine ⟨⟨⟨F.sets, fun i hi => ?_⟩, fun i hi j hj => ?_⟩, ?_⟩
  · exact F.self i (List.mem_range.2 hi)
  · have := F.pair i (List.mem_range.2 hi) j (List.mem_range.2 (by omega)) (by omega)
    rw [this]
    cases nb R j i <;> simp
  · apply getD_ext (by rw [ints_length, List.length_map, F.sets.len])
    intro x
    by_cases hx : x < l.length
    · have h2 := F.wins x (List.mem_range.2 hx)
      have h0 : wins l.length (List.replicate l.length 0) x = 0 := by
        unfold wins
        rw [smC (g := fun _ => 0) (fun b _ => by rw [zero_nb]; rfl)]
        generalize l.length = m
        induction m with
        | zero => rfl
        | succ m ih => rw [M.sm, ih]
      have hxR : x < R.length := by rw [F.sets.len]; exact hx
      have hpw := pop_wins F.sets x
      rw [List.getD_eq_getElem?_getD, List.getElem?_eq_getElem hxR] at hpw
      simp only [ints]
      rw [List.getD_eq_getElem?_getD, List.getElem?_map, List.getElem?_map, List.getElem?_eq_getElem hxR]
      simp only [Option.map_some, Option.getD_some] at hpw ⊢
      rw [hpw, h2, h0]
      omega
    · rw [List.getD_eq_getElem?_getD, List.getElem?_eq_none (by rw [ints_length, List.length_map, F.sets.len]; omega), List.getD_eq_getElem?_getD, List.getElem?_eq_none (by omega)]
theorem ccK_sum : ∀ (l : List Int) (s : Int), (∀ x ∈ l, 0 ≤ x ∧ x ≤ 60) → l.length ≤ 100 → -1000000 ≤ s - 1770 * l.length → s ≤ 1000000 → 2 * ccK s l = 2 * s - (l.map fun x => x * (x - 1)).sum := by
  intro l
  induction l with
  | nil => intro s _ _ _ _; simp [ccK]
  | cons x l ih =>
    intro s hx hl h1 h2
    have hx0 := hx x (by simp)
    have hm : ∃ m, m = x * (x - 1) ∧ 0 ≤ m ∧ m ≤ 3540 ∧ m % 2 = 0 := by
      obtain ⟨y, rfl⟩ : ∃ y : Nat, x = (y : Int) := ⟨x.toNat, by omega⟩
      have hy : y < 61 := by omega
      have := (show (List.range 61).all (fun y => decide (0 ≤ (y : Int) * ((y : Int) - 1) ∧ (y : Int) * ((y : Int) - 1) ≤ 3540 ∧ ((y : Int) * ((y : Int) - 1)) % 2 = 0)) = true by decide +kernel)
      have := List.all_eq_true.1 this y (List.mem_range.2 hy)
      exact ⟨_, rfl, of_decide_eq_true this⟩
    obtain ⟨m, hm0, hm1, hm2, hm3⟩ := hm
    have e1 : wrap64 (x - 1) = x - 1 := by unfold wrap64; omega
    have e2 : wrap64 (x * (x - 1)) = m := by rw [← hm0]; unfold wrap64; omega
    have e3 : Int.tdiv m 2 = m / 2 := by rw [Int.tdiv_eq_ediv_of_nonneg hm1]
    have e4 : wrap64 (m / 2) = m / 2 := by unfold wrap64; omega
    have e5 : wrap64 (s - m / 2) = s - m / 2 := by simp only [List.length_cons] at h1; unfold wrap64; omega
    rw [ccK, e1, e2, e3, e4, e5]
    have := ih (s - m / 2) (fun y hy => hx y (by simp [hy])) (by simp at hl; omega) (by simp only [List.length_cons] at h1; omega) (by omega)
    rw [this, List.map_cons, List.sum_cons, ← hm0]
    omega
theorem sum_sm (f : Nat → Nat) : ∀ n, ((List.range n).map fun i => ((f i : Nat) : Int)).sum = ((M.sm f n : Nat) : Int) := by
  intro n
  induction n with
  | zero => rfl
  | succ n ih => rw [List.range_succ, List.map_append, List.sum_append, ih, M.sm]; simp
theorem c3_all : ∀ n, n ≤ 8 → 6 * M.sm3 (fun _ _ _ => 1) n = n * (n - 1) * (n - 2) := by
  intro n h
  obtain rfl | rfl | rfl | rfl | rfl | rfl | rfl | rfl | rfl : n = 0 ∨ n = 1 ∨ n = 2 ∨ n = 3 ∨ n = 4 ∨ n = 5 ∨ n = 6 ∨ n = 7 ∨ n = 8 := by omega
  all_goals decide +kernel
theorem c3_int : ∀ n : Nat, 1 ≤ n → n ≤ 8 → wrap64 (Int.tdiv (wrap64 ((wrap64 ((n : Int) * (wrap64 ((n : Int) - 1)))) * (wrap64 ((n : Int) - 2)))) 6) = ((M.sm3 (fun _ _ _ => 1) n : Nat) : Int) := by
  intro n h1 h
  obtain rfl | rfl | rfl | rfl | rfl | rfl | rfl | rfl : n = 1 ∨ n = 2 ∨ n = 3 ∨ n = 4 ∨ n = 5 ∨ n = 6 ∨ n = 7 ∨ n = 8 := by omega
  all_goals decide +kernel
theorem circles_count {n : Nat} {ns : List Nat} (hT : Tour n ns) : ((cirs n ns).length : Int) = ccK (wrap64 (Int.tdiv (wrap64 ((wrap64 ((n : Int) * (wrap64 ((n : Int) - 1)))) * (wrap64 ((n : Int) - 2)))) 6)) (ints (ns.map pop)) := by
  have hS := hT.1.1
  have h1 := hS.n1
  have h8 := hS.n8
  have hl := hS.len
  have hc := M.circles_sum hT.tou
  rw [← cirs_length] at hc
  have h6 := c3_all n h8
  have hsm : ∀ x ∈ ints (ns.map pop), 0 ≤ x ∧ x ≤ 60 := by
    intro x hx
    obtain ⟨y, hy, rfl⟩ := List.mem_map.1 hx
    obtain ⟨z, hz, rfl⟩ := List.mem_map.1 hy
    have := pop_le8 z
    omega
  have hlen : (ints (ns.map pop)).length = n := by rw [ints_length, List.length_map, hl]
  have hs3 : M.sm3 (fun _ _ _ => 1) n ≤ 56 := by
    obtain rfl | rfl | rfl | rfl | rfl | rfl | rfl | rfl : n = 1 ∨ n = 2 ∨ n = 3 ∨ n = 4 ∨ n = 5 ∨ n = 6 ∨ n = 7 ∨ n = 8 := by omega
    all_goals decide +kernel
  have hk := ccK_sum (ints (ns.map pop)) ((M.sm3 (fun _ _ _ => 1) n : Nat) : Int) hsm (by omega) (by rw [hlen]; omega) (by omega)
  rw [c3_int n h1 h8]
  -- the sums of pairs
  have hpair : ∀ i, 2 * M.sm2 (fun j k => M.tB (nb ns i j && nb ns i k)) n + wins n ns i = wins n ns i * wins n ns i := fun i => M.sm2_pairs (fun j => nb ns i j) n
  have hsum : ((ints (ns.map pop)).map fun x => x * (x - 1)).sum = 2 * ((M.sm (fun i => M.sm2 (fun j k => M.tB (nb ns i j && nb ns i k)) n) n : Nat) : Int) := by
    have e1 : (ints (ns.map pop)).map (fun x => x * (x - 1)) = (List.range n).map fun i => ((2 * M.sm2 (fun j k => M.tB (nb ns i j && nb ns i k)) n : Nat) : Int) := by
      apply List.ext_getElem (by simp [ints_length, hl])
      intro i hi1 hi2
      have hi : i < n := by simpa using hi2
      have hi3 : i < ns.length := by omega
      simp only [List.getElem_map, List.getElem_range, ints]
      have hw := pop_wins hS i
      rw [List.getD_eq_getElem?_getD, List.getElem?_eq_getElem hi3, Option.getD_some] at hw
      rw [hw]
      have := hpair i
      have h2 : (wins n ns i : Int) * (wins n ns i : Int) = ((wins n ns i * wins n ns i : Nat) : Int) := by push_cast; rfl
      have h3 : (wins n ns i : Int) * ((wins n ns i : Int) - 1) = (wins n ns i : Int) * (wins n ns i : Int) - (wins n ns i : Int) := by rw [Int.mul_sub, Int.mul_one]
      rw [h3, h2, ← this]
      push_cast
      omega
    rw [e1, sum_sm, M.sm_mul]
    push_cast
    rfl
  rw [hsum] at hk
  omega
theorem isTour_k {n : Nat} {ns : List Nat} (hT : Tour n ns) : Ev (fun k => impl_IsTournament.f k (n : Int) (ints ns)) true :=
  (IsTournament_f (n : Int) (ints ns) (by rw [ints_length, hT.1.1.len]; have := hT.1.1.n8; simp only [BM]; omega)).1 ⟨n, ns, rfl, rfl, hT⟩
theorem scoresOf_k {n : Nat} {ns : List Nat} (hT : Tour n ns) : Ev (fun k => impl_ScoresOf.f k (n : Int) (ints ns)) (ints (ns.map pop), true) := by
  have hS := hT.1.1
  have hlen := hS.len
  have hn := hS.n8
  have hx : ∀ x ∈ ns, x < 256 := fun x hx => Nat.lt_of_lt_of_le (hS.lt x hx) (pow8 hn)
  unfold impl_ScoresOf.f
  refine Ev.bind (isTour_k hT) ?_
  simp only [if_true]
  exact Ev.bind (counts_f ns (by omega) hx) (Ev.now _)
theorem circlesOf_k {n : Nat} {ns : List Nat} (hT : Tour n ns) : Ev (fun k => impl_CirclesOf.f k (n : Int) (ints ns)) (intsS (cirs n ns), true) := by
  unfold impl_CirclesOf.f
  refine Ev.bind (isTour_k hT) ?_
  simp only [if_true]
  exact Ev.bind (circles_list hT.1.1) (Ev.now _)
def Bytes (code : List Int) : Prop := code.length ≤ 1048576 ∧ ∀ x ∈ code, 0 ≤ x ∧ x ≤ 255
theorem bytes_of {l : List Int} (hl : l.length ≤ 1048576) (h : ∀ x ∈ l, (Lit.int .u8 x).wf = true) : Bytes l := by
  refine ⟨hl, fun x hx => ?_⟩
  have := h x hx
  simp [Lit.wf, IntKind.min, IntKind.max, IntKind.signed, IntKind.bits] at this
  omega
theorem and255 (x : Int) : 0 ≤ Go.bits .and .u64 x 255 ∧ Go.bits .and .u64 x 255 ≤ 255 := by
  have h : (BitVec.ofInt 64 x &&& BitVec.ofInt 64 255).toNat ≤ 255 := by
    rw [BitVec.toNat_and]
    exact Nat.le_trans Nat.and_le_right (by decide)
  have key : Go.bits .and .u64 x 255 = IntKind.u64.wrap ((BitVec.ofInt 64 x &&& BitVec.ofInt 64 255).toNat : Int) := rfl
  rw [key]
  generalize (BitVec.ofInt 64 x &&& BitVec.ofInt 64 255).toNat = n at *
  simp only [IntKind.wrap, IntKind.bits, IntKind.signed]
  simp
  omega
theorem rd_byte {code : List Int} (hc : Bytes code) (i : Int) : 0 ≤ rd code i ∧ rd code i ≤ 255 := by
  unfold rd
  rw [List.getD_eq_getElem?_getD]
  cases h : code[i.toNat]? with
  | none => simp
  | some x =>
    have := List.mem_of_getElem? h
    exact hc.2 x this
section
variable {code : List Int}
theorem next_ok (hc : Bytes code) (a s : Int) (h0 : 0 ≤ a) (h1 : a ≤ 2305843009213693952) : ∃ x s', spec_l1Cur_next.f code a s = some (x, a + 1, s') ∧ 0 ≤ x ∧ x ≤ 255 := by
  have hw : wrap64 (a + 1) = a + 1 := wrap_id (by omega) (by omega)
  have hi : ∀ y, wrap64 (Go.bits .and .u64 y 255) = Go.bits .and .u64 y 255 := fun y => by have := and255 y; exact wrap_id (by omega) (by omega)
  have hr := rd_byte hc a
  have hq : wrap64 (rd code a) = rd code a := wrap_id (by omega) (by omega)
  unfold spec_l1Cur_next.f
  simp only [hw, hi, hq, if_pos h0]
  split
  · split
    · exact ⟨_, _, rfl, hr⟩
    · exact ⟨_, _, rfl, and255 _⟩
  · split
    · exact ⟨_, _, rfl, by omega, by omega⟩
    · exact ⟨_, _, rfl, and255 _⟩
theorem pick_ok (hc : Bytes code) (a s n : Int) (h0 : 0 ≤ a) (h1 : a ≤ 1152921504606846976) (hn : n ≤ 1099511627776) : ∃ x a' s', spec_l1Cur_pick.f code a s n = some (x, a', s') ∧ 0 ≤ x ∧ (1 ≤ n → x < n) ∧ (n ≤ 1 → x = 0) ∧ a ≤ a' ∧ a' ≤ a + 2 := by
  unfold spec_l1Cur_pick.f
  by_cases e : n ≤ 1
  · rw [if_pos e]; exact ⟨_, _, _, rfl, by omega, by omega, fun _ => rfl, by omega, by omega⟩
  · rw [if_neg e]
    obtain ⟨x, s1, e1, x0, x1⟩ := next_ok hc a s h0 (by omega)
    rw [e1, Option.bind_some]
    have hz : ¬ n = 0 := by omega
    by_cases e2 : n > 200
    · rw [if_pos e2]
      obtain ⟨y, s2, e3, y0, y1⟩ := next_ok hc (a + 1) s1 (by omega) (by omega)
      simp only [e3, Option.bind_some, if_neg hz]
      have hw : wrap64 (wrap64 (x * 256) + y) = x * 256 + y := by
        rw [show wrap64 (x * 256) = x * 256 from wrap_id (by omega) (by omega)]; exact wrap_id (by omega) (by omega)
      rw [hw]
      have t0 := Int.tmod_nonneg n (show (0 : Int) ≤ x * 256 + y by omega)
      have t1 := Int.tmod_lt_of_pos (x * 256 + y) (show (0 : Int) < n by omega)
      exact ⟨_, _, _, rfl, t0, fun _ => t1, by omega, by omega, by omega⟩
    · rw [if_neg e2]
      simp only [if_neg hz]
      have t0 := Int.tmod_nonneg n x0
      have t1 := Int.tmod_lt_of_pos x (show (0 : Int) < n by omega)
      exact ⟨_, _, _, rfl, t0, fun _ => t1, by omega, by omega, by omega⟩
theorem one_ok (hc : Bytes code) (a s n : Int) (h0 : 0 ≤ a) (h1 : a ≤ 1152921504606846976) (hn : n ≤ 1099511627776) : ∃ x a' s', spec_l1Cur_one.f code a s n = some (x, a', s') ∧ a ≤ a' ∧ a' ≤ a + 2 := by
  unfold spec_l1Cur_one.f
  obtain ⟨x, a', s', e, -, -, -, h2, h3⟩ := pick_ok hc a s n h0 h1 hn
  rw [e]
  exact ⟨_, _, _, rfl, h2, h3⟩
end
section
variable {code : List Int}
theorem among_ok (hc : Bytes code) (a s : Int) (l : List Int) (hl : 1 ≤ l.length) (hl2 : l.length ≤ 1000) (h0 : 0 ≤ a) (h1 : a ≤ 1152921504606846976) : ∃ x a' s', spec_l1Cur_among.f code a s l = some (x, a', s') ∧ x ∈ l ∧ a ≤ a' ∧ a' ≤ a + 2 := by
  obtain ⟨x, a', s', e, x0, x1, -, a0, a2⟩ := pick_ok hc a s (l.length : Int) h0 h1 (by omega)
  have := x1 (by omega)
  obtain ⟨i, rfl⟩ := Int.eq_ofNat_of_zero_le x0
  have hi : i < l.length := by omega
  refine ⟨rd l (i : Int), a', s', ?_, ?_, a0, a2⟩
  · unfold spec_l1Cur_among.f
    rw [e, Option.bind_some, if_pos x0, if_pos this]
  · rw [rd, Int.toNat_natCast, List.getD_eq_getElem?_getD, List.getElem?_eq_getElem hi]
    exact List.getElem_mem hi
theorem dtour_l1 (hc : Bytes code) (n : Nat) (hn : n ≤ 8) (od sz : Int) (hod : od ≤ 1000) (i : Nat) (hi : i < n) : ∀ (d j : Nat) (b : List Int) (a s : Int), j + d = n → b.length = n → 0 ≤ a → a + 2 * d ≤ 1152921504606846976 →
    ∃ b' a' s', b'.length = n ∧ 0 ≤ a' ∧ a' ≤ a + 2 * d ∧ ∀ y, Ev (fun k => spec_l1Cur_tournament.l0 k n od ((i + 1 : Nat) : Int) code a' s' sz b') y → Ev (fun k => spec_l1Cur_tournament.l1 k n od (i : Int) (j : Int) code a s sz b) y := by
  intro d
  induction d with
  | zero =>
    intro j b a s hj hb h0 h1
    refine ⟨b, a, s, hb, h0, by omega, fun y hy => Ev.step (fun k => by rw [spec_l1Cur_tournament.l1]) ?_⟩
    have p1 : ¬ (j : Int) < (n : Int) := by omega
    simp only [if_neg p1, wrap_nat i (show i < 9223372036854775807 by omega)]
    exact hy
  | succ d ih =>
    intro j b a s hj hb h0 h1
    obtain ⟨x, a1, s1, e, a0, a2⟩ := one_ok hc a s od h0 (by omega) (by omega)
    cases x with
    | true =>
      obtain ⟨b', a', s', q1, q2, q3, q4⟩ := ih (j + 1) (b.set (j : Int).toNat (Go.bits .or .i64 (rd b (j : Int)) (shl .i64 1 (i : Int)))) a1 s1 (by omega) (by rw [List.length_set]; exact hb) (by omega) (by omega)
      refine ⟨b', a', s', q1, q2, by omega, fun y hy => Ev.step (fun k => by rw [spec_l1Cur_tournament.l1]) ?_⟩
      have p1 : (j : Int) < (n : Int) := by omega
      have p2 : (0 : Int) ≤ (j : Int) := by omega
      have p3 : (j : Int) < (b.length : Int) := by omega
      have p4 : (0 : Int) ≤ (i : Int) := by omega
      simp only [if_pos p1, e, Option.bind_some, if_true, if_pos p2, if_pos p3, if_pos p4, wrap_nat j (show j < 9223372036854775807 by omega)]
      exact q4 y hy
    | false =>
      obtain ⟨b', a', s', q1, q2, q3, q4⟩ := ih (j + 1) (b.set (i : Int).toNat (Go.bits .or .i64 (rd b (i : Int)) (shl .i64 1 (j : Int)))) a1 s1 (by omega) (by rw [List.length_set]; exact hb) (by omega) (by omega)
      refine ⟨b', a', s', q1, q2, by omega, fun y hy => Ev.step (fun k => by rw [spec_l1Cur_tournament.l1]) ?_⟩
      have p1 : (j : Int) < (n : Int) := by omega
      have p2 : (0 : Int) ≤ (j : Int) := by omega
      have p3 : (i : Int) < (b.length : Int) := by omega
      have p4 : (0 : Int) ≤ (i : Int) := by omega
      simp only [if_pos p1, e, Option.bind_some, Bool.false_eq_true, if_false, if_pos p2, if_pos p3, if_pos p4, wrap_nat j (show j < 9223372036854775807 by omega)]
      exact q4 y hy
theorem dtour_end (hc : Bytes code) (n : Nat) (h1n : 1 ≤ n) (hn : n ≤ 8) (od sz : Int) (b : List Int) (a s : Int) (hb : b.length = n) (h0 : 0 ≤ a) (h1 : a ≤ 1152921504606846000) :
    ∃ sz' b' a' s', Ev (fun k => spec_l1Cur_tournament.l0 k n od (n : Int) code a s sz b) (sz', b', a', s') ∧ b'.length = n ∧ 0 ≤ a' ∧ a' ≤ a + 6 := by
  obtain ⟨x, a1, s1, e, x0, x1, -, a0, a2⟩ := pick_ok hc a s 24 h0 (by omega) (by omega)
  have nn : ¬ (n : Int) < (n : Int) := by omega
  by_cases e1 : x = 0
  · obtain ⟨y, a3, s3, f, y0, y1, -, b0, b2⟩ := pick_ok hc a1 s1 (n : Int) (by omega) (by omega) (by omega)
    obtain ⟨z, a4, s4, g, -, c0, c2⟩ := among_ok hc a3 s3 [(-1), 0, 1, 2, shl .i64 1 (n : Int)] (by simp) (by simp) (by omega) (by omega)
    have := y1 (by omega)
    refine ⟨sz, b.set y.toNat z, a4, s4, Ev.step (fun k => by rw [spec_l1Cur_tournament.l0]) ?_, by rw [List.length_set]; exact hb, by omega, by omega⟩
    simp only [if_neg nn, e, Option.bind_some, if_pos e1, f, if_pos (show (0 : Int) ≤ (n : Int) by omega), g, if_pos y0, if_pos (show y < (b.length : Int) by omega)]
    exact Ev.now _
  · by_cases e2 : x = 1
    · obtain ⟨z, a4, s4, g, -, c0, c2⟩ := among_ok hc a1 s1 [0, (-1), wrap64 ((n : Int) + 1), 9] (by simp) (by simp) (by omega) (by omega)
      refine ⟨z, b, a4, s4, Ev.step (fun k => by rw [spec_l1Cur_tournament.l0]) ?_, hb, by omega, by omega⟩
      simp only [if_neg nn, e, Option.bind_some, if_neg e1, if_pos e2, g]
      exact Ev.now _
    · refine ⟨sz, b, a1, s1, Ev.step (fun k => by rw [spec_l1Cur_tournament.l0]) ?_, hb, by omega, by omega⟩
      simp only [if_neg nn, e, Option.bind_some, if_neg e1, if_neg e2]
      exact Ev.now _
theorem dtour_l0 (hc : Bytes code) (n : Nat) (h1n : 1 ≤ n) (hn : n ≤ 8) (od sz : Int) (hod : od ≤ 1000) : ∀ (d i : Nat) (b : List Int) (a s : Int), i + d = n → b.length = n → 0 ≤ a → a + 16 * d ≤ 1152921504606846000 →
    ∃ sz' b' a' s', Ev (fun k => spec_l1Cur_tournament.l0 k n od (i : Int) code a s sz b) (sz', b', a', s') ∧ b'.length = n ∧ 0 ≤ a' ∧ a' ≤ a + 16 * d + 6 := by
  intro d
  induction d with
  | zero =>
    intro i b a s hi hb h0 h1
    obtain rfl : i = n := by omega
    obtain ⟨sz', b', a', s', q1, q2, q3, q4⟩ := dtour_end hc i h1n hn od sz b a s hb h0 (by omega)
    exact ⟨sz', b', a', s', q1, q2, q3, by omega⟩
  | succ d ih =>
    intro i b a s hi hb h0 h1
    obtain ⟨b1, a1, s1, q1, q2, q3, q4⟩ := dtour_l1 hc n hn od sz hod i (by omega) (n - (i + 1)) (i + 1) b a s (by omega) hb h0 (by omega)
    obtain ⟨sz', b', a', s', r1, r2, r3, r4⟩ := ih (i + 1) b1 a1 s1 (by omega) q1 q2 (by omega)
    refine ⟨sz', b', a', s', Ev.step (fun k => by rw [spec_l1Cur_tournament.l0]) ?_, r2, r3, by omega⟩
    have p1 : (i : Int) < (n : Int) := by omega
    simp only [if_pos p1, wrap_nat i (show i < 9223372036854775807 by omega)]
    exact q4 _ r1
theorem dtour_ok (hc : Bytes code) (a s : Int) (most : Nat) (hm : 1 ≤ most) (hm8 : most ≤ 8) (h0 : 0 ≤ a) (h1 : a ≤ 1048576) :
    ∃ sz b a' s', Ev (fun k => spec_l1Cur_tournament.f k code a s (most : Int)) (sz, b, a', s') ∧ 1 ≤ b.length ∧ b.length ≤ 8 ∧ 0 ≤ a' ∧ a' ≤ a + 200 := by
  obtain ⟨x, a1, s1, e, x0, x1, x2, a0, a2⟩ := pick_ok hc a s (most : Int) h0 (by omega) (by omega)
  have hx : x < 8 := by
    by_cases c : 1 ≤ (most : Int)
    · have := x1 c; omega
    · have := x2 (by omega); omega
  obtain ⟨m, rfl⟩ := Int.eq_ofNat_of_zero_le x0
  have hw : wrap64 (1 + (m : Int)) = ((m + 1 : Nat) : Int) := by rw [wrap_id (by omega) (by omega)]; omega
  obtain ⟨od, a3, s3, f, fm, b0, b2⟩ := among_ok hc a1 s1 [2, 2, 4] (by simp) (by simp) (by omega) (by omega)
  have hod : od ≤ 1000 := by simp at fm; omega
  obtain ⟨sz', b', a', s', q1, q2, q3, q4⟩ := dtour_l0 hc (m + 1) (by omega) (by omega) od ((m + 1 : Nat) : Int) hod (m + 1) 0 (List.replicate (m + 1) 0) a3 s3 (by omega) (by simp) (by omega) (by omega)
  refine ⟨sz', b', a', s', ?_, by omega, by omega, q3, by omega⟩
  have e0 : ((0 : Nat) : Int) = 0 := by simp
  rw [e0] at q1
  have e1 : (((m + 1 : Nat) : Int)).toNat = m + 1 := by simp
  have p1 : (0 : Int) ≤ ((m + 1 : Nat) : Int) := by omega
  have p3 : (((m + 1 : Nat) : Int)).toNat ≤ 35184372088832 := by rw [e1]; omega
  have key : ∀ k, spec_l1Cur_tournament.f k code a s (most : Int) = spec_l1Cur_tournament.l0 k ((m + 1 : Nat) : Int) od 0 code a3 s3 ((m + 1 : Nat) : Int) (List.replicate (m + 1) 0) := fun k => by
    unfold spec_l1Cur_tournament.f
    rw [e, Option.bind_some, hw, if_pos p1, if_pos p3, f, Option.bind_some, e1]
  rw [show (fun k => spec_l1Cur_tournament.f k code a s (most : Int)) = fun k => spec_l1Cur_tournament.l0 k ((m + 1 : Nat) : Int) od 0 code a3 s3 ((m + 1 : Nat) : Int) (List.replicate (m + 1) 0) from funext key]
  exact q1
end
section
variable {code : List Int}
theorem list_l0 (hc : Bytes code) (m : Int) (hm0 : 0 ≤ m) (hm : m ≤ 100) : ∀ (d : Nat) (L : List Int) (a s : Int), L.length + d ≤ 100 → (∀ x ∈ L, 0 ≤ x ∧ x ≤ 100) → 0 ≤ a → a + 2 * d ≤ 1152921504606846976 →
    ∃ r a' s', Ev (fun k => spec_l1Cur_list.l0 k m L (d : Int) code a s) (r, a', s') ∧ r.length = L.length + d ∧ (∀ x ∈ r, 0 ≤ x ∧ x ≤ 100) ∧ a ≤ a' ∧ a' ≤ a + 2 * d := by
  intro d
  induction d with
  | zero =>
    intro L a s hl hL h0 h1
    exact ⟨L, a, s, Ev.step (fun k => by rw [spec_l1Cur_list.l0, if_neg (by omega)]) (Ev.now _), by omega, hL, by omega, by omega⟩
  | succ d ih =>
    intro L a s hl hL h0 h1
    have e : wrap64 (m + 1) = m + 1 := by unfold wrap64; omega
    obtain ⟨x, a1, s1, e1, x0, x1, -, b0, b1⟩ := pick_ok hc a s (m + 1) h0 (by omega) (by omega)
    have hx := x1 (by omega)
    obtain ⟨r, a', s', h2, h3, h4, h5, h6⟩ := ih (L ++ [x]) a1 s1 (by simp; omega) (fun y hy => by
      rcases List.mem_append.1 hy with hy | hy
      · exact hL y hy
      · rw [List.mem_singleton.1 hy]; omega) (by omega) (by omega)
    refine ⟨r, a', s', Ev.step (fun k => ?_) h2, by rw [h3]; simp; omega, h4, by omega, by omega⟩
    have e2 : wrap64 (((d + 1 : Nat) : Int) - 1) = (d : Int) := by unfold wrap64; omega
    rw [spec_l1Cur_list.l0, if_pos (by omega), e, e1, Option.bind_some, if_pos (by omega), e2]
theorem list_ok (hc : Bytes code) (a s m : Int) (hm0 : 0 ≤ m) (hm : m ≤ 100) (h0 : 0 ≤ a) (h1 : a ≤ 1152921504606846000) :
    ∃ r a' s', Ev (fun k => spec_l1Cur_list.f k code a s m) (r, a', s') ∧ 1 ≤ r.length ∧ r.length ≤ 6 ∧ (∀ x ∈ r, 0 ≤ x ∧ x ≤ 100) ∧ a ≤ a' ∧ a' ≤ a + 14 := by
  obtain ⟨x, a1, s1, e1, x0, x1, -, b0, b1⟩ := pick_ok hc a s 6 h0 (by omega) (by omega)
  have hx := x1 (by omega)
  obtain ⟨d, hd⟩ : ∃ d : Nat, wrap64 (1 + x) = (d : Int) := ⟨(1 + x).toNat, by unfold wrap64; omega⟩
  have hd2 : (d : Int) = 1 + x := by rw [← hd]; unfold wrap64; omega
  obtain ⟨r, a', s', h2, h3, h4, h5, h6⟩ := list_l0 hc m hm0 hm d [] a1 s1 (by simp; omega) (by simp) (by omega) (by omega)
  have h3' : r.length = d := by simpa using h3
  refine ⟨r, a', s', ?_, by omega, by omega, h4, by omega, by omega⟩
  unfold spec_l1Cur_list.f
  simp only [e1, Option.bind_some, hd]
  exact h2
theorem any_l0 (hc : Bytes code) : ∀ (d : Nat) (L : List Int) (a s : Int), L.length + d = 9 → (∀ x ∈ L, -1 ≤ x ∧ x ≤ 100) → 0 ≤ a → a + 4 * d + 4 ≤ 1152921504606846976 →
    ∃ r a' s', Ev (fun k => spec_l1Cur_anyList.l0 k L code a s) (r, a', s') ∧ r.length ≤ 9 ∧ (∀ x ∈ r, -1 ≤ x ∧ x ≤ 100) ∧ a ≤ a' ∧ a' ≤ a + 4 * d + 4 := by
  intro d
  induction d with
  | zero =>
    intro L a s hl hL h0 h1
    obtain ⟨x, a1, s1, e1, x0, x1, -, b0, b1⟩ := pick_ok hc a s 2 h0 (by omega) (by omega)
    have hx := x1 (by omega)
    have e : wrap64 (8 + x) = 8 + x := by unfold wrap64; omega
    refine ⟨L, a1, s1, Ev.step (fun k => ?_) (Ev.now _), by omega, hL, by omega, by omega⟩
    rw [spec_l1Cur_anyList.l0, e1, Option.bind_some, e, if_neg (by omega)]
  | succ d ih =>
    intro L a s hl hL h0 h1
    obtain ⟨x, a1, s1, e1, x0, x1, -, b0, b1⟩ := pick_ok hc a s 2 h0 (by omega) (by omega)
    have hx := x1 (by omega)
    have e : wrap64 (8 + x) = 8 + x := by unfold wrap64; omega
    by_cases c : (L.length : Int) < 8 + x
    · obtain ⟨y, a2, s2, e2, y0, y1, -, c0, c1⟩ := pick_ok hc a1 s1 9 (by omega) (by omega) (by omega)
      have hy := y1 (by omega)
      obtain ⟨r, a', s', h2, h3, h4, h5, h6⟩ := ih (L ++ [y]) a2 s2 (by simp; omega) (fun z hz => by
        rcases List.mem_append.1 hz with hz | hz
        · exact hL z hz
        · rw [List.mem_singleton.1 hz]; omega) (by omega) (by omega)
      refine ⟨r, a', s', Ev.step (fun k => ?_) h2, h3, h4, by omega, by omega⟩
      rw [spec_l1Cur_anyList.l0, e1, Option.bind_some, e, if_pos c, e2, Option.bind_some, if_pos (by omega)]
    · refine ⟨L, a1, s1, Ev.step (fun k => ?_) (Ev.now _), by omega, hL, by omega, by omega⟩
      rw [spec_l1Cur_anyList.l0, e1, Option.bind_some, e, if_neg c]
theorem anyList_ok (hc : Bytes code) (a s m : Int) (hm0 : 0 ≤ m) (hm : m ≤ 100) (h0 : 0 ≤ a) (h1 : a ≤ 1152921504606846000) :
    ∃ r a' s', Ev (fun k => spec_l1Cur_anyList.f k code a s m) (r, a', s') ∧ r.length ≤ 9 ∧ (∀ x ∈ r, -1 ≤ x ∧ x ≤ 100) ∧ a ≤ a' ∧ a' ≤ a + 100 := by
  obtain ⟨L, a1, s1, e1, l1, l2, l3, l4, l5⟩ := list_ok hc a s m hm0 hm h0 h1
  obtain ⟨x, a2, s2, e2, x0, x1, -, b0, b1⟩ := pick_ok hc a1 s1 14 (by omega) (by omega) (by omega)
  have hL : ∀ x ∈ L, -1 ≤ x ∧ x ≤ 100 := fun x hx => by have := l3 x hx; omega
  unfold spec_l1Cur_anyList.f
  by_cases c0 : x = 0
  · obtain ⟨y, a3, s3, e3, y0, c1, c2⟩ := among_ok hc a2 s2 [(-1), 0, 60, 61] (by simp) (by simp) (by omega) (by omega)
    refine ⟨L ++ [y], a3, s3, Ev.bind e1 ?_, by simp; omega, fun z hz => ?_, by omega, by omega⟩
    · simp only [e2, Option.bind_some, if_pos c0, e3, if_pos (show L.length < 17592186044416 by omega)]
      exact Ev.now _
    · rcases List.mem_append.1 hz with hz | hz
      · exact hL z hz
      · rw [List.mem_singleton.1 hz]
        simp only [List.mem_cons, List.not_mem_nil, or_false] at y0
        omega
  · by_cases c1 : x = 1
    · obtain ⟨r, a', s', h2, h3, h4, h5, h6⟩ := any_l0 hc (9 - L.length) L a2 s2 (by omega) hL (by omega) (by omega)
      refine ⟨r, a', s', Ev.bind e1 ?_, h3, h4, by omega, by omega⟩
      simp only [e2, Option.bind_some, if_neg c0, if_pos c1]
      exact h2
    · by_cases c2 : x = 2
      · refine ⟨[], a2, s2, Ev.bind e1 ?_, by simp, by simp, by omega, by omega⟩
        simp only [e2, Option.bind_some, if_neg c0, if_neg c1, if_pos c2]
        exact Ev.now _
      · refine ⟨L, a2, s2, Ev.bind e1 ?_, by omega, hL, by omega, by omega⟩
        simp only [e2, Option.bind_some, if_neg c0, if_neg c1, if_neg c2]
        exact Ev.now _
theorem scores_ok (hc : Bytes code) (a s : Int) (most : Nat) (hm : 1 ≤ most) (hm8 : most ≤ 8) (h0 : 0 ≤ a) (h1 : a ≤ 1000000) :
    ∃ r a' s', Ev (fun k => spec_l1Cur_scores.f k code a s (most : Int)) (r, a', s') ∧ r.length ≤ 9 ∧ ∀ x ∈ r, -1000 ≤ x ∧ x ≤ 1000 := by
  obtain ⟨b, a1, s1, e1, b0, b1⟩ := one_ok hc a s 4 h0 (by omega) (by omega)
  unfold spec_l1Cur_scores.f
  simp only [e1, Option.bind_some]
  cases b with
  | true =>
    obtain ⟨r, a', s', h2, h3, h4, h5, h6⟩ := anyList_ok hc a1 s1 5 (by omega) (by omega) (by omega) (by omega)
    refine ⟨r, a', s', ?_, h3, fun x hx => by have := h4 x hx; omega⟩
    simp only [if_true]
    exact Ev.bind h2 (Ev.now _)
  | false =>
    simp only [Bool.false_eq_true, if_false]
    obtain ⟨sz, B, a2, s2, e2, B1, B8, c0, c1⟩ := dtour_ok hc a1 s1 most hm hm8 (by omega) (by omega)
    obtain ⟨g, hg, hgg⟩ := (scGood_f sz B (by simp only [BM]; omega)).ev
    cases g with
    | false =>
      obtain ⟨r, a', s', h2, h3, h4, h5, h6, h7⟩ := list_ok hc a2 s2 4 (by omega) (by omega) (by omega) (by omega)
      refine ⟨r, a', s', Ev.bind e2 (Ev.bind hg ?_), by omega, fun x hx => by have := h5 x hx; omega⟩
      simp only [Bool.false_eq_true, if_false]
      exact Ev.bind h2 (Ev.now _)
    | true =>
      obtain ⟨n, ns, rfl, rfl, hT⟩ := hgg.1 rfl
      have hS := hT.1.1
      have hn1 := hS.n1
      have hn8 := hS.n8
      have hlen : (ints (ns.map pop)).length = n := by rw [ints_length, List.length_map, hS.len]
      have hsm : ∀ x ∈ ints (ns.map pop), 0 ≤ x ∧ x ≤ 8 := by
        intro x hx
        obtain ⟨y, hy, rfl⟩ := List.mem_map.1 hx
        obtain ⟨z, hz, rfl⟩ := List.mem_map.1 hy
        have := pop_le8 z
        omega
      obtain ⟨q, a3, s3, e3, d0, d1⟩ := one_ok hc a2 s2 5 c0 (by omega) (by omega)
      cases q with
      | false =>
        refine ⟨ints (ns.map pop), a3, s3, Ev.bind e2 (Ev.bind hg ?_), by omega, fun x hx => by have := hsm x hx; omega⟩
        simp only [if_true]
        refine Ev.bind (scScores_k hS) ?_
        simp only [e3, Option.bind_some, Bool.false_eq_true, if_false]
        exact Ev.now _
      | true =>
        obtain ⟨j, a4, s4, e4, j0, j1, -, f0, f1⟩ := pick_ok hc a3 s3 ((ints (ns.map pop)).length : Int) (by omega) (by omega) (by omega)
        have hj := j1 (by omega)
        have hr0 : 0 ≤ rd (ints (ns.map pop)) 0 ∧ rd (ints (ns.map pop)) 0 ≤ 8 := by
          unfold rd
          rw [List.getD_eq_getElem?_getD, List.getElem?_eq_getElem (show (0 : Int).toNat < (ints (ns.map pop)).length by show 0 < _; omega)]
          exact hsm _ (List.getElem_mem _)
        have hrj : 0 ≤ rd (ints (ns.map pop)) j ∧ rd (ints (ns.map pop)) j ≤ 8 := by
          unfold rd
          rw [List.getD_eq_getElem?_getD, List.getElem?_eq_getElem (show j.toNat < (ints (ns.map pop)).length by omega)]
          exact hsm _ (List.getElem_mem _)
        obtain ⟨y, a5, s5, e5, y0, i0, i1⟩ := among_ok hc a4 s4 [1, 1, wrap64 (-(rd (ints (ns.map pop)) 0))] (by simp) (by simp) (by omega) (by omega)
        have hy : -8 ≤ y ∧ y ≤ 1 := by
          have e : wrap64 (-(rd (ints (ns.map pop)) 0)) = -(rd (ints (ns.map pop)) 0) := by unfold wrap64; omega
          rw [e] at y0
          simp only [List.mem_cons, List.not_mem_nil, or_false] at y0
          omega
        refine ⟨(ints (ns.map pop)).set j.toNat (wrap64 (rd (ints (ns.map pop)) j + y)), a5, s5, Ev.bind e2 (Ev.bind hg ?_), by rw [List.length_set]; omega, fun x hx => ?_⟩
        · simp only [if_true]
          refine Ev.bind (scScores_k hS) ?_
          simp only [e3, Option.bind_some, if_true, e4, if_pos j0, if_pos hj, if_pos (show (0 : Int) < ((ints (ns.map pop)).length : Int) by omega), e5]
          exact Ev.now _
        · have e : wrap64 (rd (ints (ns.map pop)) j + y) = rd (ints (ns.map pop)) j + y := by unfold wrap64; omega
          rcases List.mem_or_eq_of_mem_set hx with hx | hx
          · have := hsm x hx; omega
          · rw [hx, e]; omega
end
theorem ySame_l0 (l : List Int) (h : l.length ≤ BM) : ∀ d i : Nat, i + d = l.length → Ev (fun k => laws_ySame.l0 k l l (l.length : Int) (i : Int)) true := by
  intro d
  induction d with
  | zero =>
    intro i hi
    refine Ev.step (fun k => by rw [laws_ySame.l0]) ?_
    have p1 : ¬ (i : Int) < (l.length : Int) := by omega
    simp only [if_neg p1]
    exact Ev.now _
  | succ d ih =>
    intro i hi
    refine Ev.step (fun k => by rw [laws_ySame.l0]) ?_
    have p1 : (i : Int) < (l.length : Int) := by omega
    have p2 : (0 : Int) ≤ (i : Int) := by omega
    simp only [BM] at h
    simp only [if_pos p1, if_pos p2, if_true, wrap_nat i (show i < 9223372036854775807 by omega)]
    exact ih (i + 1) (by omega)
theorem ySame_same (l : List Int) (h : l.length ≤ BM) : Ev (fun k => laws_ySame.f k l l) true := by
  unfold laws_ySame.f
  simp only [if_true]
  exact ySame_l0 l h l.length 0 (by omega)
theorem big_f {a b : List Int} (ha : ¬ a.length > 1048576) : laws_big.f a b = some (decide (a.length + b.length > 1048576)) := by
  unfold laws_big.f
  rw [if_neg (by omega), wrap_id (by omega) (by omega)]
  congr 1
  by_cases h : a.length + b.length > 1048576
  · rw [decide_eq_true h, decide_eq_true (by omega)]
  · rw [decide_eq_false h, decide_eq_false (by omega)]
end Go.Proofs.Ytcheoendfcgjgaa.K
namespace Go.Proofs.Ytcheoendfcgjgaa.Pure
open Go.RowKit Go.Proofs.YtcheoendfcgjgaaW.PrintWords Go.Proofs.Ytcheoendfcgjgaa.P Go.Proofs.Ytcheoendfcgjgaa.K
theorem yTour_same (n : Int) (l : List Int) (h : l.length ≤ BM) : Ev (fun k => laws_yTournament.f k n l n l) true := by
  unfold laws_yTournament.f
  simp only [if_true]
  exact Ev.bind (ySame_same l h) (Ev.now _)
theorem FnTournamentsBuilt : laws_FnTournamentsBuilt.Pure := by
  intro l0 l1 h0 h0z hw0 h1 h1z hw1
  refine Ev.rounds (g := fun k => laws_FnTournamentsBuilt.f k l0 l1) ?_
  unfold laws_FnTournamentsBuilt.f
  by_cases hb0 : l0.length > 1048576
  · have e : laws_big.f l0 l1 = some true := by unfold laws_big.f; rw [if_pos (by omega)]
    simp only [e, Option.bind_some, if_true]
    exact Ev.now _
  · rw [big_f hb0]
    simp only [Option.bind_some]
    refine Ev.ite (fun _ => Ev.now _) (fun h => ?_)
    have hl0 : l0.length ≤ 1048576 := by omega
    obtain ⟨a, a', s', hd, hal, hab⟩ := scores_ok (bytes_of hl0 hw0) 0 0 8 (by omega) (by omega) (by omega) (by omega)
    have hdraw : Ev (fun k => spec_DrawBuildTournament.f k l0) a := by
      unfold spec_DrawBuildTournament.f spec_DrawRefusingScores.f
      exact Ev.bind (Ev.bind hd (Ev.now _)) (Ev.now _)
    have haB : a.length ≤ BM := by simp only [BM]; omega
    obtain ⟨r1, b1, b2, b3, b4⟩ := buildT_full a haB
    obtain ⟨r2, c1, c2, c3⟩ := refSK_ans a haB
    obtain ⟨r3, d1, d2⟩ := areSK_ans a haB
    obtain ⟨r4, e1, e2, e3⟩ := ccK_ans a haB
    have hI := IsList_f a haB
    have hml : r1.2.1.length ≤ BM := by simp only [BM]; omega
    refine Ev.bind hdraw (Ev.bind b2 (Ev.bind b1 (Ev.bind c2 (Ev.bind c1 (Ev.bind d1 (Ev.bind e2 (Ev.bind e1 ?_)))))))
    simp only [bne_self_eq_false, Bool.false_eq_true, if_false]
    refine Ev.bind (yTour_same _ _ hml) ?_
    simp only [if_true]
    by_cases hl : isList a = true
    · rw [if_pos hl] at d2
      by_cases hr : refS a = 0
      · rw [if_pos ⟨hl, hr⟩] at b4 e3
        rw [if_neg (fun h => h.2 hr)] at c3
        subst b4 c3 d2 e3
        obtain ⟨hT, hs⟩ := built_tour hl hr
        obtain ⟨ns, hns⟩ : ∃ ns, ns = btGo a.length a (List.replicate a.length 0) (List.range a.length) := ⟨_, rfl⟩
        rw [← hns] at hT hs ⊢
        have hcc := circles_count hT
        rw [hs] at hcc
        rw [hl] at hI
        have x1 : (refS a == 0) = true := by rw [hr]; rfl
        simp only [x1, if_true, bne_self_eq_false, Bool.false_eq_true, if_false]
        refine Ev.bind hI ?_
        simp only [bne_self_eq_false, Bool.false_eq_true, if_false, if_true, show (true == false) = false from rfl]
        refine Ev.step (f := fun k => (impl_ScoresOf.f k (a.length : Int) (ints ns)).bind fun bt400 => ((impl_CirclesOf.f k (a.length : Int) (ints ns)).bind fun bt404 => (if bt400.2 = true then ((laws_ySame.f k bt400.1 a).bind fun t408 => (if t408 = true then ((impl_IsTournament.f k (a.length : Int) (ints ns)).bind fun t409 => (if t409 = true then (if bt404.2 = true then (some ((bt404.1.length : Int) == (ccK (wrap64 (Int.tdiv (wrap64 ((wrap64 ((a.length : Int) * (wrap64 ((a.length : Int) - 1)))) * (wrap64 ((a.length : Int) - 2)))) 6)) a))) else (some false)) else (some false))) else (some false))) else (some false)))) (fun k => by rw [laws_FnTournamentsBuilt.j0, if_neg (by decide), if_pos rfl]) ?_
        refine Ev.bind (scoresOf_k hT) (Ev.bind (circlesOf_k hT) ?_)
        simp only [if_true]
        rw [hs]
        refine Ev.bind (ySame_same a haB) ?_
        simp only [if_true]
        refine Ev.bind (isTour_k hT) ?_
        simp only [if_true]
        have e : (((intsS (cirs a.length ns)).length : Int) == (ccK (wrap64 (Int.tdiv (wrap64 ((wrap64 ((a.length : Int) * (wrap64 ((a.length : Int) - 1)))) * (wrap64 ((a.length : Int) - 2)))) 6)) a)) = true := by
          rw [intsS_length, hcc]; exact beq_self_eq_true _
        rw [e]
        exact Ev.now _
      · rw [if_neg (fun h => hr h.2)] at b4 e3
        rw [if_pos ⟨hl, hr⟩] at c3
        subst b4 c3 d2 e3
        rw [hl] at hI
        have x1 : (refS a == 0) = false := by simpa using hr
        simp only [x1, if_true, bne_self_eq_false, Bool.false_eq_true, if_false]
        refine Ev.bind hI ?_
        simp only [bne_self_eq_false, Bool.false_eq_true, if_false, if_true, show (false == true) = false from rfl]
        exact Ev.step (fun k => by rw [laws_FnTournamentsBuilt.j0, if_neg (by decide), if_neg (by decide)]) (Ev.now _)
    · have hl : isList a = false := by simpa using hl
      rw [if_neg (by rw [hl]; decide)] at d2
      rw [if_neg (fun h => by rw [hl] at h; cases h.1)] at b4 e3 c3
      subst b4 c3 d2 e3
      rw [hl] at hI
      simp only [if_true, bne_self_eq_false, Bool.false_eq_true, if_false]
      refine Ev.bind hI ?_
      simp only [bne_self_eq_false, Bool.false_eq_true, if_false, if_true]
      exact Ev.step (fun k => by rw [laws_FnTournamentsBuilt.j0, if_neg (by decide), if_neg (by decide)]) (Ev.now _)
end Go.Proofs.Ytcheoendfcgjgaa.Pure
namespace Go.Proofs.Ytcheoendfcgjgaa.fnTournamentsBuilt
open Go.ChangeShapes Go.WideShapes Go.ChangeAt Go.RowKit
open Go.ChangeMaps (open_string shut_string)
theorem own : ownKnob Try.prog.godebug = none := by kernel_rfl
theorem laidOut : laidOutB Try.prog = true := by kernel_rfl
def IsRow (k : IntKind) (w : World) (a : Option Addr) (len cap : Nat) (zs : List Int) : Prop :=
  (a = none ∧ len = 0 ∧ cap = 0 ∧ zs = []) ∨
  ∃ x, a = some x ∧ len ≤ cap ∧ cap ≤ maxLen ∧ zs.length = cap ∧ (∀ i, i < zs.length → w.cell? (x.add i) = some (.int k (zs.getD i 0))) ∧ ∀ n ∈ zs, (Lit.int k n).wf = true
set_option maxRecDepth 100000 in
theorem lifted (os : Os) (started : os.Started) (H : Type) (enc : TypeId × Value → H) :
    ReturnsInHanded {} Try.checked os 3 .any (Rows.fnTournamentsBuiltSpec.pre6 enc Try.prog Try.f3 Rows.fnTournamentsBuiltRow.domain false) (Rows.fnTournamentsBuiltSpec.post enc Try.prog Try.f3 false true false false) := by
  refine returnsInHanded_of_change_sized (C := Try.checked) own started (by kernel_rfl) Try.func3
    (ChangeSpec.witness6 (enc := enc) (C := Try.checked) false ⟨#[], #[.slice none 0 0, .slice none 0 0], []⟩ 8 (by kernel_rfl) (by kernel_rfl) (by kernel_rfl) (by kernel_rfl)) ?_
  intro W base args ds gs before hval0 hW hcnd hsz0 _
  have hsz : (DataW.weightsEach Try.prog (Try.f3.params.toList ++ Rows.fnTournamentsBuiltSpec.plain.varTypes Try.prog) (ds ++ gs)).all (· ≤ reachBytes) = true := hsz0
  have hval : ∀ (j : Nat) t v, Try.f3.params[j]? = some t → args[j]? = some v → Value.okWide Try.prog W .any base t v := hval0
  have hW' := hW
  obtain ⟨p, q, hA0, hV, rfl, hfz, hnd⟩ := hW
  have hA : DataW.TrodAll enc Try.prog W 0 (fun _ => true) true Try.f3.params.toList args.toList ds p := hA0
  rw [Try.params3] at hA hval hsz
  obtain ⟨v0, vs0, d0, ds0, p0, q0, hargs, rfl, rfl, h0, r0⟩ := trodAll_cons hA
  obtain ⟨v1, vs1, d1, ds1, p1, q1, rfl, rfl, rfl, h1, r1⟩ := trodAll_cons r0
  obtain ⟨rfl, rfl, rfl⟩ := trodAll_nil r1
  obtain rfl : args = #[v0, v1] := by cases args; simp_all
  obtain ⟨rfl, rfl⟩ := trodVars_none hV
  obtain ⟨a0, len0, cap0, rfl⟩ := okWide_slice Try.underlying22 (hval 0 22 v0 rfl rfl)
  have k0 := h0
  have lt0 : ∀ x ∈ p0, x.block < W.heap.size := by obtain ⟨m, hm⟩ := k0; exact DataW.trod_lt m _ _ _ hm
  obtain ⟨z0, w0⟩ : ∃ zs, IsRow .u8 W a0 len0 cap0 zs := by
    obtain ⟨fuel, hf⟩ := h0
    rcases open_ints Try.underlying22 Try.underlying5 (by kernel_rfl) hf with ⟨hcs, _⟩ | ⟨x, l, c, zs, hcs, _, hl, hm, hz, _, hcell, hwz⟩
    · simp [Value.cells] at hcs
      obtain ⟨rfl, rfl, rfl⟩ := hcs
      exact ⟨[], .inl ⟨rfl, rfl, rfl, rfl⟩⟩
    · simp [Value.cells] at hcs
      obtain ⟨rfl, rfl, rfl⟩ := hcs
      exact ⟨zs, .inr ⟨_, rfl, hl, hm, by simpa using hz, hcell, hwz⟩⟩
  have y0 : len0 * 1 ≤ 140737488351232 := Go.Proofs.YtcheoendfcgjgaaW.PrintWords.sized_ints hsz (j := 0) (t := 22) rfl rfl Try.underlying22 Try.underlying5 (by kernel_rfl) (by kernel_rfl) h0
  obtain ⟨a1, len1, cap1, rfl⟩ := okWide_slice Try.underlying22 (hval 1 22 v1 rfl rfl)
  have k1 := h1
  have lt1 : ∀ x ∈ p1, x.block < W.heap.size := by obtain ⟨m, hm⟩ := k1; exact DataW.trod_lt m _ _ _ hm
  obtain ⟨z1, w1⟩ : ∃ zs, IsRow .u8 W a1 len1 cap1 zs := by
    obtain ⟨fuel, hf⟩ := h1
    rcases open_ints Try.underlying22 Try.underlying5 (by kernel_rfl) hf with ⟨hcs, _⟩ | ⟨x, l, c, zs, hcs, _, hl, hm, hz, _, hcell, hwz⟩
    · simp [Value.cells] at hcs
      obtain ⟨rfl, rfl, rfl⟩ := hcs
      exact ⟨[], .inl ⟨rfl, rfl, rfl, rfl⟩⟩
    · simp [Value.cells] at hcs
      obtain ⟨rfl, rfl, rfl⟩ := hcs
      exact ⟨zs, .inr ⟨_, rfl, hl, hm, by simpa using hz, hcell, hwz⟩⟩
  have y1 : len1 * 1 ≤ 140737488351232 := Go.Proofs.YtcheoendfcgjgaaW.PrintWords.sized_ints hsz (j := 1) (t := 22) rfl rfl Try.underlying22 Try.underlying5 (by kernel_rfl) (by kernel_rfl) h1
  clear hA0 hval0 hsz0 hsz
  refine (P.laws_FnTournamentsBuilt.walk Pure.FnTournamentsBuilt a0 len0 cap0 z0 a1 len1 cap1 z1 W w0 y0 w1 y1).mono fun e W' ⟨he, bel⟩ => ?_
  subst he
  exact ⟨_, rfl, _, _, _, [], _, [], hW', trodAll_mk1 (shut_bool Try.underlying4 _), (trodAll_cons_mk (Below.trod laidOut (by kernel_rfl) (of_decide_eq_true (by kernel_rfl)) k0 bel lt0) (trodAll_cons_mk (Below.trod laidOut (by kernel_rfl) (of_decide_eq_true (by kernel_rfl)) k1 bel lt1) trodAll_mk0)), rfl, bel.frame _, fun h => by cases h⟩
set_option maxHeartbeats 4000000 in
theorem joined : joinedFacts Try.prog 3 Try.f3 Rows.fnTournamentsBuiltSpec Rows.fnTournamentsBuiltRow = true := by
  unfold joinedFacts
  repeat' (with_reducible refine (Bool.and_eq_true _ _).mpr ⟨?_, ?_⟩)
  all_goals first
    | (with_reducible exact Head.mayEnter)
    | ((with_reducible rw [Head.lifts]); rfl)
    | ((with_reducible rw [Head.make]); rfl)
    | (as_aux_lemma => kernel_rfl)
theorem over : Rows.fnTournamentsBuiltRow.holds Try.pinned (OpenSpec.ofChange Rows.fnTournamentsBuiltSpec) :=
  OpenClaim.holds_of_wide 3 Try.f3 rfl rfl rfl rfl rfl rfl rfl ⟨rfl, rfl, rfl, rfl, rfl⟩ rfl rfl rfl rfl rfl (by kernel_rfl) Try.func3 joined
    (of_decide_eq_true (by kernel_rfl)) (by unfold Func.isWrapper; first | (rw [if_pos (by decide +kernel)]; kernel_rfl) | (rw [if_neg (by decide +kernel)]; exact ⟨rfl, rfl⟩))
    (fun os started H enc _ => lifted os started H enc)
theorem proved : Rows.FnTournamentsBuiltSaid := over
#print axioms proved
end Go.Proofs.Ytcheoendfcgjgaa.fnTournamentsBuilt
namespace Go.Proofs.Ytcheoendfcgjgaa
theorem fnTournamentsBuilt_holds : Rows.FnTournamentsBuiltSaid := fnTournamentsBuilt.proved
end Go.Proofs.Ytcheoendfcgjgaa
