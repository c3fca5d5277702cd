/- The row of the law FnGraphsBuilt: contracts and plain lemmas for the law FnGraphsBuilt, part 7 of 7 (what the Go functions answer). -/
import Derived.ProofKit
import Derived.OpenShut
import Derived.Deep.Matrix
import Derived.Lib.SmallJoins
import Derived.Test.YtcheoendfcgjgaaDoorRows
import Derived.Test.YtcheoendfcgjgaaDoorCards
import Derived.Test.YtcheoendfcgjgaaDoorTie
import Derived.Deep.DeepHandedRow
import Derived.Lib.LaidTab
import Derived.Stop.LaidErr
import Derived.WalkKit
import Derived.ShutString
import Derived.ChangeOld
import Derived.Below
import Derived.SizedLaws
import Derived.Test.YtcheoendfcgjgaaDoorCFnGraphsBuilta
import Derived.Test.YtcheoendfcgjgaaDoorCFnGraphsBuiltb
import Derived.Test.YtcheoendfcgjgaaDoorCFnGraphsBuiltc
import Derived.Test.YtcheoendfcgjgaaDoorCFnGraphsBuiltd
import Derived.Test.YtcheoendfcgjgaaDoorCFnGraphsBuilte
import Derived.Test.YtcheoendfcgjgaaDoorCFnGraphsBuiltf
set_option linter.unusedVariables false
set_option linter.unusedSimpArgs false
namespace Go.Proofs.YtcheoendfcgjgaaDoor.K
open Go.RowKit Go.Proofs.YtcheoendfcgjgaaDoorW.PrintWords Go.Proofs.YtcheoendfcgjgaaDoorW.PrintMore Go.Proofs.YtcheoendfcgjgaaDoor.P
theorem bool_swap : ∀ p q r s : Bool, (p && q || r && s) = (s && r || q && p) := by decide
theorem bg_step {n : Nat} (h8 : n ≤ 8) {d : Nat} {nd : List Int} {ns : List Nat} (hl : nd.length = n) (hS : Sets n ns) (hB : ∀ x, 0 ≤ nd.getD x 0 ∧ nd.getD x 0 ≤ 60) (hZ : ∀ a b, 0 < nd.getD a 0 → 0 < nd.getD b 0 → nb ns a b = false) (hok : okG (d + 1) (rankL nd) = true) (hany : nd.any (fun x => decide (0 < x)) = true) :
    ∃ i pk nd', i < n ∧ pk.Nodup ∧ i ∉ pk ∧ (∀ x ∈ pk, x < n) ∧ (∀ x ∈ pk, nb ns i x = false ∧ nb ns x i = false) ∧ (pk.length : Int) = nd.getD i 0 ∧ (bgOrd nd).headD 0 = i ∧ bgPick nd = pk ∧ bgNext nd = nd' ∧ nd'.length = n ∧ (∀ x, nd'.getD x 0 = if x = i then 0 else if x ∈ pk then nd.getD x 0 - 1 else nd.getD x 0) ∧ Sets n (joinAll i pk ns) ∧
      (∀ a b, nb (joinAll i pk ns) a b = (nb ns a b || ((decide (a = i) && decide (b ∈ pk)) || (decide (a ∈ pk) && decide (b = i))))) ∧ (∀ x, 0 ≤ nd'.getD x 0 ∧ nd'.getD x 0 ≤ 60) ∧ (∀ a b, 0 < nd'.getD a 0 → 0 < nd'.getD b 0 → nb (joinAll i pk ns) a b = false) ∧ okG d (rankL nd') = true := by
  obtain ⟨p, hp, hpp⟩ := (any_pos nd).1 hany
  have hperm := bgOrd_perm nd
  have hsort := bgOrd_sorted nd
  have hNo : (bgOrd nd).Nodup := hperm.nodup_iff.2 List.nodup_range
  have hmo : ∀ x, x ∈ bgOrd nd ↔ x < n := fun x => by rw [hperm.mem_iff, List.mem_range, hl]
  have hne : bgOrd nd ≠ [] := fun e => by have := (hmo p).2 (by omega); rw [e] at this; cases this
  obtain ⟨i, R, ho⟩ := List.exists_cons_of_ne_nil hne
  obtain ⟨M, hM⟩ : ∃ M, M = nd.getD i 0 := ⟨_, rfl⟩
  have hin : i < n := (hmo i).1 (by rw [ho]; exact List.mem_cons_self)
  rw [ho] at hsort hNo hmo hperm
  obtain ⟨s1, s2⟩ := List.pairwise_cons.1 hsort
  obtain ⟨d1, d2⟩ := List.nodup_cons.1 hNo
  have hMpos : 0 < M := by
    rcases List.mem_cons.1 ((hmo p).2 (by omega)) with rfl | q
    · omega
    · have := s1 p q; unfold fore at this; omega
  have hM60 : M ≤ 60 := by rw [hM]; exact (hB i).2
  -- the needs that fall
  have hrank : rankL nd = M :: R.map fun x => nd.getD x 0 := by
    refine (rankL_unique ?_ ?_).symm
    · have := hperm.map (fun x => nd.getD x 0)
      rw [map_getD, List.map_cons, ← hM] at this
      exact this
    · rw [hM, ← List.map_cons (f := fun x => nd.getD x 0), List.pairwise_map]
      exact hsort.imp (fun h => by unfold fore at h; omega)
  rw [hrank, okG] at hok
  simp only [if_pos hMpos, Bool.and_eq_true, decide_eq_true_eq, List.length_map, List.all_eq_true] at hok
  obtain ⟨⟨k1, k2⟩, k3⟩ := hok
  obtain ⟨pk, hpk⟩ : ∃ pk, pk = R.take M.toNat := ⟨_, rfl⟩
  have hpos : ∀ x ∈ pk, 0 < nd.getD x 0 := fun x hx => by
    have := k2 (nd.getD x 0) (by rw [← List.map_take, ← hpk]; exact List.mem_map.2 ⟨x, hx, rfl⟩)
    exact this
  have hpkR : ∀ x ∈ pk, x ∈ R := fun x hx => List.mem_of_mem_take (hpk ▸ hx)
  have hRn : ∀ x ∈ R, x < n := fun x hx => (hmo x).1 (List.mem_cons_of_mem _ hx)
  have hpkN : pk.Nodup := by rw [hpk]; exact d2.sublist (List.take_sublist _ _)
  have hipk : i ∉ pk := fun h => d1 (hpkR i h)
  have hRlen : R.length + 1 = n := by have := hperm.length_eq; rw [List.length_cons, List.length_range, hl] at this; exact this
  have hhead : (bgOrd nd).headD 0 = i := by rw [ho]; rfl
  have hpick : bgPick nd = pk := by unfold bgPick; rw [hhead, ho, hpk, ← hM]; rfl
  -- the next needs
  obtain ⟨e1, e2⟩ := decN_char pk (nd.set i 0) hpkN (fun x hx => by rw [List.length_set, hl]; exact hRn x (hpkR x hx))
  obtain ⟨f1, f2⟩ := decN_char pk nd hpkN (fun x hx => by rw [hl]; exact hRn x (hpkR x hx))
  have hnext : bgNext nd = decN pk (nd.set i 0) := by
    unfold bgNext
    rw [hhead, hpick]
    refine getD_extG (by rw [List.length_set, f1, e1, List.length_set]) (fun x => ?_)
    rw [getD_setG _ _ _ _ (by rw [f1, hl]; exact hin), e2, f2, getD_setG _ _ _ _ (by omega)]
    by_cases c : x = i
    · subst c; rw [if_pos rfl, if_neg hipk, if_pos rfl]
    · simp only [if_neg c]
  obtain ⟨nd', hnd'⟩ : ∃ nd', nd' = decN pk (nd.set i 0) := ⟨_, rfl⟩
  have g2 : ∀ x, nd'.getD x 0 = if x = i then 0 else if x ∈ pk then nd.getD x 0 - 1 else nd.getD x 0 := fun x => by
    rw [hnd', e2, getD_setG _ _ _ _ (by omega)]
    by_cases c : x = i
    · subst c; rw [if_neg hipk, if_pos rfl, if_pos rfl]
    · simp only [if_neg c]
  have hl' : nd'.length = n := by rw [hnd', e1, List.length_set, hl]
  -- the next graph
  have hz : ∀ x ∈ pk, nb ns i x = false ∧ nb ns x i = false := fun x hx => ⟨hZ i x (by omega) (hpos x hx), hZ x i (hpos x hx) (by omega)⟩
  obtain ⟨j1, j2⟩ := joinAll_char i hin pk ns hpkN hipk (fun x hx => hRn x (hpkR x hx)) hS hz
  have hB' : ∀ x, 0 ≤ nd'.getD x 0 ∧ nd'.getD x 0 ≤ 60 := fun x => by
    rw [g2]
    have := hB x
    by_cases c : x = i
    · rw [if_pos c]; omega
    · rw [if_neg c]
      by_cases c2 : x ∈ pk
      · rw [if_pos c2]; have := hpos x c2; omega
      · rw [if_neg c2]; exact this
  have hle : ∀ x, 0 < nd'.getD x 0 → x ≠ i ∧ 0 < nd.getD x 0 := fun x hx => by
    rw [g2] at hx
    by_cases c : x = i
    · rw [if_pos c] at hx; omega
    · rw [if_neg c] at hx
      refine ⟨c, ?_⟩
      by_cases c2 : x ∈ pk
      · exact hpos x c2
      · rw [if_neg c2] at hx; exact hx
  refine ⟨i, pk, nd', hin, hpkN, hipk, fun x hx => hRn x (hpkR x hx), hz, by rw [← hM, hpk, List.length_take]; omega, hhead, hpick, hnext.trans hnd'.symm, hl', g2, j1, j2, hB', fun a b ha hb => ?_, ?_⟩
  · obtain ⟨a1, a2⟩ := hle a ha
    obtain ⟨b1, b2⟩ := hle b hb
    rw [j2, hZ a b a2 b2]; simp [a1, b1]
  · rw [← k3]
    congr 1
    apply rankL_congr
    have q1 : nd'.Perm ((i :: R).map fun x => nd'.getD x 0) := by
      have := (hperm.map (fun x => nd'.getD x 0)).symm
      rw [hl, ← hl', map_getD] at this
      exact this
    refine q1.trans (List.Perm.of_eq ?_)
    have q2 : (R.map fun x => nd'.getD x 0) = ((R.take M.toNat) ++ (R.drop M.toNat)).map fun x => nd'.getD x 0 := by rw [List.take_append_drop]
    rw [List.map_cons, q2, List.map_append, ← List.map_take, ← List.map_drop, List.map_map]
    congr 1
    · rw [g2, if_pos rfl]
    · congr 1
      · apply List.map_congr_left
        intro x hx
        rw [g2, if_neg (fun (e : x = i) => d1 (e ▸ List.mem_of_mem_take hx)), if_pos (by rw [hpk]; exact hx)]
        rfl
      · apply List.map_congr_left
        intro x hx
        rw [g2, if_neg (fun (e : x = i) => d1 (e ▸ List.mem_of_mem_drop hx)), if_neg]
        intro q
        have hN2 := d2
        rw [← List.take_append_drop M.toNat R, List.nodup_append] at hN2
        exact hN2.2.2 x (hpk ▸ q) x hx rfl
theorem bg_inv {n : Nat} (h8 : n ≤ 8) : ∀ d (nd : List Int) (ns : List Nat), nd.length = n → Sets n ns → (∀ x, 0 ≤ nd.getD x 0 ∧ nd.getD x 0 ≤ 60) → (∀ a b, 0 < nd.getD a 0 → 0 < nd.getD b 0 → nb ns a b = false) → okG d (rankL nd) = true → (∀ a b, nb ns a b = nb ns b a) → (∀ a, nb ns a a = false) →
    Sets n (bgGo d nd ns) ∧ (∀ a b, nb (bgGo d nd ns) a b = nb (bgGo d nd ns) b a) ∧ (∀ a, nb (bgGo d nd ns) a a = false) ∧ ∀ x, x < n → (wins n (bgGo d nd ns) x : Int) = wins n ns x + nd.getD x 0 := by
  have fin : ∀ (nd : List Int) (ns : List Nat), nd.length = n → (∀ x, 0 ≤ nd.getD x 0 ∧ nd.getD x 0 ≤ 60) → nd.any (fun x => decide (0 < x)) = false → ∀ x, x < n → (wins n ns x : Int) = wins n ns x + nd.getD x 0 := by
    intro nd ns hl hB hno x hx
    have h0 : ¬ 0 < nd.getD x 0 := fun h => by
      have := (any_pos nd).2 ⟨x, by omega, h⟩
      rw [hno] at this; cases this
    have := hB x
    omega
  intro d
  induction d with
  | zero =>
    intro nd ns hl hS hB hZ hok hsy hir
    have hno : nd.any (fun x => decide (0 < x)) = false := by
      rw [Bool.eq_false_iff]
      intro h
      obtain ⟨x, hx, hp⟩ := (any_pos nd).1 h
      rw [okG, List.all_eq_true] at hok
      have hm : nd.getD x 0 ∈ nd := by rw [List.getD_eq_getElem?_getD, List.getElem?_eq_getElem hx]; exact List.getElem_mem hx
      have := hok _ (rankL_mem.2 hm)
      simp only [decide_eq_true_eq] at this
      omega
    exact ⟨hS, hsy, hir, fin nd ns hl hB hno⟩
  | succ d ih =>
    intro nd ns hl hS hB hZ hok hsy hir
    cases hany : nd.any (fun x => decide (0 < x)) with
    | false => rw [bgGo, hany]; exact ⟨hS, hsy, hir, fin nd ns hl hB hany⟩
    | true =>
      obtain ⟨i, pk, nd', hin, hpkN, hipk, hpn, hz, hpl, hhead, hpick, hnext, hl', g2, j1, j2, hB', hZ', hok'⟩ := bg_step h8 hl hS hB hZ hok hany
      rw [bgGo, hany, hnext, hhead, hpick]
      simp only [if_true]
      obtain ⟨r1, r2, r3, r4⟩ := ih nd' (joinAll i pk ns) hl' j1 hB' hZ' hok' (fun a b => by
          rw [j2, j2, hsy a b]
          congr 1
          exact bool_swap _ _ _ _) (fun a => by
          rw [j2, hir]
          by_cases c : a = i
          · subst c; simp [hipk]
          · simp [c])
      refine ⟨r1, r2, r3, fun x hx => ?_⟩
      rw [r4 x hx, g2]
      by_cases c : x = i
      · subst c
        have : wins n (joinAll x pk ns) x = wins n ns x + pk.length := by
          unfold wins
          rw [smC (g := fun b => Go.Proofs.YtcheoendfcgjgaaDoor.M.tB (nb ns x b || decide (b ∈ pk))) (fun b _ => by rw [j2]; simp [hipk])]
          exact sm_setT n pk (nb ns x) hpkN (fun t ht => ⟨hpn t ht, (hz t ht).1⟩)
        rw [this, if_pos rfl]
        omega
      · by_cases c2 : x ∈ pk
        · have : wins n (joinAll i pk ns) x = wins n ns x + 1 := by
            unfold wins
            rw [smC (g := fun b => Go.Proofs.YtcheoendfcgjgaaDoor.M.tB (nb ns x b || decide (b = i))) (fun b _ => by rw [j2]; simp [c, c2]), sm_set1 _ _ (hz x c2).2, if_pos hin]
          rw [this, if_neg c, if_pos c2]
          omega
        · have : wins n (joinAll i pk ns) x = wins n ns x := by
            unfold wins
            exact smC (fun b _ => by rw [j2]; simp [c, c2])
          rw [this, if_neg c, if_neg c2]
theorem built_graph {l : List Int} (hb : isList l = true) (hr : refOf l = 0) (hs : Int.tmod l.sum 2 = 0) :
    Gr l.length (bgGo l.length l (List.replicate l.length 0)) ∧ ints ((bgGo l.length l (List.replicate l.length 0)).map pop) = l := by
  obtain ⟨h1, h8, h3⟩ := isList_mem hb
  have hz : Sets l.length (List.replicate l.length 0) := ⟨h1, h8, by simp, fun x hx => by rw [(List.mem_replicate.1 hx).2]; exact Nat.two_pow_pos _⟩
  obtain ⟨r1, r2, r3, r4⟩ := bg_inv h8 l.length l (List.replicate l.length 0) rfl hz (fun x => by
        rw [List.getD_eq_getElem?_getD]
        cases hx : l[x]? with
        | none => simp
        | some y => have := h3 y (List.mem_of_getElem? hx); simp; omega) (fun a b _ _ => zero_nb _ a b) (okG_start l h1 h8 (fun x hx => (h3 x hx).1) hr hs) (fun a b => by rw [zero_nb, zero_nb]) (fun a => zero_nb _ a a)
  generalize bgGo l.length l (List.replicate l.length 0) = R at r1 r2 r3 r4
  refine ⟨⟨⟨r1, fun i _ => r3 i⟩, fun i _ j _ h => by rw [r2]; exact h⟩, ?_⟩
  apply getD_extG (by rw [ints_length, List.length_map, r1.len])
  intro x
  by_cases hx : x < l.length
  · have h2 := r4 x hx
    have h0 : wins l.length (List.replicate l.length 0) x = 0 := by
      unfold wins
      rw [smC (g := fun _ => 0) (fun b _ => by rw [zero_nb]; rfl)]
      generalize l.length = m
      induction m with
      | zero => rfl
      | succ m ih => rw [M.sm, ih]
    have hxR : x < R.length := by rw [r1.len]; exact hx
    have hpw := pop_wins r1 x
    rw [List.getD_eq_getElem?_getD, List.getElem?_eq_getElem hxR] at hpw
    simp only [ints]
    rw [List.getD_eq_getElem?_getD, List.getElem?_map, List.getElem?_map, List.getElem?_eq_getElem hxR]
    simp only [Option.map_some, Option.getD_some] at hpw ⊢
    rw [hpw, h2, h0]
    omega
  · rw [List.getD_eq_getElem?_getD, List.getElem?_eq_none (by rw [ints_length, List.length_map, r1.len]; omega), List.getD_eq_getElem?_getD, List.getElem?_eq_none (by omega)]
theorem newGraph_f (n : Nat) (h : n ≤ 8) : impl_newGraph.f (n : Int) = some ((n : Int), ints (List.replicate n 0)) := by
  unfold impl_newGraph.f
  rw [if_pos (by omega), if_pos (by omega)]
  simp [ints]
def flipSet (n : Nat) (ns : List Nat) (i : Nat) : Nat := (2 ^ n - 1) ^^^ ((2 ^ n - 1) &&& (ns.getD i 0))
def flipOf (n : Nat) (ns : List Nat) (i : Nat) : Nat := flipSet n ns i ^^^ (flipSet n ns i &&& 2 ^ i)
theorem flip_int {n : Nat} {ns : List Nat} (h : Sets n ns) (i : Nat) (hi : i < n) : Go.bits .andNot .i64 (Go.bits .andNot .i64 (wrap64 ((shl .i64 1 (n : Int)) - 1)) ((ns.getD i 0 : Nat) : Int)) (shl .i64 1 (i : Int)) = ((flipOf n ns i : Nat) : Int) := by
  have hp := pow8 h.n8
  have hp0 := Nat.two_pow_pos n
  have hn := h.n8
  have e : wrap64 (shl .i64 1 (n : Int) - 1) = ((2 ^ n - 1 : Nat) : Int) := by
    rw [shl_one n (by omega)]; unfold wrap64; omega
  have h1 : 2 ^ n - 1 < 2 ^ 62 := by have : (256 : Nat) < 2 ^ 62 := by decide
                                     omega
  rw [e, andNot_nat _ _ h1 (h.get62 i), shl_one i (by omega), andNot_nat]
  · rfl
  · exact Nat.xor_lt_two_pow h1 (Nat.lt_of_le_of_lt Nat.and_le_left h1)
  · exact Nat.pow_lt_pow_right (by decide) (by omega)
def mirrorUpto (n : Nat) (ns : List Nat) (j : Nat) : List Nat := (List.range j).map (flipOf n ns)
theorem mirror_impl {n : Nat} {ns : List Nat} (h : Sets n ns) : ∀ d j, j + d = n → Ev (fun k => impl_OppositeGraph.l0 k (ints ns) n j n (ints ns) n (ints (mirrorUpto n ns j ++ List.replicate d 0))) ((n : Int), ints (mirrorUpto n ns n), true) := by
  have hl := h.len
  have hn := h.n8
  intro d
  induction d with
  | zero =>
    intro j hj
    obtain rfl : j = n := by omega
    refine Ev.step (fun k => ?_) (Ev.some rfl)
    rw [impl_OppositeGraph.l0, if_neg (by omega)]; simp
  | succ d ih =>
    intro j hj
    refine Ev.step (fun k => ?_) (ih (j + 1) (by omega))
    rw [impl_OppositeGraph.l0, if_pos (by omega), if_pos (by omega), if_pos (by rw [ints_length]; omega), if_pos (by omega), if_pos (by simp [ints_length, mirrorUpto]; omega), rd_ints, flip_int h j (by omega), ints_set, wrap_nat j (by omega)]
    congr 2
    rw [show mirrorUpto n ns (j + 1) = mirrorUpto n ns j ++ [flipOf n ns j] by simp [mirrorUpto, List.range_succ]]
    have e : (mirrorUpto n ns j).length = j := by simp [mirrorUpto]
    rw [List.replicate_succ, List.set_append_right _ _ (by omega)]
    simp [e]
theorem mirror_spec {n : Nat} {ns : List Nat} (h : Sets n ns) : ∀ d j, j + d = n → Ev (fun k => spec_OppositeGraph.l0 k (ints ns) n j n (ints ns) n (ints (mirrorUpto n ns j))) ((n : Int), ints (mirrorUpto n ns n), true) := by
  have hl := h.len
  have hn := h.n8
  intro d
  induction d with
  | zero =>
    intro j hj
    obtain rfl : j = n := by omega
    refine Ev.step (fun k => ?_) (Ev.some rfl)
    rw [spec_OppositeGraph.l0, if_neg (by omega)]
  | succ d ih =>
    intro j hj
    refine Ev.step (fun k => ?_) (ih (j + 1) (by omega))
    have e : (mirrorUpto n ns j).length = j := by simp [mirrorUpto]
    rw [spec_OppositeGraph.l0, if_pos (by omega), if_pos (by omega), if_pos (by rw [ints_length]; omega), if_pos (by omega), if_pos (by rw [ints_length]; omega), rd_ints, flip_int h j (by omega), wrap_nat j (by omega)]
    congr 2
    rw [show mirrorUpto n ns (j + 1) = mirrorUpto n ns j ++ [flipOf n ns j] by simp [mirrorUpto, List.range_succ]]
    simp [ints]
theorem mirror_of {n : Nat} {ns : List Nat} (ht : Gr n ns) : Ev (fun k => spec_OppositeGraph.f k (n : Int) (ints ns)) ((n : Int), ints (mirrorUpto n ns n), true) ∧ Ev (fun k => impl_OppositeGraph.f k (n : Int) (ints ns)) ((n : Int), ints (mirrorUpto n ns n), true) := by
  have hs := ht.1.1
  have hlen := hs.len
  have hn := hs.n8
  have hl : (ints ns).length ≤ BM := by rw [ints_length]; simp only [BM]; omega
  have hG : IsGr (n : Int) (ints ns) := ⟨n, ns, rfl, rfl, ht⟩
  unfold spec_OppositeGraph.f impl_OppositeGraph.f
  refine ⟨Ev.bind ((deGood_f _ _ hl).1 hG) ?_, Ev.bind ((IsGraph_f _ _ hl).1 hG) ?_⟩
  · simp only [if_true, ints_length, hlen]
    exact mirror_spec hs n 0 (by omega)
  · simp only [if_true, ints_length, hlen, newGraph_f n hn, Option.bind_some]
    have := mirror_impl hs n 0 (by omega)
    simpa [mirrorUpto] using this
theorem mirror_no {a : Int} {l : List Int} (hl : l.length ≤ BM) (h : ¬ IsGr a l) : Ev (fun k => spec_OppositeGraph.f k a l) (0, [], false) ∧ Ev (fun k => impl_OppositeGraph.f k a l) (0, [], false) := by
  unfold spec_OppositeGraph.f impl_OppositeGraph.f
  exact ⟨Ev.bind ((deGood_f a l hl).2 h) (by simpa using Ev.now _), Ev.bind ((IsGraph_f a l hl).2 h) (by simpa using Ev.now _)⟩
theorem flip_bit {n : Nat} {ns : List Nat} (i b : Nat) : (flipOf n ns i).testBit b = (decide (b < n) && !nb ns i b && !decide (b = i)) := by
  unfold flipOf flipSet
  simp only [Nat.testBit_xor, Nat.testBit_and, Nat.testBit_two_pow_sub_one, Nat.testBit_two_pow]
  have : (ns.getD i 0).testBit b = nb ns i b := rfl
  rw [this]
  rw [show decide (i = b) = decide (b = i) by rw [decide_eq_decide]; exact eq_comm]
  cases decide (b < n) <;> cases nb ns i b <;> cases decide (b = i) <;> rfl
theorem mirror_nb {n : Nat} {ns : List Nat} (a b : Nat) : nb (mirrorUpto n ns n) a b = (decide (a < n) && (decide (b < n) && !nb ns a b && !decide (b = a))) := by
  unfold mirrorUpto
  show (((List.range n).map (flipOf n ns)).getD a 0).testBit b = _
  rw [List.getD_eq_getElem?_getD, List.getElem?_map]
  by_cases ha : a < n
  · rw [List.getElem?_range ha]
    simp only [Option.map_some, Option.getD_some, flip_bit]
    simp [ha]
  · rw [List.getElem?_eq_none (by simp; omega)]
    simp [ha]
theorem mirror_sets {n : Nat} {ns : List Nat} (h : Sets n ns) : Sets n (mirrorUpto n ns n) := by
  refine ⟨h.n1, h.n8, by simp [mirrorUpto], fun x hx => ?_⟩
  unfold mirrorUpto at hx
  obtain ⟨i, hi, rfl⟩ := List.mem_map.1 hx
  refine Nat.lt_pow_two_of_testBit _ (fun b hb => ?_)
  rw [flip_bit]
  simp; omega
theorem mirror_gr {n : Nat} {ns : List Nat} (h : Gr n ns) : Gr n (mirrorUpto n ns n) := by
  refine ⟨⟨mirror_sets h.1.1, fun i hi => by rw [mirror_nb]; simp⟩, fun i hi j hj e => ?_⟩
  rw [mirror_nb] at e ⊢
  simp only [hi, hj, decide_true, Bool.true_and, Bool.and_eq_true, Bool.not_eq_true', decide_eq_false_iff_not] at e ⊢
  refine ⟨?_, fun q => e.2 q.symm⟩
  cases c : nb ns j i with
  | false => rfl
  | true => have := h.2 j hj i hi c; rw [e.1] at this; cases this
theorem mirror_mirrorN {n : Nat} {ns : List Nat} (h : Near n ns) : mirrorUpto n (mirrorUpto n ns n) n = ns := by
  refine sets_extG (mirror_sets (mirror_sets h.1)) h.1 (fun x y => ?_)
  rw [mirror_nb, mirror_nb]
  by_cases hx : x < n
  · by_cases hy : y < n
    · by_cases e : y = x
      · subst e; rw [h.2 y hy]; simp
      · simp [hx, hy, e]
    · have : nb ns x y = false := h.1.nb_lt (by omega)
      rw [this]; simp [hy]
  · have : nb ns x y = false := by
      unfold nb
      rw [List.getD_eq_getElem?_getD, List.getElem?_eq_none (by rw [h.1.len]; omega)]
      simp
    rw [this]; simp [hx]
theorem mirror_mirror {n : Nat} {ns : List Nat} (h : Gr n ns) : mirrorUpto n (mirrorUpto n ns n) n = ns := mirror_mirrorN h.1
theorem sm_one : ∀ n, M.sm (fun _ => 1) n = n
  | 0 => rfl
  | n + 1 => by rw [M.sm, sm_one n]
theorem sm_zero : ∀ n, M.sm (fun _ => 0) n = 0
  | 0 => rfl
  | n + 1 => by rw [M.sm, sm_zero n]
theorem mirror_winsN {n : Nat} {ns : List Nat} (h : Near n ns) (x : Nat) (hx : x < n) : wins n ns x + wins n (mirrorUpto n ns n) x + 1 = n := by
  have e1 : M.sm (fun b => M.tB (false || decide (b = x))) n = 1 := by
    rw [sm_set1 (fun _ => false) x rfl n, if_pos hx]
    have : M.sm (fun b => M.tB false) n = 0 := sm_zero n
    rw [this]
  unfold wins
  rw [← M.sm_add, ← e1, ← M.sm_add]
  refine (smC (g := fun _ => 1) (fun b hb => ?_)).trans (sm_one n)
  rw [mirror_nb]
  by_cases e : b = x
  · subst e; rw [h.2 b hb]; simp [M.tB]
  · cases nb ns x b <;> simp [hx, hb, e, M.tB]
theorem mirror_wins {n : Nat} {ns : List Nat} (h : Gr n ns) (x : Nat) (hx : x < n) : wins n ns x + wins n (mirrorUpto n ns n) x + 1 = n := mirror_winsN h.1 x hx
end Go.Proofs.YtcheoendfcgjgaaDoor.K
namespace Go.Proofs.YtcheoendfcgjgaaDoor.K
open Go.RowKit Go.Proofs.YtcheoendfcgjgaaDoorW.PrintWords Go.Proofs.YtcheoendfcgjgaaDoor.P
theorem pop_ones : (List.range 256).all (fun a => bits_OnesCount.f (IntKind.u64.wrap (a : Int)) == some ((pop a : Nat) : Int)) = true := by decide +kernel
theorem onesCount_f (a : Nat) (h : a < 256) : bits_OnesCount.f (IntKind.u64.wrap (a : Int)) = some ((pop a : Nat) : Int) := beq_iff_eq.1 (List.all_eq_true.1 pop_ones a (List.mem_range.2 h))
theorem counts_l0 : ∀ (rest done : List Nat), (done ++ rest).length ≤ 1000 → (∀ x ∈ rest, x < 256) → Ev (fun k => impl_counts.l0 k (ints (done.map pop)) (ints (done ++ rest)) ((done ++ rest).length : Int) done.length) (ints ((done ++ rest).map pop)) := by
  intro rest
  induction rest with
  | nil => intro done h _; exact Ev.step (fun k => by rw [impl_counts.l0, if_neg (by simp)]) (Ev.some (by simp))
  | cons x rest ih =>
    intro done h hx
    have e : ints (done ++ x :: rest) = ints done ++ (x : Int) :: ints rest := by simp [ints]
    have hl : (ints done).length = done.length := ints_length _
    obtain ⟨h1, h2, h3, h4, h5⟩ := mid (x : Int) (ints done) (ints rest) (by simp [ints_length, BM] at h ⊢; omega)
    rw [← e, hl] at h3
    have ih' := ih (done ++ [x]) (by simpa using h) (fun y hy => hx y (by simp [hy]))
    rw [show done ++ [x] ++ rest = done ++ x :: rest by simp] at ih'
    have g1 : (done.length : Int) < ((done ++ x :: rest).length : Int) := by simp; omega
    refine Ev.step (fun k => ?_) ih'
    rw [impl_counts.l0, if_pos g1, if_pos (by omega), if_pos (by rw [ints_length]; exact g1), h3, onesCount_f x (hx x (by simp)), Option.bind_some, if_pos (by simp [ints_length] at h ⊢; omega), wrap_nat _ (by simp at h; omega)]
    simp [ints]
theorem counts_f (ns : List Nat) (h : ns.length ≤ 1000) (hx : ∀ x ∈ ns, x < 256) : Ev (fun k => impl_counts.f k (ints ns)) (ints (ns.map pop)) := by
  unfold impl_counts.f
  have := counts_l0 ns [] (by simpa using h) hx
  simpa [ints_length, ints] using this
end Go.Proofs.YtcheoendfcgjgaaDoor.K
namespace Go.Proofs.YtcheoendfcgjgaaDoor.K
open Go.RowKit Go.Proofs.YtcheoendfcgjgaaDoorW.PrintWords Go.Proofs.YtcheoendfcgjgaaDoorW.PrintMore Go.Proofs.YtcheoendfcgjgaaDoor.P
theorem refK_full (l : List Int) (h : l.length ≤ BM) : ∃ r, Ev (fun k => spec_RefusingK.f k l) r ∧ Ev (fun k => impl_RefusingK.f k l) r ∧ r = if isList l = true ∧ refOf l ≠ 0 then (refOf l, true) else (0, false) := by
  unfold spec_RefusingK.f impl_RefusingK.f
  by_cases hl : isList l = true
  · have hn := refOf_nonneg l
    have e1 := Ev.pair (liGood_f l h) hl
    have e2 := Ev.pair (IsList_f l h) hl
    by_cases h0 : refOf l = 0
    · refine ⟨(0, false), Ev.bind e1 ?_, Ev.bind e2 ?_, by simp [h0]⟩
      · simp only [if_true]
        refine Ev.bind (deRefuses_f hl) (Ev.ite (fun _ => Ev.now _) (fun hh => absurd h0 hh))
      · simp only [if_true]
        refine Ev.bind (refusingK_f hl) (Ev.some (by rw [h0]; simp))
    · refine ⟨(refOf l, true), Ev.bind e1 ?_, Ev.bind e2 ?_, by simp [hl, h0]⟩
      · simp only [if_true]
        exact Ev.bind (deRefuses_f hl) (Ev.ite (fun hh => absurd hh h0) (fun _ => Ev.bind (deRefuses_f hl) (Ev.now _)))
      · simp only [if_true]
        refine Ev.bind (refusingK_f hl) (Ev.some ?_)
        rw [decide_eq_true (by omega)]
  · have hl : isList l = false := by simpa using hl
    refine ⟨(0, false), Ev.bind (Ev.pair (liGood_f l h) hl) ?_, Ev.bind (Ev.pair (IsList_f l h) hl) ?_, by simp [hl]⟩
    · simp only [Bool.false_eq_true, if_false]; exact Ev.now _
    · simp only [Bool.false_eq_true, if_false]; exact Ev.now _
theorem graphic_k (l : List Int) (h : l.length ≤ BM) : Ev (fun k => impl_IsGraphic.f k l) (isList l && gB l, isList l) := by
  unfold impl_IsGraphic.f
  refine Ev.bind (IsList_f l h) ?_
  cases hl : isList l with
  | false => simp only [Bool.false_eq_true, if_false]; exact Ev.now _
  | true => simp only [if_true]; exact Ev.bind (graphic_full hl).2 (Ev.now _)
theorem isGraph_k {n : Nat} {ns : List Nat} (h : Gr n ns) : Ev (fun k => impl_IsGraph.f k (n : Int) (ints ns)) true :=
  (IsGraph_f _ _ (by have := h.1.1.n8; rw [ints_length, h.1.1.len]; simp only [BM]; omega)).1 ⟨n, ns, rfl, rfl, h⟩
theorem degreesOf_k {n : Nat} {ns : List Nat} (h : Gr n ns) : Ev (fun k => impl_DegreesOf.f k (n : Int) (ints ns)) (ints (ns.map pop), true) := by
  have hs := h.1.1
  have := hs.n8
  have := hs.len
  unfold impl_DegreesOf.f
  refine Ev.bind (isGraph_k h) ?_
  simp only [if_true]
  exact Ev.bind (counts_f ns (by omega) (fun x hx => Nat.lt_of_lt_of_le (hs.lt x hx) (pow8 hs.n8))) (Ev.now _)
theorem rankingOf_k {l : List Int} (hl : isList l = true) (h : l.length ≤ BM) : Ev (fun k => impl_RankingOf.f k l) (rankL l, true) := by
  have e := IsList_f l h
  rw [hl] at e
  unfold impl_RankingOf.f
  refine Ev.bind e ?_
  simp only [if_true, ranking_f (isList_small hl).1, Option.bind_some]
  exact Ev.now _
theorem refK_hit (r : List Int) : ∀ d k, refK r k d ≠ 0 → ∃ j : Nat, k ≤ j ∧ j < k + d ∧ refK r k d = (j : Int) ∧ (r.take j).sum > mostK r j
  | 0, k, h => by simp [refK] at h
  | d + 1, k, h => by
    rw [refK] at h ⊢
    by_cases c : (r.take k).sum > mostK r k
    · rw [if_pos c]; exact ⟨k, by omega, by omega, rfl, c⟩
    · rw [if_neg c] at h ⊢
      obtain ⟨j, h1, h2, h3, h4⟩ := refK_hit r d (k + 1) h
      exact ⟨j, by omega, by omega, h3, h4⟩
def Bytes (code : List Int) : Prop := code.length ≤ 1048576 ∧ ∀ x ∈ code, 0 ≤ x ∧ x ≤ 255
theorem bytes_of {l : List Int} (hl : l.length ≤ 1048576) (h : ∀ x ∈ l, (Lit.int .u8 x).wf = true) : Bytes l := by
  refine ⟨hl, fun x hx => ?_⟩
  have := h x hx
  simp [Lit.wf, IntKind.min, IntKind.max, IntKind.signed, IntKind.bits] at this
  omega
theorem and255 (x : Int) : 0 ≤ Go.bits .and .u64 x 255 ∧ Go.bits .and .u64 x 255 ≤ 255 := by
  have h : (BitVec.ofInt 64 x &&& BitVec.ofInt 64 255).toNat ≤ 255 := by
    rw [BitVec.toNat_and]
    exact Nat.le_trans Nat.and_le_right (by decide)
  have key : Go.bits .and .u64 x 255 = IntKind.u64.wrap ((BitVec.ofInt 64 x &&& BitVec.ofInt 64 255).toNat : Int) := rfl
  rw [key]
  generalize (BitVec.ofInt 64 x &&& BitVec.ofInt 64 255).toNat = n at *
  simp only [IntKind.wrap, IntKind.bits, IntKind.signed]
  simp
  omega
theorem rd_byte {code : List Int} (hc : Bytes code) (i : Int) : 0 ≤ rd code i ∧ rd code i ≤ 255 := by
  unfold rd
  rw [List.getD_eq_getElem?_getD]
  cases h : code[i.toNat]? with
  | none => simp
  | some x =>
    have := List.mem_of_getElem? h
    exact hc.2 x this
section
variable {code : List Int}
theorem next_ok (hc : Bytes code) (a s : Int) (h0 : 0 ≤ a) (h1 : a ≤ 2305843009213693952) : ∃ x s', spec_l1Cur_next.f code a s = some (x, a + 1, s') ∧ 0 ≤ x ∧ x ≤ 255 := by
  have hw : wrap64 (a + 1) = a + 1 := wrap_id (by omega) (by omega)
  have hi : ∀ y, wrap64 (Go.bits .and .u64 y 255) = Go.bits .and .u64 y 255 := fun y => by have := and255 y; exact wrap_id (by omega) (by omega)
  have hr := rd_byte hc a
  have hq : wrap64 (rd code a) = rd code a := wrap_id (by omega) (by omega)
  unfold spec_l1Cur_next.f
  simp only [hw, hi, hq, if_pos h0]
  split
  · split
    · exact ⟨_, _, rfl, hr⟩
    · exact ⟨_, _, rfl, and255 _⟩
  · split
    · exact ⟨_, _, rfl, by omega, by omega⟩
    · exact ⟨_, _, rfl, and255 _⟩
theorem pick_ok (hc : Bytes code) (a s n : Int) (h0 : 0 ≤ a) (h1 : a ≤ 1152921504606846976) (hn : n ≤ 1099511627776) : ∃ x a' s', spec_l1Cur_pick.f code a s n = some (x, a', s') ∧ 0 ≤ x ∧ (1 ≤ n → x < n) ∧ (n ≤ 1 → x = 0) ∧ a ≤ a' ∧ a' ≤ a + 2 := by
  unfold spec_l1Cur_pick.f
  by_cases e : n ≤ 1
  · rw [if_pos e]; exact ⟨_, _, _, rfl, by omega, by omega, fun _ => rfl, by omega, by omega⟩
  · rw [if_neg e]
    obtain ⟨x, s1, e1, x0, x1⟩ := next_ok hc a s h0 (by omega)
    rw [e1, Option.bind_some]
    have hz : ¬ n = 0 := by omega
    by_cases e2 : n > 200
    · rw [if_pos e2]
      obtain ⟨y, s2, e3, y0, y1⟩ := next_ok hc (a + 1) s1 (by omega) (by omega)
      simp only [e3, Option.bind_some, if_neg hz]
      have hw : wrap64 (wrap64 (x * 256) + y) = x * 256 + y := by
        rw [show wrap64 (x * 256) = x * 256 from wrap_id (by omega) (by omega)]; exact wrap_id (by omega) (by omega)
      rw [hw]
      have t0 := Int.tmod_nonneg n (show (0 : Int) ≤ x * 256 + y by omega)
      have t1 := Int.tmod_lt_of_pos (x * 256 + y) (show (0 : Int) < n by omega)
      exact ⟨_, _, _, rfl, t0, fun _ => t1, by omega, by omega, by omega⟩
    · rw [if_neg e2]
      simp only [if_neg hz]
      have t0 := Int.tmod_nonneg n x0
      have t1 := Int.tmod_lt_of_pos x (show (0 : Int) < n by omega)
      exact ⟨_, _, _, rfl, t0, fun _ => t1, by omega, by omega, by omega⟩
theorem one_ok (hc : Bytes code) (a s n : Int) (h0 : 0 ≤ a) (h1 : a ≤ 1152921504606846976) (hn : n ≤ 1099511627776) : ∃ x a' s', spec_l1Cur_one.f code a s n = some (x, a', s') ∧ a ≤ a' ∧ a' ≤ a + 2 := by
  unfold spec_l1Cur_one.f
  obtain ⟨x, a', s', e, -, -, -, h2, h3⟩ := pick_ok hc a s n h0 h1 hn
  rw [e]
  exact ⟨_, _, _, rfl, h2, h3⟩
end
section
variable {code : List Int}
theorem among_ok (hc : Bytes code) (a s : Int) (l : List Int) (hl : 1 ≤ l.length) (hl2 : l.length ≤ 1000) (h0 : 0 ≤ a) (h1 : a ≤ 1152921504606846976) : ∃ x a' s', spec_l1Cur_among.f code a s l = some (x, a', s') ∧ x ∈ l ∧ a ≤ a' ∧ a' ≤ a + 2 := by
  obtain ⟨x, a', s', e, x0, x1, -, a0, a2⟩ := pick_ok hc a s (l.length : Int) h0 h1 (by omega)
  have := x1 (by omega)
  obtain ⟨i, rfl⟩ := Int.eq_ofNat_of_zero_le x0
  have hi : i < l.length := by omega
  refine ⟨rd l (i : Int), a', s', ?_, ?_, a0, a2⟩
  · unfold spec_l1Cur_among.f
    rw [e, Option.bind_some, if_pos x0, if_pos this]
  · rw [rd, Int.toNat_natCast, List.getD_eq_getElem?_getD, List.getElem?_eq_getElem hi]
    exact List.getElem_mem hi
end
section
variable {code : List Int}
theorem list_l0 (hc : Bytes code) (m : Int) (hm0 : 0 ≤ m) (hm : m ≤ 100) : ∀ (d : Nat) (L : List Int) (a s : Int), L.length + d ≤ 100 → (∀ x ∈ L, 0 ≤ x ∧ x ≤ 100) → 0 ≤ a → a + 2 * d ≤ 1152921504606846976 →
    ∃ r a' s', Ev (fun k => spec_l1Cur_list.l0 k m L (d : Int) code a s) (r, a', s') ∧ r.length = L.length + d ∧ (∀ x ∈ r, 0 ≤ x ∧ x ≤ 100) ∧ a ≤ a' ∧ a' ≤ a + 2 * d := by
  intro d
  induction d with
  | zero =>
    intro L a s hl hL h0 h1
    exact ⟨L, a, s, Ev.step (fun k => by rw [spec_l1Cur_list.l0, if_neg (by omega)]) (Ev.now _), by omega, hL, by omega, by omega⟩
  | succ d ih =>
    intro L a s hl hL h0 h1
    have e : wrap64 (m + 1) = m + 1 := by unfold wrap64; omega
    obtain ⟨x, a1, s1, e1, x0, x1, -, b0, b1⟩ := pick_ok hc a s (m + 1) h0 (by omega) (by omega)
    have hx := x1 (by omega)
    obtain ⟨r, a', s', h2, h3, h4, h5, h6⟩ := ih (L ++ [x]) a1 s1 (by simp; omega) (fun y hy => by
      rcases List.mem_append.1 hy with hy | hy
      · exact hL y hy
      · rw [List.mem_singleton.1 hy]; omega) (by omega) (by omega)
    refine ⟨r, a', s', Ev.step (fun k => ?_) h2, by rw [h3]; simp; omega, h4, by omega, by omega⟩
    have e2 : wrap64 (((d + 1 : Nat) : Int) - 1) = (d : Int) := by unfold wrap64; omega
    rw [spec_l1Cur_list.l0, if_pos (by omega), e, e1, Option.bind_some, if_pos (by omega), e2]
theorem list_ok (hc : Bytes code) (a s m : Int) (hm0 : 0 ≤ m) (hm : m ≤ 100) (h0 : 0 ≤ a) (h1 : a ≤ 1152921504606846000) :
    ∃ r a' s', Ev (fun k => spec_l1Cur_list.f k code a s m) (r, a', s') ∧ 1 ≤ r.length ∧ r.length ≤ 6 ∧ (∀ x ∈ r, 0 ≤ x ∧ x ≤ 100) ∧ a ≤ a' ∧ a' ≤ a + 14 := by
  obtain ⟨x, a1, s1, e1, x0, x1, -, b0, b1⟩ := pick_ok hc a s 6 h0 (by omega) (by omega)
  have hx := x1 (by omega)
  obtain ⟨d, hd⟩ : ∃ d : Nat, wrap64 (1 + x) = (d : Int) := ⟨(1 + x).toNat, by unfold wrap64; omega⟩
  have hd2 : (d : Int) = 1 + x := by rw [← hd]; unfold wrap64; omega
  obtain ⟨r, a', s', h2, h3, h4, h5, h6⟩ := list_l0 hc m hm0 hm d [] a1 s1 (by simp; omega) (by simp) (by omega) (by omega)
  have h3' : r.length = d := by simpa using h3
  refine ⟨r, a', s', ?_, by omega, by omega, h4, by omega, by omega⟩
  unfold spec_l1Cur_list.f
  simp only [e1, Option.bind_some, hd]
  exact h2
theorem any_l0 (hc : Bytes code) : ∀ (d : Nat) (L : List Int) (a s : Int), L.length + d = 9 → (∀ x ∈ L, -1 ≤ x ∧ x ≤ 100) → 0 ≤ a → a + 4 * d + 4 ≤ 1152921504606846976 →
    ∃ r a' s', Ev (fun k => spec_l1Cur_anyList.l0 k L code a s) (r, a', s') ∧ r.length ≤ 9 ∧ (∀ x ∈ r, -1 ≤ x ∧ x ≤ 100) ∧ a ≤ a' ∧ a' ≤ a + 4 * d + 4 := by
  intro d
  induction d with
  | zero =>
    intro L a s hl hL h0 h1
    obtain ⟨x, a1, s1, e1, x0, x1, -, b0, b1⟩ := pick_ok hc a s 2 h0 (by omega) (by omega)
    have hx := x1 (by omega)
    have e : wrap64 (8 + x) = 8 + x := by unfold wrap64; omega
    refine ⟨L, a1, s1, Ev.step (fun k => ?_) (Ev.now _), by omega, hL, by omega, by omega⟩
    rw [spec_l1Cur_anyList.l0, e1, Option.bind_some, e, if_neg (by omega)]
  | succ d ih =>
    intro L a s hl hL h0 h1
    obtain ⟨x, a1, s1, e1, x0, x1, -, b0, b1⟩ := pick_ok hc a s 2 h0 (by omega) (by omega)
    have hx := x1 (by omega)
    have e : wrap64 (8 + x) = 8 + x := by unfold wrap64; omega
    by_cases c : (L.length : Int) < 8 + x
    · obtain ⟨y, a2, s2, e2, y0, y1, -, c0, c1⟩ := pick_ok hc a1 s1 9 (by omega) (by omega) (by omega)
      have hy := y1 (by omega)
      obtain ⟨r, a', s', h2, h3, h4, h5, h6⟩ := ih (L ++ [y]) a2 s2 (by simp; omega) (fun z hz => by
        rcases List.mem_append.1 hz with hz | hz
        · exact hL z hz
        · rw [List.mem_singleton.1 hz]; omega) (by omega) (by omega)
      refine ⟨r, a', s', Ev.step (fun k => ?_) h2, h3, h4, by omega, by omega⟩
      rw [spec_l1Cur_anyList.l0, e1, Option.bind_some, e, if_pos c, e2, Option.bind_some, if_pos (by omega)]
    · refine ⟨L, a1, s1, Ev.step (fun k => ?_) (Ev.now _), by omega, hL, by omega, by omega⟩
      rw [spec_l1Cur_anyList.l0, e1, Option.bind_some, e, if_neg c]
theorem anyList_ok (hc : Bytes code) (a s m : Int) (hm0 : 0 ≤ m) (hm : m ≤ 100) (h0 : 0 ≤ a) (h1 : a ≤ 1152921504606846000) :
    ∃ r a' s', Ev (fun k => spec_l1Cur_anyList.f k code a s m) (r, a', s') ∧ r.length ≤ 9 ∧ (∀ x ∈ r, -1 ≤ x ∧ x ≤ 100) ∧ a ≤ a' ∧ a' ≤ a + 100 := by
  obtain ⟨L, a1, s1, e1, l1, l2, l3, l4, l5⟩ := list_ok hc a s m hm0 hm h0 h1
  obtain ⟨x, a2, s2, e2, x0, x1, -, b0, b1⟩ := pick_ok hc a1 s1 14 (by omega) (by omega) (by omega)
  have hL : ∀ x ∈ L, -1 ≤ x ∧ x ≤ 100 := fun x hx => by have := l3 x hx; omega
  unfold spec_l1Cur_anyList.f
  by_cases c0 : x = 0
  · obtain ⟨y, a3, s3, e3, y0, c1, c2⟩ := among_ok hc a2 s2 [(-1), 0, 60, 61] (by simp) (by simp) (by omega) (by omega)
    refine ⟨L ++ [y], a3, s3, Ev.bind e1 ?_, by simp; omega, fun z hz => ?_, by omega, by omega⟩
    · simp only [e2, Option.bind_some, if_pos c0, e3, if_pos (show L.length < 17592186044416 by omega)]
      exact Ev.now _
    · rcases List.mem_append.1 hz with hz | hz
      · exact hL z hz
      · rw [List.mem_singleton.1 hz]
        simp only [List.mem_cons, List.not_mem_nil, or_false] at y0
        omega
  · by_cases c1 : x = 1
    · obtain ⟨r, a', s', h2, h3, h4, h5, h6⟩ := any_l0 hc (9 - L.length) L a2 s2 (by omega) hL (by omega) (by omega)
      refine ⟨r, a', s', Ev.bind e1 ?_, h3, h4, by omega, by omega⟩
      simp only [e2, Option.bind_some, if_neg c0, if_pos c1]
      exact h2
    · by_cases c2 : x = 2
      · refine ⟨[], a2, s2, Ev.bind e1 ?_, by simp, by simp, by omega, by omega⟩
        simp only [e2, Option.bind_some, if_neg c0, if_neg c1, if_pos c2]
        exact Ev.now _
      · refine ⟨L, a2, s2, Ev.bind e1 ?_, by omega, hL, by omega, by omega⟩
        simp only [e2, Option.bind_some, if_neg c0, if_neg c1, if_neg c2]
        exact Ev.now _
end
theorem deDegrees_l0 : ∀ (rest done : List Nat), (done ++ rest).length ≤ 1000 → (∀ x ∈ rest, x < 256) → Ev (fun k => spec_deDegrees.l0 k (ints (done.map pop)) (ints (done ++ rest)) ((done ++ rest).length : Int) done.length) (ints ((done ++ rest).map pop)) := by
  intro rest
  induction rest with
  | nil => intro done h _; exact Ev.step (fun k => by rw [spec_deDegrees.l0, if_neg (by simp)]) (Ev.some (by simp))
  | cons x rest ih =>
    intro done h hx
    have e : ints (done ++ x :: rest) = ints done ++ (x : Int) :: ints rest := by simp [ints]
    have hl : (ints done).length = done.length := ints_length _
    obtain ⟨h1, h2, h3, h4, h5⟩ := mid (x : Int) (ints done) (ints rest) (by simp [ints_length, BM] at h ⊢; omega)
    rw [← e, hl] at h3
    have ih' := ih (done ++ [x]) (by simpa using h) (fun y hy => hx y (by simp [hy]))
    rw [show done ++ [x] ++ rest = done ++ x :: rest by simp] at ih'
    have g1 : (done.length : Int) < ((done ++ x :: rest).length : Int) := by simp; omega
    refine Ev.step (f := fun k => (spec_deMany.f k (x : Int)).bind fun t => spec_deDegrees.l0 k (ints (done.map pop) ++ [t]) (ints (done ++ x :: rest)) ((done ++ x :: rest).length : Int) ((done.length + 1 : Nat) : Int)) (fun k => ?_) (Ev.bind (deMany_f x (hx x (by simp))) ?_)
    · rw [spec_deDegrees.l0, if_pos g1, if_pos (by omega), if_pos (by rw [ints_length]; exact g1), h3, wrap_nat _ (by simp at h; omega)]
      congr 1; funext t
      rw [if_pos (by simp [ints_length] at h ⊢; omega)]
    · simpa [ints] using ih'
section
variable {code : List Int}
theorem sets_zeroC {n : Nat} (h1 : 1 ≤ n) (h8 : n ≤ 8) : Sets n (List.replicate n 0) := by
  refine ⟨h1, h8, by simp, fun x hx => ?_⟩
  rw [(List.mem_replicate.1 hx).2]
  exact Nat.two_pow_pos n
theorem ints_zeroC (n : Nat) : ints (List.replicate n 0) = List.replicate n (0 : Int) := by simp [ints]
theorem grow_l1 {n : Nat} (S : List Int) (x sz : Int) (j : Nat) (hj : j < n) : ∀ (d i : Nat) (ns : List Nat), i + d = j → Sets n ns →
    ∃ ns', Sets n ns' ∧ ∀ y, Ev (fun k => spec_deGrow.l0 k S n ((j + 1 : Nat) : Int) sz (ints ns')) y → Ev (fun k => spec_deGrow.l1 k j x i S n j sz (ints ns)) y := by
  intro d
  induction d with
  | zero =>
    intro i ns hi h
    refine ⟨ns, h, fun y hy => Ev.step (fun k => by rw [spec_deGrow.l1]) ?_⟩
    have := h.n8
    have p1 : ¬ (i : Int) < (j : Int) := by omega
    simp only [if_neg p1, wrap_nat j (show j < 9223372036854775807 by omega)]
    exact hy
  | succ d ih =>
    intro i ns hi h
    have := h.n8
    have p1 : (i : Int) < (j : Int) := by omega
    by_cases c : x = 1
    · obtain ⟨ns', q1, q2⟩ := ih (i + 1) (orN ns i j) (by omega) (orN_char h i j (by omega) hj).1
      refine ⟨ns', q1, fun y hy => Ev.step (fun k => by rw [spec_deGrow.l1]) ?_⟩
      simp only [if_pos p1, if_pos c, deJoin_f h i j (by omega) hj, Option.bind_some, wrap_nat i (show i < 9223372036854775807 by omega)]
      exact q2 y hy
    · refine ⟨ns, h, fun y hy => Ev.step (fun k => by rw [spec_deGrow.l1]) ?_⟩
      simp only [if_pos p1, if_neg c, wrap_nat j (show j < 9223372036854775807 by omega)]
      exact hy
theorem grow_l0 {n : Nat} (S : List Int) (hS : S.length = n) (sz : Int) : ∀ (d j : Nat) (ns : List Nat), j + d = n → Sets n ns →
    ∃ ns', Sets n ns' ∧ Ev (fun k => spec_deGrow.l0 k S n j sz (ints ns)) (sz, ints ns') := by
  intro d
  induction d with
  | zero =>
    intro j ns hj h
    refine ⟨ns, h, Ev.step (fun k => by rw [spec_deGrow.l0]) ?_⟩
    simp only [if_neg (show ¬ (j : Int) < (n : Int) by omega)]
    exact Ev.now _
  | succ d ih =>
    intro j ns hj h
    obtain ⟨ns1, q1, q2⟩ := grow_l1 S (rd S (j : Int)) sz j (by omega) j 0 ns (by omega) h
    obtain ⟨ns2, r1, r2⟩ := ih (j + 1) ns1 (by omega) q1
    refine ⟨ns2, r1, Ev.step (fun k => by rw [spec_deGrow.l0]) ?_⟩
    simp only [if_pos (show (j : Int) < (n : Int) by omega), if_pos (show (0 : Int) ≤ (j : Int) by omega), if_pos (show (j : Int) < (S.length : Int) by omega)]
    exact q2 _ r2
theorem grow_ok (S : List Int) (h1 : 1 ≤ S.length) (h8 : S.length ≤ 8) : ∃ ns, Sets S.length ns ∧ Ev (fun k => spec_deGrow.f k S) ((S.length : Int), ints ns) := by
  obtain ⟨ns, q1, q2⟩ := grow_l0 S rfl (S.length : Int) S.length 0 (List.replicate S.length 0) (by omega) (sets_zeroC h1 h8)
  refine ⟨ns, q1, ?_⟩
  rw [ints_zeroC] at q2
  have e1 : ((S.length : Int)).toNat = S.length := by simp
  have key : ∀ k, spec_deGrow.f k S = spec_deGrow.l0 k S (S.length : Int) 0 (S.length : Int) (List.replicate S.length 0) := fun k => by
    unfold spec_deGrow.f
    rw [if_pos (by omega), if_pos (by omega), e1]
  rw [show (fun k => spec_deGrow.f k S) = fun k => spec_deGrow.l0 k S (S.length : Int) 0 (S.length : Int) (List.replicate S.length 0) from funext key]
  exact q2
theorem deg_ok {n : Nat} {ns : List Nat} (h : Gr n ns) : Ev (fun k => spec_deDegrees.f k (n : Int) (ints ns)) (ints (ns.map pop)) := by
  have hs := h.1.1
  have hlen := hs.len
  have hn := hs.n8
  unfold spec_deDegrees.f
  have := deDegrees_l0 ns [] (by simp; omega) (fun x hx => Nat.lt_of_lt_of_le (hs.lt x hx) (pow8 hn))
  simpa [ints_length, ints] using this
theorem dgraph_j3 (hc : Bytes code) (n : Nat) (h1n : 1 ≤ n) (hn : n ≤ 8) (sz : Int) (b : List Int) (a s : Int) (hb : b.length = n) (h0 : 0 ≤ a) (h1 : a ≤ 1152921504606846000) :
    ∃ sz' b' a' s', Ev (fun k => spec_l1Cur_graph.j3 k n code a s sz b) (sz', b', a', s') ∧ b'.length = n ∧ a ≤ a' ∧ a' ≤ a + 6 := by
  obtain ⟨x, a1, s1, e, x0, x1, -, a0, a2⟩ := pick_ok hc a s 24 h0 (by omega) (by omega)
  by_cases e1 : x = 0
  · obtain ⟨y, a3, s3, f, y0, y1, -, b0, b2⟩ := pick_ok hc a1 s1 (n : Int) (by omega) (by omega) (by omega)
    obtain ⟨z, a4, s4, g, -, c0, c2⟩ := among_ok hc a3 s3 [(-1), 0, 1, 2, shl .i64 1 (n : Int)] (by simp) (by simp) (by omega) (by omega)
    have := y1 (by omega)
    refine ⟨sz, b.set y.toNat z, a4, s4, Ev.step (fun k => by rw [spec_l1Cur_graph.j3]) ?_, by rw [List.length_set]; exact hb, by omega, by omega⟩
    simp only [e, Option.bind_some, if_pos e1, f, if_pos (show (0 : Int) ≤ (n : Int) by omega), g, if_pos y0, if_pos (show y < (b.length : Int) by omega)]
    exact Ev.now _
  · by_cases e2 : x = 1
    · obtain ⟨z, a4, s4, g, -, c0, c2⟩ := among_ok hc a1 s1 [0, (-1), wrap64 ((n : Int) + 1), 9] (by simp) (by simp) (by omega) (by omega)
      refine ⟨z, b, a4, s4, Ev.step (fun k => by rw [spec_l1Cur_graph.j3]) ?_, hb, by omega, by omega⟩
      simp only [e, Option.bind_some, if_neg e1, if_pos e2, g]
      exact Ev.now _
    · refine ⟨sz, b, a1, s1, Ev.step (fun k => by rw [spec_l1Cur_graph.j3]) ?_, hb, by omega, by omega⟩
      simp only [e, Option.bind_some, if_neg e1, if_neg e2]
      exact Ev.now _
theorem dgraph_l2 (hc : Bytes code) (n : Nat) (h1n : 1 ≤ n) (hn : n ≤ 8) : ∀ (d : Nat) (L : List Int) (a s : Int), L.length + d = n → 0 ≤ a → a + 2 * d ≤ 1152921504606846000 →
    ∃ sz' b' a' s', Ev (fun k => spec_l1Cur_graph.l2 k n L (L.length : Int) code a s) (sz', b', a', s') ∧ b'.length = n ∧ a ≤ a' ∧ a' ≤ a + 2 * d + 6 := by
  intro d
  induction d with
  | zero =>
    intro L a s hl h0 h1
    have hL : (L.set (0 : Int).toNat 0).length = n := by rw [List.length_set]; omega
    obtain ⟨ns, q1, q2⟩ := grow_ok (L.set (0 : Int).toNat 0) (by omega) (by omega)
    rw [hL] at q1 q2
    obtain ⟨sz', b', a', s', r1, r2, r3, r4⟩ := dgraph_j3 hc n h1n hn (n : Int) (ints ns) a s (by rw [ints_length]; exact q1.len) h0 (by omega)
    refine ⟨sz', b', a', s', Ev.step (fun k => by rw [spec_l1Cur_graph.l2]) ?_, r2, r3, by omega⟩
    simp only [if_neg (show ¬ (L.length : Int) < (n : Int) by omega), if_pos (show (0 : Int) < (L.length : Int) by omega)]
    exact Ev.bind q2 r1
  | succ d ih =>
    intro L a s hl h0 h1
    obtain ⟨x, a1, s1, e, x0, x1, -, b0, b1⟩ := pick_ok hc a s 2 h0 (by omega) (by omega)
    obtain ⟨sz', b', a', s', r1, r2, r3, r4⟩ := ih (L ++ [x]) a1 s1 (by simp; omega) (by omega) (by omega)
    refine ⟨sz', b', a', s', Ev.step (fun k => by rw [spec_l1Cur_graph.l2]) ?_, r2, by omega, by omega⟩
    simp only [if_pos (show (L.length : Int) < (n : Int) by omega), e, Option.bind_some, if_pos (show L.length < 17592186044416 by omega), wrap_nat L.length (show L.length < 9223372036854775807 by omega)]
    simpa using r1
theorem dgraph_l1 (hc : Bytes code) (n : Nat) (od sz : Int) (hod : od ≤ 1000) (i : Nat) (hi : i < n) : ∀ (d j : Nat) (ns : List Nat) (a s : Int), j + d = i → Sets n ns → 0 ≤ a → a + 2 * d ≤ 1152921504606846976 →
    ∃ ns' a' s', Sets n ns' ∧ a ≤ a' ∧ a' ≤ a + 2 * d ∧ ∀ y, Ev (fun k => spec_l1Cur_graph.l0 k n od ((i + 1 : Nat) : Int) code a' s' sz (ints ns')) y → Ev (fun k => spec_l1Cur_graph.l1 k n od (i : Int) (j : Int) code a s sz (ints ns)) y := by
  intro d
  induction d with
  | zero =>
    intro j ns a s hj hb h0 h1
    refine ⟨ns, a, s, hb, by omega, by omega, fun y hy => Ev.step (fun k => by rw [spec_l1Cur_graph.l1]) ?_⟩
    have := hb.n8
    have p1 : ¬ (j : Int) < (i : Int) := by omega
    simp only [if_neg p1, wrap_nat i (show i < 9223372036854775807 by omega)]
    exact hy
  | succ d ih =>
    intro j ns a s hj hb h0 h1
    have := hb.n8
    obtain ⟨x, a1, s1, e, a0, a2⟩ := one_ok hc a s od h0 (by omega) (by omega)
    have p1 : (j : Int) < (i : Int) := by omega
    cases x with
    | true =>
      obtain ⟨ns', a', s', q1, q2, q3, q4⟩ := ih (j + 1) (orN ns i j) a1 s1 (by omega) (orN_char hb i j hi (by omega)).1 (by omega) (by omega)
      refine ⟨ns', a', s', q1, by omega, by omega, fun y hy => Ev.step (fun k => by rw [spec_l1Cur_graph.l1]) ?_⟩
      simp only [if_pos p1, e, Option.bind_some, if_true, deJoin_f hb i j hi (show j < n by omega), wrap_nat j (show j < 9223372036854775807 by omega)]
      exact q4 y hy
    | false =>
      obtain ⟨ns', a', s', q1, q2, q3, q4⟩ := ih (j + 1) ns a1 s1 (by omega) hb (by omega) (by omega)
      refine ⟨ns', a', s', q1, by omega, by omega, fun y hy => Ev.step (fun k => by rw [spec_l1Cur_graph.l1]) ?_⟩
      simp only [if_pos p1, e, Option.bind_some, Bool.false_eq_true, if_false, wrap_nat j (show j < 9223372036854775807 by omega)]
      exact q4 y hy
theorem dgraph_l0 (hc : Bytes code) (n : Nat) (h1n : 1 ≤ n) (hn : n ≤ 8) (od sz : Int) (hod : od ≤ 1000) : ∀ (d i : Nat) (ns : List Nat) (a s : Int), i + d = n → Sets n ns → 0 ≤ a → a + 16 * d ≤ 1152921504606840000 →
    ∃ sz' b' a' s', Ev (fun k => spec_l1Cur_graph.l0 k n od (i : Int) code a s sz (ints ns)) (sz', b', a', s') ∧ b'.length = n ∧ a ≤ a' ∧ a' ≤ a + 16 * d + 30 := by
  intro d
  induction d with
  | zero =>
    intro i ns a s hi hb h0 h1
    obtain rfl : i = n := by omega
    obtain ⟨x, a1, s1, e, a0, a2⟩ := one_ok hc a s 4 h0 (by omega) (by omega)
    have nn : ¬ (i : Int) < (i : Int) := by omega
    cases x with
    | true =>
      obtain ⟨sz', b', a', s', q1, q2, q3, q4⟩ := dgraph_l2 hc i h1n hn i [] a1 s1 (by simp) (by omega) (by omega)
      refine ⟨sz', b', a', s', Ev.step (fun k => by rw [spec_l1Cur_graph.l0]) ?_, q2, by omega, by omega⟩
      simp only [if_neg nn, e, Option.bind_some, if_true]
      exact q1
    | false =>
      obtain ⟨sz', b', a', s', q1, q2, q3, q4⟩ := dgraph_j3 hc i h1n hn sz (ints ns) a1 s1 (by rw [ints_length]; exact hb.len) (by omega) (by omega)
      refine ⟨sz', b', a', s', Ev.step (fun k => by rw [spec_l1Cur_graph.l0]) ?_, q2, by omega, by omega⟩
      simp only [if_neg nn, e, Option.bind_some, Bool.false_eq_true, if_false]
      exact q1
  | succ d ih =>
    intro i ns a s hi hb h0 h1
    obtain ⟨b1, a1, s1, q1, q2, q3, q4⟩ := dgraph_l1 hc n od sz hod i (by omega) i 0 ns a s (by omega) hb h0 (by omega)
    obtain ⟨sz', b', a', s', r1, r2, r3, r4⟩ := ih (i + 1) b1 a1 s1 (by omega) q1 (by omega) (by omega)
    refine ⟨sz', b', a', s', Ev.step (fun k => by rw [spec_l1Cur_graph.l0]) ?_, r2, by omega, by omega⟩
    have p1 : (i : Int) < (n : Int) := by omega
    simp only [if_pos p1]
    exact q4 _ r1
theorem dgraph_ok (hc : Bytes code) (a s : Int) (most : Nat) (hm : 1 ≤ most) (hm8 : most ≤ 8) (h0 : 0 ≤ a) (h1 : a ≤ 1048576) :
    ∃ sz b a' s', Ev (fun k => spec_l1Cur_graph.f k code a s (most : Int)) (sz, b, a', s') ∧ 1 ≤ b.length ∧ b.length ≤ 8 ∧ a ≤ a' ∧ a' ≤ a + 200 := by
  obtain ⟨x, a1, s1, e, x0, x1, x2, a0, a2⟩ := pick_ok hc a s (most : Int) h0 (by omega) (by omega)
  have hx : x < 8 := by
    by_cases c : 1 ≤ (most : Int)
    · have := x1 c; omega
    · have := x2 (by omega); omega
  obtain ⟨m, rfl⟩ := Int.eq_ofNat_of_zero_le x0
  have hw : wrap64 (1 + (m : Int)) = ((m + 1 : Nat) : Int) := by rw [wrap_id (by omega) (by omega)]; omega
  obtain ⟨od, a3, s3, f, fm, b0, b2⟩ := among_ok hc a1 s1 [2, 3] (by simp) (by simp) (by omega) (by omega)
  have hod : od ≤ 1000 := by simp at fm; omega
  obtain ⟨sz', b', a', s', q1, q2, q3, q4⟩ := dgraph_l0 hc (m + 1) (by omega) (by omega) od ((m + 1 : Nat) : Int) hod (m + 1) 0 (List.replicate (m + 1) 0) a3 s3 (by omega) (sets_zeroC (by omega) (by omega)) (by omega) (by omega)
  refine ⟨sz', b', a', s', ?_, by omega, by omega, by omega, by omega⟩
  have e0 : ((0 : Nat) : Int) = 0 := by simp
  rw [e0, ints_zeroC] at q1
  have e1 : (((m + 1 : Nat) : Int)).toNat = m + 1 := by simp
  have p1 : (0 : Int) ≤ ((m + 1 : Nat) : Int) := by omega
  have p3 : (((m + 1 : Nat) : Int)).toNat ≤ 35184372088832 := by rw [e1]; omega
  have key : ∀ k, spec_l1Cur_graph.f k code a s (most : Int) = spec_l1Cur_graph.l0 k ((m + 1 : Nat) : Int) od 0 code a3 s3 ((m + 1 : Nat) : Int) (List.replicate (m + 1) 0) := fun k => by
    unfold spec_l1Cur_graph.f
    rw [e, Option.bind_some, hw, if_pos p1, if_pos p3, f, Option.bind_some, e1]
  rw [show (fun k => spec_l1Cur_graph.f k code a s (most : Int)) = fun k => spec_l1Cur_graph.l0 k ((m + 1 : Nat) : Int) od 0 code a3 s3 ((m + 1 : Nat) : Int) (List.replicate (m + 1) 0) from funext key]
  exact q1
theorem degrees_ok (hc : Bytes code) (a s : Int) (most : Nat) (hm : 1 ≤ most) (hm8 : most ≤ 8) (h0 : 0 ≤ a) (h1 : a ≤ 1000000) :
    ∃ r a' s', Ev (fun k => spec_l1Cur_degrees.f k code a s (most : Int)) (r, a', s') ∧ r.length ≤ 9 := by
  obtain ⟨b, a1, s1, e1, b0, b1⟩ := one_ok hc a s 3 h0 (by omega) (by omega)
  unfold spec_l1Cur_degrees.f
  simp only [e1, Option.bind_some]
  cases b with
  | true =>
    obtain ⟨r, a', s', h2, h3, h4, h5, h6⟩ := anyList_ok hc a1 s1 6 (by omega) (by omega) (by omega) (by omega)
    refine ⟨r, a', s', ?_, h3⟩
    simp only [if_true]
    exact Ev.bind h2 (Ev.now _)
  | false =>
    simp only [Bool.false_eq_true, if_false]
    obtain ⟨sz, b, a2, s2, g1, g2, g3, g4, g5⟩ := dgraph_ok hc a1 s1 most hm hm8 (by omega) (by omega)
    obtain ⟨c, k1, k2⟩ := (deGood_f sz b (by simp only [BM]; omega)).ev
    cases c with
    | false =>
      obtain ⟨r, a', s', h2, h3, h4, h5, h6, h7⟩ := list_ok hc a2 s2 6 (by omega) (by omega) (by omega) (by omega)
      refine ⟨r, a', s', Ev.bind g1 (Ev.bind k1 ?_), by omega⟩
      simp only [Bool.false_eq_true, if_false]
      exact Ev.bind h2 (Ev.now _)
    | true =>
      obtain ⟨n, ns, rfl, rfl, hG⟩ := k2.1 rfl
      have hs := hG.1.1
      have hlen := hs.len
      have hn := hs.n8
      have hn1 := hs.n1
      have hd := deg_ok hG
      obtain ⟨b2, a3, s3, e3, c0, c1⟩ := one_ok hc a2 s2 6 (by omega) (by omega) (by omega)
      have hlD : (ints (ns.map pop)).length = n := by rw [ints_length, List.length_map, hlen]
      cases b2 with
      | false =>
        refine ⟨ints (ns.map pop), a3, s3, Ev.bind g1 (Ev.bind k1 ?_), by omega⟩
        simp only [if_true]
        refine Ev.bind hd ?_
        simp only [e3, Option.bind_some, Bool.false_eq_true, if_false]
        exact Ev.now _
      | true =>
        obtain ⟨y, a4, s4, f, y0, y1, -, d0, d2⟩ := pick_ok hc a3 s3 ((ints (ns.map pop)).length : Int) (by omega) (by omega) (by omega)
        have := y1 (by omega)
        refine ⟨(ints (ns.map pop)).set y.toNat (wrap64 (rd (ints (ns.map pop)) y + 1)), a4, s4, Ev.bind g1 (Ev.bind k1 ?_), by rw [List.length_set]; omega⟩
        simp only [if_true]
        refine Ev.bind hd ?_
        simp only [e3, Option.bind_some, if_true, f, if_pos y0, if_pos this]
        exact Ev.now _
end
theorem ySame_l0 (l : List Int) (h : l.length ≤ BM) : ∀ d i : Nat, i + d = l.length → Ev (fun k => laws_ySame.l0 k l l (l.length : Int) (i : Int)) true := by
  intro d
  induction d with
  | zero =>
    intro i hi
    refine Ev.step (fun k => by rw [laws_ySame.l0]) ?_
    have p1 : ¬ (i : Int) < (l.length : Int) := by omega
    simp only [if_neg p1]
    exact Ev.now _
  | succ d ih =>
    intro i hi
    refine Ev.step (fun k => by rw [laws_ySame.l0]) ?_
    have p1 : (i : Int) < (l.length : Int) := by omega
    have p2 : (0 : Int) ≤ (i : Int) := by omega
    simp only [BM] at h
    simp only [if_pos p1, if_pos p2, if_true, wrap_nat i (show i < 9223372036854775807 by omega)]
    exact ih (i + 1) (by omega)
theorem ySame_same (l : List Int) (h : l.length ≤ BM) : Ev (fun k => laws_ySame.f k l l) true := by
  unfold laws_ySame.f
  simp only [if_true]
  exact ySame_l0 l h l.length 0 (by omega)
theorem big_f {a b : List Int} (ha : ¬ a.length > 1048576) : laws_big.f a b = some (decide (a.length + b.length > 1048576)) := by
  unfold laws_big.f
  rw [if_neg (by omega), wrap_id (by omega) (by omega)]
  congr 1
  by_cases h : a.length + b.length > 1048576
  · rw [decide_eq_true h, decide_eq_true (by omega)]
  · rw [decide_eq_false h, decide_eq_false (by omega)]
end Go.Proofs.YtcheoendfcgjgaaDoor.K
namespace Go.Proofs.YtcheoendfcgjgaaDoor.Pure
open Go.RowKit Go.Proofs.YtcheoendfcgjgaaDoorW.PrintWords Go.Proofs.YtcheoendfcgjgaaDoor.P Go.Proofs.YtcheoendfcgjgaaDoor.K
theorem yGraph_same (n : Int) (l : List Int) (h : l.length ≤ BM) : Ev (fun k => laws_yGraph.f k n l n l) true := by
  unfold laws_yGraph.f
  simp only [if_true]
  exact Ev.bind (ySame_same l h) (Ev.now _)
theorem rd_pop (ns : List Nat) (i : Nat) (hi : i < ns.length) : rd (ints (ns.map pop)) (i : Int) = ((pop (ns.getD i 0) : Nat) : Int) := by
  rw [rd_ints, List.getD_eq_getElem?_getD, List.getElem?_map, List.getD_eq_getElem?_getD, List.getElem?_eq_getElem hi]
  rfl
theorem gl2 {n : Nat} {ns : List Nat} (h : Gr n ns) (b : List Int) : ∀ d i, i + d = n → Ev (fun k => laws_FnGraphsBuilt.l2 k (ints (ns.map pop)) (ints ((mirrorUpto n ns n).map pop)) (n : Int) (i : Int) (n : Int) b) true := by
  have hs := h.1.1
  have hm := mirror_sets hs
  have hn := hs.n8
  have e1 : (ints (ns.map pop)).length = n := by rw [ints_length, List.length_map, hs.len]
  have e2 : (ints ((mirrorUpto n ns n).map pop)).length = n := by rw [ints_length, List.length_map, hm.len]
  intro d
  induction d with
  | zero =>
    intro i hi
    refine Ev.step (fun k => ?_) (Ev.now true)
    rw [laws_FnGraphsBuilt.l2, if_neg (by omega)]
  | succ d ih =>
    intro i hi
    refine Ev.step (fun k => ?_) (ih (i + 1) (by omega))
    have w := mirror_wins h i (by omega)
    rw [laws_FnGraphsBuilt.l2, if_pos (by omega), if_pos (by omega), if_pos (by omega), if_pos (by omega), rd_pop ns i (by rw [hs.len]; omega), rd_pop _ i (by rw [hm.len]; omega), pop_wins hs, pop_wins hm, wrap_id (by omega) (by omega), wrap_id (by omega) (by omega), if_pos (by omega), wrap_nat i (by omega)]
theorem gj5 {l : List Int} (hc : Bytes l) : Ev (fun k => laws_FnGraphsBuilt.j5 k l) true := by
  obtain ⟨sz, b, a', s', hd, h1, h8, -, -⟩ := dgraph_ok hc 0 0 7 (by omega) (by omega) (by omega) (by omega)
  have hdraw : Ev (fun k => spec_DrawOppositeGraph.f k l) (sz, b) := by
    unfold spec_DrawOppositeGraph.f spec_DrawIsGraph.f
    exact Ev.bind (Ev.bind hd (Ev.now _)) (Ev.now _)
  have hb : b.length ≤ BM := by simp only [BM]; omega
  refine Ev.step (fun k => by rw [laws_FnGraphsBuilt.j5]) (Ev.bind hdraw ?_)
  by_cases hG : IsGr sz b
  · obtain ⟨n, ns, rfl, rfl, hG⟩ := hG
    have hn := hG.1.1.n8
    obtain ⟨m1, m2⟩ := mirror_of hG
    have hM := mirror_gr hG
    obtain ⟨-, k2⟩ := mirror_of hM
    rw [mirror_mirror hG] at k2
    refine Ev.bind m2 (Ev.bind m1 ?_)
    simp only [bne_self_eq_false, Bool.false_eq_true, if_false]
    refine Ev.bind (yGraph_same _ _ (by rw [ints_length, hM.1.1.len]; simp only [BM]; omega)) ?_
    refine Ev.step (fun k => by rw [laws_FnGraphsBuilt.j6]) ?_
    simp only [Bool.not_true, Bool.false_eq_true, if_false, if_true]
    refine Ev.bind (degreesOf_k hG) (Ev.bind (degreesOf_k hM) (Ev.bind k2 ?_))
    simp only [if_true]
    refine Ev.bind (yGraph_same _ _ hb) ?_
    refine Ev.step (fun k => by rw [laws_FnGraphsBuilt.j7]) ?_
    simp only [Bool.not_true, Bool.false_eq_true, if_false]
    rw [show ((ints (ns.map pop)).length : Int) = (n : Int) by rw [ints_length, List.length_map, hG.1.1.len]]
    exact gl2 hG (ints ns) n 0 (by omega)
  · obtain ⟨m1, m2⟩ := mirror_no hb hG
    refine Ev.bind m2 (Ev.bind m1 ?_)
    simp only [bne_self_eq_false, Bool.false_eq_true, if_false]
    refine Ev.bind (yGraph_same _ _ (by simp)) ?_
    refine Ev.step (fun k => by rw [laws_FnGraphsBuilt.j6]) ?_
    simp only [Bool.not_true, Bool.false_eq_true, if_false]
    exact Ev.now _
theorem take_sum_succ (r : List Int) (i : Nat) (h : i < r.length) : (r.take (i + 1)).sum = (r.take i).sum + rd r (i : Int) := by
  rw [rd, Int.toNat_natCast, List.getD_eq_getElem?_getD, List.getElem?_eq_getElem h, List.take_succ_eq_append_getElem h, List.sum_append]
  simp
theorem gl1 {l r : List Int} (hc : Bytes l) (hr : Small r) (K : Nat) (h1 : 1 ≤ K) (hK : K ≤ r.length) (hgt : (r.take K).sum > mostK r K) : Ev (fun k => laws_FnGraphsBuilt.l1 k l (K : Int) true 0 (wrap64 ((K : Int) * (wrap64 ((K : Int) - 1)))) r (r.length : Int) 0) true := by
  obtain ⟨hr8, hrb⟩ := hr
  obtain ⟨w1, w2, w3⟩ := kk K h1 (by omega)
  rw [w1]
  have base : Ev (fun k => laws_FnGraphsBuilt.l1 k l (K : Int) true (r.take (min r.length K)).sum ((K : Int) * ((K : Int) - 1) + lsum K (r.drop K) (r.length - K)) r (r.length : Int) (r.length : Int)) true := by
    refine Ev.step (fun k => ?_) (gj5 hc)
    rw [laws_FnGraphsBuilt.l1, if_neg (by omega), if_pos rfl, if_neg]
    rw [show min r.length K = K by omega]
    unfold mostK at hgt
    rw [List.length_drop] at hgt
    omega
  have key := upLoop (fun i k => laws_FnGraphsBuilt.l1 k l (K : Int) true (r.take (min i K)).sum ((K : Int) * ((K : Int) - 1) + lsum K (r.drop K) (i - K)) r (r.length : Int) (i : Int)) r.length (fun i hi x hx => ?_) r.length 0 (by omega) true base
  · have e0 : lsum (K : Int) (r.drop K) (0 - K) = 0 := by simp [lsum]
    rw [e0, Int.add_zero] at key
    simpa using key
  · have hb := take_bd hrb i (by omega)
    have hrd : 0 ≤ rd r (i : Int) ∧ rd r (i : Int) ≤ 60 := by
      rw [rd, Int.toNat_natCast, List.getD_eq_getElem?_getD, List.getElem?_eq_getElem hi]
      exact hrb _ (List.getElem_mem hi)
    have hd : ∀ x ∈ r.drop K, 0 ≤ x ∧ x ≤ 60 := fun x hx => hrb x (List.mem_of_mem_drop hx)
    have hdl : (r.drop K).length = r.length - K := List.length_drop ..
    refine Ev.step (fun k => ?_) hx
    rw [laws_FnGraphsBuilt.l1, if_pos (by omega), if_pos (by omega), if_pos (by omega)]
    by_cases c : i < K
    · rw [if_pos (by omega), show min i K = i by omega, show min (i + 1) K = i + 1 by omega, show i - K = 0 by omega, show i + 1 - K = 0 by omega, take_sum_succ r i hi, wrap_nat i (by omega), wrap_id (by omega) (by omega)]
    · have hl := lsum_bd (k := (K : Int)) (by omega) hd (i - K) (by omega)
      have hs := lsum_succ (K : Int) (r.drop K) (i - K) (by omega)
      have hrd2 : rd (r.drop K) ((i - K : Nat) : Int) = rd r (i : Int) := by
        rw [rd, rd, Int.toNat_natCast, Int.toNat_natCast, List.getD_eq_getElem?_getD, List.getD_eq_getElem?_getD, List.getElem?_drop, show K + (i - K) = i by omega]
      rw [hrd2] at hs
      rw [if_neg (by omega), show min i K = K by omega, show min (i + 1) K = K by omega, show i + 1 - K = i - K + 1 by omega, hs, wrap_nat i (by omega)]
      by_cases c2 : rd r (i : Int) < (K : Int)
      · rw [if_pos c2, wrap_id (by omega) (by omega), show min (K : Int) (rd r (i : Int)) = rd r (i : Int) by omega, Int.add_assoc]
      · rw [if_neg c2, wrap_id (by omega) (by omega), show min (K : Int) (rd r (i : Int)) = (K : Int) by omega, Int.add_assoc]
theorem gl0 {c l : List Int} (h8 : l.length ≤ 8) (hb : ∀ x ∈ l, 0 ≤ x ∧ x ≤ 60) (ok one : Bool) (K m : Int) (ns : List Int) (hok : (if one = true then false else decide (Int.tmod l.sum 2 = 0)) = ok) (hx : Ev (fun k => laws_FnGraphsBuilt.j2 k c l ok K one m ns) true) : Ev (fun k => laws_FnGraphsBuilt.l0 k c l ok K one 0 l (l.length : Int) 0 m ns) true := by
  have base : Ev (fun k => laws_FnGraphsBuilt.l0 k c l ok K one (l.take l.length).sum l (l.length : Int) (l.length : Int) m ns) true := by
    refine Ev.step (fun k => ?_) hx
    rw [laws_FnGraphsBuilt.l0, if_neg (by omega), List.take_length]
    cases one with
    | true =>
      simp only [if_true] at hok
      subst hok
      simp
    | false =>
      simp only [Bool.false_eq_true, if_false] at hok
      subst hok
      have : (decide (Int.tmod l.sum 2 = 0) != (Int.tmod l.sum 2 == 0)) = false := by
        by_cases q : Int.tmod l.sum 2 = 0 <;> simp [q]
      simp only [Bool.false_eq_true, if_false, this]
  have key := upLoop (fun i k => laws_FnGraphsBuilt.l0 k c l ok K one (l.take i).sum l (l.length : Int) (i : Int) m ns) l.length (fun i hi x hx => ?_) l.length 0 (by omega) true base
  · simpa using key
  · have hb1 := take_bd hb i (by omega)
    have hrd : 0 ≤ rd l (i : Int) ∧ rd l (i : Int) ≤ 60 := by
      rw [rd, Int.toNat_natCast, List.getD_eq_getElem?_getD, List.getElem?_eq_getElem hi]
      exact hb _ (List.getElem_mem hi)
    refine Ev.step (fun k => ?_) hx
    rw [laws_FnGraphsBuilt.l0, if_pos (by omega), if_pos (by omega), if_pos (by omega), take_sum_succ l i hi, wrap_nat i (by omega), wrap_id (by omega) (by omega)]
theorem gj3 {c l : List Int} (hc : Bytes c) (hb : l.length ≤ BM) (hl : isList l = true) (h0 : refOf l ≠ 0) : Ev (fun k => laws_FnGraphsBuilt.j3 k c l (refOf l) true) true := by
  obtain ⟨j, j1, j2, j3, j4⟩ := refK_hit (rankL l) (rankL l).length 1 h0
  have e : refOf l = (j : Int) := j3
  refine Ev.step (fun k => by rw [laws_FnGraphsBuilt.j3]) ?_
  simp only [if_true]
  refine Ev.bind (rankingOf_k hl hb) ?_
  rw [e]
  exact gl1 hc (isList_small hl).2 j j1 (by omega) j4
theorem gj3n {c l : List Int} (hc : Bytes c) (K : Int) : Ev (fun k => laws_FnGraphsBuilt.j3 k c l K false) true := by
  refine Ev.step (fun k => by rw [laws_FnGraphsBuilt.j3]) ?_
  simp only [Bool.false_eq_true, if_false]
  exact gj5 hc
theorem FnGraphsBuilt : laws_FnGraphsBuilt.Pure := by
  intro l0 l1 h0 h0z hw0 h1 h1z hw1
  refine Ev.rounds (g := fun k => laws_FnGraphsBuilt.f k l0 l1) ?_
  unfold laws_FnGraphsBuilt.f
  by_cases hb0 : l0.length > 1048576
  · have e : laws_big.f l0 l1 = some true := by unfold laws_big.f; rw [if_pos (by omega)]
    simp only [e, Option.bind_some, if_true]
    exact Ev.now _
  · rw [big_f hb0]
    simp only [Option.bind_some]
    refine Ev.ite (fun _ => Ev.now _) (fun h => ?_)
    have h : ¬ l0.length + l1.length > 1048576 := by simpa using h
    have hl0 : l0.length ≤ 1048576 := by omega
    have hc : Bytes l1 := bytes_of (by omega) hw1
    obtain ⟨a, a', s', hd, hal⟩ := degrees_ok (bytes_of hl0 hw0) 0 0 8 (by omega) (by omega) (by omega) (by omega)
    have hdraw : Ev (fun k => spec_DrawBuildGraph.f k l0) a := by
      unfold spec_DrawBuildGraph.f spec_DrawRefusingK.f
      exact Ev.bind (Ev.bind hd (Ev.now _)) (Ev.now _)
    have haB : a.length ≤ BM := by simp only [BM]; omega
    obtain ⟨r1, b1, b2, b3, b4⟩ := buildG_full a haB
    obtain ⟨r2, c1, c2, c3⟩ := refK_full a haB
    have d1 := graphic_k a haB
    have hI := IsList_f a haB
    have hml : r1.2.1.length ≤ BM := by simp only [BM]; omega
    refine Ev.bind hdraw (Ev.bind b2 (Ev.bind b1 (Ev.bind c2 (Ev.bind c1 (Ev.bind d1 ?_)))))
    simp only [bne_self_eq_false, Bool.false_eq_true, if_false]
    refine Ev.bind (yGraph_same _ _ hml) ?_
    simp only [if_true]
    by_cases hl : isList a = true
    · obtain ⟨-, h8, h3⟩ := isList_mem hl
      rw [hl] at hI
      by_cases hr : refOf a = 0
      · rw [if_neg (fun h => h.2 hr)] at c3
        subst c3
        by_cases hp : Int.tmod a.sum 2 = 0
        · have hg : gB a = true := (gB_iff a).2 ⟨hr, hp⟩
          rw [if_pos ⟨hl, hg⟩] at b4
          subst b4
          obtain ⟨hG, hs⟩ := built_graph hl hr hp
          obtain ⟨ns, hns⟩ : ∃ ns, ns = bgGo a.length a (List.replicate a.length 0) := ⟨_, rfl⟩
          rw [← hns] at hG hs ⊢
          simp only [hl, hg, Bool.and_self, bne_self_eq_false, Bool.false_eq_true, if_false, if_true]
          refine Ev.bind hI ?_
          simp only [bne_self_eq_false]
          refine Ev.step (fun k => by rw [laws_FnGraphsBuilt.j0, if_neg (by decide), if_pos rfl]) ?_
          refine gl0 h8 h3 true false 0 (a.length : Int) (ints ns) (by simp [hp]) ?_
          refine Ev.step (fun k => by rw [laws_FnGraphsBuilt.j2, if_pos rfl]) ?_
          refine Ev.bind (degreesOf_k hG) ?_
          simp only [if_true, hs]
          refine Ev.bind (ySame_same a haB) ?_
          simp only [if_true]
          refine Ev.bind (isGraph_k hG) ?_
          simp only [if_true]
          exact gj3n hc 0
        · have hg : gB a = false := by
            rw [Bool.eq_false_iff]; exact fun q => hp ((gB_iff a).1 q).2
          rw [if_neg (fun q => by rw [hg] at q; cases q.2)] at b4
          subst b4
          simp only [hl, hg, Bool.and_false, bne_self_eq_false, Bool.false_eq_true, if_false, if_true]
          refine Ev.bind hI ?_
          simp only [bne_self_eq_false]
          refine Ev.step (fun k => by rw [laws_FnGraphsBuilt.j0, if_neg (by decide), if_pos rfl]) ?_
          refine gl0 h8 h3 false false 0 0 [] (by simp [hp]) ?_
          refine Ev.step (fun k => by rw [laws_FnGraphsBuilt.j2, if_neg (by decide)]) ?_
          exact gj3n hc 0
      · have hg : gB a = false := by
          rw [Bool.eq_false_iff]; exact fun q => hr ((gB_iff a).1 q).1
        rw [if_neg (fun q => by rw [hg] at q; cases q.2)] at b4
        rw [if_pos ⟨hl, hr⟩] at c3
        subst b4 c3
        simp only [hl, hg, Bool.and_false, bne_self_eq_false, Bool.false_eq_true, if_false, if_true]
        refine Ev.bind hI ?_
        simp only [bne_self_eq_false]
        refine Ev.step (fun k => by rw [laws_FnGraphsBuilt.j0, if_neg (by decide), if_pos rfl]) ?_
        refine gl0 h8 h3 false true (refOf a) 0 [] (by simp) ?_
        refine Ev.step (fun k => by rw [laws_FnGraphsBuilt.j2, if_neg (by decide)]) ?_
        exact gj3 hc haB hl hr
    · have hl : isList a = false := by simpa using hl
      rw [hl] at hI
      rw [if_neg (fun q => by rw [hl] at q; cases q.1)] at b4 c3
      subst b4 c3
      simp only [hl, Bool.false_and, bne_self_eq_false, Bool.false_eq_true, if_false, if_true]
      refine Ev.bind hI ?_
      simp only [bne_self_eq_false]
      refine Ev.step (fun k => by rw [laws_FnGraphsBuilt.j0, if_neg (by decide), if_neg (by decide)]) ?_
      refine Ev.step (fun k => by rw [laws_FnGraphsBuilt.j2, if_neg (by decide)]) ?_
      exact gj3n hc 0
end Go.Proofs.YtcheoendfcgjgaaDoor.Pure
namespace Go.Proofs.YtcheoendfcgjgaaDoor.K
open Go.RowKit Go.ChangeShapes Go.WideShapes Go.ChangeAt Go.Deep Go.Proofs.YtcheoendfcgjgaaDoorW.PrintWords
section
variable {H : Type} {enc : TypeId × Value → H} {P : Program} {w : World}
theorem open_row8 {t e : TypeId} {fuel : Nat} {cs : List Value} {x : DataW H × List MemPlace} (ht : P.underlying t = some (.slice e)) (he : P.underlying e = some (.int .u8)) (hc : P.cellsOf e = 1)
    (h : DataW.trod enc P w 0 (fun _ => true) true fuel t cs = some x) :
    ∃ (A : Option Addr) (c : Nat) (l : List Int), cs = [.slice A l.length c] ∧ l.length ≤ c ∧ l.length ≤ maxLen ∧ (∀ n ∈ l, (Lit.int .u8 n).wf = true) ∧ Kd.C (Kd.int .u8) w A l.length l := by
  rcases open_ints ht he hc h with ⟨rfl, _⟩ | ⟨a, l, c, zs, rfl, _, hl, hm, hz, _, hcell, hwz⟩
  · exact ⟨none, 0, [], rfl, Nat.le_refl _, by simp [maxLen], by simp, Kd.C_nil _ _⟩
  · obtain ⟨l0, rfl, hr0, hm0, hw0, hc0⟩ := ReadsInt.ofRowC (k := .u8) (w := w) (a := some a) (len := l) (cap := c) (zs := zs) (.inr ⟨a, rfl, hl, hm, by simpa using hz, hcell, hwz⟩)
    exact ⟨some a, c, l0, rfl, hc0, hm0, hw0, Kd.C_of_reads (d := (0 : Int)) (h1 := fun _ => rfl) hr0⟩
end
end Go.Proofs.YtcheoendfcgjgaaDoor.K
namespace Go.Proofs.YtcheoendfcgjgaaDoor.fnGraphsBuilt
open Go.ChangeShapes Go.WideShapes Go.ChangeAt Go.RowKit
open Go.ChangeMaps (open_string shut_string)
theorem own : ownKnob Tryd.prog.godebug = none := by kernel_rfl
theorem laidOut : laidOutB Tryd.prog = true := by kernel_rfl
theorem gTab : Tryd.prog.globalNamed "math/bits.deBruijn64tab" = some 1 := by kernel_rfl
theorem gTabType : (Tryd.prog.globals[1]?).map (·.type) = some 92 := by kernel_rfl
theorem cellsT : Tryd.prog.cellsOf 92 = 64 := by kernel_rfl
theorem cellsE : Tryd.prog.cellsOf 5 = 1 := by kernel_rfl
theorem table {W : World} (h : laidMetH Tryd.prog Rows.fnGraphsBuiltRow.laid W) : K.TabOK W := by
  have h2 : laidMet Tryd.prog [("math/bits.deBruijn32tab", Rows.laid_math_bits_deBruijn32tab), ("math/bits.deBruijn64tab", Rows.laid_math_bits_deBruijn64tab)] W := h
  have h3 : laidMet Tryd.prog (("math/bits.deBruijn64tab", Lib.tabData .u8 K.zs64) :: []) W := h2.tail
  have h4 := Lib.tabIs_of_head gTab gTabType Tryd.underlying92 Tryd.underlying5 cellsE cellsT h3
  intro j hj
  have h5 := h4.cell gTab j hj
  rw [h5, K.zs64_at j hj]
theorem contract (H : Type) (enc : TypeId × Value → H) (W : World) (base : Nat) (args : Array Value) (ds gs : List (DataW H)) (before : List MemPlace)
    (hval0 : ∀ (j : Nat) t v, Tryd.f4.params[j]? = some t → args[j]? = some v → Value.okWide Tryd.prog W .any base t v)
    (hW : DataW.Whole enc Tryd.prog Tryd.f4.params.toList Rows.fnGraphsBuiltSpec.vars false W args.toList ds gs before) (hsz0 : (DataW.weightsEach Tryd.prog (Tryd.f4.params.toList ++ Rows.fnGraphsBuiltSpec.plain.varTypes Tryd.prog) (ds ++ gs)).all (· ≤ reachBytes) = true) (hL : laidMetH Tryd.prog Rows.fnGraphsBuiltRow.laid W) :
    Calls Tryd.prog 4 args W fun e W' => ∃ v, e = .returned v ∧ Rows.fnGraphsBuiltSpec.post enc Tryd.prog Tryd.f4 false true false false W args v W' := by
  have hsz : (DataW.weightsEach Tryd.prog (Tryd.f4.params.toList ++ Rows.fnGraphsBuiltSpec.plain.varTypes Tryd.prog) (ds ++ gs)).all (· ≤ reachBytes) = true := hsz0
  have hval : ∀ (j : Nat) t v, Tryd.f4.params[j]? = some t → args[j]? = some v → Value.okWide Tryd.prog W .any base t v := hval0
  have hW' := hW
  obtain ⟨p, q, hA0, hV, rfl, hfz, hnd⟩ := hW
  have hA : DataW.TrodAll enc Tryd.prog W 0 (fun _ => true) true Tryd.f4.params.toList args.toList ds p := hA0
  rw [Tryd.params4] at hA hval hsz
  obtain ⟨v0, vs0, d0, ds0, p0, q0, hargs, rfl, rfl, h0, r0⟩ := trodAll_cons hA
  obtain ⟨v1, vs1, d1, ds1, p1, q1, rfl, rfl, rfl, h1, r1⟩ := trodAll_cons r0
  obtain ⟨rfl, rfl, rfl⟩ := trodAll_nil r1
  obtain rfl : args = #[v0, v1] := by cases args; simp_all
  obtain ⟨rfl, rfl⟩ := trodVars_none hV
  obtain ⟨a0, len0, cap0, rfl⟩ := okWide_slice Tryd.underlying22 (hval 0 22 v0 rfl rfl)
  have k0 := h0
  have lt0 : ∀ x ∈ p0, x.block < W.heap.size := by obtain ⟨m, hm⟩ := k0; exact DataW.trod_lt m _ _ _ hm
  have y0 : len0 * 1 ≤ 140737488351232 := Go.Proofs.YtcheoendfcgjgaaDoorW.PrintWords.sized_ints hsz (j := 0) (t := 22) rfl rfl Tryd.underlying22 Tryd.underlying5 (by kernel_rfl) (by kernel_rfl) h0
  obtain ⟨fuel0, hf0⟩ := h0
  obtain ⟨A0, c0, l0, hcs0, hc0, hm0, hw0, hr0⟩ := K.open_row8 Tryd.underlying22 Tryd.underlying5 (by kernel_rfl) hf0
  simp only [Value.cells, List.cons.injEq, and_true, Value.slice.injEq] at hcs0
  obtain ⟨rfl, rfl, rfl⟩ := hcs0
  obtain ⟨a1, len1, cap1, rfl⟩ := okWide_slice Tryd.underlying22 (hval 1 22 v1 rfl rfl)
  have k1 := h1
  have lt1 : ∀ x ∈ p1, x.block < W.heap.size := by obtain ⟨m, hm⟩ := k1; exact DataW.trod_lt m _ _ _ hm
  have y1 : len1 * 1 ≤ 140737488351232 := Go.Proofs.YtcheoendfcgjgaaDoorW.PrintWords.sized_ints hsz (j := 1) (t := 22) rfl rfl Tryd.underlying22 Tryd.underlying5 (by kernel_rfl) (by kernel_rfl) h1
  obtain ⟨fuel1, hf1⟩ := h1
  obtain ⟨A1, c1, l1, hcs1, hc1, hm1, hw1, hr1⟩ := K.open_row8 Tryd.underlying22 Tryd.underlying5 (by kernel_rfl) hf1
  simp only [Value.cells, List.cons.injEq, and_true, Value.slice.injEq] at hcs1
  obtain ⟨rfl, rfl, rfl⟩ := hcs1
  clear hA0 hval0 hsz0 hsz
  obtain ⟨k, hk⟩ := Pure.FnGraphsBuilt l0 l1 hm0 y0 hw0 hm1 y1 hw1
  refine (P.laws_FnGraphsBuilt.calls k _ _ l0 _ _ l1 true W (table hL) hr0 hc0 hr1 hc1 hk).mono fun e W' ⟨he, bel⟩ => ?_
  subst he
  exact ⟨_, rfl, _, _, _, [], _, [], hW', trodAll_mk1 (shut_bool Tryd.underlying4 _), (trodAll_cons_mk (Below.trod laidOut (by kernel_rfl) (of_decide_eq_true (by kernel_rfl)) k0 bel lt0) (trodAll_cons_mk (Below.trod laidOut (by kernel_rfl) (of_decide_eq_true (by kernel_rfl)) k1 bel lt1) trodAll_mk0)), rfl, bel.frame _, fun h => by cases h⟩
noncomputable def laidWorld (os : Os) : World :=
  { World.holding Tryd.prog os ⟨#[], #[], []⟩ with heap := (((World.holding Tryd.prog os ⟨#[], #[], []⟩).heap.modify 0 fun | .cells _ t frozen => .cells #[.int .u8 0, .int .u8 1, .int .u8 28, .int .u8 2, .int .u8 29, .int .u8 14, .int .u8 24, .int .u8 3, .int .u8 30, .int .u8 22, .int .u8 20, .int .u8 15, .int .u8 25, .int .u8 17, .int .u8 4, .int .u8 8, .int .u8 31, .int .u8 27, .int .u8 13, .int .u8 23, .int .u8 21, .int .u8 19, .int .u8 16, .int .u8 7, .int .u8 26, .int .u8 12, .int .u8 18, .int .u8 6, .int .u8 11, .int .u8 5, .int .u8 10, .int .u8 9] t frozen | o => o).modify 1 fun | .cells _ t frozen => .cells #[.int .u8 0, .int .u8 1, .int .u8 56, .int .u8 2, .int .u8 57, .int .u8 49, .int .u8 28, .int .u8 3, .int .u8 61, .int .u8 58, .int .u8 42, .int .u8 50, .int .u8 38, .int .u8 29, .int .u8 17, .int .u8 4, .int .u8 62, .int .u8 47, .int .u8 59, .int .u8 36, .int .u8 45, .int .u8 43, .int .u8 51, .int .u8 22, .int .u8 53, .int .u8 39, .int .u8 33, .int .u8 30, .int .u8 24, .int .u8 18, .int .u8 12, .int .u8 5, .int .u8 63, .int .u8 55, .int .u8 48, .int .u8 27, .int .u8 60, .int .u8 41, .int .u8 37, .int .u8 16, .int .u8 46, .int .u8 35, .int .u8 44, .int .u8 21, .int .u8 52, .int .u8 32, .int .u8 23, .int .u8 11, .int .u8 54, .int .u8 26, .int .u8 40, .int .u8 15, .int .u8 34, .int .u8 20, .int .u8 31, .int .u8 10, .int .u8 25, .int .u8 14, .int .u8 19, .int .u8 9, .int .u8 13, .int .u8 8, .int .u8 7, .int .u8 6] t frozen | o => o) }
theorem laid_met (os : Os) : laidMet Tryd.prog Rows.fnGraphsBuiltRow.laid ((laidWorld os).forCall (fun _ _ => 0) ⟨#[], #[.slice none 0 0, .slice none 0 0], []⟩).memory :=
  laidMet_of_run' 8 (by kernel_rfl) (by kernel_rfl)
theorem reads (os : Os) {H : Type} (enc : TypeId × Value → H) : ∃ places, DataW.whole enc Tryd.prog ((laidWorld os).forCall (fun _ _ => 0) ⟨#[], #[.slice none 0 0, .slice none 0 0], []⟩).memory Tryd.f4.params.toList Rows.fnGraphsBuiltSpec.vars false #[.slice none 0 0, .slice none 0 0].toList 8 = some ([.nil, .nil], [], places) :=
  ⟨[], by kernel_rfl⟩
set_option maxRecDepth 100000 in
theorem lifted (os : Os) (started : os.Started) (H : Type) (enc : TypeId × Value → H) (F : Stop.Interp) :
    ReturnsInHanded {} Tryd.checked os 4 .any ((OpenSpec.ofChange Rows.fnGraphsBuiltSpec).preRow enc Tryd.prog Tryd.f4 Rows.fnGraphsBuiltRow.domain false Rows.fnGraphsBuiltRow.laid) (((OpenSpec.ofChange Rows.fnGraphsBuiltSpec).at F).post enc Tryd.prog Tryd.f4 false true false false) := by
  obtain ⟨places, hx⟩ := reads os enc
  refine returnsInHanded_of_row (C := Tryd.checked) (s := OpenSpec.ofChange Rows.fnGraphsBuiltSpec) own started (by kernel_rfl) Tryd.func4
    (witness_row_at (enc := enc) (C := Tryd.checked) false (laidWorld os) #[.slice none 0 0, .slice none 0 0] rfl (by kernel_rfl) (by kernel_rfl) (by kernel_rfl)
      (OpenSpec.preRow_of_cond 8 hx (by kernel_rfl) (fun k hk => by cases hk) (by kernel_rfl) (laid_met os))) ?_
  intro W base args ds gs before hval hW _ _ hsz hL _ _
  exact contract H enc W base args ds gs before hval hW hsz hL
set_option maxHeartbeats 4000000 in
theorem said : Rows.FnGraphsBuiltSaid :=
  OpenClaim.holds_of_cond 4 Tryd.f4 rfl rfl rfl rfl rfl rfl rfl ⟨rfl, rfl, rfl, rfl, rfl⟩ rfl rfl rfl rfl rfl (by kernel_rfl) Tryd.func4 (by kernel_rfl)
    (of_decide_eq_true (by kernel_rfl)) (by unfold Func.isWrapper; first | (rw [if_pos (by decide +kernel)]; kernel_rfl) | (rw [if_neg (by decide +kernel)]; exact ⟨rfl, rfl⟩))
    (fun os started H enc _ F => by rw [OpenClaim.pre_eq_preRow]; exact lifted os started H enc F)
theorem plain (f : FuncId) (fn : Func) (hf : Tryd.pinned.checked.prog.funcNamed "loop.example/g01113/laws.FnGraphsBuilt" = some f) (hfn : Tryd.pinned.checked.prog.funcs[f]? = some fn) :
    false = Tryd.pinned.checked.prog.looks [] ∧ ∀ (j : Nat) t, fn.params[j]? = some t → Tryd.pinned.checked.prog.wantsStandIn t = false := by
  obtain rfl : f = 4 := Option.some.inj ((show Tryd.prog.funcNamed "loop.example/g01113/laws.FnGraphsBuilt" = some 4 by kernel_rfl).symm.trans hf) |>.symm
  obtain rfl : fn = Tryd.f4 := (Option.some.inj (Tryd.func4.symm.trans hfn)).symm
  refine ⟨by kernel_rfl, fun j t ht => ?_⟩
  rw [Tryd.params4] at ht
  have hm := Array.mem_of_getElem? ht
  simp only [List.mem_toArray, List.mem_cons, List.not_mem_nil, or_false] at hm
  rcases hm with rfl | rfl
  · exact (show Tryd.prog.wantsStandIn 22 = false by kernel_rfl)
  · exact (show Tryd.prog.wantsStandIn 22 = false by kernel_rfl)
theorem card : Rows.FnGraphsBuiltCardSaid :=
  Claim7.holds_tied_plain_at .later [] _ _ _ _ said (fun _ h => by cases h) (by kernel_rfl) (fun _ h => by cases h) fnGraphsBuilt_row_tie rfl ⟨rfl, rfl⟩ (by kernel_rfl) rfl plain (by kernel_rfl)
#print axioms card
end Go.Proofs.YtcheoendfcgjgaaDoor.fnGraphsBuilt
namespace Go.Proofs.YtcheoendfcgjgaaDoor
theorem fnGraphsBuilt_holds : Rows.FnGraphsBuiltCardSaid := fnGraphsBuilt.card
end Go.Proofs.YtcheoendfcgjgaaDoor
