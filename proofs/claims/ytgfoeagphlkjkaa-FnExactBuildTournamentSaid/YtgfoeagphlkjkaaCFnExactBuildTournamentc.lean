/- Parts: contracts and plain lemmas for the law FnExactBuildTournament, part 3 of 4 (what the Go functions answer). -/
import Derived.Sort.OwnSortedInts
import Derived.ArgAppend
import Derived.Laws.CopyRow
import Derived.Laws.BitsLemmas
import Derived.Deep.RegionHeld3
import Derived.Deep.DrawnRows
import Derived.Deep.RegionLaw
import Derived.Shelf.SlSortCmp.Small
import Derived.Ground.SlsfProg
import Derived.Shelf.SlGeneric
import Derived.Shelf.Small.Bits
import Derived.Ground.NamesProg
import Derived.Test.YtgfoeagphlkjkaaProg
import Derived.Shelf.SlicesE.DeleteFunc
import Derived.Ground.SlgfProg
import Derived.WalkSpells
import Derived.Lib.BufferMore
import Derived.Shelf.SlSortCmp.NoneTotal
import Derived.Deep.AppendLies
import Derived.Shelf.SortM.Plain
import Derived.Ground.SlgmProg
import Derived.RangeFuncBox
import Derived.RangeFuncLeaves
import Derived.RangeFuncWrites
import Derived.Shelf.Abstract
import Derived.WalkKit
import Derived.OwnWalkIn
import Derived.TacticsInMore
import Derived.LoopNIn
import Derived.LoopIn
import Derived.Maps.AppendAt
import Derived.Test.YtgfoeagphlkjkaaCFnExactBuildTournamenta
import Derived.Test.YtgfoeagphlkjkaaCFnExactBuildTournamentb
set_option linter.unusedVariables false
set_option linter.unusedSimpArgs false
namespace Go.Proofs.Ytgfoeagphlkjkaa.P
open Go.RowKit Go.Proofs.YtgfoeagphlkjkaaW.PrintWords Go.Proofs.YtgfoeagphlkjkaaW.PrintLast Go.Proofs.YtgfoeagphlkjkaaW.PrintMore
attribute [local go_sem] max2_int min2_int max_two min_two max_three min_three max_four min_four
def laws_toIntS.l0 : Nat → List Int → List Int → Int → Option (List Int)
 | 0, _, _, _ => none
 | k + 1, x0, x3, x4 => if x4 < (x0.length : Int) then (if 0 ≤ x4 then (if x4 < (x3.length : Int) then (laws_toIntS.l0 k x0 (x3.set (x4 : Int).toNat (rd x0 x4)) (wrap64 (x4 + 1))) else (none)) else (none)) else (some x3)
def laws_toIntS.f (k : Nat) (l0 : List Int) : Option (List Int) := if 0 ≤ (l0.length : Int) then (if ((l0.length : Int) : Int).toNat ≤ 35184372088832 then (laws_toIntS.l0 k l0 (List.replicate ((l0.length : Int) : Int).toNat 0) 0) else (none)) else (none)
theorem laws_toIntS.mono_l : ∀ k, (∀ y0 y1 y2, LeO (laws_toIntS.l0 k y0 y1 y2) (laws_toIntS.l0 (k + 1) y0 y1 y2))
 | 0 => fun _ _ _ r h => by simp [laws_toIntS.l0] at h
 | k + 1 => by
  have ih0 := laws_toIntS.mono_l k
  ·
   intro y0 y1 y2
   unfold laws_toIntS.l0
   repeat' first
   | (with_reducible exact ih0 _ _ _)
   | (with_reducible exact LeO.refl _)
   | (with_reducible exact LeO.none _)
   | (with_reducible refine LeO.ite ?_ ?_)
   | (with_reducible refine LeO.bind ?_ (fun _ => ?_))
   | exact ih0 _ _ _
   | exact LeO.none _
   | refine LeO.ite ?_ ?_
   | refine LeO.bind ?_ (fun _ => ?_)
theorem laws_toIntS.mono : ∀ a0 k, LeO (laws_toIntS.f k a0) (laws_toIntS.f (k + 1) a0) := by
 intro a0 k
 have ih0 := laws_toIntS.mono_l k
 unfold laws_toIntS.f
 repeat' first
   | (with_reducible exact ih0 _ _ _)
   | (with_reducible exact LeO.refl _)
   | (with_reducible exact LeO.none _)
   | (with_reducible refine LeO.ite ?_ ?_)
   | (with_reducible refine LeO.bind ?_ (fun _ => ?_))
   | exact ih0 _ _ _
   | exact LeO.none _
   | refine LeO.ite ?_ ?_
   | refine LeO.bind ?_ (fun _ => ?_)
set_option maxHeartbeats 8000000 in
set_option maxRecDepth 100000 in
theorem laws_toIntS.calls (k : Nat) (A0 : Option Addr) (c0 : Nat) (l0 : List Int) (r : List Int) (w : World) (hr0 : Kd.C (Kd.int .i64) w A0 l0.length l0) (hc0 : l0.length ≤ c0) (h : laws_toIntS.f k l0 = some r) :
  Calls Try.prog 8 #[.slice A0 l0.length c0] w fun e w' => ∃ v0_ : Value, e = .returned (v0_) ∧ Kd.R (Kd.int .i64) 3 w' w.heap.size (fun _ => True) v0_ r ∧ Below w.heap.size w w' := by
 have HR0 := Aside0.mk hr0
 have HC0 := Aside0.mk hc0
 clear hr0 hc0
 have HB := Aside0.mk (Below.refl w.heap.size w)
 have H : (if 0 ≤ (l0.length : Int) then (if ((l0.length : Int) : Int).toNat ≤ 35184372088832 then (laws_toIntS.l0 k l0 (List.replicate ((l0.length : Int) : Int).toNat 0) 0) else (none)) else (none)) = some r := h
 clear h
 by_cases c2 : 0 ≤ (l0.length : Int)
 ·
  rw [if_pos c2] at H
  have c2b0 := eq_true c2
  have c2b1 : decide (0 ≤ (l0.length : Int)) = true := decide_eq_true c2
  clear c2
  by_cases c3 : ((l0.length : Int) : Int).toNat ≤ 35184372088832
  ·
   rw [if_pos c3] at H
   have c3b0 := eq_true c3
   have c3b1 : decide (((l0.length : Int) : Int).toNat ≤ 35184372088832) = true := decide_eq_true c3
   clear c3
   obtain ⟨y148, hy148⟩ : ∃ y_ : List Int, y_ = (List.replicate ((l0.length : Int) : Int).toNat 0) := ⟨_, rfl⟩
   replace H : (laws_toIntS.l0 k l0 y148 0) = some r := by first | (rw [hy148]; with_reducible exact H) | (have H2_ := (Option.bind_some _ _).symm.trans H; rw [hy148]; with_reducible exact H2_) | (have H2_ := (Option.bind_some _ _).symm.trans H; with_reducible exact H2_) | with_reducible exact H | (rw [hy148]; exact H) | exact H
   have Ny148 := Aside0.mk hy148
   clear hy148
   have H' := Aside0.mk H
   clear H
   go_enter Try.func8, Try.ntmps8
   go_wp2_with (first | ((with_reducible refine gate_dst (N := 7) rfl ?_); refine Kd.R_make (Kd.int .i64) _ 3 rfl (N := 7) rfl 22 _ _ rfl (l0.length : Int) rfl rfl Try.underlying22 (.int .i64 0) 8 info3 rfl (by decide) (by omega) 0 (ok := fun _ => True) (okp := fun _ => True) rfl (fun _ hk => hk) trivial (of_decide_eq_true (by first | (with_reducible assumption) | assumption)) (Nat.le_trans (Nat.mul_le_mul_right _ (of_decide_eq_true (by first | (with_reducible assumption) | assumption) : (l0.length : Int).toNat ≤ 35184372088832)) (by omega)) (Below.refl _ _) (Nat.le_refl _) ?_; intro v149 w4 ho5 hb hg_ hnew_; clear hg_ hnew_; (first | rw [← Ny148.out] at ho5 | (simp only [Int.reduceToNat] at ho5; rw [← Ny148.out] at ho5)); have n0_ := Aside0.mk (Kd.R_lower ho5 (below_size (by repeat (first | (with_reducible first | exact HB.out | apply below_alloc | apply pw_below_drewN | apply below_drew1))))); have n1_ := Aside0.mk (below_step (by repeat (first | (with_reducible first | exact HB.out | apply below_alloc | apply pw_below_drewN | apply below_drew1))) hb); clear HB; have HO150 := n0_; have HB := n1_; clear n0_ n1_; clear hb ho5))
   go_loopg [4] k (fun kq v4 w' => ∃ (x3_1 : List Int) (x4_1 : Int), v4 = .int .i64 x4_1 ∧ Aside0 (laws_toIntS.l0 kq l0 x3_1 x4_1 = some r) ∧ Aside0 (kq ≤ k) ∧ Aside0 (Kd.R (Kd.int .i64) 3 w' w.heap.size (fun _ => True) v149 x3_1) ∧ Aside0 (Below w.heap.size w w'))
   case atStart => exact ⟨(y148), (0), (by first | rfl | (simp; done) | (simp [*]; done)), H', ⟨Nat.le_refl _⟩, ⟨by (with_reducible repeat (first | apply Kd.R_alloc | apply Kd.R_drewN | apply Kd.R_drew)); exact HO150.out⟩, ⟨by repeat (first | (with_reducible first | exact HB.out | apply below_alloc | apply pw_below_drewN | apply below_drew1) | exact HB.out)⟩⟩
   case round =>
    clear H'
    try clear c2
    try clear c2b0
    try clear c2b1
    try clear p2
    try clear c3
    try clear c3b0
    try clear c3b1
    obtain ⟨x3_1, x4_1, rfl, HA, HK1, HO_3, HB⟩ := hrel
    cases gk with
    | zero => exact absurd HA.out (by simp [laws_toIntS.l0])
    | succ k1 =>
     have H := HA.out
     clear HA
     simp only [laws_toIntS.l0] at H
     by_cases c6 : x4_1 < (l0.length : Int)
     ·
      rw [if_pos c6] at H
      have c6b0 : decide (x4_1 < (l0.length : Int)) = true := decide_eq_true c6
      clear c6
      by_cases c7 : 0 ≤ x4_1
      ·
       rw [if_pos c7] at H
       have c7b0 : decide (0 ≤ x4_1) = true := decide_eq_true c7
       clear c7
       by_cases c8 : x4_1 < (x3_1.length : Int)
       ·
        rw [if_pos c8] at H
        have c8b0 : decide (x4_1 < (x3_1.length : Int)) = true := decide_eq_true c8
        clear c8
        obtain ⟨y152, hy152⟩ : ∃ y_ : List Int, y_ = (x3_1.set (x4_1 : Int).toNat (rd l0 x4_1)) := ⟨_, rfl⟩
        replace H : (laws_toIntS.l0 k1 l0 y152 (wrap64 (x4_1 + 1))) = some r := by first | (rw [hy152]; with_reducible exact H) | (have H2_ := (Option.bind_some _ _).symm.trans H; rw [hy152]; with_reducible exact H2_) | (have H2_ := (Option.bind_some _ _).symm.trans H; with_reducible exact H2_) | with_reducible exact H | (rw [hy152]; exact H) | exact H
        have Ny152 := Aside0.mk hy152
        clear hy152
        have H' := Aside0.mk H
        clear H
        have p151 : 0 ≤ (x4_1 : Int) := of_decide_eq_true (by first | (with_reducible assumption) | assumption)
        have q151 : x4_1 < (l0.length : Int) := of_decide_eq_true (by first | (with_reducible assumption) | assumption)
        obtain ⟨ad151, e151, hx151_0⟩ := Kd.at_int HR0.out x4_1 p151 q151
        cases e151
        replace hx151_0 := (HB.out.cell (World.block_lt_of_cell? w _ hx151_0)).trans hx151_0
        replace p151 := eq_true p151
        replace q151 := eq_true q151
        have p9 : 0 ≤ (x4_1 : Int) := of_decide_eq_true (by first | (with_reducible assumption) | assumption)
        have q9 : (x4_1 : Int) < ((x3_1.length : Int) : Int) := of_decide_eq_true (by first | (with_reducible assumption) | assumption)
        obtain ⟨go9, co9, eo9, gb9, gl9, cl9, HG9⟩ := Kd.R_form HO_3.out (by omega)
        (first | cases eo9 | (injection eo9 with ea_ en_ ec_; (first | subst ea_ | (injection ea_ with ea_; subst ea_)); subst ec_; clear en_))
        have GB9 := Aside0.mk gb9
        have GG9 := Aside0.mk HG9
        clear gb9 gl9 HG9
        obtain ⟨hx9_0, hf9_0⟩ := Kd.R_celln 0 HO_3.out (x4_1 : Int) p9 q9
        replace p9 := eq_true p9
        replace q9 := eq_true q9
        have HP10 := Kd.R_putg HO_3.out (x4_1 : Int) (rd l0 x4_1)
        go_wp2_with (first | ((with_reducible refine gate_store (t := 3) (p := 20) rfl ?_); refine store_event (t := 3) (p := 20) (v := ?vo_w11) (w1 := (wr.setCell ⟨go9, (x4_1 : Int).toNat, none⟩ (.int .i64 (rd l0 x4_1)))) ?hg ?ho ?hn ?hr ?_; (case ho => rfl); (case hg => rfl); (case hn => rfl); (case hr => first | (go_simp; done) | (go_simp; rfl)); intro w11 hw; have hg : wr.grownBy w11 (some go9) := (by rw [hw]; exact HP10.2); have hp_ : Kd.R (Kd.int .i64) 3 w11 w.heap.size (fun _ => True) (.slice (some ⟨go9, 0, none⟩) x3_1.length co9) y152 := (by rw [hw, Ny152.out]; exact HP10.1); clear HP10; have n0_ := Aside0.mk (hp_); have n1_ := Aside0.mk ((by rw [hw]; exact below_set (HB.out) GB9.out : Below w.heap.size w w11)); clear HO_3; clear HB; have HO_3 := n0_; have HB := n1_; clear n0_ n1_; clear hg hw hp_))
        go_roundg k1
        case measure => have := HK1.out; omega
        case rel => exact ⟨(y152), (wrap64 (x4_1 + 1)), (by first | rfl | (simp; done) | (simp [*]; done)), H', ⟨by have := HK1.out; omega⟩, ⟨by (with_reducible repeat (first | apply Kd.R_alloc | apply Kd.R_drewN | apply Kd.R_drew)); exact HO_3.out⟩, ⟨by repeat (first | (with_reducible first | exact HB.out | apply below_alloc | apply pw_below_drewN | apply below_drew1) | exact HB.out)⟩⟩
       ·
        rw [if_neg c8] at H
        exact absurd H (by simp)
      ·
       rw [if_neg c7] at H
       exact absurd H (by simp)
     ·
      rw [if_neg c6] at H
      have c6b0 : decide (x4_1 < (l0.length : Int)) = false := decide_eq_false c6
      clear c6
      obtain rfl := Option.some.inj H
      go_wp2
      go_ret
      exact ⟨_, by first | rfl | (simp [errW_none, errW_some] <;> rfl) | (simp [*, errW_none, errW_some] <;> rfl), by (with_reducible repeat (first | apply Kd.R_alloc | apply Kd.R_drewN | apply Kd.R_drew)); exact HO_3.out, by repeat (first | (with_reducible first | exact HB.out | apply below_alloc | apply pw_below_drewN | apply below_drew1) | exact HB.out)⟩
  ·
   rw [if_neg c3] at H
   exact absurd H (by simp)
 ·
  rw [if_neg c2] at H
  exact absurd H (by simp)
end Go.Proofs.Ytgfoeagphlkjkaa.P
namespace Go.Proofs.Ytgfoeagphlkjkaa.K
open Go Go.RowKit Go.Proofs.YtgfoeagphlkjkaaW.PrintWords Go.Proofs.YtgfoeagphlkjkaaW.PrintLast Go.Proofs.YtgfoeagphlkjkaaW.PrintMore Go.Proofs.Ytgfoeagphlkjkaa.P
structure IRow (W : World) (base g cap : Nat) (xs : List Int) : Prop where
  base : base ≤ g
  blk : ∃ (cur : Array Value), W.heap[g]? = some (.cells cur 3 (0, 0)) ∧ cur.size = cap ∧ cur.toList.take xs.length = xs.map (Value.int .i64)
  le : xs.length ≤ cap
  max : cap ≤ maxLen
theorem IRow.lt {W : World} {base g cap : Nat} {xs : List Int} (h : IRow W base g cap xs) : g < W.heap.size := by
  obtain ⟨cur, h1, _⟩ := h.blk
  exact (Array.getElem?_eq_some_iff.1 h1).1
theorem IRow.keep {W W2 : World} {base g cap : Nat} {xs : List Int} (h : IRow W base g cap xs) (hk : W2.heap[g]? = W.heap[g]?) : IRow W2 base g cap xs := by
  obtain ⟨cur, h1, h2⟩ := h.blk
  exact ⟨h.base, ⟨cur, hk.trans h1, h2⟩, h.le, h.max⟩
theorem IRow.ofR {W : World} {base : Nat} {ok : Nat → Prop} {v : Value} {xs : List Int} (h : (Kd.int .i64).R 3 W base ok v xs) (hp : 0 < xs.length) : ∃ g cap, v = .slice (some ⟨g, 0, none⟩) xs.length cap ∧ IRow W base g cap xs ∧ ok g := by
  have hok := h.1
  obtain ⟨hn, hh⟩ := Kd.own_of_R h
  rcases hh with ⟨h0, h1⟩ | ⟨g, cap, cur, hv, hbase, hbk, h1, h2, h3, h4⟩
  · simp at h1; simp [h1] at hp
  · subst hv
    rw [Nat.mul_one] at h4
    exact ⟨g, cap, rfl, ⟨hbase, ⟨cur, hbk, by simpa using h3, h4⟩, h1, h2⟩, hok g rfl⟩
theorem IRow.toR {W : World} {base g cap : Nat} {xs : List Int} (h : IRow W base g cap xs) : (Kd.int .i64).R 3 W base (fun k => k = g) (.slice (some ⟨g, 0, none⟩) xs.length cap) xs := by
  obtain ⟨cur, h1, h2, h3⟩ := h.blk
  refine Kd.R_of_own (enc := Value.int .i64) ⟨by simp [encs], .inr ⟨g, cap, cur, rfl, h.base, h1, h.le, h.max, by simpa using h2, by rw [Nat.mul_one]; exact h3⟩⟩ (fun k hk => ?_)
  have : g = k := by simpa [Value.ownBlock] using hk
  exact this.symm
theorem IRow.at {W : World} {base g cap : Nat} {xs : List Int} (h : IRow W base g cap xs) (j : Nat) (hj : j < xs.length) : W.cell? ⟨g, j, none⟩ = some (.int .i64 (xs.getD j 0)) := by
  obtain ⟨cur, h1, h2, h4⟩ := h.blk
  rw [cell_of_row W g j cur _ (0, 0) h1]
  have h5 : (cur.toList.take xs.length)[j]? = (xs.map (Value.int .i64))[j]? := by rw [h4]
  rw [List.getElem?_take_of_lt hj, Array.getElem?_toList] at h5
  rw [h5, List.getElem?_map, List.getElem?_eq_getElem hj, List.getD_eq_getElem?_getD, List.getElem?_eq_getElem hj]
  rfl
theorem IRow.free {W : World} {base g cap : Nat} {xs : List Int} (h : IRow W base g cap xs) (j : Nat) : W.frozen? ⟨g, j, none⟩ = false := by
  obtain ⟨cur, h1, _⟩ := h.blk
  simp [World.frozen?, h1]
theorem IRow.set {W : World} {base g cap : Nat} {xs : List Int} (h : IRow W base g cap xs) (j : Nat) (hj : j < xs.length) (v : Int) : IRow (W.setCell ⟨g, j, none⟩ (.int .i64 v)) base g cap (xs.set j v) := by
  obtain ⟨cur, h1, h2, h4⟩ := h.blk
  have hle := h.le
  refine ⟨h.base, ⟨cur.setIfInBounds j (.int .i64 v), ?_, by simp [h2], ?_⟩, by rw [List.length_set]; exact h.le, h.max⟩
  · rw [setCell_eq_setRow W g _ cur _ (0, 0) _ h1]
    exact setRow_heap W g cur _ _ _ h1
  · rw [List.length_set, Array.toList_setIfInBounds, List.take_set, h4, List.map_set]
theorem set_heap {W : World} {g j k : Nat} {v : Value} (h : k ≠ g) : (W.setCell ⟨g, j, none⟩ v).heap[k]? = W.heap[k]? := Below.heap_setCell _ _ _ k (fun e => h e)
theorem iInfo : (Try.prog.info? 3).map (fun i => (i.zero, i.size, i.bytes)) = some (some (.int .i64 0), 1, 8) := by kernel_rfl
theorem IRow.append {w : World} {base g cap : Nat} {xs : List Int} (h : IRow w base g cap xs) {ops : Array Oper} {rest : List Oper} {o : Oper} {a : Act} {Q : Exit → Act → World → Prop} (hg : o.guard = none) (s x : Operand) (hop : o.op = Op.call { callee := Callee.builtin Builtin.append, args := #[s, x], argTypes := #[22, 22] })
    (hs : a.eval s = .slice (some ⟨g, 0, none⟩) xs.length cap) (ad : Addr) (c : Nat) (b : Int) (hx : a.eval x = .slice (some ad) 1 c) (hc : w.cell? ad = some (Value.int .i64 b)) (hl : xs.length ≤ 1000) (hbase : base ≤ w.heap.size)
    (hK : ∀ g' cap' w', IRow w' base g' cap' (xs ++ [b]) → w.grownBy w' (some g) → (g' = g ∨ w.heap.size ≤ g') → wpList Try.prog ops Q rest (a.put o.dst (.slice (some ⟨g', 0, none⟩) (xs ++ [b]).length cap')) w') :
    wpList Try.prog ops Q (o :: rest) a w := by
  obtain ⟨i0, hi0, hz0, hz1, hz2⟩ := info_parts iInfo
  obtain ⟨cur, h1, h2, h4⟩ := h.blk
  have h3 : (((0, 0) : Nat × Nat).2 = 0 ∨ cap ≤ ((0, 0) : Nat × Nat).1) := .inl rfl
  have hle := h.le
  refine wpList_append_arg w hg s x 22 hop 3 i0 (.int .i64 0) 1 8 Try.underlying22 hi0 hz0 hz1 hz2 rfl (by decide) g 0 xs.length cap (xs.map (Value.int .i64)) hs (by simp)
    (fun j u hj => ?_) ad 1 c [Value.int .i64 b] hx rfl (fun j u hj => ?_) (by simp [Value.oneCell']) (fun hr j hj => ?_) (by unfold maxLen; omega) (by omega) (fun hr => ?_) (fun hr v' w' ho hg' => ?_)
  · rw [Nat.zero_add]
    have hj' : j < xs.length := by have := (List.getElem?_eq_some_iff.1 hj).1; simpa using this
    rw [h.at j hj']
    rw [List.getElem?_map, List.getElem?_eq_getElem hj'] at hj
    rw [List.getD_eq_getElem?_getD, List.getElem?_eq_getElem hj']
    simpa using hj
  · cases j with
    | zero => rw [List.getElem?_cons_zero] at hj; obtain rfl := Option.some.inj hj; rw [Addr.add_zero']; exact hc
    | succ j => simp at hj
  · have hj0 : j = 0 := by simpa using hj
    subst hj0
    have e : 0 + xs.length * 1 + 0 = xs.length := by omega
    rw [e]
    refine ⟨by rw [cell_of_row w g _ cur _ (0, 0) h1]; simp; omega, ?_⟩
    simp only [World.frozen?, h1, Bool.and_eq_false_iff, decide_eq_false_iff_not]
    omega
  · have e : (xs ++ [b]).length = xs.length + 1 := by simp
    have hcell : w.setCells g (0 + xs.length * 1) [Value.int .i64 b] = w.setRow g (cur.setIfInBounds xs.length (Value.int .i64 b)) := by
      have e2 : 0 + xs.length * 1 = xs.length := by omega
      rw [e2, World.setCells, World.setCells, setCell_eq_setRow w g _ cur _ (0, 0) _ h1]
    have := hK g cap (w.setCells g (0 + xs.length * 1) [Value.int .i64 b]) ⟨h.base, ⟨cur.setIfInBounds xs.length (Value.int .i64 b), by rw [hcell]; exact setRow_heap w g cur _ _ _ h1, by simp [h2], ?_⟩, by omega, h.max⟩ ?_
    · rw [e] at this; exact this (.inl rfl)
    · rw [e, Array.toList_setIfInBounds, List.take_set, List.map_append]
      have h5 : cur.toList.take (xs.length + 1) = xs.map (Value.int .i64) ++ [cur.toList.getD xs.length undef] := by
        rw [List.take_add_one, h4]
        have : xs.length < cur.toList.length := by simp; omega
        rw [List.getD_eq_getElem?_getD, List.getElem?_eq_getElem this]; rfl
      rw [h5, List.set_append_right _ _ (by simp)]
      simp
    · obtain ⟨s1, s2, s3⟩ := setCells_same g [Value.int .i64 b] (0 + xs.length * 1) w
      exact ⟨s1, s2, s3.1, by rw [s3.2]; exact Nat.le_refl _, fun k hk hne => setCells_far _ _ k (fun e => hne (by rw [e]))⟩
  · rcases ho.2 with ⟨_, h0⟩ | ⟨g', cap', cur', rfl, hb', hg2, r1, r2, r3, r4⟩
    · omega
    · have e : (xs ++ [b]).length = xs.length + 1 := by simp
      have := hK g' cap' w' ⟨Nat.le_trans hbase hb', ⟨cur', hg2, by omega, ?_⟩, by omega, r2⟩ ⟨hg'.os, hg'.tape, hg'.output, hg'.size, fun k hk _ => hg'.block k hk (by simp)⟩
      · rw [e] at this; exact this (.inr hb')
      · rw [e, List.map_append]
        rw [Nat.mul_one] at r4
        exact r4
end Go.Proofs.Ytgfoeagphlkjkaa.K
namespace Go.Proofs.Ytgfoeagphlkjkaa.K
open Go.RowKit Go.Proofs.YtgfoeagphlkjkaaW.PrintWords
abbrev BM : Nat := 17592186044416
theorem le_BM {n : Nat} (h : n * 8 ≤ 140737488351232) : n ≤ BM := by simp only [BM]; omega
theorem wrap_id {x : Int} (h1 : -9223372036854775808 ≤ x) (h2 : x < 9223372036854775808) : wrap64 x = x := by unfold wrap64; omega
theorem mid (x : Int) (done rest : List Int) (h : (done ++ x :: rest).length ≤ BM) :
    ((done.length : Int) < ((done ++ x :: rest).length : Int)) ∧ 0 ≤ (done.length : Int) ∧ rd (done ++ x :: rest) (done.length : Int) = x ∧ wrap64 ((done.length : Int) + 1) = ((done ++ [x]).length : Int) ∧ done ++ [x] ++ rest = done ++ x :: rest := by
  simp only [BM] at h
  refine ⟨by simp; omega, by omega, by simp [rd], ?_, by simp⟩
  simp at h ⊢
  unfold wrap64; omega
theorem Ev.ite {α : Type} {c : Prop} [Decidable c] {f g : Nat → Option α} {r : α} (h1 : c → Ev f r) (h2 : ¬ c → Ev g r) : Ev (fun k => if c then f k else g k) r := by
  by_cases h : c
  · simpa [h] using h1 h
  · simpa [h] using h2 h
theorem Ev.some {α : Type} {r r' : α} (h : r = r') : Ev (fun _ => Option.some r) r' := h ▸ Ev.now r
theorem Ev.pair {α : Type} {f : Nat → Option α} {r r' : α} (h : Ev f r) (e : r = r') : Ev f r' := e ▸ h
theorem set_mid (y x : Int) (done rest : List Int) : (done ++ y :: rest).set (done.length : Int).toNat x = done ++ [x] ++ rest := by simp
def EvB (g : Nat → Option Bool) (P : Prop) : Prop := (P → Ev g true) ∧ (¬ P → Ev g false)
theorem EvB.congr {g : Nat → Option Bool} {P Q : Prop} (h : EvB g P) (e : P ↔ Q) : EvB g Q := ⟨fun q => h.1 (e.2 q), fun q => h.2 (fun p => q (e.1 p))⟩
theorem EvB.of {g : Nat → Option Bool} {P : Prop} {b : Bool} (h : Ev g b) (e : b = true ↔ P) : EvB g P := by
  cases b with
  | true => exact ⟨fun _ => h, fun p => absurd (e.1 rfl) p⟩
  | false => exact ⟨fun p => absurd (e.2 p) (by simp), fun _ => h⟩
theorem EvB.false_ : EvB (fun _ => some false) False := ⟨fun h => h.elim, fun _ => Ev.now _⟩
theorem EvB.now (b : Bool) : EvB (fun _ => some b) (b = true) := EvB.of (Ev.now b) Iff.rfl
theorem EvB.fn {g f : Nat → Option Bool} {P : Prop} (h : ∀ k, g k = f k) (k : EvB f P) : EvB g P := ⟨fun p => Ev.congr h (k.1 p), fun p => Ev.congr h (k.2 p)⟩
theorem EvB.step {g f : Nat → Option Bool} {P : Prop} (h : ∀ k, g (k + 1) = f k) (k : EvB f P) : EvB g P := ⟨fun p => Ev.step h (k.1 p), fun p => Ev.step h (k.2 p)⟩
theorem EvB.ite {c : Prop} [Decidable c] {f g : Nat → Option Bool} {P Q : Prop} (h1 : c → EvB f P) (h2 : ¬ c → EvB g Q) : EvB (fun k => if c then f k else g k) ((c ∧ P) ∨ (¬ c ∧ Q)) := by
  by_cases h : c
  · simpa [h] using h1 h
  · simpa [h] using h2 h
theorem EvB.and {c : Prop} [Decidable c] {f : Nat → Option Bool} {P : Prop} (h1 : c → EvB f P) : EvB (fun k => if c then f k else some false) (c ∧ P) := by
  by_cases h : c
  · simpa [h] using h1 h
  · simpa [h] using EvB.false_
theorem EvB.bind {α : Type} {g : Nat → Option α} {f : Nat → α → Option Bool} {a : α} {P : Prop} (h : Ev g a) (k : EvB (fun n => f n a) P) : EvB (fun n => (g n).bind (f n)) P :=
  ⟨fun p => Ev.bind h (k.1 p), fun p => Ev.bind h (k.2 p)⟩
theorem wrap_nat (i : Nat) (h : i < 9223372036854775807) : wrap64 ((i : Int) + 1) = ((i + 1 : Nat) : Int) := by unfold wrap64; omega
def ints (ns : List Nat) : List Int := ns.map (fun n : Nat => (n : Int))
theorem ints_length (ns : List Nat) : (ints ns).length = ns.length := by simp [ints]
theorem rd_ints (ns : List Nat) (i : Nat) : rd (ints ns) (i : Int) = ((ns.getD i 0 : Nat) : Int) := by
  simp only [rd, ints, Int.toNat_natCast, List.getD_eq_getElem?_getD, List.getElem?_map]
  cases ns[i]? <;> simp
theorem ints_set (ns : List Nat) (i v : Nat) : (ints ns).set (i : Int).toNat (v : Int) = ints (ns.set i v) := by simp [ints, List.map_set]
end Go.Proofs.Ytgfoeagphlkjkaa.K
namespace Go.Proofs.Ytgfoeagphlkjkaa.K
open Go.RowKit Go.Proofs.YtgfoeagphlkjkaaW.PrintWords Go.Proofs.YtgfoeagphlkjkaaW.PrintMore
theorem wrap_i64 (n : Int) (h0 : 0 ≤ n) (h1 : n < 2 ^ 62) : IntKind.i64.wrap n = n := by
  have : IntKind.i64.wrap n = wrap64 n := by simp [IntKind.wrap, IntKind.bits, IntKind.signed, wrap64]; omega
  rw [this]; unfold wrap64; omega
theorem or_nat (a b : Nat) (ha : a < 2 ^ 62) (hb : b < 2 ^ 62) : Go.bits .or .i64 (a : Int) (b : Int) = ((a ||| b : Nat) : Int) := (bits_nat .i64 62 (by decide) wrap_i64 a b ha hb).2
theorem bv_nat (a : Nat) (ha : a < 2 ^ 62) : a % 2 ^ 64 = a := Nat.mod_eq_of_lt (by omega)
theorem andNot_nat (a b : Nat) (ha : a < 2 ^ 62) (hb : b < 2 ^ 62) : Go.bits .andNot .i64 (a : Int) (b : Int) = ((a ^^^ (a &&& b) : Nat) : Int) := by
  simp only [Go.bits, show IntKind.i64.bits = 64 from rfl, BitVec.ofInt_natCast]
  have h1 : (BitVec.ofNat 64 a) &&& ~~~ (BitVec.ofNat 64 b) = (BitVec.ofNat 64 a) ^^^ ((BitVec.ofNat 64 a) &&& (BitVec.ofNat 64 b)) := by
    ext i hi; simp only [BitVec.getElem_and, BitVec.getElem_xor, BitVec.getElem_not]
    cases (BitVec.ofNat 64 a)[i] <;> cases (BitVec.ofNat 64 b)[i] <;> rfl
  have h2 : ((BitVec.ofNat 64 a) ^^^ ((BitVec.ofNat 64 a) &&& (BitVec.ofNat 64 b))).toNat = a ^^^ (a &&& b) := by
    rw [BitVec.toNat_xor, BitVec.toNat_and, BitVec.toNat_ofNat, BitVec.toNat_ofNat, bv_nat a ha, bv_nat b hb]
  have h3 : ((BitVec.ofNat 64 a) &&& ~~~ (BitVec.ofNat 64 b)).toNat = a ^^^ (a &&& b) := by rw [h1, h2]
  have h4 : a ^^^ (a &&& b) < 2 ^ 62 := Nat.xor_lt_two_pow ha (Nat.lt_of_le_of_lt Nat.and_le_left ha)
  refine Eq.trans (congrArg (fun n : Nat => IntKind.i64.wrap (n : Int)) h3) ?_
  exact wrap_i64 _ (by omega) (by exact_mod_cast h4)
theorem testBit_andNot (a b i : Nat) : (a ^^^ (a &&& b)).testBit i = (a.testBit i && !b.testBit i) := by
  rw [Nat.testBit_xor, Nat.testBit_and]
  cases a.testBit i <;> cases b.testBit i <;> rfl
theorem shl_one (i : Nat) (h : i ≤ 61) : shl .i64 1 (i : Int) = ((2 ^ i : Nat) : Int) := by
  unfold shl
  have h1 : min ((i : Int).toNat) IntKind.i64.bits = i := by simp [show IntKind.i64.bits = 64 from rfl]; omega
  rw [h1, Int.one_mul]
  have h2 : 2 ^ i ≤ 2 ^ 61 := Nat.pow_le_pow_right (by decide) h
  rw [wrap_i64 _ (by exact_mod_cast Nat.zero_le (2 ^ i)) (by exact_mod_cast Nat.lt_of_le_of_lt h2 (by decide))]
  exact_mod_cast rfl
def nb (ns : List Nat) (i j : Nat) : Bool := (ns.getD i 0).testBit j
structure Sets (n : Nat) (ns : List Nat) : Prop where
  n1 : 1 ≤ n
  n8 : n ≤ 8
  len : ns.length = n
  lt : ∀ x ∈ ns, x < 2 ^ n
theorem Sets.get {n : Nat} {ns : List Nat} (h : Sets n ns) (i : Nat) : ns.getD i 0 < 2 ^ n := by
  rw [List.getD_eq_getElem?_getD]
  cases e : ns[i]? with
  | none => simp; exact Nat.two_pow_pos n
  | some x => exact h.lt x (List.mem_of_getElem? e)
theorem pow8 {n : Nat} (h : n ≤ 8) : 2 ^ n ≤ 256 := Nat.le_trans (Nat.pow_le_pow_right (by decide) h) (by decide)
theorem Sets.get62 {n : Nat} {ns : List Nat} (h : Sets n ns) (i : Nat) : ns.getD i 0 < 2 ^ 62 := Nat.lt_of_lt_of_le (h.get i) (Nat.le_trans (pow8 h.n8) (by decide))
theorem nb_set (ns : List Nat) (x v a b : Nat) (hx : x < ns.length) : nb (ns.set x v) a b = if a = x then v.testBit b else nb ns a b := by
  unfold nb
  rw [List.getD_eq_getElem?_getD, List.getElem?_set]
  by_cases h : a = x
  · subst h; simp [hx]
  · rw [if_neg (fun e => h e.symm), if_neg h, List.getD_eq_getElem?_getD]
theorem sets_set {n : Nat} {ns : List Nat} (h : Sets n ns) (x v : Nat) (hv : v < 2 ^ n) : Sets n (ns.set x v) :=
  ⟨h.n1, h.n8, by rw [List.length_set, h.len], fun y hy => by
    rcases List.mem_or_eq_of_mem_set hy with c | c
    · exact h.lt y c
    · omega⟩
theorem sets_or {n : Nat} {ns : List Nat} (h : Sets n ns) (x y : Nat) (hy : y < n) : Sets n (ns.set x (ns.getD x 0 ||| 2 ^ y)) :=
  sets_set h _ _ (Nat.or_lt_two_pow (h.get x) (Nat.pow_lt_pow_right (by decide) hy))
theorem sets_andNot {n : Nat} {ns : List Nat} (h : Sets n ns) (x y : Nat) : Sets n (ns.set x (ns.getD x 0 ^^^ (ns.getD x 0 &&& 2 ^ y))) :=
  sets_set h _ _ (Nat.xor_lt_two_pow (h.get x) (Nat.lt_of_le_of_lt Nat.and_le_left (h.get x)))
theorem nb_or {ns : List Nat} (x y : Nat) (hx : x < ns.length) (a b : Nat) : nb (ns.set x (ns.getD x 0 ||| 2 ^ y)) a b = (nb ns a b || (decide (a = x) && decide (b = y))) := by
  rw [nb_set _ _ _ _ _ hx]
  by_cases h : a = x
  · subst h
    rw [if_pos rfl, Nat.testBit_or, Nat.testBit_two_pow]
    simp [nb, eq_comm]
  · rw [if_neg h]; simp [h]
theorem nb_andNot {ns : List Nat} (x y : Nat) (hx : x < ns.length) (a b : Nat) : nb (ns.set x (ns.getD x 0 ^^^ (ns.getD x 0 &&& 2 ^ y))) a b = (nb ns a b && !(decide (a = x) && decide (b = y))) := by
  rw [nb_set _ _ _ _ _ hx]
  by_cases h : a = x
  · subst h
    rw [if_pos rfl, testBit_andNot, Nat.testBit_two_pow]
    simp [nb, eq_comm]
  · rw [if_neg h]; simp [h]
end Go.Proofs.Ytgfoeagphlkjkaa.K
namespace Go.Proofs.Ytgfoeagphlkjkaa.K
open Go.RowKit Go.Proofs.YtgfoeagphlkjkaaW.PrintWords Go.Proofs.Ytgfoeagphlkjkaa.P
theorem l1Has_l0 (x : Int) (t : Int) : ∀ (rest done : List Int), (done ++ rest).length ≤ BM → Ev (fun k => spec_l1Has.l0 k x (done ++ rest) ((done ++ rest).length : Int) (done.length : Int)) (rest.any fun y => decide (y = x)) := by
  intro rest
  induction rest with
  | nil => intro done h; exact Ev.step (fun k => by simp [spec_l1Has.l0]; rfl) (Ev.some (by simp))
  | cons y rest ih =>
    intro done h
    obtain ⟨q1, q2, q3, q4, q5⟩ := mid y done rest h
    have ih' := ih (done ++ [y]) (by rw [q5]; exact h)
    rw [q5] at ih'
    refine Ev.step (fun k => by rw [spec_l1Has.l0]) ?_
    simp only [if_pos q1, if_pos q2, q3, q4]
    by_cases e : y = x
    · simp only [if_pos e]; exact Ev.some (by simp [e])
    · simp only [if_neg e]; exact Ev.pair ih' (by simp [e])
theorem l1Has_f (l : List Int) (x : Int) (h : l.length ≤ BM) : Ev (fun k => spec_l1Has.f k l x) (l.any fun y => decide (y = x)) := l1Has_l0 x 0 l [] h
def within (a b : Int) (l : List Int) : Bool := l.all fun n => decide (a ≤ n) && decide (n ≤ b)
theorem l1All_l0 (a b : Int) : ∀ (rest done : List Int), (done ++ rest).length ≤ BM → Ev (fun k => spec_l1All.l0 k a b (done ++ rest) (done ++ rest).length done.length) (within a b rest) := by
  intro rest
  induction rest with
  | nil => intro done h; exact Ev.step (fun k => by simp [spec_l1All.l0]; rfl) (Ev.some (by simp [within]))
  | cons x rest ih =>
    intro done h
    have ih' := ih (done ++ [x])
    obtain ⟨h1, h2, h3, h4, h5⟩ := mid x done rest h
    rw [h5] at ih'
    refine Ev.step (fun k => by rw [spec_l1All.l0]) ?_
    simp only [if_pos h1, if_pos h2, h3, h4, spec_l1In.f]
    by_cases ha : x ≥ a
    · by_cases hb : x ≤ b
      · simpa [ha, hb, within] using ih' h
      · simpa [ha, hb, within] using Ev.now _
    · simpa [ha, within] using Ev.now _
theorem allWithin_eq : ∀ k a b xs n i, impl_allWithin.l0 k a b xs n i = spec_l1All.l0 k a b xs n i := by
  intro k
  induction k with
  | zero => intros; rfl
  | succ k ih => intros; simp only [impl_allWithin.l0, spec_l1All.l0, ih, impl_within.f, spec_l1In.f]
theorem l1All_f (l : List Int) (a b : Int) (h : l.length ≤ BM) : Ev (fun k => spec_l1All.f k l a b) (within a b l) := l1All_l0 a b l [] h
theorem allWithin_f (l : List Int) (a b : Int) (h : l.length ≤ BM) : Ev (fun k => impl_allWithin.f k l a b) (within a b l) := Ev.congr (fun k => allWithin_eq ..) (l1All_f l a b h)
theorem l1In_f (n a b : Int) : spec_l1In.f n a b = some (decide (a ≤ n) && decide (n ≤ b)) := by
  unfold spec_l1In.f; by_cases h : a ≤ n <;> simp [h]
theorem within_f (n a b : Int) : impl_within.f n a b = some (decide (a ≤ n) && decide (n ≤ b)) := l1In_f n a b
def isList (l : List Int) : Bool := decide (1 ≤ l.length) && decide (l.length ≤ 8) && within 0 60 l
theorem liGood_f (l : List Int) (h : l.length ≤ BM) : Ev (fun k => spec_liGood.f k l) (isList l) := by
  unfold spec_liGood.f
  simp only [l1In_f, Option.bind_some]
  refine Ev.ite (fun h1 => ?_) (fun h1 => ?_)
  · exact Ev.bind (l1All_f l 0 60 h) (Ev.some (by simp at h1; simp [isList]; omega))
  · exact Ev.some (by simp at h1; simp [isList]; omega)
theorem IsList_f (l : List Int) (h : l.length ≤ BM) : Ev (fun k => impl_IsList.f k l) (isList l) := by
  unfold impl_IsList.f
  simp only [within_f, Option.bind_some]
  refine Ev.ite (fun h1 => ?_) (fun h1 => ?_)
  · exact Ev.bind (allWithin_f l 0 60 h) (Ev.some (by simp at h1; simp [isList]; omega))
  · exact Ev.some (by simp at h1; simp [isList]; omega)
theorem isList_mem {l : List Int} (h : isList l = true) : 1 ≤ l.length ∧ l.length ≤ 8 ∧ ∀ x ∈ l, 0 ≤ x ∧ x ≤ 60 := by
  simp [isList, within] at h
  exact ⟨h.1.1, h.1.2, h.2⟩
end Go.Proofs.Ytgfoeagphlkjkaa.K
namespace Go.Proofs.Ytgfoeagphlkjkaa.K
open Go.RowKit Go.Proofs.Ytgfoeagphlkjkaa.P
theorem insD_perm (x : Int) : ∀ l, (insD x l).Perm (x :: l)
  | [] => List.Perm.refl _
  | y :: l => by
    simp only [insD]
    split
    · exact ((insD_perm x l).cons y).trans (List.Perm.swap x y l)
    · exact List.Perm.refl _
theorem insD_sorted (x : Int) : ∀ l : List Int, l.Pairwise (fun a b => b ≤ a) → (insD x l).Pairwise (fun a b => b ≤ a)
  | [], _ => by simp [insD]
  | y :: l, h => by
    simp only [insD]
    rw [List.pairwise_cons] at h
    split
    · rename_i hy
      rw [List.pairwise_cons]
      refine ⟨fun z hz => ?_, insD_sorted x l h.2⟩
      rcases List.mem_cons.1 ((insD_perm x l).mem_iff.1 hz) with rfl | hz
      · exact hy
      · exact h.1 z hz
    · rename_i hy
      rw [List.pairwise_cons, List.pairwise_cons]
      refine ⟨fun z hz => ?_, h.1, h.2⟩
      rcases List.mem_cons.1 hz with rfl | hz
      · omega
      · have := h.1 z hz; omega
theorem rankFold_perm : ∀ (l s : List Int), (l.foldl (fun s x => insD x s) s).Perm (l ++ s)
  | [], s => List.Perm.refl _
  | x :: l, s => by
    refine (rankFold_perm l (insD x s)).trans ?_
    refine (List.Perm.append_left l (insD_perm x s)).trans ?_
    exact List.perm_middle
theorem rankL_perm (l : List Int) : (rankL l).Perm l := by simpa [rankL] using rankFold_perm l []
theorem rankFold_sorted : ∀ (l s : List Int), s.Pairwise (fun a b => b ≤ a) → (l.foldl (fun s x => insD x s) s).Pairwise (fun a b => b ≤ a)
  | [], s, h => h
  | x :: l, s, h => rankFold_sorted l (insD x s) (insD_sorted x s h)
theorem rankL_sorted (l : List Int) : (rankL l).Pairwise (fun a b => b ≤ a) := rankFold_sorted l [] List.Pairwise.nil
theorem rankL_unique {l l' : List Int} (hp : l'.Perm l) (hs : l'.Pairwise (fun a b => b ≤ a)) : l' = rankL l :=
  List.Perm.eq_of_pairwise (le := fun a b => b ≤ a) (fun a b _ _ h1 h2 => by omega) hs (rankL_sorted l) (hp.trans (rankL_perm l).symm)
end Go.Proofs.Ytgfoeagphlkjkaa.K
namespace Go.Proofs.Ytgfoeagphlkjkaa.K
open Go.RowKit Go.Proofs.YtgfoeagphlkjkaaW.PrintWords Go.Proofs.YtgfoeagphlkjkaaW.PrintMore Go.Proofs.Ytgfoeagphlkjkaa.P
theorem sortL_perm' (l : List Int) : (sortL l).Perm l := List.mergeSort_perm _ _
theorem sortL_rises (l : List Int) : (sortL l).Pairwise (fun a b => a ≤ b) := by
  have := List.pairwise_mergeSort (le := fun x y : Int => decide (x ≤ y)) (by intro a b c h1 h2; simp at *; omega) (by intro a b; simp; omega) l
  exact this.imp (fun h => by simpa using h)
theorem rankL_rev (l : List Int) : rankL l = (sortL l).reverse := by
  refine (rankL_unique ((List.reverse_perm _).trans (sortL_perm' l)) ?_).symm
  rw [List.pairwise_reverse]
  exact sortL_rises l
theorem tri (d : Nat) (h : d ≤ 11) : wrap64 (((d : Int) + 1) * wrap64 ((d : Int) + 1 - 1)) = (d : Int) * ((d : Int) + 1) ∧ wrap64 (Int.tdiv ((d : Int) * ((d : Int) + 1)) 2) = Int.tdiv ((d : Int) * ((d : Int) + 1)) 2 := by
  obtain rfl | rfl | rfl | rfl | rfl | rfl | rfl | rfl | rfl | rfl | rfl | rfl : d = 0 ∨ d = 1 ∨ d = 2 ∨ d = 3 ∨ d = 4 ∨ d = 5 ∨ d = 6 ∨ d = 7 ∨ d = 8 ∨ d = 9 ∨ d = 10 ∨ d = 11 := by omega
  all_goals decide +kernel
theorem rd_rev (done rest : List Int) (x : Int) : rd (done ++ x :: rest).reverse ((rest.length : Nat) : Int) = x := by
  simp [rd]
theorem scRefuses_l0 (n : Nat) (hn : n ≤ 8) (s : List Int) (hs : s.length = n) (hb : ∀ x ∈ s, 0 ≤ x ∧ x ≤ 60) : ∀ (rest done : List Int) (sum : Int), s = done ++ rest → 0 ≤ sum → sum ≤ 60 * done.length →
    Ev (fun k => spec_scRefuses.l0 k s.reverse (n : Int) sum ((done.length : Int) + 1)) (refuseS n done.length sum rest)
  | [], done, sum, e, _, _ => by
    have : done.length = n := by rw [← hs, e]; simp
    exact Ev.step (fun k => by rw [spec_scRefuses.l0, if_neg (by omega)]) (Ev.some (by simp [refuseS]))
  | x :: rest, done, sum, e, h1, h2 => by
    have hl : done.length + (rest.length + 1) = n := by rw [← hs, e]; simp
    have hx := hb x (by rw [e]; simp)
    have w1 : wrap64 ((n : Int) - ((done.length : Int) + 1)) = ((rest.length : Nat) : Int) := by rw [wrap_id (by omega) (by omega)]; omega
    have w2 : wrap64 (sum + x) = sum + x := wrap_id (by omega) (by omega)
    have w3 : wrap64 ((done.length : Int) + 1 + 1) = (((done ++ [x]).length : Nat) : Int) + 1 := by rw [wrap_id (by omega) (by omega)]; simp
    obtain ⟨t1, t2⟩ := tri done.length (by omega)
    have ih := scRefuses_l0 n hn s hs hb rest (done ++ [x]) (sum + x) (by rw [e]; simp) (by omega) (by simp; omega)
    have hr : rd s.reverse ((rest.length : Nat) : Int) = x := by rw [e]; exact rd_rev done rest x
    have hlen : ((rest.length : Nat) : Int) < (s.reverse.length : Int) := by rw [List.length_reverse, hs]; omega
    have hd : (done ++ [x]).length = done.length + 1 := by simp
    rw [hd] at ih w3
    by_cases c1 : sum + x < Int.tdiv ((done.length : Int) * ((done.length : Int) + 1)) 2
    · refine Ev.step (fun k => ?_) (Ev.some (show (done.length : Int) + 1 = _ by rw [refuseS, if_pos (Or.inl c1)]))
      rw [spec_scRefuses.l0, if_pos (by omega), w1, if_pos (by omega), if_pos hlen, hr, w2, t1, t2, if_pos c1]
    · by_cases c2 : (done.length : Int) + 1 = (n : Int)
      · by_cases c3 : Int.tdiv ((done.length : Int) * ((done.length : Int) + 1)) 2 < sum + x
        · refine Ev.step (fun k => ?_) (Ev.some (show (done.length : Int) + 1 = _ by rw [refuseS, if_pos (Or.inr ⟨by omega, c3⟩)]))
          rw [spec_scRefuses.l0, if_pos (by omega), w1, if_pos (by omega), if_pos hlen, hr, w2, t1, t2, if_neg c1, if_pos c2, if_pos c3]
        · rw [refuseS, if_neg (by rintro (h | h) <;> omega)]
          refine Ev.step (fun k => ?_) ih
          rw [spec_scRefuses.l0, if_pos (by omega), w1, if_pos (by omega), if_pos hlen, hr, w2, t1, t2, if_neg c1, if_pos c2, if_neg (by omega), w3]
      · rw [refuseS, if_neg (by rintro (h | h) <;> omega)]
        refine Ev.step (fun k => ?_) ih
        rw [spec_scRefuses.l0, if_pos (by omega), w1, if_pos (by omega), if_pos hlen, hr, w2, t1, t2, if_neg c1, if_neg c2, w3]
def refS (l : List Int) : Int := refuseS l.length 0 0 (sortL l)
theorem isList_iff {l : List Int} (h : isList l = true) : (1 ≤ l.length ∧ l.length ≤ 8) ∧ ∀ x ∈ l, 0 ≤ x ∧ x ≤ 60 := ⟨⟨(isList_mem h).1, (isList_mem h).2.1⟩, (isList_mem h).2.2⟩
theorem scRefuses_f {l : List Int} (h : isList l = true) : Ev (fun k => spec_scRefuses.f k l) (refS l) := by
  obtain ⟨⟨h1, h2⟩, h3⟩ := isList_iff h
  have hl : (sortL l).length = l.length := (sortL_perm' l).length_eq
  unfold spec_scRefuses.f spec_liRank.f
  rw [if_pos (by omega), rankL_rev]
  simp only [Option.bind_some, List.length_reverse, hl]
  have := scRefuses_l0 l.length h2 (sortL l) hl (fun x hx => h3 x ((sortL_perm' l).mem_iff.1 hx)) (sortL l) [] 0 rfl (by omega) (by simp)
  unfold refS
  simpa using this
theorem refusingScores_f {l : List Int} (h : isList l = true) : impl_refusingScores.f l = some (refS l) := by
  obtain ⟨⟨h1, h2⟩, h3⟩ := isList_iff h
  unfold impl_refusingScores.f
  rw [if_pos ⟨h1, by omega, fun x hx => by have := h3 x hx; omega⟩]
  rfl
theorem refuseS_nonneg (n : Nat) : ∀ (rest : List Int) (i : Nat) (sum : Int), 0 ≤ refuseS n i sum rest
  | [], i, sum => by simp [refuseS]
  | x :: rest, i, sum => by
    rw [refuseS]
    split
    · omega
    · exact refuseS_nonneg n rest _ _
theorem refS_nonneg (l : List Int) : 0 ≤ refS l := refuseS_nonneg _ _ _ _
def ahead (nd : List Int) (g : Bool) (i j : Nat) : Prop := if g then nd.getD j 0 < nd.getD i 0 ∨ (nd.getD j 0 = nd.getD i 0 ∧ i ≤ j) else nd.getD i 0 < nd.getD j 0 ∨ (nd.getD i 0 = nd.getD j 0 ∧ j ≤ i)
theorem rdI (l : List Int) (i : Nat) : rd l (i : Int) = l.getD i 0 := by rw [rd, Int.toNat_natCast]
theorem any_ints (gs : List Nat) (i : Nat) : ((ints gs).any fun y => decide (y = (i : Int))) = decide (i ∈ gs) := by
  rw [Bool.eq_iff_iff]
  simp only [List.any_eq_true, ints, List.mem_map, decide_eq_true_eq]
  constructor
  · rintro ⟨_, ⟨x, hx, rfl⟩, h⟩
    have : x = i := by omega
    rwa [← this]
  · intro h
    exact ⟨_, ⟨i, h, rfl⟩, rfl⟩
theorem scNext_l0 (nd : List Int) (gs : List Nat) (g : Bool) (hn : nd.length ≤ 8) (hg : gs.length ≤ 100) : ∀ d i (b : Int), i + d = nd.length → (b < 0 → b = -1 ∧ ∀ x, x < i → x ∈ gs) → (0 ≤ b → ∃ c : Nat, b = (c : Int) ∧ c < i ∧ c ∉ gs ∧ ∀ x, x < i → x ∉ gs → ahead nd g c x) →
    ∃ r : Int, (r < 0 → r = -1 ∧ ∀ x, x < nd.length → x ∈ gs) ∧ (0 ≤ r → ∃ c : Nat, r = (c : Int) ∧ c < nd.length ∧ c ∉ gs ∧ ∀ x, x < nd.length → x ∉ gs → ahead nd g c x) ∧ Ev (fun k => spec_scNext.l0 k nd (ints gs) g b nd (nd.length : Int) (i : Int)) r := by
  intro d
  induction d with
  | zero =>
    intro i b hi h1 h2
    obtain rfl : i = nd.length := by omega
    refine ⟨b, h1, h2, Ev.step (fun k => ?_) (Ev.now _)⟩
    rw [spec_scNext.l0, if_neg (by omega)]
  | succ d ih =>
    intro i b hi h1 h2
    have hhas : Ev (fun k => spec_l1Has.f k (ints gs) (i : Int)) (decide (i ∈ gs)) := by
      rw [← any_ints]
      exact l1Has_f (ints gs) (i : Int) (by rw [ints_length]; simp only [BM]; omega)
    -- the new best one
    have key : ∃ b' : Int, (b' < 0 → b' = -1 ∧ ∀ x, x < i + 1 → x ∈ gs) ∧ (0 ≤ b' → ∃ c : Nat, b' = (c : Int) ∧ c < i + 1 ∧ c ∉ gs ∧ ∀ x, x < i + 1 → x ∉ gs → ahead nd g c x) ∧
        ∀ r, Ev (fun k => spec_scNext.l0 k nd (ints gs) g b' nd (nd.length : Int) ((i + 1 : Nat) : Int)) r → Ev (fun k => spec_scNext.l0 k nd (ints gs) g b nd (nd.length : Int) (i : Int)) r := by
      have e1 : (i : Int) < (nd.length : Int) := by omega
      have e2 : (0 : Int) ≤ (i : Int) := by omega
      have ew := wrap_nat i (by omega)
      by_cases hm : i ∈ gs
      · refine ⟨b, fun hb => ⟨(h1 hb).1, fun x hx => ?_⟩, fun hb => ?_, fun r hr => Ev.step (fun k => by rw [spec_scNext.l0, if_pos e1, if_pos e2, if_pos e1]) (Ev.bind hhas ?_)⟩
        · by_cases c : x = i
          · subst c; exact hm
          · exact (h1 hb).2 x (by omega)
        · obtain ⟨c, f1, f2, f3, f4⟩ := h2 hb
          refine ⟨c, f1, by omega, f3, fun x hx hxg => f4 x ?_ hxg⟩
          by_cases c : x = i
          · subst c; exact absurd hm hxg
          · omega
        · simp only [decide_eq_true hm, if_true, ew]
          exact hr
      · have hmF : decide (i ∈ gs) = false := decide_eq_false hm
        have self : ahead nd g i i := by unfold ahead; split <;> exact .inr ⟨rfl, Nat.le_refl _⟩
        by_cases hb : b < 0
        · obtain ⟨f1, f2⟩ := h1 hb
          refine ⟨(i : Int), fun h => by omega, fun _ => ⟨i, rfl, by omega, hm, fun x hx hxg => ?_⟩, fun r hr => Ev.step (fun k => by rw [spec_scNext.l0, if_pos e1, if_pos e2, if_pos e1]) (Ev.bind hhas ?_)⟩
          · obtain rfl : x = i := by
              by_cases c : x = i
              · exact c
              · exact absurd (f2 x (by omega)) hxg
            exact self
          · simp only [hmF, Bool.false_eq_true, if_false, if_pos hb, ew]
            exact hr
        · obtain ⟨c, rfl, f2, f3, f4⟩ := h2 (by omega)
          have g1 : (c : Int) < (nd.length : Int) := by omega
          have g2 : (0 : Int) ≤ (c : Int) := by omega
          have stay : ahead nd g c i → (∃ b' : Int, (b' < 0 → b' = -1 ∧ ∀ x, x < i + 1 → x ∈ gs) ∧ (0 ≤ b' → ∃ c : Nat, b' = (c : Int) ∧ c < i + 1 ∧ c ∉ gs ∧ ∀ x, x < i + 1 → x ∉ gs → ahead nd g c x) ∧ b' = (c : Int)) := fun ha =>
            ⟨(c : Int), fun h => by omega, fun _ => ⟨c, rfl, by omega, f3, fun x hx hxg => by
              by_cases e : x = i
              · subst e; exact ha
              · exact f4 x (by omega) hxg⟩, rfl⟩
          have move : (∀ x, ahead nd g c x → ahead nd g i x) → (∃ b' : Int, (b' < 0 → b' = -1 ∧ ∀ x, x < i + 1 → x ∈ gs) ∧ (0 ≤ b' → ∃ c : Nat, b' = (c : Int) ∧ c < i + 1 ∧ c ∉ gs ∧ ∀ x, x < i + 1 → x ∉ gs → ahead nd g c x) ∧ b' = (i : Int)) := fun ha =>
            ⟨(i : Int), fun h => by omega, fun _ => ⟨i, rfl, by omega, hm, fun x hx hxg => by
              by_cases e : x = i
              · subst e; exact self
              · exact ha x (f4 x (by omega) hxg)⟩, rfl⟩
          cases hgg : g with
          | true =>
            subst hgg
            by_cases hc : nd.getD i 0 > nd.getD c 0
            · obtain ⟨b', q1, q2, rfl⟩ := move (fun x hx => by unfold ahead at hx ⊢; simp only [if_true] at hx ⊢; omega)
              refine ⟨_, q1, q2, fun r hr => Ev.step (fun k => by rw [spec_scNext.l0, if_pos e1, if_pos e2, if_pos e1]) (Ev.bind hhas ?_)⟩
              simp only [hmF, Bool.false_eq_true, if_false, if_neg hb, if_pos g1, if_pos g2, if_true, rdI, if_pos hc, ew]
              exact hr
            · obtain ⟨b', q1, q2, rfl⟩ := stay (by unfold ahead; simp only [if_true]; omega)
              refine ⟨_, q1, q2, fun r hr => Ev.step (fun k => by rw [spec_scNext.l0, if_pos e1, if_pos e2, if_pos e1]) (Ev.bind hhas ?_)⟩
              simp only [hmF, Bool.false_eq_true, if_false, if_neg hb, if_pos g1, if_pos g2, if_true, rdI, if_neg hc, ew]
              exact hr
          | false =>
            subst hgg
            by_cases hc : nd.getD i 0 ≤ nd.getD c 0
            · obtain ⟨b', q1, q2, rfl⟩ := move (fun x hx => by unfold ahead at hx ⊢; simp only [Bool.false_eq_true, if_false] at hx ⊢; omega)
              refine ⟨_, q1, q2, fun r hr => Ev.step (fun k => by rw [spec_scNext.l0, if_pos e1, if_pos e2, if_pos e1]) (Ev.bind hhas ?_)⟩
              simp only [hmF, Bool.false_eq_true, if_false, if_neg hb, if_pos g1, if_pos g2, rdI, if_pos hc, ew]
              exact hr
            · obtain ⟨b', q1, q2, rfl⟩ := stay (by unfold ahead; simp only [Bool.false_eq_true, if_false]; omega)
              refine ⟨_, q1, q2, fun r hr => Ev.step (fun k => by rw [spec_scNext.l0, if_pos e1, if_pos e2, if_pos e1]) (Ev.bind hhas ?_)⟩
              simp only [hmF, Bool.false_eq_true, if_false, if_neg hb, if_pos g1, if_pos g2, rdI, if_neg hc, ew]
              exact hr
    obtain ⟨b', q1, q2, q3⟩ := key
    obtain ⟨r, r1, r2, r3⟩ := ih (i + 1) b' (by omega) q1 q2
    exact ⟨r, r1, r2, q3 r r3⟩
theorem ahead_antisymm {nd : List Int} {g : Bool} {i j : Nat} (h1 : ahead nd g i j) (h2 : ahead nd g j i) : i = j := by
  unfold ahead at h1 h2
  cases g
  · simp only [Bool.false_eq_true, if_false] at h1 h2; omega
  · simp only [if_true] at h1 h2; omega
theorem scNext_f (nd : List Int) (gs : List Nat) (g : Bool) (hn : nd.length ≤ 8) (hg : gs.length ≤ 100) (c : Nat) (hc : c < nd.length) (hcg : c ∉ gs) (hmin : ∀ x, x < nd.length → x ∉ gs → ahead nd g c x) : Ev (fun k => spec_scNext.f k nd (ints gs) g) (c : Int) := by
  obtain ⟨r, r1, r2, r3⟩ := scNext_l0 nd gs g hn hg nd.length 0 (-1) (by omega) (fun _ => ⟨rfl, fun x hx => by omega⟩) (fun h => by omega)
  have : r = (c : Int) := by
    by_cases h : r < 0
    · exact absurd ((r1 h).2 c hc) hcg
    · obtain ⟨e, rfl, e2, e3, e4⟩ := r2 (by omega)
      rw [ahead_antisymm (hmin e e2 e3) (e4 c hc hcg)]
  subst this
  unfold spec_scNext.f
  exact r3
theorem le2_iff (nd : List Int) (i j : Nat) : le2 nd i j = true ↔ ahead nd false i j := by
  unfold le2 ahead
  simp
theorem btOrd_perm (nd : List Int) (left : List Nat) : (btOrd nd left).Perm left := List.mergeSort_perm _ _
theorem btOrd_sorted (nd : List Int) (left : List Nat) : (btOrd nd left).Pairwise (ahead nd false) := by
  have := List.pairwise_mergeSort (le := le2 nd) (by intro a b c h1 h2; rw [le2_iff] at *; unfold ahead at *; simp only [Bool.false_eq_true, if_false] at *; omega) (by intro a b; rw [Bool.or_eq_true, le2_iff, le2_iff]; unfold ahead; simp only [Bool.false_eq_true, if_false]; omega) left
  exact this.imp (fun h => (le2_iff nd _ _).1 h)
theorem first_fold (nd : List Int) : ∀ (l : List Nat) (f : Nat) (seen : List Nat), f ∈ seen → (∀ x ∈ seen, ahead nd true f x) → (∀ x ∈ seen, ∀ y ∈ l, x < y) → l.Pairwise (fun a b => a < b) →
    (l.foldl (fun f i => if nd.getD i 0 > nd.getD f 0 then i else f) f) ∈ seen ++ l ∧ ∀ x ∈ seen ++ l, ahead nd true (l.foldl (fun f i => if nd.getD i 0 > nd.getD f 0 then i else f) f) x := by
  intro l
  induction l with
  | nil => intro f seen h1 h2 h3 h4; simpa using ⟨h1, h2⟩
  | cons y l ih =>
    intro f seen h1 h2 h3 h4
    obtain ⟨g1, g2⟩ := List.pairwise_cons.1 h4
    rw [List.foldl_cons, show seen ++ y :: l = (seen ++ [y]) ++ l by simp]
    have hs : ∀ x ∈ seen ++ [y], ∀ z ∈ l, x < z := fun x hx z hz => by
      rcases List.mem_append.1 hx with c | c
      · exact h3 x c z (List.mem_cons_of_mem _ hz)
      · rw [List.mem_singleton.1 c]; exact g1 z hz
    by_cases c : nd.getD y 0 > nd.getD f 0
    · rw [if_pos c]
      refine ih y (seen ++ [y]) (by simp) (fun x hx => ?_) hs g2
      rcases List.mem_append.1 hx with q | q
      · have := h2 x q; unfold ahead at this ⊢; simp only [if_true] at this ⊢; omega
      · rw [List.mem_singleton.1 q]; unfold ahead; simp
    · rw [if_neg c]
      refine ih f (seen ++ [y]) (by simp [h1]) (fun x hx => ?_) hs g2
      rcases List.mem_append.1 hx with q | q
      · exact h2 x q
      · rw [List.mem_singleton.1 q]
        have := h3 f h1 y List.mem_cons_self
        unfold ahead; simp only [if_true]; omega
theorem btFirst_best (nd : List Int) (left : List Nat) (hne : left ≠ []) (hs : left.Pairwise (fun a b => a < b)) : btFirst nd left ∈ left ∧ ∀ x ∈ left, ahead nd true (btFirst nd left) x := by
  cases left with
  | nil => exact absurd rfl hne
  | cons y l =>
    obtain ⟨g1, g2⟩ := List.pairwise_cons.1 hs
    have := first_fold nd l y [y] (by simp) (fun x hx => by rw [List.mem_singleton.1 hx]; unfold ahead; simp) (fun x hx z hz => by rw [List.mem_singleton.1 hx]; exact g1 z hz) g2
    unfold btFirst
    rw [List.foldl_cons, List.headD_cons, if_neg (by omega)]
    exact this
def setOr (i : Nat) : List Nat → List Nat → List Nat
  | [], ns => ns
  | j :: js, ns => setOr i js (ns.set i (ns.getD i 0 ||| 2 ^ j))
theorem setOr_char {n : Nat} (i : Nat) (hi : i < n) : ∀ (js : List Nat) (ns : List Nat), (∀ j ∈ js, j < n) → Sets n ns → Sets n (setOr i js ns) ∧ ∀ a b, nb (setOr i js ns) a b = (nb ns a b || (decide (a = i) && decide (b ∈ js))) := by
  intro js
  induction js with
  | nil => intro ns _ h; exact ⟨h, fun a b => by simp [setOr]⟩
  | cons j js ih =>
    intro ns hj h
    obtain ⟨h1, h2⟩ := ih (ns.set i (ns.getD i 0 ||| 2 ^ j)) (fun x hx => hj x (List.mem_cons_of_mem _ hx)) (sets_or h i j (hj j List.mem_cons_self))
    refine ⟨h1, fun a b => ?_⟩
    rw [setOr, h2, nb_or i j (by rw [h.len]; exact hi)]
    by_cases c : a = i <;> by_cases c2 : b = j <;> simp [c, c2]
theorem ints_append (a b : List Nat) : ints (a ++ b) = ints a ++ ints b := by simp [ints]
theorem sb_l1 {n : Nat} (x0 nd x6 : List Int) (gs : List Nat) (i : Nat) (hi : i < n) (hn : nd.length = n) (h8 : n ≤ 8) (r : Int × List Int × Bool) : ∀ (o2 o1 : List Nat) (x9 : Int) (ns : List Nat), Sets n ns → o2.Pairwise (ahead nd false) → (∀ x, x < n → (x ∉ gs ++ o1 ↔ x ∈ o2)) → o2.Nodup → (∀ x ∈ o2, x < n) →
    x9.toNat ≤ o2.length → x9 ≤ 100 → (gs ++ o1).length + o2.length ≤ 50 →
    Ev (fun k => spec_BuildTournament.l2 k x0 nd x6 i (ints (gs ++ o1 ++ o2.take x9.toNat)) n 0 n (ints (setOr i (o2.take x9.toNat) ns))) r → Ev (fun k => spec_BuildTournament.l1 k x0 nd x6 i (ints (gs ++ o1)) x9 n (ints ns)) r := by
  intro o2
  induction o2 with
  | nil =>
    intro o1 x9 ns hS _ _ _ _ h1 _ _ hr
    have h0 : ¬ x9 > 0 := by simp at h1; omega
    refine Ev.step (fun k => ?_) (by simpa [setOr] using hr)
    rw [spec_BuildTournament.l1, if_neg h0, hn]
  | cons j o2 ih =>
    intro o1 x9 ns hS hP hM hN hL h1 h2 h3 hr
    by_cases h0 : x9 > 0
    · obtain ⟨t, ht⟩ : ∃ t, x9.toNat = t + 1 := ⟨x9.toNat - 1, by omega⟩
      obtain ⟨p1, p2⟩ := List.pairwise_cons.1 hP
      obtain ⟨q1, q2⟩ := List.nodup_cons.1 hN
      have hjn : j < n := hL j List.mem_cons_self
      have hnx : Ev (fun k => spec_scNext.f k nd (ints (gs ++ o1)) false) (j : Int) := by
        refine scNext_f nd (gs ++ o1) false (by omega) (by omega) j (by omega) ((hM j hjn).2 List.mem_cons_self) (fun x hx hxg => ?_)
        rcases List.mem_cons.1 ((hM x (by omega)).1 hxg) with rfl | c
        · unfold ahead; simp
        · exact p1 x c
      have hw : wrap64 (x9 - 1) = x9 - 1 := by unfold wrap64; omega
      have hw2 : (x9 - 1).toNat = t := by omega
      have hlen : (ints (gs ++ o1)).length < 17592186044416 := by rw [ints_length]; omega
      have hsi : (i : Int) < ((ints ns).length : Int) := by rw [ints_length, hS.len]; omega
      refine Ev.step (fun k => by rw [spec_BuildTournament.l1, if_pos h0]) (Ev.bind hnx ?_)
      simp only [if_pos hlen, if_pos (show (0 : Int) ≤ (i : Int) by omega), if_pos hsi, if_pos (show (0 : Int) ≤ (j : Int) by omega), hw]
      rw [shl_one j (by omega), rd_ints, or_nat _ _ (hS.get62 i) (Nat.pow_lt_pow_right (by decide) (by omega)), ints_set]
      have e1 : ints (gs ++ o1) ++ [(j : Int)] = ints (gs ++ (o1 ++ [j])) := by rw [← List.append_assoc, ints_append (gs ++ o1)]; rfl
      rw [e1]
      refine ih (o1 ++ [j]) (x9 - 1) _ (sets_or hS i j hjn) p2 (fun x hx => ?_) q2 (fun x hx => hL x (List.mem_cons_of_mem _ hx)) (by rw [hw2]; simp at h1; omega) (by omega) (by simp at h3 ⊢; omega) ?_
      · have := hM x hx
        rw [← List.append_assoc, List.mem_append, not_or, this, List.mem_cons, List.mem_singleton]
        constructor
        · rintro ⟨c1 | c1, c2⟩
          · exact absurd c1 c2
          · exact c1
        · intro c
          exact ⟨.inr c, fun e => q1 (e ▸ c)⟩
      · rw [hw2]
        rw [ht, List.take_succ_cons, setOr] at hr
        rw [show gs ++ (o1 ++ [j]) ++ List.take t o2 = gs ++ o1 ++ j :: List.take t o2 by simp]
        exact hr
    · have e0 : x9.toNat = 0 := by omega
      rw [e0] at hr
      refine Ev.step (fun k => ?_) (by simpa [setOr] using hr)
      rw [spec_BuildTournament.l1, if_neg h0, hn]
def winF (B : List Nat) (i : Nat) : Nat → Nat → List Int → List Nat → List Int × List Nat
  | 0, _, nd, ns => (nd, ns)
  | d + 1, j, nd, ns => if j ∈ B then winF B i d (j + 1) nd ns else winF B i d (j + 1) (nd.set j (nd.getD j 0 - 1)) (ns.set j (ns.getD j 0 ||| 2 ^ i))
theorem getD_set (nd : List Int) (j x : Nat) (v : Int) (hj : j < nd.length) : (nd.set j v).getD x 0 = if x = j then v else nd.getD x 0 := by
  rw [List.getD_eq_getElem?_getD, List.getElem?_set]
  by_cases h : x = j
  · subst h; simp [hj]
  · rw [if_neg (fun e => h e.symm), if_neg h, List.getD_eq_getElem?_getD]
theorem winF_char {n : Nat} (B : List Nat) (i : Nat) (hi : i < n) : ∀ d j (nd : List Int) (ns : List Nat), j + d = n → nd.length = n → Sets n ns →
    (winF B i d j nd ns).1.length = n ∧ Sets n (winF B i d j nd ns).2 ∧ (∀ x, (winF B i d j nd ns).1.getD x 0 = if j ≤ x ∧ x < n ∧ x ∉ B then nd.getD x 0 - 1 else nd.getD x 0) ∧
      ∀ a b, nb (winF B i d j nd ns).2 a b = (nb ns a b || (decide (j ≤ a ∧ a < n ∧ a ∉ B) && decide (b = i))) := by
  intro d
  induction d with
  | zero =>
    intro j nd ns hj hl hS
    refine ⟨hl, hS, fun x => ?_, fun a b => ?_⟩
    · rw [winF, if_neg (by omega)]
    · rw [winF, show decide (j ≤ a ∧ a < n ∧ a ∉ B) = false by simp; omega]; simp
  | succ d ih =>
    intro j nd ns hj hl hS
    by_cases c : j ∈ B
    · obtain ⟨h1, h2, h3, h4⟩ := ih (j + 1) nd ns (by omega) hl hS
      rw [winF, if_pos c]
      refine ⟨h1, h2, fun x => ?_, fun a b => ?_⟩
      · rw [h3]
        by_cases e : x = j
        · subst e; rw [if_neg (by omega), if_neg (fun q => q.2.2 c)]
        · have : (j + 1 ≤ x ∧ x < n ∧ x ∉ B) ↔ (j ≤ x ∧ x < n ∧ x ∉ B) := by constructor <;> rintro ⟨q1, q2⟩ <;> exact ⟨by omega, q2⟩
          simp only [this]
      · rw [h4]
        congr 2
        by_cases e : a = j
        · subst e; rw [Bool.eq_iff_iff]; simp [c]; 
        · rw [Bool.eq_iff_iff]; simp only [decide_eq_true_eq]; constructor <;> rintro ⟨q1, q2⟩ <;> exact ⟨by omega, q2⟩
    · have hjl : j < nd.length := by omega
      have hjs : j < ns.length := by rw [hS.len]; omega
      obtain ⟨h1, h2, h3, h4⟩ := ih (j + 1) (nd.set j (nd.getD j 0 - 1)) (ns.set j (ns.getD j 0 ||| 2 ^ i)) (by omega) (by rw [List.length_set, hl]) (sets_or hS j i hi)
      rw [winF, if_neg c]
      refine ⟨h1, h2, fun x => ?_, fun a b => ?_⟩
      · rw [h3, getD_set _ _ _ _ hjl]
        by_cases e : x = j
        · subst e; rw [if_neg (by omega), if_pos rfl, if_pos ⟨Nat.le_refl _, by omega, c⟩]
        · have : (j + 1 ≤ x ∧ x < n ∧ x ∉ B) ↔ (j ≤ x ∧ x < n ∧ x ∉ B) := by constructor <;> rintro ⟨q1, q2⟩ <;> exact ⟨by omega, q2⟩
          simp only [if_neg e, this]
      · rw [h4, nb_or j i hjs, Bool.or_assoc]
        congr 1
        rw [← Bool.and_or_distrib_right]
        congr 1
        rw [Bool.eq_iff_iff]
        simp only [Bool.or_eq_true, decide_eq_true_eq]
        constructor
        · rintro (rfl | ⟨q1, q2⟩)
          · exact ⟨Nat.le_refl _, by omega, c⟩
          · exact ⟨by omega, q2⟩
        · rintro ⟨q1, q2⟩
          by_cases e : a = j
          · exact .inl e
          · exact .inr ⟨by omega, q2⟩
theorem sb_l2 {n : Nat} (x0 x6 : List Int) (B : List Nat) (i : Nat) (hi : i < n) (h8 : n ≤ 8) (hB : B.length ≤ 100) (r : Int × List Int × Bool) : ∀ d j (nd : List Int) (ns : List Nat), j + d = n → nd.length = n → Sets n ns → (∀ x, j ≤ x → -1000 ≤ nd.getD x 0 ∧ nd.getD x 0 ≤ 1000) →
    Ev (fun k => spec_BuildTournament.l0 k x0 (winF B i d j nd ns).1 x6 n (ints (winF B i d j nd ns).2)) r → Ev (fun k => spec_BuildTournament.l2 k x0 nd x6 i (ints B) n (j : Int) n (ints ns)) r := by
  intro d
  induction d with
  | zero =>
    intro j nd ns hj hl hS hb hr
    refine Ev.step (fun k => ?_) hr
    rw [spec_BuildTournament.l2, if_neg (by omega)]
    rfl
  | succ d ih =>
    intro j nd ns hj hl hS hb hr
    have hhas : Ev (fun k => spec_l1Has.f k (ints B) (j : Int)) (decide (j ∈ B)) := by
      rw [← any_ints]
      exact l1Has_f (ints B) (j : Int) (by rw [ints_length]; simp only [BM]; omega)
    refine Ev.step (fun k => by rw [spec_BuildTournament.l2, if_pos (show (j : Int) < (n : Int) by omega)]) (Ev.bind hhas ?_)
    rw [winF] at hr
    by_cases c : j ∈ B
    · rw [if_pos c] at hr
      simp only [decide_eq_true c, if_true, wrap_nat j (show j < 9223372036854775807 by omega)]
      exact ih (j + 1) nd ns (by omega) hl hS (fun x hx => hb x (by omega)) hr
    · rw [if_neg c] at hr
      have hj2 := hb j (Nat.le_refl _)
      have hw : wrap64 (nd.getD j 0 - 1) = nd.getD j 0 - 1 := by unfold wrap64; omega
      simp only [decide_eq_false c, Bool.false_eq_true, if_false, if_pos (show (0 : Int) ≤ (j : Int) by omega), if_pos (show (j : Int) < ((ints ns).length : Int) by rw [ints_length, hS.len]; omega), if_pos (show (0 : Int) ≤ (i : Int) by omega), if_pos (show (j : Int) < (nd.length : Int) by omega), wrap_nat j (show j < 9223372036854775807 by omega), rdI, hw, Int.toNat_natCast]
      have e := ints_set ns j (ns.getD j 0 ||| 2 ^ i)
      rw [Int.toNat_natCast] at e
      have e2 : (ints ns).getD j 0 = ((ns.getD j 0 : Nat) : Int) := by rw [← rd_ints, rdI]
      rw [e2, shl_one i (by omega), or_nat _ _ (hS.get62 j) (Nat.pow_lt_pow_right (by decide) (by omega)), e]
      exact ih (j + 1) _ _ (by omega) (by rw [List.length_set, hl]) (sets_or hS j i hi) (fun x hx => by rw [getD_set _ _ _ _ (by omega), if_neg (by omega)]; exact hb x (by omega)) hr
end Go.Proofs.Ytgfoeagphlkjkaa.K
namespace Go.Proofs.Ytgfoeagphlkjkaa.P
open Go.RowKit Go.Proofs.YtgfoeagphlkjkaaW.PrintWords Go.Proofs.YtgfoeagphlkjkaaW.PrintLast Go.Proofs.YtgfoeagphlkjkaaW.PrintMore Go.Proofs.Ytgfoeagphlkjkaa.K
open Go
attribute [local go_sem ↓] Go.wp_at_zero Go.wp_at_succ
set_option maxHeartbeats 800000 in
set_option maxRecDepth 100000 in
theorem btEq_calls (x f : Int) (g : Nat) (W : World) (hc : W.cell? ⟨g, 0, none⟩ = some (.int .i64 f)) :
    Calls Try.prog 62 (#[.int .i64 x] ++ #[.pointer (some ⟨g, 0, none⟩)]) W fun e w' => e = .returned (.bool (decide (x = f))) ∧ ∃ q, w' = W.drewN q := by
  simp only [List.append_toArray, List.cons_append, List.nil_append]
  go_enter Try.func62, Try.ntmps62
  go_wp2
  go_ret
  exact ⟨by rw [show decide (x = f) = (x == f) from by rw [Bool.eq_iff_iff]; simp]; rfl, 0, rfl⟩
def btCmp (nd : List Int) (x y : Int) : Int := if rd nd x ≠ rd nd y then rd nd x - rd nd y else y - x
set_option maxHeartbeats 800000 in
set_option maxRecDepth 100000 in
theorem btCmp_calls (nd : List Int) (g cap : Nat) (A : Option Addr) (x y : Nat) (W : World) (hc : W.cell? ⟨g, 0, none⟩ = some (.slice A nd.length cap)) (hr : Kd.C (Kd.int .i64) W A nd.length nd) (hx : x < nd.length) (hy : y < nd.length) (hn : nd.length ≤ 8) (hb : ∀ z ∈ nd, -1000 ≤ z ∧ z ≤ 1000) :
    Calls Try.prog 63 (#[.int .i64 (x : Int), .int .i64 (y : Int)] ++ #[.pointer (some ⟨g, 0, none⟩)]) W fun e w' => e = .returned (.int .i64 (btCmp nd (x : Int) (y : Int))) ∧ ∃ q, w' = W.drewN q := by
  obtain ⟨ad, e2, h1⟩ := Kd.at_int hr (x : Int) (by omega) (by omega)
  cases e2
  obtain ⟨ad', e2, h2⟩ := Kd.at_int hr (y : Int) (by omega) (by omega)
  cases e2
  simp only [Int.toNat_natCast] at h1 h2
  have m1 : -1000 ≤ rd nd (x : Int) ∧ rd nd (x : Int) ≤ 1000 := by
    rw [rd, Int.toNat_natCast, List.getD_eq_getElem?_getD, List.getElem?_eq_getElem hx]; exact hb _ (List.getElem_mem hx)
  have m2 : -1000 ≤ rd nd (y : Int) ∧ rd nd (y : Int) ≤ 1000 := by
    rw [rd, Int.toNat_natCast, List.getD_eq_getElem?_getD, List.getElem?_eq_getElem hy]; exact hb _ (List.getElem_mem hy)
  unfold btCmp
  generalize rd nd (x : Int) = u at h1 m1 ⊢
  generalize rd nd (y : Int) = v at h2 m2 ⊢
  have b1 : (x : Int) ≤ 1048575 := by omega
  have b2 : (y : Int) ≤ 1048575 := by omega
  have c1 : decide ((x : Int) < (nd.length : Int)) = true := by simp; omega
  have c2 : decide (x < nd.length) = true := by simp; omega
  have c3 : decide ((y : Int) < (nd.length : Int)) = true := by simp; omega
  have c4 : decide (y < nd.length) = true := by simp; omega
  obtain ⟨u1, u2⟩ := m1
  obtain ⟨v1, v2⟩ := m2
  clear hr hb hn
  simp only [List.append_toArray, List.cons_append, List.nil_append]
  by_cases huv : u = v
  · subst huv
    go_enter Try.func63, Try.ntmps63
    go_wp2
    go_region_held3 (fun w' => w'.cell? ⟨g, 0, none⟩ = some (.slice (some ad) nd.length cap) ∧ w'.cell? (ad.add x) = some (.int .i64 u) ∧ w'.cell? (ad.add y) = some (.int .i64 u)) (go_keep) (fail)
    go_wp2
    go_ret
    exact ⟨by simp, _, rfl⟩
  · have c5 : decide (u = v) = false := by simpa using huv
    have HW : Aside0 (IntKind.i64.wrap (u - v) = u - v) := ⟨IntWalk.i64_in _ (by omega)⟩
    go_enter Try.func63, Try.ntmps63
    go_wp2
    go_region_held3 (fun w' => w'.cell? ⟨g, 0, none⟩ = some (.slice (some ad) nd.length cap) ∧ w'.cell? (ad.add x) = some (.int .i64 u) ∧ w'.cell? (ad.add y) = some (.int .i64 v)) (go_keep) (fail)
    go_wp2
    go_region_held3 (fun w' => w'.cell? ⟨g, 0, none⟩ = some (.slice (some ad) nd.length cap) ∧ w'.cell? (ad.add x) = some (.int .i64 u) ∧ w'.cell? (ad.add y) = some (.int .i64 v)) (go_keep) (fail)
    go_wp2
    go_ret
    exact ⟨by show Ending.returned (Value.int .i64 (IntKind.i64.wrap (u - v))) = _; rw [HW.out], 2, rfl⟩
end Go.Proofs.Ytgfoeagphlkjkaa.P
namespace Go.Proofs
open Go.Shelf
def Try.sortInt_ren : Go.Shelf.Ren := ⟨fun | 6 => 47 | 15 => 76 | 14 => 75 | 28 => 100 | 29 => 101 | 20 => 92 | 21 => 93 | 22 => 94 | 23 => 95 | 24 => 96 | 25 => 97 | 26 => 98 | 27 => 99 | 46 => 109 | 47 => 110 | 48 => 111 | 49 => 112 | 50 => 113 | 57 => 118 | n => n, fun | 22 => 22 | 24 => 3 | 25 => 59 | 3 => 3 | 39 => 73 | 0 => 0 | 53 => 85 | 55 => 87 | 4 => 4 | 46 => 90 | 45 => 89 | 50 => 94 | 5 => 5 | 9 => 9 | 66 => 97 | 70 => 101 | 76 => 105 | 77 => 106 | n => n, fun | n => n⟩
theorem Try.sortInt : Go.Proofs.SlLaysF.n6 Try.prog Try.sortInt_ren := {
  mixed := by kernel_rfl
  f6 := ⟨Try.f47.name, by decide, Try.func47.trans (congrArg some (by kernel_rfl))⟩
  f14 := ⟨Try.f75.name, by decide, Try.func75.trans (congrArg some (by kernel_rfl))⟩
  f15 := Try.func76.trans (congrArg some (by kernel_rfl))
  f20 := ⟨Try.f92.name, by decide, Try.func92.trans (congrArg some (by kernel_rfl))⟩
  f21 := ⟨Try.f93.name, by decide, Try.func93.trans (congrArg some (by kernel_rfl))⟩
  f22 := ⟨Try.f94.name, by decide, Try.func94.trans (congrArg some (by kernel_rfl))⟩
  f23 := ⟨Try.f95.name, by decide, Try.func95.trans (congrArg some (by kernel_rfl))⟩
  f24 := ⟨Try.f96.name, by decide, Try.func96.trans (congrArg some (by kernel_rfl))⟩
  f25 := ⟨Try.f97.name, by decide, Try.func97.trans (congrArg some (by kernel_rfl))⟩
  f26 := ⟨Try.f98.name, by decide, Try.func98.trans (congrArg some (by kernel_rfl))⟩
  f27 := ⟨Try.f99.name, by decide, Try.func99.trans (congrArg some (by kernel_rfl))⟩
  f28 := Try.func100.trans (congrArg some (by kernel_rfl))
  f29 := Try.func101.trans (congrArg some (by kernel_rfl))
  f46 := ⟨Try.f109.name, by decide, Try.func109.trans (congrArg some (by kernel_rfl))⟩
  f47 := Try.func110.trans (congrArg some (by kernel_rfl))
  f48 := Try.func111.trans (congrArg some (by kernel_rfl))
  f49 := ⟨Try.f112.name, by decide, Try.func112.trans (congrArg some (by kernel_rfl))⟩
  f50 := ⟨Try.f113.name, by decide, Try.func113.trans (congrArg some (by kernel_rfl))⟩
  f57 := ⟨Try.f118.name, by decide, Try.func118.trans (congrArg some (by kernel_rfl))⟩
  t0 := Try.underlying0
  a0 := Try.isAgg0
  z0 := Try.sizeOf0
  v0 := Try.zeroValue0
  t3 := Try.underlying3
  a3 := Try.isAgg3
  z3 := Try.sizeOf3
  v3 := Try.zeroValue3
  t4 := Try.underlying4
  a4 := Try.isAgg4
  z4 := Try.sizeOf4
  v4 := Try.zeroValue4
  t5 := Try.underlying5
  a5 := Try.isAgg5
  z5 := Try.sizeOf5
  v5 := Try.zeroValue5
  t9 := Try.underlying9
  a9 := Try.isAgg9
  z9 := Try.sizeOf9
  v9 := Try.zeroValue9
  t22 := Try.underlying22
  a22 := Try.isAgg22
  z22 := Try.sizeOf22
  v22 := Try.zeroValue22
  a24 := Try.isAgg3
  z24 := Try.sizeOf3
  t25 := Try.underlying59
  a25 := Try.isAgg59
  z25 := Try.sizeOf59
  v25 := Try.zeroValue59
  t39 := Try.underlying73
  a39 := Try.isAgg73
  z39 := Try.sizeOf73
  v39 := Try.zeroValue73
  t45 := Try.underlying89
  a45 := Try.isAgg89
  z45 := Try.sizeOf89
  v45 := Try.zeroValue89
  t46 := Try.underlying90
  a46 := Try.isAgg90
  z46 := Try.sizeOf90
  v46 := Try.zeroValue90
  t50 := Try.underlying94
  a50 := Try.isAgg94
  z50 := Try.sizeOf94
  v50 := Try.zeroValue94
  t53 := Try.underlying85
  a53 := Try.isAgg85
  z53 := Try.sizeOf85
  v53 := Try.zeroValue85
  t55 := Try.underlying87
  a55 := Try.isAgg87
  z55 := Try.sizeOf87
  v55 := Try.zeroValue87
  t66 := Try.underlying97
  a66 := Try.isAgg97
  z66 := Try.sizeOf97
  v66 := Try.zeroValue97
  t70 := Try.underlying101
  a70 := Try.isAgg101
  z70 := Try.sizeOf101
  v70 := Try.zeroValue101
  t76 := Try.underlying105
  a76 := Try.isAgg105
  z76 := Try.sizeOf105
  v76 := Try.zeroValue105
  t77 := Try.underlying106
  a77 := Try.isAgg106
  z77 := Try.sizeOf106
  v77 := Try.zeroValue106 }
def Try.lays125_ren : Go.Shelf.Ren := ⟨fun | 125 => 76 | 128 => 100 | 129 => 101 | n => n, fun | 46 => 73 | 3 => 3 | 51 => 85 | 53 => 87 | 4 => 4 | 5 => 5 | 9 => 9 | n => n, fun | n => n⟩
theorem Try.lays125 : Go.Proofs.Lays.n125 Try.prog Try.lays125_ren := {
  mixed := by kernel_rfl
  f125 := Try.func76.trans (congrArg some (by kernel_rfl))
  f128 := Try.func100.trans (congrArg some (by kernel_rfl))
  f129 := Try.func101.trans (congrArg some (by kernel_rfl))
  t3 := Try.underlying3
  a3 := Try.isAgg3
  z3 := Try.sizeOf3
  v3 := Try.zeroValue3
  t4 := Try.underlying4
  a4 := Try.isAgg4
  z4 := Try.sizeOf4
  v4 := Try.zeroValue4
  t5 := Try.underlying5
  a5 := Try.isAgg5
  z5 := Try.sizeOf5
  v5 := Try.zeroValue5
  t9 := Try.underlying9
  a9 := Try.isAgg9
  z9 := Try.sizeOf9
  v9 := Try.zeroValue9
  t46 := Try.underlying73
  a46 := Try.isAgg73
  z46 := Try.sizeOf73
  v46 := Try.zeroValue73
  t51 := Try.underlying85
  a51 := Try.isAgg85
  z51 := Try.sizeOf85
  v51 := Try.zeroValue85
  t53 := Try.underlying87
  a53 := Try.isAgg87
  z53 := Try.sizeOf87
  v53 := Try.zeroValue87 }
end Go.Proofs
namespace Go.Proofs.Ytgfoeagphlkjkaa.P
open Go.RowKit Go.Proofs.YtgfoeagphlkjkaaW.PrintWords Go.Proofs.YtgfoeagphlkjkaaW.PrintLast Go.Proofs.YtgfoeagphlkjkaaW.PrintMore Go.Proofs.Ytgfoeagphlkjkaa.K
open Go.Sort Go.Shelf
theorem arr_map {α β : Type} (d : Array α) (f : α → β) : (d.toList.map f).toArray = d.map f := by
  rcases d with ⟨l⟩
  simp
end Go.Proofs.Ytgfoeagphlkjkaa.P
namespace Go.Proofs
open Go.Shelf
def Try.delLay_ren : Go.Shelf.Ren := ⟨fun | 10 => 61 | 6 => 87 | n => n, fun | 22 => 22 | 23 => 3 | 25 => 68 | 3 => 3 | 4 => 4 | 0 => 0 | n => n, fun | n => n⟩
theorem Try.delLay : Go.Proofs.SlLaysH.n10 Try.prog Try.delLay_ren := {
  mixed := by kernel_rfl
  f6 := ⟨Try.f87.name, by decide, Try.func87.trans (congrArg some (by kernel_rfl))⟩
  f10 := ⟨Try.f61.name, by decide, Try.func61.trans (congrArg some (by kernel_rfl))⟩
  t0 := Try.underlying0
  a0 := Try.isAgg0
  z0 := Try.sizeOf0
  v0 := Try.zeroValue0
  t3 := Try.underlying3
  a3 := Try.isAgg3
  z3 := Try.sizeOf3
  v3 := Try.zeroValue3
  t4 := Try.underlying4
  a4 := Try.isAgg4
  z4 := Try.sizeOf4
  v4 := Try.zeroValue4
  t22 := Try.underlying22
  a22 := Try.isAgg22
  z22 := Try.sizeOf22
  v22 := Try.zeroValue22
  a23 := Try.isAgg3
  z23 := Try.sizeOf3
  t25 := Try.underlying68
  a25 := Try.isAgg68
  z25 := Try.sizeOf68
  v25 := Try.zeroValue68 }
end Go.Proofs
namespace Go.Proofs.Ytgfoeagphlkjkaa.P
open Go.RowKit Go.Proofs.YtgfoeagphlkjkaaW.PrintWords Go.Proofs.YtgfoeagphlkjkaaW.PrintLast Go.Proofs.YtgfoeagphlkjkaaW.PrintMore Go.Proofs.Ytgfoeagphlkjkaa.K
open Go.Sort Go.Shelf
set_option linter.unusedSectionVars false
set_option maxRecDepth 10000 in
theorem deleteFunc_c (p : Int → Bool) (fid : FuncId) (fn : Func) (caps : Array Value) (hf : Try.prog.funcs[fid]? = some fn) (hname : (fn.name == "runtime.NumGoroutine") = false) (hbody : fn.body.isSome = true)
    (g cap base : Nat) (ok : Nat → Prop) (l : List Int) (w : World) (hl : l.length ≤ 100) (hpos : 0 < l.length)
    (HO : (Kd.int .i64).R 3 w base ok (.slice (some ⟨g, 0, none⟩) l.length cap) l)
    (hcmp : ∀ W : World, w.grownBy W (some g) → ∀ x : Int, Calls Try.prog fid (#[.int .i64 x] ++ caps) W fun e w' => e = .returned (.bool (p x)) ∧ ∃ q, w' = W.drewN q) :
    Calls Try.prog 61 #[.slice (some ⟨g, 0, none⟩) l.length cap, .func (.func fid) #[] caps] w fun e w' => e = .returned (.slice (some ⟨g, 0, none⟩) (l.filter fun x => !p x).length cap) ∧ (Kd.int .i64).R 3 w' base ok (.slice (some ⟨g, 0, none⟩) (l.filter fun x => !p x).length cap) (l.filter fun x => !p x) ∧ w.grownBy w' (some g) := by
  have hok := HO.1
  have hown := Kd.own_of_R HO
  obtain ⟨hn, h⟩ := hown
  rcases h with ⟨h0, _⟩ | ⟨g', cap', cur, hv, hbase, hbk, h1, h2, h3, h4⟩
  · cases h0
  cases hv
  rw [Nat.mul_one] at h4
  have h4' : cur.toList.take l.length = l.map (Value.int .i64) := h4
  have hH := holds_of_blockI hbk h4'
  have hle : (l.filter fun x => !p x).length ≤ l.length := List.length_filter_le _ _
  have hc := AnyE.slices_DeleteFunc Try.delLay (Value.int .i64) (fun _ => rfl) p fid caps (fun args w => enters_ hf hname hbody args w) 0 (fun w => Try.zeroValue3 w) g 0 cap l.toArray w
    (fun W x hb => hcmp W ⟨hb.os, hb.tape, hb.output, hb.size, fun k hk _ => hb.block k hk⟩ x) (fun n os dk x _ => hcmp _ (by unfold sortWorld; exact grownBy_sortedI _) x) hH (by simp; omega) (by simpa using h1)
  have hsz : l.toArray.size = l.length := by simp
  rw [hsz] at hc
  refine Calls.mono (f := 61) hc ?_
  rintro e w' ⟨rfl, q, rfl⟩
  refine ⟨rfl, ?_, ?_⟩
  · have hcast : ((l.filter fun x => !p x) ++ List.replicate (l.length - (l.filter fun x => !p x).length) (0 : Int)).length = l.length := by simp; omega
    have hq := ownsRow_sortedI (n := q) (os := #[]) (ss := l) (ts := (l.filter fun x => !p x) ++ List.replicate (l.length - (l.filter fun x => !p x).length) (0 : Int)) hcast hbase hbk h1 h2 h3
    have hq2 := own_take hq hle
    have e1 : (List.map (Value.int .i64) ((l.filter fun x => !p x) ++ List.replicate (l.length - (l.filter fun x => !p x).length) (0 : Int))).take (l.filter fun x => !p x).length = (l.filter fun x => !p x).map (Value.int .i64) := by
      rw [← List.map_take, List.take_left' rfl]
    rw [Nat.mul_one, e1] at hq2
    exact Kd.R_of_own (enc := Value.int .i64) hq2 hok
  · exact grownBy_sortedI (os := #[]) _
abbrev Rg (n : Nat) := {x : Int // 0 ≤ x ∧ x < (n : Int)}
def rgE {n : Nat} (x : Rg n) : Value := .int .i64 x.1
section
variable {n : Nat} [Inhabited (Rg n)]
theorem to_rg {l : List Int} (h : ∀ x ∈ l, 0 ≤ x ∧ x < (n : Int)) : ∃ ls : List (Rg n), l = ls.map Subtype.val := by
  induction l with
  | nil => exact ⟨[], rfl⟩
  | cons x l ih =>
    obtain ⟨ls, rfl⟩ := ih (fun y hy => h y (by simp [hy]))
    exact ⟨⟨x, h x (by simp)⟩ :: ls, rfl⟩
theorem putRow_rg (w : World) (g : Nat) (d : Array (Rg n)) : putRow rgE w g 0 d = putRow (Value.int .i64) w g 0 (d.map Subtype.val) := by
  unfold putRow
  congr 1
  funext c
  unfold putCells
  congr 1
  funext k x
  simp only [Array.size_map, Nat.sub_zero, Nat.zero_add, Nat.zero_le, true_and]
  by_cases hk : k < d.size
  · rw [if_pos hk, if_pos hk, getElem!_pos d k hk, getElem!_pos (d.map Subtype.val) k (by simpa using hk)]
    simp [rgE]
  · rw [if_neg hk, if_neg hk]
theorem sortWorld_rg (w : World) (g m : Nat) (dk : Array (Rg n)) (os : Array Obj) : sortWorld rgE w g 0 m dk os = grow (putRow (Value.int .i64) (Sort.ahead w m) g 0 (dk.map Subtype.val)) os := by
  unfold sortWorld
  rw [putRow_rg]
set_option maxRecDepth 10000 in
theorem sortRange_c (cf : Int → Int → Int) (fid : FuncId) (fn : Func) (caps : Array Value) (hf : Try.prog.funcs[fid]? = some fn) (hname : (fn.name == "runtime.NumGoroutine") = false) (hbody : fn.body.isSome = true)
    (hS : SWO (fun (x y : Rg n) => decide (cf x.1 y.1 < 0))) (g cap base : Nat) (ok : Nat → Prop) (l : List Int) (w : World) (hl : l.length ≤ 12) (hpos : 0 < l.length) (hb : ∀ x ∈ l, 0 ≤ x ∧ x < (n : Int))
    (HO : (Kd.int .i64).R 3 w base ok (.slice (some ⟨g, 0, none⟩) l.length cap) l)
    (hcmp : ∀ W : World, w.grownBy W (some g) → ∀ x y : Rg n, Calls Try.prog fid (#[.int .i64 x.1, .int .i64 y.1] ++ caps) W fun e w' => e = .returned (.int .i64 (cf x.1 y.1)) ∧ ∃ q, w' = W.drewN q) :
    Calls Try.prog 47 #[.slice (some ⟨g, 0, none⟩) l.length cap, .func (.func fid) #[] caps] w fun e w' => e = .returned (.tuple #[]) ∧ ∃ l' : List Int, l'.Perm l ∧ l'.Pairwise (fun a b => ¬ cf b a < 0) ∧ (Kd.int .i64).R 3 w' base ok (.slice (some ⟨g, 0, none⟩) l.length cap) l' ∧ w.grownBy w' (some g) := by
  have hok := HO.1
  have hown := Kd.own_of_R HO
  obtain ⟨hn, h⟩ := hown
  rcases h with ⟨h0, _⟩ | ⟨g', cap', cur, hv, hbase, hbk, h1, h2, h3, h4⟩
  · cases h0
  cases hv
  rw [Nat.mul_one] at h4
  have h4' : cur.toList.take l.length = l.map (Value.int .i64) := h4
  have hH := holds_of_blockI hbk h4'
  obtain ⟨ls, hls⟩ := to_rg hb
  have hlen : ls.length = l.length := by rw [hls]; simp
  have hH2 : Holds rgE w g 0 ls.toArray := by
    intro j hj
    have hj1 : j < ls.length := by simpa using hj
    have hj2 : j < l.toArray.size := by rw [hls]; simpa using hj1
    obtain ⟨q1, q2⟩ := hH j hj2
    refine ⟨?_, q2⟩
    rw [q1, getElem!_pos _ j hj2, getElem!_pos _ j hj]
    simp [rgE, hls]
  have hc := Any.slices_SortFunc_small_sorted Try.sortInt rgE (fun _ => rfl) (fun x y : Rg n => cf x.1 y.1) hS fid caps g 0 cap ls.toArray w (fun args w => enters_ hf hname hbody args w)
    (fun m os dk _ x y => hcmp _ (by rw [sortWorld_rg]; exact grownBy_sortedI _) x y) hH2 (by simpa [hlen] using hl)
    (fun n W h => (Any.bits_Len Try.lays125 n W (by omega) (by omega)).mono fun _ _ ⟨he, hw⟩ => ⟨⟨_, he⟩, hw⟩)
  have hsz : ls.toArray.size = l.length := by simpa using hlen
  rw [hsz] at hc
  refine Calls.mono (f := 47) hc ?_
  rintro e w' ⟨rfl, d', n, hp, hs, rfl⟩
  obtain ⟨p1, -, p3⟩ := hp
  have hd : d'.size = l.length := by rw [p1, hsz]
  have hex : d'.extract 0 l.length = d' := by rw [← hd]; simp
  have hex2 : ls.toArray.extract 0 l.length = ls.toArray := by rw [← hsz]; simp
  rw [hex, hex2] at p3
  refine ⟨rfl, d'.toList.map Subtype.val, ?_, ?_, ?_, ?_⟩
  · rw [hls]; exact p3.map _
  · rw [List.pairwise_iff_getElem]
    intro i j hi hj hij
    have hi' : i < d'.size := by simpa using hi
    have hj' : j < d'.size := by simpa using hj
    have := hs i j (Nat.zero_le _) hij (by omega)
    rw [getElem!_pos d' i hi', getElem!_pos d' j hj'] at this
    simpa [ltOf] using this
  · have hcast : (d'.toList.map Subtype.val).length = l.length := by simpa using hd
    have hq := ownsRow_sortedI (n := n) (os := #[]) (ss := l) (ts := d'.toList.map Subtype.val) hcast hbase hbk h1 h2 h3
    have e1 : grow (putRow (Value.int .i64) (Sort.ahead w n) g 0 (d'.toList.map Subtype.val).toArray) #[] = (putRow rgE w g 0 d').drewN n := by
      have := sortWorld_rg w g n d' #[]
      rw [← sortWorld_none, this, arr_map]
    rw [e1] at hq
    refine Kd.R_of_own (enc := Value.int .i64) ?_ hok
    have e2 : (d'.toList.map Subtype.val).length = l.length := by simpa using hd
    rw [e2]
    exact hq
  · have e1 : (putRow rgE w g 0 d').drewN n = grow (putRow (Value.int .i64) (Sort.ahead w n) g 0 (d'.map Subtype.val)) #[] := by rw [← sortWorld_none, sortWorld_rg]
    rw [e1]
    exact grownBy_sortedI _
end
def slices_Clone_int_int.f (l : List Int) : Option (List Int) := if l.length < 17592186044416 then some l else none
end Go.Proofs.Ytgfoeagphlkjkaa.P
namespace Go.Proofs.Ytgfoeagphlkjkaa.P
open Go.RowKit Go.Proofs.YtgfoeagphlkjkaaW.PrintWords Go.Proofs.YtgfoeagphlkjkaaW.PrintLast Go.Proofs.YtgfoeagphlkjkaaW.PrintMore
set_option maxHeartbeats 800000 in
set_option maxRecDepth 100000 in
theorem slices_Clone_int_int.calls (A0 : Option Addr) (c0 : Nat) (l0 : List Int) (r : List Int) (w : World) (hr0 : Kd.C (Kd.int .i64) w A0 l0.length l0) (hc0 : l0.length ≤ c0) (h : slices_Clone_int_int.f l0 = some r) :
    Calls Try.prog 34 #[.slice A0 l0.length c0] w fun e w' => ∃ v0_ : Value, e = .returned (v0_) ∧ Kd.R (Kd.int .i64) 3 w' w.heap.size (fun _ => True) v0_ r ∧ Below w.heap.size w w' := by
  unfold slices_Clone_int_int.f at h
  split at h
  case isFalse => cases h
  rename_i hb0
  obtain rfl := Option.some.inj h
  have hu := Try.underlying22
  cases A0 with
  | none =>
    have hl : l0 = [] := by
      cases l0 with
      | nil => rfl
      | cons x l => obtain ⟨_, _, h3⟩ := hr0; obtain ⟨ad, h4, _⟩ := h3 (by simp); cases h4
    subst hl
    clear hr0 hb0 h
    have hk := fun (W : World) => Lib.run_eql_slice_nil_nil (P := Try.prog) W 0 c0 Try.underlying22
    go_enter Try.func34, Try.ntmps34
    go_wp2
    go_ret
    exact ⟨_, rfl, Kd.R_nil _ _ _ _ _, Below.refl _ _⟩
  | some ad =>
    have HR0 := Aside0.mk hr0
    have HC0 := Aside0.mk hc0
    have LM := Aside0.mk hb0
    clear hr0 hc0 h hb0
    have HB := Aside0.mk (Below.refl w.heap.size w)
    have hk := fun (W : World) => Lib.run_eql_slice_nil (P := Try.prog) W 22 3 (some ad) l0.length c0 0 0 Try.underlying22
    go_enter Try.func34, Try.ntmps34
    go_wp2_with (first | ((with_reducible refine gate_dst (N := 5) rfl ?_); refine Kd.R_lit (Kd.int .i64) _ 3 ?hg (N := 5) ?hd (xs := ([] : List Int)) (inner := []) (ok := fun _ => True) (okp := fun _ => True) ?hr ?hp (fun _ hk => hk) trivial (Below.refl _ _) (Nat.le_refl _) (by simp) ?_; (case hd => rfl); (case hg => rfl); (case hr => first | (go_simp; done) | (go_simp; rfl)); (case hp => exact (Reps.none _ _)); intro v344 w3 ho4 hb hg_ hnew_; clear hg_ hnew_; have n0_ := Aside0.mk (Kd.R_lower ho4 (below_size HB.out)); have n1_ := Aside0.mk (below_step HB.out hb); clear HB; have HO345 := n0_; have HB := n1_; clear n0_ n1_; clear hb ho4) | ((with_reducible refine gate_builtin (b := .append) (xs := #[.tmp 5, .tmp 6]) rfl ?_); at_builtin; refine Kd.R_append_rows (Kd.int .i64) (w0 := w) w.heap.size rfl (.tmp 5) (.tmp 6) 22 3 (.int .i64 0) 8 rfl Try.underlying22 info3 rfl (by decide) (by omega) v344 ([] : List Int) l0 _ _ _ (fun _ => True) (fun _ => False) rfl rfl ?aO ?aR (fun _ _ h => h) (fun _ h => h.elim) ?aF ?aB ?aS ?aL ?_; (case aR => repeat (first | exact (Kd.C_below HR0.out HB.out) | (with_reducible refine Kd.C_alloc ?_ _) | (with_reducible refine Kd.C_drewN ?_ _) | (with_reducible refine Kd.C_drew ?_))); (case aB => exact HB.out); (case aF => exact (fun _ _ => trivial)); (case aO => exact HO345.out); (case aS => exact (below_size HB.out)); (case aL => have := LM.out; simp; omega); intro v347 w5 ho hb hg hat; have n0_ := Aside0.mk (hb); have n1_ := Aside0.mk (ho); clear HB; clear HO345; have HB := n0_; have HO348 := n1_; clear n0_ n1_; clear ho hb hg hat))
    go_ret
    exact ⟨_, rfl, HO348.out, HB.out⟩
end Go.Proofs.Ytgfoeagphlkjkaa.P
namespace Go.Proofs.Ytgfoeagphlkjkaa.P
open Go.RowKit Go.Proofs.YtgfoeagphlkjkaaW.PrintWords Go.Proofs.YtgfoeagphlkjkaaW.PrintLast Go.Proofs.YtgfoeagphlkjkaaW.PrintMore
attribute [local go_sem] max2_int min2_int max_two min_two max_three min_three max_four min_four
def impl_newTournament.f (a0 : Int) : Option (Int × List Int) := if 0 ≤ a0 then (if (a0 : Int).toNat ≤ 35184372088832 then (some (a0, (List.replicate (a0 : Int).toNat 0))) else (none)) else (none)
set_option maxHeartbeats 8000000 in
set_option maxRecDepth 100000 in
theorem impl_newTournament.calls (a0 : Int) (r1 : Int) (r2 : List Int) (w : World) (h : impl_newTournament.f a0 = some (r1, r2)) :
  Calls Try.prog 38 #[.int .i64 a0] w fun e w' => ∃ v1_ : Value, e = .returned (.agg #[.int .i64 r1, v1_]) ∧ Kd.R (Kd.int .i64) 3 w' w.heap.size (fun _ => True) v1_ r2 ∧ Below w.heap.size w w' := by
 have hu44 := Try.underlying44
 have HB := Aside0.mk (Below.refl w.heap.size w)
 have H : (if 0 ≤ a0 then (if (a0 : Int).toNat ≤ 35184372088832 then (some (a0, (List.replicate (a0 : Int).toNat 0))) else (none)) else (none)) = some (r1, r2) := h
 clear h
 by_cases c2 : 0 ≤ a0
 ·
  rw [if_pos c2] at H
  have c2b0 := eq_true c2
  have c2b1 : decide (0 ≤ a0) = true := decide_eq_true c2
  clear c2
  by_cases c3 : (a0 : Int).toNat ≤ 35184372088832
  ·
   rw [if_pos c3] at H
   have c3b0 := eq_true c3
   have c3b1 : decide ((a0 : Int).toNat ≤ 35184372088832) = true := decide_eq_true c3
   clear c3
   obtain ⟨y158, hy158⟩ : ∃ y_ : List Int, y_ = (List.replicate (a0 : Int).toNat 0) := ⟨_, rfl⟩
   replace H : (some (a0, y158)) = some (r1, r2) := by first | (rw [hy158]; with_reducible exact H) | (have H2_ := (Option.bind_some _ _).symm.trans H; rw [hy158]; with_reducible exact H2_) | (have H2_ := (Option.bind_some _ _).symm.trans H; with_reducible exact H2_) | with_reducible exact H | (rw [hy158]; exact H) | exact H
   have Ny158 := Aside0.mk hy158
   clear hy158
   simp only [Option.some.injEq, Prod.mk.injEq] at H
   obtain ⟨rfl, rfl⟩ := H
   go_enter Try.func38, Try.ntmps38
   go_wp2_with (first | ((with_reducible refine gate_dst (N := 2) rfl ?_); refine box_event ?hg (N := 2) ?hd (cs := #[.int .i64 0, .slice none 0 0]) (t := 44) ?hr ?_; (case hd => rfl); (case hg => rfl); (case hr => first | (go_simp; done) | (go_simp; rfl)); intro gb157 hg w4 hbox hb; have n0_ := Aside0.mk (below_step (by repeat (first | (with_reducible first | exact HB.out | apply below_alloc | apply pw_below_drewN | apply below_drew1))) hb); have n1_ := Aside0.mk (hbox); have n2_ := Aside0.mk ((by rw [hg]; exact (below_size (by repeat (first | (with_reducible first | exact HB.out | apply below_alloc | apply pw_below_drewN | apply below_drew1)))) : w.heap.size ≤ gb157)); have n3_ := Aside0.mk ((by rw [hg]; exact (below_size (by repeat (first | (with_reducible first | exact HB.out | apply below_alloc | apply pw_below_drewN | apply below_drew1)))) : w.heap.size ≤ gb157)); clear HB; have HB := n0_; have BK157 := n1_; have GW157 := n2_; have GE157 := n3_; clear n0_ n1_ n2_ n3_; clear hb hbox hg) | ((with_reducible refine gate_dst (N := 5) rfl ?_); refine Kd.R_make (Kd.int .i64) _ 3 rfl (N := 5) rfl 22 _ _ rfl a0 rfl rfl Try.underlying22 (.int .i64 0) 8 info3 rfl (by decide) (by omega) 0 (ok := fun _ => True) (okp := fun _ => True) rfl (fun _ hk => hk) trivial (of_decide_eq_true (by first | (with_reducible assumption) | assumption)) (Nat.le_trans (Nat.mul_le_mul_right _ (of_decide_eq_true (by first | (with_reducible assumption) | assumption) : a0.toNat ≤ 35184372088832)) (by omega)) (Below.refl _ _) (Nat.le_refl _) ?_; intro v159 w5 ho6 hb hg_ hnew_; clear hg_ hnew_; (first | rw [← Ny158.out] at ho6 | (simp only [Int.reduceToNat] at ho6; rw [← Ny158.out] at ho6)); have n0_ := Aside0.mk (Kd.R_lower ho6 (below_size (by repeat (first | (with_reducible first | exact HB.out | apply below_alloc | apply pw_below_drewN | apply below_drew1 | refine below_set ?_ GE157.out) | exact HB.out)))); have n1_ := Aside0.mk (blk_below (g := gb157) (o := .cells #[.int .i64 0, .slice none 0 0] 44 (0, 0)) (by (with_reducible repeat (first | refine blk_drewN ?_ _ | refine blk_drew ?_ | refine blk_alloc ?_ _)); exact BK157.out) hb); have n2_ := Aside0.mk (below_step (by repeat (first | (with_reducible first | exact HB.out | apply below_alloc | apply pw_below_drewN | apply below_drew1 | refine below_set ?_ GE157.out) | exact HB.out)) hb); clear BK157; clear HB; have HO160 := n0_; have BK157 := n1_; have HB := n2_; clear n0_ n1_ n2_; clear hb ho6; obtain ⟨Ao7, co7, eo7⟩ := Kd.R_slice HO160.out; subst eo7; have hcz8_0 : w5.cell? ⟨gb157, 0, none⟩ = some (.int .i64 0) := (blk_cell BK157.out 0).trans rfl; have hcz8_1 : w5.cell? ⟨gb157, 1, none⟩ = some (.slice none 0 0) := (blk_cell BK157.out 1).trans rfl; have hfz8_0 := blk_frozen BK157.out 0; have hfz8_1 := blk_frozen BK157.out 1))
   refine bodyPost_ret (results_cell_row rfl _ _ gb157 44 #[.int .i64 a0, .slice Ao7 y158.length co7] (0, 0) _ rfl (by (with_reducible repeat (first | refine blk_drewN ?_ _ | refine blk_drew ?_ | refine blk_alloc ?_ _)); refine blk_put (cs := #[.int .i64 a0, .slice none 0 0]) ?_ 1 _ rfl; (with_reducible repeat (first | refine blk_drewN ?_ _ | refine blk_drew ?_ | refine blk_alloc ?_ _)); refine blk_put (cs := #[.int .i64 0, .slice none 0 0]) ?_ 0 _ rfl; (with_reducible repeat (first | refine blk_drewN ?_ _ | refine blk_drew ?_ | refine blk_alloc ?_ _)); exact BK157.out) Try.underlying44 rfl (by kernel_rfl)) rfl ?_
   exact ⟨_, by first | rfl | (simp [errW_none, errW_some] <;> rfl) | (simp [*, errW_none, errW_some] <;> rfl), by (with_reducible repeat (first | apply Kd.R_alloc | apply Kd.R_drewN | apply Kd.R_drew)); exact Kd.R_mono (Kd.R_far (p := ⟨gb157, 1, none⟩) (Kd.R_far (p := ⟨gb157, 0, none⟩) (Kd.R_types HO160.out BK157.out (by decide)) (fun _ hk => hk.2) (.int .i64 a0)) (fun _ hk => hk.2) (.slice Ao7 y158.length co7)) (fun _ hk => trivial), by repeat (first | (with_reducible first | exact HB.out | apply below_alloc | apply pw_below_drewN | apply below_drew1 | refine below_set ?_ GE157.out) | exact HB.out)⟩
  ·
   rw [if_neg c3] at H
   exact absurd H (by simp)
 ·
  rw [if_neg c2] at H
  exact absurd H (by simp)
def impl_Tournament_beat.f (a0_0 : Int) (l0_1 : List Int) (a1 : Int) (a2 : Int) : Option (List Int) := if 0 ≤ a1 then (if a1 < (l0_1.length : Int) then (if 0 ≤ a2 then ((some (l0_1.set (a1 : Int).toNat (Go.bits .or .i64 (rd l0_1 a1) (shl .i64 1 a2)) : List Int)).bind fun y427 => (if a2 < (l0_1.length : Int) then (some (y427.set (a2 : Int).toNat (Go.bits .andNot .i64 (rd y427 a2) (shl .i64 1 a1)))) else (none))) else (none)) else (none)) else (none)
def impl_Tournament_beat.T1 : Bool × List (List Nat × List Nat) := (true, [([], []), ([0], [0]), ([], []), ([1, 2], [1, 2]), ([3], [3]), ([], []), ([5], [5]), ([4, 6], [4, 6]), ([1, 2, 0, 1, 2, 3, 4, 5, 6, 7], [1, 2]), ([8, 7, 0, 1, 2, 3, 4, 5, 6, 7], [7, 8])])
def impl_Tournament_beat.B1 : List Nat := [0, 1, 0, 7, 15, 0, 32, 127, 255, 511]
theorem impl_Tournament_beat.tab1 : rtab .any (opsOf Try.f36 1) = impl_Tournament_beat.T1 := by kernel_rfl
theorem impl_Tournament_beat.bits1 : waitsOk impl_Tournament_beat.T1.2 impl_Tournament_beat.B1 = true := by kernel_rfl
def impl_Tournament_beat.T2 : Bool × List (List Nat × List Nat) := (true, [([], []), ([0], [0]), ([], []), ([1, 2], [1, 2]), ([3], [3]), ([], []), ([5], [5]), ([4, 6], [4, 6]), ([1, 2, 0, 1, 2, 3, 4, 5, 6, 7], [1, 2]), ([8, 7, 0, 1, 2, 3, 4, 5, 6, 7], [7, 8])])
def impl_Tournament_beat.B2 : List Nat := [0, 1, 0, 7, 15, 0, 32, 127, 255, 511]
theorem impl_Tournament_beat.tab2 : rtab .any (opsOf Try.f36 2) = impl_Tournament_beat.T2 := by kernel_rfl
theorem impl_Tournament_beat.bits2 : waitsOk impl_Tournament_beat.T2.2 impl_Tournament_beat.B2 = true := by kernel_rfl
set_option maxHeartbeats 8000000 in
set_option maxRecDepth 100000 in
theorem impl_Tournament_beat.calls (a0_0 : Int) (P0_1_ : Nat → Prop) (u9000_ : Value) (l0_1 : List Int) (a1 : Int) (a2 : Int) (r : List Int) (w0 w : World) (hB : Below w0.heap.size w0 w) (ho0_1 : Kd.R (Kd.int .i64) 3 w w0.heap.size P0_1_ u9000_ l0_1) (h : impl_Tournament_beat.f a0_0 l0_1 a1 a2 = some r) :
  Calls Try.prog 36 #[.agg #[.int .i64 a0_0, u9000_], .int .i64 a1, .int .i64 a2] w fun e w' => e = .returned (.tuple #[]) ∧ Kd.R (Kd.int .i64) 3 w' w0.heap.size (fun k_ => (P0_1_ k_ ∨ w.heap.size ≤ k_)) u9000_ r ∧ Below w0.heap.size w0 w' ∧ Kept w w' (fun k_ => P0_1_ k_) := by
 have hu44 := Try.underlying44
 have HO0_1 := Aside0.mk (show Kd.R (Kd.int .i64) 3 w w0.heap.size (fun k_ => (P0_1_ k_ ∨ w.heap.size ≤ k_)) u9000_ l0_1 from Kd.R_mono ho0_1 (fun k_ hk => (.inl hk)))
 have HK := Aside0.mk (Kept.refl w (fun k_ => P0_1_ k_))
 have HW0 := Aside0.mk hB.size
 have HB := Aside0.mk hB
 clear hB
 have H : (if 0 ≤ a1 then (if a1 < (l0_1.length : Int) then (if 0 ≤ a2 then ((some (l0_1.set (a1 : Int).toNat (Go.bits .or .i64 (rd l0_1 a1) (shl .i64 1 a2)) : List Int)).bind fun y427 => (if a2 < (l0_1.length : Int) then (some (y427.set (a2 : Int).toNat (Go.bits .andNot .i64 (rd y427 a2) (shl .i64 1 a1)))) else (none))) else (none)) else (none)) else (none)) = some r := h
 clear h
 by_cases c4 : 0 ≤ a1
 ·
  rw [if_pos c4] at H
  have c4b0 : decide (0 ≤ a1) = true := decide_eq_true c4
  clear c4
  by_cases c5 : a1 < (l0_1.length : Int)
  ·
   rw [if_pos c5] at H
   have c5b0 : decide (a1 < (l0_1.length : Int)) = true := decide_eq_true c5
   clear c5
   by_cases c6 : 0 ≤ a2
   ·
    rw [if_pos c6] at H
    have c6b0 := eq_true c6
    have c6b1 : decide (0 ≤ a2) = true := decide_eq_true c6
    clear c6
    obtain ⟨ji7, hji7⟩ : ∃ j_ : Int, (shl .i64 1 a2) = j_ := ⟨_, rfl⟩
    replace H : ((some (l0_1.set (a1 : Int).toNat (Go.bits .or .i64 (rd l0_1 a1) (ji7)) : List Int)).bind fun y427 => (if a2 < (l0_1.length : Int) then (some (y427.set (a2 : Int).toNat (Go.bits .andNot .i64 (rd y427 a2) (shl .i64 1 a1)))) else (none))) = some r := by first | (rw [hji7] at H; exact H) | (simp only [hji7] at H ⊢; exact H)
    have hji7_ : (IntKind.i64.wrap (1 * 2 ^ min a2.toNat 64)) = ji7 := hji7
    have hji7z : a2 ≤ 64 → (IntKind.i64.wrap (1 * 2 ^ a2.toNat)) = ji7 := shl_small hji7
    have hji7u : (IntKind.i64.wrap (2 ^ min a2.toNat 64)) = ji7 := by have h_ := hji7_; rw [Int.one_mul] at h_; exact h_
    have hji7v : a2 ≤ 64 → (IntKind.i64.wrap (2 ^ a2.toNat)) = ji7 := fun hle_ => by have h_ := hji7z hle_; rw [Int.one_mul] at h_; exact h_
    have hji7y : (wrap64 (1 * 2 ^ min a2.toNat 64)) = ji7 := (i64_w _).symm.trans hji7_
    have hji7x : a2 ≤ 64 → (wrap64 (1 * 2 ^ a2.toNat)) = ji7 := fun h_ => (i64_w _).symm.trans (hji7z h_)
    obtain ⟨y427, hy427⟩ : ∃ y_ : List Int, y_ = (l0_1.set (a1 : Int).toNat (Go.bits .or .i64 (rd l0_1 a1) (ji7))) := ⟨_, rfl⟩
    replace H : (if a2 < (l0_1.length : Int) then (some (y427.set (a2 : Int).toNat (Go.bits .andNot .i64 (rd y427 a2) (shl .i64 1 a1)))) else (none)) = some r := by first | (rw [hy427]; with_reducible exact H) | (have H2_ := (Option.bind_some _ _).symm.trans H; rw [hy427]; with_reducible exact H2_) | (have H2_ := (Option.bind_some _ _).symm.trans H; with_reducible exact H2_) | with_reducible exact H | (rw [hy427]; exact H) | exact H
    have Ny427 := Aside0.mk hy427
    clear hy427
    by_cases c9 : a2 < (l0_1.length : Int)
    ·
     rw [if_pos c9] at H
     have c9b0 : decide (a2 < (l0_1.length : Int)) = true := decide_eq_true c9
     clear c9
     have c10b0 := eq_true (of_decide_eq_true (by first | (with_reducible assumption) | assumption) : 0 ≤ a1)
     obtain ⟨ji11, hji11⟩ : ∃ j_ : Int, (shl .i64 1 a1) = j_ := ⟨_, rfl⟩
     replace H : (some (y427.set (a2 : Int).toNat (Go.bits .andNot .i64 (rd y427 a2) (ji11)))) = some r := by first | (rw [hji11] at H; exact H) | (simp only [hji11] at H ⊢; exact H)
     have hji11_ : (IntKind.i64.wrap (1 * 2 ^ min a1.toNat 64)) = ji11 := hji11
     have hji11z : a1 ≤ 64 → (IntKind.i64.wrap (1 * 2 ^ a1.toNat)) = ji11 := shl_small hji11
     have hji11u : (IntKind.i64.wrap (2 ^ min a1.toNat 64)) = ji11 := by have h_ := hji11_; rw [Int.one_mul] at h_; exact h_
     have hji11v : a1 ≤ 64 → (IntKind.i64.wrap (2 ^ a1.toNat)) = ji11 := fun hle_ => by have h_ := hji11z hle_; rw [Int.one_mul] at h_; exact h_
     have hji11y : (wrap64 (1 * 2 ^ min a1.toNat 64)) = ji11 := (i64_w _).symm.trans hji11_
     have hji11x : a1 ≤ 64 → (wrap64 (1 * 2 ^ a1.toNat)) = ji11 := fun h_ => (i64_w _).symm.trans (hji11z h_)
     obtain ⟨y429, hy429⟩ : ∃ y_ : List Int, y_ = (y427.set (a2 : Int).toNat (Go.bits .andNot .i64 (rd y427 a2) (ji11))) := ⟨_, rfl⟩
     replace H : (some y429) = some r := by first | (rw [hy429]; with_reducible exact H) | (have H2_ := (Option.bind_some _ _).symm.trans H; rw [hy429]; with_reducible exact H2_) | (have H2_ := (Option.bind_some _ _).symm.trans H; with_reducible exact H2_) | with_reducible exact H | (rw [hy429]; exact H) | exact H
     have Ny429 := Aside0.mk hy429
     clear hy429
     obtain rfl := Option.some.inj H
     obtain ⟨Ao13, co13, eo13⟩ := Kd.R_slice HO0_1.out
     subst eo13
     go_enter Try.func36, Try.ntmps36
     try go_wp2_with (first | ((with_reducible refine gate_dst (N := 3) rfl ?_); refine box_event ?hg (N := 3) ?hd (cs := #[.int .i64 a0_0, .slice Ao13 l0_1.length co13]) (t := 44) ?hr ?_; (case hd => rfl); (case hg => rfl); (case hr => first | (go_simp; done) | (go_simp; rfl)); intro gb425 hg w14 hbox hb; have n0_ := Aside0.mk (Kd.R_below (by (with_reducible repeat (first | apply Kd.R_alloc | apply Kd.R_drewN | apply Kd.R_drew)); exact HO0_1.out) hb); have n1_ := Aside0.mk (Kept.below (S := (fun k_ => P0_1_ k_)) (by repeat (first | (with_reducible first | exact HK.out | apply Kept.alloc | apply Kept.drewN | apply Kept.drew) | exact HK.out)) hb); have n2_ := Aside0.mk (below_step (by repeat (first | (with_reducible first | exact HB.out | apply below_alloc | apply pw_below_drewN | apply below_drew1))) hb); have n3_ := Aside0.mk (hbox); have n4_ := Aside0.mk ((by rw [hg]; exact (by first | exact HK.out.1 | exact (show Kept w _ (fun k_ => P0_1_ k_) from by repeat (first | (with_reducible first | exact HK.out | apply Kept.alloc | apply Kept.drewN | apply Kept.drew) | exact HK.out)).1) : w.heap.size ≤ gb425)); have n5_ := Aside0.mk ((by rw [hg]; exact (below_size (by repeat (first | (with_reducible first | exact HB.out | apply below_alloc | apply pw_below_drewN | apply below_drew1)))) : w0.heap.size ≤ gb425)); clear HO0_1; clear HK; clear HB; have HO0_1 := n0_; have HK := n1_; have HB := n2_; have BK425 := n3_; have GW425 := n4_; have GE425 := n5_; clear n0_ n1_ n2_ n3_ n4_ n5_; clear hb hbox hg))
     have n0_ := Aside0.mk (Kd.R_drew HO0_1.out)
     have n1_ := Aside0.mk (blk_drew BK425.out)
     have n2_ := Aside0.mk (Kept.drew HK.out)
     have n3_ := Aside0.mk (below_drew1 HB.out)
     clear HO0_1
     clear BK425
     clear HK
     clear HB
     have HO0_1 := n0_
     have BK425 := n1_
     have HK := n2_
     have HB := n3_
     clear n0_ n1_ n2_ n3_
     have p426 : 0 ≤ (a1 : Int) := of_decide_eq_true (by first | (with_reducible assumption) | assumption)
     have q426 : a1 < (l0_1.length : Int) := of_decide_eq_true (by first | (with_reducible assumption) | assumption)
     obtain ⟨ad426, e426, hx426_0⟩ := Kd.at_int (Kd.R_reads' HO0_1.out).2.2 a1 p426 q426
     cases e426
     replace p426 := eq_true p426
     replace q426 := eq_true q426
     have p8 : 0 ≤ (a1 : Int) := of_decide_eq_true (by first | (with_reducible assumption) | assumption)
     have q8 : (a1 : Int) < ((l0_1.length : Int) : Int) := of_decide_eq_true (by first | (with_reducible assumption) | assumption)
     obtain ⟨go8, co8, eo8, gb8, gl8, cl8, HG8⟩ := Kd.R_form HO0_1.out (by omega)
     (first | cases eo8 | (injection eo8 with ea_ en_ ec_; (first | subst ea_ | (injection ea_ with ea_; subst ea_)); subst ec_; clear en_))
     have GB8 := Aside0.mk gb8
     have GG8 := Aside0.mk HG8
     clear gb8 gl8 HG8
     have HMgo8 := Aside0.mk (show (P0_1_ go8 ∨ w.heap.size ≤ go8) from (HO0_1.out.1 _ rfl))
     (first | simp only [add_plain] at hx426_0 | skip)
     obtain ⟨hx8_0, hf8_0⟩ := Kd.R_celln 0 HO0_1.out (a1 : Int) p8 q8
     replace p8 := eq_true p8
     replace q8 := eq_true q8
     have HP16 := Kd.R_putn HO0_1.out (a1 : Int) (Go.bits .or .i64 (rd l0_1 a1) (ji7))
     rw [← Ny427.out] at HP16
     have HQ16 := Aside0.mk HP16
     clear HP16
     refine start_ (n := 10) (S := fun w' => w'.cell? ⟨gb425, 0, none⟩ = some (.int .i64 a0_0) ∧ w'.cell? ⟨gb425, 1, none⟩ = some (.slice (some ⟨go8, 0, none⟩) l0_1.length co13) ∧ w'.cell? ⟨go8, (a1).toNat, none⟩ = some (.int .i64 (rd l0_1 a1))) (ds := [9]) #[Zz,Zz,Zz,Zz,Zz,Zz,Zz,Zz,Zz,Zz] (by kernel_rfl) rfl rfl ⟨(blk_cell BK425.out 0).trans rfl, (blk_cell BK425.out 1).trans rfl, hx426_0⟩ (fun hHeld => ?_); refine with_tabW impl_Tournament_beat.tab1 impl_Tournament_beat.bits1 (fun HT_ HW_ => ?_)
     generalize w14.drew = w15 at HO0_1 BK425 HK HB GG8 HQ16 hf8_0 hx426_0 hx8_0 hHeld ⊢
     refine pure_ (i := 0) (N := some 6) (v := ?_) (a' := ?_) #[Yy,Zz,Zz,Zz,Zz,Zz,Zz,Zz,Zz,Zz] rfl rfl (any_of HT_.out (by kernel_rfl)) (fun _ _ _ h => h) (Or.inl ⟨by rfl, ?_⟩) ?_ ?_
     rotate_left
     ·
      intro w'
      go_simp
      with_reducible rfl
     rotate_left
     ·
      simp only [Act.put, List.setIfInBounds_toArray, List.set_cons_zero, List.set_cons_succ, i64_w, i32_w]
      rfl
     refine pure_ (i := 2) (N := some 8) (v := ?_) (a' := ?_) #[Yy,Zz,Yy,Zz,Zz,Zz,Zz,Zz,Zz,Zz] rfl rfl (any_of HT_.out (by kernel_rfl)) (fun _ _ _ h => h) (Or.inl ⟨by rfl, ?_⟩) ?_ ?_
     rotate_left
     ·
      intro w'
      go_simp
      with_reducible rfl
     rotate_left
     ·
      simp only [Act.put, List.setIfInBounds_toArray, List.set_cons_zero, List.set_cons_succ, i64_w, i32_w]
      rfl
     refine pure_ (i := 5) (N := some 11) (v := ?_) (a' := ?_) #[Yy,Zz,Yy,Zz,Zz,Yy,Zz,Zz,Zz,Zz] rfl rfl (any_of HT_.out (by kernel_rfl)) (fun _ _ _ h => h) (Or.inl ⟨by rfl, ?_⟩) ?_ ?_
     rotate_left
     ·
      intro w'
      go_simp
      with_reducible rfl
     rotate_left
     ·
      simp only [Act.put, List.setIfInBounds_toArray, List.set_cons_zero, List.set_cons_succ, i64_w, i32_w]
      rfl
     refine pure_ (i := 6) (N := some 12) (v := ?_) (a' := ?_) #[Yy,Zz,Yy,Zz,Zz,Yy,Yy,Zz,Zz,Zz] rfl rfl (any_of HT_.out (by kernel_rfl)) (fun _ _ _ h => h) (Or.inl ⟨by rfl, ?_⟩) ?_ ?_
     rotate_left
     ·
      intro w'
      go_simp
      with_reducible rfl
     rotate_left
     ·
      simp only [Act.put, List.setIfInBounds_toArray, List.set_cons_zero, List.set_cons_succ, i64_w, i32_w]
      rfl
     refine take_ (i := 1) (N := some 7) (v := ?_) (a' := ?_) #[Yy,Yy,Yy,Zz,Zz,Yy,Yy,Zz,Zz,Zz] rfl rfl (take_ofW HT_.out HW_.out (by kernel_rfl)) (fun _ _ _ h => h) (Or.inl ⟨by rfl, ?_⟩) hHeld ?_ ?_
     rotate_left
     ·
      rintro w' ⟨s0, s1, s2⟩
      go_simp
      with_reducible rfl
     rotate_left
     ·
      simp only [Act.put, List.setIfInBounds_toArray, List.set_cons_zero, List.set_cons_succ, i64_w, i32_w]
      rfl
     refine pure_ (i := 3) (N := some 9) (v := ?_) (a' := ?_) #[Yy,Yy,Yy,Yy,Zz,Yy,Yy,Zz,Zz,Zz] rfl rfl (any_of HT_.out (by kernel_rfl)) (fun _ _ _ h => h) (Or.inl ⟨by rfl, ?_⟩) ?_ ?_
     rotate_left
     ·
      intro w'
      go_simp
      with_reducible rfl
     rotate_left
     ·
      simp only [Act.put, List.setIfInBounds_toArray, List.set_cons_zero, List.set_cons_succ, i64_w, i32_w]
      rfl
     refine take_ (i := 4) (N := some 10) (v := ?_) (a' := ?_) #[Yy,Yy,Yy,Yy,Yy,Yy,Yy,Zz,Zz,Zz] rfl rfl (take_ofW HT_.out HW_.out (by kernel_rfl)) (fun _ _ _ h => h) (Or.inl ⟨by rfl, ?_⟩) hHeld ?_ ?_
     rotate_left
     ·
      rintro w' ⟨s0, s1, s2⟩
      go_simp
      with_reducible rfl
     rotate_left
     ·
      simp only [Act.put, List.setIfInBounds_toArray, List.set_cons_zero, List.set_cons_succ, i64_w, i32_w]
      rfl
     refine pure_ (i := 7) (N := some 13) (v := ?_) (a' := ?_) #[Yy,Yy,Yy,Yy,Yy,Yy,Yy,Yy,Zz,Zz] rfl rfl (any_of HT_.out (by kernel_rfl)) (fun _ _ _ h => h) (Or.inl ⟨by rfl, ?_⟩) ?_ ?_
     rotate_left
     ·
      intro w'
      go_simp
      with_reducible rfl
     rotate_left
     ·
      simp only [Act.put, List.setIfInBounds_toArray, List.set_cons_zero, List.set_cons_succ, i64_w, i32_w]
      rfl
     refine pure_ (i := 8) (N := some 14) (v := ?_) (a' := ?_) #[Yy,Yy,Yy,Yy,Yy,Yy,Yy,Yy,Yy,Zz] rfl rfl (any_of HT_.out (by kernel_rfl)) (fun _ _ _ h => h) (Or.inl ⟨by rfl, ?_⟩) ?_ ?_
     rotate_left
     ·
      intro w'
      go_simp
      with_reducible rfl
     rotate_left
     ·
      simp only [Act.put, List.setIfInBounds_toArray, List.set_cons_zero, List.set_cons_succ, i64_w, i32_w]
      rfl
     refine last_ (i := 9) (N := none) #[Yy,Yy,Yy,Yy,Yy,Yy,Yy,Yy,Yy,Yy] rfl rfl (one_of HT_.out (by kernel_rfl)) (by decide) (fun K hK => ?_)
     refine skip_ (w1 := ?_) (by rfl) rfl ?_ ?_
     rotate_left
     ·
      go_simp
      rfl
     refine hK.out _ _ ?_
     clear hK K
     refine done_ (done_of HT_.out (by kernel_rfl)) ?_
     try go_wp2
     have n0_ : Aside0 (Kd.R (Kd.int .i64) 3 (w15.setCell ⟨go8, (a1 : Int).toNat, none⟩ (.int .i64 (Go.bits .or .i64 (rd l0_1 a1) (ji7)))) w0.heap.size (fun k_ => (P0_1_ k_ ∨ w.heap.size ≤ k_)) (.slice (some ⟨go8, 0, none⟩) l0_1.length co13) y427) := ⟨by (with_reducible repeat (first | apply Kd.R_alloc | apply Kd.R_drewN | apply Kd.R_drew)); exact HQ16.out⟩
     have n1_ : Aside0 ((w15.setCell ⟨go8, (a1 : Int).toNat, none⟩ (.int .i64 (Go.bits .or .i64 (rd l0_1 a1) (ji7)))).heap[gb425]? = some (.cells #[.int .i64 a0_0, .slice (some ⟨go8, 0, none⟩) l0_1.length co13] 44 (0, 0))) := ⟨by (with_reducible repeat (first | refine blk_drewN ?_ _ | refine blk_drew ?_ | refine blk_alloc ?_ _)); refine blk_far ?_ (by have h_ := Kd.R_ne HO0_1.out BK425.out (by decide); intro e_; exact h_ (by rw [e_]; rfl)) _; (with_reducible repeat (first | refine blk_drewN ?_ _ | refine blk_drew ?_ | refine blk_alloc ?_ _)); exact BK425.out⟩
     have n2_ : Aside0 (Kept w (w15.setCell ⟨go8, (a1 : Int).toNat, none⟩ (.int .i64 (Go.bits .or .i64 (rd l0_1 a1) (ji7)))) (fun k_ => P0_1_ k_)) := ⟨by repeat (first | (with_reducible first | exact HK.out | apply Kept.alloc | apply Kept.drewN | apply Kept.drew | refine Kept.setCell ?_ HMgo8.out _ | refine Kept.setCell ?_ (.inr GW425.out) _) | exact HK.out)⟩
     have n3_ : Aside0 (Below w0.heap.size w0 (w15.setCell ⟨go8, (a1 : Int).toNat, none⟩ (.int .i64 (Go.bits .or .i64 (rd l0_1 a1) (ji7))))) := ⟨by repeat (first | (with_reducible first | exact HB.out | apply below_alloc | apply pw_below_drewN | apply below_drew1 | refine below_set ?_ GB8.out | refine below_set ?_ GE425.out) | exact HB.out)⟩
     (try clear HO0_1)
     (try clear BK425)
     (try clear HK)
     (try clear HB)
     generalize (w15.setCell ⟨go8, (a1 : Int).toNat, none⟩ (.int .i64 (Go.bits .or .i64 (rd l0_1 a1) (ji7)))) = w17 at n0_ n1_ n2_ n3_ ⊢
     have HO0_1 := n0_
     have BK425 := n1_
     have HK := n2_
     have HB := n3_
     clear n0_ n1_ n2_ n3_
     have n0_ := Aside0.mk (Kd.R_drew HO0_1.out)
     have n1_ := Aside0.mk (blk_drew BK425.out)
     have n2_ := Aside0.mk (Kept.drew HK.out)
     have n3_ := Aside0.mk (below_drew1 HB.out)
     clear HO0_1
     clear BK425
     clear HK
     clear HB
     have HO0_1 := n0_
     have BK425 := n1_
     have HK := n2_
     have HB := n3_
     clear n0_ n1_ n2_ n3_
     have p428 : 0 ≤ (a2 : Int) := of_decide_eq_true (by first | (with_reducible assumption) | assumption)
     have q428 : a2 < (y427.length : Int) := (by have h_ : (a2 : Int) < ((l0_1.length : Int) : Int) := of_decide_eq_true (by first | (with_reducible assumption) | assumption); first | (have e_ := (Kd.R_reads' HO0_1.out).1; omega) | simpa only [Ny427.out, List.length_set] using h_)
     have ql428 : ((a2 : Int) < ((l0_1.length : Int) : Int)) = True := eq_true (of_decide_eq_true (by first | (with_reducible assumption) | assumption))
     obtain ⟨ad428, e428, hx428_0⟩ := Kd.at_int (Kd.R_reads' HO0_1.out).2.2 a2 p428 q428
     obtain rfl : (⟨go8, 0, none⟩ : Addr) = ad428 := (by injection e428)
     (first | simp only [add_plain] at hx428_0 | simp only [add_at] at hx428_0 | simp only [Addr.add, Nat.zero_add] at hx428_0 | skip)
     replace p428 := eq_true p428
     replace q428 := eq_true q428
     have p12 : 0 ≤ (a2 : Int) := of_decide_eq_true (by first | (with_reducible assumption) | assumption)
     have q12 : (a2 : Int) < ((l0_1.length : Int) : Int) := of_decide_eq_true (by first | (with_reducible assumption) | assumption)
     obtain ⟨hx12_0, hf12_0⟩ := Kd.R_celln 0 HO0_1.out (a2 : Int) p12 q12
     replace p12 := eq_true p12
     replace q12 := eq_true q12
     have HP19 := Kd.R_putn HO0_1.out (a2 : Int) (Go.bits .andNot .i64 (rd y427 a2) (ji11))
     rw [← Ny429.out] at HP19
     have HQ19 := Aside0.mk HP19
     clear HP19
     refine start_ (n := 10) (S := fun w' => w'.cell? ⟨gb425, 0, none⟩ = some (.int .i64 a0_0) ∧ w'.cell? ⟨gb425, 1, none⟩ = some (.slice (some ⟨go8, 0, none⟩) l0_1.length co13) ∧ w'.cell? ⟨go8, (a2).toNat, none⟩ = some (.int .i64 (rd y427 a2))) (ds := [9]) #[Zz,Zz,Zz,Zz,Zz,Zz,Zz,Zz,Zz,Zz] (by kernel_rfl) rfl rfl ⟨(blk_cell BK425.out 0).trans rfl, (blk_cell BK425.out 1).trans rfl, hx428_0⟩ (fun hHeld => ?_); refine with_tabW impl_Tournament_beat.tab2 impl_Tournament_beat.bits2 (fun HT_ HW_ => ?_)
     generalize w17.drew = w18 at HO0_1 BK425 HK HB HQ16 HQ19 hf12_0 hx12_0 hx428_0 hHeld ⊢
     refine pure_ (i := 0) (N := some 15) (v := ?_) (a' := ?_) #[Yy,Zz,Zz,Zz,Zz,Zz,Zz,Zz,Zz,Zz] rfl rfl (any_of HT_.out (by kernel_rfl)) (fun _ _ _ h => h) (Or.inl ⟨by rfl, ?_⟩) ?_ ?_
     rotate_left
     ·
      intro w'
      go_simp
      with_reducible rfl
     rotate_left
     ·
      simp only [Act.put, List.setIfInBounds_toArray, List.set_cons_zero, List.set_cons_succ, i64_w, i32_w]
      rfl
     refine pure_ (i := 2) (N := some 17) (v := ?_) (a' := ?_) #[Yy,Zz,Yy,Zz,Zz,Zz,Zz,Zz,Zz,Zz] rfl rfl (any_of HT_.out (by kernel_rfl)) (fun _ _ _ h => h) (Or.inl ⟨by rfl, ?_⟩) ?_ ?_
     rotate_left
     ·
      intro w'
      go_simp
      with_reducible rfl
     rotate_left
     ·
      simp only [Act.put, List.setIfInBounds_toArray, List.set_cons_zero, List.set_cons_succ, i64_w, i32_w]
      rfl
     refine pure_ (i := 5) (N := some 20) (v := ?_) (a' := ?_) #[Yy,Zz,Yy,Zz,Zz,Yy,Zz,Zz,Zz,Zz] rfl rfl (any_of HT_.out (by kernel_rfl)) (fun _ _ _ h => h) (Or.inl ⟨by rfl, ?_⟩) ?_ ?_
     rotate_left
     ·
      intro w'
      go_simp
      with_reducible rfl
     rotate_left
     ·
      simp only [Act.put, List.setIfInBounds_toArray, List.set_cons_zero, List.set_cons_succ, i64_w, i32_w]
      rfl
     refine pure_ (i := 6) (N := some 21) (v := ?_) (a' := ?_) #[Yy,Zz,Yy,Zz,Zz,Yy,Yy,Zz,Zz,Zz] rfl rfl (any_of HT_.out (by kernel_rfl)) (fun _ _ _ h => h) (Or.inl ⟨by rfl, ?_⟩) ?_ ?_
     rotate_left
     ·
      intro w'
      go_simp
      with_reducible rfl
     rotate_left
     ·
      simp only [Act.put, List.setIfInBounds_toArray, List.set_cons_zero, List.set_cons_succ, i64_w, i32_w]
      rfl
     refine take_ (i := 1) (N := some 16) (v := ?_) (a' := ?_) #[Yy,Yy,Yy,Zz,Zz,Yy,Yy,Zz,Zz,Zz] rfl rfl (take_ofW HT_.out HW_.out (by kernel_rfl)) (fun _ _ _ h => h) (Or.inl ⟨by rfl, ?_⟩) hHeld ?_ ?_
     rotate_left
     ·
      rintro w' ⟨s0, s1, s2⟩
      go_simp
      with_reducible rfl
     rotate_left
     ·
      simp only [Act.put, List.setIfInBounds_toArray, List.set_cons_zero, List.set_cons_succ, i64_w, i32_w]
      rfl
     refine pure_ (i := 3) (N := some 18) (v := ?_) (a' := ?_) #[Yy,Yy,Yy,Yy,Zz,Yy,Yy,Zz,Zz,Zz] rfl rfl (any_of HT_.out (by kernel_rfl)) (fun _ _ _ h => h) (Or.inl ⟨by rfl, ?_⟩) ?_ ?_
     rotate_left
     ·
      intro w'
      go_simp
      with_reducible rfl
     rotate_left
     ·
      simp only [Act.put, List.setIfInBounds_toArray, List.set_cons_zero, List.set_cons_succ, i64_w, i32_w]
      rfl
     refine take_ (i := 4) (N := some 19) (v := ?_) (a' := ?_) #[Yy,Yy,Yy,Yy,Yy,Yy,Yy,Zz,Zz,Zz] rfl rfl (take_ofW HT_.out HW_.out (by kernel_rfl)) (fun _ _ _ h => h) (Or.inl ⟨by rfl, ?_⟩) hHeld ?_ ?_
     rotate_left
     ·
      rintro w' ⟨s0, s1, s2⟩
      go_simp
      with_reducible rfl
     rotate_left
     ·
      simp only [Act.put, List.setIfInBounds_toArray, List.set_cons_zero, List.set_cons_succ, i64_w, i32_w]
      rfl
     refine pure_ (i := 7) (N := some 22) (v := ?_) (a' := ?_) #[Yy,Yy,Yy,Yy,Yy,Yy,Yy,Yy,Zz,Zz] rfl rfl (any_of HT_.out (by kernel_rfl)) (fun _ _ _ h => h) (Or.inl ⟨by rfl, ?_⟩) ?_ ?_
     rotate_left
     ·
      intro w'
      go_simp
      with_reducible rfl
     rotate_left
     ·
      simp only [Act.put, List.setIfInBounds_toArray, List.set_cons_zero, List.set_cons_succ, i64_w, i32_w]
      rfl
     refine pure_ (i := 8) (N := some 23) (v := ?_) (a' := ?_) #[Yy,Yy,Yy,Yy,Yy,Yy,Yy,Yy,Yy,Zz] rfl rfl (any_of HT_.out (by kernel_rfl)) (fun _ _ _ h => h) (Or.inl ⟨by rfl, ?_⟩) ?_ ?_
     rotate_left
     ·
      intro w'
      go_simp
      with_reducible rfl
     rotate_left
     ·
      simp only [Act.put, List.setIfInBounds_toArray, List.set_cons_zero, List.set_cons_succ, i64_w, i32_w]
      rfl
     refine last_ (i := 9) (N := none) #[Yy,Yy,Yy,Yy,Yy,Yy,Yy,Yy,Yy,Yy] rfl rfl (one_of HT_.out (by kernel_rfl)) (by decide) (fun K hK => ?_)
     refine skip_ (w1 := ?_) (by rfl) rfl ?_ ?_
     rotate_left
     ·
      go_simp
      rfl
     refine hK.out _ _ ?_
     clear hK K
     refine done_ (done_of HT_.out (by kernel_rfl)) ?_
     try go_wp2
     first | go_end0 | ((try simp only [Exit.inBlock, Exit.then]); refine bodyPost_ret (results_none rfl _ _ _) rfl ?_)
     exact ⟨by first | rfl | (simp [errW_none, errW_some] <;> rfl) | (simp only [← hji7, ← hji11]; first | rfl | (simp [errW_none, errW_some] <;> rfl)) | (simp [*, errW_none, errW_some] <;> rfl), by (with_reducible repeat (first | apply Kd.R_alloc | apply Kd.R_drewN | apply Kd.R_drew)); exact HQ19.out, by repeat (first | (with_reducible first | exact HB.out | apply below_alloc | apply pw_below_drewN | apply below_drew1 | refine below_set ?_ GB8.out | refine below_set ?_ GE425.out) | exact HB.out), by repeat (first | (with_reducible first | exact HK.out | apply Kept.alloc | apply Kept.drewN | apply Kept.drew | refine Kept.setCell ?_ HMgo8.out _ | refine Kept.setCell ?_ (.inr GW425.out) _) | exact HK.out)⟩
    ·
     rw [if_neg c9] at H
     exact absurd H (by simp)
   ·
    rw [if_neg c6] at H
    exact absurd H (by simp)
  ·
   rw [if_neg c5] at H
   exact absurd H (by simp)
 ·
  rw [if_neg c4] at H
  exact absurd H (by simp)
end Go.Proofs.Ytgfoeagphlkjkaa.P
namespace Go.Proofs.Ytgfoeagphlkjkaa.P
open Go.RowKit Go.Proofs.YtgfoeagphlkjkaaW.PrintWords Go.Proofs.YtgfoeagphlkjkaaW.PrintLast Go.Proofs.YtgfoeagphlkjkaaW.PrintMore Go.Proofs.Ytgfoeagphlkjkaa.K
open Go Go.Sort Go.Shelf
attribute [local go_sem ↓] Go.wp_at_zero Go.wp_at_succ
structure BT (w W : World) (n : Nat) (g2 g4 g5 gB gN gO cB cN cO : Nat) (ns nd od : List Int) : Prop where
  b2 : W.heap[g2]? = some (.cells #[.int .i64 0, .slice none 0 0] 44 (0, 0))
  b4 : W.heap[g4]? = some (.cells #[.int .i64 (n : Int), .slice (some ⟨gB, 0, none⟩) ns.length cB] 44 (0, 0))
  b5 : W.heap[g5]? = some (.cells #[.slice (some ⟨gN, 0, none⟩) nd.length cN] 22 (0, 0))
  rB : K.IRow W w.heap.size gB cB ns
  rN : K.IRow W w.heap.size gN cN nd
  rO : K.IRow W w.heap.size gO cO od
  nBN : gB ≠ gN
  nBO : gB ≠ gO
  nNO : gN ≠ gO
  n24 : g2 ≠ g4
  bel : Below w.heap.size w W
  ge2 : w.heap.size ≤ g2
theorem BT.neBox {w W : World} {n g2 g4 g5 gB gN gO cB cN cO : Nat} {ns nd od : List Int} (h : BT w W n g2 g4 g5 gB gN gO cB cN cO ns nd od) {g c : Nat} {xs : List Int} (hr : K.IRow W w.heap.size g c xs) : g2 ≠ g ∧ g4 ≠ g ∧ g5 ≠ g := by
  obtain ⟨cur, h1, _⟩ := hr.blk
  refine ⟨fun e => ?_, fun e => ?_, fun e => ?_⟩
  · have := h.b2; rw [e, h1] at this; injection this with q; injection q with q1 q2; exact absurd q2 (by decide)
  · have := h.b4; rw [e, h1] at this; injection this with q; injection q with q1 q2; exact absurd q2 (by decide)
  · have := h.b5; rw [e, h1] at this; injection this with q; injection q with q1 q2; exact absurd q2 (by decide)
theorem BT.keep {w W W2 : World} {n g2 g4 g5 gB gN gO cB cN cO : Nat} {ns nd od : List Int} (h : BT w W n g2 g4 g5 gB gN gO cB cN cO ns nd od) (hb : Below W.heap.size W W2) : BT w W2 n g2 g4 g5 gB gN gO cB cN cO ns nd od :=
  ⟨(hb.block _ (blk_lt h.b2)).trans h.b2, (hb.block _ (blk_lt h.b4)).trans h.b4, (hb.block _ (blk_lt h.b5)).trans h.b5, h.rB.keep (hb.block _ h.rB.lt), h.rN.keep (hb.block _ h.rN.lt), h.rO.keep (hb.block _ h.rO.lt), h.nBN, h.nBO, h.nNO, h.n24, below_step h.bel hb, h.ge2⟩
theorem BT.sorted {w W W2 : World} {n g2 g4 g5 gB gN gO cB cN cO : Nat} {ns nd od od' : List Int} (h : BT w W n g2 g4 g5 gB gN gO cB cN cO ns nd od) (hg : W.grownBy W2 (some gO)) (hr : K.IRow W2 w.heap.size gO cO od') : BT w W2 n g2 g4 g5 gB gN gO cB cN cO ns nd od' := by
  obtain ⟨q2, q4, q5⟩ := h.neBox h.rO
  have hk : ∀ k, k < W.heap.size → k ≠ gO → W2.heap[k]? = W.heap[k]? := fun k hk hne => hg.block k hk (fun e => hne (Option.some.inj e))
  exact ⟨(hk _ (blk_lt h.b2) q2).trans h.b2, (hk _ (blk_lt h.b4) q4).trans h.b4, (hk _ (blk_lt h.b5) q5).trans h.b5, h.rB.keep (hk _ h.rB.lt h.nBO), h.rN.keep (hk _ h.rN.lt h.nNO), hr, h.nBN, h.nBO, h.nNO, h.n24, pw_below_grown h.bel _ h.bel.size hg (fun k e => by cases e; exact h.rO.base), h.ge2⟩
theorem BT.joined {w W W2 : World} {n g2 g4 g5 gB gN gO cB cN cO : Nat} {ns ns' nd od : List Int} (h : BT w W n g2 g4 g5 gB gN gO cB cN cO ns nd od) (hk0 : Kept W W2 (fun k => k = gB)) (hb : Below w.heap.size w W2) (hr : K.IRow W2 w.heap.size gB cB ns') (hl : ns'.length = ns.length) : BT w W2 n g2 g4 g5 gB gN gO cB cN cO ns' nd od := by
  obtain ⟨q2, q4, q5⟩ := h.neBox h.rB
  have hk : ∀ k, k < W.heap.size → k ≠ gB → W2.heap[k]? = W.heap[k]? := fun k hk hne => hk0.2 k hk hne
  exact ⟨(hk _ (blk_lt h.b2) q2).trans h.b2, by rw [hl]; exact (hk _ (blk_lt h.b4) q4).trans h.b4, (hk _ (blk_lt h.b5) q5).trans h.b5, hr, h.rN.keep (hk _ h.rN.lt (Ne.symm h.nBN)), h.rO.keep (hk _ h.rO.lt (Ne.symm h.nBO)), h.nBN, h.nBO, h.nNO, h.n24, hb, h.ge2⟩
theorem BT.put {w W : World} {n g2 g4 g5 gB gN gO cB cN cO : Nat} {ns nd od : List Int} (h : BT w W n g2 g4 g5 gB gN gO cB cN cO ns nd od) (j : Nat) (hj : j < nd.length) (v : Int) : BT w (W.setCell ⟨gN, j, none⟩ (.int .i64 v)) n g2 g4 g5 gB gN gO cB cN cO ns (nd.set j v) od := by
  obtain ⟨q2, q4, q5⟩ := h.neBox h.rN
  have hs := h.rN.set j hj v
  exact ⟨(K.set_heap q2).trans h.b2, (K.set_heap q4).trans h.b4, by rw [List.length_set]; exact (K.set_heap q5).trans h.b5, h.rB.keep (K.set_heap h.nBN), hs, h.rO.keep (K.set_heap (Ne.symm h.nNO)), h.nBN, h.nBO, h.nNO, h.n24, below_set h.bel h.rN.base, h.ge2⟩
theorem BT.appended {w W W2 : World} {n g2 g4 g5 gB gN gO g' cB cN cO c' : Nat} {ns nd od od' : List Int} (h0 : BT w W n g2 g4 g5 gB gN gO cB cN cO ns nd od) (o : Obj) (hg : (W.alloc o).grownBy W2 (some gO)) (hr : K.IRow W2 w.heap.size g' c' od') (hat : g' = gO ∨ (W.alloc o).heap.size ≤ g') : BT w W2 n g2 g4 g5 gB gN g' cB cN c' ns nd od' := by
  have h := h0.keep (below_alloc (Below.refl W.heap.size W) o)
  obtain ⟨q2, q4, q5⟩ := h.neBox h.rO
  have hk : ∀ k, k < (W.alloc o).heap.size → k ≠ gO → W2.heap[k]? = (W.alloc o).heap[k]? := fun k hk hne => hg.block k hk (fun e => hne (Option.some.inj e))
  have l1 := h.rB.lt
  have l2 := h.rN.lt
  exact ⟨(hk _ (blk_lt h.b2) q2).trans h.b2, (hk _ (blk_lt h.b4) q4).trans h.b4, (hk _ (blk_lt h.b5) q5).trans h.b5, h.rB.keep (hk _ h.rB.lt h.nBO), h.rN.keep (hk _ h.rN.lt h.nNO), hr, h.nBN, by rcases hat with e | e; (· rw [e]; exact h.nBO); (· omega), by rcases hat with e | e; (· rw [e]; exact h.nNO); (· omega), h.n24, pw_below_grown h.bel _ h.bel.size hg (fun k e => by cases e; exact h.rO.base), h.ge2⟩
theorem BT.start {w W : World} {n g2 gB gN cB cN : Nat} {ns nd : List Int} (h2 : W.heap[g2]? = some (.cells #[.int .i64 0, .slice none 0 0] 44 (0, 0))) (hB : K.IRow W w.heap.size gB cB ns) (hN : K.IRow W w.heap.size gN cN nd) (hne : gB ≠ gN) (hb : Below w.heap.size w W) (hge : w.heap.size ≤ g2) :
    BT w (((W.alloc (.cells #[] 3)).alloc (.cells #[.int .i64 (n : Int), .slice (some ⟨gB, 0, none⟩) ns.length cB] 44)).alloc (.cells #[.slice (some ⟨gN, 0, none⟩) nd.length cN] 22)) n g2 (W.heap.size + 1) (W.heap.size + 1 + 1) gB gN W.heap.size cB cN 0 ns nd [] := by
  have l2 := blk_lt h2
  have l3 := hB.lt
  have l4 := hN.lt
  have hbe : ∀ W' : World, Below W.heap.size W W' → Below w.heap.size w W' := fun W' hb' => below_step hb hb'
  have b3 : Below W.heap.size W (((W.alloc (.cells #[] 3)).alloc (.cells #[.int .i64 (n : Int), .slice (some ⟨gB, 0, none⟩) ns.length cB] 44)).alloc (.cells #[.slice (some ⟨gN, 0, none⟩) nd.length cN] 22)) := below_alloc (below_alloc (below_alloc (Below.refl _ _) _) _) _
  refine ⟨(b3.block _ l2).trans h2, ?_, ?_, hB.keep (b3.block _ l3), hN.keep (b3.block _ l4), ⟨hb.size, ⟨#[], ?_, rfl, rfl⟩, Nat.le_refl _, by unfold maxLen; omega⟩, hne, by omega, by omega, by omega, hbe _ b3, hge⟩
  · refine blk_alloc ?_ _
    have := blk_new (W.alloc (.cells #[] 3)) (.cells #[.int .i64 (n : Int), .slice (some ⟨gB, 0, none⟩) ns.length cB] 44)
    rw [World.size_alloc] at this
    exact this
  · have := blk_new ((W.alloc (.cells #[] 3)).alloc (.cells #[.int .i64 (n : Int), .slice (some ⟨gB, 0, none⟩) ns.length cB] 44)) (.cells #[.slice (some ⟨gN, 0, none⟩) nd.length cN] 22)
    rw [World.size_alloc, World.size_alloc] at this
    exact this
  · exact blk_alloc (blk_alloc (blk_new W _) _) _
structure BT8 (w W : World) (n g2 g4 g5 g8 gB gN gO cB cN cO : Nat) (ns nd od : List Int) (x : Int) : Prop where
  bt : BT w W n g2 g4 g5 gB gN gO cB cN cO ns nd od
  b8 : W.heap[g8]? = some (.cells #[.int .i64 x] 3 (0, 0))
  ge8 : w.heap.size ≤ g8
  n82 : g8 ≠ g2
  n84 : g8 ≠ g4
  n85 : g8 ≠ g5
  n8B : g8 ≠ gB
  n8N : g8 ≠ gN
  n8O : g8 ≠ gO
section
variable {w W W2 : World} {n g2 g4 g5 g8 gB gN gO gP cB cN cO cP : Nat} {ns ns' nd od od' ps ps' : List Int} {x y : Int}
theorem BT8.made (h : BT w W n g2 g4 g5 gB gN gO cB cN cO ns nd od) (hg : g8 = W.heap.size) (hb : Below W.heap.size W W2) (h8 : W2.heap[g8]? = some (.cells #[.int .i64 x] 3 (0, 0))) : BT8 w W2 n g2 g4 g5 g8 gB gN gO cB cN cO ns nd od x := by
  have l2 := blk_lt h.b2
  have l4 := blk_lt h.b4
  have l5 := blk_lt h.b5
  have lB := h.rB.lt
  have lN := h.rN.lt
  have lO := h.rO.lt
  have := h.bel.size
  exact ⟨h.keep hb, h8, by omega, by omega, by omega, by omega, by omega, by omega, by omega⟩
theorem BT8.keep (h : BT8 w W n g2 g4 g5 g8 gB gN gO cB cN cO ns nd od x) (hb : Below W.heap.size W W2) : BT8 w W2 n g2 g4 g5 g8 gB gN gO cB cN cO ns nd od x :=
  ⟨h.bt.keep hb, (hb.block _ (blk_lt h.b8)).trans h.b8, h.ge8, h.n82, h.n84, h.n85, h.n8B, h.n8N, h.n8O⟩
theorem BT8.put8 (h : BT8 w W n g2 g4 g5 g8 gB gN gO cB cN cO ns nd od x) (y : Int) : BT8 w (W.setCell ⟨g8, 0, none⟩ (.int .i64 y)) n g2 g4 g5 g8 gB gN gO cB cN cO ns nd od y := by
  have k : ∀ g, g8 ≠ g → (W.setCell ⟨g8, 0, none⟩ (.int .i64 y)).heap[g]? = W.heap[g]? := fun g hne => K.set_heap (Ne.symm hne)
  have b := h.bt
  exact ⟨⟨(k _ h.n82).trans b.b2, (k _ h.n84).trans b.b4, (k _ h.n85).trans b.b5, b.rB.keep (k _ h.n8B), b.rN.keep (k _ h.n8N), b.rO.keep (k _ h.n8O), b.nBN, b.nBO, b.nNO, b.n24, below_set b.bel h.ge8, b.ge2⟩, blk_put (cs := #[.int .i64 x]) h.b8 0 _ rfl, h.ge8, h.n82, h.n84, h.n85, h.n8B, h.n8N, h.n8O⟩
theorem BT8.fewer (h : BT8 w W n g2 g4 g5 g8 gB gN gO cB cN cO ns nd od x) (hg : W.grownBy W2 (some gO)) (hr : K.IRow W2 w.heap.size gO cO od') : BT8 w W2 n g2 g4 g5 g8 gB gN gO cB cN cO ns nd od' x :=
  ⟨h.bt.sorted hg hr, (hg.block _ (blk_lt h.b8) (fun e => h.n8O (Option.some.inj e))).trans h.b8, h.ge8, h.n82, h.n84, h.n85, h.n8B, h.n8N, h.n8O⟩
structure BTP (w W : World) (n g2 g4 g5 g8 gB gN gO gP cB cN cO cP : Nat) (ns nd od : List Int) (x : Int) (ps : List Int) : Prop where
  b : BT8 w W n g2 g4 g5 g8 gB gN gO cB cN cO ns nd od x
  rP : K.IRow W w.heap.size gP cP ps
  nPB : gP ≠ gB
  nPN : gP ≠ gN
  nPO : gP ≠ gO
  nP8 : gP ≠ g8
theorem BTP.made (h : BT8 w W n g2 g4 g5 g8 gB gN gO cB cN cO ns nd od x) (hb : Below W.heap.size W W2) (hr : K.IRow W2 W.heap.size gP cP ps) : BTP w W2 n g2 g4 g5 g8 gB gN gO gP cB cN cO cP ns nd od x ps := by
  have lB := h.bt.rB.lt
  have lN := h.bt.rN.lt
  have lO := h.bt.rO.lt
  have l8 := blk_lt h.b8
  have := hr.base
  have := h.bt.bel.size
  exact ⟨h.keep hb, ⟨by omega, hr.blk, hr.le, hr.max⟩, by omega, by omega, by omega, by omega⟩
theorem BTP.keep (h : BTP w W n g2 g4 g5 g8 gB gN gO gP cB cN cO cP ns nd od x ps) (hb : Below W.heap.size W W2) : BTP w W2 n g2 g4 g5 g8 gB gN gO gP cB cN cO cP ns nd od x ps :=
  ⟨h.b.keep hb, h.rP.keep (hb.block _ h.rP.lt), h.nPB, h.nPN, h.nPO, h.nP8⟩
theorem BTP.sorted (h : BTP w W n g2 g4 g5 g8 gB gN gO gP cB cN cO cP ns nd od x ps) (hg : W.grownBy W2 (some gP)) (hr : K.IRow W2 w.heap.size gP cP ps') : BTP w W2 n g2 g4 g5 g8 gB gN gO gP cB cN cO cP ns nd od x ps' := by
  obtain ⟨q2, q4, q5⟩ := h.b.bt.neBox h.rP
  have hk : ∀ k, k < W.heap.size → k ≠ gP → W2.heap[k]? = W.heap[k]? := fun k hk hne => hg.block k hk (fun e => hne (Option.some.inj e))
  have b := h.b.bt
  have h1 : BT w W2 n g2 g4 g5 gB gN gO cB cN cO ns nd od := ⟨(hk _ (blk_lt b.b2) q2).trans b.b2, (hk _ (blk_lt b.b4) q4).trans b.b4, (hk _ (blk_lt b.b5) q5).trans b.b5, b.rB.keep (hk _ b.rB.lt (Ne.symm h.nPB)), b.rN.keep (hk _ b.rN.lt (Ne.symm h.nPN)), b.rO.keep (hk _ b.rO.lt (Ne.symm h.nPO)), b.nBN, b.nBO, b.nNO, b.n24, pw_below_grown b.bel _ b.bel.size hg (fun k e => by cases e; exact h.rP.base), b.ge2⟩
  exact ⟨⟨h1, (hk _ (blk_lt h.b.b8) (Ne.symm h.nP8)).trans h.b.b8, h.b.ge8, h.b.n82, h.b.n84, h.b.n85, h.b.n8B, h.b.n8N, h.b.n8O⟩, hr, h.nPB, h.nPN, h.nPO, h.nP8⟩
theorem BTP.joined (h : BTP w W n g2 g4 g5 g8 gB gN gO gP cB cN cO cP ns nd od x ps) (hk0 : Kept W W2 (fun k => k = gB)) (hb : Below w.heap.size w W2) (hr : K.IRow W2 w.heap.size gB cB ns') (hl : ns'.length = ns.length) : BTP w W2 n g2 g4 g5 g8 gB gN gO gP cB cN cO cP ns' nd od x ps :=
  ⟨⟨h.b.bt.joined hk0 hb hr hl, (hk0.2 _ (blk_lt h.b.b8) h.b.n8B).trans h.b.b8, h.b.ge8, h.b.n82, h.b.n84, h.b.n85, h.b.n8B, h.b.n8N, h.b.n8O⟩, h.rP.keep (hk0.2 _ h.rP.lt h.nPB), h.nPB, h.nPN, h.nPO, h.nP8⟩
theorem BTP.put (h : BTP w W n g2 g4 g5 g8 gB gN gO gP cB cN cO cP ns nd od x ps) (j : Nat) (hj : j < nd.length) (v : Int) : BTP w (W.setCell ⟨gN, j, none⟩ (.int .i64 v)) n g2 g4 g5 g8 gB gN gO gP cB cN cO cP ns (nd.set j v) od x ps :=
  ⟨⟨h.b.bt.put j hj v, (K.set_heap h.b.n8N).trans h.b.b8, h.b.ge8, h.b.n82, h.b.n84, h.b.n85, h.b.n8B, h.b.n8N, h.b.n8O⟩, h.rP.keep (K.set_heap h.nPN), h.nPB, h.nPN, h.nPO, h.nP8⟩
end
end Go.Proofs.Ytgfoeagphlkjkaa.P
namespace Go.Proofs.Ytgfoeagphlkjkaa.K
open Go.RowKit Go.Proofs.YtgfoeagphlkjkaaW.PrintWords Go.Proofs.YtgfoeagphlkjkaaW.PrintMore Go.Proofs.Ytgfoeagphlkjkaa.P
theorem beatN_char {n : Nat} {ns : List Nat} (h : Sets n ns) (i j : Nat) (hi : i < n) (hj : j < n) (hz : nb ns j i = false) (hij : i ≠ j) : Sets n (beatN ns i j) ∧ ∀ a b, nb (beatN ns i j) a b = (nb ns a b || (decide (a = i) && decide (b = j))) := by
  have h1 := sets_or h i j hj
  refine ⟨sets_andNot h1 j i, fun a b => ?_⟩
  unfold beatN
  rw [nb_andNot j i (by rw [List.length_set, h.len]; exact hj), nb_or i j (by rw [h.len]; exact hi)]
  by_cases c : a = j ∧ b = i
  · obtain ⟨rfl, rfl⟩ := c
    simp [hz]
    intro e; exact absurd e.symm hij
  · have : (decide (a = j) && decide (b = i)) = false := by simpa using c
    rw [this]; simp
theorem btIn_char {n : Nat} (i : Nat) (M : Int) (hi : i < n) : ∀ (o : List Nat) (k : Nat) (nd : List Int) (ns : List Nat), o.Nodup → i ∉ o → (∀ x ∈ o, x < n) → nd.length = n → Sets n ns → (∀ x ∈ o, nb ns i x = false ∧ nb ns x i = false) →
    (btIn i M o k nd ns).1.length = n ∧ Sets n (btIn i M o k nd ns).2 ∧ (∀ x, (btIn i M o k nd ns).1.getD x 0 = if x ∈ o.drop (M - k).toNat then nd.getD x 0 - 1 else nd.getD x 0) ∧
      ∀ a b, nb (btIn i M o k nd ns).2 a b = (nb ns a b || ((decide (a = i) && decide (b ∈ o.take (M - k).toNat)) || (decide (a ∈ o.drop (M - k).toNat) && decide (b = i)))) := by
  intro o
  induction o with
  | nil => intro k nd ns _ _ _ hl hS _; exact ⟨hl, hS, fun x => by simp [btIn], fun a b => by simp [btIn]⟩
  | cons j o ih =>
    intro k nd ns hN hio hL hl hS hz
    obtain ⟨q1, q2⟩ := List.nodup_cons.1 hN
    have hjn := hL j List.mem_cons_self
    have hij : i ≠ j := fun e => hio (e ▸ List.mem_cons_self)
    have hjl : j < nd.length := by omega
    obtain ⟨z1, z2⟩ := hz j List.mem_cons_self
    by_cases c : (k : Int) < M
    · obtain ⟨t, ht⟩ : ∃ t, (M - k).toNat = t + 1 := ⟨(M - k).toNat - 1, by omega⟩
      have ht2 : (M - ((k + 1 : Nat) : Int)).toNat = t := by omega
      obtain ⟨b1, b2⟩ := beatN_char hS i j hi hjn z2 hij
      obtain ⟨h1, h2, h3, h4⟩ := ih (k + 1) nd (beatN ns i j) q2 (fun e => hio (List.mem_cons_of_mem _ e)) (fun x hx => hL x (List.mem_cons_of_mem _ hx)) hl b1 (fun x hx => by
        obtain ⟨w1, w2⟩ := hz x (List.mem_cons_of_mem _ hx)
        have hxj : x ≠ j := fun e => q1 (e ▸ hx)
        have hxi : x ≠ i := fun e => hio (e ▸ List.mem_cons_of_mem _ hx)
        rw [b2, b2, w1, w2]; simp [hxj, hxi])
      rw [btIn, if_pos c, ht]
      rw [ht2] at h3 h4
      refine ⟨h1, h2, fun x => by rw [h3, List.drop_succ_cons], fun a b => ?_⟩
      rw [h4, b2, List.drop_succ_cons, List.take_succ_cons]
      by_cases e1 : a = i <;> by_cases e2 : b = j <;> simp [e1, e2]
    · have ht : (M - k).toNat = 0 := by omega
      have ht2 : (M - ((k + 1 : Nat) : Int)).toNat = 0 := by omega
      obtain ⟨b1, b2⟩ := beatN_char hS j i hjn hi z1 (Ne.symm hij)
      obtain ⟨h1, h2, h3, h4⟩ := ih (k + 1) (nd.set j (nd.getD j 0 - 1)) (beatN ns j i) q2 (fun e => hio (List.mem_cons_of_mem _ e)) (fun x hx => hL x (List.mem_cons_of_mem _ hx)) (by rw [List.length_set, hl]) b1 (fun x hx => by
        obtain ⟨w1, w2⟩ := hz x (List.mem_cons_of_mem _ hx)
        have hxj : x ≠ j := fun e => q1 (e ▸ hx)
        have hxi : x ≠ i := fun e => hio (e ▸ List.mem_cons_of_mem _ hx)
        rw [b2, b2, w1, w2]; simp [hxj, hxi, hij])
      rw [btIn, if_neg c, ht]
      rw [ht2] at h3 h4
      refine ⟨h1, h2, fun x => ?_, fun a b => ?_⟩
      · rw [h3, List.drop_zero, List.drop_zero, getD_set _ _ _ _ hjl]
        by_cases e : x = j
        · subst e; rw [if_neg q1, if_pos rfl, if_pos List.mem_cons_self]
        · rw [if_neg e]
          simp only [List.mem_cons, e, false_or]
      · rw [h4, b2, List.drop_zero, List.drop_zero]
        by_cases e1 : a = j <;> by_cases e2 : b = i <;> simp [e1, e2]
def insI (x : Int) : List Int → List Int
  | [] => [x]
  | y :: l => if x ≤ y then x :: y :: l else y :: insI x l
def isortI : List Int → List Int
  | [] => []
  | x :: l => insI x (isortI l)
theorem insI_perm (x : Int) : ∀ l, (insI x l).Perm (x :: l)
  | [] => List.Perm.refl _
  | y :: l => by
    rw [insI]
    split
    · exact List.Perm.refl _
    · exact ((insI_perm x l).cons y).trans (List.Perm.swap x y l)
theorem isortI_perm : ∀ l, (isortI l).Perm l
  | [] => List.Perm.refl _
  | x :: l => (insI_perm x _).trans ((isortI_perm l).cons x)
theorem insI_sorted (x : Int) : ∀ l : List Int, l.Pairwise (fun a b => a ≤ b) → (insI x l).Pairwise (fun a b => a ≤ b)
  | [], _ => by simp [insI]
  | y :: l, h => by
    obtain ⟨h1, h2⟩ := List.pairwise_cons.1 h
    rw [insI]
    split
    · rename_i c
      refine List.pairwise_cons.2 ⟨fun z hz => ?_, h⟩
      rcases List.mem_cons.1 hz with rfl | q
      · exact c
      · have := h1 z q; omega
    · rename_i c
      refine List.pairwise_cons.2 ⟨fun z hz => ?_, insI_sorted x l h2⟩
      rcases List.mem_cons.1 ((insI_perm x l).mem_iff.1 hz) with rfl | q
      · omega
      · exact h1 z q
theorem isortI_sorted : ∀ l, (isortI l).Pairwise (fun a b => a ≤ b)
  | [] => List.Pairwise.nil
  | x :: l => insI_sorted x _ (isortI_sorted l)
theorem sorted_uniq {a b : List Int} (hp : a.Perm b) (ha : a.Pairwise (fun a b => a ≤ b)) (hb : b.Pairwise (fun a b => a ≤ b)) : a = b :=
  hp.eq_of_pairwise (fun _ _ _ _ h1 h2 => Int.le_antisymm h1 h2) ha hb
theorem isortI_eq {a b : List Int} (hp : a.Perm b) (hb : b.Pairwise (fun a b => a ≤ b)) : isortI a = b := sorted_uniq ((isortI_perm a).trans hp) (isortI_sorted a) hb
theorem isortI_congr {a b : List Int} (hp : a.Perm b) : isortI a = isortI b := isortI_eq (hp.trans (isortI_perm b).symm) (isortI_sorted b)
def okL : Nat → List Int → Bool
  | 0, _ => true
  | f + 1, L => decide ((L.getLastD 0).toNat ≤ L.dropLast.length) && okL f (isortI (L.dropLast.take (L.getLastD 0).toNat ++ (L.dropLast.drop (L.getLastD 0).toNat).map (fun x => x - 1)))
def tst (n i : Nat) (s : Int) : Bool := decide (s < Int.tdiv ((i : Int) * ((i : Int) + 1)) 2) || (decide (i + 1 = n) && decide (Int.tdiv ((i : Int) * ((i : Int) + 1)) 2 < s))
def chkL (n : Nat) : Nat → Nat → Int → Int → List Int → Bool
  | 0, _, _, _, acc => okL n acc
  | d + 1, i, s, last, acc => (List.range 29).all fun v => decide ((v : Int) < last) || tst n i (s + v) || decide (28 < s + (v : Int) * ((d : Int) + 1)) || chkL n d (i + 1) (s + v) v (acc ++ [(v : Int)])
theorem tri28 : ∀ n, n ≤ 8 → Int.tdiv (((n - 1 : Nat) : Int) * (((n - 1 : Nat) : Int) + 1)) 2 ≤ 28 := by
  intro n h
  obtain rfl | rfl | rfl | rfl | rfl | rfl | rfl | rfl | rfl : n = 0 ∨ n = 1 ∨ n = 2 ∨ n = 3 ∨ n = 4 ∨ n = 5 ∨ n = 6 ∨ n = 7 ∨ n = 8 := by omega
  all_goals decide +kernel
theorem sum_ge (v : Int) : ∀ l : List Int, (∀ x ∈ l, v ≤ x) → v * l.length ≤ l.sum
  | [], _ => by simp
  | x :: l, h => by
    have h1 := h x List.mem_cons_self
    have h2 := sum_ge v l (fun y hy => h y (List.mem_cons_of_mem _ hy))
    rw [List.sum_cons, List.length_cons]
    have : v * ((l.length + 1 : Nat) : Int) = v * l.length + v := by rw [show ((l.length + 1 : Nat) : Int) = (l.length : Int) + 1 by omega, Int.mul_add, Int.mul_one]
    omega
theorem refuse_tst (n i : Nat) (s x : Int) (l : List Int) (hi : i < n) (h : refuseS n i s (x :: l) = 0) : tst n i (s + x) = false ∧ refuseS n (i + 1) (s + x) l = 0 := by
  rw [refuseS] at h
  split at h
  · omega
  · rename_i c
    refine ⟨?_, h⟩
    unfold tst
    simp only [Bool.or_eq_false_iff, Bool.and_eq_false_iff, decide_eq_false_iff_not]
    omega
theorem refuse_sum (n : Nat) (h8 : n ≤ 8) : ∀ (l : List Int) (i : Nat) (s : Int), i + l.length = n → l ≠ [] → refuseS n i s l = 0 → s + l.sum ≤ 28
  | [x], i, s, hi, _, h => by
    obtain ⟨h1, -⟩ := refuse_tst n i s x [] (by simp at hi; omega) h
    have : i = n - 1 := by simp at hi; omega
    subst this
    have := tri28 n h8
    unfold tst at h1
    simp only [Bool.or_eq_false_iff, Bool.and_eq_false_iff, decide_eq_false_iff_not] at h1
    simp at hi ⊢
    omega
  | x :: y :: l, i, s, hi, _, h => by
    obtain ⟨-, h2⟩ := refuse_tst n i s x (y :: l) (by simp at hi; omega) h
    have := refuse_sum n h8 (y :: l) (i + 1) (s + x) (by simp at hi ⊢; omega) (by simp) h2
    rw [List.sum_cons]
    omega
theorem chkL_okL (n : Nat) (h8 : n ≤ 8) : ∀ (l : List Int) (i : Nat) (s last : Int) (acc : List Int), i + l.length = n → 0 ≤ s → 0 ≤ last → (∀ x ∈ l, last ≤ x) → l.Pairwise (fun a b => a ≤ b) → refuseS n i s l = 0 → chkL n l.length i s last acc = true → okL n (acc ++ l) = true
  | [], i, s, last, acc, _, _, _, _, _, _, h => by simpa [chkL] using h
  | x :: l, i, s, last, acc, hi, hs, hl0, hl, hp, hr, h => by
    obtain ⟨p1, p2⟩ := List.pairwise_cons.1 hp
    obtain ⟨t1, t2⟩ := refuse_tst n i s x l (by simp at hi; omega) hr
    have hx := hl x List.mem_cons_self
    have hsum := refuse_sum n h8 (x :: l) i s hi (by simp) hr
    have hge := sum_ge x (x :: l) (fun y hy => by
      rcases List.mem_cons.1 hy with rfl | q
      · exact Int.le_refl _
      · exact p1 y q)
    obtain ⟨v, rfl⟩ := Int.eq_ofNat_of_zero_le (show 0 ≤ x by omega)
    have hlen : (((v : Int) :: l).length : Int) = (l.length : Int) + 1 := by simp
    rw [hlen] at hge
    have hv : (v : Int) ≤ 28 := by
      have : (v : Int) * 1 ≤ (v : Int) * ((l.length : Int) + 1) := Int.mul_le_mul_of_nonneg_left (by omega) (by omega)
      omega
    rw [List.length_cons, chkL, List.all_eq_true] at h
    have := h v (List.mem_range.2 (by omega))
    rw [t1] at this
    have e1 : decide ((v : Int) < last) = false := by simp; omega
    have e2 : decide (28 < s + (v : Int) * ((l.length : Int) + 1)) = false := by simp; omega
    rw [e1, e2] at this
    simp only [Bool.false_or] at this
    have := chkL_okL n h8 l (i + 1) (s + v) v (acc ++ [(v : Int)]) (by simp at hi ⊢; omega) (by omega) (by omega) p1 p2 t2 this
    simpa using this
theorem chkL_all : ((List.range 9).all fun n => chkL n n 0 0 0 []) = true := by decide +kernel
theorem okL_start (l : List Int) (h8 : l.length ≤ 8) (hb : ∀ x ∈ l, 0 ≤ x) (hr : refS l = 0) : okL l.length (isortI l) = true := by
  have e : sortL l = isortI l := sorted_uniq ((sortL_perm' l).trans (isortI_perm l).symm) (sortL_rises l) (isortI_sorted l)
  unfold refS at hr
  rw [e] at hr
  have hlen : (isortI l).length = l.length := (isortI_perm l).length_eq
  have hc := List.all_eq_true.1 chkL_all l.length (List.mem_range.2 (by omega))
  have := chkL_okL l.length h8 (isortI l) 0 0 0 [] (by omega) (by omega) (by omega) (fun x hx => hb x ((isortI_perm l).mem_iff.1 hx)) (isortI_sorted l) hr (by rw [hlen]; exact hc)
  simpa using this
theorem beatSets {n : Nat} {ns : List Nat} (h : Sets n ns) (i j : Nat) (hj : j < n) : Sets n (beatN ns i j) := sets_andNot (sets_or h i j hj) j i
theorem beat_fT {n : Nat} {ns : List Nat} (h : Sets n ns) (m : Int) (i j : Nat) (hi : i < n) (hj : j < n) : impl_Tournament_beat.f m (ints ns) (i : Int) (j : Int) = some (ints (beatN ns i j)) := by
  have h8 := h.n8
  have hl := h.len
  have h1 := sets_or h i j hj
  unfold impl_Tournament_beat.f beatN
  rw [if_pos (by omega), if_pos (by rw [ints_length]; omega), if_pos (by omega), shl_one j (by omega), rd_ints, or_nat _ _ (h.get62 i) (Nat.pow_lt_pow_right (by decide) (by omega)), ints_set, Option.bind_some, if_pos (by rw [ints_length]; omega), shl_one i (by omega), rd_ints, andNot_nat _ _ (h1.get62 j) (Nat.pow_lt_pow_right (by decide) (by omega)), ints_set]
theorem mem_getDI {l : List Int} {p : Nat} (hp : p < l.length) : l.getD p 0 ∈ l := by
  rw [List.getD_eq_getElem?_getD, List.getElem?_eq_getElem hp]; exact List.getElem_mem hp
theorem mem_getDT {l : List Nat} {p : Nat} (hp : p < l.length) : l.getD p 0 ∈ l := by
  rw [List.getD_eq_getElem?_getD, List.getElem?_eq_getElem hp]; exact List.getElem_mem hp
theorem drop_consT (o : List Nat) (q : Nat) (hq : q < o.length) : o.drop q = o.getD q 0 :: o.drop (q + 1) := by
  rw [List.drop_eq_getElem_cons hq, List.getD_eq_getElem?_getD, List.getElem?_eq_getElem hq]; rfl
theorem take_snocT (R : List Nat) (j : Nat) (hj : j < R.length) : R.take (j + 1) = R.take j ++ [R.getD j 0] := by
  rw [List.take_add_one, List.getElem?_eq_getElem hj, List.getD_eq_getElem?_getD, List.getElem?_eq_getElem hj]; rfl
def btUp (nd : List Int) (left : List Nat) (q : Nat) : Nat := (left.take q).foldl (fun f i => if nd.getD i 0 > nd.getD f 0 then i else f) (left.headD 0)
theorem btUp_zero (nd : List Int) (left : List Nat) : btUp nd left 0 = left.headD 0 := rfl
theorem btUp_all (nd : List Int) (left : List Nat) : btUp nd left left.length = btFirst nd left := by rw [btUp, List.take_length]; rfl
theorem btUp_succ (nd : List Int) (left : List Nat) (q : Nat) (hq : q < left.length) : btUp nd left (q + 1) = if nd.getD (left.getD q 0) 0 > nd.getD (btUp nd left q) 0 then left.getD q 0 else btUp nd left q := by
  unfold btUp
  rw [take_snocT _ _ hq, List.foldl_append]
  rfl
theorem fold_mem (nd : List Int) : ∀ (l : List Nat) (f : Nat), l.foldl (fun f i => if nd.getD i 0 > nd.getD f 0 then i else f) f ∈ f :: l
  | [], f => by simp
  | y :: l, f => by
    rw [List.foldl_cons]
    have := fold_mem nd l (if nd.getD y 0 > nd.getD f 0 then y else f)
    rcases List.mem_cons.1 this with e | e
    · rw [e]; split
      · simp
      · simp
    · exact List.mem_cons_of_mem _ (List.mem_cons_of_mem _ e)
theorem btUp_mem (nd : List Int) (left : List Nat) (q : Nat) (h : left ≠ []) : btUp nd left q ∈ left := by
  cases left with
  | nil => exact absurd rfl h
  | cons y l =>
    have := fold_mem nd ((y :: l).take q) y
    rcases List.mem_cons.1 this with e | e
    · unfold btUp; rw [List.headD_cons, e]; simp
    · exact List.mem_of_mem_take e
structure InB (n f : Nat) (lo M : Int) (o : List Nat) (E : List Int × List Nat) (q : Nat) (nd : List Int) (ns : List Nat) : Prop where
  len : nd.length = n
  sets : Sets n ns
  all : ∀ z ∈ nd, lo - 1 ≤ z ∧ z ≤ 60
  rest : ∀ x ∈ o.drop q, lo ≤ nd.getD x 0
  need : nd.getD f 0 = M
  stop : btIn f M (o.drop q) q nd ns = E
section
variable {n f q : Nat} {lo M : Int} {o : List Nat} {E : List Int × List Nat} {nd : List Int} {ns : List Nat}
theorem InB.start (hl : nd.length = n) (hS : Sets n ns) (hb : ∀ z ∈ nd, lo ≤ z ∧ z ≤ 60) (ho : ∀ x ∈ o, x < n) (hM : nd.getD f 0 = M) : InB n f lo M o (btIn f M o 0 nd ns) 0 nd ns :=
  ⟨hl, hS, fun z hz => by have := hb z hz; omega, fun x hx => (hb _ (mem_getDI (by rw [hl]; exact ho x (by simpa using hx)))).1, hM, rfl⟩
theorem InB.win (h : InB n f lo M o E q nd ns) (hq : q < o.length) (ho : ∀ x ∈ o, x < n) (hw : (q : Int) < M) : InB n f lo M o E (q + 1) nd (beatN ns f (o.getD q 0)) := by
  have hs := h.stop
  rw [drop_consT o q hq, btIn, if_pos hw] at hs
  exact ⟨h.len, beatSets h.sets _ _ (ho _ (mem_getDT hq)), h.all, fun x hx => h.rest x (by rw [drop_consT o q hq]; exact List.mem_cons_of_mem _ hx), h.need, hs⟩
theorem InB.lose (h : InB n f lo M o E q nd ns) (hN : o.Nodup) (hf : f ∉ o) (hq : q < o.length) (ho : ∀ x ∈ o, x < n) (hfn : f < n) (hw : ¬ (q : Int) < M) : InB n f lo M o E (q + 1) (nd.set (o.getD q 0) (nd.getD (o.getD q 0) 0 - 1)) (beatN ns (o.getD q 0) f) := by
  have hp := mem_getDT hq
  have hpn := ho _ hp
  have hs := h.stop
  rw [drop_consT o q hq, btIn, if_neg hw] at hs
  have hr := h.rest (o.getD q 0) (by rw [drop_consT o q hq]; simp)
  have hx : ∀ x, x ≠ o.getD q 0 → (nd.set (o.getD q 0) (nd.getD (o.getD q 0) 0 - 1)).getD x 0 = nd.getD x 0 := fun x hne => by
    rw [getD_set _ _ _ _ (by rw [h.len]; exact hpn), if_neg hne]
  have hN2 : (o.drop q).Nodup := hN.sublist (List.drop_sublist _ _)
  rw [drop_consT o q hq] at hN2
  have hN3 := (List.nodup_cons.1 hN2).1
  refine ⟨by rw [List.length_set, h.len], beatSets h.sets _ _ hfn, fun z hz => ?_, fun x hx' => ?_, ?_, hs⟩
  · rcases List.mem_or_eq_of_mem_set hz with c | c
    · exact h.all z c
    · have := h.all _ (mem_getDI (l := nd) (p := o.getD q 0) (by rw [h.len]; exact hpn))
      omega
  · rw [hx x (fun e => hN3 (by rw [← e]; exact hx'))]
    exact h.rest x (by rw [drop_consT o q hq]; exact List.mem_cons_of_mem _ hx')
  · rw [hx f (fun e => hf (by rw [e]; exact hp))]
    exact h.need
theorem InB.done (h : InB n f lo M o E q nd ns) (hq : q = o.length) : (nd, ns) = E := by
  have := h.stop
  rw [hq, List.drop_length, btIn] at this
  exact this
end
structure OutB (n : Nat) (R : List Nat) (kq : Nat) (nd : List Int) (ns left : List Nat) : Prop where
  llen : left.length = kq
  nodup : left.Nodup
  lt : ∀ x ∈ left, x < n
  len : nd.length = n
  sets : Sets n ns
  kn : kq ≤ n
  bd : ∀ z ∈ nd, -((n : Int) - kq) ≤ z ∧ z ≤ 60
  go : btGo kq nd ns left = R
theorem filter_len {f : Nat} : ∀ {l : List Nat}, l.Nodup → f ∈ l → (l.filter (fun x => decide (x ≠ f))).length + 1 = l.length
  | [], _, h => by cases h
  | y :: l, hN, hm => by
    obtain ⟨h1, h2⟩ := List.nodup_cons.1 hN
    by_cases e : y = f
    · subst e
      have : l.filter (fun x => decide (x ≠ y)) = l := List.filter_eq_self.2 (fun x hx => by simp; exact fun e => h1 (e ▸ hx))
      rw [List.filter_cons_of_neg (by simp), this]
      rfl
    · rcases List.mem_cons.1 hm with q | q
      · exact absurd q.symm e
      · rw [List.filter_cons_of_pos (by simpa using e), List.length_cons, List.length_cons, filter_len h2 q]
theorem OutB.next {n d : Nat} {R : List Nat} {nd nd' : List Int} {ns ns' left : List Nat} (h : OutB n R (d + 1) nd ns left)
    (hE : (nd', ns') = btIn (btFirst nd left) (nd.getD (btFirst nd left) 0) (btOrd nd (left.filter (fun x => decide (x ≠ btFirst nd left)))) 0 nd ns) (hl : nd'.length = n) (hS : Sets n ns') (hb : ∀ z ∈ nd', -((n : Int) - (d + 1 : Nat)) - 1 ≤ z ∧ z ≤ 60) : OutB n R d nd' ns' (left.filter (fun x => decide (x ≠ btFirst nd left))) := by
  have hne : left ≠ [] := fun e => by have := h.llen; rw [e] at this; simp at this
  have hm : btFirst nd left ∈ left := by rw [← btUp_all]; exact btUp_mem nd left _ hne
  have hg := h.go
  rw [btGo, ← hE] at hg
  have := filter_len h.nodup hm
  have := h.llen
  have := h.kn
  exact ⟨by omega, h.nodup.sublist List.filter_sublist, fun x hx => h.lt x (List.mem_filter.1 hx).1, hl, hS, by omega, fun z hz => by have := hb z hz; omega, hg⟩
theorem ints_filter (f : Nat) : ∀ l : List Nat, (ints l).filter (fun x => !decide (x = (f : Int))) = ints (l.filter (fun x => decide (x ≠ f)))
  | [] => rfl
  | y :: l => by
    have ih := ints_filter f l
    unfold ints at ih ⊢
    rw [List.map_cons]
    by_cases e : y = f
    · rw [List.filter_cons_of_neg (by simp [e]), List.filter_cons_of_neg (by simp [e]), ih]
    · rw [List.filter_cons_of_pos (by simp; omega), List.filter_cons_of_pos (by simpa using e), List.map_cons, ih]
end Go.Proofs.Ytgfoeagphlkjkaa.K
namespace Go.Proofs.Ytgfoeagphlkjkaa.P
open Go.RowKit Go.Proofs.YtgfoeagphlkjkaaW.PrintWords Go.Proofs.YtgfoeagphlkjkaaW.PrintLast Go.Proofs.YtgfoeagphlkjkaaW.PrintMore Go.Proofs.Ytgfoeagphlkjkaa.K
open Go Go.Sort Go.Shelf
attribute [local go_sem ↓] Go.wp_at_zero Go.wp_at_succ
theorem btSwo (nd : List Int) (n : Nat) : SWO (fun (x y : Rg n) => decide (btCmp nd x.1 y.1 < 0)) := by
  refine ⟨fun x => ?_, fun x y z h1 h2 => ?_, fun x y z h1 h2 => ?_⟩
  · simp [btCmp]
  · simp only [decide_eq_true_eq] at *
    unfold btCmp at *
    split at h1 <;> split at h2 <;> split <;> omega
  · simp only [decide_eq_false_iff_not] at *
    unfold btCmp at *
    split at h1 <;> split at h2 <;> split <;> omega
theorem ints_ofT (l : List Int) (h : ∀ x ∈ l, 0 ≤ x) : ∃ o : List Nat, l = ints o := by
  induction l with
  | nil => exact ⟨[], rfl⟩
  | cons x l ih =>
    obtain ⟨o, rfl⟩ := ih (fun y hy => h y (by simp [hy]))
    exact ⟨x.toNat :: o, by have := h x (by simp); simp only [ints, List.map_cons]; congr 1; omega⟩
theorem btOrder_unique (nd : List Int) (left : List Nat) (l' : List Int) (hp : l'.Perm (ints left)) (hs : l'.Pairwise (fun a b => ¬ btCmp nd b a < 0)) : l' = ints (btOrd nd left) := by
  obtain ⟨o, rfl⟩ := ints_ofT l' (fun x hx => by
    obtain ⟨y, _, rfl⟩ := List.mem_map.1 (hp.mem_iff.1 hx)
    omega)
  have hp2 : o.Perm left := by
    have := hp.map Int.toNat
    simpa [ints, Function.comp_def] using this
  have hs2 : o.Pairwise (K.ahead nd false) := by
    rw [ints, List.pairwise_map] at hs
    exact hs.imp (fun h => by
      unfold btCmp at h
      rw [rdI, rdI] at h
      unfold K.ahead
      simp only [Bool.false_eq_true, if_false]
      split at h <;> omega)
  have : o = btOrd nd left := (hp2.trans (btOrd_perm nd left).symm).eq_of_pairwise (fun _ _ _ _ h1 h2 => K.ahead_antisymm h1 h2) hs2 (btOrd_sorted nd left)
  rw [this]
section
variable {w W : World} {n g2 g4 g5 g8 gB gN gO gP cB cN cO cP : Nat} {ns : List Nat} {nd od ps : List Int} {x : Int}
set_option maxRecDepth 10000 in
theorem btSort_c {left : List Nat} (h : BTP w W n g2 g4 g5 g8 gB gN gO gP cB cN cO cP (ints ns) nd od x (ints left)) (hn : nd.length = n) (h8 : n ≤ 8) (hp : 0 < left.length) (hl : left.length ≤ 8) (hod : ∀ y ∈ left, y < n) (hb : ∀ z ∈ nd, -1000 ≤ z ∧ z ≤ 1000) :
    Calls Try.prog 47 #[.slice (some ⟨gP, 0, none⟩) (ints left).length cP, .func (.func 63) #[] #[.pointer (some ⟨g5, 0, none⟩)]] W fun e w' => e = .returned (.tuple #[]) ∧ BTP w w' n g2 g4 g5 g8 gB gN gO gP cB cN cO cP (ints ns) nd od x (ints (btOrd nd left)) := by
  have hn1 : 0 < n := by
    cases left with
    | nil => simp at hp
    | cons y l => have := hod y List.mem_cons_self; omega
  haveI : Inhabited (Rg n) := ⟨⟨0, by omega, by omega⟩⟩
  have q5 := h.b.bt.neBox h.rP
  refine (sortRange_c (n := n) (btCmp nd) 63 _ #[.pointer (some ⟨g5, 0, none⟩)] Try.func63 (by kernel_rfl) (by kernel_rfl) (btSwo nd n) gP cP w.heap.size (fun k => k = gP) (ints left) W (by rw [ints_length]; omega) (by rw [ints_length]; omega) (fun x hx => ?_) h.rP.toR (fun W2 hg x y => ?_)).mono ?_
  · obtain ⟨y, hy, rfl⟩ := List.mem_map.1 hx
    have := hod y hy
    omega
  · obtain ⟨x0, hx1, hx2⟩ := x
    obtain ⟨y0, hy1, hy2⟩ := y
    obtain ⟨x, rfl⟩ := Int.eq_ofNat_of_zero_le hx1
    obtain ⟨y, rfl⟩ := Int.eq_ofNat_of_zero_le hy1
    have hc5 : W2.heap[g5]? = W.heap[g5]? := hg.block _ (blk_lt h.b.bt.b5) (fun e => q5.2.2 (Option.some.inj e))
    have hrN := h.b.bt.rN.keep (hg.block _ h.b.bt.rN.lt (fun e => h.nPN (Option.some.inj e).symm))
    exact btCmp_calls nd g5 cN (some ⟨gN, 0, none⟩) x y W2 ((blk_cell (hc5.trans h.b.bt.b5) 0).trans rfl) (Kd.R_reads' hrN.toR).2.2 (by omega) (by omega) (by omega) hb
  · rintro e w' ⟨rfl, l', hp', hs, hR, hg⟩
    have hll : l' = ints (btOrd nd left) := btOrder_unique nd left l' hp' hs
    subst hll
    refine ⟨rfl, h.sorted hg ?_⟩
    have hl2 : (ints left).length = (ints (btOrd nd left)).length := by rw [hp'.length_eq]
    rw [hl2] at hR
    obtain ⟨g, cap, e, hi, -⟩ := K.IRow.ofR hR (by rw [← hl2, ints_length]; exact hp)
    injection e with e1 e2 e3
    injection e1 with e4
    injection e4 with e5
    subst e5
    subst e3
    exact hi
theorem btSort0_c (p : Option Addr) (cap : Nat) (fv : Value) (W : World) : Calls Try.prog 47 #[.slice p 0 cap, fv] W fun e w' => e = .returned (.tuple #[]) ∧ w' = W :=
  AnyF.slices_SortFunc_none { Try.sortInt with } p cap fv W
theorem btDel_c {left : List Nat} {f : Nat} (h : BT8 w W n g2 g4 g5 g8 gB gN gO cB cN cO (ints ns) nd (ints left) (f : Int)) (hp : 0 < left.length) (hl : left.length ≤ 8) :
    Calls Try.prog 61 #[.slice (some ⟨gO, 0, none⟩) (ints left).length cO, .func (.func 62) #[] #[.pointer (some ⟨g8, 0, none⟩)]] W fun e w' => e = .returned (.slice (some ⟨gO, 0, none⟩) (ints (left.filter (fun x => decide (x ≠ f)))).length cO) ∧ BT8 w w' n g2 g4 g5 g8 gB gN gO cB cN cO (ints ns) nd (ints (left.filter (fun x => decide (x ≠ f)))) (f : Int) := by
  refine (deleteFunc_c (fun x => decide (x = (f : Int))) 62 _ #[.pointer (some ⟨g8, 0, none⟩)] Try.func62 (by kernel_rfl) (by kernel_rfl) gO cO w.heap.size (fun k => k = gO) (ints left) W (by rw [ints_length]; omega) (by rw [ints_length]; exact hp) h.bt.rO.toR (fun W2 hg y => ?_)).mono ?_
  · exact btEq_calls y (f : Int) g8 W2 ((blk_cell ((hg.block _ (blk_lt h.b8) (fun e => h.n8O (Option.some.inj e))).trans h.b8) 0).trans rfl)
  · rintro e w' ⟨rfl, hR, hg⟩
    rw [ints_filter] at hR ⊢
    refine ⟨rfl, h.fewer hg ?_⟩
    obtain ⟨cur, k1, k2, k3⟩ := h.bt.rO.blk
    have hown := Kd.own_of_R hR
    obtain ⟨hn, hh⟩ := hown
    rcases hh with ⟨h0, _⟩ | ⟨g', cap', cur', hv, hbase, hbk, h1, h2, h3, h4⟩
    · cases h0
    · injection hv with e1 e2 e3
      injection e1 with e4
      injection e4 with e5
      subst e5
      subst e3
      rw [Nat.mul_one] at h4
      exact ⟨hbase, ⟨cur', hbk, by simpa using h3, h4⟩, h1, h2⟩
theorem btBeat_c (h : BTP w W n g2 g4 g5 g8 gB gN gO gP cB cN cO cP (ints ns) nd od x ps) (hS : K.Sets n ns) (i p : Nat) (hi : i < n) (hp : p < n) :
    Calls Try.prog 36 #[.agg #[.int .i64 (n : Int), .slice (some ⟨gB, 0, none⟩) n cB], .int .i64 (i : Int), .int .i64 (p : Int)] W fun e w' => e = .returned (.tuple #[]) ∧ BTP w w' n g2 g4 g5 g8 gB gN gO gP cB cN cO cP (ints (beatN ns i p)) nd od x ps := by
  have hl : (ints ns).length = n := by rw [ints_length, hS.len]
  have hR := h.b.bt.rB.toR
  rw [hl] at hR
  refine (impl_Tournament_beat.calls (n : Int) (fun k => k = gB) _ (ints ns) (i : Int) (p : Int) _ w W h.b.bt.bel hR (beat_fT hS (n : Int) i p hi hp)).mono ?_
  rintro e w' ⟨rfl, hr, hb, hk⟩
  have hl2 : (ints (beatN ns i p)).length = n := by rw [ints_length, (beatSets hS i p hp).len]
  rw [← hl2] at hr
  obtain ⟨g, cap, e, hI, -⟩ := K.IRow.ofR hr (by rw [hl2]; omega)
  injection e with e1 e2 e3
  injection e1 with e4
  injection e4 with e5
  subst e5
  subst e3
  exact ⟨rfl, h.joined hk hb hI (by rw [hl2, hl])⟩
theorem btDel_m {left : List Nat} {f m : Nat} (h : BT8 w W n g2 g4 g5 g8 gB gN gO cB cN cO (ints ns) nd (ints left) (f : Int)) (hp : 0 < left.length) (hl : left.length ≤ 8) (hm : (left.filter (fun x => decide (x ≠ f))).length = m) :
    Calls Try.prog 61 #[.slice (some ⟨gO, 0, none⟩) left.length cO, .func (.func 62) #[] #[.pointer (some ⟨g8, 0, none⟩)]] W fun e w' => e = .returned (.slice (some ⟨gO, 0, none⟩) m cO) ∧ BT8 w w' n g2 g4 g5 g8 gB gN gO cB cN cO (ints ns) nd (ints (left.filter (fun x => decide (x ≠ f)))) (f : Int) := by
  have hc := btDel_c h hp hl
  rw [ints_length, ints_length, hm] at hc
  exact hc
theorem btClone_m {left : List Nat} {m : Nat} (h : BT8 w W n g2 g4 g5 g8 gB gN gO cB cN cO (ints ns) nd (ints left) x) (hm : left.length = m + 1) (hl : m ≤ 8) :
    Calls Try.prog 34 #[.slice (some ⟨gO, 0, none⟩) (m + 1) cO] W fun e w' => ∃ gP cP, e = .returned (.slice (some ⟨gP, 0, none⟩) (m + 1) cP) ∧ BTP w w' n g2 g4 g5 g8 gB gN gO gP cB cN cO cP (ints ns) nd (ints left) x (ints left) := by
  have hlen : (ints left).length = m + 1 := by rw [ints_length, hm]
  have hc := slices_Clone_int_int.calls (some ⟨gO, 0, none⟩) cO (ints left) (ints left) W (Kd.R_reads' h.bt.rO.toR).2.2 (Kd.R_reads' h.bt.rO.toR).2.1 (by unfold slices_Clone_int_int.f; rw [if_pos (by omega)])
  rw [hlen] at hc
  refine Calls.mono (f := 34) hc ?_
  rintro e w' ⟨v, rfl, hs, hb⟩
  obtain ⟨gP, cP, rfl, hI, -⟩ := K.IRow.ofR hs (by omega)
  exact ⟨gP, cP, by rw [hlen], BTP.made h hb hI⟩
theorem btClone_0 {left : List Nat} (h : BT8 w W n g2 g4 g5 g8 gB gN gO cB cN cO (ints ns) nd (ints left) x) (hm : left.length = 0) :
    Calls Try.prog 34 #[.slice (some ⟨gO, 0, none⟩) 0 cO] W fun e w' => ∃ A c, e = .returned (.slice A 0 c) ∧ BT8 w w' n g2 g4 g5 g8 gB gN gO cB cN cO (ints ns) nd (ints left) x := by
  have hlen : (ints left).length = 0 := by rw [ints_length, hm]
  have hc := slices_Clone_int_int.calls (some ⟨gO, 0, none⟩) cO (ints left) (ints left) W (Kd.R_reads' h.bt.rO.toR).2.2 (Kd.R_reads' h.bt.rO.toR).2.1 (by unfold slices_Clone_int_int.f; rw [if_pos (by omega)])
  rw [hlen] at hc
  refine Calls.mono (f := 34) hc ?_
  rintro e w' ⟨v, rfl, hs, hb⟩
  obtain ⟨A, c, rfl, -, -⟩ := Kd.R_reads hs
  exact ⟨A, c, by rw [hlen], h.keep hb⟩
theorem btSort_m {left : List Nat} {m : Nat} (h : BTP w W n g2 g4 g5 g8 gB gN gO gP cB cN cO cP (ints ns) nd od x (ints left)) (hn : nd.length = n) (h8 : n ≤ 8) (hm : left.length = m + 1) (hl : m + 1 ≤ 8) (hod : ∀ y ∈ left, y < n) (hb : ∀ z ∈ nd, -1000 ≤ z ∧ z ≤ 1000) :
    Calls Try.prog 47 #[.slice (some ⟨gP, 0, none⟩) (m + 1) cP, .func (.func 63) #[] #[.pointer (some ⟨g5, 0, none⟩)]] W fun e w' => e = .returned (.tuple #[]) ∧ BTP w w' n g2 g4 g5 g8 gB gN gO gP cB cN cO cP (ints ns) nd od x (ints (btOrd nd left)) := by
  have hc := btSort_c h hn h8 (by omega) (by omega) hod hb
  rw [ints_length, hm] at hc
  exact hc
end
end Go.Proofs.Ytgfoeagphlkjkaa.P
namespace Go.Proofs
open Go.Shelf
def Try.sortLay_ren : Go.Shelf.Ren := ⟨fun | 5 => 106 | 8 => 76 | 7 => 117 | 19 => 100 | 20 => 101 | 10 => 119 | 11 => 120 | 12 => 121 | 13 => 122 | 14 => 123 | 15 => 124 | 16 => 125 | 17 => 126 | 18 => 127 | 30 => 128 | 31 => 110 | 32 => 111 | 33 => 129 | 34 => 130 | 35 => 131 | 40 => 132 | n => n, fun | 23 => 22 | 25 => 3 | 3 => 3 | 32 => 73 | 22 => 22 | 0 => 0 | 44 => 85 | 46 => 87 | 4 => 4 | 36 => 90 | 35 => 89 | 41 => 94 | 5 => 5 | 9 => 9 | 53 => 97 | 57 => 101 | 63 => 105 | 64 => 106 | n => n, fun | n => n⟩
theorem Try.sortLay : Go.Proofs.SlLaysM.n5 Try.prog Try.sortLay_ren := {
  mixed := by kernel_rfl
  f5 := ⟨Try.f106.name, by decide, Try.func106.trans (congrArg some (by kernel_rfl))⟩
  f7 := ⟨Try.f117.name, by decide, Try.func117.trans (congrArg some (by kernel_rfl))⟩
  f8 := Try.func76.trans (congrArg some (by kernel_rfl))
  f10 := ⟨Try.f119.name, by decide, Try.func119.trans (congrArg some (by kernel_rfl))⟩
  f11 := ⟨Try.f120.name, by decide, Try.func120.trans (congrArg some (by kernel_rfl))⟩
  f12 := ⟨Try.f121.name, by decide, Try.func121.trans (congrArg some (by kernel_rfl))⟩
  f13 := ⟨Try.f122.name, by decide, Try.func122.trans (congrArg some (by kernel_rfl))⟩
  f14 := ⟨Try.f123.name, by decide, Try.func123.trans (congrArg some (by kernel_rfl))⟩
  f15 := ⟨Try.f124.name, by decide, Try.func124.trans (congrArg some (by kernel_rfl))⟩
  f16 := ⟨Try.f125.name, by decide, Try.func125.trans (congrArg some (by kernel_rfl))⟩
  f17 := ⟨Try.f126.name, by decide, Try.func126.trans (congrArg some (by kernel_rfl))⟩
  f18 := ⟨Try.f127.name, by decide, Try.func127.trans (congrArg some (by kernel_rfl))⟩
  f19 := Try.func100.trans (congrArg some (by kernel_rfl))
  f20 := Try.func101.trans (congrArg some (by kernel_rfl))
  f30 := ⟨Try.f128.name, by decide, Try.func128.trans (congrArg some (by kernel_rfl))⟩
  f31 := Try.func110.trans (congrArg some (by kernel_rfl))
  f32 := Try.func111.trans (congrArg some (by kernel_rfl))
  f33 := ⟨Try.f129.name, by decide, Try.func129.trans (congrArg some (by kernel_rfl))⟩
  f34 := ⟨Try.f130.name, by decide, Try.func130.trans (congrArg some (by kernel_rfl))⟩
  f35 := ⟨Try.f131.name, by decide, Try.func131.trans (congrArg some (by kernel_rfl))⟩
  f40 := ⟨Try.f132.name, by decide, Try.func132.trans (congrArg some (by kernel_rfl))⟩
  t0 := Try.underlying0
  a0 := Try.isAgg0
  z0 := Try.sizeOf0
  v0 := Try.zeroValue0
  t3 := Try.underlying3
  a3 := Try.isAgg3
  z3 := Try.sizeOf3
  v3 := Try.zeroValue3
  t4 := Try.underlying4
  a4 := Try.isAgg4
  z4 := Try.sizeOf4
  v4 := Try.zeroValue4
  t5 := Try.underlying5
  a5 := Try.isAgg5
  z5 := Try.sizeOf5
  v5 := Try.zeroValue5
  t9 := Try.underlying9
  a9 := Try.isAgg9
  z9 := Try.sizeOf9
  v9 := Try.zeroValue9
  t22 := Try.underlying22
  a22 := Try.isAgg22
  z22 := Try.sizeOf22
  v22 := Try.zeroValue22
  t23 := Try.underlying22
  a23 := Try.isAgg22
  z23 := Try.sizeOf22
  v23 := Try.zeroValue22
  t25 := Try.underlying3
  a25 := Try.isAgg3
  z25 := Try.sizeOf3
  v25 := Try.zeroValue3
  t32 := Try.underlying73
  a32 := Try.isAgg73
  z32 := Try.sizeOf73
  v32 := Try.zeroValue73
  t35 := Try.underlying89
  a35 := Try.isAgg89
  z35 := Try.sizeOf89
  v35 := Try.zeroValue89
  t36 := Try.underlying90
  a36 := Try.isAgg90
  z36 := Try.sizeOf90
  v36 := Try.zeroValue90
  t41 := Try.underlying94
  a41 := Try.isAgg94
  z41 := Try.sizeOf94
  v41 := Try.zeroValue94
  t44 := Try.underlying85
  a44 := Try.isAgg85
  z44 := Try.sizeOf85
  v44 := Try.zeroValue85
  t46 := Try.underlying87
  a46 := Try.isAgg87
  z46 := Try.sizeOf87
  v46 := Try.zeroValue87
  t53 := Try.underlying97
  a53 := Try.isAgg97
  z53 := Try.sizeOf97
  v53 := Try.zeroValue97
  t57 := Try.underlying101
  a57 := Try.isAgg101
  z57 := Try.sizeOf101
  v57 := Try.zeroValue101
  t63 := Try.underlying105
  a63 := Try.isAgg105
  z63 := Try.sizeOf105
  v63 := Try.zeroValue105
  t64 := Try.underlying106
  a64 := Try.isAgg106
  z64 := Try.sizeOf106
  v64 := Try.zeroValue106 }
end Go.Proofs
namespace Go.Proofs.Ytgfoeagphlkjkaa.P
open Go Go.RowKit Go.Shelf Go.Sort Go.Proofs.YtgfoeagphlkjkaaW.PrintWords Go.Proofs.YtgfoeagphlkjkaaW.PrintLast Go.Proofs.YtgfoeagphlkjkaaW.PrintMore
theorem sorts_c (w : World) (blk off cap : Nat) (zs : List Int) (hH : Holds (Value.int .i64) w blk off zs.toArray) (hblk : blk < w.heap.size) (hsz : zs.length < 4611686018427387904) :
    Calls Try.prog 106 #[.slice (some ⟨blk, off, none⟩) zs.length cap] w fun e w' =>
      e = .returned (.tuple #[]) ∧ ∃ n os, w' = grow (putRow (Value.int .i64) (Sort.ahead w n) blk off (sortL zs).toArray) os :=
  AnyM.slices_Sort_int Try.sortLay blk off cap zs w hH hblk hsz
theorem ab {ad : Addr} {n : Nat} (h : ad.block < n) (k : Nat) : (ad.add k).block < n := by
  unfold Addr.add
  (try split) <;> exact h
section
attribute [local go_sem] Oper.semAt_some
set_option maxRecDepth 100000 in
set_option maxHeartbeats 2000000 in
theorem values1_in (F : Fence) (n : Nat) (h7 : F.fn 107) (hro : F.round = none) (hn : 1 ≤ n) (l Bs n₀ cap : Nat) (ad : Addr) (zs : List Int) (hreach : zs.length ≤ 1048576) (hb : ad.block < n₀) (J Jx : List Int → World → Prop)
    (hY : ∀ pre x W, J pre W → pre.length < zs.length → YieldAt F (n - 1) Try.prog l #[.int .i64 x] W fun e W' =>
      (e = .returned (.bool true) ∧ J (pre ++ [x]) W' ∧ Below n₀ W W') ∨ (e = .returned (.bool false) ∧ Jx (pre ++ [x]) W'))
    (W : World) (hBs : W.cell? ⟨Bs, 0, none⟩ = some (.slice (some ad) zs.length cap)) (hc : ∀ j, j < zs.length → W.cell? (ad.add j) = some (.int .i64 (rd zs j))) (h0 : J [] W) :
    CallsIn F n Try.prog 107 #[.func (.yield l) #[] #[], .pointer (some ⟨Bs, 0, none⟩)] W fun e W' => (∃ v, e = .returned v) ∧
      ((∃ ys, ys = zs ∧ J ys W') ∨ (∃ pre, True ∧ Jx pre W')) := by
  refine callsIn_of_wp Try.func107 rfl h7 ?_ hro
  simp only [Try.ntmps107, List.size_toArray, List.length_cons, List.length_nil, Nat.reduceAdd, Nat.reduceSub, Array.replicate_succ, Array.replicate_zero, List.push_toArray, List.append_toArray, List.nil_append, List.cons_append]
  gi_wp2
  gi_loopw [7] (fun i wr => ∃ k : Nat, k ≤ zs.length ∧ i = .int .i64 k ∧ J (zs.take k) wr ∧ Below n₀ W wr)
    (fun i _ => zs.length - (intOf i).toNat)
  case atStart => exact ⟨0, Nat.zero_le _, rfl, h0, Below.refl _ _⟩
  case round =>
    obtain ⟨k, hk, rfl, hJs, hnx⟩ := hrel
    have hcx : k < zs.length → wr.cell? (ad.add k) = some (.int .i64 (rd zs k)) := fun h => (hnx.cell (p := ad.add k) (ab hb k)).trans (hc k h)
    by_cases hlt : k < zs.length
    · have htk : zs.take k ++ [rd zs k] = zs.take (k + 1) := by
        rw [List.take_add_one, List.getElem?_eq_getElem hlt]
        simp [Go.Proofs.YtgfoeagphlkjkaaW.PrintWords.rd, List.getD_eq_getElem?_getD, hlt]
      obtain ⟨fn, tmps, assign, body, hy, hR⟩ := hY _ (rd zs k) wr hJs (by rw [List.length_take]; omega)
      have hcx' := hcx hlt
      rw [htk] at hR
      gi_wp2
      refine hR.mono ?_
      rintro e W3 (⟨rfl, hJ3, hk3⟩ | ⟨rfl, hJx3⟩)
      · gi_wp2
        go_roundw
        case rel => exact ⟨k + 1, by omega, by simp, hJ3, hnx.trans hk3⟩
        case measure => simp [intOf]; omega
      · gi_wp2
        refine bodyPost_ret (results_none rfl _ _ _) rfl ?_
        exact ⟨⟨_, rfl⟩, .inr ⟨_, trivial, hJx3⟩⟩
    · obtain rfl : k = zs.length := by omega
      gi_wp2
      go_end0
      exact ⟨⟨_, rfl⟩, .inl ⟨_, rfl, by rw [List.take_length] at hJs; exact hJs⟩⟩
set_option maxHeartbeats 1000000 in
theorem values_in (F : Fence) (n : Nat) (h5 : F.fn 86) (hro : F.round = none) (a : Option Addr) (len cap : Nat) (w : World) :
    CallsIn F n Try.prog 86 #[.slice a len cap] w fun e w' => e = .returned (.func (.func 107) #[] #[.pointer (some ⟨w.heap.size, 0, none⟩)]) ∧ w' = w.alloc (.cells #[.slice a len cap] 22) := by
  refine callsIn_of_wp Try.func86 rfl h5 ?_ hro
  simp only [Try.ntmps86, List.size_toArray, List.length_cons, List.length_nil, Nat.reduceAdd, Nat.reduceSub, Array.replicate_succ, Array.replicate_zero, List.push_toArray, List.append_toArray, List.nil_append, List.cons_append]
  gi_wp2
  go_ret
  exact ⟨rfl, rfl⟩
theorem values_stops (F : Fence) (n : Nat) (h7 : F.fn 107) (hro : F.round = none) (hn : 1 ≤ n) (Bs n₀ cap : Nat) (ad : Addr) (zs : List Int) (hreach : zs.length ≤ 1048576) (hb : ad.block < n₀) (w : World) (hBs : Bs < w.heap.size) (hn₀ : n₀ ≤ w.heap.size)
    (hc : w.cell? ⟨Bs, 0, none⟩ = some (.slice (some ad) zs.length cap)) (hI : ∀ j, j < zs.length → w.cell? (ad.add j) = some (.int .i64 (rd zs j))) :
    SeqStopsK F n Try.prog 107 #[.pointer (some ⟨Bs, 0, none⟩)] (fun x : Int => #[Value.int .i64 x]) (Below n₀) (fun ys => ys = zs) (fun pre => True) zs.length w := fun l J Jx W hW _ _ hY h0 =>
  values1_in F n h7 hro hn l Bs n₀ cap ad zs hreach hb J Jx hY W ((hW.cell (p := ⟨Bs, 0, none⟩) hBs).trans hc) (fun j hj => (hW.cell (p := ad.add j) (ab (Nat.lt_of_lt_of_le hb hn₀) j)).trans (hI j hj)) h0
theorem sInfo : (Try.prog.info? 3).map (fun i => (i.zero, i.size, i.bytes)) = some (some (.int .i64 0), 1, 8) := by kernel_rfl
set_option maxRecDepth 100000 in
set_option maxHeartbeats 2000000 in
theorem appendSeq_in (F : Fence) (n : Nat) (h3 : F.fn 116) (h7 : F.fn 107) (hro : F.round = none) (hn : 3 ≤ n) (Bs cap : Nat) (ad : Addr) (zs : List Int) (hreach : zs.length ≤ 1048576) (w : World) (hb : ad.block < w.heap.size) (hBs : Bs < w.heap.size)
    (hcB : w.cell? ⟨Bs, 0, none⟩ = some (.slice (some ad) zs.length cap)) (hI : ∀ j, j < zs.length → w.cell? (ad.add j) = some (.int .i64 (rd zs j))) :
    CallsIn F n Try.prog 116 #[.slice none 0 0, .func (.func 107) #[] #[.pointer (some ⟨Bs, 0, none⟩)]] w fun e W' => ∃ v, e = .returned v ∧ W'.ownsRow w.heap.size 3 1 v zs.length (zs.map (Value.int .i64)) ∧ Below w.heap.size w W' := by
  have h1 : 1 ≤ n := by omega
  obtain ⟨i0, hi, hz0, hz1, hz2⟩ := info_parts sInfo
  refine callsIn_of_wp_marks Try.func116 rfl h3 ?_ hro
  simp only [Try.ntmps116, List.size_toArray, List.length_cons, List.length_nil, Nat.reduceAdd, Nat.reduceSub, Array.replicate_succ, Array.replicate_zero, List.push_toArray, List.append_toArray, List.nil_append, List.cons_append]
  gi_wp2
  have bO := Boxed.new w 22 (.slice none 0 0)
  have hB0 : Below w.heap.size w (w.alloc (.cells #[.slice none 0 0] 22)) := (Below.refl _ w).alloc (Nat.le_refl _) _
  refine wpIn_rangeFunc_ownG hro h1 (gf := 107) (lb := #[.pointer (some ⟨Bs, 0, none⟩)]) rfl h7 (enters_of Try.func107 (by kernel_rfl) rfl)
    (values_stops F (n - 1) h7 hro (by omega) Bs w.heap.size cap ad zs hreach hb _ (by simp; omega) (by simp) ((hB0.cell (p := ⟨Bs, 0, none⟩) hBs).trans hcB) (fun j hj => (hB0.cell (p := ad.add j) (ab hb j)).trans (hI j hj))) belowK_t (belowK_b (by simp)) (Below.refl _ _) (fun _ => rfl)
    (fun pre W => (∃ v, Boxed W w.heap.size 22 v ∧ W.ownsRow w.heap.size 3 1 v pre.length (pre.map (Value.int .i64)) ∧ True) ∧ Below w.heap.size w W)
    (fun _ _ _ => False)
    (OwnFrom.and (Own.from (holdsRow_own w.heap.size w.heap.size 22 3 1 (fun pre : List Int => pre.length) (fun pre : List Int => pre.map (Value.int .i64)) (fun pre v => True)) _) (ownFrom_below (Nat.le_refl _) (by simp)))
    (fun _ _ _ _ _ hs _ _ => hs)
    ⟨⟨_, bO, World.ownsRow_nil _ _ _ _, trivial⟩, hB0⟩
    (fun x => { tmps := #[.slice none 0 0, .func (.func 107) #[] #[.pointer (some ⟨Bs, 0, none⟩)], .pointer (some ⟨w.heap.size, 0, none⟩), undef, .slice none 0 0, .int .i64 x, .func (.func 107) #[] #[.pointer (some ⟨Bs, 0, none⟩)], .int .i64 x, undef, undef, undef, undef, undef], defers := [] }) ?assign ?body ?done ?stop
  case assign =>
    intro l x W K hK
    gi_wp2
    exact hK
  case body =>
    rintro l pre x W ⟨⟨v, hv, hrow, -⟩, hB⟩ hlt
    have hc := hv.cell
    gi_wp2_with (gi_at_builtin; refine wpListIn_append_own _ rfl _ _ 22 rfl w.heap.size 3 i0 (.int .i64 0) 1 8 Try.underlying22 hi hz0 hz1 hz2 rfl (by decide) _ _ _ rfl (hrow.alloc _) ⟨W.heap.size, 0, none⟩ 1 1 [.int .i64 x] rfl rfl (cell_one_new _ _ _) (by simp [Value.oneCell']) (by unfold maxLen; omega) (by omega) (by have := hB.size; simp; omega) ?_; intro v' w1 hown' hgrow _; obtain ⟨g', cap', rfl⟩ := ownsRow_succ hown'; obtain ⟨hv1, hv2, hr2, hk2, hb2⟩ := hv.appended (by decide) hrow hB.size (Nat.le_refl _) hown' hgrow; have hc1 := hv1.cell; have hf1 := hv1.frozen)
    exact ⟨hk2.from _, hb2, ⟨_, hv2, by simpa using hr2, trivial⟩, hB.trans hb2⟩
  case done =>
    rintro D ys W hD rfl ⟨⟨v, hv, hrow, -⟩, hB⟩ hK
    have hc := hv.cell
    gi_wp2
    refine ⟨by simp, .inl ⟨_, _, rfl, run_takeDeferred hK, ?_⟩⟩
    exact ⟨_, results_tmp rfl _ _ _, v, rfl, ownsRow_putObj hrow _ hK rfl, hB.trans (belowK_b (w := w) (Nat.le_refl _) W D _ _ (by simp at hD; omega) hK rfl rfl)⟩
  case stop =>
    rintro D c pre W _ _ h _
    exact h.elim
end
theorem values_c (a : Option Addr) (len cap : Nat) (w : World) :
    Calls Try.prog 86 #[.slice a len cap] w fun e w' => e = .returned (.func (.func 107) #[] #[.pointer (some ⟨w.heap.size, 0, none⟩)]) ∧ w' = w.alloc (.cells #[.slice a len cap] 22) :=
  (callsIn_wide (n := 6)).1 (values_in Fence.wide 6 trivial rfl a len cap w)
theorem appendSeq_c (Bs cap : Nat) (ad : Addr) (zs : List Int) (hreach : zs.length ≤ 1048576) (w : World) (hb : ad.block < w.heap.size) (hBs : Bs < w.heap.size)
    (hcB : w.cell? ⟨Bs, 0, none⟩ = some (.slice (some ad) zs.length cap)) (hI : ∀ j, j < zs.length → w.cell? (ad.add j) = some (.int .i64 (rd zs j))) :
    Calls Try.prog 116 #[.slice none 0 0, .func (.func 107) #[] #[.pointer (some ⟨Bs, 0, none⟩)]] w fun e W' => ∃ v, e = .returned v ∧ W'.ownsRow w.heap.size 3 1 v zs.length (zs.map (Value.int .i64)) ∧ Below w.heap.size w W' :=
  (callsIn_wide (n := 6)).1 (appendSeq_in Fence.wide 6 trivial trivial rfl (by omega) Bs cap ad zs hreach w hb hBs hcB hI)
set_option maxHeartbeats 800000 in
set_option maxRecDepth 100000 in
theorem collect_c (Bs cap : Nat) (ad : Addr) (zs : List Int) (hreach : zs.length ≤ 1048576) (w : World) (hb : ad.block < w.heap.size) (hBs : Bs < w.heap.size)
    (hcB : w.cell? ⟨Bs, 0, none⟩ = some (.slice (some ad) zs.length cap)) (hI : ∀ j, j < zs.length → w.cell? (ad.add j) = some (.int .i64 (rd zs j))) :
    Calls Try.prog 105 #[.func (.func 107) #[] #[.pointer (some ⟨Bs, 0, none⟩)]] w fun e W' => ∃ v, e = .returned v ∧ W'.ownsRow w.heap.size 3 1 v zs.length (zs.map (Value.int .i64)) ∧ Below w.heap.size w W' := by
  have HA := Aside0.mk (appendSeq_c Bs cap ad zs hreach w hb hBs hcB hI)
  clear hb hBs hcB hI
  go_enter Try.func105, Try.ntmps105
  go_wp2_with (first | (go_at_call 116; (with_reducible refine HA.out.mono ?_); rintro e w' ⟨v, rfl, hr, hb⟩))
  go_ret
  exact ⟨v, rfl, hr, hb⟩
set_option maxHeartbeats 800000 in
set_option maxRecDepth 100000 in
theorem sorted_c (Bs cap : Nat) (ad : Addr) (zs : List Int) (hreach : zs.length ≤ 1048576) (hpos : 0 < zs.length) (w : World) (hb : ad.block < w.heap.size) (hBs : Bs < w.heap.size)
    (hcB : w.cell? ⟨Bs, 0, none⟩ = some (.slice (some ad) zs.length cap)) (hI : ∀ j, j < zs.length → w.cell? (ad.add j) = some (.int .i64 (rd zs j))) :
    Calls Try.prog 85 #[.func (.func 107) #[] #[.pointer (some ⟨Bs, 0, none⟩)]] w fun e W' => ∃ v, e = .returned v ∧ Kd.R (Kd.int .i64) 3 W' w.heap.size (fun _ => True) v (sortL zs) ∧ Below w.heap.size w W' := by
  have HA := Aside0.mk (collect_c Bs cap ad zs hreach w hb hBs hcB hI)
  have HP := Aside0.mk hpos
  have HR := Aside0.mk hreach
  clear hb hBs hcB hI hpos hreach
  go_enter Try.func85, Try.ntmps85
  go_wp2_with (first
    | (go_at_call 105; (with_reducible refine HA.out.mono ?_); rintro e w1 ⟨v, rfl, hr, hb⟩
       obtain ⟨g, c, cur, rfl, hg, hgb, r1, r2, r3, r4⟩ : ∃ g c cur, v = .slice (some ⟨g, 0, none⟩) zs.length c ∧ w.heap.size ≤ g ∧ w1.heap[g]? = some (.cells cur 3 (0, 0)) ∧ zs.length ≤ c ∧ c ≤ maxLen ∧ cur.size = c * 1 ∧ cur.toList.take (zs.length * 1) = zs.map (Value.int .i64) := by
         rcases hr.2 with ⟨_, h0⟩ | h'
         · have := HP.out; omega
         · exact h'
       have HG := Aside0.mk hg; have HGB := Aside0.mk hgb; have H1 := Aside0.mk r1; have H2 := Aside0.mk r2; have H3 := Aside0.mk r3; have H4 := Aside0.mk r4; have HB := Aside0.mk hb; clear hr hg hgb r1 r2 r3 r4 hb)
    | (go_at_call 106
       (with_reducible refine (sorts_c _ g 0 c zs ?sH ?sl ?ss).mono ?_)
       case sH => exact holds_of_blockI HGB.out (by have := H4.out; rw [Nat.mul_one] at this; exact this)
       case sl => exact (Array.getElem?_eq_some_iff.1 HGB.out).1
       case ss => (have := HR.out; omega)
       rintro e w2 ⟨rfl, nn, os, rfl⟩))
  go_ret
  refine ⟨_, rfl, ?_, ?_⟩
  · have hq := ownsRow_sortedI (n := nn) (os := os) (ss := zs) (ts := sortL zs) (by unfold sortL; exact List.length_mergeSort _) HG.out HGB.out H1.out H2.out H3.out
    refine Kd.R_of_own (enc := Value.int .i64) ?_ (fun _ _ => trivial)
    have e2 : (sortL zs).length = zs.length := by unfold sortL; exact List.length_mergeSort _
    rw [e2]
    exact hq
  · exact HB.out.grown (grownBy_sortedI _) HB.out.size (fun k e => by cases e; exact HG.out)
end Go.Proofs.Ytgfoeagphlkjkaa.P
namespace Go.Proofs.Ytgfoeagphlkjkaa.P
open Go.RowKit Go.Proofs.YtgfoeagphlkjkaaW.PrintWords Go.Proofs.YtgfoeagphlkjkaaW.PrintLast Go.Proofs.YtgfoeagphlkjkaaW.PrintMore Go.Proofs.Ytgfoeagphlkjkaa.K
theorem sortL_perm (l : List Int) : (sortL l).Perm l := List.mergeSort_perm _ _
theorem sortL_length (l : List Int) : (sortL l).length = l.length := (sortL_perm l).length_eq
theorem w64_id {x : Int} (h1 : -9223372036854775808 ≤ x) (h2 : x ≤ 9223372036854775807) : IntKind.i64.wrap x = x := by
  have : IntKind.i64.wrap x = wrap64 x := by simp [IntKind.wrap, IntKind.bits, IntKind.signed, wrap64]; omega
  rw [this]; unfold wrap64; omega
theorem tri_bound (i : Nat) (h : i ≤ 11) : (0 ≤ (i : Int) * ((i : Int) + 1) ∧ (i : Int) * ((i : Int) + 1) ≤ 132) ∧ 0 ≤ Int.tdiv ((i : Int) * ((i : Int) + 1)) 2 ∧ Int.tdiv ((i : Int) * ((i : Int) + 1)) 2 ≤ 66 := by
  obtain rfl | rfl | rfl | rfl | rfl | rfl | rfl | rfl | rfl | rfl | rfl | rfl : i = 0 ∨ i = 1 ∨ i = 2 ∨ i = 3 ∨ i = 4 ∨ i = 5 ∨ i = 6 ∨ i = 7 ∨ i = 8 ∨ i = 9 ∨ i = 10 ∨ i = 11 := by omega
  all_goals decide
set_option maxHeartbeats 800000 in
set_option maxRecDepth 100000 in
theorem impl_refusingScores.calls (A0 : Option Addr) (c0 : Nat) (l0 : List Int) (r : Int) (w : World) (hr0 : Kd.C (Kd.int .i64) w A0 l0.length l0) (hc0 : l0.length ≤ c0) (h : impl_refusingScores.f l0 = some r) :
    Calls Try.prog 60 #[.slice A0 l0.length c0] w fun e w' => e = .returned (.int .i64 r) ∧ Below w.heap.size w w' := by
  unfold impl_refusingScores.f at h
  split at h
  case isFalse => cases h
  rename_i hb
  obtain rfl := Option.some.inj h
  obtain ⟨hb1, hb2, hb3⟩ := hb
  obtain ⟨ad, e2, hx⟩ := Kd.at_int hr0 0 (by omega) (by omega)
  cases e2
  have HAD : Aside0 (ad.block < w.heap.size) := ⟨by have := World.block_lt_of_cell? w _ hx; rw [show ((0 : Int)).toNat = 0 from rfl, Addr.add_zero'] at this; exact this⟩
  have HI : Aside0 (∀ j, j < l0.length → w.cell? (ad.add j) = some (.int .i64 (rd l0 j))) := ⟨fun j hj => by
    obtain ⟨ad', e2, hx⟩ := Kd.at_int hr0 (j : Int) (by omega) (by omega)
    cases e2
    simpa using hx⟩
  have HB1 := Aside0.mk hb1
  have HB2 := Aside0.mk hb2
  have HBD : Aside0 (∀ x ∈ sortL l0, 0 ≤ x ∧ x ≤ 1048576) := ⟨fun x hx => hb3 x ((sortL_perm l0).mem_iff.1 hx)⟩
  have HSL : Aside0 ((sortL l0).length = l0.length) := ⟨sortL_length l0⟩
  have HB := Aside0.mk (Below.refl w.heap.size w)
  clear hr0 hc0 hb1 hb2 hb3 hx
  have HS : Aside0 (∀ W1 : World, W1 = w.alloc (.cells #[.slice (some ad) l0.length c0] 22) → Calls Try.prog 85 #[.func (.func 107) #[] #[.pointer (some ⟨w.heap.size, 0, none⟩)]] W1 fun e W' => ∃ v, e = .returned v ∧ Kd.R (Kd.int .i64) 3 W' W1.heap.size (fun _ => True) v (sortL l0) ∧ Below W1.heap.size W1 W') := ⟨fun W1 hW => by
    have hbl : Below w.heap.size w W1 := by rw [hW]; exact below_alloc (Below.refl _ _) _
    have hsz : W1.heap.size = w.heap.size + 1 := by rw [hW]; simp
    exact sorted_c w.heap.size c0 ad l0 (by have := HB2.out; omega) (by have := HB1.out; omega) W1 (by have := HAD.out; omega) (by omega) (by rw [hW]; simp) (fun j hj => (hbl.cell (p := ad.add j) (ab HAD.out j)).trans (HI.out j hj))⟩
  go_enter Try.func60, Try.ntmps60
  go_wp2_with (first
    | (go_at_call 86; (with_reducible refine (values_c _ _ _ _).mono ?_); rintro e w1 ⟨rfl, rfl⟩)
    | (go_at_call 85; (with_reducible refine (HS.out _ ?s1).mono ?_); (case s1 => rfl); rintro e w2 ⟨v, rfl, hR, hb⟩; have n0_ := Aside0.mk (Kd.R_lower hR (below_size (by repeat (first | (with_reducible first | exact HB.out | apply below_alloc | apply pw_below_drewN | apply below_drew1))))); have n1_ := Aside0.mk (below_step (by repeat (first | (with_reducible first | exact HB.out | apply below_alloc | apply pw_below_drewN | apply below_drew1))) hb); clear HB hR hb; have HO := n0_; have HB := n1_; clear n0_ n1_; obtain ⟨Ao, co, eo⟩ := Kd.R_slice HO.out; subst eo))
  go_loopg [3, 11] (sortL l0).length (fun kq v3 v11 w' => ∃ (done rest : List Int) (sum : Int), Aside0 (sortL l0 = done ++ rest) ∧ v11 = .int .i64 (done.length : Int) ∧ v3 = .int .i64 sum ∧ Aside0 (0 ≤ sum ∧ sum ≤ (done.length : Int) * 1048576) ∧ Aside0 (refuseS l0.length done.length sum rest = refuseS l0.length 0 0 (sortL l0)) ∧ Aside0 (kq = rest.length) ∧ Aside0 (Kd.R (Kd.int .i64) 3 w' w.heap.size (fun _ => True) (.slice Ao (sortL l0).length co) (sortL l0)) ∧ Aside0 (Below w.heap.size w w'))
  case atStart => exact ⟨[], sortL l0, 0, ⟨rfl⟩, rfl, rfl, ⟨by simp⟩, ⟨rfl⟩, ⟨rfl⟩, ⟨by (with_reducible repeat (first | apply Kd.R_alloc | apply Kd.R_drewN | apply Kd.R_drew)); exact HO.out⟩, ⟨(by repeat (first | (with_reducible first | exact HB.out | apply below_alloc | apply pw_below_drewN | apply below_drew1)))⟩⟩
  case round =>
    clear HB HO
    obtain ⟨done, rest, sum, HE, rfl, rfl, HSB, HF, HK, HO, HB⟩ := hrel
    cases rest with
    | nil =>
      have hl : done.length = (sortL l0).length := by rw [HE.out]; simp
      have c4 : decide ((done.length : Int) < ((sortL l0).length : Int)) = false := by simp; omega
      have c5 : decide (done.length < (sortL l0).length) = false := by simp; omega
      clear hl
      go_wp2
      go_ret
      exact ⟨by rw [← HF.out]; rfl, (by repeat (first | (with_reducible first | exact HB.out | apply below_alloc | apply pw_below_drewN | apply below_drew1)))⟩
    | cons x rest =>
      have hl : done.length < (sortL l0).length := by rw [HE.out]; simp
      have hl12 : done.length ≤ 11 := by have := HB2.out; have := HSL.out; omega
      have hx1 := HBD.out x (by rw [HE.out]; simp)
      have hs1 := HSB.out
      obtain ⟨ad3, e3, hx3⟩ := Kd.at_int (Kd.R_reads' HO.out).2.2 (done.length : Int) (by omega) (by omega)
      cases e3
      have hy : rd (sortL l0) (done.length : Int) = x := by rw [HE.out]; simp [Go.Proofs.YtgfoeagphlkjkaaW.PrintWords.rd]
      rw [hy] at hx3
      simp only [Int.toNat_natCast] at hx3
      clear hy
      have c4 : decide ((done.length : Int) < ((sortL l0).length : Int)) = true := by simp; omega
      have c5 : decide (done.length < (sortL l0).length) = true := by simp; omega
      have c7 : (done.length : Int) ≤ 1048575 := by omega
      have tb := tri_bound done.length hl12
      have HX1 := Aside0.mk hx1
      have HS1 := Aside0.mk hs1
      have HTB := Aside0.mk tb
      have w1 : IntKind.i64.wrap (sum + x) = sum + x := w64_id (by omega) (by omega)
      have w2 : IntKind.i64.wrap ((done.length : Int) + 1) = (done.length : Int) + 1 := w64_id (by omega) (by omega)
      have w3 : IntKind.i64.wrap ((done.length : Int) * ((done.length : Int) + 1)) = (done.length : Int) * ((done.length : Int) + 1) := w64_id (by omega) (by omega)
      have w4 : IntKind.i64.wrap (Int.tdiv ((done.length : Int) * ((done.length : Int) + 1)) 2) = Int.tdiv ((done.length : Int) * ((done.length : Int) + 1)) 2 := w64_id (by omega) (by omega)
      clear hx1 hs1 tb hl12
      by_cases p1 : sum + x < Int.tdiv ((done.length : Int) * ((done.length : Int) + 1)) 2 <;> by_cases p2 : (done.length : Int) + 1 = (l0.length : Int) <;> by_cases p3 : Int.tdiv ((done.length : Int) * ((done.length : Int) + 1)) 2 < sum + x
      all_goals
        have q1 : decide (sum + x < Int.tdiv ((done.length : Int) * ((done.length : Int) + 1)) 2) = decide (sum + x < Int.tdiv ((done.length : Int) * ((done.length : Int) + 1)) 2) := rfl
        have q2 : ((done.length : Int) + 1 == (l0.length : Int)) = decide ((done.length : Int) + 1 = (l0.length : Int)) := rfl
        have q3 : decide (Int.tdiv ((done.length : Int) * ((done.length : Int) + 1)) 2 < sum + x) = decide (Int.tdiv ((done.length : Int) * ((done.length : Int) + 1)) 2 < sum + x) := rfl
        (first | (rw [show decide (sum + x < Int.tdiv ((done.length : Int) * ((done.length : Int) + 1)) 2) = true from decide_eq_true p1] at q1; replace q1 : decide (sum + x < Int.tdiv ((done.length : Int) * ((done.length : Int) + 1)) 2) = true := decide_eq_true p1) | replace q1 : decide (sum + x < Int.tdiv ((done.length : Int) * ((done.length : Int) + 1)) 2) = false := decide_eq_false p1)
        (first | rw [decide_eq_true p2] at q2 | rw [decide_eq_false p2] at q2)
        (first | replace q3 : decide (Int.tdiv ((done.length : Int) * ((done.length : Int) + 1)) 2 < sum + x) = true := decide_eq_true p3 | replace q3 : decide (Int.tdiv ((done.length : Int) * ((done.length : Int) + 1)) 2 < sum + x) = false := decide_eq_false p3)
        have P1 := Aside0.mk p1
        have P2 := Aside0.mk p2
        have P3 := Aside0.mk p3
        clear p1 p2 p3
        go_wp2
        first
          | (go_ret
             exact ⟨by
               rw [← HF.out, refuseS, if_pos (by have h1 := P1.out; have h2 := P2.out; have h3 := P3.out; first | exact Or.inl h1 | exact Or.inr ⟨by omega, h3⟩)]
               rfl, (by repeat (first | (with_reducible first | exact HB.out | apply below_alloc | apply pw_below_drewN | apply below_drew1)))⟩)
          | (go_roundg rest.length
             case measure => (have := HK.out; simp at this; omega)
             case rel =>
               refine ⟨done ++ [x], rest, sum + x, ⟨by rw [HE.out]; simp⟩, by simp, rfl, ⟨by have := HX1.out; have := HS1.out; simp; omega⟩, ⟨?_⟩, ⟨rfl⟩, ⟨by (with_reducible repeat (first | apply Kd.R_alloc | apply Kd.R_drewN | apply Kd.R_drew)); exact HO.out⟩, ⟨(by repeat (first | (with_reducible first | exact HB.out | apply below_alloc | apply pw_below_drewN | apply below_drew1)))⟩⟩
               rw [← HF.out, refuseS, if_neg (by have h1 := P1.out; have h2 := P2.out; have h3 := P3.out; rintro (h | h) <;> omega)]
               simp)
end Go.Proofs.Ytgfoeagphlkjkaa.P
namespace Go.Proofs.Ytgfoeagphlkjkaa.P
open Go.RowKit Go.Proofs.YtgfoeagphlkjkaaW.PrintWords Go.Proofs.YtgfoeagphlkjkaaW.PrintLast Go.Proofs.YtgfoeagphlkjkaaW.PrintMore Go.Proofs.Ytgfoeagphlkjkaa.K
open Go Go.Sort Go.Shelf
attribute [local go_sem ↓] Go.wp_at_zero Go.wp_at_succ
set_option maxHeartbeats 800000 in
set_option maxRecDepth 100000 in
theorem impl_BuildTournament.calls (k : Nat) (A0 : Option Addr) (c0 : Nat) (l0 : List Int) (r1 : Int) (r2 : List Int) (r3 : Bool) (w : World) (hr0 : Kd.C (Kd.int .i64) w A0 l0.length l0) (hc0 : l0.length ≤ c0) (h : impl_BuildTournament.f k l0 = some (r1, r2, r3)) :
    Calls Try.prog 26 #[.slice A0 l0.length c0] w fun e w' => ∃ v1_ : Value, e = .returned (.tuple #[.agg #[.int .i64 r1, v1_], .bool r3]) ∧ Kd.R (Kd.int .i64) 3 w' w.heap.size (fun _ => True) v1_ r2 ∧ Below w.heap.size w w' := by
  have HR0 := Aside0.mk hr0
  have HC0 := Aside0.mk hc0
  have HB := Aside0.mk (Below.refl w.heap.size w)
  clear hr0 hc0
  unfold impl_BuildTournament.f at h
  obtain ⟨b, hg, h⟩ := Option.bind_eq_some_iff.mp h
  have HG := Aside0.mk hg
  clear hg
  cases b with
  | false =>
    simp only [Bool.false_eq_true, if_false, Option.some.injEq, Prod.mk.injEq] at h
    obtain ⟨rfl, rfl, rfl⟩ := h
    go_enter Try.func26, Try.ntmps26
    go_wp2_with (first | ((with_reducible refine gate_dst (N := 2) rfl ?_); refine box_event ?hg (N := 2) ?hd (cs := #[.int .i64 0, .slice none 0 0]) (t := 44) ?hr ?_; (case hd => rfl); (case hg => rfl); (case hr => first | (go_simp; done) | (go_simp; rfl)); intro g2 hg w5 hbox hb; have n0_ := Aside0.mk (below_step (by repeat (first | (with_reducible first | exact HB.out | apply below_alloc | apply pw_below_drewN | apply below_drew1))) hb); have n1_ := Aside0.mk hbox; have n2_ := Aside0.mk (by rw [hg]; exact (below_size (by repeat (first | (with_reducible first | exact HB.out | apply below_alloc | apply pw_below_drewN | apply below_drew1)))) : w.heap.size ≤ g2); clear HB; have HB := n0_; have BK2 := n1_; have GE2 := n2_; clear n0_ n1_ n2_ hb hbox hg; have q0 := (blk_cell BK2.out 0).trans rfl; have q1 := (blk_cell BK2.out 1).trans rfl; have f0 := blk_frozen BK2.out 0; have f1 := blk_frozen BK2.out 1) | (go_at_call 32; (with_reducible refine (impl_IsList.calls k _ _ l0 false _ ?s1 HC0.out HG.out).mono ?_); (case s1 => exact Kd.C_below HR0.out (by repeat (first | (with_reducible first | exact HB.out | apply below_alloc | apply pw_below_drewN | apply below_drew1)))); rintro e w6 ⟨rfl, ⟨nd, rfl⟩⟩))
    refine bodyPost_ret (results_ct rfl _ _ g2 44 #[.int .i64 0, .slice none 0 0] (0, 0) _ rfl (by (with_reducible repeat (first | refine blk_drewN ?_ _ | refine blk_drew ?_ | refine blk_alloc ?_ _)); refine blk_put (cs := #[.int .i64 0, .slice none 0 0]) ?_ 1 _ rfl; (with_reducible repeat (first | refine blk_drewN ?_ _ | refine blk_drew ?_ | refine blk_alloc ?_ _)); refine blk_put (cs := #[.int .i64 0, .slice none 0 0]) ?_ 0 _ rfl; (with_reducible repeat (first | refine blk_drewN ?_ _ | refine blk_drew ?_ | refine blk_alloc ?_ _)); exact BK2.out) Try.underlying44 rfl (by kernel_rfl)) rfl ?_
    exact ⟨_, rfl, Kd.R_nil _ _ _ _ _, (by repeat (first | (with_reducible first | exact HB.out | apply below_alloc | apply pw_below_drewN | apply below_drew1 | refine below_set ?_ GE2.out) | exact HB.out))⟩
  | true =>
    simp only [if_true] at h
    obtain ⟨rf, hi, h⟩ := Option.bind_eq_some_iff.mp h
    have HI := Aside0.mk hi
    clear hi
    by_cases hrf : rf = 0
    rotate_left
    · rw [if_neg hrf] at h
      have crf : decide (rf = 0) = false := by simpa using hrf
      simp only [Option.some.injEq, Prod.mk.injEq] at h
      obtain ⟨rfl, rfl, rfl⟩ := h
      go_enter Try.func26, Try.ntmps26
      go_wp2_with (first | ((with_reducible refine gate_dst (N := 2) rfl ?_); refine box_event ?hg (N := 2) ?hd (cs := #[.int .i64 0, .slice none 0 0]) (t := 44) ?hr ?_; (case hd => rfl); (case hg => rfl); (case hr => first | (go_simp; done) | (go_simp; rfl)); intro g2 hg w5 hbox hb; have n0_ := Aside0.mk (below_step (by repeat (first | (with_reducible first | exact HB.out | apply below_alloc | apply pw_below_drewN | apply below_drew1))) hb); have n1_ := Aside0.mk hbox; have n2_ := Aside0.mk (by rw [hg]; exact (below_size (by repeat (first | (with_reducible first | exact HB.out | apply below_alloc | apply pw_below_drewN | apply below_drew1)))) : w.heap.size ≤ g2); clear HB; have HB := n0_; have BK2 := n1_; have GE2 := n2_; clear n0_ n1_ n2_ hb hbox hg; have q0 := (blk_cell BK2.out 0).trans rfl; have q1 := (blk_cell BK2.out 1).trans rfl; have f0 := blk_frozen BK2.out 0; have f1 := blk_frozen BK2.out 1) | (go_at_call 32; (with_reducible refine (impl_IsList.calls k _ _ l0 true _ ?s1 HC0.out HG.out).mono ?_); (case s1 => exact Kd.C_below HR0.out (by repeat (first | (with_reducible first | exact HB.out | apply below_alloc | apply pw_below_drewN | apply below_drew1)))); rintro e w6 ⟨rfl, ⟨nd, rfl⟩⟩) | (go_at_call 60; (with_reducible refine (impl_refusingScores.calls _ _ l0 rf _ ?s1 HC0.out HI.out).mono ?_); (case s1 => exact Kd.C_below HR0.out (by repeat (first | (with_reducible first | exact HB.out | apply below_alloc | apply pw_below_drewN | apply below_drew1)))); rintro e w7 ⟨rfl, hb⟩; have n0_ := Aside0.mk (below_step (by repeat (first | (with_reducible first | exact HB.out | apply below_alloc | apply pw_below_drewN | apply below_drew1))) hb); have n1_ := Aside0.mk (blk_below (by (with_reducible repeat (first | refine blk_drewN ?_ _ | refine blk_drew ?_ | refine blk_alloc ?_ _)); exact BK2.out) hb); clear HB BK2 hb q0 q1 f0 f1; have HB := n0_; have BK2 := n1_; clear n0_ n1_; have q0 := (blk_cell BK2.out 0).trans rfl; have q1 := (blk_cell BK2.out 1).trans rfl; have f0 := blk_frozen BK2.out 0; have f1 := blk_frozen BK2.out 1))
      refine bodyPost_ret (results_ct rfl _ _ g2 44 #[.int .i64 0, .slice none 0 0] (0, 0) _ rfl (by (with_reducible repeat (first | refine blk_drewN ?_ _ | refine blk_drew ?_ | refine blk_alloc ?_ _)); refine blk_put (cs := #[.int .i64 0, .slice none 0 0]) ?_ 1 _ rfl; (with_reducible repeat (first | refine blk_drewN ?_ _ | refine blk_drew ?_ | refine blk_alloc ?_ _)); refine blk_put (cs := #[.int .i64 0, .slice none 0 0]) ?_ 0 _ rfl; (with_reducible repeat (first | refine blk_drewN ?_ _ | refine blk_drew ?_ | refine blk_alloc ?_ _)); exact BK2.out) Try.underlying44 rfl (by kernel_rfl)) rfl ?_
      exact ⟨_, rfl, Kd.R_nil _ _ _ _ _, (by repeat (first | (with_reducible first | exact HB.out | apply below_alloc | apply pw_below_drewN | apply below_drew1 | refine below_set ?_ GE2.out) | exact HB.out))⟩
    · subst hrf
      rw [if_pos rfl] at h
      split at h
      case isFalse => cases h
      rename_i hb
      obtain ⟨h1, h8, h3⟩ := hb
      simp only [Option.some.injEq, Prod.mk.injEq] at h
      obtain ⟨rfl, hr2, rfl⟩ := h
      have HR2 := Aside0.mk hr2
      have H18 : Aside0 (1 ≤ l0.length ∧ l0.length ≤ 8) := ⟨⟨h1, h8⟩⟩
      have H3 := Aside0.mk h3
      have HP0 : Aside0 (0 < (List.replicate l0.length (0 : Int)).length) := ⟨by simp; omega⟩
      have HP1 : Aside0 (0 < l0.length) := ⟨by omega⟩
      have HNG : Aside0 (impl_newTournament.f (l0.length : Int) = some ((l0.length : Int), List.replicate l0.length 0)) := ⟨by unfold impl_newTournament.f; rw [if_pos (by omega), if_pos (by omega), Int.toNat_natCast]⟩
      have HCl : Aside0 (slices_Clone_int_int.f l0 = some l0) := ⟨by unfold slices_Clone_int_int.f; rw [if_pos (by omega)]⟩
      clear hr2 h1 h8 h3
      go_enter Try.func26, Try.ntmps26
      go_wp2_with (first | ((with_reducible refine gate_dst (N := 2) rfl ?_); refine box_event ?hg (N := 2) ?hd (cs := #[.int .i64 0, .slice none 0 0]) (t := 44) ?hr ?_; (case hd => rfl); (case hg => rfl); (case hr => first | (go_simp; done) | (go_simp; rfl)); intro g2 hg w5 hbox hb; have n0_ := Aside0.mk (below_step (by repeat (first | (with_reducible first | exact HB.out | apply below_alloc | apply pw_below_drewN | apply below_drew1))) hb); have n1_ := Aside0.mk hbox; have n2_ := Aside0.mk (by rw [hg]; exact (below_size (by repeat (first | (with_reducible first | exact HB.out | apply below_alloc | apply pw_below_drewN | apply below_drew1)))) : w.heap.size ≤ g2); clear HB; have HB := n0_; have BK2 := n1_; have GE2 := n2_; clear n0_ n1_ n2_ hb hbox hg; have q0 := (blk_cell BK2.out 0).trans rfl; have q1 := (blk_cell BK2.out 1).trans rfl; have f0 := blk_frozen BK2.out 0; have f1 := blk_frozen BK2.out 1) | (go_at_call 32; (with_reducible refine (impl_IsList.calls k _ _ l0 true _ ?s1 HC0.out HG.out).mono ?_); (case s1 => exact Kd.C_below HR0.out (by repeat (first | (with_reducible first | exact HB.out | apply below_alloc | apply pw_below_drewN | apply below_drew1)))); rintro e w6 ⟨rfl, ⟨nd, rfl⟩⟩) | (go_at_call 60; (with_reducible refine (impl_refusingScores.calls _ _ l0 0 _ ?s1 HC0.out HI.out).mono ?_); (case s1 => exact Kd.C_below HR0.out (by repeat (first | (with_reducible first | exact HB.out | apply below_alloc | apply pw_below_drewN | apply below_drew1)))); rintro e w7 ⟨rfl, hb⟩; have n0_ := Aside0.mk (below_step (by repeat (first | (with_reducible first | exact HB.out | apply below_alloc | apply pw_below_drewN | apply below_drew1))) hb); have n1_ := Aside0.mk (blk_below (by (with_reducible repeat (first | refine blk_drewN ?_ _ | refine blk_drew ?_ | refine blk_alloc ?_ _)); exact BK2.out) hb); clear HB BK2 hb q0 q1 f0 f1; have HB := n0_; have BK2 := n1_; clear n0_ n1_; have q0 := (blk_cell BK2.out 0).trans rfl; have q1 := (blk_cell BK2.out 1).trans rfl; have f0 := blk_frozen BK2.out 0; have f1 := blk_frozen BK2.out 1) | (go_at_call 38; (with_reducible refine (impl_newTournament.calls (l0.length : Int) (l0.length : Int) (List.replicate l0.length 0) _ HNG.out).mono ?_); rintro e w8 ⟨vB, rfl, hs, hb⟩; obtain ⟨gB, cB, rfl, hrB, -⟩ := K.IRow.ofR (Kd.R_lower hs (below_size (by repeat (first | (with_reducible first | exact HB.out | apply below_alloc | apply pw_below_drewN | apply below_drew1))))) HP0.out; have n0_ := Aside0.mk (below_step (by repeat (first | (with_reducible first | exact HB.out | apply below_alloc | apply pw_below_drewN | apply below_drew1))) hb); have n1_ := Aside0.mk (blk_below (by (with_reducible repeat (first | refine blk_drewN ?_ _ | refine blk_drew ?_ | refine blk_alloc ?_ _)); exact BK2.out) hb); have n2_ := Aside0.mk hrB; clear HB BK2 hs hb hrB q0 q1 f0 f1; have HB := n0_; have BK2 := n1_; have RB := n2_; clear n0_ n1_ n2_) | (go_at_call 34; (with_reducible refine (slices_Clone_int_int.calls A0 c0 l0 l0 _ ?s2 HC0.out HCl.out).mono ?_); (case s2 => exact Kd.C_below HR0.out (by repeat (first | (with_reducible first | exact HB.out | apply below_alloc | apply pw_below_drewN | apply below_drew1)))); rintro e w9 ⟨vN, rfl, hs, hb⟩; obtain ⟨gN, cN, rfl, hrN, -⟩ := K.IRow.ofR (Kd.R_lower hs (below_size (by repeat (first | (with_reducible first | exact HB.out | apply below_alloc | apply pw_below_drewN | apply below_drew1))))) HP1.out; have hge := (K.IRow.ofR hs HP1.out); have n0_ := Aside0.mk (below_step (by repeat (first | (with_reducible first | exact HB.out | apply below_alloc | apply pw_below_drewN | apply below_drew1))) hb); have n1_ := Aside0.mk (blk_below (by (with_reducible repeat (first | refine blk_drewN ?_ _ | refine blk_drew ?_ | refine blk_alloc ?_ _)); exact BK2.out) hb); have n2_ := Aside0.mk (RB.out.keep (hb.block _ RB.out.lt)); have n3_ := Aside0.mk hrN; have n4_ : Aside0 (gB ≠ gN) := ⟨by obtain ⟨gq, cq, eq_, hq, -⟩ := hge; injection eq_ with eq_; injection eq_ with eq_; injection eq_ with eq_; have := hq.base; have := RB.out.lt; omega⟩; clear HB BK2 RB hs hb hrN hge; have HB := n0_; have BK2 := n1_; have RB := n2_; have RN := n3_; have NBN := n4_; clear n0_ n1_ n2_ n3_ n4_))
      have BGS := Aside0.mk (BT.start (n := l0.length) BK2.out RB.out RN.out NBN.out HB.out GE2.out)
      rw [List.length_replicate] at BGS
      go_loopg [6, 31] l0.length (fun kq v6 v31 w' => ∃ (i gO cO : Nat), v31 = .int .i64 (i : Int) ∧ v6 = .slice (some ⟨gO, 0, none⟩) (ints (List.range i)).length cO ∧ Aside0 (i + kq = l0.length) ∧ Aside0 (BT w w' l0.length g2 (w9.heap.size + 1) (w9.heap.size + 1 + 1) gB gN gO cB cN cO (List.replicate l0.length 0) l0 (ints (List.range i))))
      case atStart => exact ⟨0, _, _, rfl, rfl, ⟨by omega⟩, BGS⟩
      case round =>
        clear BGS HB BK2 RB RN
        obtain ⟨i, gO, cO, rfl, rfl, HI, HG⟩ := hrel
        cases gk with
        | zero =>
          have hi : i = l0.length := by have := HI.out; omega
          have c4 : decide ((i : Int) < (l0.length : Int)) = false := by simp; omega
          have c5 : decide (i < l0.length) = false := by simp; omega
          go_wp2
          have HN0 : Aside0 (K.Sets l0.length (List.replicate l0.length 0)) := ⟨⟨H18.out.1, H18.out.2, by simp, fun x hx => by rw [(List.mem_replicate.1 hx).2]; exact Nat.two_pow_pos _⟩⟩
          subst hi
          have HG0 := HG.out
          have e0 : List.replicate l0.length (0 : Int) = ints (List.replicate l0.length 0) := by simp [ints]
          rw [e0] at HG0
          have HOUT0 : OutB l0.length (btGo l0.length l0 (List.replicate l0.length 0) (List.range l0.length)) l0.length l0 (List.replicate l0.length 0) (List.range l0.length) := ⟨by simp, List.nodup_range, fun x hx => List.mem_range.1 hx, rfl, HN0.out, Nat.le_refl _, fun z hz => by have := H3.out z hz; omega, rfl⟩
          go_loopg [6] l0.length (fun kq v6 w' => ∃ (ns : List Nat) (nd : List Int) (left : List Nat), v6 = .slice (some ⟨gO, 0, none⟩) (ints left).length cO ∧ Aside0 (BT w w' l0.length g2 (w9.heap.size + 1) (w9.heap.size + 1 + 1) gB gN gO cB cN cO (ints ns) nd (ints left)) ∧ Aside0 (OutB l0.length (btGo l0.length l0 (List.replicate l0.length 0) (List.range l0.length)) kq nd ns left))
          case atStart => exact ⟨List.replicate l0.length 0, l0, List.range l0.length, rfl, ⟨HG0⟩, ⟨HOUT0⟩⟩
          case round =>
            clear HG HN0 HG0 e0 HOUT0
            obtain ⟨ns, nd, left, rfl, HG, HOUT⟩ := hrel
            cases gk with
            | zero =>
              have hl0 : left = [] := List.eq_nil_of_length_eq_zero HOUT.out.llen
              subst hl0
              have HNSQ : Aside0 (ns = btGo l0.length l0 (List.replicate l0.length 0) (List.range l0.length)) := ⟨HOUT.out.go⟩
              have q40 : wr.cell? ⟨w9.heap.size + 1, 0, none⟩ = some (.int .i64 (l0.length : Int)) := (blk_cell HG.out.b4 0).trans rfl
              have q41 : wr.cell? ⟨w9.heap.size + 1, 1, none⟩ = some (.slice (some ⟨gB, 0, none⟩) (ints ns).length cB) := (blk_cell HG.out.b4 1).trans rfl
              have q20 := (blk_cell HG.out.b2 0).trans rfl
              have q21 := (blk_cell HG.out.b2 1).trans rfl
              have f20 := blk_frozen HG.out.b2 0
              have f21 := blk_frozen HG.out.b2 1
              have hel : ((ints ([] : List Nat)).length) = 0 := rfl
              rw [hel]
              go_wp2
              refine bodyPost_ret (results_ct rfl _ _ g2 44 #[.int .i64 (l0.length : Int), .slice (some ⟨gB, 0, none⟩) (ints ns).length cB] (0, 0) _ rfl (by (with_reducible repeat (first | refine blk_drewN ?_ _ | refine blk_drew ?_ | refine blk_alloc ?_ _)); refine blk_put (cs := #[.int .i64 (l0.length : Int), .slice none 0 0]) ?_ 1 _ rfl; (with_reducible repeat (first | refine blk_drewN ?_ _ | refine blk_drew ?_ | refine blk_alloc ?_ _)); refine blk_put (cs := #[.int .i64 0, .slice none 0 0]) ?_ 0 _ rfl; (with_reducible repeat (first | refine blk_drewN ?_ _ | refine blk_drew ?_ | refine blk_alloc ?_ _)); exact HG.out.b2) Try.underlying44 rfl (by kernel_rfl)) rfl ?_
              have hneB := (HG.out.neBox HG.out.rB).1
              refine ⟨_, rfl, ?_, below_set (below_set HG.out.bel HG.out.ge2) HG.out.ge2⟩
              rw [← HR2.out, ← HNSQ.out]
              exact Kd.R_mono ((HG.out.rB.keep (K.set_heap (Ne.symm hneB))).keep (K.set_heap (Ne.symm hneB))).toR (fun _ _ => trivial)
            | succ d =>
              have hlp : 0 < left.length := by have := HOUT.out.llen; omega
              have hl8 : left.length ≤ 8 := by have := HOUT.out.llen; have := HOUT.out.kn; have := H18.out; omega
              have hne : left ≠ [] := fun e => by rw [e] at hlp; simp at hlp
              have HLP := Aside0.mk hlp
              have HL8 := Aside0.mk hl8
              have HNE := Aside0.mk hne
              clear hne
              obtain ⟨f0, hf0⟩ : ∃ f0, f0 = left.headD 0 := ⟨_, rfl⟩
              have HF0 := Aside0.mk hf0
              have qo0 : wr.cell? ⟨gO, 0, none⟩ = some (.int .i64 (f0 : Int)) := by
                have h1_ := HG.out.rO.at 0 (by rw [ints_length]; exact hlp)
                rw [hf0]
                cases left with
                | nil => simp at hlp
                | cons y l => exact h1_
              clear hf0
              rw [ints_length]
              have c10 : decide ((0 : Int) < (left.length : Int)) = true := by simp; omega
              have c11 : decide (0 < left.length) = true := by simp; omega
              have c12 : decide ((left.length : Int) > 0) = true := by simp; omega
              go_wp2_with (first | ((with_reducible refine gate_dst (N := 8) rfl ?_); refine box_event ?hg (N := 8) ?hd (cs := #[.int .i64 0]) (t := 3) ?hr ?_; (case hd => rfl); (case hg => rfl); (case hr => first | (go_simp; done) | (go_simp; rfl)); intro g8 hg w10 hbox hb; have n0_ := Aside0.mk (BT8.made HG.out hg hb hbox); clear HG hg hb hbox; have HG := n0_; clear n0_; have q8 := (blk_cell HG.out.b8 0).trans rfl; have f8 := blk_frozen HG.out.b8 0))
              have HG8 := Aside0.mk (HG.out.put8 (f0 : Int))
              go_loopg [47] left.length (fun kq v47 w' => ∃ q : Nat, v47 = .int .i64 (q : Int) ∧ Aside0 (q + kq = left.length) ∧ Aside0 (BT8 w w' l0.length g2 (w9.heap.size + 1) (w9.heap.size + 1 + 1) g8 gB gN gO cB cN cO (ints ns) nd (ints left) ((btUp nd left q : Nat) : Int)))
              case atStart => exact ⟨0, rfl, ⟨by omega⟩, ⟨by rw [btUp_zero, ← HF0.out]; exact HG8.out⟩⟩
              case round =>
                clear HG HG8
                obtain ⟨q, rfl, HQ, HG⟩ := hrel
                obtain ⟨fq, hfq⟩ : ∃ fq, fq = btUp nd left q := ⟨_, rfl⟩
                have hfn : fq < nd.length := by rw [hfq, HOUT.out.len]; exact HOUT.out.lt _ (btUp_mem nd left q HNE.out)
                have hn8 : nd.length ≤ 8 := by have := HOUT.out.len; have := H18.out; omega
                have q8 : wr.cell? ⟨g8, 0, none⟩ = some (.int .i64 (fq : Int)) := (blk_cell HG.out.b8 0).trans (by rw [hfq]; rfl)
                have f8 := blk_frozen HG.out.b8 0
                have q5 : wr.cell? ⟨w9.heap.size + 1 + 1, 0, none⟩ = some (.slice (some ⟨gN, 0, none⟩) nd.length cN) := (blk_cell HG.out.bt.b5 0).trans rfl
                have HFQ := Aside0.mk hfq
                clear hfq
                cases gk with
                | succ dd =>
                  have hq : q < left.length := by have := HQ.out; omega
                  obtain ⟨p, hp⟩ : ∃ p, p = left.getD q 0 := ⟨_, rfl⟩
                  have hpn : p < nd.length := by rw [hp, HOUT.out.len]; exact HOUT.out.lt _ (mem_getDT hq)
                  have qo : wr.cell? ⟨gO, q, none⟩ = some (.int .i64 (p : Int)) := by
                    have h1_ := HG.out.bt.rO.at q (by rw [ints_length]; exact hq)
                    have e_ : (ints left).getD q 0 = (p : Int) := by
                      rw [hp]
                      simp only [ints]
                      rw [List.getD_eq_getElem?_getD, List.getElem?_map, List.getElem?_eq_getElem hq, List.getD_eq_getElem?_getD, List.getElem?_eq_getElem hq]
                      rfl
                    rw [e_] at h1_
                    exact h1_
                  obtain ⟨a, ha⟩ : ∃ a, a = nd.getD p 0 := ⟨_, rfl⟩
                  obtain ⟨b, hb⟩ : ∃ b, b = nd.getD fq 0 := ⟨_, rfl⟩
                  have qn : wr.cell? ⟨gN, p, none⟩ = some (.int .i64 a) := by rw [ha]; exact HG.out.bt.rN.at p hpn
                  have qf : wr.cell? ⟨gN, fq, none⟩ = some (.int .i64 b) := by rw [hb]; exact HG.out.bt.rN.at fq hfn
                  have HP := Aside0.mk hp
                  have HA := Aside0.mk ha
                  have HB2 := Aside0.mk hb
                  have HQL := Aside0.mk hq
                  clear hp ha hb
                  have c20 : decide ((q : Int) < (left.length : Int)) = true := by simp; omega
                  have c21 : decide (q < left.length) = true := by simp; omega
                  have c22 : (q : Int) ≤ 1048575 := by omega
                  have c23 : decide ((p : Int) < (nd.length : Int)) = true := by simp; omega
                  have c24 : decide (p < nd.length) = true := by simp; omega
                  have c25 : (p : Int) ≤ 1048575 := by omega
                  have c26 : decide ((fq : Int) < (nd.length : Int)) = true := by simp; omega
                  have c27 : decide (fq < nd.length) = true := by simp; omega
                  have c28 : (fq : Int) ≤ 1048575 := by omega
                  by_cases hab : a > b
                  · have c29 : decide (a > b) = true := by simpa using hab
                    have HAB := Aside0.mk hab
                    clear hab
                    go_wp2
                    go_region_held3 (fun w' => w'.cell? ⟨w9.heap.size + 1 + 1, 0, none⟩ = some (.slice (some ⟨gN, 0, none⟩) nd.length cN) ∧ w'.cell? ⟨gN, p, none⟩ = some (.int .i64 a) ∧ w'.cell? ⟨g8, 0, none⟩ = some (.int .i64 (fq : Int)) ∧ w'.cell? ⟨gN, fq, none⟩ = some (.int .i64 b)) (go_keep) (fail)
                    go_wp2
                    go_roundg dd
                    case measure => omega
                    case rel => exact ⟨q + 1, by simp, ⟨by have := HQ.out; omega⟩, ⟨by rw [btUp_succ _ _ _ HQL.out, ← HFQ.out, ← HP.out, ← HA.out, ← HB2.out, if_pos (by have := HAB.out; omega)]; exact (HG.out.keep (pw_below_drewN (Below.refl _ _) _)).put8 _⟩⟩
                  · have c29 : decide (a > b) = false := by simpa using hab
                    have HAB := Aside0.mk hab
                    clear hab
                    go_wp2
                    go_region_held3 (fun w' => w'.cell? ⟨w9.heap.size + 1 + 1, 0, none⟩ = some (.slice (some ⟨gN, 0, none⟩) nd.length cN) ∧ w'.cell? ⟨gN, p, none⟩ = some (.int .i64 a) ∧ w'.cell? ⟨g8, 0, none⟩ = some (.int .i64 (fq : Int)) ∧ w'.cell? ⟨gN, fq, none⟩ = some (.int .i64 b)) (go_keep) (fail)
                    go_wp2
                    go_roundg dd
                    case measure => omega
                    case rel => exact ⟨q + 1, by simp, ⟨by have := HQ.out; omega⟩, ⟨by rw [btUp_succ _ _ _ HQL.out, ← HFQ.out, ← HP.out, ← HA.out, ← HB2.out, if_neg (by have := HAB.out; omega)]; rw [HFQ.out]; exact HG.out.keep (pw_below_drewN (Below.refl _ _) _)⟩⟩
                | zero =>
                  have hq : q = left.length := by have := HQ.out; omega
                  have hfb : fq = btFirst nd left := by rw [HFQ.out, hq, btUp_all]
                  have HF : Aside0 (fq = btFirst nd left) := ⟨hfb⟩
                  have HGQ := HG.out
                  rw [← HFQ.out] at HGQ
                  have HGF := Aside0.mk HGQ
                  clear HG HGQ hfb HFQ HQ
                  have HG := HGF
                  clear HGF
                  have hfl : fq ∈ left := by rw [HF.out, ← btUp_all]; exact btUp_mem nd left _ HNE.out
                  obtain ⟨m, hm⟩ : ∃ m, (left.filter (fun x => decide (x ≠ fq))).length = m := ⟨_, rfl⟩
                  have hm8 : m + 1 = left.length := by rw [← hm]; exact filter_len HOUT.out.nodup hfl
                  obtain ⟨M, hM⟩ : ∃ M, M = nd.getD fq 0 := ⟨_, rfl⟩
                  have HLT : Aside0 (∀ y ∈ left.filter (fun x => decide (x ≠ fq)), y < l0.length) := ⟨fun y hy => HOUT.out.lt y (List.mem_filter.1 hy).1⟩
                  have HND : Aside0 (left.filter (fun x => decide (x ≠ fq))).Nodup := ⟨HOUT.out.nodup.sublist List.filter_sublist⟩
                  have HNF : Aside0 (fq ∉ left.filter (fun x => decide (x ≠ fq))) := ⟨by simp⟩
                  have HOUT2 : Aside0 (∀ nd' ns', (nd', ns') = btIn fq M (btOrd nd (left.filter (fun x => decide (x ≠ fq)))) 0 nd ns → nd'.length = l0.length → K.Sets l0.length ns' → (∀ z ∈ nd', -((l0.length : Int) - (d + 1 : Nat)) - 1 ≤ z ∧ z ≤ 60) → OutB l0.length (btGo l0.length l0 (List.replicate l0.length 0) (List.range l0.length)) d nd' ns' (left.filter (fun x => decide (x ≠ fq)))) := ⟨fun nd' ns' hE hl hS hb => by
                    rw [hM] at hE
                    rw [HF.out] at hE ⊢
                    exact HOUT.out.next hE hl hS hb⟩
                  have HM := Aside0.mk hM
                  have HMM := Aside0.mk hm
                  have HMB : Aside0 (m ≤ 7) := ⟨by omega⟩
                  have HB1000 : Aside0 (∀ z ∈ nd, -1000 ≤ z ∧ z ≤ 1000) := ⟨fun z hz => by have := HOUT.out.bd z hz; have := HOUT.out.kn; have := H18.out; omega⟩
                  have HFN : Aside0 (fq < l0.length) := ⟨by rw [← HOUT.out.len]; exact hfn⟩
                  have c13 : decide ((q : Int) < (left.length : Int)) = false := by simp; omega
                  have c14 : decide (q < left.length) = false := by simp; omega
                  clear hfl hm hm8 hM
                  cases m with
                  | zero =>
                    go_wp2_with (first | (go_at_call 61; (with_reducible refine (btDel_m HG.out HLP.out HL8.out HMM.out).mono ?_); rintro e w11 ⟨rfl, hG2⟩; have n0_ := Aside0.mk hG2; clear HG hG2; have HG := n0_; clear n0_) | (go_at_call 34; (with_reducible refine (btClone_0 HG.out HMM.out).mono ?_); rintro e w12 ⟨A12, c12, rfl, hG2⟩; have n0_ := Aside0.mk hG2; clear HG hG2; have HG := n0_; clear n0_) | (go_at_call 47; (with_reducible refine (btSort0_c _ _ _ _).mono ?_); rintro e w13 ⟨rfl, rfl⟩))
                    go_loopg [72] 0 (fun kq v72 w' => v72 = .int .i64 0 ∧ Aside0 (BT8 w w' l0.length g2 (w9.heap.size + 1) (w9.heap.size + 1 + 1) g8 gB gN gO cB cN cO (ints ns) nd (ints (left.filter (fun x => decide (x ≠ fq)))) (fq : Int)))
                    case atStart => exact ⟨rfl, HG⟩
                    case round =>
                      clear HG
                      obtain ⟨rfl, HG⟩ := hrel
                      go_wp2
                      go_roundg d
                      case measure => omega
                      case rel =>
                        have hnil : left.filter (fun x => decide (x ≠ fq)) = [] := List.eq_nil_of_length_eq_zero HMM.out
                        refine ⟨ns, nd, left.filter (fun x => decide (x ≠ fq)), by rw [ints_length, HMM.out], ⟨HG.out.bt⟩, ⟨HOUT2.out nd ns ?_ HOUT.out.len HOUT.out.sets (fun z hz => by have := HOUT.out.bd z hz; omega)⟩⟩
                        have hpn := (btOrd_perm nd (left.filter (fun x => decide (x ≠ fq)))).length_eq
                        rw [HMM.out] at hpn
                        rw [List.eq_nil_of_length_eq_zero hpn]
                        rfl
                  | succ m =>
                    go_wp2_with (first | (go_at_call 61; (with_reducible refine (btDel_m HG.out HLP.out HL8.out HMM.out).mono ?_); rintro e w11 ⟨rfl, hG2⟩; have n0_ := Aside0.mk hG2; clear HG hG2; have HG := n0_; clear n0_) | (go_at_call 34; (with_reducible refine (btClone_m HG.out HMM.out (by have := HMB.out; omega)).mono ?_); rintro e w12 ⟨gP, cP, rfl, hG2⟩; have n0_ := Aside0.mk hG2; clear HG hG2; have HG := n0_; clear n0_) | (go_at_call 47; (with_reducible refine (btSort_m HG.out HOUT.out.len H18.out.2 HMM.out (by have := HMB.out; omega) HLT.out HB1000.out).mono ?_); rintro e w13 ⟨rfl, hG2⟩; have n0_ := Aside0.mk hG2; clear HG hG2; have HG := n0_; clear n0_))
                    have HOP := Aside0.mk (btOrd_perm nd (left.filter (fun x => decide (x ≠ fq))))
                    have HOL : Aside0 ((btOrd nd (left.filter (fun x => decide (x ≠ fq)))).length = m + 1) := ⟨by rw [HOP.out.length_eq, HMM.out]⟩
                    have HOT : Aside0 (∀ x ∈ btOrd nd (left.filter (fun x => decide (x ≠ fq))), x < l0.length) := ⟨fun x hx => HLT.out x (HOP.out.mem_iff.1 hx)⟩
                    have HI0 := Aside0.mk (InB.start (lo := -((l0.length : Int) - (d + 1 : Nat))) (f := fq) (M := M) HOUT.out.len HOUT.out.sets HOUT.out.bd HOT.out HM.out.symm)
                    go_loopg [72] (m + 1) (fun kq v72 w' => ∃ (q2 : Nat) (ns2 : List Nat) (nd2 : List Int), v72 = .int .i64 (q2 : Int) ∧ Aside0 (q2 + kq = m + 1) ∧ Aside0 (BTP w w' l0.length g2 (w9.heap.size + 1) (w9.heap.size + 1 + 1) g8 gB gN gO gP cB cN cO cP (ints ns2) nd2 (ints (left.filter (fun x => decide (x ≠ fq)))) (fq : Int) (ints (btOrd nd (left.filter (fun x => decide (x ≠ fq)))))) ∧ Aside0 (InB l0.length fq (-((l0.length : Int) - (d + 1 : Nat))) M (btOrd nd (left.filter (fun x => decide (x ≠ fq)))) (btIn fq M (btOrd nd (left.filter (fun x => decide (x ≠ fq)))) 0 nd ns) q2 nd2 ns2))
                    case atStart => exact ⟨0, ns, nd, rfl, ⟨by omega⟩, HG, HI0⟩
                    case round =>
                      clear HG HI0
                      obtain ⟨q2, ns2, nd2, rfl, HQ2, HG, HI⟩ := hrel
                      have hl2 := HI.out.len
                      have q5 : wr.cell? ⟨w9.heap.size + 1 + 1, 0, none⟩ = some (.slice (some ⟨gN, 0, none⟩) l0.length cN) := (blk_cell HG.out.b.bt.b5 0).trans (by rw [hl2]; rfl)
                      cases gk with
                      | zero =>
                        have hq2 : q2 = m + 1 := by have := HQ2.out; omega
                        have HE := Aside0.mk (HI.out.done (by rw [HOL.out]; exact hq2))
                        have c40 : decide ((q2 : Int) < ((m : Int) + 1)) = false := by simp; omega
                        have c41 : decide (q2 < m + 1) = false := by simp; omega
                        have c42 : decide ((q2 : Int) < ((m + 1 : Nat) : Int)) = false := by simp; omega
                        go_wp2
                        go_roundg d
                        case measure => omega
                        case rel =>
                          refine ⟨ns2, nd2, left.filter (fun x => decide (x ≠ fq)), by rw [ints_length, HMM.out], ⟨HG.out.b.bt⟩, ⟨HOUT2.out nd2 ns2 HE.out HI.out.len HI.out.sets HI.out.all⟩⟩
                      | succ dd =>
                        have hq2 : q2 < m + 1 := by have := HQ2.out; omega
                        obtain ⟨p2, hp2⟩ : ∃ p, p = (btOrd nd (left.filter (fun x => decide (x ≠ fq)))).getD q2 0 := ⟨_, rfl⟩
                        have hp2n : p2 < l0.length := by rw [hp2]; exact HOT.out _ (mem_getDT (by rw [HOL.out]; exact hq2))
                        have qo : wr.cell? ⟨gP, q2, none⟩ = some (.int .i64 (p2 : Int)) := by
                          have h1_ := HG.out.rP.at q2 (by rw [ints_length, HOL.out]; exact hq2)
                          have hq3 : q2 < (btOrd nd (left.filter (fun x => decide (x ≠ fq)))).length := by rw [HOL.out]; exact hq2
                          have e_ : (ints (btOrd nd (left.filter (fun x => decide (x ≠ fq))))).getD q2 0 = (p2 : Int) := by
                            rw [hp2]
                            simp only [ints]
                            rw [List.getD_eq_getElem?_getD, List.getElem?_map, List.getElem?_eq_getElem hq3, List.getD_eq_getElem?_getD, List.getElem?_eq_getElem hq3]
                            rfl
                          rw [e_] at h1_
                          exact h1_
                        have hfn2 : fq < l0.length := HFN.out
                        have hsl : (ints ns2).length = l0.length := by rw [ints_length, HI.out.sets.len]
                        have q40 : wr.cell? ⟨w9.heap.size + 1, 0, none⟩ = some (.int .i64 (l0.length : Int)) := (blk_cell HG.out.b.bt.b4 0).trans rfl
                        have q41 : wr.cell? ⟨w9.heap.size + 1, 1, none⟩ = some (.slice (some ⟨gB, 0, none⟩) l0.length cB) := (blk_cell HG.out.b.bt.b4 1).trans (by rw [hsl]; rfl)
                        have q8 : wr.cell? ⟨g8, 0, none⟩ = some (.int .i64 (fq : Int)) := (blk_cell HG.out.b.b8 0).trans rfl
                        have qf : wr.cell? ⟨gN, fq, none⟩ = some (.int .i64 M) := by
                          have h1_ := HG.out.b.bt.rN.at fq (by rw [hl2]; exact hfn2)
                          rw [HI.out.need] at h1_
                          exact h1_
                        have h8 := H18.out.2
                        have c40 : decide ((q2 : Int) < ((m : Int) + 1)) = true := by simp; omega
                        have c41 : decide (q2 < m + 1) = true := by simp; omega
                        have c42 : decide ((q2 : Int) < ((m + 1 : Nat) : Int)) = true := by simp; omega
                        have c43 : (q2 : Int) ≤ 1048575 := by have := HMB.out; omega
                        have c44 : decide ((p2 : Int) < (l0.length : Int)) = true := by simp; omega
                        have c45 : decide (p2 < l0.length) = true := by simp; omega
                        have c46 : (p2 : Int) ≤ 1048575 := by omega
                        have c47 : decide ((fq : Int) < (l0.length : Int)) = true := by simp; omega
                        have c48 : decide (fq < l0.length) = true := by simp; omega
                        have c49 : (fq : Int) ≤ 1048575 := by omega
                        have HP2 := Aside0.mk hp2
                        have HP2N := Aside0.mk hp2n
                        have HQL2 : Aside0 (q2 < (btOrd nd (left.filter (fun x => decide (x ≠ fq)))).length) := ⟨by rw [HOL.out]; exact hq2⟩
                        clear hp2 hsl h8
                        by_cases hw : (q2 : Int) < M
                        · have c50 : decide ((q2 : Int) < M) = true := by simpa using hw
                          have HW := Aside0.mk hw
                          clear hw
                          go_wp2_with (first | (go_at_call 36; (with_reducible refine (btBeat_c HG.out HI.out.sets fq p2 HFN.out HP2N.out).mono ?_); rintro e w14 ⟨rfl, hG2⟩; have n0_ := Aside0.mk hG2; clear HG hG2; have HG := n0_; clear n0_))
                          go_roundg dd
                          case measure => omega
                          case rel =>
                            refine ⟨q2 + 1, beatN ns2 fq p2, nd2, by simp, ⟨by have := HQ2.out; omega⟩, HG, ⟨?_⟩⟩
                            have h1_ := HI.out.win HQL2.out HOT.out HW.out
                            rw [← HP2.out] at h1_
                            exact h1_
                        · have c50 : decide ((q2 : Int) < M) = false := by simpa using hw
                          have HW := Aside0.mk hw
                          clear hw
                          obtain ⟨v, hv⟩ : ∃ v, v = nd2.getD p2 0 := ⟨_, rfl⟩
                          have hvb := HI.out.all _ (mem_getDI (l := nd2) (p := p2) (by rw [hl2]; exact hp2n))
                          rw [← hv] at hvb
                          have hwv : IntKind.i64.wrap (v - 1) = v - 1 := IntWalk.i64_in _ (by have := HOUT.out.kn; have := H18.out; omega)
                          have HV := Aside0.mk hv
                          clear hv hvb
                          go_wp2_with (first | (go_at_call 36; (with_reducible refine (btBeat_c HG.out HI.out.sets p2 fq HP2N.out HFN.out).mono ?_); rintro e w14 ⟨rfl, hG2⟩; have n0_ := Aside0.mk hG2; clear HG hG2; have HG := n0_; clear n0_; have q5 : w14.cell? ⟨w9.heap.size + 1 + 1, 0, none⟩ = some (.slice (some ⟨gN, 0, none⟩) l0.length cN) := (blk_cell HG.out.b.bt.b5 0).trans (by rw [hl2]; rfl); have qn : w14.cell? ⟨gN, p2, none⟩ = some (.int .i64 v) := (by rw [HV.out]; exact HG.out.b.bt.rN.at p2 (by rw [hl2]; exact hp2n)); have fn : w14.frozen? ⟨gN, p2, none⟩ = false := HG.out.b.bt.rN.free p2))
                          go_roundg dd
                          case measure => omega
                          case rel =>
                            refine ⟨q2 + 1, beatN ns2 p2 fq, nd2.set p2 (v - 1), by simp, ⟨by have := HQ2.out; omega⟩, ⟨HG.out.put p2 (by rw [hl2]; exact hp2n) (v - 1)⟩, ⟨?_⟩⟩
                            have h1_ := HI.out.lose ?_ ?_ HQL2.out HOT.out HFN.out (by have := HW.out; omega)
                            · rw [← HP2.out, ← HV.out] at h1_
                              exact h1_
                            · exact HOP.out.nodup_iff.2 HND.out
                            · exact fun hc => HNF.out (HOP.out.mem_iff.1 hc)
        | succ d =>
          have hl : i < l0.length := by have := HI.out; omega
          have c4 : decide ((i : Int) < (l0.length : Int)) = true := by simp; omega
          have c5 : decide (i < l0.length) = true := by simp; omega
          have c7 : (i : Int) ≤ 1048575 := by have := H18.out; omega
          have HIL := Aside0.mk hl
          go_wp2_with (first | ((with_reducible refine gate_builtin (b := .append) (xs := #[.tmp 34, .tmp 36]) rfl ?_); at_builtin; refine K.IRow.append (w := _) (base := w.heap.size) (g := gO) (cap := cO) (xs := ints (List.range i)) (HG.out.rO.keep ((below_alloc (Below.refl wr.heap.size wr) _).block _ HG.out.rO.lt)) rfl (.tmp 34) (.tmp 36) rfl rfl ⟨wr.heap.size, 0, none⟩ 1 (i : Int) rfl ?hc ?hl ?hb ?_; (case hc => first | (simp; done) | (simp; rfl)); (case hl => (have h1_ := H18.out; have h2_ := HIL.out; rw [ints_length, List.length_range]; omega)); (case hb => (have h1_ := HG.out.bel.size; rw [World.size_alloc]; omega)); intro g' cap' w10 hbr hg hat; have n0_ := Aside0.mk (BT.appended HG.out _ hg hbr hat); clear HG hbr hg hat; have HG := n0_; clear n0_))
          go_roundg d
          case measure => omega
          case rel =>
            have e : ints (List.range i) ++ [(i : Int)] = ints (List.range (i + 1)) := by rw [List.range_succ]; simp [ints]
            have HG2 := HG.out
            rw [e] at HG2
            exact ⟨i + 1, g', cap', by simp, by simp [ints_length], ⟨by have := HI.out; omega⟩, ⟨HG2⟩⟩
end Go.Proofs.Ytgfoeagphlkjkaa.P
