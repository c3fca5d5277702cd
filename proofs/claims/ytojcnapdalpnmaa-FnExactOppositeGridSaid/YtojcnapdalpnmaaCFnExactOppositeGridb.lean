/- The row of the law FnExactOppositeGrid: contracts and plain lemmas for the law FnExactOppositeGrid, part 2 of 2: what the Go functions that it reaches answer. No condition beyond those in each statement. -/
import Derived.Test.YtojcnapdalpnmaaWMore
import Derived.Test.YtojcnapdalpnmaaWWords
import Derived.ProofKit
import Derived.OpenShut
import Derived.Deep.Matrix
import Derived.Lib.SmallJoins
import Derived.Test.YtojcnapdalpnmaaRows
import Derived.WalkKit
import Derived.ShutString
import Derived.ChangeOld
import Derived.Below
import Derived.SizedLaws
import Derived.Test.YtojcnapdalpnmaaWSized
import Derived.Test.YtojcnapdalpnmaaCFnExactOppositeGrida
/- Walked by hand (printed by a program of mine): the law FnExactOppositeGrid: with what Good says of the functions that it calls, the call returns true. -/
namespace Go.Proofs.Ytojcnapdalpnmaa.P
open Go.RowKit Go.Proofs.YtojcnapdalpnmaaW.PrintWords Go.Proofs.YtojcnapdalpnmaaW.PrintLast Go.Proofs.YtojcnapdalpnmaaW.PrintMore
set_option linter.unusedVariables false
set_option linter.unusedSimpArgs false

set_option maxHeartbeats 2000000 in
set_option maxRecDepth 100000 in
theorem laws_FnExactOppositeGrid.calls (A0 : Option Addr) (c0 : Nat) (l0 : List (List Int)) (rr : Bool) (w : World) (hr0 : Kd.C (Kd.slice 3 (Kd.int .i64)) w A0 l0.length l0) (hc0 : l0.length ≤ c0) (h : laws_FnExactOppositeGrid.Good l0 rr) :
    Calls Try.prog 7 #[.slice A0 l0.length c0] w fun e w' => e = .returned (.bool rr) ∧ Below w.heap.size w w' := by
  obtain ⟨rfl, h⟩ := h
  have HR0 := Aside0.mk hr0
  have HC0 := Aside0.mk hc0
  have HB := Aside0.mk (Below.refl w.heap.size w)
  have HST : Aside0 (K.St w []) := ⟨trivial⟩
  clear hr0 hc0
  obtain ⟨n0, hsz0, h⟩ := h
  obtain ⟨k0_, hsz0⟩ := hsz0
  have HSZ0 := Aside0.mk hsz0
  clear hsz0
  rcases h with hneg | ⟨hpos0, h⟩
  · have b0 : decide (n0 < 0) = true := decide_eq_true hneg
    clear hneg
    go_enter Try.func7, Try.ntmps7
    go_wp2_with (first | (go_at_call 18; (with_reducible refine (laws_szIntSS.calls _ _ _ l0 _ _ _ ?c0 ?l0 HSZ0.out).mono ?_); (case c0 => first | exact Kd.C_below HR0.out (below_step HB.out (by repeat (first | (with_reducible first | exact Below.refl _ _ | apply below_alloc | apply pw_below_drewN | apply below_drew1)))) | exact K.St.readSS (HST.out.below (by repeat (first | (with_reducible first | exact Below.refl _ _ | apply below_alloc | apply pw_below_drewN | apply below_drew1)))) (by repeat (first | (with_reducible exact List.mem_cons_self) | apply List.mem_cons_of_mem))); (case l0 => first | exact HC0.out | exact K.St.sizeSS (HST.out.below (by repeat (first | (with_reducible first | exact Below.refl _ _ | apply below_alloc | apply pw_below_drewN | apply below_drew1)))) (by repeat (first | (with_reducible exact List.mem_cons_self) | apply List.mem_cons_of_mem))); rintro e w' ⟨rfl, ⟨nd, rfl⟩⟩))
    go_ret
    exact ⟨rfl, below_step HB.out (by repeat (first | (with_reducible first | exact Below.refl _ _ | apply below_alloc | apply pw_below_drewN | apply below_drew1)))⟩
  · have f0 : decide (n0 < 0) = false := decide_eq_false (by omega)
    clear hpos0
    obtain ⟨w0, w0', l0', wb, k0, m0, ⟨k_hto0, hto0⟩, ⟨k_hsp, hsp⟩, him, ⟨k_hew0, hew0⟩, ⟨k_hel0, hel0⟩, hmk0, hmm0, ⟨k_hh0, hh0⟩, hkk, hp0, hlw0⟩ := h
    have HTO0 := Aside0.mk hto0
    have HSP := Aside0.mk hsp
    have HIM := Aside0.mk him
    have HEW0 := Aside0.mk hew0
    have HEL0 := Aside0.mk hel0
    have HMK0 := Aside0.mk hmk0
    have HMM0 := Aside0.mk hmm0
    have HH0 := Aside0.mk hh0
    have HLEN0 := Aside0.mk hlw0
    have b1 : decide (k0 < 0) = false := decide_eq_false (by omega)
    have b2_0 : decide (m0 < 0) = false := decide_eq_false (by omega)
    have b3 : (m0 != m0) = false := bne_self_eq_false _
    have b4 : (wb != wb) = false := bne_self_eq_false wb
    clear hto0 hsp him hew0 hel0 hmk0 hmm0 hh0 hkk hp0 hlw0
    go_enter Try.func7, Try.ntmps7
    go_wp2_with (first | (go_at_call 18; (with_reducible refine (laws_szIntSS.calls _ _ _ l0 _ _ _ ?c0 ?l0 HSZ0.out).mono ?_); (case c0 => first | exact Kd.C_below HR0.out (below_step HB.out (by repeat (first | (with_reducible first | exact Below.refl _ _ | apply below_alloc | apply pw_below_drewN | apply below_drew1)))) | exact K.St.readSS (HST.out.below (by repeat (first | (with_reducible first | exact Below.refl _ _ | apply below_alloc | apply pw_below_drewN | apply below_drew1)))) (by repeat (first | (with_reducible exact List.mem_cons_self) | apply List.mem_cons_of_mem))); (case l0 => first | exact HC0.out | exact K.St.sizeSS (HST.out.below (by repeat (first | (with_reducible first | exact Below.refl _ _ | apply below_alloc | apply pw_below_drewN | apply below_drew1)))) (by repeat (first | (with_reducible exact List.mem_cons_self) | apply List.mem_cons_of_mem))); rintro e w' ⟨rfl, ⟨nd, rfl⟩⟩) | (go_at_call 20; (with_reducible refine (laws_toIntSS.calls _ _ _ l0 _ _ ?c0 ?l0 HTO0.out).mono ?_); (case c0 => first | exact Kd.C_below HR0.out (below_step HB.out (by repeat (first | (with_reducible first | exact Below.refl _ _ | apply below_alloc | apply pw_below_drewN | apply below_drew1)))) | exact K.St.readSS (HST.out.below (by repeat (first | (with_reducible first | exact Below.refl _ _ | apply below_alloc | apply pw_below_drewN | apply below_drew1)))) (by repeat (first | (with_reducible exact List.mem_cons_self) | apply List.mem_cons_of_mem))); (case l0 => first | exact HC0.out | exact K.St.sizeSS (HST.out.below (by repeat (first | (with_reducible first | exact Below.refl _ _ | apply below_alloc | apply pw_below_drewN | apply below_drew1)))) (by repeat (first | (with_reducible exact List.mem_cons_self) | apply List.mem_cons_of_mem))); rintro e w' ⟨v0, rfl, hs0, hb⟩; obtain ⟨A0_, c0_, rfl, -, -⟩ := Kd.S_reads hs0; obtain ⟨S1_, n0_⟩ := K.St.pushSS (b := w.heap.size) (HST.out.below (by repeat (first | (with_reducible first | exact Below.refl _ _ | apply below_alloc | apply pw_below_drewN | apply below_drew1)))) hb (below_size (below_step HB.out (by repeat (first | (with_reducible first | exact Below.refl _ _ | apply below_alloc | apply pw_below_drewN | apply below_drew1))))) hs0; replace n0_ := Aside0.mk n0_; have n1_ := Aside0.mk (below_step (below_step HB.out (by repeat (first | (with_reducible first | exact Below.refl _ _ | apply below_alloc | apply pw_below_drewN | apply below_drew1)))) hb); clear HST HB hs0 hb; have HST := n0_; have HB := n1_; clear n0_ n1_) | (go_at_call 31; (with_reducible refine (spec_OppositeGrid.calls _ _ _ l0 _ _ _ ?c0 ?l0 HSP.out).mono ?_); (case c0 => first | exact Kd.C_below HR0.out (below_step HB.out (by repeat (first | (with_reducible first | exact Below.refl _ _ | apply below_alloc | apply pw_below_drewN | apply below_drew1)))) | exact K.St.readSS (HST.out.below (by repeat (first | (with_reducible first | exact Below.refl _ _ | apply below_alloc | apply pw_below_drewN | apply below_drew1)))) (by repeat (first | (with_reducible exact List.mem_cons_self) | apply List.mem_cons_of_mem))); (case l0 => first | exact HC0.out | exact K.St.sizeSS (HST.out.below (by repeat (first | (with_reducible first | exact Below.refl _ _ | apply below_alloc | apply pw_below_drewN | apply below_drew1)))) (by repeat (first | (with_reducible exact List.mem_cons_self) | apply List.mem_cons_of_mem))); rintro e w' ⟨v0, rfl, hs0, hb⟩; obtain ⟨A0_, c0_, rfl, -, -⟩ := Kd.S_reads hs0; obtain ⟨S1_, n0_⟩ := K.St.pushSS (b := w.heap.size) (HST.out.below (by repeat (first | (with_reducible first | exact Below.refl _ _ | apply below_alloc | apply pw_below_drewN | apply below_drew1)))) hb (below_size (below_step HB.out (by repeat (first | (with_reducible first | exact Below.refl _ _ | apply below_alloc | apply pw_below_drewN | apply below_drew1))))) hs0; replace n0_ := Aside0.mk n0_; have n1_ := Aside0.mk (below_step (below_step HB.out (by repeat (first | (with_reducible first | exact Below.refl _ _ | apply below_alloc | apply pw_below_drewN | apply below_drew1)))) hb); clear HST HB hs0 hb; have HST := n0_; have HB := n1_; clear n0_ n1_) | (go_at_call 32; (with_reducible refine (impl_OppositeGrid.calls _ _ l0 _ _ _ ?c0 ?l0 HIM.out).mono ?_); (case c0 => first | exact Kd.C_below HR0.out (below_step HB.out (by repeat (first | (with_reducible first | exact Below.refl _ _ | apply below_alloc | apply pw_below_drewN | apply below_drew1)))) | exact K.St.readSS (HST.out.below (by repeat (first | (with_reducible first | exact Below.refl _ _ | apply below_alloc | apply pw_below_drewN | apply below_drew1)))) (by repeat (first | (with_reducible exact List.mem_cons_self) | apply List.mem_cons_of_mem))); (case l0 => first | exact HC0.out | exact K.St.sizeSS (HST.out.below (by repeat (first | (with_reducible first | exact Below.refl _ _ | apply below_alloc | apply pw_below_drewN | apply below_drew1)))) (by repeat (first | (with_reducible exact List.mem_cons_self) | apply List.mem_cons_of_mem))); rintro e w' ⟨v0, rfl, hs0, hb⟩; obtain ⟨A0_, c0_, rfl, -, -⟩ := Kd.S_reads hs0; obtain ⟨S1_, n0_⟩ := K.St.pushSS (b := w.heap.size) (HST.out.below (by repeat (first | (with_reducible first | exact Below.refl _ _ | apply below_alloc | apply pw_below_drewN | apply below_drew1)))) hb (below_size (below_step HB.out (by repeat (first | (with_reducible first | exact Below.refl _ _ | apply below_alloc | apply pw_below_drewN | apply below_drew1))))) hs0; replace n0_ := Aside0.mk n0_; have n1_ := Aside0.mk (below_step (below_step HB.out (by repeat (first | (with_reducible first | exact Below.refl _ _ | apply below_alloc | apply pw_below_drewN | apply below_drew1)))) hb); clear HST HB hs0 hb; have HST := n0_; have HB := n1_; clear n0_ n1_) | (go_at_call 22; (with_reducible refine (laws_eqIntSS.calls _ _ _ w0 _ _ w0 _ _ ?c0 ?l0 ?c1 ?l1 HEW0.out).mono ?_); (case c0 => first | exact Kd.C_below HR0.out (below_step HB.out (by repeat (first | (with_reducible first | exact Below.refl _ _ | apply below_alloc | apply pw_below_drewN | apply below_drew1)))) | exact K.St.readSS (HST.out.below (by repeat (first | (with_reducible first | exact Below.refl _ _ | apply below_alloc | apply pw_below_drewN | apply below_drew1)))) (by repeat (first | (with_reducible exact List.mem_cons_self) | apply List.mem_cons_of_mem))); (case l0 => first | exact HC0.out | exact K.St.sizeSS (HST.out.below (by repeat (first | (with_reducible first | exact Below.refl _ _ | apply below_alloc | apply pw_below_drewN | apply below_drew1)))) (by repeat (first | (with_reducible exact List.mem_cons_self) | apply List.mem_cons_of_mem))); (case c1 => first | exact Kd.C_below HR0.out (below_step HB.out (by repeat (first | (with_reducible first | exact Below.refl _ _ | apply below_alloc | apply pw_below_drewN | apply below_drew1)))) | exact K.St.readSS (HST.out.below (by repeat (first | (with_reducible first | exact Below.refl _ _ | apply below_alloc | apply pw_below_drewN | apply below_drew1)))) (by repeat (first | (with_reducible exact List.mem_cons_self) | apply List.mem_cons_of_mem))); (case l1 => first | exact HC0.out | exact K.St.sizeSS (HST.out.below (by repeat (first | (with_reducible first | exact Below.refl _ _ | apply below_alloc | apply pw_below_drewN | apply below_drew1)))) (by repeat (first | (with_reducible exact List.mem_cons_self) | apply List.mem_cons_of_mem))); rintro e w' ⟨rfl, ⟨nd, rfl⟩⟩) | (go_at_call 22; (with_reducible refine (laws_eqIntSS.calls _ _ _ l0 _ _ l0 _ _ ?c0 ?l0 ?c1 ?l1 HEL0.out).mono ?_); (case c0 => first | exact Kd.C_below HR0.out (below_step HB.out (by repeat (first | (with_reducible first | exact Below.refl _ _ | apply below_alloc | apply pw_below_drewN | apply below_drew1)))) | exact K.St.readSS (HST.out.below (by repeat (first | (with_reducible first | exact Below.refl _ _ | apply below_alloc | apply pw_below_drewN | apply below_drew1)))) (by repeat (first | (with_reducible exact List.mem_cons_self) | apply List.mem_cons_of_mem))); (case l0 => first | exact HC0.out | exact K.St.sizeSS (HST.out.below (by repeat (first | (with_reducible first | exact Below.refl _ _ | apply below_alloc | apply pw_below_drewN | apply below_drew1)))) (by repeat (first | (with_reducible exact List.mem_cons_self) | apply List.mem_cons_of_mem))); (case c1 => first | exact Kd.C_below HR0.out (below_step HB.out (by repeat (first | (with_reducible first | exact Below.refl _ _ | apply below_alloc | apply pw_below_drewN | apply below_drew1)))) | exact K.St.readSS (HST.out.below (by repeat (first | (with_reducible first | exact Below.refl _ _ | apply below_alloc | apply pw_below_drewN | apply below_drew1)))) (by repeat (first | (with_reducible exact List.mem_cons_self) | apply List.mem_cons_of_mem))); (case l1 => first | exact HC0.out | exact K.St.sizeSS (HST.out.below (by repeat (first | (with_reducible first | exact Below.refl _ _ | apply below_alloc | apply pw_below_drewN | apply below_drew1)))) (by repeat (first | (with_reducible exact List.mem_cons_self) | apply List.mem_cons_of_mem))); rintro e w' ⟨rfl, ⟨nd, rfl⟩⟩) | (go_at_call 29; (with_reducible refine (laws_markIntSS.calls _ _ l0 _ _ _ w _ (below_step HB.out (by repeat (first | (with_reducible first | exact Below.refl _ _ | apply below_alloc | apply pw_below_drewN | apply below_drew1)))) (K.St.getSS (HST.out.below (by repeat (first | (with_reducible first | exact Below.refl _ _ | apply below_alloc | apply pw_below_drewN | apply below_drew1)))) (List.mem_cons_of_mem _ (List.mem_cons_of_mem _ List.mem_cons_self))) HMK0.out).mono ?_); rintro e w' ⟨rfl, hs, hb, hk⟩; have n0_ := (K.St.putSS [_, _] (HST.out.below (by repeat (first | (with_reducible first | exact Below.refl _ _ | apply below_alloc | apply pw_below_drewN | apply below_drew1)))) hk hs); simp only [List.cons_append, List.nil_append] at n0_; replace n0_ := Aside0.mk n0_; have n1_ := Aside0.mk hb; clear HST HB hs hb hk; have HST := n0_; have HB := n1_; clear n0_ n1_) | (go_at_call 29; (with_reducible refine (laws_markIntSS.calls _ _ w0 _ _ _ w _ (below_step HB.out (by repeat (first | (with_reducible first | exact Below.refl _ _ | apply below_alloc | apply pw_below_drewN | apply below_drew1)))) (K.St.getSS (HST.out.below (by repeat (first | (with_reducible first | exact Below.refl _ _ | apply below_alloc | apply pw_below_drewN | apply below_drew1)))) (List.mem_cons_of_mem _ List.mem_cons_self)) HMM0.out).mono ?_); rintro e w' ⟨rfl, hs, hb, hk⟩; have n0_ := (K.St.putSS [_] (HST.out.below (by repeat (first | (with_reducible first | exact Below.refl _ _ | apply below_alloc | apply pw_below_drewN | apply below_drew1)))) hk hs); simp only [List.cons_append, List.nil_append] at n0_; replace n0_ := Aside0.mk n0_; have n1_ := Aside0.mk hb; clear HST HB hs hb hk; have HST := n0_; have HB := n1_; clear n0_ n1_) | (go_at_call 30; (with_reducible refine (K.heldNIntSS _ _ _ w0.length w0' _ _ _ ?c0 ?l0 HH0.out HLEN0.out.symm).mono ?_); (case c0 => first | exact Kd.C_below HR0.out (below_step HB.out (by repeat (first | (with_reducible first | exact Below.refl _ _ | apply below_alloc | apply pw_below_drewN | apply below_drew1)))) | exact K.St.readSS (HST.out.below (by repeat (first | (with_reducible first | exact Below.refl _ _ | apply below_alloc | apply pw_below_drewN | apply below_drew1)))) (by repeat (first | (with_reducible exact List.mem_cons_self) | apply List.mem_cons_of_mem))); (case l0 => first | exact HC0.out | exact K.St.sizeSS (HST.out.below (by repeat (first | (with_reducible first | exact Below.refl _ _ | apply below_alloc | apply pw_below_drewN | apply below_drew1)))) (by repeat (first | (with_reducible exact List.mem_cons_self) | apply List.mem_cons_of_mem))); rintro e w' ⟨rfl, ⟨nd, rfl⟩⟩))
    go_ret
    exact ⟨rfl, below_step HB.out (by repeat (first | (with_reducible first | exact Below.refl _ _ | apply below_alloc | apply pw_below_drewN | apply below_drew1)))⟩

end Go.Proofs.Ytojcnapdalpnmaa.P

namespace Go.Proofs.Ytojcnapdalpnmaa.K
open Go.RowKit Go.Proofs.YtojcnapdalpnmaaW.PrintWords
set_option linter.unusedVariables false
/-- A loop over indices that carries a state with an invariant; what goes on behind it answers for it. -/
theorem contLoopI {σ α : Type} (g : σ → Nat → Nat → Option α) (n : Nat) (I : σ → Nat → Prop)
    (hs : ∀ s j, j < n → I s j → ∃ s', I s' (j + 1) ∧ ∀ x, Ev (g s' (j + 1)) x → Ev (g s j) x) : ∀ d s j, j + d = n → I s j → ∃ s', I s' n ∧ ∀ x, Ev (g s' n) x → Ev (g s j) x := by
  intro d
  induction d with
  | zero =>
    intro s j hj hi
    obtain rfl : j = n := by omega
    exact ⟨s, hi, fun x h => h⟩
  | succ d ih =>
    intro s j hj hi
    obtain ⟨s1, h1, h2⟩ := hs s j (by omega) hi
    obtain ⟨s2, h3, h4⟩ := ih _ _ (by omega) h1
    exact ⟨s2, h3, fun x h => h2 x (h4 x h)⟩

end Go.Proofs.Ytojcnapdalpnmaa.K

namespace Go.Proofs.Ytojcnapdalpnmaa.K
open Go.RowKit Go.Proofs.YtojcnapdalpnmaaW.PrintWords Go.Proofs.Ytojcnapdalpnmaa.P
set_option linter.unusedVariables false
set_option linter.unusedSimpArgs false
theorem mapRow_length (g : Int → Int → Int → Int) (i : Nat) : ∀ (l : List Int) (j : Nat), (mapRow g i j l).length = l.length
  | [], _ => rfl
  | _ :: l, j => by simp [mapRow, mapRow_length g i l (j + 1)]
theorem mapRows_length (g : Int → Int → Int → Int) : ∀ (l : List (List Int)) (i : Nat), (mapRows g i l).length = l.length
  | [], _ => rfl
  | _ :: l, i => by simp [mapRows, mapRows_length g l (i + 1)]
theorem mapRows_mem (g : Int → Int → Int → Int) : ∀ (l : List (List Int)) (i : Nat) (r : List Int), r ∈ mapRows g i l → ∃ r0 ∈ l, r.length = r0.length
  | [], _, _, h => by cases h
  | x :: l, i, r, h => by
    rcases List.mem_cons.1 h with rfl | h
    · exact ⟨x, by simp, mapRow_length ..⟩
    · obtain ⟨r0, h1, h2⟩ := mapRows_mem g l (i + 1) r h
      exact ⟨r0, by simp [h1], h2⟩
theorem mapRow_map (f : Int → Int) (i : Nat) : ∀ (l : List Int) (j : Nat), mapRow (fun _ _ n => f n) i j l = l.map f
  | [], _ => rfl
  | _ :: l, j => by simp [mapRow, mapRow_map f i l (j + 1)]
theorem mapRows_map (f : Int → Int) : ∀ (l : List (List Int)) (i : Nat), mapRows (fun _ _ n => f n) i l = l.map (List.map f)
  | [], _ => rfl
  | _ :: l, i => by simp [mapRows, mapRow_map, mapRows_map f l (i + 1)]
theorem opp_l1 (f : Nat → Nat) (l : List (List Int)) (x14 x15 : Int) (x4 : List (List Int)) (h4 : x4.length < 5864062014805) (y : List (List Int) × Bool) : ∀ (rest done x7 : List Int), (done ++ rest).length ≤ 1048576 → x7.length = done.length →
    Ev (fun k => spec_OppositeGrid.l0 k (x4 ++ [x7 ++ rest.map fun n => wrap64 (1 - n)]) l x14 (wrap64 (x15 + 1))) y →
    Ev (fun k => spec_OppositeGrid.l1 k x4 x7 l x14 x15 (done ++ rest) ((done ++ rest).length : Int) (done.length : Int)) y := by
  intro rest
  induction rest with
  | nil =>
    intro done x7 h hx hy
    refine Ev.step (fun k => by rw [spec_OppositeGrid.l1]) ?_
    simp only [List.append_nil, List.map_nil] at hy ⊢
    simp only [if_neg (show ¬ (done.length : Int) < (done.length : Int) by omega), if_pos h4]
    exact hy
  | cons x rest ih =>
    intro done x7 h hx hy
    obtain ⟨q1, q2, q3, q4, q5⟩ := mid x done rest (by simp only [BM]; omega)
    have ih' := ih (done ++ [x]) (x7 ++ [wrap64 (1 - x)]) (by rw [q5]; exact h) (by simp [hx]) (by simpa using hy)
    rw [q5] at ih'
    have hl : x7.length < 17592186044416 := by simp at h; omega
    refine Ev.step (fun k => by rw [spec_OppositeGrid.l1]) ?_
    simp only [if_pos q1, if_pos q2, q3, q4, if_pos hl]
    exact ih'
theorem opp_l0 : ∀ (rest done x4 : List (List Int)), (done ++ rest).length ≤ 1048576 → (∀ r ∈ rest, r.length ≤ 1048576) → x4.length = done.length →
    Ev (fun k => spec_OppositeGrid.l0 k x4 (done ++ rest) ((done ++ rest).length : Int) (done.length : Int)) (x4 ++ rest.map (List.map fun n => wrap64 (1 - n)), true) := by
  intro rest
  induction rest with
  | nil => intro done x4 h _ _; exact Ev.step (fun k => by simp [spec_OppositeGrid.l0]; rfl) (Ev.some (by simp))
  | cons r rest ih =>
    intro done x4 h hr hx
    obtain ⟨q1, q2, q3, q4, q5⟩ := midL r done rest (by unfold maxLen; omega)
    have ih' := ih (done ++ [r]) (x4 ++ [r.map fun n => wrap64 (1 - n)]) (by rw [q5]; exact h) (fun y hy => hr y (by simp [hy])) (by simp [hx])
    rw [q5] at ih'
    refine Ev.step (fun k => by rw [spec_OppositeGrid.l0]) ?_
    simp only [if_pos q1, if_pos q2, q3]
    refine opp_l1 id _ _ _ x4 (by simp at h; omega) _ r [] [] (hr r (by simp)) rfl ?_
    rw [q4]
    refine Ev.pair ih' (by simp)
theorem OppositeGrid_ans (l0 : List (List Int)) (h0 : l0.length ≤ 1048576 ∧ ∀ r ∈ l0, r.length ≤ 1048576) :
    ∃ (w0 : List (List Int)) (wb : Bool), Ev (fun k => spec_OppositeGrid.f k l0) (w0, wb) ∧ impl_OppositeGrid.f l0 = some (w0, wb) ∧ w0.length ≤ 1048576 ∧ ∀ r ∈ w0, r.length ≤ 1048576 := by
  have h4 : l0.length ≤ BM := by have := h0.1; simp only [BM]; omega
  have h5 : ∀ r ∈ l0, r.length ≤ BM := fun x hx => by have := h0.2 x hx; simp only [BM]; omega
  unfold impl_OppositeGrid.f
  rw [if_pos h0]
  by_cases hg : gridB l0 = true
  · rw [if_pos hg]
    refine ⟨_, _, ?_, rfl, by rw [mapRows_length]; exact h0.1, fun r hr => ?_⟩
    · unfold spec_OppositeGrid.f
      refine Ev.bind (maGrid_f l0 h4 h5) ?_
      simp only [if_pos hg]
      refine Ev.pair (opp_l0 l0 [] [] h0.1 h0.2 rfl) ?_
      rw [mapRows_map (fun n => wrap64 (1 - n))]; rfl
    · obtain ⟨r0, h1, h2⟩ := mapRows_mem _ _ _ r hr
      have := h0.2 r0 h1; omega
  · rw [if_neg hg]
    refine ⟨_, _, ?_, rfl, by simp, by simp⟩
    unfold spec_OppositeGrid.f
    refine Ev.bind (maGrid_f l0 h4 h5) ?_
    simp only [if_neg hg]
    exact Ev.now _

end Go.Proofs.Ytojcnapdalpnmaa.K

namespace Go.Proofs.Ytojcnapdalpnmaa.K
open Go.RowKit Go.Proofs.YtojcnapdalpnmaaW.PrintWords Go.Proofs.Ytojcnapdalpnmaa.P
set_option linter.unusedVariables false
set_option linter.unusedSimpArgs false

theorem seqOf_from (a : Int) (n : Nat) : seqOf a n = seqFrom a n := by
  induction n generalizing a with
  | zero => rfl
  | succ n ih => simp [seqOf, seqFrom, ih]
theorem seqRows_length (a : Int) (l : List (List Int)) : (seqRows a l).2.length = l.length := by
  induction l generalizing a with
  | nil => rfl
  | cons r l ih => simp [seqRows, ih]
theorem seqRows_le (a : Int) (l : List (List Int)) : a ≤ (seqRows a l).1 := by
  induction l generalizing a with
  | nil => simp [seqRows]
  | cons r l ih => have := ih (a + r.length); simp only [seqRows]; omega
theorem markSS_f (l : List (List Int)) (h : l.length ≤ 1048576) (hr : ∀ r ∈ l, r.length ≤ 1048576) : laws_markIntSS.f l 1 = some (seqRows 1 l) := by
  unfold laws_markIntSS.f
  rw [if_pos ⟨by omega, by omega, h, hr⟩]
theorem markSS_f' (l : List (List Int)) (a : Int) (h0 : 0 ≤ a) (h1 : a ≤ 1048576) (h : l.length ≤ 1048576) (hr : ∀ r ∈ l, r.length ≤ 1048576) : laws_markIntSS.f l a = some (seqRows a l) := by
  unfold laws_markIntSS.f
  rw [if_pos ⟨h0, h1, h, hr⟩]
theorem heldSS_l0 : ∀ (rest : List (List Int)) (done : List (List Int)) (b : Int), (done ++ (seqRows b rest).2).length ≤ 1048576 → (∀ r ∈ rest, r.length ≤ 1048576) → 0 ≤ b → b ≤ 1048576 + 1048576 * done.length → Ev (fun k => laws_heldIntSS.l0 k (done ++ (seqRows b rest).2) b done.length) (seqRows b rest).1 := by
  intro rest
  induction rest with
  | nil => intro done b h _ _ _; exact Ev.step (fun k => by simp [laws_heldIntSS.l0, seqRows]; rfl) (Ev.some (by simp [seqRows]))
  | cons x rest ih =>
    intro done b h hr h0 hb
    simp only [seqRows] at h ⊢
    have hx := hr x (by simp)
    have hlen : (done ++ seqOf b x.length :: (seqRows (b + x.length) rest).2).length = done.length + 1 + rest.length := by simp [seqRows_length]; omega
    have ih' := ih (done ++ [seqOf b x.length]) (b + x.length) (by simpa using h) (fun r h => hr r (by simp [h])) (by omega) (by rw [List.length_append, List.length_singleton]; omega)
    have h1 : (done.length : Int) < ((done ++ seqOf b x.length :: (seqRows (b + x.length) rest).2).length : Int) := by omega
    have h2 : 0 ≤ (done.length : Int) := by omega
    have h3 : rd_L1 (done ++ seqOf b x.length :: (seqRows (b + x.length) rest).2) (done.length : Int) = seqOf b x.length := by simp [rd_L1]
    have h4 : wrap64 ((done.length : Int) + 1) = ((done ++ [seqOf b x.length]).length : Int) := by rw [wrap_nat _ (by omega)]; simp
    refine Ev.step (fun k => by rw [laws_heldIntSS.l0]) ?_
    simp only [if_pos h1, if_pos h2, h3, h4]
    have hd : Ev (fun k => laws_heldIntS.f k (seqOf b x.length) b) (b + x.length) := by rw [seqOf_from]; exact heldIntS_f b x.length (by simp only [BM]; omega) h0 (by omega)
    refine Ev.bind hd ?_
    have h5 : ¬ (b + (x.length : Int) < 0) := by omega
    simp only [if_neg h5]
    simpa using ih'
theorem heldSS_f (l : List (List Int)) (h : l.length ≤ 1048576) (hr : ∀ r ∈ l, r.length ≤ 1048576) : Ev (fun k => laws_heldIntSS.f k (seqRows 1 l).2 1) (seqRows 1 l).1 := by
  unfold laws_heldIntSS.f
  exact heldSS_l0 l [] 1 (by simpa [seqRows_length] using h) hr (by omega) (by simp)

end Go.Proofs.Ytojcnapdalpnmaa.K

/- The law FnExactOppositeGrid: the program's OppositeGrid answers as the reference's, for all arguments (no condition); what the walk asks of the functions that it calls. -/
namespace Go.Proofs.Ytojcnapdalpnmaa.Pure
open Go.RowKit Go.Proofs.YtojcnapdalpnmaaW.PrintWords Go.Proofs.Ytojcnapdalpnmaa.P Go.Proofs.Ytojcnapdalpnmaa.K
set_option linter.unusedVariables false
set_option linter.unusedSimpArgs false
set_option maxRecDepth 10000 in
theorem FnExactOppositeGrid : ∀ (l0 : List (List Int)), l0.length ≤ maxLen → (∀ r ∈ l0, r.length ≤ maxLen ∧ ∀ n ∈ r, (Lit.int .i64 n).wf = true) → laws_FnExactOppositeGrid.Good l0 true := by
  intro l0 hm0 hw0
  refine ⟨rfl, ?_⟩
  obtain ⟨n0, hs0, hle0, hb0⟩ := szIntSS_f l0 1048576 hm0 (fun r h => (hw0 r h).1) (by omega) (by omega)
  refine ⟨n0, Ev.rounds hs0, ?_⟩
  by_cases hn0 : n0 < 0
  · exact Or.inl hn0
  refine Or.inr ⟨by omega, ?_⟩
  obtain ⟨b1_0, b2_0⟩ := hb0 (by omega)
  have B0 : l0.length ≤ 1048576 ∧ ∀ r ∈ l0, r.length ≤ 1048576 := ⟨by omega, fun x hx => by have := b2_0 x hx; omega⟩
  obtain ⟨w0, wb, hsp, him, W0⟩ := OppositeGrid_ans l0 B0
  have le0 := seqRows_le 1 l0
  have lw0 := seqRows_le 1 w0
  exact ⟨w0, (seqRows 1 w0).2, (seqRows 1 l0).2, wb, (seqRows 1 l0).1, (seqRows 1 w0).1, Ev.rounds (toIntSS_f l0 B0.1 (fun r hr => by have := B0.2 r hr; simp only [BM]; omega)), Ev.rounds (hsp), him, Ev.rounds (eqIntSS_same w0 (by have := W0.1; simp only [BM]; omega) (fun r hr => by have := W0.2 r hr; simp only [BM]; omega)), Ev.rounds (eqIntSS_same l0 (by have := B0.1; simp only [BM]; omega) (fun r hr => by have := B0.2 r hr; simp only [BM]; omega)), markSS_f' l0 1 (by omega) (by omega) B0.1 B0.2, markSS_f' w0 1 (by omega) (by omega) W0.1 W0.2, Ev.rounds (heldSS_f w0 W0.1 W0.2), by omega, by omega, seqRows_length _ _⟩

end Go.Proofs.Ytojcnapdalpnmaa.Pure

namespace Go.Proofs.Ytojcnapdalpnmaa.K
open Go.RowKit Go.ChangeShapes Go.WideShapes Go.ChangeAt Go.Deep Go.Proofs.YtojcnapdalpnmaaW.PrintWords
set_option linter.unusedVariables false
set_option linter.unusedSimpArgs false
section
variable {H : Type} {enc : TypeId × Value → H} {P : Program} {w : World}

/-- A row of whole numbers among the arguments. -/
theorem open_row {t e : TypeId} {fuel : Nat} {cs : List Value} {x : DataW H × List MemPlace} (ht : P.underlying t = some (.slice e)) (he : P.underlying e = some (.int .i64)) (hc : P.cellsOf e = 1)
    (h : DataW.trod enc P w 0 (fun _ => true) true fuel t cs = some x) :
    ∃ (A : Option Addr) (c : Nat) (l : List Int), cs = [.slice A l.length c] ∧ l.length ≤ c ∧ l.length ≤ maxLen ∧ (∀ n ∈ l, (Lit.int .i64 n).wf = true) ∧ Kd.C (Kd.int .i64) w A l.length l := by
  rcases open_ints ht he hc h with ⟨rfl, _⟩ | ⟨a, l, c, zs, rfl, _, hl, hm, hz, _, hcell, hwz⟩
  · exact ⟨none, 0, [], rfl, Nat.le_refl _, by simp [maxLen], by simp, Kd.C_nil _ _⟩
  · obtain ⟨l0, rfl, hr0, hm0, hw0, hc0⟩ := ReadsInt.ofRowC (k := .i64) (w := w) (a := some a) (len := l) (cap := c) (zs := zs) (.inr ⟨a, rfl, hl, hm, by simpa using hz, hcell, hwz⟩)
    exact ⟨some a, c, l0, rfl, hc0, hm0, hw0, Kd.C_of_reads (d := (0 : Int)) (h1 := fun _ => rfl) hr0⟩
/-- A slice of rows of whole numbers among the arguments. -/
theorem open_rows {t e q : TypeId} {fuel : Nat} {cs : List Value} {x : DataW H × List MemPlace} (ht : P.underlying t = some (.slice e)) (he : P.underlying e = some (.slice q)) (hq : P.underlying q = some (.int .i64))
    (ce : P.cellsOf e = 1) (cq : P.cellsOf q = 1) (h : DataW.trod enc P w 0 (fun _ => true) true fuel t cs = some x) :
    ∃ (A : Option Addr) (c : Nat) (l : List (List Int)), cs = [.slice A l.length c] ∧ l.length ≤ c ∧ l.length ≤ maxLen ∧ (∀ r ∈ l, r.length ≤ maxLen ∧ ∀ n ∈ r, (Lit.int .i64 n).wf = true) ∧ Kd.C (Kd.slice q (Kd.int .i64)) w A l.length l := by
  rcases open_int_rows ht he hq ce cq h with ⟨rfl, _⟩ | ⟨a, len, cap, A, L, C, Z, rfl, _, hl, hm, _, hr⟩
  · exact ⟨none, 0, [], rfl, Nat.le_refl _, by simp [maxLen], by simp, Kd.C_nil _ _⟩
  · have hrow : ∀ r, r < cap → ∃ l0 : List Int, L r = l0.length ∧ l0.length ≤ C r ∧ l0.length ≤ maxLen ∧ (∀ n ∈ l0, (Lit.int .i64 n).wf = true) ∧ Kd.C (Kd.int .i64) w (A r) l0.length l0 := by
      intro r hrc
      obtain ⟨h1, h2, h3, h4, h5, h6, h7⟩ := hr r hrc
      cases hA : A r with
      | none =>
        have hC := h6 hA
        exact ⟨[], by simp; omega, by simp, by simp [maxLen], by simp, Kd.C_nil _ _⟩
      | some a' =>
        obtain ⟨_, h8⟩ := h7 a' hA
        obtain ⟨l0, e0, hr0, hm0, hw0, hc0⟩ := ReadsInt.ofRowC (k := .i64) (w := w) (a := some a') (len := L r) (cap := C r) (zs := Z r) (.inr ⟨a', rfl, h2, h3, h4, fun i hi => h8 i (by omega), h5⟩)
        exact ⟨l0, e0, hc0, hm0, hw0, Kd.C_of_reads (d := (0 : Int)) (h1 := fun _ => rfl) hr0⟩
    let F : Nat → List Int := fun r => if h : r < cap then Classical.choose (hrow r h) else []
    have hF : ∀ r, r < cap → L r = (F r).length ∧ (F r).length ≤ C r ∧ (F r).length ≤ maxLen ∧ (∀ n ∈ F r, (Lit.int .i64 n).wf = true) ∧ Kd.C (Kd.int .i64) w (A r) (F r).length (F r) := by
      intro r h
      have := Classical.choose_spec (hrow r h)
      simpa [F, h] using this
    refine ⟨some a, cap, (List.range len).map F, by simp, by simpa using hl, by simp; omega, ?_, ?_⟩
    · intro r hmem
      obtain ⟨i, hi, rfl⟩ := List.mem_map.1 hmem
      have := hF i (by have := List.mem_range.1 hi; omega)
      exact ⟨this.2.2.1, this.2.2.2.1⟩
    · refine ⟨by simp, by simp; unfold maxLen at hm; omega, fun _ => ⟨a, rfl, ?_⟩⟩
      intro j p hp
      obtain ⟨hj, rfl⟩ : j < len ∧ F j = p := by
        rw [List.getElem?_map] at hp
        by_cases hj : j < len
        · rw [List.getElem?_range hj] at hp; simpa [hj] using hp
        · rw [List.getElem?_eq_none (by simp; omega)] at hp; simp at hp
      obtain ⟨f1, f2, f3, f4, f5⟩ := hF j (by omega)
      obtain ⟨h1, _⟩ := hr j (by omega)
      refine ⟨[.slice (A j) (F j).length (C j)], rfl, ⟨A j, C j, rfl, f2, f5⟩, ?_⟩
      intro i u hu
      cases i with
      | zero =>
        obtain rfl : Value.slice (A j) (F j).length (C j) = u := by simpa using hu
        rw [f1] at h1
        show w.cell? (a.add (j * 1 + 0)) = _
        rw [Nat.mul_one, Nat.add_zero]; exact h1
      | succ i => simp at hu
end
end Go.Proofs.Ytojcnapdalpnmaa.K

/- The row of the law FnExactOppositeGrid: for every input the call returns true, and the arguments read as before; out of the law's pure statement and the walk. No condition. -/
namespace Go.Proofs.Ytojcnapdalpnmaa.fnExactOppositeGrid
open Go.ChangeShapes Go.WideShapes Go.ChangeAt Go.RowKit
open Go.ChangeMaps (open_string shut_string)
set_option linter.unusedVariables false
set_option linter.unusedSimpArgs false
theorem own : ownKnob Try.prog.godebug = none := by kernel_rfl
theorem laidOut : laidOutB Try.prog = true := by kernel_rfl
set_option maxRecDepth 100000 in
theorem lifted (os : Os) (started : os.Started) (H : Type) (enc : TypeId × Value → H) :
    ReturnsInHanded {} Try.checked os 7 .any (Rows.fnExactOppositeGridSpec.pre6 enc Try.prog Try.f7 Rows.fnExactOppositeGridRow.domain false) (Rows.fnExactOppositeGridSpec.post enc Try.prog Try.f7 false true false false) := by
  refine returnsInHanded_of_change_sized (C := Try.checked) own started (by kernel_rfl) Try.func7
    (ChangeSpec.witness6 (enc := enc) (C := Try.checked) false ⟨#[], #[.slice none 0 0], []⟩ 8 (by kernel_rfl) (by kernel_rfl) (by kernel_rfl) (by kernel_rfl)) ?_
  intro W base args ds gs before hval0 hW hcnd hsz0 _
  have hsz : (DataW.weightsEach Try.prog (Try.f7.params.toList ++ Rows.fnExactOppositeGridSpec.plain.varTypes Try.prog) (ds ++ gs)).all (· ≤ reachBytes) = true := hsz0
  have hval : ∀ (j : Nat) t v, Try.f7.params[j]? = some t → args[j]? = some v → Value.okWide Try.prog W .any base t v := hval0
  have hW' := hW
  obtain ⟨p, q, hA0, hV, rfl, hfz, hnd⟩ := hW
  have hA : DataW.TrodAll enc Try.prog W 0 (fun _ => true) true Try.f7.params.toList args.toList ds p := hA0
  rw [Try.params7] at hA hval hsz
  obtain ⟨v0, vs0, d0, ds0, p0, q0, hargs, rfl, rfl, h0, r0⟩ := trodAll_cons hA
  obtain ⟨rfl, rfl, rfl⟩ := trodAll_nil r0
  obtain rfl : args = #[v0] := by cases args; simp_all
  obtain ⟨rfl, rfl⟩ := trodVars_none hV
  obtain ⟨a0, len0, cap0, rfl⟩ := okWide_slice Try.underlying22 (hval 0 22 v0 rfl rfl)
  have k0 := h0
  have lt0 : ∀ x ∈ p0, x.block < W.heap.size := by obtain ⟨m, hm⟩ := k0; exact DataW.trod_lt m _ _ _ hm
  obtain ⟨fuel0, hf0⟩ := h0
  obtain ⟨A0, c0, l0, hcs0, hc0, hm0, hw0, hr0⟩ := K.open_rows Try.underlying22 Try.underlying33 Try.underlying3 (by kernel_rfl) (by kernel_rfl) hf0
  simp only [Value.cells, List.cons.injEq, and_true, Value.slice.injEq] at hcs0
  obtain ⟨rfl, rfl, rfl⟩ := hcs0
  clear hA0 hval0 hsz0 hsz
  have hk := Pure.FnExactOppositeGrid l0 hm0 hw0
  refine (P.laws_FnExactOppositeGrid.calls _ _ l0 true W hr0 hc0 hk).mono fun e W' ⟨he, bel⟩ => ?_
  subst he
  exact ⟨_, rfl, _, _, _, [], _, [], hW', trodAll_mk1 (shut_bool Try.underlying4 _), (trodAll_cons_mk (Below.trod laidOut (by kernel_rfl) (of_decide_eq_true (by kernel_rfl)) k0 bel lt0) trodAll_mk0), rfl, bel.frame _, fun h => by cases h⟩
set_option maxHeartbeats 4000000 in
theorem joined : joinedFacts Try.prog 7 Try.f7 Rows.fnExactOppositeGridSpec Rows.fnExactOppositeGridRow = true := by
  unfold joinedFacts
  repeat' (with_reducible refine (Bool.and_eq_true _ _).mpr ⟨?_, ?_⟩)
  all_goals first
    | (with_reducible exact Head.mayEnter)
    | ((with_reducible rw [Head.lifts]); rfl)
    | ((with_reducible rw [Head.make]); rfl)
    | (as_aux_lemma => kernel_rfl)
theorem over : Rows.fnExactOppositeGridRow.holds Try.pinned (OpenSpec.ofChange Rows.fnExactOppositeGridSpec) :=
  OpenClaim.holds_of_wide 7 Try.f7 rfl rfl rfl rfl rfl rfl rfl ⟨rfl, rfl, rfl, rfl, rfl⟩ rfl rfl rfl rfl rfl (by kernel_rfl) Try.func7 joined
    (of_decide_eq_true (by kernel_rfl)) (by unfold Func.isWrapper; first | (rw [if_pos (by decide +kernel)]; kernel_rfl) | (rw [if_neg (by decide +kernel)]; exact ⟨rfl, rfl⟩))
    (fun os started H enc _ => lifted os started H enc)
theorem proved : Rows.FnExactOppositeGridSaid := over
#print axioms proved
end Go.Proofs.Ytojcnapdalpnmaa.fnExactOppositeGrid
namespace Go.Proofs.Ytojcnapdalpnmaa
/-- The row, under a short name, for the claim. -/
theorem fnExactOppositeGrid_holds : Rows.FnExactOppositeGridSaid := fnExactOppositeGrid.proved
end Go.Proofs.Ytojcnapdalpnmaa
