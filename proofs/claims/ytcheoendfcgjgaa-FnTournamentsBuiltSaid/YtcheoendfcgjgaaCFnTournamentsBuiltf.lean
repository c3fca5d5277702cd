/- Parts: contracts and plain lemmas for the law FnTournamentsBuilt, part 6 of 7 (what the Go functions answer). -/
import Derived.Test.YtcheoendfcgjgaaCFnTournamentsBuilta
import Derived.Test.YtcheoendfcgjgaaCFnTournamentsBuiltb
import Derived.Test.YtcheoendfcgjgaaCFnTournamentsBuiltc
import Derived.Test.YtcheoendfcgjgaaCFnTournamentsBuiltd
import Derived.Test.YtcheoendfcgjgaaCFnTournamentsBuilte
set_option linter.unusedVariables false
set_option linter.unusedSimpArgs false
namespace Go.Proofs.Ytcheoendfcgjgaa.P
open Go.RowKit Go.Proofs.YtcheoendfcgjgaaW.PrintWords Go.Proofs.YtcheoendfcgjgaaW.PrintLast Go.Proofs.YtcheoendfcgjgaaW.PrintMore Go.Proofs.Ytcheoendfcgjgaa.K
open Go Go.Sort Go.Shelf
attribute [local go_sem ↓] Go.wp_at_zero Go.wp_at_succ
set_option maxHeartbeats 800000 in
set_option maxRecDepth 100000 in
theorem impl_BuildTournament.calls (k : Nat) (A0 : Option Addr) (c0 : Nat) (l0 : List Int) (r1 : Int) (r2 : List Int) (r3 : Bool) (w : World) (hr0 : Kd.C (Kd.int .i64) w A0 l0.length l0) (hc0 : l0.length ≤ c0) (h : impl_BuildTournament.f k l0 = some (r1, r2, r3)) :
  Calls Try.prog 7 #[.slice A0 l0.length c0] w fun e w' => ∃ v1_ : Value, e = .returned (.tuple #[.agg #[.int .i64 r1, v1_], .bool r3]) ∧ Kd.R (Kd.int .i64) 3 w' w.heap.size (fun _ => True) v1_ r2 ∧ Below w.heap.size w w' := by
 have HR0 := Am hr0
 have HC0 := Am hc0
 have HB := Am (Below.refl w.heap.size w)
 clear hr0 hc0
 unfold impl_BuildTournament.f at h
 obtain ⟨b, hg, h⟩ := Option.bind_eq_some_iff.mp h
 have HG := Am hg
 clear hg
 cases b with
 | false =>
  simp only [Bool.false_eq_true, if_false, Option.some.injEq, Prod.mk.injEq] at h
  obtain ⟨rfl, rfl, rfl⟩ := h
  go_enter Try.func7, Try.ntmps7
  go_wp2_with (first | ((with_reducible refine gate_dst (N := 2) rfl ?_); refine box_event ?hg (N := 2) ?hd (cs := #[.int .i64 0, .slice none 0 0]) (t := 27) ?hr ?_; (case hd => rfl); (case hg => rfl); (case hr => first | (go_simp; done) | (go_simp; rfl)); intro g2 hg w5 hbox hb; have n0_ := Am (below_step (by repeat (first | (with_reducible first | exact HB.out | apply Ba | apply Bn | apply Bd))) hb); have n1_ := Am hbox; have n2_ := Am (by rw [hg]; exact (below_size (by repeat (first | (with_reducible first | exact HB.out | apply Ba | apply Bn | apply Bd)))) : w.heap.size ≤ g2); clear HB; have HB := n0_; have BK2 := n1_; have GE2 := n2_; clear n0_ n1_ n2_ hb hbox hg; have q0 := (Kc BK2.out 0).trans rfl; have q1 := (Kc BK2.out 1).trans rfl; have f0 := Kf BK2.out 0; have f1 := Kf BK2.out 1) | (go_at_call 15; (with_reducible refine (impl_IsList.calls k _ _ l0 false _ ?s1 HC0.out HG.out).mono ?_); (case s1 => exact Kd.C_below HR0.out (by repeat (first | (with_reducible first | exact HB.out | apply Ba | apply Bn | apply Bd)))); rintro e w6 ⟨rfl, ⟨nd, rfl⟩⟩))
  refine bodyPost_ret (results_ct rfl _ _ g2 27 #[.int .i64 0, .slice none 0 0] (0, 0) _ rfl (by (with_reducible repeat (first | refine Kn ?_ _ | refine Ke ?_ | refine Ka ?_ _)); refine blk_put (cs := #[.int .i64 0, .slice none 0 0]) ?_ 1 _ rfl; (with_reducible repeat (first | refine Kn ?_ _ | refine Ke ?_ | refine Ka ?_ _)); refine blk_put (cs := #[.int .i64 0, .slice none 0 0]) ?_ 0 _ rfl; (with_reducible repeat (first | refine Kn ?_ _ | refine Ke ?_ | refine Ka ?_ _)); exact BK2.out) Try.underlying27 rfl (by kernel_rfl)) rfl ?_
  exact ⟨_, rfl, Kd.R_nil _ _ _ _ _, (by repeat (first | (with_reducible first | exact HB.out | apply Ba | apply Bn | apply Bd | refine Bs ?_ GE2.out) | exact HB.out))⟩
 | true =>
  simp only [if_true] at h
  obtain ⟨rf, hi, h⟩ := Option.bind_eq_some_iff.mp h
  have HI := Am hi
  clear hi
  by_cases hrf : rf = 0
  rotate_left
  ·
   rw [if_neg hrf] at h
   have crf : decide (rf = 0) = false := by simpa using hrf
   simp only [Option.some.injEq, Prod.mk.injEq] at h
   obtain ⟨rfl, rfl, rfl⟩ := h
   go_enter Try.func7, Try.ntmps7
   go_wp2_with (first | ((with_reducible refine gate_dst (N := 2) rfl ?_); refine box_event ?hg (N := 2) ?hd (cs := #[.int .i64 0, .slice none 0 0]) (t := 27) ?hr ?_; (case hd => rfl); (case hg => rfl); (case hr => first | (go_simp; done) | (go_simp; rfl)); intro g2 hg w5 hbox hb; have n0_ := Am (below_step (by repeat (first | (with_reducible first | exact HB.out | apply Ba | apply Bn | apply Bd))) hb); have n1_ := Am hbox; have n2_ := Am (by rw [hg]; exact (below_size (by repeat (first | (with_reducible first | exact HB.out | apply Ba | apply Bn | apply Bd)))) : w.heap.size ≤ g2); clear HB; have HB := n0_; have BK2 := n1_; have GE2 := n2_; clear n0_ n1_ n2_ hb hbox hg; have q0 := (Kc BK2.out 0).trans rfl; have q1 := (Kc BK2.out 1).trans rfl; have f0 := Kf BK2.out 0; have f1 := Kf BK2.out 1) | (go_at_call 15; (with_reducible refine (impl_IsList.calls k _ _ l0 true _ ?s1 HC0.out HG.out).mono ?_); (case s1 => exact Kd.C_below HR0.out (by repeat (first | (with_reducible first | exact HB.out | apply Ba | apply Bn | apply Bd)))); rintro e w6 ⟨rfl, ⟨nd, rfl⟩⟩) | (go_at_call 29; (with_reducible refine (impl_refusingScores.calls _ _ l0 rf _ ?s1 HC0.out HI.out).mono ?_); (case s1 => exact Kd.C_below HR0.out (by repeat (first | (with_reducible first | exact HB.out | apply Ba | apply Bn | apply Bd)))); rintro e w7 ⟨rfl, hb⟩; have n0_ := Am (below_step (by repeat (first | (with_reducible first | exact HB.out | apply Ba | apply Bn | apply Bd))) hb); have n1_ := Am (blk_below (by (with_reducible repeat (first | refine Kn ?_ _ | refine Ke ?_ | refine Ka ?_ _)); exact BK2.out) hb); clear HB BK2 hb q0 q1 f0 f1; have HB := n0_; have BK2 := n1_; clear n0_ n1_; have q0 := (Kc BK2.out 0).trans rfl; have q1 := (Kc BK2.out 1).trans rfl; have f0 := Kf BK2.out 0; have f1 := Kf BK2.out 1))
   refine bodyPost_ret (results_ct rfl _ _ g2 27 #[.int .i64 0, .slice none 0 0] (0, 0) _ rfl (by (with_reducible repeat (first | refine Kn ?_ _ | refine Ke ?_ | refine Ka ?_ _)); refine blk_put (cs := #[.int .i64 0, .slice none 0 0]) ?_ 1 _ rfl; (with_reducible repeat (first | refine Kn ?_ _ | refine Ke ?_ | refine Ka ?_ _)); refine blk_put (cs := #[.int .i64 0, .slice none 0 0]) ?_ 0 _ rfl; (with_reducible repeat (first | refine Kn ?_ _ | refine Ke ?_ | refine Ka ?_ _)); exact BK2.out) Try.underlying27 rfl (by kernel_rfl)) rfl ?_
   exact ⟨_, rfl, Kd.R_nil _ _ _ _ _, (by repeat (first | (with_reducible first | exact HB.out | apply Ba | apply Bn | apply Bd | refine Bs ?_ GE2.out) | exact HB.out))⟩
  ·
   subst hrf
   rw [if_pos rfl] at h
   split at h
   case isFalse => cases h
   rename_i hb
   obtain ⟨h1, h8, h3⟩ := hb
   simp only [Option.some.injEq, Prod.mk.injEq] at h
   obtain ⟨rfl, hr2, rfl⟩ := h
   have HR2 := Am hr2
   have H18 : Aside0 (1 ≤ l0.length ∧ l0.length ≤ 8) := ⟨⟨h1, h8⟩⟩
   have H3 := Am h3
   have HP0 : Aside0 (0 < (List.replicate l0.length (0 : Int)).length) := ⟨by simp; omega⟩
   have HP1 : Aside0 (0 < l0.length) := ⟨by omega⟩
   have HNG : Aside0 (impl_newTournament.f (l0.length : Int) = some ((l0.length : Int), List.replicate l0.length 0)) := ⟨by unfold impl_newTournament.f; rw [if_pos (by omega), if_pos (by omega), Int.toNat_natCast]⟩
   have HCl : Aside0 (slices_Clone_int_int.f l0 = some l0) := ⟨by unfold slices_Clone_int_int.f; rw [if_pos (by omega)]⟩
   clear hr2 h1 h8 h3
   go_enter Try.func7, Try.ntmps7
   go_wp2_with (first | ((with_reducible refine gate_dst (N := 2) rfl ?_); refine box_event ?hg (N := 2) ?hd (cs := #[.int .i64 0, .slice none 0 0]) (t := 27) ?hr ?_; (case hd => rfl); (case hg => rfl); (case hr => first | (go_simp; done) | (go_simp; rfl)); intro g2 hg w5 hbox hb; have n0_ := Am (below_step (by repeat (first | (with_reducible first | exact HB.out | apply Ba | apply Bn | apply Bd))) hb); have n1_ := Am hbox; have n2_ := Am (by rw [hg]; exact (below_size (by repeat (first | (with_reducible first | exact HB.out | apply Ba | apply Bn | apply Bd)))) : w.heap.size ≤ g2); clear HB; have HB := n0_; have BK2 := n1_; have GE2 := n2_; clear n0_ n1_ n2_ hb hbox hg; have q0 := (Kc BK2.out 0).trans rfl; have q1 := (Kc BK2.out 1).trans rfl; have f0 := Kf BK2.out 0; have f1 := Kf BK2.out 1) | (go_at_call 15; (with_reducible refine (impl_IsList.calls k _ _ l0 true _ ?s1 HC0.out HG.out).mono ?_); (case s1 => exact Kd.C_below HR0.out (by repeat (first | (with_reducible first | exact HB.out | apply Ba | apply Bn | apply Bd)))); rintro e w6 ⟨rfl, ⟨nd, rfl⟩⟩) | (go_at_call 29; (with_reducible refine (impl_refusingScores.calls _ _ l0 0 _ ?s1 HC0.out HI.out).mono ?_); (case s1 => exact Kd.C_below HR0.out (by repeat (first | (with_reducible first | exact HB.out | apply Ba | apply Bn | apply Bd)))); rintro e w7 ⟨rfl, hb⟩; have n0_ := Am (below_step (by repeat (first | (with_reducible first | exact HB.out | apply Ba | apply Bn | apply Bd))) hb); have n1_ := Am (blk_below (by (with_reducible repeat (first | refine Kn ?_ _ | refine Ke ?_ | refine Ka ?_ _)); exact BK2.out) hb); clear HB BK2 hb q0 q1 f0 f1; have HB := n0_; have BK2 := n1_; clear n0_ n1_; have q0 := (Kc BK2.out 0).trans rfl; have q1 := (Kc BK2.out 1).trans rfl; have f0 := Kf BK2.out 0; have f1 := Kf BK2.out 1) | (go_at_call 30; (with_reducible refine (impl_newTournament.calls (l0.length : Int) (l0.length : Int) (List.replicate l0.length 0) _ HNG.out).mono ?_); rintro e w8 ⟨vB, rfl, hs, hb⟩; obtain ⟨gB, cB, rfl, hrB, -⟩ := K.IRow.ofR (Kd.R_lower hs (below_size (by repeat (first | (with_reducible first | exact HB.out | apply Ba | apply Bn | apply Bd))))) HP0.out; have n0_ := Am (below_step (by repeat (first | (with_reducible first | exact HB.out | apply Ba | apply Bn | apply Bd))) hb); have n1_ := Am (blk_below (by (with_reducible repeat (first | refine Kn ?_ _ | refine Ke ?_ | refine Ka ?_ _)); exact BK2.out) hb); have n2_ := Am hrB; clear HB BK2 hs hb hrB q0 q1 f0 f1; have HB := n0_; have BK2 := n1_; have RB := n2_; clear n0_ n1_ n2_) | (go_at_call 31; (with_reducible refine (slices_Clone_int_int.calls A0 c0 l0 l0 _ ?s2 HC0.out HCl.out).mono ?_); (case s2 => exact Kd.C_below HR0.out (by repeat (first | (with_reducible first | exact HB.out | apply Ba | apply Bn | apply Bd)))); rintro e w9 ⟨vN, rfl, hs, hb⟩; obtain ⟨gN, cN, rfl, hrN, -⟩ := K.IRow.ofR (Kd.R_lower hs (below_size (by repeat (first | (with_reducible first | exact HB.out | apply Ba | apply Bn | apply Bd))))) HP1.out; have hge := (K.IRow.ofR hs HP1.out); have n0_ := Am (below_step (by repeat (first | (with_reducible first | exact HB.out | apply Ba | apply Bn | apply Bd))) hb); have n1_ := Am (blk_below (by (with_reducible repeat (first | refine Kn ?_ _ | refine Ke ?_ | refine Ka ?_ _)); exact BK2.out) hb); have n2_ := Am (RB.out.keep (hb.block _ RB.out.lt)); have n3_ := Am hrN; have n4_ : Aside0 (gB ≠ gN) := ⟨by obtain ⟨gq, cq, eq_, hq, -⟩ := hge; injection eq_ with eq_; injection eq_ with eq_; injection eq_ with eq_; have := hq.base; have := RB.out.lt; omega⟩; clear HB BK2 RB hs hb hrN hge; have HB := n0_; have BK2 := n1_; have RB := n2_; have RN := n3_; have NBN := n4_; clear n0_ n1_ n2_ n3_ n4_))
   have BGS := Am (BT.start (n := l0.length) BK2.out RB.out RN.out NBN.out HB.out GE2.out)
   rw [List.length_replicate] at BGS
   go_loopg [6, 31] l0.length (fun kq v6 v31 w' => ∃ (i gO cO : Nat), v31 = .int .i64 (i : Int) ∧ v6 = .slice (some ⟨gO, 0, none⟩) (ints (List.range i)).length cO ∧ Aside0 (i + kq = l0.length) ∧ Aside0 (BT w w' l0.length g2 (w9.heap.size + 1) (w9.heap.size + 1 + 1) gB gN gO cB cN cO (List.replicate l0.length 0) l0 (ints (List.range i))))
   case atStart => exact ⟨0, _, _, rfl, rfl, ⟨by omega⟩, BGS⟩
   case round =>
    clear BGS HB BK2 RB RN
    obtain ⟨i, gO, cO, rfl, rfl, HI, HG⟩ := hrel
    cases gk with
    | zero =>
     have hi : i = l0.length := by have := HI.out; omega
     have c4 : decide ((i : Int) < (l0.length : Int)) = false := by simp; omega
     have c5 : decide (i < l0.length) = false := by simp; omega
     go_wp2
     have HN0 : Aside0 (K.Sets l0.length (List.replicate l0.length 0)) := ⟨⟨H18.out.1, H18.out.2, by simp, fun x hx => by rw [(List.mem_replicate.1 hx).2]; exact Nat.two_pow_pos _⟩⟩
     subst hi
     have HG0 := HG.out
     have e0 : List.replicate l0.length (0 : Int) = ints (List.replicate l0.length 0) := by simp [ints]
     rw [e0] at HG0
     have HOUT0 : OutB l0.length (btGo l0.length l0 (List.replicate l0.length 0) (List.range l0.length)) l0.length l0 (List.replicate l0.length 0) (List.range l0.length) := ⟨by simp, List.nodup_range, fun x hx => List.mem_range.1 hx, rfl, HN0.out, Nat.le_refl _, fun z hz => by have := H3.out z hz; omega, rfl⟩
     go_loopg [6] l0.length (fun kq v6 w' => ∃ (ns : List Nat) (nd : List Int) (left : List Nat), v6 = .slice (some ⟨gO, 0, none⟩) (ints left).length cO ∧ Aside0 (BT w w' l0.length g2 (w9.heap.size + 1) (w9.heap.size + 1 + 1) gB gN gO cB cN cO (ints ns) nd (ints left)) ∧ Aside0 (OutB l0.length (btGo l0.length l0 (List.replicate l0.length 0) (List.range l0.length)) kq nd ns left))
     case atStart => exact ⟨List.replicate l0.length 0, l0, List.range l0.length, rfl, ⟨HG0⟩, ⟨HOUT0⟩⟩
     case round =>
      clear HG HN0 HG0 e0 HOUT0
      obtain ⟨ns, nd, left, rfl, HG, HOUT⟩ := hrel
      cases gk with
      | zero =>
       have hl0 : left = [] := List.eq_nil_of_length_eq_zero HOUT.out.llen
       subst hl0
       have HNSQ : Aside0 (ns = btGo l0.length l0 (List.replicate l0.length 0) (List.range l0.length)) := ⟨HOUT.out.go⟩
       have q40 : wr.cell? ⟨w9.heap.size + 1, 0, none⟩ = some (.int .i64 (l0.length : Int)) := (Kc HG.out.b4 0).trans rfl
       have q41 : wr.cell? ⟨w9.heap.size + 1, 1, none⟩ = some (.slice (some ⟨gB, 0, none⟩) (ints ns).length cB) := (Kc HG.out.b4 1).trans rfl
       have q20 := (Kc HG.out.b2 0).trans rfl
       have q21 := (Kc HG.out.b2 1).trans rfl
       have f20 := Kf HG.out.b2 0
       have f21 := Kf HG.out.b2 1
       have hel : ((ints ([] : List Nat)).length) = 0 := rfl
       rw [hel]
       go_wp2
       refine bodyPost_ret (results_ct rfl _ _ g2 27 #[.int .i64 (l0.length : Int), .slice (some ⟨gB, 0, none⟩) (ints ns).length cB] (0, 0) _ rfl (by (with_reducible repeat (first | refine Kn ?_ _ | refine Ke ?_ | refine Ka ?_ _)); refine blk_put (cs := #[.int .i64 (l0.length : Int), .slice none 0 0]) ?_ 1 _ rfl; (with_reducible repeat (first | refine Kn ?_ _ | refine Ke ?_ | refine Ka ?_ _)); refine blk_put (cs := #[.int .i64 0, .slice none 0 0]) ?_ 0 _ rfl; (with_reducible repeat (first | refine Kn ?_ _ | refine Ke ?_ | refine Ka ?_ _)); exact HG.out.b2) Try.underlying27 rfl (by kernel_rfl)) rfl ?_
       have hneB := (HG.out.neBox HG.out.rB).1
       refine ⟨_, rfl, ?_, Bs (Bs HG.out.bel HG.out.ge2) HG.out.ge2⟩
       rw [← HR2.out, ← HNSQ.out]
       exact Kd.R_mono ((HG.out.rB.keep (K.set_heap (Ne.symm hneB))).keep (K.set_heap (Ne.symm hneB))).toR (fun _ _ => trivial)
      | succ d =>
       have hlp : 0 < left.length := by have := HOUT.out.llen; omega
       have hl8 : left.length ≤ 8 := by have := HOUT.out.llen; have := HOUT.out.kn; have := H18.out; omega
       have hne : left ≠ [] := fun e => by rw [e] at hlp; simp at hlp
       have HLP := Am hlp
       have HL8 := Am hl8
       have HNE := Am hne
       clear hne
       obtain ⟨f0, hf0⟩ : ∃ f0, f0 = left.headD 0 := ⟨_, rfl⟩
       have HF0 := Am hf0
       have qo0 : wr.cell? ⟨gO, 0, none⟩ = some (.int .i64 (f0 : Int)) := by
        have h1_ := HG.out.rO.at 0 (by rw [ints_length]; exact hlp)
        rw [hf0]
        cases left with
        | nil => simp at hlp
        | cons y l => exact h1_
       clear hf0
       rw [ints_length]
       have c10 : decide ((0 : Int) < (left.length : Int)) = true := by simp; omega
       have c11 : decide (0 < left.length) = true := by simp; omega
       have c12 : decide ((left.length : Int) > 0) = true := by simp; omega
       go_wp2_with (first | ((with_reducible refine gate_dst (N := 8) rfl ?_); refine box_event ?hg (N := 8) ?hd (cs := #[.int .i64 0]) (t := 3) ?hr ?_; (case hd => rfl); (case hg => rfl); (case hr => first | (go_simp; done) | (go_simp; rfl)); intro g8 hg w10 hbox hb; have n0_ := Am (BT8.made HG.out hg hb hbox); clear HG hg hb hbox; have HG := n0_; clear n0_; have q8 := (Kc HG.out.b8 0).trans rfl; have f8 := Kf HG.out.b8 0))
       have HG8 := Am (HG.out.put8 (f0 : Int))
       go_loopg [47] left.length (fun kq v47 w' => ∃ q : Nat, v47 = .int .i64 (q : Int) ∧ Aside0 (q + kq = left.length) ∧ Aside0 (BT8 w w' l0.length g2 (w9.heap.size + 1) (w9.heap.size + 1 + 1) g8 gB gN gO cB cN cO (ints ns) nd (ints left) ((btUp nd left q : Nat) : Int)))
       case atStart => exact ⟨0, rfl, ⟨by omega⟩, ⟨by rw [btUp_zero, ← HF0.out]; exact HG8.out⟩⟩
       case round =>
        clear HG HG8
        obtain ⟨q, rfl, HQ, HG⟩ := hrel
        obtain ⟨fq, hfq⟩ : ∃ fq, fq = btUp nd left q := ⟨_, rfl⟩
        have hfn : fq < nd.length := by rw [hfq, HOUT.out.len]; exact HOUT.out.lt _ (btUp_mem nd left q HNE.out)
        have hn8 : nd.length ≤ 8 := by have := HOUT.out.len; have := H18.out; omega
        have q8 : wr.cell? ⟨g8, 0, none⟩ = some (.int .i64 (fq : Int)) := (Kc HG.out.b8 0).trans (by rw [hfq]; rfl)
        have f8 := Kf HG.out.b8 0
        have q5 : wr.cell? ⟨w9.heap.size + 1 + 1, 0, none⟩ = some (.slice (some ⟨gN, 0, none⟩) nd.length cN) := (Kc HG.out.bt.b5 0).trans rfl
        have HFQ := Am hfq
        clear hfq
        cases gk with
        | succ dd =>
         have hq : q < left.length := by have := HQ.out; omega
         obtain ⟨p, hp⟩ : ∃ p, p = left.getD q 0 := ⟨_, rfl⟩
         have hpn : p < nd.length := by rw [hp, HOUT.out.len]; exact HOUT.out.lt _ (mem_getDT hq)
         have qo : wr.cell? ⟨gO, q, none⟩ = some (.int .i64 (p : Int)) := by
          have h1_ := HG.out.bt.rO.at q (by rw [ints_length]; exact hq)
          have e_ : (ints left).getD q 0 = (p : Int) := by
           rw [hp]
           simp only [ints]
           rw [List.getD_eq_getElem?_getD, List.getElem?_map, List.getElem?_eq_getElem hq, List.getD_eq_getElem?_getD, List.getElem?_eq_getElem hq]
           rfl
          rw [e_] at h1_
          exact h1_
         obtain ⟨a, ha⟩ : ∃ a, a = nd.getD p 0 := ⟨_, rfl⟩
         obtain ⟨b, hb⟩ : ∃ b, b = nd.getD fq 0 := ⟨_, rfl⟩
         have qn : wr.cell? ⟨gN, p, none⟩ = some (.int .i64 a) := by rw [ha]; exact HG.out.bt.rN.at p hpn
         have qf : wr.cell? ⟨gN, fq, none⟩ = some (.int .i64 b) := by rw [hb]; exact HG.out.bt.rN.at fq hfn
         have HP := Am hp
         have HA := Am ha
         have HB2 := Am hb
         have HQL := Am hq
         clear hp ha hb
         have c20 : decide ((q : Int) < (left.length : Int)) = true := by simp; omega
         have c21 : decide (q < left.length) = true := by simp; omega
         have c22 : (q : Int) ≤ 1048575 := by omega
         have c23 : decide ((p : Int) < (nd.length : Int)) = true := by simp; omega
         have c24 : decide (p < nd.length) = true := by simp; omega
         have c25 : (p : Int) ≤ 1048575 := by omega
         have c26 : decide ((fq : Int) < (nd.length : Int)) = true := by simp; omega
         have c27 : decide (fq < nd.length) = true := by simp; omega
         have c28 : (fq : Int) ≤ 1048575 := by omega
         by_cases hab : a > b
         ·
          have c29 : decide (a > b) = true := by simpa using hab
          have HAB := Am hab
          clear hab
          go_wp2
          go_region_held3 (fun w' => w'.cell? ⟨w9.heap.size + 1 + 1, 0, none⟩ = some (.slice (some ⟨gN, 0, none⟩) nd.length cN) ∧ w'.cell? ⟨gN, p, none⟩ = some (.int .i64 a) ∧ w'.cell? ⟨g8, 0, none⟩ = some (.int .i64 (fq : Int)) ∧ w'.cell? ⟨gN, fq, none⟩ = some (.int .i64 b)) (go_keep) (fail)
          go_wp2
          go_roundg dd
          case measure => omega
          case rel => exact ⟨q + 1, by simp, ⟨by have := HQ.out; omega⟩, ⟨by rw [btUp_succ _ _ _ HQL.out, ← HFQ.out, ← HP.out, ← HA.out, ← HB2.out, if_pos (by have := HAB.out; omega)]; exact (HG.out.keep (Bn (Below.refl _ _) _)).put8 _⟩⟩
         ·
          have c29 : decide (a > b) = false := by simpa using hab
          have HAB := Am hab
          clear hab
          go_wp2
          go_region_held3 (fun w' => w'.cell? ⟨w9.heap.size + 1 + 1, 0, none⟩ = some (.slice (some ⟨gN, 0, none⟩) nd.length cN) ∧ w'.cell? ⟨gN, p, none⟩ = some (.int .i64 a) ∧ w'.cell? ⟨g8, 0, none⟩ = some (.int .i64 (fq : Int)) ∧ w'.cell? ⟨gN, fq, none⟩ = some (.int .i64 b)) (go_keep) (fail)
          go_wp2
          go_roundg dd
          case measure => omega
          case rel => exact ⟨q + 1, by simp, ⟨by have := HQ.out; omega⟩, ⟨by rw [btUp_succ _ _ _ HQL.out, ← HFQ.out, ← HP.out, ← HA.out, ← HB2.out, if_neg (by have := HAB.out; omega)]; rw [HFQ.out]; exact HG.out.keep (Bn (Below.refl _ _) _)⟩⟩
        | zero =>
         have hq : q = left.length := by have := HQ.out; omega
         have hfb : fq = btFirst nd left := by rw [HFQ.out, hq, btUp_all]
         have HF : Aside0 (fq = btFirst nd left) := ⟨hfb⟩
         have HGQ := HG.out
         rw [← HFQ.out] at HGQ
         have HGF := Am HGQ
         clear HG HGQ hfb HFQ HQ
         have HG := HGF
         clear HGF
         have hfl : fq ∈ left := by rw [HF.out, ← btUp_all]; exact btUp_mem nd left _ HNE.out
         obtain ⟨m, hm⟩ : ∃ m, (left.filter (fun x => decide (x ≠ fq))).length = m := ⟨_, rfl⟩
         have hm8 : m + 1 = left.length := by rw [← hm]; exact filter_len HOUT.out.nodup hfl
         obtain ⟨M, hM⟩ : ∃ M, M = nd.getD fq 0 := ⟨_, rfl⟩
         have HLT : Aside0 (∀ y ∈ left.filter (fun x => decide (x ≠ fq)), y < l0.length) := ⟨fun y hy => HOUT.out.lt y (List.mem_filter.1 hy).1⟩
         have HND : Aside0 (left.filter (fun x => decide (x ≠ fq))).Nodup := ⟨HOUT.out.nodup.sublist List.filter_sublist⟩
         have HNF : Aside0 (fq ∉ left.filter (fun x => decide (x ≠ fq))) := ⟨by simp⟩
         have HOUT2 : Aside0 (∀ nd' ns', (nd', ns') = btIn fq M (btOrd nd (left.filter (fun x => decide (x ≠ fq)))) 0 nd ns → nd'.length = l0.length → K.Sets l0.length ns' → (∀ z ∈ nd', -((l0.length : Int) - (d + 1 : Nat)) - 1 ≤ z ∧ z ≤ 60) → OutB l0.length (btGo l0.length l0 (List.replicate l0.length 0) (List.range l0.length)) d nd' ns' (left.filter (fun x => decide (x ≠ fq)))) := ⟨fun nd' ns' hE hl hS hb => by
          rw [hM] at hE
          rw [HF.out] at hE ⊢
          exact HOUT.out.next hE hl hS hb⟩
         have HM := Am hM
         have HMM := Am hm
         have HMB : Aside0 (m ≤ 7) := ⟨by omega⟩
         have HB1000 : Aside0 (∀ z ∈ nd, -1000 ≤ z ∧ z ≤ 1000) := ⟨fun z hz => by have := HOUT.out.bd z hz; have := HOUT.out.kn; have := H18.out; omega⟩
         have HFN : Aside0 (fq < l0.length) := ⟨by rw [← HOUT.out.len]; exact hfn⟩
         have c13 : decide ((q : Int) < (left.length : Int)) = false := by simp; omega
         have c14 : decide (q < left.length) = false := by simp; omega
         clear hfl hm hm8 hM
         cases m with
         | zero =>
          go_wp2_with (first | (go_at_call 32; (with_reducible refine (btDel_m HG.out HLP.out HL8.out HMM.out).mono ?_); rintro e w11 ⟨rfl, hG2⟩; have n0_ := Am hG2; clear HG hG2; have HG := n0_; clear n0_) | (go_at_call 31; (with_reducible refine (btClone_0 HG.out HMM.out).mono ?_); rintro e w12 ⟨A12, c12, rfl, hG2⟩; have n0_ := Am hG2; clear HG hG2; have HG := n0_; clear n0_) | (go_at_call 34; (with_reducible refine (btSort0_c _ _ _ _).mono ?_); rintro e w13 ⟨rfl, rfl⟩))
          go_loopg [72] 0 (fun kq v72 w' => v72 = .int .i64 0 ∧ Aside0 (BT8 w w' l0.length g2 (w9.heap.size + 1) (w9.heap.size + 1 + 1) g8 gB gN gO cB cN cO (ints ns) nd (ints (left.filter (fun x => decide (x ≠ fq)))) (fq : Int)))
          case atStart => exact ⟨rfl, HG⟩
          case round =>
           clear HG
           obtain ⟨rfl, HG⟩ := hrel
           go_wp2
           go_roundg d
           case measure => omega
           case rel =>
            have hnil : left.filter (fun x => decide (x ≠ fq)) = [] := List.eq_nil_of_length_eq_zero HMM.out
            refine ⟨ns, nd, left.filter (fun x => decide (x ≠ fq)), by rw [ints_length, HMM.out], ⟨HG.out.bt⟩, ⟨HOUT2.out nd ns ?_ HOUT.out.len HOUT.out.sets (fun z hz => by have := HOUT.out.bd z hz; omega)⟩⟩
            have hpn := (btOrd_perm nd (left.filter (fun x => decide (x ≠ fq)))).length_eq
            rw [HMM.out] at hpn
            rw [List.eq_nil_of_length_eq_zero hpn]
            rfl
         | succ m =>
          go_wp2_with (first | (go_at_call 32; (with_reducible refine (btDel_m HG.out HLP.out HL8.out HMM.out).mono ?_); rintro e w11 ⟨rfl, hG2⟩; have n0_ := Am hG2; clear HG hG2; have HG := n0_; clear n0_) | (go_at_call 31; (with_reducible refine (btClone_m HG.out HMM.out (by have := HMB.out; omega)).mono ?_); rintro e w12 ⟨gP, cP, rfl, hG2⟩; have n0_ := Am hG2; clear HG hG2; have HG := n0_; clear n0_) | (go_at_call 34; (with_reducible refine (btSort_m HG.out HOUT.out.len H18.out.2 HMM.out (by have := HMB.out; omega) HLT.out HB1000.out).mono ?_); rintro e w13 ⟨rfl, hG2⟩; have n0_ := Am hG2; clear HG hG2; have HG := n0_; clear n0_))
          have HOP := Am (btOrd_perm nd (left.filter (fun x => decide (x ≠ fq))))
          have HOL : Aside0 ((btOrd nd (left.filter (fun x => decide (x ≠ fq)))).length = m + 1) := ⟨by rw [HOP.out.length_eq, HMM.out]⟩
          have HOT : Aside0 (∀ x ∈ btOrd nd (left.filter (fun x => decide (x ≠ fq))), x < l0.length) := ⟨fun x hx => HLT.out x (HOP.out.mem_iff.1 hx)⟩
          have HI0 := Am (InB.start (lo := -((l0.length : Int) - (d + 1 : Nat))) (f := fq) (M := M) HOUT.out.len HOUT.out.sets HOUT.out.bd HOT.out HM.out.symm)
          go_loopg [72] (m + 1) (fun kq v72 w' => ∃ (q2 : Nat) (ns2 : List Nat) (nd2 : List Int), v72 = .int .i64 (q2 : Int) ∧ Aside0 (q2 + kq = m + 1) ∧ Aside0 (BTP w w' l0.length g2 (w9.heap.size + 1) (w9.heap.size + 1 + 1) g8 gB gN gO gP cB cN cO cP (ints ns2) nd2 (ints (left.filter (fun x => decide (x ≠ fq)))) (fq : Int) (ints (btOrd nd (left.filter (fun x => decide (x ≠ fq)))))) ∧ Aside0 (InB l0.length fq (-((l0.length : Int) - (d + 1 : Nat))) M (btOrd nd (left.filter (fun x => decide (x ≠ fq)))) (btIn fq M (btOrd nd (left.filter (fun x => decide (x ≠ fq)))) 0 nd ns) q2 nd2 ns2))
          case atStart => exact ⟨0, ns, nd, rfl, ⟨by omega⟩, HG, HI0⟩
          case round =>
           clear HG HI0
           obtain ⟨q2, ns2, nd2, rfl, HQ2, HG, HI⟩ := hrel
           have hl2 := HI.out.len
           have q5 : wr.cell? ⟨w9.heap.size + 1 + 1, 0, none⟩ = some (.slice (some ⟨gN, 0, none⟩) l0.length cN) := (Kc HG.out.b.bt.b5 0).trans (by rw [hl2]; rfl)
           cases gk with
           | zero =>
            have hq2 : q2 = m + 1 := by have := HQ2.out; omega
            have HE := Am (HI.out.done (by rw [HOL.out]; exact hq2))
            have c40 : decide ((q2 : Int) < ((m : Int) + 1)) = false := by simp; omega
            have c41 : decide (q2 < m + 1) = false := by simp; omega
            have c42 : decide ((q2 : Int) < ((m + 1 : Nat) : Int)) = false := by simp; omega
            go_wp2
            go_roundg d
            case measure => omega
            case rel =>
             refine ⟨ns2, nd2, left.filter (fun x => decide (x ≠ fq)), by rw [ints_length, HMM.out], ⟨HG.out.b.bt⟩, ⟨HOUT2.out nd2 ns2 HE.out HI.out.len HI.out.sets HI.out.all⟩⟩
           | succ dd =>
            have hq2 : q2 < m + 1 := by have := HQ2.out; omega
            obtain ⟨p2, hp2⟩ : ∃ p, p = (btOrd nd (left.filter (fun x => decide (x ≠ fq)))).getD q2 0 := ⟨_, rfl⟩
            have hp2n : p2 < l0.length := by rw [hp2]; exact HOT.out _ (mem_getDT (by rw [HOL.out]; exact hq2))
            have qo : wr.cell? ⟨gP, q2, none⟩ = some (.int .i64 (p2 : Int)) := by
             have h1_ := HG.out.rP.at q2 (by rw [ints_length, HOL.out]; exact hq2)
             have hq3 : q2 < (btOrd nd (left.filter (fun x => decide (x ≠ fq)))).length := by rw [HOL.out]; exact hq2
             have e_ : (ints (btOrd nd (left.filter (fun x => decide (x ≠ fq))))).getD q2 0 = (p2 : Int) := by
              rw [hp2]
              simp only [ints]
              rw [List.getD_eq_getElem?_getD, List.getElem?_map, List.getElem?_eq_getElem hq3, List.getD_eq_getElem?_getD, List.getElem?_eq_getElem hq3]
              rfl
             rw [e_] at h1_
             exact h1_
            have hfn2 : fq < l0.length := HFN.out
            have hsl : (ints ns2).length = l0.length := by rw [ints_length, HI.out.sets.len]
            have q40 : wr.cell? ⟨w9.heap.size + 1, 0, none⟩ = some (.int .i64 (l0.length : Int)) := (Kc HG.out.b.bt.b4 0).trans rfl
            have q41 : wr.cell? ⟨w9.heap.size + 1, 1, none⟩ = some (.slice (some ⟨gB, 0, none⟩) l0.length cB) := (Kc HG.out.b.bt.b4 1).trans (by rw [hsl]; rfl)
            have q8 : wr.cell? ⟨g8, 0, none⟩ = some (.int .i64 (fq : Int)) := (Kc HG.out.b.b8 0).trans rfl
            have qf : wr.cell? ⟨gN, fq, none⟩ = some (.int .i64 M) := by
             have h1_ := HG.out.b.bt.rN.at fq (by rw [hl2]; exact hfn2)
             rw [HI.out.need] at h1_
             exact h1_
            have h8 := H18.out.2
            have c40 : decide ((q2 : Int) < ((m : Int) + 1)) = true := by simp; omega
            have c41 : decide (q2 < m + 1) = true := by simp; omega
            have c42 : decide ((q2 : Int) < ((m + 1 : Nat) : Int)) = true := by simp; omega
            have c43 : (q2 : Int) ≤ 1048575 := by have := HMB.out; omega
            have c44 : decide ((p2 : Int) < (l0.length : Int)) = true := by simp; omega
            have c45 : decide (p2 < l0.length) = true := by simp; omega
            have c46 : (p2 : Int) ≤ 1048575 := by omega
            have c47 : decide ((fq : Int) < (l0.length : Int)) = true := by simp; omega
            have c48 : decide (fq < l0.length) = true := by simp; omega
            have c49 : (fq : Int) ≤ 1048575 := by omega
            have HP2 := Am hp2
            have HP2N := Am hp2n
            have HQL2 : Aside0 (q2 < (btOrd nd (left.filter (fun x => decide (x ≠ fq)))).length) := ⟨by rw [HOL.out]; exact hq2⟩
            clear hp2 hsl h8
            by_cases hw : (q2 : Int) < M
            ·
             have c50 : decide ((q2 : Int) < M) = true := by simpa using hw
             have HW := Am hw
             clear hw
             go_wp2_with (first | (go_at_call 36; (with_reducible refine (btBeat_c HG.out HI.out.sets fq p2 HFN.out HP2N.out).mono ?_); rintro e w14 ⟨rfl, hG2⟩; have n0_ := Am hG2; clear HG hG2; have HG := n0_; clear n0_))
             go_roundg dd
             case measure => omega
             case rel =>
              refine ⟨q2 + 1, beatN ns2 fq p2, nd2, by simp, ⟨by have := HQ2.out; omega⟩, HG, ⟨?_⟩⟩
              have h1_ := HI.out.win HQL2.out HOT.out HW.out
              rw [← HP2.out] at h1_
              exact h1_
            ·
             have c50 : decide ((q2 : Int) < M) = false := by simpa using hw
             have HW := Am hw
             clear hw
             obtain ⟨v, hv⟩ : ∃ v, v = nd2.getD p2 0 := ⟨_, rfl⟩
             have hvb := HI.out.all _ (mem_getDI (l := nd2) (p := p2) (by rw [hl2]; exact hp2n))
             rw [← hv] at hvb
             have hwv : IntKind.i64.wrap (v - 1) = v - 1 := IntWalk.i64_in _ (by have := HOUT.out.kn; have := H18.out; omega)
             have HV := Am hv
             clear hv hvb
             go_wp2_with (first | (go_at_call 36; (with_reducible refine (btBeat_c HG.out HI.out.sets p2 fq HP2N.out HFN.out).mono ?_); rintro e w14 ⟨rfl, hG2⟩; have n0_ := Am hG2; clear HG hG2; have HG := n0_; clear n0_; have q5 : w14.cell? ⟨w9.heap.size + 1 + 1, 0, none⟩ = some (.slice (some ⟨gN, 0, none⟩) l0.length cN) := (Kc HG.out.b.bt.b5 0).trans (by rw [hl2]; rfl); have qn : w14.cell? ⟨gN, p2, none⟩ = some (.int .i64 v) := (by rw [HV.out]; exact HG.out.b.bt.rN.at p2 (by rw [hl2]; exact hp2n)); have fn : w14.frozen? ⟨gN, p2, none⟩ = false := HG.out.b.bt.rN.free p2))
             go_roundg dd
             case measure => omega
             case rel =>
              refine ⟨q2 + 1, beatN ns2 p2 fq, nd2.set p2 (v - 1), by simp, ⟨by have := HQ2.out; omega⟩, ⟨HG.out.put p2 (by rw [hl2]; exact hp2n) (v - 1)⟩, ⟨?_⟩⟩
              have h1_ := HI.out.lose ?_ ?_ HQL2.out HOT.out HFN.out (by have := HW.out; omega)
              ·
               rw [← HP2.out, ← HV.out] at h1_
               exact h1_
              ·
               exact HOP.out.nodup_iff.2 HND.out
              ·
               exact fun hc => HNF.out (HOP.out.mem_iff.1 hc)
    | succ d =>
     have hl : i < l0.length := by have := HI.out; omega
     have c4 : decide ((i : Int) < (l0.length : Int)) = true := by simp; omega
     have c5 : decide (i < l0.length) = true := by simp; omega
     have c7 : (i : Int) ≤ 1048575 := by have := H18.out; omega
     have HIL := Am hl
     go_wp2_with (first | ((with_reducible refine gate_builtin (b := .append) (xs := #[.tmp 34, .tmp 36]) rfl ?_); at_builtin; refine K.IRow.append (w := _) (base := w.heap.size) (g := gO) (cap := cO) (xs := ints (List.range i)) (HG.out.rO.keep ((Ba (Below.refl wr.heap.size wr) _).block _ HG.out.rO.lt)) rfl (.tmp 34) (.tmp 36) rfl rfl ⟨wr.heap.size, 0, none⟩ 1 (i : Int) rfl ?hc ?hl ?hb ?_; (case hc => first | (simp; done) | (simp; rfl)); (case hl => (have h1_ := H18.out; have h2_ := HIL.out; rw [ints_length, List.length_range]; omega)); (case hb => (have h1_ := HG.out.bel.size; rw [World.size_alloc]; omega)); intro g' cap' w10 hbr hg hat; have n0_ := Am (BT.appended HG.out _ hg hbr hat); clear HG hbr hg hat; have HG := n0_; clear n0_))
     go_roundg d
     case measure => omega
     case rel =>
      have e : ints (List.range i) ++ [(i : Int)] = ints (List.range (i + 1)) := by rw [List.range_succ]; simp [ints]
      have HG2 := HG.out
      rw [e] at HG2
      exact ⟨i + 1, g', cap', by simp, by simp [ints_length], ⟨by have := HI.out; omega⟩, ⟨HG2⟩⟩
end Go.Proofs.Ytcheoendfcgjgaa.P
namespace Go.Proofs.Ytcheoendfcgjgaa.P
open Go.RowKit Go.Proofs.YtcheoendfcgjgaaW.PrintWords Go.Proofs.YtcheoendfcgjgaaW.PrintLast Go.Proofs.YtcheoendfcgjgaaW.PrintMore
attribute [local go_sem] max2_int min2_int max_two min_two max_three min_three max_four min_four
def laws_FnTournamentsBuilt.j0 : Nat → List Int → Bool → Int → Bool → Int → List Int → Option (Bool)
 | 0, _, _, _, _, _, _ => none
 | k + 1, x5, x7, x16, x116, x391000, x391001 => if x116 = true then (some false) else (if x7 = true then ((impl_ScoresOf.f k x391000 x391001).bind fun bt409 => ((impl_CirclesOf.f k x391000 x391001).bind fun bt413 => (if bt409.2 = true then ((laws_ySame.f k bt409.1 x5).bind fun t417 => (if t417 = true then ((impl_IsTournament.f k x391000 x391001).bind fun t418 => (if t418 = true then (if bt413.2 = true then (some ((bt413.1.length : Int) == x16)) else (some false)) else (some false))) else (some false))) else (some false)))) else (some true))
def laws_FnTournamentsBuilt.f (k : Nat) (l0 : List Int) (l1 : List Int) : Option (Bool) := (laws_big.f l0 l1).bind fun t381 => (if t381 = true then (some true) else ((spec_DrawBuildTournament.f k l0).bind fun t382 => ((impl_BuildTournament.f k t382).bind fun bt385 => ((spec_BuildTournament.f k t382).bind fun bt391 => ((impl_RefusingScores.f k t382).bind fun bt397 => ((spec_RefusingScores.f k t382).bind fun bt399 => ((impl_AreScores.f k t382).bind fun bt401 => ((impl_CountCircles.f k t382).bind fun bt403 => ((spec_CountCircles.f k t382).bind fun bt405 => (if (bt385.2.2 != bt391.2.2) = true then (laws_FnTournamentsBuilt.j0 k t382 bt385.2.2 bt403.1 true bt385.1 bt385.2.1) else ((laws_yTournament.f k bt385.1 bt385.2.1 bt391.1 bt391.2.1).bind fun t407 => (if t407 = true then (if (bt397.2 != bt399.2) = true then (laws_FnTournamentsBuilt.j0 k t382 bt385.2.2 bt403.1 true bt385.1 bt385.2.1) else (if bt397.1 = bt399.1 then (if (bt401.1 != bt385.2.2) = true then (laws_FnTournamentsBuilt.j0 k t382 bt385.2.2 bt403.1 true bt385.1 bt385.2.1) else ((impl_IsList.f k t382).bind fun t408 => (if (bt401.2 != t408) = true then (laws_FnTournamentsBuilt.j0 k t382 bt385.2.2 bt403.1 true bt385.1 bt385.2.1) else (if bt401.2 = true then (if (bt385.2.2 == bt397.2) = true then (laws_FnTournamentsBuilt.j0 k t382 bt385.2.2 bt403.1 true bt385.1 bt385.2.1) else (if (bt403.2 != bt405.2) = true then (laws_FnTournamentsBuilt.j0 k t382 bt385.2.2 bt403.1 true bt385.1 bt385.2.1) else (if bt403.1 = bt405.1 then (laws_FnTournamentsBuilt.j0 k t382 bt385.2.2 bt403.1 (bt403.2 != bt385.2.2) bt385.1 bt385.2.1) else (laws_FnTournamentsBuilt.j0 k t382 bt385.2.2 bt403.1 true bt385.1 bt385.2.1)))) else (if (bt403.2 != bt405.2) = true then (laws_FnTournamentsBuilt.j0 k t382 bt385.2.2 bt403.1 true bt385.1 bt385.2.1) else (if bt403.1 = bt405.1 then (laws_FnTournamentsBuilt.j0 k t382 bt385.2.2 bt403.1 (bt403.2 != bt385.2.2) bt385.1 bt385.2.1) else (laws_FnTournamentsBuilt.j0 k t382 bt385.2.2 bt403.1 true bt385.1 bt385.2.1))))))) else (laws_FnTournamentsBuilt.j0 k t382 bt385.2.2 bt403.1 true bt385.1 bt385.2.1))) else (laws_FnTournamentsBuilt.j0 k t382 bt385.2.2 bt403.1 true bt385.1 bt385.2.1)))))))))))))
theorem laws_FnTournamentsBuilt.mono_l : ∀ k, (∀ y0 y1 y2 y3 y4 y5, LeO (laws_FnTournamentsBuilt.j0 k y0 y1 y2 y3 y4 y5) (laws_FnTournamentsBuilt.j0 (k + 1) y0 y1 y2 y3 y4 y5))
 | 0 => fun _ _ _ _ _ _ r h => by simp [laws_FnTournamentsBuilt.j0] at h
 | k + 1 => by
  have ih0 := laws_FnTournamentsBuilt.mono_l k
  ·
   intro y0 y1 y2 y3 y4 y5
   unfold laws_FnTournamentsBuilt.j0
   repeat' first
   | (with_reducible exact ih0 _ _ _ _ _ _)
   | (with_reducible exact impl_AreScores.mono _ _)
   | (with_reducible exact impl_BuildTournament.mono _ _)
   | (with_reducible exact impl_CirclesOf.mono _ _ _)
   | (with_reducible exact impl_CountCircles.mono _ _)
   | (with_reducible exact impl_IsList.mono _ _)
   | (with_reducible exact impl_IsTournament.mono _ _ _)
   | (with_reducible exact impl_RefusingScores.mono _ _)
   | (with_reducible exact impl_ScoresOf.mono _ _ _)
   | (with_reducible exact laws_ySame.mono _ _ _)
   | (with_reducible exact laws_yTournament.mono _ _ _ _ _)
   | (with_reducible exact spec_BuildTournament.mono _ _)
   | (with_reducible exact spec_CountCircles.mono _ _)
   | (with_reducible exact spec_DrawBuildTournament.mono _ _)
   | (with_reducible exact spec_RefusingScores.mono _ _)
   | (with_reducible exact LeO.refl _)
   | (with_reducible exact LeO.none _)
   | (with_reducible refine LeO.ite ?_ ?_)
   | (with_reducible refine LeO.bind ?_ (fun _ => ?_))
   | exact ih0 _ _ _ _ _ _
   | exact impl_AreScores.mono _ _
   | exact impl_BuildTournament.mono _ _
   | exact impl_CirclesOf.mono _ _ _
   | exact impl_CountCircles.mono _ _
   | exact impl_IsList.mono _ _
   | exact impl_IsTournament.mono _ _ _
   | exact impl_RefusingScores.mono _ _
   | exact impl_ScoresOf.mono _ _ _
   | exact laws_ySame.mono _ _ _
   | exact laws_yTournament.mono _ _ _ _ _
   | exact spec_BuildTournament.mono _ _
   | exact spec_CountCircles.mono _ _
   | exact spec_DrawBuildTournament.mono _ _
   | exact spec_RefusingScores.mono _ _
   | exact LeO.none _
   | refine LeO.ite ?_ ?_
   | refine LeO.bind ?_ (fun _ => ?_)
theorem laws_FnTournamentsBuilt.mono : ∀ a0 a1 k, LeO (laws_FnTournamentsBuilt.f k a0 a1) (laws_FnTournamentsBuilt.f (k + 1) a0 a1) := by
 intro a0 a1 k
 have ih0 := laws_FnTournamentsBuilt.mono_l k
 unfold laws_FnTournamentsBuilt.f
 repeat' first
   | (with_reducible exact ih0 _ _ _ _ _ _)
   | (with_reducible exact impl_AreScores.mono _ _)
   | (with_reducible exact impl_BuildTournament.mono _ _)
   | (with_reducible exact impl_CirclesOf.mono _ _ _)
   | (with_reducible exact impl_CountCircles.mono _ _)
   | (with_reducible exact impl_IsList.mono _ _)
   | (with_reducible exact impl_IsTournament.mono _ _ _)
   | (with_reducible exact impl_RefusingScores.mono _ _)
   | (with_reducible exact impl_ScoresOf.mono _ _ _)
   | (with_reducible exact laws_ySame.mono _ _ _)
   | (with_reducible exact laws_yTournament.mono _ _ _ _ _)
   | (with_reducible exact spec_BuildTournament.mono _ _)
   | (with_reducible exact spec_CountCircles.mono _ _)
   | (with_reducible exact spec_DrawBuildTournament.mono _ _)
   | (with_reducible exact spec_RefusingScores.mono _ _)
   | (with_reducible exact LeO.refl _)
   | (with_reducible exact LeO.none _)
   | (with_reducible refine LeO.ite ?_ ?_)
   | (with_reducible refine LeO.bind ?_ (fun _ => ?_))
   | exact ih0 _ _ _ _ _ _
   | exact impl_AreScores.mono _ _
   | exact impl_BuildTournament.mono _ _
   | exact impl_CirclesOf.mono _ _ _
   | exact impl_CountCircles.mono _ _
   | exact impl_IsList.mono _ _
   | exact impl_IsTournament.mono _ _ _
   | exact impl_RefusingScores.mono _ _
   | exact impl_ScoresOf.mono _ _ _
   | exact laws_ySame.mono _ _ _
   | exact laws_yTournament.mono _ _ _ _ _
   | exact spec_BuildTournament.mono _ _
   | exact spec_CountCircles.mono _ _
   | exact spec_DrawBuildTournament.mono _ _
   | exact spec_RefusingScores.mono _ _
   | exact LeO.none _
   | refine LeO.ite ?_ ?_
   | refine LeO.bind ?_ (fun _ => ?_)
set_option maxHeartbeats 8000000 in
set_option maxRecDepth 100000 in
theorem laws_FnTournamentsBuilt.calls (k : Nat) (A0 : Option Addr) (c0 : Nat) (l0 : List Int) (A1 : Option Addr) (c1 : Nat) (l1 : List Int) (r : Bool) (w : World) (hr0 : Kd.C (Kd.int .u8) w A0 l0.length l0) (hc0 : l0.length ≤ c0) (hr1 : Kd.C (Kd.int .u8) w A1 l1.length l1) (hc1 : l1.length ≤ c1) (h : laws_FnTournamentsBuilt.f k l0 l1 = some r) :
  Calls Try.prog 3 #[.slice A0 l0.length c0, .slice A1 l1.length c1] w fun e w' => e = .returned (.bool r) ∧ Below w.heap.size w w' := by
 have hu27 := Try.underlying27
 have HR0 := Am hr0
 have HC0 := Am hc0
 clear hr0 hc0
 have HR1 := Am hr1
 have HC1 := Am hc1
 clear hr1 hc1
 have HB := Am (Below.refl w.heap.size w)
 have H : ((laws_big.f l0 l1).bind fun t381 => (if t381 = true then (some true) else ((spec_DrawBuildTournament.f k l0).bind fun t382 => ((impl_BuildTournament.f k t382).bind fun bt385 => ((spec_BuildTournament.f k t382).bind fun bt391 => ((impl_RefusingScores.f k t382).bind fun bt397 => ((spec_RefusingScores.f k t382).bind fun bt399 => ((impl_AreScores.f k t382).bind fun bt401 => ((impl_CountCircles.f k t382).bind fun bt403 => ((spec_CountCircles.f k t382).bind fun bt405 => (if (bt385.2.2 != bt391.2.2) = true then (laws_FnTournamentsBuilt.j0 k t382 bt385.2.2 bt403.1 true bt385.1 bt385.2.1) else ((laws_yTournament.f k bt385.1 bt385.2.1 bt391.1 bt391.2.1).bind fun t407 => (if t407 = true then (if (bt397.2 != bt399.2) = true then (laws_FnTournamentsBuilt.j0 k t382 bt385.2.2 bt403.1 true bt385.1 bt385.2.1) else (if bt397.1 = bt399.1 then (if (bt401.1 != bt385.2.2) = true then (laws_FnTournamentsBuilt.j0 k t382 bt385.2.2 bt403.1 true bt385.1 bt385.2.1) else ((impl_IsList.f k t382).bind fun t408 => (if (bt401.2 != t408) = true then (laws_FnTournamentsBuilt.j0 k t382 bt385.2.2 bt403.1 true bt385.1 bt385.2.1) else (if bt401.2 = true then (if (bt385.2.2 == bt397.2) = true then (laws_FnTournamentsBuilt.j0 k t382 bt385.2.2 bt403.1 true bt385.1 bt385.2.1) else (if (bt403.2 != bt405.2) = true then (laws_FnTournamentsBuilt.j0 k t382 bt385.2.2 bt403.1 true bt385.1 bt385.2.1) else (if bt403.1 = bt405.1 then (laws_FnTournamentsBuilt.j0 k t382 bt385.2.2 bt403.1 (bt403.2 != bt385.2.2) bt385.1 bt385.2.1) else (laws_FnTournamentsBuilt.j0 k t382 bt385.2.2 bt403.1 true bt385.1 bt385.2.1)))) else (if (bt403.2 != bt405.2) = true then (laws_FnTournamentsBuilt.j0 k t382 bt385.2.2 bt403.1 true bt385.1 bt385.2.1) else (if bt403.1 = bt405.1 then (laws_FnTournamentsBuilt.j0 k t382 bt385.2.2 bt403.1 (bt403.2 != bt385.2.2) bt385.1 bt385.2.1) else (laws_FnTournamentsBuilt.j0 k t382 bt385.2.2 bt403.1 true bt385.1 bt385.2.1))))))) else (laws_FnTournamentsBuilt.j0 k t382 bt385.2.2 bt403.1 true bt385.1 bt385.2.1))) else (laws_FnTournamentsBuilt.j0 k t382 bt385.2.2 bt403.1 true bt385.1 bt385.2.1)))))))))))))) = some r := h
 clear h
 replace H := Option.bind_eq_some_iff.mp H
 obtain ⟨t381, A30, H⟩ := H
 replace H : (if t381 = true then (some true) else ((spec_DrawBuildTournament.f k l0).bind fun t382 => ((impl_BuildTournament.f k t382).bind fun bt385 => ((spec_BuildTournament.f k t382).bind fun bt391 => ((impl_RefusingScores.f k t382).bind fun bt397 => ((spec_RefusingScores.f k t382).bind fun bt399 => ((impl_AreScores.f k t382).bind fun bt401 => ((impl_CountCircles.f k t382).bind fun bt403 => ((spec_CountCircles.f k t382).bind fun bt405 => (if (bt385.2.2 != bt391.2.2) = true then (laws_FnTournamentsBuilt.j0 k t382 bt385.2.2 bt403.1 true bt385.1 bt385.2.1) else ((laws_yTournament.f k bt385.1 bt385.2.1 bt391.1 bt391.2.1).bind fun t407 => (if t407 = true then (if (bt397.2 != bt399.2) = true then (laws_FnTournamentsBuilt.j0 k t382 bt385.2.2 bt403.1 true bt385.1 bt385.2.1) else (if bt397.1 = bt399.1 then (if (bt401.1 != bt385.2.2) = true then (laws_FnTournamentsBuilt.j0 k t382 bt385.2.2 bt403.1 true bt385.1 bt385.2.1) else ((impl_IsList.f k t382).bind fun t408 => (if (bt401.2 != t408) = true then (laws_FnTournamentsBuilt.j0 k t382 bt385.2.2 bt403.1 true bt385.1 bt385.2.1) else (if bt401.2 = true then (if (bt385.2.2 == bt397.2) = true then (laws_FnTournamentsBuilt.j0 k t382 bt385.2.2 bt403.1 true bt385.1 bt385.2.1) else (if (bt403.2 != bt405.2) = true then (laws_FnTournamentsBuilt.j0 k t382 bt385.2.2 bt403.1 true bt385.1 bt385.2.1) else (if bt403.1 = bt405.1 then (laws_FnTournamentsBuilt.j0 k t382 bt385.2.2 bt403.1 (bt403.2 != bt385.2.2) bt385.1 bt385.2.1) else (laws_FnTournamentsBuilt.j0 k t382 bt385.2.2 bt403.1 true bt385.1 bt385.2.1)))) else (if (bt403.2 != bt405.2) = true then (laws_FnTournamentsBuilt.j0 k t382 bt385.2.2 bt403.1 true bt385.1 bt385.2.1) else (if bt403.1 = bt405.1 then (laws_FnTournamentsBuilt.j0 k t382 bt385.2.2 bt403.1 (bt403.2 != bt385.2.2) bt385.1 bt385.2.1) else (laws_FnTournamentsBuilt.j0 k t382 bt385.2.2 bt403.1 true bt385.1 bt385.2.1))))))) else (laws_FnTournamentsBuilt.j0 k t382 bt385.2.2 bt403.1 true bt385.1 bt385.2.1))) else (laws_FnTournamentsBuilt.j0 k t382 bt385.2.2 bt403.1 true bt385.1 bt385.2.1))))))))))))) = some r := H
 have A3 := Am A30
 clear A30
 by_cases c4 : t381 = true
 ·
  subst c4
  have H1 : (some true) = some r := by rw [if_pos rfl] at H; exact H
  clear H
  have H := H1
  clear H1
  obtain rfl := Option.some.inj H
  go_enter Try.func3, Try.ntmps3
  go_wp2_with (first | ((with_reducible refine gate_callee (f := 5) rfl ?_); refine goesL_ (some 26) rfl rfl Try.func5 (by kernel_rfl) rfl #[.slice A0 l0.length c0, .slice A1 l1.length c1] rfl (by (try simp only [List.map_toArray, List.map_cons, List.map_nil]); first | done | rfl) ?_; (with_reducible refine (laws_big.calls _ _ l0 _ _ l1 true _ ?side1 ?side2 ?side3 ?side4 A3.out).mono ?_); (case side1 => repeat (first | exact HR0.out | (with_reducible refine Ca ?_ _) | (with_reducible refine Cn ?_ _) | (with_reducible refine Cd ?_))); (case side2 => exact HC0.out); (case side3 => repeat (first | exact HR1.out | (with_reducible refine Ca ?_ _) | (with_reducible refine Cn ?_ _) | (with_reducible refine Cd ?_))); (case side4 => exact HC1.out); rintro e w' ⟨rfl, ⟨nd, rfl⟩⟩; refine ⟨_, rfl, ?_⟩))
  go_ret
  exact ⟨by first | rfl | (simp [errW_none, errW_some] <;> rfl) | (simp [*, errW_none, errW_some] <;> rfl), by repeat (first | (with_reducible first | exact HB.out | apply Ba | apply Bn | apply Bd) | exact HB.out)⟩
 ·
  replace c4 := Bool.eq_false_iff.mpr c4
  subst c4
  have H1 : ((spec_DrawBuildTournament.f k l0).bind fun t382 => ((impl_BuildTournament.f k t382).bind fun bt385 => ((spec_BuildTournament.f k t382).bind fun bt391 => ((impl_RefusingScores.f k t382).bind fun bt397 => ((spec_RefusingScores.f k t382).bind fun bt399 => ((impl_AreScores.f k t382).bind fun bt401 => ((impl_CountCircles.f k t382).bind fun bt403 => ((spec_CountCircles.f k t382).bind fun bt405 => (if (bt385.2.2 != bt391.2.2) = true then (laws_FnTournamentsBuilt.j0 k t382 bt385.2.2 bt403.1 true bt385.1 bt385.2.1) else ((laws_yTournament.f k bt385.1 bt385.2.1 bt391.1 bt391.2.1).bind fun t407 => (if t407 = true then (if (bt397.2 != bt399.2) = true then (laws_FnTournamentsBuilt.j0 k t382 bt385.2.2 bt403.1 true bt385.1 bt385.2.1) else (if bt397.1 = bt399.1 then (if (bt401.1 != bt385.2.2) = true then (laws_FnTournamentsBuilt.j0 k t382 bt385.2.2 bt403.1 true bt385.1 bt385.2.1) else ((impl_IsList.f k t382).bind fun t408 => (if (bt401.2 != t408) = true then (laws_FnTournamentsBuilt.j0 k t382 bt385.2.2 bt403.1 true bt385.1 bt385.2.1) else (if bt401.2 = true then (if (bt385.2.2 == bt397.2) = true then (laws_FnTournamentsBuilt.j0 k t382 bt385.2.2 bt403.1 true bt385.1 bt385.2.1) else (if (bt403.2 != bt405.2) = true then (laws_FnTournamentsBuilt.j0 k t382 bt385.2.2 bt403.1 true bt385.1 bt385.2.1) else (if bt403.1 = bt405.1 then (laws_FnTournamentsBuilt.j0 k t382 bt385.2.2 bt403.1 (bt403.2 != bt385.2.2) bt385.1 bt385.2.1) else (laws_FnTournamentsBuilt.j0 k t382 bt385.2.2 bt403.1 true bt385.1 bt385.2.1)))) else (if (bt403.2 != bt405.2) = true then (laws_FnTournamentsBuilt.j0 k t382 bt385.2.2 bt403.1 true bt385.1 bt385.2.1) else (if bt403.1 = bt405.1 then (laws_FnTournamentsBuilt.j0 k t382 bt385.2.2 bt403.1 (bt403.2 != bt385.2.2) bt385.1 bt385.2.1) else (laws_FnTournamentsBuilt.j0 k t382 bt385.2.2 bt403.1 true bt385.1 bt385.2.1))))))) else (laws_FnTournamentsBuilt.j0 k t382 bt385.2.2 bt403.1 true bt385.1 bt385.2.1))) else (laws_FnTournamentsBuilt.j0 k t382 bt385.2.2 bt403.1 true bt385.1 bt385.2.1)))))))))))) = some r := by rw [if_neg (show ¬ (false = true) by decide)] at H; exact H
  clear H
  have H := H1
  clear H1
  replace H := Option.bind_eq_some_iff.mp H
  obtain ⟨t382, A50, H⟩ := H
  replace H : ((impl_BuildTournament.f k t382).bind fun bt385 => ((spec_BuildTournament.f k t382).bind fun bt391 => ((impl_RefusingScores.f k t382).bind fun bt397 => ((spec_RefusingScores.f k t382).bind fun bt399 => ((impl_AreScores.f k t382).bind fun bt401 => ((impl_CountCircles.f k t382).bind fun bt403 => ((spec_CountCircles.f k t382).bind fun bt405 => (if (bt385.2.2 != bt391.2.2) = true then (laws_FnTournamentsBuilt.j0 k t382 bt385.2.2 bt403.1 true bt385.1 bt385.2.1) else ((laws_yTournament.f k bt385.1 bt385.2.1 bt391.1 bt391.2.1).bind fun t407 => (if t407 = true then (if (bt397.2 != bt399.2) = true then (laws_FnTournamentsBuilt.j0 k t382 bt385.2.2 bt403.1 true bt385.1 bt385.2.1) else (if bt397.1 = bt399.1 then (if (bt401.1 != bt385.2.2) = true then (laws_FnTournamentsBuilt.j0 k t382 bt385.2.2 bt403.1 true bt385.1 bt385.2.1) else ((impl_IsList.f k t382).bind fun t408 => (if (bt401.2 != t408) = true then (laws_FnTournamentsBuilt.j0 k t382 bt385.2.2 bt403.1 true bt385.1 bt385.2.1) else (if bt401.2 = true then (if (bt385.2.2 == bt397.2) = true then (laws_FnTournamentsBuilt.j0 k t382 bt385.2.2 bt403.1 true bt385.1 bt385.2.1) else (if (bt403.2 != bt405.2) = true then (laws_FnTournamentsBuilt.j0 k t382 bt385.2.2 bt403.1 true bt385.1 bt385.2.1) else (if bt403.1 = bt405.1 then (laws_FnTournamentsBuilt.j0 k t382 bt385.2.2 bt403.1 (bt403.2 != bt385.2.2) bt385.1 bt385.2.1) else (laws_FnTournamentsBuilt.j0 k t382 bt385.2.2 bt403.1 true bt385.1 bt385.2.1)))) else (if (bt403.2 != bt405.2) = true then (laws_FnTournamentsBuilt.j0 k t382 bt385.2.2 bt403.1 true bt385.1 bt385.2.1) else (if bt403.1 = bt405.1 then (laws_FnTournamentsBuilt.j0 k t382 bt385.2.2 bt403.1 (bt403.2 != bt385.2.2) bt385.1 bt385.2.1) else (laws_FnTournamentsBuilt.j0 k t382 bt385.2.2 bt403.1 true bt385.1 bt385.2.1))))))) else (laws_FnTournamentsBuilt.j0 k t382 bt385.2.2 bt403.1 true bt385.1 bt385.2.1))) else (laws_FnTournamentsBuilt.j0 k t382 bt385.2.2 bt403.1 true bt385.1 bt385.2.1))))))))))) = some r := H
  have A5 := Am A50
  clear A50
  replace H := Option.bind_eq_some_iff.mp H
  obtain ⟨⟨t385, t386, t389⟩, A60, H⟩ := H
  replace H : ((spec_BuildTournament.f k t382).bind fun bt391 => ((impl_RefusingScores.f k t382).bind fun bt397 => ((spec_RefusingScores.f k t382).bind fun bt399 => ((impl_AreScores.f k t382).bind fun bt401 => ((impl_CountCircles.f k t382).bind fun bt403 => ((spec_CountCircles.f k t382).bind fun bt405 => (if (t389 != bt391.2.2) = true then (laws_FnTournamentsBuilt.j0 k t382 t389 bt403.1 true t385 t386) else ((laws_yTournament.f k t385 t386 bt391.1 bt391.2.1).bind fun t407 => (if t407 = true then (if (bt397.2 != bt399.2) = true then (laws_FnTournamentsBuilt.j0 k t382 t389 bt403.1 true t385 t386) else (if bt397.1 = bt399.1 then (if (bt401.1 != t389) = true then (laws_FnTournamentsBuilt.j0 k t382 t389 bt403.1 true t385 t386) else ((impl_IsList.f k t382).bind fun t408 => (if (bt401.2 != t408) = true then (laws_FnTournamentsBuilt.j0 k t382 t389 bt403.1 true t385 t386) else (if bt401.2 = true then (if (t389 == bt397.2) = true then (laws_FnTournamentsBuilt.j0 k t382 t389 bt403.1 true t385 t386) else (if (bt403.2 != bt405.2) = true then (laws_FnTournamentsBuilt.j0 k t382 t389 bt403.1 true t385 t386) else (if bt403.1 = bt405.1 then (laws_FnTournamentsBuilt.j0 k t382 t389 bt403.1 (bt403.2 != t389) t385 t386) else (laws_FnTournamentsBuilt.j0 k t382 t389 bt403.1 true t385 t386)))) else (if (bt403.2 != bt405.2) = true then (laws_FnTournamentsBuilt.j0 k t382 t389 bt403.1 true t385 t386) else (if bt403.1 = bt405.1 then (laws_FnTournamentsBuilt.j0 k t382 t389 bt403.1 (bt403.2 != t389) t385 t386) else (laws_FnTournamentsBuilt.j0 k t382 t389 bt403.1 true t385 t386))))))) else (laws_FnTournamentsBuilt.j0 k t382 t389 bt403.1 true t385 t386))) else (laws_FnTournamentsBuilt.j0 k t382 t389 bt403.1 true t385 t386)))))))))) = some r := H
  have A6 := Am A60
  clear A60
  replace H := Option.bind_eq_some_iff.mp H
  obtain ⟨⟨t391, t392, t395⟩, A70, H⟩ := H
  replace H : ((impl_RefusingScores.f k t382).bind fun bt397 => ((spec_RefusingScores.f k t382).bind fun bt399 => ((impl_AreScores.f k t382).bind fun bt401 => ((impl_CountCircles.f k t382).bind fun bt403 => ((spec_CountCircles.f k t382).bind fun bt405 => (if (t389 != t395) = true then (laws_FnTournamentsBuilt.j0 k t382 t389 bt403.1 true t385 t386) else ((laws_yTournament.f k t385 t386 t391 t392).bind fun t407 => (if t407 = true then (if (bt397.2 != bt399.2) = true then (laws_FnTournamentsBuilt.j0 k t382 t389 bt403.1 true t385 t386) else (if bt397.1 = bt399.1 then (if (bt401.1 != t389) = true then (laws_FnTournamentsBuilt.j0 k t382 t389 bt403.1 true t385 t386) else ((impl_IsList.f k t382).bind fun t408 => (if (bt401.2 != t408) = true then (laws_FnTournamentsBuilt.j0 k t382 t389 bt403.1 true t385 t386) else (if bt401.2 = true then (if (t389 == bt397.2) = true then (laws_FnTournamentsBuilt.j0 k t382 t389 bt403.1 true t385 t386) else (if (bt403.2 != bt405.2) = true then (laws_FnTournamentsBuilt.j0 k t382 t389 bt403.1 true t385 t386) else (if bt403.1 = bt405.1 then (laws_FnTournamentsBuilt.j0 k t382 t389 bt403.1 (bt403.2 != t389) t385 t386) else (laws_FnTournamentsBuilt.j0 k t382 t389 bt403.1 true t385 t386)))) else (if (bt403.2 != bt405.2) = true then (laws_FnTournamentsBuilt.j0 k t382 t389 bt403.1 true t385 t386) else (if bt403.1 = bt405.1 then (laws_FnTournamentsBuilt.j0 k t382 t389 bt403.1 (bt403.2 != t389) t385 t386) else (laws_FnTournamentsBuilt.j0 k t382 t389 bt403.1 true t385 t386))))))) else (laws_FnTournamentsBuilt.j0 k t382 t389 bt403.1 true t385 t386))) else (laws_FnTournamentsBuilt.j0 k t382 t389 bt403.1 true t385 t386))))))))) = some r := H
  have A7 := Am A70
  clear A70
  replace H := Option.bind_eq_some_iff.mp H
  obtain ⟨⟨t397, t398⟩, A80, H⟩ := H
  replace H : ((spec_RefusingScores.f k t382).bind fun bt399 => ((impl_AreScores.f k t382).bind fun bt401 => ((impl_CountCircles.f k t382).bind fun bt403 => ((spec_CountCircles.f k t382).bind fun bt405 => (if (t389 != t395) = true then (laws_FnTournamentsBuilt.j0 k t382 t389 bt403.1 true t385 t386) else ((laws_yTournament.f k t385 t386 t391 t392).bind fun t407 => (if t407 = true then (if (t398 != bt399.2) = true then (laws_FnTournamentsBuilt.j0 k t382 t389 bt403.1 true t385 t386) else (if t397 = bt399.1 then (if (bt401.1 != t389) = true then (laws_FnTournamentsBuilt.j0 k t382 t389 bt403.1 true t385 t386) else ((impl_IsList.f k t382).bind fun t408 => (if (bt401.2 != t408) = true then (laws_FnTournamentsBuilt.j0 k t382 t389 bt403.1 true t385 t386) else (if bt401.2 = true then (if (t389 == t398) = true then (laws_FnTournamentsBuilt.j0 k t382 t389 bt403.1 true t385 t386) else (if (bt403.2 != bt405.2) = true then (laws_FnTournamentsBuilt.j0 k t382 t389 bt403.1 true t385 t386) else (if bt403.1 = bt405.1 then (laws_FnTournamentsBuilt.j0 k t382 t389 bt403.1 (bt403.2 != t389) t385 t386) else (laws_FnTournamentsBuilt.j0 k t382 t389 bt403.1 true t385 t386)))) else (if (bt403.2 != bt405.2) = true then (laws_FnTournamentsBuilt.j0 k t382 t389 bt403.1 true t385 t386) else (if bt403.1 = bt405.1 then (laws_FnTournamentsBuilt.j0 k t382 t389 bt403.1 (bt403.2 != t389) t385 t386) else (laws_FnTournamentsBuilt.j0 k t382 t389 bt403.1 true t385 t386))))))) else (laws_FnTournamentsBuilt.j0 k t382 t389 bt403.1 true t385 t386))) else (laws_FnTournamentsBuilt.j0 k t382 t389 bt403.1 true t385 t386)))))))) = some r := H
  have A8 := Am A80
  clear A80
  replace H := Option.bind_eq_some_iff.mp H
  obtain ⟨⟨t399, t400⟩, A90, H⟩ := H
  replace H : ((impl_AreScores.f k t382).bind fun bt401 => ((impl_CountCircles.f k t382).bind fun bt403 => ((spec_CountCircles.f k t382).bind fun bt405 => (if (t389 != t395) = true then (laws_FnTournamentsBuilt.j0 k t382 t389 bt403.1 true t385 t386) else ((laws_yTournament.f k t385 t386 t391 t392).bind fun t407 => (if t407 = true then (if (t398 != t400) = true then (laws_FnTournamentsBuilt.j0 k t382 t389 bt403.1 true t385 t386) else (if t397 = t399 then (if (bt401.1 != t389) = true then (laws_FnTournamentsBuilt.j0 k t382 t389 bt403.1 true t385 t386) else ((impl_IsList.f k t382).bind fun t408 => (if (bt401.2 != t408) = true then (laws_FnTournamentsBuilt.j0 k t382 t389 bt403.1 true t385 t386) else (if bt401.2 = true then (if (t389 == t398) = true then (laws_FnTournamentsBuilt.j0 k t382 t389 bt403.1 true t385 t386) else (if (bt403.2 != bt405.2) = true then (laws_FnTournamentsBuilt.j0 k t382 t389 bt403.1 true t385 t386) else (if bt403.1 = bt405.1 then (laws_FnTournamentsBuilt.j0 k t382 t389 bt403.1 (bt403.2 != t389) t385 t386) else (laws_FnTournamentsBuilt.j0 k t382 t389 bt403.1 true t385 t386)))) else (if (bt403.2 != bt405.2) = true then (laws_FnTournamentsBuilt.j0 k t382 t389 bt403.1 true t385 t386) else (if bt403.1 = bt405.1 then (laws_FnTournamentsBuilt.j0 k t382 t389 bt403.1 (bt403.2 != t389) t385 t386) else (laws_FnTournamentsBuilt.j0 k t382 t389 bt403.1 true t385 t386))))))) else (laws_FnTournamentsBuilt.j0 k t382 t389 bt403.1 true t385 t386))) else (laws_FnTournamentsBuilt.j0 k t382 t389 bt403.1 true t385 t386))))))) = some r := H
  have A9 := Am A90
  clear A90
  replace H := Option.bind_eq_some_iff.mp H
  obtain ⟨⟨t401, t402⟩, A100, H⟩ := H
  replace H : ((impl_CountCircles.f k t382).bind fun bt403 => ((spec_CountCircles.f k t382).bind fun bt405 => (if (t389 != t395) = true then (laws_FnTournamentsBuilt.j0 k t382 t389 bt403.1 true t385 t386) else ((laws_yTournament.f k t385 t386 t391 t392).bind fun t407 => (if t407 = true then (if (t398 != t400) = true then (laws_FnTournamentsBuilt.j0 k t382 t389 bt403.1 true t385 t386) else (if t397 = t399 then (if (t401 != t389) = true then (laws_FnTournamentsBuilt.j0 k t382 t389 bt403.1 true t385 t386) else ((impl_IsList.f k t382).bind fun t408 => (if (t402 != t408) = true then (laws_FnTournamentsBuilt.j0 k t382 t389 bt403.1 true t385 t386) else (if t402 = true then (if (t389 == t398) = true then (laws_FnTournamentsBuilt.j0 k t382 t389 bt403.1 true t385 t386) else (if (bt403.2 != bt405.2) = true then (laws_FnTournamentsBuilt.j0 k t382 t389 bt403.1 true t385 t386) else (if bt403.1 = bt405.1 then (laws_FnTournamentsBuilt.j0 k t382 t389 bt403.1 (bt403.2 != t389) t385 t386) else (laws_FnTournamentsBuilt.j0 k t382 t389 bt403.1 true t385 t386)))) else (if (bt403.2 != bt405.2) = true then (laws_FnTournamentsBuilt.j0 k t382 t389 bt403.1 true t385 t386) else (if bt403.1 = bt405.1 then (laws_FnTournamentsBuilt.j0 k t382 t389 bt403.1 (bt403.2 != t389) t385 t386) else (laws_FnTournamentsBuilt.j0 k t382 t389 bt403.1 true t385 t386))))))) else (laws_FnTournamentsBuilt.j0 k t382 t389 bt403.1 true t385 t386))) else (laws_FnTournamentsBuilt.j0 k t382 t389 bt403.1 true t385 t386)))))) = some r := H
  have A10 := Am A100
  clear A100
  replace H := Option.bind_eq_some_iff.mp H
  obtain ⟨⟨t403, t404⟩, A110, H⟩ := H
  replace H : ((spec_CountCircles.f k t382).bind fun bt405 => (if (t389 != t395) = true then (laws_FnTournamentsBuilt.j0 k t382 t389 t403 true t385 t386) else ((laws_yTournament.f k t385 t386 t391 t392).bind fun t407 => (if t407 = true then (if (t398 != t400) = true then (laws_FnTournamentsBuilt.j0 k t382 t389 t403 true t385 t386) else (if t397 = t399 then (if (t401 != t389) = true then (laws_FnTournamentsBuilt.j0 k t382 t389 t403 true t385 t386) else ((impl_IsList.f k t382).bind fun t408 => (if (t402 != t408) = true then (laws_FnTournamentsBuilt.j0 k t382 t389 t403 true t385 t386) else (if t402 = true then (if (t389 == t398) = true then (laws_FnTournamentsBuilt.j0 k t382 t389 t403 true t385 t386) else (if (t404 != bt405.2) = true then (laws_FnTournamentsBuilt.j0 k t382 t389 t403 true t385 t386) else (if t403 = bt405.1 then (laws_FnTournamentsBuilt.j0 k t382 t389 t403 (t404 != t389) t385 t386) else (laws_FnTournamentsBuilt.j0 k t382 t389 t403 true t385 t386)))) else (if (t404 != bt405.2) = true then (laws_FnTournamentsBuilt.j0 k t382 t389 t403 true t385 t386) else (if t403 = bt405.1 then (laws_FnTournamentsBuilt.j0 k t382 t389 t403 (t404 != t389) t385 t386) else (laws_FnTournamentsBuilt.j0 k t382 t389 t403 true t385 t386))))))) else (laws_FnTournamentsBuilt.j0 k t382 t389 t403 true t385 t386))) else (laws_FnTournamentsBuilt.j0 k t382 t389 t403 true t385 t386))))) = some r := H
  have A11 := Am A110
  clear A110
  replace H := Option.bind_eq_some_iff.mp H
  obtain ⟨⟨t405, t406⟩, A120, H⟩ := H
  replace H : (if (t389 != t395) = true then (laws_FnTournamentsBuilt.j0 k t382 t389 t403 true t385 t386) else ((laws_yTournament.f k t385 t386 t391 t392).bind fun t407 => (if t407 = true then (if (t398 != t400) = true then (laws_FnTournamentsBuilt.j0 k t382 t389 t403 true t385 t386) else (if t397 = t399 then (if (t401 != t389) = true then (laws_FnTournamentsBuilt.j0 k t382 t389 t403 true t385 t386) else ((impl_IsList.f k t382).bind fun t408 => (if (t402 != t408) = true then (laws_FnTournamentsBuilt.j0 k t382 t389 t403 true t385 t386) else (if t402 = true then (if (t389 == t398) = true then (laws_FnTournamentsBuilt.j0 k t382 t389 t403 true t385 t386) else (if (t404 != t406) = true then (laws_FnTournamentsBuilt.j0 k t382 t389 t403 true t385 t386) else (if t403 = t405 then (laws_FnTournamentsBuilt.j0 k t382 t389 t403 (t404 != t389) t385 t386) else (laws_FnTournamentsBuilt.j0 k t382 t389 t403 true t385 t386)))) else (if (t404 != t406) = true then (laws_FnTournamentsBuilt.j0 k t382 t389 t403 true t385 t386) else (if t403 = t405 then (laws_FnTournamentsBuilt.j0 k t382 t389 t403 (t404 != t389) t385 t386) else (laws_FnTournamentsBuilt.j0 k t382 t389 t403 true t385 t386))))))) else (laws_FnTournamentsBuilt.j0 k t382 t389 t403 true t385 t386))) else (laws_FnTournamentsBuilt.j0 k t382 t389 t403 true t385 t386)))) = some r := H
  have A12 := Am A120
  clear A120
  have HC13 := Am H
  clear H
  go_enter Try.func3, Try.ntmps3
  go_upto_region 11 with (first | ((with_reducible refine gate_callee (f := 5) rfl ?_); refine goesL_ (some 26) rfl rfl Try.func5 (by kernel_rfl) rfl #[.slice A0 l0.length c0, .slice A1 l1.length c1] rfl (by (try simp only [List.map_toArray, List.map_cons, List.map_nil]); first | done | rfl) ?_; (with_reducible refine (laws_big.calls _ _ l0 _ _ l1 false _ ?side1 ?side2 ?side3 ?side4 A3.out).mono ?_); (case side1 => repeat (first | exact HR0.out | (with_reducible refine Ca ?_ _) | (with_reducible refine Cn ?_ _) | (with_reducible refine Cd ?_))); (case side2 => exact HC0.out); (case side3 => repeat (first | exact HR1.out | (with_reducible refine Ca ?_ _) | (with_reducible refine Cn ?_ _) | (with_reducible refine Cd ?_))); (case side4 => exact HC1.out); rintro e w' ⟨rfl, ⟨nd, rfl⟩⟩; refine ⟨_, rfl, ?_⟩) | ((with_reducible refine gate_callee (f := 6) rfl ?_); refine goesL_ (some 28) rfl rfl Try.func6 (by kernel_rfl) rfl #[.slice A0 l0.length c0] rfl (by (try simp only [List.map_toArray, List.map_cons, List.map_nil]); first | done | rfl) ?_; (with_reducible refine (spec_DrawBuildTournament.calls k _ _ l0 t382 _ ?side1 ?side2 A5.out).mono ?_); (case side1 => repeat (first | exact HR0.out | (with_reducible refine Ca ?_ _) | (with_reducible refine Cn ?_ _) | (with_reducible refine Cd ?_))); (case side2 => exact HC0.out); rintro e w14 ⟨v383, rfl, ho0, hb⟩; refine ⟨_, rfl, ?_⟩; have n0_ := Am (Kd.R_lower ho0 (below_size (by repeat (first | (with_reducible first | exact HB.out | apply Ba | apply Bn | apply Bd))))); have n1_ := Am (below_step (by repeat (first | (with_reducible first | exact HB.out | apply Ba | apply Bn | apply Bd))) hb); clear HB; have HO384 := n0_; have HB := n1_; clear n0_ n1_; (try clear hb); (try clear hb2); (try clear hk); (try clear hi); (try clear ho0); obtain ⟨Ao15, co15, eo15⟩ := Kd.R_slice HO384.out; subst eo15) | ((with_reducible refine gate_callee (f := 7) rfl ?_); refine goesL_ (some 31) rfl rfl Try.func7 (by kernel_rfl) rfl #[.slice Ao15 t382.length co15] rfl (by (try simp only [List.map_toArray, List.map_cons, List.map_nil]); first | done | rfl) ?_; (with_reducible refine (impl_BuildTournament.calls k _ _ t382 t385 t386 t389 _ ?side1 ?side2 A6.out).mono ?_); (case side1 => repeat (first | exact (Kd.R_reads' HO384.out).2.2 | (with_reducible refine Ca ?_ _) | (with_reducible refine Cn ?_ _) | (with_reducible refine Cd ?_))); (case side2 => exact (Kd.R_reads' HO384.out).2.1); rintro e w16 ⟨v387, rfl, ho0, hb⟩; refine ⟨_, rfl, ?_⟩; have n0_ := Am (Kd.R_elder' (by (with_reducible repeat (first | apply Ra | apply Rn | apply Rd)); exact HO384.out) (Kd.R_base ho0) hb); have n1_ := Am (Kd.R_lower (Kd.R_new' ho0 (Kd.R_lt (by (with_reducible repeat (first | apply Ra | apply Rn | apply Rd)); exact HO384.out))) (below_size (by repeat (first | (with_reducible first | exact HB.out | apply Ba | apply Bn | apply Bd))))); have n2_ := Am (below_step (by repeat (first | (with_reducible first | exact HB.out | apply Ba | apply Bn | apply Bd))) hb); clear HO384; clear HB; have HO384 := n0_; have HO388 := n1_; have HB := n2_; clear n0_ n1_ n2_; (try clear hb); (try clear hb2); (try clear hk); (try clear hi); (try clear ho0)) | ((with_reducible refine gate_dst (N := 6) rfl ?_); (try (refine gate_guard (by rfl) ?_; dsimp only)); refine box_event ?hg (N := 6) ?hd (cs := #[.int .i64 0, .slice none 0 0]) (t := 27) ?hr ?_; (case hd => rfl); (case hg => rfl); (case hr => first | (go_simp; done) | (go_simp; rfl)); intro gb390 hg w17 hbox hb; have n0_ := Am (Kd.R_below (by (with_reducible repeat (first | apply Ra | apply Rn | apply Rd)); exact HO384.out) hb); have n1_ := Am (Kd.R_below (by (with_reducible repeat (first | apply Ra | apply Rn | apply Rd)); exact HO388.out) hb); have n2_ := Am (below_step (by repeat (first | (with_reducible first | exact HB.out | apply Ba | apply Bn | apply Bd))) hb); have n3_ := Am (hbox); have n4_ := Am ((by rw [hg]; exact (below_size (by repeat (first | (with_reducible first | exact HB.out | apply Ba | apply Bn | apply Bd)))) : w.heap.size ≤ gb390)); have n5_ := Am ((by rw [hg]; exact (below_size (by repeat (first | (with_reducible first | exact HB.out | apply Ba | apply Bn | apply Bd)))) : w.heap.size ≤ gb390)); clear HO384; clear HO388; clear HB; have HO384 := n0_; have HO388 := n1_; have HB := n2_; have BK390 := n3_; have GW390 := n4_; have GE390 := n5_; clear n0_ n1_ n2_ n3_ n4_ n5_; clear hb hbox hg; have hcz18_0 : w17.cell? ⟨gb390, 0, none⟩ = some (.int .i64 0) := (Kc BK390.out 0).trans rfl; have hcz18_1 : w17.cell? ⟨gb390, 1, none⟩ = some (.slice none 0 0) := (Kc BK390.out 1).trans rfl; have hfz18_0 := Kf BK390.out 0; have hfz18_1 := Kf BK390.out 1; obtain ⟨Ao19, co19, eo19⟩ := Kd.R_slice HO388.out; subst eo19) | ((with_reducible refine gate_callee (f := 8) rfl ?_); refine goesL_ (some 36) rfl rfl Try.func8 (by kernel_rfl) rfl #[.slice Ao15 t382.length co15] rfl (by (try simp only [List.map_toArray, List.map_cons, List.map_nil]); first | done | rfl) ?_; (with_reducible refine (spec_BuildTournament.calls k _ _ t382 t391 t392 t395 _ ?side1 ?side2 A7.out).mono ?_); (case side1 => refine (Kd.R_reads' (e := 3) (base := w.heap.size) (ok := fun k_ => (True ∧ some k_ ≠ (.slice Ao19 t386.length co19 : Value).ownBlock)) (n := t382.length) (c := co15) ?_).2.2; exact (by (with_reducible repeat (first | apply Ra | apply Rn | apply Rd)); exact (Kd.R_mono (Kd.R_far (p := ⟨gb390, 1, none⟩) (Kd.R_far (p := ⟨gb390, 0, none⟩) (Kd.R_types HO384.out BK390.out (by decide)) (fun _ hk => hk.2) (.int .i64 t385)) (fun _ hk => hk.2) (.slice Ao19 t386.length co19)) (fun _ h_ => h_.1)))); (case side2 => exact (Kd.R_reads' HO384.out).2.1); rintro e w20 ⟨v393, rfl, ho0, hb⟩; refine ⟨_, rfl, ?_⟩; have n0_ := Am (Kd.R_elder' (by (with_reducible repeat (first | apply Ra | apply Rn | apply Rd)); exact (Kd.R_mono (Kd.R_far (p := ⟨gb390, 1, none⟩) (Kd.R_far (p := ⟨gb390, 0, none⟩) (Kd.R_types HO384.out BK390.out (by decide)) (fun _ hk => hk.2) (.int .i64 t385)) (fun _ hk => hk.2) (.slice Ao19 t386.length co19)) (fun _ h_ => h_.1))) (Kd.R_base ho0) hb); have n1_ := Am (Kd.R_elder' (by (with_reducible repeat (first | apply Ra | apply Rn | apply Rd)); exact (Kd.R_mono (Kd.R_far (p := ⟨gb390, 1, none⟩) (Kd.R_far (p := ⟨gb390, 0, none⟩) (Kd.R_types HO388.out BK390.out (by decide)) (fun _ hk => hk.2) (.int .i64 t385)) (fun _ hk => hk.2) (.slice Ao19 t386.length co19)) (fun _ h_ => h_.1))) (Kd.R_base ho0) hb); have n2_ := Am (Kd.R_lower (Kd.R_new' (Kd.R_new' ho0 (Kd.R_lt (by (with_reducible repeat (first | apply Ra | apply Rn | apply Rd)); exact (Kd.R_mono (Kd.R_far (p := ⟨gb390, 1, none⟩) (Kd.R_far (p := ⟨gb390, 0, none⟩) (Kd.R_types HO384.out BK390.out (by decide)) (fun _ hk => hk.2) (.int .i64 t385)) (fun _ hk => hk.2) (.slice Ao19 t386.length co19)) (fun _ h_ => h_.1))))) (Kd.R_lt (by (with_reducible repeat (first | apply Ra | apply Rn | apply Rd)); exact (Kd.R_mono (Kd.R_far (p := ⟨gb390, 1, none⟩) (Kd.R_far (p := ⟨gb390, 0, none⟩) (Kd.R_types HO388.out BK390.out (by decide)) (fun _ hk => hk.2) (.int .i64 t385)) (fun _ hk => hk.2) (.slice Ao19 t386.length co19)) (fun _ h_ => h_.1))))) (below_size (by repeat (first | (with_reducible first | exact HB.out | apply Ba | apply Bn | apply Bd | refine Bs ?_ GE390.out) | exact HB.out)))); have n3_ := Am (blk_below (g := gb390) (o := .cells #[.int .i64 t385, .slice Ao19 t386.length co19] 27 (0, 0)) (by (with_reducible repeat (first | refine Kn ?_ _ | refine Ke ?_ | refine Ka ?_ _)); refine blk_put (cs := #[.int .i64 t385, .slice none 0 0]) ?_ 1 _ rfl; (with_reducible repeat (first | refine Kn ?_ _ | refine Ke ?_ | refine Ka ?_ _)); refine blk_put (cs := #[.int .i64 0, .slice none 0 0]) ?_ 0 _ rfl; (with_reducible repeat (first | refine Kn ?_ _ | refine Ke ?_ | refine Ka ?_ _)); exact BK390.out) hb); have n4_ := Am (below_step (by repeat (first | (with_reducible first | exact HB.out | apply Ba | apply Bn | apply Bd | refine Bs ?_ GE390.out) | exact HB.out)) hb); clear HO384; clear HO388; clear BK390; clear HB; have HO384 := n0_; have HO388 := n1_; have HO394 := n2_; have BK390 := n3_; have HB := n4_; clear n0_ n1_ n2_ n3_ n4_; (try clear hb); (try clear hb2); (try clear hk); (try clear hi); (try clear ho0)) | ((with_reducible refine gate_dst (N := 8) rfl ?_); (try (refine gate_guard (by rfl) ?_; dsimp only)); refine box_event ?hg (N := 8) ?hd (cs := #[.int .i64 0, .slice none 0 0]) (t := 27) ?hr ?_; (case hd => rfl); (case hg => rfl); (case hr => first | (go_simp; done) | (go_simp; rfl)); intro gb396 hg w21 hbox hb; have n0_ := Am (Kd.R_below (by (with_reducible repeat (first | apply Ra | apply Rn | apply Rd)); exact HO384.out) hb); have n1_ := Am (Kd.R_below (by (with_reducible repeat (first | apply Ra | apply Rn | apply Rd)); exact HO388.out) hb); have n2_ := Am (Kd.R_below (by (with_reducible repeat (first | apply Ra | apply Rn | apply Rd)); exact HO394.out) hb); have n3_ := Am (blk_below (g := gb390) (o := .cells #[.int .i64 t385, .slice Ao19 t386.length co19] 27 (0, 0)) (by (with_reducible repeat (first | refine Kn ?_ _ | refine Ke ?_ | refine Ka ?_ _)); exact BK390.out) hb); have n4_ := Am (below_step (by repeat (first | (with_reducible first | exact HB.out | apply Ba | apply Bn | apply Bd | refine Bs ?_ GE390.out) | exact HB.out)) hb); have n5_ := Am (hbox); have n6_ := Am ((by rw [hg]; exact (below_size (by repeat (first | (with_reducible first | exact HB.out | apply Ba | apply Bn | apply Bd | refine Bs ?_ GE390.out) | exact HB.out))) : w.heap.size ≤ gb396)); have n7_ := Am ((by rw [hg]; exact (below_size (by repeat (first | (with_reducible first | exact HB.out | apply Ba | apply Bn | apply Bd | refine Bs ?_ GE390.out) | exact HB.out))) : w.heap.size ≤ gb396)); have n8_ := Am ((by rw [hg]; exact Nat.ne_of_lt (blk_lt (g := gb390) (o := .cells #[.int .i64 t385, .slice Ao19 t386.length co19] 27 (0, 0)) (by (with_reducible repeat (first | refine Kn ?_ _ | refine Ke ?_ | refine Ka ?_ _)); exact BK390.out)) : gb390 ≠ gb396)); have n9_ := Am ((by rw [hg]; exact Nat.ne_of_gt (blk_lt (g := gb390) (o := .cells #[.int .i64 t385, .slice Ao19 t386.length co19] 27 (0, 0)) (by (with_reducible repeat (first | refine Kn ?_ _ | refine Ke ?_ | refine Ka ?_ _)); exact BK390.out)) : gb396 ≠ gb390)); clear HO384; clear HO388; clear HO394; clear BK390; clear HB; have HO384 := n0_; have HO388 := n1_; have HO394 := n2_; have BK390 := n3_; have HB := n4_; have BK396 := n5_; have GW396 := n6_; have GE396 := n7_; have NB390_396 := n8_; have NB396_390 := n9_; clear n0_ n1_ n2_ n3_ n4_ n5_ n6_ n7_ n8_ n9_; clear hb hbox hg; have hnb22 := NB396_390.out; have hnc22 := NB390_396.out; have hcz23_0 : w21.cell? ⟨gb396, 0, none⟩ = some (.int .i64 0) := (Kc BK396.out 0).trans rfl; have hcz23_1 : w21.cell? ⟨gb396, 1, none⟩ = some (.slice none 0 0) := (Kc BK396.out 1).trans rfl; have hfz23_0 := Kf BK396.out 0; have hfz23_1 := Kf BK396.out 1; obtain ⟨Ao24, co24, eo24⟩ := Kd.R_slice HO394.out; subst eo24) | ((with_reducible refine gate_callee (f := 9) rfl ?_); refine goesL_ (some 41) rfl rfl Try.func9 (by kernel_rfl) rfl #[.slice Ao15 t382.length co15] rfl (by (try simp only [List.map_toArray, List.map_cons, List.map_nil]); first | done | rfl) ?_; (with_reducible refine (impl_RefusingScores.calls k _ _ t382 t397 t398 _ ?side1 ?side2 A8.out).mono ?_); (case side1 => refine (Kd.R_reads' (e := 3) (base := w.heap.size) (ok := fun k_ => ((True ∧ some k_ ≠ (.slice Ao19 t386.length co19 : Value).ownBlock) ∧ some k_ ≠ (.slice Ao24 t392.length co24 : Value).ownBlock)) (n := t382.length) (c := co15) ?_).2.2; exact (by (with_reducible repeat (first | apply Ra | apply Rn | apply Rd)); exact (Kd.R_mono (Kd.R_far (p := ⟨gb396, 1, none⟩) (Kd.R_far (p := ⟨gb396, 0, none⟩) (Kd.R_types HO384.out BK396.out (by decide)) (fun _ hk => hk.2) (.int .i64 t391)) (fun _ hk => hk.2) (.slice Ao24 t392.length co24)) (fun _ h_ => h_.1)))); (case side2 => exact (Kd.R_reads' HO384.out).2.1); rintro e w25 ⟨rfl, hb⟩; refine ⟨_, rfl, ?_⟩; have n0_ := Am (Kd.R_below (by (with_reducible repeat (first | apply Ra | apply Rn | apply Rd)); exact (Kd.R_mono (Kd.R_far (p := ⟨gb396, 1, none⟩) (Kd.R_far (p := ⟨gb396, 0, none⟩) (Kd.R_types HO384.out BK396.out (by decide)) (fun _ hk => hk.2) (.int .i64 t391)) (fun _ hk => hk.2) (.slice Ao24 t392.length co24)) (fun _ h_ => h_.1))) hb); have n1_ := Am (Kd.R_below (by (with_reducible repeat (first | apply Ra | apply Rn | apply Rd)); exact (Kd.R_mono (Kd.R_far (p := ⟨gb396, 1, none⟩) (Kd.R_far (p := ⟨gb396, 0, none⟩) (Kd.R_types HO388.out BK396.out (by decide)) (fun _ hk => hk.2) (.int .i64 t391)) (fun _ hk => hk.2) (.slice Ao24 t392.length co24)) (fun _ h_ => h_.1))) hb); have n2_ := Am (Kd.R_below (by (with_reducible repeat (first | apply Ra | apply Rn | apply Rd)); exact (Kd.R_mono (Kd.R_far (p := ⟨gb396, 1, none⟩) (Kd.R_far (p := ⟨gb396, 0, none⟩) (Kd.R_types HO394.out BK396.out (by decide)) (fun _ hk => hk.2) (.int .i64 t391)) (fun _ hk => hk.2) (.slice Ao24 t392.length co24)) (fun _ h_ => h_.1))) hb); have n3_ := Am (blk_below (g := gb390) (o := .cells #[.int .i64 t385, .slice Ao19 t386.length co19] 27 (0, 0)) (by (with_reducible repeat (first | refine Kn ?_ _ | refine Ke ?_ | refine Ka ?_ _)); refine blk_far ?_ NB390_396.out _; (with_reducible repeat (first | refine Kn ?_ _ | refine Ke ?_ | refine Ka ?_ _)); refine blk_far ?_ NB390_396.out _; (with_reducible repeat (first | refine Kn ?_ _ | refine Ke ?_ | refine Ka ?_ _)); exact BK390.out) hb); have n4_ := Am (blk_below (g := gb396) (o := .cells #[.int .i64 t391, .slice Ao24 t392.length co24] 27 (0, 0)) (by (with_reducible repeat (first | refine Kn ?_ _ | refine Ke ?_ | refine Ka ?_ _)); refine blk_put (cs := #[.int .i64 t391, .slice none 0 0]) ?_ 1 _ rfl; (with_reducible repeat (first | refine Kn ?_ _ | refine Ke ?_ | refine Ka ?_ _)); refine blk_put (cs := #[.int .i64 0, .slice none 0 0]) ?_ 0 _ rfl; (with_reducible repeat (first | refine Kn ?_ _ | refine Ke ?_ | refine Ka ?_ _)); exact BK396.out) hb); have n5_ := Am (below_step (by repeat (first | (with_reducible first | exact HB.out | apply Ba | apply Bn | apply Bd | refine Bs ?_ GE390.out | refine Bs ?_ GE396.out) | exact HB.out)) hb); clear HO384; clear HO388; clear HO394; clear BK390; clear BK396; clear HB; have HO384 := n0_; have HO388 := n1_; have HO394 := n2_; have BK390 := n3_; have BK396 := n4_; have HB := n5_; clear n0_ n1_ n2_ n3_ n4_ n5_; (try clear hb); (try clear hb2); (try clear hk); (try clear hi)) | ((with_reducible refine gate_callee (f := 10) rfl ?_); refine goesL_ (some 46) rfl rfl Try.func10 (by kernel_rfl) rfl #[.slice Ao15 t382.length co15] rfl (by (try simp only [List.map_toArray, List.map_cons, List.map_nil]); first | done | rfl) ?_; (with_reducible refine (spec_RefusingScores.calls k _ _ t382 t399 t400 _ ?side1 ?side2 A9.out).mono ?_); (case side1 => repeat (first | exact (Kd.R_reads' HO384.out).2.2 | (with_reducible refine Ca ?_ _) | (with_reducible refine Cn ?_ _) | (with_reducible refine Cd ?_))); (case side2 => exact (Kd.R_reads' HO384.out).2.1); rintro e w26 ⟨rfl, hb⟩; refine ⟨_, rfl, ?_⟩; have n0_ := Am (Kd.R_below (by (with_reducible repeat (first | apply Ra | apply Rn | apply Rd)); exact HO384.out) hb); have n1_ := Am (Kd.R_below (by (with_reducible repeat (first | apply Ra | apply Rn | apply Rd)); exact HO388.out) hb); have n2_ := Am (Kd.R_below (by (with_reducible repeat (first | apply Ra | apply Rn | apply Rd)); exact HO394.out) hb); have n3_ := Am (blk_below (g := gb390) (o := .cells #[.int .i64 t385, .slice Ao19 t386.length co19] 27 (0, 0)) (by (with_reducible repeat (first | refine Kn ?_ _ | refine Ke ?_ | refine Ka ?_ _)); exact BK390.out) hb); have n4_ := Am (blk_below (g := gb396) (o := .cells #[.int .i64 t391, .slice Ao24 t392.length co24] 27 (0, 0)) (by (with_reducible repeat (first | refine Kn ?_ _ | refine Ke ?_ | refine Ka ?_ _)); exact BK396.out) hb); have n5_ := Am (below_step (by repeat (first | (with_reducible first | exact HB.out | apply Ba | apply Bn | apply Bd | refine Bs ?_ GE390.out | refine Bs ?_ GE396.out) | exact HB.out)) hb); clear HO384; clear HO388; clear HO394; clear BK390; clear BK396; clear HB; have HO384 := n0_; have HO388 := n1_; have HO394 := n2_; have BK390 := n3_; have BK396 := n4_; have HB := n5_; clear n0_ n1_ n2_ n3_ n4_ n5_; (try clear hb); (try clear hb2); (try clear hk); (try clear hi)) | ((with_reducible refine gate_callee (f := 11) rfl ?_); refine goesL_ (some 51) rfl rfl Try.func11 (by kernel_rfl) rfl #[.slice Ao15 t382.length co15] rfl (by (try simp only [List.map_toArray, List.map_cons, List.map_nil]); first | done | rfl) ?_; (with_reducible refine (impl_AreScores.calls k _ _ t382 t401 t402 _ ?side1 ?side2 A10.out).mono ?_); (case side1 => repeat (first | exact (Kd.R_reads' HO384.out).2.2 | (with_reducible refine Ca ?_ _) | (with_reducible refine Cn ?_ _) | (with_reducible refine Cd ?_))); (case side2 => exact (Kd.R_reads' HO384.out).2.1); rintro e w27 ⟨rfl, hb⟩; refine ⟨_, rfl, ?_⟩; have n0_ := Am (Kd.R_below (by (with_reducible repeat (first | apply Ra | apply Rn | apply Rd)); exact HO384.out) hb); have n1_ := Am (Kd.R_below (by (with_reducible repeat (first | apply Ra | apply Rn | apply Rd)); exact HO388.out) hb); have n2_ := Am (Kd.R_below (by (with_reducible repeat (first | apply Ra | apply Rn | apply Rd)); exact HO394.out) hb); have n3_ := Am (blk_below (g := gb390) (o := .cells #[.int .i64 t385, .slice Ao19 t386.length co19] 27 (0, 0)) (by (with_reducible repeat (first | refine Kn ?_ _ | refine Ke ?_ | refine Ka ?_ _)); exact BK390.out) hb); have n4_ := Am (blk_below (g := gb396) (o := .cells #[.int .i64 t391, .slice Ao24 t392.length co24] 27 (0, 0)) (by (with_reducible repeat (first | refine Kn ?_ _ | refine Ke ?_ | refine Ka ?_ _)); exact BK396.out) hb); have n5_ := Am (below_step (by repeat (first | (with_reducible first | exact HB.out | apply Ba | apply Bn | apply Bd | refine Bs ?_ GE390.out | refine Bs ?_ GE396.out) | exact HB.out)) hb); clear HO384; clear HO388; clear HO394; clear BK390; clear BK396; clear HB; have HO384 := n0_; have HO388 := n1_; have HO394 := n2_; have BK390 := n3_; have BK396 := n4_; have HB := n5_; clear n0_ n1_ n2_ n3_ n4_ n5_; (try clear hb); (try clear hb2); (try clear hk); (try clear hi)) | ((with_reducible refine gate_callee (f := 12) rfl ?_); refine goesL_ (some 56) rfl rfl Try.func12 (by kernel_rfl) rfl #[.slice Ao15 t382.length co15] rfl (by (try simp only [List.map_toArray, List.map_cons, List.map_nil]); first | done | rfl) ?_; (with_reducible refine (impl_CountCircles.calls k _ _ t382 t403 t404 _ ?side1 ?side2 A11.out).mono ?_); (case side1 => repeat (first | exact (Kd.R_reads' HO384.out).2.2 | (with_reducible refine Ca ?_ _) | (with_reducible refine Cn ?_ _) | (with_reducible refine Cd ?_))); (case side2 => exact (Kd.R_reads' HO384.out).2.1); rintro e w28 ⟨rfl, hb⟩; refine ⟨_, rfl, ?_⟩; have n0_ := Am (Kd.R_below (by (with_reducible repeat (first | apply Ra | apply Rn | apply Rd)); exact HO384.out) hb); have n1_ := Am (Kd.R_below (by (with_reducible repeat (first | apply Ra | apply Rn | apply Rd)); exact HO388.out) hb); have n2_ := Am (Kd.R_below (by (with_reducible repeat (first | apply Ra | apply Rn | apply Rd)); exact HO394.out) hb); have n3_ := Am (blk_below (g := gb390) (o := .cells #[.int .i64 t385, .slice Ao19 t386.length co19] 27 (0, 0)) (by (with_reducible repeat (first | refine Kn ?_ _ | refine Ke ?_ | refine Ka ?_ _)); exact BK390.out) hb); have n4_ := Am (blk_below (g := gb396) (o := .cells #[.int .i64 t391, .slice Ao24 t392.length co24] 27 (0, 0)) (by (with_reducible repeat (first | refine Kn ?_ _ | refine Ke ?_ | refine Ka ?_ _)); exact BK396.out) hb); have n5_ := Am (below_step (by repeat (first | (with_reducible first | exact HB.out | apply Ba | apply Bn | apply Bd | refine Bs ?_ GE390.out | refine Bs ?_ GE396.out) | exact HB.out)) hb); clear HO384; clear HO388; clear HO394; clear BK390; clear BK396; clear HB; have HO384 := n0_; have HO388 := n1_; have HO394 := n2_; have BK390 := n3_; have BK396 := n4_; have HB := n5_; clear n0_ n1_ n2_ n3_ n4_ n5_; (try clear hb); (try clear hb2); (try clear hk); (try clear hi)) | ((with_reducible refine gate_callee (f := 13) rfl ?_); refine goesL_ (some 61) rfl rfl Try.func13 (by kernel_rfl) rfl #[.slice Ao15 t382.length co15] rfl (by (try simp only [List.map_toArray, List.map_cons, List.map_nil]); first | done | rfl) ?_; (with_reducible refine (spec_CountCircles.calls k _ _ t382 t405 t406 _ ?side1 ?side2 A12.out).mono ?_); (case side1 => repeat (first | exact (Kd.R_reads' HO384.out).2.2 | (with_reducible refine Ca ?_ _) | (with_reducible refine Cn ?_ _) | (with_reducible refine Cd ?_))); (case side2 => exact (Kd.R_reads' HO384.out).2.1); rintro e w29 ⟨rfl, hb⟩; refine ⟨_, rfl, ?_⟩; have n0_ := Am (Kd.R_below (by (with_reducible repeat (first | apply Ra | apply Rn | apply Rd)); exact HO384.out) hb); have n1_ := Am (Kd.R_below (by (with_reducible repeat (first | apply Ra | apply Rn | apply Rd)); exact HO388.out) hb); have n2_ := Am (Kd.R_below (by (with_reducible repeat (first | apply Ra | apply Rn | apply Rd)); exact HO394.out) hb); have n3_ := Am (blk_below (g := gb390) (o := .cells #[.int .i64 t385, .slice Ao19 t386.length co19] 27 (0, 0)) (by (with_reducible repeat (first | refine Kn ?_ _ | refine Ke ?_ | refine Ka ?_ _)); exact BK390.out) hb); have n4_ := Am (blk_below (g := gb396) (o := .cells #[.int .i64 t391, .slice Ao24 t392.length co24] 27 (0, 0)) (by (with_reducible repeat (first | refine Kn ?_ _ | refine Ke ?_ | refine Ka ?_ _)); exact BK396.out) hb); have n5_ := Am (below_step (by repeat (first | (with_reducible first | exact HB.out | apply Ba | apply Bn | apply Bd | refine Bs ?_ GE390.out | refine Bs ?_ GE396.out) | exact HB.out)) hb); clear HO384; clear HO388; clear HO394; clear BK390; clear BK396; clear HB; have HO384 := n0_; have HO388 := n1_; have HO394 := n2_; have BK390 := n3_; have BK396 := n4_; have HB := n5_; clear n0_ n1_ n2_ n3_ n4_ n5_; (try clear hb); (try clear hb2); (try clear hk); (try clear hi)))
  (try simp only [Act.put, List.setIfInBounds_toArray, List.set_cons_zero, List.set_cons_succ])
  go_cut [116] (fun v116 wc => ∃ (kq : Nat) (x116_12 : Bool), v116 = .bool x116_12 ∧ Aside0 (laws_FnTournamentsBuilt.j0 kq t382 t389 t403 x116_12 t385 t386 = some r) ∧ Aside0 (kq ≤ k) ∧ Aside0 (Kd.R (Kd.int .i64) 3 wc w.heap.size (fun k_ => some k_ ≠ ((.slice Ao19 t386.length co19) : Value).ownBlock ∧ some k_ ≠ ((.slice Ao24 t392.length co24) : Value).ownBlock) (.slice Ao15 t382.length co15) t382) ∧ Aside0 (Kd.R (Kd.int .i64) 3 wc w.heap.size (fun k_ => some k_ ≠ ((.slice Ao15 t382.length co15) : Value).ownBlock ∧ some k_ ≠ ((.slice Ao24 t392.length co24) : Value).ownBlock) (.slice Ao19 t386.length co19) t386) ∧ Aside0 (Kd.R (Kd.int .i64) 3 wc w.heap.size (fun k_ => some k_ ≠ ((.slice Ao15 t382.length co15) : Value).ownBlock ∧ some k_ ≠ ((.slice Ao19 t386.length co19) : Value).ownBlock) (.slice Ao24 t392.length co24) t392) ∧ Aside0 (wc.heap[gb390]? = some (.cells #[.int .i64 t385, (.slice Ao19 t386.length co19)] 27 (0, 0))) ∧ Aside0 (wc.heap[gb396]? = some (.cells #[.int .i64 t391, (.slice Ao24 t392.length co24)] 27 (0, 0))) ∧ Aside0 (Below w.heap.size w wc))
  case first =>
   have H := HC13.out
   clear HC13
   by_cases c30 : (t389 != t395) = true
   ·
    rw [if_pos c30] at H
    have c30b0 : (t389 != t395) = true := c30
    (try (have c30b1 : decide (t389 = t395) = false := by simpa using c30))
    (try (have c30b2 : (t389 == t395) = false := by simpa using c30))
    (try (have c30b3 : ¬ (t389 = t395) := by simpa using c30))
    clear c30
    (first | rw [c30b0] | (simp only [i64_w, i32_w]; rw [c30b0]) | skip)
    have H' := Am H
    clear H
    go_wp2
    go_meet
    case rel => exact ⟨_, (true), (by first | rfl | (simp; done) | (simp [*]; done)), H', ⟨by first | omega | exact Nat.le_refl _⟩, ⟨by (with_reducible repeat (first | apply Ra | apply Rn | apply Rd)); exact Kd.R_mono HO384.out (fun _ hk => ⟨hk.1.2, hk.2⟩)⟩, ⟨by (with_reducible repeat (first | apply Ra | apply Rn | apply Rd)); exact Kd.R_mono HO388.out (fun _ hk => ⟨hk.1.2, hk.2⟩)⟩, ⟨by (with_reducible repeat (first | apply Ra | apply Rn | apply Rd)); exact Kd.R_mono HO394.out (fun _ hk => ⟨hk.1.2, hk.2⟩)⟩, ⟨by (with_reducible repeat (first | refine Kn ?_ _ | refine Ke ?_ | refine Ka ?_ _)); exact BK390.out⟩, ⟨by (with_reducible repeat (first | refine Kn ?_ _ | refine Ke ?_ | refine Ka ?_ _)); exact BK396.out⟩, ⟨by repeat (first | (with_reducible first | exact HB.out | apply Ba | apply Bn | apply Bd | refine Bs ?_ GE390.out | refine Bs ?_ GE396.out) | exact HB.out)⟩⟩
   ·
    rw [if_neg c30] at H
    have c30b0 : (t389 != t395) = false := by simpa using c30
    (try (have c30b1 : decide (t389 = t395) = true := by simpa using c30))
    (try (have c30b2 : (t389 == t395) = true := by simpa using c30))
    clear c30
    (first | rw [c30b0] | (simp only [i64_w, i32_w]; rw [c30b0]) | skip)
    replace H := Option.bind_eq_some_iff.mp H
    obtain ⟨t407, A310, H⟩ := H
    replace H : (if t407 = true then (if (t398 != t400) = true then (laws_FnTournamentsBuilt.j0 k t382 t389 t403 true t385 t386) else (if t397 = t399 then (if (t401 != t389) = true then (laws_FnTournamentsBuilt.j0 k t382 t389 t403 true t385 t386) else ((impl_IsList.f k t382).bind fun t408 => (if (t402 != t408) = true then (laws_FnTournamentsBuilt.j0 k t382 t389 t403 true t385 t386) else (if t402 = true then (if (t389 == t398) = true then (laws_FnTournamentsBuilt.j0 k t382 t389 t403 true t385 t386) else (if (t404 != t406) = true then (laws_FnTournamentsBuilt.j0 k t382 t389 t403 true t385 t386) else (if t403 = t405 then (laws_FnTournamentsBuilt.j0 k t382 t389 t403 (t404 != t389) t385 t386) else (laws_FnTournamentsBuilt.j0 k t382 t389 t403 true t385 t386)))) else (if (t404 != t406) = true then (laws_FnTournamentsBuilt.j0 k t382 t389 t403 true t385 t386) else (if t403 = t405 then (laws_FnTournamentsBuilt.j0 k t382 t389 t403 (t404 != t389) t385 t386) else (laws_FnTournamentsBuilt.j0 k t382 t389 t403 true t385 t386))))))) else (laws_FnTournamentsBuilt.j0 k t382 t389 t403 true t385 t386))) else (laws_FnTournamentsBuilt.j0 k t382 t389 t403 true t385 t386)) = some r := H
    have A31 := Am A310
    clear A310
    by_cases c32 : t407 = true
    ·
     subst c32
     have H1 : (if (t398 != t400) = true then (laws_FnTournamentsBuilt.j0 k t382 t389 t403 true t385 t386) else (if t397 = t399 then (if (t401 != t389) = true then (laws_FnTournamentsBuilt.j0 k t382 t389 t403 true t385 t386) else ((impl_IsList.f k t382).bind fun t408 => (if (t402 != t408) = true then (laws_FnTournamentsBuilt.j0 k t382 t389 t403 true t385 t386) else (if t402 = true then (if (t389 == t398) = true then (laws_FnTournamentsBuilt.j0 k t382 t389 t403 true t385 t386) else (if (t404 != t406) = true then (laws_FnTournamentsBuilt.j0 k t382 t389 t403 true t385 t386) else (if t403 = t405 then (laws_FnTournamentsBuilt.j0 k t382 t389 t403 (t404 != t389) t385 t386) else (laws_FnTournamentsBuilt.j0 k t382 t389 t403 true t385 t386)))) else (if (t404 != t406) = true then (laws_FnTournamentsBuilt.j0 k t382 t389 t403 true t385 t386) else (if t403 = t405 then (laws_FnTournamentsBuilt.j0 k t382 t389 t403 (t404 != t389) t385 t386) else (laws_FnTournamentsBuilt.j0 k t382 t389 t403 true t385 t386))))))) else (laws_FnTournamentsBuilt.j0 k t382 t389 t403 true t385 t386))) = some r := by rw [if_pos rfl] at H; exact H
     clear H
     have H := H1
     clear H1
     by_cases c33 : (t398 != t400) = true
     ·
      rw [if_pos c33] at H
      have c33b0 : (t398 != t400) = true := c33
      (try (have c33b1 : decide (t398 = t400) = false := by simpa using c33))
      (try (have c33b2 : (t398 == t400) = false := by simpa using c33))
      (try (have c33b3 : ¬ (t398 = t400) := by simpa using c33))
      clear c33
      have H' := Am H
      clear H
      have hnb34 := NB390_396.out
      have hnc34 := NB396_390.out
      have hcz35_0 : w29.cell? ⟨gb390, 0, none⟩ = some (.int .i64 t385) := (Kc BK390.out 0).trans rfl
      have hcz35_1 : w29.cell? ⟨gb390, 1, none⟩ = some (.slice Ao19 t386.length co19) := (Kc BK390.out 1).trans rfl
      have hfz35_0 := Kf BK390.out 0
      have hfz35_1 := Kf BK390.out 1
      have hcz36_0 : w29.cell? ⟨gb396, 0, none⟩ = some (.int .i64 t391) := (Kc BK396.out 0).trans rfl
      have hcz36_1 : w29.cell? ⟨gb396, 1, none⟩ = some (.slice Ao24 t392.length co24) := (Kc BK396.out 1).trans rfl
      have hfz36_0 := Kf BK396.out 0
      have hfz36_1 := Kf BK396.out 1
      go_wp2_with (first | (go_at_call 14; (with_reducible refine (laws_yTournament.calls k t385 _ _ t386 t391 _ _ t392 true _ ?side1 ?side2 ?side3 ?side4 A31.out).mono ?_); (case side1 => repeat (first | exact (Kd.R_reads' HO388.out).2.2 | (with_reducible refine Ca ?_ _) | (with_reducible refine Cn ?_ _) | (with_reducible refine Cd ?_))); (case side2 => exact (Kd.R_reads' HO388.out).2.1); (case side3 => repeat (first | exact (Kd.R_reads' HO394.out).2.2 | (with_reducible refine Ca ?_ _) | (with_reducible refine Cn ?_ _) | (with_reducible refine Cd ?_))); (case side4 => exact (Kd.R_reads' HO394.out).2.1); rintro e w37 ⟨rfl, hb⟩; have n0_ := Am (Kd.R_below (by (with_reducible repeat (first | apply Ra | apply Rn | apply Rd)); exact HO384.out) hb); have n1_ := Am (Kd.R_below (by (with_reducible repeat (first | apply Ra | apply Rn | apply Rd)); exact HO388.out) hb); have n2_ := Am (Kd.R_below (by (with_reducible repeat (first | apply Ra | apply Rn | apply Rd)); exact HO394.out) hb); have n3_ := Am (blk_below (g := gb390) (o := .cells #[.int .i64 t385, .slice Ao19 t386.length co19] 27 (0, 0)) (by (with_reducible repeat (first | refine Kn ?_ _ | refine Ke ?_ | refine Ka ?_ _)); exact BK390.out) hb); have n4_ := Am (blk_below (g := gb396) (o := .cells #[.int .i64 t391, .slice Ao24 t392.length co24] 27 (0, 0)) (by (with_reducible repeat (first | refine Kn ?_ _ | refine Ke ?_ | refine Ka ?_ _)); exact BK396.out) hb); have n5_ := Am (below_step (by repeat (first | (with_reducible first | exact HB.out | apply Ba | apply Bn | apply Bd | refine Bs ?_ GE390.out | refine Bs ?_ GE396.out) | exact HB.out)) hb); clear HO384; clear HO388; clear HO394; clear BK390; clear BK396; clear HB; have HO384 := n0_; have HO388 := n1_; have HO394 := n2_; have BK390 := n3_; have BK396 := n4_; have HB := n5_; clear n0_ n1_ n2_ n3_ n4_ n5_; (try clear hb); (try clear hb2); (try clear hk); (try clear hi)))
      go_meet
      case rel => exact ⟨_, (true), (by first | rfl | (simp; done) | (simp [*]; done)), H', ⟨by first | omega | exact Nat.le_refl _⟩, ⟨by (with_reducible repeat (first | apply Ra | apply Rn | apply Rd)); exact Kd.R_mono HO384.out (fun _ hk => ⟨hk.1.2, hk.2⟩)⟩, ⟨by (with_reducible repeat (first | apply Ra | apply Rn | apply Rd)); exact Kd.R_mono HO388.out (fun _ hk => ⟨hk.1.2, hk.2⟩)⟩, ⟨by (with_reducible repeat (first | apply Ra | apply Rn | apply Rd)); exact Kd.R_mono HO394.out (fun _ hk => ⟨hk.1.2, hk.2⟩)⟩, ⟨by (with_reducible repeat (first | refine Kn ?_ _ | refine Ke ?_ | refine Ka ?_ _)); exact BK390.out⟩, ⟨by (with_reducible repeat (first | refine Kn ?_ _ | refine Ke ?_ | refine Ka ?_ _)); exact BK396.out⟩, ⟨by repeat (first | (with_reducible first | exact HB.out | apply Ba | apply Bn | apply Bd | refine Bs ?_ GE390.out | refine Bs ?_ GE396.out) | exact HB.out)⟩⟩
     ·
      rw [if_neg c33] at H
      have c33b0 : (t398 != t400) = false := by simpa using c33
      (try (have c33b1 : decide (t398 = t400) = true := by simpa using c33))
      (try (have c33b2 : (t398 == t400) = true := by simpa using c33))
      clear c33
      by_cases c38 : t397 = t399
      ·
       rw [if_pos c38] at H
       have c38b0 : (t397 == t399) = true := beq_iff_eq.mpr c38
       have c38b1 : (t397 != t399) = false := bne_eq_false_iff_eq.mpr c38
       clear c38
       by_cases c39 : (t401 != t389) = true
       ·
        rw [if_pos c39] at H
        have c39b0 : (t401 != t389) = true := c39
        (try (have c39b1 : decide (t401 = t389) = false := by simpa using c39))
        (try (have c39b2 : (t401 == t389) = false := by simpa using c39))
        (try (have c39b3 : ¬ (t401 = t389) := by simpa using c39))
        clear c39
        have H' := Am H
        clear H
        have hnb40 := NB390_396.out
        have hnc40 := NB396_390.out
        have hcz41_0 : w29.cell? ⟨gb390, 0, none⟩ = some (.int .i64 t385) := (Kc BK390.out 0).trans rfl
        have hcz41_1 : w29.cell? ⟨gb390, 1, none⟩ = some (.slice Ao19 t386.length co19) := (Kc BK390.out 1).trans rfl
        have hfz41_0 := Kf BK390.out 0
        have hfz41_1 := Kf BK390.out 1
        have hcz42_0 : w29.cell? ⟨gb396, 0, none⟩ = some (.int .i64 t391) := (Kc BK396.out 0).trans rfl
        have hcz42_1 : w29.cell? ⟨gb396, 1, none⟩ = some (.slice Ao24 t392.length co24) := (Kc BK396.out 1).trans rfl
        have hfz42_0 := Kf BK396.out 0
        have hfz42_1 := Kf BK396.out 1
        go_wp2_with (first | (go_at_call 14; (with_reducible refine (laws_yTournament.calls k t385 _ _ t386 t391 _ _ t392 true _ ?side1 ?side2 ?side3 ?side4 A31.out).mono ?_); (case side1 => repeat (first | exact (Kd.R_reads' HO388.out).2.2 | (with_reducible refine Ca ?_ _) | (with_reducible refine Cn ?_ _) | (with_reducible refine Cd ?_))); (case side2 => exact (Kd.R_reads' HO388.out).2.1); (case side3 => repeat (first | exact (Kd.R_reads' HO394.out).2.2 | (with_reducible refine Ca ?_ _) | (with_reducible refine Cn ?_ _) | (with_reducible refine Cd ?_))); (case side4 => exact (Kd.R_reads' HO394.out).2.1); rintro e w43 ⟨rfl, hb⟩; have n0_ := Am (Kd.R_below (by (with_reducible repeat (first | apply Ra | apply Rn | apply Rd)); exact HO384.out) hb); have n1_ := Am (Kd.R_below (by (with_reducible repeat (first | apply Ra | apply Rn | apply Rd)); exact HO388.out) hb); have n2_ := Am (Kd.R_below (by (with_reducible repeat (first | apply Ra | apply Rn | apply Rd)); exact HO394.out) hb); have n3_ := Am (blk_below (g := gb390) (o := .cells #[.int .i64 t385, .slice Ao19 t386.length co19] 27 (0, 0)) (by (with_reducible repeat (first | refine Kn ?_ _ | refine Ke ?_ | refine Ka ?_ _)); exact BK390.out) hb); have n4_ := Am (blk_below (g := gb396) (o := .cells #[.int .i64 t391, .slice Ao24 t392.length co24] 27 (0, 0)) (by (with_reducible repeat (first | refine Kn ?_ _ | refine Ke ?_ | refine Ka ?_ _)); exact BK396.out) hb); have n5_ := Am (below_step (by repeat (first | (with_reducible first | exact HB.out | apply Ba | apply Bn | apply Bd | refine Bs ?_ GE390.out | refine Bs ?_ GE396.out) | exact HB.out)) hb); clear HO384; clear HO388; clear HO394; clear BK390; clear BK396; clear HB; have HO384 := n0_; have HO388 := n1_; have HO394 := n2_; have BK390 := n3_; have BK396 := n4_; have HB := n5_; clear n0_ n1_ n2_ n3_ n4_ n5_; (try clear hb); (try clear hb2); (try clear hk); (try clear hi)))
        go_meet
        case rel => exact ⟨_, (true), (by first | rfl | (simp; done) | (simp [*]; done)), H', ⟨by first | omega | exact Nat.le_refl _⟩, ⟨by (with_reducible repeat (first | apply Ra | apply Rn | apply Rd)); exact Kd.R_mono HO384.out (fun _ hk => ⟨hk.1.2, hk.2⟩)⟩, ⟨by (with_reducible repeat (first | apply Ra | apply Rn | apply Rd)); exact Kd.R_mono HO388.out (fun _ hk => ⟨hk.1.2, hk.2⟩)⟩, ⟨by (with_reducible repeat (first | apply Ra | apply Rn | apply Rd)); exact Kd.R_mono HO394.out (fun _ hk => ⟨hk.1.2, hk.2⟩)⟩, ⟨by (with_reducible repeat (first | refine Kn ?_ _ | refine Ke ?_ | refine Ka ?_ _)); exact BK390.out⟩, ⟨by (with_reducible repeat (first | refine Kn ?_ _ | refine Ke ?_ | refine Ka ?_ _)); exact BK396.out⟩, ⟨by repeat (first | (with_reducible first | exact HB.out | apply Ba | apply Bn | apply Bd | refine Bs ?_ GE390.out | refine Bs ?_ GE396.out) | exact HB.out)⟩⟩
       ·
        rw [if_neg c39] at H
        have c39b0 : (t401 != t389) = false := by simpa using c39
        (try (have c39b1 : decide (t401 = t389) = true := by simpa using c39))
        (try (have c39b2 : (t401 == t389) = true := by simpa using c39))
        clear c39
        replace H := Option.bind_eq_some_iff.mp H
        obtain ⟨t408, A440, H⟩ := H
        replace H : (if (t402 != t408) = true then (laws_FnTournamentsBuilt.j0 k t382 t389 t403 true t385 t386) else (if t402 = true then (if (t389 == t398) = true then (laws_FnTournamentsBuilt.j0 k t382 t389 t403 true t385 t386) else (if (t404 != t406) = true then (laws_FnTournamentsBuilt.j0 k t382 t389 t403 true t385 t386) else (if t403 = t405 then (laws_FnTournamentsBuilt.j0 k t382 t389 t403 (t404 != t389) t385 t386) else (laws_FnTournamentsBuilt.j0 k t382 t389 t403 true t385 t386)))) else (if (t404 != t406) = true then (laws_FnTournamentsBuilt.j0 k t382 t389 t403 true t385 t386) else (if t403 = t405 then (laws_FnTournamentsBuilt.j0 k t382 t389 t403 (t404 != t389) t385 t386) else (laws_FnTournamentsBuilt.j0 k t382 t389 t403 true t385 t386))))) = some r := H
        have A44 := Am A440
        clear A440
        by_cases c45 : (t402 != t408) = true
        ·
         rw [if_pos c45] at H
         have c45b0 : (t402 != t408) = true := c45
         (try (have c45b1 : decide (t402 = t408) = false := by simpa using c45))
         (try (have c45b2 : (t402 == t408) = false := by simpa using c45))
         (try (have c45b3 : ¬ (t402 = t408) := by simpa using c45))
         clear c45
         have H' := Am H
         clear H
         have hnb46 := NB390_396.out
         have hnc46 := NB396_390.out
         have hcz47_0 : w29.cell? ⟨gb390, 0, none⟩ = some (.int .i64 t385) := (Kc BK390.out 0).trans rfl
         have hcz47_1 : w29.cell? ⟨gb390, 1, none⟩ = some (.slice Ao19 t386.length co19) := (Kc BK390.out 1).trans rfl
         have hfz47_0 := Kf BK390.out 0
         have hfz47_1 := Kf BK390.out 1
         have hcz48_0 : w29.cell? ⟨gb396, 0, none⟩ = some (.int .i64 t391) := (Kc BK396.out 0).trans rfl
         have hcz48_1 : w29.cell? ⟨gb396, 1, none⟩ = some (.slice Ao24 t392.length co24) := (Kc BK396.out 1).trans rfl
         have hfz48_0 := Kf BK396.out 0
         have hfz48_1 := Kf BK396.out 1
         go_wp2_with (first | (go_at_call 14; (with_reducible refine (laws_yTournament.calls k t385 _ _ t386 t391 _ _ t392 true _ ?side1 ?side2 ?side3 ?side4 A31.out).mono ?_); (case side1 => repeat (first | exact (Kd.R_reads' HO388.out).2.2 | (with_reducible refine Ca ?_ _) | (with_reducible refine Cn ?_ _) | (with_reducible refine Cd ?_))); (case side2 => exact (Kd.R_reads' HO388.out).2.1); (case side3 => repeat (first | exact (Kd.R_reads' HO394.out).2.2 | (with_reducible refine Ca ?_ _) | (with_reducible refine Cn ?_ _) | (with_reducible refine Cd ?_))); (case side4 => exact (Kd.R_reads' HO394.out).2.1); rintro e w49 ⟨rfl, hb⟩; have n0_ := Am (Kd.R_below (by (with_reducible repeat (first | apply Ra | apply Rn | apply Rd)); exact HO384.out) hb); have n1_ := Am (Kd.R_below (by (with_reducible repeat (first | apply Ra | apply Rn | apply Rd)); exact HO388.out) hb); have n2_ := Am (Kd.R_below (by (with_reducible repeat (first | apply Ra | apply Rn | apply Rd)); exact HO394.out) hb); have n3_ := Am (blk_below (g := gb390) (o := .cells #[.int .i64 t385, .slice Ao19 t386.length co19] 27 (0, 0)) (by (with_reducible repeat (first | refine Kn ?_ _ | refine Ke ?_ | refine Ka ?_ _)); exact BK390.out) hb); have n4_ := Am (blk_below (g := gb396) (o := .cells #[.int .i64 t391, .slice Ao24 t392.length co24] 27 (0, 0)) (by (with_reducible repeat (first | refine Kn ?_ _ | refine Ke ?_ | refine Ka ?_ _)); exact BK396.out) hb); have n5_ := Am (below_step (by repeat (first | (with_reducible first | exact HB.out | apply Ba | apply Bn | apply Bd | refine Bs ?_ GE390.out | refine Bs ?_ GE396.out) | exact HB.out)) hb); clear HO384; clear HO388; clear HO394; clear BK390; clear BK396; clear HB; have HO384 := n0_; have HO388 := n1_; have HO394 := n2_; have BK390 := n3_; have BK396 := n4_; have HB := n5_; clear n0_ n1_ n2_ n3_ n4_ n5_; (try clear hb); (try clear hb2); (try clear hk); (try clear hi)) | (go_at_call 15; (with_reducible refine (impl_IsList.calls k _ _ t382 t408 _ ?side1 ?side2 A44.out).mono ?_); (case side1 => repeat (first | exact (Kd.R_reads' HO384.out).2.2 | (with_reducible refine Ca ?_ _) | (with_reducible refine Cn ?_ _) | (with_reducible refine Cd ?_))); (case side2 => exact (Kd.R_reads' HO384.out).2.1); rintro e w' ⟨rfl, ⟨nd, rfl⟩⟩))
         go_meet
         case rel => exact ⟨_, (true), (by first | rfl | (simp; done) | (simp [*]; done)), H', ⟨by first | omega | exact Nat.le_refl _⟩, ⟨by (with_reducible repeat (first | apply Ra | apply Rn | apply Rd)); exact Kd.R_mono HO384.out (fun _ hk => ⟨hk.1.2, hk.2⟩)⟩, ⟨by (with_reducible repeat (first | apply Ra | apply Rn | apply Rd)); exact Kd.R_mono HO388.out (fun _ hk => ⟨hk.1.2, hk.2⟩)⟩, ⟨by (with_reducible repeat (first | apply Ra | apply Rn | apply Rd)); exact Kd.R_mono HO394.out (fun _ hk => ⟨hk.1.2, hk.2⟩)⟩, ⟨by (with_reducible repeat (first | refine Kn ?_ _ | refine Ke ?_ | refine Ka ?_ _)); exact BK390.out⟩, ⟨by (with_reducible repeat (first | refine Kn ?_ _ | refine Ke ?_ | refine Ka ?_ _)); exact BK396.out⟩, ⟨by repeat (first | (with_reducible first | exact HB.out | apply Ba | apply Bn | apply Bd | refine Bs ?_ GE390.out | refine Bs ?_ GE396.out) | exact HB.out)⟩⟩
        ·
         rw [if_neg c45] at H
         have c45b0 : (t402 != t408) = false := by simpa using c45
         (try (have c45b1 : decide (t402 = t408) = true := by simpa using c45))
         (try (have c45b2 : (t402 == t408) = true := by simpa using c45))
         clear c45
         by_cases c50 : t402 = true
         ·
          subst c50
          have H1 : (if (t389 == t398) = true then (laws_FnTournamentsBuilt.j0 k t382 t389 t403 true t385 t386) else (if (t404 != t406) = true then (laws_FnTournamentsBuilt.j0 k t382 t389 t403 true t385 t386) else (if t403 = t405 then (laws_FnTournamentsBuilt.j0 k t382 t389 t403 (t404 != t389) t385 t386) else (laws_FnTournamentsBuilt.j0 k t382 t389 t403 true t385 t386)))) = some r := by rw [if_pos rfl] at H; exact H
          clear H
          have H := H1
          clear H1
          by_cases c51 : (t389 == t398) = true
          ·
           rw [if_pos c51] at H
           have c51b0 : (t389 == t398) = true := c51
           (try (have c51b1 : decide (t389 = t398) = true := by simpa using c51))
           (try (have c51b2 : (t389 == t398) = true := by simpa using c51))
           clear c51
           have H' := Am H
           clear H
           have hnb52 := NB390_396.out
           have hnc52 := NB396_390.out
           have hcz53_0 : w29.cell? ⟨gb390, 0, none⟩ = some (.int .i64 t385) := (Kc BK390.out 0).trans rfl
           have hcz53_1 : w29.cell? ⟨gb390, 1, none⟩ = some (.slice Ao19 t386.length co19) := (Kc BK390.out 1).trans rfl
           have hfz53_0 := Kf BK390.out 0
           have hfz53_1 := Kf BK390.out 1
           have hcz54_0 : w29.cell? ⟨gb396, 0, none⟩ = some (.int .i64 t391) := (Kc BK396.out 0).trans rfl
           have hcz54_1 : w29.cell? ⟨gb396, 1, none⟩ = some (.slice Ao24 t392.length co24) := (Kc BK396.out 1).trans rfl
           have hfz54_0 := Kf BK396.out 0
           have hfz54_1 := Kf BK396.out 1
           go_wp2_with (first | (go_at_call 14; (with_reducible refine (laws_yTournament.calls k t385 _ _ t386 t391 _ _ t392 true _ ?side1 ?side2 ?side3 ?side4 A31.out).mono ?_); (case side1 => repeat (first | exact (Kd.R_reads' HO388.out).2.2 | (with_reducible refine Ca ?_ _) | (with_reducible refine Cn ?_ _) | (with_reducible refine Cd ?_))); (case side2 => exact (Kd.R_reads' HO388.out).2.1); (case side3 => repeat (first | exact (Kd.R_reads' HO394.out).2.2 | (with_reducible refine Ca ?_ _) | (with_reducible refine Cn ?_ _) | (with_reducible refine Cd ?_))); (case side4 => exact (Kd.R_reads' HO394.out).2.1); rintro e w55 ⟨rfl, hb⟩; have n0_ := Am (Kd.R_below (by (with_reducible repeat (first | apply Ra | apply Rn | apply Rd)); exact HO384.out) hb); have n1_ := Am (Kd.R_below (by (with_reducible repeat (first | apply Ra | apply Rn | apply Rd)); exact HO388.out) hb); have n2_ := Am (Kd.R_below (by (with_reducible repeat (first | apply Ra | apply Rn | apply Rd)); exact HO394.out) hb); have n3_ := Am (blk_below (g := gb390) (o := .cells #[.int .i64 t385, .slice Ao19 t386.length co19] 27 (0, 0)) (by (with_reducible repeat (first | refine Kn ?_ _ | refine Ke ?_ | refine Ka ?_ _)); exact BK390.out) hb); have n4_ := Am (blk_below (g := gb396) (o := .cells #[.int .i64 t391, .slice Ao24 t392.length co24] 27 (0, 0)) (by (with_reducible repeat (first | refine Kn ?_ _ | refine Ke ?_ | refine Ka ?_ _)); exact BK396.out) hb); have n5_ := Am (below_step (by repeat (first | (with_reducible first | exact HB.out | apply Ba | apply Bn | apply Bd | refine Bs ?_ GE390.out | refine Bs ?_ GE396.out) | exact HB.out)) hb); clear HO384; clear HO388; clear HO394; clear BK390; clear BK396; clear HB; have HO384 := n0_; have HO388 := n1_; have HO394 := n2_; have BK390 := n3_; have BK396 := n4_; have HB := n5_; clear n0_ n1_ n2_ n3_ n4_ n5_; (try clear hb); (try clear hb2); (try clear hk); (try clear hi)) | (go_at_call 15; (with_reducible refine (impl_IsList.calls k _ _ t382 t408 _ ?side1 ?side2 A44.out).mono ?_); (case side1 => repeat (first | exact (Kd.R_reads' HO384.out).2.2 | (with_reducible refine Ca ?_ _) | (with_reducible refine Cn ?_ _) | (with_reducible refine Cd ?_))); (case side2 => exact (Kd.R_reads' HO384.out).2.1); rintro e w' ⟨rfl, ⟨nd, rfl⟩⟩))
           go_meet
           case rel => exact ⟨_, (true), (by first | rfl | (simp; done) | (simp [*]; done)), H', ⟨by first | omega | exact Nat.le_refl _⟩, ⟨by (with_reducible repeat (first | apply Ra | apply Rn | apply Rd)); exact Kd.R_mono HO384.out (fun _ hk => ⟨hk.1.2, hk.2⟩)⟩, ⟨by (with_reducible repeat (first | apply Ra | apply Rn | apply Rd)); exact Kd.R_mono HO388.out (fun _ hk => ⟨hk.1.2, hk.2⟩)⟩, ⟨by (with_reducible repeat (first | apply Ra | apply Rn | apply Rd)); exact Kd.R_mono HO394.out (fun _ hk => ⟨hk.1.2, hk.2⟩)⟩, ⟨by (with_reducible repeat (first | refine Kn ?_ _ | refine Ke ?_ | refine Ka ?_ _)); exact BK390.out⟩, ⟨by (with_reducible repeat (first | refine Kn ?_ _ | refine Ke ?_ | refine Ka ?_ _)); exact BK396.out⟩, ⟨by repeat (first | (with_reducible first | exact HB.out | apply Ba | apply Bn | apply Bd | refine Bs ?_ GE390.out | refine Bs ?_ GE396.out) | exact HB.out)⟩⟩
          ·
           rw [if_neg c51] at H
           have c51b0 : (t389 == t398) = false := by simpa using c51
           (try (have c51b1 : decide (t389 = t398) = false := by simpa using c51))
           (try (have c51b2 : (t389 == t398) = false := by simpa using c51))
           (try (have c51b3 : ¬ (t389 = t398) := by simpa using c51))
           clear c51
           by_cases c56 : (t404 != t406) = true
           ·
            rw [if_pos c56] at H
            have c56b0 : (t404 != t406) = true := c56
            (try (have c56b1 : decide (t404 = t406) = false := by simpa using c56))
            (try (have c56b2 : (t404 == t406) = false := by simpa using c56))
            (try (have c56b3 : ¬ (t404 = t406) := by simpa using c56))
            clear c56
            have H' := Am H
            clear H
            have hnb57 := NB390_396.out
            have hnc57 := NB396_390.out
            have hcz58_0 : w29.cell? ⟨gb390, 0, none⟩ = some (.int .i64 t385) := (Kc BK390.out 0).trans rfl
            have hcz58_1 : w29.cell? ⟨gb390, 1, none⟩ = some (.slice Ao19 t386.length co19) := (Kc BK390.out 1).trans rfl
            have hfz58_0 := Kf BK390.out 0
            have hfz58_1 := Kf BK390.out 1
            have hcz59_0 : w29.cell? ⟨gb396, 0, none⟩ = some (.int .i64 t391) := (Kc BK396.out 0).trans rfl
            have hcz59_1 : w29.cell? ⟨gb396, 1, none⟩ = some (.slice Ao24 t392.length co24) := (Kc BK396.out 1).trans rfl
            have hfz59_0 := Kf BK396.out 0
            have hfz59_1 := Kf BK396.out 1
            go_wp2_with (first | (go_at_call 14; (with_reducible refine (laws_yTournament.calls k t385 _ _ t386 t391 _ _ t392 true _ ?side1 ?side2 ?side3 ?side4 A31.out).mono ?_); (case side1 => repeat (first | exact (Kd.R_reads' HO388.out).2.2 | (with_reducible refine Ca ?_ _) | (with_reducible refine Cn ?_ _) | (with_reducible refine Cd ?_))); (case side2 => exact (Kd.R_reads' HO388.out).2.1); (case side3 => repeat (first | exact (Kd.R_reads' HO394.out).2.2 | (with_reducible refine Ca ?_ _) | (with_reducible refine Cn ?_ _) | (with_reducible refine Cd ?_))); (case side4 => exact (Kd.R_reads' HO394.out).2.1); rintro e w60 ⟨rfl, hb⟩; have n0_ := Am (Kd.R_below (by (with_reducible repeat (first | apply Ra | apply Rn | apply Rd)); exact HO384.out) hb); have n1_ := Am (Kd.R_below (by (with_reducible repeat (first | apply Ra | apply Rn | apply Rd)); exact HO388.out) hb); have n2_ := Am (Kd.R_below (by (with_reducible repeat (first | apply Ra | apply Rn | apply Rd)); exact HO394.out) hb); have n3_ := Am (blk_below (g := gb390) (o := .cells #[.int .i64 t385, .slice Ao19 t386.length co19] 27 (0, 0)) (by (with_reducible repeat (first | refine Kn ?_ _ | refine Ke ?_ | refine Ka ?_ _)); exact BK390.out) hb); have n4_ := Am (blk_below (g := gb396) (o := .cells #[.int .i64 t391, .slice Ao24 t392.length co24] 27 (0, 0)) (by (with_reducible repeat (first | refine Kn ?_ _ | refine Ke ?_ | refine Ka ?_ _)); exact BK396.out) hb); have n5_ := Am (below_step (by repeat (first | (with_reducible first | exact HB.out | apply Ba | apply Bn | apply Bd | refine Bs ?_ GE390.out | refine Bs ?_ GE396.out) | exact HB.out)) hb); clear HO384; clear HO388; clear HO394; clear BK390; clear BK396; clear HB; have HO384 := n0_; have HO388 := n1_; have HO394 := n2_; have BK390 := n3_; have BK396 := n4_; have HB := n5_; clear n0_ n1_ n2_ n3_ n4_ n5_; (try clear hb); (try clear hb2); (try clear hk); (try clear hi)) | (go_at_call 15; (with_reducible refine (impl_IsList.calls k _ _ t382 t408 _ ?side1 ?side2 A44.out).mono ?_); (case side1 => repeat (first | exact (Kd.R_reads' HO384.out).2.2 | (with_reducible refine Ca ?_ _) | (with_reducible refine Cn ?_ _) | (with_reducible refine Cd ?_))); (case side2 => exact (Kd.R_reads' HO384.out).2.1); rintro e w' ⟨rfl, ⟨nd, rfl⟩⟩))
            go_meet
            case rel => exact ⟨_, (true), (by first | rfl | (simp; done) | (simp [*]; done)), H', ⟨by first | omega | exact Nat.le_refl _⟩, ⟨by (with_reducible repeat (first | apply Ra | apply Rn | apply Rd)); exact Kd.R_mono HO384.out (fun _ hk => ⟨hk.1.2, hk.2⟩)⟩, ⟨by (with_reducible repeat (first | apply Ra | apply Rn | apply Rd)); exact Kd.R_mono HO388.out (fun _ hk => ⟨hk.1.2, hk.2⟩)⟩, ⟨by (with_reducible repeat (first | apply Ra | apply Rn | apply Rd)); exact Kd.R_mono HO394.out (fun _ hk => ⟨hk.1.2, hk.2⟩)⟩, ⟨by (with_reducible repeat (first | refine Kn ?_ _ | refine Ke ?_ | refine Ka ?_ _)); exact BK390.out⟩, ⟨by (with_reducible repeat (first | refine Kn ?_ _ | refine Ke ?_ | refine Ka ?_ _)); exact BK396.out⟩, ⟨by repeat (first | (with_reducible first | exact HB.out | apply Ba | apply Bn | apply Bd | refine Bs ?_ GE390.out | refine Bs ?_ GE396.out) | exact HB.out)⟩⟩
           ·
            rw [if_neg c56] at H
            have c56b0 : (t404 != t406) = false := by simpa using c56
            (try (have c56b1 : decide (t404 = t406) = true := by simpa using c56))
            (try (have c56b2 : (t404 == t406) = true := by simpa using c56))
            clear c56
            by_cases c61 : t403 = t405
            ·
             rw [if_pos c61] at H
             have c61b0 : (t403 == t405) = true := beq_iff_eq.mpr c61
             have c61b1 : (t403 != t405) = false := bne_eq_false_iff_eq.mpr c61
             clear c61
             have H' := Am H
             clear H
             have hnb62 := NB390_396.out
             have hnc62 := NB396_390.out
             have hcz63_0 : w29.cell? ⟨gb390, 0, none⟩ = some (.int .i64 t385) := (Kc BK390.out 0).trans rfl
             have hcz63_1 : w29.cell? ⟨gb390, 1, none⟩ = some (.slice Ao19 t386.length co19) := (Kc BK390.out 1).trans rfl
             have hfz63_0 := Kf BK390.out 0
             have hfz63_1 := Kf BK390.out 1
             have hcz64_0 : w29.cell? ⟨gb396, 0, none⟩ = some (.int .i64 t391) := (Kc BK396.out 0).trans rfl
             have hcz64_1 : w29.cell? ⟨gb396, 1, none⟩ = some (.slice Ao24 t392.length co24) := (Kc BK396.out 1).trans rfl
             have hfz64_0 := Kf BK396.out 0
             have hfz64_1 := Kf BK396.out 1
             go_wp2_with (first | (go_at_call 14; (with_reducible refine (laws_yTournament.calls k t385 _ _ t386 t391 _ _ t392 true _ ?side1 ?side2 ?side3 ?side4 A31.out).mono ?_); (case side1 => repeat (first | exact (Kd.R_reads' HO388.out).2.2 | (with_reducible refine Ca ?_ _) | (with_reducible refine Cn ?_ _) | (with_reducible refine Cd ?_))); (case side2 => exact (Kd.R_reads' HO388.out).2.1); (case side3 => repeat (first | exact (Kd.R_reads' HO394.out).2.2 | (with_reducible refine Ca ?_ _) | (with_reducible refine Cn ?_ _) | (with_reducible refine Cd ?_))); (case side4 => exact (Kd.R_reads' HO394.out).2.1); rintro e w65 ⟨rfl, hb⟩; have n0_ := Am (Kd.R_below (by (with_reducible repeat (first | apply Ra | apply Rn | apply Rd)); exact HO384.out) hb); have n1_ := Am (Kd.R_below (by (with_reducible repeat (first | apply Ra | apply Rn | apply Rd)); exact HO388.out) hb); have n2_ := Am (Kd.R_below (by (with_reducible repeat (first | apply Ra | apply Rn | apply Rd)); exact HO394.out) hb); have n3_ := Am (blk_below (g := gb390) (o := .cells #[.int .i64 t385, .slice Ao19 t386.length co19] 27 (0, 0)) (by (with_reducible repeat (first | refine Kn ?_ _ | refine Ke ?_ | refine Ka ?_ _)); exact BK390.out) hb); have n4_ := Am (blk_below (g := gb396) (o := .cells #[.int .i64 t391, .slice Ao24 t392.length co24] 27 (0, 0)) (by (with_reducible repeat (first | refine Kn ?_ _ | refine Ke ?_ | refine Ka ?_ _)); exact BK396.out) hb); have n5_ := Am (below_step (by repeat (first | (with_reducible first | exact HB.out | apply Ba | apply Bn | apply Bd | refine Bs ?_ GE390.out | refine Bs ?_ GE396.out) | exact HB.out)) hb); clear HO384; clear HO388; clear HO394; clear BK390; clear BK396; clear HB; have HO384 := n0_; have HO388 := n1_; have HO394 := n2_; have BK390 := n3_; have BK396 := n4_; have HB := n5_; clear n0_ n1_ n2_ n3_ n4_ n5_; (try clear hb); (try clear hb2); (try clear hk); (try clear hi)) | (go_at_call 15; (with_reducible refine (impl_IsList.calls k _ _ t382 t408 _ ?side1 ?side2 A44.out).mono ?_); (case side1 => repeat (first | exact (Kd.R_reads' HO384.out).2.2 | (with_reducible refine Ca ?_ _) | (with_reducible refine Cn ?_ _) | (with_reducible refine Cd ?_))); (case side2 => exact (Kd.R_reads' HO384.out).2.1); rintro e w' ⟨rfl, ⟨nd, rfl⟩⟩))
             go_meet
             case rel => exact ⟨_, ((t404 != t389)), (by first | rfl | (simp; done) | (simp [*]; done)), H', ⟨by first | omega | exact Nat.le_refl _⟩, ⟨by (with_reducible repeat (first | apply Ra | apply Rn | apply Rd)); exact Kd.R_mono HO384.out (fun _ hk => ⟨hk.1.2, hk.2⟩)⟩, ⟨by (with_reducible repeat (first | apply Ra | apply Rn | apply Rd)); exact Kd.R_mono HO388.out (fun _ hk => ⟨hk.1.2, hk.2⟩)⟩, ⟨by (with_reducible repeat (first | apply Ra | apply Rn | apply Rd)); exact Kd.R_mono HO394.out (fun _ hk => ⟨hk.1.2, hk.2⟩)⟩, ⟨by (with_reducible repeat (first | refine Kn ?_ _ | refine Ke ?_ | refine Ka ?_ _)); exact BK390.out⟩, ⟨by (with_reducible repeat (first | refine Kn ?_ _ | refine Ke ?_ | refine Ka ?_ _)); exact BK396.out⟩, ⟨by repeat (first | (with_reducible first | exact HB.out | apply Ba | apply Bn | apply Bd | refine Bs ?_ GE390.out | refine Bs ?_ GE396.out) | exact HB.out)⟩⟩
            ·
             rw [if_neg c61] at H
             have c61b0 : (t403 == t405) = false := beq_eq_false_iff_ne.mpr c61
             have c61b1 : (t403 != t405) = true := bne_iff_ne.mpr c61
             have H' := Am H
             clear H
             have hnb66 := NB390_396.out
             have hnc66 := NB396_390.out
             have hcz67_0 : w29.cell? ⟨gb390, 0, none⟩ = some (.int .i64 t385) := (Kc BK390.out 0).trans rfl
             have hcz67_1 : w29.cell? ⟨gb390, 1, none⟩ = some (.slice Ao19 t386.length co19) := (Kc BK390.out 1).trans rfl
             have hfz67_0 := Kf BK390.out 0
             have hfz67_1 := Kf BK390.out 1
             have hcz68_0 : w29.cell? ⟨gb396, 0, none⟩ = some (.int .i64 t391) := (Kc BK396.out 0).trans rfl
             have hcz68_1 : w29.cell? ⟨gb396, 1, none⟩ = some (.slice Ao24 t392.length co24) := (Kc BK396.out 1).trans rfl
             have hfz68_0 := Kf BK396.out 0
             have hfz68_1 := Kf BK396.out 1
             go_wp2_with (first | (go_at_call 14; (with_reducible refine (laws_yTournament.calls k t385 _ _ t386 t391 _ _ t392 true _ ?side1 ?side2 ?side3 ?side4 A31.out).mono ?_); (case side1 => repeat (first | exact (Kd.R_reads' HO388.out).2.2 | (with_reducible refine Ca ?_ _) | (with_reducible refine Cn ?_ _) | (with_reducible refine Cd ?_))); (case side2 => exact (Kd.R_reads' HO388.out).2.1); (case side3 => repeat (first | exact (Kd.R_reads' HO394.out).2.2 | (with_reducible refine Ca ?_ _) | (with_reducible refine Cn ?_ _) | (with_reducible refine Cd ?_))); (case side4 => exact (Kd.R_reads' HO394.out).2.1); rintro e w69 ⟨rfl, hb⟩; have n0_ := Am (Kd.R_below (by (with_reducible repeat (first | apply Ra | apply Rn | apply Rd)); exact HO384.out) hb); have n1_ := Am (Kd.R_below (by (with_reducible repeat (first | apply Ra | apply Rn | apply Rd)); exact HO388.out) hb); have n2_ := Am (Kd.R_below (by (with_reducible repeat (first | apply Ra | apply Rn | apply Rd)); exact HO394.out) hb); have n3_ := Am (blk_below (g := gb390) (o := .cells #[.int .i64 t385, .slice Ao19 t386.length co19] 27 (0, 0)) (by (with_reducible repeat (first | refine Kn ?_ _ | refine Ke ?_ | refine Ka ?_ _)); exact BK390.out) hb); have n4_ := Am (blk_below (g := gb396) (o := .cells #[.int .i64 t391, .slice Ao24 t392.length co24] 27 (0, 0)) (by (with_reducible repeat (first | refine Kn ?_ _ | refine Ke ?_ | refine Ka ?_ _)); exact BK396.out) hb); have n5_ := Am (below_step (by repeat (first | (with_reducible first | exact HB.out | apply Ba | apply Bn | apply Bd | refine Bs ?_ GE390.out | refine Bs ?_ GE396.out) | exact HB.out)) hb); clear HO384; clear HO388; clear HO394; clear BK390; clear BK396; clear HB; have HO384 := n0_; have HO388 := n1_; have HO394 := n2_; have BK390 := n3_; have BK396 := n4_; have HB := n5_; clear n0_ n1_ n2_ n3_ n4_ n5_; (try clear hb); (try clear hb2); (try clear hk); (try clear hi)) | (go_at_call 15; (with_reducible refine (impl_IsList.calls k _ _ t382 t408 _ ?side1 ?side2 A44.out).mono ?_); (case side1 => repeat (first | exact (Kd.R_reads' HO384.out).2.2 | (with_reducible refine Ca ?_ _) | (with_reducible refine Cn ?_ _) | (with_reducible refine Cd ?_))); (case side2 => exact (Kd.R_reads' HO384.out).2.1); rintro e w' ⟨rfl, ⟨nd, rfl⟩⟩))
             go_meet
             case rel => exact ⟨_, (true), (by first | rfl | (simp; done) | (simp [*]; done)), H', ⟨by first | omega | exact Nat.le_refl _⟩, ⟨by (with_reducible repeat (first | apply Ra | apply Rn | apply Rd)); exact Kd.R_mono HO384.out (fun _ hk => ⟨hk.1.2, hk.2⟩)⟩, ⟨by (with_reducible repeat (first | apply Ra | apply Rn | apply Rd)); exact Kd.R_mono HO388.out (fun _ hk => ⟨hk.1.2, hk.2⟩)⟩, ⟨by (with_reducible repeat (first | apply Ra | apply Rn | apply Rd)); exact Kd.R_mono HO394.out (fun _ hk => ⟨hk.1.2, hk.2⟩)⟩, ⟨by (with_reducible repeat (first | refine Kn ?_ _ | refine Ke ?_ | refine Ka ?_ _)); exact BK390.out⟩, ⟨by (with_reducible repeat (first | refine Kn ?_ _ | refine Ke ?_ | refine Ka ?_ _)); exact BK396.out⟩, ⟨by repeat (first | (with_reducible first | exact HB.out | apply Ba | apply Bn | apply Bd | refine Bs ?_ GE390.out | refine Bs ?_ GE396.out) | exact HB.out)⟩⟩
         ·
          replace c50 := Bool.eq_false_iff.mpr c50
          subst c50
          have H1 : (if (t404 != t406) = true then (laws_FnTournamentsBuilt.j0 k t382 t389 t403 true t385 t386) else (if t403 = t405 then (laws_FnTournamentsBuilt.j0 k t382 t389 t403 (t404 != t389) t385 t386) else (laws_FnTournamentsBuilt.j0 k t382 t389 t403 true t385 t386))) = some r := by rw [if_neg (show ¬ (false = true) by decide)] at H; exact H
          clear H
          have H := H1
          clear H1
          by_cases c70 : (t404 != t406) = true
          ·
           rw [if_pos c70] at H
           have c70b0 : (t404 != t406) = true := c70
           (try (have c70b1 : decide (t404 = t406) = false := by simpa using c70))
           (try (have c70b2 : (t404 == t406) = false := by simpa using c70))
           (try (have c70b3 : ¬ (t404 = t406) := by simpa using c70))
           clear c70
           have H' := Am H
           clear H
           have hnb71 := NB390_396.out
           have hnc71 := NB396_390.out
           have hcz72_0 : w29.cell? ⟨gb390, 0, none⟩ = some (.int .i64 t385) := (Kc BK390.out 0).trans rfl
           have hcz72_1 : w29.cell? ⟨gb390, 1, none⟩ = some (.slice Ao19 t386.length co19) := (Kc BK390.out 1).trans rfl
           have hfz72_0 := Kf BK390.out 0
           have hfz72_1 := Kf BK390.out 1
           have hcz73_0 : w29.cell? ⟨gb396, 0, none⟩ = some (.int .i64 t391) := (Kc BK396.out 0).trans rfl
           have hcz73_1 : w29.cell? ⟨gb396, 1, none⟩ = some (.slice Ao24 t392.length co24) := (Kc BK396.out 1).trans rfl
           have hfz73_0 := Kf BK396.out 0
           have hfz73_1 := Kf BK396.out 1
           go_wp2_with (first | (go_at_call 14; (with_reducible refine (laws_yTournament.calls k t385 _ _ t386 t391 _ _ t392 true _ ?side1 ?side2 ?side3 ?side4 A31.out).mono ?_); (case side1 => repeat (first | exact (Kd.R_reads' HO388.out).2.2 | (with_reducible refine Ca ?_ _) | (with_reducible refine Cn ?_ _) | (with_reducible refine Cd ?_))); (case side2 => exact (Kd.R_reads' HO388.out).2.1); (case side3 => repeat (first | exact (Kd.R_reads' HO394.out).2.2 | (with_reducible refine Ca ?_ _) | (with_reducible refine Cn ?_ _) | (with_reducible refine Cd ?_))); (case side4 => exact (Kd.R_reads' HO394.out).2.1); rintro e w74 ⟨rfl, hb⟩; have n0_ := Am (Kd.R_below (by (with_reducible repeat (first | apply Ra | apply Rn | apply Rd)); exact HO384.out) hb); have n1_ := Am (Kd.R_below (by (with_reducible repeat (first | apply Ra | apply Rn | apply Rd)); exact HO388.out) hb); have n2_ := Am (Kd.R_below (by (with_reducible repeat (first | apply Ra | apply Rn | apply Rd)); exact HO394.out) hb); have n3_ := Am (blk_below (g := gb390) (o := .cells #[.int .i64 t385, .slice Ao19 t386.length co19] 27 (0, 0)) (by (with_reducible repeat (first | refine Kn ?_ _ | refine Ke ?_ | refine Ka ?_ _)); exact BK390.out) hb); have n4_ := Am (blk_below (g := gb396) (o := .cells #[.int .i64 t391, .slice Ao24 t392.length co24] 27 (0, 0)) (by (with_reducible repeat (first | refine Kn ?_ _ | refine Ke ?_ | refine Ka ?_ _)); exact BK396.out) hb); have n5_ := Am (below_step (by repeat (first | (with_reducible first | exact HB.out | apply Ba | apply Bn | apply Bd | refine Bs ?_ GE390.out | refine Bs ?_ GE396.out) | exact HB.out)) hb); clear HO384; clear HO388; clear HO394; clear BK390; clear BK396; clear HB; have HO384 := n0_; have HO388 := n1_; have HO394 := n2_; have BK390 := n3_; have BK396 := n4_; have HB := n5_; clear n0_ n1_ n2_ n3_ n4_ n5_; (try clear hb); (try clear hb2); (try clear hk); (try clear hi)) | (go_at_call 15; (with_reducible refine (impl_IsList.calls k _ _ t382 t408 _ ?side1 ?side2 A44.out).mono ?_); (case side1 => repeat (first | exact (Kd.R_reads' HO384.out).2.2 | (with_reducible refine Ca ?_ _) | (with_reducible refine Cn ?_ _) | (with_reducible refine Cd ?_))); (case side2 => exact (Kd.R_reads' HO384.out).2.1); rintro e w' ⟨rfl, ⟨nd, rfl⟩⟩))
           go_meet
           case rel => exact ⟨_, (true), (by first | rfl | (simp; done) | (simp [*]; done)), H', ⟨by first | omega | exact Nat.le_refl _⟩, ⟨by (with_reducible repeat (first | apply Ra | apply Rn | apply Rd)); exact Kd.R_mono HO384.out (fun _ hk => ⟨hk.1.2, hk.2⟩)⟩, ⟨by (with_reducible repeat (first | apply Ra | apply Rn | apply Rd)); exact Kd.R_mono HO388.out (fun _ hk => ⟨hk.1.2, hk.2⟩)⟩, ⟨by (with_reducible repeat (first | apply Ra | apply Rn | apply Rd)); exact Kd.R_mono HO394.out (fun _ hk => ⟨hk.1.2, hk.2⟩)⟩, ⟨by (with_reducible repeat (first | refine Kn ?_ _ | refine Ke ?_ | refine Ka ?_ _)); exact BK390.out⟩, ⟨by (with_reducible repeat (first | refine Kn ?_ _ | refine Ke ?_ | refine Ka ?_ _)); exact BK396.out⟩, ⟨by repeat (first | (with_reducible first | exact HB.out | apply Ba | apply Bn | apply Bd | refine Bs ?_ GE390.out | refine Bs ?_ GE396.out) | exact HB.out)⟩⟩
          ·
           rw [if_neg c70] at H
           have c70b0 : (t404 != t406) = false := by simpa using c70
           (try (have c70b1 : decide (t404 = t406) = true := by simpa using c70))
           (try (have c70b2 : (t404 == t406) = true := by simpa using c70))
           clear c70
           by_cases c75 : t403 = t405
           ·
            rw [if_pos c75] at H
            have c75b0 : (t403 == t405) = true := beq_iff_eq.mpr c75
            have c75b1 : (t403 != t405) = false := bne_eq_false_iff_eq.mpr c75
            clear c75
            have H' := Am H
            clear H
            have hnb76 := NB390_396.out
            have hnc76 := NB396_390.out
            have hcz77_0 : w29.cell? ⟨gb390, 0, none⟩ = some (.int .i64 t385) := (Kc BK390.out 0).trans rfl
            have hcz77_1 : w29.cell? ⟨gb390, 1, none⟩ = some (.slice Ao19 t386.length co19) := (Kc BK390.out 1).trans rfl
            have hfz77_0 := Kf BK390.out 0
            have hfz77_1 := Kf BK390.out 1
            have hcz78_0 : w29.cell? ⟨gb396, 0, none⟩ = some (.int .i64 t391) := (Kc BK396.out 0).trans rfl
            have hcz78_1 : w29.cell? ⟨gb396, 1, none⟩ = some (.slice Ao24 t392.length co24) := (Kc BK396.out 1).trans rfl
            have hfz78_0 := Kf BK396.out 0
            have hfz78_1 := Kf BK396.out 1
            go_wp2_with (first | (go_at_call 14; (with_reducible refine (laws_yTournament.calls k t385 _ _ t386 t391 _ _ t392 true _ ?side1 ?side2 ?side3 ?side4 A31.out).mono ?_); (case side1 => repeat (first | exact (Kd.R_reads' HO388.out).2.2 | (with_reducible refine Ca ?_ _) | (with_reducible refine Cn ?_ _) | (with_reducible refine Cd ?_))); (case side2 => exact (Kd.R_reads' HO388.out).2.1); (case side3 => repeat (first | exact (Kd.R_reads' HO394.out).2.2 | (with_reducible refine Ca ?_ _) | (with_reducible refine Cn ?_ _) | (with_reducible refine Cd ?_))); (case side4 => exact (Kd.R_reads' HO394.out).2.1); rintro e w79 ⟨rfl, hb⟩; have n0_ := Am (Kd.R_below (by (with_reducible repeat (first | apply Ra | apply Rn | apply Rd)); exact HO384.out) hb); have n1_ := Am (Kd.R_below (by (with_reducible repeat (first | apply Ra | apply Rn | apply Rd)); exact HO388.out) hb); have n2_ := Am (Kd.R_below (by (with_reducible repeat (first | apply Ra | apply Rn | apply Rd)); exact HO394.out) hb); have n3_ := Am (blk_below (g := gb390) (o := .cells #[.int .i64 t385, .slice Ao19 t386.length co19] 27 (0, 0)) (by (with_reducible repeat (first | refine Kn ?_ _ | refine Ke ?_ | refine Ka ?_ _)); exact BK390.out) hb); have n4_ := Am (blk_below (g := gb396) (o := .cells #[.int .i64 t391, .slice Ao24 t392.length co24] 27 (0, 0)) (by (with_reducible repeat (first | refine Kn ?_ _ | refine Ke ?_ | refine Ka ?_ _)); exact BK396.out) hb); have n5_ := Am (below_step (by repeat (first | (with_reducible first | exact HB.out | apply Ba | apply Bn | apply Bd | refine Bs ?_ GE390.out | refine Bs ?_ GE396.out) | exact HB.out)) hb); clear HO384; clear HO388; clear HO394; clear BK390; clear BK396; clear HB; have HO384 := n0_; have HO388 := n1_; have HO394 := n2_; have BK390 := n3_; have BK396 := n4_; have HB := n5_; clear n0_ n1_ n2_ n3_ n4_ n5_; (try clear hb); (try clear hb2); (try clear hk); (try clear hi)) | (go_at_call 15; (with_reducible refine (impl_IsList.calls k _ _ t382 t408 _ ?side1 ?side2 A44.out).mono ?_); (case side1 => repeat (first | exact (Kd.R_reads' HO384.out).2.2 | (with_reducible refine Ca ?_ _) | (with_reducible refine Cn ?_ _) | (with_reducible refine Cd ?_))); (case side2 => exact (Kd.R_reads' HO384.out).2.1); rintro e w' ⟨rfl, ⟨nd, rfl⟩⟩))
            go_meet
            case rel => exact ⟨_, ((t404 != t389)), (by first | rfl | (simp; done) | (simp [*]; done)), H', ⟨by first | omega | exact Nat.le_refl _⟩, ⟨by (with_reducible repeat (first | apply Ra | apply Rn | apply Rd)); exact Kd.R_mono HO384.out (fun _ hk => ⟨hk.1.2, hk.2⟩)⟩, ⟨by (with_reducible repeat (first | apply Ra | apply Rn | apply Rd)); exact Kd.R_mono HO388.out (fun _ hk => ⟨hk.1.2, hk.2⟩)⟩, ⟨by (with_reducible repeat (first | apply Ra | apply Rn | apply Rd)); exact Kd.R_mono HO394.out (fun _ hk => ⟨hk.1.2, hk.2⟩)⟩, ⟨by (with_reducible repeat (first | refine Kn ?_ _ | refine Ke ?_ | refine Ka ?_ _)); exact BK390.out⟩, ⟨by (with_reducible repeat (first | refine Kn ?_ _ | refine Ke ?_ | refine Ka ?_ _)); exact BK396.out⟩, ⟨by repeat (first | (with_reducible first | exact HB.out | apply Ba | apply Bn | apply Bd | refine Bs ?_ GE390.out | refine Bs ?_ GE396.out) | exact HB.out)⟩⟩
           ·
            rw [if_neg c75] at H
            have c75b0 : (t403 == t405) = false := beq_eq_false_iff_ne.mpr c75
            have c75b1 : (t403 != t405) = true := bne_iff_ne.mpr c75
            have H' := Am H
            clear H
            have hnb80 := NB390_396.out
            have hnc80 := NB396_390.out
            have hcz81_0 : w29.cell? ⟨gb390, 0, none⟩ = some (.int .i64 t385) := (Kc BK390.out 0).trans rfl
            have hcz81_1 : w29.cell? ⟨gb390, 1, none⟩ = some (.slice Ao19 t386.length co19) := (Kc BK390.out 1).trans rfl
            have hfz81_0 := Kf BK390.out 0
            have hfz81_1 := Kf BK390.out 1
            have hcz82_0 : w29.cell? ⟨gb396, 0, none⟩ = some (.int .i64 t391) := (Kc BK396.out 0).trans rfl
            have hcz82_1 : w29.cell? ⟨gb396, 1, none⟩ = some (.slice Ao24 t392.length co24) := (Kc BK396.out 1).trans rfl
            have hfz82_0 := Kf BK396.out 0
            have hfz82_1 := Kf BK396.out 1
            go_wp2_with (first | (go_at_call 14; (with_reducible refine (laws_yTournament.calls k t385 _ _ t386 t391 _ _ t392 true _ ?side1 ?side2 ?side3 ?side4 A31.out).mono ?_); (case side1 => repeat (first | exact (Kd.R_reads' HO388.out).2.2 | (with_reducible refine Ca ?_ _) | (with_reducible refine Cn ?_ _) | (with_reducible refine Cd ?_))); (case side2 => exact (Kd.R_reads' HO388.out).2.1); (case side3 => repeat (first | exact (Kd.R_reads' HO394.out).2.2 | (with_reducible refine Ca ?_ _) | (with_reducible refine Cn ?_ _) | (with_reducible refine Cd ?_))); (case side4 => exact (Kd.R_reads' HO394.out).2.1); rintro e w83 ⟨rfl, hb⟩; have n0_ := Am (Kd.R_below (by (with_reducible repeat (first | apply Ra | apply Rn | apply Rd)); exact HO384.out) hb); have n1_ := Am (Kd.R_below (by (with_reducible repeat (first | apply Ra | apply Rn | apply Rd)); exact HO388.out) hb); have n2_ := Am (Kd.R_below (by (with_reducible repeat (first | apply Ra | apply Rn | apply Rd)); exact HO394.out) hb); have n3_ := Am (blk_below (g := gb390) (o := .cells #[.int .i64 t385, .slice Ao19 t386.length co19] 27 (0, 0)) (by (with_reducible repeat (first | refine Kn ?_ _ | refine Ke ?_ | refine Ka ?_ _)); exact BK390.out) hb); have n4_ := Am (blk_below (g := gb396) (o := .cells #[.int .i64 t391, .slice Ao24 t392.length co24] 27 (0, 0)) (by (with_reducible repeat (first | refine Kn ?_ _ | refine Ke ?_ | refine Ka ?_ _)); exact BK396.out) hb); have n5_ := Am (below_step (by repeat (first | (with_reducible first | exact HB.out | apply Ba | apply Bn | apply Bd | refine Bs ?_ GE390.out | refine Bs ?_ GE396.out) | exact HB.out)) hb); clear HO384; clear HO388; clear HO394; clear BK390; clear BK396; clear HB; have HO384 := n0_; have HO388 := n1_; have HO394 := n2_; have BK390 := n3_; have BK396 := n4_; have HB := n5_; clear n0_ n1_ n2_ n3_ n4_ n5_; (try clear hb); (try clear hb2); (try clear hk); (try clear hi)) | (go_at_call 15; (with_reducible refine (impl_IsList.calls k _ _ t382 t408 _ ?side1 ?side2 A44.out).mono ?_); (case side1 => repeat (first | exact (Kd.R_reads' HO384.out).2.2 | (with_reducible refine Ca ?_ _) | (with_reducible refine Cn ?_ _) | (with_reducible refine Cd ?_))); (case side2 => exact (Kd.R_reads' HO384.out).2.1); rintro e w' ⟨rfl, ⟨nd, rfl⟩⟩))
            go_meet
            case rel => exact ⟨_, (true), (by first | rfl | (simp; done) | (simp [*]; done)), H', ⟨by first | omega | exact Nat.le_refl _⟩, ⟨by (with_reducible repeat (first | apply Ra | apply Rn | apply Rd)); exact Kd.R_mono HO384.out (fun _ hk => ⟨hk.1.2, hk.2⟩)⟩, ⟨by (with_reducible repeat (first | apply Ra | apply Rn | apply Rd)); exact Kd.R_mono HO388.out (fun _ hk => ⟨hk.1.2, hk.2⟩)⟩, ⟨by (with_reducible repeat (first | apply Ra | apply Rn | apply Rd)); exact Kd.R_mono HO394.out (fun _ hk => ⟨hk.1.2, hk.2⟩)⟩, ⟨by (with_reducible repeat (first | refine Kn ?_ _ | refine Ke ?_ | refine Ka ?_ _)); exact BK390.out⟩, ⟨by (with_reducible repeat (first | refine Kn ?_ _ | refine Ke ?_ | refine Ka ?_ _)); exact BK396.out⟩, ⟨by repeat (first | (with_reducible first | exact HB.out | apply Ba | apply Bn | apply Bd | refine Bs ?_ GE390.out | refine Bs ?_ GE396.out) | exact HB.out)⟩⟩
      ·
       rw [if_neg c38] at H
       have c38b0 : (t397 == t399) = false := beq_eq_false_iff_ne.mpr c38
       have c38b1 : (t397 != t399) = true := bne_iff_ne.mpr c38
       have H' := Am H
       clear H
       have hnb84 := NB390_396.out
       have hnc84 := NB396_390.out
       have hcz85_0 : w29.cell? ⟨gb390, 0, none⟩ = some (.int .i64 t385) := (Kc BK390.out 0).trans rfl
       have hcz85_1 : w29.cell? ⟨gb390, 1, none⟩ = some (.slice Ao19 t386.length co19) := (Kc BK390.out 1).trans rfl
       have hfz85_0 := Kf BK390.out 0
       have hfz85_1 := Kf BK390.out 1
       have hcz86_0 : w29.cell? ⟨gb396, 0, none⟩ = some (.int .i64 t391) := (Kc BK396.out 0).trans rfl
       have hcz86_1 : w29.cell? ⟨gb396, 1, none⟩ = some (.slice Ao24 t392.length co24) := (Kc BK396.out 1).trans rfl
       have hfz86_0 := Kf BK396.out 0
       have hfz86_1 := Kf BK396.out 1
       go_wp2_with (first | (go_at_call 14; (with_reducible refine (laws_yTournament.calls k t385 _ _ t386 t391 _ _ t392 true _ ?side1 ?side2 ?side3 ?side4 A31.out).mono ?_); (case side1 => repeat (first | exact (Kd.R_reads' HO388.out).2.2 | (with_reducible refine Ca ?_ _) | (with_reducible refine Cn ?_ _) | (with_reducible refine Cd ?_))); (case side2 => exact (Kd.R_reads' HO388.out).2.1); (case side3 => repeat (first | exact (Kd.R_reads' HO394.out).2.2 | (with_reducible refine Ca ?_ _) | (with_reducible refine Cn ?_ _) | (with_reducible refine Cd ?_))); (case side4 => exact (Kd.R_reads' HO394.out).2.1); rintro e w87 ⟨rfl, hb⟩; have n0_ := Am (Kd.R_below (by (with_reducible repeat (first | apply Ra | apply Rn | apply Rd)); exact HO384.out) hb); have n1_ := Am (Kd.R_below (by (with_reducible repeat (first | apply Ra | apply Rn | apply Rd)); exact HO388.out) hb); have n2_ := Am (Kd.R_below (by (with_reducible repeat (first | apply Ra | apply Rn | apply Rd)); exact HO394.out) hb); have n3_ := Am (blk_below (g := gb390) (o := .cells #[.int .i64 t385, .slice Ao19 t386.length co19] 27 (0, 0)) (by (with_reducible repeat (first | refine Kn ?_ _ | refine Ke ?_ | refine Ka ?_ _)); exact BK390.out) hb); have n4_ := Am (blk_below (g := gb396) (o := .cells #[.int .i64 t391, .slice Ao24 t392.length co24] 27 (0, 0)) (by (with_reducible repeat (first | refine Kn ?_ _ | refine Ke ?_ | refine Ka ?_ _)); exact BK396.out) hb); have n5_ := Am (below_step (by repeat (first | (with_reducible first | exact HB.out | apply Ba | apply Bn | apply Bd | refine Bs ?_ GE390.out | refine Bs ?_ GE396.out) | exact HB.out)) hb); clear HO384; clear HO388; clear HO394; clear BK390; clear BK396; clear HB; have HO384 := n0_; have HO388 := n1_; have HO394 := n2_; have BK390 := n3_; have BK396 := n4_; have HB := n5_; clear n0_ n1_ n2_ n3_ n4_ n5_; (try clear hb); (try clear hb2); (try clear hk); (try clear hi)))
       go_meet
       case rel => exact ⟨_, (true), (by first | rfl | (simp; done) | (simp [*]; done)), H', ⟨by first | omega | exact Nat.le_refl _⟩, ⟨by (with_reducible repeat (first | apply Ra | apply Rn | apply Rd)); exact Kd.R_mono HO384.out (fun _ hk => ⟨hk.1.2, hk.2⟩)⟩, ⟨by (with_reducible repeat (first | apply Ra | apply Rn | apply Rd)); exact Kd.R_mono HO388.out (fun _ hk => ⟨hk.1.2, hk.2⟩)⟩, ⟨by (with_reducible repeat (first | apply Ra | apply Rn | apply Rd)); exact Kd.R_mono HO394.out (fun _ hk => ⟨hk.1.2, hk.2⟩)⟩, ⟨by (with_reducible repeat (first | refine Kn ?_ _ | refine Ke ?_ | refine Ka ?_ _)); exact BK390.out⟩, ⟨by (with_reducible repeat (first | refine Kn ?_ _ | refine Ke ?_ | refine Ka ?_ _)); exact BK396.out⟩, ⟨by repeat (first | (with_reducible first | exact HB.out | apply Ba | apply Bn | apply Bd | refine Bs ?_ GE390.out | refine Bs ?_ GE396.out) | exact HB.out)⟩⟩
    ·
     replace c32 := Bool.eq_false_iff.mpr c32
     subst c32
     have H1 : (laws_FnTournamentsBuilt.j0 k t382 t389 t403 true t385 t386) = some r := by rw [if_neg (show ¬ (false = true) by decide)] at H; exact H
     clear H
     have H := H1
     clear H1
     have H' := Am H
     clear H
     have hnb88 := NB390_396.out
     have hnc88 := NB396_390.out
     have hcz89_0 : w29.cell? ⟨gb390, 0, none⟩ = some (.int .i64 t385) := (Kc BK390.out 0).trans rfl
     have hcz89_1 : w29.cell? ⟨gb390, 1, none⟩ = some (.slice Ao19 t386.length co19) := (Kc BK390.out 1).trans rfl
     have hfz89_0 := Kf BK390.out 0
     have hfz89_1 := Kf BK390.out 1
     have hcz90_0 : w29.cell? ⟨gb396, 0, none⟩ = some (.int .i64 t391) := (Kc BK396.out 0).trans rfl
     have hcz90_1 : w29.cell? ⟨gb396, 1, none⟩ = some (.slice Ao24 t392.length co24) := (Kc BK396.out 1).trans rfl
     have hfz90_0 := Kf BK396.out 0
     have hfz90_1 := Kf BK396.out 1
     go_wp2_with (first | (go_at_call 14; (with_reducible refine (laws_yTournament.calls k t385 _ _ t386 t391 _ _ t392 false _ ?side1 ?side2 ?side3 ?side4 A31.out).mono ?_); (case side1 => repeat (first | exact (Kd.R_reads' HO388.out).2.2 | (with_reducible refine Ca ?_ _) | (with_reducible refine Cn ?_ _) | (with_reducible refine Cd ?_))); (case side2 => exact (Kd.R_reads' HO388.out).2.1); (case side3 => repeat (first | exact (Kd.R_reads' HO394.out).2.2 | (with_reducible refine Ca ?_ _) | (with_reducible refine Cn ?_ _) | (with_reducible refine Cd ?_))); (case side4 => exact (Kd.R_reads' HO394.out).2.1); rintro e w91 ⟨rfl, hb⟩; have n0_ := Am (Kd.R_below (by (with_reducible repeat (first | apply Ra | apply Rn | apply Rd)); exact HO384.out) hb); have n1_ := Am (Kd.R_below (by (with_reducible repeat (first | apply Ra | apply Rn | apply Rd)); exact HO388.out) hb); have n2_ := Am (Kd.R_below (by (with_reducible repeat (first | apply Ra | apply Rn | apply Rd)); exact HO394.out) hb); have n3_ := Am (blk_below (g := gb390) (o := .cells #[.int .i64 t385, .slice Ao19 t386.length co19] 27 (0, 0)) (by (with_reducible repeat (first | refine Kn ?_ _ | refine Ke ?_ | refine Ka ?_ _)); exact BK390.out) hb); have n4_ := Am (blk_below (g := gb396) (o := .cells #[.int .i64 t391, .slice Ao24 t392.length co24] 27 (0, 0)) (by (with_reducible repeat (first | refine Kn ?_ _ | refine Ke ?_ | refine Ka ?_ _)); exact BK396.out) hb); have n5_ := Am (below_step (by repeat (first | (with_reducible first | exact HB.out | apply Ba | apply Bn | apply Bd | refine Bs ?_ GE390.out | refine Bs ?_ GE396.out) | exact HB.out)) hb); clear HO384; clear HO388; clear HO394; clear BK390; clear BK396; clear HB; have HO384 := n0_; have HO388 := n1_; have HO394 := n2_; have BK390 := n3_; have BK396 := n4_; have HB := n5_; clear n0_ n1_ n2_ n3_ n4_ n5_; (try clear hb); (try clear hb2); (try clear hk); (try clear hi)))
     go_meet
     case rel => exact ⟨_, (true), (by first | rfl | (simp; done) | (simp [*]; done)), H', ⟨by first | omega | exact Nat.le_refl _⟩, ⟨by (with_reducible repeat (first | apply Ra | apply Rn | apply Rd)); exact Kd.R_mono HO384.out (fun _ hk => ⟨hk.1.2, hk.2⟩)⟩, ⟨by (with_reducible repeat (first | apply Ra | apply Rn | apply Rd)); exact Kd.R_mono HO388.out (fun _ hk => ⟨hk.1.2, hk.2⟩)⟩, ⟨by (with_reducible repeat (first | apply Ra | apply Rn | apply Rd)); exact Kd.R_mono HO394.out (fun _ hk => ⟨hk.1.2, hk.2⟩)⟩, ⟨by (with_reducible repeat (first | refine Kn ?_ _ | refine Ke ?_ | refine Ka ?_ _)); exact BK390.out⟩, ⟨by (with_reducible repeat (first | refine Kn ?_ _ | refine Ke ?_ | refine Ka ?_ _)); exact BK396.out⟩, ⟨by repeat (first | (with_reducible first | exact HB.out | apply Ba | apply Bn | apply Bd | refine Bs ?_ GE390.out | refine Bs ?_ GE396.out) | exact HB.out)⟩⟩
  case rest =>
   clear HC13
   (try clear c1); (try clear c2); (try clear p2); (try clear c3); (try clear c4); (try clear c5); (try clear c6); (try clear c7); (try clear c8); (try clear c9); (try clear c10); (try clear c11); (try clear c12); (try clear c13); (try clear c22); (try clear c30); (try clear c30b0); (try clear c30b1); (try clear c30b2); (try clear c32); (try clear c33); (try clear c33b0); (try clear c33b1); (try clear c33b2); (try clear c34); (try clear c38); (try clear c38b0); (try clear c38b1); (try clear c39); (try clear c39b0); (try clear c39b1); (try clear c39b2); (try clear c40); (try clear c45); (try clear c45b0); (try clear c45b1); (try clear c45b2); (try clear c46); (try clear c50); (try clear c51); (try clear c51b0); (try clear c51b1); (try clear c51b2); (try clear c52); (try clear c56); (try clear c56b0); (try clear c56b1); (try clear c56b2); (try clear c57); (try clear c61); (try clear c61b0); (try clear c61b1); (try clear c62); (try clear c66); (try clear c70); (try clear c70b0); (try clear c70b1); (try clear c70b2); (try clear c71); (try clear c75); (try clear c75b0); (try clear c75b1); (try clear c76); (try clear c80); (try clear c84); (try clear c88); (try clear hcz18_0); (try clear hcz18_1); (try clear hcz23_0); (try clear hcz23_1); (try clear hcz35_0); (try clear hcz35_1); (try clear hcz36_0); (try clear hcz36_1); (try clear hcz41_0); (try clear hcz41_1); (try clear hcz42_0); (try clear hcz42_1); (try clear hcz47_0); (try clear hcz47_1); (try clear hcz48_0); (try clear hcz48_1); (try clear hcz53_0); (try clear hcz53_1); (try clear hcz54_0); (try clear hcz54_1); (try clear hcz58_0); (try clear hcz58_1); (try clear hcz59_0); (try clear hcz59_1); (try clear hcz63_0); (try clear hcz63_1); (try clear hcz64_0); (try clear hcz64_1); (try clear hcz67_0); (try clear hcz67_1); (try clear hcz68_0); (try clear hcz68_1); (try clear hcz72_0); (try clear hcz72_1); (try clear hcz73_0); (try clear hcz73_1); (try clear hcz77_0); (try clear hcz77_1); (try clear hcz78_0); (try clear hcz78_1); (try clear hcz81_0); (try clear hcz81_1); (try clear hcz82_0); (try clear hcz82_1); (try clear hcz85_0); (try clear hcz85_1); (try clear hcz86_0); (try clear hcz86_1); (try clear hcz89_0); (try clear hcz89_1); (try clear hcz90_0); (try clear hcz90_1); (try clear hfz18_0); (try clear hfz18_1); (try clear hfz23_0); (try clear hfz23_1); (try clear hfz35_0); (try clear hfz35_1); (try clear hfz36_0); (try clear hfz36_1); (try clear hfz41_0); (try clear hfz41_1); (try clear hfz42_0); (try clear hfz42_1); (try clear hfz47_0); (try clear hfz47_1); (try clear hfz48_0); (try clear hfz48_1); (try clear hfz53_0); (try clear hfz53_1); (try clear hfz54_0); (try clear hfz54_1); (try clear hfz58_0); (try clear hfz58_1); (try clear hfz59_0); (try clear hfz59_1); (try clear hfz63_0); (try clear hfz63_1); (try clear hfz64_0); (try clear hfz64_1); (try clear hfz67_0); (try clear hfz67_1); (try clear hfz68_0); (try clear hfz68_1); (try clear hfz72_0); (try clear hfz72_1); (try clear hfz73_0); (try clear hfz73_1); (try clear hfz77_0); (try clear hfz77_1); (try clear hfz78_0); (try clear hfz78_1); (try clear hfz81_0); (try clear hfz81_1); (try clear hfz82_0); (try clear hfz82_1); (try clear hfz85_0); (try clear hfz85_1); (try clear hfz86_0); (try clear hfz86_1); (try clear hfz89_0); (try clear hfz89_1); (try clear hfz90_0); (try clear hfz90_1)
   obtain ⟨kq, x116_12, rfl, HA, HJ12, HO_5, HO_391001, HO_397001, BK390, BK396, HB⟩ := hcut
   cases kq with
   | zero => exact absurd HA.out (by simp [laws_FnTournamentsBuilt.j0])
   | succ kj12 =>
    have H := HA.out
    clear HA
    simp only [laws_FnTournamentsBuilt.j0] at H
    by_cases c92 : x116_12 = true
    ·
     subst c92
     have H1 : (some false) = some r := by rw [if_pos rfl] at H; exact H
     clear H
     have H := H1
     clear H1
     obtain rfl := Option.some.inj H
     go_wp2
     go_ret
     exact ⟨by first | rfl | (simp [errW_none, errW_some] <;> rfl) | (simp [*, errW_none, errW_some] <;> rfl), by repeat (first | (with_reducible first | exact HB.out | apply Ba | apply Bn | apply Bd | refine Bs ?_ GE390.out | refine Bs ?_ GE396.out) | exact HB.out)⟩
    ·
     replace c92 := Bool.eq_false_iff.mpr c92
     subst c92
     have H1 : (if t389 = true then ((impl_ScoresOf.f kj12 t385 t386).bind fun bt409 => ((impl_CirclesOf.f kj12 t385 t386).bind fun bt413 => (if bt409.2 = true then ((laws_ySame.f kj12 bt409.1 t382).bind fun t417 => (if t417 = true then ((impl_IsTournament.f kj12 t385 t386).bind fun t418 => (if t418 = true then (if bt413.2 = true then (some ((bt413.1.length : Int) == t403)) else (some false)) else (some false))) else (some false))) else (some false)))) else (some true)) = some r := by rw [if_neg (show ¬ (false = true) by decide)] at H; exact H
     clear H
     have H := H1
     clear H1
     by_cases c93 : t389 = true
     ·
      subst c93
      have H1 : ((impl_ScoresOf.f kj12 t385 t386).bind fun bt409 => ((impl_CirclesOf.f kj12 t385 t386).bind fun bt413 => (if bt409.2 = true then ((laws_ySame.f kj12 bt409.1 t382).bind fun t417 => (if t417 = true then ((impl_IsTournament.f kj12 t385 t386).bind fun t418 => (if t418 = true then (if bt413.2 = true then (some ((bt413.1.length : Int) == t403)) else (some false)) else (some false))) else (some false))) else (some false)))) = some r := by rw [if_pos rfl] at H; exact H
      clear H
      have H := H1
      clear H1
      replace H := Option.bind_eq_some_iff.mp H
      obtain ⟨⟨t409, t412⟩, A940, H⟩ := H
      replace H : ((impl_CirclesOf.f kj12 t385 t386).bind fun bt413 => (if t412 = true then ((laws_ySame.f kj12 t409 t382).bind fun t417 => (if t417 = true then ((impl_IsTournament.f kj12 t385 t386).bind fun t418 => (if t418 = true then (if bt413.2 = true then (some ((bt413.1.length : Int) == t403)) else (some false)) else (some false))) else (some false))) else (some false))) = some r := H
      have A94 := Am A940
      clear A940
      replace H := Option.bind_eq_some_iff.mp H
      obtain ⟨⟨t413, t416⟩, A950, H⟩ := H
      replace H : (if t412 = true then ((laws_ySame.f kj12 t409 t382).bind fun t417 => (if t417 = true then ((impl_IsTournament.f kj12 t385 t386).bind fun t418 => (if t418 = true then (if t416 = true then (some ((t413.length : Int) == t403)) else (some false)) else (some false))) else (some false))) else (some false)) = some r := H
      have A95 := Am A950
      clear A950
      by_cases c96 : t412 = true
      ·
       subst c96
       have H1 : ((laws_ySame.f kj12 t409 t382).bind fun t417 => (if t417 = true then ((impl_IsTournament.f kj12 t385 t386).bind fun t418 => (if t418 = true then (if t416 = true then (some ((t413.length : Int) == t403)) else (some false)) else (some false))) else (some false))) = some r := by rw [if_pos rfl] at H; exact H
       clear H
       have H := H1
       clear H1
       replace H := Option.bind_eq_some_iff.mp H
       obtain ⟨t417, A970, H⟩ := H
       replace H : (if t417 = true then ((impl_IsTournament.f kj12 t385 t386).bind fun t418 => (if t418 = true then (if t416 = true then (some ((t413.length : Int) == t403)) else (some false)) else (some false))) else (some false)) = some r := H
       have A97 := Am A970
       clear A970
       by_cases c98 : t417 = true
       ·
        subst c98
        have H1 : ((impl_IsTournament.f kj12 t385 t386).bind fun t418 => (if t418 = true then (if t416 = true then (some ((t413.length : Int) == t403)) else (some false)) else (some false))) = some r := by rw [if_pos rfl] at H; exact H
        clear H
        have H := H1
        clear H1
        replace H := Option.bind_eq_some_iff.mp H
        obtain ⟨t418, A990, H⟩ := H
        replace H : (if t418 = true then (if t416 = true then (some ((t413.length : Int) == t403)) else (some false)) else (some false)) = some r := H
        have A99 := Am A990
        clear A990
        by_cases c100 : t418 = true
        ·
         subst c100
         have H1 : (if t416 = true then (some ((t413.length : Int) == t403)) else (some false)) = some r := by rw [if_pos rfl] at H; exact H
         clear H
         have H := H1
         clear H1
         by_cases c101 : t416 = true
         ·
          subst c101
          have H1 : (some ((t413.length : Int) == t403)) = some r := by rw [if_pos rfl] at H; exact H
          clear H
          have H := H1
          clear H1
          obtain rfl := Option.some.inj H
          have hnb102 := NB390_396.out
          have hnc102 := NB396_390.out
          have hcz103_0 : wc.cell? ⟨gb390, 0, none⟩ = some (.int .i64 t385) := (Kc BK390.out 0).trans rfl
          have hcz103_1 : wc.cell? ⟨gb390, 1, none⟩ = some (.slice Ao19 t386.length co19) := (Kc BK390.out 1).trans rfl
          have hfz103_0 := Kf BK390.out 0
          have hfz103_1 := Kf BK390.out 1
          go_wp2_with (first | ((with_reducible refine gate_callee (f := 16) rfl ?_); refine goesL_ (some 120) rfl rfl Try.func16 (by kernel_rfl) rfl #[.agg #[.int .i64 t385, .slice Ao19 t386.length co19]] rfl (by (try simp only [List.map_toArray, List.map_cons, List.map_nil]); first | done | rfl) ?_; (with_reducible refine (impl_ScoresOf.calls kj12 t385 _ _ t386 t409 true _ ?side1 ?side2 A94.out).mono ?_); (case side1 => repeat (first | exact (Kd.R_reads' HO_391001.out).2.2 | (with_reducible refine Ca ?_ _) | (with_reducible refine Cn ?_ _) | (with_reducible refine Cd ?_))); (case side2 => exact (Kd.R_reads' HO_391001.out).2.1); rintro e w104 ⟨v410, rfl, ho0, hb⟩; refine ⟨_, rfl, ?_⟩; have n0_ := Am (Kd.R_elder' (by (with_reducible repeat (first | apply Ra | apply Rn | apply Rd)); exact HO_5.out) (Kd.R_base ho0) hb); have n1_ := Am (Kd.R_elder' (by (with_reducible repeat (first | apply Ra | apply Rn | apply Rd)); exact HO_391001.out) (Kd.R_base ho0) hb); have n2_ := Am (Kd.R_elder' (by (with_reducible repeat (first | apply Ra | apply Rn | apply Rd)); exact HO_397001.out) (Kd.R_base ho0) hb); have n3_ := Am (Kd.R_lower (Kd.R_new' (Kd.R_new' (Kd.R_new' ho0 (Kd.R_lt (by (with_reducible repeat (first | apply Ra | apply Rn | apply Rd)); exact HO_5.out))) (Kd.R_lt (by (with_reducible repeat (first | apply Ra | apply Rn | apply Rd)); exact HO_391001.out))) (Kd.R_lt (by (with_reducible repeat (first | apply Ra | apply Rn | apply Rd)); exact HO_397001.out))) (below_size (by repeat (first | (with_reducible first | exact HB.out | apply Ba | apply Bn | apply Bd | refine Bs ?_ GE390.out | refine Bs ?_ GE396.out) | exact HB.out)))); have n4_ := Am (blk_below (g := gb390) (o := .cells #[.int .i64 t385, .slice Ao19 t386.length co19] 27 (0, 0)) (by (with_reducible repeat (first | refine Kn ?_ _ | refine Ke ?_ | refine Ka ?_ _)); exact BK390.out) hb); have n5_ := Am (blk_below (g := gb396) (o := .cells #[.int .i64 t391, .slice Ao24 t392.length co24] 27 (0, 0)) (by (with_reducible repeat (first | refine Kn ?_ _ | refine Ke ?_ | refine Ka ?_ _)); exact BK396.out) hb); have n6_ := Am (below_step (by repeat (first | (with_reducible first | exact HB.out | apply Ba | apply Bn | apply Bd | refine Bs ?_ GE390.out | refine Bs ?_ GE396.out) | exact HB.out)) hb); clear HO_5; clear HO_391001; clear HO_397001; clear BK390; clear BK396; clear HB; have HO_5 := n0_; have HO_391001 := n1_; have HO_397001 := n2_; have HO411 := n3_; have BK390 := n4_; have BK396 := n5_; have HB := n6_; clear n0_ n1_ n2_ n3_ n4_ n5_ n6_; (try clear hb); (try clear hb2); (try clear hk); (try clear hi); (try clear ho0); have hcz105_0 : w104.cell? ⟨gb390, 0, none⟩ = some (.int .i64 t385) := (Kc BK390.out 0).trans rfl; have hcz105_1 : w104.cell? ⟨gb390, 1, none⟩ = some (.slice Ao19 t386.length co19) := (Kc BK390.out 1).trans rfl; have hfz105_0 := Kf BK390.out 0; have hfz105_1 := Kf BK390.out 1) | ((with_reducible refine gate_callee (f := 17) rfl ?_); refine goesL_ (some 125) rfl rfl Try.func17 (by kernel_rfl) rfl #[.agg #[.int .i64 t385, .slice Ao19 t386.length co19]] rfl (by (try simp only [List.map_toArray, List.map_cons, List.map_nil]); first | done | rfl) ?_; (with_reducible refine (impl_CirclesOf.calls kj12 t385 _ _ t386 t413 true _ ?side1 ?side2 A95.out).mono ?_); (case side1 => repeat (first | exact (Kd.R_reads' HO_391001.out).2.2 | (with_reducible refine Ca ?_ _) | (with_reducible refine Cn ?_ _) | (with_reducible refine Cd ?_))); (case side2 => exact (Kd.R_reads' HO_391001.out).2.1); rintro e w106 ⟨v414, rfl, ho0, hb⟩; refine ⟨_, rfl, ?_⟩; have n0_ := Am (Kd.R_below (by (with_reducible repeat (first | apply Ra | apply Rn | apply Rd)); exact HO_5.out) hb); have n1_ := Am (Kd.R_below (by (with_reducible repeat (first | apply Ra | apply Rn | apply Rd)); exact HO_391001.out) hb); have n2_ := Am (Kd.R_below (by (with_reducible repeat (first | apply Ra | apply Rn | apply Rd)); exact HO_397001.out) hb); have n3_ := Am (Kd.R_below (by (with_reducible repeat (first | apply Ra | apply Rn | apply Rd)); exact HO411.out) hb); have n4_ := Am (Kd.S_lower (Kd.S_new' (Kd.S_new' (Kd.S_new' (Kd.S_new' ho0 (Kd.R_lt (by (with_reducible repeat (first | apply Ra | apply Rn | apply Rd)); exact HO_5.out))) (Kd.R_lt (by (with_reducible repeat (first | apply Ra | apply Rn | apply Rd)); exact HO_391001.out))) (Kd.R_lt (by (with_reducible repeat (first | apply Ra | apply Rn | apply Rd)); exact HO_397001.out))) (Kd.R_lt (by (with_reducible repeat (first | apply Ra | apply Rn | apply Rd)); exact HO411.out))) (below_size (by repeat (first | (with_reducible first | exact HB.out | apply Ba | apply Bn | apply Bd | refine Bs ?_ GE390.out | refine Bs ?_ GE396.out) | exact HB.out)))); have n5_ := Am (blk_below (g := gb390) (o := .cells #[.int .i64 t385, .slice Ao19 t386.length co19] 27 (0, 0)) (by (with_reducible repeat (first | refine Kn ?_ _ | refine Ke ?_ | refine Ka ?_ _)); exact BK390.out) hb); have n6_ := Am (blk_below (g := gb396) (o := .cells #[.int .i64 t391, .slice Ao24 t392.length co24] 27 (0, 0)) (by (with_reducible repeat (first | refine Kn ?_ _ | refine Ke ?_ | refine Ka ?_ _)); exact BK396.out) hb); have n7_ := Am (below_step (by repeat (first | (with_reducible first | exact HB.out | apply Ba | apply Bn | apply Bd | refine Bs ?_ GE390.out | refine Bs ?_ GE396.out) | exact HB.out)) hb); clear HO_5; clear HO_391001; clear HO_397001; clear HO411; clear BK390; clear BK396; clear HB; have HO_5 := n0_; have HO_391001 := n1_; have HO_397001 := n2_; have HO411 := n3_; have HO415 := n4_; have BK390 := n5_; have BK396 := n6_; have HB := n7_; clear n0_ n1_ n2_ n3_ n4_ n5_ n6_ n7_; (try clear hb); (try clear hb2); (try clear hk); (try clear hi); (try clear ho0); obtain ⟨Ao107, co107, eo107⟩ := Kd.R_slice HO411.out; subst eo107) | (go_at_call 18; (with_reducible refine (laws_ySame.calls kj12 _ _ t409 _ _ t382 true _ ?side1 ?side2 ?side3 ?side4 A97.out).mono ?_); (case side1 => repeat (first | exact (Kd.R_reads' HO411.out).2.2 | (with_reducible refine Ca ?_ _) | (with_reducible refine Cn ?_ _) | (with_reducible refine Cd ?_))); (case side2 => exact (Kd.R_reads' HO411.out).2.1); (case side3 => repeat (first | exact (Kd.R_reads' HO_5.out).2.2 | (with_reducible refine Ca ?_ _) | (with_reducible refine Cn ?_ _) | (with_reducible refine Cd ?_))); (case side4 => exact (Kd.R_reads' HO_5.out).2.1); rintro e w' ⟨rfl, ⟨nd, rfl⟩⟩; have hcz108_0 : w106.cell? ⟨gb390, 0, none⟩ = some (.int .i64 t385) := (Kc BK390.out 0).trans rfl; have hcz108_1 : w106.cell? ⟨gb390, 1, none⟩ = some (.slice Ao19 t386.length co19) := (Kc BK390.out 1).trans rfl; have hfz108_0 := Kf BK390.out 0; have hfz108_1 := Kf BK390.out 1) | (go_at_call 19; (with_reducible refine (impl_IsTournament.calls kj12 t385 _ _ t386 true _ ?side1 ?side2 A99.out).mono ?_); (case side1 => repeat (first | exact (Kd.R_reads' HO_391001.out).2.2 | (with_reducible refine Ca ?_ _) | (with_reducible refine Cn ?_ _) | (with_reducible refine Cd ?_))); (case side2 => exact (Kd.R_reads' HO_391001.out).2.1); rintro e w109 ⟨rfl, hb⟩; have n0_ := Am (Kd.R_below (by (with_reducible repeat (first | apply Ra | apply Rn | apply Rd)); exact HO_5.out) hb); have n1_ := Am (Kd.R_below (by (with_reducible repeat (first | apply Ra | apply Rn | apply Rd)); exact HO_391001.out) hb); have n2_ := Am (Kd.R_below (by (with_reducible repeat (first | apply Ra | apply Rn | apply Rd)); exact HO_397001.out) hb); have n3_ := Am (Kd.R_below (by (with_reducible repeat (first | apply Ra | apply Rn | apply Rd)); exact HO411.out) hb); have n4_ := Am (Kd.S_below (by (with_reducible repeat (first | apply Sa | apply Sn | apply Sd)); exact HO415.out) hb); have n5_ := Am (blk_below (g := gb390) (o := .cells #[.int .i64 t385, .slice Ao19 t386.length co19] 27 (0, 0)) (by (with_reducible repeat (first | refine Kn ?_ _ | refine Ke ?_ | refine Ka ?_ _)); exact BK390.out) hb); have n6_ := Am (blk_below (g := gb396) (o := .cells #[.int .i64 t391, .slice Ao24 t392.length co24] 27 (0, 0)) (by (with_reducible repeat (first | refine Kn ?_ _ | refine Ke ?_ | refine Ka ?_ _)); exact BK396.out) hb); have n7_ := Am (below_step (by repeat (first | (with_reducible first | exact HB.out | apply Ba | apply Bn | apply Bd | refine Bs ?_ GE390.out | refine Bs ?_ GE396.out) | exact HB.out)) hb); clear HO_5; clear HO_391001; clear HO_397001; clear HO411; clear HO415; clear BK390; clear BK396; clear HB; have HO_5 := n0_; have HO_391001 := n1_; have HO_397001 := n2_; have HO411 := n3_; have HO415 := n4_; have BK390 := n5_; have BK396 := n6_; have HB := n7_; clear n0_ n1_ n2_ n3_ n4_ n5_ n6_ n7_; (try clear hb); (try clear hb2); (try clear hk); (try clear hi); obtain ⟨Ao110, co110, eo110⟩ := Kd.S_slice HO415.out; subst eo110))
          go_ret
          exact ⟨by first | rfl | (simp [errW_none, errW_some] <;> rfl) | (simp [*, errW_none, errW_some] <;> rfl), by repeat (first | (with_reducible first | exact HB.out | apply Ba | apply Bn | apply Bd | refine Bs ?_ GE390.out | refine Bs ?_ GE396.out) | exact HB.out)⟩
         ·
          replace c101 := Bool.eq_false_iff.mpr c101
          subst c101
          have H1 : (some false) = some r := by rw [if_neg (show ¬ (false = true) by decide)] at H; exact H
          clear H
          have H := H1
          clear H1
          obtain rfl := Option.some.inj H
          have hnb111 := NB390_396.out
          have hnc111 := NB396_390.out
          have hcz112_0 : wc.cell? ⟨gb390, 0, none⟩ = some (.int .i64 t385) := (Kc BK390.out 0).trans rfl
          have hcz112_1 : wc.cell? ⟨gb390, 1, none⟩ = some (.slice Ao19 t386.length co19) := (Kc BK390.out 1).trans rfl
          have hfz112_0 := Kf BK390.out 0
          have hfz112_1 := Kf BK390.out 1
          go_wp2_with (first | ((with_reducible refine gate_callee (f := 16) rfl ?_); refine goesL_ (some 120) rfl rfl Try.func16 (by kernel_rfl) rfl #[.agg #[.int .i64 t385, .slice Ao19 t386.length co19]] rfl (by (try simp only [List.map_toArray, List.map_cons, List.map_nil]); first | done | rfl) ?_; (with_reducible refine (impl_ScoresOf.calls kj12 t385 _ _ t386 t409 true _ ?side1 ?side2 A94.out).mono ?_); (case side1 => repeat (first | exact (Kd.R_reads' HO_391001.out).2.2 | (with_reducible refine Ca ?_ _) | (with_reducible refine Cn ?_ _) | (with_reducible refine Cd ?_))); (case side2 => exact (Kd.R_reads' HO_391001.out).2.1); rintro e w113 ⟨v410, rfl, ho0, hb⟩; refine ⟨_, rfl, ?_⟩; have n0_ := Am (Kd.R_elder' (by (with_reducible repeat (first | apply Ra | apply Rn | apply Rd)); exact HO_5.out) (Kd.R_base ho0) hb); have n1_ := Am (Kd.R_elder' (by (with_reducible repeat (first | apply Ra | apply Rn | apply Rd)); exact HO_391001.out) (Kd.R_base ho0) hb); have n2_ := Am (Kd.R_elder' (by (with_reducible repeat (first | apply Ra | apply Rn | apply Rd)); exact HO_397001.out) (Kd.R_base ho0) hb); have n3_ := Am (Kd.R_lower (Kd.R_new' (Kd.R_new' (Kd.R_new' ho0 (Kd.R_lt (by (with_reducible repeat (first | apply Ra | apply Rn | apply Rd)); exact HO_5.out))) (Kd.R_lt (by (with_reducible repeat (first | apply Ra | apply Rn | apply Rd)); exact HO_391001.out))) (Kd.R_lt (by (with_reducible repeat (first | apply Ra | apply Rn | apply Rd)); exact HO_397001.out))) (below_size (by repeat (first | (with_reducible first | exact HB.out | apply Ba | apply Bn | apply Bd | refine Bs ?_ GE390.out | refine Bs ?_ GE396.out) | exact HB.out)))); have n4_ := Am (blk_below (g := gb390) (o := .cells #[.int .i64 t385, .slice Ao19 t386.length co19] 27 (0, 0)) (by (with_reducible repeat (first | refine Kn ?_ _ | refine Ke ?_ | refine Ka ?_ _)); exact BK390.out) hb); have n5_ := Am (blk_below (g := gb396) (o := .cells #[.int .i64 t391, .slice Ao24 t392.length co24] 27 (0, 0)) (by (with_reducible repeat (first | refine Kn ?_ _ | refine Ke ?_ | refine Ka ?_ _)); exact BK396.out) hb); have n6_ := Am (below_step (by repeat (first | (with_reducible first | exact HB.out | apply Ba | apply Bn | apply Bd | refine Bs ?_ GE390.out | refine Bs ?_ GE396.out) | exact HB.out)) hb); clear HO_5; clear HO_391001; clear HO_397001; clear BK390; clear BK396; clear HB; have HO_5 := n0_; have HO_391001 := n1_; have HO_397001 := n2_; have HO411 := n3_; have BK390 := n4_; have BK396 := n5_; have HB := n6_; clear n0_ n1_ n2_ n3_ n4_ n5_ n6_; (try clear hb); (try clear hb2); (try clear hk); (try clear hi); (try clear ho0); have hcz114_0 : w113.cell? ⟨gb390, 0, none⟩ = some (.int .i64 t385) := (Kc BK390.out 0).trans rfl; have hcz114_1 : w113.cell? ⟨gb390, 1, none⟩ = some (.slice Ao19 t386.length co19) := (Kc BK390.out 1).trans rfl; have hfz114_0 := Kf BK390.out 0; have hfz114_1 := Kf BK390.out 1) | ((with_reducible refine gate_callee (f := 17) rfl ?_); refine goesL_ (some 125) rfl rfl Try.func17 (by kernel_rfl) rfl #[.agg #[.int .i64 t385, .slice Ao19 t386.length co19]] rfl (by (try simp only [List.map_toArray, List.map_cons, List.map_nil]); first | done | rfl) ?_; (with_reducible refine (impl_CirclesOf.calls kj12 t385 _ _ t386 t413 false _ ?side1 ?side2 A95.out).mono ?_); (case side1 => repeat (first | exact (Kd.R_reads' HO_391001.out).2.2 | (with_reducible refine Ca ?_ _) | (with_reducible refine Cn ?_ _) | (with_reducible refine Cd ?_))); (case side2 => exact (Kd.R_reads' HO_391001.out).2.1); rintro e w115 ⟨v414, rfl, ho0, hb⟩; refine ⟨_, rfl, ?_⟩; have n0_ := Am (Kd.R_below (by (with_reducible repeat (first | apply Ra | apply Rn | apply Rd)); exact HO_5.out) hb); have n1_ := Am (Kd.R_below (by (with_reducible repeat (first | apply Ra | apply Rn | apply Rd)); exact HO_391001.out) hb); have n2_ := Am (Kd.R_below (by (with_reducible repeat (first | apply Ra | apply Rn | apply Rd)); exact HO_397001.out) hb); have n3_ := Am (Kd.R_below (by (with_reducible repeat (first | apply Ra | apply Rn | apply Rd)); exact HO411.out) hb); have n4_ := Am (Kd.S_lower (Kd.S_new' (Kd.S_new' (Kd.S_new' (Kd.S_new' ho0 (Kd.R_lt (by (with_reducible repeat (first | apply Ra | apply Rn | apply Rd)); exact HO_5.out))) (Kd.R_lt (by (with_reducible repeat (first | apply Ra | apply Rn | apply Rd)); exact HO_391001.out))) (Kd.R_lt (by (with_reducible repeat (first | apply Ra | apply Rn | apply Rd)); exact HO_397001.out))) (Kd.R_lt (by (with_reducible repeat (first | apply Ra | apply Rn | apply Rd)); exact HO411.out))) (below_size (by repeat (first | (with_reducible first | exact HB.out | apply Ba | apply Bn | apply Bd | refine Bs ?_ GE390.out | refine Bs ?_ GE396.out) | exact HB.out)))); have n5_ := Am (blk_below (g := gb390) (o := .cells #[.int .i64 t385, .slice Ao19 t386.length co19] 27 (0, 0)) (by (with_reducible repeat (first | refine Kn ?_ _ | refine Ke ?_ | refine Ka ?_ _)); exact BK390.out) hb); have n6_ := Am (blk_below (g := gb396) (o := .cells #[.int .i64 t391, .slice Ao24 t392.length co24] 27 (0, 0)) (by (with_reducible repeat (first | refine Kn ?_ _ | refine Ke ?_ | refine Ka ?_ _)); exact BK396.out) hb); have n7_ := Am (below_step (by repeat (first | (with_reducible first | exact HB.out | apply Ba | apply Bn | apply Bd | refine Bs ?_ GE390.out | refine Bs ?_ GE396.out) | exact HB.out)) hb); clear HO_5; clear HO_391001; clear HO_397001; clear HO411; clear BK390; clear BK396; clear HB; have HO_5 := n0_; have HO_391001 := n1_; have HO_397001 := n2_; have HO411 := n3_; have HO415 := n4_; have BK390 := n5_; have BK396 := n6_; have HB := n7_; clear n0_ n1_ n2_ n3_ n4_ n5_ n6_ n7_; (try clear hb); (try clear hb2); (try clear hk); (try clear hi); (try clear ho0); obtain ⟨Ao116, co116, eo116⟩ := Kd.R_slice HO411.out; subst eo116) | (go_at_call 18; (with_reducible refine (laws_ySame.calls kj12 _ _ t409 _ _ t382 true _ ?side1 ?side2 ?side3 ?side4 A97.out).mono ?_); (case side1 => repeat (first | exact (Kd.R_reads' HO411.out).2.2 | (with_reducible refine Ca ?_ _) | (with_reducible refine Cn ?_ _) | (with_reducible refine Cd ?_))); (case side2 => exact (Kd.R_reads' HO411.out).2.1); (case side3 => repeat (first | exact (Kd.R_reads' HO_5.out).2.2 | (with_reducible refine Ca ?_ _) | (with_reducible refine Cn ?_ _) | (with_reducible refine Cd ?_))); (case side4 => exact (Kd.R_reads' HO_5.out).2.1); rintro e w' ⟨rfl, ⟨nd, rfl⟩⟩; have hcz117_0 : w115.cell? ⟨gb390, 0, none⟩ = some (.int .i64 t385) := (Kc BK390.out 0).trans rfl; have hcz117_1 : w115.cell? ⟨gb390, 1, none⟩ = some (.slice Ao19 t386.length co19) := (Kc BK390.out 1).trans rfl; have hfz117_0 := Kf BK390.out 0; have hfz117_1 := Kf BK390.out 1) | (go_at_call 19; (with_reducible refine (impl_IsTournament.calls kj12 t385 _ _ t386 true _ ?side1 ?side2 A99.out).mono ?_); (case side1 => repeat (first | exact (Kd.R_reads' HO_391001.out).2.2 | (with_reducible refine Ca ?_ _) | (with_reducible refine Cn ?_ _) | (with_reducible refine Cd ?_))); (case side2 => exact (Kd.R_reads' HO_391001.out).2.1); rintro e w118 ⟨rfl, hb⟩; have n0_ := Am (Kd.R_below (by (with_reducible repeat (first | apply Ra | apply Rn | apply Rd)); exact HO_5.out) hb); have n1_ := Am (Kd.R_below (by (with_reducible repeat (first | apply Ra | apply Rn | apply Rd)); exact HO_391001.out) hb); have n2_ := Am (Kd.R_below (by (with_reducible repeat (first | apply Ra | apply Rn | apply Rd)); exact HO_397001.out) hb); have n3_ := Am (Kd.R_below (by (with_reducible repeat (first | apply Ra | apply Rn | apply Rd)); exact HO411.out) hb); have n4_ := Am (Kd.S_below (by (with_reducible repeat (first | apply Sa | apply Sn | apply Sd)); exact HO415.out) hb); have n5_ := Am (blk_below (g := gb390) (o := .cells #[.int .i64 t385, .slice Ao19 t386.length co19] 27 (0, 0)) (by (with_reducible repeat (first | refine Kn ?_ _ | refine Ke ?_ | refine Ka ?_ _)); exact BK390.out) hb); have n6_ := Am (blk_below (g := gb396) (o := .cells #[.int .i64 t391, .slice Ao24 t392.length co24] 27 (0, 0)) (by (with_reducible repeat (first | refine Kn ?_ _ | refine Ke ?_ | refine Ka ?_ _)); exact BK396.out) hb); have n7_ := Am (below_step (by repeat (first | (with_reducible first | exact HB.out | apply Ba | apply Bn | apply Bd | refine Bs ?_ GE390.out | refine Bs ?_ GE396.out) | exact HB.out)) hb); clear HO_5; clear HO_391001; clear HO_397001; clear HO411; clear HO415; clear BK390; clear BK396; clear HB; have HO_5 := n0_; have HO_391001 := n1_; have HO_397001 := n2_; have HO411 := n3_; have HO415 := n4_; have BK390 := n5_; have BK396 := n6_; have HB := n7_; clear n0_ n1_ n2_ n3_ n4_ n5_ n6_ n7_; (try clear hb); (try clear hb2); (try clear hk); (try clear hi)))
          go_ret
          exact ⟨by first | rfl | (simp [errW_none, errW_some] <;> rfl) | (simp [*, errW_none, errW_some] <;> rfl), by repeat (first | (with_reducible first | exact HB.out | apply Ba | apply Bn | apply Bd | refine Bs ?_ GE390.out | refine Bs ?_ GE396.out) | exact HB.out)⟩
        ·
         replace c100 := Bool.eq_false_iff.mpr c100
         subst c100
         have H1 : (some false) = some r := by rw [if_neg (show ¬ (false = true) by decide)] at H; exact H
         clear H
         have H := H1
         clear H1
         obtain rfl := Option.some.inj H
         have hnb119 := NB390_396.out
         have hnc119 := NB396_390.out
         have hcz120_0 : wc.cell? ⟨gb390, 0, none⟩ = some (.int .i64 t385) := (Kc BK390.out 0).trans rfl
         have hcz120_1 : wc.cell? ⟨gb390, 1, none⟩ = some (.slice Ao19 t386.length co19) := (Kc BK390.out 1).trans rfl
         have hfz120_0 := Kf BK390.out 0
         have hfz120_1 := Kf BK390.out 1
         go_wp2_with (first | ((with_reducible refine gate_callee (f := 16) rfl ?_); refine goesL_ (some 120) rfl rfl Try.func16 (by kernel_rfl) rfl #[.agg #[.int .i64 t385, .slice Ao19 t386.length co19]] rfl (by (try simp only [List.map_toArray, List.map_cons, List.map_nil]); first | done | rfl) ?_; (with_reducible refine (impl_ScoresOf.calls kj12 t385 _ _ t386 t409 true _ ?side1 ?side2 A94.out).mono ?_); (case side1 => repeat (first | exact (Kd.R_reads' HO_391001.out).2.2 | (with_reducible refine Ca ?_ _) | (with_reducible refine Cn ?_ _) | (with_reducible refine Cd ?_))); (case side2 => exact (Kd.R_reads' HO_391001.out).2.1); rintro e w121 ⟨v410, rfl, ho0, hb⟩; refine ⟨_, rfl, ?_⟩; have n0_ := Am (Kd.R_elder' (by (with_reducible repeat (first | apply Ra | apply Rn | apply Rd)); exact HO_5.out) (Kd.R_base ho0) hb); have n1_ := Am (Kd.R_elder' (by (with_reducible repeat (first | apply Ra | apply Rn | apply Rd)); exact HO_391001.out) (Kd.R_base ho0) hb); have n2_ := Am (Kd.R_elder' (by (with_reducible repeat (first | apply Ra | apply Rn | apply Rd)); exact HO_397001.out) (Kd.R_base ho0) hb); have n3_ := Am (Kd.R_lower (Kd.R_new' (Kd.R_new' (Kd.R_new' ho0 (Kd.R_lt (by (with_reducible repeat (first | apply Ra | apply Rn | apply Rd)); exact HO_5.out))) (Kd.R_lt (by (with_reducible repeat (first | apply Ra | apply Rn | apply Rd)); exact HO_391001.out))) (Kd.R_lt (by (with_reducible repeat (first | apply Ra | apply Rn | apply Rd)); exact HO_397001.out))) (below_size (by repeat (first | (with_reducible first | exact HB.out | apply Ba | apply Bn | apply Bd | refine Bs ?_ GE390.out | refine Bs ?_ GE396.out) | exact HB.out)))); have n4_ := Am (blk_below (g := gb390) (o := .cells #[.int .i64 t385, .slice Ao19 t386.length co19] 27 (0, 0)) (by (with_reducible repeat (first | refine Kn ?_ _ | refine Ke ?_ | refine Ka ?_ _)); exact BK390.out) hb); have n5_ := Am (blk_below (g := gb396) (o := .cells #[.int .i64 t391, .slice Ao24 t392.length co24] 27 (0, 0)) (by (with_reducible repeat (first | refine Kn ?_ _ | refine Ke ?_ | refine Ka ?_ _)); exact BK396.out) hb); have n6_ := Am (below_step (by repeat (first | (with_reducible first | exact HB.out | apply Ba | apply Bn | apply Bd | refine Bs ?_ GE390.out | refine Bs ?_ GE396.out) | exact HB.out)) hb); clear HO_5; clear HO_391001; clear HO_397001; clear BK390; clear BK396; clear HB; have HO_5 := n0_; have HO_391001 := n1_; have HO_397001 := n2_; have HO411 := n3_; have BK390 := n4_; have BK396 := n5_; have HB := n6_; clear n0_ n1_ n2_ n3_ n4_ n5_ n6_; (try clear hb); (try clear hb2); (try clear hk); (try clear hi); (try clear ho0); have hcz122_0 : w121.cell? ⟨gb390, 0, none⟩ = some (.int .i64 t385) := (Kc BK390.out 0).trans rfl; have hcz122_1 : w121.cell? ⟨gb390, 1, none⟩ = some (.slice Ao19 t386.length co19) := (Kc BK390.out 1).trans rfl; have hfz122_0 := Kf BK390.out 0; have hfz122_1 := Kf BK390.out 1) | ((with_reducible refine gate_callee (f := 17) rfl ?_); refine goesL_ (some 125) rfl rfl Try.func17 (by kernel_rfl) rfl #[.agg #[.int .i64 t385, .slice Ao19 t386.length co19]] rfl (by (try simp only [List.map_toArray, List.map_cons, List.map_nil]); first | done | rfl) ?_; (with_reducible refine (impl_CirclesOf.calls kj12 t385 _ _ t386 t413 t416 _ ?side1 ?side2 A95.out).mono ?_); (case side1 => repeat (first | exact (Kd.R_reads' HO_391001.out).2.2 | (with_reducible refine Ca ?_ _) | (with_reducible refine Cn ?_ _) | (with_reducible refine Cd ?_))); (case side2 => exact (Kd.R_reads' HO_391001.out).2.1); rintro e w123 ⟨v414, rfl, ho0, hb⟩; refine ⟨_, rfl, ?_⟩; have n0_ := Am (Kd.R_below (by (with_reducible repeat (first | apply Ra | apply Rn | apply Rd)); exact HO_5.out) hb); have n1_ := Am (Kd.R_below (by (with_reducible repeat (first | apply Ra | apply Rn | apply Rd)); exact HO_391001.out) hb); have n2_ := Am (Kd.R_below (by (with_reducible repeat (first | apply Ra | apply Rn | apply Rd)); exact HO_397001.out) hb); have n3_ := Am (Kd.R_below (by (with_reducible repeat (first | apply Ra | apply Rn | apply Rd)); exact HO411.out) hb); have n4_ := Am (Kd.S_lower (Kd.S_new' (Kd.S_new' (Kd.S_new' (Kd.S_new' ho0 (Kd.R_lt (by (with_reducible repeat (first | apply Ra | apply Rn | apply Rd)); exact HO_5.out))) (Kd.R_lt (by (with_reducible repeat (first | apply Ra | apply Rn | apply Rd)); exact HO_391001.out))) (Kd.R_lt (by (with_reducible repeat (first | apply Ra | apply Rn | apply Rd)); exact HO_397001.out))) (Kd.R_lt (by (with_reducible repeat (first | apply Ra | apply Rn | apply Rd)); exact HO411.out))) (below_size (by repeat (first | (with_reducible first | exact HB.out | apply Ba | apply Bn | apply Bd | refine Bs ?_ GE390.out | refine Bs ?_ GE396.out) | exact HB.out)))); have n5_ := Am (blk_below (g := gb390) (o := .cells #[.int .i64 t385, .slice Ao19 t386.length co19] 27 (0, 0)) (by (with_reducible repeat (first | refine Kn ?_ _ | refine Ke ?_ | refine Ka ?_ _)); exact BK390.out) hb); have n6_ := Am (blk_below (g := gb396) (o := .cells #[.int .i64 t391, .slice Ao24 t392.length co24] 27 (0, 0)) (by (with_reducible repeat (first | refine Kn ?_ _ | refine Ke ?_ | refine Ka ?_ _)); exact BK396.out) hb); have n7_ := Am (below_step (by repeat (first | (with_reducible first | exact HB.out | apply Ba | apply Bn | apply Bd | refine Bs ?_ GE390.out | refine Bs ?_ GE396.out) | exact HB.out)) hb); clear HO_5; clear HO_391001; clear HO_397001; clear HO411; clear BK390; clear BK396; clear HB; have HO_5 := n0_; have HO_391001 := n1_; have HO_397001 := n2_; have HO411 := n3_; have HO415 := n4_; have BK390 := n5_; have BK396 := n6_; have HB := n7_; clear n0_ n1_ n2_ n3_ n4_ n5_ n6_ n7_; (try clear hb); (try clear hb2); (try clear hk); (try clear hi); (try clear ho0); obtain ⟨Ao124, co124, eo124⟩ := Kd.R_slice HO411.out; subst eo124) | (go_at_call 18; (with_reducible refine (laws_ySame.calls kj12 _ _ t409 _ _ t382 true _ ?side1 ?side2 ?side3 ?side4 A97.out).mono ?_); (case side1 => repeat (first | exact (Kd.R_reads' HO411.out).2.2 | (with_reducible refine Ca ?_ _) | (with_reducible refine Cn ?_ _) | (with_reducible refine Cd ?_))); (case side2 => exact (Kd.R_reads' HO411.out).2.1); (case side3 => repeat (first | exact (Kd.R_reads' HO_5.out).2.2 | (with_reducible refine Ca ?_ _) | (with_reducible refine Cn ?_ _) | (with_reducible refine Cd ?_))); (case side4 => exact (Kd.R_reads' HO_5.out).2.1); rintro e w' ⟨rfl, ⟨nd, rfl⟩⟩; have hcz125_0 : w123.cell? ⟨gb390, 0, none⟩ = some (.int .i64 t385) := (Kc BK390.out 0).trans rfl; have hcz125_1 : w123.cell? ⟨gb390, 1, none⟩ = some (.slice Ao19 t386.length co19) := (Kc BK390.out 1).trans rfl; have hfz125_0 := Kf BK390.out 0; have hfz125_1 := Kf BK390.out 1) | (go_at_call 19; (with_reducible refine (impl_IsTournament.calls kj12 t385 _ _ t386 false _ ?side1 ?side2 A99.out).mono ?_); (case side1 => repeat (first | exact (Kd.R_reads' HO_391001.out).2.2 | (with_reducible refine Ca ?_ _) | (with_reducible refine Cn ?_ _) | (with_reducible refine Cd ?_))); (case side2 => exact (Kd.R_reads' HO_391001.out).2.1); rintro e w126 ⟨rfl, hb⟩; have n0_ := Am (Kd.R_below (by (with_reducible repeat (first | apply Ra | apply Rn | apply Rd)); exact HO_5.out) hb); have n1_ := Am (Kd.R_below (by (with_reducible repeat (first | apply Ra | apply Rn | apply Rd)); exact HO_391001.out) hb); have n2_ := Am (Kd.R_below (by (with_reducible repeat (first | apply Ra | apply Rn | apply Rd)); exact HO_397001.out) hb); have n3_ := Am (Kd.R_below (by (with_reducible repeat (first | apply Ra | apply Rn | apply Rd)); exact HO411.out) hb); have n4_ := Am (Kd.S_below (by (with_reducible repeat (first | apply Sa | apply Sn | apply Sd)); exact HO415.out) hb); have n5_ := Am (blk_below (g := gb390) (o := .cells #[.int .i64 t385, .slice Ao19 t386.length co19] 27 (0, 0)) (by (with_reducible repeat (first | refine Kn ?_ _ | refine Ke ?_ | refine Ka ?_ _)); exact BK390.out) hb); have n6_ := Am (blk_below (g := gb396) (o := .cells #[.int .i64 t391, .slice Ao24 t392.length co24] 27 (0, 0)) (by (with_reducible repeat (first | refine Kn ?_ _ | refine Ke ?_ | refine Ka ?_ _)); exact BK396.out) hb); have n7_ := Am (below_step (by repeat (first | (with_reducible first | exact HB.out | apply Ba | apply Bn | apply Bd | refine Bs ?_ GE390.out | refine Bs ?_ GE396.out) | exact HB.out)) hb); clear HO_5; clear HO_391001; clear HO_397001; clear HO411; clear HO415; clear BK390; clear BK396; clear HB; have HO_5 := n0_; have HO_391001 := n1_; have HO_397001 := n2_; have HO411 := n3_; have HO415 := n4_; have BK390 := n5_; have BK396 := n6_; have HB := n7_; clear n0_ n1_ n2_ n3_ n4_ n5_ n6_ n7_; (try clear hb); (try clear hb2); (try clear hk); (try clear hi)))
         go_ret
         exact ⟨by first | rfl | (simp [errW_none, errW_some] <;> rfl) | (simp [*, errW_none, errW_some] <;> rfl), by repeat (first | (with_reducible first | exact HB.out | apply Ba | apply Bn | apply Bd | refine Bs ?_ GE390.out | refine Bs ?_ GE396.out) | exact HB.out)⟩
       ·
        replace c98 := Bool.eq_false_iff.mpr c98
        subst c98
        have H1 : (some false) = some r := by rw [if_neg (show ¬ (false = true) by decide)] at H; exact H
        clear H
        have H := H1
        clear H1
        obtain rfl := Option.some.inj H
        have hnb127 := NB390_396.out
        have hnc127 := NB396_390.out
        have hcz128_0 : wc.cell? ⟨gb390, 0, none⟩ = some (.int .i64 t385) := (Kc BK390.out 0).trans rfl
        have hcz128_1 : wc.cell? ⟨gb390, 1, none⟩ = some (.slice Ao19 t386.length co19) := (Kc BK390.out 1).trans rfl
        have hfz128_0 := Kf BK390.out 0
        have hfz128_1 := Kf BK390.out 1
        go_wp2_with (first | ((with_reducible refine gate_callee (f := 16) rfl ?_); refine goesL_ (some 120) rfl rfl Try.func16 (by kernel_rfl) rfl #[.agg #[.int .i64 t385, .slice Ao19 t386.length co19]] rfl (by (try simp only [List.map_toArray, List.map_cons, List.map_nil]); first | done | rfl) ?_; (with_reducible refine (impl_ScoresOf.calls kj12 t385 _ _ t386 t409 true _ ?side1 ?side2 A94.out).mono ?_); (case side1 => repeat (first | exact (Kd.R_reads' HO_391001.out).2.2 | (with_reducible refine Ca ?_ _) | (with_reducible refine Cn ?_ _) | (with_reducible refine Cd ?_))); (case side2 => exact (Kd.R_reads' HO_391001.out).2.1); rintro e w129 ⟨v410, rfl, ho0, hb⟩; refine ⟨_, rfl, ?_⟩; have n0_ := Am (Kd.R_elder' (by (with_reducible repeat (first | apply Ra | apply Rn | apply Rd)); exact HO_5.out) (Kd.R_base ho0) hb); have n1_ := Am (Kd.R_elder' (by (with_reducible repeat (first | apply Ra | apply Rn | apply Rd)); exact HO_391001.out) (Kd.R_base ho0) hb); have n2_ := Am (Kd.R_elder' (by (with_reducible repeat (first | apply Ra | apply Rn | apply Rd)); exact HO_397001.out) (Kd.R_base ho0) hb); have n3_ := Am (Kd.R_lower (Kd.R_new' (Kd.R_new' (Kd.R_new' ho0 (Kd.R_lt (by (with_reducible repeat (first | apply Ra | apply Rn | apply Rd)); exact HO_5.out))) (Kd.R_lt (by (with_reducible repeat (first | apply Ra | apply Rn | apply Rd)); exact HO_391001.out))) (Kd.R_lt (by (with_reducible repeat (first | apply Ra | apply Rn | apply Rd)); exact HO_397001.out))) (below_size (by repeat (first | (with_reducible first | exact HB.out | apply Ba | apply Bn | apply Bd | refine Bs ?_ GE390.out | refine Bs ?_ GE396.out) | exact HB.out)))); have n4_ := Am (blk_below (g := gb390) (o := .cells #[.int .i64 t385, .slice Ao19 t386.length co19] 27 (0, 0)) (by (with_reducible repeat (first | refine Kn ?_ _ | refine Ke ?_ | refine Ka ?_ _)); exact BK390.out) hb); have n5_ := Am (blk_below (g := gb396) (o := .cells #[.int .i64 t391, .slice Ao24 t392.length co24] 27 (0, 0)) (by (with_reducible repeat (first | refine Kn ?_ _ | refine Ke ?_ | refine Ka ?_ _)); exact BK396.out) hb); have n6_ := Am (below_step (by repeat (first | (with_reducible first | exact HB.out | apply Ba | apply Bn | apply Bd | refine Bs ?_ GE390.out | refine Bs ?_ GE396.out) | exact HB.out)) hb); clear HO_5; clear HO_391001; clear HO_397001; clear BK390; clear BK396; clear HB; have HO_5 := n0_; have HO_391001 := n1_; have HO_397001 := n2_; have HO411 := n3_; have BK390 := n4_; have BK396 := n5_; have HB := n6_; clear n0_ n1_ n2_ n3_ n4_ n5_ n6_; (try clear hb); (try clear hb2); (try clear hk); (try clear hi); (try clear ho0); have hcz130_0 : w129.cell? ⟨gb390, 0, none⟩ = some (.int .i64 t385) := (Kc BK390.out 0).trans rfl; have hcz130_1 : w129.cell? ⟨gb390, 1, none⟩ = some (.slice Ao19 t386.length co19) := (Kc BK390.out 1).trans rfl; have hfz130_0 := Kf BK390.out 0; have hfz130_1 := Kf BK390.out 1) | ((with_reducible refine gate_callee (f := 17) rfl ?_); refine goesL_ (some 125) rfl rfl Try.func17 (by kernel_rfl) rfl #[.agg #[.int .i64 t385, .slice Ao19 t386.length co19]] rfl (by (try simp only [List.map_toArray, List.map_cons, List.map_nil]); first | done | rfl) ?_; (with_reducible refine (impl_CirclesOf.calls kj12 t385 _ _ t386 t413 t416 _ ?side1 ?side2 A95.out).mono ?_); (case side1 => repeat (first | exact (Kd.R_reads' HO_391001.out).2.2 | (with_reducible refine Ca ?_ _) | (with_reducible refine Cn ?_ _) | (with_reducible refine Cd ?_))); (case side2 => exact (Kd.R_reads' HO_391001.out).2.1); rintro e w131 ⟨v414, rfl, ho0, hb⟩; refine ⟨_, rfl, ?_⟩; have n0_ := Am (Kd.R_below (by (with_reducible repeat (first | apply Ra | apply Rn | apply Rd)); exact HO_5.out) hb); have n1_ := Am (Kd.R_below (by (with_reducible repeat (first | apply Ra | apply Rn | apply Rd)); exact HO_391001.out) hb); have n2_ := Am (Kd.R_below (by (with_reducible repeat (first | apply Ra | apply Rn | apply Rd)); exact HO_397001.out) hb); have n3_ := Am (Kd.R_below (by (with_reducible repeat (first | apply Ra | apply Rn | apply Rd)); exact HO411.out) hb); have n4_ := Am (Kd.S_lower (Kd.S_new' (Kd.S_new' (Kd.S_new' (Kd.S_new' ho0 (Kd.R_lt (by (with_reducible repeat (first | apply Ra | apply Rn | apply Rd)); exact HO_5.out))) (Kd.R_lt (by (with_reducible repeat (first | apply Ra | apply Rn | apply Rd)); exact HO_391001.out))) (Kd.R_lt (by (with_reducible repeat (first | apply Ra | apply Rn | apply Rd)); exact HO_397001.out))) (Kd.R_lt (by (with_reducible repeat (first | apply Ra | apply Rn | apply Rd)); exact HO411.out))) (below_size (by repeat (first | (with_reducible first | exact HB.out | apply Ba | apply Bn | apply Bd | refine Bs ?_ GE390.out | refine Bs ?_ GE396.out) | exact HB.out)))); have n5_ := Am (blk_below (g := gb390) (o := .cells #[.int .i64 t385, .slice Ao19 t386.length co19] 27 (0, 0)) (by (with_reducible repeat (first | refine Kn ?_ _ | refine Ke ?_ | refine Ka ?_ _)); exact BK390.out) hb); have n6_ := Am (blk_below (g := gb396) (o := .cells #[.int .i64 t391, .slice Ao24 t392.length co24] 27 (0, 0)) (by (with_reducible repeat (first | refine Kn ?_ _ | refine Ke ?_ | refine Ka ?_ _)); exact BK396.out) hb); have n7_ := Am (below_step (by repeat (first | (with_reducible first | exact HB.out | apply Ba | apply Bn | apply Bd | refine Bs ?_ GE390.out | refine Bs ?_ GE396.out) | exact HB.out)) hb); clear HO_5; clear HO_391001; clear HO_397001; clear HO411; clear BK390; clear BK396; clear HB; have HO_5 := n0_; have HO_391001 := n1_; have HO_397001 := n2_; have HO411 := n3_; have HO415 := n4_; have BK390 := n5_; have BK396 := n6_; have HB := n7_; clear n0_ n1_ n2_ n3_ n4_ n5_ n6_ n7_; (try clear hb); (try clear hb2); (try clear hk); (try clear hi); (try clear ho0); obtain ⟨Ao132, co132, eo132⟩ := Kd.R_slice HO411.out; subst eo132) | (go_at_call 18; (with_reducible refine (laws_ySame.calls kj12 _ _ t409 _ _ t382 false _ ?side1 ?side2 ?side3 ?side4 A97.out).mono ?_); (case side1 => repeat (first | exact (Kd.R_reads' HO411.out).2.2 | (with_reducible refine Ca ?_ _) | (with_reducible refine Cn ?_ _) | (with_reducible refine Cd ?_))); (case side2 => exact (Kd.R_reads' HO411.out).2.1); (case side3 => repeat (first | exact (Kd.R_reads' HO_5.out).2.2 | (with_reducible refine Ca ?_ _) | (with_reducible refine Cn ?_ _) | (with_reducible refine Cd ?_))); (case side4 => exact (Kd.R_reads' HO_5.out).2.1); rintro e w' ⟨rfl, ⟨nd, rfl⟩⟩))
        go_ret
        exact ⟨by first | rfl | (simp [errW_none, errW_some] <;> rfl) | (simp [*, errW_none, errW_some] <;> rfl), by repeat (first | (with_reducible first | exact HB.out | apply Ba | apply Bn | apply Bd | refine Bs ?_ GE390.out | refine Bs ?_ GE396.out) | exact HB.out)⟩
      ·
       replace c96 := Bool.eq_false_iff.mpr c96
       subst c96
       have H1 : (some false) = some r := by rw [if_neg (show ¬ (false = true) by decide)] at H; exact H
       clear H
       have H := H1
       clear H1
       obtain rfl := Option.some.inj H
       have hnb133 := NB390_396.out
       have hnc133 := NB396_390.out
       have hcz134_0 : wc.cell? ⟨gb390, 0, none⟩ = some (.int .i64 t385) := (Kc BK390.out 0).trans rfl
       have hcz134_1 : wc.cell? ⟨gb390, 1, none⟩ = some (.slice Ao19 t386.length co19) := (Kc BK390.out 1).trans rfl
       have hfz134_0 := Kf BK390.out 0
       have hfz134_1 := Kf BK390.out 1
       go_wp2_with (first | ((with_reducible refine gate_callee (f := 16) rfl ?_); refine goesL_ (some 120) rfl rfl Try.func16 (by kernel_rfl) rfl #[.agg #[.int .i64 t385, .slice Ao19 t386.length co19]] rfl (by (try simp only [List.map_toArray, List.map_cons, List.map_nil]); first | done | rfl) ?_; (with_reducible refine (impl_ScoresOf.calls kj12 t385 _ _ t386 t409 false _ ?side1 ?side2 A94.out).mono ?_); (case side1 => repeat (first | exact (Kd.R_reads' HO_391001.out).2.2 | (with_reducible refine Ca ?_ _) | (with_reducible refine Cn ?_ _) | (with_reducible refine Cd ?_))); (case side2 => exact (Kd.R_reads' HO_391001.out).2.1); rintro e w135 ⟨v410, rfl, ho0, hb⟩; refine ⟨_, rfl, ?_⟩; have n0_ := Am (Kd.R_elder' (by (with_reducible repeat (first | apply Ra | apply Rn | apply Rd)); exact HO_5.out) (Kd.R_base ho0) hb); have n1_ := Am (Kd.R_elder' (by (with_reducible repeat (first | apply Ra | apply Rn | apply Rd)); exact HO_391001.out) (Kd.R_base ho0) hb); have n2_ := Am (Kd.R_elder' (by (with_reducible repeat (first | apply Ra | apply Rn | apply Rd)); exact HO_397001.out) (Kd.R_base ho0) hb); have n3_ := Am (Kd.R_lower (Kd.R_new' (Kd.R_new' (Kd.R_new' ho0 (Kd.R_lt (by (with_reducible repeat (first | apply Ra | apply Rn | apply Rd)); exact HO_5.out))) (Kd.R_lt (by (with_reducible repeat (first | apply Ra | apply Rn | apply Rd)); exact HO_391001.out))) (Kd.R_lt (by (with_reducible repeat (first | apply Ra | apply Rn | apply Rd)); exact HO_397001.out))) (below_size (by repeat (first | (with_reducible first | exact HB.out | apply Ba | apply Bn | apply Bd | refine Bs ?_ GE390.out | refine Bs ?_ GE396.out) | exact HB.out)))); have n4_ := Am (blk_below (g := gb390) (o := .cells #[.int .i64 t385, .slice Ao19 t386.length co19] 27 (0, 0)) (by (with_reducible repeat (first | refine Kn ?_ _ | refine Ke ?_ | refine Ka ?_ _)); exact BK390.out) hb); have n5_ := Am (blk_below (g := gb396) (o := .cells #[.int .i64 t391, .slice Ao24 t392.length co24] 27 (0, 0)) (by (with_reducible repeat (first | refine Kn ?_ _ | refine Ke ?_ | refine Ka ?_ _)); exact BK396.out) hb); have n6_ := Am (below_step (by repeat (first | (with_reducible first | exact HB.out | apply Ba | apply Bn | apply Bd | refine Bs ?_ GE390.out | refine Bs ?_ GE396.out) | exact HB.out)) hb); clear HO_5; clear HO_391001; clear HO_397001; clear BK390; clear BK396; clear HB; have HO_5 := n0_; have HO_391001 := n1_; have HO_397001 := n2_; have HO411 := n3_; have BK390 := n4_; have BK396 := n5_; have HB := n6_; clear n0_ n1_ n2_ n3_ n4_ n5_ n6_; (try clear hb); (try clear hb2); (try clear hk); (try clear hi); (try clear ho0); have hcz136_0 : w135.cell? ⟨gb390, 0, none⟩ = some (.int .i64 t385) := (Kc BK390.out 0).trans rfl; have hcz136_1 : w135.cell? ⟨gb390, 1, none⟩ = some (.slice Ao19 t386.length co19) := (Kc BK390.out 1).trans rfl; have hfz136_0 := Kf BK390.out 0; have hfz136_1 := Kf BK390.out 1) | ((with_reducible refine gate_callee (f := 17) rfl ?_); refine goesL_ (some 125) rfl rfl Try.func17 (by kernel_rfl) rfl #[.agg #[.int .i64 t385, .slice Ao19 t386.length co19]] rfl (by (try simp only [List.map_toArray, List.map_cons, List.map_nil]); first | done | rfl) ?_; (with_reducible refine (impl_CirclesOf.calls kj12 t385 _ _ t386 t413 t416 _ ?side1 ?side2 A95.out).mono ?_); (case side1 => repeat (first | exact (Kd.R_reads' HO_391001.out).2.2 | (with_reducible refine Ca ?_ _) | (with_reducible refine Cn ?_ _) | (with_reducible refine Cd ?_))); (case side2 => exact (Kd.R_reads' HO_391001.out).2.1); rintro e w137 ⟨v414, rfl, ho0, hb⟩; refine ⟨_, rfl, ?_⟩; have n0_ := Am (Kd.R_below (by (with_reducible repeat (first | apply Ra | apply Rn | apply Rd)); exact HO_5.out) hb); have n1_ := Am (Kd.R_below (by (with_reducible repeat (first | apply Ra | apply Rn | apply Rd)); exact HO_391001.out) hb); have n2_ := Am (Kd.R_below (by (with_reducible repeat (first | apply Ra | apply Rn | apply Rd)); exact HO_397001.out) hb); have n3_ := Am (Kd.R_below (by (with_reducible repeat (first | apply Ra | apply Rn | apply Rd)); exact HO411.out) hb); have n4_ := Am (Kd.S_lower (Kd.S_new' (Kd.S_new' (Kd.S_new' (Kd.S_new' ho0 (Kd.R_lt (by (with_reducible repeat (first | apply Ra | apply Rn | apply Rd)); exact HO_5.out))) (Kd.R_lt (by (with_reducible repeat (first | apply Ra | apply Rn | apply Rd)); exact HO_391001.out))) (Kd.R_lt (by (with_reducible repeat (first | apply Ra | apply Rn | apply Rd)); exact HO_397001.out))) (Kd.R_lt (by (with_reducible repeat (first | apply Ra | apply Rn | apply Rd)); exact HO411.out))) (below_size (by repeat (first | (with_reducible first | exact HB.out | apply Ba | apply Bn | apply Bd | refine Bs ?_ GE390.out | refine Bs ?_ GE396.out) | exact HB.out)))); have n5_ := Am (blk_below (g := gb390) (o := .cells #[.int .i64 t385, .slice Ao19 t386.length co19] 27 (0, 0)) (by (with_reducible repeat (first | refine Kn ?_ _ | refine Ke ?_ | refine Ka ?_ _)); exact BK390.out) hb); have n6_ := Am (blk_below (g := gb396) (o := .cells #[.int .i64 t391, .slice Ao24 t392.length co24] 27 (0, 0)) (by (with_reducible repeat (first | refine Kn ?_ _ | refine Ke ?_ | refine Ka ?_ _)); exact BK396.out) hb); have n7_ := Am (below_step (by repeat (first | (with_reducible first | exact HB.out | apply Ba | apply Bn | apply Bd | refine Bs ?_ GE390.out | refine Bs ?_ GE396.out) | exact HB.out)) hb); clear HO_5; clear HO_391001; clear HO_397001; clear HO411; clear BK390; clear BK396; clear HB; have HO_5 := n0_; have HO_391001 := n1_; have HO_397001 := n2_; have HO411 := n3_; have HO415 := n4_; have BK390 := n5_; have BK396 := n6_; have HB := n7_; clear n0_ n1_ n2_ n3_ n4_ n5_ n6_ n7_; (try clear hb); (try clear hb2); (try clear hk); (try clear hi); (try clear ho0)))
       go_ret
       exact ⟨by first | rfl | (simp [errW_none, errW_some] <;> rfl) | (simp [*, errW_none, errW_some] <;> rfl), by repeat (first | (with_reducible first | exact HB.out | apply Ba | apply Bn | apply Bd | refine Bs ?_ GE390.out | refine Bs ?_ GE396.out) | exact HB.out)⟩
     ·
      replace c93 := Bool.eq_false_iff.mpr c93
      subst c93
      have H1 : (some true) = some r := by rw [if_neg (show ¬ (false = true) by decide)] at H; exact H
      clear H
      have H := H1
      clear H1
      obtain rfl := Option.some.inj H
      go_wp2
      go_ret
      exact ⟨by first | rfl | (simp [errW_none, errW_some] <;> rfl) | (simp [*, errW_none, errW_some] <;> rfl), by repeat (first | (with_reducible first | exact HB.out | apply Ba | apply Bn | apply Bd | refine Bs ?_ GE390.out | refine Bs ?_ GE396.out) | exact HB.out)⟩
def laws_FnTournamentsBuilt.Pure : Prop := ∀ (l0 : List Int) (l1 : List Int), l0.length ≤ maxLen → l0.length * 1 ≤ 140737488351232 → (∀ x ∈ l0, (Lit.int .u8 x).wf = true) → l1.length ≤ maxLen → l1.length * 1 ≤ 140737488351232 → (∀ x ∈ l1, (Lit.int .u8 x).wf = true) → ∃ k, laws_FnTournamentsBuilt.f k l0 l1 = some true
theorem laws_FnTournamentsBuilt.walk (P : laws_FnTournamentsBuilt.Pure) (a0 : Option Addr) (len0 cap0 : Nat) (z0 : List Int) (a1 : Option Addr) (len1 cap1 : Nat) (z1 : List Int) (w : World) (w0 : (a0 = none ∧ len0 = 0 ∧ cap0 = 0 ∧ z0 = []) ∨ ∃ x, a0 = some x ∧ len0 ≤ cap0 ∧ cap0 ≤ maxLen ∧ z0.length = cap0 ∧ (∀ i, i < z0.length → w.cell? (x.add i) = some (.int .u8 (z0.getD i 0))) ∧ ∀ n ∈ z0, (Lit.int .u8 n).wf = true) (y0 : len0 * 1 ≤ 140737488351232) (w1 : (a1 = none ∧ len1 = 0 ∧ cap1 = 0 ∧ z1 = []) ∨ ∃ x, a1 = some x ∧ len1 ≤ cap1 ∧ cap1 ≤ maxLen ∧ z1.length = cap1 ∧ (∀ i, i < z1.length → w.cell? (x.add i) = some (.int .u8 (z1.getD i 0))) ∧ ∀ n ∈ z1, (Lit.int .u8 n).wf = true) (y1 : len1 * 1 ≤ 140737488351232) :
  Calls Try.prog 3 #[.slice a0 len0 cap0, .slice a1 len1 cap1] w fun e w' => e = .returned (.bool true) ∧ Below w.heap.size w w' := by
 obtain ⟨l0, rfl, hr0, hm0, hw0, hc0⟩ := ReadsInt.ofRowC w0
 obtain ⟨l1, rfl, hr1, hm1, hw1, hc1⟩ := ReadsInt.ofRowC w1
 obtain ⟨k, h⟩ := P l0 l1 hm0 y0 hw0 hm1 y1 hw1
 refine (laws_FnTournamentsBuilt.calls k _ _ l0 _ _ l1 true w (Kd.C_of_reads (d := (0 : Int)) (h1 := fun _ => rfl) hr0) hc0 (Kd.C_of_reads (d := (0 : Int)) (h1 := fun _ => rfl) hr1) hc1 h).mono ?_
 rintro e w' ⟨rfl, hd⟩
 exact ⟨rfl, hd⟩
end Go.Proofs.Ytcheoendfcgjgaa.P
namespace Go.Proofs.Ytcheoendfcgjgaa.K
open Go.RowKit Go.Proofs.YtcheoendfcgjgaaW.PrintWords Go.Proofs.YtcheoendfcgjgaaW.PrintMore Go.Proofs.Ytcheoendfcgjgaa.P
def ccK (s : Int) : List Int → Int
  | [] => s
  | x :: l => ccK (wrap64 (s - wrap64 (Int.tdiv (wrap64 (x * wrap64 (x - 1))) 2))) l
theorem ccK_spec : ∀ (rest done : List Int) (s : Int), (done ++ rest).length ≤ BM → Ev (fun k => spec_CountCircles.l0 k s (done ++ rest) ((done ++ rest).length : Int) done.length) (ccK s rest, true)
  | [], done, s, h => Ev.step (fun k => by rw [spec_CountCircles.l0, if_neg (by simp)]) (Ev.some (by simp [ccK]))
  | x :: rest, done, s, h => by
    obtain ⟨h1, h2, h3, h4, h5⟩ := mid x done rest h
    have ih := ccK_spec rest (done ++ [x]) (wrap64 (s - wrap64 (Int.tdiv (wrap64 (x * wrap64 (x - 1))) 2))) (by rw [h5]; exact h)
    rw [h5] at ih
    refine Ev.step (fun k => ?_) ih
    rw [spec_CountCircles.l0, if_pos h1, if_pos h2, if_pos h1, h3, h4]
theorem ccK_impl : ∀ (rest done : List Int) (s : Int), (done ++ rest).length ≤ BM → Ev (fun k => impl_CountCircles.l0 k s (done ++ rest) ((done ++ rest).length : Int) done.length) (ccK s rest, true)
  | [], done, s, h => Ev.step (fun k => by rw [impl_CountCircles.l0, if_neg (by simp)]) (Ev.some (by simp [ccK]))
  | x :: rest, done, s, h => by
    obtain ⟨h1, h2, h3, h4, h5⟩ := mid x done rest h
    have ih := ccK_impl rest (done ++ [x]) (wrap64 (s - wrap64 (Int.tdiv (wrap64 (x * wrap64 (x - 1))) 2))) (by rw [h5]; exact h)
    rw [h5] at ih
    refine Ev.step (fun k => ?_) ih
    rw [impl_CountCircles.l0, if_pos h1, if_pos h2, if_pos h1, h3, h4]
theorem ccK_ans (l : List Int) (h : l.length ≤ BM) : ∃ r, Ev (fun k => spec_CountCircles.f k l) r ∧ Ev (fun k => impl_CountCircles.f k l) r ∧ r = (if isList l = true ∧ refS l = 0 then (ccK (wrap64 (Int.tdiv (wrap64 ((wrap64 ((l.length : Int) * (wrap64 ((l.length : Int) - 1)))) * (wrap64 ((l.length : Int) - 2)))) 6)) l, true) else (0, false)) := by
  have no1 : Ev (fun k => spec_CountCircles.j0 k l true) (0, false) := Ev.step (fun k => by rw [spec_CountCircles.j0, if_pos rfl]) (Ev.now _)
  have no2 : Ev (fun k => impl_CountCircles.j0 k l true) (0, false) := Ev.step (fun k => by rw [impl_CountCircles.j0, if_pos rfl]) (Ev.now _)
  unfold spec_CountCircles.f impl_CountCircles.f
  by_cases hl : isList l = true
  · have hn := refS_nonneg l
    have e1 := Ev.pair (liGood_f l h) hl
    have e2 := Ev.pair (IsList_f l h) hl
    simp only [refusingScores_f hl, Option.bind_some]
    by_cases h0 : refS l = 0
    · refine ⟨(ccK (wrap64 (Int.tdiv (wrap64 ((wrap64 ((l.length : Int) * (wrap64 ((l.length : Int) - 1)))) * (wrap64 ((l.length : Int) - 2)))) 6)) l, true), Ev.bind e1 ?_, Ev.bind e2 ?_, by rw [if_pos ⟨hl, h0⟩]⟩
      · simp only [if_true]
        refine Ev.bind (scRefuses_f hl) ?_
        rw [h0]
        refine Ev.step (fun k => by rw [spec_CountCircles.j0, if_neg (by simp)]; rfl) (ccK_spec l [] _ (by simpa using h))
      · simp only [if_true]
        rw [h0]
        exact Ev.step (fun k => by rw [impl_CountCircles.j0, if_neg (by simp)]; rfl) (ccK_impl l [] _ (by simpa using h))
    · refine ⟨(0, false), Ev.bind e1 ?_, Ev.bind e2 ?_, by rw [if_neg (fun h => h0 h.2)]⟩
      · simp only [if_true]
        refine Ev.bind (scRefuses_f hl) ?_
        rw [decide_eq_true (by omega)]; exact no1
      · simp only [if_true]
        rw [show (refS l != 0) = true by simpa using h0]; exact no2
  · have hl : isList l = false := by simpa using hl
    refine ⟨(0, false), Ev.bind (Ev.pair (liGood_f l h) hl) ?_, Ev.bind (Ev.pair (IsList_f l h) hl) ?_, by rw [if_neg (fun h => by rw [hl] at h; cases h.1)]⟩
    · simp only [Bool.false_eq_true, if_false]; exact no1
    · simp only [Bool.false_eq_true, if_false]; exact no2
theorem refSK_ans (l : List Int) (h : l.length ≤ BM) : ∃ r, Ev (fun k => spec_RefusingScores.f k l) r ∧ Ev (fun k => impl_RefusingScores.f k l) r ∧ r = (if isList l = true ∧ refS l ≠ 0 then (refS l, true) else (0, false)) := by
  unfold spec_RefusingScores.f impl_RefusingScores.f
  by_cases hl : isList l = true
  · have hn := refS_nonneg l
    have e1 := Ev.pair (liGood_f l h) hl
    have e2 := Ev.pair (IsList_f l h) hl
    simp only [refusingScores_f hl, Option.bind_some]
    by_cases h0 : refS l = 0
    · refine ⟨(0, false), Ev.bind e1 ?_, Ev.bind e2 ?_, by rw [if_neg (fun h => h.2 h0)]⟩
      · simp only [if_true]
        refine Ev.bind (scRefuses_f hl) (Ev.ite (fun _ => Ev.now _) (fun hh => absurd h0 hh))
      · simp only [if_true]
        exact Ev.some (by rw [h0]; simp)
    · refine ⟨(refS l, true), Ev.bind e1 ?_, Ev.bind e2 ?_, by rw [if_pos ⟨hl, h0⟩]⟩
      · simp only [if_true]
        exact Ev.bind (scRefuses_f hl) (Ev.ite (fun hh => absurd hh h0) (fun _ => Ev.bind (scRefuses_f hl) (Ev.now _)))
      · simp only [if_true]
        refine Ev.some ?_
        rw [decide_eq_true (by omega)]
  · have hl : isList l = false := by simpa using hl
    refine ⟨(0, false), Ev.bind (Ev.pair (liGood_f l h) hl) ?_, Ev.bind (Ev.pair (IsList_f l h) hl) ?_, by rw [if_neg (fun h => by rw [hl] at h; cases h.1)]⟩
    · simp only [Bool.false_eq_true, if_false]; exact Ev.now _
    · simp only [Bool.false_eq_true, if_false]; exact Ev.now _
theorem areSK_ans (l : List Int) (h : l.length ≤ BM) : ∃ r, Ev (fun k => impl_AreScores.f k l) r ∧ r = (if isList l = true then (refS l == 0, true) else (false, false)) := by
  unfold impl_AreScores.f
  by_cases hl : isList l = true
  · refine ⟨(refS l == 0, true), Ev.bind (Ev.pair (IsList_f l h) hl) ?_, by rw [if_pos hl]⟩
    simp only [refusingScores_f hl, Option.bind_some, if_true]
    exact Ev.now _
  · have hl : isList l = false := by simpa using hl
    refine ⟨(false, false), Ev.bind (Ev.pair (IsList_f l h) hl) ?_, by rw [if_neg (by rw [hl]; decide)]⟩
    simp only [Bool.false_eq_true, if_false]; exact Ev.now _
def Near (n : Nat) (ns : List Nat) : Prop := Sets n ns ∧ ∀ i, i < n → nb ns i i = false
def Tour (n : Nat) (ns : List Nat) : Prop := Near n ns ∧ ∀ i, i < n → ∀ j, j < i → nb ns i j ≠ nb ns j i
theorem has_f (a i : Nat) (h : a < 2 ^ 62) : impl_has.f (a : Int) (i : Int) = some (a.testBit i) := by
  unfold impl_has.f; rw [if_pos (by omega), hasB a i h]
theorem deHas_f (a i : Nat) (h : a < 2 ^ 62) : spec_deHas.f (a : Int) (i : Int) = some (a.testBit i) := by
  unfold spec_deHas.f; rw [if_pos (by omega), deHasB a i h]
theorem has_nb {n : Nat} {ns : List Nat} (h : Sets n ns) (i j : Nat) : impl_has.f ((ns.getD i 0 : Nat) : Int) (j : Int) = some (nb ns i j) := has_f _ _ (h.get62 i)
theorem deHas_nb {n : Nat} {ns : List Nat} (h : Sets n ns) (i j : Nat) : spec_deHas.f ((ns.getD i 0 : Nat) : Int) (j : Int) = some (nb ns i j) := deHas_f _ _ (h.get62 i)
theorem sets_iff (a : Int) (l : List Int) : ((1 ≤ a ∧ a ≤ 8) ∧ (l.length : Int) = a ∧ within 0 (wrap64 (shl .i64 1 a - 1)) l = true) ↔ ∃ n ns, a = ((n : Nat) : Int) ∧ l = ints ns ∧ Sets n ns := by
  constructor
  · rintro ⟨⟨h1, h2⟩, h3, h4⟩
    obtain ⟨n, rfl⟩ := Int.eq_ofNat_of_zero_le (show 0 ≤ a by omega)
    have hp := pow8 (show n ≤ 8 by omega)
    have hp0 := Nat.two_pow_pos n
    have e : wrap64 (shl .i64 1 (n : Int) - 1) = ((2 ^ n - 1 : Nat) : Int) := by
      rw [shl_one n (by omega)]; unfold wrap64; omega
    rw [e] at h4
    simp only [within, List.all_eq_true, Bool.and_eq_true, decide_eq_true_eq] at h4
    obtain ⟨ns, rfl⟩ := ints_of l (fun x hx => (h4 x hx).1)
    rw [ints_length] at h3
    exact ⟨n, ns, rfl, rfl, by omega, by omega, by omega, fun x hx => by have := (h4 x (List.mem_map.2 ⟨x, hx, rfl⟩)).2; omega⟩
  · rintro ⟨n, ns, rfl, rfl, h⟩
    have hp := pow8 h.n8
    have hp0 := Nat.two_pow_pos n
    have := h.n1; have := h.n8; have := h.len
    have e : wrap64 (shl .i64 1 (n : Int) - 1) = ((2 ^ n - 1 : Nat) : Int) := by
      rw [shl_one n (by omega)]; unfold wrap64; omega
    rw [e]
    refine ⟨⟨by omega, by omega⟩, by rw [ints_length]; omega, ?_⟩
    simp only [within, List.all_eq_true, Bool.and_eq_true, decide_eq_true_eq, ints, List.mem_map]
    rintro x ⟨y, hy, rfl⟩
    have := h.lt y hy
    omega
theorem near_l0 {n : Nat} {ns : List Nat} (h : Sets n ns) : EvB (fun k => impl_areNear.l0 k (ints ns) (n : Int) 0) (∀ i, i < n → nb ns i i = false) := by
  have hl := h.len
  have hn := h.n8
  refine (allLoop0 (fun j k => impl_areNear.l0 k (ints ns) (n : Int) (j : Int)) n (fun i => nb ns i i = false) True ?_ ?_).congr (by simp)
  · exact EvB.step (fun k => by rw [impl_areNear.l0, if_neg (by omega)]) EvB.true_
  · intro j hj R hR
    have e : _ = nb ns j j := hasB (ns.getD j 0) j (h.get62 j)
    refine EvB.step (f := fun k => if nb ns j j = false then impl_areNear.l0 k (ints ns) n ((j + 1 : Nat) : Int) else some false) (fun k => ?_) (EvB.and fun _ => hR)
    rw [impl_areNear.l0, if_pos (by omega), if_pos (by omega), if_pos (by rw [ints_length]; omega), rd_ints, wrap_nat j (by omega)]
    cases hb : nb ns j j with
    | true => rw [if_pos (by rw [hb] at e; simpa using e), if_neg (by simp)]
    | false => rw [if_neg (by rw [hb] at e; simpa using e), if_pos rfl]
theorem areNear_f (a : Int) (l : List Int) (hl : l.length ≤ BM) : EvB (fun k => impl_areNear.f k a l) (∃ n ns, a = ((n : Nat) : Int) ∧ l = ints ns ∧ Near n ns) := by
  have hj : ∀ l, Ev (fun k => impl_areNear.j0 k l true) false := fun l => Ev.step (fun k => by rw [impl_areNear.j0]) (by simpa using Ev.now _)
  have no : ∀ {g : Nat → Option Bool}, ¬ ((1 ≤ a ∧ a ≤ 8) ∧ (l.length : Int) = a ∧ within 0 (wrap64 (shl .i64 1 a - 1)) l = true) → Ev g false → EvB g (∃ n ns, a = ((n : Nat) : Int) ∧ l = ints ns ∧ Near n ns) := by
    intro g h1 h2
    exact ⟨fun ⟨n, ns, e1, e2, h⟩ => absurd ((sets_iff a l).2 ⟨n, ns, e1, e2, h.1⟩) h1, fun _ => h2⟩
  unfold impl_areNear.f
  simp only [within_f, Option.bind_some]
  by_cases h1 : 1 ≤ a ∧ a ≤ 8
  · rw [show (decide (1 ≤ a) && decide (a ≤ 8)) = true by simp; omega]
    simp only [if_true]
    by_cases h2 : (l.length : Int) = a
    · have h3 : 0 ≤ a := by omega
      simp only [if_pos h2, if_pos h3]
      refine EvB.bind (allWithin_f l 0 _ hl) ?_
      cases h4 : within 0 (wrap64 (shl .i64 1 a - 1)) l with
      | false => exact no (by simp [h4]) (hj l)
      | true =>
        obtain ⟨n, ns, rfl, rfl, hs⟩ := (sets_iff a l).1 ⟨h1, h2, h4⟩
        refine EvB.step (fun k => by rw [impl_areNear.j0]) ?_
        simp only [Bool.not_true, Bool.false_eq_true, if_false, h2]
        refine (near_l0 hs).congr ⟨fun h => ⟨n, ns, rfl, rfl, hs, h⟩, ?_⟩
        rintro ⟨n', ns', e1, e2, h⟩
        obtain rfl : n = n' := by omega
        obtain rfl : ns = ns' := by
          have := congrArg (List.map Int.toNat) e2
          simpa [ints, Function.comp_def] using this
        exact h.2
    · simp only [if_neg h2]
      exact no (fun h => h2 h.2.1) (hj l)
  · rw [show (decide (1 ≤ a) && decide (a ≤ 8)) = false by simp; omega]
    exact no (fun h => h1 h.1) (by simpa using hj l)
theorem ints_inj {ns ms : List Nat} (h : ints ns = ints ms) : ns = ms := by
  have := congrArg (List.map Int.toNat) h
  simpa [ints, Function.comp_def] using this
theorem tour_l1 {n : Nat} {ns : List Nat} (h : Sets n ns) (i : Nat) (hi : i < n) (R : Prop) (hR : EvB (fun k => impl_IsTournament.l0 k (ints ns) n ((i + 1 : Nat) : Int) n (ints ns)) R) :
    EvB (fun k => impl_IsTournament.l1 k i ((ns.getD i 0 : Nat) : Int) (ints ns) n i i ((0 : Nat) : Int) n (ints ns)) ((∀ j, j < i → nb ns i j ≠ nb ns j i) ∧ R) := by
  have hl := h.len
  have hn := h.n8
  refine allLoop0 (fun j k => impl_IsTournament.l1 k i ((ns.getD i 0 : Nat) : Int) (ints ns) n i i (j : Int) n (ints ns)) i (fun j => nb ns i j ≠ nb ns j i) R ?_ ?_
  · refine EvB.step (fun k => ?_) hR
    rw [impl_IsTournament.l1, if_neg (by omega), wrap_nat i (by omega)]
  · intro j hj R hR
    refine EvB.step (f := fun k => if nb ns i j ≠ nb ns j i then impl_IsTournament.l1 k i ((ns.getD i 0 : Nat) : Int) (ints ns) n i i ((j + 1 : Nat) : Int) n (ints ns) else some false) (fun k => ?_) (EvB.and fun _ => hR)
    rw [impl_IsTournament.l1, if_pos (by omega), has_nb h i, Option.bind_some, if_pos (by omega), if_pos (by rw [ints_length]; omega), rd_ints, has_nb h j, Option.bind_some, wrap_nat j (by omega)]
    by_cases e : nb ns i j = nb ns j i
    · rw [if_pos (by simpa using e), if_neg (by simpa using e)]
    · rw [if_neg (by simpa using e), if_pos e]
theorem tour_l0 {n : Nat} {ns : List Nat} (h : Sets n ns) : EvB (fun k => impl_IsTournament.l0 k (ints ns) n ((0 : Nat) : Int) n (ints ns)) (∀ i, i < n → ∀ j, j < i → nb ns i j ≠ nb ns j i) := by
  have hl := h.len
  have hn := h.n8
  refine (allLoop0 (fun j k => impl_IsTournament.l0 k (ints ns) n (j : Int) n (ints ns)) n (fun i => ∀ j, j < i → nb ns i j ≠ nb ns j i) True ?_ ?_).congr (by simp)
  · exact EvB.step (fun k => by rw [impl_IsTournament.l0, if_neg (by omega)]) EvB.true_
  · intro i hi R hR
    refine EvB.step (fun k => ?_) (tour_l1 h i hi R hR)
    rw [impl_IsTournament.l0, if_pos (by omega), if_pos (by omega), if_pos (by rw [ints_length]; omega), rd_ints]
    rfl
def IsTour (a : Int) (l : List Int) : Prop := ∃ n ns, a = ((n : Nat) : Int) ∧ l = ints ns ∧ Tour n ns
theorem IsTournament_f (a : Int) (l : List Int) (hl : l.length ≤ BM) : EvB (fun k => impl_IsTournament.f k a l) (IsTour a l) := by
  unfold impl_IsTournament.f
  obtain ⟨b, hb, hbb⟩ := (areNear_f a l hl).ev
  refine EvB.bind hb ?_
  cases b with
  | false => exact ⟨fun ⟨n, ns, e1, e2, h⟩ => absurd (hbb.2 ⟨n, ns, e1, e2, h.1⟩) (by simp), fun _ => by simpa using Ev.now false⟩
  | true =>
    obtain ⟨n, ns, rfl, rfl, hn⟩ := hbb.1 rfl
    simp only [if_true, ints_length, hn.1.len]
    refine (tour_l0 hn.1).congr ⟨fun h => ⟨n, ns, rfl, rfl, hn, h⟩, ?_⟩
    rintro ⟨n', ns', e1, e2, h⟩
    obtain rfl : n = n' := by omega
    obtain rfl := ints_inj e2
    exact h.2
theorem sgood_l1 {n : Nat} {ns : List Nat} (h : Sets n ns) (i : Nat) (hi : i < n) (R : Prop) (hR : EvB (fun k => spec_scGood.l0 k (ints ns) n ((i + 1 : Nat) : Int) n (ints ns)) R) :
    EvB (fun k => spec_scGood.l1 k i ((ns.getD i 0 : Nat) : Int) (ints ns) n i (ints ns) n ((0 : Nat) : Int) n (ints ns)) ((∀ j, j < n → if i = j then nb ns i j = false else nb ns i j ≠ nb ns j i) ∧ R) := by
  have hl := h.len
  have hn := h.n8
  refine allLoop0 (fun j k => spec_scGood.l1 k i ((ns.getD i 0 : Nat) : Int) (ints ns) n i (ints ns) n (j : Int) n (ints ns)) n (fun j => if i = j then nb ns i j = false else nb ns i j ≠ nb ns j i) R ?_ ?_
  · refine EvB.step (fun k => ?_) hR
    rw [spec_scGood.l1, if_neg (by omega), wrap_nat i (by omega)]
  · intro j hj R hR
    by_cases hij : i = j
    · subst hij
      refine EvB.step (f := fun k => if nb ns i i = false then spec_scGood.l1 k i ((ns.getD i 0 : Nat) : Int) (ints ns) n i (ints ns) n ((i + 1 : Nat) : Int) n (ints ns) else some false) (fun k => ?_) ((EvB.and fun _ => hR).congr (by simp))
      rw [spec_scGood.l1, if_pos (by omega), if_pos (by omega), if_pos (by rw [ints_length]; omega), if_pos rfl, deHas_nb h i, Option.bind_some, wrap_nat i (by omega)]
      cases nb ns i i <;> rfl
    · refine EvB.step (f := fun k => if nb ns i j ≠ nb ns j i then spec_scGood.l1 k i ((ns.getD i 0 : Nat) : Int) (ints ns) n i (ints ns) n ((j + 1 : Nat) : Int) n (ints ns) else some false) (fun k => ?_) ((EvB.and fun _ => hR).congr (by simp [hij]))
      rw [spec_scGood.l1, if_pos (by omega), if_pos (by omega), if_pos (by rw [ints_length]; omega), if_neg (by omega), deHas_nb h i, Option.bind_some, rd_ints, deHas_nb h j, Option.bind_some, wrap_nat j (by omega)]
      by_cases e : nb ns i j = nb ns j i
      · rw [if_pos (by simpa using e), if_neg (by simpa using e)]
      · rw [if_neg (by simpa using e), if_pos e]
theorem sgood_l0 {n : Nat} {ns : List Nat} (h : Sets n ns) : EvB (fun k => spec_scGood.l0 k (ints ns) n ((0 : Nat) : Int) n (ints ns)) (∀ i, i < n → ∀ j, j < n → if i = j then nb ns i j = false else nb ns i j ≠ nb ns j i) := by
  have hl := h.len
  have hn := h.n8
  refine (allLoop0 (fun j k => spec_scGood.l0 k (ints ns) n (j : Int) n (ints ns)) n (fun i => ∀ j, j < n → if i = j then nb ns i j = false else nb ns i j ≠ nb ns j i) True ?_ ?_).congr (by simp)
  · exact EvB.step (fun k => by rw [spec_scGood.l0, if_neg (by omega)]) EvB.true_
  · intro i hi R hR
    refine EvB.step (fun k => ?_) (sgood_l1 h i hi R hR)
    rw [spec_scGood.l0, if_pos (by omega), if_pos (by omega), if_pos (by rw [ints_length]; omega), rd_ints, ints_length, hl]
    rfl
theorem tour_iff {n : Nat} {ns : List Nat} (h : Sets n ns) : (∀ i, i < n → ∀ j, j < n → if i = j then nb ns i j = false else nb ns i j ≠ nb ns j i) ↔ Tour n ns := by
  constructor
  · intro g
    refine ⟨⟨h, fun i hi => by simpa using g i hi i hi⟩, fun i hi j hj => ?_⟩
    have := g i hi j (by omega)
    rwa [if_neg (by omega)] at this
  · intro g i hi j hj
    by_cases e : i = j
    · subst e; simpa using g.1.2 i hi
    · rw [if_neg e]
      by_cases c : j < i
      · exact g.2 i hi j c
      · exact fun q => g.2 j hj i (by omega) q.symm
theorem scGood_f (a : Int) (l : List Int) (hl : l.length ≤ BM) : EvB (fun k => spec_scGood.f k a l) (IsTour a l) := by
  have hj : ∀ a l, Ev (fun k => spec_scGood.j0 k true a l) false := fun a l => Ev.step (fun k => by rw [spec_scGood.j0]) (by simpa using Ev.now _)
  have no : ∀ {g : Nat → Option Bool}, ¬ ((1 ≤ a ∧ a ≤ 8) ∧ (l.length : Int) = a ∧ within 0 (wrap64 (shl .i64 1 a - 1)) l = true) → Ev g false → EvB g (IsTour a l) := by
    intro g h1 h2
    exact ⟨fun ⟨n, ns, e1, e2, h⟩ => absurd ((sets_iff a l).2 ⟨n, ns, e1, e2, h.1.1⟩) h1, fun _ => h2⟩
  unfold spec_scGood.f
  simp only [l1In_f, Option.bind_some]
  by_cases h1 : 1 ≤ a ∧ a ≤ 8
  · rw [show (decide (1 ≤ a) && decide (a ≤ 8)) = true by simp; omega]
    simp only [if_true]
    by_cases h2 : (l.length : Int) = a
    · have h3 : 0 ≤ a := by omega
      simp only [if_pos h2, if_pos h3]
      refine EvB.bind (l1All_f l 0 _ hl) ?_
      cases h4 : within 0 (wrap64 (shl .i64 1 a - 1)) l with
      | false => exact no (by simp [h4]) (hj a l)
      | true =>
        obtain ⟨n, ns, rfl, rfl, hs⟩ := (sets_iff a l).1 ⟨h1, h2, h4⟩
        refine EvB.step (fun k => by rw [spec_scGood.j0]) ?_
        simp only [Bool.not_true, Bool.false_eq_true, if_false, h2]
        refine (sgood_l0 hs).congr ⟨fun h => ⟨n, ns, rfl, rfl, (tour_iff hs).1 h⟩, ?_⟩
        rintro ⟨n', ns', e1, e2, h⟩
        obtain rfl : n = n' := by omega
        obtain rfl := ints_inj e2
        exact (tour_iff hs).2 h
    · simp only [if_neg h2]
      exact no (fun h => h2 h.2.1) (hj a l)
  · rw [show (decide (1 ≤ a) && decide (a ≤ 8)) = false by simp; omega]
    exact no (fun h => h1 h.1) (by simpa using hj a l)
end Go.Proofs.Ytcheoendfcgjgaa.K
namespace Go.Proofs.Ytcheoendfcgjgaa.K
open Go.RowKit Go.Proofs.YtcheoendfcgjgaaW.PrintWords
theorem contLoop2 {σ α : Type} (g1 g2 : σ → Nat → Nat → Option α) (n : Nat) (I : σ → Nat → Prop)
    (hs : ∀ s j, j < n → I s j → ∃ s', I s' (j + 1) ∧ (∀ x, Ev (g1 s' (j + 1)) x → Ev (g1 s j) x) ∧ (∀ x, Ev (g2 s' (j + 1)) x → Ev (g2 s j) x)) : ∀ d s j, j + d = n → I s j → ∃ s', I s' n ∧ (∀ x, Ev (g1 s' n) x → Ev (g1 s j) x) ∧ (∀ x, Ev (g2 s' n) x → Ev (g2 s j) x) := by
  intro d
  induction d with
  | zero =>
    intro s j hj hi
    obtain rfl : j = n := by omega
    exact ⟨s, hi, fun x h => h, fun x h => h⟩
  | succ d ih =>
    intro s j hj hi
    obtain ⟨s1, h1, h2, h2'⟩ := hs s j (by omega) hi
    obtain ⟨s2, h3, h4, h4'⟩ := ih _ _ (by omega) h1
    exact ⟨s2, h3, fun x h => h2 x (h4 x h), fun x h => h2' x (h4' x h)⟩
end Go.Proofs.Ytcheoendfcgjgaa.K
namespace Go.Proofs.Ytcheoendfcgjgaa.K
open Go.RowKit Go.Proofs.YtcheoendfcgjgaaW.PrintWords Go.Proofs.YtcheoendfcgjgaaW.PrintMore Go.Proofs.Ytcheoendfcgjgaa.P
def circ (ns : List Nat) (i j m : Nat) : Bool := nb ns i j && (nb ns j m && nb ns m i)
theorem within3 {n i j m : Nat} (hn : 1 ≤ n) (h8 : n ≤ 8) (hi : i < n) (hj : j < n) (hm : m < n) : within 0 (wrap64 ((n : Int) - 1)) [(i : Int), (j : Int), (m : Int)] = true := by
  rw [wrap_id (by omega) (by omega)]
  simp [within]; omega
theorem isCircle_f {n : Nat} {ns : List Nat} (h : Sets n ns) {i j m : Nat} (hi : i < n) (hj : j < n) (hm : m < n) : Ev (fun k => impl_isCircle.f k (n : Int) (ints ns) i j m) (circ ns i j m) := by
  have hl := h.len
  have w := allWithin_f [(i : Int), (j : Int), (m : Int)] 0 (wrap64 ((n : Int) - 1)) (by simp [BM])
  rw [within3 h.n1 h.n8 hi hj hm] at w
  unfold impl_isCircle.f
  refine Ev.bind w ?_
  rw [if_pos rfl, if_pos (by omega), if_pos (by rw [ints_length]; omega), rd_ints, has_nb h i j, Option.bind_some, rd_ints, has_nb h j m, Option.bind_some, rd_ints, has_nb h m i, Option.bind_some]
  unfold circ
  cases nb ns i j <;> cases nb ns j m <;> cases nb ns m i <;> simp [ints_length, hl, hi, hj, hm] <;> exact Ev.now _
end Go.Proofs.Ytcheoendfcgjgaa.K
namespace Go.Proofs.Ytcheoendfcgjgaa.M
def sm (f : Nat → Nat) : Nat → Nat
  | 0 => 0
  | n + 1 => sm f n + f n
def sm2 (f : Nat → Nat → Nat) : Nat → Nat
  | 0 => 0
  | n + 1 => sm2 f n + sm (fun a => f a n) n
def sm3 (f : Nat → Nat → Nat → Nat) : Nat → Nat
  | 0 => 0
  | n + 1 => sm3 f n + sm2 (fun a b => f a b n) n
theorem sm_congr {f g : Nat → Nat} : ∀ {n : Nat}, (∀ i, i < n → f i = g i) → sm f n = sm g n
  | 0, _ => rfl
  | n + 1, h => by rw [sm, sm, sm_congr (fun i hi => h i (by omega)), h n (by omega)]
theorem sm_add (f g : Nat → Nat) : ∀ n, sm (fun i => f i + g i) n = sm f n + sm g n
  | 0 => rfl
  | n + 1 => by rw [sm, sm, sm, sm_add f g n]; omega
theorem sm_mul (c : Nat) (f : Nat → Nat) : ∀ n, sm (fun i => c * f i) n = c * sm f n
  | 0 => rfl
  | n + 1 => by rw [sm, sm, sm_mul c f n, Nat.mul_add]
theorem sm2_congr {f g : Nat → Nat → Nat} : ∀ {n : Nat}, (∀ a b, a < b → b < n → f a b = g a b) → sm2 f n = sm2 g n
  | 0, _ => rfl
  | n + 1, h => by rw [sm2, sm2, sm2_congr (fun a b h1 h2 => h a b h1 (by omega)), sm_congr (fun i hi => h i n hi (by omega))]
theorem sm2_add (f g : Nat → Nat → Nat) : ∀ n, sm2 (fun a b => f a b + g a b) n = sm2 f n + sm2 g n
  | 0 => rfl
  | n + 1 => by rw [sm2, sm2, sm2, sm2_add f g n, sm_add]; omega
theorem sm3_congr {f g : Nat → Nat → Nat → Nat} : ∀ {n : Nat}, (∀ a b c, a < b → b < c → c < n → f a b c = g a b c) → sm3 f n = sm3 g n
  | 0, _ => rfl
  | n + 1, h => by rw [sm3, sm3, sm3_congr (fun a b c h1 h2 h3 => h a b c h1 h2 (by omega)), sm2_congr (fun a b h1 h2 => h a b n h1 h2 (by omega))]
theorem sm3_add (f g : Nat → Nat → Nat → Nat) : ∀ n, sm3 (fun a b c => f a b c + g a b c) n = sm3 f n + sm3 g n
  | 0 => rfl
  | n + 1 => by rw [sm3, sm3, sm3, sm3_add f g n, sm2_add]; omega
theorem sm_square (h : Nat → Nat → Nat) : ∀ n, (∀ i, i < n → h i i = 0) → sm (fun i => sm (fun j => h i j) n) n = sm2 (fun a b => h a b + h b a) n
  | 0, _ => rfl
  | n + 1, hz => by
    have ih := sm_square h n (fun i hi => hz i (by omega))
    have e0 : sm (fun i => sm (fun j => h i j) (n + 1)) (n + 1) = sm (fun i => sm (fun j => h i j) (n + 1)) n + sm (fun j => h n j) (n + 1) := rfl
    have e1 : sm (fun i => sm (fun j => h i j) (n + 1)) n = sm (fun i => sm (fun j => h i j) n) n + sm (fun i => h i n) n := by
      rw [← sm_add]; rfl
    have e2 : sm (fun j => h n j) (n + 1) = sm (fun j => h n j) n + 0 := by rw [sm, hz n (by omega)]
    have e3 : sm2 (fun a b => h a b + h b a) (n + 1) = sm2 (fun a b => h a b + h b a) n + (sm (fun i => h i n) n + sm (fun j => h n j) n) := by
      rw [← sm_add]; rfl
    rw [e0, e1, e2, e3, ih]
    omega
theorem sm_cube (g : Nat → Nat → Nat → Nat) : ∀ n, (∀ i j, g i i j = 0) → (∀ i j, g i j i = 0) → sm (fun i => sm2 (g i) n) n = sm3 (fun a b c => g a b c + g b a c + g c a b) n
  | 0, _, _ => rfl
  | n + 1, h1, h2 => by
    have ih := sm_cube g n h1 h2
    have e1 : sm (fun i => sm2 (g i) (n + 1)) n = sm (fun i => sm2 (g i) n) n + sm (fun i => sm (fun j => g i j n) n) n := by
      rw [← sm_add]; rfl
    have e2 : sm2 (g n) (n + 1) = sm2 (g n) n + 0 := by
      rw [sm2]
      congr 1
      rw [sm_congr (g := fun _ => 0) (fun i hi => h2 n i)]
      clear ih e1
      induction n with
      | zero => rfl
      | succ n ihn => rw [sm, ihn]
    have e0 : sm (fun i => sm2 (g i) (n + 1)) (n + 1) = sm (fun i => sm2 (g i) (n + 1)) n + sm2 (g n) (n + 1) := rfl
    have e3 : sm3 (fun a b c => g a b c + g b a c + g c a b) (n + 1) = sm3 (fun a b c => g a b c + g b a c + g c a b) n + sm2 (fun a b => g a b n + g b a n + g n a b) n := rfl
    have e4 : sm2 (fun a b => g a b n + g b a n + g n a b) n = sm2 (fun a b => g a b n + g b a n) n + sm2 (g n) n := sm2_add _ _ n
    rw [e0, e1, e2, e3, e4, ih, sm_square (fun i j => g i j n) n (fun i _ => h1 i n)]
    omega
def tB (b : Bool) : Nat := if b then 1 else 0
theorem sm2_pairs (x : Nat → Bool) : ∀ n, 2 * sm2 (fun j k => tB (x j && x k)) n + sm (fun j => tB (x j)) n = sm (fun j => tB (x j)) n * sm (fun j => tB (x j)) n
  | 0 => rfl
  | n + 1 => by
    have ih := sm2_pairs x n
    rw [sm2, sm]
    cases hx : x n with
    | false =>
      have e : sm (fun a => tB (x a && false)) n = 0 := by
        rw [sm_congr (g := fun _ => 0) (fun i _ => by simp [tB])]
        clear ih hx
        induction n with
        | zero => rfl
        | succ n ihn => rw [sm, ihn]
      rw [e]
      simpa [tB] using ih
    | true =>
      have e : sm (fun a => tB (x a && true)) n = sm (fun j => tB (x j)) n := sm_congr (fun i _ => by simp)
      rw [e]
      generalize sm (fun j => tB (x j)) n = s at ih ⊢
      have : tB true = 1 := rfl
      have e3 : (s + 1) * (s + 1) = s * s + 2 * s + 1 := by rw [Nat.mul_add, Nat.add_mul]; omega
      rw [this, e3]
      omega
def Tou (n : Nat) (R : Nat → Nat → Bool) : Prop := ∀ i j, i < n → j < n → (i = j → R i j = false) ∧ (i ≠ j → R i j = !R j i)
def cirR (R : Nat → Nat → Bool) (a b c : Nat) : Bool := R a b && (R b c && R c a)
theorem three (x y z : Bool) : tB (x && (y && z)) + tB (!z && (!y && !x)) + (tB (x && !z) + tB (!x && y) + tB (z && !y)) = 1 := by
  cases x <;> cases y <;> cases z <;> rfl
theorem circles_sum {n : Nat} {R : Nat → Nat → Bool} (h : Tou n R) :
    sm (fun a => sm (fun b => sm (fun c => tB (decide (a < b) && (decide (a < c) && cirR R a b c))) n) n) n + sm (fun i => sm2 (fun j k => tB (R i j && R i k)) n) n = sm3 (fun _ _ _ => 1) n := by
  have e1 : sm (fun a => sm (fun b => sm (fun c => tB (decide (a < b) && (decide (a < c) && cirR R a b c))) n) n) n = sm (fun a => sm2 (fun b c => tB (decide (a < b) && (decide (a < c) && cirR R a b c)) + tB (decide (a < c) && (decide (a < b) && cirR R a c b))) n) n := by
    refine sm_congr (fun a ha => sm_square (fun b c => tB (decide (a < b) && (decide (a < c) && cirR R a b c))) n (fun i hi => ?_))
    have := (h i i hi hi).1 rfl
    simp [cirR, this, tB]
  rw [e1, sm_cube (fun a b c => tB (decide (a < b) && (decide (a < c) && cirR R a b c)) + tB (decide (a < c) && (decide (a < b) && cirR R a c b))) n (fun i j => by simp [tB]) (fun i j => by simp [tB])]
  have e2 : sm (fun i => sm2 (fun j k => tB (R i j && R i k)) n) n = sm (fun i => sm2 (fun j k => tB (decide (i ≠ j) && (decide (i ≠ k) && (decide (i < n) && (decide (j < n) && (decide (k < n) && (R i j && R i k))))))) n) n := by
    refine sm_congr (fun i hi => sm2_congr (fun j k hj hk => ?_))
    congr 1
    by_cases c1 : i = j
    · subst c1; rw [(h i i hi hi).1 rfl]; simp
    · by_cases c2 : i = k
      · subst c2; rw [(h i i hi hi).1 rfl]; simp
      · have : j < n := by omega
        simp [c1, c2, hi, hk, this]
  rw [e2, sm_cube (fun i j k => tB (decide (i ≠ j) && (decide (i ≠ k) && (decide (i < n) && (decide (j < n) && (decide (k < n) && (R i j && R i k))))))) n (fun i j => by simp [tB]) (fun i j => by simp [tB]), ← sm3_add]
  refine sm3_congr (fun a b c h1 h2 h3 => ?_)
  have hb : b < n := by omega
  have ha : a < n := by omega
  have n1 : ¬ b < a := by omega
  have n2 : ¬ c < a := by omega
  have n3 : ¬ c < b := by omega
  have l2 : a < c := by omega
  have d1 : ¬ a = b := by omega
  have d2 : ¬ a = c := by omega
  have d3 : ¬ b = c := by omega
  have d4 : ¬ b = a := by omega
  have d5 : ¬ c = a := by omega
  have d6 : ¬ c = b := by omega
  have r1 : R b a = !R a b := (h b a hb ha).2 d4
  have r2 : R c b = !R b c := (h c b h3 hb).2 d6
  have r3 : R a c = !R c a := (h a c ha h3).2 d2
  have := three (R a b) (R b c) (R c a)
  simp only [cirR, h1, h2, h3, hb, ha, n1, n2, n3, l2, d1, d2, d3, d4, d5, d6, r1, r2, r3, decide_true, decide_false, Bool.true_and, Bool.false_and, ne_eq, not_false_eq_true, not_true_eq_false] at this ⊢
  have z : tB false = 0 := rfl
  simp only [z, Nat.zero_add, Nat.add_zero]
  omega
end Go.Proofs.Ytcheoendfcgjgaa.M
namespace Go.Proofs.Ytcheoendfcgjgaa.K
open Go.RowKit Go.Proofs.YtcheoendfcgjgaaW.PrintWords Go.Proofs.YtcheoendfcgjgaaW.PrintMore Go.Proofs.Ytcheoendfcgjgaa.P
def cir2 (ns : List Nat) (i j m : Nat) : List (List Nat) := (List.range m).flatMap fun c => if decide (i < j) && (decide (i < c) && circ ns i j c) then [[i, j, c]] else []
def cir1 (n : Nat) (ns : List Nat) (i j : Nat) : List (List Nat) := (List.range j).flatMap fun b => cir2 ns i b n
def cir0 (n : Nat) (ns : List Nat) (i : Nat) : List (List Nat) := (List.range i).flatMap fun a => cir1 n ns a n
def cirs (n : Nat) (ns : List Nat) : List (List Nat) := cir0 n ns n
def intsS (l : List (List Nat)) : List (List Int) := l.map ints
theorem cir2_succ (ns : List Nat) (i j m : Nat) : cir2 ns i j (m + 1) = cir2 ns i j m ++ (if decide (i < j) && (decide (i < m) && circ ns i j m) then [[i, j, m]] else []) := by
  unfold cir2; rw [List.range_succ, List.flatMap_append]; simp
theorem cir1_succ (n : Nat) (ns : List Nat) (i j : Nat) : cir1 n ns i (j + 1) = cir1 n ns i j ++ cir2 ns i j n := by
  unfold cir1; rw [List.range_succ, List.flatMap_append]; simp
theorem cir0_succ (n : Nat) (ns : List Nat) (i : Nat) : cir0 n ns (i + 1) = cir0 n ns i ++ cir1 n ns i n := by
  unfold cir0; rw [List.range_succ, List.flatMap_append]; simp
theorem cir2_low (ns : List Nat) (i j m : Nat) (h : m ≤ i + 1) : cir2 ns i j m = [] := by
  unfold cir2
  rw [List.flatMap_eq_nil_iff]
  intro c hc
  have := List.mem_range.1 hc
  rw [if_neg]
  simp; omega
theorem cir2_neg (ns : List Nat) (i j m : Nat) (h : ¬ i < j) : cir2 ns i j m = [] := by
  unfold cir2
  rw [List.flatMap_eq_nil_iff]
  intro c hc
  rw [if_neg]
  simp; omega
theorem cir1_low (n : Nat) (ns : List Nat) (i j : Nat) (h : j ≤ i + 1) : cir1 n ns i j = [] := by
  unfold cir1
  rw [List.flatMap_eq_nil_iff]
  intro b hb
  have := List.mem_range.1 hb
  exact cir2_neg _ _ _ _ (by omega)
theorem flat_le {α : Type} {f : Nat → List α} {c : Nat} (h : ∀ i, (f i).length ≤ c) : ∀ n, ((List.range n).flatMap f).length ≤ c * n
  | 0 => by simp
  | n + 1 => by
    have := flat_le h n
    have := h n
    rw [List.range_succ, List.flatMap_append, List.length_append, Nat.mul_add]
    simp only [List.flatMap_cons, List.flatMap_nil, List.append_nil]
    omega
theorem cir2_len (ns : List Nat) (i j m : Nat) : (cir2 ns i j m).length ≤ 1 * m := flat_le (fun c => by split <;> simp) m
theorem cir1_len (n : Nat) (ns : List Nat) (i j : Nat) (h : n ≤ 8) : (cir1 n ns i j).length ≤ 8 * j := flat_le (fun b => by have := cir2_len ns i b n; omega) j
theorem cir0_len (n : Nat) (ns : List Nat) (i : Nat) (h : n ≤ 8) : (cir0 n ns i).length ≤ 64 * i := flat_le (fun a => by have := cir1_len n ns a n h; omega) i
theorem intsS_length (l : List (List Nat)) : (intsS l).length = l.length := List.length_map _
theorem intsS_append (a b : List (List Nat)) : intsS (a ++ b) = intsS a ++ intsS b := List.map_append
theorem flat_length {α : Type} (f : Nat → List α) : ∀ n, ((List.range n).flatMap f).length = M.sm (fun i => (f i).length) n
  | 0 => rfl
  | n + 1 => by
    rw [List.range_succ, List.flatMap_append, List.length_append, flat_length f n]
    simp [M.sm]
theorem cirs_length (n : Nat) (ns : List Nat) : (cirs n ns).length = M.sm (fun a => M.sm (fun b => M.sm (fun c => M.tB (decide (a < b) && (decide (a < c) && M.cirR (nb ns) a b c))) n) n) n := by
  unfold cirs cir0
  rw [flat_length]
  refine M.sm_congr (fun a _ => ?_)
  unfold cir1
  rw [flat_length]
  refine M.sm_congr (fun b _ => ?_)
  unfold cir2
  rw [flat_length]
  refine M.sm_congr (fun c _ => ?_)
  unfold M.tB M.cirR circ
  split <;> rfl
theorem circs_l2 {n : Nat} {ns : List Nat} (h : Sets n ns) (i j : Nat) (hi : i < n) (hj : j < n) (hij : i < j) (p : List (List Nat)) (hp : p.length ≤ 600) :
    (∀ x, Ev (fun k => impl_circles.l1 k (intsS (p ++ cir2 ns i j n)) (i : Int) ((j + 1 : Nat) : Int) n (i : Int) n (ints ns)) x → Ev (fun k => impl_circles.l1 k (intsS p) (i : Int) (j : Int) n (i : Int) n (ints ns)) x) := by
  have hl := h.len
  have hn := h.n8
  obtain ⟨s', H, H1, H2⟩ := contLoop2 (fun s m k => impl_circles.l2 k s (i : Int) (j : Int) (m : Int) n (i : Int) n (ints ns)) (fun s m k => impl_circles.l2 k s (i : Int) (j : Int) (m : Int) n (i : Int) n (ints ns)) n (fun s m => i < m ∧ s = intsS (p ++ cir2 ns i j m)) (fun s m hm hI => by
    obtain ⟨him, rfl⟩ := hI
    have c1 := isCircle_f h hi hj hm
    have hb : (intsS (p ++ cir2 ns i j m)).length < 5864062014805 := by
      rw [intsS_length, List.length_append]
      have := cir2_len ns i j m
      omega
    refine ⟨_, ⟨by omega, rfl⟩, fun x hx => ?_, fun x hx => ?_⟩
    · refine Ev.step (fun k => by rw [impl_circles.l2, if_pos (by omega)]) (Ev.bind c1 ?_)
      rw [cir2_succ, decide_eq_true hij, decide_eq_true him] at hx
      cases e : circ ns i j m with
      | true =>
        rw [e] at hx
        simp only [Bool.and_self, if_true, ← List.append_assoc] at hx
        simp only [if_true, if_pos hb]
        rw [wrap_nat m (by omega)]
        rw [intsS_append] at hx
        exact hx
      | false =>
        rw [e] at hx
        simp only [Bool.and_false, Bool.false_eq_true, if_false, List.append_nil] at hx
        simp only [Bool.false_eq_true, if_false]; rw [wrap_nat m (by omega)]; exact hx
    · refine Ev.step (fun k => by rw [impl_circles.l2, if_pos (by omega)]) (Ev.bind c1 ?_)
      rw [cir2_succ, decide_eq_true hij, decide_eq_true him] at hx
      cases e : circ ns i j m with
      | true =>
        rw [e] at hx
        simp only [Bool.and_self, if_true, ← List.append_assoc] at hx
        simp only [if_true, if_pos hb]
        rw [wrap_nat m (by omega)]
        rw [intsS_append] at hx
        exact hx
      | false =>
        rw [e] at hx
        simp only [Bool.and_false, Bool.false_eq_true, if_false, List.append_nil] at hx
        simp only [Bool.false_eq_true, if_false]; rw [wrap_nat m (by omega)]; exact hx) (n - (i + 1)) (intsS p) (i + 1) (by omega) ⟨by omega, by rw [cir2_low _ _ _ _ (by omega), List.append_nil]⟩
  obtain ⟨-, rfl⟩ := H
  refine fun x hx => ?_
  · refine Ev.step (fun k => by rw [impl_circles.l1, if_pos (by omega), wrap_nat i (by omega)]) (H1 x ?_)
    exact Ev.step (fun k => by rw [impl_circles.l2, if_neg (by omega), wrap_nat j (by omega)]) hx
theorem circs_l1 {n : Nat} {ns : List Nat} (h : Sets n ns) (i : Nat) (hi : i < n) (p : List (List Nat)) (hp : p.length ≤ 512) :
    (∀ x, Ev (fun k => impl_circles.l0 k (intsS (p ++ cir1 n ns i n)) (n : Int) ((i + 1 : Nat) : Int) n (ints ns)) x → Ev (fun k => impl_circles.l0 k (intsS p) n (i : Int) n (ints ns)) x) := by
  have hl := h.len
  have hn := h.n8
  obtain ⟨s', H, H1, H2⟩ := contLoop2 (fun s j k => impl_circles.l1 k s (i : Int) (j : Int) n (i : Int) n (ints ns)) (fun s j k => impl_circles.l1 k s (i : Int) (j : Int) n (i : Int) n (ints ns)) n (fun s j => i < j ∧ s = intsS (p ++ cir1 n ns i j)) (fun s j hj hI => by
    obtain ⟨hij, rfl⟩ := hI
    have hlen := cir1_len n ns i j hn
    have q1 := circs_l2 h i j hi hj hij (p ++ cir1 n ns i j) (by rw [List.length_append]; omega)
    refine ⟨_, ⟨by omega, rfl⟩, fun x hx => q1 x ?_, fun x hx => q1 x ?_⟩ <;> (rw [cir1_succ] at hx; rw [List.append_assoc]; exact hx)) (n - (i + 1)) (intsS p) (i + 1) (by omega) ⟨by omega, by rw [cir1_low _ _ _ _ (by omega), List.append_nil]⟩
  obtain ⟨-, rfl⟩ := H
  refine fun x hx => ?_
  · refine Ev.step (fun k => by rw [impl_circles.l0, if_pos (by omega), wrap_nat i (by omega)]) (H1 x ?_)
    exact Ev.step (fun k => by rw [impl_circles.l1, if_neg (by omega), wrap_nat i (by omega)]) hx
theorem circles_list {n : Nat} {ns : List Nat} (h : Sets n ns) : Ev (fun k => impl_circles.f k n (ints ns)) (intsS (cirs n ns)) := by
  have hn := h.n8
  obtain ⟨s', H, H1, H2⟩ := contLoop2 (fun s j k => impl_circles.l0 k s n (j : Int) n (ints ns)) (fun s j k => impl_circles.l0 k s n (j : Int) n (ints ns)) n (fun s j => s = intsS (cir0 n ns j)) (fun s j hj hI => by
    subst hI
    have hlen := cir0_len n ns j hn
    have q1 := circs_l1 h j hj (cir0 n ns j) (by omega)
    refine ⟨_, rfl, fun x hx => q1 x ?_, fun x hx => q1 x ?_⟩ <;> (rw [cir0_succ] at hx; exact hx)) n [] 0 (by omega) rfl
  subst H
  · unfold impl_circles.f
    exact H1 _ (Ev.step (fun k => by rw [impl_circles.l0, if_neg (by omega)]; rfl) (Ev.now _))
end Go.Proofs.Ytcheoendfcgjgaa.K
namespace Go.Proofs.Ytcheoendfcgjgaa.K
open Go.RowKit Go.Proofs.YtcheoendfcgjgaaW.PrintWords Go.Proofs.Ytcheoendfcgjgaa.P
def pop (a : Nat) : Nat := (List.range 8).countP (fun i => a.testBit i)
theorem pop_many : (List.range 256).all (fun a => spec_deMany.f 10 (a : Int) == some ((pop a : Nat) : Int)) = true := by decide +kernel
theorem deMany_f (a : Nat) (h : a < 256) : Ev (fun k => spec_deMany.f k (a : Int)) ((pop a : Nat) : Int) :=
  Ev.of (fun k => spec_deMany.mono _ k) (beq_iff_eq.1 (List.all_eq_true.1 pop_many a (List.mem_range.2 h)))
theorem pop_ones : (List.range 256).all (fun a => bits_OnesCount.f (IntKind.u64.wrap (a : Int)) == some ((pop a : Nat) : Int)) = true := by decide +kernel
theorem onesCount_f (a : Nat) (h : a < 256) : bits_OnesCount.f (IntKind.u64.wrap (a : Int)) = some ((pop a : Nat) : Int) := beq_iff_eq.1 (List.all_eq_true.1 pop_ones a (List.mem_range.2 h))
theorem counts_l0 : ∀ (rest done : List Nat), (done ++ rest).length ≤ 1000 → (∀ x ∈ rest, x < 256) → Ev (fun k => impl_counts.l0 k (ints (done.map pop)) (ints (done ++ rest)) ((done ++ rest).length : Int) done.length) (ints ((done ++ rest).map pop)) := by
  intro rest
  induction rest with
  | nil => intro done h _; exact Ev.step (fun k => by rw [impl_counts.l0, if_neg (by simp)]) (Ev.some (by simp))
  | cons x rest ih =>
    intro done h hx
    have e : ints (done ++ x :: rest) = ints done ++ (x : Int) :: ints rest := by simp [ints]
    have hl : (ints done).length = done.length := ints_length _
    obtain ⟨h1, h2, h3, h4, h5⟩ := mid (x : Int) (ints done) (ints rest) (by simp [ints_length, BM] at h ⊢; omega)
    rw [← e, hl] at h3
    have ih' := ih (done ++ [x]) (by simpa using h) (fun y hy => hx y (by simp [hy]))
    rw [show done ++ [x] ++ rest = done ++ x :: rest by simp] at ih'
    have g1 : (done.length : Int) < ((done ++ x :: rest).length : Int) := by simp; omega
    refine Ev.step (fun k => ?_) ih'
    rw [impl_counts.l0, if_pos g1, if_pos (by omega), if_pos (by rw [ints_length]; exact g1), h3, onesCount_f x (hx x (by simp)), Option.bind_some, if_pos (by simp [ints_length] at h ⊢; omega), wrap_nat _ (by simp at h; omega)]
    simp [ints]
theorem counts_f (ns : List Nat) (h : ns.length ≤ 1000) (hx : ∀ x ∈ ns, x < 256) : Ev (fun k => impl_counts.f k (ints ns)) (ints (ns.map pop)) := by
  unfold impl_counts.f
  have := counts_l0 ns [] (by simpa using h) hx
  simpa [ints_length, ints] using this
end Go.Proofs.Ytcheoendfcgjgaa.K
namespace Go.Proofs.Ytcheoendfcgjgaa.K
open Go.RowKit Go.Proofs.YtcheoendfcgjgaaW.PrintWords Go.Proofs.YtcheoendfcgjgaaW.PrintMore Go.Proofs.Ytcheoendfcgjgaa.P
theorem scsK_l0 : ∀ (rest done : List Nat), (done ++ rest).length ≤ 1000 → (∀ x ∈ rest, x < 256) → Ev (fun k => spec_scScores.l0 k (ints (done.map pop)) (ints (done ++ rest)) ((done ++ rest).length : Int) done.length) (ints ((done ++ rest).map pop)) := by
  intro rest
  induction rest with
  | nil => intro done h _; exact Ev.step (fun k => by rw [spec_scScores.l0, if_neg (by simp)]) (Ev.some (by simp))
  | cons x rest ih =>
    intro done h hx
    have e : ints (done ++ x :: rest) = ints done ++ (x : Int) :: ints rest := by simp [ints]
    have hl : (ints done).length = done.length := ints_length _
    obtain ⟨h1, h2, h3, h4, h5⟩ := mid (x : Int) (ints done) (ints rest) (by simp [ints_length, BM] at h ⊢; omega)
    rw [← e, hl] at h3
    have ih' := ih (done ++ [x]) (by simpa using h) (fun y hy => hx y (by simp [hy]))
    rw [show done ++ [x] ++ rest = done ++ x :: rest by simp] at ih'
    have g1 : (done.length : Int) < ((done ++ x :: rest).length : Int) := by simp; omega
    refine Ev.step (f := fun k => (spec_deMany.f k (x : Int)).bind fun t => spec_scScores.l0 k (ints (done.map pop) ++ [t]) (ints (done ++ x :: rest)) ((done ++ x :: rest).length : Int) ((done.length + 1 : Nat) : Int)) (fun k => ?_) (Ev.bind (deMany_f x (hx x (by simp))) ?_)
    · rw [spec_scScores.l0, if_pos g1, if_pos (by omega), if_pos (by rw [ints_length]; exact g1), h3, wrap_nat _ (by simp at h; omega)]
      congr 1; funext t
      rw [if_pos (by simp [ints_length] at h ⊢; omega)]
    · simpa [ints] using ih'
theorem scScores_k {n : Nat} {ns : List Nat} (hs : Sets n ns) : Ev (fun k => spec_scScores.f k (n : Int) (ints ns)) (ints (ns.map pop)) := by
  have hlen := hs.len
  have hn := hs.n8
  have hx : ∀ x ∈ ns, x < 256 := fun x hx => Nat.lt_of_lt_of_le (hs.lt x hx) (pow8 hn)
  unfold spec_scScores.f
  have := scsK_l0 ns [] (by simp; omega) hx
  simpa [ints_length, ints] using this
theorem pop_le8 (a : Nat) : pop a ≤ 8 := by
  unfold pop
  have := List.countP_le_length (p := fun i => a.testBit i) (l := List.range 8)
  simpa using this
end Go.Proofs.Ytcheoendfcgjgaa.K
namespace Go.Proofs.Ytcheoendfcgjgaa.M
inductive Way (r : Nat → Nat → Bool) : Nat → Nat → Prop
  | refl (i : Nat) : Way r i i
  | tail {i j k : Nat} : Way r i j → r j k = true → Way r i k
theorem Way.trans {r : Nat → Nat → Bool} {i j k : Nat} (h : Way r i j) (g : Way r j k) : Way r i k := by
  induction g with
  | refl => exact h
  | tail _ hr ih => exact Way.tail ih hr
def bt (m : List Nat) (i j : Nat) : Bool := (m.getD i 0).testBit j
def pivF (p : Nat) (k : Nat) (s : Nat) : Nat := if s.testBit k then s ||| p else s
def piv (m : List Nat) (k : Nat) : List Nat := m.map (pivF (m.getD k 0) k)
theorem piv_length (m : List Nat) (k : Nat) : (piv m k).length = m.length := by simp [piv]
theorem bt_piv (m : List Nat) (k i j : Nat) : bt (piv m k) i j = (bt m i j || (bt m i k && bt m k j)) := by
  unfold bt piv
  simp only [List.getD_eq_getElem?_getD, List.getElem?_map]
  cases h : m[i]? with
  | none => simp
  | some s =>
    simp only [Option.map_some, Option.getD_some, pivF]
    by_cases hk : s.testBit k
    · rw [if_pos hk, Nat.testBit_or, hk]; simp
    · simp [hk]
structure Inv (r : Nat → Nat → Bool) (n : Nat) (k : Nat) (m : List Nat) : Prop where
  len : m.length = n
  sound : ∀ i j, bt m i j = true → Way r i j
  self : ∀ i, i < n → bt m i i = true
  has : ∀ i j, i < n → r i j = true → bt m i j = true
  trans : ∀ p, p < k → ∀ i j, bt m i p = true → bt m p j = true → bt m i j = true
theorem Inv.step {r : Nat → Nat → Bool} {n k : Nat} {m : List Nat} (h : Inv r n k m) : Inv r n (k + 1) (piv m k) where
  len := by rw [piv_length, h.len]
  sound := fun i j hb => by
    rw [bt_piv] at hb
    simp only [Bool.or_eq_true, Bool.and_eq_true] at hb
    rcases hb with hb | ⟨h1, h2⟩
    · exact h.sound i j hb
    · exact (h.sound i k h1).trans (h.sound k j h2)
  self := fun i hi => by rw [bt_piv, h.self i hi]; rfl
  has := fun i j hi hr => by rw [bt_piv, h.has i j hi hr]; rfl
  trans := fun p hp i j h1 h2 => by
    rw [bt_piv] at h1 h2 ⊢
    simp only [Bool.or_eq_true, Bool.and_eq_true] at h1 h2 ⊢
    by_cases e : p = k
    · subst e
      have a : bt m i p = true := by
        rcases h1 with h1 | h1
        · exact h1
        · exact h1.1
      have b : bt m p j = true := by
        rcases h2 with h2 | h2
        · exact h2
        · exact h2.2
      exact Or.inr ⟨a, b⟩
    · have hp' : p < k := by omega
      rcases h1 with h1 | ⟨h1, h3⟩ <;> rcases h2 with h2 | ⟨h2, h4⟩
      · exact Or.inl (h.trans p hp' i j h1 h2)
      · exact Or.inr ⟨h.trans p hp' i k h1 h2, h4⟩
      · exact Or.inr ⟨h1, h.trans p hp' k j h3 h2⟩
      · exact Or.inr ⟨h1, h4⟩
def pathR (R : Nat → Nat → Bool) : List Nat → Prop
  | [] => True
  | [_] => True
  | x :: y :: l => R x y = true ∧ pathR R (y :: l)
theorem pathR.tail {R : Nat → Nat → Bool} {x : Nat} : ∀ {l : List Nat}, pathR R (x :: l) → pathR R l
  | [], _ => trivial
  | _ :: _, h => h.2
theorem pathR.cons {R : Nat → Nat → Bool} {x : Nat} : ∀ {l : List Nat}, pathR R l → (∀ y, l.head? = some y → R x y = true) → pathR R (x :: l)
  | [], _, _ => trivial
  | y :: _, h, hh => ⟨hh y rfl, h⟩
theorem pathR_append {R : Nat → Nat → Bool} : ∀ {a b : List Nat}, pathR R (a ++ b) ↔ pathR R a ∧ pathR R b ∧ (∀ x y, a.getLast? = some x → b.head? = some y → R x y = true)
  | [], b => by simp [pathR]
  | [x], [] => by simp [pathR]
  | [x], y :: b => by simp [pathR, And.comm]
  | x :: y :: a, b => by
    have ih := pathR_append (R := R) (a := y :: a) (b := b)
    have e : (x :: y :: a).getLast? = (y :: a).getLast? := by simp [List.getLast?_cons_cons]
    rw [e]
    simp only [List.cons_append, pathR] at ih ⊢
    rw [ih, and_assoc]
theorem nodup_le : ∀ {l m : List Nat}, l.Nodup → (∀ x, x ∈ l → x ∈ m) → l.length ≤ m.length
  | [], _, _, _ => Nat.zero_le _
  | x :: l, m, hN, hs => by
    obtain ⟨h1, h2⟩ := List.nodup_cons.1 hN
    have hx := hs x List.mem_cons_self
    have ih := nodup_le (l := l) (m := m.erase x) h2 (fun y hy => (List.mem_erase_of_ne (fun e => h1 (by rw [← e]; exact hy))).2 (hs y (List.mem_cons_of_mem _ hy)))
    rw [List.length_erase_of_mem hx] at ih
    have : 0 < m.length := List.length_pos_of_mem hx
    rw [List.length_cons]
    omega
section
variable {n : Nat} {R : Nat → Nat → Bool}
theorem Tou.beats (h : Tou n R) {i j : Nat} (hi : i < n) (hj : j < n) (hne : i ≠ j) (hb : ¬ R i j = true) : R j i = true := by
  have := (h i j hi hj).2 hne
  cases hR : R j i with
  | true => rfl
  | false => rw [hR] at this; exact absurd this hb
structure Round (n : Nat) (R : Nat → Nat → Bool) (c : List Nat) : Prop where
  nodup : c.Nodup
  lt : ∀ x ∈ c, x < n
  path : pathR R c
  back : ∀ x y, c.getLast? = some x → c.head? = some y → R x y = true
theorem split_or (p : Nat → Bool) : ∀ (l : List Nat), (∀ x ∈ l, p x = true) ∨ (∀ x ∈ l, p x = false) ∨ (∃ a x y b, l = a ++ x :: y :: b ∧ p x = false ∧ p y = true) ∨ (∃ x y, l.head? = some x ∧ l.getLast? = some y ∧ p x = true ∧ p y = false)
  | [] => .inl (fun x hx => by cases hx)
  | [x] => by
    cases hx : p x with
    | true => exact .inl (fun y hy => by rw [List.mem_singleton.1 hy, hx])
    | false => exact .inr (.inl (fun y hy => by rw [List.mem_singleton.1 hy, hx]))
  | x :: y :: l => by
    have el : (x :: y :: l).getLast? = (y :: l).getLast? := by simp [List.getLast?_cons_cons]
    rcases split_or p (y :: l) with h | h | ⟨a, u, v, b, e, h1, h2⟩ | ⟨u, v, h1, h2, h3, h4⟩
    · cases hx : p x with
      | true =>
        refine .inl (fun z hz => ?_)
        rcases List.mem_cons.1 hz with rfl | q
        · exact hx
        · exact h z q
      | false => exact .inr (.inr (.inl ⟨[], x, y, l, rfl, hx, h y List.mem_cons_self⟩))
    · cases hx : p x with
      | true =>
        refine .inr (.inr (.inr ⟨x, (y :: l).getLast (by simp), rfl, by rw [el]; exact List.getLast?_eq_some_getLast (by simp), hx, h _ (List.getLast_mem _)⟩))
      | false =>
        refine .inr (.inl (fun z hz => ?_))
        rcases List.mem_cons.1 hz with rfl | q
        · exact hx
        · exact h z q
    · exact .inr (.inr (.inl ⟨x :: a, u, v, b, by rw [e]; rfl, h1, h2⟩))
    · have : u = y := by simpa using h1.symm
      subst this
      cases hx : p x with
      | true => exact .inr (.inr (.inr ⟨x, v, rfl, by rw [el]; exact h2, hx, h4⟩))
      | false => exact .inr (.inr (.inl ⟨[], x, u, l, rfl, hx, h3⟩))
theorem Round.grow1 (h : Tou n R) {c : List Nat} (hc : Round n R c) {v : Nat} (hv : v < n) (hvc : v ∉ c) {x y : Nat} (hx : x ∈ c) (hy : y ∈ c) (h1 : R v x = true) (h2 : R v y = false) : ∃ c', Round n R c' ∧ c'.length = c.length + 1 := by
  have hin : ∀ z, z ∈ c → R v z = false → R z v = true := fun z hz e => h.beats hv (hc.lt z hz) (fun e => hvc (e ▸ hz)) (by rw [e]; decide)
  rcases split_or (R v) c with q | q | ⟨a, u, w, b, e, q1, q2⟩ | ⟨u, w, q1, q2, q3, q4⟩
  · rw [q y hy] at h2; cases h2
  · rw [q x hx] at h1; cases h1
  · have hcu : u ∈ c := by rw [e]; simp
    have e2 : c = (a ++ [u]) ++ (w :: b) := by rw [e]; simp
    have hp := hc.path
    rw [e2] at hp
    obtain ⟨p1, p2, p3⟩ := pathR_append.1 hp
    refine ⟨(a ++ [u]) ++ (v :: w :: b), ⟨?_, ?_, ?_, ?_⟩, by rw [e]; simp; omega⟩
    · have := hc.nodup
      rw [e2] at this
      have hpm : ((a ++ [u]) ++ (v :: w :: b)).Perm (v :: ((a ++ [u]) ++ (w :: b))) := List.perm_middle
      rw [hpm.nodup_iff, List.nodup_cons, ← e2]
      exact ⟨hvc, hc.nodup⟩
    · intro z hz
      have hpm : ((a ++ [u]) ++ (v :: w :: b)).Perm (v :: ((a ++ [u]) ++ (w :: b))) := List.perm_middle
      rcases List.mem_cons.1 (hpm.mem_iff.1 hz) with rfl | q
      · exact hv
      · exact hc.lt z (by rw [e2]; exact q)
    · refine pathR_append.2 ⟨p1, ⟨q2, p2⟩, fun s t hs ht => ?_⟩
      have e3 : u = s := by simpa using hs
      have e4 : v = t := by simpa using ht
      rw [← e3, ← e4]
      exact hin u hcu q1
    · intro s t hs ht
      refine hc.back s t ?_ ?_
      · rw [e2]
        rw [List.getLast?_append] at hs ⊢
        simpa [List.getLast?_cons_cons] using hs
      · rw [e2]
        rw [List.head?_append] at ht ⊢
        cases a with
        | nil => simpa using ht
        | cons z a => simpa using ht
  · refine ⟨v :: c, ⟨List.nodup_cons.2 ⟨hvc, hc.nodup⟩, fun z hz => ?_, hc.path.cons (fun z hz => ?_), fun s t hs ht => ?_⟩, rfl⟩
    · rcases List.mem_cons.1 hz with rfl | q
      · exact hv
      · exact hc.lt z q
    · rw [q1] at hz; cases hz; exact q3
    · have e1 : t = v := by simpa using ht.symm
      have e2 : s = w := by
        cases c with
        | nil => simp at q2
        | cons z c => rw [List.getLast?_cons_cons, q2] at hs; simpa using hs.symm
      rw [e1, e2]
      exact hin w (List.mem_of_getLast? q2) q4
def Strong (n : Nat) (R : Nat → Nat → Bool) : Prop := ∀ S : Nat → Prop, (∀ i j, S i → i < n → j < n → R i j = true → S j) → (∃ i, i < n ∧ S i) → ∀ j, j < n → S j
theorem Round.grow (h : Tou n R) (hs : Strong n R) {c : List Nat} (hc : Round n R c) (h3 : 3 ≤ c.length) (hn : c.length < n) : ∃ c', Round n R c' ∧ 3 ≤ c'.length ∧ c.length < c'.length := by
  by_cases hg : ∃ v, v < n ∧ v ∉ c ∧ ∃ x ∈ c, ∃ y ∈ c, R v x = true ∧ R v y = false
  · obtain ⟨v, v1, v2, x, hx, y, hy, r1, r2⟩ := hg
    obtain ⟨c', g1, g2⟩ := hc.grow1 h v1 v2 hx hy r1 r2
    exact ⟨c', g1, by omega, by omega⟩
  · -- each other one beats all of the round, or is beaten by all of it
    have hside : ∀ v, v < n → v ∉ c → (∀ x ∈ c, R v x = true) ∨ (∀ x ∈ c, R v x = false) := by
      intro v v1 v2
      by_cases q : ∀ x ∈ c, R v x = true
      · exact .inl q
      · refine .inr (fun x hx => ?_)
        cases hr : R v x with
        | false => rfl
        | true =>
          refine absurd (fun y hy => ?_) q
          cases hr2 : R v y with
          | true => rfl
          | false => exact absurd ⟨v, v1, v2, x, hx, y, hy, hr, hr2⟩ hg
    obtain ⟨c0, c1, r, rfl⟩ : ∃ c0 c1 r, c = c0 :: c1 :: r := by
      cases c with
      | nil => simp at h3
      | cons c0 c => cases c with
        | nil => simp at h3
        | cons c1 r => exact ⟨c0, c1, r, rfl⟩
    have hout : ∃ v, v < n ∧ v ∉ (c0 :: c1 :: r) := by
      refine Classical.byContradiction (fun hno => ?_)
      have hsub : (List.range n) ⊆ (c0 :: c1 :: r) := fun v hv => Classical.byContradiction (fun hc => hno ⟨v, List.mem_range.1 hv, hc⟩)
      have := nodup_le List.nodup_range hsub
      rw [List.length_range] at this
      omega
    obtain ⟨v, v1, v2⟩ := hout
    -- someone beaten by the round beats someone who beats the round
    have hba : ∃ b a, b < n ∧ a < n ∧ b ∉ (c0 :: c1 :: r) ∧ a ∉ (c0 :: c1 :: r) ∧ (∀ x ∈ (c0 :: c1 :: r), R b x = false) ∧ (∀ x ∈ (c0 :: c1 :: r), R a x = true) ∧ R b a = true := by
      refine Classical.byContradiction (fun hno => ?_)
      have hc0 := hc.lt c0 List.mem_cons_self
      -- those of the round and those beaten by it
      have hall := hs (fun z => z ∈ (c0 :: c1 :: r) ∨ (z ∉ (c0 :: c1 :: r) ∧ ∀ x ∈ (c0 :: c1 :: r), R z x = false)) (fun i j hi hin hjn hr => by
        by_cases hj : j ∈ (c0 :: c1 :: r)
        · exact .inl hj
        · rcases hside j hjn hj with q | q
          · rcases hi with hi | ⟨hi, hi2⟩
            · have e1 := q i hi
              have := (h i j hin hjn).2 (fun e => hj (e ▸ hi))
              rw [hr, e1] at this; cases this
            · exact absurd ⟨i, j, hin, hjn, hi, hj, hi2, q, hr⟩ hno
          · exact .inr ⟨hj, q⟩) ⟨c0, hc0, .inl List.mem_cons_self⟩
      have hv2 : ∀ x ∈ (c0 :: c1 :: r), R v x = false := by
        rcases hall v v1 with q | q
        · exact absurd q v2
        · exact q.2
      -- so none who is beaten by it beats one of it
      have hall2 := hs (fun z => z ∉ (c0 :: c1 :: r)) (fun i j hi hin hjn hr hj => by
        rcases hall i hin with q | q
        · exact hi q
        · rw [q.2 j hj] at hr; cases hr) ⟨v, v1, v2⟩
      exact hall2 c0 hc0 List.mem_cons_self
    obtain ⟨b, a, b1, a1, b2, a2, b3, a3, hr⟩ := hba
    have hab : a ≠ b := fun e => by rw [e] at hr; rw [(h b b b1 b1).1 rfl] at hr; cases hr
    have hN := List.nodup_cons.1 hc.nodup
    refine ⟨c0 :: b :: a :: c1 :: r, ⟨?_, ?_, ?_, ?_⟩, by simp, by simp⟩
    · have b2' : b ∉ c1 :: r := fun q => b2 (List.mem_cons_of_mem _ q)
      have a2' : a ∉ c1 :: r := fun q => a2 (List.mem_cons_of_mem _ q)
      have b0 : c0 ≠ b := fun e => b2 (e ▸ List.mem_cons_self)
      have a0 : c0 ≠ a := fun e => a2 (e ▸ List.mem_cons_self)
      refine List.nodup_cons.2 ⟨fun q => ?_, List.nodup_cons.2 ⟨fun q => ?_, List.nodup_cons.2 ⟨a2', hN.2⟩⟩⟩
      · rcases List.mem_cons.1 q with q | q
        · exact b0 q
        · rcases List.mem_cons.1 q with q | q
          · exact a0 q
          · exact hN.1 q
      · rcases List.mem_cons.1 q with q | q
        · exact hab q.symm
        · exact b2' q
    · intro z hz
      rcases List.mem_cons.1 hz with rfl | hz
      · exact hc.lt _ List.mem_cons_self
      · rcases List.mem_cons.1 hz with rfl | hz
        · exact b1
        · rcases List.mem_cons.1 hz with rfl | hz
          · exact a1
          · exact hc.lt z (List.mem_cons_of_mem _ hz)
    · exact ⟨h.beats b1 (hc.lt c0 List.mem_cons_self) (fun e => b2 (e ▸ List.mem_cons_self)) (by rw [b3 c0 List.mem_cons_self]; decide), hr, a3 c1 (by simp), hc.path.2⟩
    · intro x y hx hy
      refine hc.back x y ?_ (by simpa using hy)
      simpa [List.getLast?_cons_cons] using hx
end
end Go.Proofs.Ytcheoendfcgjgaa.M
namespace Go.Proofs.Ytcheoendfcgjgaa.K
open Go.RowKit Go.Proofs.YtcheoendfcgjgaaW.PrintWords Go.Proofs.YtcheoendfcgjgaaW.PrintMore Go.Proofs.Ytcheoendfcgjgaa.P
structure OkL (n : Nat) (ns : List Nat) (l : List Nat) : Prop where
  nodup : l.Nodup
  lt : ∀ x ∈ l, x < n
  path : M.pathR (nb ns) l
theorem OkL.left {n : Nat} {ns a b : List Nat} (h : OkL n ns (a ++ b)) : OkL n ns a :=
  ⟨(List.nodup_append.1 h.nodup).1, fun x hx => h.lt x (List.mem_append_left _ hx), (M.pathR_append.1 h.path).1⟩
section
variable {n : Nat} {ns : List Nat} (hT : Tour n ns)
include hT
theorem Tour.tou : M.Tou n (nb ns) := by
  intro i j hi hj
  refine ⟨fun e => ?_, fun hne => ?_⟩
  · subst e; exact hT.1.2 i hi
  · rcases Nat.lt_or_ge i j with h | h
    · have := hT.2 j hj i h
      revert this; cases nb ns i j <;> cases nb ns j i <;> simp
    · have := hT.2 i hi j (by omega)
      revert this; cases nb ns i j <;> cases nb ns j i <;> simp
omit hT in
end
theorem filter_perm (i : Nat) : ∀ l : List Nat, l.Nodup → i ∈ l → l.Perm (i :: l.filter (fun x => decide (x ≠ i)))
  | [], _, h => by cases h
  | y :: l, hn, h => by
    obtain ⟨h1, h2⟩ := List.nodup_cons.1 hn
    by_cases c : y = i
    · subst c
      rw [List.filter_cons_of_neg (by simp), List.filter_eq_self.2 (fun x hx => by simp; exact fun e => h1 (e ▸ hx))]
    · rw [List.filter_cons_of_pos (by simpa using c)]
      have hi : i ∈ l := by
        rcases List.mem_cons.1 h with e | q
        · exact absurd e.symm c
        · exact q
      exact ((filter_perm i l h2 hi).cons y).trans (List.Perm.swap i y _)
theorem getD_ext {a b : List Int} (h : a.length = b.length) (hg : ∀ x, a.getD x 0 = b.getD x 0) : a = b := by
  apply List.ext_getElem h
  intro x h1 h2
  have := hg x
  rw [List.getD_eq_getElem?_getD, List.getD_eq_getElem?_getD, List.getElem?_eq_getElem h1, List.getElem?_eq_getElem h2] at this
  exact this
theorem sets_ext {n : Nat} {a b : List Nat} (ha : Sets n a) (hb : Sets n b) (h : ∀ x y, nb a x y = nb b x y) : a = b := by
  apply List.ext_getElem (by rw [ha.len, hb.len])
  intro x h1 h2
  have e1 : a[x] = a.getD x 0 := by rw [List.getD_eq_getElem?_getD, List.getElem?_eq_getElem h1]; rfl
  have e2 : b[x] = b.getD x 0 := by rw [List.getD_eq_getElem?_getD, List.getElem?_eq_getElem h2]; rfl
  rw [e1, e2]
  exact Nat.eq_of_testBit_eq (fun y => h x y)
theorem own_ints (y : List Int) (h : y.length ≤ 1000) : spec_l1Own.f y = some y := by
  unfold spec_l1Own.f
  simp only [Option.bind_some, List.nil_append]
  rw [if_pos (by simp; omega)]
theorem beatN_length (ns : List Nat) (i j : Nat) : (beatN ns i j).length = ns.length := by simp [beatN]
theorem btIn_length (i : Nat) (M : Int) : ∀ (o : List Nat) (k : Nat) (nd : List Int) (ns : List Nat), (btIn i M o k nd ns).2.length = ns.length
  | [], _, _, _ => rfl
  | j :: o, k, nd, ns => by
    rw [btIn]
    split
    · rw [btIn_length i M o, beatN_length]
    · rw [btIn_length i M o, beatN_length]
theorem btGo_length : ∀ (f : Nat) (nd : List Int) (ns left : List Nat), (btGo f nd ns left).length = ns.length
  | 0, _, _, _ => rfl
  | f + 1, nd, ns, left => by rw [btGo, btGo_length f, btIn_length]
theorem sb_l0 {n : Nat} (h8 : n ≤ 8) (x0 : List Int) (hx0 : x0.length = n) : ∀ d (gs left : List Nat) (nd : List Int) (ns : List Nat), left.length = d → gs.length + d = n → nd.length = n → Sets n ns → (∀ x, x < n → (x ∉ gs ↔ x ∈ left)) → (∀ x ∈ left, x < n) → left.Pairwise (fun a b => a < b) →
    (∀ a ∈ left, ∀ b ∈ left, nb ns a b = false) → (∀ x, -(gs.length : Int) ≤ nd.getD x 0 ∧ nd.getD x 0 ≤ 60) → okL d (isortI (left.map fun x => nd.getD x 0)) = true →
    Ev (fun k => spec_BuildTournament.l0 k x0 nd (ints gs) n (ints ns)) ((n : Int), ints (btGo d nd ns left), true) := by
  intro d
  induction d with
  | zero =>
    intro gs left nd ns _ hg _ _ _ _ _ _ _ _
    refine Ev.step (fun k => ?_) (Ev.now _)
    rw [spec_BuildTournament.l0, if_neg (by rw [ints_length, hx0]; omega)]
    rfl
  | succ d ih =>
    intro gs left nd ns hlen hg hnd hS hM hL hP hZ hB hok
    have hne : left ≠ [] := fun e => by rw [e] at hlen; simp at hlen
    have hNd : left.Nodup := hP.imp (fun h => Nat.ne_of_lt h)
    obtain ⟨i, hi⟩ : ∃ i, i = btFirst nd left := ⟨_, rfl⟩
    obtain ⟨f1, f2⟩ := btFirst_best nd left hne hP
    rw [← hi] at f1 f2
    have hin : i < n := hL i f1
    obtain ⟨left', hl'⟩ : ∃ left', left' = left.filter (fun x => decide (x ≠ i)) := ⟨_, rfl⟩
    obtain ⟨o, ho⟩ : ∃ o, o = btOrd nd left' := ⟨_, rfl⟩
    have hperm : left.Perm (i :: left') := by rw [hl']; exact filter_perm i left hNd f1
    have hop : o.Perm left' := by rw [ho]; exact btOrd_perm nd left'
    have hos : o.Pairwise (ahead nd false) := by rw [ho]; exact btOrd_sorted nd left'
    have hm' : ∀ x, x ∈ left' ↔ x ∈ left ∧ x ≠ i := fun x => by rw [hl', List.mem_filter]; simp
    have hlen' : left'.length = d := by have := hperm.length_eq; simp at this; omega
    have holen : o.length = d := by rw [hop.length_eq, hlen']
    have hNd' : left'.Nodup := by rw [hl']; exact hNd.sublist List.filter_sublist
    have hNo : o.Nodup := hop.nodup_iff.2 hNd'
    have hmo : ∀ x, x ∈ o ↔ x ∈ left ∧ x ≠ i := fun x => by rw [hop.mem_iff, hm']
    obtain ⟨M, hMd⟩ : ∃ M, M = nd.getD i 0 := ⟨_, rfl⟩
    -- the scores that rise
    have hsrt : isortI (left.map fun x => nd.getD x 0) = o.map (fun x => nd.getD x 0) ++ [M] := by
      refine isortI_eq ?_ ?_
      · have : (left.map fun x => nd.getD x 0).Perm ((o ++ [i]).map fun x => nd.getD x 0) := (hperm.trans ((hop.symm.cons i).trans (List.perm_append_singleton i o).symm)).map _
        rw [List.map_append] at this
        rw [hMd]
        exact this
      · rw [List.pairwise_append]
        refine ⟨?_, by simp, fun a ha b hb => ?_⟩
        · rw [List.pairwise_map]
          exact hos.imp (fun h => by unfold ahead at h; simp only [Bool.false_eq_true, if_false] at h; omega)
        · obtain ⟨x, hx, rfl⟩ := List.mem_map.1 ha
          rw [List.mem_singleton.1 hb, hMd]
          have := f2 x ((hmo x).1 hx).1
          unfold ahead at this; simp only [if_true] at this; omega
    rw [hsrt, okL, List.getLastD_concat, List.dropLast_concat, Bool.and_eq_true, decide_eq_true_eq, List.length_map] at hok
    obtain ⟨k1, k2⟩ := hok
    -- what the games make
    have hio : i ∉ o := fun h => ((hmo i).1 h).2 rfl
    have hoL : ∀ x ∈ o, x < n := fun x hx => hL x ((hmo x).1 hx).1
    obtain ⟨c1, c2, c3, c4⟩ := btIn_char (n := n) i M hin o 0 nd ns hNo hio hoL hnd hS (fun x hx => ⟨hZ i f1 x ((hmo x).1 hx).1, hZ x ((hmo x).1 hx).1 i f1⟩)
    have ht : (M - ((0 : Nat) : Int)).toNat = M.toNat := by congr 1; omega
    rw [ht] at c3 c4
    obtain ⟨B, hBd⟩ : ∃ B, B = gs ++ [i] ++ o.take M.toNat := ⟨_, rfl⟩
    have hkey : ∀ x, (0 ≤ x ∧ x < n ∧ x ∉ B) ↔ x ∈ o.drop M.toNat := by
      intro x
      rw [hBd, List.mem_append, List.mem_append, List.mem_singleton, not_or, not_or]
      constructor
      · rintro ⟨-, h2, ⟨h3, h4⟩, h5⟩
        have : x ∈ o := (hmo x).2 ⟨(hM x h2).1 h3, h4⟩
        rw [← List.take_append_drop M.toNat o, List.mem_append] at this
        rcases this with q | q
        · exact absurd q h5
        · exact q
      · intro h
        have hx : x ∈ o := List.mem_of_mem_drop h
        obtain ⟨e1, e2⟩ := (hmo x).1 hx
        refine ⟨Nat.zero_le _, hoL x hx, ⟨(hM x (hoL x hx)).2 e1, e2⟩, fun q => ?_⟩
        have hN2 := hNo
        rw [← List.take_append_drop M.toNat o, List.nodup_append] at hN2
        exact hN2.2.2 x q x h rfl
    have htl : ∀ x ∈ o.take M.toNat, x < n := fun x hx => hoL x (List.mem_of_mem_take hx)
    obtain ⟨s1, s2⟩ := setOr_char i hin (o.take M.toNat) ns htl hS
    obtain ⟨w1, w2, w3, w4⟩ := winF_char B i hin n 0 nd (setOr i (o.take M.toNat) ns) (by omega) hnd s1
    have eq1 : (winF B i n 0 nd (setOr i (o.take M.toNat) ns)).1 = (btIn i M o 0 nd ns).1 := getD_ext (by rw [w1, c1]) (fun x => by
      rw [w3, c3]
      by_cases c : x ∈ o.drop M.toNat
      · rw [if_pos c, if_pos ((hkey x).2 c)]
      · rw [if_neg c, if_neg (fun h => c ((hkey x).1 h))])
    have eq2 : (winF B i n 0 nd (setOr i (o.take M.toNat) ns)).2 = (btIn i M o 0 nd ns).2 := sets_ext w2 c2 (fun a b => by
      rw [w4, c4, s2, Bool.or_assoc]
      have : decide (0 ≤ a ∧ a < n ∧ a ∉ B) = decide (a ∈ o.drop M.toNat) := by rw [decide_eq_decide]; exact hkey a
      rw [this])
    -- the rest
    have hrest := ih (gs ++ [i]) left' (btIn i M o 0 nd ns).1 (btIn i M o 0 nd ns).2 hlen' (by simp; omega) c1 c2 (fun x hx => by
        rw [hm', ← hM x hx]; simp [not_or]) (fun x hx => hL x ((hm' x).1 hx).1) (by rw [hl']; exact hP.sublist List.filter_sublist) (fun a ha b hb => by
        obtain ⟨a1, a2⟩ := (hm' a).1 ha
        obtain ⟨b1, b2⟩ := (hm' b).1 hb
        rw [c4, hZ a a1 b b1]; simp [a2, b2]) (fun x => by
        rw [c3]
        have := hB x
        simp only [List.length_append, List.length_singleton]
        split <;> omega) (by
        rw [← k2]
        congr 1
        apply isortI_congr
        have e1 : (left'.map fun x => (btIn i M o 0 nd ns).1.getD x 0).Perm (o.map fun x => (btIn i M o 0 nd ns).1.getD x 0) := hop.symm.map _
        refine e1.trans (List.Perm.of_eq ?_)
        have e2 : (o.map fun x => (btIn i M o 0 nd ns).1.getD x 0) = ((o.take M.toNat) ++ (o.drop M.toNat)).map fun x => (btIn i M o 0 nd ns).1.getD x 0 := by rw [List.take_append_drop]
        rw [e2, List.map_append, ← List.map_take, ← List.map_drop, List.map_map]
        congr 1
        · apply List.map_congr_left
          intro x hx
          rw [c3, if_neg]
          intro q
          have hN2 := hNo
          rw [← List.take_append_drop M.toNat o, List.nodup_append] at hN2
          exact hN2.2.2 x hx x q rfl
        · apply List.map_congr_left
          intro x hx
          rw [c3, if_pos hx]
          rfl)
    have hgo : btGo (d + 1) nd ns left = btGo d (btIn i M o 0 nd ns).1 (btIn i M o 0 nd ns).2 left' := by
      rw [btGo, ← hi, ← hl', ← ho, ← hMd]
    rw [hgo]
    have hgi : i ∉ gs := (hM i hin).2 f1
    have hnx : Ev (fun k => spec_scNext.f k nd (ints gs) true) (i : Int) :=
      scNext_f nd gs true (by omega) (by omega) i (by omega) hgi (fun x hx hxg => f2 x ((hM x (by omega)).1 hxg))
    have ei : ints gs ++ [(i : Int)] = ints (gs ++ [i]) := by rw [ints_appB]; rfl
    have hown : spec_l1Own.f (ints (gs ++ [i])) = some (ints (gs ++ [i])) := own_ints _ (by rw [ints_length]; simp; omega)
    refine Ev.step (fun k => by rw [spec_BuildTournament.l0, if_pos (show ((ints gs).length : Int) < (x0.length : Int) by rw [ints_length, hx0]; omega)]) (Ev.bind hnx ?_)
    simp only [if_pos (show (ints gs).length < 17592186044416 by rw [ints_length]; omega), Option.bind_some, ei, hown, if_pos (show (0 : Int) ≤ (i : Int) by omega), if_pos (show (i : Int) < (nd.length : Int) by omega), rdI, ← hMd]
    have hfin : Ev (fun k => spec_BuildTournament.l1 k x0 nd (ints (gs ++ [i])) i (ints ((gs ++ [i]) ++ [])) M n (ints ns)) ((n : Int), ints (btGo d (btIn i M o 0 nd ns).1 (btIn i M o 0 nd ns).2 left'), true) := by
      refine sb_l1 x0 nd (ints (gs ++ [i])) (gs ++ [i]) i hin hnd h8 _ o [] M ns hS hos (fun x hx => ?_) hNo hoL (by omega) (by have := (hB i).2; omega) (by simp; omega) ?_
      · rw [List.append_nil, List.mem_append, not_or, List.mem_singleton, hmo, hM x hx]
      · rw [List.append_nil, ← hBd]
        refine sb_l2 x0 (ints (gs ++ [i])) B i hin h8 (by rw [hBd]; simp; omega) _ n 0 nd _ (by omega) hnd s1 (fun x _ => by have := hB x; omega) ?_
        rw [eq1, eq2]
        exact hrest
    rw [List.append_nil] at hfin
    exact hfin
theorem buildT_full (l : List Int) (hl : l.length ≤ BM) : ∃ r : Int × List Int × Bool, Ev (fun k => spec_BuildTournament.f k l) r ∧ Ev (fun k => impl_BuildTournament.f k l) r ∧ r.2.1.length ≤ 8 ∧ r = (if isList l = true ∧ refS l = 0 then ((l.length : Int), ints (btGo l.length l (List.replicate l.length 0) (List.range l.length)), true) else (0, [], false)) := by
  unfold spec_BuildTournament.f impl_BuildTournament.f
  have hg := liGood_f l hl
  have hi := IsList_f l hl
  have hfail : Ev (fun k => spec_BuildTournament.j0 k l true) (0, [], false) := Ev.step (fun k => by rw [spec_BuildTournament.j0, if_pos rfl]) (Ev.now _)
  cases hb : isList l with
  | false =>
    rw [hb] at hg hi
    refine ⟨(0, [], false), Ev.bind hg ?_, Ev.bind hi ?_, by simp, by simp⟩
    · simp only [Bool.false_eq_true, if_false]; exact hfail
    · simp only [Bool.false_eq_true, if_false]; exact Ev.now _
  | true =>
    rw [hb] at hg hi
    obtain ⟨⟨h1, h8⟩, h3⟩ := isList_iff hb
    by_cases hr : refS l = 0
    · refine ⟨((l.length : Int), ints (btGo l.length l (List.replicate l.length 0) (List.range l.length)), true), Ev.bind hg ?_, Ev.bind hi ?_, ?_, by rw [if_pos ⟨rfl, hr⟩]⟩
      · simp only [if_true]
        refine Ev.bind (scRefuses_f hb) ?_
        have e : decide (refS l > 0) = false := by rw [hr]; rfl
        simp only [e]
        have hz : Sets l.length (List.replicate l.length 0) := ⟨h1, h8, by simp, fun x hx => by rw [(List.mem_replicate.1 hx).2]; exact Nat.two_pow_pos _⟩
        have main := sb_l0 h8 l rfl l.length [] (List.range l.length) l (List.replicate l.length 0) (by simp) (by simp) rfl hz (fun x hx => by simp [hx]) (fun x hx => List.mem_range.1 hx) List.pairwise_lt_range
          (fun a ha b hb => by
            unfold nb
            rw [List.getD_eq_getElem?_getD, List.getElem?_replicate, if_pos (List.mem_range.1 ha), Option.getD_some, Nat.zero_testBit]) (fun x => by
            rw [List.getD_eq_getElem?_getD]
            cases hx : l[x]? with
            | none => simp
            | some y => have := h3 y (List.mem_of_getElem? hx); simp; omega) (by
            have em : ((List.range l.length).map fun x => l.getD x 0) = l := by
              apply getD_ext (by simp)
              intro x
              rw [List.getD_eq_getElem?_getD, List.getElem?_map]
              by_cases hx : x < l.length
              · rw [List.getElem?_range hx]; rfl
              · rw [List.getElem?_eq_none (by simp; omega), List.getD_eq_getElem?_getD, List.getElem?_eq_none (by omega)]; rfl
            rw [em]
            exact okL_start l h8 (fun x hx => (h3 x hx).1) hr)
        refine Ev.step (fun k => ?_) main
        rw [spec_BuildTournament.j0, if_neg (by decide), if_pos (by omega), if_pos (by omega), own_ints l (by omega), Option.bind_some, Int.toNat_natCast]
        have e2 : ints (List.replicate l.length 0) = List.replicate l.length 0 := by simp [ints]
        rw [e2]
        rfl
      · simp only [if_true, refusingScores_f hb, Option.bind_some, if_pos hr]
        rw [if_pos ⟨h1, h8, h3⟩]
        exact Ev.now _
      · show (ints _).length ≤ 8
        rw [ints_length, btGo_length, List.length_replicate]
        exact h8
    · refine ⟨(0, [], false), Ev.bind hg ?_, Ev.bind hi ?_, by simp, by rw [if_neg (fun h => hr h.2)]⟩
      · simp only [if_true]
        refine Ev.bind (scRefuses_f hb) ?_
        have := refS_nonneg l
        have e : decide (refS l > 0) = true := by simp; omega
        simp only [e]
        exact hfail
      · simp only [if_true, refusingScores_f hb, Option.bind_some, if_neg hr]
        exact Ev.now _
end Go.Proofs.Ytcheoendfcgjgaa.K
