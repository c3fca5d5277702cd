/- The row of the law FnExactParseGraph: contracts and plain lemmas for the law FnExactParseGraph, part 5 of 5 (what the Go functions answer). -/
import Derived.Test.YtmmfpppnnfnlbaaDoorRows
import Derived.Test.YtmmfpppnnfnlbaaDoorCards
import Derived.Test.YtmmfpppnnfnlbaaDoorTie
import Derived.Deep.DeepHandedRow
import Derived.Lib.LaidTab
import Derived.Stop.LaidErr
import Derived.WalkKit
import Derived.ProofKit
import Derived.OpenShut
import Derived.ShutString
import Derived.ChangeOld
import Derived.Below
import Derived.SizedLaws
import Derived.Test.YtmmfpppnnfnlbaaDoorCFnExactParseGrapha
import Derived.Test.YtmmfpppnnfnlbaaDoorCFnExactParseGraphb
import Derived.Test.YtmmfpppnnfnlbaaDoorCFnExactParseGraphc
import Derived.Test.YtmmfpppnnfnlbaaDoorCFnExactParseGraphd
set_option linter.unusedVariables false
set_option linter.unusedSimpArgs false
namespace Go.Proofs.YtmmfpppnnfnlbaaDoor.K
open Go.RowKit Go.Proofs.YtmmfpppnnfnlbaaDoorW.PrintWords Go.Proofs.YtmmfpppnnfnlbaaDoorW.PrintMore Go.Proofs.YtmmfpppnnfnlbaaDoor.P
theorem read_dig (n : Nat) (h9 : n ≤ 9) : Ev (fun k => spec_l1Read.f k (strOfNums [48 + (n : Int)])) (n : Int) := by
  have hz : (strOfNums [48 + (n : Int)]).size = 1 := by rw [sn_size]; rfl
  have hb : bt (strOfNums [48 + (n : Int)]) 0 = 48 + (n : Int) := sn_bt [48 + (n : Int)] (by intro x hx; simp at hx; omega) 0
  have hu : Ev (fun k => spec_l1Read.l0 k (strOfNums [48 + (n : Int)]) (n : Int) 1) (n : Int) := Ev.step (fun k => by rw [spec_l1Read.l0, if_neg (by omega)]) (Ev.now _)
  have hj : Ev (fun k => spec_l1Read.j0 k (strOfNums [48 + (n : Int)]) false) (n : Int) := by
    refine Ev.step (fun k => by rw [spec_l1Read.j0, if_neg (by decide)]) (Ev.step (fun k => ?_) hu)
    rw [spec_l1Read.l0, hz, hb, if_pos (by omega), if_pos (by omega), if_neg (by omega), if_neg (by omega)]
    have e : wrap64 (wrap64 (10 * 0) + ((48 + (n : Int) - 48) % 256)) = (n : Int) := by unfold wrap64; omega
    rw [e, show wrap64 (0 + 1) = (1 : Int) by unfold wrap64; omega]
  unfold spec_l1Read.f
  simp only [l1In_b, Option.bind_some, hz, hb]
  simp only [show decide ((1 : Int) ≤ ((1 : Nat) : Int) ∧ ((1 : Nat) : Int) ≤ 6) = true from rfl, if_true, if_pos (show (0 : Int) < ((1 : Nat) : Int) by omega), show decide (((1 : Nat) : Int) > 1) = false from rfl]
  by_cases c : 48 + (n : Int) = 48
  · simp only [if_pos c]; exact hj
  · simp only [if_neg c]; exact hj
theorem gsplit_text {n : Nat} (h8 : n ≤ 8) (ns : List Nat) : Ev (fun k => spec_l1Split.f k (strOfNums (gtextL n ns)) 58) [strOfNums [48 + (n : Int)], strOfNums (jn (eRows n ns 0 n))] := by
  have hb := gtext_byte h8 ns
  have hT := textOf h8 ns
  obtain ⟨b0', hsz, e1⟩ := gtext_head h8 ns
  have b0 : bt (strOfNums (gtextL n ns)) ((0 : Nat) : Int) = 48 + (n : Int) := b0'
  have b1 : bt (strOfNums (gtextL n ns)) ((1 : Nat) : Int) = 58 := by rw [sn_bt _ hb]; simp [gtextL]
  have e0 : (strOfNums (gtextL n ns)).extract 0 1 = strOfNums [48 + (n : Int)] := by rw [sn_extract]; simp [gtextL]
  have hl := hT.len
  unfold spec_l1Split.f
  have h := split_no (strOfNums (gtextL n ns)) (by omega) 58 [strOfNums [48 + (n : Int)]] 2 (by simp) (jn (eRows n ns 0 n)).length 2 (by omega) (Nat.le_refl _) (fun j h1 h2 => by
    rw [sn_bt _ hb]
    have e : (gtextL n ns).getD j 0 = (jn (eRows n ns 0 n)).getD (j - 2) 0 := by
      obtain ⟨q, rfl⟩ : ∃ q, j = q + 2 := ⟨j - 2, by omega⟩
      rfl
    have hj : j - 2 < (jn (eRows n ns 0 n)).length := by omega
    rw [e, List.getD_eq_getElem?_getD, List.getElem?_eq_getElem hj]
    have := hT.byte _ (List.getElem_mem hj)
    simp only [Option.getD_some]
    omega)
  rw [e1] at h
  refine Ev.step (fun k => ?_) (Ev.step (f := fun k => spec_l1Split.l0 k (strOfNums (gtextL n ns)) 58 [strOfNums [48 + (n : Int)]] ((2 : Nat) : Int) ((2 : Nat) : Int)) (g := fun k => spec_l1Split.l0 k (strOfNums (gtextL n ns)) 58 [] 0 1) (fun k => ?_) h)
  · rw [spec_l1Split.l0, if_pos (by omega), if_pos (by omega), if_neg (by
      have : bt (strOfNums (gtextL n ns)) 0 = 48 + (n : Int) := b0
      rw [this]; omega), show wrap64 (0 + 1) = (1 : Int) by unfold wrap64; omega]
  · have : bt (strOfNums (gtextL n ns)) 1 = 58 := b1
    rw [spec_l1Split.l0, if_pos (by omega), if_pos (by omega), if_pos this, if_pos (by omega), if_pos (by omega), if_pos (by omega), if_pos (by simp)]
    rw [show (strOfNums (gtextL n ns)).extract (0 : Int).toNat (1 : Int).toNat = strOfNums [48 + (n : Int)] from e0, show wrap64 (1 + 1) = (2 : Int) by unfold wrap64; omega]
    rfl
def Fits (s : ByteArray) (x : Int × List Int × Bool) : Prop := x = (0, [], false) ∨ ∃ n ns, IsGT s n ns ∧ x = ((n : Int), ints ns, true)
theorem sg_end (s : ByteArray) {n : Nat} {ns : List Nat} (h : Sets n ns) : ∃ x, Ev (fun k => spec_ParseGraph.j2 k s n (ints ns)) x ∧ Fits s x ∧ (Gr n ns → s = strOfNums (gtextL n ns) → x = ((n : Int), ints ns, true)) := by
  have hl : (ints ns).length ≤ BM := by rw [ints_length, h.len]; have := h.n8; simp only [BM]; omega
  obtain ⟨b, hb, hbb⟩ := (deGood_f (n : Int) (ints ns) hl).ev
  cases b with
  | false =>
    refine ⟨(0, [], false), Ev.step (f := fun k => (spec_deGood.f k (n : Int) (ints ns)).bind fun t424 => (if t424 = true then ((spec_deText.f k (n : Int) (ints ns)).bind fun t425 => (if t425.toList = s.toList then (some ((n : Int), ints ns, true)) else (some (0, ([] : List Int), false)))) else (some (0, ([] : List Int), false)))) (fun k => by rw [spec_ParseGraph.j2]) (Ev.bind hb (by simpa using Ev.now _)), .inl rfl, fun hG _ => ?_⟩
    have := hbb.2 ⟨n, ns, rfl, rfl, hG⟩
    cases this
  | true =>
    obtain ⟨m, ms, e1, e2, hG⟩ := hbb.1 rfl
    obtain rfl : n = m := by omega
    obtain rfl := ints_inj e2
    have run : Ev (fun k => spec_ParseGraph.j2 k s n (ints ns)) (if strOfNums (gtextL n ns) = s then ((n : Int), ints ns, true) else (0, [], false)) := by
      refine Ev.step (f := fun k => (spec_deGood.f k (n : Int) (ints ns)).bind fun t424 => (if t424 = true then ((spec_deText.f k (n : Int) (ints ns)).bind fun t425 => (if t425.toList = s.toList then (some ((n : Int), ints ns, true)) else (some (0, ([] : List Int), false)))) else (some (0, ([] : List Int), false)))) (fun k => by rw [spec_ParseGraph.j2]) (Ev.bind hb ?_)
      simp only [if_true]
      refine Ev.bind (deText_f h) ?_
      simp only [ba_toList]
      by_cases c : strOfNums (gtextL n ns) = s
      · simp only [if_pos c]; exact Ev.now _
      · simp only [if_neg c]; exact Ev.now _
    refine ⟨_, run, ?_, fun _ e => by rw [if_pos e.symm]⟩
    by_cases c : strOfNums (gtextL n ns) = s
    · rw [if_pos c]; exact .inr ⟨n, ns, ⟨c.symm, hG⟩, rfl⟩
    · rw [if_neg c]; exact .inl rfl
theorem sg_any (s : ByteArray) {n : Nat} (W : List ByteArray) (hW : W.length ≤ 1000000000) : ∀ d i ns, i + d = W.length → Sets n ns → ∃ x, Ev (fun k => spec_ParseGraph.l0 k s (n : Int) W (W.length : Int) (i : Int) n (ints ns)) x ∧ Fits s x := by
  intro d
  induction d with
  | zero =>
    intro i ns hi hS
    obtain rfl : i = W.length := by omega
    obtain ⟨x, h1, h2, _⟩ := sg_end s hS
    exact ⟨x, Ev.step (fun k => by rw [spec_ParseGraph.l0, if_neg (by omega)]) h1, h2⟩
  | succ d ih =>
    intro i ns hi hS
    have h8 := hS.n8
    have h1 := hS.n1
    obtain ⟨w, hw⟩ : ∃ w, w = W.getD i ByteArray.empty := ⟨_, rfl⟩
    have g0 : (i : Int) < (W.length : Int) := by omega
    have g1 : (0 : Int) ≤ (i : Int) := by omega
    have g2 : i < 9223372036854775807 := by omega
    by_cases c1 : (w.size : Int) = 2
    · obtain ⟨p, hp⟩ := read_f (w.extract 0 1)
      obtain ⟨q, hq⟩ := read_f (w.extract 1 w.size)
      have hs1 : (1 : Int) ≤ (w.size : Int) := by omega
      have en : wrap64 ((n : Int) - 1) = (n : Int) - 1 := by unfold wrap64; omega
      have key : ∃ x, Ev (fun k => (if decide ((0 : Int) ≤ p ∧ p ≤ (n : Int) - 1) = true then (if decide ((0 : Int) ≤ q ∧ q ≤ (n : Int) - 1) = true then ((spec_deJoin.f (ints ns) p q).bind fun t423 => (spec_ParseGraph.l0 k s (n : Int) W (W.length : Int) ((i + 1 : Nat) : Int) n t423)) else (some (0, ([] : List Int), false))) else (some (0, ([] : List Int), false)))) x ∧ Fits s x := by
        by_cases c2 : (0 : Int) ≤ p ∧ p ≤ (n : Int) - 1
        · simp only [show decide ((0 : Int) ≤ p ∧ p ≤ (n : Int) - 1) = true by simpa using c2, if_true]
          by_cases c3 : (0 : Int) ≤ q ∧ q ≤ (n : Int) - 1
          · simp only [show decide ((0 : Int) ≤ q ∧ q ≤ (n : Int) - 1) = true by simpa using c3, if_true]
            obtain ⟨a, ha⟩ : ∃ a : Nat, p = (a : Int) := ⟨p.toNat, by omega⟩
            obtain ⟨b, hb⟩ : ∃ b : Nat, q = (b : Int) := ⟨q.toNat, by omega⟩
            subst ha hb
            have ha' : a < n := by omega
            have hb' : b < n := by omega
            obtain ⟨x, k1, k2⟩ := ih (i + 1) (orN ns a b) (by omega) (orN_char hS a b ha' hb').1
            refine ⟨x, ?_, k2⟩
            simp only [deJoin_f hS a b ha' hb', Option.bind_some]
            exact k1
          · simp only [show decide ((0 : Int) ≤ q ∧ q ≤ (n : Int) - 1) = false by simpa using c3, Bool.false_eq_true, if_false]
            exact ⟨_, Ev.now _, .inl rfl⟩
        · simp only [show decide ((0 : Int) ≤ p ∧ p ≤ (n : Int) - 1) = false by simpa using c2, Bool.false_eq_true, if_false]
          exact ⟨_, Ev.now _, .inl rfl⟩
      obtain ⟨x, k1, k2⟩ := key
      refine ⟨x, Ev.step (f := fun k => (spec_l1Read.f k (w.extract 0 1)).bind fun t419 => ((spec_l1Read.f k (w.extract 1 w.size)).bind fun t420 => (if decide ((0 : Int) ≤ t419 ∧ t419 ≤ (n : Int) - 1) = true then (if decide ((0 : Int) ≤ t420 ∧ t420 ≤ (n : Int) - 1) = true then ((spec_deJoin.f (ints ns) t419 t420).bind fun t423 => (spec_ParseGraph.l0 k s (n : Int) W (W.length : Int) ((i + 1 : Nat) : Int) n t423)) else (some (0, ([] : List Int), false))) else (some (0, ([] : List Int), false))))) (fun k => ?_) (Ev.bind hp (Ev.bind hq k1)), k2⟩
      rw [spec_ParseGraph.l0, if_pos g0, if_pos g1, if_pos g0, rdOfS, ← hw, if_pos c1, if_pos (by decide), if_pos hs1, en]
      simp only [l1In_b, Option.bind_some, wrap_nat i g2]
    · refine ⟨(0, [], false), Ev.step (fun k => ?_) (Ev.now _), .inl rfl⟩
      rw [spec_ParseGraph.l0, if_pos g0, if_pos g1, if_pos g0, rdOfS, ← hw, if_neg c1]
theorem sg_row {n : Nat} {ns : List Nat} (hG : Gr n ns) (s : ByteArray) (W : List ByteArray) (hW : W.length ≤ 1000) (i : Nat) (r : Int × List Int × Bool) (T : List (List Int)) (hr : ∀ (done : List ByteArray) ms, done ++ T.map strOfNums = W → PartG n ns i n ms → Ev (fun k => spec_ParseGraph.l0 k s (n : Int) W (W.length : Int) (done.length : Int) n (ints ms)) r) :
    ∀ d j (done : List ByteArray) ms, i < j → j + d = n → done ++ (eRow ns i j d ++ T).map strOfNums = W → PartG n ns i j ms → Ev (fun k => spec_ParseGraph.l0 k s (n : Int) W (W.length : Int) (done.length : Int) n (ints ms)) r := by
  have h8 := hG.1.1.n8
  intro d
  induction d with
  | zero =>
    intro j done ms hij hj hd hp
    obtain rfl : j = n := by omega
    exact hr done ms (by simpa [eRow] using hd) hp
  | succ d ih =>
    intro j done ms hij hj hd hp
    rw [eRow] at hd
    cases hnb : nb ns i j with
    | false =>
      rw [hnb, if_neg (by decide)] at hd
      exact ih (j + 1) done ms (by omega) (by omega) hd (part_skip hG hp hij (by omega) hnb)
    | true =>
      rw [hnb, if_pos rfl] at hd
      have g4 : i < n := by omega
      have g5 : j < n := by omega
      obtain ⟨b1, b2⟩ := orN_char hp.1 i j g4 g5
      have hs := ih (j + 1) (done ++ [strOfNums (et i j)]) (orN ms i j) (by omega) (by omega) (by rw [← hd]; simp) (part_take hG hp hij g5 hnb b1 b2)
      have hdl : ((done ++ [strOfNums (et i j)]).length : Int) = ((done.length + 1 : Nat) : Int) := by simp
      rw [hdl] at hs
      have hlen : done.length < W.length := by rw [← hd]; simp
      have hw : rdOf ByteArray.empty W (done.length : Int) = strOfNums (et i j) := by
        rw [rdOfS, ← hd]
        simp [List.getD_eq_getElem?_getD]
      have g0 : (done.length : Int) < (W.length : Int) := by omega
      have g1 : (0 : Int) ≤ (done.length : Int) := by omega
      have g2 : decide ((0 : Int) ≤ (j : Int) ∧ (j : Int) ≤ (n : Int) - 1) = true := by simp; omega
      have g3 : decide ((0 : Int) ≤ (i : Int) ∧ (i : Int) ≤ (n : Int) - 1) = true := by simp; omega
      have g6 : done.length < 9223372036854775807 := by omega
      have g7 : i ≤ 9 := by omega
      have g8 : j ≤ 9 := by omega
      have en : wrap64 ((n : Int) - 1) = (n : Int) - 1 := by unfold wrap64; omega
      have hz : ((strOfNums (et i j)).size : Int) = 2 := by rw [sn_size]; rfl
      have hz1 : (1 : Int) ≤ ((strOfNums (et i j)).size : Int) := by rw [hz]; decide
      have x0 : (strOfNums (et i j)).extract 0 1 = strOfNums [48 + (i : Int)] := by rw [sn_extract]; rfl
      have x1 : (strOfNums (et i j)).extract 1 (strOfNums (et i j)).size = strOfNums [48 + (j : Int)] := by rw [sn_extract, sn_size]; rfl
      refine Ev.step (f := fun k => (spec_l1Read.f k (strOfNums [48 + (i : Int)])).bind fun t419 => ((spec_l1Read.f k (strOfNums [48 + (j : Int)])).bind fun t420 => (if decide ((0 : Int) ≤ t419 ∧ t419 ≤ (n : Int) - 1) = true then (if decide ((0 : Int) ≤ t420 ∧ t420 ≤ (n : Int) - 1) = true then ((spec_deJoin.f (ints ms) t419 t420).bind fun t423 => (spec_ParseGraph.l0 k s (n : Int) W (W.length : Int) ((done.length + 1 : Nat) : Int) n t423)) else (some (0, ([] : List Int), false))) else (some (0, ([] : List Int), false))))) (fun k => ?_) (Ev.bind (read_dig i g7) (Ev.bind (read_dig j g8) ?_))
      · rw [spec_ParseGraph.l0, if_pos g0, if_pos g1, if_pos g0, hw, if_pos hz, if_pos (by decide), if_pos hz1, en, x0, x1]
        simp only [l1In_b, Option.bind_some, wrap_nat done.length g6]
      · simp only [g2, g3, if_true, deJoin_f hp.1 i j g4 g5, Option.bind_some]
        exact hs
theorem sg_rows {n : Nat} {ns : List Nat} (hG : Gr n ns) (s : ByteArray) (he : s = strOfNums (gtextL n ns)) (W : List ByteArray) (hW : W.length ≤ 1000) : ∀ d i (done : List ByteArray) ms, i + d = n → done ++ (eRows n ns i d).map strOfNums = W → PartG n ns i (i + 1) ms →
    Ev (fun k => spec_ParseGraph.l0 k s (n : Int) W (W.length : Int) (done.length : Int) n (ints ms)) ((n : Int), ints ns, true) := by
  intro d
  induction d with
  | zero =>
    intro i done ms hi hd hp
    obtain rfl : i = n := by omega
    obtain rfl := part_endG hG hp
    have : done = W := by simpa [eRows] using hd
    subst this
    obtain ⟨x, h1, _, h3⟩ := sg_end s hG.1.1
    rw [h3 hG he] at h1
    exact Ev.step (fun k => by rw [spec_ParseGraph.l0, if_neg (by omega)]) h1
  | succ d ih =>
    intro i done ms hi hd hp
    rw [eRows] at hd
    exact sg_row hG s W hW i _ (eRows n ns (i + 1) d) (fun done' ms' hd' hp' => ih (i + 1) done' ms' (by omega) hd' (part_rowG hp')) (n - (i + 1)) (i + 1) done ms (by omega) (by omega) hd hp
theorem empty_graph {n : Nat} {ns : List Nat} (hG : Gr n ns) (c : eRows n ns 0 n = []) : ns = List.replicate n 0 := by
  have hp : ∀ d i (ms : List Nat), i + d = n → eRows n ns i d = [] → PartG n ns i (i + 1) ms → ∃ j, PartG n ns n j ms := by
    intro d
    induction d with
    | zero => intro i ms hi _ hp; obtain rfl : i = n := by omega
              exact ⟨_, hp⟩
    | succ d ih =>
      intro i ms hi he hp
      rw [eRows, List.append_eq_nil_iff] at he
      have hrow : ∀ d j, i < j → j + d = n → eRow ns i j d = [] → PartG n ns i j ms → PartG n ns i n ms := by
        intro d
        induction d with
        | zero => intro j _ hj _ hp; obtain rfl : j = n := by omega
                  exact hp
        | succ d ih =>
          intro j hij hj he hp
          rw [eRow] at he
          cases hnb : nb ns i j with
          | true => rw [hnb, if_pos rfl] at he; cases he
          | false => rw [hnb, if_neg (by decide)] at he; exact ih (j + 1) (by omega) (by omega) he (part_skip hG hp hij (by omega) hnb)
      exact ih (i + 1) ms (by omega) he.2 (part_rowG (hrow _ _ (by omega) (by omega) he.1 hp))
  obtain ⟨j, hj⟩ := hp n 0 (List.replicate n 0) (by omega) c (part_startG ns hG.1.1.n1 hG.1.1.n8)
  exact (part_endG hG hj).symm
theorem e0_rep (n : Nat) : ints (List.replicate n 0) = List.replicate n 0 := by simp [ints]
theorem sets_rep {n : Nat} (h1 : 1 ≤ n) (h8 : n ≤ 8) : Sets n (List.replicate n 0) := ⟨h1, h8, by simp, fun x hx => by rw [(List.mem_replicate.1 hx).2]; exact Nat.two_pow_pos n⟩
theorem sparse_yes {n : Nat} {ns : List Nat} (hG : Gr n ns) : Ev (fun k => spec_ParseGraph.f k (strOfNums (gtextL n ns))) ((n : Int), ints ns, true) := by
  have h8 := hG.1.1.n8
  have h1 := hG.1.1.n1
  have hT := textOf h8 ns
  have hl := hT.len
  have hel := eRows_len n ns n 0 (by omega)
  have h28 := tri8 h8
  have hsp := gsplit_text h8 ns
  obtain ⟨s, hs⟩ : ∃ s, s = strOfNums (gtextL n ns) := ⟨_, rfl⟩
  rw [← hs] at hsp ⊢
  obtain ⟨P, hP⟩ : ∃ P, P = eRows n ns 0 n := ⟨_, rfl⟩
  rw [← hP] at hsp hl
  have hPel : ∀ x ∈ P, x.length = 2 ∧ ∀ y ∈ x, 48 ≤ y ∧ y ≤ 57 := by rw [hP]; exact hT.el
  have hPb : ∀ y ∈ jn P, y = 44 ∨ (48 ≤ y ∧ y ≤ 57) := by rw [hP]; exact hT.byte
  have hPl : P.length ≤ 28 := by rw [hP]; omega
  -- the second part
  have hmain : Ev (fun k => (if (strOfNums (jn P)).toList = ([] : List UInt8) then (spec_ParseGraph.j2 k s (n : Int) (List.replicate n 0)) else ((spec_l1Split.f k (strOfNums (jn P)) 44).bind fun t415 => (spec_ParseGraph.l0 k s (n : Int) t415 (t415.length : Int) 0 (n : Int) (List.replicate n 0))))) ((n : Int), ints ns, true) := by
    by_cases c : P = []
    · have c2 : (strOfNums (jn P)).toList = ([] : List UInt8) := by rw [sn_nil, c]; rfl
      simp only [if_pos c2]
      obtain ⟨x, k1, _, k3⟩ := sg_end s hG.1.1
      rw [k3 hG hs] at k1
      have e := empty_graph hG (by rw [← hP]; exact c)
      rw [e, e0_rep] at k1 ⊢
      exact k1
    · have c2 : ¬ (strOfNums (jn P)).toList = ([] : List UInt8) := by rw [sn_nil, jn_nil P (fun x hx => (hPel x hx).1)]; exact c
      simp only [if_neg c2]
      have hspl : Ev (fun k => spec_l1Split.f k (strOfNums (jn P)) 44) (P.map strOfNums) := by
        unfold spec_l1Split.f
        cases P with
        | nil => exact absurd rfl c
        | cons x r =>
          have := lsplit_jn (jn (x :: r)) (fun y hy => by have := hPb y hy; omega) (by omega) r x 0 [] hPel (by omega) (by rfl) (by simp at hPl ⊢; omega)
          exact this
      refine Ev.bind hspl ?_
      have := sg_rows hG s hs (P.map strOfNums) (by simp; omega) n 0 [] (List.replicate n 0) (by omega) (by rw [hP]; rfl) (part_startG ns h1 h8)
      rw [e0_rep] at this
      exact this
  unfold spec_ParseGraph.f
  refine Ev.bind hsp ?_
  have g2 : (0 : Int) < (([strOfNums [48 + (n : Int)], strOfNums (jn P)].length : Nat) : Int) := by simp
  simp only [if_pos g2]
  refine Ev.bind (a := (n : Int)) (g := fun k => spec_l1Read.f k (rdOf ByteArray.empty [strOfNums [48 + (n : Int)], strOfNums (jn P)] 0)) (read_dig n (by omega)) ?_
  have d1 : decide ((1 : Int) ≤ (n : Int) ∧ (n : Int) ≤ 8) = true := by simp; omega
  refine Ev.step (f := fun k => (if (strOfNums (jn P)).toList = ([] : List UInt8) then (spec_ParseGraph.j2 k s (n : Int) (List.replicate n 0)) else ((spec_l1Split.f k (strOfNums (jn P)) 44).bind fun t415 => (spec_ParseGraph.l0 k s (n : Int) t415 (t415.length : Int) 0 (n : Int) (List.replicate n 0))))) (fun k => ?_) hmain
  rw [if_pos (by rfl), l1In_b, Option.bind_some, d1]
  rw [spec_ParseGraph.j0, if_neg (by decide), if_pos (by omega), Int.toNat_natCast, if_pos (by omega), Option.bind_some, if_pos (by simp)]
  rfl
theorem ext_size (s : ByteArray) (a b : Nat) : (s.extract a b).size ≤ s.size := by rw [ByteArray.size_extract]; omega
theorem lsplit_l0 (s : ByteArray) (hs : s.size ≤ 1048576) (c : Int) : ∀ d i from_ (parts : List ByteArray), i + d = s.size → from_ ≤ i → parts.length ≤ i → (∀ p ∈ parts, p.size ≤ s.size) → ∃ r, 1 ≤ r.length ∧ r.length ≤ s.size + 1 ∧ (∀ p ∈ r, p.size ≤ s.size) ∧ Ev (fun k => spec_l1Split.l0 k s c parts (from_ : Int) (i : Int)) r := by
  intro d
  induction d with
  | zero =>
    intro i from_ parts hi hf hp hq
    refine ⟨parts ++ [s.extract from_ s.size], by simp, by simp; omega, fun p hp => ?_, Ev.step (fun k => ?_) (Ev.now _)⟩
    · rcases List.mem_append.1 hp with hp | hp
      · exact hq p hp
      · rw [List.mem_singleton.1 hp]; exact ext_size _ _ _
    · rw [spec_l1Split.l0, if_neg (by omega), if_pos (by omega), if_pos (by omega), if_pos (by omega)]
      rfl
  | succ d ih =>
    intro i from_ parts hi hf hp hq
    by_cases h : bt s (i : Int) = c
    · obtain ⟨r, h1, h2, h3, h4⟩ := ih (i + 1) (i + 1) (parts ++ [s.extract from_ i]) (by omega) (by omega) (by simp; omega) (fun p hp => by
        rcases List.mem_append.1 hp with hp | hp
        · exact hq p hp
        · rw [List.mem_singleton.1 hp]; exact ext_size _ _ _)
      refine ⟨r, h1, h2, h3, Ev.step (fun k => ?_) h4⟩
      rw [spec_l1Split.l0, if_pos (by omega), if_pos (by omega), if_pos h, if_pos (by omega), if_pos (by omega), if_pos (by omega), if_pos (by omega), wrap_nat i (by omega)]
      rfl
    · obtain ⟨r, h1, h2, h3, h4⟩ := ih (i + 1) from_ parts (by omega) (by omega) (by omega) hq
      refine ⟨r, h1, h2, h3, Ev.step (fun k => ?_) h4⟩
      rw [spec_l1Split.l0, if_pos (by omega), if_pos (by omega), if_neg h, wrap_nat i (by omega)]
theorem lsplit_any (s : ByteArray) (hs : s.size ≤ 1048576) (c : Int) : ∃ r, 1 ≤ r.length ∧ r.length ≤ s.size + 1 ∧ (∀ p ∈ r, p.size ≤ s.size) ∧ Ev (fun k => spec_l1Split.f k s c) r := by
  unfold spec_l1Split.f
  exact lsplit_l0 s hs c s.size 0 0 [] (by omega) (Nat.le_refl _) (by simp) (by simp)
theorem sparse_any (s : ByteArray) (hs : s.size ≤ 1048576) : ∃ x, Ev (fun k => spec_ParseGraph.f k s) x ∧ Fits s x := by
  obtain ⟨parts, hp1, _, hpsz, hparts⟩ := lsplit_any s hs 58
  obtain ⟨v, hv⟩ := read_f (rdOf ByteArray.empty parts 0)
  have hfail : Ev (fun k => spec_ParseGraph.j0 k s parts v true) (0, [], false) := Ev.step (fun k => by rw [spec_ParseGraph.j0, if_pos rfl]) (Ev.now _)
  have h0 : (0 : Int) < (parts.length : Int) := by omega
  have hmain : ∃ x, Ev (fun k => (if (parts.length : Int) = 2 then (spec_ParseGraph.j0 k s parts v (!decide ((1 : Int) ≤ v ∧ v ≤ 8))) else (spec_ParseGraph.j0 k s parts v true))) x ∧ Fits s x := by
    by_cases c1 : (parts.length : Int) = 2
    · simp only [if_pos c1]
      by_cases c2 : (1 : Int) ≤ v ∧ v ≤ 8
      · simp only [show decide ((1 : Int) ≤ v ∧ v ≤ 8) = true by simpa using c2, Bool.not_true]
        obtain ⟨m, rfl⟩ : ∃ m : Nat, v = (m : Int) := ⟨v.toNat, by omega⟩
        have hS := sets_rep (n := m) (by omega) (by omega)
        obtain ⟨p, hp⟩ : ∃ p, p = rdOf ByteArray.empty parts 1 := ⟨_, rfl⟩
        have key : ∃ x, Ev (fun k => (if p.toList = ([] : List UInt8) then (spec_ParseGraph.j2 k s (m : Int) (List.replicate m 0)) else ((spec_l1Split.f k p 44).bind fun t415 => (spec_ParseGraph.l0 k s (m : Int) t415 (t415.length : Int) 0 (m : Int) (List.replicate m 0))))) x ∧ Fits s x := by
          by_cases c3 : p.toList = ([] : List UInt8)
          · simp only [if_pos c3]
            obtain ⟨x, k1, k2, _⟩ := sg_end s hS
            rw [e0_rep] at k1
            exact ⟨x, k1, k2⟩
          · simp only [if_neg c3]
            have hpz : p.size ≤ 1048576 := by
              have hm : p ∈ parts := by
                rw [hp]
                unfold rdOf
                rw [List.getD_eq_getElem?_getD, List.getElem?_eq_getElem (show (1 : Int).toNat < parts.length by show 1 < parts.length; omega)]
                exact List.getElem_mem _
              exact Nat.le_trans (hpsz p hm) hs
            obtain ⟨W, _, w2, _, w4⟩ := lsplit_any p hpz 44
            obtain ⟨x, k1, k2⟩ := sg_any s W (by omega) W.length 0 (List.replicate m 0) (by omega) hS
            refine ⟨x, Ev.bind w4 ?_, k2⟩
            rw [e0_rep] at k1
            exact k1
        obtain ⟨x, k1, k2⟩ := key
        refine ⟨x, Ev.step (fun k => ?_) k1, k2⟩
        rw [spec_ParseGraph.j0, if_neg (by decide), if_pos (by omega), Int.toNat_natCast, if_pos (by omega), Option.bind_some, if_pos (by omega), ← hp]
      · simp only [show decide ((1 : Int) ≤ v ∧ v ≤ 8) = false by simpa using c2, Bool.not_false]
        exact ⟨_, hfail, .inl rfl⟩
    · simp only [if_neg c1]
      exact ⟨_, hfail, .inl rfl⟩
  obtain ⟨x, k1, k2⟩ := hmain
  refine ⟨x, ?_, k2⟩
  unfold spec_ParseGraph.f
  refine Ev.bind hparts ?_
  simp only [if_pos h0]
  refine Ev.bind hv ?_
  simp only [l1In_b, Option.bind_some]
  exact k1
theorem gparse_both (s : ByteArray) (hs : s.size ≤ 1048576) : ∃ r : Int × List Int × Bool, Ev (fun k => spec_ParseGraph.f k s) r ∧ Ev (fun k => impl_ParseGraph.f k s) r ∧ r.2.1.length ≤ 8 := by
  by_cases c : ∃ n ns, IsGT s n ns
  · obtain ⟨n, ns, rfl, hG⟩ := c
    exact ⟨_, sparse_yes hG, iparse_yes hG, by show (ints ns).length ≤ 8; rw [ints_length, hG.1.1.len]; exact hG.1.1.n8⟩
  · obtain ⟨x, h1, h2⟩ := sparse_any s hs
    obtain ⟨y, g1, g2⟩ := iparse_any s
    rcases h2 with rfl | ⟨n, ns, h, _⟩
    · rcases g2 with rfl | ⟨n, ns, g, _⟩
      · exact ⟨_, h1, g1, by simp⟩
      · exact absurd ⟨n, ns, g⟩ c
    · exact absurd ⟨n, ns, h⟩ c
end Go.Proofs.YtmmfpppnnfnlbaaDoor.K
namespace Go.Proofs.YtmmfpppnnfnlbaaDoor.Pure
open Go.RowKit Go.Proofs.YtmmfpppnnfnlbaaDoorW.PrintWords Go.Proofs.YtmmfpppnnfnlbaaDoor.P Go.Proofs.YtmmfpppnnfnlbaaDoor.K
theorem FnExactParseGraph : ∀ (a : ByteArray), a.size ≤ 140737488351232 → ∃ k, laws_FnExactParseGraph.f k a = some true := by
  intro a _
  refine Ev.rounds (g := fun k => laws_FnExactParseGraph.f k a) ?_
  unfold laws_FnExactParseGraph.f
  refine Ev.ite (fun _ => Ev.now _) (fun h => ?_)
  obtain ⟨⟨n, m, ok⟩, hs, hi, hm⟩ := gparse_both a (by omega)
  have hm : m.length ≤ 8 := hm
  have hm' : m.length ≤ BM := by simp only [BM]; omega
  have n2 : ¬ (1 + (m.length : Int) < 0) := by omega
  have b2 : (1 : Int) + m.length ≤ 4611686018427387904 := by omega
  refine Ev.bind hs (Ev.bind hi ?_)
  repeat' first
    | exact Ev.now true
    | refine Ev.bind hi ?_
    | refine Ev.bind (eqGraph_same _ _ hm') ?_
    | refine Ev.bind (markGraph_f _ m 1 hm' (by omega) b2) ?_
    | refine Ev.bind (heldGraph_f _ 1 m.length hm' (by omega) b2) ?_
    | simp only [if_true, bne_self_eq_false, Bool.false_eq_true, if_false, if_neg n2]
    | refine Ev.step (fun k => by first | rw [laws_FnExactParseGraph.j0] | rw [laws_FnExactParseGraph.j1]) ?_
end Go.Proofs.YtmmfpppnnfnlbaaDoor.Pure
namespace Go.Proofs.YtmmfpppnnfnlbaaDoor.fnExactParseGraph
open Go.ChangeShapes Go.WideShapes Go.ChangeAt Go.RowKit
open Go.ChangeMaps (open_string shut_string)
theorem own : ownKnob Tryd.prog.godebug = none := by kernel_rfl
theorem laidOut : laidOutB Tryd.prog = true := by kernel_rfl
theorem gTab : Tryd.prog.globalNamed "math/bits.deBruijn64tab" = some 1 := by kernel_rfl
theorem gTabType : (Tryd.prog.globals[1]?).map (·.type) = some 103 := by kernel_rfl
theorem cellsT : Tryd.prog.cellsOf 103 = 64 := by kernel_rfl
theorem cellsE : Tryd.prog.cellsOf 5 = 1 := by kernel_rfl
theorem bits {W : World} (h : laidMetH Tryd.prog Rows.fnExactParseGraphRow.laid W) : TabAt 1 Lib.deBruijn64tab W := by
  have h2 : laidMet Tryd.prog [("math/bits.deBruijn32tab", Rows.laid_math_bits_deBruijn32tab), ("math/bits.deBruijn64tab", Rows.laid_math_bits_deBruijn64tab), ("internal/strconv.uint64pow10", Rows.laid_internal_strconv_uint64pow10), ("unicode/utf8.acceptRanges", Rows.laid_unicode_utf8_acceptRanges), ("unicode/utf8.first", Rows.laid_unicode_utf8_first)] W := h
  have h3 : laidMet Tryd.prog (("math/bits.deBruijn64tab", Lib.tabData .u8 K.zs64) :: [("internal/strconv.uint64pow10", Rows.laid_internal_strconv_uint64pow10), ("unicode/utf8.acceptRanges", Rows.laid_unicode_utf8_acceptRanges), ("unicode/utf8.first", Rows.laid_unicode_utf8_first)]) W := h2.tail
  have h4 := Lib.tabIs_of_head gTab gTabType Tryd.underlying103 Tryd.underlying5 cellsE cellsT h3
  intro j hj
  have h5 := h4.cell gTab j hj
  rw [h5, K.zs64_at j hj]
theorem gTabP : Tryd.prog.globalNamed "internal/strconv.uint64pow10" = some 3 := by kernel_rfl
theorem gTabTypeP : (Tryd.prog.globals[3]?).map (·.type) = some 112 := by kernel_rfl
theorem cellsTP : Tryd.prog.cellsOf 112 = 20 := by kernel_rfl
theorem cellsEP : Tryd.prog.cellsOf 94 = 1 := by kernel_rfl
theorem table {W : World} (h : laidMetH Tryd.prog Rows.fnExactParseGraphRow.laid W) (hs : W.ShapedOpen Tryd.prog) : K.TabOK W := by
  have h2 : laidMet Tryd.prog [("math/bits.deBruijn32tab", Rows.laid_math_bits_deBruijn32tab), ("math/bits.deBruijn64tab", Rows.laid_math_bits_deBruijn64tab), ("internal/strconv.uint64pow10", Rows.laid_internal_strconv_uint64pow10), ("unicode/utf8.acceptRanges", Rows.laid_unicode_utf8_acceptRanges), ("unicode/utf8.first", Rows.laid_unicode_utf8_first)] W := h
  have e3 : Rows.laid_internal_strconv_uint64pow10 = (Lib.tabData .u64 Lib.pow10Tab : DataW Unit) := by kernel_rfl
  have h3 : laidMet Tryd.prog (("internal/strconv.uint64pow10", Lib.tabData .u64 Lib.pow10Tab) :: [("unicode/utf8.acceptRanges", Rows.laid_unicode_utf8_acceptRanges), ("unicode/utf8.first", Rows.laid_unicode_utf8_first)]) W := by rw [← e3]; exact h2.tail.tail
  exact ⟨bits h, Lib.tabIs_of_head gTabP gTabTypeP Tryd.underlying112 Tryd.underlying94 cellsEP cellsTP h3, Tryd.splitLay.s1_3 W hs⟩
set_option maxRecDepth 100000 in
theorem contract (H : Type) (enc : TypeId × Value → H) (W : World) (base : Nat) (args : Array Value) (ds gs : List (DataW H)) (before : List MemPlace)
    (hval0 : ∀ (j : Nat) t v, Tryd.f5.params[j]? = some t → args[j]? = some v → Value.okWide Tryd.prog W .any base t v)
    (hW : DataW.Whole enc Tryd.prog Tryd.f5.params.toList Rows.fnExactParseGraphSpec.vars false W args.toList ds gs before) (hsz0 : (DataW.weightsEach Tryd.prog (Tryd.f5.params.toList ++ Rows.fnExactParseGraphSpec.plain.varTypes Tryd.prog) (ds ++ gs)).all (· ≤ reachBytes) = true) (hL : laidMetH Tryd.prog Rows.fnExactParseGraphRow.laid W) (hS : W.ShapedOpen Tryd.prog) :
    Calls Tryd.prog 5 args W fun e W' => ∃ v, e = .returned v ∧ Rows.fnExactParseGraphSpec.post enc Tryd.prog Tryd.f5 false true false false W args v W' := by
  have hsz : (DataW.weightsEach Tryd.prog (Tryd.f5.params.toList ++ Rows.fnExactParseGraphSpec.plain.varTypes Tryd.prog) (ds ++ gs)).all (· ≤ reachBytes) = true := hsz0
  have hval : ∀ (j : Nat) t v, Tryd.f5.params[j]? = some t → args[j]? = some v → Value.okWide Tryd.prog W .any base t v := hval0
  have hW' := hW
  obtain ⟨p, q, hA0, hV, rfl, hfz, hnd⟩ := hW
  have hA : DataW.TrodAll enc Tryd.prog W 0 (fun _ => true) true Tryd.f5.params.toList args.toList ds p := hA0
  rw [Tryd.params5] at hA hval hsz
  obtain ⟨v0, vs0, d0, ds0, p0, q0, hargs, rfl, rfl, h0, r0⟩ := trodAll_cons hA
  obtain ⟨rfl, rfl, rfl⟩ := trodAll_nil r0
  obtain rfl : args = #[v0] := by cases args; simp_all
  obtain ⟨rfl, rfl⟩ := trodVars_none hV
  obtain ⟨a0, rfl, rfl, rfl, y0⟩ := open_string Tryd.underlying9 (hval 0 9 v0 rfl rfl) h0
  have w0 : a0.size ≤ 140737488351232 := by
    have z := sized_string hsz (j := 0) (t := 9) rfl rfl
    rw [Array.length_toList] at z
    exact z
  clear hA0 hval0 hsz0 hsz
  obtain ⟨k, hk⟩ := Pure.FnExactParseGraph a0 w0
  refine (P.laws_FnExactParseGraph.calls k a0 true W (table hL hS)  hk).mono fun e W' ⟨he, bel⟩ => ?_
  subst he
  exact ⟨_, rfl, _, _, _, [], _, [], hW', trodAll_mk1 (shut_bool Tryd.underlying4 _), (trodAll_cons_mk (shut_string Tryd.underlying9 y0) trodAll_mk0), rfl, bel.frame _, fun h => by cases h⟩
def litVals : DataW Unit → Array Value
  | .agg l => (l.map fun x => match x with | .lit (.int k n) => Value.int k n | _ => undef).toArray
  | _ => #[]
noncomputable def laidWorld (os : Os) : World :=
  { World.holding Tryd.prog os ⟨#[], #[], []⟩ with heap := ((((((World.holding Tryd.prog os ⟨#[], #[], []⟩).heap.modify 0 fun | .cells _ t frozen => .cells #[.int .u8 0, .int .u8 1, .int .u8 28, .int .u8 2, .int .u8 29, .int .u8 14, .int .u8 24, .int .u8 3, .int .u8 30, .int .u8 22, .int .u8 20, .int .u8 15, .int .u8 25, .int .u8 17, .int .u8 4, .int .u8 8, .int .u8 31, .int .u8 27, .int .u8 13, .int .u8 23, .int .u8 21, .int .u8 19, .int .u8 16, .int .u8 7, .int .u8 26, .int .u8 12, .int .u8 18, .int .u8 6, .int .u8 11, .int .u8 5, .int .u8 10, .int .u8 9] t frozen | o => o).modify 1 fun | .cells _ t frozen => .cells #[.int .u8 0, .int .u8 1, .int .u8 56, .int .u8 2, .int .u8 57, .int .u8 49, .int .u8 28, .int .u8 3, .int .u8 61, .int .u8 58, .int .u8 42, .int .u8 50, .int .u8 38, .int .u8 29, .int .u8 17, .int .u8 4, .int .u8 62, .int .u8 47, .int .u8 59, .int .u8 36, .int .u8 45, .int .u8 43, .int .u8 51, .int .u8 22, .int .u8 53, .int .u8 39, .int .u8 33, .int .u8 30, .int .u8 24, .int .u8 18, .int .u8 12, .int .u8 5, .int .u8 63, .int .u8 55, .int .u8 48, .int .u8 27, .int .u8 60, .int .u8 41, .int .u8 37, .int .u8 16, .int .u8 46, .int .u8 35, .int .u8 44, .int .u8 21, .int .u8 52, .int .u8 32, .int .u8 23, .int .u8 11, .int .u8 54, .int .u8 26, .int .u8 40, .int .u8 15, .int .u8 34, .int .u8 20, .int .u8 31, .int .u8 10, .int .u8 25, .int .u8 14, .int .u8 19, .int .u8 9, .int .u8 13, .int .u8 8, .int .u8 7, .int .u8 6] t frozen | o => o).modify 3 fun | .cells _ t frozen => .cells #[.int .u64 1, .int .u64 10, .int .u64 100, .int .u64 1000, .int .u64 10000, .int .u64 100000, .int .u64 1000000, .int .u64 10000000, .int .u64 100000000, .int .u64 1000000000, .int .u64 10000000000, .int .u64 100000000000, .int .u64 1000000000000, .int .u64 10000000000000, .int .u64 100000000000000, .int .u64 1000000000000000, .int .u64 10000000000000000, .int .u64 100000000000000000, .int .u64 1000000000000000000, .int .u64 10000000000000000000] t frozen | o => o).modify 5 fun | .cells _ t frozen => .cells #[.int .u8 128, .int .u8 191, .int .u8 160, .int .u8 191, .int .u8 128, .int .u8 159, .int .u8 144, .int .u8 191, .int .u8 128, .int .u8 143, .int .u8 0, .int .u8 0, .int .u8 0, .int .u8 0, .int .u8 0, .int .u8 0, .int .u8 0, .int .u8 0, .int .u8 0, .int .u8 0, .int .u8 0, .int .u8 0, .int .u8 0, .int .u8 0, .int .u8 0, .int .u8 0, .int .u8 0, .int .u8 0, .int .u8 0, .int .u8 0, .int .u8 0, .int .u8 0] t frozen | o => o).modify 4 fun | .cells _ t frozen => .cells (litVals Go.Pinned.utf8First) t frozen | o => o) }
theorem laid_met (os : Os) : laidMet Tryd.prog Rows.fnExactParseGraphRow.laid ((laidWorld os).forCall (fun _ _ => 0) ⟨#[], #[.string ByteArray.empty], []⟩).memory :=
  laidMet_of_run' 8 (by kernel_rfl) (by kernel_rfl)
theorem reads (os : Os) {H : Type} (enc : TypeId × Value → H) : ∃ places, DataW.whole enc Tryd.prog ((laidWorld os).forCall (fun _ _ => 0) ⟨#[], #[.string ByteArray.empty], []⟩).memory Tryd.f5.params.toList Rows.fnExactParseGraphSpec.vars false #[.string ByteArray.empty].toList 8 = some ([.lit (.string [])], [], places) :=
  ⟨[], by kernel_rfl⟩
set_option maxRecDepth 100000 in
theorem lifted (os : Os) (started : os.Started) (H : Type) (enc : TypeId × Value → H) (F : Stop.Interp) :
    ReturnsInHanded {} Tryd.checked os 5 .any ((OpenSpec.ofChange Rows.fnExactParseGraphSpec).preRow enc Tryd.prog Tryd.f5 Rows.fnExactParseGraphRow.domain false Rows.fnExactParseGraphRow.laid) (((OpenSpec.ofChange Rows.fnExactParseGraphSpec).at F).post enc Tryd.prog Tryd.f5 false true false false) := by
  obtain ⟨places, hx⟩ := reads os enc
  refine returnsInHanded_of_row (C := Tryd.checked) (s := OpenSpec.ofChange Rows.fnExactParseGraphSpec) own started (by kernel_rfl) Tryd.func5
    (witness_row_at (enc := enc) (C := Tryd.checked) false (laidWorld os) #[.string ByteArray.empty] rfl (by kernel_rfl) (by kernel_rfl) (by kernel_rfl)
      (OpenSpec.preRow_of_cond 8 hx (by kernel_rfl) (fun k hk => by cases hk) (by kernel_rfl) (laid_met os))) ?_
  intro W base args ds gs before hval hW _ _ hsz hL hS _
  exact contract H enc W base args ds gs before hval hW hsz hL hS
set_option maxHeartbeats 4000000 in
theorem said : Rows.FnExactParseGraphSaid :=
  OpenClaim.holds_of_cond 5 Tryd.f5 rfl rfl rfl rfl rfl rfl rfl ⟨rfl, rfl, rfl, rfl, rfl⟩ rfl rfl rfl rfl rfl (by kernel_rfl) Tryd.func5 (by kernel_rfl)
    (of_decide_eq_true (by kernel_rfl)) (by unfold Func.isWrapper; first | (rw [if_pos (by decide +kernel)]; kernel_rfl) | (rw [if_neg (by decide +kernel)]; exact ⟨rfl, rfl⟩))
    (fun os started H enc _ F => by rw [OpenClaim.pre_eq_preRow]; exact lifted os started H enc F)
theorem plain (f : FuncId) (fn : Func) (hf : Tryd.pinned.checked.prog.funcNamed "loop.example/g01113/laws.FnExactParseGraph" = some f) (hfn : Tryd.pinned.checked.prog.funcs[f]? = some fn) :
    false = Tryd.pinned.checked.prog.looks [] ∧ ∀ (j : Nat) t, fn.params[j]? = some t → Tryd.pinned.checked.prog.wantsStandIn t = false := by
  obtain rfl : f = 5 := Option.some.inj ((show Tryd.prog.funcNamed "loop.example/g01113/laws.FnExactParseGraph" = some 5 by kernel_rfl).symm.trans hf) |>.symm
  obtain rfl : fn = Tryd.f5 := (Option.some.inj (Tryd.func5.symm.trans hfn)).symm
  refine ⟨by kernel_rfl, fun j t ht => ?_⟩
  rw [Tryd.params5] at ht
  have hm := Array.mem_of_getElem? ht
  simp only [List.mem_toArray, List.mem_cons, List.not_mem_nil, or_false] at hm
  subst hm
  exact (show Tryd.prog.wantsStandIn 9 = false by kernel_rfl)
theorem card : Rows.FnExactParseGraphCardSaid :=
  Claim7.holds_tied_plain_at .later [] _ _ _ _ said (fun _ h => by cases h) (by kernel_rfl) (fun _ h => by cases h) fnExactParseGraph_row_tie rfl ⟨rfl, rfl⟩ (by kernel_rfl) rfl plain (by kernel_rfl)
#print axioms card
end Go.Proofs.YtmmfpppnnfnlbaaDoor.fnExactParseGraph
namespace Go.Proofs.YtmmfpppnnfnlbaaDoor
theorem fnExactParseGraph_holds : Rows.FnExactParseGraphCardSaid := fnExactParseGraph.card
end Go.Proofs.YtmmfpppnnfnlbaaDoor
