/- The row of the law FnSwitchesKeepSums: contracts and plain lemmas for the law FnSwitchesKeepSums, part 5 of 5 (what the Go functions answer). -/
import Derived.Test.YtojcnapdalpnmaaRows
import Derived.WalkKit
import Derived.ProofKit
import Derived.OpenShut
import Derived.ShutString
import Derived.ChangeOld
import Derived.Below
import Derived.SizedLaws
import Derived.Test.YtojcnapdalpnmaaWSized
import Derived.Test.YtojcnapdalpnmaaCFnSwitchesKeepSumsa
import Derived.Test.YtojcnapdalpnmaaCFnSwitchesKeepSumsb
import Derived.Test.YtojcnapdalpnmaaCFnSwitchesKeepSumsc
import Derived.Test.YtojcnapdalpnmaaCFnSwitchesKeepSumsd
set_option linter.unusedVariables false
set_option linter.unusedSimpArgs false
namespace Go.Proofs.Ytojcnapdalpnmaa.K
open Go.RowKit Go.Proofs.YtojcnapdalpnmaaW.PrintWords Go.Proofs.Ytojcnapdalpnmaa.P
theorem contLoop {σ α : Type} (g : σ → Nat → Nat → Option α) (n : Nat) (f : σ → Nat → σ) (I : σ → Nat → Prop)
  (hs : ∀ s j, j < n → I s j → I (f s j) (j + 1) ∧ ∀ x, Ev (g (f s j) (j + 1)) x → Ev (g s j) x) : ∀ d s j, j + d = n → I s j → I ((List.range' j d).foldl f s) n ∧ ∀ x, Ev (g ((List.range' j d).foldl f s) n) x → Ev (g s j) x := by
 intro d
 induction d with
 | zero =>
  intro s j hj hi
  obtain rfl : j = n := by omega
  exact ⟨hi, fun x h => h⟩
 | succ d ih =>
  intro s j hj hi
  obtain ⟨h1, h2⟩ := hs s j (by omega) hi
  obtain ⟨h3, h4⟩ := ih _ _ (by omega) h1
  rw [List.range'_succ, List.foldl_cons]
  exact ⟨h3, fun x h => h2 x (h4 x h)⟩
def sw3 {S : Type} (p : Nat → Nat → Nat → Nat → Bool) (mk : Nat → Nat → Nat → Nat → S) (n i k c : Nat) (s : List S) : List S := (List.range' (c + 1) (n - (c + 1))).foldl (fun s d => if p i k c d then s ++ [mk i k c d] else s) s
def sw2 {S : Type} (p : Nat → Nat → Nat → Nat → Bool) (mk : Nat → Nat → Nat → Nat → S) (n i k : Nat) (s : List S) : List S := (List.range' 0 n).foldl (fun s c => sw3 p mk n i k c s) s
def sw1 {S : Type} (p : Nat → Nat → Nat → Nat → Bool) (mk : Nat → Nat → Nat → Nat → S) (m n i : Nat) (s : List S) : List S := (List.range' (i + 1) (m - (i + 1))).foldl (fun s k => sw2 p mk n i k s) s
def sw0 {S : Type} (p : Nat → Nat → Nat → Nat → Bool) (mk : Nat → Nat → Nat → Nat → S) (m n : Nat) : List S := (List.range' 0 m).foldl (fun s i => sw1 p mk m n i s) []
def isSw (l : List (List Int)) (i k c d : Nat) : Bool :=
 let g := fun (a b : Nat) => rd (rd_L1 l (a : Int)) (b : Int)
 decide (g i c = g k d) && decide (g i d = g k c) && decide (g i c ≠ g i d)
theorem maIs_f {l : List (List Int)} (hg : gridB l = true) {i k c d : Nat} (h1 : i < k) (h2 : k < l.length) (h3 : c < d) (h4 : d < (rd_L1 l 0).length) : spec_maIs.f l i k c d = some (isSw l i k c d) := by
 unfold spec_maIs.f
 rw [if_pos hg]
 have e : swIn l i k c d = true := by simp only [swIn, decide_eq_true_eq]; omega
 simp only [swB, e, Bool.true_and, swAt, isSw]
theorem isSwitch_f {l : List (List Int)} (hg : gridB l = true) {i k c d : Nat} (h1 : i < k) (h2 : k < l.length) (h3 : c < d) (h4 : d < (rd_L1 l 0).length) : impl_isSwitch.f l i k c d = some (isSw l i k c d) := by
 unfold impl_isSwitch.f
 rw [if_pos hg]
 have e : swIn l i k c d = true := by simp only [swIn, decide_eq_true_eq]; omega
 simp only [swB, e, Bool.true_and, swAt, isSw]
def mkSw (i k c d : Nat) : S41 := ⟨i, k, c, d⟩
def sws (l : List (List Int)) : List S41 := sw0 (isSw l) mkSw l.length (rd_L1 l 0).length
theorem maSwitches_f {l : List (List Int)} (hg : gridB l = true) : Ev (fun k => spec_maSwitches.f k l) (sws l) := by
 obtain ⟨g1, g2, g3, g4, -⟩ := grid_get hg
 have p0 : 0 < (l.length : Int) := by omega
 unfold spec_maSwitches.f
 have L3 : ∀ (i k c : Nat) (B : Nat) (x25 : Int), i < k → k < l.length → c < (rd_L1 l 0).length → B ≤ 4096 → ∀ s : List S41, s.length ≤ B → (sw3 (isSw l) mkSw (rd_L1 l 0).length i k c s).length ≤ B + 6 ∧ ∀ x, Ev (fun n => spec_maSwitches.l2 n l (sw3 (isSw l) mkSw (rd_L1 l 0).length i k c s) i k (l.length : Int) i x25 ((c + 1 : Nat) : Int)) x → Ev (fun n => spec_maSwitches.l3 n l s i k c ((c + 1 : Nat) : Int) (l.length : Int) i x25 c) x := by
  intro i k c B x25 hik hk hc hB s hs
  obtain ⟨h1, h2⟩ := contLoop (fun s j n => spec_maSwitches.l3 n l s i k c (j : Int) (l.length : Int) i x25 c) (rd_L1 l 0).length (fun s d => if isSw l i k c d then s ++ [mkSw i k c d] else s) (fun s j => s.length ≤ B + j ∧ c < j)
   (fun s j hj hi => by
    have q : (j : Int) < ((rd_L1 l 0).length : Int) := by omega
    have hi' : s.length ≤ B + j := hi.1
    have hj' : c < j := hi.2
    refine ⟨⟨by split <;> (first | (simp only [List.length_append, List.length_cons, List.length_nil]; omega) | omega), by omega⟩, fun x hx => Ev.step (fun n => by rw [spec_maSwitches.l3]) ?_⟩
    simp only [if_pos p0, if_pos q, maIs_f hg hik hk hi.2 hj, Option.bind_some, wrap_nat j (by omega)]
    cases hb : isSw l i k c j with
    | true =>
     have q2 : s.length < 4398046511104 := by omega
     simp only [hb, if_true] at hx
     simpa only [if_true, if_pos q2, mkSw] using hx
    | false =>
     simp only [hb, Bool.false_eq_true, if_false] at hx
     simpa only [Bool.false_eq_true, if_false] using hx) ((rd_L1 l 0).length - (c + 1)) s (c + 1) (by omega) ⟨by omega, by omega⟩
  refine ⟨by have := h1.1; unfold sw3; omega, fun x hx => h2 x (Ev.step (fun n => by rw [spec_maSwitches.l3]) ?_)⟩
  have q : ¬ ((rd_L1 l 0).length : Int) < ((rd_L1 l 0).length : Int) := by omega
  simp only [if_pos p0, if_neg q, wrap_nat c (by omega)]
  exact hx
 have L2 : ∀ (i k : Nat) (B : Nat), i < k → k < l.length → B ≤ 2048 → ∀ s : List S41, s.length ≤ B → (sw2 (isSw l) mkSw (rd_L1 l 0).length i k s).length ≤ B + 36 ∧ ∀ x, Ev (fun n => spec_maSwitches.l1 n l (sw2 (isSw l) mkSw (rd_L1 l 0).length i k s) i ((k + 1 : Nat) : Int) (l.length : Int) i) x → Ev (fun n => spec_maSwitches.l1 n l s i k (l.length : Int) i) x := by
  intro i k B hik hk hB s hs
  obtain ⟨h1, h2⟩ := contLoop (fun s j n => spec_maSwitches.l2 n l s i k (l.length : Int) i ((rd_L1 l 0).length : Int) (j : Int)) (rd_L1 l 0).length (fun s c => sw3 (isSw l) mkSw (rd_L1 l 0).length i k c s) (fun s j => s.length ≤ B + 6 * j)
   (fun s j hj hi => by
    have q : (j : Int) < ((rd_L1 l 0).length : Int) := by omega
    obtain ⟨h3, h4⟩ := L3 i k j (B + 6 * j) ((rd_L1 l 0).length : Int) hik hk hj (by omega) s hi
    refine ⟨by omega, fun x hx => Ev.step (fun n => by rw [spec_maSwitches.l2]) ?_⟩
    simp only [if_pos q, wrap_nat j (by omega)]
    exact h4 x hx) (rd_L1 l 0).length s 0 (by omega) (by omega)
  refine ⟨by unfold sw2; omega, fun x hx => Ev.step (fun n => by rw [spec_maSwitches.l1]) ?_⟩
  have q : (k : Int) < (l.length : Int) := by omega
  simp only [if_pos p0, if_pos q]
  refine h2 x (Ev.step (fun n => by rw [spec_maSwitches.l2]) ?_)
  have q : ¬ ((rd_L1 l 0).length : Int) < ((rd_L1 l 0).length : Int) := by omega
  simp only [if_neg q, wrap_nat k (by omega)]
  exact hx
 have L1 : ∀ (i : Nat) (B : Nat), i < l.length → B ≤ 1500 → ∀ s : List S41, s.length ≤ B → (sw1 (isSw l) mkSw l.length (rd_L1 l 0).length i s).length ≤ B + 216 ∧ ∀ x, Ev (fun n => spec_maSwitches.l0 n l (sw1 (isSw l) mkSw l.length (rd_L1 l 0).length i s) (l.length : Int) ((i + 1 : Nat) : Int)) x → Ev (fun n => spec_maSwitches.l0 n l s (l.length : Int) i) x := by
  intro i B hik hB s hs
  obtain ⟨h1, h2⟩ := contLoop (fun s j n => spec_maSwitches.l1 n l s i (j : Int) (l.length : Int) i) l.length (fun s k => sw2 (isSw l) mkSw (rd_L1 l 0).length i k s) (fun s j => s.length ≤ B + 36 * j ∧ i < j)
   (fun s j hj hi => by
    obtain ⟨h3, h4⟩ := L2 i j (B + 36 * j) hi.2 hj (by omega) s hi.1
    exact ⟨⟨by omega, by omega⟩, h4⟩) (l.length - (i + 1)) s (i + 1) (by omega) ⟨by omega, by omega⟩
  refine ⟨by have := h1.1; unfold sw1; omega, fun x hx => Ev.step (fun n => by rw [spec_maSwitches.l0]) ?_⟩
  have q : (i : Int) < (l.length : Int) := by omega
  simp only [if_pos q, wrap_nat i (by omega)]
  refine h2 x (Ev.step (fun n => by rw [spec_maSwitches.l1]) ?_)
  have q : ¬ (l.length : Int) < (l.length : Int) := by omega
  simp only [if_neg q, wrap_nat i (by omega)]
  exact hx
 obtain ⟨h1, h2⟩ := contLoop (fun s j n => spec_maSwitches.l0 n l s (l.length : Int) (j : Int)) l.length (fun s i => sw1 (isSw l) mkSw l.length (rd_L1 l 0).length i s) (fun s j => s.length ≤ 216 * j)
  (fun s j hj hi => by
   obtain ⟨h3, h4⟩ := L1 j (216 * j) hj (by omega) s hi
   exact ⟨by omega, h4⟩) l.length [] 0 (by omega) (by simp)
 refine h2 _ (Ev.step (fun n => by rw [spec_maSwitches.l0]) ?_)
 have q : ¬ (l.length : Int) < (l.length : Int) := by omega
 simp only [if_neg q]
 exact Ev.now _
theorem switches_f {l : List (List Int)} (hg : gridB l = true) : Ev (fun k => impl_switches.f k l) (sws l) := by
 obtain ⟨g1, g2, g3, g4, -⟩ := grid_get hg
 have p0 : 0 < (l.length : Int) := by omega
 unfold impl_switches.f
 have L3 : ∀ (i k c : Nat) (B : Nat) (x25 : Int), i < k → k < l.length → c < (rd_L1 l 0).length → B ≤ 4096 → ∀ s : List S41, s.length ≤ B → (sw3 (isSw l) mkSw (rd_L1 l 0).length i k c s).length ≤ B + 6 ∧ ∀ x, Ev (fun n => impl_switches.l2 n l (sw3 (isSw l) mkSw (rd_L1 l 0).length i k c s) i k (l.length : Int) i x25 ((c + 1 : Nat) : Int)) x → Ev (fun n => impl_switches.l3 n l s i k c ((c + 1 : Nat) : Int) (l.length : Int) i x25 c) x := by
  intro i k c B x25 hik hk hc hB s hs
  obtain ⟨h1, h2⟩ := contLoop (fun s j n => impl_switches.l3 n l s i k c (j : Int) (l.length : Int) i x25 c) (rd_L1 l 0).length (fun s d => if isSw l i k c d then s ++ [mkSw i k c d] else s) (fun s j => s.length ≤ B + j ∧ c < j)
   (fun s j hj hi => by
    have q : (j : Int) < ((rd_L1 l 0).length : Int) := by omega
    have hi' : s.length ≤ B + j := hi.1
    have hj' : c < j := hi.2
    refine ⟨⟨by split <;> (first | (simp only [List.length_append, List.length_cons, List.length_nil]; omega) | omega), by omega⟩, fun x hx => Ev.step (fun n => by rw [impl_switches.l3]) ?_⟩
    simp only [if_pos p0, if_pos q, isSwitch_f hg hik hk hi.2 hj, Option.bind_some, wrap_nat j (by omega)]
    cases hb : isSw l i k c j with
    | true =>
     have q2 : s.length < 4398046511104 := by omega
     simp only [hb, if_true] at hx
     simpa only [if_true, if_pos q2, mkSw] using hx
    | false =>
     simp only [hb, Bool.false_eq_true, if_false] at hx
     simpa only [Bool.false_eq_true, if_false] using hx) ((rd_L1 l 0).length - (c + 1)) s (c + 1) (by omega) ⟨by omega, by omega⟩
  refine ⟨by have := h1.1; unfold sw3; omega, fun x hx => h2 x (Ev.step (fun n => by rw [impl_switches.l3]) ?_)⟩
  have q : ¬ ((rd_L1 l 0).length : Int) < ((rd_L1 l 0).length : Int) := by omega
  simp only [if_pos p0, if_neg q, wrap_nat c (by omega)]
  exact hx
 have L2 : ∀ (i k : Nat) (B : Nat), i < k → k < l.length → B ≤ 2048 → ∀ s : List S41, s.length ≤ B → (sw2 (isSw l) mkSw (rd_L1 l 0).length i k s).length ≤ B + 36 ∧ ∀ x, Ev (fun n => impl_switches.l1 n l (sw2 (isSw l) mkSw (rd_L1 l 0).length i k s) i ((k + 1 : Nat) : Int) (l.length : Int) i) x → Ev (fun n => impl_switches.l1 n l s i k (l.length : Int) i) x := by
  intro i k B hik hk hB s hs
  obtain ⟨h1, h2⟩ := contLoop (fun s j n => impl_switches.l2 n l s i k (l.length : Int) i ((rd_L1 l 0).length : Int) (j : Int)) (rd_L1 l 0).length (fun s c => sw3 (isSw l) mkSw (rd_L1 l 0).length i k c s) (fun s j => s.length ≤ B + 6 * j)
   (fun s j hj hi => by
    have q : (j : Int) < ((rd_L1 l 0).length : Int) := by omega
    obtain ⟨h3, h4⟩ := L3 i k j (B + 6 * j) ((rd_L1 l 0).length : Int) hik hk hj (by omega) s hi
    refine ⟨by omega, fun x hx => Ev.step (fun n => by rw [impl_switches.l2]) ?_⟩
    simp only [if_pos q, wrap_nat j (by omega)]
    exact h4 x hx) (rd_L1 l 0).length s 0 (by omega) (by omega)
  refine ⟨by unfold sw2; omega, fun x hx => Ev.step (fun n => by rw [impl_switches.l1]) ?_⟩
  have q : (k : Int) < (l.length : Int) := by omega
  simp only [if_pos p0, if_pos q]
  refine h2 x (Ev.step (fun n => by rw [impl_switches.l2]) ?_)
  have q : ¬ ((rd_L1 l 0).length : Int) < ((rd_L1 l 0).length : Int) := by omega
  simp only [if_neg q, wrap_nat k (by omega)]
  exact hx
 have L1 : ∀ (i : Nat) (B : Nat), i < l.length → B ≤ 1500 → ∀ s : List S41, s.length ≤ B → (sw1 (isSw l) mkSw l.length (rd_L1 l 0).length i s).length ≤ B + 216 ∧ ∀ x, Ev (fun n => impl_switches.l0 n l (sw1 (isSw l) mkSw l.length (rd_L1 l 0).length i s) (l.length : Int) ((i + 1 : Nat) : Int)) x → Ev (fun n => impl_switches.l0 n l s (l.length : Int) i) x := by
  intro i B hik hB s hs
  obtain ⟨h1, h2⟩ := contLoop (fun s j n => impl_switches.l1 n l s i (j : Int) (l.length : Int) i) l.length (fun s k => sw2 (isSw l) mkSw (rd_L1 l 0).length i k s) (fun s j => s.length ≤ B + 36 * j ∧ i < j)
   (fun s j hj hi => by
    obtain ⟨h3, h4⟩ := L2 i j (B + 36 * j) hi.2 hj (by omega) s hi.1
    exact ⟨⟨by omega, by omega⟩, h4⟩) (l.length - (i + 1)) s (i + 1) (by omega) ⟨by omega, by omega⟩
  refine ⟨by have := h1.1; unfold sw1; omega, fun x hx => Ev.step (fun n => by rw [impl_switches.l0]) ?_⟩
  have q : (i : Int) < (l.length : Int) := by omega
  simp only [if_pos q, wrap_nat i (by omega)]
  refine h2 x (Ev.step (fun n => by rw [impl_switches.l1]) ?_)
  have q : ¬ (l.length : Int) < (l.length : Int) := by omega
  simp only [if_neg q, wrap_nat i (by omega)]
  exact hx
 obtain ⟨h1, h2⟩ := contLoop (fun s j n => impl_switches.l0 n l s (l.length : Int) (j : Int)) l.length (fun s i => sw1 (isSw l) mkSw l.length (rd_L1 l 0).length i s) (fun s j => s.length ≤ 216 * j)
  (fun s j hj hi => by
   obtain ⟨h3, h4⟩ := L1 j (216 * j) hj (by omega) s hi
   exact ⟨by omega, h4⟩) l.length [] 0 (by omega) (by simp)
 refine h2 _ (Ev.step (fun n => by rw [impl_switches.l0]) ?_)
 have q : ¬ (l.length : Int) < (l.length : Int) := by omega
 simp only [if_neg q]
 exact Ev.now _
theorem fold_le {S : Type} (f : List S → Nat → List S) (c : Nat) : ∀ (L : List Nat) (s : List S), (∀ s, ∀ j ∈ L, (f s j).length ≤ s.length + c) → (L.foldl f s).length ≤ s.length + c * L.length
 | [], s, _ => by simp
 | j :: L, s, h => by
  have h1 := h s j (by simp)
  have h2 := fold_le f c L (f s j) (fun s j hj => h s j (by simp [hj]))
  simp only [List.foldl_cons, List.length_cons, Nat.mul_add, Nat.mul_one]
  omega
theorem sws_le {l : List (List Int)} (hg : gridB l = true) : (sws l).length ≤ 1296 := by
 obtain ⟨g1, g2, g3, g4, g5⟩ := grid_get hg
 generalize hn : (rd_L1 l 0).length = n at *
 have L3 : ∀ i k c (s : List S41), (sw3 (isSw l) mkSw n i k c s).length ≤ s.length + 6 := fun i k c s => by
  have := fold_le (fun s d => if isSw l i k c d then s ++ [mkSw i k c d] else s) 1 (List.range' (c + 1) (n - (c + 1))) s (fun s j _ => by split <;> simp)
  unfold sw3; simp only [List.length_range', Nat.one_mul] at this; omega
 have L2 : ∀ i k (s : List S41), (sw2 (isSw l) mkSw n i k s).length ≤ s.length + 36 := fun i k s => by
  have := fold_le (fun s c => sw3 (isSw l) mkSw n i k c s) 6 (List.range' 0 n) s (fun s j _ => L3 i k j s)
  unfold sw2; simp only [List.length_range'] at this; omega
 have L1 : ∀ i (s : List S41), (sw1 (isSw l) mkSw l.length n i s).length ≤ s.length + 216 := fun i s => by
  have := fold_le (fun s k => sw2 (isSw l) mkSw n i k s) 36 (List.range' (i + 1) (l.length - (i + 1))) s (fun s j _ => L2 i j s)
  unfold sw1; simp only [List.length_range'] at this; omega
 have := fold_le (fun s i => sw1 (isSw l) mkSw l.length n i s) 216 (List.range' 0 l.length) [] (fun s j _ => L1 j s)
 unfold sws sw0; rw [hn]; simp only [List.length_range', List.length_nil] at this; omega
theorem swIn_nat {l : List (List Int)} {r o c b : Int} (h : swIn l r o c b = true) : ∃ r' o' c' b' : Nat, r = r' ∧ o = o' ∧ c = c' ∧ b = b' ∧ r' < o' ∧ o' < l.length ∧ c' < b' ∧ b' < (rd_L1 l 0).length := by
 simp only [swIn, decide_eq_true_eq] at h
 obtain ⟨s1, s2, s3, s4, s5, s6⟩ := h
 exact ⟨r.toNat, o.toNat, c.toNat, b.toNat, by omega, by omega, by omega, by omega, by omega, by omega, by omega, by omega⟩
theorem spec_DoSwitch_f {l : List (List Int)} (r o c b : Int) (h0 : l.length ≤ 1048576 ∧ ∀ x ∈ l, x.length ≤ 1048576) : Ev (fun k => spec_DoSwitch.f k l r o c b) (if gridB l = true ∧ swB l r o c b = true then (mapRows (swNum r o c b) 0 l, true) else ([], false)) := by
 have h4 : l.length ≤ BM := by have := h0.1; simp only [BM]; omega
 have h5 : ∀ r ∈ l, r.length ≤ BM := fun x hx => by have := h0.2 x hx; simp only [BM]; omega
 unfold spec_DoSwitch.f
 refine Ev.bind (maGrid_f l h4 h5) (Ev.ite (fun hg => ?_) (fun hg => ?_))
 ·
  have hs : spec_maIs.f l r o c b = some (swB l r o c b) := by unfold spec_maIs.f; rw [if_pos hg]
  simp only [hs, Option.bind_some]
  refine Ev.ite (fun hb => ?_) (fun hb => ?_)
  ·
   rw [if_pos ⟨hg, hb⟩]
   have hi : swIn l r o c b = true := by simp only [swB, Bool.and_eq_true] at hb; exact hb.1
   obtain ⟨r', o', c', b', rfl, rfl, rfl, rfl, q1, q2, q3, q4⟩ := swIn_nat hi
   obtain ⟨g1, g2, g3, g4, g5⟩ := grid_get hg
   exact Ev.bind (maDo_f l r' o' c' b' _ h0.1 q1 q2 q3 q4 (by omega) (grid_rowN hg)) (Ev.now _)
  ·
   rw [if_neg (fun h => hb h.2)]; exact Ev.now _
 ·
  rw [if_neg (fun h => hg h.1)]; exact Ev.now _
theorem impl_DoSwitch_f {l : List (List Int)} (r o c b : Int) (h0 : l.length ≤ 1048576 ∧ ∀ x ∈ l, x.length ≤ 1048576) : impl_DoSwitch.f l r o c b = some (if gridB l = true ∧ swB l r o c b = true then (mapRows (swNum r o c b) 0 l, true) else ([], false)) := by
 have h4 : l.length ≤ BM := by have := h0.1; simp only [BM]; omega
 have h5 : ∀ r ∈ l, r.length ≤ BM := fun x hx => by have := h0.2 x hx; simp only [BM]; omega
 unfold impl_DoSwitch.f impl_switched.f
 simp only [IsGrid_f l h4 h5, Option.bind_some]
 by_cases hg : gridB l = true
 ·
  have hs : impl_isSwitch.f l r o c b = some (swB l r o c b) := by unfold impl_isSwitch.f; rw [if_pos hg]
  rw [if_pos hg, hs, Option.bind_some, if_pos h0, Option.bind_some]
  by_cases hb : swB l r o c b = true
  ·
   rw [if_pos hb, if_pos ⟨hg, hb⟩]
  ·
   rw [if_neg hb, if_neg (fun h => hb h.2)]
 ·
  rw [if_neg hg, if_neg (fun h => hg h.1)]
theorem mapRows_bd {g : Int → Int → Int → Int} {l : List (List Int)} (h0 : l.length ≤ 1048576 ∧ ∀ x ∈ l, x.length ≤ 1048576) : (mapRows g 0 l).length ≤ 1048576 ∧ ∀ x ∈ mapRows g 0 l, x.length ≤ 1048576 :=
 ⟨by rw [mapRows_length]; exact h0.1, fun x hx => by obtain ⟨r0, h1, h2⟩ := mapRows_mem _ _ _ x hx; have := h0.2 r0 h1; omega⟩
end Go.Proofs.Ytojcnapdalpnmaa.K
namespace Go.Proofs.Ytojcnapdalpnmaa.K
open Go.RowKit Go.Proofs.YtojcnapdalpnmaaW.PrintWords Go.Proofs.YtojcnapdalpnmaaW.PrintMore Go.Proofs.Ytojcnapdalpnmaa.P
theorem fold_mem {S : Type} (f : List S → Nat → List S) (Q : Nat → S → Prop) (h : ∀ s d x, x ∈ f s d ↔ x ∈ s ∨ Q d x) : ∀ (L : List Nat) (s : List S) (x : S), x ∈ L.foldl f s ↔ x ∈ s ∨ ∃ d ∈ L, Q d x
  | [], s, x => by simp
  | a :: L, s, x => by
    rw [List.foldl_cons, fold_mem f Q h L, h]
    simp only [List.mem_cons, exists_eq_or_imp]
    exact or_assoc
section
variable {S : Type} (p : Nat → Nat → Nat → Nat → Bool) (mk : Nat → Nat → Nat → Nat → S)
theorem sw3_mem (n i k c : Nat) (s : List S) (x : S) : x ∈ sw3 p mk n i k c s ↔ x ∈ s ∨ ∃ d, c < d ∧ d < n ∧ p i k c d = true ∧ x = mk i k c d := by
  unfold sw3
  rw [fold_mem _ (fun d x => p i k c d = true ∧ x = mk i k c d) (fun s d x => by by_cases h : p i k c d = true <;> simp [h])]
  refine or_congr Iff.rfl ⟨fun ⟨d, h1, h2, h3⟩ => ⟨d, ?_, ?_, h2, h3⟩, fun ⟨d, h1, h2, h3, h4⟩ => ⟨d, ?_, h3, h4⟩⟩
  · have := List.mem_range'_1.1 h1; omega
  · have := List.mem_range'_1.1 h1; omega
  · exact List.mem_range'_1.2 (by omega)
theorem sw2_mem (n i k : Nat) (s : List S) (x : S) : x ∈ sw2 p mk n i k s ↔ x ∈ s ∨ ∃ c d, c < d ∧ d < n ∧ p i k c d = true ∧ x = mk i k c d := by
  unfold sw2
  rw [fold_mem _ (fun c x => ∃ d, c < d ∧ d < n ∧ p i k c d = true ∧ x = mk i k c d) (fun s c x => sw3_mem p mk n i k c s x)]
  refine or_congr Iff.rfl ⟨fun ⟨c, h1, d, h2⟩ => ⟨c, d, h2⟩, fun ⟨c, d, h2⟩ => ⟨c, List.mem_range'_1.2 (by omega), d, h2⟩⟩
theorem sw1_mem (m n i : Nat) (s : List S) (x : S) : x ∈ sw1 p mk m n i s ↔ x ∈ s ∨ ∃ k c d, i < k ∧ k < m ∧ c < d ∧ d < n ∧ p i k c d = true ∧ x = mk i k c d := by
  unfold sw1
  rw [fold_mem _ (fun k x => ∃ c d, c < d ∧ d < n ∧ p i k c d = true ∧ x = mk i k c d) (fun s k x => sw2_mem p mk n i k s x)]
  refine or_congr Iff.rfl ⟨fun ⟨k, h1, c, d, h2⟩ => ⟨k, c, d, ?_, ?_, h2⟩, fun ⟨k, c, d, h0, h1, h2⟩ => ⟨k, List.mem_range'_1.2 (by omega), c, d, h2⟩⟩
  · have := List.mem_range'_1.1 h1; omega
  · have := List.mem_range'_1.1 h1; omega
theorem sw0_mem (m n : Nat) (x : S) : x ∈ sw0 p mk m n ↔ ∃ i k c d, i < k ∧ k < m ∧ c < d ∧ d < n ∧ p i k c d = true ∧ x = mk i k c d := by
  unfold sw0
  rw [fold_mem _ (fun i x => ∃ k c d, i < k ∧ k < m ∧ c < d ∧ d < n ∧ p i k c d = true ∧ x = mk i k c d) (fun s i x => sw1_mem p mk m n i s x)]
  simp only [List.not_mem_nil, false_or]
  refine ⟨fun ⟨i, h1, k, c, d, h2⟩ => ⟨i, k, c, d, h2⟩, fun ⟨i, k, c, d, h2⟩ => ⟨i, List.mem_range'_1.2 (by omega), k, c, d, h2⟩⟩
end
theorem sws_mem {l : List (List Int)} {x : S41} : x ∈ sws l ↔ ∃ i k c d, i < k ∧ k < l.length ∧ c < d ∧ d < (rd_L1 l 0).length ∧ isSw l i k c d = true ∧ x = mkSw i k c d := sw0_mem _ _ _ _ _
theorem swB_nat {l : List (List Int)} {r o c b : Int} : swB l r o c b = true ↔ ∃ r' o' c' b' : Nat, r = r' ∧ o = o' ∧ c = c' ∧ b = b' ∧ r' < o' ∧ o' < l.length ∧ c' < b' ∧ b' < (rd_L1 l 0).length ∧ isSw l r' o' c' b' = true := by
  constructor
  · intro h
    simp only [swB, Bool.and_eq_true] at h
    obtain ⟨r', o', c', b', rfl, rfl, rfl, rfl, q⟩ := swIn_nat h.1
    exact ⟨r', o', c', b', rfl, rfl, rfl, rfl, q.1, q.2.1, q.2.2.1, q.2.2.2, by have := h.2; simpa only [swAt, isSw] using this⟩
  · rintro ⟨r', o', c', b', rfl, rfl, rfl, rfl, q1, q2, q3, q4, q5⟩
    have e : swIn l r' o' c' b' = true := by simp only [swIn, decide_eq_true_eq]; omega
    simp only [swB, e, Bool.true_and]
    simpa only [swAt, isSw] using q5
theorem sws_swB {l : List (List Int)} {r o c b : Int} : (∃ x ∈ sws l, x.f0 = r ∧ x.f1 = o ∧ x.f2 = c ∧ x.f3 = b) ↔ swB l r o c b = true := by
  rw [swB_nat]
  constructor
  · rintro ⟨x, hx, rfl, rfl, rfl, rfl⟩
    obtain ⟨i, k, c, d, h1, h2, h3, h4, h5, rfl⟩ := sws_mem.1 hx
    exact ⟨i, k, c, d, rfl, rfl, rfl, rfl, h1, h2, h3, h4, h5⟩
  · rintro ⟨i, k, c, d, rfl, rfl, rfl, rfl, h1, h2, h3, h4, h5⟩
    exact ⟨mkSw i k c d, sws_mem.2 ⟨i, k, c, d, h1, h2, h3, h4, h5, rfl⟩, rfl, rfl, rfl, rfl⟩
theorem isSw_at {l : List (List Int)} {i k c d : Nat} : isSw l i k c d = true ↔ at2 l i c = at2 l k d ∧ at2 l i d = at2 l k c ∧ at2 l i c ≠ at2 l i d := by
  simp only [isSw, Bool.and_eq_true, decide_eq_true_eq, and_assoc]; exact Iff.rfl
theorem shape_grid {n m : Nat} {t : List (List Int)} (h : Shape n m t) (hn : 1 ≤ n ∧ n ≤ 6) (hm : 1 ≤ m ∧ m ≤ 6) : gridB t = true := by
  obtain ⟨h1, h2, h3⟩ := h
  have e0 : (rd_L1 t 0).length = m := h2 0 (by omega)
  have hr : t.any (rowBad m) = false := by
    rw [List.any_eq_false]
    intro r hr
    obtain ⟨i, hi, rfl⟩ := List.getElem_of_mem hr
    have e1 := h2 i (by omega)
    rw [rowN_at hi] at e1
    simp only [rowBad, Bool.or_eq_true, Bool.not_eq_true', not_or, Bool.not_eq_false, decide_eq_true_eq, within, List.all_eq_true, Bool.and_eq_true]
    refine ⟨by simpa using e1, fun x hx => ?_⟩
    obtain ⟨j, hj, rfl⟩ := List.getElem_of_mem hx
    have := h3 i j (by omega) (by omega)
    unfold at2 at this
    rw [rowN_at hi, rdN_at hj] at this
    omega
  unfold gridB
  rw [e0, hr, h1]
  simp only [Bool.and_eq_true, decide_eq_true_eq, Bool.not_false]
  refine ⟨⟨hn.1, hn.2⟩, ⟨hm.1, hm.2⟩, ?_⟩
  first | trivial | rfl
theorem pSw_eq (t : List (List Int)) {r o : Nat} (h : r < o) (c b : Nat) : mapRows (swNum r o c b) 0 t = pSw t r o c b := by
  unfold pSw; rw [show min r o = r by omega, show max r o = o by omega]
theorem pSw_twice {n m : Nat} {t : List (List Int)} (h : Shape n m t) {r s c d : Nat} (hr : r < n) (hs : s < n) (hc : c < m) (hd : d < m) : pSw (pSw t r s c d) r s c d = t := by
  have h2 := pSw_shape h hr hs hc hd
  have h3 := pSw_shape h2 hr hs hc hd
  refine rows_ext (by rw [h3.1, h.1]) (fun i hi => by rw [h3.2.1 i (by rw [← h3.1]; exact hi), h.2.1 i (by rw [← h3.1]; exact hi)]) (fun i j hi hj => ?_)
  have hi' : i < n := by rw [← h3.1]; exact hi
  have hj' : j < m := by rw [← h3.2.1 i hi']; exact hj
  rw [pSw_at h2 hr hs hc hd i j hi' hj', pSw_at h hr hs hc hd i j hi' hj']
  split <;> omega
theorem pSw_isSw {n m : Nat} {t : List (List Int)} (h : Shape n m t) {r s c d : Nat} (hr : r < n) (hs : s < n) (hc : c < m) (hd : d < m) (hq : isSw t r s c d = true) : isSw (pSw t r s c d) r s c d = true := by
  rw [isSw_at] at hq ⊢
  have e : ∀ i j, i < n → j < m → (i = r ∨ i = s) → (j = c ∨ j = d) → at2 (pSw t r s c d) i j = 1 - at2 t i j := fun i j hi hj a b => by rw [pSw_at h hr hs hc hd i j hi hj, if_pos ⟨a, b⟩]
  rw [e r c hr hc (.inl rfl) (.inl rfl), e r d hr hd (.inl rfl) (.inr rfl), e s c hs hc (.inr rfl) (.inl rfl), e s d hs hd (.inr rfl) (.inr rfl)]
  omega
theorem gSums_ext {n m : Nat} {t u : List (List Int)} (ht : Shape n m t) (hu : Shape n m u) (hn : 0 < n) (hrow : ∀ i, i < n → sumR m (at2 t i) = sumR m (at2 u i)) (hcol : ∀ j, j < m → sumR n (fun i => at2 t i j) = sumR n (fun i => at2 u i j)) : gSums t = gSums u := by
  have e1 : (rd_L1 t 0).length = m := ht.2.1 0 hn
  have e2 : (rd_L1 u 0).length = m := hu.2.1 0 hn
  have f1 := ht.1
  have f2 := hu.1
  unfold gSums
  refine Prod.ext ?_ ?_
  · refine List.ext_getElem (by simp; omega) (fun i h1 h2 => ?_)
    simp only [List.length_map] at h1 h2
    simp only [List.getElem_map]
    have a1 := ht.2.1 i (by omega)
    have a2 := hu.2.1 i (by omega)
    rw [← rowN_at h1, ← rowN_at h2, row_sumR, row_sumR, a1, a2]
    exact hrow i (by omega)
  · simp only [e1, e2, f1, f2]
    unfold colsI
    refine List.ext_getElem (by simp) (fun j h1 h2 => ?_)
    simp only [List.length_map, List.length_range] at h1 h2
    simp only [List.getElem_map, List.getElem_range]
    rw [col_sumR, col_sumR]
    exact hcol j (by omega)
theorem upLoop {α : Type} (g : Nat → Nat → Option α) (n : Nat) (hs : ∀ j, j < n → ∀ x, Ev (g (j + 1)) x → Ev (g j) x) : ∀ d j, j + d = n → ∀ x, Ev (g n) x → Ev (g j) x
  | 0, j, h, x, hx => by obtain rfl : j = n := by omega
                         exact hx
  | d + 1, j, h, x, hx => hs j (by omega) x (upLoop g n hs d (j + 1) (by omega) x hx)
def dif (t u : List (List Int)) (i j : Nat) : Int := if at2 u i j = at2 t i j then 0 else 1
def apartN (n m : Nat) (t u : List (List Int)) : Int := sumR n (fun i => sumR m (dif t u i))
theorem sumR_01 : ∀ {n : Nat} {f : Nat → Int} {c : Int}, (∀ i, i < n → 0 ≤ f i ∧ f i ≤ c) → 0 ≤ c → 0 ≤ sumR n f ∧ sumR n f ≤ c * n
  | 0, f, c, _, hc => by simp [sumR]
  | n + 1, f, c, h, hc => by
    have h1 := sumR_01 (fun i hi => h i (by omega)) hc (n := n) (f := f)
    have h2 := h n (by omega)
    simp only [sumR]
    rw [show ((n + 1 : Nat) : Int) = (n : Int) + 1 from rfl, Int.mul_add]
    omega
theorem dif_01 (t u : List (List Int)) (i j : Nat) : 0 ≤ dif t u i j ∧ dif t u i j ≤ 1 := by unfold dif; split <;> omega
theorem GridsApart_f {n m : Nat} {t u : List (List Int)} (ht : Shape n m t) (hu : Shape n m u) (hn : 1 ≤ n ∧ n ≤ 6) (hm : 1 ≤ m ∧ m ≤ 6) : Ev (fun k => impl_GridsApart.f k t u) (apartN n m t u, true) := by
  have gt := shape_grid ht hn hm
  have gu := shape_grid hu hn hm
  have l1 := ht.1
  have l2 := hu.1
  have r1 : (rd_L1 t 0).length = m := ht.2.1 0 (by omega)
  have r2 : (rd_L1 u 0).length = m := hu.2.1 0 (by omega)
  have b : ∀ {x : List (List Int)}, Shape n m x → x.length ≤ BM ∧ ∀ r ∈ x, r.length ≤ BM := fun hx => by
    refine ⟨by have := hx.1; simp only [BM]; omega, fun r hr => ?_⟩
    obtain ⟨i, hi, rfl⟩ := List.getElem_of_mem hr
    have := hx.2.1 i (by rw [← hx.1]; exact hi)
    rw [rowN_at hi] at this
    simp only [BM]; omega
  unfold impl_GridsApart.f
  simp only [IsGrid_f t (b ht).1 (b ht).2, IsGrid_f u (b hu).1 (b hu).2, Option.bind_some]
  refine evPos gt (evPos gu (evPos (by omega) (evPos (by omega) (evPos (by omega) ?_))))
  rw [r1, r2]
  refine Ev.step (fun k => by rw [impl_GridsApart.j0]) ?_
  refine evNeg (by simp) ?_
  rw [l1]
  have row : ∀ i, i < n → ∀ C : Int, 0 ≤ C → C ≤ 1000 → ∀ x, Ev (fun k => impl_GridsApart.l0 k u (C + sumR m (dif t u i)) t (n : Int) ((i + 1 : Nat) : Int)) x → Ev (fun k => impl_GridsApart.l0 k u C t (n : Int) (i : Int)) x := by
    intro i hi C hC hC2 x hx
    have q1 : (i : Int) < (n : Int) := by omega
    have q2 : 0 ≤ (i : Int) := by omega
    have q3 : (i : Int) < (t.length : Int) := by omega
    have q4 : (i : Int) < (u.length : Int) := by omega
    have a1 : (rd_L1 t (i : Int)).length = m := ht.2.1 i hi
    have a2 : (rd_L1 u (i : Int)).length = m := hu.2.1 i hi
    refine Ev.step (fun k => by rw [impl_GridsApart.l0]) ?_
    simp only [if_pos q1, if_pos q2, if_pos q3, a1]
    have h0 : C = C + sumR 0 (dif t u i) := by simp [sumR]
    rw [h0]
    refine upLoop (fun j k => impl_GridsApart.l1 k u (C + sumR j (dif t u i)) (i : Int) t (n : Int) (i : Int) (rd_L1 t (i : Int)) (m : Int) (j : Int)) m (fun j hj y hy => ?_) m 0 (by omega) x ?_
    · have p1 : (j : Int) < (m : Int) := by omega
      have p2 : 0 ≤ (j : Int) := by omega
      have p3 : (j : Int) < ((rd_L1 t (i : Int)).length : Int) := by omega
      have p4 : (j : Int) < ((rd_L1 u (i : Int)).length : Int) := by omega
      have p5 := sumR_01 (n := j) (fun i' _ => dif_01 t u i i') (by omega)
      have z1 : rd (rd_L1 u (i : Int)) (j : Int) = at2 u i j := rfl
      have z2 : rd (rd_L1 t (i : Int)) (j : Int) = at2 t i j := rfl
      refine Ev.step (fun k => by rw [impl_GridsApart.l1]) ?_
      simp only [if_pos p1, if_pos p2, if_pos p3, if_pos q2, if_pos q4, if_pos p4, z1, z2, wrap_nat j (by omega)]
      refine Ev.ite (fun e => ?_) (fun e => ?_)
      · have : sumR (j + 1) (dif t u i) = sumR j (dif t u i) := by simp only [sumR, dif, if_pos e]; omega
        (try dsimp only at hy)
        rw [this] at hy; exact hy
      · have : wrap64 (C + sumR j (dif t u i) + 1) = C + sumR (j + 1) (dif t u i) := by
          have e9 : sumR (j + 1) (dif t u i) = sumR j (dif t u i) + 1 := by simp only [sumR, dif, if_neg e]
          rw [e9, wrap_id (by omega) (by omega)]; omega
        rw [this]; exact hy
    · refine Ev.step (fun k => by rw [impl_GridsApart.l1]) ?_
      have p1 : ¬ (m : Int) < (m : Int) := by omega
      simp only [if_neg p1, wrap_nat i (by omega)]
      exact hx
  have all := upLoop (fun i k => impl_GridsApart.l0 k u (sumR i (fun i => sumR m (dif t u i))) t (n : Int) (i : Int)) n (fun i hi y hy => ?_) n 0 (by omega) (apartN n m t u, true) ?_
  · exact all
  · have p5 := sumR_01 (n := i) (f := fun i => sumR m (dif t u i)) (c := 6) (fun i' _ => by have := sumR_01 (n := m) (fun j _ => dif_01 t u i' j) (by omega); omega) (by omega)
    exact row i hi _ p5.1 (by omega) y hy
  · refine Ev.step (fun k => by rw [impl_GridsApart.l0]) ?_
    have p1 : ¬ (n : Int) < (n : Int) := by omega
    exact evNeg p1 (Ev.now _)
theorem sumR_two {n : Nat} {f : Nat → Int} {a b : Nat} (ha : a < n) (hb : b < n) (hab : a ≠ b) (h : ∀ i, i < n → f i = if i = a then f a else if i = b then f b else 0) : sumR n f = f a + f b := by
  have e : ∀ i, i < n → f i = (fun i => if i = a then f a else (fun i => if i = b then f b else (fun _ => (0 : Int)) i) i) i := h
  have z : ∀ n : Nat, sumR n (fun _ => (0 : Int)) = 0 := fun n => by induction n with | zero => rfl | succ n ih => simp only [sumR, ih]; rfl
  rw [sumR_congr e, sumR_set n _ a _ ha, sumR_set n _ b _ hb, z]
  simp only [if_neg hab]; omega
theorem apart_pSw {n m : Nat} {t : List (List Int)} (h : Shape n m t) {r s c d : Nat} (hr : r < n) (hs : s < n) (hc : c < m) (hd : d < m) (hrs : r ≠ s) (hcd : c ≠ d) : apartN n m t (pSw t r s c d) = 4 := by
  unfold apartN
  have e0 : ∀ i j, i < n → j < m → dif t (pSw t r s c d) i j = if (i = r ∨ i = s) ∧ (j = c ∨ j = d) then 1 else 0 := fun i j hi hj => by
    unfold dif
    rw [pSw_at h hr hs hc hd i j hi hj]
    have := h.2.2 i j hi hj
    by_cases q : (i = r ∨ i = s) ∧ (j = c ∨ j = d)
    · rw [if_pos q, if_pos q, if_neg (by omega)]
    · rw [if_neg q, if_neg q, if_pos rfl]
  have er : ∀ i, i < n → sumR m (dif t (pSw t r s c d) i) = if i = r ∨ i = s then 2 else 0 := fun i hi => by
    by_cases q : i = r ∨ i = s
    · rw [if_pos q, sumR_two hc hd hcd (fun j hj => by
        rw [e0 i j hi hj, e0 i c hi hc, e0 i d hi hd]
        by_cases q1 : j = c
        · simp [q, q1]
        · by_cases q2 : j = d
          · simp [q, q1, q2]
          · simp [q1, q2])]
      rw [e0 i c hi hc, e0 i d hi hd]; simp [q]
    · rw [if_neg q]
      have z : ∀ n : Nat, sumR n (fun _ => (0 : Int)) = 0 := fun n => by induction n with | zero => rfl | succ n ih => simp only [sumR, ih]; rfl
      rw [sumR_congr (g := fun _ => 0) (fun j hj => by rw [e0 i j hi hj, if_neg (fun hh => q hh.1)]), z]
  rw [sumR_two hr hs hrs (fun i hi => by
    (try dsimp only)
    rw [er i hi, er r hr, er s hs]
    by_cases q1 : i = r
    · simp [q1]
    · by_cases q2 : i = s
      · simp [q1, q2]
      · simp [q1, q2])]
  rw [er r hr, er s hs]; simp
def Fit (t : List (List Int)) : Prop := t.length ≤ 1048576 ∧ ∀ r ∈ t, r.length ≤ 1048576
theorem Rows8.fit {t : List (List Int)} (h : Rows8 t) : Fit t := ⟨by have := h.1; omega, fun r hr => by have := (h.2 r hr).1; omega⟩
theorem Fit.bm {t : List (List Int)} (h : Fit t) : t.length ≤ BM ∧ ∀ r ∈ t, r.length ≤ BM := ⟨by have := h.1; simp only [BM]; omega, fun r hr => by have := h.2 r hr; simp only [BM]; omega⟩
theorem drawDo_no {code : List Int} (hc : Bytes code) (t : List (List Int)) (a s : Int) (h0 : 0 ≤ a) (h1 : a ≤ 1048576) : ∃ r o c b, Ev (fun k => spec_DrawDoSwitch.j0 k t false code a s) (t, r, o, c, b) := by
 obtain ⟨x1, a1, s1, e1, -, -, -, b1, b2⟩ := pick_ok hc a s 4 h0 (by omega) (by omega)
 obtain ⟨x2, a2, s2, e2, -, -, -, c1, c2⟩ := pick_ok hc a1 s1 5 (by omega) (by omega) (by omega)
 obtain ⟨x3, a3, s3, e3, -, -, -, d1, d2⟩ := pick_ok hc a2 s2 4 (by omega) (by omega) (by omega)
 obtain ⟨x4, a4, s4, e4, -, -, -, f1, f2⟩ := pick_ok hc a3 s3 5 (by omega) (by omega) (by omega)
 refine ⟨wrap64 (x1 - 1), x2, wrap64 (x3 - 1), x4, Ev.step (fun k => by rw [spec_DrawDoSwitch.j0]) ?_⟩
 simp only [Bool.false_eq_true, if_false, e1, e2, e3, e4, Option.bind_some]
 exact Ev.now _
theorem drawDoSwitch_ok {code : List Int} (hc : Bytes code) : ∃ t r o c b, Ev (fun k => spec_DrawDoSwitch.f k code) (t, r, o, c, b) ∧ Fit t := by
 obtain ⟨t, a, s, h1, h2, h3, h4⟩ := grid_ok hc 0 0 (by omega) (by omega)
 have hf := h2.fit
 suffices h : ∃ r o c b, Ev (fun k => spec_DrawDoSwitch.f k code) (t, r, o, c, b) by
  obtain ⟨r, o, c, b, h⟩ := h; exact ⟨t, r, o, c, b, h, hf⟩
 unfold spec_DrawDoSwitch.f
 by_cases hg : gridB t = true
 ·
  by_cases hl : ((sws t).length : Int) > 0
  ·
   obtain ⟨o, a1, s1, e, b1, b2⟩ := one_ok hc a s 2 h3 (by omega) (by omega)
   by_cases ho : o = true
   ·
    obtain ⟨x, a2, s2, e2, x0, x1, -, -, -⟩ := pick_ok hc a1 s1 ((sws t).length : Int) (by omega) (by omega) (by have := sws_le hg; omega)
    have x1 := x1 (by omega)
    refine ⟨(rd_T41 (sws t) x).f0, (rd_T41 (sws t) x).f1, (rd_T41 (sws t) x).f2, (rd_T41 (sws t) x).f3, Ev.bind h1 (Ev.bind (maGrid_f t hf.bm.1 hf.bm.2) (evPos hg (Ev.bind (maSwitches_f hg) (evPos hl ?_))))⟩
    simp only [e, Option.bind_some, ho]
    refine Ev.step (fun k => by rw [spec_DrawDoSwitch.j0]) ?_
    simp only [if_true]
    refine Ev.bind (maSwitches_f hg) ?_
    simp only [e2, Option.bind_some, if_pos x0, if_pos x1]
    exact Ev.now _
   ·
    have ho : o = false := by simpa using ho
    obtain ⟨r, o', c, b, q⟩ := drawDo_no hc t a1 s1 (by omega) (by omega)
    refine ⟨r, o', c, b, Ev.bind h1 (Ev.bind (maGrid_f t hf.bm.1 hf.bm.2) (evPos hg (Ev.bind (maSwitches_f hg) (evPos hl ?_))))⟩
    simp only [e, Option.bind_some, ho]
    exact q
  ·
   obtain ⟨r, o', c, b, q⟩ := drawDo_no hc t a s (by omega) (by omega)
   exact ⟨r, o', c, b, Ev.bind h1 (Ev.bind (maGrid_f t hf.bm.1 hf.bm.2) (evPos hg (Ev.bind (maSwitches_f hg) (evNeg hl q))))⟩
 ·
  obtain ⟨r, o', c, b, q⟩ := drawDo_no hc t a s (by omega) (by omega)
  exact ⟨r, o', c, b, Ev.bind h1 (Ev.bind (maGrid_f t hf.bm.1 hf.bm.2) (evNeg hg q))⟩
end Go.Proofs.Ytojcnapdalpnmaa.K
namespace Go.Proofs.Ytojcnapdalpnmaa.K
open Go.RowKit Go.Proofs.YtojcnapdalpnmaaW.PrintWords Go.Proofs.Ytojcnapdalpnmaa.P
theorem midW (x : S41) (done rest : List S41) (h : (done ++ x :: rest).length ≤ 1048576) :
  ((done.length : Int) < ((done ++ x :: rest).length : Int)) ∧ 0 ≤ (done.length : Int) ∧ rd_T41 (done ++ x :: rest) (done.length : Int) = x ∧ wrap64 ((done.length : Int) + 1) = ((done ++ [x]).length : Int) ∧ done ++ [x] ++ rest = done ++ x :: rest := by
 refine ⟨by simp; omega, by omega, by simp [rd_T41], ?_, by simp⟩
 simp at h ⊢
 unfold wrap64; omega
theorem w4 {a : Int} (h0 : 0 ≤ a) (h : a ≤ 4611686018427387904) : wrap64 (a + 1) = a + 1 ∧ wrap64 (a + 1 + 1) = a + 2 ∧ wrap64 (a + 2 + 1) = a + 3 ∧ wrap64 (a + 3 + 1) = a + 4 := by unfold wrap64; omega
end Go.Proofs.Ytojcnapdalpnmaa.K
namespace Go.Proofs.Ytojcnapdalpnmaa.K
open Go.RowKit Go.Proofs.YtojcnapdalpnmaaW.PrintWords Go.Proofs.YtojcnapdalpnmaaW.PrintMore Go.Proofs.Ytojcnapdalpnmaa.P
theorem big_f {a b : List Int} (ha : ¬ a.length > 1048576) : laws_big.f a b = some (decide (a.length + b.length > 1048576)) := by
 unfold laws_big.f
 rw [if_neg (by omega), wrap_id (by omega) (by omega)]
 congr 1
 by_cases h : a.length + b.length > 1048576
 ·
  rw [decide_eq_true h, decide_eq_true (by omega)]
 ·
  rw [decide_eq_false h, decide_eq_false (by omega)]
theorem pSame_l0 : ∀ (k : Nat) (a b : List Int) (n i : Int), laws_pSame.l0 k a b n i = spec_l1Same.l0 k a b n i
 | 0, _, _, _, _ => rfl
 | k + 1, a, b, n, i => by rw [laws_pSame.l0, spec_l1Same.l0, pSame_l0 k]
theorem pSame_f (a b : List Int) (h : a.length ≤ 1048576) : Ev (fun k => laws_pSame.f k a b) (decide (a = b)) :=
 Ev.congr (fun k => by unfold laws_pSame.f spec_l1Same.f; rw [pSame_l0]) (l1Same_f a b h)
theorem pSameRows_l0 : ∀ (rest done rest2 done2 : List (List Int)), done.length = done2.length → rest.length = rest2.length → (done ++ rest).length ≤ 1048576 → (∀ r ∈ rest, r.length ≤ 1048576) → Ev (fun k => laws_pSameRows.l0 k (done ++ rest) (done2 ++ rest2) ((done ++ rest).length : Int) (done.length : Int)) (decide (rest = rest2)) := by
 intro rest
 induction rest with
 | nil =>
  intro done rest2 done2 hl hl2 h _
  obtain rfl : rest2 = [] := by simpa using hl2.symm
  exact Ev.step (fun k => by simp [laws_pSameRows.l0]; rfl) (Ev.some (by simp))
 | cons x rest ih =>
  intro done rest2 done2 hl hl2 h hr
  obtain ⟨y, rest2, rfl⟩ : ∃ y r, rest2 = y :: r := by cases rest2 with | nil => simp at hl2 | cons y r => exact ⟨y, r, rfl⟩
  have ih' := ih (done ++ [x]) rest2 (done2 ++ [y]) (by simp [hl]) (by simpa using hl2) (by simpa using h) (fun r hr' => hr r (by simp [hr']))
  rw [show done ++ [x] ++ rest = done ++ x :: rest by simp, show done2 ++ [y] ++ rest2 = done2 ++ y :: rest2 by simp] at ih'
  have hlen : (done ++ x :: rest).length = done.length + 1 + rest.length := by simp; omega
  have hlen2 : (done2 ++ y :: rest2).length = done2.length + 1 + rest2.length := by simp; omega
  have q1 : (done.length : Int) < ((done ++ x :: rest).length : Int) := by omega
  have q2 : 0 ≤ (done.length : Int) := by omega
  have q3 : (done.length : Int) < ((done2 ++ y :: rest2).length : Int) := by omega
  have z1 : rd_L1 (done ++ x :: rest) (done.length : Int) = x := by simp [rd_L1]
  have z2 : rd_L1 (done2 ++ y :: rest2) (done.length : Int) = y := by rw [hl]; simp [rd_L1]
  refine Ev.step (fun k => by rw [laws_pSameRows.l0]) ?_
  simp only [if_pos q1, if_pos q2, if_pos q3, z1, z2, wrap_nat done.length (by omega)]
  refine Ev.bind (pSame_f x y (hr x (by simp))) (Ev.ite (fun he => ?_) (fun he => ?_))
  ·
   have he := of_decide_eq_true he
   subst he
   have e2 : ((done ++ [x]).length : Int) = ((done.length + 1 : Nat) : Int) := by simp
   rw [e2] at ih'
   exact Ev.pair ih' (by simp)
  ·
   exact Ev.some (by simp at he; simp [he])
theorem pSameRows_f (a b : List (List Int)) (h : a.length ≤ 1048576) (hr : ∀ r ∈ a, r.length ≤ 1048576) : Ev (fun k => laws_pSameRows.f k a b) (decide (a = b)) := by
 unfold laws_pSameRows.f
 refine Ev.ite (fun hl => ?_) (fun hl => ?_)
 ·
  exact pSameRows_l0 a [] b [] rfl (by omega) (by simpa using h) hr
 ·
  exact Ev.some (by rw [decide_eq_false]; intro e; subst e; exact hl rfl)
theorem pSameRows_same (a : List (List Int)) (h : a.length ≤ 1048576 ∧ ∀ r ∈ a, r.length ≤ 1048576) : Ev (fun k => laws_pSameRows.f k a a) true := Ev.pair (pSameRows_f a a h.1 h.2) (by simp)
theorem pSwitches_l0 : ∀ (rest done : List S41), (done ++ rest).length ≤ 1048576 → Ev (fun k => laws_pSwitches.l0 k (done ++ rest) (done ++ rest) ((done ++ rest).length : Int) (done.length : Int)) true := by
 intro rest
 induction rest with
 | nil => intro done h; exact Ev.step (fun k => by rw [laws_pSwitches.l0, if_neg (by simp)]) (Ev.now _)
 | cons x rest ih =>
  intro done h
  have ih' := ih (done ++ [x]) (by simpa using h)
  rw [show done ++ [x] ++ rest = done ++ x :: rest by simp] at ih'
  have hlen : (done ++ x :: rest).length = done.length + 1 + rest.length := by simp; omega
  have q1 : (done.length : Int) < ((done ++ x :: rest).length : Int) := by omega
  have q2 : 0 ≤ (done.length : Int) := by omega
  refine Ev.step (fun k => by rw [laws_pSwitches.l0]) ?_
  simp only [if_pos q1, if_pos q2, wrap_nat done.length (by omega), beq_self_eq_true, Bool.not_true, Bool.or_false, Bool.false_eq_true, if_false]
  have e2 : ((done ++ [x]).length : Int) = ((done.length + 1 : Nat) : Int) := by simp
  rw [e2] at ih'
  exact ih'
theorem pSwitches_same (l : List S41) (h : l.length ≤ 1048576) : Ev (fun k => laws_pSwitches.f k l l) true := by
 unfold laws_pSwitches.f
 exact Ev.ite (fun _ => pSwitches_l0 l [] (by simpa using h)) (fun hh => absurd rfl hh)
end Go.Proofs.Ytojcnapdalpnmaa.K
namespace Go.Proofs.Ytojcnapdalpnmaa.K
open Go.RowKit Go.Proofs.YtojcnapdalpnmaaW.PrintWords Go.Proofs.Ytojcnapdalpnmaa.P
theorem impl_SumsOfGrid_f {l : List (List Int)} (h4 : l.length ≤ BM) (h5 : ∀ r ∈ l, r.length ≤ BM) : Ev (fun k => impl_SumsOfGrid.f k l) (if gridB l = true then ((gSums l).1, (gSums l).2, true) else ([], [], false)) := by
 unfold impl_SumsOfGrid.f
 simp only [IsGrid_f l h4 h5, Option.bind_some]
 refine Ev.ite (fun hg => ?_) (fun hg => ?_)
 ·
  obtain ⟨g1, g2, g3, g4, g5⟩ := grid_get hg
  rw [if_pos hg]
  refine Ev.bind (rowSums_f (by omega) (grid_fair hg)) (Ev.bind (turnI_f hg h4 h5) (Ev.bind (rowSums_f (by rw [colsI_length]; omega) (colsI_fair hg)) (Ev.now _)))
 ·
  rw [if_neg hg]; exact Ev.now _
end Go.Proofs.Ytojcnapdalpnmaa.K
namespace Go.Proofs.Ytojcnapdalpnmaa.K
open Go.RowKit Go.Proofs.YtojcnapdalpnmaaW.PrintWords Go.Proofs.YtojcnapdalpnmaaW.PrintMore Go.Proofs.Ytojcnapdalpnmaa.P
def swEq (r o c b : Int) (x : S41) : Bool := x.f0 == r && (x.f1 == o && (x.f2 == c && x.f3 == b))
theorem found_l0 (t out : List (List Int)) (ok : Bool) (r o c b : Int) (y : Bool) : ∀ (rest done : List S41) (f : Bool), (done ++ rest).length ≤ 1048576 →
  Ev (fun k => laws_FnSwitchesKeepSums.l0 k t out ok (f || rest.any (swEq r o c b)) (done ++ rest) ((done ++ rest).length : Int) ((done ++ rest).length : Int) r o c b) y →
  Ev (fun k => laws_FnSwitchesKeepSums.l0 k t out ok f (done ++ rest) ((done ++ rest).length : Int) (done.length : Int) r o c b) y := by
 intro rest
 induction rest with
 | nil => intro done f h hy; simpa using hy
 | cons x rest ih =>
  intro done f h hy
  obtain ⟨q1, q2, q3, q4, q5⟩ := midW x done rest h
  have hh : (done ++ [x] ++ rest).length ≤ 1048576 := by rw [q5]; exact h
  refine Ev.step (fun k => by rw [laws_FnSwitchesKeepSums.l0]) ?_
  simp only [if_pos q1, if_pos q2, q3, q4]
  cases f with
  | true =>
   have ih' := ih (done ++ [x]) true hh
   rw [q5] at ih'
   simp only [if_true]
   exact ih' (by simpa using hy)
  | false =>
   have ih' := ih (done ++ [x]) (swEq r o c b x) hh
   rw [q5] at ih'
   simp only [Bool.false_eq_true, if_false]
   exact ih' (by simpa using hy)
theorem any_swB {l : List (List Int)} {r o c b : Int} : (sws l).any (swEq r o c b) = swB l r o c b := by
 rw [Bool.eq_iff_iff, ← sws_swB, List.any_eq_true]
 simp only [swEq, Bool.and_eq_true, beq_iff_eq]
end Go.Proofs.Ytojcnapdalpnmaa.K
namespace Go.Proofs.Ytojcnapdalpnmaa.Pure
open Go.RowKit Go.Proofs.YtojcnapdalpnmaaW.PrintWords Go.Proofs.Ytojcnapdalpnmaa.P Go.Proofs.Ytojcnapdalpnmaa.K
theorem FnSwitchesKeepSums : laws_FnSwitchesKeepSums.Pure := by
 intro l0 l1 hm0 hz0 hw0 hm1 hz1 hw1
 refine Ev.rounds ?_
 unfold laws_FnSwitchesKeepSums.f
 by_cases hb1 : l0.length > 1048576
 ·
  have e : laws_big.f l0 l1 = some true := by unfold laws_big.f; rw [if_pos (by omega)]
  simp only [e, Option.bind_some, if_true]; exact Ev.now _
 by_cases hb2 : l0.length + l1.length > 1048576
 ·
  simp only [big_f hb1, decide_eq_true hb2, Option.bind_some, if_true]; exact Ev.now _
 simp only [big_f hb1, decide_eq_false hb2, Option.bind_some, Bool.false_eq_true, if_false]
 obtain ⟨t, r, o, c, b, hd, ht⟩ := drawDoSwitch_ok (bytes_of (by omega) hw0)
 refine Ev.bind hd ?_
 have hi := impl_DoSwitch_f r o c b ht
 have hs := spec_DoSwitch_f r o c b ht
 have tb := ht.bm
 by_cases hg : gridB t = true
 ·
  obtain ⟨g1, g2, g3, g4, g5⟩ := grid_get hg
  have gs := grid_shape hg
  have tail : ∀ (out : List (List Int)) (ok : Bool), (∀ y, Ev (fun k => laws_FnSwitchesKeepSums.l0 k t out ok (swB t r o c b) (sws t) ((sws t).length : Int) ((sws t).length : Int) r o c b) y → Ev (fun k => laws_FnSwitchesKeepSums.j0 k t out ok false r o c b) y) := by
   intro out ok y hy
   have i1 : Ev (fun k => impl_GridSwitches.f k t) (sws t, true) := by
    unfold impl_GridSwitches.f
    simp only [IsGrid_f t tb.1 tb.2, Option.bind_some, if_pos hg]
    exact Ev.bind (switches_f hg) (Ev.now _)
   have i2 : Ev (fun k => spec_GridSwitches.f k t) (sws t, true) := by
    unfold spec_GridSwitches.f
    exact Ev.bind (maGrid_f t tb.1 tb.2) (evPos hg (Ev.bind (maSwitches_f hg) (Ev.now _)))
   have i3 : Ev (fun k => impl_IsOnlyGrid.f k t) (((sws t).length : Int) == 0, true) := by
    unfold impl_IsOnlyGrid.f
    simp only [IsGrid_f t tb.1 tb.2, Option.bind_some, if_pos hg]
    exact Ev.bind (switches_f hg) (Ev.now _)
   refine Ev.step (fun k => by rw [laws_FnSwitchesKeepSums.j0]) ?_
   simp only [Bool.false_eq_true, if_false]
   refine Ev.bind i1 (Ev.bind i2 (Ev.bind i3 ?_))
   simp only [bne_self_eq_false, Bool.false_eq_true, if_false, if_true]
   refine Ev.bind (pSwitches_same _ (by have := sws_le hg; omega)) ?_
   simp only [if_true]
   refine Ev.step (fun k => by rw [laws_FnSwitchesKeepSums.j1]) ?_
   simp only [Bool.false_eq_true, if_false, if_true]
   refine found_l0 t out ok r o c b y (sws t) [] false (by have := sws_le hg; simp; omega) ?_
   rw [Bool.false_or, any_swB, List.nil_append]
   exact hy
  have lend : ¬ ((sws t).length : Int) < ((sws t).length : Int) := by omega
  by_cases hb : swB t r o c b = true
  ·
   rw [if_pos ⟨hg, hb⟩] at hi hs
   have hfo : Fit (mapRows (swNum r o c b) 0 t) := mapRows_bd ht
   simp only [hi, Option.bind_some]
   refine Ev.bind hs ?_
   simp only [bne_self_eq_false, Bool.false_eq_true, if_false]
   refine Ev.bind (pSameRows_same _ hfo) ?_
   refine tail _ _ true ?_
   refine Ev.step (fun k => by rw [laws_FnSwitchesKeepSums.l0]) ?_
   rw [hb]
   simp only [if_neg lend, bne_self_eq_false, Bool.false_eq_true, if_false, if_true]
   obtain ⟨r', o', c', b', rfl, rfl, rfl, rfl, q1, q2, q3, q4, q5⟩ := swB_nat.1 hb
   rw [pSw_eq t q1] at hfo ⊢
   have gs2 := pSw_shape gs (show r' < t.length by omega) q2 (show c' < (rd_L1 t 0).length by omega) q4
   have hg2 := shape_grid gs2 ⟨g1, g2⟩ ⟨g3, g4⟩
   have hq := isSw_at.1 q5
   have hv := gs.2.2
   have v1 := hv r' c' (by omega) (by omega)
   have v2 := hv r' b' (by omega) (by omega)
   have v3 := hv o' c' (by omega) (by omega)
   have v4 := hv o' b' (by omega) (by omega)
   have hsum : gSums (pSw t r' o' c' b') = gSums t := gSums_ext gs2 gs (by omega)
    (fun i hi => pSw_rows gs (by omega) q2 (by omega) q4 (by omega) (by omega) (by omega) i hi)
    (fun j hj => pSw_cols gs (by omega) q2 (by omega) q4 (by omega) (by omega) (by omega) j hj)
   have s1 := Ev.pair (impl_SumsOfGrid_f tb.1 tb.2) (if_pos hg)
   have s2 := Ev.pair (impl_SumsOfGrid_f hfo.bm.1 hfo.bm.2) (if_pos hg2)
   rw [hsum] at s2
   have hap := GridsApart_f gs gs2 ⟨g1, g2⟩ ⟨g3, g4⟩
   rw [apart_pSw gs (by omega) q2 (by omega) q4 (by omega) (by omega)] at hap
   have hsw2 : swB (pSw t r' o' c' b') r' o' c' b' = true := swB_nat.2 ⟨r', o', c', b', rfl, rfl, rfl, rfl, q1, by rw [gs2.1]; exact q2, q3, Nat.lt_of_lt_of_eq q4 (gs2.2.1 0 (by omega)).symm, pSw_isSw gs (by omega) q2 (by omega) q4 q5⟩
   have hback := impl_DoSwitch_f (r' : Int) (o' : Int) (c' : Int) (b' : Int) hfo
   rw [if_pos ⟨hg2, hsw2⟩, pSw_eq _ q1, pSw_twice gs (by omega) q2 (by omega) q4] at hback
   refine Ev.bind s1 (Ev.bind s2 (Ev.bind hap ?_))
   simp only [hback, Option.bind_some, if_true]
   have z1 : (gSums t).1.length ≤ 1048576 := by simp [gSums]; omega
   have z2 : (gSums t).2.length ≤ 1048576 := by simp [gSums, colsI_length]; omega
   refine Ev.bind (Ev.pair (pSame_f _ _ z1) (decide_eq_true rfl)) ?_
   simp only [if_true]
   refine Ev.bind (Ev.pair (pSame_f _ _ z2) (decide_eq_true rfl)) ?_
   simp only [if_true]
   exact Ev.bind (pSameRows_same _ ht) (Ev.now _)
  ·
   rw [if_neg (fun h => hb h.2)] at hi hs
   simp only [hi, Option.bind_some]
   refine Ev.bind hs ?_
   simp only [bne_self_eq_false, Bool.false_eq_true, if_false]
   refine Ev.bind (pSameRows_same [] ⟨by simp, by simp⟩) ?_
   refine tail _ _ true ?_
   refine Ev.step (fun k => by rw [laws_FnSwitchesKeepSums.l0]) ?_
   have hb' : swB t r o c b = false := by simpa using hb
   rw [hb']
   simp only [if_neg lend, bne_self_eq_false, Bool.false_eq_true, if_false]
   exact Ev.now _
 ·
  rw [if_neg (fun h => hg h.1)] at hi hs
  simp only [hi, Option.bind_some]
  refine Ev.bind hs ?_
  simp only [bne_self_eq_false, Bool.false_eq_true, if_false]
  refine Ev.bind (pSameRows_same [] ⟨by simp, by simp⟩) ?_
  have i1 : Ev (fun k => impl_GridSwitches.f k t) ([], false) := by
   unfold impl_GridSwitches.f
   simp only [IsGrid_f t tb.1 tb.2, Option.bind_some, if_neg hg]
   exact Ev.now _
  have i2 : Ev (fun k => spec_GridSwitches.f k t) ([], false) := by
   unfold spec_GridSwitches.f
   exact Ev.bind (maGrid_f t tb.1 tb.2) (evNeg hg (Ev.now _))
  have i3 : Ev (fun k => impl_IsOnlyGrid.f k t) (false, false) := by
   unfold impl_IsOnlyGrid.f
   simp only [IsGrid_f t tb.1 tb.2, Option.bind_some, if_neg hg]
   exact Ev.now _
  refine Ev.step (fun k => by rw [laws_FnSwitchesKeepSums.j0]) ?_
  simp only [Bool.not_true, Bool.false_eq_true, if_false]
  refine Ev.bind i1 (Ev.bind i2 (Ev.bind i3 ?_))
  simp only [bne_self_eq_false, Bool.false_eq_true, if_false]
  refine Ev.bind (pSwitches_same _ (by simp)) ?_
  simp only [if_true]
  refine Ev.step (fun k => by rw [laws_FnSwitchesKeepSums.j1]) ?_
  simp only [Bool.false_eq_true, if_false]
  exact Ev.now _
end Go.Proofs.Ytojcnapdalpnmaa.Pure
namespace Go.Proofs.Ytojcnapdalpnmaa.fnSwitchesKeepSums
open Go.ChangeShapes Go.WideShapes Go.ChangeAt Go.RowKit
open Go.ChangeMaps (open_string shut_string)
theorem own : ownKnob Try.prog.godebug = none := by kernel_rfl
theorem laidOut : laidOutB Try.prog = true := by kernel_rfl
def IsRow (k : IntKind) (w : World) (a : Option Addr) (len cap : Nat) (zs : List Int) : Prop :=
 (a = none ∧ len = 0 ∧ cap = 0 ∧ zs = []) ∨
 ∃ x, a = some x ∧ len ≤ cap ∧ cap ≤ maxLen ∧ zs.length = cap ∧ (∀ i, i < zs.length → w.cell? (x.add i) = some (.int k (zs.getD i 0))) ∧ ∀ n ∈ zs, (Lit.int k n).wf = true
set_option maxRecDepth 100000 in
theorem lifted (os : Os) (started : os.Started) (H : Type) (enc : TypeId × Value → H) :
  ReturnsInHanded {} Try.checked os 15 .any (Rows.fnSwitchesKeepSumsSpec.pre6 enc Try.prog Try.f15 Rows.fnSwitchesKeepSumsRow.domain false) (Rows.fnSwitchesKeepSumsSpec.post enc Try.prog Try.f15 false true false false) := by
 refine returnsInHanded_of_change_sized (C := Try.checked) own started (by kernel_rfl) Try.func15
  (ChangeSpec.witness6 (enc := enc) (C := Try.checked) false ⟨#[], #[.slice none 0 0, .slice none 0 0], []⟩ 8 (by kernel_rfl) (by kernel_rfl) (by kernel_rfl) (by kernel_rfl)) ?_
 intro W base args ds gs before hval0 hW hcnd hsz0 _
 have hsz : (DataW.weightsEach Try.prog (Try.f15.params.toList ++ Rows.fnSwitchesKeepSumsSpec.plain.varTypes Try.prog) (ds ++ gs)).all (· ≤ reachBytes) = true := hsz0
 have hval : ∀ (j : Nat) t v, Try.f15.params[j]? = some t → args[j]? = some v → Value.okWide Try.prog W .any base t v := hval0
 have hW' := hW
 obtain ⟨p, q, hA0, hV, rfl, hfz, hnd⟩ := hW
 have hA : DataW.TrodAll enc Try.prog W 0 (fun _ => true) true Try.f15.params.toList args.toList ds p := hA0
 rw [Try.params15] at hA hval hsz
 obtain ⟨v0, vs0, d0, ds0, p0, q0, hargs, rfl, rfl, h0, r0⟩ := trodAll_cons hA
 obtain ⟨v1, vs1, d1, ds1, p1, q1, rfl, rfl, rfl, h1, r1⟩ := trodAll_cons r0
 obtain ⟨rfl, rfl, rfl⟩ := trodAll_nil r1
 obtain rfl : args = #[v0, v1] := by cases args; simp_all
 obtain ⟨rfl, rfl⟩ := trodVars_none hV
 obtain ⟨a0, len0, cap0, rfl⟩ := okWide_slice Try.underlying54 (hval 0 54 v0 rfl rfl)
 have k0 := h0
 have lt0 : ∀ x ∈ p0, x.block < W.heap.size := by obtain ⟨m, hm⟩ := k0; exact DataW.trod_lt m _ _ _ hm
 obtain ⟨z0, w0⟩ : ∃ zs, IsRow .u8 W a0 len0 cap0 zs := by
  obtain ⟨fuel, hf⟩ := h0
  rcases open_ints Try.underlying54 Try.underlying5 (by kernel_rfl) hf with ⟨hcs, _⟩ | ⟨x, l, c, zs, hcs, _, hl, hm, hz, _, hcell, hwz⟩
  ·
   simp [Value.cells] at hcs
   obtain ⟨rfl, rfl, rfl⟩ := hcs
   exact ⟨[], .inl ⟨rfl, rfl, rfl, rfl⟩⟩
  ·
   simp [Value.cells] at hcs
   obtain ⟨rfl, rfl, rfl⟩ := hcs
   exact ⟨zs, .inr ⟨_, rfl, hl, hm, by simpa using hz, hcell, hwz⟩⟩
 have y0 : len0 * 1 ≤ 140737488351232 := Go.Proofs.YtojcnapdalpnmaaW.PrintWords.sized_ints hsz (j := 0) (t := 54) rfl rfl Try.underlying54 Try.underlying5 (by kernel_rfl) (by kernel_rfl) h0
 obtain ⟨a1, len1, cap1, rfl⟩ := okWide_slice Try.underlying54 (hval 1 54 v1 rfl rfl)
 have k1 := h1
 have lt1 : ∀ x ∈ p1, x.block < W.heap.size := by obtain ⟨m, hm⟩ := k1; exact DataW.trod_lt m _ _ _ hm
 obtain ⟨z1, w1⟩ : ∃ zs, IsRow .u8 W a1 len1 cap1 zs := by
  obtain ⟨fuel, hf⟩ := h1
  rcases open_ints Try.underlying54 Try.underlying5 (by kernel_rfl) hf with ⟨hcs, _⟩ | ⟨x, l, c, zs, hcs, _, hl, hm, hz, _, hcell, hwz⟩
  ·
   simp [Value.cells] at hcs
   obtain ⟨rfl, rfl, rfl⟩ := hcs
   exact ⟨[], .inl ⟨rfl, rfl, rfl, rfl⟩⟩
  ·
   simp [Value.cells] at hcs
   obtain ⟨rfl, rfl, rfl⟩ := hcs
   exact ⟨zs, .inr ⟨_, rfl, hl, hm, by simpa using hz, hcell, hwz⟩⟩
 have y1 : len1 * 1 ≤ 140737488351232 := Go.Proofs.YtojcnapdalpnmaaW.PrintWords.sized_ints hsz (j := 1) (t := 54) rfl rfl Try.underlying54 Try.underlying5 (by kernel_rfl) (by kernel_rfl) h1
 clear hA0 hval0 hsz0 hsz
 refine (P.laws_FnSwitchesKeepSums.walk Pure.FnSwitchesKeepSums a0 len0 cap0 z0 a1 len1 cap1 z1 W w0 y0 w1 y1).mono fun e W' ⟨he, bel⟩ => ?_
 subst he
 exact ⟨_, rfl, _, _, _, [], _, [], hW', trodAll_mk1 (shut_bool Try.underlying4 _), (trodAll_cons_mk (Below.trod laidOut (by kernel_rfl) (of_decide_eq_true (by kernel_rfl)) k0 bel lt0) (trodAll_cons_mk (Below.trod laidOut (by kernel_rfl) (of_decide_eq_true (by kernel_rfl)) k1 bel lt1) trodAll_mk0)), rfl, bel.frame _, fun h => by cases h⟩
set_option maxHeartbeats 4000000 in
theorem joined : joinedFacts Try.prog 15 Try.f15 Rows.fnSwitchesKeepSumsSpec Rows.fnSwitchesKeepSumsRow = true := by
 unfold joinedFacts
 repeat' (with_reducible refine (Bool.and_eq_true _ _).mpr ⟨?_, ?_⟩)
 all_goals first
  | (with_reducible exact Head.mayEnter)
  | ((with_reducible rw [Head.lifts]); rfl)
  | ((with_reducible rw [Head.make]); rfl)
  | (as_aux_lemma => kernel_rfl)
theorem over : Rows.fnSwitchesKeepSumsRow.holds Try.pinned (OpenSpec.ofChange Rows.fnSwitchesKeepSumsSpec) :=
 OpenClaim.holds_of_wide 15 Try.f15 rfl rfl rfl rfl rfl rfl rfl ⟨rfl, rfl, rfl, rfl, rfl⟩ rfl rfl rfl rfl rfl (by kernel_rfl) Try.func15 joined
  (of_decide_eq_true (by kernel_rfl)) (by unfold Func.isWrapper; first | (rw [if_pos (by decide +kernel)]; kernel_rfl) | (rw [if_neg (by decide +kernel)]; exact ⟨rfl, rfl⟩))
  (fun os started H enc _ => lifted os started H enc)
theorem proved : Rows.FnSwitchesKeepSumsSaid := over
#print axioms proved
end Go.Proofs.Ytojcnapdalpnmaa.fnSwitchesKeepSums
namespace Go.Proofs.Ytojcnapdalpnmaa
theorem fnSwitchesKeepSums_holds : Rows.FnSwitchesKeepSumsSaid := fnSwitchesKeepSums.proved
end Go.Proofs.Ytojcnapdalpnmaa
