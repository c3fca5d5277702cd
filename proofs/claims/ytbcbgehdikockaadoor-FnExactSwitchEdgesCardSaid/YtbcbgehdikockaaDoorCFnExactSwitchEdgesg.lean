/- The row of the law FnExactSwitchEdges: contracts and plain lemmas for the law FnExactSwitchEdges, part 7 of 7 (what the Go functions answer). -/
import Derived.Laws.BitsLemmas
import Derived.ProofKit
import Derived.OpenShut
import Derived.Deep.Matrix
import Derived.Lib.SmallJoins
import Derived.Test.YtbcbgehdikockaaDoorRows
import Derived.Test.YtbcbgehdikockaaDoorCards
import Derived.Test.YtbcbgehdikockaaDoorTie
import Derived.Deep.DeepHandedRow
import Derived.Lib.LaidTab
import Derived.Stop.LaidErr
import Derived.WalkKit
import Derived.ShutString
import Derived.ChangeOld
import Derived.Below
import Derived.SizedLaws
import Derived.Test.YtbcbgehdikockaaDoorCFnExactSwitchEdgesa
import Derived.Test.YtbcbgehdikockaaDoorCFnExactSwitchEdgesb
import Derived.Test.YtbcbgehdikockaaDoorCFnExactSwitchEdgesc
import Derived.Test.YtbcbgehdikockaaDoorCFnExactSwitchEdgesd
import Derived.Test.YtbcbgehdikockaaDoorCFnExactSwitchEdgese
import Derived.Test.YtbcbgehdikockaaDoorCFnExactSwitchEdgesf
set_option linter.unusedVariables false
set_option linter.unusedSimpArgs false
namespace Go.Proofs.YtbcbgehdikockaaDoor.K
open Go.RowKit Go.Proofs.YtbcbgehdikockaaDoorW.PrintWords
abbrev BM : Nat := 17592186044416
theorem wrap_id {x : Int} (h1 : -9223372036854775808 ≤ x) (h2 : x < 9223372036854775808) : wrap64 x = x := by unfold wrap64; omega
theorem mid (x : Int) (done rest : List Int) (h : (done ++ x :: rest).length ≤ BM) :
    ((done.length : Int) < ((done ++ x :: rest).length : Int)) ∧ 0 ≤ (done.length : Int) ∧ rd (done ++ x :: rest) (done.length : Int) = x ∧ wrap64 ((done.length : Int) + 1) = ((done ++ [x]).length : Int) ∧ done ++ [x] ++ rest = done ++ x :: rest := by
  simp only [BM] at h
  refine ⟨by simp; omega, by omega, by simp [rd], ?_, by simp⟩
  simp at h ⊢
  unfold wrap64; omega
theorem Ev.ite {α : Type} {c : Prop} [Decidable c] {f g : Nat → Option α} {r : α} (h1 : c → Ev f r) (h2 : ¬ c → Ev g r) : Ev (fun k => if c then f k else g k) r := by
  by_cases h : c
  · simpa [h] using h1 h
  · simpa [h] using h2 h
theorem Ev.some {α : Type} {r r' : α} (h : r = r') : Ev (fun _ => Option.some r) r' := h ▸ Ev.now r
theorem Ev.pair {α : Type} {f : Nat → Option α} {r r' : α} (h : Ev f r) (e : r = r') : Ev f r' := e ▸ h
theorem set_mid (y x : Int) (done rest : List Int) : (done ++ y :: rest).set (done.length : Int).toNat x = done ++ [x] ++ rest := by simp
def EvB (g : Nat → Option Bool) (P : Prop) : Prop := (P → Ev g true) ∧ (¬ P → Ev g false)
theorem EvB.congr {g : Nat → Option Bool} {P Q : Prop} (h : EvB g P) (e : P ↔ Q) : EvB g Q := ⟨fun q => h.1 (e.2 q), fun q => h.2 (fun p => q (e.1 p))⟩
theorem EvB.ev {g : Nat → Option Bool} {P : Prop} (h : EvB g P) : ∃ b : Bool, Ev g b ∧ (b = true ↔ P) := by
  by_cases p : P
  · exact ⟨true, h.1 p, by simp [p]⟩
  · exact ⟨false, h.2 p, by simp [p]⟩
theorem EvB.of {g : Nat → Option Bool} {P : Prop} {b : Bool} (h : Ev g b) (e : b = true ↔ P) : EvB g P := by
  cases b with
  | true => exact ⟨fun _ => h, fun p => absurd (e.1 rfl) p⟩
  | false => exact ⟨fun p => absurd (e.2 p) (by simp), fun _ => h⟩
theorem EvB.true_ : EvB (fun _ => some true) True := ⟨fun _ => Ev.now _, fun h => absurd trivial h⟩
theorem EvB.false_ : EvB (fun _ => some false) False := ⟨fun h => h.elim, fun _ => Ev.now _⟩
theorem EvB.now (b : Bool) : EvB (fun _ => some b) (b = true) := EvB.of (Ev.now b) Iff.rfl
theorem EvB.fn {g f : Nat → Option Bool} {P : Prop} (h : ∀ k, g k = f k) (k : EvB f P) : EvB g P := ⟨fun p => Ev.congr h (k.1 p), fun p => Ev.congr h (k.2 p)⟩
theorem EvB.step {g f : Nat → Option Bool} {P : Prop} (h : ∀ k, g (k + 1) = f k) (k : EvB f P) : EvB g P := ⟨fun p => Ev.step h (k.1 p), fun p => Ev.step h (k.2 p)⟩
theorem EvB.ite {c : Prop} [Decidable c] {f g : Nat → Option Bool} {P Q : Prop} (h1 : c → EvB f P) (h2 : ¬ c → EvB g Q) : EvB (fun k => if c then f k else g k) ((c ∧ P) ∨ (¬ c ∧ Q)) := by
  by_cases h : c
  · simpa [h] using h1 h
  · simpa [h] using h2 h
theorem EvB.and {c : Prop} [Decidable c] {f : Nat → Option Bool} {P : Prop} (h1 : c → EvB f P) : EvB (fun k => if c then f k else some false) (c ∧ P) := by
  by_cases h : c
  · simpa [h] using h1 h
  · simpa [h] using EvB.false_
theorem EvB.bind {α : Type} {g : Nat → Option α} {f : Nat → α → Option Bool} {a : α} {P : Prop} (h : Ev g a) (k : EvB (fun n => f n a) P) : EvB (fun n => (g n).bind (f n)) P :=
  ⟨fun p => Ev.bind h (k.1 p), fun p => Ev.bind h (k.2 p)⟩
theorem allLoop (g : Nat → Nat → Option Bool) (n : Nat) (P : Nat → Prop) (Q : Prop) (hend : EvB (g n) Q)
    (hs : ∀ j, j < n → ∀ R, EvB (g (j + 1)) R → EvB (g j) (P j ∧ R)) : ∀ d j, j + d = n → EvB (g j) ((∀ i, j ≤ i → i < n → P i) ∧ Q) := by
  intro d
  induction d with
  | zero =>
    intro j hj
    obtain rfl : j = n := by omega
    exact hend.congr ⟨fun q => ⟨fun i h1 h2 => by omega, q⟩, fun h => h.2⟩
  | succ d ih =>
    intro j hj
    refine (hs j (by omega) _ (ih (j + 1) (by omega))).congr ⟨?_, ?_⟩
    · rintro ⟨h1, h2, h3⟩
      refine ⟨fun i h4 h5 => ?_, h3⟩
      by_cases e : i = j
      · subst e; exact h1
      · exact h2 i (by omega) h5
    · rintro ⟨h1, h2⟩
      exact ⟨h1 j (Nat.le_refl _) (by omega), fun i h4 h5 => h1 i (by omega) h5, h2⟩
theorem allLoop0 (g : Nat → Nat → Option Bool) (n : Nat) (P : Nat → Prop) (Q : Prop) (hend : EvB (g n) Q)
    (hs : ∀ j, j < n → ∀ R, EvB (g (j + 1)) R → EvB (g j) (P j ∧ R)) : EvB (g 0) ((∀ i, i < n → P i) ∧ Q) :=
  (allLoop g n P Q hend hs n 0 (by omega)).congr ⟨fun h => ⟨fun i hi => h.1 i (Nat.zero_le _) hi, h.2⟩, fun h => ⟨fun i _ hi => h.1 i hi, h.2⟩⟩
theorem wrap_nat (i : Nat) (h : i < 9223372036854775807) : wrap64 ((i : Int) + 1) = ((i + 1 : Nat) : Int) := by unfold wrap64; omega
def ints (ns : List Nat) : List Int := ns.map (fun n : Nat => (n : Int))
theorem ints_length (ns : List Nat) : (ints ns).length = ns.length := by simp [ints]
theorem rd_ints (ns : List Nat) (i : Nat) : rd (ints ns) (i : Int) = ((ns.getD i 0 : Nat) : Int) := by
  simp only [rd, ints, Int.toNat_natCast, List.getD_eq_getElem?_getD, List.getElem?_map]
  cases ns[i]? <;> simp
theorem ints_of (l : List Int) (h : ∀ x ∈ l, 0 ≤ x) : ∃ ns, l = ints ns := by
  refine ⟨l.map Int.toNat, ?_⟩
  simp only [ints, List.map_map]
  rw [List.map_congr_left (g := id) (fun x hx => by have := h x hx; simp; omega)]
  simp
theorem ints_set (ns : List Nat) (i v : Nat) : (ints ns).set (i : Int).toNat (v : Int) = ints (ns.set i v) := by simp [ints, List.map_set]
end Go.Proofs.YtbcbgehdikockaaDoor.K
namespace Go.Proofs.YtbcbgehdikockaaDoor.K
open Go.RowKit Go.Proofs.YtbcbgehdikockaaDoorW.PrintWords Go.Proofs.YtbcbgehdikockaaDoor.P
def within (a b : Int) (l : List Int) : Bool := l.all fun n => decide (a ≤ n) && decide (n ≤ b)
theorem l1All_l0 (a b : Int) : ∀ (rest done : List Int), (done ++ rest).length ≤ BM → Ev (fun k => spec_l1All.l0 k a b (done ++ rest) (done ++ rest).length done.length) (within a b rest) := by
  intro rest
  induction rest with
  | nil => intro done h; exact Ev.step (fun k => by simp [spec_l1All.l0]; rfl) (Ev.some (by simp [within]))
  | cons x rest ih =>
    intro done h
    have ih' := ih (done ++ [x])
    obtain ⟨h1, h2, h3, h4, h5⟩ := mid x done rest h
    rw [h5] at ih'
    refine Ev.step (fun k => by rw [spec_l1All.l0]) ?_
    simp only [if_pos h1, if_pos h2, h3, h4, spec_l1In.f]
    by_cases ha : x ≥ a
    · by_cases hb : x ≤ b
      · simpa [ha, hb, within] using ih' h
      · simpa [ha, hb, within] using Ev.now _
    · simpa [ha, within] using Ev.now _
theorem allWithin_eq : ∀ k a b xs n i, impl_allWithin.l0 k a b xs n i = spec_l1All.l0 k a b xs n i := by
  intro k
  induction k with
  | zero => intros; rfl
  | succ k ih => intros; simp only [impl_allWithin.l0, spec_l1All.l0, ih, impl_within.f, spec_l1In.f]
theorem l1All_f (l : List Int) (a b : Int) (h : l.length ≤ BM) : Ev (fun k => spec_l1All.f k l a b) (within a b l) := l1All_l0 a b l [] h
theorem allWithin_f (l : List Int) (a b : Int) (h : l.length ≤ BM) : Ev (fun k => impl_allWithin.f k l a b) (within a b l) := Ev.congr (fun k => allWithin_eq ..) (l1All_f l a b h)
theorem l1In_f (n a b : Int) : spec_l1In.f n a b = some (decide (a ≤ n) && decide (n ≤ b)) := by
  unfold spec_l1In.f; by_cases h : a ≤ n <;> simp [h]
theorem within_f (n a b : Int) : impl_within.f n a b = some (decide (a ≤ n) && decide (n ≤ b)) := l1In_f n a b
end Go.Proofs.YtbcbgehdikockaaDoor.K
namespace Go.Proofs.YtbcbgehdikockaaDoor.K
open Go.RowKit Go.Proofs.YtbcbgehdikockaaDoorW.PrintWords Go.Proofs.YtbcbgehdikockaaDoorW.PrintMore
theorem wrap_i64 (n : Int) (h0 : 0 ≤ n) (h1 : n < 2 ^ 62) : IntKind.i64.wrap n = n := by
  have : IntKind.i64.wrap n = wrap64 n := by simp [IntKind.wrap, IntKind.bits, IntKind.signed, wrap64]; omega
  rw [this]; unfold wrap64; omega
theorem and_nat (a b : Nat) (ha : a < 2 ^ 62) (hb : b < 2 ^ 62) : Go.bits .and .i64 (a : Int) (b : Int) = ((a &&& b : Nat) : Int) := (bits_nat .i64 62 (by decide) wrap_i64 a b ha hb).1
theorem or_nat (a b : Nat) (ha : a < 2 ^ 62) (hb : b < 2 ^ 62) : Go.bits .or .i64 (a : Int) (b : Int) = ((a ||| b : Nat) : Int) := (bits_nat .i64 62 (by decide) wrap_i64 a b ha hb).2
theorem bv_nat (a : Nat) (ha : a < 2 ^ 62) : a % 2 ^ 64 = a := Nat.mod_eq_of_lt (by omega)
theorem xor_nat (a b : Nat) (ha : a < 2 ^ 62) (hb : b < 2 ^ 62) : Go.bits .xor .i64 (a : Int) (b : Int) = ((a ^^^ b : Nat) : Int) := by
  simp only [Go.bits, show IntKind.i64.bits = 64 from rfl, BitVec.ofInt_natCast, BitVec.toNat_xor, BitVec.toNat_ofNat, bv_nat a ha, bv_nat b hb]
  exact wrap_i64 _ (by omega) (by exact_mod_cast Nat.xor_lt_two_pow ha hb)
theorem shl_one (i : Nat) (h : i ≤ 61) : shl .i64 1 (i : Int) = ((2 ^ i : Nat) : Int) := by
  unfold shl
  have h1 : min ((i : Int).toNat) IntKind.i64.bits = i := by simp [show IntKind.i64.bits = 64 from rfl]; omega
  rw [h1, Int.one_mul]
  have h2 : 2 ^ i ≤ 2 ^ 61 := Nat.pow_le_pow_right (by decide) h
  rw [wrap_i64 _ (by exact_mod_cast Nat.zero_le (2 ^ i)) (by exact_mod_cast Nat.lt_of_le_of_lt h2 (by decide))]
  exact_mod_cast rfl
theorem shr_nat (a i : Nat) (ha : a < 2 ^ 62) : shr .i64 (a : Int) (i : Int) = ((a >>> i : Nat) : Int) := by
  unfold shr
  rw [Nat.shiftRight_eq_div_pow]
  have e : min ((i : Int).toNat) IntKind.i64.bits = min i 64 := by simp [show IntKind.i64.bits = 64 from rfl]
  rw [e]
  have : a / 2 ^ i = a / 2 ^ (min i 64) := by
    by_cases h : i ≤ 64
    · rw [Nat.min_eq_left h]
    · rw [Nat.min_eq_right (by omega), Nat.div_eq_of_lt (Nat.lt_of_lt_of_le ha (Nat.pow_le_pow_right (by decide) (by omega))), Nat.div_eq_of_lt (Nat.lt_of_lt_of_le ha (by decide))]
  rw [this]
  exact_mod_cast rfl
theorem bit_one (a : Nat) (i : Nat) : (a >>> i) &&& 1 = if a.testBit i then 1 else 0 := by
  rw [Nat.and_one_is_mod, Nat.testBit, Nat.and_comm, Nat.and_one_is_mod]
  rcases Nat.mod_two_eq_zero_or_one (a >>> i) with h | h <;> simp [h]
theorem bit_mod (a : Nat) (i : Nat) : (a >>> i) % 2 = if a.testBit i then 1 else 0 := by rw [← Nat.and_one_is_mod, bit_one]
theorem hasB (a i : Nat) (ha : a < 2 ^ 62) : (Go.bits .and .i64 (shr .i64 (a : Int) (i : Int)) 1 == 1) = a.testBit i := by
  rw [shr_nat a i ha, show (1 : Int) = ((1 : Nat) : Int) from rfl, and_nat _ _ (Nat.lt_of_le_of_lt (by rw [Nat.shiftRight_eq_div_pow]; exact Nat.div_le_self _ _) ha) (by decide), bit_one]
  cases a.testBit i <;> rfl
theorem deHasB (a i : Nat) (ha : a < 2 ^ 62) : (Int.tmod (shr .i64 (a : Int) (i : Int)) 2 == 1) = a.testBit i := by
  rw [shr_nat a i ha, show (2 : Int) = ((2 : Nat) : Int) from rfl, ← Int.ofNat_tmod, bit_mod]
  cases a.testBit i <;> rfl
end Go.Proofs.YtbcbgehdikockaaDoor.K
namespace Go.Proofs.YtbcbgehdikockaaDoor.K
open Go.RowKit Go.Proofs.YtbcbgehdikockaaDoorW.PrintWords Go.Proofs.YtbcbgehdikockaaDoorW.PrintMore Go.Proofs.YtbcbgehdikockaaDoor.P
def nb (ns : List Nat) (i j : Nat) : Bool := (ns.getD i 0).testBit j
structure Sets (n : Nat) (ns : List Nat) : Prop where
  n1 : 1 ≤ n
  n8 : n ≤ 8
  len : ns.length = n
  lt : ∀ x ∈ ns, x < 2 ^ n
theorem Sets.get {n : Nat} {ns : List Nat} (h : Sets n ns) (i : Nat) : ns.getD i 0 < 2 ^ n := by
  rw [List.getD_eq_getElem?_getD]
  cases e : ns[i]? with
  | none => simp; exact Nat.two_pow_pos n
  | some x => exact h.lt x (List.mem_of_getElem? e)
theorem pow8 {n : Nat} (h : n ≤ 8) : 2 ^ n ≤ 256 := Nat.le_trans (Nat.pow_le_pow_right (by decide) h) (by decide)
theorem Sets.get62 {n : Nat} {ns : List Nat} (h : Sets n ns) (i : Nat) : ns.getD i 0 < 2 ^ 62 := Nat.lt_of_lt_of_le (h.get i) (Nat.le_trans (pow8 h.n8) (by decide))
theorem Sets.nb_lt {n : Nat} {ns : List Nat} (h : Sets n ns) {i j : Nat} (hj : n ≤ j) : nb ns i j = false :=
  Nat.testBit_lt_two_pow (Nat.lt_of_lt_of_le (h.get i) (Nat.pow_le_pow_right (by decide) hj))
def Near (n : Nat) (ns : List Nat) : Prop := Sets n ns ∧ ∀ i, i < n → nb ns i i = false
theorem has_f (a i : Nat) (h : a < 2 ^ 62) : impl_has.f (a : Int) (i : Int) = some (a.testBit i) := by
  unfold impl_has.f; rw [if_pos (by omega), hasB a i h]
theorem deHas_f (a i : Nat) (h : a < 2 ^ 62) : spec_deHas.f (a : Int) (i : Int) = some (a.testBit i) := by
  unfold spec_deHas.f; rw [if_pos (by omega), deHasB a i h]
theorem has_nb {n : Nat} {ns : List Nat} (h : Sets n ns) (i j : Nat) : impl_has.f ((ns.getD i 0 : Nat) : Int) (j : Int) = some (nb ns i j) := has_f _ _ (h.get62 i)
theorem deHas_nb {n : Nat} {ns : List Nat} (h : Sets n ns) (i j : Nat) : spec_deHas.f ((ns.getD i 0 : Nat) : Int) (j : Int) = some (nb ns i j) := deHas_f _ _ (h.get62 i)
theorem sets_iff (a : Int) (l : List Int) : ((1 ≤ a ∧ a ≤ 8) ∧ (l.length : Int) = a ∧ within 0 (wrap64 (shl .i64 1 a - 1)) l = true) ↔ ∃ n ns, a = ((n : Nat) : Int) ∧ l = ints ns ∧ Sets n ns := by
  constructor
  · rintro ⟨⟨h1, h2⟩, h3, h4⟩
    obtain ⟨n, rfl⟩ := Int.eq_ofNat_of_zero_le (show 0 ≤ a by omega)
    have hp := pow8 (show n ≤ 8 by omega)
    have hp0 := Nat.two_pow_pos n
    have e : wrap64 (shl .i64 1 (n : Int) - 1) = ((2 ^ n - 1 : Nat) : Int) := by
      rw [shl_one n (by omega)]; unfold wrap64; omega
    rw [e] at h4
    simp only [within, List.all_eq_true, Bool.and_eq_true, decide_eq_true_eq] at h4
    obtain ⟨ns, rfl⟩ := ints_of l (fun x hx => (h4 x hx).1)
    rw [ints_length] at h3
    exact ⟨n, ns, rfl, rfl, by omega, by omega, by omega, fun x hx => by have := (h4 x (List.mem_map.2 ⟨x, hx, rfl⟩)).2; omega⟩
  · rintro ⟨n, ns, rfl, rfl, h⟩
    have hp := pow8 h.n8
    have hp0 := Nat.two_pow_pos n
    have := h.n1; have := h.n8; have := h.len
    have e : wrap64 (shl .i64 1 (n : Int) - 1) = ((2 ^ n - 1 : Nat) : Int) := by
      rw [shl_one n (by omega)]; unfold wrap64; omega
    rw [e]
    refine ⟨⟨by omega, by omega⟩, by rw [ints_length]; omega, ?_⟩
    simp only [within, List.all_eq_true, Bool.and_eq_true, decide_eq_true_eq, ints, List.mem_map]
    rintro x ⟨y, hy, rfl⟩
    have := h.lt y hy
    omega
theorem near_l0 {n : Nat} {ns : List Nat} (h : Sets n ns) : EvB (fun k => impl_areNear.l0 k (ints ns) (n : Int) 0) (∀ i, i < n → nb ns i i = false) := by
  have hl := h.len
  have hn := h.n8
  refine (allLoop0 (fun j k => impl_areNear.l0 k (ints ns) (n : Int) (j : Int)) n (fun i => nb ns i i = false) True ?_ ?_).congr (by simp)
  · exact EvB.step (fun k => by rw [impl_areNear.l0, if_neg (by omega)]) EvB.true_
  · intro j hj R hR
    have e : _ = nb ns j j := hasB (ns.getD j 0) j (h.get62 j)
    refine EvB.step (f := fun k => if nb ns j j = false then impl_areNear.l0 k (ints ns) n ((j + 1 : Nat) : Int) else some false) (fun k => ?_) (EvB.and fun _ => hR)
    rw [impl_areNear.l0, if_pos (by omega), if_pos (by omega), if_pos (by rw [ints_length]; omega), rd_ints, wrap_nat j (by omega)]
    cases hb : nb ns j j with
    | true => rw [if_pos (by rw [hb] at e; simpa using e), if_neg (by simp)]
    | false => rw [if_neg (by rw [hb] at e; simpa using e), if_pos rfl]
theorem areNear_f (a : Int) (l : List Int) (hl : l.length ≤ BM) : EvB (fun k => impl_areNear.f k a l) (∃ n ns, a = ((n : Nat) : Int) ∧ l = ints ns ∧ Near n ns) := by
  have hj : ∀ l, Ev (fun k => impl_areNear.j0 k l true) false := fun l => Ev.step (fun k => by rw [impl_areNear.j0]) (by simpa using Ev.now _)
  have no : ∀ {g : Nat → Option Bool}, ¬ ((1 ≤ a ∧ a ≤ 8) ∧ (l.length : Int) = a ∧ within 0 (wrap64 (shl .i64 1 a - 1)) l = true) → Ev g false → EvB g (∃ n ns, a = ((n : Nat) : Int) ∧ l = ints ns ∧ Near n ns) := by
    intro g h1 h2
    exact ⟨fun ⟨n, ns, e1, e2, h⟩ => absurd ((sets_iff a l).2 ⟨n, ns, e1, e2, h.1⟩) h1, fun _ => h2⟩
  unfold impl_areNear.f
  simp only [within_f, Option.bind_some]
  by_cases h1 : 1 ≤ a ∧ a ≤ 8
  · rw [show (decide (1 ≤ a) && decide (a ≤ 8)) = true by simp; omega]
    simp only [if_true]
    by_cases h2 : (l.length : Int) = a
    · have h3 : 0 ≤ a := by omega
      simp only [if_pos h2, if_pos h3]
      refine EvB.bind (allWithin_f l 0 _ hl) ?_
      cases h4 : within 0 (wrap64 (shl .i64 1 a - 1)) l with
      | false => exact no (by simp [h4]) (hj l)
      | true =>
        obtain ⟨n, ns, rfl, rfl, hs⟩ := (sets_iff a l).1 ⟨h1, h2, h4⟩
        refine EvB.step (fun k => by rw [impl_areNear.j0]) ?_
        simp only [Bool.not_true, Bool.false_eq_true, if_false, h2]
        refine (near_l0 hs).congr ⟨fun h => ⟨n, ns, rfl, rfl, hs, h⟩, ?_⟩
        rintro ⟨n', ns', e1, e2, h⟩
        obtain rfl : n = n' := by omega
        obtain rfl : ns = ns' := by
          have := congrArg (List.map Int.toNat) e2
          simpa [ints, Function.comp_def] using this
        exact h.2
    · simp only [if_neg h2]
      exact no (fun h => h2 h.2.1) (hj l)
  · rw [show (decide (1 ≤ a) && decide (a ≤ 8)) = false by simp; omega]
    exact no (fun h => h1 h.1) (by simpa using hj l)
theorem ints_inj {ns ms : List Nat} (h : ints ns = ints ms) : ns = ms := by
  have := congrArg (List.map Int.toNat) h
  simpa [ints, Function.comp_def] using this
def mem8 (a : Nat) : List Nat := (List.range 8).filter fun i => a.testBit i
theorem members_all : (List.range 256).all (fun a => impl_members.f 10 (a : Int) == some (ints (mem8 a))) = true := by decide +kernel
theorem members_f (a : Nat) (h : a < 256) : Ev (fun k => impl_members.f k (a : Int)) (ints (mem8 a)) := by
  have := List.all_eq_true.1 members_all a (List.mem_range.2 h)
  exact Ev.of (fun k => impl_members.mono _ k) (beq_iff_eq.1 this)
theorem Sets.b256 {n : Nat} {ns : List Nat} (h : Sets n ns) (i : Nat) : ns.getD i 0 < 256 := Nat.lt_of_lt_of_le (h.get i) (pow8 h.n8)
theorem mem8_mem {n : Nat} {ns : List Nat} (h : Sets n ns) (i j : Nat) : j ∈ mem8 (ns.getD i 0) ↔ j < n ∧ nb ns i j = true := by
  simp only [mem8, List.mem_filter, List.mem_range]
  constructor
  · rintro ⟨h1, h2⟩
    refine ⟨?_, h2⟩
    refine Nat.lt_of_not_le fun hh => ?_
    have := h.nb_lt (i := i) hh
    unfold nb at this
    rw [h2] at this; cases this
  · rintro ⟨h1, h2⟩
    exact ⟨by have := h.n8; omega, h2⟩
theorem getD_mem {l : List Nat} {p : Nat} (h : p < l.length) : l.getD p 0 ∈ l := by
  rw [List.getD_eq_getElem?_getD, List.getElem?_eq_getElem h]; exact List.getElem_mem h
theorem mem_getD {l : List Nat} {x : Nat} (h : x ∈ l) : ∃ p, p < l.length ∧ l.getD p 0 = x := by
  obtain ⟨p, hp, rfl⟩ := List.getElem_of_mem h
  exact ⟨p, hp, by rw [List.getD_eq_getElem?_getD, List.getElem?_eq_getElem hp]; rfl⟩
theorem mem8_len (a : Nat) : (mem8 a).length ≤ 8 := by
  have := List.length_filter_le (fun i => a.testBit i) (List.range 8)
  simpa [mem8] using this
def Gr (n : Nat) (ns : List Nat) : Prop := Near n ns ∧ ∀ i, i < n → ∀ j, j < n → nb ns i j = true → nb ns j i = true
def IsGr (a : Int) (l : List Int) : Prop := ∃ n ns, a = ((n : Nat) : Int) ∧ l = ints ns ∧ Gr n ns
theorem graph_l1 {n : Nat} {ns : List Nat} (h : Sets n ns) (i : Nat) (hi : i < n) (R : Prop) (hR : EvB (fun k => impl_IsGraph.l0 k (ints ns) n ((i + 1 : Nat) : Int) n (ints ns)) R) :
    EvB (fun k => impl_IsGraph.l1 k i (ints ns) n i (ints (mem8 (ns.getD i 0))) ((mem8 (ns.getD i 0)).length : Int) ((0 : Nat) : Int) n (ints ns)) ((∀ j, j < n → nb ns i j = true → nb ns j i = true) ∧ R) := by
  have hl := h.len
  have hn := h.n8
  have hm := mem8_len (ns.getD i 0)
  refine (allLoop0 (fun p k => impl_IsGraph.l1 k i (ints ns) n i (ints (mem8 (ns.getD i 0))) ((mem8 (ns.getD i 0)).length : Int) (p : Int) n (ints ns)) (mem8 (ns.getD i 0)).length (fun p => nb ns ((mem8 (ns.getD i 0)).getD p 0) i = true) R ?_ ?_).congr ?_
  · refine EvB.step (fun k => ?_) hR
    rw [impl_IsGraph.l1, if_neg (by omega), wrap_nat i (by omega)]
  · intro p hp R hR
    have hg := (mem8_mem h i _).1 (getD_mem hp)
    refine EvB.step (f := fun k => if nb ns ((mem8 (ns.getD i 0)).getD p 0) i = true then impl_IsGraph.l1 k i (ints ns) n i (ints (mem8 (ns.getD i 0))) ((mem8 (ns.getD i 0)).length : Int) ((p + 1 : Nat) : Int) n (ints ns) else some false) (fun k => ?_) (EvB.and fun _ => hR)
    rw [impl_IsGraph.l1, if_pos (by omega), if_pos (by omega), if_pos (by rw [ints_length]; omega), rd_ints, if_pos (by omega), if_pos (by rw [ints_length]; omega), rd_ints, has_nb h, Option.bind_some, wrap_nat p (by omega)]
  · refine and_congr ⟨fun hh j hj hb => ?_, fun hh p hp => ?_⟩ Iff.rfl
    · obtain ⟨p, hp, rfl⟩ := mem_getD ((mem8_mem h i j).2 ⟨hj, hb⟩)
      exact hh p hp
    · obtain ⟨h1, h2⟩ := (mem8_mem h i _).1 (getD_mem hp)
      exact hh _ h1 h2
theorem graph_l0 {n : Nat} {ns : List Nat} (h : Sets n ns) : EvB (fun k => impl_IsGraph.l0 k (ints ns) n ((0 : Nat) : Int) n (ints ns)) (∀ i, i < n → ∀ j, j < n → nb ns i j = true → nb ns j i = true) := by
  have hl := h.len
  have hn := h.n8
  refine (allLoop0 (fun j k => impl_IsGraph.l0 k (ints ns) n (j : Int) n (ints ns)) n (fun i => ∀ j, j < n → nb ns i j = true → nb ns j i = true) True ?_ ?_).congr (by simp)
  · exact EvB.step (fun k => by rw [impl_IsGraph.l0, if_neg (by omega)]) EvB.true_
  · intro i hi R hR
    refine EvB.step (fun k => ?_) (EvB.bind (f := fun k (t : List Int) => impl_IsGraph.l1 k i (ints ns) n i t (t.length : Int) ((0 : Nat) : Int) n (ints ns)) (members_f (ns.getD i 0) (h.b256 i)) ?_)
    · rw [impl_IsGraph.l0, if_pos (by omega), if_pos (by omega), if_pos (by rw [ints_length]; omega), rd_ints]
      rfl
    · simp only [ints_length]
      exact graph_l1 h i hi R hR
theorem IsGraph_f (a : Int) (l : List Int) (hl : l.length ≤ BM) : EvB (fun k => impl_IsGraph.f k a l) (IsGr a l) := by
  unfold impl_IsGraph.f
  obtain ⟨b, hb, hbb⟩ := (areNear_f a l hl).ev
  refine EvB.bind hb ?_
  cases b with
  | false => exact ⟨fun ⟨n, ns, e1, e2, h⟩ => absurd (hbb.2 ⟨n, ns, e1, e2, h.1⟩) (by simp), fun _ => by simpa using Ev.now false⟩
  | true =>
    obtain ⟨n, ns, rfl, rfl, hn⟩ := hbb.1 rfl
    simp only [if_true, ints_length, hn.1.len]
    refine (graph_l0 hn.1).congr ⟨fun h => ⟨n, ns, rfl, rfl, hn, h⟩, ?_⟩
    rintro ⟨n', ns', e1, e2, h⟩
    obtain rfl : n = n' := by omega
    obtain rfl := ints_inj e2
    exact h.2
theorem dgood_l1 {n : Nat} {ns : List Nat} (h : Sets n ns) (i : Nat) (hi : i < n) (R : Prop) (hR : EvB (fun k => spec_deGood.l0 k (ints ns) n ((i + 1 : Nat) : Int) n (ints ns)) R) :
    EvB (fun k => spec_deGood.l1 k i ((ns.getD i 0 : Nat) : Int) (ints ns) n i n ((0 : Nat) : Int) n (ints ns)) ((∀ j, j < n → (nb ns i j = true → i ≠ j ∧ nb ns j i = true)) ∧ R) := by
  have hl := h.len
  have hn := h.n8
  refine allLoop0 (fun j k => spec_deGood.l1 k i ((ns.getD i 0 : Nat) : Int) (ints ns) n i n (j : Int) n (ints ns)) n (fun j => nb ns i j = true → i ≠ j ∧ nb ns j i = true) R ?_ ?_
  · refine EvB.step (fun k => ?_) hR
    rw [spec_deGood.l1, if_neg (by omega), wrap_nat i (by omega)]
  · intro j hj R hR
    refine EvB.step (f := fun k => if (nb ns i j = true → i ≠ j ∧ nb ns j i = true) then spec_deGood.l1 k i ((ns.getD i 0 : Nat) : Int) (ints ns) n i n ((j + 1 : Nat) : Int) n (ints ns) else some false) (fun k => ?_) (EvB.and fun _ => hR)
    rw [spec_deGood.l1, if_pos (by omega), deHas_nb h i, Option.bind_some, wrap_nat j (by omega)]
    by_cases e : nb ns i j = true
    · rw [if_pos e]
      by_cases hij : i = j
      · subst hij
        rw [if_pos rfl, if_neg (fun hh => (hh e).1 rfl)]
      · rw [if_neg (by omega), if_pos (by omega), if_pos (by rw [ints_length]; omega), rd_ints, deHas_nb h j, Option.bind_some]
        by_cases e2 : nb ns j i = true
        · rw [if_pos e2, if_pos (fun _ => ⟨hij, e2⟩)]
        · rw [if_neg e2, if_neg (fun hh => e2 (hh e).2)]
    · rw [if_neg e, if_pos (fun hh => absurd hh e)]
theorem dgood_l0 {n : Nat} {ns : List Nat} (h : Sets n ns) : EvB (fun k => spec_deGood.l0 k (ints ns) n ((0 : Nat) : Int) n (ints ns)) (∀ i, i < n → ∀ j, j < n → (nb ns i j = true → i ≠ j ∧ nb ns j i = true)) := by
  have hl := h.len
  have hn := h.n8
  refine (allLoop0 (fun j k => spec_deGood.l0 k (ints ns) n (j : Int) n (ints ns)) n (fun i => ∀ j, j < n → (nb ns i j = true → i ≠ j ∧ nb ns j i = true)) True ?_ ?_).congr (by simp)
  · exact EvB.step (fun k => by rw [spec_deGood.l0, if_neg (by omega)]) EvB.true_
  · intro i hi R hR
    refine EvB.step (fun k => ?_) (dgood_l1 h i hi R hR)
    rw [spec_deGood.l0, if_pos (by omega), if_pos (by omega), if_pos (by rw [ints_length]; omega), rd_ints, ints_length, hl]
    rfl
theorem gr_iff {n : Nat} {ns : List Nat} (h : Sets n ns) : (∀ i, i < n → ∀ j, j < n → (nb ns i j = true → i ≠ j ∧ nb ns j i = true)) ↔ Gr n ns := by
  constructor
  · intro g
    refine ⟨⟨h, fun i hi => ?_⟩, fun i hi j hj hb => (g i hi j hj hb).2⟩
    cases e : nb ns i i with
    | false => rfl
    | true => exact absurd rfl (g i hi i hi e).1
  · intro g i hi j hj hb
    refine ⟨fun e => ?_, g.2 i hi j hj hb⟩
    subst e
    rw [g.1.2 i hi] at hb; cases hb
theorem deGood_f (a : Int) (l : List Int) (hl : l.length ≤ BM) : EvB (fun k => spec_deGood.f k a l) (IsGr a l) := by
  have hj : ∀ a l, Ev (fun k => spec_deGood.j0 k true a l) false := fun a l => Ev.step (fun k => by rw [spec_deGood.j0]) (by simpa using Ev.now _)
  have no : ∀ {g : Nat → Option Bool}, ¬ ((1 ≤ a ∧ a ≤ 8) ∧ (l.length : Int) = a ∧ within 0 (wrap64 (shl .i64 1 a - 1)) l = true) → Ev g false → EvB g (IsGr a l) := by
    intro g h1 h2
    exact ⟨fun ⟨n, ns, e1, e2, h⟩ => absurd ((sets_iff a l).2 ⟨n, ns, e1, e2, h.1.1⟩) h1, fun _ => h2⟩
  unfold spec_deGood.f
  simp only [l1In_f, Option.bind_some]
  by_cases h1 : 1 ≤ a ∧ a ≤ 8
  · rw [show (decide (1 ≤ a) && decide (a ≤ 8)) = true by simp; omega]
    simp only [if_true]
    by_cases h2 : (l.length : Int) = a
    · have h3 : 0 ≤ a := by omega
      simp only [if_pos h2, if_pos h3]
      refine EvB.bind (l1All_f l 0 _ hl) ?_
      cases h4 : within 0 (wrap64 (shl .i64 1 a - 1)) l with
      | false => exact no (by simp [h4]) (hj a l)
      | true =>
        obtain ⟨n, ns, rfl, rfl, hs⟩ := (sets_iff a l).1 ⟨h1, h2, h4⟩
        refine EvB.step (fun k => by rw [spec_deGood.j0]) ?_
        simp only [Bool.not_true, Bool.false_eq_true, if_false, h2]
        refine (dgood_l0 hs).congr ⟨fun h => ⟨n, ns, rfl, rfl, (gr_iff hs).1 h⟩, ?_⟩
        rintro ⟨n', ns', e1, e2, h⟩
        obtain rfl : n = n' := by omega
        obtain rfl := ints_inj e2
        exact (gr_iff hs).2 h
    · simp only [if_neg h2]
      exact no (fun h => h2 h.2.1) (hj a l)
  · rw [show (decide (1 ≤ a) && decide (a ≤ 8)) = false by simp; omega]
    exact no (fun h => h1 h.1) (by simpa using hj a l)
end Go.Proofs.YtbcbgehdikockaaDoor.K
namespace Go.Proofs.YtbcbgehdikockaaDoor.K
open Go.RowKit Go.Proofs.YtbcbgehdikockaaDoorW.PrintWords Go.Proofs.YtbcbgehdikockaaDoorW.PrintMore Go.Proofs.YtbcbgehdikockaaDoor.P
set_option linter.unusedSectionVars false
def esw (ns : List Nat) (a b c d : Nat) : Bool :=
  if b = a then false else if c = a ∨ c = b then false else if d = a ∨ d = b ∨ d = c then false
  else nb ns a b && (nb ns c d && (!(nb ns a c) && !(nb ns b d)))
theorem within4 {n a b c d : Nat} (hn : 1 ≤ n) (h8 : n ≤ 8) (ha : a < n) (hb : b < n) (hc : c < n) (hd : d < n) : within 0 (wrap64 ((n : Int) - 1)) [(a : Int), (b : Int), (c : Int), (d : Int)] = true := by
  rw [wrap_id (by omega) (by omega)]
  simp [within]; omega
theorem l1Has_l0 (x : Int) (t : Int) : ∀ (rest done : List Int), (done ++ rest).length ≤ BM → Ev (fun k => spec_l1Has.l0 k x (done ++ rest) ((done ++ rest).length : Int) (done.length : Int)) (rest.any fun y => decide (y = x)) := by
  intro rest
  induction rest with
  | nil => intro done h; exact Ev.step (fun k => by simp [spec_l1Has.l0]; rfl) (Ev.some (by simp))
  | cons y rest ih =>
    intro done h
    obtain ⟨q1, q2, q3, q4, q5⟩ := mid y done rest h
    have ih' := ih (done ++ [y]) (by rw [q5]; exact h)
    rw [q5] at ih'
    refine Ev.step (fun k => by rw [spec_l1Has.l0]) ?_
    simp only [if_pos q1, if_pos q2, q3, q4]
    by_cases e : y = x
    · simp only [if_pos e]; exact Ev.some (by simp [e])
    · simp only [if_neg e]; exact Ev.pair ih' (by simp [e])
theorem l1Has_f (l : List Int) (x : Int) (h : l.length ≤ BM) : Ev (fun k => spec_l1Has.f k l x) (l.any fun y => decide (y = x)) := l1Has_l0 x 0 l [] h
section
variable {n : Nat} {ns : List Nat} (h : Sets n ns) {a b c d : Nat} (ha : a < n) (hb : b < n) (hc : c < n) (hd : d < n)
include h ha hb hc hd
theorem deSwitch_j0 (x : Bool) : Ev (fun k => spec_deSwitch.j0 k [(a : Int), (b : Int), (c : Int), (d : Int)] x (n : Int) (ints ns)) (!x && (nb ns a b && (nb ns c d && (!(nb ns a c) && !(nb ns b d))))) := by
  have hl := h.len
  have L : ((ints ns).length : Int) = (n : Int) := by rw [ints_length, hl]
  refine Ev.step (fun k => by rw [spec_deSwitch.j0]) ?_
  have e0 : rd [(a : Int), (b : Int), (c : Int), (d : Int)] 0 = (a : Int) := rfl
  have e1 : rd [(a : Int), (b : Int), (c : Int), (d : Int)] 1 = (b : Int) := rfl
  have e2 : rd [(a : Int), (b : Int), (c : Int), (d : Int)] 2 = (c : Int) := rfl
  have e3 : rd [(a : Int), (b : Int), (c : Int), (d : Int)] 3 = (d : Int) := rfl
  have hlen : (([(a : Int), (b : Int), (c : Int), (d : Int)] : List Int).length : Int) = 4 := rfl
  simp only [e0, e1, e2, e3, hlen, L, rd_ints, deHas_nb h, Option.bind_some, if_pos (show (0 : Int) < 4 by decide), if_pos (show (1 : Int) < 4 by decide), if_pos (show (2 : Int) < 4 by decide), if_pos (show (3 : Int) < 4 by decide), if_pos (show (0 : Int) ≤ (a : Int) by omega), if_pos (show (0 : Int) ≤ (b : Int) by omega), if_pos (show (0 : Int) ≤ (c : Int) by omega), if_pos (show (a : Int) < (n : Int) by omega), if_pos (show (b : Int) < (n : Int) by omega), if_pos (show (c : Int) < (n : Int) by omega)]
  cases x <;> cases nb ns a b <;> cases nb ns c d <;> cases nb ns a c <;> cases nb ns b d <;> exact Ev.now _
theorem deSwitch_f : Ev (fun k => spec_deSwitch.f k (n : Int) (ints ns) [(a : Int), (b : Int), (c : Int), (d : Int)]) (esw ns a b c d) := by
  have hl := h.len
  have w := l1All_f [(a : Int), (b : Int), (c : Int), (d : Int)] 0 (wrap64 ((n : Int) - 1)) (by simp [BM])
  rw [within4 h.n1 h.n8 ha hb hc hd] at w
  have e1 : rd [(a : Int), (b : Int), (c : Int), (d : Int)] 1 = (b : Int) := rfl
  have e2 : rd [(a : Int), (b : Int), (c : Int), (d : Int)] 2 = (c : Int) := rfl
  have e3 : rd [(a : Int), (b : Int), (c : Int), (d : Int)] 3 = (d : Int) := rfl
  have hlen : (([(a : Int), (b : Int), (c : Int), (d : Int)] : List Int).length : Int) = 4 := rfl
  have w1 := l1Has_f [(a : Int)] b (by simp [BM])
  have w2 := l1Has_f [(a : Int), (b : Int)] c (by simp [BM])
  have w3 := l1Has_f [(a : Int), (b : Int), (c : Int)] d (by simp [BM])
  have t1 : ([(a : Int), (b : Int), (c : Int), (d : Int)] : List Int).take 1 = [(a : Int)] := rfl
  have t2 : ([(a : Int), (b : Int), (c : Int), (d : Int)] : List Int).take 2 = [(a : Int), (b : Int)] := rfl
  have t3 : ([(a : Int), (b : Int), (c : Int), (d : Int)] : List Int).take 3 = [(a : Int), (b : Int), (c : Int)] := rfl
  have J := fun x => deSwitch_j0 h ha hb hc hd x
  unfold spec_deSwitch.f
  simp only [hlen, if_true, e1, e2, e3, t1, t2, t3, if_pos (show (1 : Int) ≤ 4 by decide), if_pos (show (2 : Int) ≤ 4 by decide), if_pos (show (3 : Int) ≤ 4 by decide), if_pos (show (1 : Int) < 4 by decide), if_pos (show (2 : Int) < 4 by decide), if_pos (show (3 : Int) < 4 by decide)]
  refine Ev.bind w ?_
  simp only [if_true]
  refine Ev.bind w1 ?_
  unfold esw
  by_cases q1 : b = a
  · rw [if_pos q1, show ([(a : Int)].any fun y => decide (y = (b : Int))) = true by simp [q1]]
    simp only [if_true]
    exact Ev.pair (J true) (by simp)
  · rw [if_neg q1, show ([(a : Int)].any fun y => decide (y = (b : Int))) = false by simp; omega]
    simp only [Bool.false_eq_true, if_false]
    refine Ev.bind w2 ?_
    by_cases q2 : c = a ∨ c = b
    · rw [if_pos q2, show ([(a : Int), (b : Int)].any fun y => decide (y = (c : Int))) = true by simp; omega]
      simp only [if_true]
      exact Ev.pair (J true) (by simp)
    · rw [if_neg q2, show ([(a : Int), (b : Int)].any fun y => decide (y = (c : Int))) = false by simp; omega]
      simp only [Bool.false_eq_true, if_false]
      refine Ev.bind w3 ?_
      by_cases q3 : d = a ∨ d = b ∨ d = c
      · rw [if_pos q3, show ([(a : Int), (b : Int), (c : Int)].any fun y => decide (y = (d : Int))) = true by simp; omega]
        exact Ev.pair (J true) (by simp)
      · rw [if_neg q3, show ([(a : Int), (b : Int), (c : Int)].any fun y => decide (y = (d : Int))) = false by simp; omega]
        exact Ev.pair (J false) (by simp)
theorem isEdgeSwitch_j1 (x : Bool) : Ev (fun k => impl_isEdgeSwitch.j1 k (a : Int) (b : Int) (c : Int) (d : Int) x (n : Int) (ints ns)) (!x && (nb ns a b && (nb ns c d && (!(nb ns a c) && !(nb ns b d))))) := by
  have hl := h.len
  have L : ((ints ns).length : Int) = (n : Int) := by rw [ints_length, hl]
  refine Ev.step (fun k => by rw [impl_isEdgeSwitch.j1]) ?_
  simp only [L, rd_ints, has_nb h, Option.bind_some, if_pos (show (0 : Int) ≤ (a : Int) by omega), if_pos (show (0 : Int) ≤ (b : Int) by omega), if_pos (show (0 : Int) ≤ (c : Int) by omega), if_pos (show (a : Int) < (n : Int) by omega), if_pos (show (b : Int) < (n : Int) by omega), if_pos (show (c : Int) < (n : Int) by omega)]
  cases x <;> cases nb ns a b <;> cases nb ns c d <;> cases nb ns a c <;> cases nb ns b d <;> exact Ev.now _
end
theorem isEdgeSwitch_f {n : Nat} {ns : List Nat} (h : Near n ns) {a b c d : Nat} (ha : a < n) (hb : b < n) (hc : c < n) (hd : d < n) : Ev (fun k => impl_isEdgeSwitch.f k (n : Int) (ints ns) [(a : Int), (b : Int), (c : Int), (d : Int)]) (esw ns a b c d) := by
  have w := allWithin_f [(a : Int), (b : Int), (c : Int), (d : Int)] 0 (wrap64 ((n : Int) - 1)) (by simp [BM])
  rw [within4 h.1.n1 h.1.n8 ha hb hc hd] at w
  have e0 : rd [(a : Int), (b : Int), (c : Int), (d : Int)] 0 = (a : Int) := rfl
  have e1 : rd [(a : Int), (b : Int), (c : Int), (d : Int)] 1 = (b : Int) := rfl
  have e2 : rd [(a : Int), (b : Int), (c : Int), (d : Int)] 2 = (c : Int) := rfl
  have e3 : rd [(a : Int), (b : Int), (c : Int), (d : Int)] 3 = (d : Int) := rfl
  have hlen : (([(a : Int), (b : Int), (c : Int), (d : Int)] : List Int).length : Int) = 4 := rfl
  have J := fun x => isEdgeSwitch_j1 h.1 ha hb hc hd x
  unfold impl_isEdgeSwitch.f
  simp only [hlen, if_true]
  refine Ev.bind w ?_
  refine Ev.step (fun k => by rw [impl_isEdgeSwitch.j0]) ?_
  simp only [Bool.not_true, Bool.false_eq_true, if_false, hlen, e0, e1, e2, e3, if_pos (show (0 : Int) < 4 by decide), if_pos (show (1 : Int) < 4 by decide), if_pos (show (2 : Int) < 4 by decide), if_pos (show (3 : Int) < 4 by decide)]
  have hno : ∀ i, i < n → nb ns i i = false := h.2
  unfold esw
  by_cases q1 : (a : Int) = d
  · simp only [if_pos q1]
    have : a = d := by omega
    exact Ev.pair (J true) (by simp [this])
  · simp only [if_neg q1]
    by_cases q2 : (b : Int) = c
    · simp only [if_pos q2]
      have : b = c := by omega
      exact Ev.pair (J true) (by simp [this])
    · simp only [if_neg q2]
      by_cases q3 : (a : Int) = c
      · simp only [if_pos q3]
        have : a = c := by omega
        exact Ev.pair (J true) (by simp [this])
      · simp only [if_neg q3]
        refine Ev.pair (J _) ?_
        by_cases q4 : b = d
        · subst q4; simp
        · have q4' : ¬ ((b : Int) = (d : Int)) := by omega
          by_cases q5 : b = a
          · subst q5; simp [hno b hb]
          · by_cases q6 : d = c
            · subst q6; simp [hno d hd]
            · simp [q4', show ¬ c = a by omega, show ¬ c = b by omega, show ¬ d = a by omega, show ¬ d = b by omega, q5, q6]
theorem getD_set (l : List Nat) (i k x : Nat) (hi : i < l.length) : (l.set i x).getD k 0 = if i = k then x else l.getD k 0 := by
  simp only [List.getD_eq_getElem?_getD, List.getElem?_set]
  by_cases e : i = k
  · simp [e, e ▸ hi]
  · simp [e]
theorem ext_getD {l m : List Nat} (h : l.length = m.length) (e : ∀ k, l.getD k 0 = m.getD k 0) : l = m := by
  refine List.ext_getElem h (fun k h1 h2 => ?_)
  have := e k
  rw [List.getD_eq_getElem?_getD, List.getD_eq_getElem?_getD, List.getElem?_eq_getElem h1, List.getElem?_eq_getElem h2] at this
  simpa using this
def joinN (ns : List Nat) (i j : Nat) : List Nat := (ns.set i (ns.getD i 0 ^^^ 2 ^ j)).set j (ns.getD j 0 ^^^ 2 ^ i)
theorem pow62 {i : Nat} (h : i < 8) : 2 ^ i < 2 ^ 62 := Nat.pow_lt_pow_right (by decide) (by omega)
theorem joinN_len (ns : List Nat) (i j : Nat) : (joinN ns i j).length = ns.length := by simp [joinN]
theorem joinN_get {ns : List Nat} {i j : Nat} (hi : i < ns.length) (hj : j < ns.length) (k : Nat) : (joinN ns i j).getD k 0 = if j = k then ns.getD j 0 ^^^ 2 ^ i else if i = k then ns.getD i 0 ^^^ 2 ^ j else ns.getD k 0 := by
  unfold joinN
  rw [getD_set _ _ _ _ (by simpa using hj), getD_set _ _ _ _ hi]
def Lo (ns : List Nat) : Prop := ∀ k, ns.getD k 0 < 2 ^ 62
theorem joinN_lo {ns : List Nat} (h : Lo ns) {i j : Nat} (hi : i < ns.length) (hj : j < ns.length) (h8 : ns.length ≤ 8) : Lo (joinN ns i j) := by
  intro k
  rw [joinN_get hi hj]
  split
  · exact Nat.xor_lt_two_pow (h _) (pow62 (by omega))
  · split
    · exact Nat.xor_lt_two_pow (h _) (pow62 (by omega))
    · exact h _
theorem join_f {ns : List Nat} (h : Lo ns) (n : Int) {i j : Nat} (hi : i < ns.length) (hj : j < ns.length) (h8 : ns.length ≤ 8) (hij : i ≠ j) : impl_Graph_join.f n (ints ns) (i : Int) (j : Int) = some (ints (joinN ns i j)) := by
  unfold impl_Graph_join.f
  rw [if_pos (by omega), if_pos (by rw [ints_length]; omega), if_pos (by omega), Option.bind_some, if_pos (by rw [ints_length]; omega), rd_ints, shl_one j (by omega), xor_nat _ _ (h i) (pow62 (by omega)), ints_set, rd_ints, shl_one i (by omega), getD_set _ _ _ _ hi, if_neg hij, xor_nat _ _ (h j) (pow62 (by omega)), ints_set]
  rfl
theorem xor_or {A b c : Nat} (h : b ≠ c) : A ^^^ (2 ^ b ||| 2 ^ c) = A ^^^ 2 ^ b ^^^ 2 ^ c := by
  refine Nat.eq_of_testBit_eq (fun i => ?_)
  simp only [Nat.testBit_xor, Nat.testBit_or, Nat.testBit_two_pow]
  by_cases e1 : b = i <;> by_cases e2 : c = i <;> simp_all
section
variable {n : Nat} {ns : List Nat} (h : Sets n ns) {a b c d : Nat} (ha : a < n) (hb : b < n) (hc : c < n) (hd : d < n) (h1 : b ≠ a) (h2 : c ≠ a) (h3 : c ≠ b) (h4 : d ≠ a) (h5 : d ≠ b) (h6 : d ≠ c)
include h ha hb hc hd h1 h2 h3 h4 h5 h6
def swE (ns : List Nat) (a b c d : Nat) : List Nat := joinN (joinN (joinN (joinN ns a b) c d) a c) b d
omit h ha hb hc hd h1 h2 h3 h4 h5 h6 in
theorem swE_len (ns : List Nat) (a b c d : Nat) : (swE ns a b c d).length = ns.length := by simp [swE, joinN_len]
theorem edgeSwitched_f : impl_edgeSwitched.f (n : Int) (ints ns) [(a : Int), (b : Int), (c : Int), (d : Int)] = some ((n : Int), ints (swE ns a b c d)) := by
  have hl := h.len
  have hn := h.n8
  have lo : Lo ns := h.get62
  have e0 : rd [(a : Int), (b : Int), (c : Int), (d : Int)] 0 = (a : Int) := rfl
  have e1 : rd [(a : Int), (b : Int), (c : Int), (d : Int)] 1 = (b : Int) := rfl
  have e2 : rd [(a : Int), (b : Int), (c : Int), (d : Int)] 2 = (c : Int) := rfl
  have e3 : rd [(a : Int), (b : Int), (c : Int), (d : Int)] 3 = (d : Int) := rfl
  have hlen : (([(a : Int), (b : Int), (c : Int), (d : Int)] : List Int).length : Int) = 4 := rfl
  have l1 : Lo (joinN ns a b) := joinN_lo lo (by omega) (by omega) (by omega)
  have l2 : Lo (joinN (joinN ns a b) c d) := joinN_lo l1 (by simp only [joinN_len]; omega) (by simp only [joinN_len]; omega) (by simp only [joinN_len]; omega)
  have l3 : Lo (joinN (joinN (joinN ns a b) c d) a c) := joinN_lo l2 (by simp only [joinN_len]; omega) (by simp only [joinN_len]; omega) (by simp only [joinN_len]; omega)
  have hcl : slices_Clone_int_int.f (ints ns) = some (ints ns) := by unfold slices_Clone_int_int.f; rw [if_pos (by rw [ints_length]; omega)]
  unfold impl_edgeSwitched.f
  simp only [hlen, e0, e1, e2, e3, hcl, Option.bind_some, if_pos (show (0 : Int) < 4 by decide), if_pos (show (1 : Int) < 4 by decide), if_pos (show (2 : Int) < 4 by decide), if_pos (show (3 : Int) < 4 by decide)]
  rw [join_f lo _ (by omega) (by omega) (by omega) (Ne.symm h1)]
  simp only [Option.bind_some]
  rw [join_f l1 _ (by simp only [joinN_len]; omega) (by simp only [joinN_len]; omega) (by simp only [joinN_len]; omega) (Ne.symm h6)]
  simp only [Option.bind_some]
  rw [join_f l2 _ (by simp only [joinN_len]; omega) (by simp only [joinN_len]; omega) (by simp only [joinN_len]; omega) (Ne.symm h2)]
  simp only [Option.bind_some]
  rw [join_f l3 _ (by simp only [joinN_len]; omega) (by simp only [joinN_len]; omega) (by simp only [joinN_len]; omega) (Ne.symm h5)]
  rfl
theorem or_pow {i j : Nat} (hi : i < n) (hj : j < n) : Go.bits .or .i64 (shl .i64 1 (i : Int)) (shl .i64 1 (j : Int)) = ((2 ^ i ||| 2 ^ j : Nat) : Int) := by
  have hn := h.n8
  rw [shl_one i (by omega), shl_one j (by omega), or_nat _ _ (pow62 (by omega)) (pow62 (by omega))]
theorem deSwitched_f : spec_deSwitched.f (n : Int) (ints ns) [(a : Int), (b : Int), (c : Int), (d : Int)] = some ((n : Int), ints (swE ns a b c d)) := by
  have hl := h.len
  have hn := h.n8
  have lo : Lo ns := h.get62
  have L : ((ints ns).length : Int) = (n : Int) := by rw [ints_length, hl]
  have e0 : rd [(a : Int), (b : Int), (c : Int), (d : Int)] 0 = (a : Int) := rfl
  have e1 : rd [(a : Int), (b : Int), (c : Int), (d : Int)] 1 = (b : Int) := rfl
  have e2 : rd [(a : Int), (b : Int), (c : Int), (d : Int)] 2 = (c : Int) := rfl
  have e3 : rd [(a : Int), (b : Int), (c : Int), (d : Int)] 3 = (d : Int) := rfl
  have hlen : (([(a : Int), (b : Int), (c : Int), (d : Int)] : List Int).length : Int) = 4 := rfl
  have ho : spec_l1Own.f (ints ns) = some (ints ns) := by unfold spec_l1Own.f; rw [Option.bind_some, if_pos (by rw [ints_length]; simp; omega)]; rfl
  have P := fun {i j : Nat} (hi : i < n) (hj : j < n) => or_pow h ha hb hc hd h1 h2 h3 h4 h5 h6 hi hj
  have lt : ∀ {i j : Nat}, i < n → j < n → 2 ^ i ||| 2 ^ j < 2 ^ 62 := fun hi hj => Nat.or_lt_two_pow (pow62 (by omega)) (pow62 (by omega))
  have s1 : ∀ (m : List Nat), m.length = n → ((ints m).length : Int) = (n : Int) := fun m hm => by rw [ints_length, hm]
  unfold spec_deSwitched.f
  simp only [hlen, e0, e1, e2, e3, ho, Option.bind_some, L, if_pos (show (0 : Int) < 4 by decide), if_pos (show (1 : Int) < 4 by decide), if_pos (show (2 : Int) < 4 by decide), if_pos (show (3 : Int) < 4 by decide), if_pos (show (0 : Int) ≤ (a : Int) by omega), if_pos (show (0 : Int) ≤ (b : Int) by omega), if_pos (show (0 : Int) ≤ (c : Int) by omega), if_pos (show (0 : Int) ≤ (d : Int) by omega), if_pos (show (a : Int) < (n : Int) by omega), if_pos (show (b : Int) < (n : Int) by omega), if_pos (show (c : Int) < (n : Int) by omega), if_pos (show (d : Int) < (n : Int) by omega)]
  rw [P hb hc, rd_ints, xor_nat _ _ (lo a) (lt hb hc), ints_set]
  rw [P ha hd, rd_ints, getD_set _ _ _ _ (by omega), if_neg (Ne.symm h1), xor_nat _ _ (lo b) (lt ha hd), ints_set]
  rw [P hd ha, rd_ints, getD_set _ _ _ _ (by simp; omega), if_neg (Ne.symm h3), getD_set _ _ _ _ (by omega), if_neg (Ne.symm h2), xor_nat _ _ (lo c) (lt hd ha), ints_set]
  rw [P hc hb, rd_ints, getD_set _ _ _ _ (by simp; omega), if_neg (Ne.symm h6), getD_set _ _ _ _ (by simp; omega), if_neg (Ne.symm h5), getD_set _ _ _ _ (by omega), if_neg (Ne.symm h4), xor_nat _ _ (lo d) (lt hc hb), ints_set]
  rw [xor_or (Ne.symm h3), xor_or (Ne.symm h4), xor_or h4, xor_or h3]
  congr 2
  congr 1
  refine ext_getD (by simp [swE_len]) (fun k => ?_)
  unfold swE
  have G1 := fun k => joinN_get (ns := joinN (joinN (joinN ns a b) c d) a c) (i := b) (j := d) (by simp only [joinN_len]; omega) (by simp only [joinN_len]; omega) k
  rw [getD_set _ _ _ _ (by simp; omega), getD_set _ _ _ _ (by simp; omega), getD_set _ _ _ _ (by simp; omega), getD_set _ _ _ _ (by omega)]
  have G := fun k => joinN_get (ns := joinN (joinN ns a b) c d) (i := a) (j := c) (by simp only [joinN_len]; omega) (by simp only [joinN_len]; omega) k
  have G2 := fun k => joinN_get (ns := joinN ns a b) (i := c) (j := d) (by simp only [joinN_len]; omega) (by simp only [joinN_len]; omega) k
  have G3 := fun k => joinN_get (ns := ns) (i := a) (j := b) (by omega) (by omega) k
  simp only [G1, G, G2, G3]
  have f1 := Ne.symm h1; have f2 := Ne.symm h2; have f3 := Ne.symm h3; have f4 := Ne.symm h4; have f5 := Ne.symm h5; have f6 := Ne.symm h6
  simp only [if_neg h1, if_neg h2, if_neg h3, if_neg h4, if_neg h5, if_neg h6, if_neg f1, if_neg f2, if_neg f3, if_neg f4, if_neg f5, if_neg f6, if_true]
  by_cases k4 : d = k
  · subst k4; simp [h1, h2, h3, h4, h5, h6, f1, f2, f3, f4, f5, f6]
  · by_cases k3 : c = k
    · subst k3; simp [h1, h2, h3, h4, h5, h6, f1, f2, f3, f4, f5, f6]
    · by_cases k2 : b = k
      · subst k2; simp [h1, h2, h3, h4, h5, h6, f1, f2, f3, f4, f5, f6]
      · by_cases k1 : a = k
        · subst k1; simp [h1, h2, h3, h4, h5, h6, f1, f2, f3, f4, f5, f6]
        · simp [k1, k2, k3, k4]
end
theorem four_of {n : Nat} {l : List Int} (hn : 1 ≤ n) (h8 : n ≤ 8) (hl : l.length = 4) (hw : within 0 (wrap64 ((n : Int) - 1)) l = true) : ∃ a b c d : Nat, l = [(a : Int), (b : Int), (c : Int), (d : Int)] ∧ a < n ∧ b < n ∧ c < n ∧ d < n := by
  rw [wrap_id (by omega) (by omega)] at hw
  match l, hl with
  | [x, y, z, u], _ =>
    simp [within] at hw
    obtain ⟨⟨x0, x1⟩, ⟨y0, y1⟩, ⟨z0, z1⟩, u0, u1⟩ := hw
    refine ⟨x.toNat, y.toNat, z.toNat, u.toNat, ?_, by omega, by omega, by omega, by omega⟩
    rw [Int.toNat_of_nonneg x0, Int.toNat_of_nonneg y0, Int.toNat_of_nonneg z0, Int.toNat_of_nonneg u0]
theorem isEdgeSwitch_no {n : Nat} {ns : List Nat} {l : List Int} (h : ¬ (l.length = 4 ∧ within 0 (wrap64 ((n : Int) - 1)) l = true)) : Ev (fun k => impl_isEdgeSwitch.f k (n : Int) (ints ns) l) false := by
  have J : Ev (fun k => impl_isEdgeSwitch.j0 k l true (n : Int) (ints ns)) false := Ev.step (fun k => by rw [impl_isEdgeSwitch.j0]) (by simpa using Ev.now _)
  unfold impl_isEdgeSwitch.f
  by_cases e : (l.length : Int) = 4
  · simp only [if_pos e]
    have w := allWithin_f l 0 (wrap64 ((n : Int) - 1)) (by simp only [BM]; omega)
    rw [show within 0 (wrap64 ((n : Int) - 1)) l = false by
      cases q : within 0 (wrap64 ((n : Int) - 1)) l with
      | false => rfl
      | true => exact absurd ⟨by omega, q⟩ h] at w
    exact Ev.bind w J
  · simp only [if_neg e]; exact J
theorem deSwitch_no {n : Nat} {ns : List Nat} {l : List Int} (h : ¬ (l.length = 4 ∧ within 0 (wrap64 ((n : Int) - 1)) l = true)) : Ev (fun k => spec_deSwitch.f k (n : Int) (ints ns) l) false := by
  have J : Ev (fun k => spec_deSwitch.j0 k l true (n : Int) (ints ns)) false := Ev.step (fun k => by rw [spec_deSwitch.j0]) (by simpa using Ev.now _)
  unfold spec_deSwitch.f
  by_cases e : (l.length : Int) = 4
  · simp only [if_pos e]
    have w := l1All_f l 0 (wrap64 ((n : Int) - 1)) (by simp only [BM]; omega)
    rw [show within 0 (wrap64 ((n : Int) - 1)) l = false by
      cases q : within 0 (wrap64 ((n : Int) - 1)) l with
      | false => rfl
      | true => exact absurd ⟨by omega, q⟩ h] at w
    refine Ev.bind w ?_
    simp only [Bool.false_eq_true, if_false]
    exact J
  · simp only [if_neg e]; exact J
theorem esw_true {ns : List Nat} {a b c d : Nat} (h : esw ns a b c d = true) : b ≠ a ∧ c ≠ a ∧ c ≠ b ∧ d ≠ a ∧ d ≠ b ∧ d ≠ c := by
  unfold esw at h
  by_cases q1 : b = a
  · simp [q1] at h
  · rw [if_neg q1] at h
    by_cases q2 : c = a ∨ c = b
    · simp [q2] at h
    · rw [if_neg q2] at h
      by_cases q3 : d = a ∨ d = b ∨ d = c
      · simp [q3] at h
      · omega
theorem SwitchEdges_ans (a0 : Int) (l0 l1 : List Int) (hl : l0.length ≤ 1048576) (hl1 : l1.length ≤ 1048576) : ∃ (wa0 : Int) (w0 : List Int) (wb : Bool), Ev (fun k => spec_SwitchEdges.f k a0 l0 l1) (wa0, w0, wb) ∧ Ev (fun k => impl_SwitchEdges.f k a0 l0 l1) (wa0, w0, wb) ∧ w0.length ≤ 1048576 := by
  have hB : l0.length ≤ BM := by simp only [BM]; omega
  by_cases hT : IsGr a0 l0
  · have e1 := (IsGraph_f a0 l0 hB).1 hT
    have e2 := (deGood_f a0 l0 hB).1 hT
    obtain ⟨n, ns, rfl, rfl, hT⟩ := hT
    have hS : Sets n ns := hT.1.1
    have hn := hS.n8
    have hl' := hS.len
    have no : Ev (fun k => impl_isEdgeSwitch.f k (n : Int) (ints ns) l1) false → Ev (fun k => spec_deSwitch.f k (n : Int) (ints ns) l1) false → ∃ (wa0 : Int) (w0 : List Int) (wb : Bool), Ev (fun k => spec_SwitchEdges.f k n (ints ns) l1) (wa0, w0, wb) ∧ Ev (fun k => impl_SwitchEdges.f k n (ints ns) l1) (wa0, w0, wb) ∧ w0.length ≤ 1048576 := fun i1 i2 => by
      refine ⟨0, [], false, ?_, ?_, by simp⟩
      · unfold spec_SwitchEdges.f
        refine Ev.bind e2 ?_
        simp only [if_true]
        refine Ev.bind i2 ?_
        simp only [Bool.false_eq_true, if_false]
        exact Ev.now _
      · unfold impl_SwitchEdges.f
        refine Ev.bind e1 ?_
        simp only [if_true]
        refine Ev.bind i1 ?_
        simp only [Bool.false_eq_true, if_false]
        exact Ev.now _
    by_cases h4 : l1.length = 4 ∧ within 0 (wrap64 ((n : Int) - 1)) l1 = true
    · obtain ⟨a, b, c, d, rfl, ha, hb, hc, hd⟩ := four_of hS.n1 hn h4.1 h4.2
      have i1 := isEdgeSwitch_f hT.1 ha hb hc hd
      have i2 := deSwitch_f hS ha hb hc hd
      cases e : esw ns a b c d with
      | false => rw [e] at i1 i2; exact no i1 i2
      | true =>
        rw [e] at i1 i2
        obtain ⟨q1, q2, q3, q4, q5, q6⟩ := esw_true e
        refine ⟨n, ints (swE ns a b c d), true, ?_, ?_, by rw [ints_length, swE_len]; omega⟩
        · unfold spec_SwitchEdges.f
          refine Ev.bind e2 ?_
          simp only [if_true]
          refine Ev.bind i2 ?_
          simp only [if_true, deSwitched_f hS ha hb hc hd q1 q2 q3 q4 q5 q6, Option.bind_some]
          exact Ev.now _
        · unfold impl_SwitchEdges.f
          refine Ev.bind e1 ?_
          simp only [if_true]
          refine Ev.bind i1 ?_
          simp only [if_true, edgeSwitched_f hS ha hb hc hd q1 q2 q3 q4 q5 q6, Option.bind_some]
          exact Ev.now _
    · exact no (isEdgeSwitch_no h4) (deSwitch_no h4)
  · have e1 := (IsGraph_f a0 l0 hB).2 hT
    have e2 := (deGood_f a0 l0 hB).2 hT
    refine ⟨0, [], false, ?_, ?_, by simp⟩
    · unfold spec_SwitchEdges.f
      refine Ev.bind e2 ?_
      simp only [Bool.false_eq_true, if_false]
      exact Ev.now _
    · unfold impl_SwitchEdges.f
      refine Ev.bind e1 ?_
      simp only [Bool.false_eq_true, if_false]
      exact Ev.now _
end Go.Proofs.YtbcbgehdikockaaDoor.K
namespace Go.Proofs.YtbcbgehdikockaaDoor.K
open Go.RowKit Go.Proofs.YtbcbgehdikockaaDoorW.PrintWords Go.Proofs.YtbcbgehdikockaaDoor.P
def seqFrom (a : Int) : Nat → List Int
  | 0 => []
  | n + 1 => a :: seqFrom (a + 1) n
theorem seqFrom_length (a : Int) (n : Nat) : (seqFrom a n).length = n := by
  induction n generalizing a with
  | zero => rfl
  | succ n ih => simp [seqFrom, ih]
theorem markIntS_l0 : ∀ (rest done : List Int) (b : Int), (done ++ rest).length ≤ BM → 0 ≤ b → b + rest.length ≤ 4611686018427387904 → Ev (fun k => laws_markIntS.l0 k (done ++ rest) b done.length) (b + rest.length, done ++ seqFrom b rest.length) := by
  intro rest
  induction rest with
  | nil => intro done b h _ _; exact Ev.step (fun k => by simp [laws_markIntS.l0]; rfl) (Ev.some (by simp [seqFrom]))
  | cons x rest ih =>
    intro done b h hb0 hb
    obtain ⟨h1, h2, h3, h4, h5⟩ := mid x done rest h
    have ih' := ih (done ++ [b]) (b + 1) (by simpa using h) (by omega) (by simp at hb; omega)
    refine Ev.step (fun k => by rw [laws_markIntS.l0]) ?_
    have h6 : wrap64 (b + 1) = b + 1 := wrap_id (by omega) (by simp at hb; omega)
    simp only [if_pos h1, if_pos h2, h4, h6, set_mid]
    refine Ev.pair ?_ (show (b + 1 + (rest.length : Int), done ++ [b] ++ seqFrom (b + 1) rest.length) = _ by simp [seqFrom]; omega)
    simpa using ih'
theorem markIntS_f (l : List Int) (a : Int) (h : l.length ≤ BM) (h0 : 0 ≤ a) (ha : a + l.length ≤ 4611686018427387904) : Ev (fun k => laws_markIntS.f k l a) (a + l.length, seqFrom a l.length) := markIntS_l0 l [] a h h0 ha
theorem heldIntS_l0 : ∀ (n : Nat) (done : List Int) (b : Int), (done ++ seqFrom b n).length ≤ BM → 0 ≤ b → b + n ≤ 4611686018427387904 → Ev (fun k => laws_heldIntS.l0 k (done ++ seqFrom b n) b done.length) (b + n) := by
  intro n
  induction n with
  | zero => intro done b h _ _; exact Ev.step (fun k => by simp [laws_heldIntS.l0, seqFrom]; rfl) (Ev.some (by simp))
  | succ n ih =>
    intro done b h hb0 hb
    simp only [seqFrom] at h ⊢
    obtain ⟨h1, h2, h3, h4, h5⟩ := mid b done (seqFrom (b + 1) n) h
    have ih' := ih (done ++ [b]) (b + 1) (by simpa using h) (by omega) (by omega)
    rw [h5] at ih'
    refine Ev.step (fun k => by rw [laws_heldIntS.l0]) ?_
    have h6 : wrap64 (b + 1) = b + 1 := wrap_id (by omega) (by omega)
    simp only [if_pos h1, if_pos h2, h3, h4, h6, if_true]
    exact Ev.pair ih' (by omega)
theorem heldIntS_f (a : Int) (n : Nat) (h : n ≤ BM) (h0 : 0 ≤ a) (ha : a + n ≤ 4611686018427387904) : Ev (fun k => laws_heldIntS.f k (seqFrom a n) a) (a + n) := heldIntS_l0 n [] a (by simpa [seqFrom_length] using h) h0 ha
theorem toIntS_l0 : ∀ (rest done : List Int) , (done ++ rest).length ≤ BM → Ev (fun k => laws_toIntS.l0 k (done ++ rest) (done ++ List.replicate rest.length 0) done.length) (done ++ rest) := by
  intro rest
  induction rest with
  | nil => intro done h; exact Ev.step (fun k => by simp [laws_toIntS.l0]; rfl) (Ev.some (by simp))
  | cons x rest ih =>
    intro done h
    have ih' := ih (done ++ [x])
    obtain ⟨h1, h2, h3, h4, h5⟩ := mid x done rest h
    rw [h5] at ih'
    refine Ev.step (fun k => by rw [laws_toIntS.l0]) ?_
    have h6 : (done.length : Int) < ((done ++ List.replicate (x :: rest).length (0:Int)).length : Int) := by simp; omega
    simp only [if_pos h1, if_pos h2, if_pos h6, h3, h4]
    rw [List.length_cons, List.replicate_succ, set_mid]
    exact ih' h
theorem toIntS_f (l : List Int) (h : l.length ≤ BM) : Ev (fun k => laws_toIntS.f k l) l := by
  unfold laws_toIntS.f
  simp only [BM] at h
  have e1 : 0 ≤ (l.length : Int) := by omega
  have e2 : (l.length : Int).toNat ≤ 35184372088832 := by omega
  simp only [if_pos e1, if_pos e2]
  exact toIntS_l0 l [] h
theorem eqIntS_l0 : ∀ (rest done rest2 done2 : List Int), done.length = done2.length → rest.length = rest2.length → (done ++ rest).length ≤ BM → Ev (fun k => laws_eqIntS.l0 k (done ++ rest) (done2 ++ rest2) done.length) (decide (rest = rest2)) := by
  intro rest
  induction rest with
  | nil =>
    intro done rest2 done2 hl hl2 h
    obtain rfl : rest2 = [] := by simpa using hl2.symm
    exact Ev.step (fun k => by simp [laws_eqIntS.l0]; rfl) (Ev.some (by simp))
  | cons x rest ih =>
    intro done rest2 done2 hl hl2 h
    obtain ⟨y, rest2, rfl⟩ : ∃ y r, rest2 = y :: r := by cases rest2 with | nil => simp at hl2 | cons y r => exact ⟨y, r, rfl⟩
    have ih' := ih (done ++ [x]) rest2 (done2 ++ [y]) (by simp [hl]) (by simpa using hl2)
    obtain ⟨h1, h2, h3, h4, h5⟩ := mid x done rest h
    have hh : (done2 ++ y :: rest2).length ≤ BM := by simp at h hl2 ⊢; omega
    obtain ⟨g1, g2, g3, g4, g5⟩ := mid y done2 rest2 hh
    rw [h5, g5] at ih'
    refine Ev.step (fun k => by rw [laws_eqIntS.l0]) ?_
    rw [← hl] at g1 g3
    simp only [if_pos h1, if_pos h2, if_pos g1, h3, h4, g3]
    refine Ev.ite (fun e => ?_) (fun e => ?_)
    · subst e; simpa using ih' h
    · exact Ev.some (by simp [e])
theorem eqIntS_f (l m : List Int) (h : l.length ≤ BM) : Ev (fun k => laws_eqIntS.f k l m) (decide (l = m)) := by
  unfold laws_eqIntS.f
  refine Ev.ite (fun e => ?_) (fun e => ?_)
  · exact eqIntS_l0 l [] m [] rfl (by omega) h
  · exact Ev.some (by symm; simp; rintro rfl; exact e rfl)
theorem eqIntS_same (l : List Int) (h : l.length ≤ BM) : Ev (fun k => laws_eqIntS.f k l l) true := by simpa using eqIntS_f l l h
theorem szIntS_f (l : List Int) (a : Int) (hl : l.length ≤ maxLen) (h0 : 0 ≤ a) (h1 : a ≤ 1048576) : ∃ r, laws_szIntS.f l a = some r ∧ (0 ≤ r → l.length ≤ a ∧ r ≤ a) := by
  unfold maxLen at hl
  have e : wrap64 (a - (l.length : Int)) = a - l.length := by unfold wrap64; omega
  unfold laws_szIntS.f
  rw [e]
  by_cases h : a - (l.length : Int) < 0
  · rw [if_pos h]; exact ⟨-1, rfl, by omega⟩
  · rw [if_neg h]; exact ⟨_, rfl, by omega⟩
theorem szGraph_f (n : Int) (l : List Int) (hl : l.length ≤ maxLen) : ∃ r, laws_szGraph.f n l 1048576 = some r ∧ (0 ≤ r → l.length ≤ 1048576) := by
  obtain ⟨r, h1, h2⟩ := szIntS_f l 1048576 hl (by omega) (by omega)
  unfold laws_szGraph.f
  rw [h1, Option.bind_some]
  by_cases h : r < 0
  · rw [if_pos h]; exact ⟨-1, rfl, by omega⟩
  · rw [if_neg h]; exact ⟨r, rfl, fun h => by have := (h2 h).1; omega⟩
theorem toGraph_f (n : Int) (l : List Int) (h : l.length ≤ BM) : Ev (fun k => laws_toGraph.f k n l) (n, l) := by
  unfold laws_toGraph.f
  exact Ev.bind (toIntS_f l h) (Ev.now _)
theorem eqGraphL_same (n : Int) (l : List Int) (h : l.length ≤ BM) : Ev (fun k => laws_eqGraph.f k n l n l) true := by
  unfold laws_eqGraph.f
  simp only [if_true]
  exact Ev.bind (eqIntS_same l h) (by simpa using Ev.now true)
theorem markGraph_f (n : Int) (l : List Int) (a : Int) (h : l.length ≤ BM) (h0 : 0 ≤ a) (ha : a + l.length ≤ 4611686018427387904) : Ev (fun k => laws_markGraph.f k n l a) (a + l.length, seqFrom a l.length) := by
  unfold laws_markGraph.f
  exact Ev.bind (markIntS_f l a h h0 ha) (Ev.now _)
theorem heldGraph_f (m : Int) (a : Int) (n : Nat) (h : n ≤ BM) (h0 : 0 ≤ a) (ha : a + n ≤ 4611686018427387904) : Ev (fun k => laws_heldGraph.f k m (seqFrom a n) a) (a + n) := by
  unfold laws_heldGraph.f
  refine Ev.bind (heldIntS_f a n h h0 ha) ?_
  rw [if_neg (by omega)]
  exact Ev.now _
end Go.Proofs.YtbcbgehdikockaaDoor.K
namespace Go.Proofs.YtbcbgehdikockaaDoor.Pure
open Go.RowKit Go.Proofs.YtbcbgehdikockaaDoorW.PrintWords Go.Proofs.YtbcbgehdikockaaDoor.P Go.Proofs.YtbcbgehdikockaaDoor.K
set_option maxRecDepth 10000 in
theorem FnExactSwitchEdges : ∀ (a0 : Int) (l0 : List Int) (l1 : List Int), (Lit.int .i64 a0).wf = true → l0.length ≤ maxLen → (∀ n ∈ l0, (Lit.int .i64 n).wf = true) → l1.length ≤ maxLen → (∀ n ∈ l1, (Lit.int .i64 n).wf = true) → l1.length * 8 ≤ 140737488351232 → laws_FnExactSwitchEdges.Good a0 l0 l1 true := by
  intro a0 l0 l1 hw_a0 hm0 hw0 hm1 hw1 hy1
  refine ⟨rfl, ?_⟩
  by_cases hl1 : 1048576 < l1.length
  · exact Or.inl hl1
  refine Or.inr ⟨by omega, ?_⟩
  have B1 : l1.length ≤ 1048576 := by omega
  obtain ⟨n0, hs0, hb0⟩ := szGraph_f a0 l0 hm0
  refine ⟨n0, hs0, ?_⟩
  by_cases hn0 : n0 < 0
  · exact Or.inl hn0
  refine Or.inr ⟨by omega, ?_⟩
  have B0 : l0.length ≤ 1048576 := hb0 (by omega)
  obtain ⟨wa0, w0, wb, hsp, him, W0⟩ := SwitchEdges_ans a0 l0 l1 B0 B1
  exact ⟨wa0, w0, (seqFrom 1 w0.length), (seqFrom 1 l0.length), (seqFrom (1 + (l0.length : Int)) l1.length), wb, (1 + (l0.length : Int)), ((1 + (l0.length : Int)) + (l1.length : Int)), (1 + (w0.length : Int)), Ev.rounds (toGraph_f a0 l0 (by have := B0; simp only [BM]; omega)), Ev.rounds (toIntS_f l1 (by have := B1; simp only [BM]; omega)), Ev.rounds (hsp), Ev.rounds (him), Ev.rounds (eqGraphL_same wa0 w0 (by have := W0; simp only [BM]; omega)), Ev.rounds (eqGraphL_same a0 l0 (by have := B0; simp only [BM]; omega)), Ev.rounds (eqIntS_same l1 (by have := B1; simp only [BM]; omega)), Ev.rounds (markGraph_f a0 l0 1 (by have := B0; simp only [BM]; omega) (by omega) (by have := B0; omega)), Ev.rounds (markIntS_f l1 (1 + (l0.length : Int)) (by have := B1; simp only [BM]; omega) (by omega) (by have := B1; omega)), Ev.rounds (markGraph_f wa0 w0 1 (by have := W0; simp only [BM]; omega) (by omega) (by have := W0; omega)), Ev.rounds (heldGraph_f wa0 1 w0.length (by have := W0; simp only [BM]; omega) (by omega) (by have := W0; omega)), by omega, by omega, by simp [seqFrom_length]⟩
end Go.Proofs.YtbcbgehdikockaaDoor.Pure
namespace Go.Proofs.YtbcbgehdikockaaDoor.K
open Go.RowKit Go.ChangeShapes Go.WideShapes Go.ChangeAt Go.Deep Go.Proofs.YtbcbgehdikockaaDoorW.PrintWords
section
variable {H : Type} {enc : TypeId × Value → H} {P : Program} {w : World}
theorem open_row {t e : TypeId} {fuel : Nat} {cs : List Value} {x : DataW H × List MemPlace} (ht : P.underlying t = some (.slice e)) (he : P.underlying e = some (.int .i64)) (hc : P.cellsOf e = 1)
    (h : DataW.trod enc P w 0 (fun _ => true) true fuel t cs = some x) :
    ∃ (A : Option Addr) (c : Nat) (l : List Int), cs = [.slice A l.length c] ∧ l.length ≤ c ∧ l.length ≤ maxLen ∧ (∀ n ∈ l, (Lit.int .i64 n).wf = true) ∧ Kd.C (Kd.int .i64) w A l.length l := by
  rcases open_ints ht he hc h with ⟨rfl, _⟩ | ⟨a, l, c, zs, rfl, _, hl, hm, hz, _, hcell, hwz⟩
  · exact ⟨none, 0, [], rfl, Nat.le_refl _, by simp [maxLen], by simp, Kd.C_nil _ _⟩
  · obtain ⟨l0, rfl, hr0, hm0, hw0, hc0⟩ := ReadsInt.ofRowC (k := .i64) (w := w) (a := some a) (len := l) (cap := c) (zs := zs) (.inr ⟨a, rfl, hl, hm, by simpa using hz, hcell, hwz⟩)
    exact ⟨some a, c, l0, rfl, hc0, hm0, hw0, Kd.C_of_reads (d := (0 : Int)) (h1 := fun _ => rfl) hr0⟩
end
end Go.Proofs.YtbcbgehdikockaaDoor.K
namespace Go.Proofs.YtbcbgehdikockaaDoor.fnExactSwitchEdges
open Go.ChangeShapes Go.WideShapes Go.ChangeAt Go.RowKit
open Go.ChangeMaps (open_string shut_string)
theorem own : ownKnob Tryd.prog.godebug = none := by kernel_rfl
theorem laidOut : laidOutB Tryd.prog = true := by kernel_rfl
theorem gTab : Tryd.prog.globalNamed "math/bits.deBruijn64tab" = some 1 := by kernel_rfl
theorem gTabType : (Tryd.prog.globals[1]?).map (·.type) = some 76 := by kernel_rfl
theorem cellsT : Tryd.prog.cellsOf 76 = 64 := by kernel_rfl
theorem cellsE : Tryd.prog.cellsOf 5 = 1 := by kernel_rfl
theorem table {W : World} (h : laidMetH Tryd.prog Rows.fnExactSwitchEdgesRow.laid W) : K.TabOK W := by
  have h2 : laidMet Tryd.prog [("math/bits.deBruijn32tab", Rows.laid_math_bits_deBruijn32tab), ("math/bits.deBruijn64tab", Rows.laid_math_bits_deBruijn64tab)] W := h
  have h3 : laidMet Tryd.prog (("math/bits.deBruijn64tab", Lib.tabData .u8 K.zs64) :: []) W := h2.tail
  have h4 := Lib.tabIs_of_head gTab gTabType Tryd.underlying76 Tryd.underlying5 cellsE cellsT h3
  intro j hj
  have h5 := h4.cell gTab j hj
  rw [h5, K.zs64_at j hj]
theorem contract (H : Type) (enc : TypeId × Value → H) (W : World) (base : Nat) (args : Array Value) (ds gs : List (DataW H)) (before : List MemPlace)
    (hval0 : ∀ (j : Nat) t v, Tryd.f7.params[j]? = some t → args[j]? = some v → Value.okWide Tryd.prog W .any base t v)
    (hW : DataW.Whole enc Tryd.prog Tryd.f7.params.toList Rows.fnExactSwitchEdgesSpec.vars false W args.toList ds gs before) (hsz0 : (DataW.weightsEach Tryd.prog (Tryd.f7.params.toList ++ Rows.fnExactSwitchEdgesSpec.plain.varTypes Tryd.prog) (ds ++ gs)).all (· ≤ reachBytes) = true) (hL : laidMetH Tryd.prog Rows.fnExactSwitchEdgesRow.laid W) :
    Calls Tryd.prog 7 args W fun e W' => ∃ v, e = .returned v ∧ Rows.fnExactSwitchEdgesSpec.post enc Tryd.prog Tryd.f7 false true false false W args v W' := by
  have hsz : (DataW.weightsEach Tryd.prog (Tryd.f7.params.toList ++ Rows.fnExactSwitchEdgesSpec.plain.varTypes Tryd.prog) (ds ++ gs)).all (· ≤ reachBytes) = true := hsz0
  have hval : ∀ (j : Nat) t v, Tryd.f7.params[j]? = some t → args[j]? = some v → Value.okWide Tryd.prog W .any base t v := hval0
  have hW' := hW
  obtain ⟨p, q, hA0, hV, rfl, hfz, hnd⟩ := hW
  have hA : DataW.TrodAll enc Tryd.prog W 0 (fun _ => true) true Tryd.f7.params.toList args.toList ds p := hA0
  rw [Tryd.params7] at hA hval hsz
  obtain ⟨v0, vs0, d0, ds0, p0, q0, hargs, rfl, rfl, h0, r0⟩ := trodAll_cons hA
  obtain ⟨v1, vs1, d1, ds1, p1, q1, rfl, rfl, rfl, h1, r1⟩ := trodAll_cons r0
  obtain ⟨rfl, rfl, rfl⟩ := trodAll_nil r1
  obtain rfl : args = #[v0, v1] := by cases args; simp_all
  obtain ⟨rfl, rfl⟩ := trodVars_none hV
  have k0 := h0
  have lt0 : ∀ x ∈ p0, x.block < W.heap.size := by obtain ⟨m, hm⟩ := k0; exact DataW.trod_lt m _ _ _ hm
  obtain ⟨u0_0, u0_1, y0_0, y0_1, m0, rfl, rfl, rfl, g0_0, g0_1⟩ := Joins.open_agg2 Tryd.underlying24 (by kernel_rfl) (by kernel_rfl) (hval 0 24 v0 rfl rfl) h0
  obtain ⟨a0_0, hcs0_0, _, w0_0⟩ := DataW.trod_int Tryd.underlying3 g0_0
  obtain rfl := List.singleton_inj.1 hcs0_0
  obtain ⟨A0_1, c0_1, l0_1, hcs0_1, hc0_1, hm0_1, hw0_1, hr0_1⟩ := K.open_row Tryd.underlying22 Tryd.underlying3 (by kernel_rfl) g0_1
  obtain rfl := List.singleton_inj.1 hcs0_1
  obtain ⟨a1, len1, cap1, rfl⟩ := okWide_slice Tryd.underlying22 (hval 1 22 v1 rfl rfl)
  have k1 := h1
  have lt1 : ∀ x ∈ p1, x.block < W.heap.size := by obtain ⟨m, hm⟩ := k1; exact DataW.trod_lt m _ _ _ hm
  have y1 : len1 * 8 ≤ 140737488351232 := Go.Proofs.YtbcbgehdikockaaDoorW.PrintWords.sized_ints hsz (j := 1) (t := 22) rfl rfl Tryd.underlying22 Tryd.underlying3 (by kernel_rfl) (by kernel_rfl) h1
  obtain ⟨fuel1, hf1⟩ := h1
  obtain ⟨A1, c1, l1, hcs1, hc1, hm1, hw1, hr1⟩ := K.open_row Tryd.underlying22 Tryd.underlying3 (by kernel_rfl) hf1
  simp only [Value.cells, List.cons.injEq, and_true, Value.slice.injEq] at hcs1
  obtain ⟨rfl, rfl, rfl⟩ := hcs1
  clear hA0 hval0 hsz0 hsz
  have hk := Pure.FnExactSwitchEdges a0_0 l0_1 l1 w0_0 hm0_1 hw0_1 hm1 hw1 y1
  refine (P.laws_FnExactSwitchEdges.calls a0_0 _ _ l0_1 _ _ l1 true W (table hL) hr0_1 hc0_1 hr1 hc1 hk).mono fun e W' ⟨he, bel⟩ => ?_
  subst he
  exact ⟨_, rfl, _, _, _, [], _, [], hW', trodAll_mk1 (shut_bool Tryd.underlying4 _), (trodAll_cons_mk (Below.trod laidOut (by kernel_rfl) (of_decide_eq_true (by kernel_rfl)) k0 bel lt0) (trodAll_cons_mk (Below.trod laidOut (by kernel_rfl) (of_decide_eq_true (by kernel_rfl)) k1 bel lt1) trodAll_mk0)), rfl, bel.frame _, fun h => by cases h⟩
noncomputable def laidWorld (os : Os) : World :=
  { World.holding Tryd.prog os ⟨#[], #[], []⟩ with heap := (((World.holding Tryd.prog os ⟨#[], #[], []⟩).heap.modify 0 fun | .cells _ t frozen => .cells #[.int .u8 0, .int .u8 1, .int .u8 28, .int .u8 2, .int .u8 29, .int .u8 14, .int .u8 24, .int .u8 3, .int .u8 30, .int .u8 22, .int .u8 20, .int .u8 15, .int .u8 25, .int .u8 17, .int .u8 4, .int .u8 8, .int .u8 31, .int .u8 27, .int .u8 13, .int .u8 23, .int .u8 21, .int .u8 19, .int .u8 16, .int .u8 7, .int .u8 26, .int .u8 12, .int .u8 18, .int .u8 6, .int .u8 11, .int .u8 5, .int .u8 10, .int .u8 9] t frozen | o => o).modify 1 fun | .cells _ t frozen => .cells #[.int .u8 0, .int .u8 1, .int .u8 56, .int .u8 2, .int .u8 57, .int .u8 49, .int .u8 28, .int .u8 3, .int .u8 61, .int .u8 58, .int .u8 42, .int .u8 50, .int .u8 38, .int .u8 29, .int .u8 17, .int .u8 4, .int .u8 62, .int .u8 47, .int .u8 59, .int .u8 36, .int .u8 45, .int .u8 43, .int .u8 51, .int .u8 22, .int .u8 53, .int .u8 39, .int .u8 33, .int .u8 30, .int .u8 24, .int .u8 18, .int .u8 12, .int .u8 5, .int .u8 63, .int .u8 55, .int .u8 48, .int .u8 27, .int .u8 60, .int .u8 41, .int .u8 37, .int .u8 16, .int .u8 46, .int .u8 35, .int .u8 44, .int .u8 21, .int .u8 52, .int .u8 32, .int .u8 23, .int .u8 11, .int .u8 54, .int .u8 26, .int .u8 40, .int .u8 15, .int .u8 34, .int .u8 20, .int .u8 31, .int .u8 10, .int .u8 25, .int .u8 14, .int .u8 19, .int .u8 9, .int .u8 13, .int .u8 8, .int .u8 7, .int .u8 6] t frozen | o => o) }
theorem laid_met (os : Os) : laidMet Tryd.prog Rows.fnExactSwitchEdgesRow.laid ((laidWorld os).forCall (fun _ _ => 0) ⟨#[], #[.agg #[.int .i64 0, .slice none 0 0], .slice none 0 0], []⟩).memory :=
  laidMet_of_run' 8 (by kernel_rfl) (by kernel_rfl)
theorem reads (os : Os) {H : Type} (enc : TypeId × Value → H) : ∃ places, DataW.whole enc Tryd.prog ((laidWorld os).forCall (fun _ _ => 0) ⟨#[], #[.agg #[.int .i64 0, .slice none 0 0], .slice none 0 0], []⟩).memory Tryd.f7.params.toList Rows.fnExactSwitchEdgesSpec.vars false #[.agg #[.int .i64 0, .slice none 0 0], .slice none 0 0].toList 8 = some ([.agg [.lit (.int .i64 0), .nil], .nil], [], places) :=
  ⟨[], by kernel_rfl⟩
set_option maxRecDepth 100000 in
theorem lifted (os : Os) (started : os.Started) (H : Type) (enc : TypeId × Value → H) (F : Stop.Interp) :
    ReturnsInHanded {} Tryd.checked os 7 .any ((OpenSpec.ofChange Rows.fnExactSwitchEdgesSpec).preRow enc Tryd.prog Tryd.f7 Rows.fnExactSwitchEdgesRow.domain false Rows.fnExactSwitchEdgesRow.laid) (((OpenSpec.ofChange Rows.fnExactSwitchEdgesSpec).at F).post enc Tryd.prog Tryd.f7 false true false false) := by
  obtain ⟨places, hx⟩ := reads os enc
  refine returnsInHanded_of_row (C := Tryd.checked) (s := OpenSpec.ofChange Rows.fnExactSwitchEdgesSpec) own started (by kernel_rfl) Tryd.func7
    (witness_row_at (enc := enc) (C := Tryd.checked) false (laidWorld os) #[.agg #[.int .i64 0, .slice none 0 0], .slice none 0 0] rfl (by kernel_rfl) (by kernel_rfl) (by kernel_rfl)
      (OpenSpec.preRow_of_cond 8 hx (by kernel_rfl) (fun k hk => by cases hk) (by kernel_rfl) (laid_met os))) ?_
  intro W base args ds gs before hval hW _ _ hsz hL _ _
  exact contract H enc W base args ds gs before hval hW hsz hL
set_option maxHeartbeats 4000000 in
theorem said : Rows.FnExactSwitchEdgesSaid :=
  OpenClaim.holds_of_cond 7 Tryd.f7 rfl rfl rfl rfl rfl rfl rfl ⟨rfl, rfl, rfl, rfl, rfl⟩ rfl rfl rfl rfl rfl (by kernel_rfl) Tryd.func7 (by kernel_rfl)
    (of_decide_eq_true (by kernel_rfl)) (by unfold Func.isWrapper; first | (rw [if_pos (by decide +kernel)]; kernel_rfl) | (rw [if_neg (by decide +kernel)]; exact ⟨rfl, rfl⟩))
    (fun os started H enc _ F => by rw [OpenClaim.pre_eq_preRow]; exact lifted os started H enc F)
theorem plain (f : FuncId) (fn : Func) (hf : Tryd.pinned.checked.prog.funcNamed "loop.example/g01113/laws.FnExactSwitchEdges" = some f) (hfn : Tryd.pinned.checked.prog.funcs[f]? = some fn) :
    false = Tryd.pinned.checked.prog.looks [] ∧ ∀ (j : Nat) t, fn.params[j]? = some t → Tryd.pinned.checked.prog.wantsStandIn t = false := by
  obtain rfl : f = 7 := Option.some.inj ((show Tryd.prog.funcNamed "loop.example/g01113/laws.FnExactSwitchEdges" = some 7 by kernel_rfl).symm.trans hf) |>.symm
  obtain rfl : fn = Tryd.f7 := (Option.some.inj (Tryd.func7.symm.trans hfn)).symm
  refine ⟨by kernel_rfl, fun j t ht => ?_⟩
  rw [Tryd.params7] at ht
  have hm := Array.mem_of_getElem? ht
  simp only [List.mem_toArray, List.mem_cons, List.not_mem_nil, or_false] at hm
  rcases hm with rfl | rfl
  · exact (show Tryd.prog.wantsStandIn 24 = false by kernel_rfl)
  · exact (show Tryd.prog.wantsStandIn 22 = false by kernel_rfl)
theorem card : Rows.FnExactSwitchEdgesCardSaid :=
  Claim7.holds_tied_plain_at .later [] _ _ _ _ said (fun _ h => by cases h) (by kernel_rfl) (fun _ h => by cases h) fnExactSwitchEdges_row_tie rfl ⟨rfl, rfl⟩ (by kernel_rfl) rfl plain (by kernel_rfl)
#print axioms card
end Go.Proofs.YtbcbgehdikockaaDoor.fnExactSwitchEdges
namespace Go.Proofs.YtbcbgehdikockaaDoor
theorem fnExactSwitchEdges_holds : Rows.FnExactSwitchEdgesCardSaid := fnExactSwitchEdges.card
end Go.Proofs.YtbcbgehdikockaaDoor
