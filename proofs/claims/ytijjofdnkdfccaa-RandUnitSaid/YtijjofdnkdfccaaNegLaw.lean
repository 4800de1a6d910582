/- Plain law: turning a sign about; products in either order, and with a sign turned about. -/
import Derived.Test.YtijjofdnkdfccaaRefK
namespace Go.Proofs.Ytijjofdnkdfccaa.Dig
open Go.RowKit Go.Proofs.Ytijjofdnkdfccaa.Num Go.Proofs.Ytijjofdnkdfccaa.DigLaw Go.Proofs.Ytijjofdnkdfccaa.Fl
open Ieee (double Datum)

def flipW (a : Nat) : Nat := sgn (!sg a) + rg a
def negW (a : Nat) : Nat := if kindN a = 4 then NANW else flipW a
theorem xor_top (r : Nat) (h : r < 9223372036854775808) : r ^^^ 9223372036854775808 = 9223372036854775808 + r := by
  have e : (9223372036854775808 : Nat) = 2 ^ 63 := by decide
  rw [e] at h ⊢
  have h1 := Nat.two_pow_add_eq_or_of_lt h 1
  rw [Nat.mul_one] at h1
  rw [h1]
  apply Nat.eq_of_testBit_eq
  intro i
  rw [Nat.testBit_xor, Nat.testBit_or, Nat.testBit_two_pow]
  by_cases c : 63 = i
  · subst c
    rw [Nat.testBit_lt_two_pow h]; simp
  · simp [c]
theorem flip_xor (a : Nat) (h : a < W) : Go.bits .xor .u64 (a : Int) 9223372036854775808 = ((flipW a : Nat) : Int) := by
  have hw := word_split a h
  have hr := rg_lt a
  unfold W at h
  rw [show (9223372036854775808 : Int) = ((9223372036854775808 : Nat) : Int) from rfl, xor_nat _ _ h (by decide)]
  congr 1
  unfold flipW
  generalize rg a = r at *
  generalize sg a = s at *
  subst hw
  cases s
  · unfold sgn S63
    rw [if_neg (by simp), Nat.zero_add, xor_top r hr]; rfl
  · unfold sgn S63
    rw [if_pos rfl, ← xor_top r hr, Nat.xor_assoc, Nat.xor_self, Nat.xor_zero]; simp
theorem flip_facts (a : Nat) : sg (flipW a) = !sg a ∧ rg (flipW a) = rg a ∧ flipW a < W := sg_word _ _ (rg_lt a)
theorem word_facts (s : Bool) {r : Nat} (h : r ≤ INF) : sg (double.word s r) = s ∧ rg (double.word s r) = r ∧ double.word s r < W := by
  rw [word_eq]
  have h2 := INF_lt
  exact sg_word s r (by unfold S63 at h2; omega)
theorem word_ext {a b : Nat} (ha : a < W) (hb : b < W) (h1 : sg a = sg b) (h2 : rg a = rg b) : a = b := by
  rw [word_split a ha, word_split b hb, h1, h2]
theorem nanw_facts : rg NANW = 9221120237041090560 ∧ sg NANW = false ∧ NANW < W ∧ kindN NANW = 4 := by decide +kernel
theorem read_flip (a : Nat) : double.read (flipW a) = (double.read a).opposite := by
  obtain ⟨h1, h2, _⟩ := flip_facts a
  rw [read_eq, read_eq, h1, h2]
  split
  · rfl
  · split
    · rfl
    · split <;> rfl
theorem product_comm (x y : Datum) : x.product y = y.product x := by
  cases x <;> cases y <;> simp only [Datum.product]
  · rw [Bool.xor_comm, Nat.mul_comm, Int.add_comm]
  · rw [Bool.xor_comm]
theorem mul_comm' (a b : Nat) : mulW a b = mulW b a := by
  unfold mulW Ieee.Format.mul; rw [product_comm]
theorem xor_not (s t : Bool) : ((!s) ^^ t) = !(s ^^ t) := by cases s <;> cases t <;> rfl
theorem product_opp (x y : Datum) : x.opposite.product y = (x.product y).map Datum.opposite := by
  cases x <;> cases y <;> simp only [Datum.opposite, Datum.product, Option.map_some, Option.map_none, xor_not]
  · split
    · rfl
    · simp only [Option.map_some, Datum.opposite, Bool.xor_comm]
      rw [Bool.xor_comm]
      simp
  · split
    · rfl
    · simp only [Option.map_some, Datum.opposite]
theorem word_not (s : Bool) {r : Nat} (h : r ≤ INF) : double.word (!s) r = flipW (double.word s r) := by
  obtain ⟨h1, h2, _⟩ := word_facts s h
  unfold flipW; rw [h1, h2, word_eq]
theorem write_opp (d : Datum) (h : d.isNaN = false) : double.write d.opposite = flipW (double.write d) := by
  cases d with
  | number s m p =>
    unfold Datum.opposite
    rw [write_number, write_number, word_not s (rung_le_inf m p)]
  | infinity s =>
    unfold Datum.opposite Ieee.Format.write
    rw [infRung_eq]; exact word_not s (Nat.le_refl _)
  | nan s f => cases h
theorem product_num {x y d : Datum} (h : x.product y = some d) : d.isNaN = false := by
  cases d with
  | number s m p => rfl
  | infinity s => rfl
  | nan s f =>
    exfalso
    cases x <;> cases y <;> simp only [Datum.product] at h <;> try (split at h) <;> cases h
    all_goals cases h
theorem not_nan_of_le {a : Nat} (h : rg a ≤ INF) : kindN a ≠ 4 := fun e => by have := (nan_kind a).1 e; omega
theorem write_num (d : Datum) (h : d.isNaN = false) : rg (double.write d) ≤ INF ∧ double.write d < W := by
  cases d with
  | number s m p => rw [write_number, (word_facts s (rung_le_inf m p)).2.1]; exact ⟨rung_le_inf m p, (word_facts s (rung_le_inf m p)).2.2⟩
  | infinity s =>
    unfold Ieee.Format.write
    rw [infRung_eq, (word_facts s (Nat.le_refl INF)).2.1]; exact ⟨Nat.le_refl _, (word_facts s (Nat.le_refl INF)).2.2⟩
  | nan s f => cases h
theorem neg_nan {a : Nat} (h : INF < rg a) : negW a = NANW := by unfold negW; rw [if_pos ((nan_kind a).2 h)]
theorem neg_num {a : Nat} (h : rg a ≤ INF) : negW a = flipW a := by unfold negW; rw [if_neg (not_nan_of_le h)]
theorem nanw_nan : INF < rg NANW := by rw [nanw_facts.1, cINF]; decide
theorem mul_neg (a b : Nat) : mulW (negW a) b = negW (mulW a b) := by
  rcases Nat.lt_or_ge INF (rg a) with h | h
  · rw [neg_nan h]
    unfold mulW
    rw [mul_nan (.inl h), mul_nan (.inl nanw_nan)]
    exact (neg_nan nanw_nan).symm
  · rw [neg_num h]
    unfold mulW Ieee.Format.mul
    rw [read_flip, product_opp]
    cases hd : (double.read a).product (double.read b) with
    | none => exact (neg_nan nanw_nan).symm
    | some d =>
      have hn := product_num hd
      show double.write d.opposite = negW (double.write d)
      rw [write_opp d hn, neg_num (write_num d hn).1]
theorem neg_lt (a : Nat) : negW a < W := by
  unfold negW; split
  · exact nanw_facts.2.2.1
  · exact (flip_facts a).2.2
theorem mul_lt (a b : Nat) : mulW a b < W := by
  unfold mulW Ieee.Format.mul
  cases hd : (double.read a).product (double.read b) with
  | none => exact nanw_facts.2.2.1
  | some d => exact (write_num d (product_num hd)).2
end Go.Proofs.Ytijjofdnkdfccaa.Dig
