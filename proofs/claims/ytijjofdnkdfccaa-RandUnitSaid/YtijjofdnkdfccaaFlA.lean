/- Plain law of IEEE 754 doubles (no program in sight): the rungs, what each stands for, and rounding to a whole number, ties to even. -/
import Ieee.Arith
namespace Go.Proofs.Ytijjofdnkdfccaa.Fl
open Ieee

/-- magnitude of a rung in units of 2^-1074 -/
def V (r : Nat) : Nat := if r < 2 ^ 52 then r else (2 ^ 52 + r % 2 ^ 52) * 2 ^ (r / 2 ^ 52 - 1)

theorem V_small {r : Nat} (h : r < 2 ^ 52) : V r = r := by unfold V; rw [if_pos h]

/-- the value of a rung of binade k -/
theorem V_binade (k j : Nat) (h : j ≤ 2 ^ 53) (h2 : k = 0 ∨ 2 ^ 52 ≤ j) : V (k * 2 ^ 52 + j) = j * 2 ^ k := by
  unfold V
  by_cases hj : j < 2 ^ 52
  · obtain rfl : k = 0 := by omega
    rw [if_pos (by omega)]; simp
  · rw [if_neg (by omega)]
    by_cases hj2 : j = 2 ^ 53
    · subst hj2
      have e1 : (k * 2 ^ 52 + 2 ^ 53) % 2 ^ 52 = 0 := by omega
      have e2 : (k * 2 ^ 52 + 2 ^ 53) / 2 ^ 52 - 1 = k + 1 := by omega
      rw [e1, e2, Nat.pow_succ]; omega
    · have e1 : (k * 2 ^ 52 + j) % 2 ^ 52 = j - 2 ^ 52 := by omega
      have e2 : (k * 2 ^ 52 + j) / 2 ^ 52 - 1 = k := by omega
      rw [e1, e2, show 2 ^ 52 + (j - 2 ^ 52) = j by omega]

theorem V_lt_succ (r : Nat) : V r < V (r + 1) := by
  by_cases h : r < 2 ^ 52
  · have := V_binade 0 r (by omega) (Or.inl rfl)
    have h2 := V_binade 0 (r + 1) (by omega) (Or.inl rfl)
    simp at this h2; omega
  · -- r = k*2^52 + j, 2^52 ≤ j < 2^53
    have e : r = (r / 2 ^ 52 - 1) * 2 ^ 52 + (2 ^ 52 + r % 2 ^ 52) := by omega
    generalize hk : r / 2 ^ 52 - 1 = k at *
    generalize hj : 2 ^ 52 + r % 2 ^ 52 = j at *
    have h1 := V_binade k j (by omega) (by omega)
    have h2 := V_binade k (j + 1) (by omega) (by omega)
    rw [e, Nat.add_assoc, h1, h2, Nat.add_mul]
    have := Nat.two_pow_pos k
    omega

theorem V_mono {a b : Nat} (h : a ≤ b) : V a ≤ V b := by
  induction h with
  | refl => exact Nat.le_refl _
  | step _ ih => exact Nat.le_trans ih (Nat.le_of_lt (V_lt_succ _))

theorem V_strict {a b : Nat} (h : a < b) : V a < V b := Nat.lt_of_lt_of_le (V_lt_succ a) (V_mono h)

theorem V_le_iff {a b : Nat} : V a ≤ V b ↔ a ≤ b := by
  constructor
  · intro h; by_cases c : a ≤ b
    · exact c
    · have := V_strict (a := b) (b := a) (by omega); omega
  · exact V_mono

theorem V_inj {a b : Nat} (h : V a = V b) : a = b := by
  have h1 := V_le_iff (a := a) (b := b)
  have h2 := V_le_iff (a := b) (b := a)
  omega

/-- whole-number rounding, to the nearest, ties to even -/
def cutE (n drop : Nat) : Nat := Toward.even.cut false n drop

theorem cut_even_neg (s : Bool) (n drop : Nat) : Toward.even.cut s n drop = cutE n drop := rfl

/-- The rule of rounding: q and rest to the exact power -/
theorem cutE_eq (n drop : Nat) : cutE n drop = n / 2 ^ drop + (if 2 ^ drop < 2 * (n % 2 ^ drop) ∨ (2 ^ drop = 2 * (n % 2 ^ drop) ∧ (n / 2 ^ drop) % 2 = 1) then 1 else 0) := by
  unfold cutE Toward.cut
  simp only [Nat.one_shiftLeft]
  have key : ∀ g : Nat, (n / g + (decide (g < 2 * (n % g)) || (g == 2 * (n % g) && n / g % 2 == 1)).toNat) = n / g + (if g < 2 * (n % g) ∨ (g = 2 * (n % g) ∧ (n / g) % 2 = 1) then 1 else 0) := by
    intro g
    congr 1
    by_cases h1 : g < 2 * (n % g)
    · simp [h1]
    · by_cases h2 : g = 2 * (n % g)
      · have h2' : (g == 2 * (n % g)) = true := by rw [beq_iff_eq]; exact h2
        by_cases h3 : n / g % 2 = 1
        · rw [if_pos (Or.inr ⟨h2, h3⟩), h2', h3]; simp
        · rw [if_neg (by intro h; rcases h with h | h; exact h1 h; exact h3 h.2), h2', decide_eq_false h1]
          have : (n / g % 2 == 1) = false := by rw [beq_eq_false_iff_ne]; exact h3
          rw [this]; rfl
      · rw [if_neg (by intro h; rcases h with h | h; exact h1 h; exact h2 h.1), decide_eq_false h1]
        have : (g == 2 * (n % g)) = false := by rw [beq_eq_false_iff_ne]; exact h2
        rw [this]; rfl
  rw [key]
  by_cases hd : drop ≤ n.log2 + 2
  · rw [Nat.min_eq_left hd]
  · have hd' : n.log2 + 2 ≤ drop := by omega
    rw [Nat.min_eq_right hd']
    have hn : n < 2 ^ (n.log2 + 1) := Nat.lt_log2_self
    have e : 2 ^ (n.log2 + 2) = 2 * 2 ^ (n.log2 + 1) := by rw [Nat.pow_succ]; omega
    have e2 : 2 ^ (n.log2 + 2) ≤ 2 ^ drop := Nat.pow_le_pow_right (by omega) hd'
    rw [Nat.div_eq_of_lt (a := n) (b := 2 ^ (n.log2 + 2)) (by omega), Nat.div_eq_of_lt (a := n) (b := 2 ^ drop) (by omega), Nat.mod_eq_of_lt (a := n) (b := 2 ^ (n.log2 + 2)) (by omega), Nat.mod_eq_of_lt (a := n) (b := 2 ^ drop) (by omega)]
    rw [if_neg (by omega), if_neg (by omega)]

end Go.Proofs.Ytijjofdnkdfccaa.Fl
