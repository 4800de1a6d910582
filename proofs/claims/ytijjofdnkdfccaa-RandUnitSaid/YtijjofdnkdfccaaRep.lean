/- Plain law: numbers of 53 bits times powers of two are doubles, just so. -/
import Derived.Test.YtijjofdnkdfccaaFlC
namespace Go.Proofs.Ytijjofdnkdfccaa.Fl

theorem cINF' : INF = 9218868437227405312 := by unfold INF; decide
/-- a number of 53 bits, times a power of two, is one that a rung stands for -/
theorem rep_exact (e : Nat) : ∀ n : Nat, n < 2 ^ 53 → e ≤ 2045 → ∃ r, r < INF ∧ V r = n * 2 ^ e := by
  have c1 : (2 : Nat) ^ 53 = 9007199254740992 := by decide
  have c2 : (2 : Nat) ^ 52 = 4503599627370496 := by decide
  induction e with
  | zero =>
    intro n hn _
    have h := V_binade 0 n (Nat.le_of_lt hn) (Or.inl rfl)
    rw [Nat.zero_mul, Nat.zero_add] at h
    exact ⟨n, by rw [cINF']; omega, h⟩
  | succ e ih =>
    intro n hn he
    by_cases c : 2 ^ 52 ≤ n
    · have h := V_binade (e + 1) n (Nat.le_of_lt hn) (Or.inr c)
      exact ⟨(e + 1) * 2 ^ 52 + n, by rw [cINF', c2]; omega, h⟩
    · obtain ⟨r, h1, h2⟩ := ih (2 * n) (by omega) (by omega)
      exact ⟨r, h1, by rw [h2, Nat.pow_succ, Nat.mul_comm 2 n, Nat.mul_assoc, Nat.mul_comm 2]⟩
theorem rung_exact (n e : Nat) (hn : n < 2 ^ 53) (he : e ≤ 2045) : rung (n * 2 ^ e) (-1074) < INF ∧ V (rung (n * 2 ^ e) (-1074)) = n * 2 ^ e := by
  obtain ⟨r, h1, h2⟩ := rep_exact e n hn he
  rw [← h2, rung_V r (Nat.le_of_lt h1)]; exact ⟨h1, rfl⟩
def E74 : Nat := 1074
theorem rung_zero_at (n : Nat) : rung n 0 = rung (n * 2 ^ E74) (-1074) := by
  have e : ((0 : Int) - -1074).toNat = E74 := by unfold E74; decide
  rw [rung_at n 0 (-1074) (by omega), e]
theorem whole_V (n : Nat) (hn : n < 2 ^ 53) : rung n 0 < INF ∧ V (rung n 0) = n * 2 ^ E74 := by
  rw [rung_zero_at]; exact rung_exact n E74 hn (by unfold E74; decide)
end Go.Proofs.Ytijjofdnkdfccaa.Fl
