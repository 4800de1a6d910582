/- Plain law: what lies strictly between two whole numbers may be told by one digit more (a sticky one), wherever enough digits are there: how far a quotient or a root is reckoned does not matter. -/
import Derived.Test.YtijjofdnkdfccaaRoundLaw
import Derived.Test.YtijjofdnkdfccaaFlC
namespace Go.Proofs.Ytijjofdnkdfccaa.Fl
open Go.Proofs.Ytijjofdnkdfccaa.DigLaw

theorem log2_four {q i : Nat} (hq : q ≠ 0) (hi : i < 4) : (4 * q + i).log2 = q.log2 + 2 := by
  have h0 : 4 * q + i ≠ 0 := by omega
  have h1 := Nat.log2_self_le hq
  have h2 : q < 2 ^ (q.log2 + 1) := Nat.lt_log2_self
  apply (Nat.log2_eq_iff h0).2
  have e1 : 2 ^ (q.log2 + 2) = 4 * 2 ^ q.log2 := by rw [Nat.pow_succ, Nat.pow_succ]; omega
  have e2 : 2 ^ (q.log2 + 2 + 1) = 8 * 2 ^ q.log2 := by rw [Nat.pow_succ, e1]; omega
  rw [e1, e2]
  rw [Nat.pow_succ] at h2
  omega
theorem cut_four (q i d : Nat) (h0 : 0 < i) (h1 : i < 4) (hd : 3 ≤ d) : cutE (4 * q + i) d = cutE (4 * q + 2) d := by
  obtain ⟨e, rfl⟩ : ∃ e, d = e + 3 := ⟨d - 3, by omega⟩
  have key : ∀ x, 0 < x → x < 4 → ∀ j, cutE (4 * q + x) (e + 3) ≤ j ↔ q < (2 * j + 1) * 2 ^ e := by
    intro x hx0 hx j
    rw [cutE_le_iff]
    have hp : (2 * j + 1) * 2 ^ (e + 3) = 8 * ((2 * j + 1) * 2 ^ e) := by
      rw [Nat.pow_succ, Nat.pow_succ, Nat.pow_succ]
      generalize 2 ^ e = g
      rw [← Nat.mul_assoc, ← Nat.mul_assoc, ← Nat.mul_assoc]; omega
    rw [hp]
    generalize (2 * j + 1) * 2 ^ e = t
    omega
  have h2 := (key i h0 h1 (cutE (4 * q + i) (e + 3))).1 (Nat.le_refl _)
  have h3 := (key 2 (by decide) (by decide) _).2 h2
  have h4 := (key 2 (by decide) (by decide) (cutE (4 * q + 2) (e + 3))).1 (Nat.le_refl _)
  have h5 := (key i h0 h1 _).2 h4
  omega
theorem rung_four (q i : Nat) (p : Int) (hq : 2 ^ 53 ≤ q) (h0 : 0 < i) (h1 : i < 4) : rung (4 * q + i) p = rung (4 * q + 2) p := by
  have hq0 : q ≠ 0 := by
    intro e; rw [e] at hq; exact absurd hq (by decide)
  have hlog : 53 ≤ q.log2 := (Nat.le_log2 hq0).2 hq
  have e1 := log2_four hq0 h1
  have e2 := log2_four (i := 2) hq0 (by decide)
  have hl : lastOf (4 * q + i) p = lastOf (4 * q + 2) p := by unfold lastOf; rw [e1, e2]
  have hg := (lastOf_ge (4 * q + 2) p).1
  rw [e2] at hg
  rw [rung_def _ p (by omega), rung_def _ p (by omega), hl]
  have hz : (p - lastOf (4 * q + 2) p).toNat = 0 := by omega
  rw [hz, Nat.pow_zero, Nat.mul_one, Nat.mul_one, cut_four q i _ h0 h1 (by omega)]
/-- the quotient to k binary digits more, and one that is 1 where anything is left over -/
def stick (m n k : Nat) : Nat := 2 * (m * 2 ^ k / n) + (m * 2 ^ k % n != 0).toNat
theorem stick_step (m n k : Nat) (p : Int) (hn : 0 < n) (hq : 2 ^ 53 ≤ m * 2 ^ k / n) : rung (stick m n (k + 1)) (p - 1) = rung (stick m n k) p := by
  have hs := rung_scale (stick m n k) 1 p
  rw [Nat.pow_one] at hs
  rw [show p - ((1 : Nat) : Int) = p - 1 from rfl] at hs
  rw [← hs]
  unfold stick
  rw [Nat.pow_succ, ← Nat.mul_assoc]
  generalize hN : m * 2 ^ k = N at *
  have hdm := Nat.div_add_mod N n
  have hlt := Nat.mod_lt N hn
  generalize hqq : N / n = q at *
  generalize hrr : N % n = r at *
  by_cases z : r = 0
  · have e1 : N * 2 / n = 2 * q := by
      rw [← hdm, z, Nat.add_zero, Nat.mul_assoc, Nat.mul_div_cancel_left _ hn, Nat.mul_comm]
    have e2 : N * 2 % n = 0 := by rw [← hdm, z, Nat.add_zero, Nat.mul_assoc, Nat.mul_mod_right]
    rw [e1, e2, z]
    show rung (2 * (2 * q) + 0) (p - 1) = rung ((2 * q + 0) * 2) (p - 1)
    congr 1; omega
  · have hs1 : (r != 0).toNat = 1 := by rw [bne_iff_ne.2 z]; rfl
    rw [hs1]
    have hx : N * 2 = n * (2 * q) + 2 * r := by rw [← hdm, Nat.add_mul, Nat.mul_assoc, Nat.mul_comm q 2, Nat.mul_comm r 2]
    rw [show (2 * q + 1) * 2 = 4 * q + 2 by omega]
    by_cases c : 2 * r < n
    · have e1 : N * 2 / n = 2 * q := by rw [hx, Nat.mul_add_div hn, Nat.div_eq_of_lt c, Nat.add_zero]
      have e2 : N * 2 % n = 2 * r := by rw [hx, Nat.mul_add_mod, Nat.mod_eq_of_lt c]
      have e3 : (2 * r != 0).toNat = 1 := by rw [bne_iff_ne.2 (by omega)]; rfl
      rw [e1, e2, e3, show 2 * (2 * q) + 1 = 4 * q + 1 by omega]
      exact rung_four q 1 _ hq (by decide) (by decide)
    · have hx2 : N * 2 = n * (2 * q + 1) + (2 * r - n) := by rw [hx, Nat.mul_add, Nat.mul_one]; omega
      have e1 : N * 2 / n = 2 * q + 1 := by rw [hx2, Nat.mul_add_div hn, Nat.div_eq_of_lt (by omega), Nat.add_zero]
      have e2 : N * 2 % n = 2 * r - n := by rw [hx2, Nat.mul_add_mod, Nat.mod_eq_of_lt (by omega)]
      rw [e1, e2]
      by_cases d : 2 * r - n = 0
      · rw [d, show 2 * (2 * q + 1) + (0 != 0).toNat = 4 * q + 2 from by show 2 * (2 * q + 1) + 0 = _; omega]
      · have e3 : (2 * r - n != 0).toNat = 1 := by rw [bne_iff_ne.2 d]; rfl
        rw [e3, show 2 * (2 * q + 1) + 1 = 4 * q + 3 by omega]
        exact rung_four q 3 _ hq (by decide) (by decide)
theorem stick_more (m n k : Nat) (p : Int) (hn : 0 < n) (hq : 2 ^ 53 ≤ m * 2 ^ k / n) (j : Nat) : rung (stick m n (k + j)) (p - j) = rung (stick m n k) p := by
  induction j with
  | zero => rw [Nat.add_zero, show p - ((0 : Nat) : Int) = p by omega]
  | succ j ih =>
    have h2 : 2 ^ 53 ≤ m * 2 ^ (k + j) / n := Nat.le_trans hq (Nat.div_le_div_right (Nat.mul_le_mul_left m (Nat.pow_le_pow_right (by decide) (by omega))))
    have := stick_step m n (k + j) (p - j) hn h2
    rw [← ih, ← this, ← Nat.add_assoc]
    congr 1; omega
/-- two ways of reckoning, both far enough: one answer -/
theorem stick_same (m n k l : Nat) (e : Int) (hn : 0 < n) (hk : 2 ^ 53 ≤ m * 2 ^ k / n) (hl : 2 ^ 53 ≤ m * 2 ^ l / n) : rung (stick m n k) (e - k) = rung (stick m n l) (e - l) := by
  rcases Nat.le_total k l with h | h
  · obtain ⟨j, rfl⟩ : ∃ j, l = k + j := ⟨l - k, by omega⟩
    have := stick_more m n k (e - k) hn hk j
    rw [show e - ((k + j : Nat) : Int) = e - k - j by omega]
    exact this.symm
  · obtain ⟨j, rfl⟩ : ∃ j, k = l + j := ⟨k - l, by omega⟩
    have := stick_more m n l (e - l) hn hl j
    rw [show e - ((l + j : Nat) : Int) = e - l - j by omega]
    exact this
end Go.Proofs.Ytijjofdnkdfccaa.Fl
