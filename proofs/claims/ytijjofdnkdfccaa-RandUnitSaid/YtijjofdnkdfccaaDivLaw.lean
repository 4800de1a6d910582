/- Plain law of quotients of doubles: IEEE 754's quotient is the quotient of the parts, reckoned to any number of digits that is enough. -/
import Derived.Test.YtijjofdnkdfccaaRefK
import Derived.Test.YtijjofdnkdfccaaStick
namespace Go.Proofs.Ytijjofdnkdfccaa.Dig
open Go.RowKit Go.Proofs.Ytijjofdnkdfccaa.Num Go.Proofs.Ytijjofdnkdfccaa.DigLaw Go.Proofs.Ytijjofdnkdfccaa.Fl
open Ieee (double Datum)

theorem read_parts {a : Nat} (h : rg a < INF) (h0 : rg a ≠ 0) : double.read a = .number (sg a) (fracN a) (expN a) := by
  have hI := cINF
  rw [read_eq, c52]
  rcases ef_cases a with ⟨_, _, _, _, hz⟩ | ⟨_, he, hf, h3, h4⟩ | ⟨_, he, hf, h3, h4⟩
  · omega
  · rw [if_pos h4, he, hf]
  · rw [if_neg (by omega), if_pos h, he, hf]
    congr 1
    · omega
    · omega
theorem enough {m n k : Nat} (hn : 0 < n) (h : 54 + n.log2 ≤ m.log2 + k) (hm : m ≠ 0) : 2 ^ 53 ≤ m * 2 ^ k / n := by
  rw [Nat.le_div_iff_mul_le hn]
  have h1 := Nat.log2_self_le hm
  have h2 : n < 2 ^ (n.log2 + 1) := Nat.lt_log2_self
  calc 2 ^ 53 * n ≤ 2 ^ 53 * 2 ^ (n.log2 + 1) := Nat.mul_le_mul_left _ (Nat.le_of_lt h2)
    _ = 2 ^ (53 + (n.log2 + 1)) := by rw [← Nat.pow_add]
    _ ≤ 2 ^ (m.log2 + k) := Nat.pow_le_pow_right (by decide) (by omega)
    _ = 2 ^ m.log2 * 2 ^ k := by rw [Nat.pow_add]
    _ ≤ m * 2 ^ k := Nat.mul_le_mul_right _ h1
theorem frac_pos {a : Nat} (h : rg a < INF) (h0 : rg a ≠ 0) : fracN a ≠ 0 := by
  have hI := cINF
  rcases ef_cases a with ⟨_, _, _, _, hz⟩ | ⟨_, he, hf, h3, h4⟩ | ⟨_, he, hf, h3, h4⟩
  · omega
  · rw [hf]; omega
  · rw [hf]; omega
theorem frac_log (a : Nat) : (fracN a).log2 ≤ 52 := by
  by_cases h : fracN a = 0
  · rw [h]; decide
  · have := (Nat.log2_lt h).2 (show fracN a < 2 ^ 53 from Nat.lt_of_lt_of_le (frac_lt a) (by decide))
    omega
/-- THE QUOTIENT of two finite words that are no noughts. -/
theorem div_parts {a b : Nat} (fa : rg a < INF) (fb : rg b < INF) (za : rg a ≠ 0) (zb : rg b ≠ 0) (k : Nat) (hk : 54 + (fracN b).log2 ≤ (fracN a).log2 + k) :
    double.div a b = some (double.word (sg a ^^ sg b) (rung (stick (fracN a) (fracN b) k) (expN a - expN b - 1 - k))) := by
  have ha := frac_pos fa za
  have hb := frac_pos fb zb
  have la := frac_log a
  unfold Ieee.Format.div
  rw [read_parts fa za, read_parts fb zb]
  simp only [Datum.quotient, if_neg hb, Option.map_some, write_number, Nat.shiftLeft_eq, fractionBits_eq]
  congr 2
  have e : expN a - expN b - ((52 + 2 + (fracN b).log2 - (fracN a).log2 : Nat) : Int) - 1 = (expN a - expN b - 1) - ((52 + 2 + (fracN b).log2 - (fracN a).log2 : Nat) : Int) := by omega
  rw [e]
  exact stick_same (fracN a) (fracN b) _ k (expN a - expN b - 1) (by omega) (enough (by omega) (by omega) ha) (enough (by omega) hk ha)
end Go.Proofs.Ytijjofdnkdfccaa.Dig
