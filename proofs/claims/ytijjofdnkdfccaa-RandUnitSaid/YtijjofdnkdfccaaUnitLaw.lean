/- Plain law for Unit: a whole number below 2^53, divided by 2^53. -/
import Derived.Test.YtijjofdnkdfccaaDivLaw
import Derived.Test.YtijjofdnkdfccaaRep
import Derived.Test.YtijjofdnkdfccaaNegLaw
namespace Go.Proofs.Ytijjofdnkdfccaa.Dig
open Go.RowKit Go.Proofs.Ytijjofdnkdfccaa.Num Go.Proofs.Ytijjofdnkdfccaa.DigLaw Go.Proofs.Ytijjofdnkdfccaa.Fl
open Ieee (double Datum)

def C53 : Nat := 4845873199050653696
theorem c53_facts : rg C53 < INF ∧ rg C53 ≠ 0 ∧ sg C53 = false ∧ fracN C53 = 2 ^ 52 ∧ expN C53 = 1 := by decide +kernel
theorem stick_52 (m : Nat) : stick m (2 ^ 52) 128 = m * 2 ^ 77 := by
  unfold stick
  have e : m * 2 ^ 128 = 2 ^ 52 * (m * 2 ^ 76) := by
    rw [show (2 : Nat) ^ 128 = 2 ^ 52 * 2 ^ 76 from by rw [← Nat.pow_add]]
    generalize (2 : Nat) ^ 52 = x
    generalize (2 : Nat) ^ 76 = y
    ac_rfl
  rw [e, Nat.mul_div_cancel_left _ (Nat.two_pow_pos 52), Nat.mul_mod_right]
  show 2 * (m * 2 ^ 76) + 0 = _
  rw [Nat.add_zero, show (2 : Nat) ^ 77 = 2 ^ 76 * 2 from by rw [← Nat.pow_succ]]
  generalize (2 : Nat) ^ 76 = y
  ac_rfl
theorem unit_div {n : Nat} (hn : n < 2 ^ 53) (h0 : n ≠ 0) : double.div (rung n 0) C53 = some (rung n (-53)) := by
  obtain ⟨c1, c2, c3, c4, c5⟩ := c53_facts
  obtain ⟨v1, v2⟩ := whole_V n hn
  have hi := rung_le_inf n 0
  obtain ⟨g1, g2, _⟩ := word_facts false hi
  rw [word_false] at g1 g2
  have f : rg (rung n 0) < INF := by rw [g2]; exact v1
  have z : rg (rung n 0) ≠ 0 := by
    rw [g2]; intro e; rw [e, V_small (by decide)] at v2
    exact Nat.mul_ne_zero h0 (Nat.ne_of_gt (Nat.two_pow_pos E74)) v2.symm
  have hl : (fracN C53).log2 = 52 := by rw [c4]; decide +kernel
  rw [div_parts f c1 z c2 128 (by rw [hl]; omega), c3, g1, c4, c5, stick_52]
  show some (double.word false _) = _
  rw [word_false]
  congr 1
  have e := exp_range (rung n 0)
  have hV := frac_V (rung n 0) f
  rw [g2, v2] at hV
  have s1 := rung_scale (fracN (rung n 0)) 77 (expN (rung n 0) - 53)
  rw [show expN (rung n 0) - 1 - 1 - ((128 : Nat) : Int) = expN (rung n 0) - 53 - ((77 : Nat) : Int) by omega, s1]
  rw [rung_at (fracN (rung n 0)) (expN (rung n 0) - 53) (-1127) (by omega), show expN (rung n 0) - 53 - -1127 = expN (rung n 0) + 1074 by omega, hV]
  have s2 := rung_scale n E74 (-53)
  rw [show (-53 : Int) - ((E74 : Nat) : Int) = -1127 from by unfold E74; decide] at s2
  exact s2
end Go.Proofs.Ytijjofdnkdfccaa.Dig
