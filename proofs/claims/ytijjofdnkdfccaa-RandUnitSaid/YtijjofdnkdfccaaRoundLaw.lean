/- Plain law: the document's way of rounding (two bits below the last one that counts, and whether more was lost) is rounding to the nearest double, ties to even. -/
import Derived.Test.YtijjofdnkdfccaaFlB
import Derived.Test.YtijjofdnkdfccaaDigLaw
namespace Go.Proofs.Ytijjofdnkdfccaa.Fl
open Go.Proofs.Ytijjofdnkdfccaa.DigLaw

/-- how the document rounds x, whose last two bits lie below the last one that counts -/
def upOf (x : Nat) (lost : Bool) : Bool := decide (2 < x % 4) || (x % 4 == 2 && (lost || x / 4 % 2 == 1))
def kept (x : Nat) (lost : Bool) : Nat := x / 4 + (upOf x lost).toNat

theorem div_lem (v m D : Nat) (hm : m ≤ 1) : (2 * v + m) / 2 ^ (D + 1) = v / 2 ^ D ∧ (2 * v + m) % 2 ^ (D + 1) = 2 * (v % 2 ^ D) + m := by
  have hp := Nat.two_pow_pos D
  have h := Nat.div_add_mod v (2 ^ D)
  have hlt := Nat.mod_lt v hp
  rw [Nat.pow_succ]
  generalize 2 ^ D = g at *
  generalize v / g = q at *
  generalize v % g = r at *
  subst h
  have e : 2 * (g * q + r) + m = (2 * r + m) + (g * 2) * q := by
    rw [Nat.mul_add, Nat.mul_comm g 2, Nat.mul_assoc]; omega
  rw [e, Nat.add_mul_div_left _ _ (by omega), Nat.add_mul_mod_self_left, Nat.div_eq_of_lt (by omega), Nat.mod_eq_of_lt (by omega)]
  exact ⟨by omega, rfl⟩

/-- where at least two bits fall out -/
theorem kept_drop (v m E : Nat) (hm : m ≤ 1) : kept (v / 2 ^ E) (decide (m = 1) || decide (v % 2 ^ E ≠ 0)) = cutE (2 * v + m) (E + 3) := by
  rw [cutE_eq]
  obtain ⟨h1, h2⟩ := div_lem v m (E + 2) hm
  rw [show E + 3 = E + 2 + 1 from rfl, h1, h2]
  unfold kept upOf
  have hp := Nat.two_pow_pos E
  have e4 : v / 2 ^ (E + 2) = v / 2 ^ E / 4 := by rw [Nat.div_div_eq_div_mul, show 2 ^ (E + 2) = 2 ^ E * 4 from by rw [Nat.pow_succ, Nat.pow_succ]; omega]
  have em : v % 2 ^ (E + 2) = v % 2 ^ E + 2 ^ E * (v / 2 ^ E % 4) := by rw [show 2 ^ (E + 2) = 2 ^ E * 4 from by rw [Nat.pow_succ, Nat.pow_succ]; omega, Nat.mod_mul]
  have ep : 2 ^ (E + 2 + 1) = 8 * 2 ^ E := by rw [Nat.pow_succ, Nat.pow_succ, Nat.pow_succ]; omega
  rw [e4, em, ep]
  have ht := Nat.mod_lt v hp
  have hl : v / 2 ^ E % 4 < 4 := Nat.mod_lt _ (by decide)
  congr 1
  generalize v / 2 ^ E / 4 = q
  generalize v / 2 ^ E % 4 = low at *
  generalize v % 2 ^ E = t at *
  generalize 2 ^ E = g at *
  have hlow : low = 0 ∨ low = 1 ∨ low = 2 ∨ low = 3 := by omega
  rcases hlow with rfl | rfl | rfl | rfl
  · rw [if_neg (by omega)]; rfl
  · rw [if_neg (by omega)]; rfl
  · by_cases c : m = 1 ∨ t ≠ 0
    · have hL : (decide (m = 1) || decide (t ≠ 0)) = true := by
        rcases c with c | c
        · rw [decide_eq_true c]; rfl
        · rw [decide_eq_true c, Bool.or_true]
      rw [if_pos (by omega), hL]; rfl
    · have hm0 : ¬ m = 1 := fun h => c (.inl h)
      have ht0 : ¬ t ≠ 0 := fun h => c (.inr h)
      rw [decide_eq_false hm0, decide_eq_false ht0]
      by_cases o : q % 2 = 1
      · rw [if_pos (by omega), o]; rfl
      · have o0 : q % 2 = 0 := by omega
        rw [if_neg (by omega), o0]; rfl
  · rw [if_pos (by omega)]; rfl
/-- where one bit falls out -/
theorem kept_one (v : Nat) : kept (v * 2) false = cutE (2 * v) 2 := by
  rw [cutE_eq]
  unfold kept upOf
  have e : (2 : Nat) ^ 2 = 4 := by decide
  rw [e, Nat.mul_comm v 2]
  congr 1
  have hlow : 2 * v % 4 = 0 ∨ 2 * v % 4 = 2 := by omega
  rcases hlow with h | h
  · rw [h, if_neg (by omega)]; rfl
  · rw [h]
    by_cases o : 2 * v / 4 % 2 = 1
    · rw [if_pos (by omega), o]; rfl
    · have o0 : 2 * v / 4 % 2 = 0 := by omega
      rw [if_neg (by omega), o0]; rfl
/-- where none does -/
theorem kept_four (n : Nat) : kept (n * 4) false = n := by
  unfold kept upOf
  rw [Nat.mul_mod_left, Nat.mul_div_cancel _ (by decide)]; rfl
theorem cutE_zero (n : Nat) : cutE n 0 = n := by
  rw [cutE_eq, Nat.pow_zero, Nat.div_one, Nat.mod_one, if_neg (by omega)]; rfl
theorem cutE_one (n : Nat) : cutE (2 * n) 1 = n := by
  rw [cutE_eq, Nat.pow_one, Nat.mul_div_cancel_left _ (by decide), Nat.mul_mod_right, if_neg (by omega)]; rfl

/-- the document's word of what is kept, at the place e -/
def wordOf (q : Nat) (e : Int) : Nat :=
  let q' := if q = 2 ^ 53 then 2 ^ 52 else q
  let e' := if q = 2 ^ 53 then e + 1 else e
  if 971 < e' then INF else if q' < 2 ^ 52 then q' else (e' + 1075).toNat * 2 ^ 52 + (q' - 2 ^ 52)
theorem wordOf_eq (q : Nat) (e : Int) (h0 : -1074 ≤ e) (h1 : q ≤ 2 ^ 53) (h2 : (e + 1074).toNat = 0 ∨ 2 ^ 52 ≤ q) : wordOf q e = min ((e + 1074).toNat * 2 ^ 52 + q) INF := by
  unfold wordOf INF
  obtain ⟨k, rfl⟩ : ∃ k : Nat, e = (k : Int) - 1074 := ⟨(e + 1074).toNat, by omega⟩
  have ek : ((k : Int) - 1074 + 1074).toNat = k := by omega
  rw [ek] at h2 ⊢
  have c1 : (2 : Nat) ^ 53 = 9007199254740992 := by decide
  have c2 : (2 : Nat) ^ 52 = 4503599627370496 := by decide
  rw [c1, c2] at *
  dsimp only
  by_cases hq : q = 9007199254740992
  · rw [if_pos hq, if_pos hq]
    by_cases h3 : (971 : Int) < (k : Int) - 1074 + 1
    · rw [if_pos h3]; omega
    · rw [if_neg h3, if_neg (by omega)]
      have : ((k : Int) - 1074 + 1 + 1075).toNat = k + 2 := by omega
      rw [this]; omega
  · rw [if_neg hq, if_neg hq]
    by_cases h3 : (971 : Int) < (k : Int) - 1074
    · rw [if_pos h3]; omega
    · rw [if_neg h3]
      by_cases h4 : q < 4503599627370496
      · rw [if_pos h4]; omega
      · rw [if_neg h4]
        have : ((k : Int) - 1074 + 1075).toNat = k + 1 := by omega
        rw [this]; omega

theorem mid_zero : mid 0 = 1 := by
  unfold mid; rw [V_small (by decide), V_small (by decide)]
/-- far below the least number -/
theorem rung_low (m : Nat) (p : Int) (k : Nat) (h : m < 2 ^ k) (hk : (k : Int) + p < -1075) : rung m p = 0 := by
  have := (rung_le_iff m p 0 (by unfold INF; decide)).2 (Or.inl (by
    unfold hA hB
    rw [mid_zero, Nat.one_mul, show (p + 1075).toNat = 0 by omega, Nat.pow_zero, Nat.mul_one]
    exact Nat.lt_of_lt_of_le h (Nat.pow_le_pow_right (by decide) (by omega))))
  omega
def E46 : Nat := 2046
theorem E46_eq : E46 = 2046 := rfl
theorem V_inf : V INF = 2 ^ (52 + E46) := by
  have := V_binade E46 (2 ^ 52) (by decide) (Or.inr (Nat.le_refl _))
  have e : E46 * 2 ^ 52 + 2 ^ 52 = INF := by unfold INF E46; decide
  rw [e] at this; rw [this, ← Nat.pow_add]
/-- far above the greatest one -/
theorem rung_high (m : Nat) (p : Int) (k : Nat) (h : 2 ^ k ≤ m) (hk : 1024 < (k : Int) + p) : rung m p = INF := by
  by_cases c : rung m p = INF
  · exact c
  · exfalso
    have hle := rung_le_inf m p
    have h1 : rung m p ≤ INF - 1 := by omega
    have h0 : INF - 1 < INF := by unfold INF; decide
    have h2 := (rung_le_iff m p (INF - 1) h0).1 h1
    have hE := E46_eq
    have h3 : mid (INF - 1) < 2 ^ (52 + E46 + 1) := by
      unfold mid
      have e : INF - 1 + 1 = INF := by unfold INF; decide
      have := V_lt_succ (INF - 1)
      rw [e, V_inf] at this
      rw [e, V_inf, Nat.pow_succ]
      omega
    have h4 : hB (mid (INF - 1)) p < hA m p := by
      unfold hA hB
      calc mid (INF - 1) * 2 ^ (-(p + 1075)).toNat < 2 ^ (52 + E46 + 1) * 2 ^ (-(p + 1075)).toNat := Nat.mul_lt_mul_of_pos_right h3 (Nat.two_pow_pos _)
        _ ≤ 2 ^ k * 2 ^ (p + 1075).toNat := by rw [← Nat.pow_add, ← Nat.pow_add]; exact Nat.pow_le_pow_right (by decide) (by omega)
        _ ≤ m * 2 ^ (p + 1075).toNat := Nat.mul_le_mul_right _ h
    rcases h2 with h2 | h2
    · exact Nat.lt_asymm h2 h4
    · exact Nat.ne_of_gt h4 h2.1

theorem log2_twice {v m : Nat} (hv : v ≠ 0) (hm : m ≤ 1) : (2 * v + m).log2 = v.log2 + 1 := by
  have h0 : 2 * v + m ≠ 0 := by omega
  have h1 := Nat.log2_self_le hv
  have h2 : v < 2 ^ (v.log2 + 1) := Nat.lt_log2_self
  apply (Nat.log2_eq_iff h0).2
  rw [Nat.pow_succ, Nat.pow_succ]
  rw [Nat.pow_succ] at h2
  omega
end Go.Proofs.Ytijjofdnkdfccaa.Fl
