/- Plain law of IEEE 754 doubles: words as signs and rungs, their order, sums and products, by the whole numbers that the rungs stand for. -/
import Derived.Test.YtijjofdnkdfccaaFlB
namespace Go.Proofs.Ytijjofdnkdfccaa.Fl
open Ieee

/-! ### the same number at another place -/
theorem scale_k (m M k : Nat) (p : Int) : ∃ t, hA (m * 2 ^ k) (p - k) = hA m p * 2 ^ t ∧ hB M (p - k) = hB M p * 2 ^ t := by
  unfold hA hB
  by_cases h1 : 0 ≤ p - k + 1075
  · refine ⟨0, ?_, ?_⟩
    · rw [Nat.mul_assoc, ← Nat.pow_add, Nat.pow_zero, Nat.mul_one]; congr 2; omega
    · rw [show (-(p - k + 1075)).toNat = 0 by omega, show (-(p + 1075)).toNat = 0 by omega, Nat.pow_zero, Nat.mul_one, Nat.mul_one]
  · by_cases h2 : 0 ≤ p + 1075
    · refine ⟨k - (p + 1075).toNat, ?_, ?_⟩
      · rw [show (p - k + 1075).toNat = 0 by omega, Nat.pow_zero, Nat.mul_one, Nat.mul_assoc, ← Nat.pow_add]; congr 2; omega
      · rw [show (-(p + 1075)).toNat = 0 by omega, Nat.pow_zero, Nat.mul_one]; congr 2; omega
    · refine ⟨k, ?_, ?_⟩
      · rw [show (p - k + 1075).toNat = 0 by omega, show (p + 1075).toNat = 0 by omega, Nat.pow_zero, Nat.mul_one, Nat.mul_one]
      · rw [Nat.mul_assoc, ← Nat.pow_add]; congr 2; omega
theorem rung_ext {m n : Nat} {p q : Int} (h : ∀ r, r < INF → (rung m p ≤ r ↔ rung n q ≤ r)) : rung m p = rung n q := by
  have h1 := rung_le_inf m p
  have h2 := rung_le_inf n q
  by_cases c1 : rung m p < INF
  · have := (h _ c1).1 (Nat.le_refl _)
    have c2 : rung n q < INF := Nat.lt_of_le_of_lt this c1
    exact Nat.le_antisymm ((h _ c2).2 (Nat.le_refl _)) this
  · by_cases c2 : rung n q < INF
    · have := (h _ c2).2 (Nat.le_refl _); omega
    · omega
theorem rung_scale (m k : Nat) (p : Int) : rung (m * 2 ^ k) (p - k) = rung m p := by
  apply rung_ext
  intro r hr
  rw [rung_le_iff _ _ r hr, rung_le_iff _ _ r hr]
  obtain ⟨t, h1, h2⟩ := scale_k m (mid r) k p
  have ht : 0 < 2 ^ t := Nat.two_pow_pos t
  rw [h1, h2, Nat.mul_lt_mul_right ht]
  exact ⟨fun h => h.imp id fun h => ⟨Nat.eq_of_mul_eq_mul_right ht h.1, h.2⟩, fun h => h.imp id fun h => ⟨by rw [h.1], h.2⟩⟩
theorem rung_at (m : Nat) (p q : Int) (h : q ≤ p) : rung m p = rung (m * 2 ^ (p - q).toNat) q := by
  have := rung_scale m (p - q).toNat p
  rw [show p - ((p - q).toNat : Int) = q by omega] at this
  exact this.symm
theorem rung_twice (m : Nat) (p : Int) : rung (2 * m + false.toNat) (p - 1) = rung m p := by
  have := rung_scale m 1 p
  rw [Nat.pow_one, Nat.mul_comm] at this
  exact this

/-! ### order -/
theorem rung_mono_at {m n : Nat} {q : Int} (h : m ≤ n) : rung m q ≤ rung n q := by
  have h2 := rung_le_inf m q
  by_cases c : rung n q < INF
  · apply (rung_le_iff m q _ c).2
    have h3 := (rung_le_iff n q _ c).1 (Nat.le_refl _)
    have h4 : hA m q ≤ hA n q := Nat.mul_le_mul_right _ h
    rcases h3 with h3 | h3
    · left; exact Nat.lt_of_le_of_lt h4 h3
    · rcases Nat.lt_or_ge (hA m q) (hB (mid (rung n q)) q) with h5 | h5
      · left; exact h5
      · right; exact ⟨Nat.le_antisymm (h3.1 ▸ h4) h5, h3.2⟩
  · omega
/-- a rung's own number is rounded to the rung -/
theorem rung_V (r : Nat) (h : r ≤ INF) : rung (V r) (-1074) = r := by
  have key : ∀ s, s < INF → (rung (V r) (-1074) ≤ s ↔ r ≤ s) := by
    intro s hs
    rw [rung_le_iff _ _ s hs]
    have e1 : hA (V r) (-1074) = 2 * V r := by unfold hA; rw [show ((-1074 : Int) + 1075).toNat = 1 from rfl, Nat.pow_one, Nat.mul_comm]
    have e2 : hB (mid s) (-1074) = V s + V (s + 1) := by unfold hB mid; rw [show (-((-1074 : Int) + 1075)).toNat = 0 from rfl, Nat.pow_zero, Nat.mul_one]
    rw [e1, e2]
    have hlt := V_lt_succ s
    by_cases c : r ≤ s
    · have := V_mono c
      exact ⟨fun _ => c, fun _ => Or.inl (by omega)⟩
    · have := V_mono (show s + 1 ≤ r by omega)
      exact ⟨fun h => by omega, fun h => absurd h c⟩
  have h2 := rung_le_inf (V r) (-1074)
  by_cases c : r < INF
  · have h3 := (key r c).2 (Nat.le_refl _)
    have h4 := (key _ (Nat.lt_of_le_of_lt h3 c)).1 (Nat.le_refl _)
    omega
  · have hr : r = INF := by omega
    by_cases c2 : rung (V r) (-1074) < INF
    · have := (key _ c2).1 (Nat.le_refl _); omega
    · omega

/-! ### words -/
def sg (a : Nat) : Bool := a / 2 ^ 63 % 2 == 1
def rg (a : Nat) : Nat := a % 2 ^ 63
def sn (s : Bool) (n : Nat) : Int := if s then -(n : Int) else (n : Int)
/-- what a word stands for, in units of the least number; an infinity is above all -/
def Vi (a : Nat) : Int := sn (sg a) (V (rg a))

theorem read_eq (a : Nat) : double.read a = if rg a < 2 ^ 52 then .number (sg a) (rg a) (-1074) else if rg a < INF then .number (sg a) (2 ^ 52 + rg a % 2 ^ 52) (-1074 + ((rg a / 2 ^ 52 - 1 : Nat) : Int)) else if rg a = INF then .infinity (sg a) else .nan (sg a) (rg a - INF) := by
  unfold Format.read
  rw [signWeight_eq, binade_eq, infRung_eq, leastPlace_eq]
  rfl
theorem read_fin {a : Nat} (h : rg a < INF) : ∃ m p, double.read a = .number (sg a) m p ∧ -1074 ≤ p ∧ m * 2 ^ (p + 1074).toNat = V (rg a) := by
  rw [read_eq]
  by_cases c : rg a < 2 ^ 52
  · rw [if_pos c]
    refine ⟨_, _, rfl, Int.le_refl _, ?_⟩
    rw [V_small c, show ((-1074 : Int) + 1074).toNat = 0 from rfl, Nat.pow_zero, Nat.mul_one]
  · rw [if_neg c, if_pos h]
    refine ⟨_, _, rfl, by omega, ?_⟩
    unfold V
    rw [if_neg c]
    congr 2; omega
theorem read_inf {a : Nat} (h : rg a = INF) : double.read a = .infinity (sg a) := by
  have h1 : ¬ rg a < 2 ^ 52 := by rw [h]; unfold INF; decide
  rw [read_eq, if_neg h1, if_neg (by omega), if_pos h]
theorem read_nan {a : Nat} (h : INF < rg a) : double.read a = .nan (sg a) (rg a - INF) := by
  have h1 : ¬ rg a < 2 ^ 52 := fun c => absurd (Nat.lt_trans h c) (by unfold INF; decide)
  rw [read_eq, if_neg h1, if_neg (by omega), if_neg (by omega)]

theorem signed_eq (s : Bool) (m k : Nat) : signed s m k = sn s (m * 2 ^ k) := by unfold signed sn; rw [Nat.shiftLeft_eq]
theorem sn_mul (s : Bool) (m c : Nat) : sn s (m * c) = sn s m * (c : Int) := by
  unfold sn; cases s
  · rw [if_neg (by simp), if_neg (by simp), Int.natCast_mul]
  · rw [if_pos rfl, if_pos rfl, Int.natCast_mul, Int.neg_mul]
theorem sn_abs (s : Bool) (m : Nat) : (sn s m).natAbs = m := by unfold sn; cases s <;> simp
theorem cmp_lt {x y : Int} (h : x < y) : compare x y = .lt := by simp only [compare, compareOfLessAndEq]; rw [if_pos h]
theorem cmp_eq {x y : Int} (h : x = y) : compare x y = .eq := by simp only [compare, compareOfLessAndEq]; rw [if_neg (by omega), if_pos h]
theorem cmp_gt {x y : Int} (h : y < x) : compare x y = .gt := by simp only [compare, compareOfLessAndEq]; rw [if_neg (by omega), if_neg (by omega)]
theorem cmp_mul (x y : Int) (c : Nat) (h : 0 < c) : compare (x * (c : Int)) (y * (c : Int)) = compare x y := by
  have hc : (0 : Int) < (c : Int) := by omega
  rcases Int.lt_trichotomy x y with l | l | l
  · rw [cmp_lt l, cmp_lt (Int.mul_lt_mul_of_pos_right l hc)]
  · rw [l, cmp_eq rfl, cmp_eq rfl]
  · rw [cmp_gt l, cmp_gt (Int.mul_lt_mul_of_pos_right l hc)]

/-- a finite word's number at a place between the least one and its own -/
theorem at_base {a m : Nat} {p base : Int} (hp : base ≤ p) (hb : -1074 ≤ base) (hv : m * 2 ^ (p + 1074).toNat = V (rg a)) : sn (sg a) (m * 2 ^ (p - base).toNat) * ((2 ^ (base + 1074).toNat : Nat) : Int) = Vi a := by
  unfold Vi
  rw [← sn_mul, Nat.mul_assoc, ← Nat.pow_add, show (p - base).toNat + (base + 1074).toNat = (p + 1074).toNat by omega, hv]

theorem V_lt_inf {r : Nat} (h : r < INF) : V r < V INF := V_strict h
theorem Vi_fin {a b : Nat} (ha : rg a < INF) (hb : rg b = INF) : sg b = false → Vi a < Vi b := by
  intro hs
  have := V_lt_inf ha
  unfold Vi sn; rw [hs, hb]; cases sg a <;> simp <;> omega
theorem Vi_fin' {a b : Nat} (ha : rg a < INF) (hb : rg b = INF) : sg b = true → Vi b < Vi a := by
  intro hs
  have := V_lt_inf ha
  unfold Vi sn; rw [hs, hb]; cases sg a <;> simp <;> omega
theorem V_inf_pos : 0 < V INF := Nat.lt_of_le_of_lt (Nat.zero_le _) (V_lt_inf (r := 0) (by unfold INF; decide))

/-- THE ORDER of two words that are no NaNs is that of the numbers that they stand for. -/
theorem order_eq {a b : Nat} (ha : rg a ≤ INF) (hb : rg b ≤ INF) : double.order a b = some (compare (Vi a) (Vi b)) := by
  unfold Format.order
  rcases Nat.lt_or_ge (rg a) INF with fa | fa
  · obtain ⟨m, p, e1, hp, hv⟩ := read_fin fa
    rcases Nat.lt_or_ge (rg b) INF with fb | fb
    · obtain ⟨n, q, e2, hq, hw⟩ := read_fin fb
      rw [e1, e2]
      simp only [Datum.order, signed_eq]
      rw [← at_base (base := min p q) (by omega) (by omega) hv, ← at_base (base := min p q) (by omega) (by omega) hw, cmp_mul _ _ _ (Nat.two_pow_pos _)]
    · have fb' : rg b = INF := by omega
      rw [e1, read_inf fb']
      simp only [Datum.order]
      cases hs : sg b
      · rw [cmp_lt (Vi_fin fa fb' hs)]; rfl
      · rw [cmp_gt (Vi_fin' fa fb' hs)]; rfl
  · have fa' : rg a = INF := by omega
    rcases Nat.lt_or_ge (rg b) INF with fb | fb
    · obtain ⟨n, q, e2, hq, hw⟩ := read_fin fb
      rw [read_inf fa', e2]
      simp only [Datum.order]
      cases hs : sg a
      · rw [cmp_gt (Vi_fin fb fa' hs)]; rfl
      · rw [cmp_lt (Vi_fin' fb fa' hs)]; rfl
    · have fb' : rg b = INF := by omega
      rw [read_inf fa', read_inf fb']
      simp only [Datum.order]
      have hp := V_inf_pos
      unfold Vi sn
      rw [fa', fb']
      cases sg a <;> cases sg b
      · rw [cmp_eq rfl]; rfl
      · rw [cmp_gt (by rw [if_pos rfl, if_neg (by simp)]; omega)]; rfl
      · rw [cmp_lt (by rw [if_pos rfl, if_neg (by simp)]; omega)]; rfl
      · rw [cmp_eq rfl]; rfl
theorem order_nan {a b : Nat} (h : INF < rg a ∨ INF < rg b) : double.order a b = none := by
  unfold Format.order
  rcases h with h | h
  · rw [read_nan h]; rfl
  · rw [read_nan h]
    cases double.read a <;> rfl

/-! ### sums and products of finite words -/
theorem write_number (s : Bool) (m : Nat) (p : Int) : double.write (.number s m p) = double.word s (rung m p) := nearest_eq s m p
theorem word_zero_rung (s : Bool) : double.word s 0 = if s then 2 ^ 63 else 0 := by cases s <;> rfl
/-- the word of a number in units of the least one; z: the sign of nothing -/
def wordI (z : Bool) (T : Int) : Nat := double.word (if T = 0 then z else decide (T < 0)) (rung T.natAbs (-1074))
theorem add_fin {a b : Nat} (fa : rg a < INF) (fb : rg b < INF) : double.add a b = some (wordI (sg a && sg b) (Vi a + Vi b)) := by
  obtain ⟨m, p, e1, hp, hv⟩ := read_fin fa
  obtain ⟨n, q, e2, hq, hw⟩ := read_fin fb
  have h1 := at_base (base := min p q) (by omega) (by omega) hv
  have h2 := at_base (base := min p q) (by omega) (by omega) hw
  unfold Format.add
  rw [e1, e2]
  simp only [Datum.sum, signed_eq, Option.map_some, write_number]
  rw [← h1, ← h2, ← Int.add_mul]
  generalize sn (sg a) (m * 2 ^ (p - min p q).toNat) + sn (sg b) (n * 2 ^ (q - min p q).toNat) = T
  have hb : (-1074 : Int) ≤ min p q := by omega
  rw [rung_at T.natAbs (min p q) (-1074) hb, show min p q - -1074 = min p q + 1074 by omega]
  have hc := Nat.two_pow_pos (min p q + 1074).toNat
  generalize 2 ^ (min p q + 1074).toNat = c at hc
  unfold wordI
  rw [Int.natAbs_mul, Int.natAbs_natCast]
  have hci : (0 : Int) < (c : Int) := by omega
  have z1 : T * (c : Int) = 0 ↔ T = 0 := ⟨fun h => (Int.mul_eq_zero.1 h).resolve_right (by omega), fun h => by rw [h, Int.zero_mul]⟩
  have z2 : T * (c : Int) < 0 ↔ T < 0 := ⟨fun h => by
      rcases Int.lt_or_le T 0 with l | l
      · exact l
      · exact absurd h (Int.not_lt.2 (Int.mul_nonneg l (Int.le_of_lt hci))), fun h => Int.mul_neg_of_neg_of_pos h hci⟩
  congr 2
  by_cases c0 : T = 0
  · rw [if_pos (by simpa using c0), if_pos (z1.2 c0)]
  · rw [if_neg (by simpa using c0), if_neg (fun h => c0 (z1.1 h))]
    exact decide_eq_decide.2 z2.symm
theorem mul_fin {a b : Nat} (fa : rg a < INF) (fb : rg b < INF) : double.mul a b = some (double.word (sg a ^^ sg b) (rung (V (rg a) * V (rg b)) (-2148))) := by
  obtain ⟨m, p, e1, hp, hv⟩ := read_fin fa
  obtain ⟨n, q, e2, hq, hw⟩ := read_fin fb
  unfold Format.mul
  rw [e1, e2]
  simp only [Datum.product, Option.map_some, write_number]
  rw [rung_at (m * n) (p + q) (-2148) (by omega), ← hv, ← hw]
  congr 3
  rw [show (p + q - -2148).toNat = (p + 1074).toNat + (q + 1074).toNat by omega, Nat.pow_add]
  generalize 2 ^ (p + 1074).toNat = x
  generalize 2 ^ (q + 1074).toNat = y
  ac_rfl
end Go.Proofs.Ytijjofdnkdfccaa.Fl
