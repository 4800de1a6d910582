/- What the document's Exact, Sum, Add, Sub (minstrelref02) compute: IEEE 754's sums, with one NaN. Condition: the words have 64 bits. -/
import Derived.Test.YtknpffoglcogeaaNegLaw
namespace Go.Proofs.Ytknpffoglcogeaa.Dig
open Go.RowKit Go.Proofs.Ytknpffoglcogeaa.Ref Go.Proofs.YtknpffoglcogeaaW.PrintWords Go.Proofs.YtknpffoglcogeaaW.PrintLast Go.Proofs.YtknpffoglcogeaaW.PrintMore
open Go.Proofs.Ytknpffoglcogeaa.Num Go.Proofs.Ytknpffoglcogeaa.DigLaw Go.Proofs.Ytknpffoglcogeaa.Fl
open Ieee (double Datum)

/-! ### Exact -/
def lowN (a b : Nat) : Int := if expN b < expN a then expN b else expN a
def xN (a b : Nat) : Nat := fracN a * 2 ^ (expN a - lowN a b).toNat
def yN (a b : Nat) : Nat := fracN b * 2 ^ (expN b - lowN a b).toNat
def exNeg (a b : Nat) : Bool := if sg a = sg b then sg a else if yN a b ≤ xN a b then sg a else sg b
def exMag (a b : Nat) : Nat := if sg a = sg b then xN a b + yN a b else if yN a b ≤ xN a b then xN a b - yN a b else yN a b - xN a b
theorem low_facts (a b : Nat) : lowN a b ≤ expN a ∧ lowN a b ≤ expN b ∧ -1074 ≤ lowN a b ∧ lowN a b ≤ 971 := by
  have ea := exp_range a
  have eb := exp_range b
  unfold lowN; split <;> omega
theorem sn_f (n : Nat) : sn false n = (n : Int) := rfl
theorem sn_t (n : Nat) : sn true n = -(n : Int) := rfl
theorem sn_add_ne {s t : Bool} (h : s ≠ t) (x y : Nat) : sn s x + sn t y = if y ≤ x then sn s (x - y) else sn t (y - x) := by
  cases s <;> cases t
  · exact absurd rfl h
  · rw [sn_f, sn_t, sn_f, sn_t]; split <;> omega
  · rw [sn_t, sn_f, sn_t, sn_f]; split <;> omega
  · exact absurd rfl h
theorem sn_add_eq (s : Bool) (x y : Nat) : sn s x + sn s y = sn s (x + y) := by
  unfold sn; cases s
  · rw [if_neg (by simp), if_neg (by simp), if_neg (by simp)]; omega
  · rw [if_pos rfl, if_pos rfl, if_pos rfl]; omega
theorem ex_sum (a b : Nat) : sn (exNeg a b) (exMag a b) = sn (sg a) (xN a b) + sn (sg b) (yN a b) := by
  unfold exNeg exMag
  by_cases h : sg a = sg b
  · rw [if_pos h, if_pos h, ← h, sn_add_eq]
  · rw [if_neg h, if_neg h, sn_add_ne h]; split <;> rfl
theorem x_Vi (a b : Nat) (fa : rg a < INF) : sn (sg a) (xN a b) * ((2 ^ (lowN a b + 1074).toNat : Nat) : Int) = Vi a :=
  at_base (low_facts a b).1 (low_facts a b).2.2.1 (frac_V a fa)
theorem y_Vi (a b : Nat) (fb : rg b < INF) : sn (sg b) (yN a b) * ((2 ^ (lowN a b + 1074).toNat : Nat) : Int) = Vi b :=
  at_base (low_facts a b).2.1 (low_facts a b).2.2.1 (frac_V b fb)
/-- THE SUM, WITHOUT ROUNDING. -/
theorem ex_Vi (a b : Nat) (fa : rg a < INF) (fb : rg b < INF) : sn (exNeg a b) (exMag a b * 2 ^ (lowN a b + 1074).toNat) = Vi a + Vi b := by
  rw [sn_mul, ex_sum, Int.add_mul, x_Vi a b fa, y_Vi a b fb]
def E98 : Nat := 2098
theorem E98_eq : E98 = 2098 := rfl
theorem up_lt (f : Nat) (h : f < 9007199254740992) (n : Nat) (hn : n ≤ 2045) : f * 2 ^ n < 2 ^ E98 := by
  have hE := E98_eq
  have h1 : f < 2 ^ 53 := Nat.lt_of_lt_of_le h (by decide)
  calc f * 2 ^ n < 2 ^ 53 * 2 ^ n := Nat.mul_lt_mul_of_pos_right h1 (Nat.two_pow_pos n)
    _ = 2 ^ (53 + n) := by rw [← Nat.pow_add]
    _ ≤ 2 ^ E98 := Nat.pow_le_pow_right (by decide) (by omega)
def E200 : Nat := 200
theorem dig_len (n : Nat) (h : n < 2 ^ (E98 + 1)) : (dig n).length ≤ 200 :=
  dig_length' (k := E200) (Nat.lt_of_lt_of_le h (Nat.pow_le_pow_right (by decide) (by unfold E98 E200; decide)))
theorem x_lt (a b : Nat) : xN a b < 2 ^ E98 := by
  have ea := exp_range a
  have hl := low_facts a b
  exact up_lt _ (frac_lt a) _ (by omega)
theorem y_lt (a b : Nat) : yN a b < 2 ^ E98 := by
  have eb := exp_range b
  have hl := low_facts a b
  exact up_lt _ (frac_lt b) _ (by omega)
theorem ex_lt (a b : Nat) : exMag a b < 2 ^ (E98 + 1) := by
  have hx := x_lt a b
  have hy := y_lt a b
  have e : 2 ^ (E98 + 1) = 2 * 2 ^ E98 := by rw [Nat.pow_succ, Nat.mul_comm]
  rw [e]
  generalize 2 ^ E98 = g at *
  unfold exMag
  split
  · omega
  · split <;> omega
theorem exact_glue {k : Nat} {n o : Bool} {e f g h low : Int} {x y X Y R : List Int} {R1 : Bool} {d1 d2 : Int} (hx : minstrelref01_Digits.f f = some x) (hy : minstrelref01_Digits.f h = some y)
    (e1 : wrap64 (e - low) = d1) (e2 : wrap64 (g - low) = d2) (u1 : minstrelref01_Up.f k x d1 = some X) (u2 : minstrelref01_Up.f k y d2 = some Y)
    (hr : (if (n == o) = true then ((minstrelref01_Sum.f k X Y).bind fun t278 => (some (n, low, t278))) else ((minstrelref01_Cmp.f k X Y).bind fun t281 => (if t281 ≥ 0 then ((minstrelref01_Minus.f k X Y).bind fun t282 => (some (n, low, t282))) else ((minstrelref01_Minus.f k Y X).bind fun t285 => (some (o, low, t285)))))) = some (R1, low, R)) :
    minstrelref02_Exact.j0 (k + 1) n e f o g h low = some (R1, low, R) := by
  rw [minstrelref02_Exact.j0, hx, Option.bind_some, e1, u1, Option.bind_some, hy, Option.bind_some, e2, u2, Option.bind_some]
  exact hr
theorem exact_j (a b : Nat) : Ev (fun k => minstrelref02_Exact.j0 k (sg a) (expN a) ((fracN a : Nat) : Int) (sg b) (expN b) ((fracN b : Nat) : Int) (lowN a b)) (exNeg a b, lowN a b, dig (exMag a b)) := by
  have ea := exp_range a
  have eb := exp_range b
  have hl := low_facts a b
  have la := frac_lt a
  have lb := frac_lt b
  obtain ⟨x, hx, dx, vx, lx⟩ := digits_is (fracN a) (by omega)
  obtain ⟨y, hy, dy, vy, ly⟩ := digits_is (fracN b) (by omega)
  have e1 : wrap64 (expN a - lowN a b) = (((expN a - lowN a b).toNat : Nat) : Int) := i64of _ (by omega) (by omega)
  have e2 : wrap64 (expN b - lowN a b) = (((expN b - lowN a b).toNat : Nat) : Int) := i64of _ (by omega) (by omega)
  have u1 := up_is dx (by omega) (expN a - lowN a b).toNat (by omega)
  have u2 := up_is dy (by omega) (expN b - lowN a b).toNat (by omega)
  rw [vx] at u1
  rw [vy] at u2
  have lX := dig_len _ (Nat.lt_trans (x_lt a b) (Nat.pow_lt_pow_right (by decide) (Nat.lt_succ_self _)))
  have lY := dig_len _ (Nat.lt_trans (y_lt a b) (Nat.pow_lt_pow_right (by decide) (Nat.lt_succ_self _)))
  obtain ⟨K1, p1⟩ := u1
  obtain ⟨K2, p2⟩ := u2
  have fin : Ev (fun k => (if (sg a == sg b) = true then ((minstrelref01_Sum.f k (dig (xN a b)) (dig (yN a b))).bind fun t278 => (some (sg a, lowN a b, t278))) else ((minstrelref01_Cmp.f k (dig (xN a b)) (dig (yN a b))).bind fun t281 => (if t281 ≥ 0 then ((minstrelref01_Minus.f k (dig (xN a b)) (dig (yN a b))).bind fun t282 => (some (sg a, lowN a b, t282))) else ((minstrelref01_Minus.f k (dig (yN a b)) (dig (xN a b))).bind fun t285 => (some (sg b, lowN a b, t285))))))) (exNeg a b, lowN a b, dig (exMag a b)) := by
    clear p1 p2 e1 e2 hx hy
    unfold exNeg exMag
    by_cases h : sg a = sg b
    · obtain ⟨K, hs⟩ := sum_is (dig_Dg (xN a b)) (dig_Dg (yN a b)) (Nat.lt_of_le_of_lt lX (by decide)) (Nat.lt_of_le_of_lt lY (by decide))
      refine ⟨K, fun k hk => ?_⟩
      have hs' : minstrelref01_Sum.f k (dig (xN a b)) (dig (yN a b)) = some (dig (val (dig (xN a b)) + val (dig (yN a b)))) := hs k hk
      rw [dig_val, dig_val] at hs'
      show (if (sg a == sg b) = true then _ else _) = _
      rw [if_pos (beq_iff_eq.2 h), if_pos h, if_pos h, hs', Option.bind_some]
    · obtain ⟨K, hc⟩ := cmp_is (dig_Dg (xN a b)) (dig_Dg (yN a b)) (Nat.lt_of_le_of_lt lX (by decide)) (Nat.lt_of_le_of_lt lY (by decide))
      by_cases g : yN a b ≤ xN a b
      · obtain ⟨K', hm⟩ := minus_is (dig_Dg (xN a b)) (dig_Dg (yN a b)) (Nat.lt_of_le_of_lt lX (by decide)) (by rw [dig_val, dig_val]; exact g)
        refine ⟨max K K', fun k hk => ?_⟩
        have hc' : minstrelref01_Cmp.f k (dig (xN a b)) (dig (yN a b)) = some (cmpN (val (dig (xN a b))) (val (dig (yN a b)))) := hc k (by omega)
        have hm' : minstrelref01_Minus.f k (dig (xN a b)) (dig (yN a b)) = some (dig (val (dig (xN a b)) - val (dig (yN a b)))) := hm k (by omega)
        rw [dig_val, dig_val] at hc' hm'
        have hcmp : cmpN (xN a b) (yN a b) ≥ 0 := by unfold cmpN; rw [if_neg (by omega)]; split <;> decide
        show (if (sg a == sg b) = true then _ else _) = _
        rw [if_neg (fun e => h (beq_iff_eq.1 e)), if_neg h, if_neg h, hc', Option.bind_some, if_pos hcmp, hm', Option.bind_some, if_pos g, if_pos g]
      · obtain ⟨K', hm⟩ := minus_is (dig_Dg (yN a b)) (dig_Dg (xN a b)) (Nat.lt_of_le_of_lt lY (by decide)) (by rw [dig_val, dig_val]; omega)
        refine ⟨max K K', fun k hk => ?_⟩
        have hc' : minstrelref01_Cmp.f k (dig (xN a b)) (dig (yN a b)) = some (cmpN (val (dig (xN a b))) (val (dig (yN a b)))) := hc k (by omega)
        have hm' : minstrelref01_Minus.f k (dig (yN a b)) (dig (xN a b)) = some (dig (val (dig (yN a b)) - val (dig (xN a b)))) := hm k (by omega)
        rw [dig_val, dig_val] at hc' hm'
        have hcmp : ¬ cmpN (xN a b) (yN a b) ≥ 0 := by unfold cmpN; rw [if_pos (by omega)]; decide
        show (if (sg a == sg b) = true then _ else _) = _
        rw [if_neg (fun e => h (beq_iff_eq.1 e)), if_neg h, if_neg h, hc', Option.bind_some, if_neg hcmp, hm', Option.bind_some, if_neg g, if_neg g]
  obtain ⟨K3, p3⟩ := fin
  refine ⟨max (max K1 K2) K3 + 1, fun k hk => ?_⟩
  obtain ⟨m, rfl⟩ : ∃ m, k = m + 1 := ⟨k - 1, by omega⟩
  exact exact_glue hx hy e1 e2 (p1 m (by omega)) (p2 m (by omega)) (p3 m (by omega))
theorem exact_top {k : Nat} {a b : Int} {n o : Bool} {e f g h : Int} {r : Bool × Int × List Int} (p1 : minstrelref01_Parts.f k a = some (n, e, f)) (p2 : minstrelref01_Parts.f k b = some (o, g, h))
    (hr : minstrelref02_Exact.j0 k n e f o g h (if g < e then g else e) = some r) : minstrelref02_Exact.f k a b = some r := by
  unfold minstrelref02_Exact.f
  rw [p1, Option.bind_some, p2, Option.bind_some]
  dsimp only
  by_cases c : g < e
  · rw [if_pos c] at hr ⊢; exact hr
  · rw [if_neg c] at hr ⊢; exact hr
theorem exact_is (a b : Nat) (ha : a < W) (hb : b < W) : Ev (fun k => minstrelref02_Exact.f k (a : Int) (b : Int)) (exNeg a b, lowN a b, dig (exMag a b)) := by
  obtain ⟨K1, p1⟩ := parts_is a ha
  obtain ⟨K2, p2⟩ := parts_is b hb
  obtain ⟨K3, p3⟩ := exact_j a b
  exact ⟨max (max K1 K2) K3, fun k hk => exact_top (p1 k (by omega)) (p2 k (by omega)) (p3 k (by omega))⟩
end Go.Proofs.Ytknpffoglcogeaa.Dig
