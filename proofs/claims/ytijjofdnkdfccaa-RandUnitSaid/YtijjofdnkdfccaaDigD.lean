/- What the document's Round (minstrelref01) computes: the nearest double of a number of any size, and a little more. Conditions: the digits are not too many, the exponent lies within a hundred thousand, and where there is a little more the number has at least 56 bits. -/
import Derived.Test.YtijjofdnkdfccaaDigC
import Derived.Test.YtijjofdnkdfccaaRoundLaw
namespace Go.Proofs.Ytijjofdnkdfccaa.Dig
open Go.RowKit Go.Proofs.Ytijjofdnkdfccaa.Ref Go.Proofs.YtijjofdnkdfccaaW.PrintWords Go.Proofs.YtijjofdnkdfccaaW.PrintLast Go.Proofs.YtijjofdnkdfccaaW.PrintMore
open Go.Proofs.Ytijjofdnkdfccaa.Num Go.Proofs.Ytijjofdnkdfccaa.DigLaw Go.Proofs.Ytijjofdnkdfccaa.Fl

def S63 : Nat := 9223372036854775808
def sgn (neg : Bool) : Nat := if neg then S63 else 0
theorem S63_two : S63 = 2 ^ 63 := by decide
theorem word_eq (neg : Bool) (r : Nat) : Ieee.double.word neg r = sgn neg + r := by
  cases neg
  · rw [word_false]; unfold sgn; simp
  · rw [word_true]; rfl
theorem INF_lt : INF < S63 := by unfold INF S63; decide
theorem sign_is (neg : Bool) : minstrelref01_Sign.f neg = some ((sgn neg : Nat) : Int) := by
  unfold minstrelref01_Sign.f sgn; cases neg <;> rfl
theorem or_sgn (neg : Bool) (r : Nat) (h : r < S63) : Go.bits .or .u64 ((sgn neg : Nat) : Int) (r : Int) = ((sgn neg + r : Nat) : Int) := by
  unfold S63 at h
  unfold sgn S63
  cases neg
  · rw [if_neg (by simp), or_nat 0 r (by omega) (by omega), Nat.zero_or, Nat.zero_add]
  · rw [if_pos rfl, or_nat _ r (by omega) (by omega)]
    have := Nat.two_pow_add_eq_or_of_lt (i := 63) (b := r) (by omega) 1
    rw [Nat.mul_one] at this
    rw [show (9223372036854775808 : Nat) = 2 ^ 63 from by decide, ← this]
theorem infinite_is (neg : Bool) : minstrelref01_Infinite.f neg = some ((sgn neg + INF : Nat) : Int) := by
  unfold minstrelref01_Infinite.f
  rw [sign_is]; simp only [Option.bind_some]
  rw [show (9218868437227405312 : Int) = ((INF : Nat) : Int) from by unfold INF; decide, or_sgn neg INF INF_lt]

theorem j5_is (neg : Bool) (e : Int) (q : Nat) (hq : q < 9007199254740992) (h0 : -1074 ≤ e) (h1 : e ≤ 100000) :
    Ev (fun k => minstrelref01_Round.j5 k neg e (q : Int)) ((sgn neg + (if 971 < e then INF else if q < 4503599627370496 then q else (e + 1075).toNat * 4503599627370496 + (q - 4503599627370496)) : Nat) : Int) := by
  refine Ev.step (f := fun _ => some ((sgn neg + (if 971 < e then INF else if q < 4503599627370496 then q else (e + 1075).toNat * 4503599627370496 + (q - 4503599627370496)) : Nat) : Int)) (fun k => ?_) (Ev.now _)
  rw [minstrelref01_Round.j5, sign_is, infinite_is]; simp only [Option.bind_some]
  by_cases c1 : 971 < e
  · have c1g : e > 971 := c1
    rw [if_pos c1g, if_pos c1]
  · have c1g : ¬ e > 971 := c1
    rw [if_neg c1g, if_neg c1]
    by_cases c2 : q < 4503599627370496
    · have c2i : (q : Int) < 4503599627370496 := by omega
      rw [if_pos c2i, if_pos c2, or_sgn neg q (by unfold S63; omega)]
    · have c2i : ¬ (q : Int) < 4503599627370496 := by omega
      rw [if_neg c2i, if_neg c2]
      obtain ⟨n, hn, hn2⟩ : ∃ n : Nat, e + 1075 = (n : Int) ∧ n ≤ 2046 := ⟨(e + 1075).toNat, by omega, by omega⟩
      rw [i64of n hn (by omega), u64of n (by omega), show (e + 1075).toNat = n by omega]
      have e1 : IntKind.u64.wrap ((n : Int) * 4503599627370496) = ((n * 4503599627370496 : Nat) : Int) := by rw [show (n : Int) * 4503599627370496 = ((n * 4503599627370496 : Nat) : Int) from by omega]; exact u64of _ (by omega)
      have e2 : IntKind.u64.wrap ((q : Int) - 4503599627370496) = ((q - 4503599627370496 : Nat) : Int) := by rw [show (q : Int) - 4503599627370496 = ((q - 4503599627370496 : Nat) : Int) from by omega]; exact u64of _ (by omega)
      rw [e1, e2, or_sgn neg _ (by unfold S63; omega)]
      generalize hd : q - 4503599627370496 = d
      have hd2 : d < 4503599627370496 := by omega
      have key : (sgn neg + n * 4503599627370496) ||| d = sgn neg + n * 4503599627370496 + d := by
        have hs : sgn neg + n * 4503599627370496 = 2 ^ 52 * ((if neg then 2048 else 0) + n) := by
          unfold sgn S63
          rw [show (2 : Nat) ^ 52 = 4503599627370496 from by decide]
          cases neg
          · rw [if_neg (by simp), if_neg (by simp)]; omega
          · rw [if_pos rfl, if_pos rfl]; omega
        rw [hs]; exact (Nat.two_pow_add_eq_or_of_lt (i := 52) (by omega) _).symm
      have hsg : sgn neg ≤ 9223372036854775808 := by unfold sgn S63; split <;> omega
      rw [or_nat _ _ (by omega) (by omega), key, Nat.add_assoc]
theorem j4_is (neg : Bool) (e : Int) (q : Nat) (hq : q ≤ 2 ^ 53) (h0 : -1074 ≤ e) (h1 : e ≤ 90000) : Ev (fun k => minstrelref01_Round.j4 k neg e (q : Int)) ((sgn neg + wordOf q e : Nat) : Int) := by
  have c1 : (2 : Nat) ^ 53 = 9007199254740992 := by decide
  have c2 : (2 : Nat) ^ 52 = 4503599627370496 := by decide
  unfold wordOf
  rw [c1, c2] at *
  dsimp only
  by_cases c : q = 9007199254740992
  · rw [if_pos c, if_pos c]
    have := j5_is neg (e + 1) 4503599627370496 (by decide) (by omega) (by omega)
    refine Ev.step (f := fun k => minstrelref01_Round.j5 k neg (e + 1) ((4503599627370496 : Nat) : Int)) (fun k => ?_) this
    rw [minstrelref01_Round.j4, if_pos (by omega), i64in (by omega) (by omega)]; rfl
  · rw [if_neg c, if_neg c]
    refine Ev.step (f := fun k => minstrelref01_Round.j5 k neg e (q : Int)) (fun k => ?_) (j5_is neg e q (by omega) h0 (by omega))
    rw [minstrelref01_Round.j4, if_neg (by omega)]
theorem j3_is (neg : Bool) (e : Int) (q : Nat) (u : Bool) (hq : q + u.toNat ≤ 2 ^ 53) (h0 : -1074 ≤ e) (h1 : e ≤ 90000) : Ev (fun k => minstrelref01_Round.j3 k neg e (q : Int) u) ((sgn neg + wordOf (q + u.toNat) e : Nat) : Int) := by
  have c1 : (2 : Nat) ^ 53 = 9007199254740992 := by decide
  cases u
  · refine Ev.step (f := fun k => minstrelref01_Round.j4 k neg e (q : Int)) (fun k => ?_) (j4_is neg e q hq h0 h1)
    rw [minstrelref01_Round.j3, if_neg (by simp)]
  · have hq' : q + 1 ≤ 2 ^ 53 := hq
    refine Ev.step (f := fun k => minstrelref01_Round.j4 k neg e ((q + 1 : Nat) : Int)) (fun k => ?_) (j4_is neg e (q + 1) hq h0 h1)
    rw [minstrelref01_Round.j3, if_pos rfl, show (q : Int) + 1 = ((q + 1 : Nat) : Int) from rfl, u64of _ (by omega)]
theorem j2_is (neg : Bool) (e : Int) (x : Nat) (lost : Bool) (hx : kept x lost ≤ 2 ^ 53) (h0 : -1074 ≤ e) (h1 : e ≤ 90000) : Ev (fun k => minstrelref01_Round.j2 k neg e (dig x) lost) ((sgn neg + wordOf (kept x lost) e : Nat) : Int) := by
  have c1 : (2 : Nat) ^ 53 = 9007199254740992 := by decide
  have hb : x < 18446744073709551616 := by unfold kept at hx; rw [c1] at hx; omega
  have hs := small_is (dig_Dg x) (by rw [dig_val]; exact hb)
  rw [dig_val] at hs
  have hm := mask_nat x 2 hb (by decide)
  rw [show ((2 ^ 2 - 1 : Nat) : Int) = 3 from by decide, show (2 : Nat) ^ 2 = 4 from by decide] at hm
  have hd : (x : Int) / 4 = ((x / 4 : Nat) : Int) := by omega
  have ho : (Int.tmod ((x / 4 : Nat) : Int) 2 == 1) = (x / 4 % 2 == 1) := by
    rw [Int.tmod_eq_emod_of_nonneg (Int.natCast_nonneg _)]
    by_cases c : x / 4 % 2 = 1
    · rw [beq_iff_eq.mpr c, beq_iff_eq.mpr (by omega)]
    · rw [beq_eq_false_iff_ne.mpr c, beq_eq_false_iff_ne.mpr (by omega)]
  refine Ev.step (f := fun k => minstrelref01_Round.j3 k neg e ((x / 4 : Nat) : Int) (upOf x lost)) (fun k => ?_) (j3_is neg e (x / 4) (upOf x lost) hx h0 h1)
  rw [minstrelref01_Round.j2, hs]; simp only [Option.bind_some]
  rw [hm, hd, ho]
  unfold upOf
  by_cases a : 2 < x % 4
  · rw [if_pos (by omega), decide_eq_true a, Bool.true_or]
  · rw [if_neg (by omega), decide_eq_false a, Bool.false_or]
    by_cases b : x % 4 = 2
    · rw [if_pos (by omega), beq_iff_eq.mpr b, Bool.true_and]
      cases lost
      · rw [if_neg (by simp), Bool.false_or]
      · rw [if_pos rfl, Bool.true_or]
    · rw [if_neg (by omega), beq_eq_false_iff_ne.mpr b, Bool.false_and]
end Go.Proofs.Ytijjofdnkdfccaa.Dig
