/- QuoBack: a product of whole numbers is divided back, and a square's root found again. No condition but the kinds of the arguments. -/
import Derived.Test.YteghlmcafhhkcaaAnswers
import Derived.Deep.RegionHeld3
namespace Go.Proofs.Yteghlmcafhhkcaa.Ans
open Go Go.RowKit Go.Proofs.Yteghlmcafhhkcaa.Ref Go.Proofs.YteghlmcafhhkcaaW.PrintWords Go.Proofs.YteghlmcafhhkcaaW.PrintLast Go.Proofs.YteghlmcafhhkcaaW.PrintMore
open Go.Proofs.Yteghlmcafhhkcaa.Num Go.Proofs.Yteghlmcafhhkcaa.DigLaw Go.Proofs.Yteghlmcafhhkcaa.Fl Go.Proofs.Yteghlmcafhhkcaa.Dig Go.Proofs.Yteghlmcafhhkcaa.Float
open Ieee (double Datum)

theorem lawWhole_is (n : Nat) (h : n < W) : Ev (fun k => minstrellaw03_whole.f k (n : Int)) ((rung n 0 : Nat) : Int) := by
  obtain ⟨l, hl, dl, vl, ll⟩ := digits_is n h
  have hr := round_is false 0 dl (by omega) false (by omega) (by omega) (fun h => by cases h)
  rw [vl, nearest_eq, rung_twice, word_false] at hr
  obtain ⟨K, hK⟩ := hr
  refine ⟨K, fun k hk => ?_⟩
  have h2 : minstrelref01_Round.f k false 0 l false = some ((rung n 0 : Nat) : Int) := hK k hk
  show minstrellaw03_whole.f k (n : Int) = some ((rung n 0 : Nat) : Int)
  unfold minstrellaw03_whole.f
  rw [hl, Option.bind_some, h2, Option.bind_some]
theorem ans_whole (n : Nat) (h : n < W) : Ans 16 #[.int .u64 n] (.int .u64 (rung n 0 : Nat)) := by
  intro w
  obtain ⟨k, hk⟩ := (lawWhole_is n h).rounds
  exact minstrellaw03_whole.calls k _ _ w hk
theorem whole_facts {n : Nat} (h : n < 2 ^ 53) : rung n 0 < INF ∧ rg (rung n 0) = rung n 0 ∧ sg (rung n 0) = false ∧ rung n 0 < W ∧ V (rung n 0) = n * 2 ^ E74 := by
  obtain ⟨h1, h2⟩ := whole_V n h
  obtain ⟨p1, p2, p3⟩ := pos_word (Nat.le_of_lt h1)
  exact ⟨h1, p2, p1, p3, h2⟩
theorem whole_ne {n : Nat} (h : n < 2 ^ 53) (h0 : n ≠ 0) : rung n 0 ≠ 0 := by
  intro e
  have h2 := (whole_facts h).2.2.2.2
  rw [e, V_small (by decide)] at h2
  exact Nat.mul_ne_zero h0 (Nat.ne_of_gt (Nat.two_pow_pos E74)) h2.symm
def E1200 : Nat := 1200
theorem rt_square (w : Nat) : rt (w * w) = w := (rt_spec _).unique ⟨Nat.le_refl _, Nat.mul_self_lt_mul_self (Nat.lt_succ_self w)⟩
theorem SR_square (w : Nat) : SR (w * w) = 2 * w := by
  unfold SR; rw [rt_square]; simp
theorem sqrt_square {x : Nat} (h : x * x < 2 ^ 53) : sqrtW (rung (x * x) 0) = rung x 0 := by
  by_cases h0 : x = 0
  · subst h0
    rw [Nat.zero_mul, rung_zero, sq_eq]
    unfold sqW; rw [sqrt_zero (by decide) (by decide), Option.getD_some]
  · obtain ⟨f1, f2, f3, f4, f5⟩ := whole_facts h
    have f0 := whole_ne h (Nat.mul_ne_zero h0 h0)
    rw [sq_eq]
    unfold sqW
    rw [sqrt_V (by rw [f2]; exact f1) (by rw [f2]; exact f0) f3, Option.getD_some, f2, f5]
    have e : x * x * 2 ^ E74 * 2 ^ E1326 = (x * 2 ^ E1200) * (x * 2 ^ E1200) := by
      rw [Nat.mul_mul_mul_comm, Nat.mul_assoc, ← Nat.pow_add, ← Nat.pow_add, show E74 + E1326 = E1200 + E1200 from by unfold E74 E1326 E1200; decide]
    rw [e, SR_square]
    have s := rung_scale x (E1200 + 1) 0
    rw [show (0 : Int) - ((E1200 + 1 : Nat) : Int) = -1201 from by unfold E1200; decide] at s
    rw [← s, Nat.pow_succ, Nat.mul_comm (2 ^ E1200) 2, Nat.mul_left_comm]
def K3 : Nat := 3000
/-- a quotient that comes out even -/
theorem div_exact {a b x : Nat} (fa : rg a < INF) (fb : rg b < INF) (za : rg a ≠ 0) (zb : rg b ≠ 0) (sa : sg a = false) (sb : sg b = false) (h : V (rg a) = x * V (rg b)) : divW a b = rung x 0 := by
  have hK : K3 = 3000 := rfl
  have ea := exp_range a
  have eb := exp_range b
  have hl := frac_log b
  have nb := frac_pos fb zb
  have va := frac_V a fa
  have vb := frac_V b fb
  unfold divW
  rw [div_parts fa fb za zb K3 (by omega), sa, sb, Option.getD_some]
  show double.word false _ = _
  rw [word_false]
  obtain ⟨A, hA⟩ : ∃ A : Nat, (A : Int) = expN a + 1074 := ⟨(expN a + 1074).toNat, by omega⟩
  obtain ⟨B, hB⟩ : ∃ B : Nat, (B : Int) = expN b + 1074 := ⟨(expN b + 1074).toNat, by omega⟩
  rw [show (expN a + 1074).toNat = A by omega] at va
  rw [show (expN b + 1074).toNat = B by omega] at vb
  obtain ⟨j, hj⟩ : ∃ j, B + K3 = A + j := ⟨B + K3 - A, by omega⟩
  have hf : fracN a * 2 ^ K3 = fracN b * (x * 2 ^ j) := by
    apply Nat.eq_of_mul_eq_mul_right (Nat.two_pow_pos A)
    calc fracN a * 2 ^ K3 * 2 ^ A = V (rg a) * 2 ^ K3 := by rw [← va, Nat.mul_right_comm]
      _ = x * (fracN b * 2 ^ B) * 2 ^ K3 := by rw [h, vb]
      _ = fracN b * x * 2 ^ (B + K3) := by rw [Nat.pow_add, ← Nat.mul_assoc, ← Nat.mul_assoc, Nat.mul_comm x]
      _ = fracN b * x * 2 ^ (A + j) := by rw [hj]
      _ = fracN b * (x * 2 ^ j) * 2 ^ A := by rw [Nat.add_comm, Nat.pow_add, ← Nat.mul_assoc, ← Nat.mul_assoc]
  have hs : stick (fracN a) (fracN b) K3 = x * 2 ^ (j + 1) := by
    unfold stick
    rw [hf, Nat.mul_div_cancel_left _ (Nat.pos_of_ne_zero nb), Nat.mul_mod_right]
    show 2 * (x * 2 ^ j) + 0 = _
    rw [Nat.add_zero, Nat.pow_succ, Nat.mul_comm (2 ^ j) 2, Nat.mul_left_comm]
  rw [hs]
  have s := rung_scale x (j + 1) 0
  rw [show expN a - expN b - 1 - ((K3 : Nat) : Int) = 0 - ((j + 1 : Nat) : Int) by omega, s]
theorem div_back {x y : Nat} (hxy : x * y < 2 ^ 53) (hy : y < 2 ^ 53) (h0 : y ≠ 0) : divW (rung (x * y) 0) (rung y 0) = rung x 0 := by
  obtain ⟨f1, f2, f3, f4, f5⟩ := whole_facts hxy
  obtain ⟨g1, g2, g3, g4, g5⟩ := whole_facts hy
  have gy := whole_ne hy h0
  by_cases hx : x = 0
  · subst hx
    rw [Nat.zero_mul, rung_zero]
    unfold divW
    rw [div_0 (by decide) (by rw [g2]; exact g1) (by rw [g2]; exact gy), g3, Option.getD_some]
    rfl
  · exact div_exact (by rw [f2]; exact f1) (by rw [g2]; exact g1) (by rw [f2]; exact whole_ne hxy (Nat.mul_ne_zero hx h0)) (by rw [g2]; exact gy) f3 g3 (by rw [f2, g2, f5, g5, Nat.mul_assoc])
theorem rem_back {n y : Nat} (hn : n < 2 ^ 53) (hy : y < 2 ^ 53) (h0 : y ≠ 0) : remW (rung n 0) (rung y 0) = rung (n % y) 0 := by
  obtain ⟨f1, f2, f3, f4, f5⟩ := whole_facts hn
  obtain ⟨g1, g2, g3, g4, g5⟩ := whole_facts hy
  have gy := whole_ne hy h0
  have hb : badR (rung n 0) (rung y 0) = false := decide_eq_false (by rw [f2, g2]; omega)
  unfold remW
  rw [hb, if_neg (by simp), f3, f2, g2, f5, g5, Nat.mul_mod_mul_right, word_false, ← rung_zero_at]
theorem wf_u32 {a : Int} (h : (Lit.int .u32 a).wf = true) : ∃ n : Nat, a = n ∧ n < 4294967296 := by
  simp [Lit.wf, IntKind.min, IntKind.max, IntKind.signed, IntKind.bits] at h
  obtain ⟨n, rfl⟩ := Int.eq_ofNat_of_zero_le h.1
  exact ⟨n, rfl, by omega⟩
theorem back_zero (a b x x2 r1 r2 : Int) (hx : IntKind.u64.wrap a / 64 = x) (hy : IntKind.u64.wrap b / 64 = 0) (hxx : IntKind.u64.wrap (x * x) = x2)
    (p1 : Ans 16 #[.int .u64 x2] (.int .u64 r1)) (p2 : Ans 12 #[.int .u64 r1] (.int .u64 r2)) (p3 : Ans 16 #[.int .u64 x] (.int .u64 r2)) : Ans 5 #[.int .u32 a, .int .u32 b] (.bool true) := by
  intro w
  go_enter Try.func5, Try.ntmps5
  go_wp2_with fail
  refine (p1.at _).mono ?_; rintro e w1 ⟨rfl, hb1⟩
  go_wp2_with fail
  refine (p2.at _).mono ?_; rintro e w2 ⟨rfl, hb2⟩
  go_wp2_with fail
  refine (p3.at _).mono ?_; rintro e w3 ⟨rfl, hb3⟩
  go_wp2_with fail
  refine (p1.at _).mono ?_; rintro e w4 ⟨rfl, hb4⟩
  go_wp2_with fail
  refine (p2.at _).mono ?_; rintro e w5 ⟨rfl, hb5⟩
  go_wp2_with fail
  refine (p3.at _).mono ?_; rintro e w6 ⟨rfl, hb6⟩
  go_wp2_with fail
  refine (ans_lives.at _).mono ?_; rintro e w7 ⟨rfl, hb7⟩
  go_wp2_with fail
  go_ret
  exact ⟨rfl, (bthen hb1 (bthen hb2 (bthen hb3 (bthen hb4 (bthen hb5 (bthen hb6 hb7))))))⟩
set_option maxHeartbeats 40000000 in
theorem back_some (a b x y x2 r1 r2 xy n t r3 r4 r5 r6 : Int) (hx : IntKind.u64.wrap a / 64 = x) (hy : IntKind.u64.wrap b / 64 = y) (hxx : IntKind.u64.wrap (x * x) = x2) (hxy : IntKind.u64.wrap (x * y) = xy) (y0 : ¬ y = 0) (y1 : (y == 0) = false) (ht : Int.tmod x y = t) (hn : IntKind.u64.wrap (xy + t) = n)
    (p1 : Ans 16 #[.int .u64 x2] (.int .u64 r1)) (p2 : Ans 12 #[.int .u64 r1] (.int .u64 r2)) (p3 : Ans 16 #[.int .u64 x] (.int .u64 r2))
    (p4 : Ans 16 #[.int .u64 xy] (.int .u64 r3)) (p5 : Ans 16 #[.int .u64 y] (.int .u64 r4)) (p6 : Ans 9 #[.int .u64 r3, .int .u64 r4] (.int .u64 r2)) (p7 : Ans 16 #[.int .u64 n] (.int .u64 r5)) (p8 : Ans 17 #[.int .u64 r5, .int .u64 r4] (.int .u64 r6)) (p9 : Ans 16 #[.int .u64 t] (.int .u64 r6)) : Ans 5 #[.int .u32 a, .int .u32 b] (.bool true) := by
  intro w
  go_enter Try.func5, Try.ntmps5
  go_wp2_with fail
  refine (p1.at _).mono ?_; rintro e w1 ⟨rfl, hb1⟩
  go_wp2_with fail
  refine (p2.at _).mono ?_; rintro e w2 ⟨rfl, hb2⟩
  go_wp2_with fail
  refine (p3.at _).mono ?_; rintro e w3 ⟨rfl, hb3⟩
  go_wp2_with fail
  have B := bthen hb1 (bthen hb2 hb3)
  clear hb1 hb2 hb3 p1 p2
  go_region_held3 (fun w' => Below w.heap.size w w') (first | assumption | exact Below.drew (by assumption) | exact bthen (by assumption) (by assumption) | exact bthen (Below.drew (by assumption)) (by assumption))
    (first
    | (with_reducible refine (p4.at _).mono ?_; rintro e wn ⟨rfl, hb⟩)
    | (with_reducible refine (p5.at _).mono ?_; rintro e wn ⟨rfl, hb⟩)
    | (with_reducible refine (p6.at _).mono ?_; rintro e wn ⟨rfl, hb⟩)
    | (with_reducible refine (p3.at _).mono ?_; rintro e wn ⟨rfl, hb⟩)
    | (with_reducible refine (p7.at _).mono ?_; rintro e wn ⟨rfl, hb⟩)
    | (with_reducible refine (p8.at _).mono ?_; rintro e wn ⟨rfl, hb⟩)
    | (with_reducible refine (p9.at _).mono ?_; rintro e wn ⟨rfl, hb⟩)
    | (with_reducible refine (ans_lives.at _).mono ?_; rintro e wn ⟨rfl, hb⟩))
  go_wp2_with fail
  go_ret
  exact ⟨rfl, by assumption⟩
theorem row_QuoBack (a0 a1 : Int) (w : World) (w0 : (Lit.int .u32 a0).wf = true) (w1 : (Lit.int .u32 a1).wf = true) :
    Calls Try.prog 5 #[.int .u32 a0, .int .u32 a1] w fun e w' => e = .returned (.bool true) ∧ Below w.heap.size w w' := by
  obtain ⟨a, rfl, ha⟩ := wf_u32 w0
  obtain ⟨b, rfl, hb⟩ := wf_u32 w1
  clear w0 w1
  obtain ⟨x, hx⟩ : ∃ x, x = a / 64 := ⟨_, rfl⟩
  obtain ⟨y, hy⟩ : ∃ y, y = b / 64 := ⟨_, rfl⟩
  have lx : x < 67108864 := by omega
  have ly : y < 67108864 := by omega
  have ex : IntKind.u64.wrap (a : Int) / 64 = ((x : Nat) : Int) := by rw [u64of a (by omega)]; omega
  have ey : IntKind.u64.wrap (b : Int) / 64 = ((y : Nat) : Int) := by rw [u64of b (by omega)]; omega
  clear hx hy ha hb
  have c53 : (2 : Nat) ^ 53 = 9007199254740992 := by decide
  have hxx : x * x ≤ 67108864 * 67108864 := Nat.mul_le_mul (Nat.le_of_lt lx) (Nat.le_of_lt lx)
  have hxy : x * y ≤ 67108864 * 67108864 := Nat.mul_le_mul (Nat.le_of_lt lx) (Nat.le_of_lt ly)
  have e1 : IntKind.u64.wrap (((x : Nat) : Int) * ((x : Nat) : Int)) = ((x * x : Nat) : Int) := by
    rw [← Int.natCast_mul]; exact u64of _ (by omega)
  have e2 : IntKind.u64.wrap (((x : Nat) : Int) * ((y : Nat) : Int)) = ((x * y : Nat) : Int) := by
    rw [← Int.natCast_mul]; exact u64of _ (by omega)
  have p1 := ans_whole (x * x) (by unfold W; omega)
  have p2 := ans_Sqrt (rung (x * x) 0)
  rw [sqrt_square (by rw [c53]; omega)] at p2
  have p3 := ans_whole x (by unfold W; omega)
  by_cases y0 : y = 0
  · subst y0
    exact back_zero _ _ _ _ _ _ ex ey e1 p1 p2 p3 w
  · have hm : x % y < y := Nat.mod_lt _ (by omega)
    have e3 : IntKind.u64.wrap (((x * y : Nat) : Int) + ((x % y : Nat) : Int)) = ((x * y + x % y : Nat) : Int) := by
      rw [← Int.natCast_add]; exact u64of _ (by omega)
    have p4 := ans_whole (x * y) (by unfold W; omega)
    have p5 := ans_whole y (by unfold W; omega)
    have p6 := ans_Div (rung (x * y) 0) (rung y 0)
    rw [div_back (by rw [c53]; omega) (by rw [c53]; omega) y0] at p6
    have p7 := ans_whole (x * y + x % y) (by unfold W; omega)
    have p8 := ans_Rem (rung (x * y + x % y) 0) (rung y 0) (whole_facts (by rw [c53]; omega)).2.2.2.1 (whole_facts (by rw [c53]; omega)).2.2.2.1
    rw [rem_back (by rw [c53]; omega) (by rw [c53]; omega) y0, Nat.mul_comm x y, Nat.mul_add_mod, Nat.mod_mod] at p8
    rw [Nat.mul_comm y x] at p8
    have p9 := ans_whole (x % y) (by unfold W; omega)
    exact back_some _ _ _ _ _ _ _ _ _ _ _ _ _ _ ex ey e1 e2 (by omega) (beq_eq_false_iff_ne.2 (by omega)) rfl e3 p1 p2 p3 p4 p5 p6 p7 p8 p9 w
end Go.Proofs.Yteghlmcafhhkcaa.Ans
