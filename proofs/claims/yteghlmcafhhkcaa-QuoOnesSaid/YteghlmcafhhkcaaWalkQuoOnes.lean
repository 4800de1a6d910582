/- QuoOnes' walk. -/
import Derived.Test.YteghlmcafhhkcaaAnswers
namespace Go.Proofs.Yteghlmcafhhkcaa.Ans
open Go Go.RowKit Go.Proofs.Yteghlmcafhhkcaa.Num Go.Proofs.Yteghlmcafhhkcaa.DigLaw Go.Proofs.Yteghlmcafhhkcaa.Fl Go.Proofs.Yteghlmcafhhkcaa.Dig Go.Proofs.Yteghlmcafhhkcaa.Float
open Ieee (double Datum)

theorem one_parts : rg ONE < INF ∧ rg ONE ≠ 0 ∧ sg ONE = false ∧ fracN ONE = 2 ^ 52 ∧ expN ONE = -52 ∧ ONE < W := by decide +kernel
def K4 : Nat := 4000
theorem div_one {a : Nat} (ha : a < W) (h : rg a ≤ INF) : divW a ONE = a := by
  obtain ⟨o1, o2, o3, o4, o5, o6⟩ := one_parts
  rcases Nat.lt_or_ge (rg a) INF with f | f
  · by_cases z : rg a = 0
    · unfold divW
      rw [div_0 z o1 o2, o3, Bool.xor_false, Option.getD_some, ← z]
      exact word_self ha
    · have hK : K4 = 4000 := rfl
      have ea := exp_range a
      have va := frac_V a f
      have hl : (fracN ONE).log2 = 52 := by rw [o4]; decide +kernel
      unfold divW
      rw [div_parts f o1 z o2 K4 (by omega), o3, Bool.xor_false, Option.getD_some, o4, o5]
      have hs : stick (fracN a) (2 ^ 52) K4 = fracN a * 2 ^ (K4 - 51) := by
        unfold stick
        have e : fracN a * 2 ^ K4 = 2 ^ 52 * (fracN a * 2 ^ (K4 - 52)) := by
          rw [Nat.mul_left_comm, ← Nat.pow_add, show 52 + (K4 - 52) = K4 by omega]
        rw [e, Nat.mul_div_cancel_left _ (Nat.two_pow_pos 52), Nat.mul_mod_right]
        show 2 * (fracN a * 2 ^ (K4 - 52)) + 0 = _
        rw [Nat.add_zero, show K4 - 51 = K4 - 52 + 1 by omega, Nat.pow_succ, Nat.mul_comm (2 ^ (K4 - 52)) 2, Nat.mul_left_comm]
      rw [hs]
      have s := rung_scale (fracN a) (K4 - 51) (expN a)
      rw [show expN a - -52 - 1 - ((K4 : Nat) : Int) = expN a - ((K4 - 51 : Nat) : Int) by omega, s]
      rw [rung_at (fracN a) (expN a) (-1074) (by omega), show expN a - -1074 = expN a + 1074 by omega, va, rung_V _ h]
      exact word_self ha
  · have e : rg a = INF := Nat.le_antisymm h f
    unfold divW
    rw [div_i e o1, o3, Bool.xor_false, Option.getD_some, ← e]
    exact word_self ha
theorem one_rung : rung 1 0 = ONE := by decide +kernel
theorem div_self {a : Nat} (f : rg a < INF) (z : rg a ≠ 0) : divW a a = ONE := by
  have hK : K4 = 4000 := rfl
  have hl := frac_log a
  have hp := frac_pos f z
  unfold divW
  rw [div_parts f f z z K4 (by omega), Bool.xor_self, Option.getD_some]
  have hs : stick (fracN a) (fracN a) K4 = 1 * 2 ^ (K4 + 1) := by
    unfold stick
    rw [Nat.mul_div_cancel_left _ (Nat.pos_of_ne_zero hp), Nat.mul_mod_right, show ((0 : Nat) != 0).toNat = 0 from rfl, Nat.add_zero, Nat.one_mul, Nat.pow_succ, Nat.mul_comm]
  rw [hs]
  have s := rung_scale 1 (K4 + 1) 0
  rw [show expN a - expN a - 1 - ((K4 : Nat) : Int) = 0 - ((K4 + 1 : Nat) : Int) by omega, s, word_false]
  exact one_rung
theorem quotient_opp (d : Nat) (x y : Datum) : x.opposite.quotient d y = (x.quotient d y).map Datum.opposite := by
  cases x <;> cases y <;> simp only [Datum.opposite, Datum.quotient, Option.map_some, Option.map_none, xor_not]
  split
  · split
    · rfl
    · simp only [Option.map_some, Datum.opposite]
  · simp only [Option.map_some, Datum.opposite]
theorem div_flip (a b : Nat) : (double.div a b = none ∧ double.div (flipW a) b = none) ∨ (divW (flipW a) b = flipW (divW a b) ∧ kindN (divW a b) ≠ 4) := by
  cases hd : (double.read a).quotient (52 + 2) (double.read b) with
  | none =>
    left
    have e1 : double.div a b = ((double.read a).quotient (52 + 2) (double.read b)).map double.write := rfl
    have e2 : double.div (flipW a) b = ((double.read (flipW a)).quotient (52 + 2) (double.read b)).map double.write := rfl
    rw [e1, e2, read_flip, quotient_opp, hd]
    exact ⟨rfl, rfl⟩
  | some d =>
    right
    have e1 : double.div a b = ((double.read a).quotient (52 + 2) (double.read b)).map double.write := rfl
    have e2 : double.div (flipW a) b = ((double.read (flipW a)).quotient (52 + 2) (double.read b)).map double.write := rfl
    have hn := quotient_num hd
    unfold divW
    rw [e1, e2, read_flip, quotient_opp, hd]
    simp only [Option.map_some, Option.getD_some]
    rw [write_opp d hn]
    exact ⟨rfl, not_nan_of_le (write_num d hn).1⟩
theorem bad_flip (a b : Nat) : badR (flipW a) b = badR a b := by
  unfold badR; rw [(flip_facts a).2.1]
theorem rem_flip {a b : Nat} (h : badR a b = false) : remW (flipW a) b = flipW (remW a b) := by
  obtain ⟨p1, p2, _⟩ := flip_facts a
  unfold remW
  rw [bad_flip, h, if_neg (by simp), if_neg (by simp), p1, p2]
  exact word_not _ (rung_le_inf _ _)
theorem nan_ones {a b : Nat} (h : INF < rg a ∨ INF < rg b) : divW a b = Dig.NANW ∧ remW a b = Dig.NANW ∧ modW a b = Dig.NANW := by
  have hb : badR a b = true := decide_eq_true (by omega)
  refine ⟨?_, remW_bad hb, ?_⟩
  · unfold divW; rw [div_nan h]; rfl
  · unfold modW; rw [if_pos hb]
theorem ones_nan (x y n k1 k2 : Int) (p1 : Ans 15 #[.int .u64 x] (.int .i64 k1)) (p2 : Ans 15 #[.int .u64 y] (.int .i64 k2)) (h : k1 = 4 ∨ ¬ k1 = 4 ∧ k2 = 4) (d : Ans 9 #[.int .u64 x, .int .u64 y] (.int .u64 n)) (r : Ans 17 #[.int .u64 x, .int .u64 y] (.int .u64 n)) (m : Ans 18 #[.int .u64 x, .int .u64 y] (.int .u64 n)) (nn : Ans 22 #[] (.int .u64 n)) : Ans 8 #[.int .u64 x, .int .u64 y] (.bool true) := by
  intro w
  rcases h with h | h
  · go_enter Try.func8, Try.ntmps8
    go_wp2_with fail
    refine (p1.at _).mono ?_; rintro e w ⟨rfl, h1⟩
    go_wp2_with fail
    refine (d.at _).mono ?_; rintro e w ⟨rfl, h2⟩
    go_wp2_with fail
    refine (nn.at _).mono ?_; rintro e w ⟨rfl, h3⟩
    go_wp2_with fail
    refine (r.at _).mono ?_; rintro e w ⟨rfl, h4⟩
    go_wp2_with fail
    refine (nn.at _).mono ?_; rintro e w ⟨rfl, h5⟩
    go_wp2_with fail
    refine (m.at _).mono ?_; rintro e w ⟨rfl, h6⟩
    go_wp2_with fail
    refine (nn.at _).mono ?_; rintro e w ⟨rfl, h7⟩
    go_wp2_with fail
    refine (ans_lives.at _).mono ?_; rintro e w ⟨rfl, h8⟩
    go_wp2_with fail
    go_ret
    exact ⟨rfl, (bthen h1 (bthen h2 (bthen h3 (bthen h4 (bthen h5 (bthen h6 (bthen h7 h8)))))))⟩
  · obtain ⟨h1, h2⟩ := h
    go_enter Try.func8, Try.ntmps8
    go_wp2_with fail
    refine (p1.at _).mono ?_; rintro e w ⟨rfl, h1⟩
    go_wp2_with fail
    refine (p2.at _).mono ?_; rintro e w ⟨rfl, h2⟩
    go_wp2_with fail
    refine (d.at _).mono ?_; rintro e w ⟨rfl, h3⟩
    go_wp2_with fail
    refine (nn.at _).mono ?_; rintro e w ⟨rfl, h4⟩
    go_wp2_with fail
    refine (r.at _).mono ?_; rintro e w ⟨rfl, h5⟩
    go_wp2_with fail
    refine (nn.at _).mono ?_; rintro e w ⟨rfl, h6⟩
    go_wp2_with fail
    refine (m.at _).mono ?_; rintro e w ⟨rfl, h7⟩
    go_wp2_with fail
    refine (nn.at _).mono ?_; rintro e w ⟨rfl, h8⟩
    go_wp2_with fail
    refine (ans_lives.at _).mono ?_; rintro e w ⟨rfl, h9⟩
    go_wp2_with fail
    go_ret
    exact ⟨rfl, (bthen h1 (bthen h2 (bthen h3 (bthen h4 (bthen h5 (bthen h6 (bthen h7 (bthen h8 h9))))))))⟩
set_option maxHeartbeats 8000000 in
theorem oznn {x y x' m n r s k1 k2 k3 k4 : Int} (p1 : Ans 15 #[.int .u64 x] (.int .i64 k1)) (p2 : Ans 15 #[.int .u64 y] (.int .i64 k2)) (_h1 : ¬ k1 = 4) (_h2 : ¬ k2 = 4) (hx : Go.bits .xor .u64 x 9223372036854775808 = x') (d1 : Ans 9 #[.int .u64 x, .int .u64 4607182418800017408] (.int .u64 x))
    (dm : Ans 9 #[.int .u64 x, .int .u64 y] (.int .u64 m)) (dn : Ans 9 #[.int .u64 x', .int .u64 y] (.int .u64 n)) (rr : Ans 17 #[.int .u64 x, .int .u64 y] (.int .u64 r)) (rs : Ans 17 #[.int .u64 x', .int .u64 y] (.int .u64 s)) (p3 : Ans 15 #[.int .u64 m] (.int .i64 k3)) (p4 : Ans 15 #[.int .u64 r] (.int .i64 k4)) (c : k1 = 0) (e3 : k3 = 4) (em : n = m) (e4 : k4 = 4) (er : s = r) : Ans 8 #[.int .u64 x, .int .u64 y] (.bool true) := by
  intro w
  subst em
  subst er
  go_enter Try.func8, Try.ntmps8
  go_wp2_with fail
  refine (p1.at _).mono ?_; rintro e w ⟨rfl, h1⟩
  go_wp2_with fail
  refine (p2.at _).mono ?_; rintro e w ⟨rfl, h2⟩
  go_wp2_with fail
  refine (d1.at _).mono ?_; rintro e w ⟨rfl, h3⟩
  go_wp2_with fail
  refine (p1.at _).mono ?_; rintro e w ⟨rfl, h4⟩
  go_wp2_with fail
  refine (dm.at _).mono ?_; rintro e w ⟨rfl, h5⟩
  go_wp2_with fail
  refine (dn.at _).mono ?_; rintro e w ⟨rfl, h6⟩
  go_wp2_with fail
  refine (rr.at _).mono ?_; rintro e w ⟨rfl, h7⟩
  go_wp2_with fail
  refine (rs.at _).mono ?_; rintro e w ⟨rfl, h8⟩
  go_wp2_with fail
  refine (p3.at _).mono ?_; rintro e w ⟨rfl, h9⟩
  go_wp2_with fail
  refine (p4.at _).mono ?_; rintro e w ⟨rfl, h10⟩
  go_wp2_with fail
  refine (ans_lives.at _).mono ?_; rintro e w ⟨rfl, h11⟩
  go_wp2_with fail
  go_ret
  exact ⟨rfl, (bthen h1 (bthen h2 (bthen h3 (bthen h4 (bthen h5 (bthen h6 (bthen h7 (bthen h8 (bthen h9 (bthen h10 h11))))))))))⟩
set_option maxHeartbeats 8000000 in
theorem oznr {x y x' m n r s k1 k2 k3 k4 : Int} (p1 : Ans 15 #[.int .u64 x] (.int .i64 k1)) (p2 : Ans 15 #[.int .u64 y] (.int .i64 k2)) (_h1 : ¬ k1 = 4) (_h2 : ¬ k2 = 4) (hx : Go.bits .xor .u64 x 9223372036854775808 = x') (d1 : Ans 9 #[.int .u64 x, .int .u64 4607182418800017408] (.int .u64 x))
    (dm : Ans 9 #[.int .u64 x, .int .u64 y] (.int .u64 m)) (dn : Ans 9 #[.int .u64 x', .int .u64 y] (.int .u64 n)) (rr : Ans 17 #[.int .u64 x, .int .u64 y] (.int .u64 r)) (rs : Ans 17 #[.int .u64 x', .int .u64 y] (.int .u64 s)) (p3 : Ans 15 #[.int .u64 m] (.int .i64 k3)) (p4 : Ans 15 #[.int .u64 r] (.int .i64 k4)) (c : k1 = 0) (e3 : k3 = 4) (em : n = m) (e4 : ¬ k4 = 4) (er : Go.bits .xor .u64 r 9223372036854775808 = s) : Ans 8 #[.int .u64 x, .int .u64 y] (.bool true) := by
  intro w
  subst em
  go_enter Try.func8, Try.ntmps8
  go_wp2_with fail
  refine (p1.at _).mono ?_; rintro e w ⟨rfl, h1⟩
  go_wp2_with fail
  refine (p2.at _).mono ?_; rintro e w ⟨rfl, h2⟩
  go_wp2_with fail
  refine (d1.at _).mono ?_; rintro e w ⟨rfl, h3⟩
  go_wp2_with fail
  refine (p1.at _).mono ?_; rintro e w ⟨rfl, h4⟩
  go_wp2_with fail
  refine (dm.at _).mono ?_; rintro e w ⟨rfl, h5⟩
  go_wp2_with fail
  refine (dn.at _).mono ?_; rintro e w ⟨rfl, h6⟩
  go_wp2_with fail
  refine (rr.at _).mono ?_; rintro e w ⟨rfl, h7⟩
  go_wp2_with fail
  refine (rs.at _).mono ?_; rintro e w ⟨rfl, h8⟩
  go_wp2_with fail
  refine (p3.at _).mono ?_; rintro e w ⟨rfl, h9⟩
  go_wp2_with fail
  refine (p4.at _).mono ?_; rintro e w ⟨rfl, h10⟩
  go_wp2_with fail
  refine (ans_lives.at _).mono ?_; rintro e w ⟨rfl, h11⟩
  go_wp2_with fail
  go_ret
  exact ⟨rfl, (bthen h1 (bthen h2 (bthen h3 (bthen h4 (bthen h5 (bthen h6 (bthen h7 (bthen h8 (bthen h9 (bthen h10 h11))))))))))⟩
set_option maxHeartbeats 8000000 in
theorem ozmn {x y x' m n r s k1 k2 k3 k4 : Int} (p1 : Ans 15 #[.int .u64 x] (.int .i64 k1)) (p2 : Ans 15 #[.int .u64 y] (.int .i64 k2)) (_h1 : ¬ k1 = 4) (_h2 : ¬ k2 = 4) (hx : Go.bits .xor .u64 x 9223372036854775808 = x') (d1 : Ans 9 #[.int .u64 x, .int .u64 4607182418800017408] (.int .u64 x))
    (dm : Ans 9 #[.int .u64 x, .int .u64 y] (.int .u64 m)) (dn : Ans 9 #[.int .u64 x', .int .u64 y] (.int .u64 n)) (rr : Ans 17 #[.int .u64 x, .int .u64 y] (.int .u64 r)) (rs : Ans 17 #[.int .u64 x', .int .u64 y] (.int .u64 s)) (p3 : Ans 15 #[.int .u64 m] (.int .i64 k3)) (p4 : Ans 15 #[.int .u64 r] (.int .i64 k4)) (c : k1 = 0) (e3 : ¬ k3 = 4) (em : Go.bits .xor .u64 m 9223372036854775808 = n) (e4 : k4 = 4) (er : s = r) : Ans 8 #[.int .u64 x, .int .u64 y] (.bool true) := by
  intro w
  subst er
  go_enter Try.func8, Try.ntmps8
  go_wp2_with fail
  refine (p1.at _).mono ?_; rintro e w ⟨rfl, h1⟩
  go_wp2_with fail
  refine (p2.at _).mono ?_; rintro e w ⟨rfl, h2⟩
  go_wp2_with fail
  refine (d1.at _).mono ?_; rintro e w ⟨rfl, h3⟩
  go_wp2_with fail
  refine (p1.at _).mono ?_; rintro e w ⟨rfl, h4⟩
  go_wp2_with fail
  refine (dm.at _).mono ?_; rintro e w ⟨rfl, h5⟩
  go_wp2_with fail
  refine (dn.at _).mono ?_; rintro e w ⟨rfl, h6⟩
  go_wp2_with fail
  refine (rr.at _).mono ?_; rintro e w ⟨rfl, h7⟩
  go_wp2_with fail
  refine (rs.at _).mono ?_; rintro e w ⟨rfl, h8⟩
  go_wp2_with fail
  refine (p3.at _).mono ?_; rintro e w ⟨rfl, h9⟩
  go_wp2_with fail
  refine (p4.at _).mono ?_; rintro e w ⟨rfl, h10⟩
  go_wp2_with fail
  refine (ans_lives.at _).mono ?_; rintro e w ⟨rfl, h11⟩
  go_wp2_with fail
  go_ret
  exact ⟨rfl, (bthen h1 (bthen h2 (bthen h3 (bthen h4 (bthen h5 (bthen h6 (bthen h7 (bthen h8 (bthen h9 (bthen h10 h11))))))))))⟩
set_option maxHeartbeats 8000000 in
theorem ozmr {x y x' m n r s k1 k2 k3 k4 : Int} (p1 : Ans 15 #[.int .u64 x] (.int .i64 k1)) (p2 : Ans 15 #[.int .u64 y] (.int .i64 k2)) (_h1 : ¬ k1 = 4) (_h2 : ¬ k2 = 4) (hx : Go.bits .xor .u64 x 9223372036854775808 = x') (d1 : Ans 9 #[.int .u64 x, .int .u64 4607182418800017408] (.int .u64 x))
    (dm : Ans 9 #[.int .u64 x, .int .u64 y] (.int .u64 m)) (dn : Ans 9 #[.int .u64 x', .int .u64 y] (.int .u64 n)) (rr : Ans 17 #[.int .u64 x, .int .u64 y] (.int .u64 r)) (rs : Ans 17 #[.int .u64 x', .int .u64 y] (.int .u64 s)) (p3 : Ans 15 #[.int .u64 m] (.int .i64 k3)) (p4 : Ans 15 #[.int .u64 r] (.int .i64 k4)) (c : k1 = 0) (e3 : ¬ k3 = 4) (em : Go.bits .xor .u64 m 9223372036854775808 = n) (e4 : ¬ k4 = 4) (er : Go.bits .xor .u64 r 9223372036854775808 = s) : Ans 8 #[.int .u64 x, .int .u64 y] (.bool true) := by
  intro w
  go_enter Try.func8, Try.ntmps8
  go_wp2_with fail
  refine (p1.at _).mono ?_; rintro e w ⟨rfl, h1⟩
  go_wp2_with fail
  refine (p2.at _).mono ?_; rintro e w ⟨rfl, h2⟩
  go_wp2_with fail
  refine (d1.at _).mono ?_; rintro e w ⟨rfl, h3⟩
  go_wp2_with fail
  refine (p1.at _).mono ?_; rintro e w ⟨rfl, h4⟩
  go_wp2_with fail
  refine (dm.at _).mono ?_; rintro e w ⟨rfl, h5⟩
  go_wp2_with fail
  refine (dn.at _).mono ?_; rintro e w ⟨rfl, h6⟩
  go_wp2_with fail
  refine (rr.at _).mono ?_; rintro e w ⟨rfl, h7⟩
  go_wp2_with fail
  refine (rs.at _).mono ?_; rintro e w ⟨rfl, h8⟩
  go_wp2_with fail
  refine (p3.at _).mono ?_; rintro e w ⟨rfl, h9⟩
  go_wp2_with fail
  refine (p4.at _).mono ?_; rintro e w ⟨rfl, h10⟩
  go_wp2_with fail
  refine (ans_lives.at _).mono ?_; rintro e w ⟨rfl, h11⟩
  go_wp2_with fail
  go_ret
  exact ⟨rfl, (bthen h1 (bthen h2 (bthen h3 (bthen h4 (bthen h5 (bthen h6 (bthen h7 (bthen h8 (bthen h9 (bthen h10 h11))))))))))⟩
set_option maxHeartbeats 8000000 in
theorem oinn {x y x' m n r s k1 k2 k3 k4 : Int} (p1 : Ans 15 #[.int .u64 x] (.int .i64 k1)) (p2 : Ans 15 #[.int .u64 y] (.int .i64 k2)) (_h1 : ¬ k1 = 4) (_h2 : ¬ k2 = 4) (hx : Go.bits .xor .u64 x 9223372036854775808 = x') (d1 : Ans 9 #[.int .u64 x, .int .u64 4607182418800017408] (.int .u64 x))
    (dm : Ans 9 #[.int .u64 x, .int .u64 y] (.int .u64 m)) (dn : Ans 9 #[.int .u64 x', .int .u64 y] (.int .u64 n)) (rr : Ans 17 #[.int .u64 x, .int .u64 y] (.int .u64 r)) (rs : Ans 17 #[.int .u64 x', .int .u64 y] (.int .u64 s)) (p3 : Ans 15 #[.int .u64 m] (.int .i64 k3)) (p4 : Ans 15 #[.int .u64 r] (.int .i64 k4)) (c1 : ¬ k1 = 0) (c : k1 = 3) (e3 : k3 = 4) (em : n = m) (e4 : k4 = 4) (er : s = r) : Ans 8 #[.int .u64 x, .int .u64 y] (.bool true) := by
  intro w
  subst em
  subst er
  go_enter Try.func8, Try.ntmps8
  go_wp2_with fail
  refine (p1.at _).mono ?_; rintro e w ⟨rfl, h1⟩
  go_wp2_with fail
  refine (p2.at _).mono ?_; rintro e w ⟨rfl, h2⟩
  go_wp2_with fail
  refine (d1.at _).mono ?_; rintro e w ⟨rfl, h3⟩
  go_wp2_with fail
  refine (p1.at _).mono ?_; rintro e w ⟨rfl, h4⟩
  go_wp2_with fail
  refine (p1.at _).mono ?_; rintro e w ⟨rfl, h5⟩
  go_wp2_with fail
  refine (dm.at _).mono ?_; rintro e w ⟨rfl, h6⟩
  go_wp2_with fail
  refine (dn.at _).mono ?_; rintro e w ⟨rfl, h7⟩
  go_wp2_with fail
  refine (rr.at _).mono ?_; rintro e w ⟨rfl, h8⟩
  go_wp2_with fail
  refine (rs.at _).mono ?_; rintro e w ⟨rfl, h9⟩
  go_wp2_with fail
  refine (p3.at _).mono ?_; rintro e w ⟨rfl, h10⟩
  go_wp2_with fail
  refine (p4.at _).mono ?_; rintro e w ⟨rfl, h11⟩
  go_wp2_with fail
  refine (ans_lives.at _).mono ?_; rintro e w ⟨rfl, h12⟩
  go_wp2_with fail
  go_ret
  exact ⟨rfl, (bthen h1 (bthen h2 (bthen h3 (bthen h4 (bthen h5 (bthen h6 (bthen h7 (bthen h8 (bthen h9 (bthen h10 (bthen h11 h12)))))))))))⟩
set_option maxHeartbeats 8000000 in
theorem oinr {x y x' m n r s k1 k2 k3 k4 : Int} (p1 : Ans 15 #[.int .u64 x] (.int .i64 k1)) (p2 : Ans 15 #[.int .u64 y] (.int .i64 k2)) (_h1 : ¬ k1 = 4) (_h2 : ¬ k2 = 4) (hx : Go.bits .xor .u64 x 9223372036854775808 = x') (d1 : Ans 9 #[.int .u64 x, .int .u64 4607182418800017408] (.int .u64 x))
    (dm : Ans 9 #[.int .u64 x, .int .u64 y] (.int .u64 m)) (dn : Ans 9 #[.int .u64 x', .int .u64 y] (.int .u64 n)) (rr : Ans 17 #[.int .u64 x, .int .u64 y] (.int .u64 r)) (rs : Ans 17 #[.int .u64 x', .int .u64 y] (.int .u64 s)) (p3 : Ans 15 #[.int .u64 m] (.int .i64 k3)) (p4 : Ans 15 #[.int .u64 r] (.int .i64 k4)) (c1 : ¬ k1 = 0) (c : k1 = 3) (e3 : k3 = 4) (em : n = m) (e4 : ¬ k4 = 4) (er : Go.bits .xor .u64 r 9223372036854775808 = s) : Ans 8 #[.int .u64 x, .int .u64 y] (.bool true) := by
  intro w
  subst em
  go_enter Try.func8, Try.ntmps8
  go_wp2_with fail
  refine (p1.at _).mono ?_; rintro e w ⟨rfl, h1⟩
  go_wp2_with fail
  refine (p2.at _).mono ?_; rintro e w ⟨rfl, h2⟩
  go_wp2_with fail
  refine (d1.at _).mono ?_; rintro e w ⟨rfl, h3⟩
  go_wp2_with fail
  refine (p1.at _).mono ?_; rintro e w ⟨rfl, h4⟩
  go_wp2_with fail
  refine (p1.at _).mono ?_; rintro e w ⟨rfl, h5⟩
  go_wp2_with fail
  refine (dm.at _).mono ?_; rintro e w ⟨rfl, h6⟩
  go_wp2_with fail
  refine (dn.at _).mono ?_; rintro e w ⟨rfl, h7⟩
  go_wp2_with fail
  refine (rr.at _).mono ?_; rintro e w ⟨rfl, h8⟩
  go_wp2_with fail
  refine (rs.at _).mono ?_; rintro e w ⟨rfl, h9⟩
  go_wp2_with fail
  refine (p3.at _).mono ?_; rintro e w ⟨rfl, h10⟩
  go_wp2_with fail
  refine (p4.at _).mono ?_; rintro e w ⟨rfl, h11⟩
  go_wp2_with fail
  refine (ans_lives.at _).mono ?_; rintro e w ⟨rfl, h12⟩
  go_wp2_with fail
  go_ret
  exact ⟨rfl, (bthen h1 (bthen h2 (bthen h3 (bthen h4 (bthen h5 (bthen h6 (bthen h7 (bthen h8 (bthen h9 (bthen h10 (bthen h11 h12)))))))))))⟩
set_option maxHeartbeats 8000000 in
theorem oimn {x y x' m n r s k1 k2 k3 k4 : Int} (p1 : Ans 15 #[.int .u64 x] (.int .i64 k1)) (p2 : Ans 15 #[.int .u64 y] (.int .i64 k2)) (_h1 : ¬ k1 = 4) (_h2 : ¬ k2 = 4) (hx : Go.bits .xor .u64 x 9223372036854775808 = x') (d1 : Ans 9 #[.int .u64 x, .int .u64 4607182418800017408] (.int .u64 x))
    (dm : Ans 9 #[.int .u64 x, .int .u64 y] (.int .u64 m)) (dn : Ans 9 #[.int .u64 x', .int .u64 y] (.int .u64 n)) (rr : Ans 17 #[.int .u64 x, .int .u64 y] (.int .u64 r)) (rs : Ans 17 #[.int .u64 x', .int .u64 y] (.int .u64 s)) (p3 : Ans 15 #[.int .u64 m] (.int .i64 k3)) (p4 : Ans 15 #[.int .u64 r] (.int .i64 k4)) (c1 : ¬ k1 = 0) (c : k1 = 3) (e3 : ¬ k3 = 4) (em : Go.bits .xor .u64 m 9223372036854775808 = n) (e4 : k4 = 4) (er : s = r) : Ans 8 #[.int .u64 x, .int .u64 y] (.bool true) := by
  intro w
  subst er
  go_enter Try.func8, Try.ntmps8
  go_wp2_with fail
  refine (p1.at _).mono ?_; rintro e w ⟨rfl, h1⟩
  go_wp2_with fail
  refine (p2.at _).mono ?_; rintro e w ⟨rfl, h2⟩
  go_wp2_with fail
  refine (d1.at _).mono ?_; rintro e w ⟨rfl, h3⟩
  go_wp2_with fail
  refine (p1.at _).mono ?_; rintro e w ⟨rfl, h4⟩
  go_wp2_with fail
  refine (p1.at _).mono ?_; rintro e w ⟨rfl, h5⟩
  go_wp2_with fail
  refine (dm.at _).mono ?_; rintro e w ⟨rfl, h6⟩
  go_wp2_with fail
  refine (dn.at _).mono ?_; rintro e w ⟨rfl, h7⟩
  go_wp2_with fail
  refine (rr.at _).mono ?_; rintro e w ⟨rfl, h8⟩
  go_wp2_with fail
  refine (rs.at _).mono ?_; rintro e w ⟨rfl, h9⟩
  go_wp2_with fail
  refine (p3.at _).mono ?_; rintro e w ⟨rfl, h10⟩
  go_wp2_with fail
  refine (p4.at _).mono ?_; rintro e w ⟨rfl, h11⟩
  go_wp2_with fail
  refine (ans_lives.at _).mono ?_; rintro e w ⟨rfl, h12⟩
  go_wp2_with fail
  go_ret
  exact ⟨rfl, (bthen h1 (bthen h2 (bthen h3 (bthen h4 (bthen h5 (bthen h6 (bthen h7 (bthen h8 (bthen h9 (bthen h10 (bthen h11 h12)))))))))))⟩
set_option maxHeartbeats 8000000 in
theorem oimr {x y x' m n r s k1 k2 k3 k4 : Int} (p1 : Ans 15 #[.int .u64 x] (.int .i64 k1)) (p2 : Ans 15 #[.int .u64 y] (.int .i64 k2)) (_h1 : ¬ k1 = 4) (_h2 : ¬ k2 = 4) (hx : Go.bits .xor .u64 x 9223372036854775808 = x') (d1 : Ans 9 #[.int .u64 x, .int .u64 4607182418800017408] (.int .u64 x))
    (dm : Ans 9 #[.int .u64 x, .int .u64 y] (.int .u64 m)) (dn : Ans 9 #[.int .u64 x', .int .u64 y] (.int .u64 n)) (rr : Ans 17 #[.int .u64 x, .int .u64 y] (.int .u64 r)) (rs : Ans 17 #[.int .u64 x', .int .u64 y] (.int .u64 s)) (p3 : Ans 15 #[.int .u64 m] (.int .i64 k3)) (p4 : Ans 15 #[.int .u64 r] (.int .i64 k4)) (c1 : ¬ k1 = 0) (c : k1 = 3) (e3 : ¬ k3 = 4) (em : Go.bits .xor .u64 m 9223372036854775808 = n) (e4 : ¬ k4 = 4) (er : Go.bits .xor .u64 r 9223372036854775808 = s) : Ans 8 #[.int .u64 x, .int .u64 y] (.bool true) := by
  intro w
  go_enter Try.func8, Try.ntmps8
  go_wp2_with fail
  refine (p1.at _).mono ?_; rintro e w ⟨rfl, h1⟩
  go_wp2_with fail
  refine (p2.at _).mono ?_; rintro e w ⟨rfl, h2⟩
  go_wp2_with fail
  refine (d1.at _).mono ?_; rintro e w ⟨rfl, h3⟩
  go_wp2_with fail
  refine (p1.at _).mono ?_; rintro e w ⟨rfl, h4⟩
  go_wp2_with fail
  refine (p1.at _).mono ?_; rintro e w ⟨rfl, h5⟩
  go_wp2_with fail
  refine (dm.at _).mono ?_; rintro e w ⟨rfl, h6⟩
  go_wp2_with fail
  refine (dn.at _).mono ?_; rintro e w ⟨rfl, h7⟩
  go_wp2_with fail
  refine (rr.at _).mono ?_; rintro e w ⟨rfl, h8⟩
  go_wp2_with fail
  refine (rs.at _).mono ?_; rintro e w ⟨rfl, h9⟩
  go_wp2_with fail
  refine (p3.at _).mono ?_; rintro e w ⟨rfl, h10⟩
  go_wp2_with fail
  refine (p4.at _).mono ?_; rintro e w ⟨rfl, h11⟩
  go_wp2_with fail
  refine (ans_lives.at _).mono ?_; rintro e w ⟨rfl, h12⟩
  go_wp2_with fail
  go_ret
  exact ⟨rfl, (bthen h1 (bthen h2 (bthen h3 (bthen h4 (bthen h5 (bthen h6 (bthen h7 (bthen h8 (bthen h9 (bthen h10 (bthen h11 h12)))))))))))⟩
set_option maxHeartbeats 8000000 in
theorem osnn {x y x' m n r s k1 k2 k3 k4 : Int} (p1 : Ans 15 #[.int .u64 x] (.int .i64 k1)) (p2 : Ans 15 #[.int .u64 y] (.int .i64 k2)) (_h1 : ¬ k1 = 4) (_h2 : ¬ k2 = 4) (hx : Go.bits .xor .u64 x 9223372036854775808 = x') (d1 : Ans 9 #[.int .u64 x, .int .u64 4607182418800017408] (.int .u64 x))
    (dm : Ans 9 #[.int .u64 x, .int .u64 y] (.int .u64 m)) (dn : Ans 9 #[.int .u64 x', .int .u64 y] (.int .u64 n)) (rr : Ans 17 #[.int .u64 x, .int .u64 y] (.int .u64 r)) (rs : Ans 17 #[.int .u64 x', .int .u64 y] (.int .u64 s)) (p3 : Ans 15 #[.int .u64 m] (.int .i64 k3)) (p4 : Ans 15 #[.int .u64 r] (.int .i64 k4)) (b1 : (k1 == 4) = false) (b2 : (k2 == 4) = false) (c1 : ¬ k1 = 0) (c2 : ¬ k1 = 3) (ds : Ans 9 #[.int .u64 x, .int .u64 x] (.int .u64 4607182418800017408)) (e3 : k3 = 4) (em : n = m) (e4 : k4 = 4) (er : s = r) : Ans 8 #[.int .u64 x, .int .u64 y] (.bool true) := by
  intro w
  subst em
  subst er
  go_enter Try.func8, Try.ntmps8
  go_wp2_with fail
  refine (p1.at _).mono ?_; rintro e w ⟨rfl, h1⟩
  go_wp2_with fail
  refine (p2.at _).mono ?_; rintro e w ⟨rfl, h2⟩
  go_wp2_with fail
  refine (d1.at _).mono ?_; rintro e w ⟨rfl, h3⟩
  go_wp2_with fail
  refine (p1.at _).mono ?_; rintro e w ⟨rfl, h4⟩
  go_wp2_with fail
  refine (p1.at _).mono ?_; rintro e w ⟨rfl, h5⟩
  go_wp2_with fail
  refine (ds.at _).mono ?_; rintro e w ⟨rfl, h6⟩
  go_wp2_with fail
  refine (dm.at _).mono ?_; rintro e w ⟨rfl, h7⟩
  go_wp2_with fail
  refine (dn.at _).mono ?_; rintro e w ⟨rfl, h8⟩
  go_wp2_with fail
  refine (rr.at _).mono ?_; rintro e w ⟨rfl, h9⟩
  go_wp2_with fail
  refine (rs.at _).mono ?_; rintro e w ⟨rfl, h10⟩
  go_wp2_with fail
  refine (p3.at _).mono ?_; rintro e w ⟨rfl, h11⟩
  go_wp2_with fail
  refine (p4.at _).mono ?_; rintro e w ⟨rfl, h12⟩
  go_wp2_with fail
  refine (ans_lives.at _).mono ?_; rintro e w ⟨rfl, h13⟩
  go_wp2_with fail
  go_ret
  exact ⟨rfl, (bthen h1 (bthen h2 (bthen h3 (bthen h4 (bthen h5 (bthen h6 (bthen h7 (bthen h8 (bthen h9 (bthen h10 (bthen h11 (bthen h12 h13))))))))))))⟩
set_option maxHeartbeats 8000000 in
theorem osnr {x y x' m n r s k1 k2 k3 k4 : Int} (p1 : Ans 15 #[.int .u64 x] (.int .i64 k1)) (p2 : Ans 15 #[.int .u64 y] (.int .i64 k2)) (_h1 : ¬ k1 = 4) (_h2 : ¬ k2 = 4) (hx : Go.bits .xor .u64 x 9223372036854775808 = x') (d1 : Ans 9 #[.int .u64 x, .int .u64 4607182418800017408] (.int .u64 x))
    (dm : Ans 9 #[.int .u64 x, .int .u64 y] (.int .u64 m)) (dn : Ans 9 #[.int .u64 x', .int .u64 y] (.int .u64 n)) (rr : Ans 17 #[.int .u64 x, .int .u64 y] (.int .u64 r)) (rs : Ans 17 #[.int .u64 x', .int .u64 y] (.int .u64 s)) (p3 : Ans 15 #[.int .u64 m] (.int .i64 k3)) (p4 : Ans 15 #[.int .u64 r] (.int .i64 k4)) (b1 : (k1 == 4) = false) (b2 : (k2 == 4) = false) (c1 : ¬ k1 = 0) (c2 : ¬ k1 = 3) (ds : Ans 9 #[.int .u64 x, .int .u64 x] (.int .u64 4607182418800017408)) (e3 : k3 = 4) (em : n = m) (e4 : ¬ k4 = 4) (er : Go.bits .xor .u64 r 9223372036854775808 = s) : Ans 8 #[.int .u64 x, .int .u64 y] (.bool true) := by
  intro w
  subst em
  go_enter Try.func8, Try.ntmps8
  go_wp2_with fail
  refine (p1.at _).mono ?_; rintro e w ⟨rfl, h1⟩
  go_wp2_with fail
  refine (p2.at _).mono ?_; rintro e w ⟨rfl, h2⟩
  go_wp2_with fail
  refine (d1.at _).mono ?_; rintro e w ⟨rfl, h3⟩
  go_wp2_with fail
  refine (p1.at _).mono ?_; rintro e w ⟨rfl, h4⟩
  go_wp2_with fail
  refine (p1.at _).mono ?_; rintro e w ⟨rfl, h5⟩
  go_wp2_with fail
  refine (ds.at _).mono ?_; rintro e w ⟨rfl, h6⟩
  go_wp2_with fail
  refine (dm.at _).mono ?_; rintro e w ⟨rfl, h7⟩
  go_wp2_with fail
  refine (dn.at _).mono ?_; rintro e w ⟨rfl, h8⟩
  go_wp2_with fail
  refine (rr.at _).mono ?_; rintro e w ⟨rfl, h9⟩
  go_wp2_with fail
  refine (rs.at _).mono ?_; rintro e w ⟨rfl, h10⟩
  go_wp2_with fail
  refine (p3.at _).mono ?_; rintro e w ⟨rfl, h11⟩
  go_wp2_with fail
  refine (p4.at _).mono ?_; rintro e w ⟨rfl, h12⟩
  go_wp2_with fail
  refine (ans_lives.at _).mono ?_; rintro e w ⟨rfl, h13⟩
  go_wp2_with fail
  go_ret
  exact ⟨rfl, (bthen h1 (bthen h2 (bthen h3 (bthen h4 (bthen h5 (bthen h6 (bthen h7 (bthen h8 (bthen h9 (bthen h10 (bthen h11 (bthen h12 h13))))))))))))⟩
set_option maxHeartbeats 8000000 in
theorem osmn {x y x' m n r s k1 k2 k3 k4 : Int} (p1 : Ans 15 #[.int .u64 x] (.int .i64 k1)) (p2 : Ans 15 #[.int .u64 y] (.int .i64 k2)) (_h1 : ¬ k1 = 4) (_h2 : ¬ k2 = 4) (hx : Go.bits .xor .u64 x 9223372036854775808 = x') (d1 : Ans 9 #[.int .u64 x, .int .u64 4607182418800017408] (.int .u64 x))
    (dm : Ans 9 #[.int .u64 x, .int .u64 y] (.int .u64 m)) (dn : Ans 9 #[.int .u64 x', .int .u64 y] (.int .u64 n)) (rr : Ans 17 #[.int .u64 x, .int .u64 y] (.int .u64 r)) (rs : Ans 17 #[.int .u64 x', .int .u64 y] (.int .u64 s)) (p3 : Ans 15 #[.int .u64 m] (.int .i64 k3)) (p4 : Ans 15 #[.int .u64 r] (.int .i64 k4)) (b1 : (k1 == 4) = false) (b2 : (k2 == 4) = false) (c1 : ¬ k1 = 0) (c2 : ¬ k1 = 3) (ds : Ans 9 #[.int .u64 x, .int .u64 x] (.int .u64 4607182418800017408)) (e3 : ¬ k3 = 4) (em : Go.bits .xor .u64 m 9223372036854775808 = n) (e4 : k4 = 4) (er : s = r) : Ans 8 #[.int .u64 x, .int .u64 y] (.bool true) := by
  intro w
  subst er
  go_enter Try.func8, Try.ntmps8
  go_wp2_with fail
  refine (p1.at _).mono ?_; rintro e w ⟨rfl, h1⟩
  go_wp2_with fail
  refine (p2.at _).mono ?_; rintro e w ⟨rfl, h2⟩
  go_wp2_with fail
  refine (d1.at _).mono ?_; rintro e w ⟨rfl, h3⟩
  go_wp2_with fail
  refine (p1.at _).mono ?_; rintro e w ⟨rfl, h4⟩
  go_wp2_with fail
  refine (p1.at _).mono ?_; rintro e w ⟨rfl, h5⟩
  go_wp2_with fail
  refine (ds.at _).mono ?_; rintro e w ⟨rfl, h6⟩
  go_wp2_with fail
  refine (dm.at _).mono ?_; rintro e w ⟨rfl, h7⟩
  go_wp2_with fail
  refine (dn.at _).mono ?_; rintro e w ⟨rfl, h8⟩
  go_wp2_with fail
  refine (rr.at _).mono ?_; rintro e w ⟨rfl, h9⟩
  go_wp2_with fail
  refine (rs.at _).mono ?_; rintro e w ⟨rfl, h10⟩
  go_wp2_with fail
  refine (p3.at _).mono ?_; rintro e w ⟨rfl, h11⟩
  go_wp2_with fail
  refine (p4.at _).mono ?_; rintro e w ⟨rfl, h12⟩
  go_wp2_with fail
  refine (ans_lives.at _).mono ?_; rintro e w ⟨rfl, h13⟩
  go_wp2_with fail
  go_ret
  exact ⟨rfl, (bthen h1 (bthen h2 (bthen h3 (bthen h4 (bthen h5 (bthen h6 (bthen h7 (bthen h8 (bthen h9 (bthen h10 (bthen h11 (bthen h12 h13))))))))))))⟩
set_option maxHeartbeats 8000000 in
theorem osmr {x y x' m n r s k1 k2 k3 k4 : Int} (p1 : Ans 15 #[.int .u64 x] (.int .i64 k1)) (p2 : Ans 15 #[.int .u64 y] (.int .i64 k2)) (_h1 : ¬ k1 = 4) (_h2 : ¬ k2 = 4) (hx : Go.bits .xor .u64 x 9223372036854775808 = x') (d1 : Ans 9 #[.int .u64 x, .int .u64 4607182418800017408] (.int .u64 x))
    (dm : Ans 9 #[.int .u64 x, .int .u64 y] (.int .u64 m)) (dn : Ans 9 #[.int .u64 x', .int .u64 y] (.int .u64 n)) (rr : Ans 17 #[.int .u64 x, .int .u64 y] (.int .u64 r)) (rs : Ans 17 #[.int .u64 x', .int .u64 y] (.int .u64 s)) (p3 : Ans 15 #[.int .u64 m] (.int .i64 k3)) (p4 : Ans 15 #[.int .u64 r] (.int .i64 k4)) (b1 : (k1 == 4) = false) (b2 : (k2 == 4) = false) (c1 : ¬ k1 = 0) (c2 : ¬ k1 = 3) (ds : Ans 9 #[.int .u64 x, .int .u64 x] (.int .u64 4607182418800017408)) (e3 : ¬ k3 = 4) (em : Go.bits .xor .u64 m 9223372036854775808 = n) (e4 : ¬ k4 = 4) (er : Go.bits .xor .u64 r 9223372036854775808 = s) : Ans 8 #[.int .u64 x, .int .u64 y] (.bool true) := by
  intro w
  go_enter Try.func8, Try.ntmps8
  go_wp2_with fail
  refine (p1.at _).mono ?_; rintro e w ⟨rfl, h1⟩
  go_wp2_with fail
  refine (p2.at _).mono ?_; rintro e w ⟨rfl, h2⟩
  go_wp2_with fail
  refine (d1.at _).mono ?_; rintro e w ⟨rfl, h3⟩
  go_wp2_with fail
  refine (p1.at _).mono ?_; rintro e w ⟨rfl, h4⟩
  go_wp2_with fail
  refine (p1.at _).mono ?_; rintro e w ⟨rfl, h5⟩
  go_wp2_with fail
  refine (ds.at _).mono ?_; rintro e w ⟨rfl, h6⟩
  go_wp2_with fail
  refine (dm.at _).mono ?_; rintro e w ⟨rfl, h7⟩
  go_wp2_with fail
  refine (dn.at _).mono ?_; rintro e w ⟨rfl, h8⟩
  go_wp2_with fail
  refine (rr.at _).mono ?_; rintro e w ⟨rfl, h9⟩
  go_wp2_with fail
  refine (rs.at _).mono ?_; rintro e w ⟨rfl, h10⟩
  go_wp2_with fail
  refine (p3.at _).mono ?_; rintro e w ⟨rfl, h11⟩
  go_wp2_with fail
  refine (p4.at _).mono ?_; rintro e w ⟨rfl, h12⟩
  go_wp2_with fail
  refine (ans_lives.at _).mono ?_; rintro e w ⟨rfl, h13⟩
  go_wp2_with fail
  go_ret
  exact ⟨rfl, (bthen h1 (bthen h2 (bthen h3 (bthen h4 (bthen h5 (bthen h6 (bthen h7 (bthen h8 (bthen h9 (bthen h10 (bthen h11 (bthen h12 h13))))))))))))⟩
theorem row_QuoOnes (a0 a1 : Int) (w : World) (w0 : (Lit.int .u64 a0).wf = true) (w1 : (Lit.int .u64 a1).wf = true) :
    Calls Try.prog 8 #[.int .u64 a0, .int .u64 a1] w fun e w' => e = .returned (.bool true) ∧ Below w.heap.size w w' := by
  obtain ⟨a, rfl, ha⟩ := wf_u64 w0
  obtain ⟨b, rfl, hb⟩ := wf_u64 w1
  clear w0 w1
  have p1 := ans_refKind a ha
  have p2 := ans_refKind b hb
  by_cases hn : INF < rg a ∨ INF < rg b
  · obtain ⟨g1, g2, g3⟩ := nan_ones hn
    have d := ans_Div a b
    have r := ans_Rem a b ha hb
    have m := ans_Mod a b ha hb
    rw [g1] at d
    rw [g2] at r
    rw [g3] at m
    have na := nan_kind a
    have nb := nan_kind b
    exact ones_nan _ _ _ _ _ p1 p2 (by omega) d r m ans_refNan w
  · have la : rg a ≤ INF := by omega
    have lb : rg b ≤ INF := by omega
    have ka : ¬ ((kindN a : Nat) : Int) = 4 := by have := not_nan_of_le la; omega
    have kb : ¬ ((kindN b : Nat) : Int) = 4 := by have := not_nan_of_le lb; omega
    have hfa := (flip_facts a).2.2
    have hx := flip_xor a ha
    have d1 := ans_Div a ONE
    rw [div_one ha la] at d1
    have dm := ans_Div a b
    have dn := ans_Div (flipW a) b
    have rr := ans_Rem a b ha hb
    have rs := ans_Rem (flipW a) b hfa hb
    have p3 := ans_refKind (divW a b) (div_lt a b)
    have p4 := ans_refKind (remW a b) (remW_lt a b)
    have cm : (((kindN (divW a b) : Nat) : Int) = 4 ∧ divW (flipW a) b = divW a b) ∨ (¬ ((kindN (divW a b) : Nat) : Int) = 4 ∧ divW (flipW a) b = flipW (divW a b)) := by
      rcases div_flip a b with h | h
      · left
        have e1 : divW a b = Dig.NANW := by unfold divW; rw [h.1]; rfl
        have e2 : divW (flipW a) b = Dig.NANW := by unfold divW; rw [h.2]; rfl
        rw [e1, e2, nanw_facts.2.2.2]; exact ⟨rfl, rfl⟩
      · right; exact ⟨by have := h.2; omega, h.1⟩
    have cr : (((kindN (remW a b) : Nat) : Int) = 4 ∧ remW (flipW a) b = remW a b) ∨ (¬ ((kindN (remW a b) : Nat) : Int) = 4 ∧ remW (flipW a) b = flipW (remW a b)) := by
      cases h : badR a b
      · right; exact ⟨by have := remW_num h; omega, rem_flip h⟩
      · left
        rw [remW_bad h, remW_bad ((bad_flip a b).trans h), nanw_facts.2.2.2]; exact ⟨rfl, rfl⟩
    have xm := flip_xor (divW a b) (div_lt a b)
    have xr := flip_xor (remW a b) (remW_lt a b)
    have z0 := zero_kind a
    have z3 := inf_kind a
    have dsf : rg a ≠ 0 → rg a < INF → Ans 9 #[.int .u64 a, .int .u64 a] (.int .u64 ((ONE : Nat) : Int)) := fun h1 h2 => by
      have := ans_Div a a
      rw [div_self h2 h1] at this; exact this
    by_cases c0 : kindN a = 0
    · rcases cm with ⟨m1, m2⟩ | ⟨m1, m2⟩
      · rcases cr with ⟨r1, r2⟩ | ⟨r1, r2⟩
        · exact oznn p1 p2 ka kb hx d1 dm dn rr rs p3 p4 (by omega) m1 (by rw [m2]) r1 (by rw [r2]) w
        · exact oznr p1 p2 ka kb hx d1 dm dn rr rs p3 p4 (by omega) m1 (by rw [m2]) r1 (by rw [r2]; exact xr) w
      · rcases cr with ⟨r1, r2⟩ | ⟨r1, r2⟩
        · exact ozmn p1 p2 ka kb hx d1 dm dn rr rs p3 p4 (by omega) m1 (by rw [m2]; exact xm) r1 (by rw [r2]) w
        · exact ozmr p1 p2 ka kb hx d1 dm dn rr rs p3 p4 (by omega) m1 (by rw [m2]; exact xm) r1 (by rw [r2]; exact xr) w
    · by_cases c3 : kindN a = 3
      · rcases cm with ⟨m1, m2⟩ | ⟨m1, m2⟩
        · rcases cr with ⟨r1, r2⟩ | ⟨r1, r2⟩
          · exact oinn p1 p2 ka kb hx d1 dm dn rr rs p3 p4 (by omega) (by omega) m1 (by rw [m2]) r1 (by rw [r2]) w
          · exact oinr p1 p2 ka kb hx d1 dm dn rr rs p3 p4 (by omega) (by omega) m1 (by rw [m2]) r1 (by rw [r2]; exact xr) w
        · rcases cr with ⟨r1, r2⟩ | ⟨r1, r2⟩
          · exact oimn p1 p2 ka kb hx d1 dm dn rr rs p3 p4 (by omega) (by omega) m1 (by rw [m2]; exact xm) r1 (by rw [r2]) w
          · exact oimr p1 p2 ka kb hx d1 dm dn rr rs p3 p4 (by omega) (by omega) m1 (by rw [m2]; exact xm) r1 (by rw [r2]; exact xr) w
      · have ds := dsf (fun x => c0 (z0.2 x)) (Nat.lt_of_le_of_ne la (fun x => c3 (z3.2 x)))
        rcases cm with ⟨m1, m2⟩ | ⟨m1, m2⟩
        · rcases cr with ⟨r1, r2⟩ | ⟨r1, r2⟩
          · exact osnn p1 p2 ka kb hx d1 dm dn rr rs p3 p4 (beq_eq_false_iff_ne.2 ka) (beq_eq_false_iff_ne.2 kb) (by omega) (by omega) ds m1 (by rw [m2]) r1 (by rw [r2]) w
          · exact osnr p1 p2 ka kb hx d1 dm dn rr rs p3 p4 (beq_eq_false_iff_ne.2 ka) (beq_eq_false_iff_ne.2 kb) (by omega) (by omega) ds m1 (by rw [m2]) r1 (by rw [r2]; exact xr) w
        · rcases cr with ⟨r1, r2⟩ | ⟨r1, r2⟩
          · exact osmn p1 p2 ka kb hx d1 dm dn rr rs p3 p4 (beq_eq_false_iff_ne.2 ka) (beq_eq_false_iff_ne.2 kb) (by omega) (by omega) ds m1 (by rw [m2]; exact xm) r1 (by rw [r2]) w
          · exact osmr p1 p2 ka kb hx d1 dm dn rr rs p3 p4 (beq_eq_false_iff_ne.2 ka) (beq_eq_false_iff_ne.2 kb) (by omega) (by omega) ds m1 (by rw [m2]; exact xm) r1 (by rw [r2]; exact xr) w
end Go.Proofs.Yteghlmcafhhkcaa.Ans
