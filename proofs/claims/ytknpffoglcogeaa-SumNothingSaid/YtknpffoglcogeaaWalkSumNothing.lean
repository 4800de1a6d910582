/- The walk of SumNothing: it answers true. Conditions: the argument is a word of 64 bits. -/
import Derived.Test.YtknpffoglcogeaaAnswers
namespace Go.Proofs.Ytknpffoglcogeaa.Ans
open Go Go.RowKit Go.Proofs.Ytknpffoglcogeaa.Num Go.Proofs.Ytknpffoglcogeaa.Fl Go.Proofs.Ytknpffoglcogeaa.Dig

theorem walk_SumNothing_nan (a : Nat) (ha : a < W) (h : INF < rg a) : Ans 9 #[.int .u64 a] (.bool true) := by
  intro w
  have k1 := ans_refKind a ha
  rw [(nan_kind a).2 h] at k1
  have m1 := ans_Add a 0
  rw [add_nan1 h] at m1
  have m2 := ans_Mul a ONE
  rw [mul_nan1 h] at m2
  have K1 : Ans 15 #[.int .u64 a] (.int .i64 4) := k1
  have M1 : Ans 18 #[.int .u64 a, .int .u64 0] (.int .u64 9221120237041090560) := m1
  have M2 : Ans 10 #[.int .u64 a, .int .u64 4607182418800017408] (.int .u64 9221120237041090560) := m2
  clear k1 m1 m2 h ha
  generalize (a : Int) = x at *
  go_enter Try.func9, Try.ntmps9
  go_wp2_with fail
  refine (K1.at _).mono ?_; rintro e w1 ⟨rfl, hb1⟩
  go_wp2_with fail
  refine (M1.at _).mono ?_; rintro e w2 ⟨rfl, hb2⟩
  go_wp2_with fail
  refine (ans_refNan.at _).mono ?_; rintro e w3 ⟨rfl, hb3⟩
  go_wp2_with fail
  refine (M2.at _).mono ?_; rintro e w4 ⟨rfl, hb4⟩
  go_wp2_with fail
  refine (ans_refNan.at _).mono ?_; rintro e w5 ⟨rfl, hb5⟩
  go_wp2_with fail
  refine (ans_lives.at _).mono ?_; rintro e w6 ⟨rfl, hb6⟩
  go_wp2_with fail
  go_ret
  exact ⟨rfl, (bthen hb1 (bthen hb2 (bthen hb3 (bthen hb4 (bthen hb5 hb6)))))⟩
theorem walk_SumNothing_inf (a : Nat) (ha : a < W) (h : rg a = INF) : Ans 9 #[.int .u64 a] (.bool true) := by
  intro w
  have hle := Nat.le_of_eq h
  have k1 := ans_refKind a ha
  rw [(inf_kind a).2 h] at k1
  have m1 := ans_Add a 0
  have m2 := ans_Mul a ONE
  rw [mul_one' ha hle] at m2
  have m3 := ans_Sub a a
  rw [sub_self_inf h] at m3
  have q := ans_refEqual (addW a 0) a (add_lt a 0) ha
  rw [add_zero_eq ha hle] at q
  have K1 : Ans 15 #[.int .u64 a] (.int .i64 3) := k1
  have M1 : Ans 18 #[.int .u64 a, .int .u64 0] (.int .u64 ((addW a 0 : Nat) : Int)) := m1
  have M2 : Ans 10 #[.int .u64 a, .int .u64 4607182418800017408] (.int .u64 a) := m2
  have M3 : Ans 21 #[.int .u64 a, .int .u64 a] (.int .u64 9221120237041090560) := m3
  clear k1 m1 m2 m3 h ha hle
  generalize ((addW a 0 : Nat) : Int) = y at *
  generalize (a : Int) = x at *
  go_enter Try.func9, Try.ntmps9
  go_wp2_with fail
  refine (K1.at _).mono ?_; rintro e w1 ⟨rfl, hb1⟩
  go_wp2_with fail
  refine (M3.at _).mono ?_; rintro e w2 ⟨rfl, hb2⟩
  go_wp2_with fail
  refine (M1.at _).mono ?_; rintro e w3 ⟨rfl, hb3⟩
  go_wp2_with fail
  refine (q.at _).mono ?_; rintro e w4 ⟨rfl, hb4⟩
  go_wp2_with fail
  refine (M2.at _).mono ?_; rintro e w5 ⟨rfl, hb5⟩
  go_wp2_with fail
  refine (K1.at _).mono ?_; rintro e w6 ⟨rfl, hb6⟩
  go_wp2_with fail
  refine (ans_refNan.at _).mono ?_; rintro e w7 ⟨rfl, hb7⟩
  go_wp2_with fail
  refine (ans_lives.at _).mono ?_; rintro e w8 ⟨rfl, hb8⟩
  go_wp2_with fail
  go_ret
  exact ⟨rfl, (bthen hb1 (bthen hb2 (bthen hb3 (bthen hb4 (bthen hb5 (bthen hb6 (bthen hb7 hb8)))))))⟩
theorem walk_SumNothing_fin (a : Nat) (ha : a < W) (h : rg a < INF) : Ans 9 #[.int .u64 a] (.bool true) := by
  intro w
  have hle := Nat.le_of_lt h
  have k1 := ans_refKind a ha
  have hk := (fin_kind a).2 h
  have m1 := ans_Add a 0
  have m2 := ans_Mul a ONE
  rw [mul_one' ha hle] at m2
  have m3 := ans_Sub a a
  rw [sub_self_fin h] at m3
  have q := ans_refEqual (addW a 0) a (add_lt a 0) ha
  rw [add_zero_eq ha hle] at q
  have M1 : Ans 18 #[.int .u64 a, .int .u64 0] (.int .u64 ((addW a 0 : Nat) : Int)) := m1
  have M2 : Ans 10 #[.int .u64 a, .int .u64 4607182418800017408] (.int .u64 a) := m2
  have M3 : Ans 21 #[.int .u64 a, .int .u64 a] (.int .u64 0) := m3
  clear m1 m2 m3 h ha hle
  generalize ((addW a 0 : Nat) : Int) = y at *
  generalize kindN a = kk at *
  generalize (a : Int) = x at *
  have c4 : ((kk : Int) == 4) = false := beq_eq_false_iff_ne.2 (by omega)
  have c3 : ((kk : Int) == 3) = false := beq_eq_false_iff_ne.2 (by omega)
  have c3' : ((kk : Int) != 3) = true := bne_iff_ne.2 (by omega)
  go_enter Try.func9, Try.ntmps9
  go_wp2_with fail
  refine (k1.at _).mono ?_; rintro e w1 ⟨rfl, hb1⟩
  go_wp2_with fail
  refine (M3.at _).mono ?_; rintro e w2 ⟨rfl, hb2⟩
  go_wp2_with fail
  refine (M1.at _).mono ?_; rintro e w3 ⟨rfl, hb3⟩
  go_wp2_with fail
  refine (q.at _).mono ?_; rintro e w4 ⟨rfl, hb4⟩
  go_wp2_with fail
  refine (M2.at _).mono ?_; rintro e w5 ⟨rfl, hb5⟩
  go_wp2_with fail
  refine (k1.at _).mono ?_; rintro e w6 ⟨rfl, hb6⟩
  go_wp2_with fail
  refine (k1.at _).mono ?_; rintro e w7 ⟨rfl, hb7⟩
  go_wp2_with fail
  refine (ans_lives.at _).mono ?_; rintro e w8 ⟨rfl, hb8⟩
  go_wp2_with fail
  go_ret
  exact ⟨rfl, (bthen hb1 (bthen hb2 (bthen hb3 (bthen hb4 (bthen hb5 (bthen hb6 (bthen hb7 hb8)))))))⟩
theorem row_SumNothing (a0 : Int) (w : World) (w0 : (Lit.int .u64 a0).wf = true) :
    Calls Try.prog 9 #[.int .u64 a0] w fun e w' => e = .returned (.bool true) ∧ Below w.heap.size w w' := by
  obtain ⟨a, rfl, ha⟩ := wf_u64 w0
  rcases Nat.lt_trichotomy (rg a) INF with h | h | h
  · exact walk_SumNothing_fin a ha h w
  · exact walk_SumNothing_inf a ha h w
  · exact walk_SumNothing_nan a ha h w
end Go.Proofs.Ytknpffoglcogeaa.Ans
