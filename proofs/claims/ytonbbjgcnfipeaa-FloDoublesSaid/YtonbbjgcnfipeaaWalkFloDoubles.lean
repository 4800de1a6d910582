/- FloDoubles: twice the fraction and one less in the exponent is the same number. No conditions but the kinds of the arguments. -/
import Derived.Test.YtonbbjgcnfipeaaAnswers
namespace Go.Proofs.Ytonbbjgcnfipeaa.Ans
open Go Go.RowKit Go.Proofs.Ytonbbjgcnfipeaa.Num Go.Proofs.Ytonbbjgcnfipeaa.Fl Go.Proofs.Ytonbbjgcnfipeaa.Dig Go.Proofs.Ytonbbjgcnfipeaa.Float

theorem make_half (e : Int) (f : Nat) (half : Bool) : makeW false (e - 1) (2 * f + half.toNat) false = makeW false e f half := by
  unfold makeW; rw [rung_twice]
theorem make_two (e : Int) (f : Nat) : makeW true e (2 * f) false = makeW true (e + 1) f false := by
  unfold makeW
  rw [rung_twice (2 * f), show e + 1 - 1 = e by omega]
  rfl
theorem walk_FloDoubles_true (exp : Int) (f : Nat) (hf : f < W) : Ans 4 #[.int .i64 exp, .int .u64 f, .bool true] (.bool true) := by
  intro w
  have hf4 : f / 4 < 4611686018427387904 := by unfold W at hf; omega
  have m1 := ans_Make false (exp.tmod 3000) (f / 4) true (by unfold W; omega)
  have m2 := ans_Make false (exp.tmod 3000 - 1) (2 * (f / 4) + 1) false (by unfold W; omega)
  rw [show makeW false (exp.tmod 3000 - 1) (2 * (f / 4) + 1) false = makeW false (exp.tmod 3000) (f / 4) true from make_half (exp.tmod 3000) (f / 4) true] at m2
  have m3 := ans_Make true (exp.tmod 3000) (2 * (f / 4)) false (by unfold W; omega)
  have m4 := ans_Make true (exp.tmod 3000 + 1) (f / 4) false (by unfold W; omega)
  rw [make_two] at m3
  have hb0 : -3000 < exp.tmod 3000 := by have := Int.lt_tmod_of_pos exp (show (0 : Int) < 3000 by decide); omega
  have hb1 : exp.tmod 3000 < 3000 := Int.tmod_lt_of_pos exp (by decide)
  have en : ((2 * (f / 4) + 1 : Nat) : Int) = 2 * ((f : Int) / 4) + 1 := by omega
  rw [en] at m2
  rw [show ((2 * (f / 4) : Nat) : Int) = 2 * ((f : Int) / 4) from by omega] at m3
  rw [show ((f / 4 : Nat) : Int) = (f : Int) / 4 from by omega] at m1 m4
  have F0 : 0 ≤ (f : Int) := Int.natCast_nonneg _
  have F1 : (f : Int) < 18446744073709551616 := by unfold W at hf; omega
  clear hf hf4 en
  generalize ((makeW false (exp.tmod 3000) (f / 4) true : Nat) : Int) = x at *
  generalize ((makeW true (exp.tmod 3000 + 1) (f / 4) false : Nat) : Int) = y at *
  generalize (f : Int) = p at *
  go_enter Try.func4, Try.ntmps4
  go_wp2_with fail
  refine (m1.at _).mono ?_; rintro e w1 ⟨rfl, hb1⟩
  go_wp2_with fail
  refine (m2.at _).mono ?_; rintro e w2 ⟨rfl, hb2⟩
  go_wp2_with fail
  refine (m3.at _).mono ?_; rintro e w3 ⟨rfl, hb3⟩
  go_wp2_with fail
  refine (m4.at _).mono ?_; rintro e w4 ⟨rfl, hb4⟩
  go_wp2_with fail
  refine (ans_lives.at _).mono ?_; rintro e w5 ⟨rfl, hb5⟩
  go_wp2_with fail
  go_ret
  exact ⟨rfl, (bthen hb1 (bthen hb2 (bthen hb3 (bthen hb4 hb5))))⟩
theorem walk_FloDoubles_false (exp : Int) (f : Nat) (hf : f < W) : Ans 4 #[.int .i64 exp, .int .u64 f, .bool false] (.bool true) := by
  intro w
  have hf4 : f / 4 < 4611686018427387904 := by unfold W at hf; omega
  have m1 := ans_Make false (exp.tmod 3000) (f / 4) false (by unfold W; omega)
  have m2 := ans_Make false (exp.tmod 3000 - 1) (2 * (f / 4)) false (by unfold W; omega)
  rw [show makeW false (exp.tmod 3000 - 1) (2 * (f / 4)) false = makeW false (exp.tmod 3000) (f / 4) false from make_half (exp.tmod 3000) (f / 4) false] at m2
  have m3 := ans_Make true (exp.tmod 3000) (2 * (f / 4)) false (by unfold W; omega)
  have m4 := ans_Make true (exp.tmod 3000 + 1) (f / 4) false (by unfold W; omega)
  rw [make_two] at m3
  have hb0 : -3000 < exp.tmod 3000 := by have := Int.lt_tmod_of_pos exp (show (0 : Int) < 3000 by decide); omega
  have hb1 : exp.tmod 3000 < 3000 := Int.tmod_lt_of_pos exp (by decide)
  have en : ((2 * (f / 4) : Nat) : Int) = 2 * ((f : Int) / 4) := by omega
  rw [en] at m2
  rw [show ((2 * (f / 4) : Nat) : Int) = 2 * ((f : Int) / 4) from by omega] at m3
  rw [show ((f / 4 : Nat) : Int) = (f : Int) / 4 from by omega] at m1 m4
  have F0 : 0 ≤ (f : Int) := Int.natCast_nonneg _
  have F1 : (f : Int) < 18446744073709551616 := by unfold W at hf; omega
  clear hf hf4 en
  generalize ((makeW false (exp.tmod 3000) (f / 4) false : Nat) : Int) = x at *
  generalize ((makeW true (exp.tmod 3000 + 1) (f / 4) false : Nat) : Int) = y at *
  generalize (f : Int) = p at *
  go_enter Try.func4, Try.ntmps4
  go_wp2_with fail
  refine (m1.at _).mono ?_; rintro e w1 ⟨rfl, hb1⟩
  go_wp2_with fail
  refine (m2.at _).mono ?_; rintro e w2 ⟨rfl, hb2⟩
  go_wp2_with fail
  refine (m3.at _).mono ?_; rintro e w3 ⟨rfl, hb3⟩
  go_wp2_with fail
  refine (m4.at _).mono ?_; rintro e w4 ⟨rfl, hb4⟩
  go_wp2_with fail
  refine (ans_lives.at _).mono ?_; rintro e w5 ⟨rfl, hb5⟩
  go_wp2_with fail
  go_ret
  exact ⟨rfl, (bthen hb1 (bthen hb2 (bthen hb3 (bthen hb4 hb5))))⟩
theorem row_FloDoubles (a0 a1 : Int) (a2 : Bool) (w : World) (_ : (Lit.int .i64 a0).wf = true) (w1 : (Lit.int .u64 a1).wf = true) :
    Calls Try.prog 4 #[.int .i64 a0, .int .u64 a1, .bool a2] w fun e w' => e = .returned (.bool true) ∧ Below w.heap.size w w' := by
  obtain ⟨f, rfl, hf⟩ := wf_u64 w1
  cases a2
  · exact walk_FloDoubles_false a0 f hf w
  · exact walk_FloDoubles_true a0 f hf w
end Go.Proofs.Ytonbbjgcnfipeaa.Ans
