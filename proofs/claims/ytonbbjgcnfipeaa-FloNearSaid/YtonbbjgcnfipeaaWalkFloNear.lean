/- FloNear: what is made of parts lies between those of the whole numbers about them, and the other sign makes the negative. No conditions but the kinds of the arguments. -/
import Derived.Test.YtonbbjgcnfipeaaAnswers
namespace Go.Proofs.Ytonbbjgcnfipeaa.Ans
open Go Go.RowKit Go.Proofs.Ytonbbjgcnfipeaa.Num Go.Proofs.Ytonbbjgcnfipeaa.Fl Go.Proofs.Ytonbbjgcnfipeaa.Dig Go.Proofs.Ytonbbjgcnfipeaa.Float

theorem near_low (exp : Int) (f : Nat) : lessB (makeW false exp f true) (makeW false exp f false) = false := by
  obtain ⟨sx, rx, _, _⟩ := make_facts false exp f false
  obtain ⟨sy, ry, _, _⟩ := make_facts false exp f true
  refine not_less_of sx sy ?_
  rw [rx, ry]; exact rung_mono_at (Nat.add_le_add_left (by decide) _)
theorem near_high (exp : Int) (f : Nat) : lessB (makeW false exp (f + 1) false) (makeW false exp f true) = false := by
  obtain ⟨sx, rx, _, _⟩ := make_facts false exp f true
  obtain ⟨sy, ry, _, _⟩ := make_facts false exp (f + 1) false
  refine not_less_of sx sy ?_
  rw [rx, ry]; refine rung_mono_at ?_
  show 2 * f + 1 ≤ 2 * (f + 1) + 0
  omega
theorem near_neg (exp : Int) (f : Nat) : negW (makeW false exp f true) = makeW true exp f true := by
  obtain ⟨sx, rx, hx, _⟩ := make_facts false exp f true
  rw [neg_num hx]
  unfold flipW; rw [sx, rx]; rfl
theorem walk_FloNear_top (exp : Int) (f : Nat) (hf : f < W) (h : f = 18446744073709551615) : Ans 5 #[.int .i64 exp, .int .u64 f] (.bool true) := by
  intro w
  have m1 := ans_Make false exp f false hf
  have m2 := ans_Make false exp f true hf
  have m3 := ans_Make true exp f true hf
  have l1 := ans_Less (makeW false exp f true) (makeW false exp f false)
  rw [near_low] at l1
  have n1 := ans_Neg (makeW false exp f true) (make_facts _ _ _ _).2.2.2
  rw [near_neg] at n1
  have hne : ((f : Int) == 18446744073709551615) = true := beq_iff_eq.2 (by omega)
  clear hf h
  generalize ((makeW false exp f false : Nat) : Int) = x at *
  generalize ((makeW false exp f true : Nat) : Int) = y at *
  generalize ((makeW true exp f true : Nat) : Int) = z at *
  generalize (f : Int) = p at *
  go_enter Try.func5, Try.ntmps5
  go_wp2_with fail
  refine (m1.at _).mono ?_; rintro e w1 ⟨rfl, hb1⟩
  go_wp2_with fail
  refine (m2.at _).mono ?_; rintro e w2 ⟨rfl, hb2⟩
  go_wp2_with fail
  refine (l1.at _).mono ?_; rintro e w3 ⟨rfl, hb3⟩
  go_wp2_with fail
  refine (m3.at _).mono ?_; rintro e w4 ⟨rfl, hb4⟩
  go_wp2_with fail
  refine (n1.at _).mono ?_; rintro e w5 ⟨rfl, hb5⟩
  go_wp2_with fail
  refine (ans_lives.at _).mono ?_; rintro e w6 ⟨rfl, hb6⟩
  go_wp2_with fail
  go_ret
  exact ⟨rfl, (bthen hb1 (bthen hb2 (bthen hb3 (bthen hb4 (bthen hb5 hb6)))))⟩
theorem walk_FloNear_next (exp : Int) (f : Nat) (hf : f < W) (h : f < 18446744073709551615) : Ans 5 #[.int .i64 exp, .int .u64 f] (.bool true) := by
  intro w
  have m1 := ans_Make false exp f false hf
  have m2 := ans_Make false exp f true hf
  have m3 := ans_Make true exp f true hf
  have l1 := ans_Less (makeW false exp f true) (makeW false exp f false)
  rw [near_low] at l1
  have n1 := ans_Neg (makeW false exp f true) (make_facts _ _ _ _).2.2.2
  rw [near_neg] at n1
  have m4 := ans_Make false exp (f + 1) false (by unfold W; omega)
  have l2 := ans_Less (makeW false exp (f + 1) false) (makeW false exp f true)
  rw [near_high] at l2
  have hne : ((f : Int) == 18446744073709551615) = false := beq_eq_false_iff_ne.2 (by omega)
  have F0 : 0 ≤ (f : Int) := Int.natCast_nonneg _
  have F1 : (f : Int) < 18446744073709551615 := by omega
  rw [show ((f + 1 : Nat) : Int) = (f : Int) + 1 from rfl] at m4
  generalize ((makeW false exp (f + 1) false : Nat) : Int) = u at *
  clear hf h
  generalize ((makeW false exp f false : Nat) : Int) = x at *
  generalize ((makeW false exp f true : Nat) : Int) = y at *
  generalize ((makeW true exp f true : Nat) : Int) = z at *
  generalize (f : Int) = p at *
  go_enter Try.func5, Try.ntmps5
  go_wp2_with fail
  refine (m1.at _).mono ?_; rintro e w1 ⟨rfl, hb1⟩
  go_wp2_with fail
  refine (m2.at _).mono ?_; rintro e w2 ⟨rfl, hb2⟩
  go_wp2_with fail
  refine (l1.at _).mono ?_; rintro e w3 ⟨rfl, hb3⟩
  go_wp2_with fail
  refine (m3.at _).mono ?_; rintro e w4 ⟨rfl, hb4⟩
  go_wp2_with fail
  refine (n1.at _).mono ?_; rintro e w5 ⟨rfl, hb5⟩
  go_wp2_with fail
  refine (m4.at _).mono ?_; rintro e w6 ⟨rfl, hb6⟩
  go_wp2_with fail
  refine (l2.at _).mono ?_; rintro e w7 ⟨rfl, hb7⟩
  go_wp2_with fail
  refine (ans_lives.at _).mono ?_; rintro e w8 ⟨rfl, hb8⟩
  go_wp2_with fail
  go_ret
  exact ⟨rfl, (bthen hb1 (bthen hb2 (bthen hb3 (bthen hb4 (bthen hb5 (bthen hb6 (bthen hb7 hb8)))))))⟩
theorem row_FloNear (a0 a1 : Int) (w : World) (_ : (Lit.int .i64 a0).wf = true) (w1 : (Lit.int .u64 a1).wf = true) :
    Calls Try.prog 5 #[.int .i64 a0, .int .u64 a1] w fun e w' => e = .returned (.bool true) ∧ Below w.heap.size w w' := by
  obtain ⟨f, rfl, hf⟩ := wf_u64 w1
  by_cases h : f = 18446744073709551615
  · exact walk_FloNear_top a0 f hf h w
  · exact walk_FloNear_next a0 f hf (by omega) w
end Go.Proofs.Ytonbbjgcnfipeaa.Ans
