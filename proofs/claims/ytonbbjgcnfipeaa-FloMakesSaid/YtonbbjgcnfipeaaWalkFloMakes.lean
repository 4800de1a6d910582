/- FloMakes: any parts make the number that is nearest to them, as the document says. No conditions but the kinds of the arguments. -/
import Derived.Test.YtonbbjgcnfipeaaAnswers
namespace Go.Proofs.Ytonbbjgcnfipeaa.Ans
open Go Go.RowKit Go.Proofs.Ytonbbjgcnfipeaa.Num Go.Proofs.Ytonbbjgcnfipeaa.Fl Go.Proofs.Ytonbbjgcnfipeaa.Dig Go.Proofs.Ytonbbjgcnfipeaa.Float

theorem walk_FloMakes (exp : Int) (f : Nat) (half : Bool) (hf : f < W) : Ans 3 #[.int .i64 exp, .int .u64 f, .bool half] (.bool true) := by
  intro w
  have m1 := ans_Make false exp f half hf
  have m2 := ans_refMake false exp f half hf
  have m3 := ans_Make true exp f half hf
  have m4 := ans_refMake true exp f half hf
  clear hf
  generalize ((makeW false exp f half : Nat) : Int) = p at *
  generalize ((makeW true exp f half : Nat) : Int) = q at *
  generalize (f : Int) = x at *
  go_enter Try.func3, Try.ntmps3
  go_wp2_with fail
  refine (m1.at _).mono ?_; rintro e w1 ⟨rfl, hb1⟩
  go_wp2_with fail
  refine (m2.at _).mono ?_; rintro e w2 ⟨rfl, hb2⟩
  go_wp2_with fail
  refine (m3.at _).mono ?_; rintro e w3 ⟨rfl, hb3⟩
  go_wp2_with fail
  refine (m4.at _).mono ?_; rintro e w4 ⟨rfl, hb4⟩
  go_wp2_with fail
  refine (ans_lives.at _).mono ?_; rintro e w5 ⟨rfl, hb5⟩
  go_wp2_with fail
  go_ret
  exact ⟨rfl, (bthen hb1 (bthen hb2 (bthen hb3 (bthen hb4 hb5))))⟩
theorem row_FloMakes (a0 a1 : Int) (a2 : Bool) (w : World) (_ : (Lit.int .i64 a0).wf = true) (w1 : (Lit.int .u64 a1).wf = true) :
    Calls Try.prog 3 #[.int .i64 a0, .int .u64 a1, .bool a2] w fun e w' => e = .returned (.bool true) ∧ Below w.heap.size w w' := by
  obtain ⟨f, rfl, hf⟩ := wf_u64 w1
  exact walk_FloMakes a0 f a2 hf w
end Go.Proofs.Ytonbbjgcnfipeaa.Ans
