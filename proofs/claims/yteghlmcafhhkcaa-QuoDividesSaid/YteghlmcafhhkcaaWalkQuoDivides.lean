/- QuoDivides: quotients are the nearest numbers to what they are. No condition but the kinds of the arguments. -/
import Derived.Test.YteghlmcafhhkcaaAnswers
namespace Go.Proofs.Yteghlmcafhhkcaa.Ans
open Go Go.RowKit Go.Proofs.Yteghlmcafhhkcaa.Num Go.Proofs.Yteghlmcafhhkcaa.DigLaw Go.Proofs.Yteghlmcafhhkcaa.Fl Go.Proofs.Yteghlmcafhhkcaa.Dig Go.Proofs.Yteghlmcafhhkcaa.Float

theorem row_QuoDivides (a0 a1 : Int) (w : World) (w0 : (Lit.int .u64 a0).wf = true) (w1 : (Lit.int .u64 a1).wf = true) :
    Calls Try.prog 3 #[.int .u64 a0, .int .u64 a1] w fun e w' => e = .returned (.bool true) ∧ Below w.heap.size w w' := by
  obtain ⟨a, rfl, ha⟩ := wf_u64 w0
  obtain ⟨b, rfl, hb⟩ := wf_u64 w1
  have p := ans_Div a b
  have q := ans_refDiv a b ha hb
  clear w0 w1 ha hb
  generalize ((divW a b : Nat) : Int) = r at *
  generalize (a : Int) = x at *
  generalize (b : Int) = y at *
  go_enter Try.func3, Try.ntmps3
  go_wp2_with fail
  refine (p.at _).mono ?_; rintro e w1 ⟨rfl, hb1⟩
  go_wp2_with fail
  refine (q.at _).mono ?_; rintro e w2 ⟨rfl, hb2⟩
  go_wp2_with fail
  refine (ans_lives.at _).mono ?_; rintro e w3 ⟨rfl, hb3⟩
  go_wp2_with fail
  go_ret
  exact ⟨rfl, bthen hb1 (bthen hb2 hb3)⟩
end Go.Proofs.Yteghlmcafhhkcaa.Ans
