/- QuoRoots: roots are the nearest numbers to what they are, and don't turn the order about. No condition but the kinds of the arguments. -/
import Derived.Test.YteghlmcafhhkcaaAnswers
namespace Go.Proofs.Yteghlmcafhhkcaa.Ans
open Go Go.RowKit Go.Proofs.Yteghlmcafhhkcaa.Num Go.Proofs.Yteghlmcafhhkcaa.DigLaw Go.Proofs.Yteghlmcafhhkcaa.Fl Go.Proofs.Yteghlmcafhhkcaa.Dig Go.Proofs.Yteghlmcafhhkcaa.Float

theorem row_QuoRoots (a0 a1 : Int) (w : World) (w0 : (Lit.int .u64 a0).wf = true) (w1 : (Lit.int .u64 a1).wf = true) :
    Calls Try.prog 4 #[.int .u64 a0, .int .u64 a1] w fun e w' => e = .returned (.bool true) ∧ Below w.heap.size w w' := by
  obtain ⟨a, rfl, ha⟩ := wf_u64 w0
  obtain ⟨b, rfl, hb⟩ := wf_u64 w1
  clear w0 w1
  have p1 := ans_Sqrt a
  have p2 := ans_Sqrt b
  have q1 := ans_refSqrt a ha
  have q2 := ans_refSqrt b hb
  have l := ans_refLess a b ha hb
  have k := ans_refKind (sqrtW a) (sqrt_lt a)
  have l2 := ans_refLess (sqrtW b) (sqrtW a) (sqrt_lt b) (sqrt_lt a)
  cases hl : lessB a b
  · rw [hl] at l
    clear hl ha hb k l2
    generalize ((sqrtW a : Nat) : Int) = x at *
    generalize ((sqrtW b : Nat) : Int) = y at *
    generalize (a : Int) = u at *
    generalize (b : Int) = v at *
    go_enter Try.func4, Try.ntmps4
    go_wp2_with fail
    refine (p1.at _).mono ?_; rintro e w1 ⟨rfl, hb1⟩
    go_wp2_with fail
    refine (p2.at _).mono ?_; rintro e w2 ⟨rfl, hb2⟩
    go_wp2_with fail
    refine (q1.at _).mono ?_; rintro e w3 ⟨rfl, hb3⟩
    go_wp2_with fail
    refine (q2.at _).mono ?_; rintro e w4 ⟨rfl, hb4⟩
    go_wp2_with fail
    refine (l.at _).mono ?_; rintro e w5 ⟨rfl, hb5⟩
    go_wp2_with fail
    refine (ans_lives.at _).mono ?_; rintro e w6 ⟨rfl, hb6⟩
    go_wp2_with fail
    go_ret
    exact ⟨rfl, (bthen hb1 (bthen hb2 (bthen hb3 (bthen hb4 (bthen hb5 hb6)))))⟩
  · rw [hl] at l
    by_cases c : kindN (sqrtW a) = 4
    · have kk : ((kindN (sqrtW a) : Nat) : Int) = 4 := by omega
      rw [kk] at k
      clear kk c hl ha hb l2
      generalize ((sqrtW a : Nat) : Int) = x at *
      generalize ((sqrtW b : Nat) : Int) = y at *
      generalize (a : Int) = u at *
      generalize (b : Int) = v at *
      go_enter Try.func4, Try.ntmps4
      go_wp2_with fail
      refine (p1.at _).mono ?_; rintro e w1 ⟨rfl, hb1⟩
      go_wp2_with fail
      refine (p2.at _).mono ?_; rintro e w2 ⟨rfl, hb2⟩
      go_wp2_with fail
      refine (q1.at _).mono ?_; rintro e w3 ⟨rfl, hb3⟩
      go_wp2_with fail
      refine (q2.at _).mono ?_; rintro e w4 ⟨rfl, hb4⟩
      go_wp2_with fail
      refine (l.at _).mono ?_; rintro e w5 ⟨rfl, hb5⟩
      go_wp2_with fail
      refine (k.at _).mono ?_; rintro e w6 ⟨rfl, hb6⟩
      go_wp2_with fail
      refine (ans_lives.at _).mono ?_; rintro e w7 ⟨rfl, hb7⟩
      go_wp2_with fail
      go_ret
      exact ⟨rfl, (bthen hb1 (bthen hb2 (bthen hb3 (bthen hb4 (bthen hb5 (bthen hb6 hb7))))))⟩
    · have kk : ¬ ((kindN (sqrtW a) : Nat) : Int) = 4 := by omega
      have hr := root_rises ha hb hl c
      rw [sq_eq, sq_eq] at l2
      rw [hr, ← sq_eq, ← sq_eq] at l2
      clear c hl ha hb hr
      generalize ((kindN (sqrtW a) : Nat) : Int) = q at *
      generalize ((sqrtW a : Nat) : Int) = x at *
      generalize ((sqrtW b : Nat) : Int) = y at *
      generalize (a : Int) = u at *
      generalize (b : Int) = v at *
      go_enter Try.func4, Try.ntmps4
      go_wp2_with fail
      refine (p1.at _).mono ?_; rintro e w1 ⟨rfl, hb1⟩
      go_wp2_with fail
      refine (p2.at _).mono ?_; rintro e w2 ⟨rfl, hb2⟩
      go_wp2_with fail
      refine (q1.at _).mono ?_; rintro e w3 ⟨rfl, hb3⟩
      go_wp2_with fail
      refine (q2.at _).mono ?_; rintro e w4 ⟨rfl, hb4⟩
      go_wp2_with fail
      refine (l.at _).mono ?_; rintro e w5 ⟨rfl, hb5⟩
      go_wp2_with fail
      refine (k.at _).mono ?_; rintro e w6 ⟨rfl, hb6⟩
      go_wp2_with fail
      refine (l2.at _).mono ?_; rintro e w7 ⟨rfl, hb7⟩
      go_wp2_with fail
      refine (ans_lives.at _).mono ?_; rintro e w8 ⟨rfl, hb8⟩
      go_wp2_with fail
      go_ret
      exact ⟨rfl, (bthen hb1 (bthen hb2 (bthen hb3 (bthen hb4 (bthen hb5 (bthen hb6 (bthen hb7 hb8)))))))⟩
end Go.Proofs.Yteghlmcafhhkcaa.Ans
