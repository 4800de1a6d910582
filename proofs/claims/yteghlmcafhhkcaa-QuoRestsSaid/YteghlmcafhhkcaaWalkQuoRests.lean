/- QuoRests: rests are just what they are, less than what was divided by, and the other ones have that one's sign. No condition but the kinds of the arguments. -/
import Derived.Test.YteghlmcafhhkcaaAnswers
namespace Go.Proofs.Yteghlmcafhhkcaa.Ans
open Go Go.RowKit Go.Proofs.Yteghlmcafhhkcaa.Num Go.Proofs.Yteghlmcafhhkcaa.DigLaw Go.Proofs.Yteghlmcafhhkcaa.Fl Go.Proofs.Yteghlmcafhhkcaa.Dig Go.Proofs.Yteghlmcafhhkcaa.Float

theorem row_QuoRests (a0 a1 : Int) (w : World) (w0 : (Lit.int .u64 a0).wf = true) (w1 : (Lit.int .u64 a1).wf = true) :
    Calls Try.prog 7 #[.int .u64 a0, .int .u64 a1] w fun e w' => e = .returned (.bool true) ∧ Below w.heap.size w w' := by
  obtain ⟨a, rfl, ha⟩ := wf_u64 w0
  obtain ⟨b, rfl, hb⟩ := wf_u64 w1
  clear w0 w1
  have p1 := ans_Rem a b ha hb
  have p2 := ans_Mod a b ha hb
  have q1 := ans_refRem a b ha hb
  have q2 := ans_refMod a b ha hb
  have k := ans_refKind (remW a b) (remW_lt a b)
  cases h : badR a b
  · have kk : ¬ ((kindN (remW a b) : Nat) : Int) = 4 := by have := remW_num h; omega
    have l := ans_refLess (rg (remW a b)) (rg b) (abs_word (remW a b)).2.2 (abs_word b).2.2
    rw [less_abs, decide_eq_true ⟨rem_less h, (remW_facts h).2.2.2.2.2.1⟩, ← andNot_top (remW a b) (remW_lt a b), ← andNot_top b hb] at l
    have s1 := Ans.ans_refSign (modW a b) (modW_lt a b)
    rw [(modW_facts h).2.1] at s1
    have s2 := Ans.ans_refSign b hb
    clear h ha hb
    generalize ((kindN (remW a b) : Nat) : Int) = q at *
    generalize ((remW a b : Nat) : Int) = r at *
    generalize ((modW a b : Nat) : Int) = m at *
    generalize sg b = s at *
    generalize (a : Int) = u at *
    generalize (b : Int) = v at *
    go_enter Try.func7, Try.ntmps7
    go_wp2_with fail
    refine (p1.at _).mono ?_; rintro e w1 ⟨rfl, hb1⟩
    go_wp2_with fail
    refine (p2.at _).mono ?_; rintro e w2 ⟨rfl, hb2⟩
    go_wp2_with fail
    refine (q1.at _).mono ?_; rintro e w3 ⟨rfl, hb3⟩
    go_wp2_with fail
    refine (q2.at _).mono ?_; rintro e w4 ⟨rfl, hb4⟩
    go_wp2_with fail
    refine (k.at _).mono ?_; rintro e w5 ⟨rfl, hb5⟩
    go_wp2_with fail
    refine (l.at _).mono ?_; rintro e w6 ⟨rfl, hb6⟩
    go_wp2_with fail
    refine (s1.at _).mono ?_; rintro e w7 ⟨rfl, hb7⟩
    go_wp2_with fail
    refine (s2.at _).mono ?_; rintro e w8 ⟨rfl, hb8⟩
    go_wp2_with fail
    refine (ans_lives.at _).mono ?_; rintro e w9 ⟨rfl, hb9⟩
    go_wp2_with fail
    go_ret
    exact ⟨rfl, (bthen hb1 (bthen hb2 (bthen hb3 (bthen hb4 (bthen hb5 (bthen hb6 (bthen hb7 (bthen hb8 hb9))))))))⟩
  · have e : remW a b = Dig.NANW := remW_bad h
    have e2 : modW a b = Dig.NANW := by unfold modW; rw [if_pos h]
    rw [e] at p1 q1 k
    rw [e2] at p2 q2
    rw [nanw_facts.2.2.2] at k
    have k' : Ans 15 #[.int .u64 ((Dig.NANW : Nat) : Int)] (.int .i64 4) := k
    clear h ha hb e e2 k
    generalize ((Dig.NANW : Nat) : Int) = r at *
    generalize (a : Int) = u at *
    generalize (b : Int) = v at *
    go_enter Try.func7, Try.ntmps7
    go_wp2_with fail
    refine (p1.at _).mono ?_; rintro e w1 ⟨rfl, hb1⟩
    go_wp2_with fail
    refine (p2.at _).mono ?_; rintro e w2 ⟨rfl, hb2⟩
    go_wp2_with fail
    refine (q1.at _).mono ?_; rintro e w3 ⟨rfl, hb3⟩
    go_wp2_with fail
    refine (q2.at _).mono ?_; rintro e w4 ⟨rfl, hb4⟩
    go_wp2_with fail
    refine (k'.at _).mono ?_; rintro e w5 ⟨rfl, hb5⟩
    go_wp2_with fail
    refine (ans_lives.at _).mono ?_; rintro e w6 ⟨rfl, hb6⟩
    go_wp2_with fail
    go_ret
    exact ⟨rfl, (bthen hb1 (bthen hb2 (bthen hb3 (bthen hb4 (bthen hb5 hb6)))))⟩
end Go.Proofs.Yteghlmcafhhkcaa.Ans
