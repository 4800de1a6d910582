/- QuoTwice: a rest of a rest is the rest, and what is less than what is divided by stays. No condition but the kinds of the arguments. -/
import Derived.Test.YteghlmcafhhkcaaAnswers
namespace Go.Proofs.Yteghlmcafhhkcaa.Ans
open Go Go.RowKit Go.Proofs.Yteghlmcafhhkcaa.Num Go.Proofs.Yteghlmcafhhkcaa.DigLaw Go.Proofs.Yteghlmcafhhkcaa.Fl Go.Proofs.Yteghlmcafhhkcaa.Dig Go.Proofs.Yteghlmcafhhkcaa.Float

theorem row_QuoTwice (a0 a1 : Int) (w : World) (w0 : (Lit.int .u64 a0).wf = true) (w1 : (Lit.int .u64 a1).wf = true) :
    Calls Try.prog 6 #[.int .u64 a0, .int .u64 a1] w fun e w' => e = .returned (.bool true) ∧ Below w.heap.size w w' := by
  obtain ⟨a, rfl, ha⟩ := wf_u64 w0
  obtain ⟨b, rfl, hb⟩ := wf_u64 w1
  clear w0 w1
  have p1 := ans_Rem a b ha hb
  have k := ans_refKind (remW a b) (remW_lt a b)
  have p2 := ans_Rem (remW a b) b (remW_lt a b) hb
  cases h : badR a b
  · have kk : ¬ ((kindN (remW a b) : Nat) : Int) = 4 := by have := remW_num h; omega
    rw [(rem_twice h).2] at p2
    have l := ans_refLess (rg a) (rg b) (abs_word a).2.2 (abs_word b).2.2
    rw [← andNot_top a ha, ← andNot_top b hb] at l
    cases hl : lessB (rg a) (rg b)
    · rw [hl] at l
      clear hl h ha hb
      generalize ((kindN (remW a b) : Nat) : Int) = q at *
      generalize ((remW a b : Nat) : Int) = r at *
      generalize (a : Int) = u at *
      generalize (b : Int) = v at *
      go_enter Try.func6, Try.ntmps6
      go_wp2_with fail
      refine (p1.at _).mono ?_; rintro e w1 ⟨rfl, hb1⟩
      go_wp2_with fail
      refine (k.at _).mono ?_; rintro e w2 ⟨rfl, hb2⟩
      go_wp2_with fail
      refine (l.at _).mono ?_; rintro e w3 ⟨rfl, hb3⟩
      go_wp2_with fail
      refine (p2.at _).mono ?_; rintro e w4 ⟨rfl, hb4⟩
      go_wp2_with fail
      refine (ans_lives.at _).mono ?_; rintro e w5 ⟨rfl, hb5⟩
      go_wp2_with fail
      go_ret
      exact ⟨rfl, (bthen hb1 (bthen hb2 (bthen hb3 (bthen hb4 hb5))))⟩
    · rw [hl] at l
      rw [less_abs] at hl
      have hlt := (of_decide_eq_true hl).1
      have e : remW a b = a := rem_same ha h (V_strict hlt)
      rw [e] at p1 k p2 kk
      clear hl h ha hb e hlt
      generalize ((kindN a : Nat) : Int) = q at *
      generalize (a : Int) = u at *
      generalize (b : Int) = v at *
      go_enter Try.func6, Try.ntmps6
      go_wp2_with fail
      refine (p1.at _).mono ?_; rintro e w1 ⟨rfl, hb1⟩
      go_wp2_with fail
      refine (k.at _).mono ?_; rintro e w2 ⟨rfl, hb2⟩
      go_wp2_with fail
      refine (l.at _).mono ?_; rintro e w3 ⟨rfl, hb3⟩
      go_wp2_with fail
      refine (p2.at _).mono ?_; rintro e w4 ⟨rfl, hb4⟩
      go_wp2_with fail
      refine (ans_lives.at _).mono ?_; rintro e w5 ⟨rfl, hb5⟩
      go_wp2_with fail
      go_ret
      exact ⟨rfl, (bthen hb1 (bthen hb2 (bthen hb3 (bthen hb4 hb5))))⟩
  · have e : remW a b = Dig.NANW := remW_bad h
    rw [e] at p1 k p2
    rw [remW_bad (badR_nan b)] at p2
    rw [nanw_facts.2.2.2] at k
    have k' : Ans 15 #[.int .u64 ((Dig.NANW : Nat) : Int)] (.int .i64 4) := k
    clear h ha hb e k
    generalize ((Dig.NANW : Nat) : Int) = r at *
    generalize (a : Int) = u at *
    generalize (b : Int) = v at *
    go_enter Try.func6, Try.ntmps6
    go_wp2_with fail
    refine (p1.at _).mono ?_; rintro e w1 ⟨rfl, hb1⟩
    go_wp2_with fail
    refine (k'.at _).mono ?_; rintro e w2 ⟨rfl, hb2⟩
    go_wp2_with fail
    refine (p2.at _).mono ?_; rintro e w3 ⟨rfl, hb3⟩
    go_wp2_with fail
    refine (ans_lives.at _).mono ?_; rintro e w4 ⟨rfl, hb4⟩
    go_wp2_with fail
    go_ret
    exact ⟨rfl, (bthen hb1 (bthen hb2 (bthen hb3 hb4)))⟩
end Go.Proofs.Yteghlmcafhhkcaa.Ans
