/- WholeRises: of two numbers the whole ones about them do not turn the order about. No condition but the kinds of the arguments. -/
import Derived.Test.YteaegggncmhhnaaAnswers
namespace Go.Proofs.Yteaegggncmhhnaa.Ans
open Go Go.RowKit Go.Proofs.Yteaegggncmhhnaa.Num Go.Proofs.Yteaegggncmhhnaa.DigLaw Go.Proofs.Yteaegggncmhhnaa.Fl Go.Proofs.Yteaegggncmhhnaa.Dig Go.Proofs.Yteaegggncmhhnaa.Float
open Ieee (Toward)

theorem row_WholeRises (a0 a1 : Int) (w : World) (w0 : (Lit.int .u64 a0).wf = true) (w1 : (Lit.int .u64 a1).wf = true) :
    Calls Try.prog 6 #[.int .u64 a0, .int .u64 a1] w fun e w' => e = .returned (.bool true) ∧ Below w.heap.size w w' := by
  obtain ⟨a, rfl, ha⟩ := wf_u64 w0
  obtain ⟨b, rfl, hb⟩ := wf_u64 w1
  clear w0 w1
  have l := ans_refLess a b ha hb
  cases hl : lessB a b
  · rw [hl] at l
    clear ha hb hl
    generalize (a : Int) = x at *
    generalize (b : Int) = y at *
    go_enter Try.func6, Try.ntmps6
    go_wp2_with fail
    refine (l.at _).mono ?_; rintro e w1 ⟨rfl, hb1⟩
    go_wp2_with fail
    refine (ans_lives.at _).mono ?_; rintro e w2 ⟨rfl, hb2⟩
    go_wp2_with fail
    go_ret
    exact ⟨rfl, (bthen hb1 hb2)⟩
  · rw [hl] at l
    have h := of_decide_eq_true (show decide (rg a ≤ INF ∧ rg b ≤ INF ∧ Vi a < Vi b) = true from hl)
    have a_Trunc := ans_Trunc a ha
    have b_Trunc := ans_Trunc b hb
    have l_Trunc := ans_refLess (intW .zero b) (intW .zero a) (intW_lt .zero hb) (intW_lt .zero ha)
    rw [less_no (whole_rises .zero h.1 h.2.1 h.2.2)] at l_Trunc
    generalize ((intW .zero a : Nat) : Int) = x_Trunc at *
    generalize ((intW .zero b : Nat) : Int) = y_Trunc at *
    have a_Floor := ans_Floor a ha
    have b_Floor := ans_Floor b hb
    have l_Floor := ans_refLess (intW .down b) (intW .down a) (intW_lt .down hb) (intW_lt .down ha)
    rw [less_no (whole_rises .down h.1 h.2.1 h.2.2)] at l_Floor
    generalize ((intW .down a : Nat) : Int) = x_Floor at *
    generalize ((intW .down b : Nat) : Int) = y_Floor at *
    have a_Ceil := ans_Ceil a ha
    have b_Ceil := ans_Ceil b hb
    have l_Ceil := ans_refLess (intW .up b) (intW .up a) (intW_lt .up hb) (intW_lt .up ha)
    rw [less_no (whole_rises .up h.1 h.2.1 h.2.2)] at l_Ceil
    generalize ((intW .up a : Nat) : Int) = x_Ceil at *
    generalize ((intW .up b : Nat) : Int) = y_Ceil at *
    have a_Near := ans_Near a ha
    have b_Near := ans_Near b hb
    have l_Near := ans_refLess (intW .even b) (intW .even a) (intW_lt .even hb) (intW_lt .even ha)
    rw [less_no (whole_rises .even h.1 h.2.1 h.2.2)] at l_Near
    generalize ((intW .even a : Nat) : Int) = x_Near at *
    generalize ((intW .even b : Nat) : Int) = y_Near at *
    clear ha hb hl h
    generalize (a : Int) = x at *
    generalize (b : Int) = y at *
    go_enter Try.func6, Try.ntmps6
    go_wp2_with fail
    refine (l.at _).mono ?_; rintro e w1 ⟨rfl, hb1⟩
    go_wp2_with fail
    refine (b_Trunc.at _).mono ?_; rintro e w2 ⟨rfl, hb2⟩
    go_wp2_with fail
    refine (a_Trunc.at _).mono ?_; rintro e w3 ⟨rfl, hb3⟩
    go_wp2_with fail
    refine (l_Trunc.at _).mono ?_; rintro e w4 ⟨rfl, hb4⟩
    go_wp2_with fail
    refine (b_Floor.at _).mono ?_; rintro e w5 ⟨rfl, hb5⟩
    go_wp2_with fail
    refine (a_Floor.at _).mono ?_; rintro e w6 ⟨rfl, hb6⟩
    go_wp2_with fail
    refine (l_Floor.at _).mono ?_; rintro e w7 ⟨rfl, hb7⟩
    go_wp2_with fail
    refine (b_Ceil.at _).mono ?_; rintro e w8 ⟨rfl, hb8⟩
    go_wp2_with fail
    refine (a_Ceil.at _).mono ?_; rintro e w9 ⟨rfl, hb9⟩
    go_wp2_with fail
    refine (l_Ceil.at _).mono ?_; rintro e w10 ⟨rfl, hb10⟩
    go_wp2_with fail
    refine (b_Near.at _).mono ?_; rintro e w11 ⟨rfl, hb11⟩
    go_wp2_with fail
    refine (a_Near.at _).mono ?_; rintro e w12 ⟨rfl, hb12⟩
    go_wp2_with fail
    refine (l_Near.at _).mono ?_; rintro e w13 ⟨rfl, hb13⟩
    go_wp2_with fail
    refine (ans_lives.at _).mono ?_; rintro e w14 ⟨rfl, hb14⟩
    go_wp2_with fail
    go_ret
    exact ⟨rfl, (bthen hb1 (bthen hb2 (bthen hb3 (bthen hb4 (bthen hb5 (bthen hb6 (bthen hb7 (bthen hb8 (bthen hb9 (bthen hb10 (bthen hb11 (bthen hb12 (bthen hb13 hb14)))))))))))))⟩
end Go.Proofs.Yteaegggncmhhnaa.Ans
