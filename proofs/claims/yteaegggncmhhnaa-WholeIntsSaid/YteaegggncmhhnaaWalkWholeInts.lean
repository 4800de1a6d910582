/- WholeInts: whole numbers become the nearest numbers, and come back where that is just them. No condition but the kind of the argument. -/
import Derived.Test.YteaegggncmhhnaaAnswers
namespace Go.Proofs.Yteaegggncmhhnaa.Ans
open Go Go.RowKit Go.Proofs.Yteaegggncmhhnaa.Num Go.Proofs.Yteaegggncmhhnaa.DigLaw Go.Proofs.Yteaegggncmhhnaa.Fl Go.Proofs.Yteaegggncmhhnaa.Dig Go.Proofs.Yteaegggncmhhnaa.Float
open Ieee (Toward)

theorem wf_i64 {a : Int} (h : (Lit.int .i64 a).wf = true) : -9223372036854775808 ≤ a ∧ a < 9223372036854775808 := by
  simp [Lit.wf, IntKind.min, IntKind.max, IntKind.signed, IntKind.bits] at h
  omega
theorem row_WholeInts (a0 : Int) (w : World) (w0 : (Lit.int .i64 a0).wf = true) :
    Calls Try.prog 3 #[.int .i64 a0] w fun e w' => e = .returned (.bool true) ∧ Below w.heap.size w w' := by
  obtain ⟨h0, h1⟩ := wf_i64 w0
  clear w0
  obtain ⟨f1, f2, f3, f4⟩ := fromI_facts h0 h1
  have p := ans_FromInt a0
  have q := ans_refFromInt a0 h0 h1
  have i := ans_Is (fromI a0) f1
  rw [f4] at i
  have t := ans_ToInt (fromI a0) f1
  have s := ans_refSize a0 h0 h1
  by_cases c : a0.natAbs ≤ 9007199254740992
  · rw [toI_fromI c] at t
    dsimp only at t
    have c1 : ((a0.natAbs : Nat) : Int) ≤ 9007199254740992 := by omega
    clear f1 f2 f3 f4 c h0 h1
    generalize ((a0.natAbs : Nat) : Int) = z at *
    generalize ((fromI a0 : Nat) : Int) = x at *
    go_enter Try.func3, Try.ntmps3
    go_wp2_with fail
    refine (p.at _).mono ?_; rintro e w1 ⟨rfl, hb1⟩
    go_wp2_with fail
    refine (q.at _).mono ?_; rintro e w2 ⟨rfl, hb2⟩
    go_wp2_with fail
    refine (i.at _).mono ?_; rintro e w3 ⟨rfl, hb3⟩
    go_wp2_with fail
    refine (t.at _).mono ?_; rintro e w4 ⟨rfl, hb4⟩
    go_wp2_with fail
    refine (s.at _).mono ?_; rintro e w5 ⟨rfl, hb5⟩
    go_wp2_with fail
    refine (ans_lives.at _).mono ?_; rintro e w6 ⟨rfl, hb6⟩
    go_wp2_with fail
    go_ret
    exact ⟨rfl, (bthen hb1 (bthen hb2 (bthen hb3 (bthen hb4 (bthen hb5 hb6)))))⟩
  · have hne : rg (fromI a0) ≠ 0 := by
      rw [f3]
      intro e
      have c53 : (2 : Nat) ^ 53 = 9007199254740992 := by decide
      have h3 := V_mono (rung_mono_at (m := 2 ^ 53) (n := a0.natAbs) (q := 0) (by rw [c53]; omega))
      rw [(whole_V' (2 ^ 53) (Nat.le_refl _)).2, e, V_small (by decide)] at h3
      have := Nat.mul_pos (Nat.two_pow_pos 53) U_pos
      omega
    have c1 : ¬ ((a0.natAbs : Nat) : Int) ≤ 9007199254740992 := by omega
    have bk := back_same f1 (h0 := hne)
    generalize toI (fromI a0) = r at *
    obtain ⟨m, b⟩ := r
    dsimp only at *
    cases b
    · clear f1 f2 f3 f4 c h0 h1 bk hne
      generalize ((a0.natAbs : Nat) : Int) = z at *
      generalize ((fromI a0 : Nat) : Int) = x at *
      go_enter Try.func3, Try.ntmps3
      go_wp2_with fail
      refine (p.at _).mono ?_; rintro e w1 ⟨rfl, hb1⟩
      go_wp2_with fail
      refine (q.at _).mono ?_; rintro e w2 ⟨rfl, hb2⟩
      go_wp2_with fail
      refine (i.at _).mono ?_; rintro e w3 ⟨rfl, hb3⟩
      go_wp2_with fail
      refine (t.at _).mono ?_; rintro e w4 ⟨rfl, hb4⟩
      go_wp2_with fail
      refine (s.at _).mono ?_; rintro e w5 ⟨rfl, hb5⟩
      go_wp2_with fail
      refine (ans_lives.at _).mono ?_; rintro e w6 ⟨rfl, hb6⟩
      go_wp2_with fail
      go_ret
      exact ⟨rfl, (bthen hb1 (bthen hb2 (bthen hb3 (bthen hb4 (bthen hb5 hb6)))))⟩
    · have p2 := ans_FromInt m
      rw [bk rfl] at p2
      clear f1 f2 f3 f4 c h0 h1 bk hne
      generalize ((a0.natAbs : Nat) : Int) = z at *
      generalize ((fromI a0 : Nat) : Int) = x at *
      go_enter Try.func3, Try.ntmps3
      go_wp2_with fail
      refine (p.at _).mono ?_; rintro e w1 ⟨rfl, hb1⟩
      go_wp2_with fail
      refine (q.at _).mono ?_; rintro e w2 ⟨rfl, hb2⟩
      go_wp2_with fail
      refine (i.at _).mono ?_; rintro e w3 ⟨rfl, hb3⟩
      go_wp2_with fail
      refine (t.at _).mono ?_; rintro e w4 ⟨rfl, hb4⟩
      go_wp2_with fail
      refine (s.at _).mono ?_; rintro e w5 ⟨rfl, hb5⟩
      go_wp2_with fail
      refine (p2.at _).mono ?_; rintro e w6 ⟨rfl, hb6⟩
      go_wp2_with fail
      refine (ans_lives.at _).mono ?_; rintro e w7 ⟨rfl, hb7⟩
      go_wp2_with fail
      go_ret
      exact ⟨rfl, (bthen hb1 (bthen hb2 (bthen hb3 (bthen hb4 (bthen hb5 (bthen hb6 hb7))))))⟩
end Go.Proofs.Yteaegggncmhhnaa.Ans
