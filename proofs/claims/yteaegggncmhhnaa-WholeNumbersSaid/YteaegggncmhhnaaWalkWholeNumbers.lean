/- WholeNumbers: which numbers are whole, and which whole number each is. No condition but the kind of the argument. -/
import Derived.Test.YteaegggncmhhnaaAnswers
namespace Go.Proofs.Yteaegggncmhhnaa.Ans
open Go Go.RowKit Go.Proofs.Yteaegggncmhhnaa.Num Go.Proofs.Yteaegggncmhhnaa.DigLaw Go.Proofs.Yteaegggncmhhnaa.Fl Go.Proofs.Yteaegggncmhhnaa.Dig Go.Proofs.Yteaegggncmhhnaa.Float
open Ieee (Toward)

theorem row_WholeNumbers (a0 : Int) (w : World) (w0 : (Lit.int .u64 a0).wf = true) :
    Calls Try.prog 4 #[.int .u64 a0] w fun e w' => e = .returned (.bool true) ∧ Below w.heap.size w w' := by
  obtain ⟨a, rfl, ha⟩ := wf_u64 w0
  clear w0
  have p := ans_ToInt a ha
  have q := ans_refToInt a ha
  have i := ans_Is a ha
  have j := ans_refIs a ha
  have bk := back_eq (a := a)
  have hl : ∀ n, fromI n < W := fun n => (word_facts (decide (n < 0)) (rung_le_inf n.natAbs 0)).2.2
  generalize isW a = o at *
  generalize toI a = r at *
  obtain ⟨m, b⟩ := r
  dsimp only at *
  cases b
  · clear bk hl ha
    generalize (a : Int) = x at *
    go_enter Try.func4, Try.ntmps4
    go_wp2_with fail
    refine (p.at _).mono ?_; rintro e w1 ⟨rfl, hb1⟩
    go_wp2_with fail
    refine (q.at _).mono ?_; rintro e w2 ⟨rfl, hb2⟩
    go_wp2_with fail
    refine (i.at _).mono ?_; rintro e w3 ⟨rfl, hb3⟩
    go_wp2_with fail
    refine (j.at _).mono ?_; rintro e w4 ⟨rfl, hb4⟩
    go_wp2_with fail
    refine (ans_lives.at _).mono ?_; rintro e w5 ⟨rfl, hb5⟩
    go_wp2_with fail
    go_ret
    exact ⟨rfl, (bthen hb1 (bthen hb2 (bthen hb3 (bthen hb4 hb5))))⟩
  · have f := ans_FromInt m
    have e := ans_refEqual (fromI m) a (hl m) ha
    rw [bk rfl] at e
    clear bk hl ha
    generalize ((fromI m : Nat) : Int) = z at *
    generalize (a : Int) = x at *
    go_enter Try.func4, Try.ntmps4
    go_wp2_with fail
    refine (p.at _).mono ?_; rintro e w1 ⟨rfl, hb1⟩
    go_wp2_with fail
    refine (q.at _).mono ?_; rintro e w2 ⟨rfl, hb2⟩
    go_wp2_with fail
    refine (i.at _).mono ?_; rintro e w3 ⟨rfl, hb3⟩
    go_wp2_with fail
    refine (j.at _).mono ?_; rintro e w4 ⟨rfl, hb4⟩
    go_wp2_with fail
    refine (f.at _).mono ?_; rintro e w5 ⟨rfl, hb5⟩
    go_wp2_with fail
    refine (e.at _).mono ?_; rintro e w6 ⟨rfl, hb6⟩
    go_wp2_with fail
    refine (ans_lives.at _).mono ?_; rintro e w7 ⟨rfl, hb7⟩
    go_wp2_with fail
    go_ret
    exact ⟨rfl, (bthen hb1 (bthen hb2 (bthen hb3 (bthen hb4 (bthen hb5 (bthen hb6 hb7))))))⟩
end Go.Proofs.Yteaegggncmhhnaa.Ans
