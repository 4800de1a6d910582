/- The walk of RandUnit: it answers true. Condition: the argument is a word of 64 bits. -/
import Derived.Test.YtijjofdnkdfccaaFloatR
namespace Go.Proofs.Ytijjofdnkdfccaa.Ans
open Go Go.RowKit Go.Proofs.Ytijjofdnkdfccaa.Num Go.Proofs.Ytijjofdnkdfccaa.DigLaw Go.Proofs.Ytijjofdnkdfccaa.Fl Go.Proofs.Ytijjofdnkdfccaa.Dig Go.Proofs.Ytijjofdnkdfccaa.RandLaw

theorem row_RandUnit (a0 : Int) (w : World) (w0 : (Lit.int .u64 a0).wf = true) :
    Calls Try.prog 4 #[.int .u64 a0] w fun e w' => e = .returned (.bool true) ∧ Below w.heap.size w w' := by
  obtain ⟨n, rfl, hn⟩ := wf_u64 w0
  obtain ⟨u1, u2, u3⟩ := unit_facts n
  have p := ans_Unit n
  have q := ans_refUnit n
  have s := ans_refSign _ u2
  have l := ans_refLess _ ONE u2 one_facts.2.2.1
  rw [u1] at s
  rw [u3, show ((ONE : Nat) : Int) = 4607182418800017408 from rfl] at l
  clear u1 u2 u3 w0 hn
  generalize ((rung (top n) (-53) : Nat) : Int) = r at *
  generalize ((stp n : Nat) : Int) = t at *
  generalize (n : Int) = y at *
  go_enter Try.func4, Try.ntmps4
  go_wp2_with fail
  refine (p.at _).mono ?_; rintro e w1 ⟨rfl, hb1⟩
  go_wp2_with fail
  refine (q.at _).mono ?_; rintro e w2 ⟨rfl, hb2⟩
  go_wp2_with fail
  refine (s.at _).mono ?_; rintro e w3 ⟨rfl, hb3⟩
  go_wp2_with fail
  refine (l.at _).mono ?_; rintro e w4 ⟨rfl, hb4⟩
  go_wp2_with fail
  refine (ans_lives.at _).mono ?_; rintro e w5 ⟨rfl, hb5⟩
  go_wp2_with fail
  go_ret
  exact ⟨rfl, bthen hb1 (bthen hb2 (bthen hb3 (bthen hb4 hb5)))⟩
end Go.Proofs.Ytijjofdnkdfccaa.Ans
