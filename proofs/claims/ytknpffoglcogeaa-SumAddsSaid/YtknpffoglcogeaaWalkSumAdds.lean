/- The walk of SumAdds: it answers true. Conditions: the arguments are words of 64 bits. -/
import Derived.Test.YtknpffoglcogeaaAnsC
namespace Go.Proofs.Ytknpffoglcogeaa.Ans
open Go Go.RowKit Go.Proofs.Ytknpffoglcogeaa.Num Go.Proofs.Ytknpffoglcogeaa.Fl Go.Proofs.Ytknpffoglcogeaa.Dig

theorem walk_SumAdds (a b : Nat) (ha : a < W) (hb : b < W) : Ans 6 #[.int .u64 a, .int .u64 b] (.bool true) := by
  intro w
  have m1 := ans_Add a b
  have m2 := ans_refAdd a b ha hb
  have m3 := ans_Add b a
  rw [add_comm' b a] at m3
  have m4 := ans_Sub a b
  rw [sub_add] at m4
  have m5 := ans_refSub a b ha hb
  have m6 := ans_refNeg b hb
  have m7 := ans_Sub a (negW b)
  rw [sub_add, add_neg_neg a b hb] at m7
  generalize ((addW a b : Nat) : Int) = p at *
  generalize ((addW a (negW b) : Nat) : Int) = q at *
  generalize ((negW b : Nat) : Int) = nb at *
  generalize (a : Int) = x at *
  generalize (b : Int) = y at *
  go_enter Try.func6, Try.ntmps6
  go_wp2_with fail
  refine (m1.at _).mono ?_; rintro e w1 ⟨rfl, hb1⟩
  go_wp2_with fail
  refine (m2.at _).mono ?_; rintro e w2 ⟨rfl, hb2⟩
  go_wp2_with fail
  refine (m3.at _).mono ?_; rintro e w3 ⟨rfl, hb3⟩
  go_wp2_with fail
  refine (m4.at _).mono ?_; rintro e w4 ⟨rfl, hb4⟩
  go_wp2_with fail
  refine (m5.at _).mono ?_; rintro e w5 ⟨rfl, hb5⟩
  go_wp2_with fail
  refine (m6.at _).mono ?_; rintro e w6 ⟨rfl, hb6⟩
  go_wp2_with fail
  refine (m7.at _).mono ?_; rintro e w7 ⟨rfl, hb7⟩
  go_wp2_with fail
  refine (ans_lives.at _).mono ?_; rintro e w8 ⟨rfl, hb8⟩
  go_wp2_with fail
  go_ret
  exact ⟨rfl, (bthen hb1 (bthen hb2 (bthen hb3 (bthen hb4 (bthen hb5 (bthen hb6 (bthen hb7 hb8)))))))⟩

theorem row_SumAdds (a0 a1 : Int) (w : World) (w0 : (Lit.int .u64 a0).wf = true) (w1 : (Lit.int .u64 a1).wf = true) :
    Calls Try.prog 6 #[.int .u64 a0, .int .u64 a1] w fun e w' => e = .returned (.bool true) ∧ Below w.heap.size w w' := by
  obtain ⟨a, rfl, ha⟩ := wf_u64 w0
  obtain ⟨b, rfl, hb⟩ := wf_u64 w1
  exact walk_SumAdds a b ha hb w
end Go.Proofs.Ytknpffoglcogeaa.Ans
