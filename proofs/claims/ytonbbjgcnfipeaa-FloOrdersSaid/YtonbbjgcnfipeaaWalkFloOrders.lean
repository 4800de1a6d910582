/- FloOrders: how numbers are compared, with noughts, infinities and NaNs, and what is without its sign. Conditions: the arguments are words of 64 bits. -/
import Derived.Test.YtonbbjgcnfipeaaAnswers
namespace Go.Proofs.Ytonbbjgcnfipeaa.Ans
open Go Go.RowKit Go.Proofs.Ytonbbjgcnfipeaa.Num Go.Proofs.Ytonbbjgcnfipeaa.Fl Go.Proofs.Ytonbbjgcnfipeaa.Dig Go.Proofs.Ytonbbjgcnfipeaa.Float

theorem abs_num {a : Nat} (h : rg a ≤ INF) : absW a = rg a := by unfold absW; rw [Float.canon_num h]
theorem abs_nan {a : Nat} (h : INF < rg a) : absW a = Dig.NANW := by
  unfold absW; rw [Float.canon_nan h, show Float.NANW = Dig.NANW from rfl, nanw_facts.1]; rfl
theorem walk_FloOrders_nan (a b : Nat) (ha : a < W) (hb : b < W) (h : INF < rg a) : Ans 10 #[.int .u64 a, .int .u64 b] (.bool true) := by
  intro w
  have l1 := ans_Less a b
  have l2 := ans_refLess a b ha hb
  have e1 := ans_Equal a b
  have e2 := ans_refEqual a b ha hb
  have b1 := ans_Before a b ha hb
  have b2 := ans_refBefore a b ha hb
  have k := ans_refKind a ha
  have n := ans_Neg a ha
  have s := ans_Abs a ha
  rw [(nan_kind a).2 h] at k
  rw [neg_nan h] at n
  rw [abs_nan h] at s
  have K : Ans 20 #[.int .u64 a] (.int .i64 4) := k
  have N : Ans 15 #[.int .u64 a] (.int .u64 9221120237041090560) := n
  have S : Ans 17 #[.int .u64 a] (.int .u64 9221120237041090560) := s
  clear k n s ha hb h
  generalize lessB a b = tl at *
  generalize eqB a b = te at *
  generalize beforeB a b = tb at *
  generalize (a : Int) = x at *
  generalize (b : Int) = y at *
  go_enter Try.func10, Try.ntmps10
  go_wp2_with fail
  refine (l1.at _).mono ?_; rintro e w1 ⟨rfl, hb1⟩
  go_wp2_with fail
  refine (l2.at _).mono ?_; rintro e w2 ⟨rfl, hb2⟩
  go_wp2_with fail
  refine (e1.at _).mono ?_; rintro e w3 ⟨rfl, hb3⟩
  go_wp2_with fail
  refine (e2.at _).mono ?_; rintro e w4 ⟨rfl, hb4⟩
  go_wp2_with fail
  refine (b1.at _).mono ?_; rintro e w5 ⟨rfl, hb5⟩
  go_wp2_with fail
  refine (b2.at _).mono ?_; rintro e w6 ⟨rfl, hb6⟩
  go_wp2_with fail
  refine (K.at _).mono ?_; rintro e w7 ⟨rfl, hb7⟩
  go_wp2_with fail
  refine (N.at _).mono ?_; rintro e w8 ⟨rfl, hb8⟩
  go_wp2_with fail
  refine (ans_refNan.at _).mono ?_; rintro e w9 ⟨rfl, hb9⟩
  go_wp2_with fail
  refine (S.at _).mono ?_; rintro e w10 ⟨rfl, hb10⟩
  go_wp2_with fail
  refine (ans_refNan.at _).mono ?_; rintro e w11 ⟨rfl, hb11⟩
  go_wp2_with fail
  refine (ans_lives.at _).mono ?_; rintro e w12 ⟨rfl, hb12⟩
  go_wp2_with fail
  go_ret
  exact ⟨rfl, (bthen hb1 (bthen hb2 (bthen hb3 (bthen hb4 (bthen hb5 (bthen hb6 (bthen hb7 (bthen hb8 (bthen hb9 (bthen hb10 (bthen hb11 hb12)))))))))))⟩
theorem walk_FloOrders_num (a b : Nat) (ha : a < W) (hb : b < W) (h : rg a ≤ INF) : Ans 10 #[.int .u64 a, .int .u64 b] (.bool true) := by
  intro w
  have l1 := ans_Less a b
  have l2 := ans_refLess a b ha hb
  have e1 := ans_Equal a b
  have e2 := ans_refEqual a b ha hb
  have b1 := ans_Before a b ha hb
  have b2 := ans_refBefore a b ha hb
  have k := ans_refKind a ha
  have n := ans_Neg a ha
  have s := ans_Abs a ha
  rw [neg_num h] at n
  rw [abs_num h] at s
  have hx := flip_xor a ha
  have hy := andNot_top a ha
  have hk : kindN a ≠ 4 := not_nan_of_le h
  generalize lessB a b = tl at *
  generalize eqB a b = te at *
  generalize beforeB a b = tb at *
  generalize kindN a = kk at *
  have c4 : ((kk : Int) == 4) = false := beq_eq_false_iff_ne.2 (by omega)
  clear ha hb h hk
  generalize ((flipW a : Nat) : Int) = fl at *
  generalize ((rg a : Nat) : Int) = rr at *
  generalize (a : Int) = x at *
  generalize (b : Int) = y at *
  go_enter Try.func10, Try.ntmps10
  go_wp2_with fail
  refine (l1.at _).mono ?_; rintro e w1 ⟨rfl, hb1⟩
  go_wp2_with fail
  refine (l2.at _).mono ?_; rintro e w2 ⟨rfl, hb2⟩
  go_wp2_with fail
  refine (e1.at _).mono ?_; rintro e w3 ⟨rfl, hb3⟩
  go_wp2_with fail
  refine (e2.at _).mono ?_; rintro e w4 ⟨rfl, hb4⟩
  go_wp2_with fail
  refine (b1.at _).mono ?_; rintro e w5 ⟨rfl, hb5⟩
  go_wp2_with fail
  refine (b2.at _).mono ?_; rintro e w6 ⟨rfl, hb6⟩
  go_wp2_with fail
  refine (k.at _).mono ?_; rintro e w7 ⟨rfl, hb7⟩
  go_wp2_with fail
  refine (n.at _).mono ?_; rintro e w8 ⟨rfl, hb8⟩
  go_wp2_with fail
  refine (s.at _).mono ?_; rintro e w9 ⟨rfl, hb9⟩
  go_wp2_with fail
  refine (ans_lives.at _).mono ?_; rintro e w10 ⟨rfl, hb10⟩
  go_wp2_with fail
  go_ret
  exact ⟨rfl, (bthen hb1 (bthen hb2 (bthen hb3 (bthen hb4 (bthen hb5 (bthen hb6 (bthen hb7 (bthen hb8 (bthen hb9 hb10)))))))))⟩
theorem row_FloOrders (a0 a1 : Int) (w : World) (w0 : (Lit.int .u64 a0).wf = true) (w1 : (Lit.int .u64 a1).wf = true) :
    Calls Try.prog 10 #[.int .u64 a0, .int .u64 a1] w fun e w' => e = .returned (.bool true) ∧ Below w.heap.size w w' := by
  obtain ⟨a, rfl, ha⟩ := wf_u64 w0
  obtain ⟨b, rfl, hb⟩ := wf_u64 w1
  rcases Nat.lt_or_ge INF (rg a) with h | h
  · exact walk_FloOrders_nan a b ha hb h w
  · exact walk_FloOrders_num a b ha hb h w
end Go.Proofs.Ytonbbjgcnfipeaa.Ans
