/- The walk of SumRises: it answers true. Conditions: the arguments are words of 64 bits. -/
import Derived.Test.YtknpffoglcogeaaAnswers
namespace Go.Proofs.Ytknpffoglcogeaa.Ans
open Go Go.RowKit Go.Proofs.Ytknpffoglcogeaa.Num Go.Proofs.Ytknpffoglcogeaa.Fl Go.Proofs.Ytknpffoglcogeaa.Dig

theorem walk_SumRises_a (a b c : Nat) (ha : a < W) (hb : b < W) (hc : c < W) (h : 3 ≤ kindN a) : Ans 5 #[.int .u64 a, .int .u64 b, .int .u64 c] (.bool true) := by
  intro w
  have ka := ans_refKind a ha
  have kb := ans_refKind b hb
  have kc := ans_refKind c hc
  clear ha hb hc
  generalize kindN a = na at *
  generalize kindN b = nb at *
  generalize kindN c = nc at *
  generalize (a : Int) = x at *
  generalize (b : Int) = y at *
  generalize (c : Int) = z at *
  have h1 : decide (3 ≤ (na : Int)) = true := decide_eq_true (by omega)
  clear h
  go_enter Try.func5, Try.ntmps5
  go_wp2_with fail
  refine (ka.at _).mono ?_; rintro e w1 ⟨rfl, hb1⟩
  go_wp2_with fail
  refine (ans_lives.at _).mono ?_; rintro e w2 ⟨rfl, hb2⟩
  go_wp2_with fail
  go_ret
  exact ⟨rfl, (bthen hb1 hb2)⟩
theorem walk_SumRises_b (a b c : Nat) (ha : a < W) (hb : b < W) (hc : c < W) (h0 : ¬ 3 ≤ kindN a) (h : 3 ≤ kindN b) : Ans 5 #[.int .u64 a, .int .u64 b, .int .u64 c] (.bool true) := by
  intro w
  have ka := ans_refKind a ha
  have kb := ans_refKind b hb
  have kc := ans_refKind c hc
  clear ha hb hc
  generalize kindN a = na at *
  generalize kindN b = nb at *
  generalize kindN c = nc at *
  generalize (a : Int) = x at *
  generalize (b : Int) = y at *
  generalize (c : Int) = z at *
  have h1 : decide (3 ≤ (na : Int)) = false := decide_eq_false (by omega)
  have h2 : decide (3 ≤ (nb : Int)) = true := decide_eq_true (by omega)
  clear h h0
  go_enter Try.func5, Try.ntmps5
  go_wp2_with fail
  refine (ka.at _).mono ?_; rintro e w1 ⟨rfl, hb1⟩
  go_wp2_with fail
  refine (kb.at _).mono ?_; rintro e w2 ⟨rfl, hb2⟩
  go_wp2_with fail
  refine (ans_lives.at _).mono ?_; rintro e w3 ⟨rfl, hb3⟩
  go_wp2_with fail
  go_ret
  exact ⟨rfl, (bthen hb1 (bthen hb2 hb3))⟩
theorem walk_SumRises_c (a b c : Nat) (ha : a < W) (hb : b < W) (hc : c < W) (h0 : ¬ 3 ≤ kindN a) (h1 : ¬ 3 ≤ kindN b) (h : 3 ≤ kindN c) : Ans 5 #[.int .u64 a, .int .u64 b, .int .u64 c] (.bool true) := by
  intro w
  have ka := ans_refKind a ha
  have kb := ans_refKind b hb
  have kc := ans_refKind c hc
  clear ha hb hc
  generalize kindN a = na at *
  generalize kindN b = nb at *
  generalize kindN c = nc at *
  generalize (a : Int) = x at *
  generalize (b : Int) = y at *
  generalize (c : Int) = z at *
  have g1 : decide (3 ≤ (na : Int)) = false := decide_eq_false (by omega)
  have g2 : decide (3 ≤ (nb : Int)) = false := decide_eq_false (by omega)
  have g3 : decide (3 ≤ (nc : Int)) = true := decide_eq_true (by omega)
  clear h h0 h1
  go_enter Try.func5, Try.ntmps5
  go_wp2_with fail
  refine (ka.at _).mono ?_; rintro e w1 ⟨rfl, hb1⟩
  go_wp2_with fail
  refine (kb.at _).mono ?_; rintro e w2 ⟨rfl, hb2⟩
  go_wp2_with fail
  refine (kc.at _).mono ?_; rintro e w3 ⟨rfl, hb3⟩
  go_wp2_with fail
  refine (ans_lives.at _).mono ?_; rintro e w4 ⟨rfl, hb4⟩
  go_wp2_with fail
  go_ret
  exact ⟨rfl, (bthen hb1 (bthen hb2 (bthen hb3 hb4)))⟩
theorem walk_SumRises_keep (a b c : Nat) (ha : a < W) (hb : b < W) (hc : c < W) (h0 : ¬ 3 ≤ kindN a) (h1 : ¬ 3 ≤ kindN b) (h : ¬ 3 ≤ kindN c) (ht : lessB b a = false) : Ans 5 #[.int .u64 a, .int .u64 b, .int .u64 c] (.bool true) := by
  intro w
  have fa : rg a < INF := (fin_kind a).1 (by omega)
  have fb : rg b < INF := (fin_kind b).1 (by omega)
  have fc : rg c < INF := (fin_kind c).1 (by omega)
  have ka := ans_refKind a ha
  have kb := ans_refKind b hb
  have kc := ans_refKind c hc
  have hl := ans_refLess b a hb ha
  rw [ht] at hl
  have hV : Vi a ≤ Vi b := by
    unfold lessB at ht
    rw [decide_eq_false_iff_not] at ht
    omega
  have a1 := ans_Add b c
  have a2 := ans_Add a c
  have l1 := ans_refLess (addW b c) (addW a c) (add_lt _ _) (add_lt _ _)
  rw [add_rises fa fb fc hV] at l1
  have m1 := ans_Mul b (rg c)
  have m2 := ans_Mul a (rg c)
  have l2 := ans_refLess (mulW b (rg c)) (mulW a (rg c)) (mul_lt _ _) (mul_lt _ _)
  rw [mul_rises fa fb fc hV] at l2
  have hd := andNot_top c hc
  clear ha hb hc fa fb fc hV ht
  generalize kindN a = na at *
  generalize kindN b = nb at *
  generalize kindN c = nc at *
  have g1 : decide (3 ≤ (na : Int)) = false := decide_eq_false (by omega)
  have g2 : decide (3 ≤ (nb : Int)) = false := decide_eq_false (by omega)
  have g3 : decide (3 ≤ (nc : Int)) = false := decide_eq_false (by omega)
  clear h h0 h1
  generalize ((addW b c : Nat) : Int) = s1 at *
  generalize ((addW a c : Nat) : Int) = s2 at *
  generalize ((mulW b (rg c) : Nat) : Int) = p1 at *
  generalize ((mulW a (rg c) : Nat) : Int) = p2 at *
  generalize ((rg c : Nat) : Int) = d at *
  generalize (a : Int) = x at *
  generalize (b : Int) = y at *
  generalize (c : Int) = z at *
  go_enter Try.func5, Try.ntmps5
  go_wp2_with fail
  refine (ka.at _).mono ?_; rintro e w1 ⟨rfl, hb1⟩
  go_wp2_with fail
  refine (kb.at _).mono ?_; rintro e w2 ⟨rfl, hb2⟩
  go_wp2_with fail
  refine (kc.at _).mono ?_; rintro e w3 ⟨rfl, hb3⟩
  go_wp2_with fail
  refine (hl.at _).mono ?_; rintro e w4 ⟨rfl, hb4⟩
  go_wp2_with fail
  refine (a1.at _).mono ?_; rintro e w5 ⟨rfl, hb5⟩
  go_wp2_with fail
  refine (a2.at _).mono ?_; rintro e w6 ⟨rfl, hb6⟩
  go_wp2_with fail
  refine (l1.at _).mono ?_; rintro e w7 ⟨rfl, hb7⟩
  go_wp2_with fail
  refine (m1.at _).mono ?_; rintro e w8 ⟨rfl, hb8⟩
  go_wp2_with fail
  refine (m2.at _).mono ?_; rintro e w9 ⟨rfl, hb9⟩
  go_wp2_with fail
  refine (l2.at _).mono ?_; rintro e w10 ⟨rfl, hb10⟩
  go_wp2_with fail
  refine (ans_lives.at _).mono ?_; rintro e w11 ⟨rfl, hb11⟩
  go_wp2_with fail
  go_ret
  exact ⟨rfl, (bthen hb1 (bthen hb2 (bthen hb3 (bthen hb4 (bthen hb5 (bthen hb6 (bthen hb7 (bthen hb8 (bthen hb9 (bthen hb10 hb11))))))))))⟩
theorem walk_SumRises_swap (a b c : Nat) (ha : a < W) (hb : b < W) (hc : c < W) (h0 : ¬ 3 ≤ kindN a) (h1 : ¬ 3 ≤ kindN b) (h : ¬ 3 ≤ kindN c) (ht : lessB b a = true) : Ans 5 #[.int .u64 a, .int .u64 b, .int .u64 c] (.bool true) := by
  intro w
  have fa : rg a < INF := (fin_kind a).1 (by omega)
  have fb : rg b < INF := (fin_kind b).1 (by omega)
  have fc : rg c < INF := (fin_kind c).1 (by omega)
  have ka := ans_refKind a ha
  have kb := ans_refKind b hb
  have kc := ans_refKind c hc
  have hl := ans_refLess b a hb ha
  rw [ht] at hl
  have hV : Vi b ≤ Vi a := by
    unfold lessB at ht
    rw [decide_eq_true_eq] at ht
    omega
  have a1 := ans_Add a c
  have a2 := ans_Add b c
  have l1 := ans_refLess (addW a c) (addW b c) (add_lt _ _) (add_lt _ _)
  rw [add_rises fb fa fc hV] at l1
  have m1 := ans_Mul a (rg c)
  have m2 := ans_Mul b (rg c)
  have l2 := ans_refLess (mulW a (rg c)) (mulW b (rg c)) (mul_lt _ _) (mul_lt _ _)
  rw [mul_rises fb fa fc hV] at l2
  have hd := andNot_top c hc
  clear ha hb hc fa fb fc hV ht
  generalize kindN a = na at *
  generalize kindN b = nb at *
  generalize kindN c = nc at *
  have g1 : decide (3 ≤ (na : Int)) = false := decide_eq_false (by omega)
  have g2 : decide (3 ≤ (nb : Int)) = false := decide_eq_false (by omega)
  have g3 : decide (3 ≤ (nc : Int)) = false := decide_eq_false (by omega)
  clear h h0 h1
  generalize ((addW a c : Nat) : Int) = s1 at *
  generalize ((addW b c : Nat) : Int) = s2 at *
  generalize ((mulW a (rg c) : Nat) : Int) = p1 at *
  generalize ((mulW b (rg c) : Nat) : Int) = p2 at *
  generalize ((rg c : Nat) : Int) = d at *
  generalize (a : Int) = x at *
  generalize (b : Int) = y at *
  generalize (c : Int) = z at *
  go_enter Try.func5, Try.ntmps5
  go_wp2_with fail
  refine (ka.at _).mono ?_; rintro e w1 ⟨rfl, hb1⟩
  go_wp2_with fail
  refine (kb.at _).mono ?_; rintro e w2 ⟨rfl, hb2⟩
  go_wp2_with fail
  refine (kc.at _).mono ?_; rintro e w3 ⟨rfl, hb3⟩
  go_wp2_with fail
  refine (hl.at _).mono ?_; rintro e w4 ⟨rfl, hb4⟩
  go_wp2_with fail
  refine (a1.at _).mono ?_; rintro e w5 ⟨rfl, hb5⟩
  go_wp2_with fail
  refine (a2.at _).mono ?_; rintro e w6 ⟨rfl, hb6⟩
  go_wp2_with fail
  refine (l1.at _).mono ?_; rintro e w7 ⟨rfl, hb7⟩
  go_wp2_with fail
  refine (m1.at _).mono ?_; rintro e w8 ⟨rfl, hb8⟩
  go_wp2_with fail
  refine (m2.at _).mono ?_; rintro e w9 ⟨rfl, hb9⟩
  go_wp2_with fail
  refine (l2.at _).mono ?_; rintro e w10 ⟨rfl, hb10⟩
  go_wp2_with fail
  refine (ans_lives.at _).mono ?_; rintro e w11 ⟨rfl, hb11⟩
  go_wp2_with fail
  go_ret
  exact ⟨rfl, (bthen hb1 (bthen hb2 (bthen hb3 (bthen hb4 (bthen hb5 (bthen hb6 (bthen hb7 (bthen hb8 (bthen hb9 (bthen hb10 hb11))))))))))⟩
theorem row_SumRises (a0 a1 a2 : Int) (w : World) (w0 : (Lit.int .u64 a0).wf = true) (w1 : (Lit.int .u64 a1).wf = true) (w2 : (Lit.int .u64 a2).wf = true) :
    Calls Try.prog 5 #[.int .u64 a0, .int .u64 a1, .int .u64 a2] w fun e w' => e = .returned (.bool true) ∧ Below w.heap.size w w' := by
  obtain ⟨a, rfl, ha⟩ := wf_u64 w0
  obtain ⟨b, rfl, hb⟩ := wf_u64 w1
  obtain ⟨c, rfl, hc⟩ := wf_u64 w2
  by_cases h1 : 3 ≤ kindN a
  · exact walk_SumRises_a a b c ha hb hc h1 w
  · by_cases h2 : 3 ≤ kindN b
    · exact walk_SumRises_b a b c ha hb hc h1 h2 w
    · by_cases h3 : 3 ≤ kindN c
      · exact walk_SumRises_c a b c ha hb hc h1 h2 h3 w
      · cases ht : lessB b a
        · exact walk_SumRises_keep a b c ha hb hc h1 h2 h3 ht w
        · exact walk_SumRises_swap a b c ha hb hc h1 h2 h3 ht w
end Go.Proofs.Ytknpffoglcogeaa.Ans
