/- FloRises: of two fractions with one exponent the greater one does not make the lesser number. No conditions but the kinds of the arguments. -/
import Derived.Test.YtonbbjgcnfipeaaAnswers
namespace Go.Proofs.Ytonbbjgcnfipeaa.Ans
open Go Go.RowKit Go.Proofs.Ytonbbjgcnfipeaa.Num Go.Proofs.Ytonbbjgcnfipeaa.Fl Go.Proofs.Ytonbbjgcnfipeaa.Dig Go.Proofs.Ytonbbjgcnfipeaa.Float

theorem make_facts (neg : Bool) (exp : Int) (f : Nat) (half : Bool) : sg (makeW neg exp f half) = neg ∧ rg (makeW neg exp f half) = rung (2 * f + half.toNat) (exp - 1) ∧ rg (makeW neg exp f half) ≤ INF ∧ makeW neg exp f half < W := by
  have hi := rung_le_inf (2 * f + half.toNat) (exp - 1)
  have h2 := INF_lt
  have h := sg_word neg (rung (2 * f + half.toNat) (exp - 1)) (by unfold S63 at h2; omega)
  exact ⟨h.1, h.2.1, by unfold makeW; rw [h.2.1]; exact hi, h.2.2⟩
theorem make_rises (exp : Int) {a b : Nat} (h : a ≤ b) : rg (makeW false exp a false) ≤ rg (makeW false exp b false) := by
  rw [(make_facts false exp a false).2.1, (make_facts false exp b false).2.1]
  exact rung_mono_at (Nat.add_le_add_right (Nat.mul_le_mul_left 2 h) _)
theorem not_less_of {x y : Nat} (sx : sg x = false) (sy : sg y = false) (h : rg x ≤ rg y) : lessB y x = false := by
  unfold lessB
  rw [decide_eq_false_iff_not]
  intro hh
  have h1 := hh.2.2
  unfold Vi sn at h1
  rw [sx, sy, if_neg (by simp), if_neg (by simp)] at h1
  have := V_mono h
  omega
theorem not_less_neg {x y : Nat} (sx : sg x = false) (sy : sg y = false) (hx : rg x ≤ INF) (hy : rg y ≤ INF) (h : rg x ≤ rg y) : lessB (negW x) (negW y) = false := by
  unfold lessB
  rw [decide_eq_false_iff_not]
  intro hh
  have h1 := hh.2.2
  rw [neg_num hx, neg_num hy] at h1
  obtain ⟨p1, p2, _⟩ := flip_facts x
  obtain ⟨q1, q2, _⟩ := flip_facts y
  unfold Vi sn at h1
  rw [p1, p2, q1, q2, sx, sy, Bool.not_false, if_pos rfl, if_pos rfl] at h1
  have := V_mono h
  omega
theorem not_before {x y : Nat} (sx : sg x = false) (sy : sg y = false) (hx : rg x ≤ INF) (hy : rg y ≤ INF) (h : rg x ≤ rg y) : beforeB y x = false := by
  unfold beforeB
  rw [decide_eq_false_iff_not, rank_num hx, rank_num hy, sx, sy, if_neg (by simp), if_neg (by simp)]
  omega
theorem core_FloRises (exp : Int) (a b : Nat) (hab : a ≤ b) :
    Ans 14 #[.int .u64 (makeW false exp b false), .int .u64 (makeW false exp a false)] (.bool false) ∧
    Ans 14 #[.int .u64 (negW (makeW false exp a false)), .int .u64 (negW (makeW false exp b false))] (.bool false) ∧
    Ans 19 #[.int .u64 (makeW false exp b false), .int .u64 (makeW false exp a false)] (.bool false) := by
  obtain ⟨sx, _, hx, wx⟩ := make_facts false exp a false
  obtain ⟨sy, _, hy, wy⟩ := make_facts false exp b false
  have h := make_rises exp hab
  have l1 := ans_Less (makeW false exp b false) (makeW false exp a false)
  rw [not_less_of sx sy h] at l1
  have l2 := ans_Less (negW (makeW false exp a false)) (negW (makeW false exp b false))
  rw [not_less_neg sx sy hx hy h] at l2
  have b1 := ans_Before (makeW false exp b false) (makeW false exp a false) wy wx
  rw [not_before sx sy hx hy h] at b1
  exact ⟨l1, l2, b1⟩
theorem walk_FloRises_keep (exp : Int) (a b : Nat) (ha : a < W) (hb : b < W) (hab : a ≤ b) : Ans 8 #[.int .i64 exp, .int .u64 a, .int .u64 b] (.bool true) := by
  intro w
  obtain ⟨l1, l2, b1⟩ := core_FloRises exp a b (by omega)
  have m1 := ans_Make false exp a false (by assumption)
  have m2 := ans_Make false exp b false (by assumption)
  have n1 := ans_Neg (makeW false exp a false) (make_facts _ _ _ _).2.2.2
  have n2 := ans_Neg (makeW false exp b false) (make_facts _ _ _ _).2.2.2
  have hd : decide ((b : Int) < (a : Int)) = false := decide_eq_false (by omega)
  clear ha hb hab
  generalize ((negW (makeW false exp a false) : Nat) : Int) = nx at *
  generalize ((negW (makeW false exp b false) : Nat) : Int) = ny at *
  generalize ((makeW false exp a false : Nat) : Int) = x at *
  generalize ((makeW false exp b false : Nat) : Int) = y at *
  generalize (a : Int) = p at *
  generalize (b : Int) = q at *
  go_enter Try.func8, Try.ntmps8
  go_wp2_with fail
  refine (m1.at _).mono ?_; rintro e w1 ⟨rfl, hb1⟩
  go_wp2_with fail
  refine (m2.at _).mono ?_; rintro e w2 ⟨rfl, hb2⟩
  go_wp2_with fail
  refine (l1.at _).mono ?_; rintro e w3 ⟨rfl, hb3⟩
  go_wp2_with fail
  refine (n1.at _).mono ?_; rintro e w4 ⟨rfl, hb4⟩
  go_wp2_with fail
  refine (n2.at _).mono ?_; rintro e w5 ⟨rfl, hb5⟩
  go_wp2_with fail
  refine (l2.at _).mono ?_; rintro e w6 ⟨rfl, hb6⟩
  go_wp2_with fail
  refine (b1.at _).mono ?_; rintro e w7 ⟨rfl, hb7⟩
  go_wp2_with fail
  refine (ans_lives.at _).mono ?_; rintro e w8 ⟨rfl, hb8⟩
  go_wp2_with fail
  go_ret
  exact ⟨rfl, (bthen hb1 (bthen hb2 (bthen hb3 (bthen hb4 (bthen hb5 (bthen hb6 (bthen hb7 hb8)))))))⟩
theorem walk_FloRises_swap (exp : Int) (a b : Nat) (ha : a < W) (hb : b < W) (hab : b < a) : Ans 8 #[.int .i64 exp, .int .u64 a, .int .u64 b] (.bool true) := by
  intro w
  obtain ⟨l1, l2, b1⟩ := core_FloRises exp b a (by omega)
  have m1 := ans_Make false exp b false (by assumption)
  have m2 := ans_Make false exp a false (by assumption)
  have n1 := ans_Neg (makeW false exp b false) (make_facts _ _ _ _).2.2.2
  have n2 := ans_Neg (makeW false exp a false) (make_facts _ _ _ _).2.2.2
  have hd : decide ((b : Int) < (a : Int)) = true := decide_eq_true (by omega)
  clear ha hb hab
  generalize ((negW (makeW false exp b false) : Nat) : Int) = nx at *
  generalize ((negW (makeW false exp a false) : Nat) : Int) = ny at *
  generalize ((makeW false exp b false : Nat) : Int) = x at *
  generalize ((makeW false exp a false : Nat) : Int) = y at *
  generalize (a : Int) = p at *
  generalize (b : Int) = q at *
  go_enter Try.func8, Try.ntmps8
  go_wp2_with fail
  refine (m1.at _).mono ?_; rintro e w1 ⟨rfl, hb1⟩
  go_wp2_with fail
  refine (m2.at _).mono ?_; rintro e w2 ⟨rfl, hb2⟩
  go_wp2_with fail
  refine (l1.at _).mono ?_; rintro e w3 ⟨rfl, hb3⟩
  go_wp2_with fail
  refine (n1.at _).mono ?_; rintro e w4 ⟨rfl, hb4⟩
  go_wp2_with fail
  refine (n2.at _).mono ?_; rintro e w5 ⟨rfl, hb5⟩
  go_wp2_with fail
  refine (l2.at _).mono ?_; rintro e w6 ⟨rfl, hb6⟩
  go_wp2_with fail
  refine (b1.at _).mono ?_; rintro e w7 ⟨rfl, hb7⟩
  go_wp2_with fail
  refine (ans_lives.at _).mono ?_; rintro e w8 ⟨rfl, hb8⟩
  go_wp2_with fail
  go_ret
  exact ⟨rfl, (bthen hb1 (bthen hb2 (bthen hb3 (bthen hb4 (bthen hb5 (bthen hb6 (bthen hb7 hb8)))))))⟩
theorem row_FloRises (a0 a1 a2 : Int) (w : World) (_ : (Lit.int .i64 a0).wf = true) (w1 : (Lit.int .u64 a1).wf = true) (w2 : (Lit.int .u64 a2).wf = true) :
    Calls Try.prog 8 #[.int .i64 a0, .int .u64 a1, .int .u64 a2] w fun e w' => e = .returned (.bool true) ∧ Below w.heap.size w w' := by
  obtain ⟨a, rfl, ha⟩ := wf_u64 w1
  obtain ⟨b, rfl, hb⟩ := wf_u64 w2
  rcases Nat.lt_or_ge b a with h | h
  · exact walk_FloRises_swap a0 a b ha hb h w
  · exact walk_FloRises_keep a0 a b ha hb h w
end Go.Proofs.Ytonbbjgcnfipeaa.Ans
