/- FloSigns: a sign that is turned about twice is as it was, and what is without one is not below 0. Conditions: the argument is a word of 64 bits. -/
import Derived.Test.YtonbbjgcnfipeaaAnswers
namespace Go.Proofs.Ytonbbjgcnfipeaa.Ans
open Go Go.RowKit Go.Proofs.Ytonbbjgcnfipeaa.Num Go.Proofs.Ytonbbjgcnfipeaa.Fl Go.Proofs.Ytonbbjgcnfipeaa.Dig Go.Proofs.Ytonbbjgcnfipeaa.Float

theorem neg_neg (a : Nat) (ha : a < W) : negW (negW a) = canonW a := by
  rcases Nat.lt_or_ge INF (rg a) with h | h
  · rw [neg_nan h, neg_nan nanw_nan, Float.canon_nan h]; rfl
  · obtain ⟨h1, h2, h3⟩ := flip_facts a
    obtain ⟨g1, g2, g3⟩ := flip_facts (flipW a)
    rw [neg_num h, neg_num (by rw [h2]; exact h), Float.canon_num h]
    exact word_ext g3 ha (by rw [g1, h1, Bool.not_not]) (by rw [g2, h2])
theorem abs_neg (a : Nat) : absW (negW a) = absW a := by
  unfold absW
  rcases Nat.lt_or_ge INF (rg a) with h | h
  · rw [neg_nan h, Float.canon_nan h, Float.canon_nan nanw_nan]
  · rw [neg_num h, Float.canon_num h, Float.canon_num (by rw [(flip_facts a).2.1]; exact h), (flip_facts a).2.1]
theorem kind_neg (a : Nat) : kindN (negW a) = kindN a := by
  rcases Nat.lt_or_ge INF (rg a) with h | h
  · rw [neg_nan h, (nan_kind a).2 h]; exact nanw_facts.2.2.2
  · rw [neg_num h]
    unfold kindN; rw [(flip_facts a).2.1]
theorem rg_rg (r : Nat) : rg (rg r) = rg r ∧ sg (rg r) = false := by
  have := sg_word false (rg r) (rg_lt r)
  rw [show sgn false = 0 from rfl, Nat.zero_add] at this
  exact ⟨this.2.1, this.1⟩
theorem abs_least (a : Nat) : lessB (absW a) 0 = false := by
  unfold lessB absW
  rw [decide_eq_false_iff_not]
  intro hh
  have h := hh.2.2
  rw [Vi_nought.1] at h
  unfold Vi sn at h
  rw [(rg_rg (canonW a)).2, if_neg (by simp)] at h
  omega
theorem abs_lt (a : Nat) : absW a < W := by have := rg_lt (canonW a); unfold absW W; omega
theorem walk_FloSigns (a : Nat) (ha : a < W) : Ans 6 #[.int .u64 a] (.bool true) := by
  intro w
  have n1 := ans_Neg a ha
  have n2 := ans_Neg (negW a) (neg_lt a)
  rw [neg_neg a ha] at n2
  have c1 := ans_Canon a
  have a1 := ans_Abs a ha
  have l1 : Ans 14 #[.int .u64 ((absW a : Nat) : Int), .int .u64 0] (.bool (lessB (absW a) 0)) := ans_Less (absW a) 0
  rw [abs_least a] at l1
  have a2 := ans_Abs (negW a) (neg_lt a)
  rw [abs_neg a] at a2
  have k1 := ans_Kind (negW a) (neg_lt a)
  rw [kind_neg a] at k1
  have k2 := ans_Kind a ha
  generalize ((kindN a : Nat) : Int) = kk at *
  generalize ((absW a : Nat) : Int) = ab at *
  generalize ((canonW a : Nat) : Int) = cc at *
  generalize ((negW a : Nat) : Int) = na at *
  generalize (a : Int) = x at *
  go_enter Try.func6, Try.ntmps6
  go_wp2_with fail
  refine (n1.at _).mono ?_; rintro e w1 ⟨rfl, hb1⟩
  go_wp2_with fail
  refine (n2.at _).mono ?_; rintro e w2 ⟨rfl, hb2⟩
  go_wp2_with fail
  refine (c1.at _).mono ?_; rintro e w3 ⟨rfl, hb3⟩
  go_wp2_with fail
  refine (a1.at _).mono ?_; rintro e w4 ⟨rfl, hb4⟩
  go_wp2_with fail
  refine (l1.at _).mono ?_; rintro e w5 ⟨rfl, hb5⟩
  go_wp2_with fail
  refine (n1.at _).mono ?_; rintro e w6 ⟨rfl, hb6⟩
  go_wp2_with fail
  refine (a2.at _).mono ?_; rintro e w7 ⟨rfl, hb7⟩
  go_wp2_with fail
  refine (a1.at _).mono ?_; rintro e w8 ⟨rfl, hb8⟩
  go_wp2_with fail
  refine (n1.at _).mono ?_; rintro e w9 ⟨rfl, hb9⟩
  go_wp2_with fail
  refine (k1.at _).mono ?_; rintro e w10 ⟨rfl, hb10⟩
  go_wp2_with fail
  refine (k2.at _).mono ?_; rintro e w11 ⟨rfl, hb11⟩
  go_wp2_with fail
  refine (ans_lives.at _).mono ?_; rintro e w12 ⟨rfl, hb12⟩
  go_wp2_with fail
  go_ret
  exact ⟨rfl, (bthen hb1 (bthen hb2 (bthen hb3 (bthen hb4 (bthen hb5 (bthen hb6 (bthen hb7 (bthen hb8 (bthen hb9 (bthen hb10 (bthen hb11 hb12)))))))))))⟩
theorem row_FloSigns (a0 : Int) (w : World) (w0 : (Lit.int .u64 a0).wf = true) :
    Calls Try.prog 6 #[.int .u64 a0] w fun e w' => e = .returned (.bool true) ∧ Below w.heap.size w w' := by
  obtain ⟨a, rfl, ha⟩ := wf_u64 w0
  exact walk_FloSigns a ha w
end Go.Proofs.Ytonbbjgcnfipeaa.Ans
