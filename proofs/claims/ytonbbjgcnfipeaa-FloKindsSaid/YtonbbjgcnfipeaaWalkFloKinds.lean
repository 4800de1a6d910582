/- FloKinds: what kind each number is of, what its parts are, and that these make it again. Conditions: the argument is a word of 64 bits. -/
import Derived.Test.YtonbbjgcnfipeaaAnswers
namespace Go.Proofs.Ytonbbjgcnfipeaa.Ans
open Go Go.RowKit Go.Proofs.Ytonbbjgcnfipeaa.Ref Go.Proofs.YtonbbjgcnfipeaaW.PrintWords Go.Proofs.Ytonbbjgcnfipeaa.Num Go.Proofs.Ytonbbjgcnfipeaa.Fl Go.Proofs.Ytonbbjgcnfipeaa.Dig Go.Proofs.Ytonbbjgcnfipeaa.Float

theorem top_is (a : Nat) (h : a < W) : (((a : Int) / 9223372036854775808) == 1) = sg a := by
  have := neg_is a h
  unfold minstrelref01_Neg.f at this
  exact Option.some.inj this
theorem or_52 (r : Nat) (h : r < 4503599627370496) : Go.bits .or .u64 (r : Int) 4503599627370496 = ((r + 4503599627370496 : Nat) : Int) := by
  rw [show (4503599627370496 : Int) = ((4503599627370496 : Nat) : Int) from rfl, or_nat _ _ (by omega) (by decide), Nat.or_comm]
  have h1 := Nat.two_pow_add_eq_or_of_lt (i := 52) (b := r) (by rw [c52]; exact h) 1
  rw [Nat.mul_one, c52] at h1
  rw [← h1, Nat.add_comm]
theorem ans_Parts (a : Nat) (ha : a < W) : Ans 21 #[.int .u64 a] (.tuple #[.bool (sg a), .int .i64 (expN a), .int .u64 (fracN a)]) := by
  intro w
  have k := ans_kind a ha
  have hs := top_is a ha
  have hf := field_frac a ha
  have he := field_exp a ha
  have hr := rg_lt a
  have hI := cINF
  have ho := or_52 (rg a % 4503599627370496) (Nat.mod_lt _ (by decide))
  generalize sg a = s at *
  rcases ef_cases a with ⟨h1, h2, x1, x2, _⟩ | ⟨hk, x1, x2, h3, h4⟩ | ⟨hk, x1, x2, h3, h4⟩
  · rw [x1, x2]
    generalize kindN a = kk at *
    have g1 : ((kk : Int) == 1) = false := beq_eq_false_iff_ne.2 (by omega)
    have g2 : ((kk : Int) == 2) = false := beq_eq_false_iff_ne.2 (by omega)
    clear h1 h2 x1 x2 he ho hr hI ha
    generalize ((rg a % 4503599627370496 : Nat) : Int) = fr at *
    generalize (a : Int) = x at *
    go_enter Try.func21, Try.ntmps21
    go_wp2_with fail
    refine (k.at _).mono ?_; rintro e w1 ⟨rfl, hb1⟩
    go_wp2_with fail
    go_ret3
    exact ⟨rfl, hb1⟩
  · rw [x1, x2]
    rw [hk] at k
    rw [Nat.mod_eq_of_lt h4] at hf
    clear x1 x2 he ho hr hI ha hk h3 h4
    generalize ((rg a : Nat) : Int) = fr at *
    generalize (a : Int) = x at *
    go_enter Try.func21, Try.ntmps21
    go_wp2_with fail
    refine (k.at _).mono ?_; rintro e w1 ⟨rfl, hb1⟩
    go_wp2_with fail
    go_ret3
    exact ⟨rfl, hb1⟩
  · rw [x1, x2]
    rw [hk] at k
    have q0 : 0 ≤ ((rg a / 4503599627370496 : Nat) : Int) := Int.natCast_nonneg _
    have q1 : ((rg a / 4503599627370496 : Nat) : Int) < 2048 := by omega
    clear x1 x2 hr hI ha hk h3 h4
    generalize ((rg a / 4503599627370496 : Nat) : Int) = ex at *
    generalize ((rg a % 4503599627370496 + 4503599627370496 : Nat) : Int) = fo at *
    generalize ((rg a % 4503599627370496 : Nat) : Int) = fr at *
    generalize (a : Int) = x at *
    go_enter Try.func21, Try.ntmps21
    go_wp2_with fail
    refine (k.at _).mono ?_; rintro e w1 ⟨rfl, hb1⟩
    go_wp2_with fail
    go_ret3
    exact ⟨rfl, hb1⟩
theorem refCanon_is (a : Nat) (ha : a < W) : Ev (fun k => minstrelref01_Canon.f k (a : Int)) ((canonW a : Nat) : Int) := by
  obtain ⟨K, p⟩ := kind_is a ha
  refine ⟨K, fun k hk => ?_⟩
  have h : minstrelref01_Kind.f k (a : Int) = some ((kindN a : Nat) : Int) := p k hk
  show minstrelref01_Canon.f k (a : Int) = _
  unfold minstrelref01_Canon.f
  rw [h, Option.bind_some, nan_is, Option.bind_some]
  rcases Nat.lt_or_ge INF (rg a) with n | n
  · have h4 := (nan_kind a).2 n
    rw [if_pos (by omega), Float.canon_nan n]; rfl
  · have h4 := not_nan_of_le n
    rw [if_neg (by omega), Float.canon_num n]
theorem ans_refCanon (a : Nat) (ha : a < W) : Ans 23 #[.int .u64 a] (.int .u64 (canonW a)) := fun w => let ⟨k, hk⟩ := Ev.rounds (refCanon_is a ha); (minstrelref01_Canon.calls k _ _ w hk).mono fun _ _ ⟨h, hd⟩ => ⟨h, hd.below⟩
theorem make_again (a : Nat) (ha : a < W) (h : rg a < INF) : makeW (sg a) (expN a) (fracN a) false = a := by
  unfold makeW
  have e := exp_range a
  rw [rung_twice, rung_at (fracN a) (expN a) (-1074) e.1, show expN a - -1074 = expN a + 1074 by omega, frac_V a h, rung_V _ (Nat.le_of_lt h)]
  exact (word_split a ha).symm
theorem walk_FloKinds_fin (a : Nat) (ha : a < W) (h : kindN a < 3) : Ans 9 #[.int .u64 a] (.bool true) := by
  intro w
  have k1 := ans_refKind a ha
  have p1 := ans_Parts a ha
  have p2 := ans_refParts a ha
  have k2 := ans_Kind a ha
  have c1 := ans_Canon a
  have c2 := ans_refCanon a ha
  have m := ans_Make (sg a) (expN a) (fracN a) false (by have := frac_lt a; unfold W; omega)
  rw [make_again a ha ((fin_kind a).1 h)] at m
  clear ha
  generalize ((fracN a : Nat) : Int) = f at *
  generalize expN a = e at *
  generalize sg a = s at *
  generalize ((canonW a : Nat) : Int) = cc at *
  generalize kindN a = kk at *
  have g : decide (3 ≤ (kk : Int)) = false := decide_eq_false (by omega)
  clear h
  generalize (a : Int) = x at *
  go_enter Try.func9, Try.ntmps9
  go_wp2_with fail
  refine (k1.at _).mono ?_; rintro e w1 ⟨rfl, hb1⟩
  go_wp2_with fail
  refine (p1.at _).mono ?_; rintro e w2 ⟨rfl, hb2⟩
  go_wp2_with fail
  refine (p2.at _).mono ?_; rintro e w3 ⟨rfl, hb3⟩
  go_wp2_with fail
  refine (k2.at _).mono ?_; rintro e w4 ⟨rfl, hb4⟩
  go_wp2_with fail
  refine (c1.at _).mono ?_; rintro e w5 ⟨rfl, hb5⟩
  go_wp2_with fail
  refine (c2.at _).mono ?_; rintro e w6 ⟨rfl, hb6⟩
  go_wp2_with fail
  refine (m.at _).mono ?_; rintro e w7 ⟨rfl, hb7⟩
  go_wp2_with fail
  refine (ans_lives.at _).mono ?_; rintro e w8 ⟨rfl, hb8⟩
  go_wp2_with fail
  go_ret
  exact ⟨rfl, (bthen hb1 (bthen hb2 (bthen hb3 (bthen hb4 (bthen hb5 (bthen hb6 (bthen hb7 hb8)))))))⟩
theorem walk_FloKinds_far (a : Nat) (ha : a < W) (h : 3 ≤ kindN a) : Ans 9 #[.int .u64 a] (.bool true) := by
  intro w
  have k1 := ans_refKind a ha
  have p1 := ans_Parts a ha
  have p2 := ans_refParts a ha
  have k2 := ans_Kind a ha
  have c1 := ans_Canon a
  have c2 := ans_refCanon a ha
  clear ha
  generalize ((fracN a : Nat) : Int) = f at *
  generalize expN a = e at *
  generalize sg a = s at *
  generalize ((canonW a : Nat) : Int) = cc at *
  generalize kindN a = kk at *
  have g : decide (3 ≤ (kk : Int)) = true := decide_eq_true (by omega)
  clear h
  generalize (a : Int) = x at *
  go_enter Try.func9, Try.ntmps9
  go_wp2_with fail
  refine (k1.at _).mono ?_; rintro e w1 ⟨rfl, hb1⟩
  go_wp2_with fail
  refine (p1.at _).mono ?_; rintro e w2 ⟨rfl, hb2⟩
  go_wp2_with fail
  refine (p2.at _).mono ?_; rintro e w3 ⟨rfl, hb3⟩
  go_wp2_with fail
  refine (k2.at _).mono ?_; rintro e w4 ⟨rfl, hb4⟩
  go_wp2_with fail
  refine (c1.at _).mono ?_; rintro e w5 ⟨rfl, hb5⟩
  go_wp2_with fail
  refine (c2.at _).mono ?_; rintro e w6 ⟨rfl, hb6⟩
  go_wp2_with fail
  refine (ans_lives.at _).mono ?_; rintro e w7 ⟨rfl, hb7⟩
  go_wp2_with fail
  go_ret
  exact ⟨rfl, (bthen hb1 (bthen hb2 (bthen hb3 (bthen hb4 (bthen hb5 (bthen hb6 hb7))))))⟩
theorem row_FloKinds (a0 : Int) (w : World) (w0 : (Lit.int .u64 a0).wf = true) :
    Calls Try.prog 9 #[.int .u64 a0] w fun e w' => e = .returned (.bool true) ∧ Below w.heap.size w w' := by
  obtain ⟨a, rfl, ha⟩ := wf_u64 w0
  rcases Nat.lt_or_ge (kindN a) 3 with h | h
  · exact walk_FloKinds_fin a ha h w
  · exact walk_FloKinds_far a ha h w
end Go.Proofs.Ytonbbjgcnfipeaa.Ans
