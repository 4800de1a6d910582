/- What the document's Kind, Neg, Parts, Less, Equal (minstrelref01) compute, by a word's sign and rung. Condition: the word has 64 bits. -/
import Derived.Test.YtijjofdnkdfccaaDigE
import Derived.Test.YtijjofdnkdfccaaFlC
namespace Go.Proofs.Ytijjofdnkdfccaa.Dig
open Go.RowKit Go.Proofs.Ytijjofdnkdfccaa.Ref Go.Proofs.YtijjofdnkdfccaaW.PrintWords Go.Proofs.YtijjofdnkdfccaaW.PrintLast Go.Proofs.YtijjofdnkdfccaaW.PrintMore
open Go.Proofs.Ytijjofdnkdfccaa.Num Go.Proofs.Ytijjofdnkdfccaa.DigLaw Go.Proofs.Ytijjofdnkdfccaa.Fl

def W : Nat := 18446744073709551616
/-- 0 zero, 1 tiny, 2 plain, 3 infinite, 4 NaN -/
def kindN (a : Nat) : Nat := if INF < rg a then 4 else if rg a = INF then 3 else if rg a = 0 then 0 else if rg a < 2 ^ 52 then 1 else 2
theorem c52 : (2 : Nat) ^ 52 = 4503599627370496 := by decide
theorem c63 : (2 : Nat) ^ 63 = 9223372036854775808 := by decide
theorem cINF : INF = 9218868437227405312 := by unfold INF; decide
theorem field_exp (a : Nat) (h : a < W) : Go.bits .and .u64 ((a : Int) / 4503599627370496) 2047 = ((rg a / 4503599627370496 : Nat) : Int) := by
  unfold W at h
  rw [show (a : Int) / 4503599627370496 = ((a / 4503599627370496 : Nat) : Int) from by omega]
  have := mask_nat (a / 4503599627370496) 11 (by omega) (by decide)
  rw [show ((2 ^ 11 - 1 : Nat) : Int) = 2047 from by decide, show (2 : Nat) ^ 11 = 2048 from by decide] at this
  rw [this]; unfold rg; rw [c63]; omega
theorem field_frac (a : Nat) (h : a < W) : Go.bits .and .u64 (a : Int) 4503599627370495 = ((rg a % 4503599627370496 : Nat) : Int) := by
  unfold W at h
  have := mask_nat a 52 h (by decide)
  rw [show ((2 ^ 52 - 1 : Nat) : Int) = 4503599627370495 from by decide, c52] at this
  rw [this]; unfold rg; rw [c63]; omega
theorem rg_lt (a : Nat) : rg a < 9223372036854775808 := by unfold rg; rw [c63]; exact Nat.mod_lt _ (by decide)
theorem word_split (a : Nat) (h : a < W) : a = sgn (sg a) + rg a := by
  unfold W at h
  unfold sgn sg rg S63
  rw [c63]
  by_cases c : a / 9223372036854775808 % 2 = 1
  · rw [if_pos (by rw [c]; rfl)]; omega
  · rw [if_neg (by rw [beq_iff_eq]; exact c)]; omega
theorem sg_word (s : Bool) (r : Nat) (h : r < 9223372036854775808) : sg (sgn s + r) = s ∧ rg (sgn s + r) = r ∧ sgn s + r < W := by
  unfold sg rg sgn S63 W
  rw [c63]
  cases s
  · rw [if_neg (by simp)]
    refine ⟨?_, by omega, by omega⟩
    rw [beq_eq_false_iff_ne]; omega
  · rw [if_pos rfl]
    refine ⟨?_, by omega, by omega⟩
    rw [beq_iff_eq]; omega
theorem neg_is (a : Nat) (h : a < W) : minstrelref01_Neg.f (a : Int) = some (sg a) := by
  unfold W at h
  unfold minstrelref01_Neg.f sg
  rw [c63]
  congr 1
  by_cases c : a / 9223372036854775808 % 2 = 1
  · rw [beq_iff_eq.2 c, beq_iff_eq]; omega
  · rw [beq_eq_false_iff_ne.2 c, beq_eq_false_iff_ne]; omega
theorem kind_is (a : Nat) (h : a < W) : Ev (fun k => minstrelref01_Kind.f k (a : Int)) ((kindN a : Nat) : Int) := by
  have hr := rg_lt a
  have fe := field_exp a h
  have ff := field_frac a h
  have hI := cINF
  unfold kindN
  rw [c52]
  refine Ev.congr (f := fun k => minstrelref01_Kind.j0 k ((rg a / 4503599627370496 : Nat) : Int) ((rg a % 4503599627370496 : Nat) : Int) (decide (INF < rg a))) (fun k => ?_) ?_
  · unfold minstrelref01_Kind.f
    rw [fe, ff]
    by_cases c : rg a / 4503599627370496 = 2047
    · rw [if_pos (by omega)]
      congr 1
      by_cases z : rg a % 4503599627370496 = 0
      · rw [decide_eq_false (by omega), z]; rfl
      · rw [decide_eq_true (by omega), bne_iff_ne]; omega
    · rw [if_neg (by omega), decide_eq_false (by omega)]
  · by_cases c4 : INF < rg a
    · rw [if_pos c4]
      refine Ev.step (f := fun _ => some 4) (fun k => ?_) (Ev.now _)
      rw [minstrelref01_Kind.j0, decide_eq_true c4, if_pos rfl]
    · rw [if_neg c4]
      by_cases c3 : rg a = INF
      · rw [if_pos c3]
        refine Ev.step (f := fun _ => some 3) (fun k => ?_) (Ev.now _)
        rw [minstrelref01_Kind.j0, decide_eq_false c4, if_neg (by simp), if_pos (by omega)]
      · rw [if_neg c3]
        by_cases c0 : rg a = 0
        · rw [if_pos c0]
          refine Ev.step (f := fun k => minstrelref01_Kind.j1 k ((rg a / 4503599627370496 : Nat) : Int) true) (fun k => ?_) (Ev.step (f := fun _ => some 0) (fun k => ?_) (Ev.now _))
          · rw [minstrelref01_Kind.j0, decide_eq_false c4, if_neg (by simp), if_neg (by omega), if_pos (by omega), c0]; rfl
          · rw [minstrelref01_Kind.j1, if_pos rfl]
        · rw [if_neg c0]
          by_cases c1 : rg a < 4503599627370496
          · rw [if_pos c1]
            refine Ev.step (f := fun k => minstrelref01_Kind.j1 k ((rg a / 4503599627370496 : Nat) : Int) false) (fun k => ?_) (Ev.step (f := fun _ => some 1) (fun k => ?_) (Ev.now _))
            · rw [minstrelref01_Kind.j0, decide_eq_false c4, if_neg (by simp), if_neg (by omega), if_pos (by omega), beq_eq_false_iff_ne.2 (by omega)]
            · rw [minstrelref01_Kind.j1, if_neg (by simp), if_pos (by omega)]
          · rw [if_neg c1]
            refine Ev.step (f := fun k => minstrelref01_Kind.j1 k ((rg a / 4503599627370496 : Nat) : Int) false) (fun k => ?_) (Ev.step (f := fun _ => some 2) (fun k => ?_) (Ev.now _))
            · rw [minstrelref01_Kind.j0, decide_eq_false c4, if_neg (by simp), if_neg (by omega), if_neg (by omega)]
            · rw [minstrelref01_Kind.j1, if_neg (by simp), if_neg (by omega)]
/-- a word's exponent and fraction -/
def expN (a : Nat) : Int := if kindN a = 1 then -1074 else if kindN a = 2 then ((rg a / 4503599627370496 : Nat) : Int) - 1075 else 0
def fracN (a : Nat) : Nat := if kindN a = 1 then rg a else if kindN a = 2 then rg a % 4503599627370496 + 4503599627370496 else 0
theorem kind_facts (a : Nat) : (kindN a = 4 ∧ INF < rg a) ∨ (kindN a = 3 ∧ rg a = INF) ∨ (kindN a = 0 ∧ rg a = 0) ∨ (kindN a = 1 ∧ 0 < rg a ∧ rg a < 4503599627370496) ∨ (kindN a = 2 ∧ 4503599627370496 ≤ rg a ∧ rg a < INF) := by
  unfold kindN
  rw [c52]
  by_cases c4 : INF < rg a
  · left; exact ⟨if_pos c4, c4⟩
  · rw [if_neg c4]
    by_cases c3 : rg a = INF
    · right; left; exact ⟨if_pos c3, c3⟩
    · rw [if_neg c3]
      by_cases c0 : rg a = 0
      · right; right; left; exact ⟨if_pos c0, c0⟩
      · rw [if_neg c0]
        by_cases c1 : rg a < 4503599627370496
        · right; right; right; left; exact ⟨if_pos c1, by omega, c1⟩
        · right; right; right; right; exact ⟨if_neg c1, by omega, by omega⟩
theorem ef_other (a : Nat) (h1 : kindN a ≠ 1) (h2 : kindN a ≠ 2) : expN a = 0 ∧ fracN a = 0 := by
  unfold expN fracN; rw [if_neg h1, if_neg h2, if_neg h1, if_neg h2]; exact ⟨rfl, rfl⟩
theorem ef_tiny (a : Nat) (h : kindN a = 1) : expN a = -1074 ∧ fracN a = rg a := by
  unfold expN fracN; rw [if_pos h, if_pos h]; exact ⟨rfl, rfl⟩
theorem ef_plain (a : Nat) (h : kindN a = 2) : expN a = ((rg a / 4503599627370496 : Nat) : Int) - 1075 ∧ fracN a = rg a % 4503599627370496 + 4503599627370496 := by
  have h1 : kindN a ≠ 1 := by rw [h]; decide
  unfold expN fracN; rw [if_neg h1, if_pos h, if_neg h1, if_pos h]; exact ⟨rfl, rfl⟩
/-- the five kinds: parts and rungs -/
theorem ef_cases (a : Nat) : (kindN a ≠ 1 ∧ kindN a ≠ 2 ∧ expN a = 0 ∧ fracN a = 0 ∧ (rg a = 0 ∨ INF ≤ rg a)) ∨ (kindN a = 1 ∧ expN a = -1074 ∧ fracN a = rg a ∧ 0 < rg a ∧ rg a < 4503599627370496) ∨ (kindN a = 2 ∧ expN a = ((rg a / 4503599627370496 : Nat) : Int) - 1075 ∧ fracN a = rg a % 4503599627370496 + 4503599627370496 ∧ 4503599627370496 ≤ rg a ∧ rg a < INF) := by
  rcases kind_facts a with ⟨hk, hf⟩ | ⟨hk, hf⟩ | ⟨hk, hf⟩ | ⟨hk, hf⟩ | ⟨hk, hf⟩
  · left
    have h1 : kindN a ≠ 1 := by rw [hk]; decide
    have h2 : kindN a ≠ 2 := by rw [hk]; decide
    exact ⟨h1, h2, (ef_other a h1 h2).1, (ef_other a h1 h2).2, Or.inr (Nat.le_of_lt hf)⟩
  · left
    have h1 : kindN a ≠ 1 := by rw [hk]; decide
    have h2 : kindN a ≠ 2 := by rw [hk]; decide
    exact ⟨h1, h2, (ef_other a h1 h2).1, (ef_other a h1 h2).2, Or.inr (Nat.le_of_eq hf.symm)⟩
  · left
    have h1 : kindN a ≠ 1 := by rw [hk]; decide
    have h2 : kindN a ≠ 2 := by rw [hk]; decide
    exact ⟨h1, h2, (ef_other a h1 h2).1, (ef_other a h1 h2).2, Or.inl hf⟩
  · right; left; exact ⟨hk, (ef_tiny a hk).1, (ef_tiny a hk).2, hf.1, hf.2⟩
  · right; right; exact ⟨hk, (ef_plain a hk).1, (ef_plain a hk).2, hf.1, hf.2⟩
theorem frac_lt (a : Nat) : fracN a < 9007199254740992 := by
  rcases ef_cases a with ⟨h1, h2, he, hf, _⟩ | ⟨hk, he, hf, h3, h4⟩ | ⟨hk, he, hf, h3, h4⟩
  · rw [hf]; decide
  · rw [hf]; omega
  · rw [hf]; omega
theorem exp_range (a : Nat) : -1074 ≤ expN a ∧ expN a ≤ 971 := by
  have hI := cINF
  rcases ef_cases a with ⟨h1, h2, he, hf, _⟩ | ⟨hk, he, hf, h3, h4⟩ | ⟨hk, he, hf, h3, h4⟩
  · rw [he]; omega
  · rw [he]; omega
  · rw [he]; omega
/-- a finite word's parts make its number -/
theorem frac_V (a : Nat) (hfin : rg a < INF) : fracN a * 2 ^ (expN a + 1074).toNat = V (rg a) := by
  rcases ef_cases a with ⟨h1, h2, he, hf, h0⟩ | ⟨hk, he, hf, h3, h4⟩ | ⟨hk, he, hf, h3, h4⟩
  · have hr : rg a = 0 := by omega
    rw [hf, hr, Nat.zero_mul, V_small (by rw [c52]; decide)]
  · rw [he, hf, V_small (by rw [c52]; exact h4), show ((-1074 : Int) + 1074).toNat = 0 from rfl, Nat.pow_zero, Nat.mul_one]
  · rw [he, hf]
    unfold V
    rw [c52, if_neg (by omega), Nat.add_comm 4503599627370496]
    congr 2; omega
end Go.Proofs.Ytijjofdnkdfccaa.Dig
