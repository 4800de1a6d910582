/- What the document's Kind, Neg, Parts, Less, Equal (minstrelref01) compute, by a word's sign and rung. Condition: the word has 64 bits. -/
import Derived.Test.YtonbbjgcnfipeaaDigits
import Derived.Test.YtonbbjgcnfipeaaPlain
import Derived.Lib.ItoaNum
namespace Go.Proofs.Ytonbbjgcnfipeaa.Dig
open Go.RowKit Go.Proofs.Ytonbbjgcnfipeaa.Ref Go.Proofs.YtonbbjgcnfipeaaW.PrintWords Go.Proofs.YtonbbjgcnfipeaaW.PrintLast Go.Proofs.YtonbbjgcnfipeaaW.PrintMore
open Go.Proofs.Ytonbbjgcnfipeaa.Num Go.Proofs.Ytonbbjgcnfipeaa.DigLaw Go.Proofs.Ytonbbjgcnfipeaa.Fl

def W : Nat := 18446744073709551616
/-- 0 zero, 1 tiny, 2 plain, 3 infinite, 4 NaN -/
def kindN (a : Nat) : Nat := if INF < rg a then 4 else if rg a = INF then 3 else if rg a = 0 then 0 else if rg a < 2 ^ 52 then 1 else 2
theorem c52 : (2 : Nat) ^ 52 = 4503599627370496 := by decide
theorem c63 : (2 : Nat) ^ 63 = 9223372036854775808 := by decide
theorem cINF : INF = 9218868437227405312 := by unfold INF; decide
theorem field_exp (a : Nat) (h : a < W) : Go.bits .and .u64 ((a : Int) / 4503599627370496) 2047 = ((rg a / 4503599627370496 : Nat) : Int) := by
  unfold W at h
  rw [show (a : Int) / 4503599627370496 = ((a / 4503599627370496 : Nat) : Int) from by omega]
  have := mask_nat (a / 4503599627370496) 11 (by omega) (by decide)
  rw [show ((2 ^ 11 - 1 : Nat) : Int) = 2047 from by decide, show (2 : Nat) ^ 11 = 2048 from by decide] at this
  rw [this]; unfold rg; rw [c63]; omega
theorem field_frac (a : Nat) (h : a < W) : Go.bits .and .u64 (a : Int) 4503599627370495 = ((rg a % 4503599627370496 : Nat) : Int) := by
  unfold W at h
  have := mask_nat a 52 h (by decide)
  rw [show ((2 ^ 52 - 1 : Nat) : Int) = 4503599627370495 from by decide, c52] at this
  rw [this]; unfold rg; rw [c63]; omega
theorem rg_lt (a : Nat) : rg a < 9223372036854775808 := by unfold rg; rw [c63]; exact Nat.mod_lt _ (by decide)
theorem word_split (a : Nat) (h : a < W) : a = sgn (sg a) + rg a := by
  unfold W at h
  unfold sgn sg rg S63
  rw [c63]
  by_cases c : a / 9223372036854775808 % 2 = 1
  · rw [if_pos (by rw [c]; rfl)]; omega
  · rw [if_neg (by rw [beq_iff_eq]; exact c)]; omega
theorem sg_word (s : Bool) (r : Nat) (h : r < 9223372036854775808) : sg (sgn s + r) = s ∧ rg (sgn s + r) = r ∧ sgn s + r < W := by
  unfold sg rg sgn S63 W
  rw [c63]
  cases s
  · rw [if_neg (by simp)]
    refine ⟨?_, by omega, by omega⟩
    rw [beq_eq_false_iff_ne]; omega
  · rw [if_pos rfl]
    refine ⟨?_, by omega, by omega⟩
    rw [beq_iff_eq]; omega
theorem neg_is (a : Nat) (h : a < W) : minstrelref01_Neg.f (a : Int) = some (sg a) := by
  unfold W at h
  unfold minstrelref01_Neg.f sg
  rw [c63]
  congr 1
  by_cases c : a / 9223372036854775808 % 2 = 1
  · rw [beq_iff_eq.2 c, beq_iff_eq]; omega
  · rw [beq_eq_false_iff_ne.2 c, beq_eq_false_iff_ne]; omega
theorem kind_is (a : Nat) (h : a < W) : Ev (fun k => minstrelref01_Kind.f k (a : Int)) ((kindN a : Nat) : Int) := by
  have hr := rg_lt a
  have fe := field_exp a h
  have ff := field_frac a h
  have hI := cINF
  unfold kindN
  rw [c52]
  refine Ev.congr (f := fun k => minstrelref01_Kind.j0 k ((rg a / 4503599627370496 : Nat) : Int) ((rg a % 4503599627370496 : Nat) : Int) (decide (INF < rg a))) (fun k => ?_) ?_
  · unfold minstrelref01_Kind.f
    rw [fe, ff]
    by_cases c : rg a / 4503599627370496 = 2047
    · rw [if_pos (by omega)]
      congr 1
      by_cases z : rg a % 4503599627370496 = 0
      · rw [decide_eq_false (by omega), z]; rfl
      · rw [decide_eq_true (by omega), bne_iff_ne]; omega
    · rw [if_neg (by omega), decide_eq_false (by omega)]
  · by_cases c4 : INF < rg a
    · rw [if_pos c4]
      refine Ev.step (f := fun _ => some 4) (fun k => ?_) (Ev.now _)
      rw [minstrelref01_Kind.j0, decide_eq_true c4, if_pos rfl]
    · rw [if_neg c4]
      by_cases c3 : rg a = INF
      · rw [if_pos c3]
        refine Ev.step (f := fun _ => some 3) (fun k => ?_) (Ev.now _)
        rw [minstrelref01_Kind.j0, decide_eq_false c4, if_neg (by simp), if_pos (by omega)]
      · rw [if_neg c3]
        by_cases c0 : rg a = 0
        · rw [if_pos c0]
          refine Ev.step (f := fun k => minstrelref01_Kind.j1 k ((rg a / 4503599627370496 : Nat) : Int) true) (fun k => ?_) (Ev.step (f := fun _ => some 0) (fun k => ?_) (Ev.now _))
          · rw [minstrelref01_Kind.j0, decide_eq_false c4, if_neg (by simp), if_neg (by omega), if_pos (by omega), c0]; rfl
          · rw [minstrelref01_Kind.j1, if_pos rfl]
        · rw [if_neg c0]
          by_cases c1 : rg a < 4503599627370496
          · rw [if_pos c1]
            refine Ev.step (f := fun k => minstrelref01_Kind.j1 k ((rg a / 4503599627370496 : Nat) : Int) false) (fun k => ?_) (Ev.step (f := fun _ => some 1) (fun k => ?_) (Ev.now _))
            · rw [minstrelref01_Kind.j0, decide_eq_false c4, if_neg (by simp), if_neg (by omega), if_pos (by omega), beq_eq_false_iff_ne.2 (by omega)]
            · rw [minstrelref01_Kind.j1, if_neg (by simp), if_pos (by omega)]
          · rw [if_neg c1]
            refine Ev.step (f := fun k => minstrelref01_Kind.j1 k ((rg a / 4503599627370496 : Nat) : Int) false) (fun k => ?_) (Ev.step (f := fun _ => some 2) (fun k => ?_) (Ev.now _))
            · rw [minstrelref01_Kind.j0, decide_eq_false c4, if_neg (by simp), if_neg (by omega), if_neg (by omega)]
            · rw [minstrelref01_Kind.j1, if_neg (by simp), if_neg (by omega)]
/-- a word's exponent and fraction -/
def expN (a : Nat) : Int := if kindN a = 1 then -1074 else if kindN a = 2 then ((rg a / 4503599627370496 : Nat) : Int) - 1075 else 0
def fracN (a : Nat) : Nat := if kindN a = 1 then rg a else if kindN a = 2 then rg a % 4503599627370496 + 4503599627370496 else 0
theorem kind_facts (a : Nat) : (kindN a = 4 ∧ INF < rg a) ∨ (kindN a = 3 ∧ rg a = INF) ∨ (kindN a = 0 ∧ rg a = 0) ∨ (kindN a = 1 ∧ 0 < rg a ∧ rg a < 4503599627370496) ∨ (kindN a = 2 ∧ 4503599627370496 ≤ rg a ∧ rg a < INF) := by
  unfold kindN
  rw [c52]
  by_cases c4 : INF < rg a
  · left; exact ⟨if_pos c4, c4⟩
  · rw [if_neg c4]
    by_cases c3 : rg a = INF
    · right; left; exact ⟨if_pos c3, c3⟩
    · rw [if_neg c3]
      by_cases c0 : rg a = 0
      · right; right; left; exact ⟨if_pos c0, c0⟩
      · rw [if_neg c0]
        by_cases c1 : rg a < 4503599627370496
        · right; right; right; left; exact ⟨if_pos c1, by omega, c1⟩
        · right; right; right; right; exact ⟨if_neg c1, by omega, by omega⟩
theorem ef_other (a : Nat) (h1 : kindN a ≠ 1) (h2 : kindN a ≠ 2) : expN a = 0 ∧ fracN a = 0 := by
  unfold expN fracN; rw [if_neg h1, if_neg h2, if_neg h1, if_neg h2]; exact ⟨rfl, rfl⟩
theorem ef_tiny (a : Nat) (h : kindN a = 1) : expN a = -1074 ∧ fracN a = rg a := by
  unfold expN fracN; rw [if_pos h, if_pos h]; exact ⟨rfl, rfl⟩
theorem ef_plain (a : Nat) (h : kindN a = 2) : expN a = ((rg a / 4503599627370496 : Nat) : Int) - 1075 ∧ fracN a = rg a % 4503599627370496 + 4503599627370496 := by
  have h1 : kindN a ≠ 1 := by rw [h]; decide
  unfold expN fracN; rw [if_neg h1, if_pos h, if_neg h1, if_pos h]; exact ⟨rfl, rfl⟩
/-- the five kinds: parts and rungs -/
theorem ef_cases (a : Nat) : (kindN a ≠ 1 ∧ kindN a ≠ 2 ∧ expN a = 0 ∧ fracN a = 0 ∧ (rg a = 0 ∨ INF ≤ rg a)) ∨ (kindN a = 1 ∧ expN a = -1074 ∧ fracN a = rg a ∧ 0 < rg a ∧ rg a < 4503599627370496) ∨ (kindN a = 2 ∧ expN a = ((rg a / 4503599627370496 : Nat) : Int) - 1075 ∧ fracN a = rg a % 4503599627370496 + 4503599627370496 ∧ 4503599627370496 ≤ rg a ∧ rg a < INF) := by
  rcases kind_facts a with ⟨hk, hf⟩ | ⟨hk, hf⟩ | ⟨hk, hf⟩ | ⟨hk, hf⟩ | ⟨hk, hf⟩
  · left
    have h1 : kindN a ≠ 1 := by rw [hk]; decide
    have h2 : kindN a ≠ 2 := by rw [hk]; decide
    exact ⟨h1, h2, (ef_other a h1 h2).1, (ef_other a h1 h2).2, Or.inr (Nat.le_of_lt hf)⟩
  · left
    have h1 : kindN a ≠ 1 := by rw [hk]; decide
    have h2 : kindN a ≠ 2 := by rw [hk]; decide
    exact ⟨h1, h2, (ef_other a h1 h2).1, (ef_other a h1 h2).2, Or.inr (Nat.le_of_eq hf.symm)⟩
  · left
    have h1 : kindN a ≠ 1 := by rw [hk]; decide
    have h2 : kindN a ≠ 2 := by rw [hk]; decide
    exact ⟨h1, h2, (ef_other a h1 h2).1, (ef_other a h1 h2).2, Or.inl hf⟩
  · right; left; exact ⟨hk, (ef_tiny a hk).1, (ef_tiny a hk).2, hf.1, hf.2⟩
  · right; right; exact ⟨hk, (ef_plain a hk).1, (ef_plain a hk).2, hf.1, hf.2⟩
theorem parts_is (a : Nat) (h : a < W) : Ev (fun k => minstrelref01_Parts.f k (a : Int)) (sg a, expN a, ((fracN a : Nat) : Int)) := by
  have hr := rg_lt a
  have hI := cINF
  refine Ev.bind (kind_is a h) ?_
  refine Ev.congr (f := fun _ => some (sg a, expN a, ((fracN a : Nat) : Int))) (fun k => ?_) (Ev.now _)
  rw [field_frac a h, field_exp a h, neg_is a h]
  simp only [Option.bind_some]
  rcases ef_cases a with ⟨h1, h2, he, hf, _⟩ | ⟨hk, he, hf, h3, h4⟩ | ⟨hk, he, hf, h3, h4⟩
  · rw [if_neg (by omega), if_neg (by omega), he, hf]; rfl
  · rw [if_pos (by omega), he, hf, Nat.mod_eq_of_lt h4]
  · rw [if_neg (by omega), if_pos (by omega), he, hf]
    rw [i64of (rg a / 4503599627370496) rfl (by omega), i64in (by omega) (by omega)]
    rw [show ((rg a % 4503599627370496 : Nat) : Int) + 4503599627370496 = ((rg a % 4503599627370496 + 4503599627370496 : Nat) : Int) from rfl, u64of _ (by omega)]
theorem frac_lt (a : Nat) : fracN a < 9007199254740992 := by
  rcases ef_cases a with ⟨h1, h2, he, hf, _⟩ | ⟨hk, he, hf, h3, h4⟩ | ⟨hk, he, hf, h3, h4⟩
  · rw [hf]; decide
  · rw [hf]; omega
  · rw [hf]; omega
theorem exp_range (a : Nat) : -1074 ≤ expN a ∧ expN a ≤ 971 := by
  have hI := cINF
  rcases ef_cases a with ⟨h1, h2, he, hf, _⟩ | ⟨hk, he, hf, h3, h4⟩ | ⟨hk, he, hf, h3, h4⟩
  · rw [he]; omega
  · rw [he]; omega
  · rw [he]; omega
/-- a finite word's parts make its number -/
theorem frac_V (a : Nat) (hfin : rg a < INF) : fracN a * 2 ^ (expN a + 1074).toNat = V (rg a) := by
  rcases ef_cases a with ⟨h1, h2, he, hf, h0⟩ | ⟨hk, he, hf, h3, h4⟩ | ⟨hk, he, hf, h3, h4⟩
  · have hr : rg a = 0 := by omega
    rw [hf, hr, Nat.zero_mul, V_small (by rw [c52]; decide)]
  · rw [he, hf, V_small (by rw [c52]; exact h4), show ((-1074 : Int) + 1074).toNat = 0 from rfl, Nat.pow_zero, Nat.mul_one]
  · rw [he, hf]
    unfold V
    rw [c52, if_neg (by omega), Nat.add_comm 4503599627370496]
    congr 2; omega
end Go.Proofs.Ytonbbjgcnfipeaa.Dig

/- Plain law: the kinds of words, and products where an operand is no finite number. -/
namespace Go.Proofs.Ytonbbjgcnfipeaa.Dig
open Go.RowKit Go.Proofs.Ytonbbjgcnfipeaa.Ref Go.Proofs.YtonbbjgcnfipeaaW.PrintWords Go.Proofs.YtonbbjgcnfipeaaW.PrintLast Go.Proofs.YtonbbjgcnfipeaaW.PrintMore
open Go.Proofs.Ytonbbjgcnfipeaa.Num Go.Proofs.Ytonbbjgcnfipeaa.DigLaw Go.Proofs.Ytonbbjgcnfipeaa.Fl
open Ieee (double)

def NANW : Nat := 9221120237041090560
def mulW (a b : Nat) : Nat := (double.mul a b).getD NANW
def addW (a b : Nat) : Nat := (double.add a b).getD NANW

theorem kind_vals (a : Nat) : kindN a = 0 ∨ kindN a = 1 ∨ kindN a = 2 ∨ kindN a = 3 ∨ kindN a = 4 := by
  rcases kind_facts a with ⟨hk, _⟩ | ⟨hk, _⟩ | ⟨hk, _⟩ | ⟨hk, _⟩ | ⟨hk, _⟩ <;> rw [hk] <;> decide
theorem nan_kind (a : Nat) : kindN a = 4 ↔ INF < rg a := by
  rcases kind_facts a with ⟨hk, h⟩ | ⟨hk, h⟩ | ⟨hk, h⟩ | ⟨hk, h⟩ | ⟨hk, h⟩ <;> rw [hk]
  · exact ⟨fun _ => h, fun _ => rfl⟩
  · exact ⟨fun e => by omega, fun e => by omega⟩
  · exact ⟨fun e => by omega, fun e => by omega⟩
  · have := cINF; exact ⟨fun e => by omega, fun e => by omega⟩
  · exact ⟨fun e => by omega, fun e => by omega⟩
theorem inf_kind (a : Nat) : kindN a = 3 ↔ rg a = INF := by
  rcases kind_facts a with ⟨hk, h⟩ | ⟨hk, h⟩ | ⟨hk, h⟩ | ⟨hk, h⟩ | ⟨hk, h⟩ <;> rw [hk]
  · exact ⟨fun e => by omega, fun e => by omega⟩
  · exact ⟨fun _ => h, fun _ => rfl⟩
  · have := cINF; exact ⟨fun e => by omega, fun e => by omega⟩
  · have := cINF; exact ⟨fun e => by omega, fun e => by omega⟩
  · exact ⟨fun e => by omega, fun e => by omega⟩
theorem zero_kind (a : Nat) : kindN a = 0 ↔ rg a = 0 := by
  have hI := cINF
  rcases kind_facts a with ⟨hk, h⟩ | ⟨hk, h⟩ | ⟨hk, h⟩ | ⟨hk, h⟩ | ⟨hk, h⟩ <;> rw [hk]
  · exact ⟨fun e => by omega, fun e => by omega⟩
  · exact ⟨fun e => by omega, fun e => by omega⟩
  · exact ⟨fun _ => h, fun _ => rfl⟩
  · exact ⟨fun e => by omega, fun e => by omega⟩
  · exact ⟨fun e => by omega, fun e => by omega⟩
theorem fin_kind (a : Nat) : kindN a < 3 ↔ rg a < INF := by
  have hI := cINF
  rcases kind_facts a with ⟨hk, h⟩ | ⟨hk, h⟩ | ⟨hk, h⟩ | ⟨hk, h⟩ | ⟨hk, h⟩ <;> rw [hk]
  · exact ⟨fun e => by omega, fun e => by omega⟩
  · exact ⟨fun e => by omega, fun e => by omega⟩
  · exact ⟨fun e => by omega, fun e => by omega⟩
  · exact ⟨fun e => by omega, fun e => by omega⟩
  · exact ⟨fun e => by omega, fun e => by omega⟩
theorem xor_bne (s t : Bool) : (s != t) = (s ^^ t) := by cases s <;> cases t <;> rfl

/-! ### Mul -/
theorem mul_nan {a b : Nat} (h : INF < rg a ∨ INF < rg b) : double.mul a b = none := by
  unfold Ieee.Format.mul
  rcases h with h | h
  · rw [read_nan h]; rfl
  · rw [read_nan h]; cases double.read a <;> rfl
theorem read_zero {a : Nat} (h : rg a = 0) : double.read a = .number (sg a) 0 (-1074) := by
  rw [read_eq, h, if_pos (by decide)]
theorem mul_zi {a b : Nat} (ha : rg a = 0) (hb : rg b = INF) : double.mul a b = none := by
  unfold Ieee.Format.mul; rw [read_zero ha, read_inf hb]; rfl
theorem mul_iz {a b : Nat} (ha : rg a = INF) (hb : rg b = 0) : double.mul a b = none := by
  unfold Ieee.Format.mul; rw [read_inf ha, read_zero hb]; rfl
theorem mag_pos {a m : Nat} {p : Int} (h : rg a ≠ 0) (hv : m * 2 ^ (p + 1074).toNat = V (rg a)) : m ≠ 0 := by
  intro e; rw [e, Nat.zero_mul] at hv
  have h1 := V_strict (a := 0) (b := rg a) (by omega)
  omega
theorem mul_ii {a b : Nat} (ha : rg a = INF) (hb : rg b = INF) : double.mul a b = some (double.word (sg a ^^ sg b) INF) := by
  unfold Ieee.Format.mul; rw [read_inf ha, read_inf hb, ← infRung_eq]; rfl
theorem mul_if {a b : Nat} (ha : rg a = INF) (hb : rg b < INF) (h0 : rg b ≠ 0) : double.mul a b = some (double.word (sg a ^^ sg b) INF) := by
  obtain ⟨m, p, e, _, hv⟩ := read_fin hb
  unfold Ieee.Format.mul
  rw [read_inf ha, e, ← infRung_eq]
  simp only [Ieee.Datum.product, if_neg (mag_pos h0 hv)]; rfl
theorem mul_fi {a b : Nat} (hb : rg b = INF) (ha : rg a < INF) (h0 : rg a ≠ 0) : double.mul a b = some (double.word (sg a ^^ sg b) INF) := by
  obtain ⟨m, p, e, _, hv⟩ := read_fin ha
  unfold Ieee.Format.mul
  rw [read_inf hb, e, ← infRung_eq]
  simp only [Ieee.Datum.product, if_neg (mag_pos h0 hv)]
  rw [Bool.xor_comm]; rfl

end Go.Proofs.Ytonbbjgcnfipeaa.Dig

/- Plain law: turning a sign about; products in either order, and with a sign turned about. -/
namespace Go.Proofs.Ytonbbjgcnfipeaa.Dig
open Go.RowKit Go.Proofs.Ytonbbjgcnfipeaa.Num Go.Proofs.Ytonbbjgcnfipeaa.DigLaw Go.Proofs.Ytonbbjgcnfipeaa.Fl
open Ieee (double Datum)

def flipW (a : Nat) : Nat := sgn (!sg a) + rg a
def negW (a : Nat) : Nat := if kindN a = 4 then NANW else flipW a
theorem xor_top (r : Nat) (h : r < 9223372036854775808) : r ^^^ 9223372036854775808 = 9223372036854775808 + r := by
  have e : (9223372036854775808 : Nat) = 2 ^ 63 := by decide
  rw [e] at h ⊢
  have h1 := Nat.two_pow_add_eq_or_of_lt h 1
  rw [Nat.mul_one] at h1
  rw [h1]
  apply Nat.eq_of_testBit_eq
  intro i
  rw [Nat.testBit_xor, Nat.testBit_or, Nat.testBit_two_pow]
  by_cases c : 63 = i
  · subst c
    rw [Nat.testBit_lt_two_pow h]; simp
  · simp [c]
theorem flip_xor (a : Nat) (h : a < W) : Go.bits .xor .u64 (a : Int) 9223372036854775808 = ((flipW a : Nat) : Int) := by
  have hw := word_split a h
  have hr := rg_lt a
  unfold W at h
  rw [show (9223372036854775808 : Int) = ((9223372036854775808 : Nat) : Int) from rfl, xor_nat _ _ h (by decide)]
  congr 1
  unfold flipW
  generalize rg a = r at *
  generalize sg a = s at *
  subst hw
  cases s
  · unfold sgn S63
    rw [if_neg (by simp), Nat.zero_add, xor_top r hr]; rfl
  · unfold sgn S63
    rw [if_pos rfl, ← xor_top r hr, Nat.xor_assoc, Nat.xor_self, Nat.xor_zero]; simp
theorem flip_facts (a : Nat) : sg (flipW a) = !sg a ∧ rg (flipW a) = rg a ∧ flipW a < W := sg_word _ _ (rg_lt a)
theorem word_facts (s : Bool) {r : Nat} (h : r ≤ INF) : sg (double.word s r) = s ∧ rg (double.word s r) = r ∧ double.word s r < W := by
  rw [word_eq]
  have h2 := INF_lt
  exact sg_word s r (by unfold S63 at h2; omega)
theorem word_ext {a b : Nat} (ha : a < W) (hb : b < W) (h1 : sg a = sg b) (h2 : rg a = rg b) : a = b := by
  rw [word_split a ha, word_split b hb, h1, h2]
theorem nanw_facts : rg NANW = 9221120237041090560 ∧ sg NANW = false ∧ NANW < W ∧ kindN NANW = 4 := by decide +kernel
theorem read_flip (a : Nat) : double.read (flipW a) = (double.read a).opposite := by
  obtain ⟨h1, h2, _⟩ := flip_facts a
  rw [read_eq, read_eq, h1, h2]
  split
  · rfl
  · split
    · rfl
    · split <;> rfl
theorem product_comm (x y : Datum) : x.product y = y.product x := by
  cases x <;> cases y <;> simp only [Datum.product]
  · rw [Bool.xor_comm, Nat.mul_comm, Int.add_comm]
  · rw [Bool.xor_comm]
theorem mul_comm' (a b : Nat) : mulW a b = mulW b a := by
  unfold mulW Ieee.Format.mul; rw [product_comm]
theorem xor_not (s t : Bool) : ((!s) ^^ t) = !(s ^^ t) := by cases s <;> cases t <;> rfl
theorem product_opp (x y : Datum) : x.opposite.product y = (x.product y).map Datum.opposite := by
  cases x <;> cases y <;> simp only [Datum.opposite, Datum.product, Option.map_some, Option.map_none, xor_not]
  · split
    · rfl
    · simp only [Option.map_some, Datum.opposite, Bool.xor_comm]
      rw [Bool.xor_comm]
      simp
  · split
    · rfl
    · simp only [Option.map_some, Datum.opposite]
theorem word_not (s : Bool) {r : Nat} (h : r ≤ INF) : double.word (!s) r = flipW (double.word s r) := by
  obtain ⟨h1, h2, _⟩ := word_facts s h
  unfold flipW; rw [h1, h2, word_eq]
theorem write_opp (d : Datum) (h : d.isNaN = false) : double.write d.opposite = flipW (double.write d) := by
  cases d with
  | number s m p =>
    unfold Datum.opposite
    rw [write_number, write_number, word_not s (rung_le_inf m p)]
  | infinity s =>
    unfold Datum.opposite Ieee.Format.write
    rw [infRung_eq]; exact word_not s (Nat.le_refl _)
  | nan s f => cases h
theorem product_num {x y d : Datum} (h : x.product y = some d) : d.isNaN = false := by
  cases d with
  | number s m p => rfl
  | infinity s => rfl
  | nan s f =>
    exfalso
    cases x <;> cases y <;> simp only [Datum.product] at h <;> try (split at h) <;> cases h
    all_goals cases h
theorem not_nan_of_le {a : Nat} (h : rg a ≤ INF) : kindN a ≠ 4 := fun e => by have := (nan_kind a).1 e; omega
theorem write_num (d : Datum) (h : d.isNaN = false) : rg (double.write d) ≤ INF ∧ double.write d < W := by
  cases d with
  | number s m p => rw [write_number, (word_facts s (rung_le_inf m p)).2.1]; exact ⟨rung_le_inf m p, (word_facts s (rung_le_inf m p)).2.2⟩
  | infinity s =>
    unfold Ieee.Format.write
    rw [infRung_eq, (word_facts s (Nat.le_refl INF)).2.1]; exact ⟨Nat.le_refl _, (word_facts s (Nat.le_refl INF)).2.2⟩
  | nan s f => cases h
theorem neg_nan {a : Nat} (h : INF < rg a) : negW a = NANW := by unfold negW; rw [if_pos ((nan_kind a).2 h)]
theorem neg_num {a : Nat} (h : rg a ≤ INF) : negW a = flipW a := by unfold negW; rw [if_neg (not_nan_of_le h)]
theorem nanw_nan : INF < rg NANW := by rw [nanw_facts.1, cINF]; decide
theorem mul_neg (a b : Nat) : mulW (negW a) b = negW (mulW a b) := by
  rcases Nat.lt_or_ge INF (rg a) with h | h
  · rw [neg_nan h]
    unfold mulW
    rw [mul_nan (.inl h), mul_nan (.inl nanw_nan)]
    exact (neg_nan nanw_nan).symm
  · rw [neg_num h]
    unfold mulW Ieee.Format.mul
    rw [read_flip, product_opp]
    cases hd : (double.read a).product (double.read b) with
    | none => exact (neg_nan nanw_nan).symm
    | some d =>
      have hn := product_num hd
      show double.write d.opposite = negW (double.write d)
      rw [write_opp d hn, neg_num (write_num d hn).1]
theorem neg_lt (a : Nat) : negW a < W := by
  unfold negW; split
  · exact nanw_facts.2.2.1
  · exact (flip_facts a).2.2
theorem mul_lt (a b : Nat) : mulW a b < W := by
  unfold mulW Ieee.Format.mul
  cases hd : (double.read a).product (double.read b) with
  | none => exact nanw_facts.2.2.1
  | some d => exact (write_num d (product_num hd)).2
end Go.Proofs.Ytonbbjgcnfipeaa.Dig

/- What the document's Order, Less, Equal (minstrelref01) compute: the order of the numbers that words stand for. Condition: the words have 64 bits. -/
namespace Go.Proofs.Ytonbbjgcnfipeaa.Dig
open Go.RowKit Go.Proofs.Ytonbbjgcnfipeaa.Ref Go.Proofs.YtonbbjgcnfipeaaW.PrintWords Go.Proofs.YtonbbjgcnfipeaaW.PrintLast Go.Proofs.YtonbbjgcnfipeaaW.PrintMore
open Go.Proofs.Ytonbbjgcnfipeaa.Num Go.Proofs.Ytonbbjgcnfipeaa.DigLaw Go.Proofs.Ytonbbjgcnfipeaa.Fl

theorem andNot_top (a : Nat) (h : a < W) : Go.bits .andNot .u64 (a : Int) 9223372036854775808 = ((rg a : Nat) : Int) := by
  have e : Go.bits .andNot .u64 (a : Int) ((9223372036854775808 : Nat) : Int) = ((rg a : Nat) : Int) := by
    have ha' : a % 2 ^ IntKind.u64.bits = a := Nat.mod_eq_of_lt h
    simp only [bits, BitVec.ofInt_natCast]
    have key : (BitVec.ofNat IntKind.u64.bits a &&& ~~~ BitVec.ofNat IntKind.u64.bits 9223372036854775808).toNat = rg a := by
      show (BitVec.ofNat 64 a &&& ~~~ BitVec.ofNat 64 9223372036854775808).toNat = rg a
      have hn : ~~~ BitVec.ofNat 64 9223372036854775808 = BitVec.ofNat 64 9223372036854775807 := by decide
      rw [hn, BitVec.toNat_and, BitVec.toNat_ofNat, BitVec.toNat_ofNat]
      have e64 : (2 : Nat) ^ 64 = 18446744073709551616 := by decide
      have h' : a < 18446744073709551616 := h
      rw [e64, Nat.mod_eq_of_lt h', show 9223372036854775807 % 18446744073709551616 = 2 ^ 63 - 1 from by decide, Nat.and_two_pow_sub_one_eq_mod]
      rfl
    rw [key]
    have := rg_lt a
    exact u64of _ (by omega)
  exact e
def cmpI (x y : Int) : Int := if x < y then -1 else if x = y then 0 else 1
theorem V_cmp (s : Bool) (r t : Nat) : (if r = t then (0 : Int) else if ((decide ((r : Int) < (t : Int))) != s) = true then -1 else 1) = cmpI (sn s (V r)) (sn s (V t)) := by
  unfold cmpI
  rcases Nat.lt_trichotomy r t with h | h | h
  · have hv := V_strict h
    rw [if_neg (by omega), decide_eq_true (by omega)]
    cases s
    · rw [if_pos (by rfl), if_pos (show sn false (V r) < sn false (V t) by unfold sn; simp <;> omega)]
    · rw [if_neg (by simp), if_neg (show ¬ sn true (V r) < sn true (V t) by unfold sn; simp <;> omega), if_neg (show ¬ sn true (V r) = sn true (V t) by unfold sn; simp <;> omega)]
  · subst h
    rw [if_pos rfl, if_neg (Int.lt_irrefl _), if_pos rfl]
  · have hv := V_strict h
    rw [if_neg (by omega), decide_eq_false (by omega)]
    cases s
    · rw [if_neg (by simp), if_neg (show ¬ sn false (V r) < sn false (V t) by unfold sn; simp <;> omega), if_neg (show ¬ sn false (V r) = sn false (V t) by unfold sn; simp <;> omega)]
    · rw [if_pos (by rfl), if_pos (show sn true (V r) < sn true (V t) by unfold sn; simp <;> omega)]
theorem V_pos {r : Nat} (h : r ≠ 0) : 0 < V r := by
  have := V_strict (a := 0) (b := r) (by omega); omega
theorem V_cmp_ne {s t : Bool} (h : s ≠ t) {r q : Nat} (hz : r ≠ 0 ∨ q ≠ 0) : (if s = true then (-1 : Int) else 1) = cmpI (sn s (V r)) (sn t (V q)) := by
  have hp : 0 < V r + V q := by
    rcases hz with hz | hz
    · have := V_pos hz; omega
    · have := V_pos hz; omega
  unfold cmpI
  cases s <;> cases t
  · exact absurd rfl h
  · rw [if_neg (by simp), if_neg (show ¬ sn false (V r) < sn true (V q) by unfold sn; simp <;> omega), if_neg (show ¬ sn false (V r) = sn true (V q) by unfold sn; simp <;> omega)]
  · rw [if_pos rfl, if_pos (show sn true (V r) < sn false (V q) by unfold sn; simp <;> omega)]
  · exact absurd rfl h
theorem order_j (a b : Nat) (ha : a < W) (hb : b < W) (k : Nat) : minstrelref01_Order.j0 (k + 1) (a : Int) (b : Int) (decide (rg a = 0 ∧ rg b = 0)) = some (cmpI (Vi a) (Vi b)) := by
  rw [minstrelref01_Order.j0, neg_is a ha, neg_is b hb, andNot_top a ha, andNot_top b hb, Option.bind_some, Option.bind_some, Option.bind_some, Option.bind_some]
  by_cases z : rg a = 0 ∧ rg b = 0
  · have hV0 : V 0 = 0 := V_small (by decide)
    rw [decide_eq_true z, if_pos rfl]
    unfold Vi cmpI
    rw [z.1, z.2, hV0]
    cases sg a <;> cases sg b <;> rfl
  · rw [decide_eq_false z, if_neg (by simp)]
    by_cases s : sg a = sg b
    · have hne : ¬ (sg a != sg b) = true := by rw [s]; simp
      rw [if_neg hne]
      unfold Vi
      rw [← s, ← V_cmp (sg a) (rg a) (rg b)]
      by_cases c : rg a = rg b
      · rw [if_pos (by omega), if_pos c]
      · rw [if_neg (by omega), if_neg c]; split <;> rfl
    · have hne : (sg a != sg b) = true := bne_iff_ne.2 s
      rw [if_pos hne]
      unfold Vi
      rw [← V_cmp_ne s (by omega)]
      split <;> rfl
theorem order_is (a b : Nat) (ha : a < W) (hb : b < W) : Ev (fun k => minstrelref01_Order.f k (a : Int) (b : Int)) (cmpI (Vi a) (Vi b)) := by
  obtain ⟨K1, p1⟩ := kind_is a ha
  obtain ⟨K2, p2⟩ := kind_is b hb
  refine ⟨max (max K1 K2) 1, fun k hk => ?_⟩
  obtain ⟨m, rfl⟩ : ∃ m, k = m + 1 := ⟨k - 1, by omega⟩
  have h1 : minstrelref01_Kind.f (m + 1) (a : Int) = some ((kindN a : Nat) : Int) := p1 _ (by omega)
  have h2 : minstrelref01_Kind.f (m + 1) (b : Int) = some ((kindN b : Nat) : Int) := p2 _ (by omega)
  show minstrelref01_Order.f (m + 1) (a : Int) (b : Int) = _
  unfold minstrelref01_Order.f
  rw [h1, Option.bind_some, h2, Option.bind_some]
  have hj := order_j a b ha hb m
  by_cases za : kindN a = 0
  · rw [if_pos (by omega)]
    have e : (((kindN b : Nat) : Int) == 0) = decide (rg a = 0 ∧ rg b = 0) := by
      by_cases zb : kindN b = 0
      · rw [zb, decide_eq_true ⟨(zero_kind a).1 za, (zero_kind b).1 zb⟩]; rfl
      · rw [decide_eq_false (fun h => zb ((zero_kind b).2 h.2)), beq_eq_false_iff_ne.2 (by omega)]
    rw [e]; exact hj
  · rw [if_neg (by omega)]
    rw [decide_eq_false (fun h => za ((zero_kind a).2 h.1))] at hj
    exact hj
def lessB (a b : Nat) : Bool := decide (rg a ≤ INF ∧ rg b ≤ INF ∧ Vi a < Vi b)
def eqB (a b : Nat) : Bool := decide (rg a ≤ INF ∧ rg b ≤ INF ∧ Vi a = Vi b)
theorem cmpI_lt (x y : Int) : decide (cmpI x y < 0) = decide (x < y) := by
  unfold cmpI
  by_cases h : x < y
  · rw [if_pos h, decide_eq_true h]; rfl
  · rw [if_neg h, decide_eq_false h]; split <;> rfl
theorem cmpI_eq (x y : Int) : (cmpI x y == 0) = decide (x = y) := by
  unfold cmpI
  by_cases h : x < y
  · rw [if_pos h, decide_eq_false (by omega)]; rfl
  · rw [if_neg h]
    by_cases e : x = y
    · rw [if_pos e, decide_eq_true e]; rfl
    · rw [if_neg e, decide_eq_false e]; rfl
theorem less_is (a b : Nat) (ha : a < W) (hb : b < W) : Ev (fun k => minstrelref01_Less.f k (a : Int) (b : Int)) (lessB a b) := by
  obtain ⟨K1, p1⟩ := kind_is a ha
  obtain ⟨K2, p2⟩ := kind_is b hb
  obtain ⟨K3, p3⟩ := order_is a b ha hb
  refine ⟨max (max K1 K2) K3, fun k hk => ?_⟩
  have h1 : minstrelref01_Kind.f k (a : Int) = some ((kindN a : Nat) : Int) := p1 _ (by omega)
  have h2 : minstrelref01_Kind.f k (b : Int) = some ((kindN b : Nat) : Int) := p2 _ (by omega)
  have h3 : minstrelref01_Order.f k (a : Int) (b : Int) = some (cmpI (Vi a) (Vi b)) := p3 _ (by omega)
  show minstrelref01_Less.f k (a : Int) (b : Int) = _
  unfold minstrelref01_Less.f lessB
  rw [h1, Option.bind_some]
  have na := nan_kind a
  have nb := nan_kind b
  by_cases ka : kindN a = 4
  · rw [if_pos (by omega), decide_eq_false (fun h => by have := na.1 ka; omega)]
  · have la : rg a ≤ INF := Nat.le_of_not_lt fun h => ka (na.2 h)
    rw [if_neg (by omega), h2, Option.bind_some]
    by_cases kb : kindN b = 4
    · rw [if_pos (by omega), decide_eq_false (fun h => by have := nb.1 kb; omega)]
    · have lb : rg b ≤ INF := Nat.le_of_not_lt fun h => kb (nb.2 h)
      rw [if_neg (by omega), h3, Option.bind_some, cmpI_lt]
      congr 1
      exact decide_eq_decide.2 ⟨fun h => ⟨la, lb, h⟩, fun h => h.2.2⟩
end Go.Proofs.Ytonbbjgcnfipeaa.Dig

/- What the document's Equal (minstrelref01) computes. Condition: the words have 64 bits. -/
namespace Go.Proofs.Ytonbbjgcnfipeaa.Dig
open Go.RowKit Go.Proofs.Ytonbbjgcnfipeaa.Ref Go.Proofs.YtonbbjgcnfipeaaW.PrintWords Go.Proofs.YtonbbjgcnfipeaaW.PrintLast Go.Proofs.YtonbbjgcnfipeaaW.PrintMore
open Go.Proofs.Ytonbbjgcnfipeaa.Num Go.Proofs.Ytonbbjgcnfipeaa.DigLaw Go.Proofs.Ytonbbjgcnfipeaa.Fl

theorem equal_is (a b : Nat) (ha : a < W) (hb : b < W) : Ev (fun k => minstrelref01_Equal.f k (a : Int) (b : Int)) (eqB a b) := by
  obtain ⟨K1, p1⟩ := kind_is a ha
  obtain ⟨K2, p2⟩ := kind_is b hb
  obtain ⟨K3, p3⟩ := order_is a b ha hb
  refine ⟨max (max K1 K2) K3, fun k hk => ?_⟩
  have h1 : minstrelref01_Kind.f k (a : Int) = some ((kindN a : Nat) : Int) := p1 _ (by omega)
  have h2 : minstrelref01_Kind.f k (b : Int) = some ((kindN b : Nat) : Int) := p2 _ (by omega)
  have h3 : minstrelref01_Order.f k (a : Int) (b : Int) = some (cmpI (Vi a) (Vi b)) := p3 _ (by omega)
  show minstrelref01_Equal.f k (a : Int) (b : Int) = _
  unfold minstrelref01_Equal.f eqB
  rw [h1, Option.bind_some]
  have na := nan_kind a
  have nb := nan_kind b
  by_cases ka : kindN a = 4
  · rw [if_pos (by omega), decide_eq_false (fun h => by have := na.1 ka; omega)]
  · have la : rg a ≤ INF := Nat.le_of_not_lt fun h => ka (na.2 h)
    rw [if_neg (by omega), h2, Option.bind_some]
    by_cases kb : kindN b = 4
    · rw [if_pos (by omega), decide_eq_false (fun h => by have := nb.1 kb; omega)]
    · have lb : rg b ≤ INF := Nat.le_of_not_lt fun h => kb (nb.2 h)
      rw [if_neg (by omega), h3, Option.bind_some, cmpI_eq]
      congr 1
      exact decide_eq_decide.2 ⟨fun h => ⟨la, lb, h⟩, fun h => h.2.2⟩
end Go.Proofs.Ytonbbjgcnfipeaa.Dig

/- What Make computes, the program's and the reference's: the nearest double of (2 frac + half) 2^(exp - 1). Conditions: frac has 64 bits, exp 64 bits with a sign. -/
namespace Go.Proofs.Ytonbbjgcnfipeaa.Dig
open Go.RowKit Go.Proofs.Ytonbbjgcnfipeaa.Ref Go.Proofs.YtonbbjgcnfipeaaW.PrintWords Go.Proofs.YtonbbjgcnfipeaaW.PrintLast Go.Proofs.YtonbbjgcnfipeaaW.PrintMore
open Go.Proofs.Ytonbbjgcnfipeaa.Num Go.Proofs.Ytonbbjgcnfipeaa.DigLaw Go.Proofs.Ytonbbjgcnfipeaa.Fl
open Ieee (double)

def makeW (neg : Bool) (exp : Int) (frac : Nat) (half : Bool) : Nat := sgn neg + rung (2 * frac + half.toNat) (exp - 1)
/-- an exponent far out may be cut -/
theorem rung_clamp {M : Nat} (hM : M < 2 ^ 65) (exp c : Int) (h : c = exp ∨ (1100 ≤ c ∧ 1100 ≤ exp) ∨ (c ≤ -1200 ∧ exp ≤ -1200)) : rung M (c - 1) = rung M (exp - 1) := by
  rcases h with h | ⟨h1, h2⟩ | ⟨h1, h2⟩
  · rw [h]
  · by_cases z : M = 0
    · rw [z, rung_zero, rung_zero]
    · have h0 : 2 ^ 0 ≤ M := by rw [Nat.pow_zero]; omega
      rw [rung_high M (c - 1) 0 h0 (by omega), rung_high M (exp - 1) 0 h0 (by omega)]
  · rw [rung_low M (c - 1) 65 hM (by omega), rung_low M (exp - 1) 65 hM (by omega)]
theorem M_lt {frac : Nat} (h : frac < W) (half : Bool) : 2 * frac + half.toNat < 2 ^ 65 := by
  unfold W at h
  have e : (2 : Nat) ^ 65 = 36893488147419103232 := by decide
  rw [e]; cases half
  · show 2 * frac + 0 < _; omega
  · show 2 * frac + 1 < _; omega

/-! ### the reference's -/
theorem refMake_j1 (neg : Bool) (exp : Int) (frac : Nat) (half : Bool) (hf : frac < W) (h0 : -5000 ≤ exp) (h1 : exp ≤ 5000) : Ev (fun k => minstrelref01_Make.j1 k neg exp (frac : Int) half) ((makeW neg exp frac half : Nat) : Int) := by
  obtain ⟨l, hl, dl, vl, ll⟩ := digits_is frac hf
  obtain ⟨K1, u⟩ := up_is dl (by omega) 1 (by decide)
  rw [vl, Nat.pow_one, Nat.mul_comm] at u
  have ew : wrap64 (exp - 1) = exp - 1 := i64in (by omega) (by omega)
  have hlt : 2 * frac < 2 ^ (16 * 5) := by unfold W at hf; exact Nat.lt_of_lt_of_le (show 2 * frac < 36893488147419103232 by omega) (by decide)
  have len1 := dig_length' hlt
  cases half
  · have hr := round_is neg (exp - 1) (dig_Dg (2 * frac)) (by omega) false (by omega) (by omega) (fun h => by cases h)
    rw [dig_val, nearest_eq, rung_twice, word_eq] at hr
    obtain ⟨K2, r⟩ := hr
    refine ⟨max K1 K2 + 1, fun k hk => ?_⟩
    obtain ⟨m, rfl⟩ : ∃ m, k = m + 1 := ⟨k - 1, by omega⟩
    have u' : minstrelref01_Up.f m l 1 = some (dig (2 * frac)) := u m (by omega)
    have r' : minstrelref01_Round.f m neg (exp - 1) (dig (2 * frac)) false = some ((sgn neg + rung (2 * frac) (exp - 1) : Nat) : Int) := r m (by omega)
    show minstrelref01_Make.j1 (m + 1) neg exp (frac : Int) false = _
    rw [minstrelref01_Make.j1, hl, Option.bind_some, u', Option.bind_some, if_neg (by simp), ew, r', Option.bind_some]; rfl
  · obtain ⟨K3, s⟩ := sum_is (dig_Dg (2 * frac)) (Dg_one (x := 1) (by decide) (by decide)) (by omega) (by decide)
    rw [dig_val, val_one, show (1 : Int).toNat = 1 from rfl] at s
    have hlt2 : 2 * frac + 1 < 2 ^ (16 * 5) := by unfold W at hf; exact Nat.lt_of_lt_of_le (show 2 * frac + 1 < 36893488147419103232 by omega) (by decide)
    have len2 := dig_length' hlt2
    have hr := round_is neg (exp - 1) (dig_Dg (2 * frac + 1)) (by omega) false (by omega) (by omega) (fun h => by cases h)
    rw [dig_val, nearest_eq, rung_twice, word_eq] at hr
    obtain ⟨K2, r⟩ := hr
    refine ⟨max (max K1 K2) K3 + 1, fun k hk => ?_⟩
    obtain ⟨m, rfl⟩ : ∃ m, k = m + 1 := ⟨k - 1, by omega⟩
    have u' : minstrelref01_Up.f m l 1 = some (dig (2 * frac)) := u m (by omega)
    have s' : minstrelref01_Sum.f m (dig (2 * frac)) [1] = some (dig (2 * frac + 1)) := s m (by omega)
    have r' : minstrelref01_Round.f m neg (exp - 1) (dig (2 * frac + 1)) false = some ((sgn neg + rung (2 * frac + 1) (exp - 1) : Nat) : Int) := r m (by omega)
    show minstrelref01_Make.j1 (m + 1) neg exp (frac : Int) true = _
    rw [minstrelref01_Make.j1, hl, Option.bind_some, u', Option.bind_some, if_pos rfl, s', Option.bind_some, ew, r', Option.bind_some]; rfl
theorem refMake_is (neg : Bool) (exp : Int) (frac : Nat) (half : Bool) (hf : frac < W) : Ev (fun k => minstrelref01_Make.f k neg exp (frac : Int) half) ((makeW neg exp frac half : Nat) : Int) := by
  have cl : ∀ c : Int, (c = exp ∨ (1100 ≤ c ∧ 1100 ≤ exp) ∨ (c ≤ -1200 ∧ exp ≤ -1200)) → makeW neg c frac half = makeW neg exp frac half := fun c h => by
    unfold makeW; rw [rung_clamp (M_lt hf half) exp c h]
  by_cases c1 : exp > 5000
  · obtain ⟨K, r⟩ := refMake_j1 neg 5000 frac half hf (by decide) (by decide)
    rw [cl 5000 (by omega)] at r
    refine ⟨K + 1, fun k hk => ?_⟩
    obtain ⟨m, rfl⟩ : ∃ m, k = m + 1 := ⟨k - 1, by omega⟩
    show minstrelref01_Make.f (m + 1) neg exp (frac : Int) half = _
    unfold minstrelref01_Make.f
    rw [if_pos c1, minstrelref01_Make.j0, if_neg (by decide)]
    exact r m (by omega)
  · by_cases c2 : exp < -5000
    · obtain ⟨K, r⟩ := refMake_j1 neg (-5000) frac half hf (by decide) (by decide)
      rw [cl (-5000) (by omega)] at r
      refine ⟨K + 1, fun k hk => ?_⟩
      obtain ⟨m, rfl⟩ : ∃ m, k = m + 1 := ⟨k - 1, by omega⟩
      show minstrelref01_Make.f (m + 1) neg exp (frac : Int) half = _
      unfold minstrelref01_Make.f
      rw [if_neg c1, minstrelref01_Make.j0, if_pos c2]
      exact r m (by omega)
    · obtain ⟨K, r⟩ := refMake_j1 neg exp frac half hf (by omega) (by omega)
      refine ⟨K + 1, fun k hk => ?_⟩
      obtain ⟨m, rfl⟩ : ∃ m, k = m + 1 := ⟨k - 1, by omega⟩
      show minstrelref01_Make.f (m + 1) neg exp (frac : Int) half = _
      unfold minstrelref01_Make.f
      rw [if_neg c1, minstrelref01_Make.j0, if_neg c2]
      exact r m (by omega)
end Go.Proofs.Ytonbbjgcnfipeaa.Dig

/- What the program's Make (flo.Make) computes: the nearest double of (2 frac + half) 2^(exp - 1). Conditions: frac has 64 bits, exp 64 bits with a sign. -/
namespace Go.Proofs.Ytonbbjgcnfipeaa.Dig
open Go.RowKit Go.Proofs.Ytonbbjgcnfipeaa.Ref Go.Proofs.YtonbbjgcnfipeaaW.PrintWords Go.Proofs.YtonbbjgcnfipeaaW.PrintLast Go.Proofs.YtonbbjgcnfipeaaW.PrintMore
open Go.Proofs.Ytonbbjgcnfipeaa.Num Go.Proofs.Ytonbbjgcnfipeaa.DigLaw Go.Proofs.Ytonbbjgcnfipeaa.Fl
open Ieee (double)

theorem shl_one (n : Nat) (h : n < 64) : shl .u64 1 (n : Int) = ((2 ^ n : Nat) : Int) := by
  have hp : 2 ^ n < 18446744073709551616 := Nat.lt_of_lt_of_le (Nat.pow_lt_pow_right (by decide) h) (by decide)
  have := shl_nat 1 n h (by rw [Nat.one_mul]; exact hp)
  rw [Nat.one_mul] at this; exact this
theorem shl_64 : shl .u64 1 ((64 : Nat) : Int) = 0 := by decide +kernel
theorem low_bits (f n : Nat) (hf : f < W) (hn : n ≤ 64) : Go.bits .and .u64 (f : Int) (IntKind.u64.wrap (shl .u64 1 (n : Int) - 1)) = ((f % 2 ^ n : Nat) : Int) := by
  by_cases c : n = 64
  · subst c
    have e : IntKind.u64.wrap (0 - 1) = ((2 ^ 64 - 1 : Nat) : Int) := by decide
    rw [shl_64, e]
    exact mask_nat f 64 hf (by decide)
  · have hp : 2 ^ n < 18446744073709551616 := Nat.lt_of_lt_of_le (Nat.pow_lt_pow_right (by decide) (by omega : n < 64)) (by decide)
    have h0 := Nat.two_pow_pos n
    have hm := mask_nat f n hf (Nat.le_of_lt hp)
    rw [shl_one n (by omega)]
    generalize 2 ^ n = p at *
    have e : IntKind.u64.wrap (((p : Nat) : Int) - 1) = ((p - 1 : Nat) : Int) := by rw [u64in (by omega) (by omega)]; omega
    rw [e]; exact hm
theorem shr_is (f n : Nat) (hn : n ≤ 64) : shr .u64 (f : Int) (n : Int) = ((f / 2 ^ n : Nat) : Int) := by
  unfold shr
  rw [Int.toNat_natCast, Nat.min_eq_left (by simp [IntKind.bits]; omega), Int.natCast_ediv]; simp
theorem cut_half (f h g q r : Nat) (hh : h ≤ 1) (hg : g = 2 * r) : (if 2 * g < 2 * (2 * q + h) ∨ (2 * g = 2 * (2 * q + h) ∧ f % 2 = 1) then 1 else 0) = if r < q ∨ (q = r ∧ (h = 1 ∨ f % 2 = 1)) then 1 else 0 := by
  subst hg
  by_cases c : r < q ∨ (q = r ∧ (h = 1 ∨ f % 2 = 1))
  · rw [if_pos c, if_pos (by omega)]
  · rw [if_neg c, if_neg (by omega)]
theorem cut_shift (f h n : Nat) (hh : h ≤ 1) (hn : 1 ≤ n) : cutE (2 * f + h) (n + 1) = f / 2 ^ n + if 2 ^ (n - 1) < f % 2 ^ n ∨ (f % 2 ^ n = 2 ^ (n - 1) ∧ (h = 1 ∨ f / 2 ^ n % 2 = 1)) then 1 else 0 := by
  obtain ⟨m, rfl⟩ : ∃ m, n = m + 1 := ⟨n - 1, by omega⟩
  rw [cutE_eq]
  obtain ⟨h1, h2⟩ := div_lem f h (m + 1) hh
  rw [h1, h2, Nat.add_sub_cancel]
  congr 1
  have e1 : 2 ^ (m + 1 + 1) = 2 * 2 ^ (m + 1) := by rw [Nat.pow_succ, Nat.mul_comm]
  have e2 : 2 ^ (m + 1) = 2 * 2 ^ m := by rw [Nat.pow_succ, Nat.mul_comm]
  rw [e1]
  exact cut_half (f / 2 ^ (m + 1)) h (2 ^ (m + 1)) (f % 2 ^ (m + 1)) (2 ^ m) hh e2
theorem cut_far (f h n : Nat) (hf : f < W) (hh : h ≤ 1) (hn : 64 < n) : cutE (2 * f + h) (n + 1) = 0 := by
  unfold W at hf
  have := (cutE_le_iff (2 * f + h) (n + 1) 0).2 (.inl (by
    have h2 : 2 ^ 66 ≤ 2 ^ (n + 1) := Nat.pow_le_pow_right (by decide) (by omega)
    have e : (2 : Nat) ^ 66 = 73786976294838206464 := by decide
    rw [e] at h2
    omega))
  omega
theorem shifted_is (f : Nat) (half : Bool) (n : Nat) (hf : f < W) (h1 : 1 ≤ n) (h2 : n < 4000000) : flo_shifted.f (f : Int) half (n : Int) = some ((cutE (2 * f + half.toNat) (n + 1) : Nat) : Int) := by
  have hh : half.toNat ≤ 1 := by cases half <;> decide
  unfold flo_shifted.f
  rw [if_pos (Int.natCast_nonneg _)]
  by_cases c : 64 < n
  · rw [if_pos (by omega), cut_far f half.toNat n hf hh c]; rfl
  · have ew : wrap64 ((n : Int) - 1) = ((n - 1 : Nat) : Int) := i64of _ (by omega) (by omega)
    have hq : f / 2 ^ n + 1 < 18446744073709551616 := by
      have := Nat.div_le_div_left (show 2 ≤ 2 ^ n from by
        have := Nat.pow_le_pow_right (show 0 < 2 by decide) h1
        rw [Nat.pow_one] at this; exact this) (show 0 < 2 by decide) (a := f)
      unfold W at hf; omega
    have eq1 : IntKind.u64.wrap (((f / 2 ^ n : Nat) : Int) + 1) = ((f / 2 ^ n + 1 : Nat) : Int) := u64of (f / 2 ^ n + 1) hq
    have hodd := mask_nat (f / 2 ^ n) 1 (by omega) (by decide)
    rw [show ((2 ^ 1 - 1 : Nat) : Int) = 1 from by decide, Nat.pow_one] at hodd
    rw [if_neg (by omega), ew, if_pos (Int.natCast_nonneg _), low_bits f n hf (by omega), shl_one (n - 1) (by omega), shr_is f n (by omega), eq1, hodd, cut_shift f half.toNat n hh h1]
    generalize f / 2 ^ n = q at *
    generalize f % 2 ^ n = r at *
    generalize 2 ^ (n - 1) = m at *
    by_cases a : m < r
    · have ai : (r : Int) > (m : Int) := by omega
      rw [if_pos ai, if_pos (.inl a)]
    · have ai : ¬ (r : Int) > (m : Int) := by omega
      rw [if_neg ai]
      by_cases b : r = m
      · have bi : (r : Int) = (m : Int) := by omega
        rw [if_pos bi]
        cases half
        · rw [if_neg (by simp)]
          by_cases o : q % 2 = 1
          · have oi : ((q % 2 : Nat) : Int) = 1 := by omega
            rw [if_pos oi, if_pos (.inr ⟨b, .inr o⟩)]
          · have oi : ¬ ((q % 2 : Nat) : Int) = 1 := by omega
            rw [if_neg oi, if_neg (by intro h; rcases h with h | ⟨_, h | h⟩; exact a h; cases h; exact o h)]; rfl
        · rw [if_pos rfl, if_pos (.inr ⟨b, .inl rfl⟩)]
      · have bi : ¬ (r : Int) = (m : Int) := by omega
        rw [if_neg bi, if_neg (by intro h; rcases h with h | ⟨h, _⟩; exact a h; exact b h)]; rfl
theorem bitLen_is (x : Nat) (h0 : x ≠ 0) (h : x < W) : Lib.bitLen x = blen x := by
  have hb := Lib.bitLenAux_bounds 64 x (by unfold W at h; exact Nat.lt_of_lt_of_le h (by decide)) h0
  unfold Lib.bitLen
  generalize Lib.bitLenAux 64 x = L at *
  have h1 := blen_le hb.2.2
  have h2 : 2 ^ (L - 1) < 2 ^ blen x := Nat.lt_of_le_of_lt hb.2.1 (blen_lt x)
  have h3 := (Nat.pow_lt_pow_iff_right (by decide : 1 < 2)).1 h2
  omega
theorem len64_is (x k : Nat) (h0 : x ≠ 0) (h : x < W) : bits_Len64.f k (x : Int) = some ((blen x : Nat) : Int) := by
  unfold bits_Len64.f
  rw [if_pos (Int.natCast_nonneg _), if_pos (by unfold W at h; omega), Int.toNat_natCast, bitLen_is x h0 h]

/-! ### the program's Make, from behind -/
theorem make_j3 (neg : Bool) (e : Int) (q : Nat) (hq : q < 9007199254740992) (h0 : -1074 ≤ e) (h1 : e ≤ 2000000) (hz : q = 0 → e ≤ 971) (m : Nat) :
    flo_Make.j3 (m + 1) e (q : Int) ((sgn neg : Nat) : Int) = some ((sgn neg + (if 971 < e then INF else if q < 4503599627370496 then q else (e + 1075).toNat * 4503599627370496 + (q - 4503599627370496)) : Nat) : Int) := by
  rw [flo_Make.j3]
  by_cases z : q = 0
  · have he := hz z
    subst z
    rw [if_pos (show ((0 : Nat) : Int) = 0 from rfl), if_neg (by omega), if_pos (by decide), Nat.add_zero]
  · rw [if_neg (by omega)]
    by_cases c1 : 971 < e
    · have c1g : e > 971 := c1
      rw [if_pos c1g, if_pos c1, show (9218868437227405312 : Int) = ((INF : Nat) : Int) from by rw [cINF]; rfl, or_sgn neg INF INF_lt]
    · have c1g : ¬ e > 971 := c1
      rw [if_neg c1g, if_neg c1]
      by_cases c2 : q < 4503599627370496
      · have c2i : (q : Int) < 4503599627370496 := by omega
        rw [if_pos c2i, if_pos c2, or_sgn neg q (by unfold S63; omega)]
      · have c2i : ¬ (q : Int) < 4503599627370496 := by omega
        rw [if_neg c2i, if_neg c2]
        obtain ⟨n, hn, hn2⟩ : ∃ n : Nat, e + 1075 = (n : Int) ∧ n ≤ 2046 := ⟨(e + 1075).toNat, by omega, by omega⟩
        rw [i64of n hn (by omega), u64of n (by omega), show (e + 1075).toNat = n by omega]
        have e1 : IntKind.u64.wrap ((n : Int) * 4503599627370496) = ((n * 4503599627370496 : Nat) : Int) := by rw [show (n : Int) * 4503599627370496 = ((n * 4503599627370496 : Nat) : Int) from by omega]; exact u64of _ (by omega)
        have hm := mask_nat q 52 (by omega) (by decide)
        rw [show ((2 ^ 52 - 1 : Nat) : Int) = 4503599627370495 from by decide, show (2 : Nat) ^ 52 = 4503599627370496 from by decide] at hm
        have hqd : q % 4503599627370496 = q - 4503599627370496 := by omega
        rw [e1, hm, hqd, or_sgn neg _ (by unfold S63; omega)]
        generalize hd : q - 4503599627370496 = d
        have hd2 : d < 4503599627370496 := by omega
        have key : (sgn neg + n * 4503599627370496) ||| d = sgn neg + n * 4503599627370496 + d := by
          have hs : sgn neg + n * 4503599627370496 = 2 ^ 52 * ((if neg then 2048 else 0) + n) := by
            unfold sgn S63
            rw [show (2 : Nat) ^ 52 = 4503599627370496 from by decide]
            cases neg
            · rw [if_neg (by simp), if_neg (by simp)]; omega
            · rw [if_pos rfl, if_pos rfl]; omega
          rw [hs]; exact (Nat.two_pow_add_eq_or_of_lt (i := 52) (by omega) _).symm
        have hsg : sgn neg ≤ 9223372036854775808 := by unfold sgn S63; split <;> omega
        rw [or_nat _ _ (by omega) (by omega), key, Nat.add_assoc]
theorem make_j2 (neg : Bool) (x n e : Int) (q : Nat) (he : x + n = e) (hq : q ≤ 2 ^ 53) (h0 : -1074 ≤ e) (h1 : e ≤ 1500000) (hz : q = 0 → e ≤ 971) (m : Nat) :
    flo_Make.j2 (m + 2) x (q : Int) ((sgn neg : Nat) : Int) n = some ((sgn neg + wordOf q e : Nat) : Int) := by
  have c1 : (2 : Nat) ^ 53 = 9007199254740992 := by decide
  have c2 : (2 : Nat) ^ 52 = 4503599627370496 := by decide
  have ew : wrap64 (x + n) = e := by rw [he]; exact i64in (by omega) (by omega)
  unfold wordOf
  rw [c1] at hq
  rw [c1, c2, flo_Make.j2, ew]
  dsimp only
  by_cases c : q = 9007199254740992
  · have ci : (q : Int) = 9007199254740992 := by omega
    rw [if_pos ci, if_pos c, if_pos c]
    have := make_j3 neg (e + 1) 4503599627370496 (by decide) (by omega) (by omega) (fun h => by cases h) m
    rw [i64in (n := e + 1) (by omega) (by omega)]
    exact this
  · have ci : ¬ (q : Int) = 9007199254740992 := by omega
    rw [if_neg ci, if_neg c, if_neg c]
    exact make_j3 neg e q (by omega) h0 (by omega) hz m
theorem mx_eq (a b : Int) : mx a b = max a b := by unfold mx; omega
theorem make_j1 (neg : Bool) (exp : Int) (f : Nat) (half : Bool) (h0 : f ≠ 0) (hf : f < W) (he0 : -1048577 ≤ exp) (he1 : exp ≤ 1048577) (m : Nat) :
    flo_Make.j1 (m + 3) exp (f : Int) half ((sgn neg : Nat) : Int) = some ((sgn neg + rung (2 * f + half.toNat) (exp - 1) : Nat) : Int) := by
  have hh : half.toNat ≤ 1 := by cases half <;> decide
  have hb : blen f ≤ 64 := blen_le (by unfold W at hf; exact Nat.lt_of_lt_of_le hf (by decide))
  have hb1 : 1 ≤ blen f := by unfold blen; rw [if_neg h0]; omega
  obtain ⟨n, hn⟩ : ∃ n : Int, n = max ((blen f : Nat) - 53 : Int) (-1074 - exp) := ⟨_, rfl⟩
  have hlast := last_of (v := f) (m := half.toNat) h0 hh exp n hn
  have hM : 2 * f + half.toNat ≠ 0 := by omega
  have e1 : wrap64 (wrap64 (((blen f : Nat) : Int) - 52) - 1) = ((blen f : Nat) : Int) - 53 := by
    rw [i64in (n := ((blen f : Nat) : Int) - 52) (by omega) (by omega), i64in (by omega) (by omega)]; omega
  have e2 : wrap64 (-1074 - exp) = -1074 - exp := i64in (by omega) (by omega)
  have emx : mx (wrap64 (wrap64 (((blen f : Nat) : Int) - 52) - 1)) (wrap64 (-1074 - exp)) = n := by rw [e1, e2, mx_eq, hn]
  have fin : ∀ q : Nat, q = cutE ((2 * f + half.toNat) * 2 ^ (exp - 1 - (exp + n)).toNat) (exp + n - (exp - 1)).toNat → q ≤ 2 ^ 53 ∧ flo_Make.j2 (m + 2) exp (q : Int) ((sgn neg : Nat) : Int) n = some ((sgn neg + rung (2 * f + half.toNat) (exp - 1) : Nat) : Int) := by
    intro q hq
    obtain ⟨hw, hle⟩ := round_word hM hlast hq
    have hlo := (lastOf_ge (2 * f + half.toNat) (exp - 1)).2.1
    rw [hlast] at hlo
    have hz : q = 0 → exp + n ≤ 971 := by
      intro hq0
      obtain ⟨k1, k2⟩ := kept_facts _ (exp - 1) hM
      rw [hlast] at k1 k2
      obtain ⟨_, k4⟩ := kept_gen _ _ _ k1 k2
      rw [← hq, hq0] at k4
      rcases k4 with k4 | k4
      · omega
      · exact absurd k4 (by decide)
    have := make_j2 neg exp n (exp + n) q rfl hle hlo (by omega) hz m
    rw [hw] at this
    exact ⟨hle, this⟩
  rw [show m + 3 = (m + 2) + 1 from rfl, flo_Make.j1, len64_is f (m + 2) h0 hf, Option.bind_some, emx]
  clear emx e1 e2 hlast
  by_cases c : 0 < n
  · obtain ⟨N, rfl⟩ : ∃ N : Nat, n = (N : Int) := ⟨n.toNat, by omega⟩
    have hc : (N : Int) > 0 := c
    rw [if_pos hc, shifted_is f half N hf (by omega) (by omega), Option.bind_some]
    refine (fin _ ?_).2
    rw [show (exp - 1 - (exp + (N : Int))).toNat = 0 by omega, show (exp + (N : Int) - (exp - 1)).toNat = N + 1 by omega, Nat.pow_zero, Nat.mul_one]
  · have hc : ¬ n > 0 := c
    rw [if_neg hc]
    by_cases z : n = 0
    · rw [if_pos z]
      subst z
      have hb53 : f < 2 ^ 53 := Nat.lt_of_lt_of_le (blen_lt f) (Nat.pow_le_pow_right (by decide) (by omega))
      have c1 : (2 : Nat) ^ 53 = 9007199254740992 := by decide
      have a1 : (exp - 1 - (exp + 0)).toNat = 0 := by omega
      have a2 : (exp + 0 - (exp - 1)).toNat = 1 := by omega
      cases half
      · rw [if_neg (by simp)]
        refine (fin f ?_).2
        rw [a1, a2, Nat.pow_zero, Nat.mul_one]
        exact (cutE_one f).symm
      · rw [if_pos rfl]
        have hodd := mask_nat f 1 hf (by decide)
        rw [show ((2 ^ 1 - 1 : Nat) : Int) = 1 from by decide, Nat.pow_one] at hodd
        rw [hodd, show (f : Int) + ((f % 2 : Nat) : Int) = ((f + f % 2 : Nat) : Int) from by omega, u64of _ (by omega)]
        refine (fin (f + f % 2) ?_).2
        rw [a1, a2, Nat.pow_zero, Nat.mul_one, cutE_eq, Nat.pow_one]
        show f + f % 2 = (2 * f + 1) / 2 + _
        have e3 : (2 * f + 1) / 2 = f := by omega
        have e4 : (2 * f + 1) % 2 = 1 := by omega
        have e5 : (2 * f + true.toNat) % 2 = 1 := e4
        have e6 : (2 * f + true.toNat) / 2 = f := e3
        rw [e3, e5, e6]
        by_cases o : f % 2 = 1
        · rw [if_pos (.inr ⟨rfl, o⟩), o]
        · rw [if_neg (by omega)]; omega
    · rw [if_neg z]
      obtain ⟨j, hj⟩ : ∃ j : Nat, -n = (j : Int) + 1 := ⟨(-n - 1).toNat, by omega⟩
      have w1 : wrap64 (-n) = ((j + 1 : Nat) : Int) := i64of _ (by omega) (by omega)
      have w2 : wrap64 (((j + 1 : Nat) : Int) - 1) = (j : Int) := i64of _ (by omega) (by omega)
      have a1 : (exp - 1 - (exp + n)).toNat = j := by omega
      have a2 : (exp + n - (exp - 1)).toNat = 0 := by omega
      have hfin := fin ((2 * f + half.toNat) * 2 ^ j) (by rw [a1, a2, cutE_zero])
      have c1 : (2 : Nat) ^ 53 = 9007199254740992 := by decide
      have hp := Nat.two_pow_pos j
      have hfb : f * 2 ^ (j + 1) < 18446744073709551616 := by
        have h1 : f * 2 ^ (j + 1) ≤ (2 * f + half.toNat) * 2 ^ j := by
          rw [Nat.pow_succ, Nat.mul_comm (2 ^ j), ← Nat.mul_assoc, Nat.mul_comm f 2]
          exact Nat.mul_le_mul_right _ (by omega)
        have h2 := hfin.1
        rw [c1] at h2; omega
      have hj63 : j + 1 < 64 := by omega
      rw [w1, if_pos (Int.natCast_nonneg _), shl_nat f (j + 1) hj63 hfb, w2, if_pos (Int.natCast_nonneg _), shl_one j (by omega)]
      cases half
      · rw [if_neg (by simp)]
        have e : f * 2 ^ (j + 1) = (2 * f + false.toNat) * 2 ^ j := by
          rw [Nat.pow_succ, Nat.mul_comm (2 ^ j), ← Nat.mul_assoc, Nat.mul_comm f 2]; rfl
        rw [e]; exact hfin.2
      · rw [if_pos rfl]
        have hlt : 2 ^ j < 18446744073709551616 := Nat.lt_of_lt_of_le (Nat.pow_lt_pow_right (by decide) (by omega : j < 64)) (by decide)
        have e : f * 2 ^ (j + 1) ||| 2 ^ j = (2 * f + true.toNat) * 2 ^ j := by
          have h1 := Nat.two_pow_add_eq_or_of_lt (i := j + 1) (b := 2 ^ j) (Nat.pow_lt_pow_right (by decide) (Nat.lt_succ_self j)) f
          rw [Nat.mul_comm f, ← h1, Nat.pow_succ, show true.toNat = 1 from rfl, Nat.add_mul, Nat.one_mul]
          congr 1
          generalize 2 ^ j = g
          ac_rfl
        rw [or_nat _ _ hfb hlt, e]; exact hfin.2
theorem make_is (neg : Bool) (exp : Int) (f : Nat) (half : Bool) (hf : f < W) : flo_Make.f 8 neg exp (f : Int) half = some ((makeW neg exp f half : Nat) : Int) := by
  have hs : (if neg = true then flo_Make.j0 8 exp (f : Int) half 9223372036854775808 else flo_Make.j0 8 exp (f : Int) half 0) = flo_Make.j0 8 exp (f : Int) half ((sgn neg : Nat) : Int) := by cases neg <;> rfl
  obtain ⟨c, hc⟩ : ∃ c : Int, c = mn (mx exp (-1048576)) 1048576 := ⟨_, rfl⟩
  have hc2 : c = min (max exp (-1048576)) 1048576 := by rw [hc, mx_eq]; unfold mn; omega
  unfold flo_Make.f
  rw [hs, show (8 : Nat) = 7 + 1 from rfl, flo_Make.j0, ← hc]
  unfold makeW
  by_cases z : f = 0
  · subst z
    rw [if_pos (show ((0 : Nat) : Int) = 0 from rfl)]
    cases half
    · rw [if_neg (by simp), show 2 * 0 + false.toNat = 0 from rfl, rung_zero, Nat.add_zero]
    · rw [if_pos rfl]
      have := make_j1 neg (c - 1) 1 false (by decide) (by decide) (by omega) (by omega) 4
      have e : rung (2 * 1 + false.toNat) (c - 1 - 1) = rung (2 * 0 + true.toNat) (exp - 1) := by
        rw [rung_twice]
        show rung 1 (c - 1) = rung 1 (exp - 1)
        exact rung_clamp (by decide) exp c (by omega)
      rw [e] at this
      exact this
  · rw [if_neg (by omega)]
    have := make_j1 neg c f half z hf (by omega) (by omega) 4
    rw [rung_clamp (M_lt hf half) exp c (by omega)] at this
    exact this
end Go.Proofs.Ytonbbjgcnfipeaa.Dig
