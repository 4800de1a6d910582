/- What the document's Kind, Neg, Parts, Less, Equal (minstrelref01) compute, by a word's sign and rung. Condition: the word has 64 bits. -/
import Derived.Test.YteghlmcafhhkcaaDigits
import Derived.Test.YteghlmcafhhkcaaPlain
namespace Go.Proofs.Yteghlmcafhhkcaa.Dig
open Go.RowKit Go.Proofs.Yteghlmcafhhkcaa.Ref Go.Proofs.YteghlmcafhhkcaaW.PrintWords Go.Proofs.YteghlmcafhhkcaaW.PrintLast Go.Proofs.YteghlmcafhhkcaaW.PrintMore
open Go.Proofs.Yteghlmcafhhkcaa.Num Go.Proofs.Yteghlmcafhhkcaa.DigLaw Go.Proofs.Yteghlmcafhhkcaa.Fl

def W : Nat := 18446744073709551616
/-- 0 zero, 1 tiny, 2 plain, 3 infinite, 4 NaN -/
def kindN (a : Nat) : Nat := if INF < rg a then 4 else if rg a = INF then 3 else if rg a = 0 then 0 else if rg a < 2 ^ 52 then 1 else 2
theorem c52 : (2 : Nat) ^ 52 = 4503599627370496 := by decide
theorem c63 : (2 : Nat) ^ 63 = 9223372036854775808 := by decide
theorem cINF : INF = 9218868437227405312 := by unfold INF; decide
theorem field_exp (a : Nat) (h : a < W) : Go.bits .and .u64 ((a : Int) / 4503599627370496) 2047 = ((rg a / 4503599627370496 : Nat) : Int) := by
  unfold W at h
  rw [show (a : Int) / 4503599627370496 = ((a / 4503599627370496 : Nat) : Int) from by omega]
  have := mask_nat (a / 4503599627370496) 11 (by omega) (by decide)
  rw [show ((2 ^ 11 - 1 : Nat) : Int) = 2047 from by decide, show (2 : Nat) ^ 11 = 2048 from by decide] at this
  rw [this]; unfold rg; rw [c63]; omega
theorem field_frac (a : Nat) (h : a < W) : Go.bits .and .u64 (a : Int) 4503599627370495 = ((rg a % 4503599627370496 : Nat) : Int) := by
  unfold W at h
  have := mask_nat a 52 h (by decide)
  rw [show ((2 ^ 52 - 1 : Nat) : Int) = 4503599627370495 from by decide, c52] at this
  rw [this]; unfold rg; rw [c63]; omega
theorem rg_lt (a : Nat) : rg a < 9223372036854775808 := by unfold rg; rw [c63]; exact Nat.mod_lt _ (by decide)
theorem word_split (a : Nat) (h : a < W) : a = sgn (sg a) + rg a := by
  unfold W at h
  unfold sgn sg rg S63
  rw [c63]
  by_cases c : a / 9223372036854775808 % 2 = 1
  · rw [if_pos (by rw [c]; rfl)]; omega
  · rw [if_neg (by rw [beq_iff_eq]; exact c)]; omega
theorem sg_word (s : Bool) (r : Nat) (h : r < 9223372036854775808) : sg (sgn s + r) = s ∧ rg (sgn s + r) = r ∧ sgn s + r < W := by
  unfold sg rg sgn S63 W
  rw [c63]
  cases s
  · rw [if_neg (by simp)]
    refine ⟨?_, by omega, by omega⟩
    rw [beq_eq_false_iff_ne]; omega
  · rw [if_pos rfl]
    refine ⟨?_, by omega, by omega⟩
    rw [beq_iff_eq]; omega
theorem neg_is (a : Nat) (h : a < W) : minstrelref01_Neg.f (a : Int) = some (sg a) := by
  unfold W at h
  unfold minstrelref01_Neg.f sg
  rw [c63]
  congr 1
  by_cases c : a / 9223372036854775808 % 2 = 1
  · rw [beq_iff_eq.2 c, beq_iff_eq]; omega
  · rw [beq_eq_false_iff_ne.2 c, beq_eq_false_iff_ne]; omega
theorem kind_is (a : Nat) (h : a < W) : Ev (fun k => minstrelref01_Kind.f k (a : Int)) ((kindN a : Nat) : Int) := by
  have hr := rg_lt a
  have fe := field_exp a h
  have ff := field_frac a h
  have hI := cINF
  unfold kindN
  rw [c52]
  refine Ev.congr (f := fun k => minstrelref01_Kind.j0 k ((rg a / 4503599627370496 : Nat) : Int) ((rg a % 4503599627370496 : Nat) : Int) (decide (INF < rg a))) (fun k => ?_) ?_
  · unfold minstrelref01_Kind.f
    rw [fe, ff]
    by_cases c : rg a / 4503599627370496 = 2047
    · rw [if_pos (by omega)]
      congr 1
      by_cases z : rg a % 4503599627370496 = 0
      · rw [decide_eq_false (by omega), z]; rfl
      · rw [decide_eq_true (by omega), bne_iff_ne]; omega
    · rw [if_neg (by omega), decide_eq_false (by omega)]
  · by_cases c4 : INF < rg a
    · rw [if_pos c4]
      refine Ev.step (f := fun _ => some 4) (fun k => ?_) (Ev.now _)
      rw [minstrelref01_Kind.j0, decide_eq_true c4, if_pos rfl]
    · rw [if_neg c4]
      by_cases c3 : rg a = INF
      · rw [if_pos c3]
        refine Ev.step (f := fun _ => some 3) (fun k => ?_) (Ev.now _)
        rw [minstrelref01_Kind.j0, decide_eq_false c4, if_neg (by simp), if_pos (by omega)]
      · rw [if_neg c3]
        by_cases c0 : rg a = 0
        · rw [if_pos c0]
          refine Ev.step (f := fun k => minstrelref01_Kind.j1 k ((rg a / 4503599627370496 : Nat) : Int) true) (fun k => ?_) (Ev.step (f := fun _ => some 0) (fun k => ?_) (Ev.now _))
          · rw [minstrelref01_Kind.j0, decide_eq_false c4, if_neg (by simp), if_neg (by omega), if_pos (by omega), c0]; rfl
          · rw [minstrelref01_Kind.j1, if_pos rfl]
        · rw [if_neg c0]
          by_cases c1 : rg a < 4503599627370496
          · rw [if_pos c1]
            refine Ev.step (f := fun k => minstrelref01_Kind.j1 k ((rg a / 4503599627370496 : Nat) : Int) false) (fun k => ?_) (Ev.step (f := fun _ => some 1) (fun k => ?_) (Ev.now _))
            · rw [minstrelref01_Kind.j0, decide_eq_false c4, if_neg (by simp), if_neg (by omega), if_pos (by omega), beq_eq_false_iff_ne.2 (by omega)]
            · rw [minstrelref01_Kind.j1, if_neg (by simp), if_pos (by omega)]
          · rw [if_neg c1]
            refine Ev.step (f := fun k => minstrelref01_Kind.j1 k ((rg a / 4503599627370496 : Nat) : Int) false) (fun k => ?_) (Ev.step (f := fun _ => some 2) (fun k => ?_) (Ev.now _))
            · rw [minstrelref01_Kind.j0, decide_eq_false c4, if_neg (by simp), if_neg (by omega), if_neg (by omega)]
            · rw [minstrelref01_Kind.j1, if_neg (by simp), if_neg (by omega)]
/-- a word's exponent and fraction -/
def expN (a : Nat) : Int := if kindN a = 1 then -1074 else if kindN a = 2 then ((rg a / 4503599627370496 : Nat) : Int) - 1075 else 0
def fracN (a : Nat) : Nat := if kindN a = 1 then rg a else if kindN a = 2 then rg a % 4503599627370496 + 4503599627370496 else 0
theorem kind_facts (a : Nat) : (kindN a = 4 ∧ INF < rg a) ∨ (kindN a = 3 ∧ rg a = INF) ∨ (kindN a = 0 ∧ rg a = 0) ∨ (kindN a = 1 ∧ 0 < rg a ∧ rg a < 4503599627370496) ∨ (kindN a = 2 ∧ 4503599627370496 ≤ rg a ∧ rg a < INF) := by
  unfold kindN
  rw [c52]
  by_cases c4 : INF < rg a
  · left; exact ⟨if_pos c4, c4⟩
  · rw [if_neg c4]
    by_cases c3 : rg a = INF
    · right; left; exact ⟨if_pos c3, c3⟩
    · rw [if_neg c3]
      by_cases c0 : rg a = 0
      · right; right; left; exact ⟨if_pos c0, c0⟩
      · rw [if_neg c0]
        by_cases c1 : rg a < 4503599627370496
        · right; right; right; left; exact ⟨if_pos c1, by omega, c1⟩
        · right; right; right; right; exact ⟨if_neg c1, by omega, by omega⟩
theorem ef_other (a : Nat) (h1 : kindN a ≠ 1) (h2 : kindN a ≠ 2) : expN a = 0 ∧ fracN a = 0 := by
  unfold expN fracN; rw [if_neg h1, if_neg h2, if_neg h1, if_neg h2]; exact ⟨rfl, rfl⟩
theorem ef_tiny (a : Nat) (h : kindN a = 1) : expN a = -1074 ∧ fracN a = rg a := by
  unfold expN fracN; rw [if_pos h, if_pos h]; exact ⟨rfl, rfl⟩
theorem ef_plain (a : Nat) (h : kindN a = 2) : expN a = ((rg a / 4503599627370496 : Nat) : Int) - 1075 ∧ fracN a = rg a % 4503599627370496 + 4503599627370496 := by
  have h1 : kindN a ≠ 1 := by rw [h]; decide
  unfold expN fracN; rw [if_neg h1, if_pos h, if_neg h1, if_pos h]; exact ⟨rfl, rfl⟩
/-- the five kinds: parts and rungs -/
theorem ef_cases (a : Nat) : (kindN a ≠ 1 ∧ kindN a ≠ 2 ∧ expN a = 0 ∧ fracN a = 0 ∧ (rg a = 0 ∨ INF ≤ rg a)) ∨ (kindN a = 1 ∧ expN a = -1074 ∧ fracN a = rg a ∧ 0 < rg a ∧ rg a < 4503599627370496) ∨ (kindN a = 2 ∧ expN a = ((rg a / 4503599627370496 : Nat) : Int) - 1075 ∧ fracN a = rg a % 4503599627370496 + 4503599627370496 ∧ 4503599627370496 ≤ rg a ∧ rg a < INF) := by
  rcases kind_facts a with ⟨hk, hf⟩ | ⟨hk, hf⟩ | ⟨hk, hf⟩ | ⟨hk, hf⟩ | ⟨hk, hf⟩
  · left
    have h1 : kindN a ≠ 1 := by rw [hk]; decide
    have h2 : kindN a ≠ 2 := by rw [hk]; decide
    exact ⟨h1, h2, (ef_other a h1 h2).1, (ef_other a h1 h2).2, Or.inr (Nat.le_of_lt hf)⟩
  · left
    have h1 : kindN a ≠ 1 := by rw [hk]; decide
    have h2 : kindN a ≠ 2 := by rw [hk]; decide
    exact ⟨h1, h2, (ef_other a h1 h2).1, (ef_other a h1 h2).2, Or.inr (Nat.le_of_eq hf.symm)⟩
  · left
    have h1 : kindN a ≠ 1 := by rw [hk]; decide
    have h2 : kindN a ≠ 2 := by rw [hk]; decide
    exact ⟨h1, h2, (ef_other a h1 h2).1, (ef_other a h1 h2).2, Or.inl hf⟩
  · right; left; exact ⟨hk, (ef_tiny a hk).1, (ef_tiny a hk).2, hf.1, hf.2⟩
  · right; right; exact ⟨hk, (ef_plain a hk).1, (ef_plain a hk).2, hf.1, hf.2⟩
theorem parts_is (a : Nat) (h : a < W) : Ev (fun k => minstrelref01_Parts.f k (a : Int)) (sg a, expN a, ((fracN a : Nat) : Int)) := by
  have hr := rg_lt a
  have hI := cINF
  refine Ev.bind (kind_is a h) ?_
  refine Ev.congr (f := fun _ => some (sg a, expN a, ((fracN a : Nat) : Int))) (fun k => ?_) (Ev.now _)
  rw [field_frac a h, field_exp a h, neg_is a h]
  simp only [Option.bind_some]
  rcases ef_cases a with ⟨h1, h2, he, hf, _⟩ | ⟨hk, he, hf, h3, h4⟩ | ⟨hk, he, hf, h3, h4⟩
  · rw [if_neg (by omega), if_neg (by omega), he, hf]; rfl
  · rw [if_pos (by omega), he, hf, Nat.mod_eq_of_lt h4]
  · rw [if_neg (by omega), if_pos (by omega), he, hf]
    rw [i64of (rg a / 4503599627370496) rfl (by omega), i64in (by omega) (by omega)]
    rw [show ((rg a % 4503599627370496 : Nat) : Int) + 4503599627370496 = ((rg a % 4503599627370496 + 4503599627370496 : Nat) : Int) from rfl, u64of _ (by omega)]
theorem frac_lt (a : Nat) : fracN a < 9007199254740992 := by
  rcases ef_cases a with ⟨h1, h2, he, hf, _⟩ | ⟨hk, he, hf, h3, h4⟩ | ⟨hk, he, hf, h3, h4⟩
  · rw [hf]; decide
  · rw [hf]; omega
  · rw [hf]; omega
theorem exp_range (a : Nat) : -1074 ≤ expN a ∧ expN a ≤ 971 := by
  have hI := cINF
  rcases ef_cases a with ⟨h1, h2, he, hf, _⟩ | ⟨hk, he, hf, h3, h4⟩ | ⟨hk, he, hf, h3, h4⟩
  · rw [he]; omega
  · rw [he]; omega
  · rw [he]; omega
/-- a finite word's parts make its number -/
theorem frac_V (a : Nat) (hfin : rg a < INF) : fracN a * 2 ^ (expN a + 1074).toNat = V (rg a) := by
  rcases ef_cases a with ⟨h1, h2, he, hf, h0⟩ | ⟨hk, he, hf, h3, h4⟩ | ⟨hk, he, hf, h3, h4⟩
  · have hr : rg a = 0 := by omega
    rw [hf, hr, Nat.zero_mul, V_small (by rw [c52]; decide)]
  · rw [he, hf, V_small (by rw [c52]; exact h4), show ((-1074 : Int) + 1074).toNat = 0 from rfl, Nat.pow_zero, Nat.mul_one]
  · rw [he, hf]
    unfold V
    rw [c52, if_neg (by omega), Nat.add_comm 4503599627370496]
    congr 2; omega
end Go.Proofs.Yteghlmcafhhkcaa.Dig

/- Plain law: the kinds of words, and products where an operand is no finite number. -/
namespace Go.Proofs.Yteghlmcafhhkcaa.Dig
open Go.RowKit Go.Proofs.Yteghlmcafhhkcaa.Ref Go.Proofs.YteghlmcafhhkcaaW.PrintWords Go.Proofs.YteghlmcafhhkcaaW.PrintLast Go.Proofs.YteghlmcafhhkcaaW.PrintMore
open Go.Proofs.Yteghlmcafhhkcaa.Num Go.Proofs.Yteghlmcafhhkcaa.DigLaw Go.Proofs.Yteghlmcafhhkcaa.Fl
open Ieee (double)

def NANW : Nat := 9221120237041090560
def mulW (a b : Nat) : Nat := (double.mul a b).getD NANW
def addW (a b : Nat) : Nat := (double.add a b).getD NANW

theorem kind_vals (a : Nat) : kindN a = 0 ∨ kindN a = 1 ∨ kindN a = 2 ∨ kindN a = 3 ∨ kindN a = 4 := by
  rcases kind_facts a with ⟨hk, _⟩ | ⟨hk, _⟩ | ⟨hk, _⟩ | ⟨hk, _⟩ | ⟨hk, _⟩ <;> rw [hk] <;> decide
theorem nan_kind (a : Nat) : kindN a = 4 ↔ INF < rg a := by
  rcases kind_facts a with ⟨hk, h⟩ | ⟨hk, h⟩ | ⟨hk, h⟩ | ⟨hk, h⟩ | ⟨hk, h⟩ <;> rw [hk]
  · exact ⟨fun _ => h, fun _ => rfl⟩
  · exact ⟨fun e => by omega, fun e => by omega⟩
  · exact ⟨fun e => by omega, fun e => by omega⟩
  · have := cINF; exact ⟨fun e => by omega, fun e => by omega⟩
  · exact ⟨fun e => by omega, fun e => by omega⟩
theorem inf_kind (a : Nat) : kindN a = 3 ↔ rg a = INF := by
  rcases kind_facts a with ⟨hk, h⟩ | ⟨hk, h⟩ | ⟨hk, h⟩ | ⟨hk, h⟩ | ⟨hk, h⟩ <;> rw [hk]
  · exact ⟨fun e => by omega, fun e => by omega⟩
  · exact ⟨fun _ => h, fun _ => rfl⟩
  · have := cINF; exact ⟨fun e => by omega, fun e => by omega⟩
  · have := cINF; exact ⟨fun e => by omega, fun e => by omega⟩
  · exact ⟨fun e => by omega, fun e => by omega⟩
theorem zero_kind (a : Nat) : kindN a = 0 ↔ rg a = 0 := by
  have hI := cINF
  rcases kind_facts a with ⟨hk, h⟩ | ⟨hk, h⟩ | ⟨hk, h⟩ | ⟨hk, h⟩ | ⟨hk, h⟩ <;> rw [hk]
  · exact ⟨fun e => by omega, fun e => by omega⟩
  · exact ⟨fun e => by omega, fun e => by omega⟩
  · exact ⟨fun _ => h, fun _ => rfl⟩
  · exact ⟨fun e => by omega, fun e => by omega⟩
  · exact ⟨fun e => by omega, fun e => by omega⟩
theorem fin_kind (a : Nat) : kindN a < 3 ↔ rg a < INF := by
  have hI := cINF
  rcases kind_facts a with ⟨hk, h⟩ | ⟨hk, h⟩ | ⟨hk, h⟩ | ⟨hk, h⟩ | ⟨hk, h⟩ <;> rw [hk]
  · exact ⟨fun e => by omega, fun e => by omega⟩
  · exact ⟨fun e => by omega, fun e => by omega⟩
  · exact ⟨fun e => by omega, fun e => by omega⟩
  · exact ⟨fun e => by omega, fun e => by omega⟩
  · exact ⟨fun e => by omega, fun e => by omega⟩
theorem xor_bne (s t : Bool) : (s != t) = (s ^^ t) := by cases s <;> cases t <;> rfl

/-! ### Mul -/
theorem mul_nan {a b : Nat} (h : INF < rg a ∨ INF < rg b) : double.mul a b = none := by
  unfold Ieee.Format.mul
  rcases h with h | h
  · rw [read_nan h]; rfl
  · rw [read_nan h]; cases double.read a <;> rfl
theorem read_zero {a : Nat} (h : rg a = 0) : double.read a = .number (sg a) 0 (-1074) := by
  rw [read_eq, h, if_pos (by decide)]
theorem mul_zi {a b : Nat} (ha : rg a = 0) (hb : rg b = INF) : double.mul a b = none := by
  unfold Ieee.Format.mul; rw [read_zero ha, read_inf hb]; rfl
theorem mul_iz {a b : Nat} (ha : rg a = INF) (hb : rg b = 0) : double.mul a b = none := by
  unfold Ieee.Format.mul; rw [read_inf ha, read_zero hb]; rfl
theorem mag_pos {a m : Nat} {p : Int} (h : rg a ≠ 0) (hv : m * 2 ^ (p + 1074).toNat = V (rg a)) : m ≠ 0 := by
  intro e; rw [e, Nat.zero_mul] at hv
  have h1 := V_strict (a := 0) (b := rg a) (by omega)
  omega
theorem mul_ii {a b : Nat} (ha : rg a = INF) (hb : rg b = INF) : double.mul a b = some (double.word (sg a ^^ sg b) INF) := by
  unfold Ieee.Format.mul; rw [read_inf ha, read_inf hb, ← infRung_eq]; rfl
theorem mul_if {a b : Nat} (ha : rg a = INF) (hb : rg b < INF) (h0 : rg b ≠ 0) : double.mul a b = some (double.word (sg a ^^ sg b) INF) := by
  obtain ⟨m, p, e, _, hv⟩ := read_fin hb
  unfold Ieee.Format.mul
  rw [read_inf ha, e, ← infRung_eq]
  simp only [Ieee.Datum.product, if_neg (mag_pos h0 hv)]; rfl
theorem mul_fi {a b : Nat} (hb : rg b = INF) (ha : rg a < INF) (h0 : rg a ≠ 0) : double.mul a b = some (double.word (sg a ^^ sg b) INF) := by
  obtain ⟨m, p, e, _, hv⟩ := read_fin ha
  unfold Ieee.Format.mul
  rw [read_inf hb, e, ← infRung_eq]
  simp only [Ieee.Datum.product, if_neg (mag_pos h0 hv)]
  rw [Bool.xor_comm]; rfl

end Go.Proofs.Yteghlmcafhhkcaa.Dig

/- Plain law: turning a sign about; products in either order, and with a sign turned about. -/
namespace Go.Proofs.Yteghlmcafhhkcaa.Dig
open Go.RowKit Go.Proofs.Yteghlmcafhhkcaa.Num Go.Proofs.Yteghlmcafhhkcaa.DigLaw Go.Proofs.Yteghlmcafhhkcaa.Fl
open Ieee (double Datum)

def flipW (a : Nat) : Nat := sgn (!sg a) + rg a
def negW (a : Nat) : Nat := if kindN a = 4 then NANW else flipW a
theorem xor_top (r : Nat) (h : r < 9223372036854775808) : r ^^^ 9223372036854775808 = 9223372036854775808 + r := by
  have e : (9223372036854775808 : Nat) = 2 ^ 63 := by decide
  rw [e] at h ⊢
  have h1 := Nat.two_pow_add_eq_or_of_lt h 1
  rw [Nat.mul_one] at h1
  rw [h1]
  apply Nat.eq_of_testBit_eq
  intro i
  rw [Nat.testBit_xor, Nat.testBit_or, Nat.testBit_two_pow]
  by_cases c : 63 = i
  · subst c
    rw [Nat.testBit_lt_two_pow h]; simp
  · simp [c]
theorem flip_xor (a : Nat) (h : a < W) : Go.bits .xor .u64 (a : Int) 9223372036854775808 = ((flipW a : Nat) : Int) := by
  have hw := word_split a h
  have hr := rg_lt a
  unfold W at h
  rw [show (9223372036854775808 : Int) = ((9223372036854775808 : Nat) : Int) from rfl, xor_nat _ _ h (by decide)]
  congr 1
  unfold flipW
  generalize rg a = r at *
  generalize sg a = s at *
  subst hw
  cases s
  · unfold sgn S63
    rw [if_neg (by simp), Nat.zero_add, xor_top r hr]; rfl
  · unfold sgn S63
    rw [if_pos rfl, ← xor_top r hr, Nat.xor_assoc, Nat.xor_self, Nat.xor_zero]; simp
theorem flip_facts (a : Nat) : sg (flipW a) = !sg a ∧ rg (flipW a) = rg a ∧ flipW a < W := sg_word _ _ (rg_lt a)
theorem word_facts (s : Bool) {r : Nat} (h : r ≤ INF) : sg (double.word s r) = s ∧ rg (double.word s r) = r ∧ double.word s r < W := by
  rw [word_eq]
  have h2 := INF_lt
  exact sg_word s r (by unfold S63 at h2; omega)
theorem word_ext {a b : Nat} (ha : a < W) (hb : b < W) (h1 : sg a = sg b) (h2 : rg a = rg b) : a = b := by
  rw [word_split a ha, word_split b hb, h1, h2]
theorem nanw_facts : rg NANW = 9221120237041090560 ∧ sg NANW = false ∧ NANW < W ∧ kindN NANW = 4 := by decide +kernel
theorem read_flip (a : Nat) : double.read (flipW a) = (double.read a).opposite := by
  obtain ⟨h1, h2, _⟩ := flip_facts a
  rw [read_eq, read_eq, h1, h2]
  split
  · rfl
  · split
    · rfl
    · split <;> rfl
theorem product_comm (x y : Datum) : x.product y = y.product x := by
  cases x <;> cases y <;> simp only [Datum.product]
  · rw [Bool.xor_comm, Nat.mul_comm, Int.add_comm]
  · rw [Bool.xor_comm]
theorem mul_comm' (a b : Nat) : mulW a b = mulW b a := by
  unfold mulW Ieee.Format.mul; rw [product_comm]
theorem xor_not (s t : Bool) : ((!s) ^^ t) = !(s ^^ t) := by cases s <;> cases t <;> rfl
theorem product_opp (x y : Datum) : x.opposite.product y = (x.product y).map Datum.opposite := by
  cases x <;> cases y <;> simp only [Datum.opposite, Datum.product, Option.map_some, Option.map_none, xor_not]
  · split
    · rfl
    · simp only [Option.map_some, Datum.opposite, Bool.xor_comm]
      rw [Bool.xor_comm]
      simp
  · split
    · rfl
    · simp only [Option.map_some, Datum.opposite]
theorem word_not (s : Bool) {r : Nat} (h : r ≤ INF) : double.word (!s) r = flipW (double.word s r) := by
  obtain ⟨h1, h2, _⟩ := word_facts s h
  unfold flipW; rw [h1, h2, word_eq]
theorem write_opp (d : Datum) (h : d.isNaN = false) : double.write d.opposite = flipW (double.write d) := by
  cases d with
  | number s m p =>
    unfold Datum.opposite
    rw [write_number, write_number, word_not s (rung_le_inf m p)]
  | infinity s =>
    unfold Datum.opposite Ieee.Format.write
    rw [infRung_eq]; exact word_not s (Nat.le_refl _)
  | nan s f => cases h
theorem product_num {x y d : Datum} (h : x.product y = some d) : d.isNaN = false := by
  cases d with
  | number s m p => rfl
  | infinity s => rfl
  | nan s f =>
    exfalso
    cases x <;> cases y <;> simp only [Datum.product] at h <;> try (split at h) <;> cases h
    all_goals cases h
theorem not_nan_of_le {a : Nat} (h : rg a ≤ INF) : kindN a ≠ 4 := fun e => by have := (nan_kind a).1 e; omega
theorem write_num (d : Datum) (h : d.isNaN = false) : rg (double.write d) ≤ INF ∧ double.write d < W := by
  cases d with
  | number s m p => rw [write_number, (word_facts s (rung_le_inf m p)).2.1]; exact ⟨rung_le_inf m p, (word_facts s (rung_le_inf m p)).2.2⟩
  | infinity s =>
    unfold Ieee.Format.write
    rw [infRung_eq, (word_facts s (Nat.le_refl INF)).2.1]; exact ⟨Nat.le_refl _, (word_facts s (Nat.le_refl INF)).2.2⟩
  | nan s f => cases h
theorem neg_nan {a : Nat} (h : INF < rg a) : negW a = NANW := by unfold negW; rw [if_pos ((nan_kind a).2 h)]
theorem neg_num {a : Nat} (h : rg a ≤ INF) : negW a = flipW a := by unfold negW; rw [if_neg (not_nan_of_le h)]
theorem nanw_nan : INF < rg NANW := by rw [nanw_facts.1, cINF]; decide
theorem mul_neg (a b : Nat) : mulW (negW a) b = negW (mulW a b) := by
  rcases Nat.lt_or_ge INF (rg a) with h | h
  · rw [neg_nan h]
    unfold mulW
    rw [mul_nan (.inl h), mul_nan (.inl nanw_nan)]
    exact (neg_nan nanw_nan).symm
  · rw [neg_num h]
    unfold mulW Ieee.Format.mul
    rw [read_flip, product_opp]
    cases hd : (double.read a).product (double.read b) with
    | none => exact (neg_nan nanw_nan).symm
    | some d =>
      have hn := product_num hd
      show double.write d.opposite = negW (double.write d)
      rw [write_opp d hn, neg_num (write_num d hn).1]
theorem neg_lt (a : Nat) : negW a < W := by
  unfold negW; split
  · exact nanw_facts.2.2.1
  · exact (flip_facts a).2.2
theorem mul_lt (a b : Nat) : mulW a b < W := by
  unfold mulW Ieee.Format.mul
  cases hd : (double.read a).product (double.read b) with
  | none => exact nanw_facts.2.2.1
  | some d => exact (write_num d (product_num hd)).2
end Go.Proofs.Yteghlmcafhhkcaa.Dig

/- What the document's Exact, Sum, Add, Sub (minstrelref02) compute: IEEE 754's sums, with one NaN. Condition: the words have 64 bits. -/
namespace Go.Proofs.Yteghlmcafhhkcaa.Dig
open Go.RowKit Go.Proofs.Yteghlmcafhhkcaa.Ref Go.Proofs.YteghlmcafhhkcaaW.PrintWords Go.Proofs.YteghlmcafhhkcaaW.PrintLast Go.Proofs.YteghlmcafhhkcaaW.PrintMore
open Go.Proofs.Yteghlmcafhhkcaa.Num Go.Proofs.Yteghlmcafhhkcaa.DigLaw Go.Proofs.Yteghlmcafhhkcaa.Fl
open Ieee (double Datum)

/-! ### Exact -/
def lowN (a b : Nat) : Int := if expN b < expN a then expN b else expN a
def xN (a b : Nat) : Nat := fracN a * 2 ^ (expN a - lowN a b).toNat
def yN (a b : Nat) : Nat := fracN b * 2 ^ (expN b - lowN a b).toNat
def exNeg (a b : Nat) : Bool := if sg a = sg b then sg a else if yN a b ≤ xN a b then sg a else sg b
def exMag (a b : Nat) : Nat := if sg a = sg b then xN a b + yN a b else if yN a b ≤ xN a b then xN a b - yN a b else yN a b - xN a b
theorem low_facts (a b : Nat) : lowN a b ≤ expN a ∧ lowN a b ≤ expN b ∧ -1074 ≤ lowN a b ∧ lowN a b ≤ 971 := by
  have ea := exp_range a
  have eb := exp_range b
  unfold lowN; split <;> omega
theorem sn_f (n : Nat) : sn false n = (n : Int) := rfl
theorem sn_t (n : Nat) : sn true n = -(n : Int) := rfl
theorem sn_add_ne {s t : Bool} (h : s ≠ t) (x y : Nat) : sn s x + sn t y = if y ≤ x then sn s (x - y) else sn t (y - x) := by
  cases s <;> cases t
  · exact absurd rfl h
  · rw [sn_f, sn_t, sn_f, sn_t]; split <;> omega
  · rw [sn_t, sn_f, sn_t, sn_f]; split <;> omega
  · exact absurd rfl h
theorem sn_add_eq (s : Bool) (x y : Nat) : sn s x + sn s y = sn s (x + y) := by
  unfold sn; cases s
  · rw [if_neg (by simp), if_neg (by simp), if_neg (by simp)]; omega
  · rw [if_pos rfl, if_pos rfl, if_pos rfl]; omega
theorem ex_sum (a b : Nat) : sn (exNeg a b) (exMag a b) = sn (sg a) (xN a b) + sn (sg b) (yN a b) := by
  unfold exNeg exMag
  by_cases h : sg a = sg b
  · rw [if_pos h, if_pos h, ← h, sn_add_eq]
  · rw [if_neg h, if_neg h, sn_add_ne h]; split <;> rfl
theorem x_Vi (a b : Nat) (fa : rg a < INF) : sn (sg a) (xN a b) * ((2 ^ (lowN a b + 1074).toNat : Nat) : Int) = Vi a :=
  at_base (low_facts a b).1 (low_facts a b).2.2.1 (frac_V a fa)
theorem y_Vi (a b : Nat) (fb : rg b < INF) : sn (sg b) (yN a b) * ((2 ^ (lowN a b + 1074).toNat : Nat) : Int) = Vi b :=
  at_base (low_facts a b).2.1 (low_facts a b).2.2.1 (frac_V b fb)
/-- THE SUM, WITHOUT ROUNDING. -/
theorem ex_Vi (a b : Nat) (fa : rg a < INF) (fb : rg b < INF) : sn (exNeg a b) (exMag a b * 2 ^ (lowN a b + 1074).toNat) = Vi a + Vi b := by
  rw [sn_mul, ex_sum, Int.add_mul, x_Vi a b fa, y_Vi a b fb]
def E98 : Nat := 2098
theorem E98_eq : E98 = 2098 := rfl
theorem up_lt (f : Nat) (h : f < 9007199254740992) (n : Nat) (hn : n ≤ 2045) : f * 2 ^ n < 2 ^ E98 := by
  have hE := E98_eq
  have h1 : f < 2 ^ 53 := Nat.lt_of_lt_of_le h (by decide)
  calc f * 2 ^ n < 2 ^ 53 * 2 ^ n := Nat.mul_lt_mul_of_pos_right h1 (Nat.two_pow_pos n)
    _ = 2 ^ (53 + n) := by rw [← Nat.pow_add]
    _ ≤ 2 ^ E98 := Nat.pow_le_pow_right (by decide) (by omega)
def E200 : Nat := 200
theorem dig_len (n : Nat) (h : n < 2 ^ (E98 + 1)) : (dig n).length ≤ 200 :=
  dig_length' (k := E200) (Nat.lt_of_lt_of_le h (Nat.pow_le_pow_right (by decide) (by unfold E98 E200; decide)))
theorem x_lt (a b : Nat) : xN a b < 2 ^ E98 := by
  have ea := exp_range a
  have hl := low_facts a b
  exact up_lt _ (frac_lt a) _ (by omega)
theorem y_lt (a b : Nat) : yN a b < 2 ^ E98 := by
  have eb := exp_range b
  have hl := low_facts a b
  exact up_lt _ (frac_lt b) _ (by omega)
theorem ex_lt (a b : Nat) : exMag a b < 2 ^ (E98 + 1) := by
  have hx := x_lt a b
  have hy := y_lt a b
  have e : 2 ^ (E98 + 1) = 2 * 2 ^ E98 := by rw [Nat.pow_succ, Nat.mul_comm]
  rw [e]
  generalize 2 ^ E98 = g at *
  unfold exMag
  split
  · omega
  · split <;> omega
theorem exact_glue {k : Nat} {n o : Bool} {e f g h low : Int} {x y X Y R : List Int} {R1 : Bool} {d1 d2 : Int} (hx : minstrelref01_Digits.f f = some x) (hy : minstrelref01_Digits.f h = some y)
    (e1 : wrap64 (e - low) = d1) (e2 : wrap64 (g - low) = d2) (u1 : minstrelref01_Up.f k x d1 = some X) (u2 : minstrelref01_Up.f k y d2 = some Y)
    (hr : (if (n == o) = true then ((minstrelref01_Sum.f k X Y).bind fun t278 => (some (n, low, t278))) else ((minstrelref01_Cmp.f k X Y).bind fun t281 => (if t281 ≥ 0 then ((minstrelref01_Minus.f k X Y).bind fun t282 => (some (n, low, t282))) else ((minstrelref01_Minus.f k Y X).bind fun t285 => (some (o, low, t285)))))) = some (R1, low, R)) :
    minstrelref02_Exact.j0 (k + 1) n e f o g h low = some (R1, low, R) := by
  rw [minstrelref02_Exact.j0, hx, Option.bind_some, e1, u1, Option.bind_some, hy, Option.bind_some, e2, u2, Option.bind_some]
  exact hr
theorem exact_j (a b : Nat) : Ev (fun k => minstrelref02_Exact.j0 k (sg a) (expN a) ((fracN a : Nat) : Int) (sg b) (expN b) ((fracN b : Nat) : Int) (lowN a b)) (exNeg a b, lowN a b, dig (exMag a b)) := by
  have ea := exp_range a
  have eb := exp_range b
  have hl := low_facts a b
  have la := frac_lt a
  have lb := frac_lt b
  obtain ⟨x, hx, dx, vx, lx⟩ := digits_is (fracN a) (by omega)
  obtain ⟨y, hy, dy, vy, ly⟩ := digits_is (fracN b) (by omega)
  have e1 : wrap64 (expN a - lowN a b) = (((expN a - lowN a b).toNat : Nat) : Int) := i64of _ (by omega) (by omega)
  have e2 : wrap64 (expN b - lowN a b) = (((expN b - lowN a b).toNat : Nat) : Int) := i64of _ (by omega) (by omega)
  have u1 := up_is dx (by omega) (expN a - lowN a b).toNat (by omega)
  have u2 := up_is dy (by omega) (expN b - lowN a b).toNat (by omega)
  rw [vx] at u1
  rw [vy] at u2
  have lX := dig_len _ (Nat.lt_trans (x_lt a b) (Nat.pow_lt_pow_right (by decide) (Nat.lt_succ_self _)))
  have lY := dig_len _ (Nat.lt_trans (y_lt a b) (Nat.pow_lt_pow_right (by decide) (Nat.lt_succ_self _)))
  obtain ⟨K1, p1⟩ := u1
  obtain ⟨K2, p2⟩ := u2
  have fin : Ev (fun k => (if (sg a == sg b) = true then ((minstrelref01_Sum.f k (dig (xN a b)) (dig (yN a b))).bind fun t278 => (some (sg a, lowN a b, t278))) else ((minstrelref01_Cmp.f k (dig (xN a b)) (dig (yN a b))).bind fun t281 => (if t281 ≥ 0 then ((minstrelref01_Minus.f k (dig (xN a b)) (dig (yN a b))).bind fun t282 => (some (sg a, lowN a b, t282))) else ((minstrelref01_Minus.f k (dig (yN a b)) (dig (xN a b))).bind fun t285 => (some (sg b, lowN a b, t285))))))) (exNeg a b, lowN a b, dig (exMag a b)) := by
    clear p1 p2 e1 e2 hx hy
    unfold exNeg exMag
    by_cases h : sg a = sg b
    · obtain ⟨K, hs⟩ := sum_is (dig_Dg (xN a b)) (dig_Dg (yN a b)) (Nat.lt_of_le_of_lt lX (by decide)) (Nat.lt_of_le_of_lt lY (by decide))
      refine ⟨K, fun k hk => ?_⟩
      have hs' : minstrelref01_Sum.f k (dig (xN a b)) (dig (yN a b)) = some (dig (val (dig (xN a b)) + val (dig (yN a b)))) := hs k hk
      rw [dig_val, dig_val] at hs'
      show (if (sg a == sg b) = true then _ else _) = _
      rw [if_pos (beq_iff_eq.2 h), if_pos h, if_pos h, hs', Option.bind_some]
    · obtain ⟨K, hc⟩ := cmp_is (dig_Dg (xN a b)) (dig_Dg (yN a b)) (Nat.lt_of_le_of_lt lX (by decide)) (Nat.lt_of_le_of_lt lY (by decide))
      by_cases g : yN a b ≤ xN a b
      · obtain ⟨K', hm⟩ := minus_is (dig_Dg (xN a b)) (dig_Dg (yN a b)) (Nat.lt_of_le_of_lt lX (by decide)) (by rw [dig_val, dig_val]; exact g)
        refine ⟨max K K', fun k hk => ?_⟩
        have hc' : minstrelref01_Cmp.f k (dig (xN a b)) (dig (yN a b)) = some (cmpN (val (dig (xN a b))) (val (dig (yN a b)))) := hc k (by omega)
        have hm' : minstrelref01_Minus.f k (dig (xN a b)) (dig (yN a b)) = some (dig (val (dig (xN a b)) - val (dig (yN a b)))) := hm k (by omega)
        rw [dig_val, dig_val] at hc' hm'
        have hcmp : cmpN (xN a b) (yN a b) ≥ 0 := by unfold cmpN; rw [if_neg (by omega)]; split <;> decide
        show (if (sg a == sg b) = true then _ else _) = _
        rw [if_neg (fun e => h (beq_iff_eq.1 e)), if_neg h, if_neg h, hc', Option.bind_some, if_pos hcmp, hm', Option.bind_some, if_pos g, if_pos g]
      · obtain ⟨K', hm⟩ := minus_is (dig_Dg (yN a b)) (dig_Dg (xN a b)) (Nat.lt_of_le_of_lt lY (by decide)) (by rw [dig_val, dig_val]; omega)
        refine ⟨max K K', fun k hk => ?_⟩
        have hc' : minstrelref01_Cmp.f k (dig (xN a b)) (dig (yN a b)) = some (cmpN (val (dig (xN a b))) (val (dig (yN a b)))) := hc k (by omega)
        have hm' : minstrelref01_Minus.f k (dig (yN a b)) (dig (xN a b)) = some (dig (val (dig (yN a b)) - val (dig (xN a b)))) := hm k (by omega)
        rw [dig_val, dig_val] at hc' hm'
        have hcmp : ¬ cmpN (xN a b) (yN a b) ≥ 0 := by unfold cmpN; rw [if_pos (by omega)]; decide
        show (if (sg a == sg b) = true then _ else _) = _
        rw [if_neg (fun e => h (beq_iff_eq.1 e)), if_neg h, if_neg h, hc', Option.bind_some, if_neg hcmp, hm', Option.bind_some, if_neg g, if_neg g]
  obtain ⟨K3, p3⟩ := fin
  refine ⟨max (max K1 K2) K3 + 1, fun k hk => ?_⟩
  obtain ⟨m, rfl⟩ : ∃ m, k = m + 1 := ⟨k - 1, by omega⟩
  exact exact_glue hx hy e1 e2 (p1 m (by omega)) (p2 m (by omega)) (p3 m (by omega))
theorem exact_top {k : Nat} {a b : Int} {n o : Bool} {e f g h : Int} {r : Bool × Int × List Int} (p1 : minstrelref01_Parts.f k a = some (n, e, f)) (p2 : minstrelref01_Parts.f k b = some (o, g, h))
    (hr : minstrelref02_Exact.j0 k n e f o g h (if g < e then g else e) = some r) : minstrelref02_Exact.f k a b = some r := by
  unfold minstrelref02_Exact.f
  rw [p1, Option.bind_some, p2, Option.bind_some]
  dsimp only
  by_cases c : g < e
  · rw [if_pos c] at hr ⊢; exact hr
  · rw [if_neg c] at hr ⊢; exact hr
theorem exact_is (a b : Nat) (ha : a < W) (hb : b < W) : Ev (fun k => minstrelref02_Exact.f k (a : Int) (b : Int)) (exNeg a b, lowN a b, dig (exMag a b)) := by
  obtain ⟨K1, p1⟩ := parts_is a ha
  obtain ⟨K2, p2⟩ := parts_is b hb
  obtain ⟨K3, p3⟩ := exact_j a b
  exact ⟨max (max K1 K2) K3, fun k hk => exact_top (p1 k (by omega)) (p2 k (by omega)) (p3 k (by omega))⟩
end Go.Proofs.Yteghlmcafhhkcaa.Dig

/- What the document's Sum, Add, Sub (minstrelref02) compute: IEEE 754's sums, with one NaN. Condition: the words have 64 bits. -/
namespace Go.Proofs.Yteghlmcafhhkcaa.Dig
open Go.RowKit Go.Proofs.Yteghlmcafhhkcaa.Ref Go.Proofs.YteghlmcafhhkcaaW.PrintWords Go.Proofs.YteghlmcafhhkcaaW.PrintLast Go.Proofs.YteghlmcafhhkcaaW.PrintMore
open Go.Proofs.Yteghlmcafhhkcaa.Num Go.Proofs.Yteghlmcafhhkcaa.DigLaw Go.Proofs.Yteghlmcafhhkcaa.Fl
open Ieee (double Datum)

theorem sn_zero {s : Bool} {n : Nat} : sn s n = 0 ↔ n = 0 := by cases s <;> simp only [sn_f, sn_t] <;> omega
theorem sn_neg {s : Bool} {n : Nat} (h : n ≠ 0) : decide (sn s n < 0) = s := by
  cases s
  · rw [sn_f, decide_eq_false (by omega)]
  · rw [sn_t, decide_eq_true (by omega)]
theorem ex_zero (a b : Nat) (fa : rg a < INF) (fb : rg b < INF) : exMag a b = 0 ↔ Vi a + Vi b = 0 := by
  rw [← ex_Vi a b fa fb, sn_zero, Nat.mul_eq_zero]
  have := Nat.two_pow_pos (lowN a b + 1074).toNat
  exact ⟨fun h => Or.inl h, fun h => h.resolve_right (by omega)⟩
/-- the nearest double of the sum without rounding -/
theorem ex_round (a b : Nat) (fa : rg a < INF) (fb : rg b < INF) (h0 : exMag a b ≠ 0) (z : Bool) : double.word (exNeg a b) (rung (exMag a b) (lowN a b)) = wordI z (Vi a + Vi b) := by
  have hl := low_facts a b
  have h1 : exMag a b * 2 ^ (lowN a b + 1074).toNat ≠ 0 := Nat.mul_ne_zero h0 (Nat.ne_of_gt (Nat.two_pow_pos _))
  have hr := rung_at (exMag a b) (lowN a b) (-1074) hl.2.2.1
  rw [show lowN a b - -1074 = lowN a b + 1074 by omega] at hr
  unfold wordI
  rw [← ex_Vi a b fa fb, if_neg (fun e => h1 (sn_zero.1 e)), sn_neg h1, sn_abs, hr]
theorem V_zero : V 0 = 0 := V_small (by decide)
theorem V_eq_zero {r : Nat} : V r = 0 ↔ r = 0 := ⟨fun h => V_inj (h.trans V_zero.symm), fun h => by rw [h, V_zero]⟩
/-- two numbers below nought whose sum is nothing are noughts -/
theorem both_neg {a b : Nat} (h : Vi a + Vi b = 0) (ha : sg a = true) (hb : sg b = true) : rg a = 0 ∧ rg b = 0 := by
  unfold Vi at h
  rw [ha, hb, sn_t, sn_t] at h
  exact ⟨V_eq_zero.1 (by omega), V_eq_zero.1 (by omega)⟩

theorem sum_glue {k : Nat} {a b : Int} {n z : Bool} {e kA kB w : Int} {d t : List Int} (sa sb : Bool) (p : minstrelref02_Exact.f k a b = some (n, e, d)) (ht : minstrelref01_Trim.f k d = some t) (hA : minstrelref01_Kind.f k a = some kA) (hB : minstrelref01_Kind.f k b = some kB)
    (na : minstrelref01_Neg.f a = some sa) (nb : minstrelref01_Neg.f b = some sb) (hz : (t.length : Int) = 0 → z = if kA = 0 then if kB = 0 then if sa = true then sb else false else false else false)
    (h0 : (t.length : Int) = 0 → w = ((sgn z : Nat) : Int)) (h1 : ¬ (t.length : Int) = 0 → minstrelref01_Round.f k n e d false = some w) : minstrelref02_Sum.f k a b = some w := by
  unfold minstrelref02_Sum.f
  rw [p, Option.bind_some]
  dsimp only
  rw [ht, Option.bind_some]
  by_cases c : (t.length : Int) = 0
  · rw [if_pos c, hA, Option.bind_some, hB, Option.bind_some, na, Option.bind_some, nb, Option.bind_some, h0 c, hz c, sign_is, sign_is, Option.bind_some, Option.bind_some]
    by_cases c1 : kA = 0
    · rw [if_pos c1, if_pos c1]
      by_cases c2 : kB = 0
      · rw [if_pos c2, if_pos c2]
        by_cases c3 : sa = true
        · rw [if_pos c3, if_pos c3]
        · rw [if_neg c3, if_neg c3]
      · rw [if_neg c2, if_neg c2]
    · rw [if_neg c1, if_neg c1]
  · rw [if_neg c, h1 c, Option.bind_some]
theorem dig_len_zero (n : Nat) : ((dig n).length : Int) = 0 ↔ n = 0 := by
  rw [← dig_nil_iff n]
  constructor
  · intro h; exact List.length_eq_zero_iff.1 (by omega)
  · intro h; rw [h]; rfl
theorem refSum_is (a b : Nat) (ha : a < W) (hb : b < W) (fa : rg a < INF) (fb : rg b < INF) : Ev (fun k => minstrelref02_Sum.f k (a : Int) (b : Int)) ((wordI (sg a && sg b) (Vi a + Vi b) : Nat) : Int) := by
  have hl := low_facts a b
  obtain ⟨K1, p1⟩ := exact_is a b ha hb
  have lE := dig_len _ (ex_lt a b)
  obtain ⟨K2, p2⟩ := trim_is (dig_Dg (exMag a b)) (Nat.lt_of_le_of_lt lE (by decide))
  obtain ⟨K3, p3⟩ := kind_is a ha
  obtain ⟨K4, p4⟩ := kind_is b hb
  have hr := round_is (exNeg a b) (lowN a b) (dig_Dg (exMag a b)) (Nat.lt_of_le_of_lt lE (by decide)) false (by omega) (by omega) (fun h => by cases h)
  rw [dig_val, nearest_eq, rung_twice] at hr
  obtain ⟨K5, p5⟩ := hr
  rw [dig_val] at p2
  refine ⟨max (max K1 K2) (max (max K3 K4) K5), fun k hk => sum_glue (z := sg a && sg b) (sg a) (sg b) (p1 k (by omega)) (p2 k (by omega)) (p3 k (by omega)) (p4 k (by omega)) (neg_is a ha) (neg_is b hb) ?_ ?_ ?_⟩
  · intro h
    have hT := (ex_zero a b fa fb).1 ((dig_len_zero _).1 h)
    cases hsa : sg a
    · rw [Bool.false_and]; split
      · split
        · rw [if_neg (by simp)]
        · rfl
      · rfl
    · cases hsb : sg b
      · rw [Bool.and_false]; split
        · split
          · rfl
          · rfl
        · rfl
      · obtain ⟨za, zb⟩ := both_neg hT hsa hsb
        rw [(zero_kind a).2 za, (zero_kind b).2 zb]; rfl
  · intro h
    have hT := (ex_zero a b fa fb).1 ((dig_len_zero _).1 h)
    unfold wordI
    rw [hT, if_pos rfl, word_eq, show Int.natAbs 0 = 0 from rfl, rung_zero, Nat.add_zero]
  · intro h
    have h0 : exMag a b ≠ 0 := fun e => h ((dig_len_zero _).2 e)
    have := p5 k (by omega)
    rw [ex_round a b fa fb h0 (sg a && sg b)] at this
    exact this

/-! ### Add -/
theorem add_nan {a b : Nat} (h : INF < rg a ∨ INF < rg b) : double.add a b = none := by
  unfold Ieee.Format.add
  rcases h with h | h
  · rw [read_nan h]; rfl
  · rw [read_nan h]; cases double.read a <;> rfl
theorem add_ii {a b : Nat} (ha : rg a = INF) (hb : rg b = INF) : double.add a b = if sg a = sg b then some (double.word (sg a) INF) else none := by
  unfold Ieee.Format.add
  rw [read_inf ha, read_inf hb]
  simp only [Datum.sum]
  by_cases c : sg a = sg b
  · rw [if_pos c, if_pos c, ← infRung_eq]; rfl
  · rw [if_neg c, if_neg c]; rfl
theorem add_if {a b : Nat} (ha : rg a = INF) (hb : rg b < INF) : double.add a b = some (double.word (sg a) INF) := by
  obtain ⟨m, p, e, _⟩ := read_fin hb
  unfold Ieee.Format.add
  rw [read_inf ha, e, ← infRung_eq]; rfl
theorem add_fi {a b : Nat} (ha : rg a < INF) (hb : rg b = INF) : double.add a b = some (double.word (sg b) INF) := by
  obtain ⟨m, p, e, _⟩ := read_fin ha
  unfold Ieee.Format.add
  rw [read_inf hb, e, ← infRung_eq]; rfl
theorem inf_word {a : Nat} (ha : a < W) (h : rg a = INF) : double.word (sg a) INF = a := by
  rw [word_eq, ← h]; exact (word_split a ha).symm
theorem add_flag (a b : Nat) (x y : Int) (f : Bool) (k : Nat) :
    (if ((kindN a : Nat) : Int) = 4 then (minstrelref02_Add.j0 k x y ((kindN a : Nat) : Int) ((kindN b : Nat) : Int) true) else (if ((kindN b : Nat) : Int) = 4 then (minstrelref02_Add.j0 k x y ((kindN a : Nat) : Int) ((kindN b : Nat) : Int) true) else (if ((kindN a : Nat) : Int) = 3 then (if ((kindN b : Nat) : Int) = 3 then (minstrelref02_Add.j0 k x y ((kindN a : Nat) : Int) ((kindN b : Nat) : Int) f) else (minstrelref02_Add.j0 k x y ((kindN a : Nat) : Int) ((kindN b : Nat) : Int) false)) else (minstrelref02_Add.j0 k x y ((kindN a : Nat) : Int) ((kindN b : Nat) : Int) false))))
    = minstrelref02_Add.j0 k x y ((kindN a : Nat) : Int) ((kindN b : Nat) : Int) (decide (kindN a = 4 ∨ kindN b = 4) || (decide (kindN a = 3 ∧ kindN b = 3) && f)) := by
  rcases kind_vals a with h | h | h | h | h <;> rcases kind_vals b with g | g | g | g | g <;> rw [h, g] <;> simp
theorem refAdd_j {a b : Nat} {k : Nat} {flag : Bool} {kA kB w : Int} (hf : flag = true → w = ((NANW : Nat) : Int)) (ha : flag = false → kA = 3 → w = (a : Int)) (hb : flag = false → ¬ kA = 3 → kB = 3 → w = (b : Int)) (hs : flag = false → ¬ kA = 3 → ¬ kB = 3 → minstrelref02_Sum.f k (a : Int) (b : Int) = some w) :
    minstrelref02_Add.j0 (k + 1) (a : Int) (b : Int) kA kB flag = some w := by
  rw [minstrelref02_Add.j0]
  cases flag
  · rw [if_neg (by simp)]
    by_cases c1 : kA = 3
    · rw [if_pos c1, ha rfl c1]
    · rw [if_neg c1]
      by_cases c2 : kB = 3
      · rw [if_pos c2, hb rfl c1 c2]
      · rw [if_neg c2, hs rfl c1 c2, Option.bind_some]
  · rw [if_pos rfl, nan_is, Option.bind_some, hf rfl]; rfl
theorem refAdd_is (a b : Nat) (ha : a < W) (hb : b < W) : Ev (fun k => minstrelref02_Add.f k (a : Int) (b : Int)) ((addW a b : Nat) : Int) := by
  obtain ⟨K1, p1⟩ := kind_is a ha
  obtain ⟨K2, p2⟩ := kind_is b hb
  have fin : Ev (fun k => minstrelref02_Add.j0 k (a : Int) (b : Int) ((kindN a : Nat) : Int) ((kindN b : Nat) : Int) (decide (kindN a = 4 ∨ kindN b = 4) || (decide (kindN a = 3 ∧ kindN b = 3) && ((a : Int) != (b : Int))))) ((addW a b : Nat) : Int) := by
    by_cases n4 : kindN a = 4 ∨ kindN b = 4
    · have hN : addW a b = NANW := by
        rw [nan_kind, nan_kind] at n4
        unfold addW; rw [add_nan n4]; rfl
      refine ⟨1, fun k hk => ?_⟩
      obtain ⟨m, rfl⟩ : ∃ m, k = m + 1 := ⟨k - 1, by omega⟩
      have hfl : (decide (kindN a = 4 ∨ kindN b = 4) || (decide (kindN a = 3 ∧ kindN b = 3) && ((a : Int) != (b : Int)))) = true := by rw [decide_eq_true n4, Bool.true_or]
      exact refAdd_j (fun _ => by rw [hN]) (fun h => by rw [hfl] at h; cases h) (fun h => by rw [hfl] at h; cases h) (fun h => by rw [hfl] at h; cases h)
    · by_cases i3 : kindN a = 3 ∧ kindN b = 3
      · have ia := (inf_kind a).1 i3.1
        have ib := (inf_kind b).1 i3.2
        refine ⟨1, fun k hk => ?_⟩
        obtain ⟨m, rfl⟩ : ∃ m, k = m + 1 := ⟨k - 1, by omega⟩
        by_cases s : sg a = sg b
        · have hab : a = b := word_ext ha hb s (ia.trans ib.symm)
          have hI : addW a b = a := by unfold addW; rw [add_ii ia ib, if_pos s]; exact inf_word ha ia
          have hfl : (decide (kindN a = 4 ∨ kindN b = 4) || (decide (kindN a = 3 ∧ kindN b = 3) && ((a : Int) != (b : Int)))) = false := by rw [decide_eq_false n4, hab]; simp
          exact refAdd_j (fun h => by rw [hfl] at h; cases h) (fun _ _ => by rw [hI]) (fun _ h => absurd (by rw [i3.1]; rfl) h) (fun _ h => absurd (by rw [i3.1]; rfl) h)
        · have hN : addW a b = NANW := by unfold addW; rw [add_ii ia ib, if_neg s]; rfl
          have hne : ¬ (a : Int) = (b : Int) := fun e => s (by rw [Int.ofNat.inj e])
          have hfl : (decide (kindN a = 4 ∨ kindN b = 4) || (decide (kindN a = 3 ∧ kindN b = 3) && ((a : Int) != (b : Int)))) = true := by rw [decide_eq_false n4, decide_eq_true i3, bne_iff_ne.2 hne]; rfl
          exact refAdd_j (fun _ => by rw [hN]) (fun h => by rw [hfl] at h; cases h) (fun h => by rw [hfl] at h; cases h) (fun h => by rw [hfl] at h; cases h)
      · have hfl : (decide (kindN a = 4 ∨ kindN b = 4) || (decide (kindN a = 3 ∧ kindN b = 3) && ((a : Int) != (b : Int)))) = false := by rw [decide_eq_false n4, decide_eq_false i3]; rfl
        rw [hfl]
        by_cases ka : kindN a = 3
        · have ia := (inf_kind a).1 ka
          have fb : rg b < INF := (fin_kind b).1 (by have := kind_vals b; omega)
          have hI : addW a b = a := by unfold addW; rw [add_if ia fb]; exact inf_word ha ia
          refine ⟨1, fun k hk => ?_⟩
          obtain ⟨m, rfl⟩ : ∃ m, k = m + 1 := ⟨k - 1, by omega⟩
          exact refAdd_j (fun h => by cases h) (fun _ _ => by rw [hI]) (fun _ h => absurd (by rw [ka]; rfl) h) (fun _ h => absurd (by rw [ka]; rfl) h)
        · have fa : rg a < INF := (fin_kind a).1 (by have := kind_vals a; omega)
          have ka' : ¬ ((kindN a : Nat) : Int) = 3 := by omega
          by_cases kb : kindN b = 3
          · have ib := (inf_kind b).1 kb
            have hI : addW a b = b := by unfold addW; rw [add_fi fa ib]; exact inf_word hb ib
            refine ⟨1, fun k hk => ?_⟩
            obtain ⟨m, rfl⟩ : ∃ m, k = m + 1 := ⟨k - 1, by omega⟩
            exact refAdd_j (fun h => by cases h) (fun _ h => absurd h ka') (fun _ _ _ => by rw [hI]) (fun _ _ h => absurd (by rw [kb]; rfl) h)
          · have fb : rg b < INF := (fin_kind b).1 (by have := kind_vals b; omega)
            have kb' : ¬ ((kindN b : Nat) : Int) = 3 := by omega
            have hF : addW a b = wordI (sg a && sg b) (Vi a + Vi b) := by unfold addW; rw [add_fin fa fb]; rfl
            obtain ⟨K, hs⟩ := refSum_is a b ha hb fa fb
            refine ⟨K + 1, fun k hk => ?_⟩
            obtain ⟨m, rfl⟩ : ∃ m, k = m + 1 := ⟨k - 1, by omega⟩
            exact refAdd_j (fun h => by cases h) (fun _ h => absurd h ka') (fun _ _ h => absurd h kb') (fun _ _ _ => by rw [hF]; exact hs m (by omega))
  obtain ⟨K3, p3⟩ := fin
  refine ⟨max (max K1 K2) K3, fun k hk => ?_⟩
  have h1 : minstrelref01_Kind.f k (a : Int) = some ((kindN a : Nat) : Int) := p1 k (by omega)
  have h2 : minstrelref01_Kind.f k (b : Int) = some ((kindN b : Nat) : Int) := p2 k (by omega)
  show minstrelref02_Add.f k (a : Int) (b : Int) = _
  unfold minstrelref02_Add.f
  rw [h1, Option.bind_some, h2, Option.bind_some, add_flag]
  exact p3 k (by omega)
end Go.Proofs.Yteghlmcafhhkcaa.Dig

/- What the document's Order, Less, Equal (minstrelref01) compute: the order of the numbers that words stand for. Condition: the words have 64 bits. -/
namespace Go.Proofs.Yteghlmcafhhkcaa.Dig
open Go.RowKit Go.Proofs.Yteghlmcafhhkcaa.Ref Go.Proofs.YteghlmcafhhkcaaW.PrintWords Go.Proofs.YteghlmcafhhkcaaW.PrintLast Go.Proofs.YteghlmcafhhkcaaW.PrintMore
open Go.Proofs.Yteghlmcafhhkcaa.Num Go.Proofs.Yteghlmcafhhkcaa.DigLaw Go.Proofs.Yteghlmcafhhkcaa.Fl

theorem andNot_top (a : Nat) (h : a < W) : Go.bits .andNot .u64 (a : Int) 9223372036854775808 = ((rg a : Nat) : Int) := by
  have e : Go.bits .andNot .u64 (a : Int) ((9223372036854775808 : Nat) : Int) = ((rg a : Nat) : Int) := by
    have ha' : a % 2 ^ IntKind.u64.bits = a := Nat.mod_eq_of_lt h
    simp only [bits, BitVec.ofInt_natCast]
    have key : (BitVec.ofNat IntKind.u64.bits a &&& ~~~ BitVec.ofNat IntKind.u64.bits 9223372036854775808).toNat = rg a := by
      show (BitVec.ofNat 64 a &&& ~~~ BitVec.ofNat 64 9223372036854775808).toNat = rg a
      have hn : ~~~ BitVec.ofNat 64 9223372036854775808 = BitVec.ofNat 64 9223372036854775807 := by decide
      rw [hn, BitVec.toNat_and, BitVec.toNat_ofNat, BitVec.toNat_ofNat]
      have e64 : (2 : Nat) ^ 64 = 18446744073709551616 := by decide
      have h' : a < 18446744073709551616 := h
      rw [e64, Nat.mod_eq_of_lt h', show 9223372036854775807 % 18446744073709551616 = 2 ^ 63 - 1 from by decide, Nat.and_two_pow_sub_one_eq_mod]
      rfl
    rw [key]
    have := rg_lt a
    exact u64of _ (by omega)
  exact e
def cmpI (x y : Int) : Int := if x < y then -1 else if x = y then 0 else 1
theorem V_cmp (s : Bool) (r t : Nat) : (if r = t then (0 : Int) else if ((decide ((r : Int) < (t : Int))) != s) = true then -1 else 1) = cmpI (sn s (V r)) (sn s (V t)) := by
  unfold cmpI
  rcases Nat.lt_trichotomy r t with h | h | h
  · have hv := V_strict h
    rw [if_neg (by omega), decide_eq_true (by omega)]
    cases s
    · rw [if_pos (by rfl), if_pos (show sn false (V r) < sn false (V t) by unfold sn; simp <;> omega)]
    · rw [if_neg (by simp), if_neg (show ¬ sn true (V r) < sn true (V t) by unfold sn; simp <;> omega), if_neg (show ¬ sn true (V r) = sn true (V t) by unfold sn; simp <;> omega)]
  · subst h
    rw [if_pos rfl, if_neg (Int.lt_irrefl _), if_pos rfl]
  · have hv := V_strict h
    rw [if_neg (by omega), decide_eq_false (by omega)]
    cases s
    · rw [if_neg (by simp), if_neg (show ¬ sn false (V r) < sn false (V t) by unfold sn; simp <;> omega), if_neg (show ¬ sn false (V r) = sn false (V t) by unfold sn; simp <;> omega)]
    · rw [if_pos (by rfl), if_pos (show sn true (V r) < sn true (V t) by unfold sn; simp <;> omega)]
theorem V_pos {r : Nat} (h : r ≠ 0) : 0 < V r := by
  have := V_strict (a := 0) (b := r) (by omega); omega
theorem V_cmp_ne {s t : Bool} (h : s ≠ t) {r q : Nat} (hz : r ≠ 0 ∨ q ≠ 0) : (if s = true then (-1 : Int) else 1) = cmpI (sn s (V r)) (sn t (V q)) := by
  have hp : 0 < V r + V q := by
    rcases hz with hz | hz
    · have := V_pos hz; omega
    · have := V_pos hz; omega
  unfold cmpI
  cases s <;> cases t
  · exact absurd rfl h
  · rw [if_neg (by simp), if_neg (show ¬ sn false (V r) < sn true (V q) by unfold sn; simp <;> omega), if_neg (show ¬ sn false (V r) = sn true (V q) by unfold sn; simp <;> omega)]
  · rw [if_pos rfl, if_pos (show sn true (V r) < sn false (V q) by unfold sn; simp <;> omega)]
  · exact absurd rfl h
theorem order_j (a b : Nat) (ha : a < W) (hb : b < W) (k : Nat) : minstrelref01_Order.j0 (k + 1) (a : Int) (b : Int) (decide (rg a = 0 ∧ rg b = 0)) = some (cmpI (Vi a) (Vi b)) := by
  rw [minstrelref01_Order.j0, neg_is a ha, neg_is b hb, andNot_top a ha, andNot_top b hb, Option.bind_some, Option.bind_some, Option.bind_some, Option.bind_some]
  by_cases z : rg a = 0 ∧ rg b = 0
  · have hV0 : V 0 = 0 := V_small (by decide)
    rw [decide_eq_true z, if_pos rfl]
    unfold Vi cmpI
    rw [z.1, z.2, hV0]
    cases sg a <;> cases sg b <;> rfl
  · rw [decide_eq_false z, if_neg (by simp)]
    by_cases s : sg a = sg b
    · have hne : ¬ (sg a != sg b) = true := by rw [s]; simp
      rw [if_neg hne]
      unfold Vi
      rw [← s, ← V_cmp (sg a) (rg a) (rg b)]
      by_cases c : rg a = rg b
      · rw [if_pos (by omega), if_pos c]
      · rw [if_neg (by omega), if_neg c]; split <;> rfl
    · have hne : (sg a != sg b) = true := bne_iff_ne.2 s
      rw [if_pos hne]
      unfold Vi
      rw [← V_cmp_ne s (by omega)]
      split <;> rfl
theorem order_is (a b : Nat) (ha : a < W) (hb : b < W) : Ev (fun k => minstrelref01_Order.f k (a : Int) (b : Int)) (cmpI (Vi a) (Vi b)) := by
  obtain ⟨K1, p1⟩ := kind_is a ha
  obtain ⟨K2, p2⟩ := kind_is b hb
  refine ⟨max (max K1 K2) 1, fun k hk => ?_⟩
  obtain ⟨m, rfl⟩ : ∃ m, k = m + 1 := ⟨k - 1, by omega⟩
  have h1 : minstrelref01_Kind.f (m + 1) (a : Int) = some ((kindN a : Nat) : Int) := p1 _ (by omega)
  have h2 : minstrelref01_Kind.f (m + 1) (b : Int) = some ((kindN b : Nat) : Int) := p2 _ (by omega)
  show minstrelref01_Order.f (m + 1) (a : Int) (b : Int) = _
  unfold minstrelref01_Order.f
  rw [h1, Option.bind_some, h2, Option.bind_some]
  have hj := order_j a b ha hb m
  by_cases za : kindN a = 0
  · rw [if_pos (by omega)]
    have e : (((kindN b : Nat) : Int) == 0) = decide (rg a = 0 ∧ rg b = 0) := by
      by_cases zb : kindN b = 0
      · rw [zb, decide_eq_true ⟨(zero_kind a).1 za, (zero_kind b).1 zb⟩]; rfl
      · rw [decide_eq_false (fun h => zb ((zero_kind b).2 h.2)), beq_eq_false_iff_ne.2 (by omega)]
    rw [e]; exact hj
  · rw [if_neg (by omega)]
    rw [decide_eq_false (fun h => za ((zero_kind a).2 h.1))] at hj
    exact hj
def lessB (a b : Nat) : Bool := decide (rg a ≤ INF ∧ rg b ≤ INF ∧ Vi a < Vi b)
def eqB (a b : Nat) : Bool := decide (rg a ≤ INF ∧ rg b ≤ INF ∧ Vi a = Vi b)
theorem cmpI_lt (x y : Int) : decide (cmpI x y < 0) = decide (x < y) := by
  unfold cmpI
  by_cases h : x < y
  · rw [if_pos h, decide_eq_true h]; rfl
  · rw [if_neg h, decide_eq_false h]; split <;> rfl
theorem cmpI_eq (x y : Int) : (cmpI x y == 0) = decide (x = y) := by
  unfold cmpI
  by_cases h : x < y
  · rw [if_pos h, decide_eq_false (by omega)]; rfl
  · rw [if_neg h]
    by_cases e : x = y
    · rw [if_pos e, decide_eq_true e]; rfl
    · rw [if_neg e, decide_eq_false e]; rfl
theorem less_is (a b : Nat) (ha : a < W) (hb : b < W) : Ev (fun k => minstrelref01_Less.f k (a : Int) (b : Int)) (lessB a b) := by
  obtain ⟨K1, p1⟩ := kind_is a ha
  obtain ⟨K2, p2⟩ := kind_is b hb
  obtain ⟨K3, p3⟩ := order_is a b ha hb
  refine ⟨max (max K1 K2) K3, fun k hk => ?_⟩
  have h1 : minstrelref01_Kind.f k (a : Int) = some ((kindN a : Nat) : Int) := p1 _ (by omega)
  have h2 : minstrelref01_Kind.f k (b : Int) = some ((kindN b : Nat) : Int) := p2 _ (by omega)
  have h3 : minstrelref01_Order.f k (a : Int) (b : Int) = some (cmpI (Vi a) (Vi b)) := p3 _ (by omega)
  show minstrelref01_Less.f k (a : Int) (b : Int) = _
  unfold minstrelref01_Less.f lessB
  rw [h1, Option.bind_some]
  have na := nan_kind a
  have nb := nan_kind b
  by_cases ka : kindN a = 4
  · rw [if_pos (by omega), decide_eq_false (fun h => by have := na.1 ka; omega)]
  · have la : rg a ≤ INF := Nat.le_of_not_lt fun h => ka (na.2 h)
    rw [if_neg (by omega), h2, Option.bind_some]
    by_cases kb : kindN b = 4
    · rw [if_pos (by omega), decide_eq_false (fun h => by have := nb.1 kb; omega)]
    · have lb : rg b ≤ INF := Nat.le_of_not_lt fun h => kb (nb.2 h)
      rw [if_neg (by omega), h3, Option.bind_some, cmpI_lt]
      congr 1
      exact decide_eq_decide.2 ⟨fun h => ⟨la, lb, h⟩, fun h => h.2.2⟩
end Go.Proofs.Yteghlmcafhhkcaa.Dig

/- Plain law of quotients of doubles: IEEE 754's quotient is the quotient of the parts, reckoned to any number of digits that is enough. -/
namespace Go.Proofs.Yteghlmcafhhkcaa.Dig
open Go.RowKit Go.Proofs.Yteghlmcafhhkcaa.Num Go.Proofs.Yteghlmcafhhkcaa.DigLaw Go.Proofs.Yteghlmcafhhkcaa.Fl
open Ieee (double Datum)

theorem read_parts {a : Nat} (h : rg a < INF) (h0 : rg a ≠ 0) : double.read a = .number (sg a) (fracN a) (expN a) := by
  have hI := cINF
  rw [read_eq, c52]
  rcases ef_cases a with ⟨_, _, _, _, hz⟩ | ⟨_, he, hf, h3, h4⟩ | ⟨_, he, hf, h3, h4⟩
  · omega
  · rw [if_pos h4, he, hf]
  · rw [if_neg (by omega), if_pos h, he, hf]
    congr 1
    · omega
    · omega
theorem enough {m n k : Nat} (hn : 0 < n) (h : 54 + n.log2 ≤ m.log2 + k) (hm : m ≠ 0) : 2 ^ 53 ≤ m * 2 ^ k / n := by
  rw [Nat.le_div_iff_mul_le hn]
  have h1 := Nat.log2_self_le hm
  have h2 : n < 2 ^ (n.log2 + 1) := Nat.lt_log2_self
  calc 2 ^ 53 * n ≤ 2 ^ 53 * 2 ^ (n.log2 + 1) := Nat.mul_le_mul_left _ (Nat.le_of_lt h2)
    _ = 2 ^ (53 + (n.log2 + 1)) := by rw [← Nat.pow_add]
    _ ≤ 2 ^ (m.log2 + k) := Nat.pow_le_pow_right (by decide) (by omega)
    _ = 2 ^ m.log2 * 2 ^ k := by rw [Nat.pow_add]
    _ ≤ m * 2 ^ k := Nat.mul_le_mul_right _ h1
theorem frac_pos {a : Nat} (h : rg a < INF) (h0 : rg a ≠ 0) : fracN a ≠ 0 := by
  have hI := cINF
  rcases ef_cases a with ⟨_, _, _, _, hz⟩ | ⟨_, he, hf, h3, h4⟩ | ⟨_, he, hf, h3, h4⟩
  · omega
  · rw [hf]; omega
  · rw [hf]; omega
theorem frac_log (a : Nat) : (fracN a).log2 ≤ 52 := by
  by_cases h : fracN a = 0
  · rw [h]; decide
  · have := (Nat.log2_lt h).2 (show fracN a < 2 ^ 53 from Nat.lt_of_lt_of_le (frac_lt a) (by decide))
    omega
/-- THE QUOTIENT of two finite words that are no noughts. -/
theorem div_parts {a b : Nat} (fa : rg a < INF) (fb : rg b < INF) (za : rg a ≠ 0) (zb : rg b ≠ 0) (k : Nat) (hk : 54 + (fracN b).log2 ≤ (fracN a).log2 + k) :
    double.div a b = some (double.word (sg a ^^ sg b) (rung (stick (fracN a) (fracN b) k) (expN a - expN b - 1 - k))) := by
  have ha := frac_pos fa za
  have hb := frac_pos fb zb
  have la := frac_log a
  unfold Ieee.Format.div
  rw [read_parts fa za, read_parts fb zb]
  simp only [Datum.quotient, if_neg hb, Option.map_some, write_number, Nat.shiftLeft_eq, fractionBits_eq]
  congr 2
  have e : expN a - expN b - ((52 + 2 + (fracN b).log2 - (fracN a).log2 : Nat) : Int) - 1 = (expN a - expN b - 1) - ((52 + 2 + (fracN b).log2 - (fracN a).log2 : Nat) : Int) := by omega
  rw [e]
  exact stick_same (fracN a) (fracN b) _ k (expN a - expN b - 1) (by omega) (enough (by omega) (by omega) ha) (enough (by omega) hk ha)
end Go.Proofs.Yteghlmcafhhkcaa.Dig

/- What the document's Div (minstrelref03) computes: IEEE 754's quotients, with one NaN. Condition: the words have 64 bits. -/
namespace Go.Proofs.Yteghlmcafhhkcaa.Dig
open Go.RowKit Go.Proofs.Yteghlmcafhhkcaa.Ref Go.Proofs.YteghlmcafhhkcaaW.PrintWords Go.Proofs.YteghlmcafhhkcaaW.PrintLast Go.Proofs.YteghlmcafhhkcaaW.PrintMore
open Go.Proofs.Yteghlmcafhhkcaa.Num Go.Proofs.Yteghlmcafhhkcaa.DigLaw Go.Proofs.Yteghlmcafhhkcaa.Fl
open Ieee (double Datum)

def divW (a b : Nat) : Nat := (double.div a b).getD NANW
theorem div_nan {a b : Nat} (h : INF < rg a ∨ INF < rg b) : double.div a b = none := by
  unfold Ieee.Format.div
  rcases h with h | h
  · rw [read_nan h]; rfl
  · rw [read_nan h]; cases double.read a <;> rfl
theorem div_ii {a b : Nat} (ha : rg a = INF) (hb : rg b = INF) : double.div a b = none := by
  unfold Ieee.Format.div; rw [read_inf ha, read_inf hb]; rfl
theorem div_zz {a b : Nat} (ha : rg a = 0) (hb : rg b = 0) : double.div a b = none := by
  unfold Ieee.Format.div; rw [read_zero ha, read_zero hb]; rfl
theorem div_i {a b : Nat} (ha : rg a = INF) (hb : rg b < INF) : double.div a b = some (double.word (sg a ^^ sg b) INF) := by
  obtain ⟨m, p, e, _, _⟩ := read_fin hb
  unfold Ieee.Format.div
  rw [read_inf ha, e, ← infRung_eq]; rfl
theorem div_z {a b : Nat} (fa : rg a < INF) (za : rg a ≠ 0) (hb : rg b = 0) : double.div a b = some (double.word (sg a ^^ sg b) INF) := by
  unfold Ieee.Format.div
  rw [read_parts fa za, read_zero hb]
  simp only [Datum.quotient, if_true, if_neg (frac_pos fa za)]
  rw [← infRung_eq]; rfl
theorem div_f {a b : Nat} (fa : rg a < INF) (hb : rg b = INF) : double.div a b = some (double.word (sg a ^^ sg b) 0) := by
  obtain ⟨m, p, e, _, _⟩ := read_fin fa
  unfold Ieee.Format.div
  rw [e, read_inf hb]
  simp only [Datum.quotient, Option.map_some, write_number]
  rw [rung_zero]
theorem div_0 {a b : Nat} (ha : rg a = 0) (fb : rg b < INF) (zb : rg b ≠ 0) : double.div a b = some (double.word (sg a ^^ sg b) 0) := by
  unfold Ieee.Format.div
  rw [read_zero ha, read_parts fb zb]
  simp only [Datum.quotient, if_neg (frac_pos fb zb), Option.map_some, write_number, Nat.shiftLeft_eq, Nat.zero_mul, Nat.zero_div, Nat.zero_mod, Nat.mul_zero]
  rw [show (0 + ((0 : Nat) != 0).toNat) = 0 from rfl, rung_zero]
theorem quo_big {f h : Nat} (f0 : f ≠ 0) (hh : h < 2 ^ 53) (h0 : 0 < h) : 2 ^ 75 ≤ f * 2 ^ 128 / h := by
  rw [Nat.le_div_iff_mul_le h0]
  calc 2 ^ 75 * h ≤ 2 ^ 75 * 2 ^ 53 := Nat.mul_le_mul_left _ (Nat.le_of_lt hh)
    _ = 1 * 2 ^ 128 := by decide
    _ ≤ f * 2 ^ 128 := Nat.mul_le_mul_right _ (Nat.pos_of_ne_zero f0)
theorem blen_of {n k : Nat} (h : 2 ^ k ≤ n) : k + 1 ≤ blen n := by
  apply Nat.lt_of_not_le
  intro c
  have h1 := blen_lt n
  have h2 : 2 ^ blen n ≤ 2 ^ k := Nat.pow_le_pow_right (by decide) c
  omega
theorem len_more (n : Nat) : decide (((dig n).length : Int) > 0) = (n != 0) := by
  by_cases h : n = 0
  · subst h; rw [dig_zero]; rfl
  · rw [bne_iff_ne.2 h, dig_pos h]
    apply decide_eq_true
    rw [List.length_cons]; omega
theorem frac_53 (a : Nat) : fracN a < 2 ^ 53 := Nat.lt_of_lt_of_le (frac_lt a) (by decide)
theorem div_glue {k : Nat} {x0 x1 e g f h w z : Int} {s t neg : Bool} {x y u q r : List Int} (p1 : minstrelref01_Parts.f k x0 = some (s, e, f)) (p2 : minstrelref01_Parts.f k x1 = some (t, g, h)) (hx : minstrelref01_Digits.f f = some x) (hu : minstrelref01_Up.f k x 128 = some u) (hy : minstrelref01_Digits.f h = some y) (hd : minstrelref01_Divide.f k u y = some (q, r)) (ez : wrap64 (wrap64 (e - g) - 128) = z) (hr : minstrelref01_Round.f k neg z q (decide ((r.length : Int) > 0)) = some w) : minstrelref03_Div.j2 (k + 1) x0 x1 neg false = some w := by
  rw [minstrelref03_Div.j2, if_neg (by simp), p1, Option.bind_some, p2, Option.bind_some]
  dsimp only
  rw [hx, Option.bind_some, hu, Option.bind_some, hy, Option.bind_some, hd, Option.bind_some]
  dsimp only
  rw [ez, hr, Option.bind_some]
/-- the quotient of two finite words that are no noughts -/
theorem refDiv_j2 (a b : Nat) (ha : a < W) (hb : b < W) (fa : rg a < INF) (fb : rg b < INF) (za : rg a ≠ 0) (zb : rg b ≠ 0) (neg : Bool) : Ev (fun k => minstrelref03_Div.j2 k (a : Int) (b : Int) neg false) ((double.word neg (rung (stick (fracN a) (fracN b) 128) (expN a - expN b - 1 - 128)) : Nat) : Int) := by
  have na := frac_pos fa za
  have nb := frac_pos fb zb
  have h53 := frac_53 b
  have ea := exp_range a
  have eb := exp_range b
  obtain ⟨K1, p1⟩ := parts_is a ha
  obtain ⟨K2, p2⟩ := parts_is b hb
  obtain ⟨x, hx, dx, vx, lx⟩ := digits_is (fracN a) (Nat.lt_of_lt_of_le (frac_lt a) (by decide))
  obtain ⟨y, hy, dy, vy, ly⟩ := digits_is (fracN b) (Nat.lt_of_lt_of_le (frac_lt b) (by decide))
  obtain ⟨K3, p3⟩ := up_is dx (by omega) 128 (by decide)
  rw [vx] at p3
  have l1 : (dig (fracN a * 2 ^ 128)).length ≤ 12 := dig_length' (Nat.lt_of_lt_of_le (Nat.mul_lt_mul_of_pos_right (frac_53 a) (Nat.two_pow_pos 128)) (by decide))
  obtain ⟨K4, p4⟩ := divide_is (dig_Dg (fracN a * 2 ^ 128)) dy (by omega) (by omega) (by rw [vy]; omega)
  rw [dig_val, vy] at p4
  have l2 : (dig (fracN a * 2 ^ 128 / fracN b)).length ≤ 12 := dig_length' (Nat.lt_of_le_of_lt (Nat.div_le_self _ _) (Nat.lt_of_lt_of_le (Nat.mul_lt_mul_of_pos_right (frac_53 a) (Nat.two_pow_pos 128)) (by decide)))
  have big := quo_big na h53 (by omega)
  have hr := round_is neg (expN a - expN b - 128) (dig_Dg (fracN a * 2 ^ 128 / fracN b)) (by omega) (fracN a * 2 ^ 128 % fracN b != 0) (by omega) (by omega) (fun _ => by
    rw [dig_val]
    have := blen_of big
    omega)
  rw [dig_val, nearest_eq, ← len_more, show expN a - expN b - 128 - 1 = expN a - expN b - 1 - 128 by omega] at hr
  obtain ⟨K5, p5⟩ := hr
  have es : stick (fracN a) (fracN b) 128 = 2 * (fracN a * 2 ^ 128 / fracN b) + (decide (((dig (fracN a * 2 ^ 128 % fracN b)).length : Int) > 0)).toNat := by
    rw [len_more]; rfl
  rw [es]
  clear es big l1 l2 h53
  refine ⟨K1 + K2 + K3 + K4 + K5 + 1, fun k hk => ?_⟩
  obtain ⟨m, rfl⟩ : ∃ m, k = m + 1 := ⟨k - 1, by omega⟩
  exact div_glue (p1 m (by omega)) (p2 m (by omega)) hx (p3 m (by omega)) hy (p4 m (by omega)) (by rw [i64in (n := expN a - expN b) (by omega) (by omega), i64in (by omega) (by omega)]) (p5 m (by omega))
theorem div_top {k : Nat} {a b kA kB r : Int} {s t : Bool} (hA : minstrelref01_Kind.f k a = some kA) (hB : minstrelref01_Kind.f k b = some kB) (na : minstrelref01_Neg.f a = some s) (nb : minstrelref01_Neg.f b = some t) (fl : Bool) (hf : fl = if kA = 4 then true else if kB = 4 then true else if kA = 0 then (if kB = 0 then true else if kA = 3 then kB == 3 else false) else if kA = 3 then kB == 3 else false) (h : minstrelref03_Div.j0 k a b kA kB (s != t) fl = some r) : minstrelref03_Div.f k a b = some r := by
  unfold minstrelref03_Div.f
  rw [hA, Option.bind_some, hB, Option.bind_some, na, Option.bind_some, nb, Option.bind_some]
  rw [hf] at h
  by_cases c1 : kA = 4
  · rw [if_pos c1] at h ⊢; exact h
  · rw [if_neg c1] at h ⊢
    by_cases c2 : kB = 4
    · rw [if_pos c2] at h ⊢; exact h
    · rw [if_neg c2] at h ⊢
      by_cases c3 : kA = 0
      · rw [if_pos c3] at h ⊢
        by_cases c4 : kB = 0
        · rw [if_pos c4] at h ⊢; exact h
        · rw [if_neg c4] at h ⊢
          by_cases c5 : kA = 3
          · rw [if_pos c5] at h ⊢; exact h
          · rw [if_neg c5] at h ⊢; exact h
      · rw [if_neg c3] at h ⊢
        by_cases c5 : kA = 3
        · rw [if_pos c5] at h ⊢; exact h
        · rw [if_neg c5] at h ⊢; exact h
theorem div_js {m : Nat} {a b kA kB : Int} {neg fl : Bool} {r : Int} (h1 : fl = true → r = ((NANW : Nat) : Int)) (h2 : fl = false → (kA = 3 ∨ kB = 0) → r = ((sgn neg + INF : Nat) : Int)) (h3 : fl = false → ¬ (kA = 3 ∨ kB = 0) → (kB = 3 ∨ kA = 0) → r = ((sgn neg : Nat) : Int)) (h4 : fl = false → ¬ (kA = 3 ∨ kB = 0) → ¬ (kB = 3 ∨ kA = 0) → minstrelref03_Div.j2 (m + 1) a b neg false = some r) : minstrelref03_Div.j0 (m + 3) a b kA kB neg fl = some r := by
  have hj2 : ∀ f2 : Bool, f2 = (if kB = 3 then true else kA == 0) → fl = false → ¬ (kA = 3 ∨ kB = 0) → minstrelref03_Div.j2 (m + 1) a b neg f2 = some r := by
    intro f2 e2 g1 g2
    by_cases c : kB = 3 ∨ kA = 0
    · have ef : f2 = true := by
        rw [e2]
        by_cases c3 : kB = 3
        · rw [if_pos c3]
        · rw [if_neg c3, beq_iff_eq]; exact c.resolve_left c3
      rw [ef, minstrelref03_Div.j2, if_pos rfl, sign_is, Option.bind_some, h3 g1 g2 c]
    · have ef : f2 = false := by
        rw [e2, if_neg (fun x => c (Or.inl x)), beq_eq_false_iff_ne.2 (fun x => c (Or.inr x))]
      rw [ef]; exact h4 g1 g2 c
  have hj1 : ∀ f1 : Bool, f1 = (if kA = 3 then true else kB == 0) → fl = false → minstrelref03_Div.j1 (m + 2) a b kA kB neg f1 = some r := by
    intro f1 e1 g1
    by_cases c : kA = 3 ∨ kB = 0
    · have ef : f1 = true := by
        rw [e1]
        by_cases c3 : kA = 3
        · rw [if_pos c3]
        · rw [if_neg c3, beq_iff_eq]; exact c.resolve_left c3
      rw [ef, minstrelref03_Div.j1, if_pos rfl, infinite_is, Option.bind_some, h2 g1 c]
    · have ef : f1 = false := by
        rw [e1, if_neg (fun x => c (Or.inl x)), beq_eq_false_iff_ne.2 (fun x => c (Or.inr x))]
      rw [ef, minstrelref03_Div.j1, if_neg (by simp)]
      by_cases c3 : kB = 3
      · rw [if_pos c3]; exact hj2 _ (by rw [if_pos c3]) g1 c
      · rw [if_neg c3]; exact hj2 _ (by rw [if_neg c3]) g1 c
  cases fl
  · rw [minstrelref03_Div.j0, if_neg (by simp)]
    by_cases c3 : kA = 3
    · rw [if_pos c3]; exact hj1 _ (by rw [if_pos c3]) rfl
    · rw [if_neg c3]; exact hj1 _ (by rw [if_neg c3]) rfl
  · rw [minstrelref03_Div.j0, if_pos rfl, nan_is, Option.bind_some, h1 rfl]; rfl
theorem refDiv_is (a b : Nat) (ha : a < W) (hb : b < W) : Ev (fun k => minstrelref03_Div.f k (a : Int) (b : Int)) ((divW a b : Nat) : Int) := by
  obtain ⟨K1, p1⟩ := kind_is a ha
  obtain ⟨K2, p2⟩ := kind_is b hb
  have va := kind_vals a
  have vb := kind_vals b
  have n4a := nan_kind a
  have n4b := nan_kind b
  have n3a := inf_kind a
  have n3b := inf_kind b
  have n0a := zero_kind a
  have n0b := zero_kind b
  have fka := fin_kind a
  have fkb := fin_kind b
  have hne : (sg a != sg b) = (sg a ^^ sg b) := xor_bne _ _
  have hI := cINF
  -- the last case first
  obtain ⟨K3, p3⟩ : ∃ K, ∀ k, K ≤ k → (rg a < INF ∧ rg b < INF ∧ rg a ≠ 0 ∧ rg b ≠ 0) → minstrelref03_Div.j2 k (a : Int) (b : Int) (sg a != sg b) false = some ((divW a b : Nat) : Int) := by
    by_cases c : rg a < INF ∧ rg b < INF ∧ rg a ≠ 0 ∧ rg b ≠ 0
    · obtain ⟨K, p⟩ := refDiv_j2 a b ha hb c.1 c.2.1 c.2.2.1 c.2.2.2 (sg a != sg b)
      refine ⟨K, fun k hk _ => ?_⟩
      have hl := frac_log b
      have e : divW a b = double.word (sg a != sg b) (rung (stick (fracN a) (fracN b) 128) (expN a - expN b - 1 - 128)) := by
        unfold divW
        rw [div_parts c.1 c.2.1 c.2.2.1 c.2.2.2 128 (by omega), hne]; rfl
      rw [e]; exact p k hk
    · exact ⟨0, fun k _ h => absurd h c⟩
  refine ⟨K1 + K2 + K3 + 3, fun k hk => ?_⟩
  have h1 : minstrelref01_Kind.f k (a : Int) = some ((kindN a : Nat) : Int) := p1 k (by omega)
  have h2 : minstrelref01_Kind.f k (b : Int) = some ((kindN b : Nat) : Int) := p2 k (by omega)
  obtain ⟨m, rfl⟩ : ∃ m, k = m + 3 := ⟨k - 3, by omega⟩
  refine div_top h1 h2 (neg_is a ha) (neg_is b hb) _ rfl (div_js ?_ ?_ ?_ ?_)
  · intro hf
    have hn : double.div a b = none := by
      by_cases c1 : kindN a = 4
      · exact div_nan (Or.inl (n4a.1 c1))
      · by_cases c2 : kindN b = 4
        · exact div_nan (Or.inr (n4b.1 c2))
        · rw [if_neg (by omega), if_neg (by omega)] at hf
          by_cases c3 : kindN a = 0
          · rw [if_pos (by omega)] at hf
            by_cases c4 : kindN b = 0
            · exact div_zz (n0a.1 c3) (n0b.1 c4)
            · rw [if_neg (by omega), if_neg (by omega)] at hf; cases hf
          · rw [if_neg (by omega)] at hf
            by_cases c5 : kindN a = 3
            · rw [if_pos (by omega), beq_iff_eq] at hf
              exact div_ii (n3a.1 c5) (n3b.1 (by omega))
            · rw [if_neg (by omega)] at hf; cases hf
    unfold divW; rw [hn]; rfl
  · intro hf hc
    have c1 : kindN a ≠ 4 := by intro x; rw [if_pos (by omega)] at hf; cases hf
    rw [if_neg (by omega)] at hf
    have c2 : kindN b ≠ 4 := by intro x; rw [if_pos (by omega)] at hf; cases hf
    rw [if_neg (by omega)] at hf
    have e : double.div a b = some (double.word (sg a ^^ sg b) INF) := by
      by_cases c5 : kindN a = 3
      · have c6 : kindN b ≠ 3 := by
          intro x
          rw [if_neg (by omega), if_pos (by omega), beq_iff_eq.2 (by omega)] at hf; cases hf
        exact div_i (n3a.1 c5) (fkb.1 (by omega))
      · have c7 : kindN b = 0 := by omega
        have c8 : kindN a ≠ 0 := by
          intro x
          rw [if_pos (by omega), if_pos (by omega)] at hf; cases hf
        exact div_z (fka.1 (by omega)) (fun x => c8 (n0a.2 x)) (n0b.1 c7)
    unfold divW; rw [e, hne, Option.getD_some, word_eq]
  · intro hf hc hd
    have c1 : kindN a ≠ 4 := by intro x; rw [if_pos (by omega)] at hf; cases hf
    rw [if_neg (by omega)] at hf
    have c2 : kindN b ≠ 4 := by intro x; rw [if_pos (by omega)] at hf; cases hf
    have e : double.div a b = some (double.word (sg a ^^ sg b) 0) := by
      by_cases c5 : kindN b = 3
      · exact div_f (fka.1 (by omega)) (n3b.1 c5)
      · exact div_0 (n0a.1 (by omega)) (fkb.1 (by omega)) (fun x => by have := n0b.2 x; omega)
    unfold divW; rw [e, hne, Option.getD_some, word_eq, Nat.add_zero]
  · intro hf hc hd
    have c1 : kindN a ≠ 4 := by intro x; rw [if_pos (by omega)] at hf; cases hf
    rw [if_neg (by omega)] at hf
    have c2 : kindN b ≠ 4 := by intro x; rw [if_pos (by omega)] at hf; cases hf
    exact p3 (m + 1) (by omega) ⟨fka.1 (by omega), fkb.1 (by omega), fun x => by have := n0a.2 x; omega, fun x => by have := n0b.2 x; omega⟩
end Go.Proofs.Yteghlmcafhhkcaa.Dig
