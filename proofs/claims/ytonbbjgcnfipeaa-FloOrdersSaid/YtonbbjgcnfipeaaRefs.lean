/- What the document's Kind, Neg, Parts, Less, Equal (minstrelref01) compute, by a word's sign and rung. Condition: the word has 64 bits. -/
import Derived.Test.YtonbbjgcnfipeaaDigits
import Derived.Test.YtonbbjgcnfipeaaPlain
namespace Go.Proofs.Ytonbbjgcnfipeaa.Dig
open Go.RowKit Go.Proofs.Ytonbbjgcnfipeaa.Ref Go.Proofs.YtonbbjgcnfipeaaW.PrintWords Go.Proofs.YtonbbjgcnfipeaaW.PrintLast Go.Proofs.YtonbbjgcnfipeaaW.PrintMore
open Go.Proofs.Ytonbbjgcnfipeaa.Num Go.Proofs.Ytonbbjgcnfipeaa.DigLaw Go.Proofs.Ytonbbjgcnfipeaa.Fl

def W : Nat := 18446744073709551616
/-- 0 zero, 1 tiny, 2 plain, 3 infinite, 4 NaN -/
def kindN (a : Nat) : Nat := if INF < rg a then 4 else if rg a = INF then 3 else if rg a = 0 then 0 else if rg a < 2 ^ 52 then 1 else 2
theorem c52 : (2 : Nat) ^ 52 = 4503599627370496 := by decide
theorem c63 : (2 : Nat) ^ 63 = 9223372036854775808 := by decide
theorem cINF : INF = 9218868437227405312 := by unfold INF; decide
theorem field_exp (a : Nat) (h : a < W) : Go.bits .and .u64 ((a : Int) / 4503599627370496) 2047 = ((rg a / 4503599627370496 : Nat) : Int) := by
  unfold W at h
  rw [show (a : Int) / 4503599627370496 = ((a / 4503599627370496 : Nat) : Int) from by omega]
  have := mask_nat (a / 4503599627370496) 11 (by omega) (by decide)
  rw [show ((2 ^ 11 - 1 : Nat) : Int) = 2047 from by decide, show (2 : Nat) ^ 11 = 2048 from by decide] at this
  rw [this]; unfold rg; rw [c63]; omega
theorem field_frac (a : Nat) (h : a < W) : Go.bits .and .u64 (a : Int) 4503599627370495 = ((rg a % 4503599627370496 : Nat) : Int) := by
  unfold W at h
  have := mask_nat a 52 h (by decide)
  rw [show ((2 ^ 52 - 1 : Nat) : Int) = 4503599627370495 from by decide, c52] at this
  rw [this]; unfold rg; rw [c63]; omega
theorem rg_lt (a : Nat) : rg a < 9223372036854775808 := by unfold rg; rw [c63]; exact Nat.mod_lt _ (by decide)
theorem word_split (a : Nat) (h : a < W) : a = sgn (sg a) + rg a := by
  unfold W at h
  unfold sgn sg rg S63
  rw [c63]
  by_cases c : a / 9223372036854775808 % 2 = 1
  · rw [if_pos (by rw [c]; rfl)]; omega
  · rw [if_neg (by rw [beq_iff_eq]; exact c)]; omega
theorem sg_word (s : Bool) (r : Nat) (h : r < 9223372036854775808) : sg (sgn s + r) = s ∧ rg (sgn s + r) = r ∧ sgn s + r < W := by
  unfold sg rg sgn S63 W
  rw [c63]
  cases s
  · rw [if_neg (by simp)]
    refine ⟨?_, by omega, by omega⟩
    rw [beq_eq_false_iff_ne]; omega
  · rw [if_pos rfl]
    refine ⟨?_, by omega, by omega⟩
    rw [beq_iff_eq]; omega
theorem neg_is (a : Nat) (h : a < W) : minstrelref01_Neg.f (a : Int) = some (sg a) := by
  unfold W at h
  unfold minstrelref01_Neg.f sg
  rw [c63]
  congr 1
  by_cases c : a / 9223372036854775808 % 2 = 1
  · rw [beq_iff_eq.2 c, beq_iff_eq]; omega
  · rw [beq_eq_false_iff_ne.2 c, beq_eq_false_iff_ne]; omega
theorem kind_is (a : Nat) (h : a < W) : Ev (fun k => minstrelref01_Kind.f k (a : Int)) ((kindN a : Nat) : Int) := by
  have hr := rg_lt a
  have fe := field_exp a h
  have ff := field_frac a h
  have hI := cINF
  unfold kindN
  rw [c52]
  refine Ev.congr (f := fun k => minstrelref01_Kind.j0 k ((rg a / 4503599627370496 : Nat) : Int) ((rg a % 4503599627370496 : Nat) : Int) (decide (INF < rg a))) (fun k => ?_) ?_
  · unfold minstrelref01_Kind.f
    rw [fe, ff]
    by_cases c : rg a / 4503599627370496 = 2047
    · rw [if_pos (by omega)]
      congr 1
      by_cases z : rg a % 4503599627370496 = 0
      · rw [decide_eq_false (by omega), z]; rfl
      · rw [decide_eq_true (by omega), bne_iff_ne]; omega
    · rw [if_neg (by omega), decide_eq_false (by omega)]
  · by_cases c4 : INF < rg a
    · rw [if_pos c4]
      refine Ev.step (f := fun _ => some 4) (fun k => ?_) (Ev.now _)
      rw [minstrelref01_Kind.j0, decide_eq_true c4, if_pos rfl]
    · rw [if_neg c4]
      by_cases c3 : rg a = INF
      · rw [if_pos c3]
        refine Ev.step (f := fun _ => some 3) (fun k => ?_) (Ev.now _)
        rw [minstrelref01_Kind.j0, decide_eq_false c4, if_neg (by simp), if_pos (by omega)]
      · rw [if_neg c3]
        by_cases c0 : rg a = 0
        · rw [if_pos c0]
          refine Ev.step (f := fun k => minstrelref01_Kind.j1 k ((rg a / 4503599627370496 : Nat) : Int) true) (fun k => ?_) (Ev.step (f := fun _ => some 0) (fun k => ?_) (Ev.now _))
          · rw [minstrelref01_Kind.j0, decide_eq_false c4, if_neg (by simp), if_neg (by omega), if_pos (by omega), c0]; rfl
          · rw [minstrelref01_Kind.j1, if_pos rfl]
        · rw [if_neg c0]
          by_cases c1 : rg a < 4503599627370496
          · rw [if_pos c1]
            refine Ev.step (f := fun k => minstrelref01_Kind.j1 k ((rg a / 4503599627370496 : Nat) : Int) false) (fun k => ?_) (Ev.step (f := fun _ => some 1) (fun k => ?_) (Ev.now _))
            · rw [minstrelref01_Kind.j0, decide_eq_false c4, if_neg (by simp), if_neg (by omega), if_pos (by omega), beq_eq_false_iff_ne.2 (by omega)]
            · rw [minstrelref01_Kind.j1, if_neg (by simp), if_pos (by omega)]
          · rw [if_neg c1]
            refine Ev.step (f := fun k => minstrelref01_Kind.j1 k ((rg a / 4503599627370496 : Nat) : Int) false) (fun k => ?_) (Ev.step (f := fun _ => some 2) (fun k => ?_) (Ev.now _))
            · rw [minstrelref01_Kind.j0, decide_eq_false c4, if_neg (by simp), if_neg (by omega), if_neg (by omega)]
            · rw [minstrelref01_Kind.j1, if_neg (by simp), if_neg (by omega)]
/-- a word's exponent and fraction -/
def expN (a : Nat) : Int := if kindN a = 1 then -1074 else if kindN a = 2 then ((rg a / 4503599627370496 : Nat) : Int) - 1075 else 0
def fracN (a : Nat) : Nat := if kindN a = 1 then rg a else if kindN a = 2 then rg a % 4503599627370496 + 4503599627370496 else 0
theorem kind_facts (a : Nat) : (kindN a = 4 ∧ INF < rg a) ∨ (kindN a = 3 ∧ rg a = INF) ∨ (kindN a = 0 ∧ rg a = 0) ∨ (kindN a = 1 ∧ 0 < rg a ∧ rg a < 4503599627370496) ∨ (kindN a = 2 ∧ 4503599627370496 ≤ rg a ∧ rg a < INF) := by
  unfold kindN
  rw [c52]
  by_cases c4 : INF < rg a
  · left; exact ⟨if_pos c4, c4⟩
  · rw [if_neg c4]
    by_cases c3 : rg a = INF
    · right; left; exact ⟨if_pos c3, c3⟩
    · rw [if_neg c3]
      by_cases c0 : rg a = 0
      · right; right; left; exact ⟨if_pos c0, c0⟩
      · rw [if_neg c0]
        by_cases c1 : rg a < 4503599627370496
        · right; right; right; left; exact ⟨if_pos c1, by omega, c1⟩
        · right; right; right; right; exact ⟨if_neg c1, by omega, by omega⟩
theorem ef_other (a : Nat) (h1 : kindN a ≠ 1) (h2 : kindN a ≠ 2) : expN a = 0 ∧ fracN a = 0 := by
  unfold expN fracN; rw [if_neg h1, if_neg h2, if_neg h1, if_neg h2]; exact ⟨rfl, rfl⟩
theorem ef_tiny (a : Nat) (h : kindN a = 1) : expN a = -1074 ∧ fracN a = rg a := by
  unfold expN fracN; rw [if_pos h, if_pos h]; exact ⟨rfl, rfl⟩
theorem ef_plain (a : Nat) (h : kindN a = 2) : expN a = ((rg a / 4503599627370496 : Nat) : Int) - 1075 ∧ fracN a = rg a % 4503599627370496 + 4503599627370496 := by
  have h1 : kindN a ≠ 1 := by rw [h]; decide
  unfold expN fracN; rw [if_neg h1, if_pos h, if_neg h1, if_pos h]; exact ⟨rfl, rfl⟩
/-- the five kinds: parts and rungs -/
theorem ef_cases (a : Nat) : (kindN a ≠ 1 ∧ kindN a ≠ 2 ∧ expN a = 0 ∧ fracN a = 0 ∧ (rg a = 0 ∨ INF ≤ rg a)) ∨ (kindN a = 1 ∧ expN a = -1074 ∧ fracN a = rg a ∧ 0 < rg a ∧ rg a < 4503599627370496) ∨ (kindN a = 2 ∧ expN a = ((rg a / 4503599627370496 : Nat) : Int) - 1075 ∧ fracN a = rg a % 4503599627370496 + 4503599627370496 ∧ 4503599627370496 ≤ rg a ∧ rg a < INF) := by
  rcases kind_facts a with ⟨hk, hf⟩ | ⟨hk, hf⟩ | ⟨hk, hf⟩ | ⟨hk, hf⟩ | ⟨hk, hf⟩
  · left
    have h1 : kindN a ≠ 1 := by rw [hk]; decide
    have h2 : kindN a ≠ 2 := by rw [hk]; decide
    exact ⟨h1, h2, (ef_other a h1 h2).1, (ef_other a h1 h2).2, Or.inr (Nat.le_of_lt hf)⟩
  · left
    have h1 : kindN a ≠ 1 := by rw [hk]; decide
    have h2 : kindN a ≠ 2 := by rw [hk]; decide
    exact ⟨h1, h2, (ef_other a h1 h2).1, (ef_other a h1 h2).2, Or.inr (Nat.le_of_eq hf.symm)⟩
  · left
    have h1 : kindN a ≠ 1 := by rw [hk]; decide
    have h2 : kindN a ≠ 2 := by rw [hk]; decide
    exact ⟨h1, h2, (ef_other a h1 h2).1, (ef_other a h1 h2).2, Or.inl hf⟩
  · right; left; exact ⟨hk, (ef_tiny a hk).1, (ef_tiny a hk).2, hf.1, hf.2⟩
  · right; right; exact ⟨hk, (ef_plain a hk).1, (ef_plain a hk).2, hf.1, hf.2⟩
theorem parts_is (a : Nat) (h : a < W) : Ev (fun k => minstrelref01_Parts.f k (a : Int)) (sg a, expN a, ((fracN a : Nat) : Int)) := by
  have hr := rg_lt a
  have hI := cINF
  refine Ev.bind (kind_is a h) ?_
  refine Ev.congr (f := fun _ => some (sg a, expN a, ((fracN a : Nat) : Int))) (fun k => ?_) (Ev.now _)
  rw [field_frac a h, field_exp a h, neg_is a h]
  simp only [Option.bind_some]
  rcases ef_cases a with ⟨h1, h2, he, hf, _⟩ | ⟨hk, he, hf, h3, h4⟩ | ⟨hk, he, hf, h3, h4⟩
  · rw [if_neg (by omega), if_neg (by omega), he, hf]; rfl
  · rw [if_pos (by omega), he, hf, Nat.mod_eq_of_lt h4]
  · rw [if_neg (by omega), if_pos (by omega), he, hf]
    rw [i64of (rg a / 4503599627370496) rfl (by omega), i64in (by omega) (by omega)]
    rw [show ((rg a % 4503599627370496 : Nat) : Int) + 4503599627370496 = ((rg a % 4503599627370496 + 4503599627370496 : Nat) : Int) from rfl, u64of _ (by omega)]
theorem frac_lt (a : Nat) : fracN a < 9007199254740992 := by
  rcases ef_cases a with ⟨h1, h2, he, hf, _⟩ | ⟨hk, he, hf, h3, h4⟩ | ⟨hk, he, hf, h3, h4⟩
  · rw [hf]; decide
  · rw [hf]; omega
  · rw [hf]; omega
theorem exp_range (a : Nat) : -1074 ≤ expN a ∧ expN a ≤ 971 := by
  have hI := cINF
  rcases ef_cases a with ⟨h1, h2, he, hf, _⟩ | ⟨hk, he, hf, h3, h4⟩ | ⟨hk, he, hf, h3, h4⟩
  · rw [he]; omega
  · rw [he]; omega
  · rw [he]; omega
/-- a finite word's parts make its number -/
theorem frac_V (a : Nat) (hfin : rg a < INF) : fracN a * 2 ^ (expN a + 1074).toNat = V (rg a) := by
  rcases ef_cases a with ⟨h1, h2, he, hf, h0⟩ | ⟨hk, he, hf, h3, h4⟩ | ⟨hk, he, hf, h3, h4⟩
  · have hr : rg a = 0 := by omega
    rw [hf, hr, Nat.zero_mul, V_small (by rw [c52]; decide)]
  · rw [he, hf, V_small (by rw [c52]; exact h4), show ((-1074 : Int) + 1074).toNat = 0 from rfl, Nat.pow_zero, Nat.mul_one]
  · rw [he, hf]
    unfold V
    rw [c52, if_neg (by omega), Nat.add_comm 4503599627370496]
    congr 2; omega
end Go.Proofs.Ytonbbjgcnfipeaa.Dig

/- Plain law: the kinds of words, and products where an operand is no finite number. -/
namespace Go.Proofs.Ytonbbjgcnfipeaa.Dig
open Go.RowKit Go.Proofs.Ytonbbjgcnfipeaa.Ref Go.Proofs.YtonbbjgcnfipeaaW.PrintWords Go.Proofs.YtonbbjgcnfipeaaW.PrintLast Go.Proofs.YtonbbjgcnfipeaaW.PrintMore
open Go.Proofs.Ytonbbjgcnfipeaa.Num Go.Proofs.Ytonbbjgcnfipeaa.DigLaw Go.Proofs.Ytonbbjgcnfipeaa.Fl
open Ieee (double)

def NANW : Nat := 9221120237041090560
def mulW (a b : Nat) : Nat := (double.mul a b).getD NANW
def addW (a b : Nat) : Nat := (double.add a b).getD NANW

theorem kind_vals (a : Nat) : kindN a = 0 ∨ kindN a = 1 ∨ kindN a = 2 ∨ kindN a = 3 ∨ kindN a = 4 := by
  rcases kind_facts a with ⟨hk, _⟩ | ⟨hk, _⟩ | ⟨hk, _⟩ | ⟨hk, _⟩ | ⟨hk, _⟩ <;> rw [hk] <;> decide
theorem nan_kind (a : Nat) : kindN a = 4 ↔ INF < rg a := by
  rcases kind_facts a with ⟨hk, h⟩ | ⟨hk, h⟩ | ⟨hk, h⟩ | ⟨hk, h⟩ | ⟨hk, h⟩ <;> rw [hk]
  · exact ⟨fun _ => h, fun _ => rfl⟩
  · exact ⟨fun e => by omega, fun e => by omega⟩
  · exact ⟨fun e => by omega, fun e => by omega⟩
  · have := cINF; exact ⟨fun e => by omega, fun e => by omega⟩
  · exact ⟨fun e => by omega, fun e => by omega⟩
theorem inf_kind (a : Nat) : kindN a = 3 ↔ rg a = INF := by
  rcases kind_facts a with ⟨hk, h⟩ | ⟨hk, h⟩ | ⟨hk, h⟩ | ⟨hk, h⟩ | ⟨hk, h⟩ <;> rw [hk]
  · exact ⟨fun e => by omega, fun e => by omega⟩
  · exact ⟨fun _ => h, fun _ => rfl⟩
  · have := cINF; exact ⟨fun e => by omega, fun e => by omega⟩
  · have := cINF; exact ⟨fun e => by omega, fun e => by omega⟩
  · exact ⟨fun e => by omega, fun e => by omega⟩
theorem zero_kind (a : Nat) : kindN a = 0 ↔ rg a = 0 := by
  have hI := cINF
  rcases kind_facts a with ⟨hk, h⟩ | ⟨hk, h⟩ | ⟨hk, h⟩ | ⟨hk, h⟩ | ⟨hk, h⟩ <;> rw [hk]
  · exact ⟨fun e => by omega, fun e => by omega⟩
  · exact ⟨fun e => by omega, fun e => by omega⟩
  · exact ⟨fun _ => h, fun _ => rfl⟩
  · exact ⟨fun e => by omega, fun e => by omega⟩
  · exact ⟨fun e => by omega, fun e => by omega⟩
theorem fin_kind (a : Nat) : kindN a < 3 ↔ rg a < INF := by
  have hI := cINF
  rcases kind_facts a with ⟨hk, h⟩ | ⟨hk, h⟩ | ⟨hk, h⟩ | ⟨hk, h⟩ | ⟨hk, h⟩ <;> rw [hk]
  · exact ⟨fun e => by omega, fun e => by omega⟩
  · exact ⟨fun e => by omega, fun e => by omega⟩
  · exact ⟨fun e => by omega, fun e => by omega⟩
  · exact ⟨fun e => by omega, fun e => by omega⟩
  · exact ⟨fun e => by omega, fun e => by omega⟩
theorem xor_bne (s t : Bool) : (s != t) = (s ^^ t) := by cases s <;> cases t <;> rfl

/-! ### Mul -/
theorem mul_nan {a b : Nat} (h : INF < rg a ∨ INF < rg b) : double.mul a b = none := by
  unfold Ieee.Format.mul
  rcases h with h | h
  · rw [read_nan h]; rfl
  · rw [read_nan h]; cases double.read a <;> rfl
theorem read_zero {a : Nat} (h : rg a = 0) : double.read a = .number (sg a) 0 (-1074) := by
  rw [read_eq, h, if_pos (by decide)]
theorem mul_zi {a b : Nat} (ha : rg a = 0) (hb : rg b = INF) : double.mul a b = none := by
  unfold Ieee.Format.mul; rw [read_zero ha, read_inf hb]; rfl
theorem mul_iz {a b : Nat} (ha : rg a = INF) (hb : rg b = 0) : double.mul a b = none := by
  unfold Ieee.Format.mul; rw [read_inf ha, read_zero hb]; rfl
theorem mag_pos {a m : Nat} {p : Int} (h : rg a ≠ 0) (hv : m * 2 ^ (p + 1074).toNat = V (rg a)) : m ≠ 0 := by
  intro e; rw [e, Nat.zero_mul] at hv
  have h1 := V_strict (a := 0) (b := rg a) (by omega)
  omega
theorem mul_ii {a b : Nat} (ha : rg a = INF) (hb : rg b = INF) : double.mul a b = some (double.word (sg a ^^ sg b) INF) := by
  unfold Ieee.Format.mul; rw [read_inf ha, read_inf hb, ← infRung_eq]; rfl
theorem mul_if {a b : Nat} (ha : rg a = INF) (hb : rg b < INF) (h0 : rg b ≠ 0) : double.mul a b = some (double.word (sg a ^^ sg b) INF) := by
  obtain ⟨m, p, e, _, hv⟩ := read_fin hb
  unfold Ieee.Format.mul
  rw [read_inf ha, e, ← infRung_eq]
  simp only [Ieee.Datum.product, if_neg (mag_pos h0 hv)]; rfl
theorem mul_fi {a b : Nat} (hb : rg b = INF) (ha : rg a < INF) (h0 : rg a ≠ 0) : double.mul a b = some (double.word (sg a ^^ sg b) INF) := by
  obtain ⟨m, p, e, _, hv⟩ := read_fin ha
  unfold Ieee.Format.mul
  rw [read_inf hb, e, ← infRung_eq]
  simp only [Ieee.Datum.product, if_neg (mag_pos h0 hv)]
  rw [Bool.xor_comm]; rfl

end Go.Proofs.Ytonbbjgcnfipeaa.Dig

/- Plain law: turning a sign about; products in either order, and with a sign turned about. -/
namespace Go.Proofs.Ytonbbjgcnfipeaa.Dig
open Go.RowKit Go.Proofs.Ytonbbjgcnfipeaa.Num Go.Proofs.Ytonbbjgcnfipeaa.DigLaw Go.Proofs.Ytonbbjgcnfipeaa.Fl
open Ieee (double Datum)

def flipW (a : Nat) : Nat := sgn (!sg a) + rg a
def negW (a : Nat) : Nat := if kindN a = 4 then NANW else flipW a
theorem xor_top (r : Nat) (h : r < 9223372036854775808) : r ^^^ 9223372036854775808 = 9223372036854775808 + r := by
  have e : (9223372036854775808 : Nat) = 2 ^ 63 := by decide
  rw [e] at h ⊢
  have h1 := Nat.two_pow_add_eq_or_of_lt h 1
  rw [Nat.mul_one] at h1
  rw [h1]
  apply Nat.eq_of_testBit_eq
  intro i
  rw [Nat.testBit_xor, Nat.testBit_or, Nat.testBit_two_pow]
  by_cases c : 63 = i
  · subst c
    rw [Nat.testBit_lt_two_pow h]; simp
  · simp [c]
theorem flip_xor (a : Nat) (h : a < W) : Go.bits .xor .u64 (a : Int) 9223372036854775808 = ((flipW a : Nat) : Int) := by
  have hw := word_split a h
  have hr := rg_lt a
  unfold W at h
  rw [show (9223372036854775808 : Int) = ((9223372036854775808 : Nat) : Int) from rfl, xor_nat _ _ h (by decide)]
  congr 1
  unfold flipW
  generalize rg a = r at *
  generalize sg a = s at *
  subst hw
  cases s
  · unfold sgn S63
    rw [if_neg (by simp), Nat.zero_add, xor_top r hr]; rfl
  · unfold sgn S63
    rw [if_pos rfl, ← xor_top r hr, Nat.xor_assoc, Nat.xor_self, Nat.xor_zero]; simp
theorem flip_facts (a : Nat) : sg (flipW a) = !sg a ∧ rg (flipW a) = rg a ∧ flipW a < W := sg_word _ _ (rg_lt a)
theorem word_facts (s : Bool) {r : Nat} (h : r ≤ INF) : sg (double.word s r) = s ∧ rg (double.word s r) = r ∧ double.word s r < W := by
  rw [word_eq]
  have h2 := INF_lt
  exact sg_word s r (by unfold S63 at h2; omega)
theorem word_ext {a b : Nat} (ha : a < W) (hb : b < W) (h1 : sg a = sg b) (h2 : rg a = rg b) : a = b := by
  rw [word_split a ha, word_split b hb, h1, h2]
theorem nanw_facts : rg NANW = 9221120237041090560 ∧ sg NANW = false ∧ NANW < W ∧ kindN NANW = 4 := by decide +kernel
theorem read_flip (a : Nat) : double.read (flipW a) = (double.read a).opposite := by
  obtain ⟨h1, h2, _⟩ := flip_facts a
  rw [read_eq, read_eq, h1, h2]
  split
  · rfl
  · split
    · rfl
    · split <;> rfl
theorem product_comm (x y : Datum) : x.product y = y.product x := by
  cases x <;> cases y <;> simp only [Datum.product]
  · rw [Bool.xor_comm, Nat.mul_comm, Int.add_comm]
  · rw [Bool.xor_comm]
theorem mul_comm' (a b : Nat) : mulW a b = mulW b a := by
  unfold mulW Ieee.Format.mul; rw [product_comm]
theorem xor_not (s t : Bool) : ((!s) ^^ t) = !(s ^^ t) := by cases s <;> cases t <;> rfl
theorem product_opp (x y : Datum) : x.opposite.product y = (x.product y).map Datum.opposite := by
  cases x <;> cases y <;> simp only [Datum.opposite, Datum.product, Option.map_some, Option.map_none, xor_not]
  · split
    · rfl
    · simp only [Option.map_some, Datum.opposite, Bool.xor_comm]
      rw [Bool.xor_comm]
      simp
  · split
    · rfl
    · simp only [Option.map_some, Datum.opposite]
theorem word_not (s : Bool) {r : Nat} (h : r ≤ INF) : double.word (!s) r = flipW (double.word s r) := by
  obtain ⟨h1, h2, _⟩ := word_facts s h
  unfold flipW; rw [h1, h2, word_eq]
theorem write_opp (d : Datum) (h : d.isNaN = false) : double.write d.opposite = flipW (double.write d) := by
  cases d with
  | number s m p =>
    unfold Datum.opposite
    rw [write_number, write_number, word_not s (rung_le_inf m p)]
  | infinity s =>
    unfold Datum.opposite Ieee.Format.write
    rw [infRung_eq]; exact word_not s (Nat.le_refl _)
  | nan s f => cases h
theorem product_num {x y d : Datum} (h : x.product y = some d) : d.isNaN = false := by
  cases d with
  | number s m p => rfl
  | infinity s => rfl
  | nan s f =>
    exfalso
    cases x <;> cases y <;> simp only [Datum.product] at h <;> try (split at h) <;> cases h
    all_goals cases h
theorem not_nan_of_le {a : Nat} (h : rg a ≤ INF) : kindN a ≠ 4 := fun e => by have := (nan_kind a).1 e; omega
theorem write_num (d : Datum) (h : d.isNaN = false) : rg (double.write d) ≤ INF ∧ double.write d < W := by
  cases d with
  | number s m p => rw [write_number, (word_facts s (rung_le_inf m p)).2.1]; exact ⟨rung_le_inf m p, (word_facts s (rung_le_inf m p)).2.2⟩
  | infinity s =>
    unfold Ieee.Format.write
    rw [infRung_eq, (word_facts s (Nat.le_refl INF)).2.1]; exact ⟨Nat.le_refl _, (word_facts s (Nat.le_refl INF)).2.2⟩
  | nan s f => cases h
theorem neg_nan {a : Nat} (h : INF < rg a) : negW a = NANW := by unfold negW; rw [if_pos ((nan_kind a).2 h)]
theorem neg_num {a : Nat} (h : rg a ≤ INF) : negW a = flipW a := by unfold negW; rw [if_neg (not_nan_of_le h)]
theorem nanw_nan : INF < rg NANW := by rw [nanw_facts.1, cINF]; decide
theorem mul_neg (a b : Nat) : mulW (negW a) b = negW (mulW a b) := by
  rcases Nat.lt_or_ge INF (rg a) with h | h
  · rw [neg_nan h]
    unfold mulW
    rw [mul_nan (.inl h), mul_nan (.inl nanw_nan)]
    exact (neg_nan nanw_nan).symm
  · rw [neg_num h]
    unfold mulW Ieee.Format.mul
    rw [read_flip, product_opp]
    cases hd : (double.read a).product (double.read b) with
    | none => exact (neg_nan nanw_nan).symm
    | some d =>
      have hn := product_num hd
      show double.write d.opposite = negW (double.write d)
      rw [write_opp d hn, neg_num (write_num d hn).1]
theorem neg_lt (a : Nat) : negW a < W := by
  unfold negW; split
  · exact nanw_facts.2.2.1
  · exact (flip_facts a).2.2
theorem mul_lt (a b : Nat) : mulW a b < W := by
  unfold mulW Ieee.Format.mul
  cases hd : (double.read a).product (double.read b) with
  | none => exact nanw_facts.2.2.1
  | some d => exact (write_num d (product_num hd)).2
end Go.Proofs.Ytonbbjgcnfipeaa.Dig

/- What the document's Order, Less, Equal (minstrelref01) compute: the order of the numbers that words stand for. Condition: the words have 64 bits. -/
namespace Go.Proofs.Ytonbbjgcnfipeaa.Dig
open Go.RowKit Go.Proofs.Ytonbbjgcnfipeaa.Ref Go.Proofs.YtonbbjgcnfipeaaW.PrintWords Go.Proofs.YtonbbjgcnfipeaaW.PrintLast Go.Proofs.YtonbbjgcnfipeaaW.PrintMore
open Go.Proofs.Ytonbbjgcnfipeaa.Num Go.Proofs.Ytonbbjgcnfipeaa.DigLaw Go.Proofs.Ytonbbjgcnfipeaa.Fl

theorem andNot_top (a : Nat) (h : a < W) : Go.bits .andNot .u64 (a : Int) 9223372036854775808 = ((rg a : Nat) : Int) := by
  have e : Go.bits .andNot .u64 (a : Int) ((9223372036854775808 : Nat) : Int) = ((rg a : Nat) : Int) := by
    have ha' : a % 2 ^ IntKind.u64.bits = a := Nat.mod_eq_of_lt h
    simp only [bits, BitVec.ofInt_natCast]
    have key : (BitVec.ofNat IntKind.u64.bits a &&& ~~~ BitVec.ofNat IntKind.u64.bits 9223372036854775808).toNat = rg a := by
      show (BitVec.ofNat 64 a &&& ~~~ BitVec.ofNat 64 9223372036854775808).toNat = rg a
      have hn : ~~~ BitVec.ofNat 64 9223372036854775808 = BitVec.ofNat 64 9223372036854775807 := by decide
      rw [hn, BitVec.toNat_and, BitVec.toNat_ofNat, BitVec.toNat_ofNat]
      have e64 : (2 : Nat) ^ 64 = 18446744073709551616 := by decide
      have h' : a < 18446744073709551616 := h
      rw [e64, Nat.mod_eq_of_lt h', show 9223372036854775807 % 18446744073709551616 = 2 ^ 63 - 1 from by decide, Nat.and_two_pow_sub_one_eq_mod]
      rfl
    rw [key]
    have := rg_lt a
    exact u64of _ (by omega)
  exact e
def cmpI (x y : Int) : Int := if x < y then -1 else if x = y then 0 else 1
theorem V_cmp (s : Bool) (r t : Nat) : (if r = t then (0 : Int) else if ((decide ((r : Int) < (t : Int))) != s) = true then -1 else 1) = cmpI (sn s (V r)) (sn s (V t)) := by
  unfold cmpI
  rcases Nat.lt_trichotomy r t with h | h | h
  · have hv := V_strict h
    rw [if_neg (by omega), decide_eq_true (by omega)]
    cases s
    · rw [if_pos (by rfl), if_pos (show sn false (V r) < sn false (V t) by unfold sn; simp <;> omega)]
    · rw [if_neg (by simp), if_neg (show ¬ sn true (V r) < sn true (V t) by unfold sn; simp <;> omega), if_neg (show ¬ sn true (V r) = sn true (V t) by unfold sn; simp <;> omega)]
  · subst h
    rw [if_pos rfl, if_neg (Int.lt_irrefl _), if_pos rfl]
  · have hv := V_strict h
    rw [if_neg (by omega), decide_eq_false (by omega)]
    cases s
    · rw [if_neg (by simp), if_neg (show ¬ sn false (V r) < sn false (V t) by unfold sn; simp <;> omega), if_neg (show ¬ sn false (V r) = sn false (V t) by unfold sn; simp <;> omega)]
    · rw [if_pos (by rfl), if_pos (show sn true (V r) < sn true (V t) by unfold sn; simp <;> omega)]
theorem V_pos {r : Nat} (h : r ≠ 0) : 0 < V r := by
  have := V_strict (a := 0) (b := r) (by omega); omega
theorem V_cmp_ne {s t : Bool} (h : s ≠ t) {r q : Nat} (hz : r ≠ 0 ∨ q ≠ 0) : (if s = true then (-1 : Int) else 1) = cmpI (sn s (V r)) (sn t (V q)) := by
  have hp : 0 < V r + V q := by
    rcases hz with hz | hz
    · have := V_pos hz; omega
    · have := V_pos hz; omega
  unfold cmpI
  cases s <;> cases t
  · exact absurd rfl h
  · rw [if_neg (by simp), if_neg (show ¬ sn false (V r) < sn true (V q) by unfold sn; simp <;> omega), if_neg (show ¬ sn false (V r) = sn true (V q) by unfold sn; simp <;> omega)]
  · rw [if_pos rfl, if_pos (show sn true (V r) < sn false (V q) by unfold sn; simp <;> omega)]
  · exact absurd rfl h
theorem order_j (a b : Nat) (ha : a < W) (hb : b < W) (k : Nat) : minstrelref01_Order.j0 (k + 1) (a : Int) (b : Int) (decide (rg a = 0 ∧ rg b = 0)) = some (cmpI (Vi a) (Vi b)) := by
  rw [minstrelref01_Order.j0, neg_is a ha, neg_is b hb, andNot_top a ha, andNot_top b hb, Option.bind_some, Option.bind_some, Option.bind_some, Option.bind_some]
  by_cases z : rg a = 0 ∧ rg b = 0
  · have hV0 : V 0 = 0 := V_small (by decide)
    rw [decide_eq_true z, if_pos rfl]
    unfold Vi cmpI
    rw [z.1, z.2, hV0]
    cases sg a <;> cases sg b <;> rfl
  · rw [decide_eq_false z, if_neg (by simp)]
    by_cases s : sg a = sg b
    · have hne : ¬ (sg a != sg b) = true := by rw [s]; simp
      rw [if_neg hne]
      unfold Vi
      rw [← s, ← V_cmp (sg a) (rg a) (rg b)]
      by_cases c : rg a = rg b
      · rw [if_pos (by omega), if_pos c]
      · rw [if_neg (by omega), if_neg c]; split <;> rfl
    · have hne : (sg a != sg b) = true := bne_iff_ne.2 s
      rw [if_pos hne]
      unfold Vi
      rw [← V_cmp_ne s (by omega)]
      split <;> rfl
theorem order_is (a b : Nat) (ha : a < W) (hb : b < W) : Ev (fun k => minstrelref01_Order.f k (a : Int) (b : Int)) (cmpI (Vi a) (Vi b)) := by
  obtain ⟨K1, p1⟩ := kind_is a ha
  obtain ⟨K2, p2⟩ := kind_is b hb
  refine ⟨max (max K1 K2) 1, fun k hk => ?_⟩
  obtain ⟨m, rfl⟩ : ∃ m, k = m + 1 := ⟨k - 1, by omega⟩
  have h1 : minstrelref01_Kind.f (m + 1) (a : Int) = some ((kindN a : Nat) : Int) := p1 _ (by omega)
  have h2 : minstrelref01_Kind.f (m + 1) (b : Int) = some ((kindN b : Nat) : Int) := p2 _ (by omega)
  show minstrelref01_Order.f (m + 1) (a : Int) (b : Int) = _
  unfold minstrelref01_Order.f
  rw [h1, Option.bind_some, h2, Option.bind_some]
  have hj := order_j a b ha hb m
  by_cases za : kindN a = 0
  · rw [if_pos (by omega)]
    have e : (((kindN b : Nat) : Int) == 0) = decide (rg a = 0 ∧ rg b = 0) := by
      by_cases zb : kindN b = 0
      · rw [zb, decide_eq_true ⟨(zero_kind a).1 za, (zero_kind b).1 zb⟩]; rfl
      · rw [decide_eq_false (fun h => zb ((zero_kind b).2 h.2)), beq_eq_false_iff_ne.2 (by omega)]
    rw [e]; exact hj
  · rw [if_neg (by omega)]
    rw [decide_eq_false (fun h => za ((zero_kind a).2 h.1))] at hj
    exact hj
def lessB (a b : Nat) : Bool := decide (rg a ≤ INF ∧ rg b ≤ INF ∧ Vi a < Vi b)
def eqB (a b : Nat) : Bool := decide (rg a ≤ INF ∧ rg b ≤ INF ∧ Vi a = Vi b)
theorem cmpI_lt (x y : Int) : decide (cmpI x y < 0) = decide (x < y) := by
  unfold cmpI
  by_cases h : x < y
  · rw [if_pos h, decide_eq_true h]; rfl
  · rw [if_neg h, decide_eq_false h]; split <;> rfl
theorem cmpI_eq (x y : Int) : (cmpI x y == 0) = decide (x = y) := by
  unfold cmpI
  by_cases h : x < y
  · rw [if_pos h, decide_eq_false (by omega)]; rfl
  · rw [if_neg h]
    by_cases e : x = y
    · rw [if_pos e, decide_eq_true e]; rfl
    · rw [if_neg e, decide_eq_false e]; rfl
theorem less_is (a b : Nat) (ha : a < W) (hb : b < W) : Ev (fun k => minstrelref01_Less.f k (a : Int) (b : Int)) (lessB a b) := by
  obtain ⟨K1, p1⟩ := kind_is a ha
  obtain ⟨K2, p2⟩ := kind_is b hb
  obtain ⟨K3, p3⟩ := order_is a b ha hb
  refine ⟨max (max K1 K2) K3, fun k hk => ?_⟩
  have h1 : minstrelref01_Kind.f k (a : Int) = some ((kindN a : Nat) : Int) := p1 _ (by omega)
  have h2 : minstrelref01_Kind.f k (b : Int) = some ((kindN b : Nat) : Int) := p2 _ (by omega)
  have h3 : minstrelref01_Order.f k (a : Int) (b : Int) = some (cmpI (Vi a) (Vi b)) := p3 _ (by omega)
  show minstrelref01_Less.f k (a : Int) (b : Int) = _
  unfold minstrelref01_Less.f lessB
  rw [h1, Option.bind_some]
  have na := nan_kind a
  have nb := nan_kind b
  by_cases ka : kindN a = 4
  · rw [if_pos (by omega), decide_eq_false (fun h => by have := na.1 ka; omega)]
  · have la : rg a ≤ INF := Nat.le_of_not_lt fun h => ka (na.2 h)
    rw [if_neg (by omega), h2, Option.bind_some]
    by_cases kb : kindN b = 4
    · rw [if_pos (by omega), decide_eq_false (fun h => by have := nb.1 kb; omega)]
    · have lb : rg b ≤ INF := Nat.le_of_not_lt fun h => kb (nb.2 h)
      rw [if_neg (by omega), h3, Option.bind_some, cmpI_lt]
      congr 1
      exact decide_eq_decide.2 ⟨fun h => ⟨la, lb, h⟩, fun h => h.2.2⟩
end Go.Proofs.Ytonbbjgcnfipeaa.Dig

/- What the document's Equal (minstrelref01) computes. Condition: the words have 64 bits. -/
namespace Go.Proofs.Ytonbbjgcnfipeaa.Dig
open Go.RowKit Go.Proofs.Ytonbbjgcnfipeaa.Ref Go.Proofs.YtonbbjgcnfipeaaW.PrintWords Go.Proofs.YtonbbjgcnfipeaaW.PrintLast Go.Proofs.YtonbbjgcnfipeaaW.PrintMore
open Go.Proofs.Ytonbbjgcnfipeaa.Num Go.Proofs.Ytonbbjgcnfipeaa.DigLaw Go.Proofs.Ytonbbjgcnfipeaa.Fl

theorem equal_is (a b : Nat) (ha : a < W) (hb : b < W) : Ev (fun k => minstrelref01_Equal.f k (a : Int) (b : Int)) (eqB a b) := by
  obtain ⟨K1, p1⟩ := kind_is a ha
  obtain ⟨K2, p2⟩ := kind_is b hb
  obtain ⟨K3, p3⟩ := order_is a b ha hb
  refine ⟨max (max K1 K2) K3, fun k hk => ?_⟩
  have h1 : minstrelref01_Kind.f k (a : Int) = some ((kindN a : Nat) : Int) := p1 _ (by omega)
  have h2 : minstrelref01_Kind.f k (b : Int) = some ((kindN b : Nat) : Int) := p2 _ (by omega)
  have h3 : minstrelref01_Order.f k (a : Int) (b : Int) = some (cmpI (Vi a) (Vi b)) := p3 _ (by omega)
  show minstrelref01_Equal.f k (a : Int) (b : Int) = _
  unfold minstrelref01_Equal.f eqB
  rw [h1, Option.bind_some]
  have na := nan_kind a
  have nb := nan_kind b
  by_cases ka : kindN a = 4
  · rw [if_pos (by omega), decide_eq_false (fun h => by have := na.1 ka; omega)]
  · have la : rg a ≤ INF := Nat.le_of_not_lt fun h => ka (na.2 h)
    rw [if_neg (by omega), h2, Option.bind_some]
    by_cases kb : kindN b = 4
    · rw [if_pos (by omega), decide_eq_false (fun h => by have := nb.1 kb; omega)]
    · have lb : rg b ≤ INF := Nat.le_of_not_lt fun h => kb (nb.2 h)
      rw [if_neg (by omega), h3, Option.bind_some, cmpI_eq]
      congr 1
      exact decide_eq_decide.2 ⟨fun h => ⟨la, lb, h⟩, fun h => h.2.2⟩
end Go.Proofs.Ytonbbjgcnfipeaa.Dig
