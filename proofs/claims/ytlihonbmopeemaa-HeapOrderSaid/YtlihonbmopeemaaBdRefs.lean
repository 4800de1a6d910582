/- Texts on Refs, joined. No conditions but those that each theorem states. -/
import Derived.Test.YtlihonbmopeemaaBdDigits
import Derived.Test.YtlihonbmopeemaaBdPlain
section
namespace Go.Proofs.Ytlihonbmopeemaa.Dig
open Go.RowKit Go.Proofs.Ytlihonbmopeemaa.Ref Go.Proofs.YtlihonbmopeemaaW.PrintWords Go.Proofs.YtlihonbmopeemaaW.PrintLast Go.Proofs.YtlihonbmopeemaaW.PrintMore
open Go.Proofs.Ytlihonbmopeemaa.Num Go.Proofs.Ytlihonbmopeemaa.DigLaw Go.Proofs.Ytlihonbmopeemaa.Fl

def W : Nat := 18446744073709551616
/-- 0 zero, 1 tiny, 2 plain, 3 infinite, 4 NaN -/
def kindN (a : Nat) : Nat := if INF < rg a then 4 else if rg a = INF then 3 else if rg a = 0 then 0 else if rg a < 2 ^ 52 then 1 else 2
theorem c52 : (2 : Nat) ^ 52 = 4503599627370496 := by decide
theorem c63 : (2 : Nat) ^ 63 = 9223372036854775808 := by decide
theorem cINF : INF = 9218868437227405312 := by unfold INF; decide
theorem field_exp (a : Nat) (h : a < W) : Go.bits .and .u64 ((a : Int) / 4503599627370496) 2047 = ((rg a / 4503599627370496 : Nat) : Int) := by
  unfold W at h
  rw [show (a : Int) / 4503599627370496 = ((a / 4503599627370496 : Nat) : Int) from by omega]
  have := mask_nat (a / 4503599627370496) 11 (by omega) (by decide)
  rw [show ((2 ^ 11 - 1 : Nat) : Int) = 2047 from by decide, show (2 : Nat) ^ 11 = 2048 from by decide] at this
  rw [this]; unfold rg; rw [c63]; omega
theorem field_frac (a : Nat) (h : a < W) : Go.bits .and .u64 (a : Int) 4503599627370495 = ((rg a % 4503599627370496 : Nat) : Int) := by
  unfold W at h
  have := mask_nat a 52 h (by decide)
  rw [show ((2 ^ 52 - 1 : Nat) : Int) = 4503599627370495 from by decide, c52] at this
  rw [this]; unfold rg; rw [c63]; omega
theorem rg_lt (a : Nat) : rg a < 9223372036854775808 := by unfold rg; rw [c63]; exact Nat.mod_lt _ (by decide)
theorem word_split (a : Nat) (h : a < W) : a = sgn (sg a) + rg a := by
  unfold W at h
  unfold sgn sg rg S63
  rw [c63]
  by_cases c : a / 9223372036854775808 % 2 = 1
  · rw [if_pos (by rw [c]; rfl)]; omega
  · rw [if_neg (by rw [beq_iff_eq]; exact c)]; omega
theorem sg_word (s : Bool) (r : Nat) (h : r < 9223372036854775808) : sg (sgn s + r) = s ∧ rg (sgn s + r) = r ∧ sgn s + r < W := by
  unfold sg rg sgn S63 W
  rw [c63]
  cases s
  · rw [if_neg (by simp)]
    refine ⟨?_, by omega, by omega⟩
    rw [beq_eq_false_iff_ne]; omega
  · rw [if_pos rfl]
    refine ⟨?_, by omega, by omega⟩
    rw [beq_iff_eq]; omega
theorem kind_is (a : Nat) (h : a < W) : Ev (fun k => minstrelref01_Kind.f k (a : Int)) ((kindN a : Nat) : Int) := by
  have hr := rg_lt a
  have fe := field_exp a h
  have ff := field_frac a h
  have hI := cINF
  unfold kindN
  rw [c52]
  refine Ev.congr (f := fun k => minstrelref01_Kind.j0 k ((rg a / 4503599627370496 : Nat) : Int) ((rg a % 4503599627370496 : Nat) : Int) (decide (INF < rg a))) (fun k => ?_) ?_
  · unfold minstrelref01_Kind.f
    rw [fe, ff]
    by_cases c : rg a / 4503599627370496 = 2047
    · rw [if_pos (by omega)]
      congr 1
      by_cases z : rg a % 4503599627370496 = 0
      · rw [decide_eq_false (by omega), z]; rfl
      · rw [decide_eq_true (by omega), bne_iff_ne]; omega
    · rw [if_neg (by omega), decide_eq_false (by omega)]
  · by_cases c4 : INF < rg a
    · rw [if_pos c4]
      refine Ev.step (f := fun _ => some 4) (fun k => ?_) (Ev.now _)
      rw [minstrelref01_Kind.j0, decide_eq_true c4, if_pos rfl]
    · rw [if_neg c4]
      by_cases c3 : rg a = INF
      · rw [if_pos c3]
        refine Ev.step (f := fun _ => some 3) (fun k => ?_) (Ev.now _)
        rw [minstrelref01_Kind.j0, decide_eq_false c4, if_neg (by simp), if_pos (by omega)]
      · rw [if_neg c3]
        by_cases c0 : rg a = 0
        · rw [if_pos c0]
          refine Ev.step (f := fun k => minstrelref01_Kind.j1 k ((rg a / 4503599627370496 : Nat) : Int) true) (fun k => ?_) (Ev.step (f := fun _ => some 0) (fun k => ?_) (Ev.now _))
          · rw [minstrelref01_Kind.j0, decide_eq_false c4, if_neg (by simp), if_neg (by omega), if_pos (by omega), c0]; rfl
          · rw [minstrelref01_Kind.j1, if_pos rfl]
        · rw [if_neg c0]
          by_cases c1 : rg a < 4503599627370496
          · rw [if_pos c1]
            refine Ev.step (f := fun k => minstrelref01_Kind.j1 k ((rg a / 4503599627370496 : Nat) : Int) false) (fun k => ?_) (Ev.step (f := fun _ => some 1) (fun k => ?_) (Ev.now _))
            · rw [minstrelref01_Kind.j0, decide_eq_false c4, if_neg (by simp), if_neg (by omega), if_pos (by omega), beq_eq_false_iff_ne.2 (by omega)]
            · rw [minstrelref01_Kind.j1, if_neg (by simp), if_pos (by omega)]
          · rw [if_neg c1]
            refine Ev.step (f := fun k => minstrelref01_Kind.j1 k ((rg a / 4503599627370496 : Nat) : Int) false) (fun k => ?_) (Ev.step (f := fun _ => some 2) (fun k => ?_) (Ev.now _))
            · rw [minstrelref01_Kind.j0, decide_eq_false c4, if_neg (by simp), if_neg (by omega), if_neg (by omega)]
            · rw [minstrelref01_Kind.j1, if_neg (by simp), if_neg (by omega)]
/-- a word's exponent and fraction -/
def expN (a : Nat) : Int := if kindN a = 1 then -1074 else if kindN a = 2 then ((rg a / 4503599627370496 : Nat) : Int) - 1075 else 0
def fracN (a : Nat) : Nat := if kindN a = 1 then rg a else if kindN a = 2 then rg a % 4503599627370496 + 4503599627370496 else 0
theorem kind_facts (a : Nat) : (kindN a = 4 ∧ INF < rg a) ∨ (kindN a = 3 ∧ rg a = INF) ∨ (kindN a = 0 ∧ rg a = 0) ∨ (kindN a = 1 ∧ 0 < rg a ∧ rg a < 4503599627370496) ∨ (kindN a = 2 ∧ 4503599627370496 ≤ rg a ∧ rg a < INF) := by
  unfold kindN
  rw [c52]
  by_cases c4 : INF < rg a
  · left; exact ⟨if_pos c4, c4⟩
  · rw [if_neg c4]
    by_cases c3 : rg a = INF
    · right; left; exact ⟨if_pos c3, c3⟩
    · rw [if_neg c3]
      by_cases c0 : rg a = 0
      · right; right; left; exact ⟨if_pos c0, c0⟩
      · rw [if_neg c0]
        by_cases c1 : rg a < 4503599627370496
        · right; right; right; left; exact ⟨if_pos c1, by omega, c1⟩
        · right; right; right; right; exact ⟨if_neg c1, by omega, by omega⟩
theorem ef_other (a : Nat) (h1 : kindN a ≠ 1) (h2 : kindN a ≠ 2) : expN a = 0 ∧ fracN a = 0 := by
  unfold expN fracN; rw [if_neg h1, if_neg h2, if_neg h1, if_neg h2]; exact ⟨rfl, rfl⟩
theorem ef_tiny (a : Nat) (h : kindN a = 1) : expN a = -1074 ∧ fracN a = rg a := by
  unfold expN fracN; rw [if_pos h, if_pos h]; exact ⟨rfl, rfl⟩
theorem ef_plain (a : Nat) (h : kindN a = 2) : expN a = ((rg a / 4503599627370496 : Nat) : Int) - 1075 ∧ fracN a = rg a % 4503599627370496 + 4503599627370496 := by
  have h1 : kindN a ≠ 1 := by rw [h]; decide
  unfold expN fracN; rw [if_neg h1, if_pos h, if_neg h1, if_pos h]; exact ⟨rfl, rfl⟩
/-- the five kinds: parts and rungs -/
theorem ef_cases (a : Nat) : (kindN a ≠ 1 ∧ kindN a ≠ 2 ∧ expN a = 0 ∧ fracN a = 0 ∧ (rg a = 0 ∨ INF ≤ rg a)) ∨ (kindN a = 1 ∧ expN a = -1074 ∧ fracN a = rg a ∧ 0 < rg a ∧ rg a < 4503599627370496) ∨ (kindN a = 2 ∧ expN a = ((rg a / 4503599627370496 : Nat) : Int) - 1075 ∧ fracN a = rg a % 4503599627370496 + 4503599627370496 ∧ 4503599627370496 ≤ rg a ∧ rg a < INF) := by
  rcases kind_facts a with ⟨hk, hf⟩ | ⟨hk, hf⟩ | ⟨hk, hf⟩ | ⟨hk, hf⟩ | ⟨hk, hf⟩
  · left
    have h1 : kindN a ≠ 1 := by rw [hk]; decide
    have h2 : kindN a ≠ 2 := by rw [hk]; decide
    exact ⟨h1, h2, (ef_other a h1 h2).1, (ef_other a h1 h2).2, Or.inr (Nat.le_of_lt hf)⟩
  · left
    have h1 : kindN a ≠ 1 := by rw [hk]; decide
    have h2 : kindN a ≠ 2 := by rw [hk]; decide
    exact ⟨h1, h2, (ef_other a h1 h2).1, (ef_other a h1 h2).2, Or.inr (Nat.le_of_eq hf.symm)⟩
  · left
    have h1 : kindN a ≠ 1 := by rw [hk]; decide
    have h2 : kindN a ≠ 2 := by rw [hk]; decide
    exact ⟨h1, h2, (ef_other a h1 h2).1, (ef_other a h1 h2).2, Or.inl hf⟩
  · right; left; exact ⟨hk, (ef_tiny a hk).1, (ef_tiny a hk).2, hf.1, hf.2⟩
  · right; right; exact ⟨hk, (ef_plain a hk).1, (ef_plain a hk).2, hf.1, hf.2⟩
theorem frac_lt (a : Nat) : fracN a < 9007199254740992 := by
  rcases ef_cases a with ⟨h1, h2, he, hf, _⟩ | ⟨hk, he, hf, h3, h4⟩ | ⟨hk, he, hf, h3, h4⟩
  · rw [hf]; decide
  · rw [hf]; omega
  · rw [hf]; omega
theorem exp_range (a : Nat) : -1074 ≤ expN a ∧ expN a ≤ 971 := by
  have hI := cINF
  rcases ef_cases a with ⟨h1, h2, he, hf, _⟩ | ⟨hk, he, hf, h3, h4⟩ | ⟨hk, he, hf, h3, h4⟩
  · rw [he]; omega
  · rw [he]; omega
  · rw [he]; omega
/-- a finite word's parts make its number -/
theorem frac_V (a : Nat) (hfin : rg a < INF) : fracN a * 2 ^ (expN a + 1074).toNat = V (rg a) := by
  rcases ef_cases a with ⟨h1, h2, he, hf, h0⟩ | ⟨hk, he, hf, h3, h4⟩ | ⟨hk, he, hf, h3, h4⟩
  · have hr : rg a = 0 := by omega
    rw [hf, hr, Nat.zero_mul, V_small (by rw [c52]; decide)]
  · rw [he, hf, V_small (by rw [c52]; exact h4), show ((-1074 : Int) + 1074).toNat = 0 from rfl, Nat.pow_zero, Nat.mul_one]
  · rw [he, hf]
    unfold V
    rw [c52, if_neg (by omega), Nat.add_comm 4503599627370496]
    congr 2; omega
end Go.Proofs.Ytlihonbmopeemaa.Dig
end
section
namespace Go.Proofs.Ytlihonbmopeemaa.Dig
open Go.RowKit Go.Proofs.Ytlihonbmopeemaa.Ref Go.Proofs.YtlihonbmopeemaaW.PrintWords Go.Proofs.YtlihonbmopeemaaW.PrintLast Go.Proofs.YtlihonbmopeemaaW.PrintMore
open Go.Proofs.Ytlihonbmopeemaa.Num Go.Proofs.Ytlihonbmopeemaa.DigLaw Go.Proofs.Ytlihonbmopeemaa.Fl
open Ieee (double)

def NANW : Nat := 9221120237041090560
theorem kind_vals (a : Nat) : kindN a = 0 ∨ kindN a = 1 ∨ kindN a = 2 ∨ kindN a = 3 ∨ kindN a = 4 := by
  rcases kind_facts a with ⟨hk, _⟩ | ⟨hk, _⟩ | ⟨hk, _⟩ | ⟨hk, _⟩ | ⟨hk, _⟩ <;> rw [hk] <;> decide
theorem nan_kind (a : Nat) : kindN a = 4 ↔ INF < rg a := by
  rcases kind_facts a with ⟨hk, h⟩ | ⟨hk, h⟩ | ⟨hk, h⟩ | ⟨hk, h⟩ | ⟨hk, h⟩ <;> rw [hk]
  · exact ⟨fun _ => h, fun _ => rfl⟩
  · exact ⟨fun e => by omega, fun e => by omega⟩
  · exact ⟨fun e => by omega, fun e => by omega⟩
  · have := cINF; exact ⟨fun e => by omega, fun e => by omega⟩
  · exact ⟨fun e => by omega, fun e => by omega⟩
theorem zero_kind (a : Nat) : kindN a = 0 ↔ rg a = 0 := by
  have hI := cINF
  rcases kind_facts a with ⟨hk, h⟩ | ⟨hk, h⟩ | ⟨hk, h⟩ | ⟨hk, h⟩ | ⟨hk, h⟩ <;> rw [hk]
  · exact ⟨fun e => by omega, fun e => by omega⟩
  · exact ⟨fun e => by omega, fun e => by omega⟩
  · exact ⟨fun _ => h, fun _ => rfl⟩
  · exact ⟨fun e => by omega, fun e => by omega⟩
  · exact ⟨fun e => by omega, fun e => by omega⟩
/-! ### Mul -/
end Go.Proofs.Ytlihonbmopeemaa.Dig
end
section
namespace Go.Proofs.Ytlihonbmopeemaa.Dig
open Go.RowKit Go.Proofs.Ytlihonbmopeemaa.Ref Go.Proofs.YtlihonbmopeemaaW.PrintWords Go.Proofs.YtlihonbmopeemaaW.PrintLast Go.Proofs.YtlihonbmopeemaaW.PrintMore
open Go.Proofs.Ytlihonbmopeemaa.Num Go.Proofs.Ytlihonbmopeemaa.DigLaw Go.Proofs.Ytlihonbmopeemaa.Fl

theorem V_pos {r : Nat} (h : r ≠ 0) : 0 < V r := by
  have := V_strict (a := 0) (b := r) (by omega); omega
end Go.Proofs.Ytlihonbmopeemaa.Dig
end
section
namespace Go.Proofs.Ytlihonbmopeemaa.Dig
open Go.RowKit Go.Proofs.Ytlihonbmopeemaa.Num Go.Proofs.Ytlihonbmopeemaa.DigLaw Go.Proofs.Ytlihonbmopeemaa.Fl
open Ieee (double Datum)

def flipW (a : Nat) : Nat := sgn (!sg a) + rg a
theorem flip_facts (a : Nat) : sg (flipW a) = !sg a ∧ rg (flipW a) = rg a ∧ flipW a < W := sg_word _ _ (rg_lt a)
theorem word_facts (s : Bool) {r : Nat} (h : r ≤ INF) : sg (double.word s r) = s ∧ rg (double.word s r) = r ∧ double.word s r < W := by
  rw [word_eq]
  have h2 := INF_lt
  exact sg_word s r (by unfold S63 at h2; omega)
theorem word_ext {a b : Nat} (ha : a < W) (hb : b < W) (h1 : sg a = sg b) (h2 : rg a = rg b) : a = b := by
  rw [word_split a ha, word_split b hb, h1, h2]
theorem nanw_facts : rg NANW = 9221120237041090560 ∧ sg NANW = false ∧ NANW < W ∧ kindN NANW = 4 := by decide +kernel
theorem read_flip (a : Nat) : double.read (flipW a) = (double.read a).opposite := by
  obtain ⟨h1, h2, _⟩ := flip_facts a
  rw [read_eq, read_eq, h1, h2]
  split
  · rfl
  · split
    · rfl
    · split <;> rfl
end Go.Proofs.Ytlihonbmopeemaa.Dig
end
section
namespace Go.Proofs.Ytlihonbmopeemaa.Dig
open Go.RowKit Go.Proofs.Ytlihonbmopeemaa.Num Go.Proofs.Ytlihonbmopeemaa.DigLaw Go.Proofs.Ytlihonbmopeemaa.Fl
open Ieee (double Datum Toward)

def U : Nat := 2 ^ E74
theorem U_pos : 0 < U := Nat.two_pow_pos _
def moreB (way : Toward) (s : Bool) (q r g : Nat) : Bool := match way with
  | .even => decide (g < 2 * r ∨ (g = 2 * r ∧ q % 2 = 1))
  | .down => s && decide (r ≠ 0)
  | .up => !s && decide (r ≠ 0)
  | .zero => false
/-- n / g as a whole number, by a way -/
def cutQ (way : Toward) (s : Bool) (n g : Nat) : Nat := n / g + (moreB way s (n / g) (n % g) g).toNat
theorem bne_dec (r : Nat) : (r != 0) = decide (r ≠ 0) := by
  by_cases h : r = 0
  · subst h; rfl
  · rw [decide_eq_true h, bne_iff_ne.2 h]
theorem even_dec (g q r : Nat) : (decide (g < 2 * r) || (g == 2 * r && q % 2 == 1)) = decide (g < 2 * r ∨ (g = 2 * r ∧ q % 2 = 1)) := by
  by_cases h1 : g < 2 * r
  · rw [decide_eq_true h1, decide_eq_true (Or.inl h1)]; rfl
  · rw [decide_eq_false h1]
    by_cases h2 : g = 2 * r
    · by_cases h3 : q % 2 = 1
      · rw [decide_eq_true (Or.inr ⟨h2, h3⟩), beq_iff_eq.2 h2, beq_iff_eq.2 h3]; rfl
      · rw [decide_eq_false (by intro h; rcases h with h | h; exact h1 h; exact h3 h.2), beq_eq_false_iff_ne.2 h3, Bool.and_false]; rfl
    · rw [decide_eq_false (by intro h; rcases h with h | h; exact h1 h; exact h2 h.1), beq_eq_false_iff_ne.2 h2]; rfl
theorem cut_small (way : Toward) (s : Bool) (n g h : Nat) (hg : 2 * n < g) (hh : 2 * n < h) : cutQ way s n g = cutQ way s n h := by
  unfold cutQ
  rw [Nat.div_eq_of_lt (by omega), Nat.div_eq_of_lt (by omega), Nat.mod_eq_of_lt (by omega), Nat.mod_eq_of_lt (by omega)]
  cases way
  · unfold moreB; dsimp only; rw [decide_eq_false (by omega), decide_eq_false (by omega)]
  · rfl
  · rfl
  · rfl
theorem cut_eq (way : Toward) (s : Bool) (n drop : Nat) : way.cut s n drop = cutQ way s n (2 ^ drop) := by
  unfold Toward.cut
  simp only [Nat.one_shiftLeft]
  generalize hgg : 2 ^ min drop (n.log2 + 2) = g
  refine Eq.trans (b := cutQ way s n g) ?_ ?_
  · unfold cutQ moreB
    cases way
    · dsimp only; rw [even_dec]
    · dsimp only; rw [bne_dec]
    · dsimp only; rw [bne_dec]
    · rfl
  subst hgg
  by_cases hd : drop ≤ n.log2 + 2
  · rw [Nat.min_eq_left hd]
  · have hd' : n.log2 + 2 ≤ drop := by omega
    rw [Nat.min_eq_right hd']
    have hn : n < 2 ^ (n.log2 + 1) := Nat.lt_log2_self
    have e : 2 ^ (n.log2 + 2) = 2 * 2 ^ (n.log2 + 1) := by rw [Nat.pow_succ]; omega
    have e2 : 2 ^ (n.log2 + 2) ≤ 2 ^ drop := Nat.pow_le_pow_right (by omega) hd'
    exact cut_small way s n _ _ (by omega) (by omega)
theorem more_scale (way : Toward) (s : Bool) (q r g c : Nat) (hc : 0 < c) : moreB way s q (r * c) (g * c) = moreB way s q r g := by
  have h0 : r * c ≠ 0 ↔ r ≠ 0 := by
    constructor
    · intro h e; exact h (by rw [e, Nat.zero_mul])
    · intro h e; rcases Nat.mul_eq_zero.1 e with e | e
      · exact h e
      · omega
  unfold moreB
  cases way
  · dsimp only
    have e : 2 * (r * c) = (2 * r) * c := (Nat.mul_assoc _ _ _).symm
    have e1 : g * c < 2 * (r * c) ↔ g < 2 * r := by rw [e, Nat.mul_lt_mul_right hc]
    have e2 : g * c = 2 * (r * c) ↔ g = 2 * r := by
      rw [e]; exact ⟨fun h => Nat.eq_of_mul_eq_mul_right hc h, fun h => by rw [h]⟩
    simp only [e1, e2]
  · dsimp only; simp only [h0]
  · dsimp only; simp only [h0]
  · rfl
theorem cut_scale (way : Toward) (s : Bool) (n g c : Nat) (hc : 0 < c) : cutQ way s (n * c) (g * c) = cutQ way s n g := by
  unfold cutQ
  rw [Nat.mul_div_mul_right _ _ hc, Nat.mul_mod_mul_right, more_scale _ _ _ _ _ _ hc]
theorem cut_whole (way : Toward) (s : Bool) (q g : Nat) (hg : 0 < g) : cutQ way s (q * g) g = q := by
  unfold cutQ
  rw [Nat.mul_div_cancel _ hg, Nat.mul_mod_left]
  have : moreB way s q 0 g = false := by
    unfold moreB
    cases way
    · dsimp only; rw [decide_eq_false (by omega)]
    · dsimp only; rw [decide_eq_false (by omega), Bool.and_false]
    · dsimp only; rw [decide_eq_false (by omega), Bool.and_false]
    · rfl
  rw [this]; rfl
theorem cut_le (way : Toward) (s : Bool) (n g k : Nat) (h : n ≤ k * g) (hg : 0 < g) : cutQ way s n g ≤ k := by
  rcases Nat.lt_or_ge n (k * g) with c | c
  · have h1 : n / g < k := (Nat.div_lt_iff_lt_mul hg).2 c
    unfold cutQ
    have := Bool.toNat_le (moreB way s (n / g) (n % g) g)
    omega
  · have e : n = k * g := by omega
    rw [e, cut_whole _ _ _ _ hg]; exact Nat.le_refl _
/-- a number's parts, in units: either whole, or less than 2^53 whole ones -/
theorem unit_cases {r : Nat} (h : r < INF) : V r % U = 0 ∨ V r < 2 ^ 53 * U := by
  have hr : r < 9223372036854775808 := by have := cINF; omega
  have hs := sg_word false r hr
  rw [show sgn false = 0 from rfl, Nat.zero_add] at hs
  have hv := frac_V r (by rw [hs.2.1]; exact h)
  rw [hs.2.1] at hv
  have er := exp_range r
  have hf := frac_lt r
  have c53 : (2 : Nat) ^ 53 = 9007199254740992 := by decide
  by_cases c : 0 ≤ expN r
  · left
    obtain ⟨e, he⟩ := Int.eq_ofNat_of_zero_le c
    rw [← hv, he, show (((e : Nat) : Int) + 1074).toNat = e + E74 from by unfold E74; omega, Nat.pow_add, ← Nat.mul_assoc]
    exact Nat.mul_mod_left _ _
  · right
    rw [← hv]
    calc fracN r * 2 ^ (expN r + 1074).toNat < 2 ^ 53 * 2 ^ (expN r + 1074).toNat := Nat.mul_lt_mul_of_pos_right (by rw [c53]; exact hf) (Nat.two_pow_pos _)
      _ ≤ 2 ^ 53 * U := Nat.mul_le_mul_left _ (Nat.pow_le_pow_right (by decide) (by unfold E74; omega))
theorem whole_V' (n : Nat) (hn : n ≤ 2 ^ 53) : rung n 0 < INF ∧ V (rung n 0) = n * U := by
  rcases Nat.lt_or_ge n (2 ^ 53) with h | h
  · exact whole_V n h
  · have e : n = 2 ^ 53 := Nat.le_antisymm hn h
    have e2 : (2 : Nat) ^ 53 * 2 ^ E74 = 2 ^ 52 * 2 ^ (E74 + 1) := by
      rw [← Nat.pow_add, ← Nat.pow_add]; congr 1
    rw [e, rung_zero_at, e2]
    rw [show U = 2 ^ E74 from rfl, e2]
    have := rung_exact (2 ^ 52) (E74 + 1) (by decide) (by unfold E74; decide)
    exact this
theorem whole_exact {r : Nat} (h : r < INF) (way : Toward) (s : Bool) : rung (cutQ way s (V r) U) 0 < INF ∧ V (rung (cutQ way s (V r) U) 0) = cutQ way s (V r) U * U := by
  rcases unit_cases h with c | c
  · have e : V r = (V r / U) * U := by
      have := Nat.div_add_mod (V r) U
      rw [c, Nat.add_zero, Nat.mul_comm] at this; exact this.symm
    have hq : cutQ way s (V r) U = V r / U := by
      have := cut_whole way s (V r / U) U U_pos
      rw [← e] at this; exact this
    rw [hq, rung_zero_at]
    have e2 : V r / U * 2 ^ E74 = V r := e.symm
    rw [e2, rung_V r (Nat.le_of_lt h)]
    exact ⟨h, e⟩
  · exact whole_V' _ (cut_le way s _ _ _ (Nat.le_of_lt c) U_pos)

/-- the whole number about a word -/
def wholeN (way : Toward) (a : Nat) : Nat := cutQ way (sg a) (V (rg a)) U
def intW (way : Toward) (a : Nat) : Nat := if INF < rg a then NANW else if rg a = INF then a else double.word (sg a) (rung (wholeN way a) 0)
theorem intW_inf (way : Toward) {a : Nat} (h : rg a = INF) : intW way a = a := by unfold intW; rw [if_neg (by omega), if_pos h]
theorem intW_fin (way : Toward) {a : Nat} (h : rg a < INF) : intW way a = double.word (sg a) (rung (wholeN way a) 0) := by
  unfold intW; rw [if_neg (by omega), if_neg (by omega)]
theorem intW_facts (way : Toward) {a : Nat} (h : rg a < INF) : sg (intW way a) = sg a ∧ rg (intW way a) < INF ∧ V (rg (intW way a)) = wholeN way a * U ∧ intW way a < W := by
  rw [intW_fin way h]
  unfold wholeN
  obtain ⟨e1, e2⟩ := whole_exact h way (sg a)
  obtain ⟨w1, w2, w3⟩ := word_facts' (sg a) (Nat.le_of_lt e1)
  exact ⟨w1, by rw [w2]; exact e1, by rw [w2]; exact e2, w3⟩
where
  word_facts' (s : Bool) {r : Nat} (h : r ≤ INF) : sg (double.word s r) = s ∧ rg (double.word s r) = r ∧ double.word s r < W := by
    rw [word_eq]
    have h2 := INF_lt
    exact sg_word s r (by unfold S63 at h2; omega)
theorem cut_fin (way : Toward) {a m : Nat} {p : Int} (hp : -1074 ≤ p) (hv : m * 2 ^ (p + 1074).toNat = V (rg a)) : way.cut (sg a) (m * 2 ^ p.toNat) (-p).toNat = wholeN way a := by
  rw [cut_eq]
  unfold wholeN
  rw [← hv]
  by_cases c : 0 ≤ p
  · rw [show (-p).toNat = 0 by omega, Nat.pow_zero]
    have e2 : m * 2 ^ (p + 1074).toNat = m * 2 ^ p.toNat * U := by
      rw [show (p + 1074).toNat = p.toNat + E74 from by unfold E74; omega, Nat.pow_add, ← Nat.mul_assoc]; rfl
    have := cut_scale way (sg a) (m * 2 ^ p.toNat) 1 U U_pos
    rw [Nat.one_mul] at this
    rw [e2, this]
  · rw [show p.toNat = 0 by omega, Nat.pow_zero, Nat.mul_one]
    have e2 : U = 2 ^ (-p).toNat * 2 ^ (p + 1074).toNat := by
      unfold U; rw [← Nat.pow_add]; congr 1; unfold E74; omega
    rw [e2, cut_scale _ _ _ _ _ (Nat.two_pow_pos _)]
/-- IEEE 754's way -/
theorem integral_fin (way : Toward) {a : Nat} (h : rg a < INF) : double.write ((double.read a).integral way) = intW way a := by
  obtain ⟨m, p, e, hp, hv⟩ := read_fin h
  rw [intW_fin way h, e]
  simp only [Datum.integral, write_number, Nat.shiftLeft_eq]
  rw [cut_fin way hp hv]
end Go.Proofs.Ytlihonbmopeemaa.Dig
end
section
namespace Go.Proofs.Ytlihonbmopeemaa.Dig
open Go.RowKit Go.Proofs.Ytlihonbmopeemaa.Ref Go.Proofs.YtlihonbmopeemaaW.PrintWords Go.Proofs.YtlihonbmopeemaaW.PrintLast Go.Proofs.YtlihonbmopeemaaW.PrintMore
open Go.Proofs.Ytlihonbmopeemaa.Num Go.Proofs.Ytlihonbmopeemaa.DigLaw Go.Proofs.Ytlihonbmopeemaa.Fl
open Ieee (double Datum Toward)

theorem canon_is (a : Nat) (ha : a < W) : Ev (fun k => minstrelref01_Canon.f k (a : Int)) ((if kindN a = 4 then NANW else a : Nat) : Int) := by
  obtain ⟨K, p⟩ := kind_is a ha
  refine ⟨K, fun k hk => ?_⟩
  have h : minstrelref01_Kind.f k (a : Int) = some ((kindN a : Nat) : Int) := p k hk
  show minstrelref01_Canon.f k (a : Int) = _
  unfold minstrelref01_Canon.f
  rw [h, Option.bind_some]
  by_cases c : kindN a = 4
  · rw [if_pos (by omega), if_pos c]; rfl
  · rw [if_neg (by omega), if_neg c]
def isW (a : Nat) : Bool := decide (rg a < INF ∧ V (rg a) % U = 0)
/-- the numbers that an int64 holds -/
def fitN (s : Bool) (q : Nat) : Bool := if s then decide (q ≤ 9223372036854775808) else decide (q < 9223372036854775808)
def toI (a : Nat) : Int × Bool := if (isW a && fitN (sg a) (V (rg a) / U)) = true then (sn (sg a) (V (rg a) / U), true) else (0, false)
def fromI (n : Int) : Nat := double.word (decide (n < 0)) (rung n.natAbs 0)
theorem size_is (n : Int) (h0 : -9223372036854775808 ≤ n) (h1 : n < 9223372036854775808) : minstrelref04_Size.f n = some ((n.natAbs : Nat) : Int) := by
  unfold minstrelref04_Size.f
  by_cases c : n < 0
  · rw [if_pos c, i64in (n := n + 1) (by omega) (by omega), i64in (by omega) (by omega), u64in (n := -(n + 1)) (by omega) (by omega), u64in (by omega) (by omega)]
    congr 1; omega
  · rw [if_neg c, u64in (by omega) (by omega)]; congr 1; omega
theorem refFromInt_is (n : Int) (h0 : -9223372036854775808 ≤ n) (h1 : n < 9223372036854775808) : Ev (fun k => minstrelref04_FromInt.f k n) ((fromI n : Nat) : Int) := by
  obtain ⟨l, hl, dl, vl, ll⟩ := digits_is n.natAbs (by omega)
  have hr := round_is (decide (n < 0)) 0 dl (by omega) false (by omega) (by omega) (fun h => by cases h)
  rw [vl, nearest_eq, rung_twice] at hr
  obtain ⟨K, hK⟩ := hr
  refine ⟨K, fun k hk => ?_⟩
  have h2 : minstrelref01_Round.f k (decide (n < 0)) 0 l false = some ((fromI n : Nat) : Int) := hK k hk
  show minstrelref04_FromInt.f k n = some ((fromI n : Nat) : Int)
  unfold minstrelref04_FromInt.f
  rw [size_is n h0 h1, Option.bind_some, hl, Option.bind_some, h2, Option.bind_some]
end Go.Proofs.Ytlihonbmopeemaa.Dig
end
