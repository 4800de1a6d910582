/- Answers: a call that comes back with a value and leaves all elder memory as it was; the reference's Kind, Parts, Less, Nan, Neg. Condition: words have 64 bits. -/
import Derived.Test.YtonbbjgcnfipeaaFloats
import Derived.Test.YtonbbjgcnfipeaaRefs
namespace Go.Proofs.Ytonbbjgcnfipeaa.Ans
open Go Go.RowKit Go.Proofs.Ytonbbjgcnfipeaa.Ref Go.Proofs.YtonbbjgcnfipeaaW.PrintWords Go.Proofs.YtonbbjgcnfipeaaW.PrintLast Go.Proofs.YtonbbjgcnfipeaaW.PrintMore
open Go.Proofs.Ytonbbjgcnfipeaa.Num Go.Proofs.Ytonbbjgcnfipeaa.DigLaw Go.Proofs.Ytonbbjgcnfipeaa.Fl Go.Proofs.Ytonbbjgcnfipeaa.Dig Go.Proofs.Ytonbbjgcnfipeaa.Float
open Ieee (double Datum)

def Ans (f : FuncId) (args : Array Value) (v : Value) : Prop := ∀ w, Calls Try.prog f args w fun e w' => e = .returned v ∧ Below w.heap.size w w'
theorem Ans.at {f : FuncId} {args : Array Value} {v : Value} (h : Ans f args v) (w : World) : Calls Try.prog f args w fun e w' => e = .returned v ∧ Below w.heap.size w w' := h w
theorem bthen {w w1 w2 : World} (h1 : Below w.heap.size w w1) (h2 : Below w1.heap.size w1 w2) : Below w.heap.size w w2 := below_then h1 h1.size h2

theorem nanw_eq : Float.NANW = Dig.NANW := rfl
theorem wordI_ok (z : Bool) (T : Int) : rg (wordI z T) ≤ INF := by
  unfold wordI
  rw [word_eq]
  have h1 := rung_le_inf T.natAbs (-1074)
  have h2 := INF_lt
  rw [(sg_word _ _ (by unfold S63 at h2; omega)).2.1]; exact h1
theorem word_ok (s : Bool) {r : Nat} (h : r ≤ INF) : rg (double.word s r) ≤ INF := by
  rw [word_eq]
  have h2 := INF_lt
  rw [(sg_word _ _ (by unfold S63 at h2; omega)).2.1]; exact h
theorem ans_refKind (a : Nat) (ha : a < W) : Ans 20 #[.int .u64 a] (.int .i64 (kindN a)) := fun w => let ⟨k, hk⟩ := Ev.rounds (kind_is a ha); (minstrelref01_Kind.calls k _ _ w hk).mono fun _ _ ⟨h, hd⟩ => ⟨h, hd.below⟩
theorem ans_refParts (a : Nat) (ha : a < W) : Ans 22 #[.int .u64 a] (.tuple #[.bool (sg a), .int .i64 (expN a), .int .u64 (fracN a)]) := fun w => let ⟨k, hk⟩ := Ev.rounds (parts_is a ha); (minstrelref01_Parts.calls k _ _ _ _ w hk).mono fun _ _ ⟨h, hd⟩ => ⟨h, hd.below⟩
theorem ans_refLess (a b : Nat) (ha : a < W) (hb : b < W) : Ans 24 #[.int .u64 a, .int .u64 b] (.bool (lessB a b)) := fun w => let ⟨k, hk⟩ := Ev.rounds (less_is a b ha hb); (minstrelref01_Less.calls k _ _ _ w hk).mono fun _ _ ⟨h, hd⟩ => ⟨h, hd.below⟩
theorem ans_refNan : Ans 28 #[] (.int .u64 9221120237041090560) := fun w => (minstrelref01_Nan.calls _ w nan_is).mono fun _ _ ⟨h, hd⟩ => ⟨h, hd.below⟩
theorem ans_refSign (a : Nat) (ha : a < W) : Ans 39 #[.int .u64 a] (.bool (sg a)) := fun w => (minstrelref01_Neg.calls _ _ w (neg_is a ha)).mono fun _ _ ⟨h, hd⟩ => ⟨h, hd.below⟩
end Go.Proofs.Ytonbbjgcnfipeaa.Ans

/- Answers of the reference's Equal. Condition: words have 64 bits. -/
namespace Go.Proofs.Ytonbbjgcnfipeaa.Ans
open Go Go.RowKit Go.Proofs.Ytonbbjgcnfipeaa.Ref Go.Proofs.YtonbbjgcnfipeaaW.PrintWords Go.Proofs.YtonbbjgcnfipeaaW.PrintLast Go.Proofs.YtonbbjgcnfipeaaW.PrintMore
open Go.Proofs.Ytonbbjgcnfipeaa.Num Go.Proofs.Ytonbbjgcnfipeaa.DigLaw Go.Proofs.Ytonbbjgcnfipeaa.Fl Go.Proofs.Ytonbbjgcnfipeaa.Dig Go.Proofs.Ytonbbjgcnfipeaa.Float
open Ieee (double Datum)

theorem ans_refEqual (a b : Nat) (ha : a < W) (hb : b < W) : Ans 26 #[.int .u64 a, .int .u64 b] (.bool (eqB a b)) := fun w => let ⟨k, hk⟩ := Ev.rounds (equal_is a b ha hb); (minstrelref01_Equal.calls k _ _ _ w hk).mono fun _ _ ⟨h, hd⟩ => ⟨h, hd.below⟩
end Go.Proofs.Ytonbbjgcnfipeaa.Ans

/- What the program's functions of the layer 1 (flo) over single words answer: kinds, order, signs. Condition: the arguments are words of 64 bits. -/
namespace Go.Proofs.Ytonbbjgcnfipeaa.Ans
open Go Go.RowKit Go.Proofs.YtonbbjgcnfipeaaW.PrintWords
open Go.Proofs.Ytonbbjgcnfipeaa.Num Go.Proofs.Ytonbbjgcnfipeaa.DigLaw Go.Proofs.Ytonbbjgcnfipeaa.Fl Go.Proofs.Ytonbbjgcnfipeaa.Dig Go.Proofs.Ytonbbjgcnfipeaa.Float
open Ieee (double Datum)
attribute [local go_sem] frombits_run

theorem Vi_nought : Vi 0 = 0 ∧ rg 0 = 0 := by
  have h : rg 0 = 0 ∧ sg 0 = false := by decide
  refine ⟨?_, h.1⟩
  unfold Vi; rw [h.1, h.2, V_small (by decide)]; rfl
theorem Vi_nil {a : Nat} : Vi a = 0 ↔ rg a = 0 := by
  have h0 : V 0 = 0 := V_small (by decide)
  constructor
  · intro h
    have : V (rg a) = 0 := by unfold Vi sn at h; split at h <;> omega
    exact V_inj (this.trans h0.symm)
  · intro h; unfold Vi sn; rw [h, h0]; split <;> rfl
theorem eq_nought (a : Nat) : (FloatKind.f64.format.order a 0 == some .eq) = decide (rg a = 0) := by
  show (double.order a 0 == some .eq) = _
  by_cases h : INF < rg a
  · rw [order_nan (.inl h), decide_eq_false (by omega)]; rfl
  · rw [order_eq (by omega) (by rw [Vi_nought.2]; exact Nat.zero_le _), Vi_nought.1]
    by_cases z : rg a = 0
    · rw [cmp_eq (Vi_nil.2 z), decide_eq_true z]; rfl
    · rw [decide_eq_false z]
      rcases Int.lt_trichotomy (Vi a) 0 with l | l | l
      · rw [cmp_lt l]; rfl
      · exact absurd (Vi_nil.1 l) z
      · rw [cmp_gt l]; rfl
theorem sub_self_some {a : Nat} (h : rg a < INF) : floatBits .sub .f64 a a = some 0 := by
  show double.sub a a = some 0
  have e : double.sub a a = double.add a (flipW a) := by unfold Ieee.Format.sub Ieee.Format.add; rw [read_flip]
  obtain ⟨h1, h2, _⟩ := flip_facts a
  rw [e, add_fin h (by rw [h2]; exact h), h1]
  have e2 : Vi a + Vi (flipW a) = 0 := by
    unfold Vi; rw [h1, h2]; unfold sn
    cases sg a
    · rw [if_neg (by simp), if_pos (by rfl)]; omega
    · rw [if_pos rfl, if_neg (by simp)]; omega
  have e3 : (sg a && !sg a) = false := by cases sg a <;> rfl
  rw [e2, e3]
  unfold wordI
  rw [if_pos rfl, show Int.natAbs 0 = 0 from rfl, rung_zero]; rfl
theorem sub_self_none {a : Nat} (h : rg a = INF) : floatBits .sub .f64 a a = none := by
  show double.sub a a = none
  unfold Ieee.Format.sub
  rw [read_inf h]
  cases sg a <;> rfl
theorem drawn_ne (a b : Nat) (w : World) : (FloatKind.f64.format.order (drawnNaN a b w) 0 != some .eq) = true := by
  have h : INF < rg (drawnNaN a b w) := by
    rcases Nat.lt_or_ge INF (rg (drawnNaN a b w)) with h | h
    · exact h
    · have h1 := cut_isNaN a b (w.tape w.drawn (Question.nanBits .f64 a b))
      have h2 := canon_num h
      have h3 : rg Float.NANW ≤ INF := by rw [← h1]; unfold drawnNaN at h2 h; rw [h2]; exact h
      exact absurd h3 (by rw [show Float.NANW = Dig.NANW from rfl, nanw_facts.1, cINF]; decide)
  show (double.order (drawnNaN a b w) 0 != some .eq) = true
  rw [order_nan (.inl h)]; rfl
theorem isnan_run (a : Nat) : (FloatKind.f64.format.order a a != some .eq) = decide (INF < rg a) := isNaN_eq a

theorem ans_kind (a : Nat) (ha : a < W) : Ans 37 #[.int .u64 a] (.int .i64 (kindN a)) := by
  intro w
  have n1 := isnan_run a
  have z1 := eq_nought a
  have fe := field_exp a ha
  have hI := cINF
  rcases kind_facts a with ⟨hk, h⟩ | ⟨hk, h⟩ | ⟨hk, h⟩ | ⟨hk, h⟩ | ⟨hk, h⟩
  · rw [hk]
    rw [decide_eq_true h] at n1
    clear z1 fe h ha hk hI
    go_enter Try.func37, Try.ntmps37
    go_wp2
    go_ret
    exact ⟨rfl, Below.refl _ _⟩
  · rw [hk]
    rw [decide_eq_false (by omega)] at n1
    rw [decide_eq_false (by omega)] at z1
    have hs : ∀ w : World, (binOp .sub 45 (.float .f64 a) (.float .f64 a)).run Try.prog w = .ok (.float .f64 (drawnNaN a a w)) w.drew := fun w => arith_none .sub 45 a a (.inr (.inl rfl)) (sub_self_none h) w
    have d1 := drawn_ne a a w
    clear fe h ha hk hI
    go_enter Try.func37, Try.ntmps37
    go_wp2
    go_ret
    exact ⟨rfl, (Below.refl _ _).drew⟩
  · rw [hk]
    rw [decide_eq_false (by omega)] at n1
    rw [decide_eq_true h] at z1
    clear fe h ha hk hI
    go_enter Try.func37, Try.ntmps37
    go_wp2
    go_ret
    exact ⟨rfl, Below.refl _ _⟩
  · rw [hk]
    rw [decide_eq_false (by omega)] at n1
    rw [decide_eq_false (by omega)] at z1
    have hs : ∀ w : World, (binOp .sub 45 (.float .f64 a) (.float .f64 a)).run Try.prog w = .ok (.float .f64 0) w := fun w => run_float_arith w .sub 45 .f64 a a 0 (sub_self_some (by omega))
    have z2 : (FloatKind.f64.format.order 0 0 != some .eq) = false := by decide +kernel
    have e0 : rg a / 4503599627370496 = 0 := Nat.div_eq_of_lt h.2
    rw [e0] at fe
    clear e0 h ha hk hI
    go_enter Try.func37, Try.ntmps37
    go_wp2
    go_ret
    exact ⟨rfl, Below.refl _ _⟩
  · rw [hk]
    rw [decide_eq_false (by omega)] at n1
    rw [decide_eq_false (by omega)] at z1
    have hs : ∀ w : World, (binOp .sub 45 (.float .f64 a) (.float .f64 a)).run Try.prog w = .ok (.float .f64 0) w := fun w => run_float_arith w .sub 45 .f64 a a 0 (sub_self_some h.2)
    have z2 : (FloatKind.f64.format.order 0 0 != some .eq) = false := by decide +kernel
    have e0 : 1 ≤ rg a / 4503599627370496 := by omega
    generalize rg a / 4503599627370496 = q at *
    have e1 : (((q : Nat) : Int) == 0) = false := beq_eq_false_iff_ne.2 (by omega)
    clear e0 h ha hk hI
    go_enter Try.func37, Try.ntmps37
    go_wp2
    go_ret
    exact ⟨rfl, Below.refl _ _⟩
end Go.Proofs.Ytonbbjgcnfipeaa.Ans

/- What the program's functions of the layer 1 (flo) answer: Kind, Canon, Less, Equal, Neg, Abs, Before; and that anything is made. Condition: the arguments are words of 64 bits. -/
namespace Go.Proofs.Ytonbbjgcnfipeaa.Ans
open Go Go.RowKit Go.Proofs.Ytonbbjgcnfipeaa.Ref Go.Proofs.YtonbbjgcnfipeaaW.PrintWords
open Go.Proofs.Ytonbbjgcnfipeaa.Num Go.Proofs.Ytonbbjgcnfipeaa.DigLaw Go.Proofs.Ytonbbjgcnfipeaa.Fl Go.Proofs.Ytonbbjgcnfipeaa.Dig Go.Proofs.Ytonbbjgcnfipeaa.Float
open Ieee (double Datum)
attribute [local go_sem] frombits_run

theorem ans_Kind (a : Nat) (ha : a < W) : Ans 18 #[.int .u64 a] (.int .i64 (kindN a)) := by
  intro w
  have k := ans_kind a ha
  go_enter Try.func18, Try.ntmps18
  go_wp2_with fail
  refine (k.at _).mono ?_; rintro e w1 ⟨rfl, hb1⟩
  go_wp2_with fail
  go_ret
  exact ⟨rfl, hb1⟩
theorem ans_canon (a : Nat) : Ans 36 #[.int .u64 a] (.int .u64 (canonW a)) := by
  intro w
  refine (canon_any a w).mono ?_
  rintro e w' ⟨rfl, rfl⟩
  exact ⟨rfl, Below.refl _ _⟩
theorem ans_Canon (a : Nat) : Ans 16 #[.int .u64 a] (.int .u64 (canonW a)) := by
  intro w
  refine (Canon_any a w).mono ?_
  rintro e w' ⟨rfl, rfl⟩
  exact ⟨rfl, Below.refl _ _⟩
theorem less_run (a b : Nat) : (FloatKind.f64.format.order a b == some .lt) = lessB a b := by
  show (double.order a b == some .lt) = lessB a b
  unfold lessB
  by_cases h : INF < rg a ∨ INF < rg b
  · rw [order_nan h, decide_eq_false (by omega)]; rfl
  · rw [order_eq (by omega) (by omega)]
    rcases Int.lt_trichotomy (Vi a) (Vi b) with l | l | l
    · rw [cmp_lt l, decide_eq_true ⟨by omega, by omega, l⟩]; rfl
    · rw [cmp_eq l, decide_eq_false (by omega)]; rfl
    · rw [cmp_gt l, decide_eq_false (by omega)]; rfl
theorem eq_run (a b : Nat) : (FloatKind.f64.format.order a b == some .eq) = eqB a b := by
  show (double.order a b == some .eq) = eqB a b
  unfold eqB
  by_cases h : INF < rg a ∨ INF < rg b
  · rw [order_nan h, decide_eq_false (by omega)]; rfl
  · rw [order_eq (by omega) (by omega)]
    rcases Int.lt_trichotomy (Vi a) (Vi b) with l | l | l
    · rw [cmp_lt l, decide_eq_false (by omega)]; rfl
    · rw [cmp_eq l, decide_eq_true ⟨by omega, by omega, l⟩]; rfl
    · rw [cmp_gt l, decide_eq_false (by omega)]; rfl
theorem ans_Less (a b : Nat) : Ans 14 #[.int .u64 a, .int .u64 b] (.bool (lessB a b)) := by
  intro w
  have h := less_run a b
  generalize lessB a b = t at *
  go_enter Try.func14, Try.ntmps14
  go_wp2
  go_ret
  exact ⟨rfl, Below.refl _ _⟩
theorem ans_Equal (a b : Nat) : Ans 25 #[.int .u64 a, .int .u64 b] (.bool (eqB a b)) := by
  intro w
  have h := eq_run a b
  generalize eqB a b = t at *
  go_enter Try.func25, Try.ntmps25
  go_wp2
  go_ret
  exact ⟨rfl, Below.refl _ _⟩
theorem canon_lt {a : Nat} (ha : a < W) : canonW a < W := by
  unfold canonW; split
  · exact nanw_facts.2.2.1
  · exact ha
theorem canon_neg (a : Nat) : canonW (flipW (canonW a)) = negW a := by
  rcases Nat.lt_or_ge INF (rg a) with h | h
  · rw [neg_nan h, Float.canon_nan h]
    exact Float.canon_nan (by rw [(flip_facts _).2.1]; exact nanw_nan)
  · rw [neg_num h, Float.canon_num h]
    exact Float.canon_num (by rw [(flip_facts a).2.1]; exact h)
theorem ans_Neg (a : Nat) (ha : a < W) : Ans 15 #[.int .u64 a] (.int .u64 (negW a)) := by
  intro w
  have k1 := ans_canon a
  have hx := flip_xor (canonW a) (canon_lt ha)
  have k2 := ans_canon (flipW (canonW a))
  rw [canon_neg a] at k2
  generalize ((negW a : Nat) : Int) = r at *
  generalize ((flipW (canonW a) : Nat) : Int) = y at *
  generalize ((canonW a : Nat) : Int) = z at *
  generalize (a : Int) = x at *
  go_enter Try.func15, Try.ntmps15
  go_wp2_with fail
  refine (k1.at _).mono ?_; rintro e w1 ⟨rfl, hb1⟩
  go_wp2_with fail
  refine (k2.at _).mono ?_; rintro e w2 ⟨rfl, hb2⟩
  go_wp2_with fail
  go_ret
  exact ⟨rfl, bthen hb1 hb2⟩
def absW (a : Nat) : Nat := rg (canonW a)
theorem ans_Abs (a : Nat) (ha : a < W) : Ans 17 #[.int .u64 a] (.int .u64 (absW a)) := by
  intro w
  have k1 := ans_canon a
  have hx := andNot_top (canonW a) (canon_lt ha)
  unfold absW
  generalize ((rg (canonW a) : Nat) : Int) = y at *
  generalize ((canonW a : Nat) : Int) = z at *
  generalize (a : Int) = x at *
  go_enter Try.func17, Try.ntmps17
  go_wp2_with fail
  refine (k1.at _).mono ?_; rintro e w1 ⟨rfl, hb1⟩
  go_wp2_with fail
  go_ret
  exact ⟨rfl, hb1⟩
theorem ans_lives : Ans 13 #[] (.bool true) := by
  intro w
  have m : Ans 11 #[.bool false, .int .i64 (-52), .int .u64 4503599627370496, .bool false] (.int .u64 4607182418800017408) := fun w =>
    (flo_Make.calls 10 false (-52) 4503599627370496 false 4607182418800017408 w (by decide +kernel))
  have k := ans_Kind 1 (by decide)
  have hk : kindN 1 = 1 := by decide +kernel
  rw [hk] at k
  have l := ans_Less 0 1
  have hl : lessB 0 1 = true := by decide +kernel
  rw [hl] at l
  have K : Ans 18 #[.int .u64 1] (.int .i64 1) := k
  have L : Ans 14 #[.int .u64 0, .int .u64 1] (.bool true) := l
  clear k l hk hl
  go_enter Try.func13, Try.ntmps13
  go_wp2_with fail
  refine (m.at _).mono ?_; rintro e w1 ⟨rfl, hb1⟩
  go_wp2_with fail
  refine (K.at _).mono ?_; rintro e w2 ⟨rfl, hb2⟩
  go_wp2_with fail
  refine (L.at _).mono ?_; rintro e w3 ⟨rfl, hb3⟩
  go_wp2_with fail
  go_ret
  exact ⟨rfl, bthen hb1 (bthen hb2 hb3)⟩
end Go.Proofs.Ytonbbjgcnfipeaa.Ans

/- The order of all words: what the program's Before and the reference's Before answer. Condition: the arguments are words of 64 bits. -/
namespace Go.Proofs.Ytonbbjgcnfipeaa.Ans
open Go Go.RowKit Go.Proofs.Ytonbbjgcnfipeaa.Ref Go.Proofs.YtonbbjgcnfipeaaW.PrintWords
open Go.Proofs.Ytonbbjgcnfipeaa.Num Go.Proofs.Ytonbbjgcnfipeaa.DigLaw Go.Proofs.Ytonbbjgcnfipeaa.Fl Go.Proofs.Ytonbbjgcnfipeaa.Dig Go.Proofs.Ytonbbjgcnfipeaa.Float
open Ieee (double Datum)

/-- a word's place in the order of all -/
def rankN (a : Nat) : Nat := if sg (canonW a) then 9223372036854775807 - rg (canonW a) else 9223372036854775808 + rg (canonW a)
def beforeB (a b : Nat) : Bool := decide (rankN a < rankN b)
theorem ones_xor (x : Nat) (h : x < W) : 18446744073709551615 ^^^ x = 18446744073709551615 - x := by
  have h1 := congrArg BitVec.toNat (BitVec.allOnes_xor (x := BitVec.ofNat 64 x))
  have e64 : (2 : Nat) ^ 64 = 18446744073709551616 := by decide
  have h' : x < 18446744073709551616 := h
  rw [BitVec.toNat_xor, BitVec.toNat_not, BitVec.toNat_allOnes, BitVec.toNat_ofNat, e64, Nat.mod_eq_of_lt h'] at h1
  exact h1
theorem u64_max : IntKind.u64.max = ((18446744073709551615 : Nat) : Int) := by decide
theorem not_u64 (x : Nat) (h : x < W) : Go.bits .xor .u64 IntKind.u64.max (x : Int) = ((18446744073709551615 - x : Nat) : Int) := by
  rw [u64_max, xor_nat _ _ (by decide) h, ones_xor x h]
theorem or_top (r : Nat) (h : r < 9223372036854775808) : Go.bits .or .u64 (r : Int) 9223372036854775808 = ((9223372036854775808 + r : Nat) : Int) := by
  rw [show (9223372036854775808 : Int) = ((9223372036854775808 : Nat) : Int) from rfl, or_nat _ _ (by omega) (by decide), Nat.or_comm]
  have h1 := Nat.two_pow_add_eq_or_of_lt (i := 63) (b := r) (by rw [c63]; exact h) 1
  rw [Nat.mul_one, c63] at h1
  rw [h1]
theorem rank_pos (a : Nat) (ha : a < W) (h : sg (canonW a) = false) : Ans 38 #[.int .u64 a] (.int .u64 (rankN a)) := by
  intro w
  have k1 := ans_canon a
  have hw := word_split (canonW a) (canon_lt ha)
  rw [h, show sgn false = 0 from rfl, Nat.zero_add] at hw
  have hr := rg_lt (canonW a)
  have e : ((rankN a : Nat) : Int) = ((9223372036854775808 + canonW a : Nat) : Int) := by unfold rankN; rw [h, if_neg (by simp), ← hw]
  rw [← hw] at hr
  have ho := or_top (canonW a) hr
  rw [e]
  have hlt : ((canonW a : Nat) : Int) < 9223372036854775808 := by omega
  generalize canonW a = z at *
  clear hw h ha e
  generalize (a : Int) = x at *
  generalize hy : ((9223372036854775808 + z : Nat) : Int) = y at *
  have hd : decide (9223372036854775808 ≤ (z : Int)) = false := decide_eq_false (by omega)
  clear hy hr hlt
  go_enter Try.func38, Try.ntmps38
  go_wp2_with fail
  refine (k1.at _).mono ?_; rintro e w1 ⟨rfl, hb1⟩
  go_wp2_with fail
  go_ret
  exact ⟨rfl, hb1⟩
theorem rank_neg (a : Nat) (ha : a < W) (h : sg (canonW a) = true) : Ans 38 #[.int .u64 a] (.int .u64 (rankN a)) := by
  intro w
  have k1 := ans_canon a
  have hl := canon_lt ha
  have hw := word_split (canonW a) hl
  rw [h, show sgn true = 9223372036854775808 from rfl] at hw
  have hr := rg_lt (canonW a)
  have e : ((rankN a : Nat) : Int) = ((18446744073709551615 - canonW a : Nat) : Int) := by unfold rankN; rw [h, if_pos rfl]; omega
  have hn := not_u64 (canonW a) hl
  rw [e]
  have hlt : 9223372036854775808 ≤ ((canonW a : Nat) : Int) := by omega
  generalize canonW a = z at *
  clear hw h ha e hr hl
  generalize (a : Int) = x at *
  generalize hy : ((18446744073709551615 - z : Nat) : Int) = y at *
  have hd : decide (9223372036854775808 ≤ (z : Int)) = true := decide_eq_true hlt
  clear hy hlt
  have hsg : IntKind.u64.signed = false := rfl
  go_enter Try.func38, Try.ntmps38
  go_wp2_with fail
  refine (k1.at _).mono ?_; rintro e w1 ⟨rfl, hb1⟩
  go_wp2_with fail
  go_ret
  exact ⟨rfl, hb1⟩
theorem ans_rank (a : Nat) (ha : a < W) : Ans 38 #[.int .u64 a] (.int .u64 (rankN a)) := by
  cases h : sg (canonW a)
  · exact rank_pos a ha h
  · exact rank_neg a ha h
theorem ans_Before (a b : Nat) (ha : a < W) (hb : b < W) : Ans 19 #[.int .u64 a, .int .u64 b] (.bool (beforeB a b)) := by
  intro w
  have k1 := ans_rank a ha
  have k2 := ans_rank b hb
  have ht : decide (((rankN a : Nat) : Int) < ((rankN b : Nat) : Int)) = beforeB a b := by unfold beforeB; exact decide_eq_decide.2 ⟨fun h => by omega, fun h => by omega⟩
  generalize beforeB a b = t at *
  generalize ((rankN a : Nat) : Int) = p at *
  generalize ((rankN b : Nat) : Int) = q at *
  go_enter Try.func19, Try.ntmps19
  go_wp2_with fail
  refine (k1.at _).mono ?_; rintro e w1 ⟨rfl, hb1⟩
  go_wp2_with fail
  refine (k2.at _).mono ?_; rintro e w2 ⟨rfl, hb2⟩
  go_wp2_with fail
  go_ret
  exact ⟨rfl, bthen hb1 hb2⟩

/-! ### the reference's Before -/
theorem rank_num {a : Nat} (h : rg a ≤ INF) : rankN a = if sg a then 9223372036854775807 - rg a else 9223372036854775808 + rg a := by
  unfold rankN; rw [Float.canon_num h]
theorem rank_nan {a : Nat} (h : INF < rg a) : rankN a = 9223372036854775808 + 9221120237041090560 := by
  unfold rankN
  rw [Float.canon_nan h, show Float.NANW = Dig.NANW from rfl, nanw_facts.2.1, nanw_facts.1, if_neg (by simp)]
theorem rank_Vi {a b : Nat} (ha : rg a ≤ INF) (hb : rg b ≤ INF) (hz : ¬ (rg a = 0 ∧ rg b = 0)) : rankN a < rankN b ↔ Vi a < Vi b := by
  have hI := cINF
  rw [rank_num ha, rank_num hb]
  unfold Vi sn
  have hv := V_le_iff (a := rg a) (b := rg b)
  have hv2 := V_le_iff (a := rg b) (b := rg a)
  have pa : rg a ≠ 0 → 0 < V (rg a) := V_pos
  have pb : rg b ≠ 0 → 0 < V (rg b) := V_pos
  cases sg a <;> cases sg b
  · rw [if_neg (by simp), if_neg (by simp), if_neg (by simp), if_neg (by simp)]; omega
  · rw [if_neg (by simp), if_pos rfl, if_neg (by simp), if_pos rfl]; omega
  · rw [if_pos rfl, if_neg (by simp), if_pos rfl, if_neg (by simp)]; omega
  · rw [if_pos rfl, if_pos rfl, if_pos rfl, if_pos rfl]; omega
theorem before_j1 (a b : Nat) (ha : a < W) (hb : b < W) (na : rg a ≤ INF) (nb : rg b ≤ INF) : Ev (fun k => minstrelref01_Before.j1 k (a : Int) (b : Int) (decide (rg a = 0 ∧ rg b = 0))) (beforeB a b) := by
  obtain ⟨K, hK⟩ := order_is a b ha hb
  refine ⟨K + 1, fun k hk => ?_⟩
  obtain ⟨m, rfl⟩ : ∃ m, k = m + 1 := ⟨k - 1, by omega⟩
  have h3 : minstrelref01_Order.f m (a : Int) (b : Int) = some (cmpI (Vi a) (Vi b)) := hK m (by omega)
  show minstrelref01_Before.j1 (m + 1) (a : Int) (b : Int) _ = _
  rw [minstrelref01_Before.j1, neg_is a ha, neg_is b hb, h3, Option.bind_some, Option.bind_some, Option.bind_some, cmpI_lt]
  by_cases z : rg a = 0 ∧ rg b = 0
  · rw [decide_eq_true z, if_pos rfl]
    unfold beforeB
    rw [rank_num na, rank_num nb, z.1, z.2]
    cases sg a <;> cases sg b <;> rfl
  · rw [decide_eq_false z, if_neg (by simp)]
    congr 1
    exact decide_eq_decide.2 (rank_Vi na nb z).symm
theorem before_j0 (a b : Nat) (ha : a < W) (hb : b < W) : Ev (fun k => minstrelref01_Before.j0 k (a : Int) (b : Int) (decide (INF < rg a ∨ INF < rg b))) (beforeB a b) := by
  have hI := cINF
  obtain ⟨K1, p1⟩ := kind_is a ha
  obtain ⟨K2, p2⟩ := kind_is b hb
  by_cases n : INF < rg a ∨ INF < rg b
  · refine ⟨K1 + 1, fun k hk => ?_⟩
    obtain ⟨m, rfl⟩ : ∃ m, k = m + 1 := ⟨k - 1, by omega⟩
    have h1 : minstrelref01_Kind.f m (a : Int) = some ((kindN a : Nat) : Int) := p1 m (by omega)
    show minstrelref01_Before.j0 (m + 1) (a : Int) (b : Int) _ = _
    rw [minstrelref01_Before.j0, decide_eq_true n, if_pos rfl, h1, Option.bind_some]
    congr 1
    unfold beforeB
    by_cases na : INF < rg a
    · have hk4 := (nan_kind a).2 na
      rw [hk4, rank_nan na]
      rw [decide_eq_false]; · rfl
      rcases Nat.lt_or_ge INF (rg b) with nb | nb
      · rw [rank_nan nb]; omega
      · rw [rank_num nb]; split <;> omega
    · have nb : INF < rg b := by omega
      have hk4 : kindN a ≠ 4 := fun e => na ((nan_kind a).1 e)
      rw [rank_nan nb, rank_num (by omega : rg a ≤ INF)]
      rw [decide_eq_true (by split <;> omega), bne_iff_ne]
      omega
  · have na : rg a ≤ INF := by omega
    have nb : rg b ≤ INF := by omega
    obtain ⟨K3, p3⟩ := before_j1 a b ha hb na nb
    refine ⟨max (max K1 K2) K3 + 1, fun k hk => ?_⟩
    obtain ⟨m, rfl⟩ : ∃ m, k = m + 1 := ⟨k - 1, by omega⟩
    have h1 : minstrelref01_Kind.f m (a : Int) = some ((kindN a : Nat) : Int) := p1 m (by omega)
    have h2 : minstrelref01_Kind.f m (b : Int) = some ((kindN b : Nat) : Int) := p2 m (by omega)
    have h3 : minstrelref01_Before.j1 m (a : Int) (b : Int) (decide (rg a = 0 ∧ rg b = 0)) = some (beforeB a b) := p3 m (by omega)
    show minstrelref01_Before.j0 (m + 1) (a : Int) (b : Int) _ = _
    rw [minstrelref01_Before.j0, decide_eq_false n, if_neg (by simp), h1, Option.bind_some]
    by_cases za : kindN a = 0
    · rw [if_pos (by omega), h2, Option.bind_some]
      have e : (((kindN b : Nat) : Int) == 0) = decide (rg a = 0 ∧ rg b = 0) := by
        by_cases zb : kindN b = 0
        · rw [zb, decide_eq_true ⟨(zero_kind a).1 za, (zero_kind b).1 zb⟩]; rfl
        · rw [decide_eq_false (fun h => zb ((zero_kind b).2 h.2)), beq_eq_false_iff_ne.2 (by omega)]
      rw [e]; exact h3
    · rw [if_neg (by omega)]
      rw [decide_eq_false (fun h => za ((zero_kind a).2 h.1))] at h3
      exact h3
theorem refBefore_is (a b : Nat) (ha : a < W) (hb : b < W) : Ev (fun k => minstrelref01_Before.f k (a : Int) (b : Int)) (beforeB a b) := by
  obtain ⟨K1, p1⟩ := kind_is a ha
  obtain ⟨K2, p2⟩ := kind_is b hb
  obtain ⟨K3, p3⟩ := before_j0 a b ha hb
  refine ⟨max (max K1 K2) K3, fun k hk => ?_⟩
  have h1 : minstrelref01_Kind.f k (a : Int) = some ((kindN a : Nat) : Int) := p1 k (by omega)
  have h2 : minstrelref01_Kind.f k (b : Int) = some ((kindN b : Nat) : Int) := p2 k (by omega)
  have h3 : minstrelref01_Before.j0 k (a : Int) (b : Int) (decide (INF < rg a ∨ INF < rg b)) = some (beforeB a b) := p3 k (by omega)
  show minstrelref01_Before.f k (a : Int) (b : Int) = _
  unfold minstrelref01_Before.f
  rw [h1, Option.bind_some, h2, Option.bind_some]
  have na := nan_kind a
  have nb := nan_kind b
  by_cases ka : kindN a = 4
  · rw [decide_eq_true (.inl (na.1 ka))] at h3
    rw [if_pos (by omega)]; exact h3
  · rw [if_neg (by omega)]
    have e : (((kindN b : Nat) : Int) == 4) = decide (INF < rg a ∨ INF < rg b) := by
      by_cases kb : kindN b = 4
      · rw [kb, decide_eq_true (.inr (nb.1 kb))]; rfl
      · rw [decide_eq_false (fun h => h.elim (fun h => ka (na.2 h)) (fun h => kb (nb.2 h))), beq_eq_false_iff_ne.2 (by omega)]
    rw [e]; exact h3
theorem ans_refBefore (a b : Nat) (ha : a < W) (hb : b < W) : Ans 27 #[.int .u64 a, .int .u64 b] (.bool (beforeB a b)) := fun w => let ⟨k, hk⟩ := Ev.rounds (refBefore_is a b ha hb); (minstrelref01_Before.calls k _ _ _ w hk).mono fun _ _ ⟨h, hd⟩ => ⟨h, hd.below⟩
end Go.Proofs.Ytonbbjgcnfipeaa.Ans

/- What Make answers, the program's and the reference's. Conditions: frac has 64 bits. -/
namespace Go.Proofs.Ytonbbjgcnfipeaa.Ans
open Go Go.RowKit Go.Proofs.Ytonbbjgcnfipeaa.Ref Go.Proofs.YtonbbjgcnfipeaaW.PrintWords
open Go.Proofs.Ytonbbjgcnfipeaa.Num Go.Proofs.Ytonbbjgcnfipeaa.DigLaw Go.Proofs.Ytonbbjgcnfipeaa.Fl Go.Proofs.Ytonbbjgcnfipeaa.Dig Go.Proofs.Ytonbbjgcnfipeaa.Float

theorem ans_Make (neg : Bool) (exp : Int) (f : Nat) (half : Bool) (hf : f < W) : Ans 11 #[.bool neg, .int .i64 exp, .int .u64 f, .bool half] (.int .u64 (makeW neg exp f half)) := fun w =>
  flo_Make.calls 8 neg exp f half _ w (make_is neg exp f half hf)
theorem ans_refMake (neg : Bool) (exp : Int) (f : Nat) (half : Bool) (hf : f < W) : Ans 12 #[.bool neg, .int .i64 exp, .int .u64 f, .bool half] (.int .u64 (makeW neg exp f half)) := fun w => let ⟨k, hk⟩ := Ev.rounds (refMake_is neg exp f half hf); minstrelref01_Make.calls k neg exp f half _ w hk
end Go.Proofs.Ytonbbjgcnfipeaa.Ans

/- Plain law of Make: signs, ranks, and that the order is not turned about. -/
namespace Go.Proofs.Ytonbbjgcnfipeaa.Ans
open Go Go.RowKit Go.Proofs.Ytonbbjgcnfipeaa.Num Go.Proofs.Ytonbbjgcnfipeaa.Fl Go.Proofs.Ytonbbjgcnfipeaa.Dig Go.Proofs.Ytonbbjgcnfipeaa.Float

theorem make_facts (neg : Bool) (exp : Int) (f : Nat) (half : Bool) : sg (makeW neg exp f half) = neg ∧ rg (makeW neg exp f half) = rung (2 * f + half.toNat) (exp - 1) ∧ rg (makeW neg exp f half) ≤ INF ∧ makeW neg exp f half < W := by
  have hi := rung_le_inf (2 * f + half.toNat) (exp - 1)
  have h2 := INF_lt
  have h := sg_word neg (rung (2 * f + half.toNat) (exp - 1)) (by unfold S63 at h2; omega)
  exact ⟨h.1, h.2.1, by unfold makeW; rw [h.2.1]; exact hi, h.2.2⟩
theorem make_rises (exp : Int) {a b : Nat} (h : a ≤ b) : rg (makeW false exp a false) ≤ rg (makeW false exp b false) := by
  rw [(make_facts false exp a false).2.1, (make_facts false exp b false).2.1]
  exact rung_mono_at (Nat.add_le_add_right (Nat.mul_le_mul_left 2 h) _)
theorem not_less_of {x y : Nat} (sx : sg x = false) (sy : sg y = false) (h : rg x ≤ rg y) : lessB y x = false := by
  unfold lessB
  rw [decide_eq_false_iff_not]
  intro hh
  have h1 := hh.2.2
  unfold Vi sn at h1
  rw [sx, sy, if_neg (by simp), if_neg (by simp)] at h1
  have := V_mono h
  omega
theorem not_less_neg {x y : Nat} (sx : sg x = false) (sy : sg y = false) (hx : rg x ≤ INF) (hy : rg y ≤ INF) (h : rg x ≤ rg y) : lessB (negW x) (negW y) = false := by
  unfold lessB
  rw [decide_eq_false_iff_not]
  intro hh
  have h1 := hh.2.2
  rw [neg_num hx, neg_num hy] at h1
  obtain ⟨p1, p2, _⟩ := flip_facts x
  obtain ⟨q1, q2, _⟩ := flip_facts y
  unfold Vi sn at h1
  rw [p1, p2, q1, q2, sx, sy, Bool.not_false, if_pos rfl, if_pos rfl] at h1
  have := V_mono h
  omega
theorem not_before {x y : Nat} (sx : sg x = false) (sy : sg y = false) (hx : rg x ≤ INF) (hy : rg y ≤ INF) (h : rg x ≤ rg y) : beforeB y x = false := by
  unfold beforeB
  rw [decide_eq_false_iff_not, rank_num hx, rank_num hy, sx, sy, if_neg (by simp), if_neg (by simp)]
  omega
end Go.Proofs.Ytonbbjgcnfipeaa.Ans
