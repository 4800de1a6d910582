/- Answers: a call that comes back with a value and leaves all elder memory as it was; the reference's Kind, Parts, Less, Nan, Neg. Condition: words have 64 bits. -/
import Derived.Test.YteghlmcafhhkcaaFloats
import Derived.Test.YteghlmcafhhkcaaRefs
import Derived.Test.YteghlmcafhhkcaaPlain
import Derived.LoopN
import Derived.LoopTactic
namespace Go.Proofs.Yteghlmcafhhkcaa.Ans
open Go Go.RowKit Go.Proofs.Yteghlmcafhhkcaa.Ref Go.Proofs.YteghlmcafhhkcaaW.PrintWords Go.Proofs.YteghlmcafhhkcaaW.PrintLast Go.Proofs.YteghlmcafhhkcaaW.PrintMore
open Go.Proofs.Yteghlmcafhhkcaa.Num Go.Proofs.Yteghlmcafhhkcaa.DigLaw Go.Proofs.Yteghlmcafhhkcaa.Fl Go.Proofs.Yteghlmcafhhkcaa.Dig Go.Proofs.Yteghlmcafhhkcaa.Float
open Ieee (double Datum)

def Ans (f : FuncId) (args : Array Value) (v : Value) : Prop := ∀ w, Calls Try.prog f args w fun e w' => e = .returned v ∧ Below w.heap.size w w'
theorem Ans.at {f : FuncId} {args : Array Value} {v : Value} (h : Ans f args v) (w : World) : Calls Try.prog f args w fun e w' => e = .returned v ∧ Below w.heap.size w w' := h w
theorem bthen {w w1 w2 : World} (h1 : Below w.heap.size w w1) (h2 : Below w1.heap.size w1 w2) : Below w.heap.size w w2 := below_then h1 h1.size h2

theorem nanw_eq : Float.NANW = Dig.NANW := rfl
theorem wordI_ok (z : Bool) (T : Int) : rg (wordI z T) ≤ INF := by
  unfold wordI
  rw [word_eq]
  have h1 := rung_le_inf T.natAbs (-1074)
  have h2 := INF_lt
  rw [(sg_word _ _ (by unfold S63 at h2; omega)).2.1]; exact h1
theorem word_ok (s : Bool) {r : Nat} (h : r ≤ INF) : rg (double.word s r) ≤ INF := by
  rw [word_eq]
  have h2 := INF_lt
  rw [(sg_word _ _ (by unfold S63 at h2; omega)).2.1]; exact h
theorem ans_refKind (a : Nat) (ha : a < W) : Ans 15 #[.int .u64 a] (.int .i64 (kindN a)) := fun w => let ⟨k, hk⟩ := Ev.rounds (kind_is a ha); (minstrelref01_Kind.calls k _ _ w hk).mono fun _ _ ⟨h, hd⟩ => ⟨h, hd.below⟩
theorem ans_refParts (a : Nat) (ha : a < W) : Ans 27 #[.int .u64 a] (.tuple #[.bool (sg a), .int .i64 (expN a), .int .u64 (fracN a)]) := fun w => let ⟨k, hk⟩ := Ev.rounds (parts_is a ha); (minstrelref01_Parts.calls k _ _ _ _ w hk).mono fun _ _ ⟨h, hd⟩ => ⟨h, hd.below⟩
theorem ans_refLess (a b : Nat) (ha : a < W) (hb : b < W) : Ans 14 #[.int .u64 a, .int .u64 b] (.bool (lessB a b)) := fun w => let ⟨k, hk⟩ := Ev.rounds (less_is a b ha hb); (minstrelref01_Less.calls k _ _ _ w hk).mono fun _ _ ⟨h, hd⟩ => ⟨h, hd.below⟩
theorem ans_refNan : Ans 22 #[] (.int .u64 9221120237041090560) := fun w => (minstrelref01_Nan.calls _ w nan_is).mono fun _ _ ⟨h, hd⟩ => ⟨h, hd.below⟩
theorem ans_refSign (a : Nat) (ha : a < W) : Ans 21 #[.int .u64 a] (.bool (sg a)) := fun w => (minstrelref01_Neg.calls _ _ w (neg_is a ha)).mono fun _ _ ⟨h, hd⟩ => ⟨h, hd.below⟩
end Go.Proofs.Yteghlmcafhhkcaa.Ans

/- What the program's Div and Sqrt (layer 3) answer: IEEE 754's word, and one NaN where there is none. Condition: the arguments are words of 64 bits. -/
namespace Go.Proofs.Yteghlmcafhhkcaa.Ans
open Go Go.RowKit Go.Proofs.Yteghlmcafhhkcaa.Ref Go.Proofs.YteghlmcafhhkcaaW.PrintWords Go.Proofs.YteghlmcafhhkcaaW.PrintLast Go.Proofs.YteghlmcafhhkcaaW.PrintMore
open Go.Proofs.Yteghlmcafhhkcaa.Num Go.Proofs.Yteghlmcafhhkcaa.DigLaw Go.Proofs.Yteghlmcafhhkcaa.Fl Go.Proofs.Yteghlmcafhhkcaa.Dig Go.Proofs.Yteghlmcafhhkcaa.Float
open Ieee (double Datum)

attribute [local go_sem] frombits_run bits_run
theorem ans_of (a : Nat) : Ans 24 #[.int .u64 a] (.float .f64 a) := by
  intro w
  go_enter Try.func24, Try.ntmps24
  go_wp2
  go_ret
  exact ⟨rfl, Below.refl _ _⟩
theorem ans_told (a : Nat) : Ans 23 #[.float .f64 a] (.int .u64 (canonW a)) := by
  intro w
  go_enter Try.func23, Try.ntmps23
  go_wp2_with (go_at_call 41; refine (Canon_any _ _).mono ?_; rintro e w' ⟨rfl, rfl⟩)
  go_ret
  exact ⟨rfl, Below.refl _ _⟩
theorem write_ok' {d : Datum} (h : d.isNaN = false) : rg (double.write d) ≤ INF := (write_num d h).1
theorem quotient_num {digits : Nat} {x y d : Datum} (h : Datum.quotient digits x y = some d) : d.isNaN = false := by
  cases d with
  | number s m p => rfl
  | infinity s => rfl
  | nan s f =>
    exfalso
    cases x <;> cases y <;> simp only [Datum.quotient] at h <;> try (split at h) <;> try (split at h) <;> cases h
    all_goals cases h
theorem root_num {digits : Nat} {x d : Datum} (h : Datum.root digits x = some d) : d.isNaN = false := by
  cases d with
  | number s m p => rfl
  | infinity s => rfl
  | nan s f =>
    exfalso
    cases x with
    | number s m p =>
      simp only [Datum.root] at h
      split at h
      · cases h
      · split at h
        · cases h
        · cases h
    | infinity s =>
      simp only [Datum.root] at h
      split at h
      · cases h
      · cases h
    | nan s f => simp only [Datum.root] at h; cases h
theorem div_ok {a b r : Nat} (h : double.div a b = some r) : rg r ≤ INF ∧ r < W := by
  unfold Ieee.Format.div at h
  rw [Option.map_eq_some_iff] at h
  obtain ⟨d, hd, rfl⟩ := h
  exact write_num d (quotient_num hd)
theorem sqrt_ok {a r : Nat} (h : double.sqrt a = some r) : rg r ≤ INF ∧ r < W := by
  unfold Ieee.Format.sqrt at h
  rw [Option.map_eq_some_iff] at h
  obtain ⟨d, hd, rfl⟩ := h
  exact write_num d (root_num hd)
def sqrtW (a : Nat) : Nat := (double.sqrt a).getD Dig.NANW
theorem div_lt (a b : Nat) : divW a b < W := by
  unfold divW
  cases h : double.div a b with
  | none => exact nanw_facts.2.2.1
  | some r => exact (div_ok h).2
theorem sqrt_lt (a : Nat) : sqrtW a < W := by
  unfold sqrtW
  cases h : double.sqrt a with
  | none => exact nanw_facts.2.2.1
  | some r => exact (sqrt_ok h).2
theorem ans_Div (a b : Nat) : Ans 9 #[.int .u64 a, .int .u64 b] (.int .u64 (divW a b)) := by
  intro w
  have oa := ans_of a
  have ob := ans_of b
  cases h : double.div a b with
  | none =>
    have e : divW a b = Dig.NANW := by unfold divW; rw [h]; rfl
    rw [e]
    have hm : ∀ w : World, (binOp .quo 36 (.float .f64 a) (.float .f64 b)).run Try.prog w = .ok (.float .f64 (drawnNaN a b w)) w.drew := fun w => arith_none .quo 36 a b (.inr (.inr (.inr rfl))) h w
    have ht : ∀ w : World, Ans 23 #[.float .f64 (drawnNaN a b w)] (.int .u64 Dig.NANW) := fun w => by
      have := ans_told (drawnNaN a b w)
      rw [show canonW (drawnNaN a b w) = Dig.NANW from cut_isNaN a b _] at this; exact this
    clear h e
    go_enter Try.func9, Try.ntmps9
    go_wp2_with fail
    refine (oa.at _).mono ?_; rintro e w1 ⟨rfl, hb1⟩
    go_wp2_with fail
    refine (ob.at _).mono ?_; rintro e w2 ⟨rfl, hb2⟩
    go_wp2_with fail
    refine ((ht _).at _).mono ?_; rintro e w3 ⟨rfl, hb3⟩
    go_wp2_with fail
    go_ret
    exact ⟨rfl, bthen hb1 (bthen (bthen hb2 (Below.refl _ _).drew) hb3)⟩
  | some r =>
    have e : divW a b = r := by unfold divW; rw [h]; rfl
    rw [e]
    have hm : ∀ w : World, (binOp .quo 36 (.float .f64 a) (.float .f64 b)).run Try.prog w = .ok (.float .f64 r) w := fun w => run_float_arith w .quo 36 .f64 a b r h
    have ht := ans_told r
    rw [canon_num (div_ok h).1] at ht
    clear h e
    go_enter Try.func9, Try.ntmps9
    go_wp2_with fail
    refine (oa.at _).mono ?_; rintro e w1 ⟨rfl, hb1⟩
    go_wp2_with fail
    refine (ob.at _).mono ?_; rintro e w2 ⟨rfl, hb2⟩
    go_wp2_with fail
    refine (ht.at _).mono ?_; rintro e w3 ⟨rfl, hb3⟩
    go_wp2_with fail
    go_ret
    exact ⟨rfl, bthen hb1 (bthen hb2 hb3)⟩
/-! ### Sqrt -/
theorem extSqrt_eq (x : Nat) : Extern.MathSqrt.sqrt #[.float .f64 x] =
    match FloatKind.f64.format.sqrt x with
    | some r => pure (.float .f64 r)
    | none => (do pure (.float .f64 (← choose (.nanBits .f64 x x))) : Sem Value) := rfl
theorem ask_run (q : Question) (hf : q.forced = false) (k : Nat → Value) (w : World) : (do let x ← choose q; pure (k x) : Sem Value).run Try.prog w = .ok (k (q.cut (w.tape w.drawn q))) w.drew := by
  simp [hf]
theorem sqrt_some (a r : Nat) (h : double.sqrt a = some r) (w : World) : (callFunc 49 #[.float .f64 a]).run Try.prog w = .ok (.value (.float .f64 r)) w := by
  have h' : FloatKind.f64.format.sqrt a = some r := h
  rw [run_callFunc_extern (fn := Try.f49) (e := Extern.MathSqrt.sqrt) Try.func49 (by kernel_rfl) (by kernel_rfl) (by kernel_rfl) (by kernel_rfl), extSqrt_eq, h']
  rfl
theorem sqrt_none (a : Nat) (h : double.sqrt a = none) (w : World) : (callFunc 49 #[.float .f64 a]).run Try.prog w = .ok (.value (.float .f64 (drawnNaN a a w))) w.drew := by
  have h' : FloatKind.f64.format.sqrt a = none := h
  rw [run_callFunc_extern (fn := Try.f49) (e := Extern.MathSqrt.sqrt) Try.func49 (by kernel_rfl) (by kernel_rfl) (by kernel_rfl) (by kernel_rfl), extSqrt_eq, h']
  dsimp only
  rw [ask_run (Question.nanBits .f64 a a) rfl (fun x => .float .f64 x) w]
  rfl
theorem ans_Sqrt (a : Nat) : Ans 12 #[.int .u64 a] (.int .u64 (sqrtW a)) := by
  intro w
  have oa := ans_of a
  cases h : double.sqrt a with
  | none =>
    have e : sqrtW a = Dig.NANW := by unfold sqrtW; rw [h]; rfl
    rw [e]
    have hm := sqrt_none a h
    have ht : ∀ w : World, Ans 23 #[.float .f64 (drawnNaN a a w)] (.int .u64 Dig.NANW) := fun w => by
      have := ans_told (drawnNaN a a w)
      rw [show canonW (drawnNaN a a w) = Dig.NANW from cut_isNaN a a _] at this; exact this
    clear h e
    go_enter Try.func12, Try.ntmps12
    go_wp2_with (first | (go_at_call 24; refine (oa.at _).mono ?_; rintro e w1 ⟨rfl, hb1⟩) | (go_at_call 23; refine ((ht _).at _).mono ?_; rintro e w3 ⟨rfl, hb3⟩) | go_in)
    go_ret
    exact ⟨rfl, bthen (bthen hb1 (Below.refl _ _).drew) hb3⟩
  | some r =>
    have e : sqrtW a = r := by unfold sqrtW; rw [h]; rfl
    rw [e]
    have hm := sqrt_some a r h
    have ht := ans_told r
    rw [canon_num (sqrt_ok h).1] at ht
    clear h e
    go_enter Try.func12, Try.ntmps12
    go_wp2_with (first | (go_at_call 24; refine (oa.at _).mono ?_; rintro e w1 ⟨rfl, hb1⟩) | (go_at_call 23; refine (ht.at _).mono ?_; rintro e w3 ⟨rfl, hb3⟩) | go_in)
    go_ret
    exact ⟨rfl, bthen hb1 hb3⟩
theorem lives_div : divW 4607182418800017408 4613937818241073152 = 4599676419421066581 := by decide +kernel
theorem lives_sqrt : sqrtW 4611686018427387904 = 4609047870845172685 := by decide +kernel
theorem ans_lives : Ans 11 #[] (.bool true) := by
  intro w
  have h1 := ans_Div 4607182418800017408 4613937818241073152
  have h2 := ans_Sqrt 4611686018427387904
  rw [lives_div] at h1
  rw [lives_sqrt] at h2
  have H1 : Ans 9 #[.int .u64 4607182418800017408, .int .u64 4613937818241073152] (.int .u64 4599676419421066581) := h1
  have H2 : Ans 12 #[.int .u64 4611686018427387904] (.int .u64 4609047870845172685) := h2
  clear h1 h2
  go_enter Try.func11, Try.ntmps11
  go_wp2_with fail
  refine (H1.at _).mono ?_; rintro e w1 ⟨rfl, hb1⟩
  go_wp2_with fail
  refine (H2.at _).mono ?_; rintro e w2 ⟨rfl, hb2⟩
  go_wp2_with fail
  go_ret
  exact ⟨rfl, bthen hb1 hb2⟩
theorem ans_refDiv (a b : Nat) (ha : a < W) (hb : b < W) : Ans 10 #[.int .u64 a, .int .u64 b] (.int .u64 (divW a b)) := fun w =>
  let ⟨k, hk⟩ := Ev.rounds (refDiv_is a b ha hb); minstrelref03_Div.calls k _ _ _ w hk
end Go.Proofs.Yteghlmcafhhkcaa.Ans

/- Plain: what words with and without a sign stand for. -/
namespace Go.Proofs.Yteghlmcafhhkcaa.Ans
open Go Go.RowKit Go.Proofs.Yteghlmcafhhkcaa.Num Go.Proofs.Yteghlmcafhhkcaa.DigLaw Go.Proofs.Yteghlmcafhhkcaa.Fl Go.Proofs.Yteghlmcafhhkcaa.Dig Go.Proofs.Yteghlmcafhhkcaa.Float

theorem Vi_pos {s : Nat} (h : sg s = false) : Vi s = (V (rg s) : Int) := by unfold Vi sn; rw [h]; simp
theorem Vi_neg' {s : Nat} (h : sg s = true) : Vi s = -(V (rg s) : Int) := by unfold Vi sn; rw [h]; simp
end Go.Proofs.Yteghlmcafhhkcaa.Ans

/- What the library's Abs, IsInf, IsNaN, NaN, normalize, Frexp, Ldexp do on doubles: the world is as it was. Conditions: the arguments are doubles, finite and above nought for the last three. -/
namespace Go.Proofs.Yteghlmcafhhkcaa.Ans
open Go Go.RowKit Go.Proofs.Yteghlmcafhhkcaa.Ref Go.Proofs.YteghlmcafhhkcaaW.PrintWords Go.Proofs.YteghlmcafhhkcaaW.PrintLast Go.Proofs.YteghlmcafhhkcaaW.PrintMore
open Go.Proofs.Yteghlmcafhhkcaa.Num Go.Proofs.Yteghlmcafhhkcaa.DigLaw Go.Proofs.Yteghlmcafhhkcaa.Fl Go.Proofs.Yteghlmcafhhkcaa.Dig Go.Proofs.Yteghlmcafhhkcaa.Float
open Ieee (double Datum)

attribute [local go_sem] frombits_run bits_run
def Pu (f : FuncId) (args : Array Value) (v : Value) : Prop := ∀ w, Calls Try.prog f args w fun e w' => e = .returned v ∧ w = w'
theorem Pu.at {f : FuncId} {args : Array Value} {v : Value} (h : Pu f args v) (w : World) : Calls Try.prog f args w fun e w' => e = .returned v ∧ w = w' := h w
theorem pos_word {r : Nat} (h : r ≤ INF) : sg r = false ∧ rg r = r ∧ r < W := by
  have h2 := INF_lt
  have := sg_word false r (by unfold S63 at h2; omega)
  rw [show sgn false = 0 from rfl, Nat.zero_add] at this
  exact this
theorem s_lt (x y : Int) : ((some (compare x y) : Option Ordering) == some .lt) = decide (x < y) := by
  rcases Int.lt_trichotomy x y with l | l | l
  · rw [cmp_lt l, decide_eq_true l]; rfl
  · rw [cmp_eq l, decide_eq_false (by omega)]; rfl
  · rw [cmp_gt l, decide_eq_false (by omega)]; rfl
theorem s_gt (x y : Int) : ((some (compare x y) : Option Ordering) == some .gt) = decide (y < x) := by
  rcases Int.lt_trichotomy x y with l | l | l
  · rw [cmp_lt l, decide_eq_false (by omega)]; rfl
  · rw [cmp_eq l, decide_eq_false (by omega)]; rfl
  · rw [cmp_gt l, decide_eq_true l]; rfl
theorem s_eq (x y : Int) : ((some (compare x y) : Option Ordering) == some .eq) = decide (x = y) := by
  rcases Int.lt_trichotomy x y with l | l | l
  · rw [cmp_lt l, decide_eq_false (by omega)]; rfl
  · rw [cmp_eq l, decide_eq_true l]; rfl
  · rw [cmp_gt l, decide_eq_false (by omega)]; rfl
theorem Vi_word {r : Nat} (h : r ≤ INF) : Vi r = (V r : Int) := by
  obtain ⟨h1, h2, _⟩ := pos_word h
  unfold Vi sn; rw [h1, h2]; simp
theorem o_lt {a b : Nat} (ha : a ≤ INF) (hb : b ≤ INF) : (FloatKind.f64.format.order a b == some .lt) = decide (a < b) := by
  show (double.order a b == some .lt) = _
  rw [order_eq (by rw [(pos_word ha).2.1]; exact ha) (by rw [(pos_word hb).2.1]; exact hb), s_lt, Vi_word ha, Vi_word hb]
  apply decide_eq_decide.2
  have := V_le_iff (a := b) (b := a)
  omega
theorem o_eq {a b : Nat} (ha : a ≤ INF) (hb : b ≤ INF) : (FloatKind.f64.format.order a b == some .eq) = decide (a = b) := by
  show (double.order a b == some .eq) = _
  rw [order_eq (by rw [(pos_word ha).2.1]; exact ha) (by rw [(pos_word hb).2.1]; exact hb), s_eq, Vi_word ha, Vi_word hb]
  apply decide_eq_decide.2
  exact ⟨fun h => V_inj (Int.ofNat.inj h), fun h => by rw [h]⟩
theorem o_gt {a b : Nat} (ha : a ≤ INF) (hb : b ≤ INF) : (FloatKind.f64.format.order a b == some .gt) = decide (b < a) := by
  show (double.order a b == some .gt) = _
  rw [order_eq (by rw [(pos_word ha).2.1]; exact ha) (by rw [(pos_word hb).2.1]; exact hb), s_gt, Vi_word ha, Vi_word hb]
  apply decide_eq_decide.2
  have := V_le_iff (a := a) (b := b)
  omega
theorem andNot_go (a : Nat) (h : a < W) : Go.bits .andNot .u64 (a : Int) 9223372036854775808 = ((rg a : Nat) : Int) := by
  have e : Go.bits .andNot .u64 (a : Int) ((9223372036854775808 : Nat) : Int) = ((rg a : Nat) : Int) := by
    have ha' : a % 2 ^ IntKind.u64.bits = a := Nat.mod_eq_of_lt h
    simp only [bits, BitVec.ofInt_natCast]
    have key : (BitVec.ofNat IntKind.u64.bits a &&& ~~~ BitVec.ofNat IntKind.u64.bits 9223372036854775808).toNat = rg a := by
      show (BitVec.ofNat 64 a &&& ~~~ BitVec.ofNat 64 9223372036854775808).toNat = rg a
      have hn : ~~~ BitVec.ofNat 64 9223372036854775808 = BitVec.ofNat 64 9223372036854775807 := by decide
      rw [hn, BitVec.toNat_and, BitVec.toNat_ofNat, BitVec.toNat_ofNat]
      have e64 : (2 : Nat) ^ 64 = 18446744073709551616 := by decide
      have h' : a < 18446744073709551616 := h
      rw [e64, Nat.mod_eq_of_lt h', show 9223372036854775807 % 18446744073709551616 = 2 ^ 63 - 1 from by decide, Nat.and_two_pow_sub_one_eq_mod]
      rfl
    rw [key]
    have := rg_lt a
    exact u64of _ (by omega)
  exact e
/-- the exponent's field away -/
theorem andNot_exp (r : Nat) (h : r < 9223372036854775808) : Go.bits .andNot .u64 (r : Int) 9218868437227405312 = ((r % 2 ^ 52 : Nat) : Int) := by
  have e : Go.bits .andNot .u64 (r : Int) ((9218868437227405312 : Nat) : Int) = ((r % 2 ^ 52 : Nat) : Int) := by
    simp only [bits, BitVec.ofInt_natCast]
    have key : (BitVec.ofNat IntKind.u64.bits r &&& ~~~ BitVec.ofNat IntKind.u64.bits 9218868437227405312).toNat = r % 2 ^ 52 := by
      show (BitVec.ofNat 64 r &&& ~~~ BitVec.ofNat 64 9218868437227405312).toNat = r % 2 ^ 52
      have hn : ~~~ BitVec.ofNat 64 9218868437227405312 = BitVec.ofNat 64 (2 ^ 63 + (2 ^ 52 - 1)) := by decide
      have e64 : (2 : Nat) ^ 64 = 18446744073709551616 := by decide
      rw [hn, BitVec.toNat_and, BitVec.toNat_ofNat, BitVec.toNat_ofNat, Nat.mod_eq_of_lt (by rw [e64]; omega)]
      have h63 : r < 2 ^ 63 := by rw [c63]; exact h
      rw [show (2 ^ 63 + (2 ^ 52 - 1)) % 2 ^ 64 = 2 ^ 63 + (2 ^ 52 - 1) from by decide, ← Nat.and_two_pow_sub_one_eq_mod]
      apply Nat.eq_of_testBit_eq
      intro i
      rw [Nat.testBit_and, Nat.testBit_and]
      by_cases c : i < 63
      · congr 1
        rw [Nat.add_comm, show 2 ^ 63 = 2 ^ 63 * 1 from by rw [Nat.mul_one], Nat.add_comm, Nat.testBit_two_pow_mul_add 1 (by decide) i, if_pos c]
      · have : r.testBit i = false := Nat.testBit_lt_two_pow (Nat.lt_of_lt_of_le h63 (Nat.pow_le_pow_right (by decide) (by omega)))
        rw [this, Bool.false_and, Bool.false_and]
    rw [key]
    have h2 := Nat.mod_lt r (Nat.two_pow_pos 52)
    rw [c52] at h2 ⊢
    exact u64of _ (by omega)
  exact e

/-! ### small functions -/
theorem pu_Abs (a : Nat) (ha : a < W) : Pu 59 #[.float .f64 a] (.float .f64 (rg a)) := by
  intro w
  have h := andNot_go a ha
  clear ha
  generalize rg a = r at *
  go_enter Try.func59, Try.ntmps59
  go_wp2
  go_ret
  exact ⟨by first | rfl | (simp [h]; done), rfl⟩
theorem pu_IsInf (a : Nat) (ha : a < W) : Pu 56 #[.float .f64 a, .int .i64 0] (.bool (decide (rg a = INF))) := by
  intro w
  have h := pu_Abs a ha
  have g : (FloatKind.f64.format.order (rg a) 9218868437227405311 == some .gt) = decide (rg a = INF) := by
    have hI := cINF
    rcases Nat.lt_or_ge INF (rg a) with c | c
    · show (double.order (rg a) 9218868437227405311 == some .gt) = _
      have h2 := rg_lt a
      have h3 := (sg_word false (rg a) h2).2.1
      rw [show sgn false = 0 from rfl, Nat.zero_add] at h3
      rw [order_nan (Or.inl (by rw [h3]; exact c)), decide_eq_false (by omega)]; rfl
    · rw [o_gt c (by omega)]
      apply decide_eq_decide.2; omega
  clear ha
  generalize decide (rg a = INF) = b at *
  generalize rg a = r at *
  go_enter Try.func56, Try.ntmps56
  go_wp2_with fail
  refine (h.at _).mono ?_; rintro e w1 ⟨rfl, rfl⟩
  go_wp2_with fail
  go_ret
  exact ⟨rfl, rfl⟩
theorem pu_IsNaN (a : Nat) : Pu 57 #[.float .f64 a] (.bool (decide (INF < rg a))) := by
  intro w
  have h := neq_run a
  rw [isNaN_eq] at h
  generalize decide (INF < rg a) = b at *
  go_enter Try.func57, Try.ntmps57
  go_wp2
  go_ret
  exact ⟨rfl, rfl⟩
theorem pu_NaN : Pu 58 #[] (.float .f64 9221120237041090561) := by
  intro w
  go_enter Try.func58, Try.ntmps58
  go_wp2
  go_ret
  exact ⟨rfl, rfl⟩
/-! ### normalize -/
def C52 : Nat := 4841369599423283200
theorem c52_word : rg C52 = 1075 * 2 ^ 52 ∧ sg C52 = false ∧ rg C52 < INF := by decide +kernel
theorem V_c52 : V (rg C52) = 2 ^ (52 + E74) := by
  rw [c52_word.1]
  have := V_binade E74 (2 ^ 52) (by decide) (Or.inr (Nat.le_refl _))
  rw [show E74 * 2 ^ 52 + 2 ^ 52 = 1075 * 2 ^ 52 from by unfold E74; decide] at this
  rw [this, ← Nat.pow_add]
theorem mul_c52 {r : Nat} (hr : r < INF) : floatBits .mul .f64 r C52 = some (rung (V r * 2 ^ 52) (-1074)) := by
  show double.mul r C52 = _
  obtain ⟨h1, h2, _⟩ := pos_word (Nat.le_of_lt hr)
  obtain ⟨k1, k2, k3⟩ := c52_word
  rw [mul_fin (by rw [h2]; exact hr) k3, h1, k2, h2, V_c52, Bool.xor_false, word_false]
  have := rung_scale (V r * 2 ^ 52) E74 (-1074)
  rw [show (-1074 : Int) - ((E74 : Nat) : Int) = -2148 from by unfold E74; decide, Nat.mul_assoc, ← Nat.pow_add] at this
  rw [this]
theorem pu_normalize (r : Nat) (hr : r < INF) : Pu 67 #[.float .f64 r] (.tuple #[.float .f64 (nm r), .int .i64 (-((ne r : Nat) : Int))]) := by
  intro w
  obtain ⟨h1, h2, h3⟩ := pos_word (Nat.le_of_lt hr)
  have a := pu_Abs r h3
  rw [h2] at a
  have g := o_lt (a := r) (b := 4503599627370496) (Nat.le_of_lt hr) (by rw [cINF]; decide)
  have q := fun w : World => run_float_arith (P := Try.prog) w .mul 36 .f64 r C52 _ (mul_c52 hr)
  rw [show C52 = 4841369599423283200 from rfl] at q
  unfold nm ne
  rw [c52]
  by_cases c : r < 4503599627370496
  · rw [decide_eq_true c] at g
    rw [if_pos c, if_pos c]
    rw [← c52]
    generalize rung (V r * 2 ^ 52) (-1074) = z at *
    clear h1 h2 h3 hr c
    go_enter Try.func67, Try.ntmps67
    go_wp2_with fail
    refine (a.at _).mono ?_; rintro e w1 ⟨rfl, rfl⟩
    go_wp2_with fail
    go_ret2
    exact ⟨rfl, rfl⟩
  · rw [decide_eq_false c] at g
    rw [if_neg c, if_neg c]
    clear h1 h2 h3 hr c q
    go_enter Try.func67, Try.ntmps67
    go_wp2_with fail
    refine (a.at _).mono ?_; rintro e w1 ⟨rfl, rfl⟩
    go_wp2_with fail
    go_ret2
    exact ⟨rfl, rfl⟩
end Go.Proofs.Yteghlmcafhhkcaa.Ans

/- What the library's Frexp and Ldexp do on doubles that are finite and above nought: the world is as it was. -/
namespace Go.Proofs.Yteghlmcafhhkcaa.Ans
open Go Go.RowKit Go.Proofs.Yteghlmcafhhkcaa.Ref Go.Proofs.YteghlmcafhhkcaaW.PrintWords Go.Proofs.YteghlmcafhhkcaaW.PrintLast Go.Proofs.YteghlmcafhhkcaaW.PrintMore
open Go.Proofs.Yteghlmcafhhkcaa.Num Go.Proofs.Yteghlmcafhhkcaa.DigLaw Go.Proofs.Yteghlmcafhhkcaa.Fl Go.Proofs.Yteghlmcafhhkcaa.Dig Go.Proofs.Yteghlmcafhhkcaa.Float
open Ieee (double Datum)

attribute [local go_sem] frombits_run bits_run
theorem set_exp (n y : Nat) (hn : n < 9223372036854775808) (hy : y < 4096) : Go.bits .or .u64 (Go.bits .andNot .u64 (n : Int) 9218868437227405312) ((y * 4503599627370496 : Nat) : Int) = ((n % 4503599627370496 + y * 4503599627370496 : Nat) : Int) := by
  rw [andNot_exp n hn]
  have h := or_add (n % 2 ^ 52) y 52 (Nat.mod_lt _ (Nat.two_pow_pos _)) (by have := Nat.mod_lt n (Nat.two_pow_pos 52); rw [c52] at *; omega) (by rw [c52]; omega)
  rw [c52] at h ⊢
  exact h
theorem get_exp (n : Nat) (hn : n < 9223372036854775808) : Go.bits .and .u64 ((n : Int) / 4503599627370496) 2047 = ((n / 4503599627370496 : Nat) : Int) := by
  have h := field_exp n (by unfold W; omega)
  have h3 := (sg_word false n hn).2.1
  rw [show sgn false = 0 from rfl, Nat.zero_add] at h3
  rw [h3] at h; exact h
theorem frexp_val {r : Nat} (h0 : r ≠ 0) (hr : r < INF) : (Go.bits .or .u64 (Go.bits .andNot .u64 ((nm r : Nat) : Int) 9218868437227405312) 4602678819172646912).toNat = 1022 * 4503599627370496 + (mm r - 4503599627370496) ∧ wrap64 (-((ne r : Nat) : Int) + wrap64 (wrap64 (wrap64 (Go.bits .and .u64 (((nm r : Nat) : Int) / 4503599627370496) 2047) - 1023) + 1)) = ((xx r : Nat) : Int) - 1073 := by
  obtain ⟨n1, n2, n3⟩ := nm_facts h0 hr
  obtain ⟨m1, m2, m3, m4, m5, m6⟩ := mm_facts h0 hr
  have hI := cINF
  have e1 := set_exp (nm r) 1022 (by omega) (by decide)
  rw [show ((1022 * 4503599627370496 : Nat) : Int) = 4602678819172646912 from rfl] at e1
  rw [e1, get_exp (nm r) (by omega)]
  have hm : mm r = 4503599627370496 + nm r % 4503599627370496 := by unfold mm; rw [c52]
  have he : ee r = nm r / 4503599627370496 - 1 := by unfold ee; rw [c52]
  have hx : xx r = ee r + 52 - ne r := rfl
  rw [c52] at n1
  refine ⟨?_, ?_⟩
  · rw [Int.toNat_natCast]; omega
  · rw [i64in (n := ((nm r / 4503599627370496 : Nat) : Int)) (by omega) (by omega), i64in (n := _ - 1023) (by omega) (by omega), i64in (n := _ + 1) (by omega) (by omega), i64in (by omega) (by omega)]
    omega
theorem pu_frexp (r : Nat) (h0 : r ≠ 0) (hr : r < INF) : Pu 64 #[.float .f64 r] (.tuple #[.float .f64 (1022 * 4503599627370496 + (mm r - 4503599627370496)), .int .i64 (((xx r : Nat) : Int) - 1073)]) := by
  intro w
  obtain ⟨h1, h2, h3⟩ := pos_word (Nat.le_of_lt hr)
  have z := o_eq (a := r) (b := 0) (Nat.le_of_lt hr) (Nat.zero_le _)
  rw [decide_eq_false h0] at z
  have i := pu_IsInf r h3
  rw [h2, decide_eq_false (by omega)] at i
  have n := pu_IsNaN r
  rw [h2, decide_eq_false (by omega)] at n
  have m := pu_normalize r hr
  go_enter Try.func64, Try.ntmps64
  go_wp2_with fail
  refine (i.at _).mono ?_; rintro e w1 ⟨rfl, rfl⟩
  go_wp2_with fail
  refine (n.at _).mono ?_; rintro e w1 ⟨rfl, rfl⟩
  go_wp2_with fail
  refine (m.at _).mono ?_; rintro e w1 ⟨rfl, rfl⟩
  go_wp2_with fail
  go_ret2
  obtain ⟨v1, v2⟩ := frexp_val h0 hr
  refine ⟨?_, rfl⟩
  rw [← v1, ← v2]
  rfl
theorem pu_Frexp (r : Nat) (h0 : r ≠ 0) (hr : r < INF) : Pu 60 #[.float .f64 r] (.tuple #[.float .f64 (1022 * 4503599627370496 + (mm r - 4503599627370496)), .int .i64 (((xx r : Nat) : Int) - 1073)]) := by
  intro w
  have h := pu_frexp r h0 hr
  generalize 1022 * 4503599627370496 + (mm r - 4503599627370496) = m at *
  generalize ((xx r : Nat) : Int) - 1073 = x at *
  go_enter Try.func60, Try.ntmps60
  go_wp2_with fail
  refine (h.at _).mono ?_; rintro e w1 ⟨rfl, rfl⟩
  go_wp2_with fail
  go_ret2
  exact ⟨rfl, rfl⟩
/-- of infinity -/
theorem pu_Frexp_inf : Pu 60 #[.float .f64 INF] (.tuple #[.float .f64 INF, .int .i64 0]) := by
  have hf : Pu 64 #[.float .f64 INF] (.tuple #[.float .f64 INF, .int .i64 0]) := by
    intro w
    obtain ⟨h1, h2, h3⟩ := pos_word (Nat.le_refl INF)
    have z := o_eq (a := INF) (b := 0) (Nat.le_refl _) (Nat.zero_le _)
    rw [decide_eq_false (by rw [cINF]; decide)] at z
    have i := pu_IsInf INF h3
    rw [h2, decide_eq_true rfl] at i
    clear h1 h2 h3
    generalize INF = r at *
    go_enter Try.func64, Try.ntmps64
    go_wp2_with fail
    refine (i.at _).mono ?_; rintro e w1 ⟨rfl, rfl⟩
    go_wp2_with fail
    go_ret2
    exact ⟨rfl, rfl⟩
  intro w
  generalize INF = r at *
  go_enter Try.func60, Try.ntmps60
  go_wp2_with fail
  refine (hf.at _).mono ?_; rintro e w1 ⟨rfl, rfl⟩
  go_wp2_with fail
  go_ret2
  exact ⟨rfl, rfl⟩
/-! ### Ldexp -/
/-- the walk, over the numbers that it meets -/
theorem ldexp_walk (y q res : Nat) (k d T : Int) (z : (FloatKind.f64.format.order y 0 == some Ordering.eq) = false) (i : Pu 56 #[.float .f64 y, .int .i64 0] (.bool false)) (n : Pu 57 #[.float .f64 y] (.bool false)) (m : Pu 67 #[.float .f64 y] (.tuple #[.float .f64 q, .int .i64 (-d)]))
    (hX : wrap64 (wrap64 (k + -d) + wrap64 (Go.bits .and .i64 (wrap64 ((q : Int) / 4503599627370496)) 2047 - 1023)) = T) (_t1 : ¬ T < -1075) (_t2 : ¬ 1023 < T) (t3 : -1075 ≤ T) (t4 : T ≤ 1023)
    (hl : T < -1022 → ∀ w : World, (binOp .mul 36 (.float .f64 4368491638549381120) (.float .f64 (Go.bits .or .u64 (Go.bits .andNot .u64 (q : Int) 9218868437227405312) ((T + 53 + 1023) * 4503599627370496)).toNat)).run Try.prog w = .ok (.float .f64 res) w)
    (hh : ¬ T < -1022 → ∀ w : World, (binOp .mul 36 (.float .f64 4607182418800017408) (.float .f64 (Go.bits .or .u64 (Go.bits .andNot .u64 (q : Int) 9218868437227405312) ((T + 1023) * 4503599627370496)).toNat)).run Try.prog w = .ok (.float .f64 res) w) :
    Pu 66 #[.float .f64 y, .int .i64 k] (.float .f64 res) := by
  intro w
  by_cases c : T < -1022
  · have hm := hl c
    clear hl hh
    go_enter Try.func66, Try.ntmps66
    go_wp2_with fail
    refine (i.at _).mono ?_; rintro e w1 ⟨rfl, rfl⟩
    go_wp2_with fail
    refine (n.at _).mono ?_; rintro e w1 ⟨rfl, rfl⟩
    go_wp2_with fail
    refine (m.at _).mono ?_; rintro e w1 ⟨rfl, rfl⟩
    go_wp2_with fail
    go_ret
    exact ⟨rfl, rfl⟩
  · have hm := hh c
    clear hl hh
    go_enter Try.func66, Try.ntmps66
    go_wp2_with fail
    refine (i.at _).mono ?_; rintro e w1 ⟨rfl, rfl⟩
    go_wp2_with fail
    refine (n.at _).mono ?_; rintro e w1 ⟨rfl, rfl⟩
    go_wp2_with fail
    refine (m.at _).mono ?_; rintro e w1 ⟨rfl, rfl⟩
    go_wp2_with fail
    go_ret
    exact ⟨rfl, rfl⟩
theorem and_i64 (n : Nat) (h : n < 2048) : Go.bits .and .i64 ((n : Nat) : Int) 2047 = ((n : Nat) : Int) := by
  have e : Go.bits .and .i64 ((n : Nat) : Int) ((2047 : Nat) : Int) = ((n : Nat) : Int) := by
    have ha : n % 2 ^ IntKind.i64.bits = n := Nat.mod_eq_of_lt (Nat.lt_trans h (by decide))
    have hb : 2047 % 2 ^ IntKind.i64.bits = 2047 := by decide
    simp only [bits, BitVec.ofInt_natCast, BitVec.toNat_and, BitVec.toNat_ofNat, ha, hb]
    rw [show 2047 = 2 ^ 11 - 1 from by decide, Nat.and_two_pow_sub_one_eq_mod, Nat.mod_eq_of_lt (by rw [show (2 : Nat) ^ 11 = 2048 from by decide]; exact h)]
    have := i64in (n := ((n : Nat) : Int)) (by omega) (by omega)
    exact (i64_w _).trans this
  exact e
def ONE : Nat := 4607182418800017408
def M53 : Nat := 4368491638549381120
def E69 : Nat := 969
def E22 : Nat := 1022
theorem one_facts : rg ONE = 1023 * 2 ^ 52 ∧ sg ONE = false ∧ rg ONE < INF ∧ rg M53 = 970 * 2 ^ 52 ∧ sg M53 = false ∧ rg M53 < INF := by decide +kernel
theorem V_one : V (rg ONE) = 2 ^ E74 := by
  rw [one_facts.1]
  have := V_binade E22 (2 ^ 52) (by decide) (Or.inr (Nat.le_refl _))
  rw [show E22 * 2 ^ 52 + 2 ^ 52 = 1023 * 2 ^ 52 from by decide] at this
  rw [this, ← Nat.pow_add, show 52 + E22 = E74 from by unfold E22 E74; decide]
theorem V_m53 : V (rg M53) = 2 ^ (52 + E69) := by
  rw [one_facts.2.2.2.1]
  have := V_binade E69 (2 ^ 52) (by decide) (Or.inr (Nat.le_refl _))
  rw [show E69 * 2 ^ 52 + 2 ^ 52 = 970 * 2 ^ 52 from by decide] at this
  rw [this, ← Nat.pow_add]
theorem mul_scaled {m z n : Nat} (hm : rg m < INF) (sm : sg m = false) (hz : z < INF) (h : V (rg m) * V z = n * 2 ^ E74) : floatBits .mul .f64 m z = some (rung n (-1074)) := by
  show double.mul m z = _
  obtain ⟨h1, h2, _⟩ := pos_word (Nat.le_of_lt hz)
  rw [mul_fin hm (by rw [h2]; exact hz), h1, h2, sm, h, Bool.xor_false, word_false]
  have := rung_scale n E74 (-1074)
  rw [show (-1074 : Int) - ((E74 : Nat) : Int) = -2148 from by unfold E74; decide] at this
  rw [this]
/-- the word of an exponent and 53 digits -/
theorem V_made {b m : Nat} (hb : 1 ≤ b) (hb2 : b ≤ 2046) (m1 : 2 ^ 52 ≤ m) (m2 : m < 2 ^ 53) (w : Nat) (hw : w = m % 4503599627370496 + b * 4503599627370496) : w < INF ∧ V w = m * 2 ^ (b - 1) := by
  have h := V_binade (b - 1) m (Nat.le_of_lt m2) (Or.inr m1)
  have e : (b - 1) * 2 ^ 52 + m = w := by rw [c52] at m1 ⊢; rw [show (2 : Nat) ^ 53 = 9007199254740992 from by decide] at m2; omega
  rw [e] at h
  refine ⟨?_, h⟩
  rw [cINF]; omega
/-- where the doubled divisor's exponent lies -/
theorem exp_bound {m1 x k E n : Nat} (h1 : 2 ^ 52 ≤ m1) (hv : n * 2 ^ 52 = m1 * 2 ^ (x + k)) (hlt : n < 2 ^ (52 + E)) : x + k < 52 + E := by
  have g1 : n * 2 ^ 52 < 2 ^ (52 + E) * 2 ^ 52 := Nat.mul_lt_mul_of_pos_right hlt (Nat.two_pow_pos _)
  rw [hv, ← Nat.pow_add] at g1
  have g2 : 2 ^ 52 * 2 ^ (x + k) ≤ m1 * 2 ^ (x + k) := Nat.mul_le_mul_right _ h1
  rw [← Nat.pow_add] at g2
  have g3 := (Nat.pow_lt_pow_iff_right (a := 2) (by decide)).1 (Nat.lt_of_le_of_lt g2 g1)
  clear g1 g2 hv hlt h1
  omega
theorem exp_walk {q d e x k : Nat} (hq1 : 4503599627370496 ≤ q) (hq2 : q < 9218868437227405312) (hd : d ≤ 52) (he : e = q / 4503599627370496 - 1) (hx : x = e + 52 - d) (hk : k ≤ 3000) : wrap64 (wrap64 ((k : Int) + -(d : Int)) + wrap64 (Go.bits .and .i64 (wrap64 ((q : Int) / 4503599627370496)) 2047 - 1023)) = ((x + k : Nat) : Int) - 1074 := by
  have hq : q / 4503599627370496 < 2048 := by omega
  have e1 : wrap64 ((q : Int) / 4503599627370496) = ((q / 4503599627370496 : Nat) : Int) := by
    rw [show (q : Int) / 4503599627370496 = ((q / 4503599627370496 : Nat) : Int) from rfl]
    exact i64of _ rfl (by omega)
  rw [e1, and_i64 _ hq, i64in (n := (k : Int) + -(d : Int)) (by omega) (by omega), i64in (n := _ - 1023) (by omega) (by omega), i64in (by omega) (by omega)]
  omega
theorem prod_low {m a n : Nat} (hv : n * 2 ^ 52 = m * 2 ^ a) : 2 ^ (52 + E69) * (m * 2 ^ (a + 2 - 1)) = n * 2 ^ E74 := by
  apply Nat.eq_of_mul_eq_mul_right (Nat.two_pow_pos 52)
  rw [Nat.mul_right_comm n, hv, Nat.mul_comm (2 ^ (52 + E69)), Nat.mul_assoc m, Nat.mul_assoc m, Nat.mul_assoc m, ← Nat.pow_add, ← Nat.pow_add, ← Nat.pow_add]
  have e : a + 2 - 1 + (52 + E69) + 52 = a + E74 := by unfold E69 E74; omega
  rw [e]
theorem prod_high {m a n : Nat} (ha : 52 ≤ a) (hv : n * 2 ^ 52 = m * 2 ^ a) : 2 ^ E74 * (m * 2 ^ (a - 51 - 1)) = n * 2 ^ E74 := by
  apply Nat.eq_of_mul_eq_mul_right (Nat.two_pow_pos 52)
  rw [Nat.mul_right_comm n, hv, Nat.mul_comm (2 ^ E74), Nat.mul_assoc m, Nat.mul_assoc m, Nat.mul_assoc m, ← Nat.pow_add, ← Nat.pow_add, ← Nat.pow_add]
  have e : a - 51 - 1 + E74 + 52 = a + E74 := by omega
  rw [e]
theorem ldexp_low {q m n a : Nat} (w : World) (hn : q < 9223372036854775808) (m1 : 2 ^ 52 ≤ m) (m2 : m < 2 ^ 53) (hm : m % 4503599627370496 = q % 4503599627370496) (ha : a < 52) (hv : n * 2 ^ 52 = m * 2 ^ a) :
    (binOp .mul 36 (.float .f64 4368491638549381120) (.float .f64 (Go.bits .or .u64 (Go.bits .andNot .u64 (q : Int) 9218868437227405312) ((((a : Nat) : Int) - 1074 + 53 + 1023) * 4503599627370496)).toNat)).run Try.prog w = .ok (.float .f64 (rung n (-1074))) w := by
  have hp := prod_low hv
  clear hv
  have hs := set_exp q (a + 2) hn (by omega)
  have e2 : (((a : Nat) : Int) - 1074 + 53 + 1023) * 4503599627370496 = (((a + 2) * 4503599627370496 : Nat) : Int) := by omega
  rw [e2, hs, Int.toNat_natCast, ← hm]
  obtain ⟨g1, g2⟩ := V_made (b := a + 2) (by omega) (by omega) m1 m2 _ rfl
  exact run_float_arith (P := Try.prog) w .mul 36 .f64 M53 _ _ (mul_scaled one_facts.2.2.2.2.2 one_facts.2.2.2.2.1 g1 (by rw [g2, V_m53]; exact hp))
theorem ldexp_high {q m n a : Nat} (w : World) (hn : q < 9223372036854775808) (m1 : 2 ^ 52 ≤ m) (m2 : m < 2 ^ 53) (hm : m % 4503599627370496 = q % 4503599627370496) (ha : 52 ≤ a) (ha2 : a ≤ 2097) (hv : n * 2 ^ 52 = m * 2 ^ a) :
    (binOp .mul 36 (.float .f64 4607182418800017408) (.float .f64 (Go.bits .or .u64 (Go.bits .andNot .u64 (q : Int) 9218868437227405312) ((((a : Nat) : Int) - 1074 + 1023) * 4503599627370496)).toNat)).run Try.prog w = .ok (.float .f64 (rung n (-1074))) w := by
  have hp := prod_high ha hv
  clear hv
  have hs := set_exp q (a - 51) hn (by omega)
  have e2 : (((a : Nat) : Int) - 1074 + 1023) * 4503599627370496 = (((a - 51) * 4503599627370496 : Nat) : Int) := by omega
  rw [e2, hs, Int.toNat_natCast, ← hm]
  obtain ⟨g1, g2⟩ := V_made (b := a - 51) (by omega) (by omega) m1 m2 _ rfl
  exact run_float_arith (P := Try.prog) w .mul 36 .f64 ONE _ _ (mul_scaled one_facts.2.2.1 one_facts.2.1 g1 (by rw [g2, V_one]; exact hp))
theorem pu_ldexp (y k : Nat) (h0 : y ≠ 0) (hy : y < INF) (hlt : V y * 2 ^ k < V INF) : Pu 66 #[.float .f64 y, .int .i64 k] (.float .f64 (rung (V y * 2 ^ k) (-1074))) := by
  obtain ⟨h1, h2, h3⟩ := pos_word (Nat.le_of_lt hy)
  obtain ⟨n1, n2, n3⟩ := nm_facts h0 hy
  obtain ⟨m1, m2, m3, m4, m5, m6⟩ := mm_facts h0 hy
  have hv : V y * 2 ^ k * 2 ^ 52 = mm y * 2 ^ (xx y + k) := by rw [Nat.mul_right_comm, m3, Nat.mul_assoc, ← Nat.pow_add]
  rw [V_inf] at hlt
  have hxk := exp_bound m1 hv hlt
  rw [E46_eq] at hxk
  clear hlt m3 m6 n3
  have hmm : mm y % 4503599627370496 = nm y % 4503599627370496 := by unfold mm; rw [c52, Nat.add_mod_left, Nat.mod_mod]
  rw [c52] at n1
  rw [cINF] at n2
  have hT := exp_walk (k := k) n1 n2 m4 (by unfold ee; rw [c52]) (show xx y = ee y + 52 - ne y from rfl) (by clear hv; omega)
  have z := o_eq (a := y) (b := 0) (Nat.le_of_lt hy) (Nat.zero_le _)
  rw [decide_eq_false h0] at z
  have i := pu_IsInf y h3
  rw [h2, decide_eq_false (Nat.ne_of_lt hy)] at i
  have n := pu_IsNaN y
  rw [h2, decide_eq_false (Nat.lt_asymm hy)] at n
  have hnm := pu_normalize y hy
  clear h1 h2 h3 h0 hy
  have hq : nm y < 9223372036854775808 := Nat.lt_trans n2 (by decide)
  generalize V y * 2 ^ k = N at *
  generalize xx y + k = a at *
  refine ldexp_walk y (nm y) _ (k : Int) ((ne y : Nat) : Int) (((a : Nat) : Int) - 1074) z i n hnm hT (by clear hv; omega) (by clear hv; omega) (by clear hv; omega) (by clear hv; omega) (fun c w => ?_) (fun c w => ?_)
  · exact ldexp_low w hq m1 m2 hmm (by clear hv; omega) hv
  · exact ldexp_high w hq m1 m2 hmm (by clear hv; omega) (by clear hv; omega) hv
theorem pu_Ldexp (y k : Nat) (h0 : y ≠ 0) (hy : y < INF) (hlt : V y * 2 ^ k < V INF) : Pu 61 #[.float .f64 y, .int .i64 k] (.float .f64 (rung (V y * 2 ^ k) (-1074))) := by
  intro w
  have h := pu_ldexp y k h0 hy hlt
  clear hlt h0 hy
  generalize rung (V y * 2 ^ k) (-1074) = m at *
  go_enter Try.func61, Try.ntmps61
  go_wp2_with fail
  refine (h.at _).mono ?_; rintro e w1 ⟨rfl, rfl⟩
  go_wp2_with fail
  go_ret
  exact ⟨rfl, rfl⟩
end Go.Proofs.Yteghlmcafhhkcaa.Ans

/- What the library's Mod does on doubles: the rest, just so. -/
namespace Go.Proofs.Yteghlmcafhhkcaa.Ans
open Go Go.RowKit Go.Proofs.Yteghlmcafhhkcaa.Ref Go.Proofs.YteghlmcafhhkcaaW.PrintWords Go.Proofs.YteghlmcafhhkcaaW.PrintLast Go.Proofs.YteghlmcafhhkcaaW.PrintMore
open Go.Proofs.Yteghlmcafhhkcaa.Num Go.Proofs.Yteghlmcafhhkcaa.DigLaw Go.Proofs.Yteghlmcafhhkcaa.Fl Go.Proofs.Yteghlmcafhhkcaa.Dig Go.Proofs.Yteghlmcafhhkcaa.Float
open Ieee (double Datum)

attribute [local go_sem] frombits_run bits_run
theorem neg_run (x : Nat) (w : World) : (Op.unary UnOp.neg (.float .f64 x)).run Try.prog w = .ok (.float .f64 (x ^^^ 9223372036854775808)) w := rfl
theorem flip_nat (a : Nat) (h : a < W) : a ^^^ 9223372036854775808 = flipW a := by
  have e := flip_xor a h
  rw [show (9223372036854775808 : Int) = ((9223372036854775808 : Nat) : Int) from rfl, xor_nat _ _ h (by decide)] at e
  exact Int.ofNat.inj e
theorem flip_back (a : Nat) : a ^^^ 9223372036854775808 ^^^ 9223372036854775808 = a := by
  rw [Nat.xor_assoc, Nat.xor_self, Nat.xor_zero]
/-- what is no number -/
theorem mod_nan (x y : Nat) (hx : x < W) (h : rg y = 0 ∨ INF ≤ rg x ∨ INF < rg y) : Pu 53 #[.float .f64 x, .float .f64 y] (.float .f64 9221120237041090561) := by
  intro w
  have c2 := pu_IsInf x hx
  have c3 := pu_IsNaN x
  have c4 := pu_IsNaN y
  have c1 : (FloatKind.f64.format.order y 0 == some .eq) = decide (rg y = 0) := by
    show (double.order y 0 == some .eq) = _
    have hI := cINF
    rcases Nat.lt_or_ge INF (rg y) with c | c
    · rw [order_nan (Or.inl c), decide_eq_false (by omega)]; rfl
    · rw [order_eq c (by rw [(pos_word (Nat.zero_le INF)).2.1]; exact Nat.zero_le _), s_eq]
      apply decide_eq_decide.2
      have v0 : Vi 0 = 0 := by rw [Vi_word (Nat.zero_le INF), V_small (by decide)]; rfl
      rw [v0]
      have hv : V (rg y) = 0 ↔ rg y = 0 := ⟨fun z => V_inj (z.trans (V_small (by decide)).symm), fun z => by rw [z, V_small (by decide)]⟩
      rw [← hv]
      unfold Vi sn
      cases sg y
      · rw [if_neg (by simp)]; omega
      · rw [if_pos rfl]; omega
  by_cases h1 : rg y = 0
  · rw [decide_eq_true h1] at c1
    go_enter Try.func53, Try.ntmps53
    go_wp2_with fail
    refine (pu_NaN.at _).mono ?_; rintro e w1 ⟨rfl, rfl⟩
    go_wp2_with fail
    go_ret
    exact ⟨rfl, rfl⟩
  · rw [decide_eq_false h1] at c1
    by_cases h2 : rg x = INF
    · rw [decide_eq_true h2] at c2
      go_enter Try.func53, Try.ntmps53
      go_wp2_with fail
      refine (c2.at _).mono ?_; rintro e w1 ⟨rfl, rfl⟩
      go_wp2_with fail
      refine (pu_NaN.at _).mono ?_; rintro e w1 ⟨rfl, rfl⟩
      go_wp2_with fail
      go_ret
      exact ⟨rfl, rfl⟩
    · rw [decide_eq_false h2] at c2
      by_cases h3 : INF < rg x
      · rw [decide_eq_true h3] at c3
        go_enter Try.func53, Try.ntmps53
        go_wp2_with fail
        refine (c2.at _).mono ?_; rintro e w1 ⟨rfl, rfl⟩
        go_wp2_with fail
        refine (c3.at _).mono ?_; rintro e w1 ⟨rfl, rfl⟩
        go_wp2_with fail
        refine (pu_NaN.at _).mono ?_; rintro e w1 ⟨rfl, rfl⟩
        go_wp2_with fail
        go_ret
        exact ⟨rfl, rfl⟩
      · rw [decide_eq_false h3] at c3
        rw [decide_eq_true (by omega)] at c4
        go_enter Try.func53, Try.ntmps53
        go_wp2_with fail
        refine (c2.at _).mono ?_; rintro e w1 ⟨rfl, rfl⟩
        go_wp2_with fail
        refine (c3.at _).mono ?_; rintro e w1 ⟨rfl, rfl⟩
        go_wp2_with fail
        refine (c4.at _).mono ?_; rintro e w1 ⟨rfl, rfl⟩
        go_wp2_with fail
        refine (pu_NaN.at _).mono ?_; rintro e w1 ⟨rfl, rfl⟩
        go_wp2_with fail
        go_ret
        exact ⟨rfl, rfl⟩
/-- nothing is to be taken away -/
theorem mod_short (x y b m : Nat) (e : Int) (s : Bool)
    (c1 : (FloatKind.f64.format.order y 0 == some .eq) = false) (c2 : Pu 56 #[.float .f64 x, .int .i64 0] (.bool false)) (c3 : Pu 57 #[.float .f64 x] (.bool false)) (c4 : Pu 57 #[.float .f64 y] (.bool false))
    (c5 : Pu 59 #[.float .f64 y] (.float .f64 b)) (c6 : Pu 60 #[.float .f64 b] (.tuple #[.float .f64 m, .int .i64 e])) (c7 : (FloatKind.f64.format.order x 0 == some .lt) = s)
    (c8 : s = false → (FloatKind.f64.format.order x b == some .gt || FloatKind.f64.format.order x b == some .eq) = false) (c9 : s = true → (FloatKind.f64.format.order (x ^^^ 9223372036854775808) b == some .gt || FloatKind.f64.format.order (x ^^^ 9223372036854775808) b == some .eq) = false) : Pu 53 #[.float .f64 x, .float .f64 y] (.float .f64 x) := by
  intro w
  have n1 := fun w => neg_run x w
  have n2 := fun w => neg_run (x ^^^ 9223372036854775808) w
  rw [flip_back] at n2
  cases s
  · have g := c8 rfl
    clear c8 c9 n1 n2
    go_enter Try.func53, Try.ntmps53
    go_wp2_with fail
    refine (c2.at _).mono ?_; rintro e w1 ⟨rfl, rfl⟩
    go_wp2_with fail
    refine (c3.at _).mono ?_; rintro e w1 ⟨rfl, rfl⟩
    go_wp2_with fail
    refine (c4.at _).mono ?_; rintro e w1 ⟨rfl, rfl⟩
    go_wp2_with fail
    refine (c5.at _).mono ?_; rintro e w1 ⟨rfl, rfl⟩
    go_wp2_with fail
    refine (c6.at _).mono ?_; rintro e w1 ⟨rfl, rfl⟩
    go_wp2_with fail
    refine wp_loop_rounds 1 ?_
    rw [rounds_succ]
    go_wp2_with fail
    go_ret
    exact ⟨rfl, rfl⟩
  · have g := c9 rfl
    clear c8 c9
    generalize x ^^^ 9223372036854775808 = x' at *
    go_enter Try.func53, Try.ntmps53
    go_wp2_with fail
    refine (c2.at _).mono ?_; rintro e w1 ⟨rfl, rfl⟩
    go_wp2_with fail
    refine (c3.at _).mono ?_; rintro e w1 ⟨rfl, rfl⟩
    go_wp2_with fail
    refine (c4.at _).mono ?_; rintro e w1 ⟨rfl, rfl⟩
    go_wp2_with fail
    refine (c5.at _).mono ?_; rintro e w1 ⟨rfl, rfl⟩
    go_wp2_with fail
    refine (c6.at _).mono ?_; rintro e w1 ⟨rfl, rfl⟩
    go_wp2_with fail
    refine wp_loop_rounds 1 ?_
    rw [rounds_succ]
    go_wp2_with fail
    go_ret
    exact ⟨rfl, rfl⟩
def flOf (v : Value) : Nat := match v with
  | .float _ n => n
  | _ => 0
/-- the loop: rounds by what each makes of the rest -/
theorem mod_long (x y b a0 m R : Nat) (e : Int) (s : Bool) (P : Nat → Prop)
    (c1 : (FloatKind.f64.format.order y 0 == some .eq) = false) (c2 : Pu 56 #[.float .f64 x, .int .i64 0] (.bool false)) (c3 : Pu 57 #[.float .f64 x] (.bool false)) (c4 : Pu 57 #[.float .f64 y] (.bool false))
    (c5 : Pu 59 #[.float .f64 y] (.float .f64 b)) (c6 : Pu 60 #[.float .f64 b] (.tuple #[.float .f64 m, .int .i64 e])) (c7 : (FloatKind.f64.format.order x 0 == some .lt) = s)
    (c8 : a0 = if s = true then x ^^^ 9223372036854775808 else x) (hP : P a0)
    (hstop : ∀ r, P r → (FloatKind.f64.format.order r b == some .gt || FloatKind.f64.format.order r b == some .eq) = false → r = R)
    (hgo : ∀ r, P r → (FloatKind.f64.format.order r b == some .gt || FloatKind.f64.format.order r b == some .eq) = true → ∃ (mr z r' : Nat) (er k : Int) (t : Bool), Pu 60 #[.float .f64 r] (.tuple #[.float .f64 mr, .int .i64 er]) ∧ (FloatKind.f64.format.order mr m == some .lt) = t ∧ wrap64 ((if t = true then wrap64 (er - 1) else er) - e) = k ∧ Pu 61 #[.float .f64 b, .int .i64 k] (.float .f64 z) ∧ floatBits .sub .f64 r z = some r' ∧ P r' ∧ r' < r) :
    Pu 53 #[.float .f64 x, .float .f64 y] (.float .f64 (if s = true then R ^^^ 9223372036854775808 else R)) := by
  intro w
  have n1 := fun w => neg_run x w
  have n2 := fun w => neg_run R w
  cases s
  all_goals
    simp only [Bool.false_eq_true, if_false, if_true] at c8 ⊢
    rw [← c8] at n1
    go_enter Try.func53, Try.ntmps53
    go_wp2_with fail
    refine (c2.at _).mono ?_; rintro e w1 ⟨rfl, rfl⟩
    go_wp2_with fail
    refine (c3.at _).mono ?_; rintro e w1 ⟨rfl, rfl⟩
    go_wp2_with fail
    refine (c4.at _).mono ?_; rintro e w1 ⟨rfl, rfl⟩
    go_wp2_with fail
    refine (c5.at _).mono ?_; rintro e w1 ⟨rfl, rfl⟩
    go_wp2_with fail
    refine (c6.at _).mono ?_; rintro e w1 ⟨rfl, rfl⟩
    go_wp2_with fail
    go_loop [7] (fun v => ∃ r : Nat, P r ∧ v = .float .f64 r) (fun v => flOf v)
    case atStart => exact ⟨a0, hP, by first | rfl | rw [c8]⟩
    case round =>
      obtain ⟨r, hr, rfl⟩ := hrel
      cases hc : (FloatKind.f64.format.order r b == some .gt || FloatKind.f64.format.order r b == some .eq)
      · have hR := hstop r hr hc
        subst hR
        clear hstop hgo
        go_wp2_with fail
        go_ret
        exact ⟨rfl, rfl⟩
      · obtain ⟨mr, z, r', er, k, t, f1, f2, f3, f4, f5, f6, f7⟩ := hgo r hr hc
        have hm : ∀ w : World, (binOp .sub 36 (.float .f64 r) (.float .f64 z)).run Try.prog w = .ok (.float .f64 r') w := fun w => run_float_arith (P := Try.prog) w .sub 36 .f64 r z r' f5
        clear hstop hgo f5
        cases t
        · simp only [Bool.false_eq_true, if_false] at f3
          go_wp2_with fail
          refine (f1.at _).mono ?_; rintro e w1 ⟨rfl, rfl⟩
          go_wp2_with fail
          refine (f4.at _).mono ?_; rintro e w1 ⟨rfl, rfl⟩
          go_wp2_with fail
          go_round
          case rel => exact ⟨r', f6, rfl⟩
          case measure => exact f7
        · simp only [if_true] at f3
          go_wp2_with fail
          refine (f1.at _).mono ?_; rintro e w1 ⟨rfl, rfl⟩
          go_wp2_with fail
          refine (f4.at _).mono ?_; rintro e w1 ⟨rfl, rfl⟩
          go_wp2_with fail
          go_round
          case rel => exact ⟨r', f6, rfl⟩
          case measure => exact f7
end Go.Proofs.Yteghlmcafhhkcaa.Ans

/- What the program's Rem (layer 3) answers: the rest, just so, with the first one's sign. Condition: the arguments are words of 64 bits. -/
namespace Go.Proofs.Yteghlmcafhhkcaa.Ans
open Go Go.RowKit Go.Proofs.Yteghlmcafhhkcaa.Ref Go.Proofs.YteghlmcafhhkcaaW.PrintWords Go.Proofs.YteghlmcafhhkcaaW.PrintLast Go.Proofs.YteghlmcafhhkcaaW.PrintMore
open Go.Proofs.Yteghlmcafhhkcaa.Num Go.Proofs.Yteghlmcafhhkcaa.DigLaw Go.Proofs.Yteghlmcafhhkcaa.Fl Go.Proofs.Yteghlmcafhhkcaa.Dig Go.Proofs.Yteghlmcafhhkcaa.Float
open Ieee (double Datum)

attribute [local go_sem] frombits_run bits_run
def badR (x y : Nat) : Bool := decide (rg y = 0 ∨ INF ≤ rg x ∨ INF < rg y)
def remW (x y : Nat) : Nat := if badR x y = true then Dig.NANW else double.word (sg x) (rung (V (rg x) % V (rg y)) (-1074))
theorem mod_rep {a b : Nat} (ha : a < INF) (hb : b < INF) : RepN (V a % V b) := by
  obtain ⟨a1, a2, a3⟩ := jk a
  obtain ⟨b1, b2, b3⟩ := jk b
  rcases Nat.eq_zero_or_pos (V b) with z | z
  · rw [z, Nat.mod_zero]; exact ⟨a, ha, rfl⟩
  · have va := V_jk a
    have vb := V_jk b
    rcases Nat.le_total (kk b) (kk a) with h | h
    · rw [va, vb, pow_split h, ← Nat.mul_assoc, Nat.mul_mod_mul_right]
      have jp : 0 < jj b := by
        rcases Nat.eq_zero_or_pos (jj b) with y | y
        · rw [vb, y, Nat.zero_mul] at z; omega
        · exact y
      exact rep_of _ _ (Nat.lt_trans (Nat.mod_lt _ jp) b2) (kk_lt hb)
    · rw [va, vb, pow_split h, ← Nat.mul_assoc, Nat.mul_mod_mul_right]
      exact rep_of _ _ (Nat.lt_of_le_of_lt (Nat.mod_le _ _) a2) (kk_lt ha)
theorem mod_rep' {a b : Nat} (ha : a < INF) (hb : b ≤ INF) : RepN (V a % V b) := by
  rcases Nat.lt_or_ge b INF with h | h
  · exact mod_rep ha h
  · have e : b = INF := Nat.le_antisymm hb h
    rw [e, Nat.mod_eq_of_lt (V_lt_inf ha)]; exact ⟨a, ha, rfl⟩
theorem remW_facts {x y : Nat} (h : badR x y = false) : sg (remW x y) = sg x ∧ rg (remW x y) < INF ∧ V (rg (remW x y)) = V (rg x) % V (rg y) ∧ remW x y < W ∧ rg x < INF ∧ rg y ≤ INF ∧ rg y ≠ 0 := by
  have hb := of_decide_eq_false (show decide (rg y = 0 ∨ INF ≤ rg x ∨ INF < rg y) = false from h)
  have fx : rg x < INF := by omega
  have fy : rg y ≤ INF := by omega
  obtain ⟨r1, r2⟩ := (mod_rep' fx fy).rung
  obtain ⟨g1, g2, g3⟩ := word_facts (sg x) (Nat.le_of_lt r1)
  unfold remW
  rw [h, if_neg (by simp), g2]
  exact ⟨g1, r1, r2, g3, fx, fy, by omega⟩
theorem remW_bad {x y : Nat} (h : badR x y = true) : remW x y = Dig.NANW := by unfold remW; rw [if_pos h]
theorem remW_lt (x y : Nat) : remW x y < W := by
  cases h : badR x y
  · exact (remW_facts h).2.2.2.1
  · rw [remW_bad h]; exact nanw_facts.2.2.1
theorem sub_words {r z : Nat} (hr : r < INF) (hz : z < INF) (h : V z ≤ V r) : floatBits .sub .f64 r z = some (rung (V r - V z) (-1074)) := by
  show double.sub r z = _
  obtain ⟨r1, r2, _⟩ := pos_word (Nat.le_of_lt hr)
  obtain ⟨z1, z2, _⟩ := pos_word (Nat.le_of_lt hz)
  obtain ⟨p1, p2, _⟩ := flip_facts z
  have e : double.sub r z = double.add r (flipW z) := by
    unfold Ieee.Format.sub Ieee.Format.add
    rw [read_flip]
  have vz : Vi (flipW z) = -(V z : Int) := by
    unfold Vi sn; rw [p1, p2, z1, z2]; simp
  rw [e, add_fin (by rw [r2]; exact hr) (by rw [p2, z2]; exact hz), r1, Bool.false_and, Vi_word (Nat.le_of_lt hr), vz]
  congr 1
  unfold wordI
  have hs : (if (V r : Int) + -(V z : Int) = 0 then false else decide ((V r : Int) + -(V z : Int) < 0)) = false := by
    split
    · rfl
    · exact decide_eq_false (by omega)
  rw [hs, word_false, show ((V r : Int) + -(V z : Int)).natAbs = V r - V z by omega]
theorem ge_false {x b : Nat} (fx : rg x < INF) (hb : b ≤ INF) (h : Vi x < (V b : Int)) : (FloatKind.f64.format.order x b == some .gt || FloatKind.f64.format.order x b == some .eq) = false := by
  show (double.order x b == some .gt || double.order x b == some .eq) = false
  rw [order_eq (Nat.le_of_lt fx) (by rw [(pos_word hb).2.1]; exact hb), s_gt, s_eq, Vi_word hb, decide_eq_false (by omega), decide_eq_false (by omega)]; rfl
theorem ge_words {r b : Nat} (hr : r < INF) (hb : b < INF) : (FloatKind.f64.format.order r b == some .gt || FloatKind.f64.format.order r b == some .eq) = decide (b ≤ r) := by
  rw [o_gt (Nat.le_of_lt hr) (Nat.le_of_lt hb), o_eq (Nat.le_of_lt hr) (Nat.le_of_lt hb), ← Bool.decide_or]
  apply decide_eq_decide.2; omega
theorem lt_zero {x : Nat} (fx : rg x < INF) : (FloatKind.f64.format.order x 0 == some .lt) = (sg x && decide (rg x ≠ 0)) := by
  show (double.order x 0 == some .lt) = _
  rw [order_eq (Nat.le_of_lt fx) (by rw [(pos_word (Nat.zero_le INF)).2.1]; exact Nat.zero_le _), s_lt]
  have v0 : Vi 0 = 0 := by rw [Vi_word (Nat.zero_le INF), V_small (by decide)]; rfl
  rw [v0]
  have hv : V (rg x) = 0 ↔ rg x = 0 := V_eq_zero
  unfold Vi sn
  cases sg x
  · rw [if_neg (by simp), decide_eq_false (by omega)]; rfl
  · rw [if_pos rfl, Bool.true_and]
    apply decide_eq_decide.2; omega
theorem eq_zero {y : Nat} (fy : rg y ≤ INF) (zy : rg y ≠ 0) : (FloatKind.f64.format.order y 0 == some .eq) = false := by
  show (double.order y 0 == some .eq) = _
  rw [order_eq fy (by rw [(pos_word (Nat.zero_le INF)).2.1]; exact Nat.zero_le _), s_eq]
  have v0 : Vi 0 = 0 := by rw [Vi_word (Nat.zero_le INF), V_small (by decide)]; rfl
  rw [v0]
  have hv : V (rg y) ≠ 0 := fun x => zy (V_eq_zero.1 x)
  apply decide_eq_false
  unfold Vi sn
  cases sg y
  · rw [if_neg (by simp)]; omega
  · rw [if_pos rfl]; omega
theorem word_self {x : Nat} (hx : x < W) : double.word (sg x) (rg x) = x := by rw [word_eq]; exact (word_split x hx).symm
/-- one round -/
theorem mod_round {b r : Nat} (b0 : b ≠ 0) (fb : b < INF) (hr : r < INF) (hbr : b ≤ r) : ∃ (mr z r' : Nat) (er k : Int) (t : Bool), Pu 60 #[.float .f64 r] (.tuple #[.float .f64 mr, .int .i64 er]) ∧ (FloatKind.f64.format.order mr (1022 * 4503599627370496 + (mm b - 4503599627370496)) == some .lt) = t ∧ wrap64 ((if t = true then wrap64 (er - 1) else er) - (((xx b : Nat) : Int) - 1073)) = k ∧ Pu 61 #[.float .f64 b, .int .i64 k] (.float .f64 z) ∧ floatBits .sub .f64 r z = some r' ∧ (r' < INF ∧ V r' % V b = V r % V b) ∧ r' < r := by
  have r0 : r ≠ 0 := by omega
  obtain ⟨d1, d2, d3⟩ := dbl_facts r0 hr b0 fb hbr
  have hrep := dbl_rep hr d2
  obtain ⟨z1, z2⟩ := hrep.rung
  obtain ⟨q1, q2⟩ := (sub_rep (r := r) z1 (by rw [z2]; exact d2) (by rw [z2]; exact d3)).rung
  have hl := pu_Ldexp b (dbl r b) b0 fb (Nat.lt_of_le_of_lt d2 (V_lt_inf hr))
  have hb0 : 0 < V b := Nat.pos_of_ne_zero fun x => b0 (V_eq_zero.1 x)
  have hpos : 0 < V b * 2 ^ dbl r b := Nat.mul_pos hb0 (Nat.two_pow_pos _)
  refine ⟨_, rung (V b * 2 ^ dbl r b) (-1074), rung (V r - V (rung (V b * 2 ^ dbl r b) (-1074))) (-1074), _, ((dbl r b : Nat) : Int), decide (mm r < mm b), pu_Frexp r r0 hr, ?_, ?_, hl, sub_words hr z1 (by rw [z2]; exact d2), ⟨q1, ?_⟩, ?_⟩
  · obtain ⟨m1, m2, _, _, _, _⟩ := mm_facts r0 hr
    obtain ⟨n1, n2, _, _, _, _⟩ := mm_facts b0 fb
    have hI := cINF
    rw [c52] at m1 n1
    rw [show (2 : Nat) ^ 53 = 9007199254740992 from by decide] at m2 n2
    clear hpos d2 d3 q1 q2 z1 z2 hl hrep
    rw [o_lt (by omega) (by omega)]
    apply decide_eq_decide.2; omega
  · obtain ⟨_, _, _, m4, m5, _⟩ := mm_facts r0 hr
    obtain ⟨_, _, _, n4, n5, _⟩ := mm_facts b0 fb
    have hx : xx r ≤ 2097 := by unfold xx; omega
    have hy : xx b ≤ 2097 := by unfold xx; omega
    clear hpos d2 d3 q1 q2 z1 z2 hl hrep
    have hd : dbl r b = xx r - xx b - (if mm r < mm b then 1 else 0) := rfl
    by_cases c : mm r < mm b
    · rw [decide_eq_true c, if_pos rfl]
      rw [if_pos c] at d1 hd
      rw [i64in (n := _ - 1) (by omega) (by omega), i64in (by omega) (by omega)]; omega
    · rw [decide_eq_false c, if_neg (by simp)]
      rw [if_neg c] at d1 hd
      rw [i64in (by omega) (by omega)]; omega
  · rw [q2, z2]
    exact Nat.sub_mul_mod d2
  · have h1 : V (rung (V r - V (rung (V b * 2 ^ dbl r b) (-1074))) (-1074)) < V r := by rw [q2, z2]; omega
    apply Nat.lt_of_not_le
    intro c
    have := V_mono c
    omega
theorem pu_mod (x y : Nat) (hx : x < W) (hy : y < W) (h : badR x y = false) : Pu 53 #[.float .f64 x, .float .f64 y] (.float .f64 (remW x y)) := by
  obtain ⟨_, _, _, _, fx, fy, zy⟩ := remW_facts h
  have c1 := eq_zero fy zy
  have c2 := pu_IsInf x hx
  rw [decide_eq_false (Nat.ne_of_lt fx)] at c2
  have c3 := pu_IsNaN x
  rw [decide_eq_false (Nat.lt_asymm fx)] at c3
  have c4 := pu_IsNaN y
  rw [decide_eq_false (Nat.not_lt.2 fy)] at c4
  have c5 := pu_Abs y hy
  have c7 := lt_zero fx
  have er : remW x y = double.word (sg x) (rung (V (rg x) % V (rg y)) (-1074)) := by unfold remW; rw [h, if_neg (by simp)]
  have vb : 0 < V (rg y) := Nat.pos_of_ne_zero fun z => zy (V_eq_zero.1 z)
  obtain ⟨p1, p2, p3⟩ := flip_facts x
  by_cases c : rg x = 0 ∨ rg y = INF
  · have e : remW x y = x := by
      rw [er]
      have : rung (V (rg x) % V (rg y)) (-1074) = rg x := by
        rcases c with c | c
        · rw [c, V_small (by decide), Nat.zero_mod, rung_zero]
        · rw [c, Nat.mod_eq_of_lt (V_lt_inf fx), rung_V _ (Nat.le_of_lt fx)]
      rw [this]; exact word_self hx
    have hlt : V (rg x) < V (rg y) := by
      rcases c with c | c
      · rw [c, V_small (by decide)]; exact vb
      · rw [c]; exact V_lt_inf fx
    have b1 := sn_abs (sg x) (V (rg x))
    have b2 := sn_abs (!sg x) (V (rg x))
    rw [e]
    have c8 : (FloatKind.f64.format.order x (rg y) == some .gt || FloatKind.f64.format.order x (rg y) == some .eq) = false := ge_false fx fy (by unfold Vi; omega)
    have c9 : (FloatKind.f64.format.order (x ^^^ 9223372036854775808) (rg y) == some .gt || FloatKind.f64.format.order (x ^^^ 9223372036854775808) (rg y) == some .eq) = false := by
      rw [flip_nat x hx]
      exact ge_false (by rw [p2]; exact fx) fy (by unfold Vi; rw [p1, p2]; omega)
    rcases Nat.lt_or_ge (rg y) INF with fb | fb
    · exact mod_short x y (rg y) _ _ _ c1 c2 c3 c4 c5 (pu_Frexp (rg y) zy fb) c7 (fun _ => c8) (fun _ => c9)
    · have eb : rg y = INF := Nat.le_antisymm fy fb
      rw [eb] at c5 c8 c9
      exact mod_short x y INF INF 0 _ c1 c2 c3 c4 c5 pu_Frexp_inf c7 (fun _ => c8) (fun _ => c9)
  · have zx : rg x ≠ 0 := fun z => c (Or.inl z)
    have fb : rg y < INF := Nat.lt_of_le_of_ne fy (fun z => c (Or.inr z))
    rw [decide_eq_true zx, Bool.and_true] at c7
    have ea : rg x = if sg x = true then x ^^^ 9223372036854775808 else x := by
      have hw := word_split x hx
      cases hs : sg x
      · rw [if_neg (by simp)]; rw [hs] at hw; rw [show sgn false = 0 from rfl, Nat.zero_add] at hw; exact hw.symm
      · rw [if_pos rfl, flip_nat x hx]
        unfold flipW; rw [hs]; show rg x = sgn false + rg x; rw [show sgn false = 0 from rfl, Nat.zero_add]
    have hm := mod_long x y (rg y) (rg x) _ (rung (V (rg x) % V (rg y)) (-1074)) _ (sg x) (fun r => r < INF ∧ V r % V (rg y) = V (rg x) % V (rg y)) c1 c2 c3 c4 c5 (pu_Frexp (rg y) zy fb) c7 ea ⟨fx, rfl⟩
      (fun r hr ho => by
        rw [ge_words hr.1 fb] at ho
        have hlt := of_decide_eq_false ho
        rw [← hr.2, Nat.mod_eq_of_lt (V_strict (by omega)), rung_V _ (Nat.le_of_lt hr.1)])
      (fun r hr ho => by
        rw [ge_words hr.1 fb] at ho
        obtain ⟨mr, z, r', er, k, t, f1, f2, f3, f4, f5, f6, f7⟩ := mod_round zy fb hr.1 (of_decide_eq_true ho)
        exact ⟨mr, z, r', er, k, t, f1, f2, f3, f4, f5, ⟨f6.1, f6.2.trans hr.2⟩, f7⟩)
    have e2 : remW x y = if sg x = true then rung (V (rg x) % V (rg y)) (-1074) ^^^ 9223372036854775808 else rung (V (rg x) % V (rg y)) (-1074) := by
      rw [er]
      have hi := rung_le_inf (V (rg x) % V (rg y)) (-1074)
      cases sg x
      · rw [if_neg (by simp), word_false]
      · rw [if_pos rfl, xor_top _ (by have := cINF; omega), word_true, c63]
    rw [e2]; exact hm
theorem pu_Mod (x y : Nat) (hx : x < W) (hy : y < W) : ∃ v, Pu 38 #[.float .f64 x, .float .f64 y] (.float .f64 v) ∧ canonW v = remW x y := by
  have key : ∀ v, Pu 53 #[.float .f64 x, .float .f64 y] (.float .f64 v) → Pu 38 #[.float .f64 x, .float .f64 y] (.float .f64 v) := by
    intro v h w
    go_enter Try.func38, Try.ntmps38
    go_wp2_with fail
    refine (h.at _).mono ?_; rintro e w1 ⟨rfl, rfl⟩
    go_wp2_with fail
    go_ret
    exact ⟨rfl, rfl⟩
  cases h : badR x y
  · exact ⟨_, key _ (pu_mod x y hx hy h), canon_num (Nat.le_of_lt (remW_facts h).2.1)⟩
  · have hb := of_decide_eq_true (show decide (rg y = 0 ∨ INF ≤ rg x ∨ INF < rg y) = true from h)
    refine ⟨_, key _ (mod_nan x y hx hb), ?_⟩
    rw [remW_bad h]
    exact canon_nan (by rw [cINF]; decide)
theorem ans_Rem (a b : Nat) (ha : a < W) (hb : b < W) : Ans 17 #[.int .u64 a, .int .u64 b] (.int .u64 (remW a b)) := by
  intro w
  have oa := ans_of a
  have ob := ans_of b
  obtain ⟨v, hv, hc⟩ := pu_Mod a b ha hb
  have t := ans_told v
  rw [hc] at t
  clear hc ha hb
  go_enter Try.func17, Try.ntmps17
  go_wp2_with fail
  refine (oa.at _).mono ?_; rintro e w1 ⟨rfl, hb1⟩
  go_wp2_with fail
  refine (ob.at _).mono ?_; rintro e w2 ⟨rfl, hb2⟩
  go_wp2_with fail
  refine (hv.at _).mono ?_; rintro e w3 ⟨rfl, rfl⟩
  go_wp2_with fail
  refine (t.at _).mono ?_; rintro e w3 ⟨rfl, hb3⟩
  go_wp2_with fail
  go_ret
  exact ⟨rfl, bthen hb1 (bthen hb2 hb3)⟩
end Go.Proofs.Yteghlmcafhhkcaa.Ans

/- Plain law of rests: a rest of a rest; what is less stays; signs; quotients by one, by itself, and of the negative. Condition: the arguments are words of 64 bits. -/
namespace Go.Proofs.Yteghlmcafhhkcaa.Ans
open Go Go.RowKit Go.Proofs.Yteghlmcafhhkcaa.Ref Go.Proofs.YteghlmcafhhkcaaW.PrintWords Go.Proofs.YteghlmcafhhkcaaW.PrintLast Go.Proofs.YteghlmcafhhkcaaW.PrintMore
open Go.Proofs.Yteghlmcafhhkcaa.Num Go.Proofs.Yteghlmcafhhkcaa.DigLaw Go.Proofs.Yteghlmcafhhkcaa.Fl Go.Proofs.Yteghlmcafhhkcaa.Dig Go.Proofs.Yteghlmcafhhkcaa.Float
open Ieee (double Datum)

theorem abs_word (c : Nat) : rg (rg c) = rg c ∧ sg (rg c) = false ∧ rg c < W := by
  have h := sg_word false (rg c) (rg_lt c)
  rw [show sgn false = 0 from rfl, Nat.zero_add] at h
  exact ⟨h.2.1, h.1, h.2.2⟩
theorem less_abs (x y : Nat) : lessB (rg x) (rg y) = decide (rg x < rg y ∧ rg y ≤ INF) := by
  obtain ⟨p1, p2, _⟩ := abs_word x
  obtain ⟨q1, q2, _⟩ := abs_word y
  unfold lessB Vi
  rw [p1, p2, q1, q2]
  apply decide_eq_decide.2
  have := V_le_iff (a := rg y) (b := rg x)
  unfold sn
  rw [if_neg (by simp), if_neg (by simp)]
  omega
theorem remW_num {x y : Nat} (h : badR x y = false) : kindN (remW x y) ≠ 4 := by
  intro e
  have := (nan_kind _).1 e
  have := (remW_facts h).2.1
  omega
theorem badR_nan (y : Nat) : badR Dig.NANW y = true := by
  unfold badR
  have := nanw_nan
  exact decide_eq_true (by omega)
theorem rem_same {x y : Nat} (hx : x < W) (h : badR x y = false) (hlt : V (rg x) < V (rg y)) : remW x y = x := by
  obtain ⟨_, _, _, _, fx, _, _⟩ := remW_facts h
  unfold remW
  rw [h, if_neg (by simp), Nat.mod_eq_of_lt hlt, rung_V _ (Nat.le_of_lt fx)]
  exact word_self hx
theorem V_pos' {y : Nat} (h : rg y ≠ 0) : 0 < V (rg y) := Nat.pos_of_ne_zero fun z => h (V_eq_zero.1 z)
theorem rem_twice {x y : Nat} (h : badR x y = false) : badR (remW x y) y = false ∧ remW (remW x y) y = remW x y := by
  obtain ⟨r1, r2, r3, r4, fx, fy, zy⟩ := remW_facts h
  have hb : badR (remW x y) y = false := decide_eq_false (by omega)
  exact ⟨hb, rem_same r4 hb (by rw [r3]; exact Nat.mod_lt _ (V_pos' zy))⟩
theorem rem_less {x y : Nat} (h : badR x y = false) : rg (remW x y) < rg y := by
  obtain ⟨r1, r2, r3, r4, fx, fy, zy⟩ := remW_facts h
  have := Nat.mod_lt (V (rg x)) (V_pos' zy)
  rw [← r3] at this
  apply Nat.lt_of_not_le
  intro c
  have := V_mono c
  omega
end Go.Proofs.Yteghlmcafhhkcaa.Ans

/- What the program's Mod (layer 3) answers: the rest with the sign of what was divided by. Condition: the arguments are words of 64 bits. -/
namespace Go.Proofs.Yteghlmcafhhkcaa.Ans
open Go Go.RowKit Go.Proofs.Yteghlmcafhhkcaa.Ref Go.Proofs.YteghlmcafhhkcaaW.PrintWords Go.Proofs.YteghlmcafhhkcaaW.PrintLast Go.Proofs.YteghlmcafhhkcaaW.PrintMore
open Go.Proofs.Yteghlmcafhhkcaa.Num Go.Proofs.Yteghlmcafhhkcaa.DigLaw Go.Proofs.Yteghlmcafhhkcaa.Fl Go.Proofs.Yteghlmcafhhkcaa.Dig Go.Proofs.Yteghlmcafhhkcaa.Float
open Ieee (double Datum)

attribute [local go_sem] frombits_run bits_run
def modW (a b : Nat) : Nat := if badR a b = true then Dig.NANW else if rg (remW a b) = 0 then sgn (sg b) else if sg (remW a b) = sg b then remW a b else addW (remW a b) b
/-- bit 63 alone -/
theorem and_top (y : Nat) (hy : y < W) : Go.bits .and .u64 (y : Int) 9223372036854775808 = ((sgn (sg y) : Nat) : Int) := by
  have hy' : y < 18446744073709551616 := hy
  rw [show (9223372036854775808 : Int) = ((9223372036854775808 : Nat) : Int) from rfl, and_nat _ _ hy' (by decide)]
  congr 1
  have e63 : (9223372036854775808 : Nat) = 2 ^ 63 := c63.symm
  unfold sgn S63 sg
  rw [e63]
  apply Nat.eq_of_testBit_eq
  intro i
  rw [Nat.testBit_and, Nat.testBit_two_pow]
  have ht : y.testBit 63 = (y / 2 ^ 63 % 2 == 1) := by
    rw [Nat.testBit_eq_decide_div_mod_eq]
    by_cases h : y / 2 ^ 63 % 2 = 1
    · rw [decide_eq_true h, beq_iff_eq.2 h]
    · rw [decide_eq_false h, beq_eq_false_iff_ne.2 h]
  by_cases c : 63 = i
  · subst c
    rw [decide_eq_true rfl, Bool.and_true, ht]
    cases hb : (y / 2 ^ 63 % 2 == 1)
    · rw [if_neg (by simp), Nat.zero_testBit]
    · rw [if_pos rfl, Nat.testBit_two_pow_self]
  · rw [decide_eq_false c, Bool.and_false]
    cases (y / 2 ^ 63 % 2 == 1)
    · rw [if_neg (by simp), Nat.zero_testBit]
    · rw [if_pos rfl, Nat.testBit_two_pow_of_ne c]
theorem pu_Copysign (y : Nat) (hy : y < W) : Pu 39 #[.float .f64 0, .float .f64 y] (.float .f64 (sgn (sg y))) := by
  intro w
  have h1 : Go.bits .andNot .u64 0 9223372036854775808 = 0 := by
    have := andNot_go 0 (by decide)
    exact this
  have h2 := and_top y hy
  have h3 : Go.bits .or .u64 0 ((sgn (sg y) : Nat) : Int) = ((sgn (sg y) : Nat) : Int) := by
    have hs : sgn (sg y) < 18446744073709551616 := by unfold sgn S63; split <;> decide
    have := or_nat 0 (sgn (sg y)) (by decide) hs
    rw [Nat.zero_or] at this
    exact this
  generalize sgn (sg y) = s at *
  go_enter Try.func39, Try.ntmps39
  go_wp2
  go_ret
  exact ⟨by first | rfl | (simp [h1, h2, h3]; done), rfl⟩
/-- the walk, over what it meets -/
theorem mod_walk (a b r v : Nat) (n z c d : Bool) (res : Nat) (hb : b < W) (hr : Pu 38 #[.float .f64 a, .float .f64 b] (.float .f64 r))
    (h1 : (FloatKind.f64.format.order r r != some .eq) = n) (h2 : (FloatKind.f64.format.order r 0 == some .eq) = z) (h3 : (FloatKind.f64.format.order r 0 == some .lt) = c) (h4 : (FloatKind.f64.format.order b 0 == some .lt) = d)
    (hm : n = false → z = false → c ≠ d → ∀ w : World, (binOp .add 36 (.float .f64 r) (.float .f64 b)).run Try.prog w = .ok (.float .f64 v) w)
    (hres : canonW (if n = true then r else if z = true then sgn (sg b) else if c ≠ d then v else r) = res) : Ans 18 #[.int .u64 a, .int .u64 b] (.int .u64 res) := by
  intro w
  have oa := ans_of a
  have ob := ans_of b
  have t1 := ans_told r
  have t2 := ans_told (sgn (sg b))
  have t3 := ans_told v
  have cp := pu_Copysign b hb
  cases n
  · cases z
    · by_cases e : c = d
      · rw [if_neg (by simp), if_neg (by simp), if_neg (fun x => x e)] at hres
        rw [hres] at t1
        subst e
        clear hm t2 t3 cp hb hres
        cases c
        all_goals
          go_enter Try.func18, Try.ntmps18
          go_wp2_with fail
          refine (oa.at _).mono ?_; rintro e w1 ⟨rfl, hb1⟩
          go_wp2_with fail
          refine (ob.at _).mono ?_; rintro e w2 ⟨rfl, hb2⟩
          go_wp2_with fail
          refine (hr.at _).mono ?_; rintro e w3 ⟨rfl, rfl⟩
          go_wp2_with fail
          refine (t1.at _).mono ?_; rintro e w3 ⟨rfl, hb3⟩
          go_wp2_with fail
          go_ret
          exact ⟨rfl, bthen hb1 (bthen hb2 hb3)⟩
      · rw [if_neg (by simp), if_neg (by simp), if_pos e] at hres
        rw [hres] at t3
        have hm' := hm rfl rfl e
        clear hm t2 t1 cp hb hres
        cases c
        · cases d
          · exact absurd rfl e
          · clear e
            go_enter Try.func18, Try.ntmps18
            go_wp2_with fail
            refine (oa.at _).mono ?_; rintro e w1 ⟨rfl, hb1⟩
            go_wp2_with fail
            refine (ob.at _).mono ?_; rintro e w2 ⟨rfl, hb2⟩
            go_wp2_with fail
            refine (hr.at _).mono ?_; rintro e w3 ⟨rfl, rfl⟩
            go_wp2_with fail
            refine (t3.at _).mono ?_; rintro e w3 ⟨rfl, hb3⟩
            go_wp2_with fail
            go_ret
            exact ⟨rfl, bthen hb1 (bthen hb2 hb3)⟩
        · cases d
          · clear e
            go_enter Try.func18, Try.ntmps18
            go_wp2_with fail
            refine (oa.at _).mono ?_; rintro e w1 ⟨rfl, hb1⟩
            go_wp2_with fail
            refine (ob.at _).mono ?_; rintro e w2 ⟨rfl, hb2⟩
            go_wp2_with fail
            refine (hr.at _).mono ?_; rintro e w3 ⟨rfl, rfl⟩
            go_wp2_with fail
            refine (t3.at _).mono ?_; rintro e w3 ⟨rfl, hb3⟩
            go_wp2_with fail
            go_ret
            exact ⟨rfl, bthen hb1 (bthen hb2 hb3)⟩
          · exact absurd rfl e
    · rw [if_neg (by simp), if_pos rfl] at hres
      rw [hres] at t2
      clear hm t1 t3 hb hres
      go_enter Try.func18, Try.ntmps18
      go_wp2_with fail
      refine (oa.at _).mono ?_; rintro e w1 ⟨rfl, hb1⟩
      go_wp2_with fail
      refine (ob.at _).mono ?_; rintro e w2 ⟨rfl, hb2⟩
      go_wp2_with fail
      refine (hr.at _).mono ?_; rintro e w3 ⟨rfl, rfl⟩
      go_wp2_with fail
      refine (cp.at _).mono ?_; rintro e w3 ⟨rfl, rfl⟩
      go_wp2_with fail
      refine (t2.at _).mono ?_; rintro e w3 ⟨rfl, hb3⟩
      go_wp2_with fail
      go_ret
      exact ⟨rfl, bthen hb1 (bthen hb2 hb3)⟩
  · rw [if_pos rfl] at hres
    rw [hres] at t1
    clear hm t2 t3 cp hb hres
    go_enter Try.func18, Try.ntmps18
    go_wp2_with fail
    refine (oa.at _).mono ?_; rintro e w1 ⟨rfl, hb1⟩
    go_wp2_with fail
    refine (ob.at _).mono ?_; rintro e w2 ⟨rfl, hb2⟩
    go_wp2_with fail
    refine (hr.at _).mono ?_; rintro e w3 ⟨rfl, rfl⟩
    go_wp2_with fail
    refine (t1.at _).mono ?_; rintro e w3 ⟨rfl, hb3⟩
    go_wp2_with fail
    go_ret
    exact ⟨rfl, bthen hb1 (bthen hb2 hb3)⟩
theorem lt_zero' {x : Nat} (fx : rg x ≤ INF) : (FloatKind.f64.format.order x 0 == some .lt) = (sg x && decide (rg x ≠ 0)) := by
  show (double.order x 0 == some .lt) = _
  rw [order_eq fx (by rw [(pos_word (Nat.zero_le INF)).2.1]; exact Nat.zero_le _), s_lt]
  have v0 : Vi 0 = 0 := by rw [Vi_word (Nat.zero_le INF), V_small (by decide)]; rfl
  rw [v0]
  have hv : V (rg x) = 0 ↔ rg x = 0 := V_eq_zero
  unfold Vi sn
  cases sg x
  · rw [if_neg (by simp), decide_eq_false (by omega)]; rfl
  · rw [if_pos rfl, Bool.true_and]
    apply decide_eq_decide.2; omega
theorem eq_zero' {y : Nat} (fy : rg y ≤ INF) : (FloatKind.f64.format.order y 0 == some .eq) = decide (rg y = 0) := by
  by_cases z : rg y = 0
  · show (double.order y 0 == some .eq) = _
    rw [order_eq fy (by rw [(pos_word (Nat.zero_le INF)).2.1]; exact Nat.zero_le _), s_eq, decide_eq_true z]
    have v0 : Vi 0 = 0 := by rw [Vi_word (Nat.zero_le INF), V_small (by decide)]; rfl
    rw [v0]
    apply decide_eq_true
    unfold Vi sn; rw [z, V_small (by decide)]; cases sg y <;> rfl
  · rw [eq_zero fy z, decide_eq_false z]
theorem ne_self (r : Nat) : (FloatKind.f64.format.order r r != some .eq) = decide (INF < rg r) := by
  have h := neq_run r
  rw [isNaN_eq] at h; exact h
/-- a rest and what it was divided by, of unlike signs: their sum has its sign -/
theorem add_rest {a b : Nat} (h : badR a b = false) (hz : rg (remW a b) ≠ 0) (hs : sg (remW a b) ≠ sg b) : ∃ v, double.add (remW a b) b = some v ∧ rg v ≤ INF ∧ sg v = sg b ∧ v < W := by
  obtain ⟨r1, r2, r3, r4, fx, fy, zy⟩ := remW_facts h
  have hl := rem_less h
  have hV := V_strict hl
  have hp := V_pos' hz
  rcases Nat.lt_or_ge (rg b) INF with f | f
  · refine ⟨_, add_fin r2 f, ?_, ?_, ?_⟩
    · exact wordI_ok _ _
    · unfold wordI
      obtain ⟨g1, _, _⟩ := word_facts (if Vi (remW a b) + Vi b = 0 then sg (remW a b) && sg b else decide (Vi (remW a b) + Vi b < 0)) (rung_le_inf (Vi (remW a b) + Vi b).natAbs (-1074))
      rw [g1]
      cases hb : sg b
      · rw [hb] at hs
        have hs' : sg (remW a b) = true := by
          cases hh : sg (remW a b)
          · exact absurd hh hs
          · rfl
        rw [Vi_neg' hs', Vi_pos hb, if_neg (by omega), decide_eq_false (by omega)]
      · rw [hb] at hs
        have hs' : sg (remW a b) = false := by
          cases hh : sg (remW a b)
          · rfl
          · exact absurd hh hs
        rw [Vi_pos hs', Vi_neg' hb, if_neg (by omega), decide_eq_true (by omega)]
    · unfold wordI
      exact (word_facts _ (rung_le_inf _ _)).2.2
  · have e : rg b = INF := Nat.le_antisymm fy f
    obtain ⟨g1, g2, g3⟩ := word_facts (sg b) (Nat.le_refl INF)
    exact ⟨_, add_fi r2 e, by rw [g2]; exact Nat.le_refl _, g1, g3⟩
theorem modW_facts {a b : Nat} (h : badR a b = false) : rg (modW a b) ≤ INF ∧ sg (modW a b) = sg b ∧ modW a b < W := by
  obtain ⟨r1, r2, r3, r4, fx, fy, zy⟩ := remW_facts h
  unfold modW
  rw [h, if_neg (by simp)]
  by_cases z : rg (remW a b) = 0
  · rw [if_pos z]
    have := word_facts (sg b) (Nat.zero_le INF)
    rw [word_eq, Nat.add_zero] at this
    exact ⟨by rw [this.2.1]; exact Nat.zero_le _, this.1, this.2.2⟩
  · rw [if_neg z]
    by_cases s : sg (remW a b) = sg b
    · rw [if_pos s]; exact ⟨Nat.le_of_lt r2, s, r4⟩
    · rw [if_neg s]
      obtain ⟨v, e1, e2, e3, e4⟩ := add_rest h z s
      unfold addW; rw [e1, Option.getD_some]; exact ⟨e2, e3, e4⟩
theorem ans_Mod (a b : Nat) (ha : a < W) (hb : b < W) : Ans 18 #[.int .u64 a, .int .u64 b] (.int .u64 (modW a b)) := by
  obtain ⟨v, hv, hc⟩ := pu_Mod a b ha hb
  cases h : badR a b
  · obtain ⟨r1, r2, r3, r4, fx, fy, zy⟩ := remW_facts h
    have hnan : ¬ INF < rg v := by
      intro x
      rw [canon_nan x] at hc
      rw [← hc] at r2
      have := nanw_nan
      have e : Float.NANW = Dig.NANW := rfl
      rw [e] at r2; omega
    have ev : v = remW a b := by rw [canon_num (Nat.le_of_not_lt hnan)] at hc; exact hc
    rw [ev] at hv
    have h2 := eq_zero' (Nat.le_of_lt r2)
    have h3 := lt_zero' (Nat.le_of_lt r2)
    have h4 := lt_zero' fy
    have h1 := ne_self (remW a b)
    rw [decide_eq_false (by omega)] at h1
    rw [decide_eq_true zy, Bool.and_true] at h4
    refine mod_walk a b (remW a b) (modW a b) _ _ _ _ (modW a b) hb hv h1 h2 h3 h4 (fun _ z c w => ?_) ?_
    · have zn := of_decide_eq_false z
      rw [decide_eq_true zn, Bool.and_true] at c
      obtain ⟨u, e1, _, _, _⟩ := add_rest h zn c
      have em : modW a b = u := by
        unfold modW; rw [h, if_neg (by simp), if_neg zn, if_neg c]
        unfold addW; rw [e1]; rfl
      rw [em]
      exact run_float_arith (P := Try.prog) w .add 36 .f64 _ _ _ e1
    · have hm := modW_facts h
      rw [if_neg (by simp)]
      by_cases z : rg (remW a b) = 0
      · rw [if_pos (decide_eq_true z)]
        have e : modW a b = sgn (sg b) := by unfold modW; rw [h, if_neg (by simp), if_pos z]
        rw [← e]; exact canon_num hm.1
      · rw [if_neg (by rw [decide_eq_false z]; simp), decide_eq_true z, Bool.and_true]
        by_cases s : sg (remW a b) = sg b
        · rw [if_neg (fun x => x s)]
          have e : modW a b = remW a b := by unfold modW; rw [h, if_neg (by simp), if_neg z, if_pos s]
          rw [e]; exact canon_num (Nat.le_of_lt r2)
        · rw [if_pos s]; exact canon_num hm.1
  · have e : modW a b = Dig.NANW := by unfold modW; rw [if_pos h]
    rw [remW_bad h] at hc
    have hnan : INF < rg v := by
      apply Nat.lt_of_not_le
      intro x
      rw [canon_num x] at hc
      rw [hc] at x
      have := nanw_nan
      omega
    have h1 := ne_self v
    rw [decide_eq_true hnan] at h1
    rw [e]
    exact mod_walk a b v 0 true _ _ _ _ hb hv h1 rfl rfl rfl (fun x => by cases x) (by rw [if_pos rfl]; exact canon_nan hnan)
end Go.Proofs.Yteghlmcafhhkcaa.Ans
