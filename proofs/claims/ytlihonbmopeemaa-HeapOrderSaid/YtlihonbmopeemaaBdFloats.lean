/- Texts on Floats, joined. No conditions but those that each theorem states. -/
import Derived.Test.YtlihonbmopeemaaProg
import Derived.WalkKit
import Derived.KernelRfl
import Derived.Laws.Externs
import Derived.Laws.Cover2
import Derived.Laws.FloatArith
import Derived.Laws.NewFold
import Derived.Test.YtlihonbmopeemaaBdPlain
import Derived.Test.YtlihonbmopeemaaBdRefs
section
namespace Go.Proofs.Ytlihonbmopeemaa.Float
open Go Go.RowKit Go.Proofs.Ytlihonbmopeemaa.Fl

def D : Ieee.Format := Ieee.double
def isNaN (a : Nat) : Bool := D.order a a != some .eq
def NANW : Nat := 9221120237041090560
def canonW (a : Nat) : Nat := if isNaN a then NANW else a

theorem frombits_run (n : Int) (w : World) : (callFunc 90 #[.int .u64 n]).run Try.prog w = .ok (.value (.float .f64 n.toNat)) w := by
  rw [run_callFunc_extern (fn := Try.f90) (e := Extern.MathFloatBits.float64frombits) Try.func90 (by kernel_rfl) (by kernel_rfl) (by kernel_rfl) (by kernel_rfl)]
  rfl
theorem bits_run (n : Nat) (w : World) : (callFunc 101 #[.float .f64 n]).run Try.prog w = .ok (.value (.int .u64 n)) w := (run_callFunc_extern (fn := Try.f101) (e := Extern.MathFloatBits.float64bits) Try.func101 (by kernel_rfl) (by kernel_rfl) (by kernel_rfl) (by kernel_rfl) #[.float .f64 n] w).trans rfl
attribute [local go_sem] frombits_run

theorem canon_any (a : Nat) (w : World) : Calls Try.prog 89 #[.int .u64 a] w fun e w' => e = .returned (.int .u64 (canonW a)) ∧ w = w' := by
  by_cases h : isNaN a = true
  · have h1 : (FloatKind.f64.format.order a a != some .eq) = true := h
    have e1 : canonW a = NANW := by unfold canonW; rw [if_pos h]
    rw [e1]
    clear h e1
    go_enter Try.func89, Try.ntmps89
    go_wp2
    go_ret
    exact ⟨rfl, rfl⟩
  · have h1 : (FloatKind.f64.format.order a a != some .eq) = false := Bool.eq_false_iff.2 h
    have e1 : canonW a = a := by unfold canonW; rw [if_neg h]
    rw [e1]
    clear h e1
    go_enter Try.func89, Try.ntmps89
    go_wp2
    go_ret
    exact ⟨rfl, rfl⟩
theorem Canon_any (a : Nat) (w : World) : Calls Try.prog 72 #[.int .u64 a] w fun e w' => e = .returned (.int .u64 (canonW a)) ∧ w = w' := by
  go_enter Try.func72, Try.ntmps72
  go_wp2_with (go_at_call 89; refine (canon_any _ _).mono ?_; rintro e w' ⟨rfl, rfl⟩)
  go_ret
  exact ⟨rfl, rfl⟩
theorem arith_none (op : BinOp) (t : TypeId) (a b : Nat) (ho : op = .add ∨ op = .sub ∨ op = .mul ∨ op = .quo) (h : floatBits op .f64 a b = none) (w : World) :
    (binOp op t (.float .f64 a) (.float .f64 b)).run Try.prog w = .ok (.float .f64 ((Question.nanBits .f64 a b).cut (w.tape w.drawn (Question.nanBits .f64 a b)))) w.drew := by
  unfold floatBits at h
  rcases ho with rfl | rfl | rfl | rfl <;> simp only at h <;> simp [binOp, Op.floatArith, h, Question.forced]
def drawnNaN (a b : Nat) (w : World) : Nat := (Question.nanBits .f64 a b).cut (w.tape w.drawn (Question.nanBits .f64 a b))
theorem cut_nan (a b t : Nat) : ∃ s : Bool, ∃ f : Nat, f < 2 ^ 52 - 1 ∧ (Question.nanBits .f64 a b).cut t = (if s then 2 ^ 63 else 0) + INF + 1 + f := by
  refine ⟨t % 2 == 1, (t / 2) % (2 ^ 52 - 1), Nat.mod_lt _ (by decide), ?_⟩
  have e : (Question.nanBits .f64 a b).cut t = (t % 2) * 2 ^ 63 + 0x7ff0000000000000 + 1 + (t / 2) % (2 ^ 52 - 1) := rfl
  rw [e]
  have hI : INF = 0x7ff0000000000000 := by unfold INF; decide
  rw [hI]
  generalize (t / 2) % (2 ^ 52 - 1) = f
  by_cases c : t % 2 = 1
  · rw [c, if_pos (by rfl)]
  · have c0 : t % 2 = 0 := by omega
    rw [c0, if_neg (by decide)]
theorem isNaN_eq (a : Nat) : isNaN a = decide (INF < rg a) := by
  unfold isNaN D
  by_cases h : INF < rg a
  · rw [order_nan (.inl h), decide_eq_true h]; rfl
  · rw [order_eq (by omega) (by omega), cmp_eq rfl, decide_eq_false h]; rfl
theorem canon_num {a : Nat} (h : rg a ≤ INF) : canonW a = a := by
  unfold canonW; rw [isNaN_eq, decide_eq_false (by omega)]; rfl
theorem canon_nan {a : Nat} (h : INF < rg a) : canonW a = NANW := by
  unfold canonW; rw [isNaN_eq, decide_eq_true h]; rfl
theorem cut_isNaN (a b t : Nat) : canonW ((Question.nanBits .f64 a b).cut t) = NANW := by
  obtain ⟨s, f, hf, e⟩ := cut_nan a b t
  rw [e]
  apply canon_nan
  unfold rg
  have h63 : (2 : Nat) ^ 63 = 9223372036854775808 := by decide
  have h52 : (2 : Nat) ^ 52 = 4503599627370496 := by decide
  have hI : INF = 9218868437227405312 := by unfold INF; decide
  rw [h63, hI]
  rw [h52] at hf
  cases s
  · rw [if_neg (by simp)]; omega
  · rw [if_pos rfl]; omega

end Go.Proofs.Ytlihonbmopeemaa.Float
end
section
namespace Go.Proofs.Ytlihonbmopeemaa.Ans
open Go Go.RowKit Go.Proofs.Ytlihonbmopeemaa.Ref Go.Proofs.YtlihonbmopeemaaW.PrintWords Go.Proofs.YtlihonbmopeemaaW.PrintLast Go.Proofs.YtlihonbmopeemaaW.PrintMore
open Go.Proofs.Ytlihonbmopeemaa.Num Go.Proofs.Ytlihonbmopeemaa.DigLaw Go.Proofs.Ytlihonbmopeemaa.Fl Go.Proofs.Ytlihonbmopeemaa.Dig Go.Proofs.Ytlihonbmopeemaa.Float
open Ieee (double Datum)

def Ans (f : FuncId) (args : Array Value) (v : Value) : Prop := ∀ w, Calls Try.prog f args w fun e w' => e = .returned v ∧ Below w.heap.size w w'
theorem Ans.at {f : FuncId} {args : Array Value} {v : Value} (h : Ans f args v) (w : World) : Calls Try.prog f args w fun e w' => e = .returned v ∧ Below w.heap.size w w' := h w
theorem bthen {w w1 w2 : World} (h1 : Below w.heap.size w w1) (h2 : Below w1.heap.size w1 w2) : Below w.heap.size w w2 := below_then h1 h1.size h2

theorem word_ok (s : Bool) {r : Nat} (h : r ≤ INF) : rg (double.word s r) ≤ INF := by
  rw [word_eq]
  have h2 := INF_lt
  rw [(sg_word _ _ (by unfold S63 at h2; omega)).2.1]; exact h
theorem ans_refKind (a : Nat) (ha : a < W) : Ans 81 #[.int .u64 a] (.int .i64 (kindN a)) := fun w => let ⟨k, hk⟩ := Ev.rounds (kind_is a ha); (minstrelref01_Kind.calls k _ _ w hk).mono fun _ _ ⟨h, hd⟩ => ⟨h, hd.below⟩
end Go.Proofs.Ytlihonbmopeemaa.Ans
end
section
namespace Go.Proofs.Ytlihonbmopeemaa.Ans
open Go Go.RowKit Go.Proofs.Ytlihonbmopeemaa.Ref Go.Proofs.YtlihonbmopeemaaW.PrintWords Go.Proofs.YtlihonbmopeemaaW.PrintLast Go.Proofs.YtlihonbmopeemaaW.PrintMore
open Go.Proofs.Ytlihonbmopeemaa.Num Go.Proofs.Ytlihonbmopeemaa.DigLaw Go.Proofs.Ytlihonbmopeemaa.Fl Go.Proofs.Ytlihonbmopeemaa.Dig Go.Proofs.Ytlihonbmopeemaa.Float
open Ieee (double Datum Toward)

attribute [local go_sem] frombits_run bits_run
theorem ans_of (a : Nat) : Ans 77 #[.int .u64 a] (.float .f64 a) := by
  intro w
  go_enter Try.func77, Try.ntmps77
  go_wp2
  go_ret
  exact ⟨rfl, Below.refl _ _⟩
theorem ans_told (a : Nat) : Ans 94 #[.float .f64 a] (.int .u64 (canonW a)) := by
  intro w
  go_enter Try.func94, Try.ntmps94
  go_wp2_with (go_at_call 72; refine (Canon_any _ _).mono ?_; rintro e w' ⟨rfl, rfl⟩)
  go_ret
  exact ⟨rfl, Below.refl _ _⟩
/-- what an instruction makes of a word -/
def trW (way : Toward) (a : Nat) : Nat := double.write ((double.read a).integral way)
theorem toIntegral_eq (name : String) (way : Toward) (x : Nat) : Extern.MathFloor.toIntegral name way #[.float .f64 x] =
    match FloatKind.f64.decode x with
    | .nan s t =>
      if FloatKind.f64.format.quiet t = t then pure (.float .f64 x) else do
      let kept ← choose (.extern "math.Floor,Ceil,Trunc,RoundToEven.signallingNaN kept" 2)
      pure (.float .f64 (if kept == 1 then x else FloatKind.f64.encode (.nan s (FloatKind.f64.format.quiet t))))
    | d => pure (.float .f64 (FloatKind.f64.encode (d.integral way))) := rfl
theorem toInt_num (name : String) (way : Toward) {a : Nat} (h : rg a ≤ INF) : Extern.MathFloor.toIntegral name way #[.float .f64 a] = pure (.float .f64 (trW way a)) := by
  rw [toIntegral_eq]
  unfold trW
  rcases Nat.lt_or_ge (rg a) INF with f | f
  · obtain ⟨m, p, e, _⟩ := read_fin f
    have e' : FloatKind.f64.decode a = .number (sg a) m p := e
    rw [e, e']; rfl
  · have e := read_inf (a := a) (by omega)
    have e' : FloatKind.f64.decode a = .infinity (sg a) := e
    rw [e, e']; rfl
def enc (d : Datum) : Nat := FloatKind.f64.encode d
theorem archTrunc_run (n : Nat) (w : World) (h : rg n ≤ INF) : (callFunc 99 #[.float .f64 n]).run Try.prog w = .ok (.value (.float .f64 (trW .zero n))) w := by
  rw [run_callFunc_extern (fn := Try.f99) (e := Extern.MathFloor.toIntegral "math.archTrunc" .zero) Try.func99 (by kernel_rfl) (by kernel_rfl) (by kernel_rfl) (by kernel_rfl), toInt_num _ _ h]
  rfl
/-- the library's function around it -/
theorem mathTrunc_num (a : Nat) (h : rg a ≤ INF) : Ans 93 #[.float .f64 a] (.float .f64 (trW .zero a)) := by
  intro w
  have r := fun w => archTrunc_run a w h
  clear h
  generalize trW .zero a = t at *
  go_enter Try.func93, Try.ntmps93
  go_wp2
  go_ret
  exact ⟨rfl, Below.refl _ _⟩
theorem trW_num (way : Toward) {a : Nat} (ha : a < W) (h : rg a ≤ INF) : trW way a = intW way a ∧ rg (trW way a) ≤ INF := by
  rcases Nat.lt_or_ge (rg a) INF with f | f
  · have e : trW way a = intW way a := integral_fin way f
    rw [e]
    exact ⟨rfl, Nat.le_of_lt (intW_facts way f).2.1⟩
  · have hi : rg a = INF := by omega
    have e : trW way a = a := by
      unfold trW
      rw [read_inf hi]
      show double.word (sg a) double.infRung = a
      rw [infRung_eq]
      obtain ⟨w1, w2, w3⟩ := word_facts (sg a) (Nat.le_refl INF)
      exact word_ext w3 ha w1 (w2.trans hi.symm)
    rw [e, intW_inf way hi]
    exact ⟨rfl, h⟩
end Go.Proofs.Ytlihonbmopeemaa.Ans
end
section
namespace Go.Proofs.Ytlihonbmopeemaa.Ans
open Go Go.RowKit Go.Proofs.Ytlihonbmopeemaa.Ref Go.Proofs.YtlihonbmopeemaaW.PrintWords Go.Proofs.YtlihonbmopeemaaW.PrintLast Go.Proofs.YtlihonbmopeemaaW.PrintMore
open Go.Proofs.Ytlihonbmopeemaa.Num Go.Proofs.Ytlihonbmopeemaa.DigLaw Go.Proofs.Ytlihonbmopeemaa.Fl Go.Proofs.Ytlihonbmopeemaa.Dig Go.Proofs.Ytlihonbmopeemaa.Float
open Ieee (double Datum Toward)

attribute [local go_sem] frombits_run bits_run
theorem cut_rg (a b t : Nat) : INF < rg ((Question.nanBits .f64 a b).cut t) := by
  obtain ⟨s, f, hf, e⟩ := cut_nan a b t
  rw [e]
  have hI := cINF
  rw [c52] at hf
  have h2 := sg_word s (INF + 1 + f) (by omega)
  have e2 : (if s then 2 ^ 63 else 0) + INF + 1 + f = sgn s + (INF + 1 + f) := by
    unfold sgn S63; rw [c63]; cases s
    · rw [if_neg (by simp)]; omega
    · rw [if_pos rfl]; omega
  rw [e2, h2.2.1]; omega
theorem sub_self {a : Nat} (h : rg a < INF) : floatBits .sub .f64 a a = some 0 := by
  obtain ⟨m, p, e, _⟩ := read_fin h
  show double.sub a a = some 0
  unfold Ieee.Format.sub
  rw [e]
  simp only [Datum.opposite, Datum.sum, Option.map_some, Int.min_self, Int.sub_self]
  have t : Ieee.signed (sg a) m (0 : Int).toNat + Ieee.signed (!sg a) m (0 : Int).toNat = 0 := by
    rw [signed_eq, signed_eq]; unfold sn; cases sg a <;> simp <;> omega
  rw [t, if_pos rfl]
  rw [write_number, show (0 : Int).natAbs = 0 from rfl, rung_zero]
  cases sg a <;> rfl
theorem sub_self_none {a : Nat} (h : INF ≤ rg a) : floatBits .sub .f64 a a = none := by
  show double.sub a a = none
  unfold Ieee.Format.sub
  rcases Nat.lt_or_ge INF (rg a) with f | f
  · rw [read_nan f]; rfl
  · rw [read_inf (by omega)]
    simp only [Datum.opposite, Datum.sum]
    cases sg a <;> rfl
theorem some_cmp (x y : Int) : ((some (compare x y) : Option Ordering) == some .eq) = decide (x = y) := by
  by_cases h : x = y
  · rw [cmp_eq h, decide_eq_true h]; rfl
  · rw [decide_eq_false h]
    rcases Int.lt_or_lt_of_ne h with l | l
    · rw [cmp_lt l]; rfl
    · rw [cmp_gt l]; rfl
theorem eq_run {a b : Nat} (ha : rg a ≤ INF) (hb : rg b ≤ INF) : (FloatKind.f64.format.order a b == some .eq) = decide (Vi a = Vi b) := by
  show (double.order a b == some .eq) = _
  rw [order_eq ha hb, some_cmp]
theorem eq_run_nan {a b : Nat} (h : INF < rg a ∨ INF < rg b) : (FloatKind.f64.format.order a b == some .eq) = false := by
  show (double.order a b == some .eq) = _
  rw [order_nan h]; rfl
theorem sn_inj (s : Bool) (m n : Nat) : sn s m = sn s n ↔ m = n := by
  unfold sn; cases s
  · rw [if_neg (by simp), if_neg (by simp)]; omega
  · rw [if_pos rfl, if_pos rfl]; omega
theorem zero_div {v : Nat} : v / U * U = v ↔ v % U = 0 := by
  have := Nat.div_add_mod v U
  rw [Nat.mul_comm] at this
  omega
theorem is_eq {a : Nat} (h : rg a < INF) : decide (Vi (intW .zero a) = Vi a) = isW a := by
  obtain ⟨f1, f2, f3, f4⟩ := intW_facts .zero h
  unfold isW
  apply decide_eq_decide.2
  unfold Vi
  rw [f1, f3, sn_inj]
  have e : wholeN .zero a = V (rg a) / U := by unfold wholeN cutQ moreB; rfl
  rw [e, zero_div]
  exact ⟨fun x => ⟨h, x⟩, fun x => x.2⟩
theorem ans_is (a : Nat) (ha : a < W) : Ans 78 #[.float .f64 a] (.bool (isW a)) := by
  intro w
  have h0 : (FloatKind.f64.format.order 0 0 == some .eq) = true := rfl
  rcases Nat.lt_or_ge (rg a) INF with f | f
  · have hm : ∀ w : World, (binOp .sub 109 (.float .f64 a) (.float .f64 a)).run Try.prog w = .ok (.float .f64 0) w := fun w => run_float_arith w .sub 109 .f64 a a 0 (sub_self f)
    obtain ⟨e1, e2⟩ := trW_num .zero ha (Nat.le_of_lt f)
    have m := mathTrunc_num a (Nat.le_of_lt f)
    have h1 := eq_run e2 (Nat.le_of_lt f)
    rw [e1] at m h1
    rw [is_eq f] at h1
    clear e1 e2 f ha
    generalize isW a = b at *
    generalize intW .zero a = t at *
    go_enter Try.func78, Try.ntmps78
    go_wp2_with fail
    refine (m.at _).mono ?_; rintro e w1 ⟨rfl, hb1⟩
    go_wp2_with fail
    go_ret
    exact ⟨rfl, hb1⟩
  · have e : isW a = false := decide_eq_false (fun h => by omega)
    have hn := sub_self_none f
    have hd := eq_run_nan (b := 0) (Or.inl (cut_rg a a (w.tape w.drawn (Question.nanBits .f64 a a))))
    have hm : (binOp .sub 109 (.float .f64 a) (.float .f64 a)).run Try.prog w = .ok (.float .f64 _) w.drew := arith_none .sub 109 a a (.inr (.inl rfl)) hn w
    rw [e]
    clear e hn f ha
    generalize (Question.nanBits .f64 a a).cut (w.tape w.drawn (Question.nanBits .f64 a a)) = r at *
    go_enter Try.func78, Try.ntmps78
    go_wp2_with fail
    go_ret
    exact ⟨rfl, (Below.refl _ _).drew⟩

/-! ### Is, FromInt, ToInt -/
theorem fromI_ok (n : Int) : rg (fromI n) ≤ INF := word_ok _ (rung_le_inf _ _)
theorem of_int (n : Int) : floatOfInt .f64 n = fromI n := by
  show double.write (.number (decide (n < 0)) n.natAbs 0) = _
  rw [write_number]; rfl
theorem ans_FromInt (n : Int) : Ans 80 #[.int .i64 n] (.int .u64 (fromI n)) := by
  intro w
  have t := ans_told (fromI n)
  rw [canon_num (fromI_ok n)] at t
  rw [← of_int] at t ⊢
  go_enter Try.func80, Try.ntmps80
  go_wp2_with fail
  refine (t.at _).mono ?_; rintro e w1 ⟨rfl, hb1⟩
  go_wp2_with fail
  go_ret
  exact ⟨rfl, hb1⟩
def CLO : Nat := 14114281232179134464
def CHI : Nat := 4890909195324358656
def E85 : Nat := 1085
theorem hi_facts : rg CHI = 1086 * 2 ^ 52 ∧ sg CHI = false ∧ rg CHI ≤ INF ∧ rg CLO = 1086 * 2 ^ 52 ∧ sg CLO = true ∧ rg CLO ≤ INF := by decide +kernel
theorem V_hi : V (1086 * 2 ^ 52) = 9223372036854775808 * U := by
  have h := V_binade E85 (2 ^ 52) (by decide) (Or.inr (Nat.le_refl _))
  rw [show E85 * 2 ^ 52 + 2 ^ 52 = 1086 * 2 ^ 52 from by decide] at h
  rw [h, ← c63]
  unfold U
  rw [← Nat.pow_add, ← Nat.pow_add]
  congr 1
theorem some_lt (x y : Int) : ((some (compare x y) : Option Ordering) == some .lt) = decide (x < y) := by
  rcases Int.lt_trichotomy x y with l | l | l
  · rw [cmp_lt l, decide_eq_true l]; rfl
  · rw [cmp_eq l, decide_eq_false (by omega)]; rfl
  · rw [cmp_gt l, decide_eq_false (by omega)]; rfl
theorem some_gt (x y : Int) : ((some (compare x y) : Option Ordering) == some .gt) = decide (y < x) := by
  rcases Int.lt_trichotomy x y with l | l | l
  · rw [cmp_lt l, decide_eq_false (by omega)]; rfl
  · rw [cmp_eq l, decide_eq_false (by omega)]; rfl
  · rw [cmp_gt l, decide_eq_true l]; rfl
theorem isW_facts {a : Nat} (h : isW a = true) : rg a < INF ∧ V (rg a) = V (rg a) / U * U := by
  have hz := of_decide_eq_true (show decide (rg a < INF ∧ V (rg a) % U = 0) = true from h)
  exact ⟨hz.1, (zero_div.2 hz.2).symm⟩
theorem lo_iff (s : Bool) (q c u : Nat) (hu : 0 < u) : sn s (q * u) < sn true (c * u) ↔ s = true ∧ c < q := by
  have h1 : c * u < q * u ↔ c < q := Nat.mul_lt_mul_right hu
  unfold sn
  cases s
  · rw [if_neg (by simp), if_pos rfl]
    constructor
    · intro h; omega
    · intro h; cases h.1
  · rw [if_pos rfl, if_pos rfl, ← h1]
    constructor
    · intro h; exact ⟨rfl, by omega⟩
    · intro h; omega
theorem hi_iff (s : Bool) (q c u : Nat) (hu : 0 < u) (hc : 0 < c) : (sn false (c * u) < sn s (q * u) ∨ sn s (q * u) = sn false (c * u)) ↔ s = false ∧ c ≤ q := by
  have h1 : c * u ≤ q * u ↔ c ≤ q := Nat.mul_le_mul_right_iff hu
  have h2 : 0 < c * u := Nat.mul_pos hc hu
  unfold sn
  cases s
  · rw [if_neg (by simp), if_neg (by simp), ← h1]
    constructor
    · intro h; exact ⟨rfl, by omega⟩
    · intro h; omega
  · rw [if_pos rfl, if_neg (by simp)]
    constructor
    · intro h; omega
    · intro h; cases h.1
theorem toInt_val {a : Nat} (h : rg a < INF) (hf : fitN (sg a) (V (rg a) / U) = true) : floatToIntVal .f64 a .i64 = some (sn (sg a) (V (rg a) / U)) := by
  obtain ⟨m, p, e, hp, hv⟩ := read_fin h
  have e' : FloatKind.f64.decode a = .number (sg a) m p := e
  have t : (FloatKind.f64.decode a).toInt .zero = some (sn (sg a) (V (rg a) / U)) := by
    rw [e']
    simp only [Datum.toInt, Datum.integral, Nat.shiftLeft_eq]
    rw [cut_fin .zero hp hv, signed_eq, Nat.pow_zero, Nat.mul_one]
    unfold wholeN cutQ moreB; rfl
  unfold floatToIntVal
  rw [t]
  dsimp only
  rw [if_pos]
  generalize V (rg a) / U = q at *
  generalize sg a = s at *
  show (-9223372036854775808 : Int) ≤ sn s q ∧ sn s q ≤ 9223372036854775807
  unfold fitN at hf
  unfold sn
  cases s
  · rw [if_neg (by simp)] at hf ⊢
    have := of_decide_eq_true hf
    omega
  · rw [if_pos rfl] at hf ⊢
    have := of_decide_eq_true hf
    omega
theorem ans_ToInt (a : Nat) (ha : a < W) : Ans 54 #[.int .u64 a] (.tuple #[.int .i64 (toI a).1, .bool (toI a).2]) := by
  intro w
  have o := ans_of a
  have m := ans_is a ha
  by_cases z : isW a = true
  · obtain ⟨fa, hv⟩ := isW_facts z
    obtain ⟨k1, k2, k3, k4, k5, k6⟩ := hi_facts
    rw [z] at m
    have g1 : (FloatKind.f64.format.order a CLO == some .lt) = decide (sg a = true ∧ 9223372036854775808 < V (rg a) / U) := by
      show (double.order a CLO == some .lt) = _
      rw [order_eq (Nat.le_of_lt fa) k6, some_lt]
      apply decide_eq_decide.2
      unfold Vi
      rw [k5, k4, V_hi, hv, Nat.mul_div_cancel _ U_pos]
      exact lo_iff _ _ _ _ U_pos
    have g2 : (FloatKind.f64.format.order a CHI == some .gt || FloatKind.f64.format.order a CHI == some .eq) = decide (sg a = false ∧ 9223372036854775808 ≤ V (rg a) / U) := by
      show (double.order a CHI == some .gt || double.order a CHI == some .eq) = _
      rw [order_eq (Nat.le_of_lt fa) k3, some_gt, some_cmp, ← Bool.decide_or]
      apply decide_eq_decide.2
      unfold Vi
      rw [k2, k1, V_hi, hv, Nat.mul_div_cancel _ U_pos]
      exact hi_iff _ _ _ _ U_pos (by decide)
    have fit : fitN (sg a) (V (rg a) / U) = (!decide (sg a = true ∧ 9223372036854775808 < V (rg a) / U) && !decide (sg a = false ∧ 9223372036854775808 ≤ V (rg a) / U)) := by
      unfold fitN
      generalize V (rg a) / U = q
      cases sg a
      · rw [if_neg (by simp), decide_eq_false (p := _ ∧ _) (fun h => by cases h.1)]
        by_cases c : 9223372036854775808 ≤ q
        · rw [decide_eq_false (by omega), decide_eq_true ⟨rfl, c⟩]; rfl
        · rw [decide_eq_true (by omega), decide_eq_false (p := _ ∧ _) (fun h => c h.2)]; rfl
      · rw [if_pos rfl, decide_eq_false (p := true = false ∧ _) (fun h => by cases h.1)]
        by_cases c : 9223372036854775808 < q
        · rw [decide_eq_false (by omega), decide_eq_true ⟨rfl, c⟩]; rfl
        · rw [decide_eq_true (by omega), decide_eq_false (p := _ ∧ _) (fun h => c h.2)]; rfl
    have tv := toInt_val fa
    have ti : toI a = if fitN (sg a) (V (rg a) / U) = true then (sn (sg a) (V (rg a) / U), true) else (0, false) := by unfold toI; rw [z, Bool.true_and]
    rw [ti]
    rw [show CLO = 14114281232179134464 from rfl] at g1
    rw [show CHI = 4890909195324358656 from rfl] at g2
    rw [fit] at tv ⊢
    generalize decide (sg a = true ∧ 9223372036854775808 < V (rg a) / U) = b1 at *
    generalize decide (sg a = false ∧ 9223372036854775808 ≤ V (rg a) / U) = b2 at *
    generalize sn (sg a) (V (rg a) / U) = r at *
    clear fit ti hv fa k1 k2 k3 k4 k5 k6 z ha
    cases b1
    · cases b2
      · have hc : ∀ w : World, (convert 109 2 (.float .f64 a)).run Try.prog w = .ok (.int .i64 r) w := fun w => run_convert_float_int (P := Try.prog) w 109 2 .f64 .i64 a r (by kernel_rfl) (by kernel_rfl) (tv rfl)
        rw [if_pos (by rfl)]
        clear tv
        go_enter Try.func54, Try.ntmps54
        go_wp2_with fail
        refine (o.at _).mono ?_; rintro e w1 ⟨rfl, hb1⟩
        go_wp2_with fail
        refine (m.at _).mono ?_; rintro e w2 ⟨rfl, hb2⟩
        go_wp2_with fail
        go_ret2
        exact ⟨rfl, bthen hb1 hb2⟩
      · rw [if_neg (by simp)]
        clear tv
        go_enter Try.func54, Try.ntmps54
        go_wp2_with fail
        refine (o.at _).mono ?_; rintro e w1 ⟨rfl, hb1⟩
        go_wp2_with fail
        refine (m.at _).mono ?_; rintro e w2 ⟨rfl, hb2⟩
        go_wp2_with fail
        go_ret2
        exact ⟨rfl, bthen hb1 hb2⟩
    · rw [if_neg (by simp)]
      clear tv g2
      go_enter Try.func54, Try.ntmps54
      go_wp2_with fail
      refine (o.at _).mono ?_; rintro e w1 ⟨rfl, hb1⟩
      go_wp2_with fail
      refine (m.at _).mono ?_; rintro e w2 ⟨rfl, hb2⟩
      go_wp2_with fail
      go_ret2
      exact ⟨rfl, bthen hb1 hb2⟩
  · have z' : isW a = false := Bool.eq_false_iff.2 z
    have ti : toI a = (0, false) := by unfold toI; rw [z']; rfl
    rw [ti]
    rw [z'] at m
    clear z z' ti ha
    go_enter Try.func54, Try.ntmps54
    go_wp2_with fail
    refine (o.at _).mono ?_; rintro e w1 ⟨rfl, hb1⟩
    go_wp2_with fail
    refine (m.at _).mono ?_; rintro e w2 ⟨rfl, hb2⟩
    go_wp2_with fail
    go_ret2
    exact ⟨rfl, bthen hb1 hb2⟩
end Go.Proofs.Ytlihonbmopeemaa.Ans
end
section
namespace Go.Proofs.Ytlihonbmopeemaa.Ans
open Go Go.RowKit Go.Proofs.Ytlihonbmopeemaa.Ref Go.Proofs.YtlihonbmopeemaaW.PrintWords Go.Proofs.YtlihonbmopeemaaW.PrintLast Go.Proofs.YtlihonbmopeemaaW.PrintMore
open Go.Proofs.Ytlihonbmopeemaa.Num Go.Proofs.Ytlihonbmopeemaa.DigLaw Go.Proofs.Ytlihonbmopeemaa.Fl Go.Proofs.Ytlihonbmopeemaa.Dig Go.Proofs.Ytlihonbmopeemaa.Float
open Ieee (double Datum Toward)

theorem ans_refFromInt (n : Int) (h0 : -9223372036854775808 ≤ n) (h1 : n < 9223372036854775808) : Ans 32 #[.int .i64 n] (.int .u64 (fromI n)) := fun w =>
  let ⟨k, hk⟩ := Ev.rounds (refFromInt_is n h0 h1); minstrelref04_FromInt.calls k _ _ w hk
def THREE : Nat := 4613937818241073152
theorem small_exact {n : Nat} (h : n ≤ 9223372036854775808) : rung n 0 < INF ∧ V (rung n 0) % U = 0 := by
  have c53 : (2 : Nat) ^ 53 = 9007199254740992 := by decide
  rcases Nat.lt_or_ge n 9007199254740993 with c | c
  · have := whole_V' n (by rw [c53]; omega)
    rw [this.2, Nat.mul_mod_left]; exact ⟨this.1, rfl⟩
  · have hi : rung n 0 < INF := by
      have h1 := rung_mono_at (q := 0) h
      have e : (9223372036854775808 : Nat) * 2 ^ E74 = 2 ^ 52 * 2 ^ (E74 + 11) := by
        rw [← c63, ← Nat.pow_add, ← Nat.pow_add]; congr 1
      have h2 := rung_exact (2 ^ 52) (E74 + 11) (by decide) (by unfold E74; decide)
      rw [← e, ← rung_zero_at] at h2
      omega
    have lo := whole_V' (2 ^ 53) (Nat.le_refl _)
    have h3 := V_mono (rung_mono_at (m := 2 ^ 53) (n := n) (q := 0) (by rw [c53]; omega))
    rw [lo.2] at h3
    refine ⟨hi, ?_⟩
    rcases unit_cases hi with d | d
    · exact d
    · omega
theorem fromI_facts {n : Int} (h0 : -9223372036854775808 ≤ n) (h1 : n < 9223372036854775808) : fromI n < W ∧ sg (fromI n) = decide (n < 0) ∧ rg (fromI n) = rung n.natAbs 0 ∧ isW (fromI n) = true := by
  obtain ⟨e1, e2⟩ := small_exact (n := n.natAbs) (by omega)
  obtain ⟨g1, g2, g3⟩ := word_facts (decide (n < 0)) (rung_le_inf n.natAbs 0)
  unfold fromI
  refine ⟨g3, g1, g2, ?_⟩
  unfold isW
  rw [g2]; exact decide_eq_true ⟨e1, e2⟩
theorem sn_nat (n : Int) : sn (decide (n < 0)) n.natAbs = n := by
  unfold sn
  by_cases h : n < 0
  · rw [decide_eq_true h, if_pos rfl]; omega
  · rw [decide_eq_false h, if_neg (by simp)]; omega
theorem toI_fromI {n : Int} (h : n.natAbs ≤ 9007199254740992) : toI (fromI n) = (n, true) := by
  have c53 : (2 : Nat) ^ 53 = 9007199254740992 := by decide
  obtain ⟨_, f2, f3, f4⟩ := fromI_facts (n := n) (by omega) (by omega)
  have v := whole_V' n.natAbs (by rw [c53]; exact h)
  unfold toI
  rw [f4, f2, f3, v.2, Nat.mul_div_cancel _ U_pos, Bool.true_and, if_pos]
  · rw [sn_nat]
  · unfold fitN
    by_cases c : n < 0
    · rw [decide_eq_true c, if_pos rfl, decide_eq_true (by omega)]
    · rw [decide_eq_false c, if_neg (by simp), decide_eq_true (by omega)]
/-- what ToInt tells is the word's number -/
theorem toI_back {a : Nat} (h : (toI a).2 = true) : rg a < INF ∧ Vi a = (toI a).1 * (U : Int) ∧ -9223372036854775808 ≤ (toI a).1 ∧ (toI a).1 < 9223372036854775808 := by
  unfold toI at h ⊢
  by_cases c : (isW a && fitN (sg a) (V (rg a) / U)) = true
  · rw [if_pos c] at h ⊢
    rw [Bool.and_eq_true] at c
    obtain ⟨f, hv⟩ := isW_facts c.1
    refine ⟨f, ?_, ?_⟩
    · show Vi a = sn (sg a) (V (rg a) / U) * (U : Int)
      rw [← sn_mul, ← hv]; rfl
    · show -9223372036854775808 ≤ sn (sg a) (V (rg a) / U) ∧ sn (sg a) (V (rg a) / U) < 9223372036854775808
      have hf := c.2
      generalize V (rg a) / U = q at *
      unfold fitN at hf
      unfold sn
      cases hs : sg a
      · rw [hs, if_neg (by simp)] at hf
        have := of_decide_eq_true hf
        rw [if_neg (by simp)]; omega
      · rw [hs, if_pos rfl] at hf
        have := of_decide_eq_true hf
        rw [if_pos rfl]; omega
  · rw [if_neg c] at h; cases h
theorem Vi_from {n : Int} {a : Nat} (h : rg a < INF) (hv : Vi a = n * (U : Int)) : rung n.natAbs 0 = rg a := by
  have e : V (rg a) = n.natAbs * U := by
    have h1 : (Vi a).natAbs = V (rg a) := by unfold Vi; exact sn_abs _ _
    rw [← h1, hv, Int.natAbs_mul, Int.natAbs_natCast]
  rw [rung_zero_at]
  show rung (n.natAbs * U) (-1074) = rg a
  rw [← e, rung_V _ (Nat.le_of_lt h)]
theorem back_same {a : Nat} (ha : a < W) (h : (toI a).2 = true) (h0 : rg a ≠ 0) : fromI (toI a).1 = a := by
  obtain ⟨f, hv, _⟩ := toI_back h
  have e := Vi_from f hv
  generalize (toI a).1 = n at *
  obtain ⟨g1, g2, g3⟩ := word_facts (decide (n < 0)) (rung_le_inf n.natAbs 0)
  refine word_ext g3 ha (g1.trans ?_) (g2.trans e)
  have hp := V_pos h0
  have hU := U_pos
  have hUi : (0 : Int) < (U : Int) := by omega
  unfold Vi sn at hv
  cases hs : sg a
  · rw [hs, if_neg (by simp)] at hv
    apply decide_eq_false
    intro hn
    have := Int.mul_neg_of_neg_of_pos hn hUi
    omega
  · rw [hs, if_pos rfl] at hv
    apply decide_eq_true
    apply Int.lt_of_not_ge
    intro hn
    have := Int.mul_nonneg hn (Int.le_of_lt hUi)
    omega
end Go.Proofs.Ytlihonbmopeemaa.Ans
end
