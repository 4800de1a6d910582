/- What the program's float functions of the layers 1 and 2 do: each answers with a word that is a plain function of its arguments' words; the world is as it was, but for draws (where an operation has no answer the model draws a NaN, and the program turns every NaN into one). No conditions but that the arguments are words of 64 bits. -/
import Derived.Test.YtknpffoglcogeaaProg
import Derived.WalkKit
import Derived.KernelRfl
import Derived.Laws.Externs
import Derived.Laws.Cover2
import Derived.Laws.FloatArith
import Derived.Laws.NewFold
import Derived.Test.YtknpffoglcogeaaPlain
namespace Go.Proofs.Ytknpffoglcogeaa.Float
open Go Go.RowKit Go.Proofs.Ytknpffoglcogeaa.Fl

def D : Ieee.Format := Ieee.double
def isNaN (a : Nat) : Bool := D.order a a != some .eq
def NANW : Nat := 9221120237041090560
def canonW (a : Nat) : Nat := if isNaN a then NANW else a

theorem frombits_run (n : Int) (w : World) : (callFunc 47 #[.int .u64 n]).run Try.prog w = .ok (.value (.float .f64 n.toNat)) w := by
  rw [run_callFunc_extern (fn := Try.f47) (e := Extern.MathFloatBits.float64frombits) Try.func47 (by kernel_rfl) (by kernel_rfl) (by kernel_rfl) (by kernel_rfl)]
  rfl
theorem bits_run (n : Nat) (w : World) : (callFunc 46 #[.float .f64 n]).run Try.prog w = .ok (.value (.int .u64 n)) w := (run_callFunc_extern (fn := Try.f46) (e := Extern.MathFloatBits.float64bits) Try.func46 (by kernel_rfl) (by kernel_rfl) (by kernel_rfl) (by kernel_rfl) #[.float .f64 n] w).trans rfl
attribute [local go_sem] frombits_run

theorem neq_run (a : Nat) : (FloatKind.f64.format.order a a != some .eq) = isNaN a := rfl

theorem canon_any (a : Nat) (w : World) : Calls Try.prog 49 #[.int .u64 a] w fun e w' => e = .returned (.int .u64 (canonW a)) ∧ w = w' := by
  by_cases h : isNaN a = true
  · have h1 : (FloatKind.f64.format.order a a != some .eq) = true := h
    have e1 : canonW a = NANW := by unfold canonW; rw [if_pos h]
    rw [e1]
    clear h e1
    go_enter Try.func49, Try.ntmps49
    go_wp2
    go_ret
    exact ⟨rfl, rfl⟩
  · have h1 : (FloatKind.f64.format.order a a != some .eq) = false := Bool.eq_false_iff.2 h
    have e1 : canonW a = a := by unfold canonW; rw [if_neg h]
    rw [e1]
    clear h e1
    go_enter Try.func49, Try.ntmps49
    go_wp2
    go_ret
    exact ⟨rfl, rfl⟩
theorem Canon_any (a : Nat) (w : World) : Calls Try.prog 45 #[.int .u64 a] w fun e w' => e = .returned (.int .u64 (canonW a)) ∧ w = w' := by
  go_enter Try.func45, Try.ntmps45
  go_wp2_with (go_at_call 49; refine (canon_any _ _).mono ?_; rintro e w' ⟨rfl, rfl⟩)
  go_ret
  exact ⟨rfl, rfl⟩
/-- what the program makes of an operation's answer: the word, or the one NaN -/
def ansW (r : Option Nat) : Nat := match r with
  | some b => canonW b
  | none => NANW
theorem arith_none (op : BinOp) (t : TypeId) (a b : Nat) (ho : op = .add ∨ op = .sub ∨ op = .mul ∨ op = .quo) (h : floatBits op .f64 a b = none) (w : World) :
    (binOp op t (.float .f64 a) (.float .f64 b)).run Try.prog w = .ok (.float .f64 ((Question.nanBits .f64 a b).cut (w.tape w.drawn (Question.nanBits .f64 a b)))) w.drew := by
  unfold floatBits at h
  rcases ho with rfl | rfl | rfl | rfl <;> simp only at h <;> simp [binOp, Op.floatArith, h, Question.forced]
def drawnNaN (a b : Nat) (w : World) : Nat := (Question.nanBits .f64 a b).cut (w.tape w.drawn (Question.nanBits .f64 a b))
theorem cut_nan (a b t : Nat) : ∃ s : Bool, ∃ f : Nat, f < 2 ^ 52 - 1 ∧ (Question.nanBits .f64 a b).cut t = (if s then 2 ^ 63 else 0) + INF + 1 + f := by
  refine ⟨t % 2 == 1, (t / 2) % (2 ^ 52 - 1), Nat.mod_lt _ (by decide), ?_⟩
  have e : (Question.nanBits .f64 a b).cut t = (t % 2) * 2 ^ 63 + 0x7ff0000000000000 + 1 + (t / 2) % (2 ^ 52 - 1) := rfl
  rw [e]
  have hI : INF = 0x7ff0000000000000 := by unfold INF; decide
  rw [hI]
  generalize (t / 2) % (2 ^ 52 - 1) = f
  by_cases c : t % 2 = 1
  · rw [c, if_pos (by rfl)]
  · have c0 : t % 2 = 0 := by omega
    rw [c0, if_neg (by decide)]
theorem isNaN_eq (a : Nat) : isNaN a = decide (INF < rg a) := by
  unfold isNaN D
  by_cases h : INF < rg a
  · rw [order_nan (.inl h), decide_eq_true h]; rfl
  · rw [order_eq (by omega) (by omega), cmp_eq rfl, decide_eq_false h]; rfl
theorem canon_num {a : Nat} (h : rg a ≤ INF) : canonW a = a := by
  unfold canonW; rw [isNaN_eq, decide_eq_false (by omega)]; rfl
theorem canon_nan {a : Nat} (h : INF < rg a) : canonW a = NANW := by
  unfold canonW; rw [isNaN_eq, decide_eq_true h]; rfl
theorem cut_isNaN (a b t : Nat) : canonW ((Question.nanBits .f64 a b).cut t) = NANW := by
  obtain ⟨s, f, hf, e⟩ := cut_nan a b t
  rw [e]
  apply canon_nan
  unfold rg
  have h63 : (2 : Nat) ^ 63 = 9223372036854775808 := by decide
  have h52 : (2 : Nat) ^ 52 = 4503599627370496 := by decide
  have hI : INF = 9218868437227405312 := by unfold INF; decide
  rw [h63, hI]
  rw [h52] at hf
  cases s
  · rw [if_neg (by simp)]; omega
  · rw [if_pos rfl]; omega

end Go.Proofs.Ytknpffoglcogeaa.Float

/- What the program's Add, Sub, Mul (layer 2) answer: IEEE 754's word, and one NaN where there is none. Condition: the arguments are words of 64 bits. -/
namespace Go.Proofs.Ytknpffoglcogeaa.Float
open Go Go.RowKit Go.Proofs.Ytknpffoglcogeaa.Fl

attribute [local go_sem] frombits_run bits_run
theorem of_any (a : Nat) (w : World) : Calls Try.prog 31 #[.int .u64 a] w fun e w' => e = .returned (.float .f64 a) ∧ w = w' := by
  go_enter Try.func31, Try.ntmps31
  go_wp2
  go_ret
  exact ⟨rfl, rfl⟩
theorem told_any (a : Nat) (w : World) : Calls Try.prog 30 #[.float .f64 a] w fun e w' => e = .returned (.int .u64 (canonW a)) ∧ w = w' := by
  go_enter Try.func30, Try.ntmps30
  go_wp2_with (go_at_call 45; refine (Canon_any _ _).mono ?_; rintro e w' ⟨rfl, rfl⟩)
  go_ret
  exact ⟨rfl, rfl⟩

theorem Mul_some (a b r : Nat) (h : floatBits .mul .f64 a b = some r) (w : World) : Calls Try.prog 10 #[.int .u64 a, .int .u64 b] w fun e w' => e = .returned (.int .u64 (canonW r)) ∧ w = w' := by
  have hm : ∀ w : World, (binOp .mul 48 (.float .f64 a) (.float .f64 b)).run Try.prog w = .ok (.float .f64 r) w := fun w => run_float_arith w .mul 48 .f64 a b r h
  clear h
  go_enter Try.func10, Try.ntmps10
  go_wp2_with (first | (go_at_call 31; refine (of_any _ _).mono ?_; rintro e w' ⟨rfl, rfl⟩) | (go_at_call 30; refine (told_any _ _).mono ?_; rintro e w' ⟨rfl, rfl⟩))
  go_ret
  exact ⟨rfl, rfl⟩
theorem Mul_none (a b : Nat) (h : floatBits .mul .f64 a b = none) (w : World) : Calls Try.prog 10 #[.int .u64 a, .int .u64 b] w fun e w' => e = .returned (.int .u64 NANW) ∧ w.drew = w' := by
  have hm : ∀ w : World, (binOp .mul 48 (.float .f64 a) (.float .f64 b)).run Try.prog w = .ok (.float .f64 (drawnNaN a b w)) w.drew := fun w => arith_none .mul 48 a b (.inr (.inr (.inl rfl))) h w
  have hc : canonW (drawnNaN a b w) = NANW := cut_isNaN a b _
  rw [← hc]
  clear h hc
  go_enter Try.func10, Try.ntmps10
  go_wp2_with (first | (go_at_call 31; refine (of_any _ _).mono ?_; rintro e w' ⟨rfl, rfl⟩) | (go_at_call 30; refine (told_any _ _).mono ?_; rintro e w' ⟨rfl, rfl⟩))
  go_ret
  exact ⟨rfl, rfl⟩
theorem Add_some (a b r : Nat) (h : floatBits .add .f64 a b = some r) (w : World) : Calls Try.prog 18 #[.int .u64 a, .int .u64 b] w fun e w' => e = .returned (.int .u64 (canonW r)) ∧ w = w' := by
  have hm : ∀ w : World, (binOp .add 48 (.float .f64 a) (.float .f64 b)).run Try.prog w = .ok (.float .f64 r) w := fun w => run_float_arith w .add 48 .f64 a b r h
  clear h
  go_enter Try.func18, Try.ntmps18
  go_wp2_with (first | (go_at_call 31; refine (of_any _ _).mono ?_; rintro e w' ⟨rfl, rfl⟩) | (go_at_call 30; refine (told_any _ _).mono ?_; rintro e w' ⟨rfl, rfl⟩))
  go_ret
  exact ⟨rfl, rfl⟩
theorem Add_none (a b : Nat) (h : floatBits .add .f64 a b = none) (w : World) : Calls Try.prog 18 #[.int .u64 a, .int .u64 b] w fun e w' => e = .returned (.int .u64 NANW) ∧ w.drew = w' := by
  have hm : ∀ w : World, (binOp .add 48 (.float .f64 a) (.float .f64 b)).run Try.prog w = .ok (.float .f64 (drawnNaN a b w)) w.drew := fun w => arith_none .add 48 a b (.inl rfl) h w
  have hc : canonW (drawnNaN a b w) = NANW := cut_isNaN a b _
  rw [← hc]
  clear h hc
  go_enter Try.func18, Try.ntmps18
  go_wp2_with (first | (go_at_call 31; refine (of_any _ _).mono ?_; rintro e w' ⟨rfl, rfl⟩) | (go_at_call 30; refine (told_any _ _).mono ?_; rintro e w' ⟨rfl, rfl⟩))
  go_ret
  exact ⟨rfl, rfl⟩
theorem Sub_some (a b r : Nat) (h : floatBits .sub .f64 a b = some r) (w : World) : Calls Try.prog 21 #[.int .u64 a, .int .u64 b] w fun e w' => e = .returned (.int .u64 (canonW r)) ∧ w = w' := by
  have hm : ∀ w : World, (binOp .sub 48 (.float .f64 a) (.float .f64 b)).run Try.prog w = .ok (.float .f64 r) w := fun w => run_float_arith w .sub 48 .f64 a b r h
  clear h
  go_enter Try.func21, Try.ntmps21
  go_wp2_with (first | (go_at_call 31; refine (of_any _ _).mono ?_; rintro e w' ⟨rfl, rfl⟩) | (go_at_call 30; refine (told_any _ _).mono ?_; rintro e w' ⟨rfl, rfl⟩))
  go_ret
  exact ⟨rfl, rfl⟩
theorem Sub_none (a b : Nat) (h : floatBits .sub .f64 a b = none) (w : World) : Calls Try.prog 21 #[.int .u64 a, .int .u64 b] w fun e w' => e = .returned (.int .u64 NANW) ∧ w.drew = w' := by
  have hm : ∀ w : World, (binOp .sub 48 (.float .f64 a) (.float .f64 b)).run Try.prog w = .ok (.float .f64 (drawnNaN a b w)) w.drew := fun w => arith_none .sub 48 a b (.inr (.inl rfl)) h w
  have hc : canonW (drawnNaN a b w) = NANW := cut_isNaN a b _
  rw [← hc]
  clear h hc
  go_enter Try.func21, Try.ntmps21
  go_wp2_with (first | (go_at_call 31; refine (of_any _ _).mono ?_; rintro e w' ⟨rfl, rfl⟩) | (go_at_call 30; refine (told_any _ _).mono ?_; rintro e w' ⟨rfl, rfl⟩))
  go_ret
  exact ⟨rfl, rfl⟩
end Go.Proofs.Ytknpffoglcogeaa.Float
