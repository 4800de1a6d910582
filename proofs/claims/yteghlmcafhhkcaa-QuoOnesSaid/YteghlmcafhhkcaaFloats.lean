/- What the program's float functions of the layers 1 and 2 do: each answers with a word that is a plain function of its arguments' words; the world is as it was, but for draws (where an operation has no answer the model draws a NaN, and the program turns every NaN into one). No conditions but that the arguments are words of 64 bits. -/
import Derived.Test.YteghlmcafhhkcaaProg
import Derived.WalkKit
import Derived.KernelRfl
import Derived.Laws.Externs
import Derived.Laws.Cover2
import Derived.Laws.FloatArith
import Derived.Laws.NewFold
import Derived.Test.YteghlmcafhhkcaaPlain
namespace Go.Proofs.Yteghlmcafhhkcaa.Float
open Go Go.RowKit Go.Proofs.Yteghlmcafhhkcaa.Fl

def D : Ieee.Format := Ieee.double
def isNaN (a : Nat) : Bool := D.order a a != some .eq
def NANW : Nat := 9221120237041090560
def canonW (a : Nat) : Nat := if isNaN a then NANW else a

theorem frombits_run (n : Int) (w : World) : (callFunc 43 #[.int .u64 n]).run Try.prog w = .ok (.value (.float .f64 n.toNat)) w := by
  rw [run_callFunc_extern (fn := Try.f43) (e := Extern.MathFloatBits.float64frombits) Try.func43 (by kernel_rfl) (by kernel_rfl) (by kernel_rfl) (by kernel_rfl)]
  rfl
theorem bits_run (n : Nat) (w : World) : (callFunc 42 #[.float .f64 n]).run Try.prog w = .ok (.value (.int .u64 n)) w := (run_callFunc_extern (fn := Try.f42) (e := Extern.MathFloatBits.float64bits) Try.func42 (by kernel_rfl) (by kernel_rfl) (by kernel_rfl) (by kernel_rfl) #[.float .f64 n] w).trans rfl
attribute [local go_sem] frombits_run

theorem neq_run (a : Nat) : (FloatKind.f64.format.order a a != some .eq) = isNaN a := rfl

theorem canon_any (a : Nat) (w : World) : Calls Try.prog 55 #[.int .u64 a] w fun e w' => e = .returned (.int .u64 (canonW a)) ∧ w = w' := by
  by_cases h : isNaN a = true
  · have h1 : (FloatKind.f64.format.order a a != some .eq) = true := h
    have e1 : canonW a = NANW := by unfold canonW; rw [if_pos h]
    rw [e1]
    clear h e1
    go_enter Try.func55, Try.ntmps55
    go_wp2
    go_ret
    exact ⟨rfl, rfl⟩
  · have h1 : (FloatKind.f64.format.order a a != some .eq) = false := Bool.eq_false_iff.2 h
    have e1 : canonW a = a := by unfold canonW; rw [if_neg h]
    rw [e1]
    clear h e1
    go_enter Try.func55, Try.ntmps55
    go_wp2
    go_ret
    exact ⟨rfl, rfl⟩
theorem Canon_any (a : Nat) (w : World) : Calls Try.prog 41 #[.int .u64 a] w fun e w' => e = .returned (.int .u64 (canonW a)) ∧ w = w' := by
  go_enter Try.func41, Try.ntmps41
  go_wp2_with (go_at_call 55; refine (canon_any _ _).mono ?_; rintro e w' ⟨rfl, rfl⟩)
  go_ret
  exact ⟨rfl, rfl⟩
/-- what the program makes of an operation's answer: the word, or the one NaN -/
def ansW (r : Option Nat) : Nat := match r with
  | some b => canonW b
  | none => NANW
theorem arith_none (op : BinOp) (t : TypeId) (a b : Nat) (ho : op = .add ∨ op = .sub ∨ op = .mul ∨ op = .quo) (h : floatBits op .f64 a b = none) (w : World) :
    (binOp op t (.float .f64 a) (.float .f64 b)).run Try.prog w = .ok (.float .f64 ((Question.nanBits .f64 a b).cut (w.tape w.drawn (Question.nanBits .f64 a b)))) w.drew := by
  unfold floatBits at h
  rcases ho with rfl | rfl | rfl | rfl <;> simp only at h <;> simp [binOp, Op.floatArith, h, Question.forced]
def drawnNaN (a b : Nat) (w : World) : Nat := (Question.nanBits .f64 a b).cut (w.tape w.drawn (Question.nanBits .f64 a b))
theorem cut_nan (a b t : Nat) : ∃ s : Bool, ∃ f : Nat, f < 2 ^ 52 - 1 ∧ (Question.nanBits .f64 a b).cut t = (if s then 2 ^ 63 else 0) + INF + 1 + f := by
  refine ⟨t % 2 == 1, (t / 2) % (2 ^ 52 - 1), Nat.mod_lt _ (by decide), ?_⟩
  have e : (Question.nanBits .f64 a b).cut t = (t % 2) * 2 ^ 63 + 0x7ff0000000000000 + 1 + (t / 2) % (2 ^ 52 - 1) := rfl
  rw [e]
  have hI : INF = 0x7ff0000000000000 := by unfold INF; decide
  rw [hI]
  generalize (t / 2) % (2 ^ 52 - 1) = f
  by_cases c : t % 2 = 1
  · rw [c, if_pos (by rfl)]
  · have c0 : t % 2 = 0 := by omega
    rw [c0, if_neg (by decide)]
theorem isNaN_eq (a : Nat) : isNaN a = decide (INF < rg a) := by
  unfold isNaN D
  by_cases h : INF < rg a
  · rw [order_nan (.inl h), decide_eq_true h]; rfl
  · rw [order_eq (by omega) (by omega), cmp_eq rfl, decide_eq_false h]; rfl
theorem canon_num {a : Nat} (h : rg a ≤ INF) : canonW a = a := by
  unfold canonW; rw [isNaN_eq, decide_eq_false (by omega)]; rfl
theorem canon_nan {a : Nat} (h : INF < rg a) : canonW a = NANW := by
  unfold canonW; rw [isNaN_eq, decide_eq_true h]; rfl
theorem cut_isNaN (a b t : Nat) : canonW ((Question.nanBits .f64 a b).cut t) = NANW := by
  obtain ⟨s, f, hf, e⟩ := cut_nan a b t
  rw [e]
  apply canon_nan
  unfold rg
  have h63 : (2 : Nat) ^ 63 = 9223372036854775808 := by decide
  have h52 : (2 : Nat) ^ 52 = 4503599627370496 := by decide
  have hI : INF = 9218868437227405312 := by unfold INF; decide
  rw [h63, hI]
  rw [h52] at hf
  cases s
  · rw [if_neg (by simp)]; omega
  · rw [if_pos rfl]; omega

end Go.Proofs.Yteghlmcafhhkcaa.Float
