/- What the program's Add, Sub, Mul (layer 2) answer: IEEE 754's word, and one NaN where there is none. Condition: the arguments are words of 64 bits. -/
import Derived.Test.YtknpffoglcogeaaFloat
import Derived.Test.YtknpffoglcogeaaFlC
namespace Go.Proofs.Ytknpffoglcogeaa.Float
open Go Go.RowKit Go.Proofs.Ytknpffoglcogeaa.Fl

theorem isNaN_eq (a : Nat) : isNaN a = decide (INF < rg a) := by
  unfold isNaN D
  by_cases h : INF < rg a
  · rw [order_nan (.inl h), decide_eq_true h]; rfl
  · rw [order_eq (by omega) (by omega), cmp_eq rfl, decide_eq_false h]; rfl
theorem canon_num {a : Nat} (h : rg a ≤ INF) : canonW a = a := by
  unfold canonW; rw [isNaN_eq, decide_eq_false (by omega)]; rfl
theorem canon_nan {a : Nat} (h : INF < rg a) : canonW a = NANW := by
  unfold canonW; rw [isNaN_eq, decide_eq_true h]; rfl
theorem cut_isNaN (a b t : Nat) : canonW ((Question.nanBits .f64 a b).cut t) = NANW := by
  obtain ⟨s, f, hf, e⟩ := cut_nan a b t
  rw [e]
  apply canon_nan
  unfold rg
  have h63 : (2 : Nat) ^ 63 = 9223372036854775808 := by decide
  have h52 : (2 : Nat) ^ 52 = 4503599627370496 := by decide
  have hI : INF = 9218868437227405312 := by unfold INF; decide
  rw [h63, hI]
  rw [h52] at hf
  cases s
  · rw [if_neg (by simp)]; omega
  · rw [if_pos rfl]; omega

theorem Mul_some (a b r : Nat) (h : floatBits .mul .f64 a b = some r) (w : World) : Calls Try.prog 10 #[.int .u64 a, .int .u64 b] w fun e w' => e = .returned (.int .u64 (canonW r)) ∧ w = w' := by
  have hm : ∀ w : World, (binOp .mul 48 (.float .f64 a) (.float .f64 b)).run Try.prog w = .ok (.float .f64 r) w := fun w => run_float_arith w .mul 48 .f64 a b r h
  clear h
  go_enter Try.func10, Try.ntmps10
  go_wp2_with (first | (go_at_call 31; refine (of_any _ _).mono ?_; rintro e w' ⟨rfl, rfl⟩) | (go_at_call 30; refine (told_any _ _).mono ?_; rintro e w' ⟨rfl, rfl⟩))
  go_ret
  exact ⟨rfl, rfl⟩
theorem Mul_none (a b : Nat) (h : floatBits .mul .f64 a b = none) (w : World) : Calls Try.prog 10 #[.int .u64 a, .int .u64 b] w fun e w' => e = .returned (.int .u64 NANW) ∧ w.drew = w' := by
  have hm : ∀ w : World, (binOp .mul 48 (.float .f64 a) (.float .f64 b)).run Try.prog w = .ok (.float .f64 (drawnNaN a b w)) w.drew := fun w => arith_none .mul 48 a b (.inr (.inr (.inl rfl))) h w
  have hc : canonW (drawnNaN a b w) = NANW := cut_isNaN a b _
  rw [← hc]
  clear h hc
  go_enter Try.func10, Try.ntmps10
  go_wp2_with (first | (go_at_call 31; refine (of_any _ _).mono ?_; rintro e w' ⟨rfl, rfl⟩) | (go_at_call 30; refine (told_any _ _).mono ?_; rintro e w' ⟨rfl, rfl⟩))
  go_ret
  exact ⟨rfl, rfl⟩
theorem Add_some (a b r : Nat) (h : floatBits .add .f64 a b = some r) (w : World) : Calls Try.prog 18 #[.int .u64 a, .int .u64 b] w fun e w' => e = .returned (.int .u64 (canonW r)) ∧ w = w' := by
  have hm : ∀ w : World, (binOp .add 48 (.float .f64 a) (.float .f64 b)).run Try.prog w = .ok (.float .f64 r) w := fun w => run_float_arith w .add 48 .f64 a b r h
  clear h
  go_enter Try.func18, Try.ntmps18
  go_wp2_with (first | (go_at_call 31; refine (of_any _ _).mono ?_; rintro e w' ⟨rfl, rfl⟩) | (go_at_call 30; refine (told_any _ _).mono ?_; rintro e w' ⟨rfl, rfl⟩))
  go_ret
  exact ⟨rfl, rfl⟩
theorem Add_none (a b : Nat) (h : floatBits .add .f64 a b = none) (w : World) : Calls Try.prog 18 #[.int .u64 a, .int .u64 b] w fun e w' => e = .returned (.int .u64 NANW) ∧ w.drew = w' := by
  have hm : ∀ w : World, (binOp .add 48 (.float .f64 a) (.float .f64 b)).run Try.prog w = .ok (.float .f64 (drawnNaN a b w)) w.drew := fun w => arith_none .add 48 a b (.inl rfl) h w
  have hc : canonW (drawnNaN a b w) = NANW := cut_isNaN a b _
  rw [← hc]
  clear h hc
  go_enter Try.func18, Try.ntmps18
  go_wp2_with (first | (go_at_call 31; refine (of_any _ _).mono ?_; rintro e w' ⟨rfl, rfl⟩) | (go_at_call 30; refine (told_any _ _).mono ?_; rintro e w' ⟨rfl, rfl⟩))
  go_ret
  exact ⟨rfl, rfl⟩
theorem Sub_some (a b r : Nat) (h : floatBits .sub .f64 a b = some r) (w : World) : Calls Try.prog 21 #[.int .u64 a, .int .u64 b] w fun e w' => e = .returned (.int .u64 (canonW r)) ∧ w = w' := by
  have hm : ∀ w : World, (binOp .sub 48 (.float .f64 a) (.float .f64 b)).run Try.prog w = .ok (.float .f64 r) w := fun w => run_float_arith w .sub 48 .f64 a b r h
  clear h
  go_enter Try.func21, Try.ntmps21
  go_wp2_with (first | (go_at_call 31; refine (of_any _ _).mono ?_; rintro e w' ⟨rfl, rfl⟩) | (go_at_call 30; refine (told_any _ _).mono ?_; rintro e w' ⟨rfl, rfl⟩))
  go_ret
  exact ⟨rfl, rfl⟩
theorem Sub_none (a b : Nat) (h : floatBits .sub .f64 a b = none) (w : World) : Calls Try.prog 21 #[.int .u64 a, .int .u64 b] w fun e w' => e = .returned (.int .u64 NANW) ∧ w.drew = w' := by
  have hm : ∀ w : World, (binOp .sub 48 (.float .f64 a) (.float .f64 b)).run Try.prog w = .ok (.float .f64 (drawnNaN a b w)) w.drew := fun w => arith_none .sub 48 a b (.inr (.inl rfl)) h w
  have hc : canonW (drawnNaN a b w) = NANW := cut_isNaN a b _
  rw [← hc]
  clear h hc
  go_enter Try.func21, Try.ntmps21
  go_wp2_with (first | (go_at_call 31; refine (of_any _ _).mono ?_; rintro e w' ⟨rfl, rfl⟩) | (go_at_call 30; refine (told_any _ _).mono ?_; rintro e w' ⟨rfl, rfl⟩))
  go_ret
  exact ⟨rfl, rfl⟩
end Go.Proofs.Ytknpffoglcogeaa.Float
