-- (head)
import Derived.Test.YtonbbjgcnfipeaaRefx0
import Derived.Test.YtonbbjgcnfipeaaShelf
namespace Go.Proofs.Ytonbbjgcnfipeaa.Ref
open Go.RowKit Go.Proofs.YtonbbjgcnfipeaaW.PrintWords Go.Proofs.YtonbbjgcnfipeaaW.PrintLast Go.Proofs.YtonbbjgcnfipeaaW.PrintMore
attribute [local go_sem] max2_int min2_int max_two min_two max_three min_three max_four min_four   -- for this text's walks alone
set_option linter.unusedVariables false
set_option linter.unusedSimpArgs false

/-! ### bits_Len64: function 29, by the shelf's contract -/
def bits_Len64.f (_ : Nat) (a0 : Int) : Option (Int) := if 0 ≤ a0 then (if a0 ≤ 18446744073709551615 then some ((Lib.bitLen a0.toNat : Nat) : Int) else none) else none
theorem bits_Len64.mono : ∀ a0 k, LeO (bits_Len64.f k a0) (bits_Len64.f (k + 1) a0) := fun _ _ => LeO.refl _
theorem bits_Len64.calls (k : Nat) (a0 : Int) (r : Int) (w : World) (h : bits_Len64.f k a0 = some r) :
    Calls Try.prog 29 #[.int .u64 a0] w fun e w' => e = .returned (.int .i64 r) ∧ Drawn0 w w' := by
  unfold bits_Len64.f at h
  by_cases h0 : 0 ≤ a0
  · rw [if_pos h0] at h
    by_cases h1 : a0 ≤ 18446744073709551615
    · rw [if_pos h1] at h
      obtain rfl := Option.some.inj h
      refine (Try.bits_Len64 a0 w h0 h1).mono ?_
      rintro e w' ⟨rfl, rfl⟩
      exact ⟨rfl, Drawn0.refl _⟩
    · rw [if_neg h1] at h; cases h
  · rw [if_neg h0] at h; cases h

/-! ### flo_shifted: function 30 -/
def flo_shifted.f (a0 : Int) (a1 : Bool) (a2 : Int) : Option (Int) := if 0 ≤ a2 then (if a2 > 64 then (some 0) else (if 0 ≤ (wrap64 (a2 - 1)) then (if (Go.bits .and .u64 a0 (IntKind.u64.wrap ((shl .u64 1 a2) - 1))) > (shl .u64 1 (wrap64 (a2 - 1))) then (some (IntKind.u64.wrap ((shr .u64 a0 a2) + 1))) else (if (Go.bits .and .u64 a0 (IntKind.u64.wrap ((shl .u64 1 a2) - 1))) = (shl .u64 1 (wrap64 (a2 - 1))) then (if a1 = true then (some (IntKind.u64.wrap ((shr .u64 a0 a2) + 1))) else (if (Go.bits .and .u64 (shr .u64 a0 a2) 1) = 1 then (some (IntKind.u64.wrap ((shr .u64 a0 a2) + 1))) else (some (shr .u64 a0 a2)))) else (some (shr .u64 a0 a2)))) else (none))) else (none)
set_option maxHeartbeats 8000000 in
set_option maxRecDepth 100000 in
theorem flo_shifted.calls (a0 : Int) (a1 : Bool) (a2 : Int) (r : Int) (w : World) (h : flo_shifted.f a0 a1 a2 = some r) :
    Calls Try.prog 30 #[.int .u64 a0, .bool a1, .int .i64 a2] w fun e w' => e = .returned (.int .u64 r) ∧ Drawn0 w w' := by
  have H : (if 0 ≤ a2 then (if a2 > 64 then (some 0) else (if 0 ≤ (wrap64 (a2 - 1)) then (if (Go.bits .and .u64 a0 (IntKind.u64.wrap ((shl .u64 1 a2) - 1))) > (shl .u64 1 (wrap64 (a2 - 1))) then (some (IntKind.u64.wrap ((shr .u64 a0 a2) + 1))) else (if (Go.bits .and .u64 a0 (IntKind.u64.wrap ((shl .u64 1 a2) - 1))) = (shl .u64 1 (wrap64 (a2 - 1))) then (if a1 = true then (some (IntKind.u64.wrap ((shr .u64 a0 a2) + 1))) else (if (Go.bits .and .u64 (shr .u64 a0 a2) 1) = 1 then (some (IntKind.u64.wrap ((shr .u64 a0 a2) + 1))) else (some (shr .u64 a0 a2)))) else (some (shr .u64 a0 a2)))) else (none))) else (none)) = some r := h
  clear h
  by_cases c4 : 0 ≤ a2
  · rw [if_pos c4] at H
    have c4b0 := eq_true c4
    have c4b1 : decide (0 ≤ a2) = true := decide_eq_true c4
    clear c4
    obtain ⟨ji5, hji5⟩ : ∃ j_ : Int, (shr .u64 a0 a2) = j_ := ⟨_, rfl⟩
    replace H : (if a2 > 64 then (some 0) else (if 0 ≤ (wrap64 (a2 - 1)) then (if (Go.bits .and .u64 a0 (IntKind.u64.wrap ((shl .u64 1 a2) - 1))) > (shl .u64 1 (wrap64 (a2 - 1))) then (some (IntKind.u64.wrap ((ji5) + 1))) else (if (Go.bits .and .u64 a0 (IntKind.u64.wrap ((shl .u64 1 a2) - 1))) = (shl .u64 1 (wrap64 (a2 - 1))) then (if a1 = true then (some (IntKind.u64.wrap ((ji5) + 1))) else (if (Go.bits .and .u64 (ji5) 1) = 1 then (some (IntKind.u64.wrap ((ji5) + 1))) else (some ji5))) else (some ji5))) else (none))) = some r := by first | (rw [hji5] at H; exact H) | (simp only [hji5] at H ⊢; exact H)
    have hji5_ : (a0 / 2 ^ min a2.toNat 64) = ji5 := hji5
    have hji5z : a2 ≤ 64 → (a0 / 2 ^ a2.toNat) = ji5 := shr_small hji5
    by_cases c6 : a2 > 64
    · rw [if_pos c6] at H
      have c6b0 : decide (64 < a2) = true := decide_eq_true c6
      clear c6
      obtain rfl := Option.some.inj H
      go_enter Try.func30, Try.ntmps30
      go_wp2
      repeat (go_quiet (fail); try go_wp2)
      go_ret
      exact ⟨by first | rfl | (simp; done) | (simp only [← hji5] <;> (first | rfl | simp)) | (simp [*]; done), by repeat (first | exact Drawn0.refl _ | apply Drawn0.step)⟩
    · rw [if_neg c6] at H
      have c6b0 : decide (64 < a2) = false := decide_eq_false c6
      clear c6
      have c7b0 := eq_true (of_decide_eq_true (by first | (with_reducible assumption) | assumption) : 0 ≤ a2)
      obtain ⟨ji8, hji8⟩ : ∃ j_ : Int, (shl .u64 1 a2) = j_ := ⟨_, rfl⟩
      replace H : (if 0 ≤ (wrap64 (a2 - 1)) then (if (Go.bits .and .u64 a0 (IntKind.u64.wrap ((ji8) - 1))) > (shl .u64 1 (wrap64 (a2 - 1))) then (some (IntKind.u64.wrap ((ji5) + 1))) else (if (Go.bits .and .u64 a0 (IntKind.u64.wrap ((ji8) - 1))) = (shl .u64 1 (wrap64 (a2 - 1))) then (if a1 = true then (some (IntKind.u64.wrap ((ji5) + 1))) else (if (Go.bits .and .u64 (ji5) 1) = 1 then (some (IntKind.u64.wrap ((ji5) + 1))) else (some ji5))) else (some ji5))) else (none)) = some r := by first | (rw [hji8] at H; exact H) | (simp only [hji8] at H ⊢; exact H)
      have hji8_ : (IntKind.u64.wrap (1 * 2 ^ min a2.toNat 64)) = ji8 := hji8
      have hji8z : a2 ≤ 64 → (IntKind.u64.wrap (1 * 2 ^ a2.toNat)) = ji8 := shl_small hji8
      have hji8u : (IntKind.u64.wrap (2 ^ min a2.toNat 64)) = ji8 := by have h_ := hji8_; rw [Int.one_mul] at h_; exact h_
      have hji8v : a2 ≤ 64 → (IntKind.u64.wrap (2 ^ a2.toNat)) = ji8 := fun hle_ => by have h_ := hji8z hle_; rw [Int.one_mul] at h_; exact h_
      obtain ⟨ji9, hji9⟩ : ∃ j_ : Int, (wrap64 (a2 - 1)) = j_ := ⟨_, rfl⟩
      replace H : (if 0 ≤ (ji9) then (if (Go.bits .and .u64 a0 (IntKind.u64.wrap ((ji8) - 1))) > (shl .u64 1 (ji9)) then (some (IntKind.u64.wrap ((ji5) + 1))) else (if (Go.bits .and .u64 a0 (IntKind.u64.wrap ((ji8) - 1))) = (shl .u64 1 (ji9)) then (if a1 = true then (some (IntKind.u64.wrap ((ji5) + 1))) else (if (Go.bits .and .u64 (ji5) 1) = 1 then (some (IntKind.u64.wrap ((ji5) + 1))) else (some ji5))) else (some ji5))) else (none)) = some r := by first | (rw [hji9] at H; exact H) | (simp only [hji9] at H ⊢; exact H)
      have hji9w : (IntKind.i64.wrap (a2 - 1)) = ji9 := (i64_w _).trans hji9
      by_cases c10 : 0 ≤ (ji9)
      · rw [if_pos c10] at H
        have c10b0 := eq_true c10
        have c10b1 : decide (0 ≤ (ji9)) = true := decide_eq_true c10
        clear c10
        obtain ⟨ji11, hji11⟩ : ∃ j_ : Int, (shl .u64 1 (ji9)) = j_ := ⟨_, rfl⟩
        replace H : (if (Go.bits .and .u64 a0 (IntKind.u64.wrap ((ji8) - 1))) > (ji11) then (some (IntKind.u64.wrap ((ji5) + 1))) else (if (Go.bits .and .u64 a0 (IntKind.u64.wrap ((ji8) - 1))) = (ji11) then (if a1 = true then (some (IntKind.u64.wrap ((ji5) + 1))) else (if (Go.bits .and .u64 (ji5) 1) = 1 then (some (IntKind.u64.wrap ((ji5) + 1))) else (some ji5))) else (some ji5))) = some r := by first | (rw [hji11] at H; exact H) | (simp only [hji11] at H ⊢; exact H)
        have hji11_ : (IntKind.u64.wrap (1 * 2 ^ min (ji9).toNat 64)) = ji11 := hji11
        have hji11z : (ji9) ≤ 64 → (IntKind.u64.wrap (1 * 2 ^ (ji9).toNat)) = ji11 := shl_small hji11
        have hji11u : (IntKind.u64.wrap (2 ^ min (ji9).toNat 64)) = ji11 := by have h_ := hji11_; rw [Int.one_mul] at h_; exact h_
        have hji11v : (ji9) ≤ 64 → (IntKind.u64.wrap (2 ^ (ji9).toNat)) = ji11 := fun hle_ => by have h_ := hji11z hle_; rw [Int.one_mul] at h_; exact h_
        by_cases c12 : (Go.bits .and .u64 a0 (IntKind.u64.wrap ((ji8) - 1))) > (ji11)
        · rw [if_pos c12] at H
          have c12b0 : decide ((ji11) < (Go.bits .and .u64 a0 (IntKind.u64.wrap ((ji8) - 1)))) = true := decide_eq_true c12
          clear c12
          obtain rfl := Option.some.inj H
          go_enter Try.func30, Try.ntmps30
          go_wp2
          repeat (go_quiet (fail); try go_wp2)
          go_ret
          exact ⟨by first | rfl | (simp; done) | (simp only [← hji5, ← hji8, ← hji9, ← hji11] <;> (first | rfl | simp)) | (simp [*]; done), by repeat (first | exact Drawn0.refl _ | apply Drawn0.step)⟩
        · rw [if_neg c12] at H
          have c12b0 : decide ((ji11) < (Go.bits .and .u64 a0 (IntKind.u64.wrap ((ji8) - 1)))) = false := decide_eq_false c12
          clear c12
          by_cases c13 : (Go.bits .and .u64 a0 (IntKind.u64.wrap ((ji8) - 1))) = (ji11)
          · rw [if_pos c13] at H
            have c13b0 : ((Go.bits .and .u64 a0 (IntKind.u64.wrap ((ji8) - 1))) == (ji11)) = true := beq_iff_eq.mpr c13
            have c13b1 : ((Go.bits .and .u64 a0 (IntKind.u64.wrap ((ji8) - 1))) != (ji11)) = false := bne_eq_false_iff_eq.mpr c13
            clear c13
            by_cases c14 : a1 = true
            · subst c14
              have H1 : (some (IntKind.u64.wrap ((ji5) + 1))) = some r := by rw [if_pos rfl] at H; exact H
              clear H
              have H := H1
              clear H1
              obtain rfl := Option.some.inj H
              go_enter Try.func30, Try.ntmps30
              go_wp2
              repeat (go_quiet (fail); try go_wp2)
              go_ret
              exact ⟨by first | rfl | (simp; done) | (simp only [← hji5, ← hji8, ← hji9, ← hji11] <;> (first | rfl | simp)) | (simp [*]; done), by repeat (first | exact Drawn0.refl _ | apply Drawn0.step)⟩
            · replace c14 := Bool.eq_false_iff.mpr c14
              subst c14
              have H1 : (if (Go.bits .and .u64 (ji5) 1) = 1 then (some (IntKind.u64.wrap ((ji5) + 1))) else (some ji5)) = some r := by rw [if_neg (show ¬ (false = true) by decide)] at H; exact H
              clear H
              have H := H1
              clear H1
              by_cases c15 : (Go.bits .and .u64 (ji5) 1) = 1
              · rw [if_pos c15] at H
                have c15b0 : ((Go.bits .and .u64 (ji5) 1) == 1) = true := beq_iff_eq.mpr c15
                have c15b1 : ((Go.bits .and .u64 (ji5) 1) != 1) = false := bne_eq_false_iff_eq.mpr c15
                clear c15
                obtain rfl := Option.some.inj H
                go_enter Try.func30, Try.ntmps30
                go_wp2
                repeat (go_quiet (fail); try go_wp2)
                go_ret
                exact ⟨by first | rfl | (simp; done) | (simp only [← hji5, ← hji8, ← hji9, ← hji11] <;> (first | rfl | simp)) | (simp [*]; done), by repeat (first | exact Drawn0.refl _ | apply Drawn0.step)⟩
              · rw [if_neg c15] at H
                have c15b0 : ((Go.bits .and .u64 (ji5) 1) == 1) = false := beq_eq_false_iff_ne.mpr c15
                have c15b1 : ((Go.bits .and .u64 (ji5) 1) != 1) = true := bne_iff_ne.mpr c15
                obtain rfl := Option.some.inj H
                go_enter Try.func30, Try.ntmps30
                go_wp2
                repeat (go_quiet (fail); try go_wp2)
                go_ret
                exact ⟨by first | rfl | (simp; done) | (simp only [← hji5, ← hji8, ← hji9, ← hji11] <;> (first | rfl | simp)) | (simp [*]; done), by repeat (first | exact Drawn0.refl _ | apply Drawn0.step)⟩
          · rw [if_neg c13] at H
            have c13b0 : ((Go.bits .and .u64 a0 (IntKind.u64.wrap ((ji8) - 1))) == (ji11)) = false := beq_eq_false_iff_ne.mpr c13
            have c13b1 : ((Go.bits .and .u64 a0 (IntKind.u64.wrap ((ji8) - 1))) != (ji11)) = true := bne_iff_ne.mpr c13
            obtain rfl := Option.some.inj H
            go_enter Try.func30, Try.ntmps30
            go_wp2
            repeat (go_quiet (fail); try go_wp2)
            go_ret
            exact ⟨by first | rfl | (simp; done) | (simp only [← hji5, ← hji8, ← hji9, ← hji11] <;> (first | rfl | simp)) | (simp [*]; done), by repeat (first | exact Drawn0.refl _ | apply Drawn0.step)⟩
      · rw [if_neg c10] at H
        exact absurd H (by simp)
  · rw [if_neg c4] at H
    exact absurd H (by simp)

/-! ### flo_Make: function 11 -/
mutual
def flo_Make.j0 : Nat → Int → Int → Bool → Int → Option (Int)
  | 0, _, _, _, _ => none
  | k + 1, x1, x2, x3, x9 => if x2 = 0 then (if x3 = true then (flo_Make.j1 k ((mn (mx x1 (-1048576)) 1048576) - 1) 1 false x9) else (some x9)) else (flo_Make.j1 k (mn (mx x1 (-1048576)) 1048576) x2 x3 x9)
def flo_Make.j1 : Nat → Int → Int → Bool → Int → Option (Int)
  | 0, _, _, _, _ => none
  | k + 1, x1, x2, x3, x9 => (bits_Len64.f k x2).bind fun t101 => (if (mx (wrap64 ((wrap64 (t101 - 52)) - 1)) (wrap64 ((-1074) - x1))) > 0 then ((flo_shifted.f x2 x3 (mx (wrap64 ((wrap64 (t101 - 52)) - 1)) (wrap64 ((-1074) - x1)))).bind fun t102 => (flo_Make.j2 k x1 t102 x9 (mx (wrap64 ((wrap64 (t101 - 52)) - 1)) (wrap64 ((-1074) - x1))))) else (if (mx (wrap64 ((wrap64 (t101 - 52)) - 1)) (wrap64 ((-1074) - x1))) = 0 then (if x3 = true then (flo_Make.j2 k x1 (IntKind.u64.wrap (x2 + (Go.bits .and .u64 x2 1))) x9 (mx (wrap64 ((wrap64 (t101 - 52)) - 1)) (wrap64 ((-1074) - x1)))) else (flo_Make.j2 k x1 x2 x9 (mx (wrap64 ((wrap64 (t101 - 52)) - 1)) (wrap64 ((-1074) - x1))))) else (if 0 ≤ (wrap64 (-(mx (wrap64 ((wrap64 (t101 - 52)) - 1)) (wrap64 ((-1074) - x1))))) then (if x3 = true then (if 0 ≤ (wrap64 ((wrap64 (-(mx (wrap64 ((wrap64 (t101 - 52)) - 1)) (wrap64 ((-1074) - x1))))) - 1)) then (flo_Make.j2 k x1 (Go.bits .or .u64 (shl .u64 x2 (wrap64 (-(mx (wrap64 ((wrap64 (t101 - 52)) - 1)) (wrap64 ((-1074) - x1)))))) (shl .u64 1 (wrap64 ((wrap64 (-(mx (wrap64 ((wrap64 (t101 - 52)) - 1)) (wrap64 ((-1074) - x1))))) - 1)))) x9 (mx (wrap64 ((wrap64 (t101 - 52)) - 1)) (wrap64 ((-1074) - x1)))) else (none)) else (flo_Make.j2 k x1 (shl .u64 x2 (wrap64 (-(mx (wrap64 ((wrap64 (t101 - 52)) - 1)) (wrap64 ((-1074) - x1)))))) x9 (mx (wrap64 ((wrap64 (t101 - 52)) - 1)) (wrap64 ((-1074) - x1))))) else (none))))
def flo_Make.j2 : Nat → Int → Int → Int → Int → Option (Int)
  | 0, _, _, _, _ => none
  | k + 1, x1, x2, x9, x10 => if x2 = 9007199254740992 then (flo_Make.j3 k (wrap64 ((wrap64 (x1 + x10)) + 1)) 4503599627370496 x9) else (flo_Make.j3 k (wrap64 (x1 + x10)) x2 x9)
def flo_Make.j3 : Nat → Int → Int → Int → Option (Int)
  | 0, _, _, _ => none
  | k + 1, x1, x2, x9 => if x2 = 0 then (some x9) else (if x1 > 971 then (some (Go.bits .or .u64 x9 9218868437227405312)) else (if x2 < 4503599627370496 then (some (Go.bits .or .u64 x9 x2)) else (some (Go.bits .or .u64 (Go.bits .or .u64 x9 (IntKind.u64.wrap ((IntKind.u64.wrap (wrap64 (x1 + 1075))) * 4503599627370496))) (Go.bits .and .u64 x2 4503599627370495)))))
end
def flo_Make.f (k : Nat) (a0 : Bool) (a1 : Int) (a2 : Int) (a3 : Bool) : Option (Int) := if a0 = true then (flo_Make.j0 k a1 a2 a3 9223372036854775808) else (flo_Make.j0 k a1 a2 a3 0)
theorem flo_Make.mono_l : ∀ k, (∀ y0 y1 y2 y3, LeO (flo_Make.j0 k y0 y1 y2 y3) (flo_Make.j0 (k + 1) y0 y1 y2 y3)) ∧ (∀ y0 y1 y2 y3, LeO (flo_Make.j1 k y0 y1 y2 y3) (flo_Make.j1 (k + 1) y0 y1 y2 y3)) ∧ (∀ y0 y1 y2 y3, LeO (flo_Make.j2 k y0 y1 y2 y3) (flo_Make.j2 (k + 1) y0 y1 y2 y3)) ∧ (∀ y0 y1 y2, LeO (flo_Make.j3 k y0 y1 y2) (flo_Make.j3 (k + 1) y0 y1 y2))
  | 0 => ⟨fun _ _ _ _ r h => by simp [flo_Make.j0] at h, fun _ _ _ _ r h => by simp [flo_Make.j1] at h, fun _ _ _ _ r h => by simp [flo_Make.j2] at h, fun _ _ _ r h => by simp [flo_Make.j3] at h⟩
  | k + 1 => by
    obtain ⟨ih0, ih1, ih2, ih3⟩ := flo_Make.mono_l k
    refine ⟨?_, ?_, ?_, ?_⟩
    · intro y0 y1 y2 y3
      unfold flo_Make.j0
      repeat' first
      | (with_reducible exact ih0 _ _ _ _)
      | (with_reducible exact ih1 _ _ _ _)
      | (with_reducible exact ih2 _ _ _ _)
      | (with_reducible exact ih3 _ _ _)
      | (with_reducible exact bits_Len64.mono _ _)
      | (with_reducible exact LeO.refl _)
      | (with_reducible exact LeO.none _)
      | (with_reducible refine LeO.ite ?_ ?_)
      | (with_reducible refine LeO.bind ?_ (fun _ => ?_))
      | exact ih0 _ _ _ _
      | exact ih1 _ _ _ _
      | exact ih2 _ _ _ _
      | exact ih3 _ _ _
      | exact bits_Len64.mono _ _
      | exact LeO.none _
      | refine LeO.ite ?_ ?_
      | refine LeO.bind ?_ (fun _ => ?_)
    · intro y0 y1 y2 y3
      unfold flo_Make.j1
      repeat' first
      | (with_reducible exact ih0 _ _ _ _)
      | (with_reducible exact ih1 _ _ _ _)
      | (with_reducible exact ih2 _ _ _ _)
      | (with_reducible exact ih3 _ _ _)
      | (with_reducible exact bits_Len64.mono _ _)
      | (with_reducible exact LeO.refl _)
      | (with_reducible exact LeO.none _)
      | (with_reducible refine LeO.ite ?_ ?_)
      | (with_reducible refine LeO.bind ?_ (fun _ => ?_))
      | exact ih0 _ _ _ _
      | exact ih1 _ _ _ _
      | exact ih2 _ _ _ _
      | exact ih3 _ _ _
      | exact bits_Len64.mono _ _
      | exact LeO.none _
      | refine LeO.ite ?_ ?_
      | refine LeO.bind ?_ (fun _ => ?_)
    · intro y0 y1 y2 y3
      unfold flo_Make.j2
      repeat' first
      | (with_reducible exact ih0 _ _ _ _)
      | (with_reducible exact ih1 _ _ _ _)
      | (with_reducible exact ih2 _ _ _ _)
      | (with_reducible exact ih3 _ _ _)
      | (with_reducible exact bits_Len64.mono _ _)
      | (with_reducible exact LeO.refl _)
      | (with_reducible exact LeO.none _)
      | (with_reducible refine LeO.ite ?_ ?_)
      | (with_reducible refine LeO.bind ?_ (fun _ => ?_))
      | exact ih0 _ _ _ _
      | exact ih1 _ _ _ _
      | exact ih2 _ _ _ _
      | exact ih3 _ _ _
      | exact bits_Len64.mono _ _
      | exact LeO.none _
      | refine LeO.ite ?_ ?_
      | refine LeO.bind ?_ (fun _ => ?_)
    · intro y0 y1 y2
      unfold flo_Make.j3
      repeat' first
      | (with_reducible exact ih0 _ _ _ _)
      | (with_reducible exact ih1 _ _ _ _)
      | (with_reducible exact ih2 _ _ _ _)
      | (with_reducible exact ih3 _ _ _)
      | (with_reducible exact bits_Len64.mono _ _)
      | (with_reducible exact LeO.refl _)
      | (with_reducible exact LeO.none _)
      | (with_reducible refine LeO.ite ?_ ?_)
      | (with_reducible refine LeO.bind ?_ (fun _ => ?_))
      | exact ih0 _ _ _ _
      | exact ih1 _ _ _ _
      | exact ih2 _ _ _ _
      | exact ih3 _ _ _
      | exact bits_Len64.mono _ _
      | exact LeO.none _
      | refine LeO.ite ?_ ?_
      | refine LeO.bind ?_ (fun _ => ?_)
theorem flo_Make.mono : ∀ a0 a1 a2 a3 k, LeO (flo_Make.f k a0 a1 a2 a3) (flo_Make.f (k + 1) a0 a1 a2 a3) := by
  intro a0 a1 a2 a3 k
  obtain ⟨ih0, ih1, ih2, ih3⟩ := flo_Make.mono_l k
  unfold flo_Make.f
  repeat' first
      | (with_reducible exact ih0 _ _ _ _)
      | (with_reducible exact ih1 _ _ _ _)
      | (with_reducible exact ih2 _ _ _ _)
      | (with_reducible exact ih3 _ _ _)
      | (with_reducible exact bits_Len64.mono _ _)
      | (with_reducible exact LeO.refl _)
      | (with_reducible exact LeO.none _)
      | (with_reducible refine LeO.ite ?_ ?_)
      | (with_reducible refine LeO.bind ?_ (fun _ => ?_))
      | exact ih0 _ _ _ _
      | exact ih1 _ _ _ _
      | exact ih2 _ _ _ _
      | exact ih3 _ _ _
      | exact bits_Len64.mono _ _
      | exact LeO.none _
      | refine LeO.ite ?_ ?_
      | refine LeO.bind ?_ (fun _ => ?_)
set_option maxHeartbeats 8000000 in
set_option maxRecDepth 100000 in
theorem flo_Make.calls (k : Nat) (a0 : Bool) (a1 : Int) (a2 : Int) (a3 : Bool) (r : Int) (w : World) (h : flo_Make.f k a0 a1 a2 a3 = some r) :
    Calls Try.prog 11 #[.bool a0, .int .i64 a1, .int .u64 a2, .bool a3] w fun e w' => e = .returned (.int .u64 r) ∧ Below w.heap.size w w' := by
  have HB := Aside0.mk (Below.refl w.heap.size w)
  have H : (if a0 = true then (flo_Make.j0 k a1 a2 a3 9223372036854775808) else (flo_Make.j0 k a1 a2 a3 0)) = some r := h
  clear h
  have HC5 := Aside0.mk H
  clear H
  go_enter Try.func11, Try.ntmps11
  go_upto_if 11 with (fail)
  go_cut [9] (fun v9 wc => ∃ (kq : Nat) (x9_4 : Int), v9 = .int .u64 x9_4 ∧ Aside0 (flo_Make.j0 kq a1 a2 a3 x9_4 = some r) ∧ Aside0 (kq ≤ k) ∧ Aside0 (Below w.heap.size w wc))
  case first =>
    have H := HC5.out
    clear HC5
    by_cases c6 : a0 = true
    · subst c6
      have H1 : (flo_Make.j0 k a1 a2 a3 9223372036854775808) = some r := by rw [if_pos rfl] at H; exact H
      clear H
      have H := H1
      clear H1
      have H' := Aside0.mk H
      clear H
      go_wp2
      go_meet
      case rel => exact ⟨_, (9223372036854775808), (by first | rfl | (simp; done) | (simp [*]; done)), H', ⟨by first | omega | exact Nat.le_refl _⟩, ⟨by repeat (first | (with_reducible first | exact HB.out | apply below_alloc | apply pw_below_drewN | apply below_drew1) | exact HB.out)⟩⟩
    · replace c6 := Bool.eq_false_iff.mpr c6
      subst c6
      have H1 : (flo_Make.j0 k a1 a2 a3 0) = some r := by rw [if_neg (show ¬ (false = true) by decide)] at H; exact H
      clear H
      have H := H1
      clear H1
      have H' := Aside0.mk H
      clear H
      go_wp2
      go_meet
      case rel => exact ⟨_, (0), (by first | rfl | (simp; done) | (simp [*]; done)), H', ⟨by first | omega | exact Nat.le_refl _⟩, ⟨by repeat (first | (with_reducible first | exact HB.out | apply below_alloc | apply pw_below_drewN | apply below_drew1) | exact HB.out)⟩⟩
  case rest =>
    clear HC5
    try clear c1
    try clear p2
    try clear c6
    obtain ⟨kq, x9_4, rfl, HA, HJ4, HB⟩ := hcut
    cases kq with
    | zero => exact absurd HA.out (by simp [flo_Make.j0])
    | succ kj4 =>
      have H := HA.out
      clear HA
      simp only [flo_Make.j0] at H
      obtain ⟨ji7, hji7⟩ : ∃ j_ : Int, (mx a1 (-1048576)) = j_ := ⟨_, rfl⟩
      replace H : (if a2 = 0 then (if a3 = true then (flo_Make.j1 kj4 ((mn (ji7) 1048576) - 1) 1 false x9_4) else (some x9_4)) else (flo_Make.j1 kj4 (mn (ji7) 1048576) a2 a3 x9_4)) = some r := by first | (rw [hji7] at H; exact H) | (simp only [hji7] at H ⊢; exact H)
      have hji7_ : (if a1 < (-1048576) then (-1048576) else a1) = ji7 := hji7
      obtain ⟨ji8, hji8⟩ : ∃ j_ : Int, (mn (ji7) 1048576) = j_ := ⟨_, rfl⟩
      replace H : (if a2 = 0 then (if a3 = true then (flo_Make.j1 kj4 ((ji8) - 1) 1 false x9_4) else (some x9_4)) else (flo_Make.j1 kj4 ji8 a2 a3 x9_4)) = some r := by first | (rw [hji8] at H; exact H) | (simp only [hji8] at H ⊢; exact H)
      have hji8_ : (if 1048576 < (ji7) then 1048576 else (ji7)) = ji8 := hji8
      have HC9 := Aside0.mk H
      clear H
      go_upto_if 16 with (fail)
      go_cut [1, 2, 3] (fun v1 v2 v3 wc => ∃ (kq : Nat) (x1_8 : Int) (x2_8 : Int) (x3_8 : Bool), v1 = .int .i64 x1_8 ∧ v2 = .int .u64 x2_8 ∧ v3 = .bool x3_8 ∧ Aside0 (flo_Make.j1 kq x1_8 x2_8 x3_8 x9_4 = some r) ∧ Aside0 (kq ≤ kj4) ∧ Aside0 (Below w.heap.size w wc))
      case first =>
        have H := HC9.out
        clear HC9
        by_cases c10 : a2 = 0
        · rw [if_pos c10] at H
          have c10b0 : (a2 == 0) = true := beq_iff_eq.mpr c10
          have c10b1 : (a2 != 0) = false := bne_eq_false_iff_eq.mpr c10
          clear c10
          (first | rw [c10b0] | (simp only [i64_w, i32_w]; rw [c10b0]) | skip)
          by_cases c11 : a3 = true
          · subst c11
            have H1 : (flo_Make.j1 kj4 ((ji8) - 1) 1 false x9_4) = some r := by rw [if_pos rfl] at H; exact H
            clear H
            have H := H1
            clear H1
            have H' := Aside0.mk H
            clear H
            go_wp2
            go_meet
            case rel => exact ⟨_, ((ji8) - 1), (1), (false), (by first | rfl | (simp; done) | (simp only [← hji8] <;> (first | rfl | simp)) | (simp [*]; done)), (by first | rfl | (simp; done) | (simp [*]; done)), (by first | rfl | (simp; done) | (simp [*]; done)), H', ⟨by have := HJ4.out; first | omega | exact Nat.le_refl _⟩, ⟨by repeat (first | (with_reducible first | exact HB.out | apply below_alloc | apply pw_below_drewN | apply below_drew1) | exact HB.out)⟩⟩
          · replace c11 := Bool.eq_false_iff.mpr c11
            subst c11
            have H1 : (some x9_4) = some r := by rw [if_neg (show ¬ (false = true) by decide)] at H; exact H
            clear H
            have H := H1
            clear H1
            obtain rfl := Option.some.inj H
            go_wp2
            go_ret
            exact ⟨by first | rfl | (simp [errW_none, errW_some] <;> rfl) | (simp only [← hji7, ← hji8]; first | rfl | (simp [errW_none, errW_some] <;> rfl)) | (simp [*, errW_none, errW_some] <;> rfl), by repeat (first | (with_reducible first | exact HB.out | apply below_alloc | apply pw_below_drewN | apply below_drew1) | exact HB.out)⟩
        · rw [if_neg c10] at H
          have c10b0 : (a2 == 0) = false := beq_eq_false_iff_ne.mpr c10
          have c10b1 : (a2 != 0) = true := bne_iff_ne.mpr c10
          (first | rw [c10b0] | (simp only [i64_w, i32_w]; rw [c10b0]) | skip)
          have H' := Aside0.mk H
          clear H
          go_wp2
          go_meet
          case rel => exact ⟨_, (ji8), (a2), (a3), (by first | rfl | (simp; done) | (simp only [← hji8] <;> (first | rfl | simp)) | (simp [*]; done)), (by first | rfl | (simp; done) | (simp [*]; done)), (by first | rfl | (simp; done) | (simp [*]; done)), H', ⟨by have := HJ4.out; first | omega | exact Nat.le_refl _⟩, ⟨by repeat (first | (with_reducible first | exact HB.out | apply below_alloc | apply pw_below_drewN | apply below_drew1) | exact HB.out)⟩⟩
      case rest =>
        clear HC9
        try clear c1
        try clear p2
        try clear c6
        try clear c10
        try clear c10b0
        try clear c10b1
        try clear c11
        try clear p2
        obtain ⟨kq, x1_8, x2_8, x3_8, rfl, rfl, rfl, HA, HJ8, HB⟩ := hcut
        cases kq with
        | zero => exact absurd HA.out (by simp [flo_Make.j1])
        | succ kj8 =>
          have H := HA.out
          clear HA
          simp only [flo_Make.j1] at H
          replace H := Option.bind_eq_some_iff.mp H
          obtain ⟨t101, A120, H⟩ := H
          replace H : (if (mx (wrap64 ((wrap64 (t101 - 52)) - 1)) (wrap64 ((-1074) - x1_8))) > 0 then ((flo_shifted.f x2_8 x3_8 (mx (wrap64 ((wrap64 (t101 - 52)) - 1)) (wrap64 ((-1074) - x1_8)))).bind fun t102 => (flo_Make.j2 kj8 x1_8 t102 x9_4 (mx (wrap64 ((wrap64 (t101 - 52)) - 1)) (wrap64 ((-1074) - x1_8))))) else (if (mx (wrap64 ((wrap64 (t101 - 52)) - 1)) (wrap64 ((-1074) - x1_8))) = 0 then (if x3_8 = true then (flo_Make.j2 kj8 x1_8 (IntKind.u64.wrap (x2_8 + (Go.bits .and .u64 x2_8 1))) x9_4 (mx (wrap64 ((wrap64 (t101 - 52)) - 1)) (wrap64 ((-1074) - x1_8)))) else (flo_Make.j2 kj8 x1_8 x2_8 x9_4 (mx (wrap64 ((wrap64 (t101 - 52)) - 1)) (wrap64 ((-1074) - x1_8))))) else (if 0 ≤ (wrap64 (-(mx (wrap64 ((wrap64 (t101 - 52)) - 1)) (wrap64 ((-1074) - x1_8))))) then (if x3_8 = true then (if 0 ≤ (wrap64 ((wrap64 (-(mx (wrap64 ((wrap64 (t101 - 52)) - 1)) (wrap64 ((-1074) - x1_8))))) - 1)) then (flo_Make.j2 kj8 x1_8 (Go.bits .or .u64 (shl .u64 x2_8 (wrap64 (-(mx (wrap64 ((wrap64 (t101 - 52)) - 1)) (wrap64 ((-1074) - x1_8)))))) (shl .u64 1 (wrap64 ((wrap64 (-(mx (wrap64 ((wrap64 (t101 - 52)) - 1)) (wrap64 ((-1074) - x1_8))))) - 1)))) x9_4 (mx (wrap64 ((wrap64 (t101 - 52)) - 1)) (wrap64 ((-1074) - x1_8)))) else (none)) else (flo_Make.j2 kj8 x1_8 (shl .u64 x2_8 (wrap64 (-(mx (wrap64 ((wrap64 (t101 - 52)) - 1)) (wrap64 ((-1074) - x1_8)))))) x9_4 (mx (wrap64 ((wrap64 (t101 - 52)) - 1)) (wrap64 ((-1074) - x1_8))))) else (none)))) = some r := H
          have A12 := Aside0.mk A120
          clear A120
          obtain ⟨ji13, hji13⟩ : ∃ j_ : Int, (mx (wrap64 ((wrap64 (t101 - 52)) - 1)) (wrap64 ((-1074) - x1_8))) = j_ := ⟨_, rfl⟩
          replace H : (if (ji13) > 0 then ((flo_shifted.f x2_8 x3_8 (ji13)).bind fun t102 => (flo_Make.j2 kj8 x1_8 t102 x9_4 ji13)) else (if (ji13) = 0 then (if x3_8 = true then (flo_Make.j2 kj8 x1_8 (IntKind.u64.wrap (x2_8 + (Go.bits .and .u64 x2_8 1))) x9_4 ji13) else (flo_Make.j2 kj8 x1_8 x2_8 x9_4 ji13)) else (if 0 ≤ (wrap64 (-(ji13))) then (if x3_8 = true then (if 0 ≤ (wrap64 ((wrap64 (-(ji13))) - 1)) then (flo_Make.j2 kj8 x1_8 (Go.bits .or .u64 (shl .u64 x2_8 (wrap64 (-(ji13)))) (shl .u64 1 (wrap64 ((wrap64 (-(ji13))) - 1)))) x9_4 ji13) else (none)) else (flo_Make.j2 kj8 x1_8 (shl .u64 x2_8 (wrap64 (-(ji13)))) x9_4 ji13)) else (none)))) = some r := by first | (rw [hji13] at H; exact H) | (simp only [hji13] at H ⊢; exact H)
          (try rw [hji13] at A12)
          have hji13_ : (if (wrap64 ((wrap64 (t101 - 52)) - 1)) < (wrap64 ((-1074) - x1_8)) then (wrap64 ((-1074) - x1_8)) else (wrap64 ((wrap64 (t101 - 52)) - 1))) = ji13 := hji13
          have HC14 := Aside0.mk H
          clear H
          go_upto_block 0 with (first | ((with_reducible refine gate_callee (f := 29) rfl ?_); refine goesL_ (some 23) rfl rfl Try.func29 (by kernel_rfl) rfl #[.int .u64 x2_8] rfl (by (try simp only [List.map_toArray, List.map_cons, List.map_nil]); first | done | rfl | (simp only [List.length_drop, List.length_take]; rfl)) ?_; (with_reducible refine (bits_Len64.calls kj8 x2_8 t101 _ A12.out).mono ?_); rintro e w' ⟨rfl, ⟨nd, rfl⟩⟩; refine ⟨_, rfl, ?_⟩))
          (try simp only [Act.put, List.setIfInBounds_toArray, List.set_cons_zero, List.set_cons_succ])
          go_cut [2] (fun v2 wc => ∃ (kq : Nat) (x2_13 : Int), v2 = .int .u64 x2_13 ∧ Aside0 (flo_Make.j2 kq x1_8 x2_13 x9_4 ji13 = some r) ∧ Aside0 (kq ≤ kj8) ∧ Aside0 (Below w.heap.size w wc))
          case first =>
            have H := HC14.out
            clear HC14
            by_cases c15 : (ji13) > 0
            · rw [if_pos c15] at H
              have c15b0 : decide (0 < (ji13)) = true := decide_eq_true c15
              clear c15
              (first | rw [c15b0] | (simp only [i64_w, i32_w]; rw [c15b0]) | skip)
              replace H := Option.bind_eq_some_iff.mp H
              obtain ⟨t102, A160, H⟩ := H
              replace H : (flo_Make.j2 kj8 x1_8 t102 x9_4 ji13) = some r := H
              have A16 := Aside0.mk A160
              clear A160
              have H' := Aside0.mk H
              clear H
              go_wp2_with (first | ((with_reducible refine gate_callee (f := 30) rfl ?_); refine goesL_ (some 46) rfl rfl Try.func30 (by kernel_rfl) rfl #[.int .u64 x2_8, .bool x3_8, .int .i64 ji13] rfl (by (try simp only [List.map_toArray, List.map_cons, List.map_nil]); first | done | (simp only [hji13]; rfl) | rfl | (simp only [List.length_drop, List.length_take]; rfl)) ?_; (with_reducible refine (flo_shifted.calls x2_8 x3_8 ji13 t102 _ A16.out).mono ?_); rintro e w' ⟨rfl, ⟨nd, rfl⟩⟩; refine ⟨_, rfl, ?_⟩))
              go_meet
              case rel => exact ⟨_, (t102), (by first | rfl | (simp; done) | (simp [*]; done)), H', ⟨by have := HJ4.out; have := HJ8.out; first | omega | exact Nat.le_refl _⟩, ⟨by repeat (first | (with_reducible first | exact HB.out | apply below_alloc | apply pw_below_drewN | apply below_drew1) | exact HB.out)⟩⟩
            · rw [if_neg c15] at H
              have c15b0 : decide (0 < (ji13)) = false := decide_eq_false c15
              clear c15
              (first | rw [c15b0] | (simp only [i64_w, i32_w]; rw [c15b0]) | skip)
              by_cases c17 : (ji13) = 0
              · rw [if_pos c17] at H
                have c17b0 : ((ji13) == 0) = true := beq_iff_eq.mpr c17
                have c17b1 : ((ji13) != 0) = false := bne_eq_false_iff_eq.mpr c17
                clear c17
                by_cases c18 : x3_8 = true
                · subst c18
                  have H1 : (flo_Make.j2 kj8 x1_8 (IntKind.u64.wrap (x2_8 + (Go.bits .and .u64 x2_8 1))) x9_4 ji13) = some r := by rw [if_pos rfl] at H; exact H
                  clear H
                  have H := H1
                  clear H1
                  have H' := Aside0.mk H
                  clear H
                  go_wp2
                  go_meet
                  case rel => exact ⟨_, (IntKind.u64.wrap (x2_8 + (Go.bits .and .u64 x2_8 1))), (by first | rfl | (simp; done) | (simp [*]; done)), H', ⟨by have := HJ4.out; have := HJ8.out; first | omega | exact Nat.le_refl _⟩, ⟨by repeat (first | (with_reducible first | exact HB.out | apply below_alloc | apply pw_below_drewN | apply below_drew1) | exact HB.out)⟩⟩
                · replace c18 := Bool.eq_false_iff.mpr c18
                  subst c18
                  have H1 : (flo_Make.j2 kj8 x1_8 x2_8 x9_4 ji13) = some r := by rw [if_neg (show ¬ (false = true) by decide)] at H; exact H
                  clear H
                  have H := H1
                  clear H1
                  have H' := Aside0.mk H
                  clear H
                  go_wp2
                  go_meet
                  case rel => exact ⟨_, (x2_8), (by first | rfl | (simp; done) | (simp [*]; done)), H', ⟨by have := HJ4.out; have := HJ8.out; first | omega | exact Nat.le_refl _⟩, ⟨by repeat (first | (with_reducible first | exact HB.out | apply below_alloc | apply pw_below_drewN | apply below_drew1) | exact HB.out)⟩⟩
              · rw [if_neg c17] at H
                have c17b0 : ((ji13) == 0) = false := beq_eq_false_iff_ne.mpr c17
                have c17b1 : ((ji13) != 0) = true := bne_iff_ne.mpr c17
                obtain ⟨ji19, hji19⟩ : ∃ j_ : Int, (wrap64 (-(ji13))) = j_ := ⟨_, rfl⟩
                replace H : (if 0 ≤ (ji19) then (if x3_8 = true then (if 0 ≤ (wrap64 ((ji19) - 1)) then (flo_Make.j2 kj8 x1_8 (Go.bits .or .u64 (shl .u64 x2_8 (ji19)) (shl .u64 1 (wrap64 ((ji19) - 1)))) x9_4 ji13) else (none)) else (flo_Make.j2 kj8 x1_8 (shl .u64 x2_8 (ji19)) x9_4 ji13)) else (none)) = some r := by first | (rw [hji19] at H; exact H) | (simp only [hji19] at H ⊢; exact H)
                have hji19w : (IntKind.i64.wrap (-(ji13))) = ji19 := (i64_w _).trans hji19
                by_cases c20 : 0 ≤ (ji19)
                · rw [if_pos c20] at H
                  have c20b0 := eq_true c20
                  have c20b1 : decide (0 ≤ (ji19)) = true := decide_eq_true c20
                  clear c20
                  obtain ⟨ji21, hji21⟩ : ∃ j_ : Int, (shl .u64 x2_8 (ji19)) = j_ := ⟨_, rfl⟩
                  replace H : (if x3_8 = true then (if 0 ≤ (wrap64 ((ji19) - 1)) then (flo_Make.j2 kj8 x1_8 (Go.bits .or .u64 (ji21) (shl .u64 1 (wrap64 ((ji19) - 1)))) x9_4 ji13) else (none)) else (flo_Make.j2 kj8 x1_8 ji21 x9_4 ji13)) = some r := by first | (rw [hji21] at H; exact H) | (simp only [hji21] at H ⊢; exact H)
                  have hji21_ : (IntKind.u64.wrap (x2_8 * 2 ^ min (ji19).toNat 64)) = ji21 := hji21
                  have hji21z : (ji19) ≤ 64 → (IntKind.u64.wrap (x2_8 * 2 ^ (ji19).toNat)) = ji21 := shl_small hji21
                  by_cases c22 : x3_8 = true
                  · subst c22
                    have H1 : (if 0 ≤ (wrap64 ((ji19) - 1)) then (flo_Make.j2 kj8 x1_8 (Go.bits .or .u64 (ji21) (shl .u64 1 (wrap64 ((ji19) - 1)))) x9_4 ji13) else (none)) = some r := by rw [if_pos rfl] at H; exact H
                    clear H
                    have H := H1
                    clear H1
                    obtain ⟨ji23, hji23⟩ : ∃ j_ : Int, (wrap64 ((ji19) - 1)) = j_ := ⟨_, rfl⟩
                    replace H : (if 0 ≤ (ji23) then (flo_Make.j2 kj8 x1_8 (Go.bits .or .u64 (ji21) (shl .u64 1 (ji23))) x9_4 ji13) else (none)) = some r := by first | (rw [hji23] at H; exact H) | (simp only [hji23] at H ⊢; exact H)
                    have hji23w : (IntKind.i64.wrap ((ji19) - 1)) = ji23 := (i64_w _).trans hji23
                    by_cases c24 : 0 ≤ (ji23)
                    · rw [if_pos c24] at H
                      have c24b0 := eq_true c24
                      have c24b1 : decide (0 ≤ (ji23)) = true := decide_eq_true c24
                      clear c24
                      obtain ⟨ji25, hji25⟩ : ∃ j_ : Int, (shl .u64 1 (ji23)) = j_ := ⟨_, rfl⟩
                      replace H : (flo_Make.j2 kj8 x1_8 (Go.bits .or .u64 (ji21) (ji25)) x9_4 ji13) = some r := by first | (rw [hji25] at H; exact H) | (simp only [hji25] at H ⊢; exact H)
                      have hji25_ : (IntKind.u64.wrap (1 * 2 ^ min (ji23).toNat 64)) = ji25 := hji25
                      have hji25z : (ji23) ≤ 64 → (IntKind.u64.wrap (1 * 2 ^ (ji23).toNat)) = ji25 := shl_small hji25
                      have hji25u : (IntKind.u64.wrap (2 ^ min (ji23).toNat 64)) = ji25 := by have h_ := hji25_; rw [Int.one_mul] at h_; exact h_
                      have hji25v : (ji23) ≤ 64 → (IntKind.u64.wrap (2 ^ (ji23).toNat)) = ji25 := fun hle_ => by have h_ := hji25z hle_; rw [Int.one_mul] at h_; exact h_
                      have H' := Aside0.mk H
                      clear H
                      go_wp2
                      go_meet
                      case rel => exact ⟨_, (Go.bits .or .u64 (ji21) (ji25)), (by first | rfl | (simp; done) | (simp only [← hji21, ← hji25] <;> (first | rfl | simp)) | (simp [*]; done)), H', ⟨by have := HJ4.out; have := HJ8.out; first | omega | exact Nat.le_refl _⟩, ⟨by repeat (first | (with_reducible first | exact HB.out | apply below_alloc | apply pw_below_drewN | apply below_drew1) | exact HB.out)⟩⟩
                    · rw [if_neg c24] at H
                      exact absurd H (by simp)
                  · replace c22 := Bool.eq_false_iff.mpr c22
                    subst c22
                    have H1 : (flo_Make.j2 kj8 x1_8 ji21 x9_4 ji13) = some r := by rw [if_neg (show ¬ (false = true) by decide)] at H; exact H
                    clear H
                    have H := H1
                    clear H1
                    have H' := Aside0.mk H
                    clear H
                    go_wp2
                    go_meet
                    case rel => exact ⟨_, (ji21), (by first | rfl | (simp; done) | (simp only [← hji21] <;> (first | rfl | simp)) | (simp [*]; done)), H', ⟨by have := HJ4.out; have := HJ8.out; first | omega | exact Nat.le_refl _⟩, ⟨by repeat (first | (with_reducible first | exact HB.out | apply below_alloc | apply pw_below_drewN | apply below_drew1) | exact HB.out)⟩⟩
                · rw [if_neg c20] at H
                  exact absurd H (by simp)
          case rest =>
            clear HC14
            try clear c1
            try clear c2
            try clear p2
            try clear c3
            try clear c6
            try clear p6
            try clear c10
            try clear c10b0
            try clear c10b1
            try clear c11
            try clear c15
            try clear c15b0
            try clear c17
            try clear c17b0
            try clear c17b1
            try clear c18
            try clear c20
            try clear c20b0
            try clear c20b1
            try clear c22
            try clear c24
            try clear c24b0
            try clear c24b1
            try clear p2
            obtain ⟨kq, x2_13, rfl, HA, HJ13, HB⟩ := hcut
            cases kq with
            | zero => exact absurd HA.out (by simp [flo_Make.j2])
            | succ kj13 =>
              have H := HA.out
              clear HA
              simp only [flo_Make.j2] at H
              have HC26 := Aside0.mk H
              clear H
              go_upto_if 59 with (fail)
              go_cut [1, 2] (fun v1 v2 wc => ∃ (kq : Nat) (x1_25 : Int) (x2_25 : Int), v1 = .int .i64 x1_25 ∧ v2 = .int .u64 x2_25 ∧ Aside0 (flo_Make.j3 kq x1_25 x2_25 x9_4 = some r) ∧ Aside0 (kq ≤ kj13) ∧ Aside0 (Below w.heap.size w wc))
              case first =>
                have H := HC26.out
                clear HC26
                by_cases c27 : x2_13 = 9007199254740992
                · rw [if_pos c27] at H
                  have c27b0 : (x2_13 == 9007199254740992) = true := beq_iff_eq.mpr c27
                  have c27b1 : (x2_13 != 9007199254740992) = false := bne_eq_false_iff_eq.mpr c27
                  clear c27
                  (first | rw [c27b0] | (simp only [i64_w, i32_w]; rw [c27b0]) | skip)
                  have H' := Aside0.mk H
                  clear H
                  go_wp2
                  go_meet
                  case rel => exact ⟨_, (wrap64 ((wrap64 (x1_8 + ji13)) + 1)), (4503599627370496), (by first | rfl | (simp; done) | (simp only [← hji13] <;> (first | rfl | simp)) | (simp [*]; done)), (by first | rfl | (simp; done) | (simp [*]; done)), H', ⟨by have := HJ4.out; have := HJ8.out; have := HJ13.out; first | omega | exact Nat.le_refl _⟩, ⟨by repeat (first | (with_reducible first | exact HB.out | apply below_alloc | apply pw_below_drewN | apply below_drew1) | exact HB.out)⟩⟩
                · rw [if_neg c27] at H
                  have c27b0 : (x2_13 == 9007199254740992) = false := beq_eq_false_iff_ne.mpr c27
                  have c27b1 : (x2_13 != 9007199254740992) = true := bne_iff_ne.mpr c27
                  (first | rw [c27b0] | (simp only [i64_w, i32_w]; rw [c27b0]) | skip)
                  have H' := Aside0.mk H
                  clear H
                  go_wp2
                  go_meet
                  case rel => exact ⟨_, (wrap64 (x1_8 + ji13)), (x2_13), (by first | rfl | (simp; done) | (simp only [← hji13] <;> (first | rfl | simp)) | (simp [*]; done)), (by first | rfl | (simp; done) | (simp [*]; done)), H', ⟨by have := HJ4.out; have := HJ8.out; have := HJ13.out; first | omega | exact Nat.le_refl _⟩, ⟨by repeat (first | (with_reducible first | exact HB.out | apply below_alloc | apply pw_below_drewN | apply below_drew1) | exact HB.out)⟩⟩
              case rest =>
                clear HC26
                try clear c1
                try clear c2
                try clear p2
                try clear c3
                try clear c6
                try clear p6
                try clear c10
                try clear c10b0
                try clear c10b1
                try clear c11
                try clear c15
                try clear c15b0
                try clear c17
                try clear c17b0
                try clear c17b1
                try clear c18
                try clear c20
                try clear c20b0
                try clear c20b1
                try clear c22
                try clear c24
                try clear c24b0
                try clear c24b1
                try clear c27
                try clear c27b0
                try clear c27b1
                try clear p2
                try clear p6
                obtain ⟨kq, x1_25, x2_25, rfl, rfl, HA, HJ25, HB⟩ := hcut
                cases kq with
                | zero => exact absurd HA.out (by simp [flo_Make.j3])
                | succ kj25 =>
                  have H := HA.out
                  clear HA
                  simp only [flo_Make.j3] at H
                  by_cases c28 : x2_25 = 0
                  · rw [if_pos c28] at H
                    have c28b0 : (x2_25 == 0) = true := beq_iff_eq.mpr c28
                    have c28b1 : (x2_25 != 0) = false := bne_eq_false_iff_eq.mpr c28
                    clear c28
                    obtain rfl := Option.some.inj H
                    go_wp2
                    go_ret
                    exact ⟨by first | rfl | (simp [errW_none, errW_some] <;> rfl) | (simp only [← hji7, ← hji8, ← hji13]; first | rfl | (simp [errW_none, errW_some] <;> rfl)) | (simp [*, errW_none, errW_some] <;> rfl), by repeat (first | (with_reducible first | exact HB.out | apply below_alloc | apply pw_below_drewN | apply below_drew1) | exact HB.out)⟩
                  · rw [if_neg c28] at H
                    have c28b0 : (x2_25 == 0) = false := beq_eq_false_iff_ne.mpr c28
                    have c28b1 : (x2_25 != 0) = true := bne_iff_ne.mpr c28
                    by_cases c29 : x1_25 > 971
                    · rw [if_pos c29] at H
                      have c29b0 : decide (971 < x1_25) = true := decide_eq_true c29
                      clear c29
                      obtain rfl := Option.some.inj H
                      go_wp2
                      go_ret
                      exact ⟨by first | rfl | (simp [errW_none, errW_some] <;> rfl) | (simp only [← hji7, ← hji8, ← hji13]; first | rfl | (simp [errW_none, errW_some] <;> rfl)) | (simp [*, errW_none, errW_some] <;> rfl), by repeat (first | (with_reducible first | exact HB.out | apply below_alloc | apply pw_below_drewN | apply below_drew1) | exact HB.out)⟩
                    · rw [if_neg c29] at H
                      have c29b0 : decide (971 < x1_25) = false := decide_eq_false c29
                      clear c29
                      by_cases c30 : x2_25 < 4503599627370496
                      · rw [if_pos c30] at H
                        have c30b0 : decide (x2_25 < 4503599627370496) = true := decide_eq_true c30
                        clear c30
                        obtain rfl := Option.some.inj H
                        go_wp2
                        go_ret
                        exact ⟨by first | rfl | (simp [errW_none, errW_some] <;> rfl) | (simp only [← hji7, ← hji8, ← hji13]; first | rfl | (simp [errW_none, errW_some] <;> rfl)) | (simp [*, errW_none, errW_some] <;> rfl), by repeat (first | (with_reducible first | exact HB.out | apply below_alloc | apply pw_below_drewN | apply below_drew1) | exact HB.out)⟩
                      · rw [if_neg c30] at H
                        have c30b0 : decide (x2_25 < 4503599627370496) = false := decide_eq_false c30
                        clear c30
                        obtain rfl := Option.some.inj H
                        go_wp2
                        go_ret
                        exact ⟨by first | rfl | (simp [errW_none, errW_some] <;> rfl) | (simp only [← hji7, ← hji8, ← hji13]; first | rfl | (simp [errW_none, errW_some] <;> rfl)) | (simp [*, errW_none, errW_some] <;> rfl), by repeat (first | (with_reducible first | exact HB.out | apply below_alloc | apply pw_below_drewN | apply below_drew1) | exact HB.out)⟩

end Go.Proofs.Ytonbbjgcnfipeaa.Ref
