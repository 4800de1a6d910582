-- (head)
import Derived.Test.YteghlmcafhhkcaaRefx0
import Derived.Test.YteghlmcafhhkcaaRefx1
import Derived.Test.YteghlmcafhhkcaaRefx2
import Derived.Test.YteghlmcafhhkcaaRefx3
import Derived.Test.YteghlmcafhhkcaaRefx4
namespace Go.Proofs.Yteghlmcafhhkcaa.Ref
open Go.RowKit Go.Proofs.YteghlmcafhhkcaaW.PrintWords Go.Proofs.YteghlmcafhhkcaaW.PrintLast Go.Proofs.YteghlmcafhhkcaaW.PrintMore
attribute [local go_sem] max2_int min2_int max_two min_two max_three min_three max_four min_four   -- for this text's walks alone
set_option linter.unusedVariables false
set_option linter.unusedSimpArgs false

/-! ### minstrelref03_Div: function 10 -/
mutual
def minstrelref03_Div.j0 : Nat → Int → Int → Int → Int → Bool → Bool → Option (Int)
  | 0, _, _, _, _, _, _ => none
  | k + 1, x0, x1, x5, x6, x7, x46 => if x46 = true then ((minstrelref01_Nan.f).bind fun t250 => (some t250)) else (if x5 = 3 then (minstrelref03_Div.j1 k x0 x1 x5 x6 x7 true) else (minstrelref03_Div.j1 k x0 x1 x5 x6 x7 (x6 == 0)))
def minstrelref03_Div.j1 : Nat → Int → Int → Int → Int → Bool → Bool → Option (Int)
  | 0, _, _, _, _, _, _ => none
  | k + 1, x0, x1, x5, x6, x7, x53 => if x53 = true then ((minstrelref01_Infinite.f x7).bind fun t251 => (some t251)) else (if x6 = 3 then (minstrelref03_Div.j2 k x0 x1 x7 true) else (minstrelref03_Div.j2 k x0 x1 x7 (x5 == 0)))
def minstrelref03_Div.j2 : Nat → Int → Int → Bool → Bool → Option (Int)
  | 0, _, _, _, _ => none
  | k + 1, x0, x1, x7, x61 => if x61 = true then ((minstrelref01_Sign.f x7).bind fun t252 => (some t252)) else ((minstrelref01_Parts.f k x0).bind fun bt253 => ((minstrelref01_Parts.f k x1).bind fun bt256 => ((minstrelref01_Digits.f bt253.2.2).bind fun t259 => ((minstrelref01_Up.f k t259 128).bind fun t262 => ((minstrelref01_Digits.f bt256.2.2).bind fun t265 => ((minstrelref01_Divide.f k t262 t265).bind fun bt268 => ((minstrelref01_Round.f k x7 (wrap64 ((wrap64 (bt253.2.1 - bt256.2.1)) - 128)) bt268.1 (decide ((bt268.2.length : Int) > 0))).bind fun t274 => (some t274))))))))
end
def minstrelref03_Div.f (k : Nat) (a0 : Int) (a1 : Int) : Option (Int) := (minstrelref01_Kind.f k a0).bind fun t246 => ((minstrelref01_Kind.f k a1).bind fun t247 => ((minstrelref01_Neg.f a0).bind fun t248 => ((minstrelref01_Neg.f a1).bind fun t249 => (if t246 = 4 then (minstrelref03_Div.j0 k a0 a1 t246 t247 (t248 != t249) true) else (if t247 = 4 then (minstrelref03_Div.j0 k a0 a1 t246 t247 (t248 != t249) true) else (if t246 = 0 then (if t247 = 0 then (minstrelref03_Div.j0 k a0 a1 t246 t247 (t248 != t249) true) else (if t246 = 3 then (minstrelref03_Div.j0 k a0 a1 t246 t247 (t248 != t249) (t247 == 3)) else (minstrelref03_Div.j0 k a0 a1 t246 t247 (t248 != t249) false))) else (if t246 = 3 then (minstrelref03_Div.j0 k a0 a1 t246 t247 (t248 != t249) (t247 == 3)) else (minstrelref03_Div.j0 k a0 a1 t246 t247 (t248 != t249) false))))))))
theorem minstrelref03_Div.mono_l : ∀ k, (∀ y0 y1 y2 y3 y4 y5, LeO (minstrelref03_Div.j0 k y0 y1 y2 y3 y4 y5) (minstrelref03_Div.j0 (k + 1) y0 y1 y2 y3 y4 y5)) ∧ (∀ y0 y1 y2 y3 y4 y5, LeO (minstrelref03_Div.j1 k y0 y1 y2 y3 y4 y5) (minstrelref03_Div.j1 (k + 1) y0 y1 y2 y3 y4 y5)) ∧ (∀ y0 y1 y2 y3, LeO (minstrelref03_Div.j2 k y0 y1 y2 y3) (minstrelref03_Div.j2 (k + 1) y0 y1 y2 y3))
  | 0 => ⟨fun _ _ _ _ _ _ r h => by simp [minstrelref03_Div.j0] at h, fun _ _ _ _ _ _ r h => by simp [minstrelref03_Div.j1] at h, fun _ _ _ _ r h => by simp [minstrelref03_Div.j2] at h⟩
  | k + 1 => by
    obtain ⟨ih0, ih1, ih2⟩ := minstrelref03_Div.mono_l k
    refine ⟨?_, ?_, ?_⟩
    · intro y0 y1 y2 y3 y4 y5
      unfold minstrelref03_Div.j0
      repeat' first
      | (with_reducible exact ih0 _ _ _ _ _ _)
      | (with_reducible exact ih1 _ _ _ _ _ _)
      | (with_reducible exact ih2 _ _ _ _)
      | (with_reducible exact minstrelref01_Divide.mono _ _ _)
      | (with_reducible exact minstrelref01_Kind.mono _ _)
      | (with_reducible exact minstrelref01_Parts.mono _ _)
      | (with_reducible exact minstrelref01_Round.mono _ _ _ _ _)
      | (with_reducible exact minstrelref01_Up.mono _ _ _)
      | (with_reducible exact LeO.refl _)
      | (with_reducible exact LeO.none _)
      | (with_reducible refine LeO.ite ?_ ?_)
      | (with_reducible refine LeO.bind ?_ (fun _ => ?_))
      | exact ih0 _ _ _ _ _ _
      | exact ih1 _ _ _ _ _ _
      | exact ih2 _ _ _ _
      | exact minstrelref01_Divide.mono _ _ _
      | exact minstrelref01_Kind.mono _ _
      | exact minstrelref01_Parts.mono _ _
      | exact minstrelref01_Round.mono _ _ _ _ _
      | exact minstrelref01_Up.mono _ _ _
      | exact LeO.none _
      | refine LeO.ite ?_ ?_
      | refine LeO.bind ?_ (fun _ => ?_)
    · intro y0 y1 y2 y3 y4 y5
      unfold minstrelref03_Div.j1
      repeat' first
      | (with_reducible exact ih0 _ _ _ _ _ _)
      | (with_reducible exact ih1 _ _ _ _ _ _)
      | (with_reducible exact ih2 _ _ _ _)
      | (with_reducible exact minstrelref01_Divide.mono _ _ _)
      | (with_reducible exact minstrelref01_Kind.mono _ _)
      | (with_reducible exact minstrelref01_Parts.mono _ _)
      | (with_reducible exact minstrelref01_Round.mono _ _ _ _ _)
      | (with_reducible exact minstrelref01_Up.mono _ _ _)
      | (with_reducible exact LeO.refl _)
      | (with_reducible exact LeO.none _)
      | (with_reducible refine LeO.ite ?_ ?_)
      | (with_reducible refine LeO.bind ?_ (fun _ => ?_))
      | exact ih0 _ _ _ _ _ _
      | exact ih1 _ _ _ _ _ _
      | exact ih2 _ _ _ _
      | exact minstrelref01_Divide.mono _ _ _
      | exact minstrelref01_Kind.mono _ _
      | exact minstrelref01_Parts.mono _ _
      | exact minstrelref01_Round.mono _ _ _ _ _
      | exact minstrelref01_Up.mono _ _ _
      | exact LeO.none _
      | refine LeO.ite ?_ ?_
      | refine LeO.bind ?_ (fun _ => ?_)
    · intro y0 y1 y2 y3
      unfold minstrelref03_Div.j2
      repeat' first
      | (with_reducible exact ih0 _ _ _ _ _ _)
      | (with_reducible exact ih1 _ _ _ _ _ _)
      | (with_reducible exact ih2 _ _ _ _)
      | (with_reducible exact minstrelref01_Divide.mono _ _ _)
      | (with_reducible exact minstrelref01_Kind.mono _ _)
      | (with_reducible exact minstrelref01_Parts.mono _ _)
      | (with_reducible exact minstrelref01_Round.mono _ _ _ _ _)
      | (with_reducible exact minstrelref01_Up.mono _ _ _)
      | (with_reducible exact LeO.refl _)
      | (with_reducible exact LeO.none _)
      | (with_reducible refine LeO.ite ?_ ?_)
      | (with_reducible refine LeO.bind ?_ (fun _ => ?_))
      | exact ih0 _ _ _ _ _ _
      | exact ih1 _ _ _ _ _ _
      | exact ih2 _ _ _ _
      | exact minstrelref01_Divide.mono _ _ _
      | exact minstrelref01_Kind.mono _ _
      | exact minstrelref01_Parts.mono _ _
      | exact minstrelref01_Round.mono _ _ _ _ _
      | exact minstrelref01_Up.mono _ _ _
      | exact LeO.none _
      | refine LeO.ite ?_ ?_
      | refine LeO.bind ?_ (fun _ => ?_)
theorem minstrelref03_Div.mono : ∀ a0 a1 k, LeO (minstrelref03_Div.f k a0 a1) (minstrelref03_Div.f (k + 1) a0 a1) := by
  intro a0 a1 k
  obtain ⟨ih0, ih1, ih2⟩ := minstrelref03_Div.mono_l k
  unfold minstrelref03_Div.f
  repeat' first
      | (with_reducible exact ih0 _ _ _ _ _ _)
      | (with_reducible exact ih1 _ _ _ _ _ _)
      | (with_reducible exact ih2 _ _ _ _)
      | (with_reducible exact minstrelref01_Divide.mono _ _ _)
      | (with_reducible exact minstrelref01_Kind.mono _ _)
      | (with_reducible exact minstrelref01_Parts.mono _ _)
      | (with_reducible exact minstrelref01_Round.mono _ _ _ _ _)
      | (with_reducible exact minstrelref01_Up.mono _ _ _)
      | (with_reducible exact LeO.refl _)
      | (with_reducible exact LeO.none _)
      | (with_reducible refine LeO.ite ?_ ?_)
      | (with_reducible refine LeO.bind ?_ (fun _ => ?_))
      | exact ih0 _ _ _ _ _ _
      | exact ih1 _ _ _ _ _ _
      | exact ih2 _ _ _ _
      | exact minstrelref01_Divide.mono _ _ _
      | exact minstrelref01_Kind.mono _ _
      | exact minstrelref01_Parts.mono _ _
      | exact minstrelref01_Round.mono _ _ _ _ _
      | exact minstrelref01_Up.mono _ _ _
      | exact LeO.none _
      | refine LeO.ite ?_ ?_
      | refine LeO.bind ?_ (fun _ => ?_)
set_option maxHeartbeats 8000000 in
set_option maxRecDepth 100000 in
theorem minstrelref03_Div.calls (k : Nat) (a0 : Int) (a1 : Int) (r : Int) (w : World) (h : minstrelref03_Div.f k a0 a1 = some r) :
    Calls Try.prog 10 #[.int .u64 a0, .int .u64 a1] w fun e w' => e = .returned (.int .u64 r) ∧ Below w.heap.size w w' := by
  have HB := Aside0.mk (Below.refl w.heap.size w)
  have H : ((minstrelref01_Kind.f k a0).bind fun t246 => ((minstrelref01_Kind.f k a1).bind fun t247 => ((minstrelref01_Neg.f a0).bind fun t248 => ((minstrelref01_Neg.f a1).bind fun t249 => (if t246 = 4 then (minstrelref03_Div.j0 k a0 a1 t246 t247 (t248 != t249) true) else (if t247 = 4 then (minstrelref03_Div.j0 k a0 a1 t246 t247 (t248 != t249) true) else (if t246 = 0 then (if t247 = 0 then (minstrelref03_Div.j0 k a0 a1 t246 t247 (t248 != t249) true) else (if t246 = 3 then (minstrelref03_Div.j0 k a0 a1 t246 t247 (t248 != t249) (t247 == 3)) else (minstrelref03_Div.j0 k a0 a1 t246 t247 (t248 != t249) false))) else (if t246 = 3 then (minstrelref03_Div.j0 k a0 a1 t246 t247 (t248 != t249) (t247 == 3)) else (minstrelref03_Div.j0 k a0 a1 t246 t247 (t248 != t249) false))))))))) = some r := h
  clear h
  replace H := Option.bind_eq_some_iff.mp H
  obtain ⟨t246, A30, H⟩ := H
  replace H : ((minstrelref01_Kind.f k a1).bind fun t247 => ((minstrelref01_Neg.f a0).bind fun t248 => ((minstrelref01_Neg.f a1).bind fun t249 => (if t246 = 4 then (minstrelref03_Div.j0 k a0 a1 t246 t247 (t248 != t249) true) else (if t247 = 4 then (minstrelref03_Div.j0 k a0 a1 t246 t247 (t248 != t249) true) else (if t246 = 0 then (if t247 = 0 then (minstrelref03_Div.j0 k a0 a1 t246 t247 (t248 != t249) true) else (if t246 = 3 then (minstrelref03_Div.j0 k a0 a1 t246 t247 (t248 != t249) (t247 == 3)) else (minstrelref03_Div.j0 k a0 a1 t246 t247 (t248 != t249) false))) else (if t246 = 3 then (minstrelref03_Div.j0 k a0 a1 t246 t247 (t248 != t249) (t247 == 3)) else (minstrelref03_Div.j0 k a0 a1 t246 t247 (t248 != t249) false)))))))) = some r := H
  have A3 := Aside0.mk A30
  clear A30
  replace H := Option.bind_eq_some_iff.mp H
  obtain ⟨t247, A40, H⟩ := H
  replace H : ((minstrelref01_Neg.f a0).bind fun t248 => ((minstrelref01_Neg.f a1).bind fun t249 => (if t246 = 4 then (minstrelref03_Div.j0 k a0 a1 t246 t247 (t248 != t249) true) else (if t247 = 4 then (minstrelref03_Div.j0 k a0 a1 t246 t247 (t248 != t249) true) else (if t246 = 0 then (if t247 = 0 then (minstrelref03_Div.j0 k a0 a1 t246 t247 (t248 != t249) true) else (if t246 = 3 then (minstrelref03_Div.j0 k a0 a1 t246 t247 (t248 != t249) (t247 == 3)) else (minstrelref03_Div.j0 k a0 a1 t246 t247 (t248 != t249) false))) else (if t246 = 3 then (minstrelref03_Div.j0 k a0 a1 t246 t247 (t248 != t249) (t247 == 3)) else (minstrelref03_Div.j0 k a0 a1 t246 t247 (t248 != t249) false))))))) = some r := H
  have A4 := Aside0.mk A40
  clear A40
  replace H := Option.bind_eq_some_iff.mp H
  obtain ⟨t248, A50, H⟩ := H
  replace H : ((minstrelref01_Neg.f a1).bind fun t249 => (if t246 = 4 then (minstrelref03_Div.j0 k a0 a1 t246 t247 (t248 != t249) true) else (if t247 = 4 then (minstrelref03_Div.j0 k a0 a1 t246 t247 (t248 != t249) true) else (if t246 = 0 then (if t247 = 0 then (minstrelref03_Div.j0 k a0 a1 t246 t247 (t248 != t249) true) else (if t246 = 3 then (minstrelref03_Div.j0 k a0 a1 t246 t247 (t248 != t249) (t247 == 3)) else (minstrelref03_Div.j0 k a0 a1 t246 t247 (t248 != t249) false))) else (if t246 = 3 then (minstrelref03_Div.j0 k a0 a1 t246 t247 (t248 != t249) (t247 == 3)) else (minstrelref03_Div.j0 k a0 a1 t246 t247 (t248 != t249) false)))))) = some r := H
  have A5 := Aside0.mk A50
  clear A50
  replace H := Option.bind_eq_some_iff.mp H
  obtain ⟨t249, A60, H⟩ := H
  replace H : (if t246 = 4 then (minstrelref03_Div.j0 k a0 a1 t246 t247 (t248 != t249) true) else (if t247 = 4 then (minstrelref03_Div.j0 k a0 a1 t246 t247 (t248 != t249) true) else (if t246 = 0 then (if t247 = 0 then (minstrelref03_Div.j0 k a0 a1 t246 t247 (t248 != t249) true) else (if t246 = 3 then (minstrelref03_Div.j0 k a0 a1 t246 t247 (t248 != t249) (t247 == 3)) else (minstrelref03_Div.j0 k a0 a1 t246 t247 (t248 != t249) false))) else (if t246 = 3 then (minstrelref03_Div.j0 k a0 a1 t246 t247 (t248 != t249) (t247 == 3)) else (minstrelref03_Div.j0 k a0 a1 t246 t247 (t248 != t249) false))))) = some r := H
  have A6 := Aside0.mk A60
  clear A60
  have HC7 := Aside0.mk H
  clear H
  go_enter Try.func10, Try.ntmps10
  go_upto_region 3 with (first | ((with_reducible refine gate_callee (f := 15) rfl ?_); refine goesL_ (some 17) rfl rfl Try.func15 (by kernel_rfl) rfl #[.int .u64 a0] rfl (by (try simp only [List.map_toArray, List.map_cons, List.map_nil]); first | done | rfl | (simp only [List.length_drop, List.length_take]; rfl)) ?_; (with_reducible refine (minstrelref01_Kind.calls k a0 t246 _ A3.out).mono ?_); rintro e w' ⟨rfl, ⟨nd, rfl⟩⟩; refine ⟨_, rfl, ?_⟩) | ((with_reducible refine gate_callee (f := 15) rfl ?_); refine goesL_ (some 19) rfl rfl Try.func15 (by kernel_rfl) rfl #[.int .u64 a1] rfl (by (try simp only [List.map_toArray, List.map_cons, List.map_nil]); first | done | rfl | (simp only [List.length_drop, List.length_take]; rfl)) ?_; (with_reducible refine (minstrelref01_Kind.calls k a1 t247 _ A4.out).mono ?_); rintro e w' ⟨rfl, ⟨nd, rfl⟩⟩; refine ⟨_, rfl, ?_⟩) | ((with_reducible refine gate_callee (f := 21) rfl ?_); refine goesL_ (some 21) rfl rfl Try.func21 (by kernel_rfl) rfl #[.int .u64 a0] rfl (by (try simp only [List.map_toArray, List.map_cons, List.map_nil]); first | done | rfl | (simp only [List.length_drop, List.length_take]; rfl)) ?_; (with_reducible refine (minstrelref01_Neg.calls a0 t248 _ A5.out).mono ?_); rintro e w' ⟨rfl, ⟨nd, rfl⟩⟩; refine ⟨_, rfl, ?_⟩) | ((with_reducible refine gate_callee (f := 21) rfl ?_); refine goesL_ (some 23) rfl rfl Try.func21 (by kernel_rfl) rfl #[.int .u64 a1] rfl (by (try simp only [List.map_toArray, List.map_cons, List.map_nil]); first | done | rfl | (simp only [List.length_drop, List.length_take]; rfl)) ?_; (with_reducible refine (minstrelref01_Neg.calls a1 t249 _ A6.out).mono ?_); rintro e w' ⟨rfl, ⟨nd, rfl⟩⟩; refine ⟨_, rfl, ?_⟩))
  (try simp only [Act.put, List.setIfInBounds_toArray, List.set_cons_zero, List.set_cons_succ])
  go_cut [46] (fun v46 wc => ∃ (kq : Nat) (x46_6 : Bool), v46 = .bool x46_6 ∧ Aside0 (minstrelref03_Div.j0 kq a0 a1 t246 t247 (t248 != t249) x46_6 = some r) ∧ Aside0 (kq ≤ k) ∧ Aside0 (Below w.heap.size w wc))
  case first =>
    have H := HC7.out
    clear HC7
    by_cases c8 : t246 = 4
    · rw [if_pos c8] at H
      have c8b0 : (t246 == 4) = true := beq_iff_eq.mpr c8
      have c8b1 : (t246 != 4) = false := bne_eq_false_iff_eq.mpr c8
      clear c8
      (first | rw [c8b0] | (simp only [i64_w, i32_w]; rw [c8b0]) | skip)
      have H' := Aside0.mk H
      clear H
      go_wp2
      go_meet
      case rel => exact ⟨_, (true), (by first | rfl | (simp; done) | (simp [*]; done)), H', ⟨by first | omega | exact Nat.le_refl _⟩, ⟨by repeat (first | (with_reducible first | exact HB.out | apply below_alloc | apply pw_below_drewN | apply below_drew1) | exact HB.out)⟩⟩
    · rw [if_neg c8] at H
      have c8b0 : (t246 == 4) = false := beq_eq_false_iff_ne.mpr c8
      have c8b1 : (t246 != 4) = true := bne_iff_ne.mpr c8
      (first | rw [c8b0] | (simp only [i64_w, i32_w]; rw [c8b0]) | skip)
      by_cases c9 : t247 = 4
      · rw [if_pos c9] at H
        have c9b0 : (t247 == 4) = true := beq_iff_eq.mpr c9
        have c9b1 : (t247 != 4) = false := bne_eq_false_iff_eq.mpr c9
        clear c9
        have H' := Aside0.mk H
        clear H
        go_wp2
        go_meet
        case rel => exact ⟨_, (true), (by first | rfl | (simp; done) | (simp [*]; done)), H', ⟨by first | omega | exact Nat.le_refl _⟩, ⟨by repeat (first | (with_reducible first | exact HB.out | apply below_alloc | apply pw_below_drewN | apply below_drew1) | exact HB.out)⟩⟩
      · rw [if_neg c9] at H
        have c9b0 : (t247 == 4) = false := beq_eq_false_iff_ne.mpr c9
        have c9b1 : (t247 != 4) = true := bne_iff_ne.mpr c9
        by_cases c10 : t246 = 0
        · rw [if_pos c10] at H
          have c10b0 : (t246 == 0) = true := beq_iff_eq.mpr c10
          have c10b1 : (t246 != 0) = false := bne_eq_false_iff_eq.mpr c10
          clear c10
          by_cases c11 : t247 = 0
          · rw [if_pos c11] at H
            have c11b0 : (t247 == 0) = true := beq_iff_eq.mpr c11
            have c11b1 : (t247 != 0) = false := bne_eq_false_iff_eq.mpr c11
            clear c11
            have H' := Aside0.mk H
            clear H
            go_wp2
            go_meet
            case rel => exact ⟨_, (true), (by first | rfl | (simp; done) | (simp [*]; done)), H', ⟨by first | omega | exact Nat.le_refl _⟩, ⟨by repeat (first | (with_reducible first | exact HB.out | apply below_alloc | apply pw_below_drewN | apply below_drew1) | exact HB.out)⟩⟩
          · rw [if_neg c11] at H
            have c11b0 : (t247 == 0) = false := beq_eq_false_iff_ne.mpr c11
            have c11b1 : (t247 != 0) = true := bne_iff_ne.mpr c11
            by_cases c12 : t246 = 3
            · rw [if_pos c12] at H
              have c12b0 : (t246 == 3) = true := beq_iff_eq.mpr c12
              have c12b1 : (t246 != 3) = false := bne_eq_false_iff_eq.mpr c12
              clear c12
              have H' := Aside0.mk H
              clear H
              go_wp2
              go_meet
              case rel => exact ⟨_, ((t247 == 3)), (by first | rfl | (simp; done) | (simp [*]; done)), H', ⟨by first | omega | exact Nat.le_refl _⟩, ⟨by repeat (first | (with_reducible first | exact HB.out | apply below_alloc | apply pw_below_drewN | apply below_drew1) | exact HB.out)⟩⟩
            · rw [if_neg c12] at H
              have c12b0 : (t246 == 3) = false := beq_eq_false_iff_ne.mpr c12
              have c12b1 : (t246 != 3) = true := bne_iff_ne.mpr c12
              have H' := Aside0.mk H
              clear H
              go_wp2
              go_meet
              case rel => exact ⟨_, (false), (by first | rfl | (simp; done) | (simp [*]; done)), H', ⟨by first | omega | exact Nat.le_refl _⟩, ⟨by repeat (first | (with_reducible first | exact HB.out | apply below_alloc | apply pw_below_drewN | apply below_drew1) | exact HB.out)⟩⟩
        · rw [if_neg c10] at H
          have c10b0 : (t246 == 0) = false := beq_eq_false_iff_ne.mpr c10
          have c10b1 : (t246 != 0) = true := bne_iff_ne.mpr c10
          by_cases c13 : t246 = 3
          · rw [if_pos c13] at H
            have c13b0 : (t246 == 3) = true := beq_iff_eq.mpr c13
            have c13b1 : (t246 != 3) = false := bne_eq_false_iff_eq.mpr c13
            clear c13
            have H' := Aside0.mk H
            clear H
            go_wp2
            go_meet
            case rel => exact ⟨_, ((t247 == 3)), (by first | rfl | (simp; done) | (simp [*]; done)), H', ⟨by first | omega | exact Nat.le_refl _⟩, ⟨by repeat (first | (with_reducible first | exact HB.out | apply below_alloc | apply pw_below_drewN | apply below_drew1) | exact HB.out)⟩⟩
          · rw [if_neg c13] at H
            have c13b0 : (t246 == 3) = false := beq_eq_false_iff_ne.mpr c13
            have c13b1 : (t246 != 3) = true := bne_iff_ne.mpr c13
            have H' := Aside0.mk H
            clear H
            go_wp2
            go_meet
            case rel => exact ⟨_, (false), (by first | rfl | (simp; done) | (simp [*]; done)), H', ⟨by first | omega | exact Nat.le_refl _⟩, ⟨by repeat (first | (with_reducible first | exact HB.out | apply below_alloc | apply pw_below_drewN | apply below_drew1) | exact HB.out)⟩⟩
  case rest =>
    clear HC7
    try clear c1
    try clear c2
    try clear p2
    try clear c8
    try clear c8b0
    try clear c8b1
    try clear c9
    try clear c9b0
    try clear c9b1
    try clear c10
    try clear c10b0
    try clear c10b1
    try clear c11
    try clear c11b0
    try clear c11b1
    try clear c12
    try clear c12b0
    try clear c12b1
    try clear c13
    try clear c13b0
    try clear c13b1
    obtain ⟨kq, x46_6, rfl, HA, HJ6, HB⟩ := hcut
    cases kq with
    | zero => exact absurd HA.out (by simp [minstrelref03_Div.j0])
    | succ kj6 =>
      have H := HA.out
      clear HA
      simp only [minstrelref03_Div.j0] at H
      by_cases c14 : x46_6 = true
      · subst c14
        have H1 : ((minstrelref01_Nan.f).bind fun t250 => (some t250)) = some r := by rw [if_pos rfl] at H; exact H
        clear H
        have H := H1
        clear H1
        replace H := Option.bind_eq_some_iff.mp H
        obtain ⟨t250, A150, H⟩ := H
        replace H : (some t250) = some r := H
        have A15 := Aside0.mk A150
        clear A150
        obtain rfl := Option.some.inj H
        go_wp2_with (first | ((with_reducible refine gate_callee (f := 22) rfl ?_); refine goesL_ (some 47) rfl rfl Try.func22 (by kernel_rfl) rfl #[] rfl (by (try simp only [List.map_toArray, List.map_cons, List.map_nil]); first | done | rfl | (simp only [List.length_drop, List.length_take]; rfl)) ?_; (with_reducible refine (minstrelref01_Nan.calls  t250 _ A15.out).mono ?_); rintro e w' ⟨rfl, ⟨nd, rfl⟩⟩; refine ⟨_, rfl, ?_⟩))
        go_ret
        exact ⟨by first | rfl | (simp [errW_none, errW_some] <;> rfl) | (simp [*, errW_none, errW_some] <;> rfl), by repeat (first | (with_reducible first | exact HB.out | apply below_alloc | apply pw_below_drewN | apply below_drew1) | exact HB.out)⟩
      · replace c14 := Bool.eq_false_iff.mpr c14
        subst c14
        have H1 : (if t246 = 3 then (minstrelref03_Div.j1 kj6 a0 a1 t246 t247 (t248 != t249) true) else (minstrelref03_Div.j1 kj6 a0 a1 t246 t247 (t248 != t249) (t247 == 0))) = some r := by rw [if_neg (show ¬ (false = true) by decide)] at H; exact H
        clear H
        have H := H1
        clear H1
        have HC16 := Aside0.mk H
        clear H
        go_upto_region 5 with (fail)
        go_cut [53] (fun v53 wc => ∃ (kq : Nat) (x53_15 : Bool), v53 = .bool x53_15 ∧ Aside0 (minstrelref03_Div.j1 kq a0 a1 t246 t247 (t248 != t249) x53_15 = some r) ∧ Aside0 (kq ≤ kj6) ∧ Aside0 (Below w.heap.size w wc))
        case first =>
          have H := HC16.out
          clear HC16
          by_cases c17 : t246 = 3
          · rw [if_pos c17] at H
            have c17b0 : (t246 == 3) = true := beq_iff_eq.mpr c17
            have c17b1 : (t246 != 3) = false := bne_eq_false_iff_eq.mpr c17
            clear c17
            (first | rw [c17b0] | (simp only [i64_w, i32_w]; rw [c17b0]) | skip)
            have H' := Aside0.mk H
            clear H
            go_wp2
            go_meet
            case rel => exact ⟨_, (true), (by first | rfl | (simp; done) | (simp [*]; done)), H', ⟨by have := HJ6.out; first | omega | exact Nat.le_refl _⟩, ⟨by repeat (first | (with_reducible first | exact HB.out | apply below_alloc | apply pw_below_drewN | apply below_drew1) | exact HB.out)⟩⟩
          · rw [if_neg c17] at H
            have c17b0 : (t246 == 3) = false := beq_eq_false_iff_ne.mpr c17
            have c17b1 : (t246 != 3) = true := bne_iff_ne.mpr c17
            (first | rw [c17b0] | (simp only [i64_w, i32_w]; rw [c17b0]) | skip)
            have H' := Aside0.mk H
            clear H
            go_wp2
            go_meet
            case rel => exact ⟨_, ((t247 == 0)), (by first | rfl | (simp; done) | (simp [*]; done)), H', ⟨by have := HJ6.out; first | omega | exact Nat.le_refl _⟩, ⟨by repeat (first | (with_reducible first | exact HB.out | apply below_alloc | apply pw_below_drewN | apply below_drew1) | exact HB.out)⟩⟩
        case rest =>
          clear HC16
          try clear c1
          try clear c2
          try clear p2
          try clear c8
          try clear c8b0
          try clear c8b1
          try clear c9
          try clear c9b0
          try clear c9b1
          try clear c10
          try clear c10b0
          try clear c10b1
          try clear c11
          try clear c11b0
          try clear c11b1
          try clear c12
          try clear c12b0
          try clear c12b1
          try clear c13
          try clear c13b0
          try clear c13b1
          try clear c14
          try clear c15
          try clear c17
          try clear c17b0
          try clear c17b1
          try clear p2
          obtain ⟨kq, x53_15, rfl, HA, HJ15, HB⟩ := hcut
          cases kq with
          | zero => exact absurd HA.out (by simp [minstrelref03_Div.j1])
          | succ kj15 =>
            have H := HA.out
            clear HA
            simp only [minstrelref03_Div.j1] at H
            by_cases c18 : x53_15 = true
            · subst c18
              have H1 : ((minstrelref01_Infinite.f (t248 != t249)).bind fun t251 => (some t251)) = some r := by rw [if_pos rfl] at H; exact H
              clear H
              have H := H1
              clear H1
              replace H := Option.bind_eq_some_iff.mp H
              obtain ⟨t251, A190, H⟩ := H
              replace H : (some t251) = some r := H
              have A19 := Aside0.mk A190
              clear A190
              obtain rfl := Option.some.inj H
              go_wp2_with (first | ((with_reducible refine gate_callee (f := 25) rfl ?_); refine goesL_ (some 55) rfl rfl Try.func25 (by kernel_rfl) rfl #[.bool (t248 != t249)] rfl (by (try simp only [List.map_toArray, List.map_cons, List.map_nil]); first | done | rfl | (simp only [List.length_drop, List.length_take]; rfl)) ?_; (with_reducible refine (minstrelref01_Infinite.calls (t248 != t249) t251 _ A19.out).mono ?_); rintro e w' ⟨rfl, ⟨nd, rfl⟩⟩; refine ⟨_, rfl, ?_⟩))
              go_ret
              exact ⟨by first | rfl | (simp [errW_none, errW_some] <;> rfl) | (simp [*, errW_none, errW_some] <;> rfl), by repeat (first | (with_reducible first | exact HB.out | apply below_alloc | apply pw_below_drewN | apply below_drew1) | exact HB.out)⟩
            · replace c18 := Bool.eq_false_iff.mpr c18
              subst c18
              have H1 : (if t247 = 3 then (minstrelref03_Div.j2 kj15 a0 a1 (t248 != t249) true) else (minstrelref03_Div.j2 kj15 a0 a1 (t248 != t249) (t246 == 0))) = some r := by rw [if_neg (show ¬ (false = true) by decide)] at H; exact H
              clear H
              have H := H1
              clear H1
              have HC20 := Aside0.mk H
              clear H
              go_upto_region 7 with (fail)
              go_cut [61] (fun v61 wc => ∃ (kq : Nat) (x61_19 : Bool), v61 = .bool x61_19 ∧ Aside0 (minstrelref03_Div.j2 kq a0 a1 (t248 != t249) x61_19 = some r) ∧ Aside0 (kq ≤ kj15) ∧ Aside0 (Below w.heap.size w wc))
              case first =>
                have H := HC20.out
                clear HC20
                by_cases c21 : t247 = 3
                · rw [if_pos c21] at H
                  have c21b0 : (t247 == 3) = true := beq_iff_eq.mpr c21
                  have c21b1 : (t247 != 3) = false := bne_eq_false_iff_eq.mpr c21
                  clear c21
                  (first | rw [c21b0] | (simp only [i64_w, i32_w]; rw [c21b0]) | skip)
                  have H' := Aside0.mk H
                  clear H
                  go_wp2
                  go_meet
                  case rel => exact ⟨_, (true), (by first | rfl | (simp; done) | (simp [*]; done)), H', ⟨by have := HJ6.out; have := HJ15.out; first | omega | exact Nat.le_refl _⟩, ⟨by repeat (first | (with_reducible first | exact HB.out | apply below_alloc | apply pw_below_drewN | apply below_drew1) | exact HB.out)⟩⟩
                · rw [if_neg c21] at H
                  have c21b0 : (t247 == 3) = false := beq_eq_false_iff_ne.mpr c21
                  have c21b1 : (t247 != 3) = true := bne_iff_ne.mpr c21
                  (first | rw [c21b0] | (simp only [i64_w, i32_w]; rw [c21b0]) | skip)
                  have H' := Aside0.mk H
                  clear H
                  go_wp2
                  go_meet
                  case rel => exact ⟨_, ((t246 == 0)), (by first | rfl | (simp; done) | (simp [*]; done)), H', ⟨by have := HJ6.out; have := HJ15.out; first | omega | exact Nat.le_refl _⟩, ⟨by repeat (first | (with_reducible first | exact HB.out | apply below_alloc | apply pw_below_drewN | apply below_drew1) | exact HB.out)⟩⟩
              case rest =>
                clear HC20
                try clear c1
                try clear c2
                try clear p2
                try clear c8
                try clear c8b0
                try clear c8b1
                try clear c9
                try clear c9b0
                try clear c9b1
                try clear c10
                try clear c10b0
                try clear c10b1
                try clear c11
                try clear c11b0
                try clear c11b1
                try clear c12
                try clear c12b0
                try clear c12b1
                try clear c13
                try clear c13b0
                try clear c13b1
                try clear c14
                try clear c15
                try clear c17
                try clear c17b0
                try clear c17b1
                try clear c18
                try clear c21
                try clear c21b0
                try clear c21b1
                try clear p2
                obtain ⟨kq, x61_19, rfl, HA, HJ19, HB⟩ := hcut
                cases kq with
                | zero => exact absurd HA.out (by simp [minstrelref03_Div.j2])
                | succ kj19 =>
                  have H := HA.out
                  clear HA
                  simp only [minstrelref03_Div.j2] at H
                  by_cases c22 : x61_19 = true
                  · subst c22
                    have H1 : ((minstrelref01_Sign.f (t248 != t249)).bind fun t252 => (some t252)) = some r := by rw [if_pos rfl] at H; exact H
                    clear H
                    have H := H1
                    clear H1
                    replace H := Option.bind_eq_some_iff.mp H
                    obtain ⟨t252, A230, H⟩ := H
                    replace H : (some t252) = some r := H
                    have A23 := Aside0.mk A230
                    clear A230
                    obtain rfl := Option.some.inj H
                    go_wp2_with (first | ((with_reducible refine gate_callee (f := 26) rfl ?_); refine goesL_ (some 63) rfl rfl Try.func26 (by kernel_rfl) rfl #[.bool (t248 != t249)] rfl (by (try simp only [List.map_toArray, List.map_cons, List.map_nil]); first | done | rfl | (simp only [List.length_drop, List.length_take]; rfl)) ?_; (with_reducible refine (minstrelref01_Sign.calls (t248 != t249) t252 _ A23.out).mono ?_); rintro e w' ⟨rfl, ⟨nd, rfl⟩⟩; refine ⟨_, rfl, ?_⟩))
                    go_ret
                    exact ⟨by first | rfl | (simp [errW_none, errW_some] <;> rfl) | (simp [*, errW_none, errW_some] <;> rfl), by repeat (first | (with_reducible first | exact HB.out | apply below_alloc | apply pw_below_drewN | apply below_drew1) | exact HB.out)⟩
                  · replace c22 := Bool.eq_false_iff.mpr c22
                    subst c22
                    have H1 : ((minstrelref01_Parts.f kj19 a0).bind fun bt253 => ((minstrelref01_Parts.f kj19 a1).bind fun bt256 => ((minstrelref01_Digits.f bt253.2.2).bind fun t259 => ((minstrelref01_Up.f kj19 t259 128).bind fun t262 => ((minstrelref01_Digits.f bt256.2.2).bind fun t265 => ((minstrelref01_Divide.f kj19 t262 t265).bind fun bt268 => ((minstrelref01_Round.f kj19 (t248 != t249) (wrap64 ((wrap64 (bt253.2.1 - bt256.2.1)) - 128)) bt268.1 (decide ((bt268.2.length : Int) > 0))).bind fun t274 => (some t274)))))))) = some r := by rw [if_neg (show ¬ (false = true) by decide)] at H; exact H
                    clear H
                    have H := H1
                    clear H1
                    replace H := Option.bind_eq_some_iff.mp H
                    obtain ⟨⟨t253, t254, t255⟩, A240, H⟩ := H
                    replace H : ((minstrelref01_Parts.f kj19 a1).bind fun bt256 => ((minstrelref01_Digits.f t255).bind fun t259 => ((minstrelref01_Up.f kj19 t259 128).bind fun t262 => ((minstrelref01_Digits.f bt256.2.2).bind fun t265 => ((minstrelref01_Divide.f kj19 t262 t265).bind fun bt268 => ((minstrelref01_Round.f kj19 (t248 != t249) (wrap64 ((wrap64 (t254 - bt256.2.1)) - 128)) bt268.1 (decide ((bt268.2.length : Int) > 0))).bind fun t274 => (some t274))))))) = some r := H
                    have A24 := Aside0.mk A240
                    clear A240
                    replace H := Option.bind_eq_some_iff.mp H
                    obtain ⟨⟨t256, t257, t258⟩, A250, H⟩ := H
                    replace H : ((minstrelref01_Digits.f t255).bind fun t259 => ((minstrelref01_Up.f kj19 t259 128).bind fun t262 => ((minstrelref01_Digits.f t258).bind fun t265 => ((minstrelref01_Divide.f kj19 t262 t265).bind fun bt268 => ((minstrelref01_Round.f kj19 (t248 != t249) (wrap64 ((wrap64 (t254 - t257)) - 128)) bt268.1 (decide ((bt268.2.length : Int) > 0))).bind fun t274 => (some t274)))))) = some r := H
                    have A25 := Aside0.mk A250
                    clear A250
                    replace H := Option.bind_eq_some_iff.mp H
                    obtain ⟨t259, A260, H⟩ := H
                    replace H : ((minstrelref01_Up.f kj19 t259 128).bind fun t262 => ((minstrelref01_Digits.f t258).bind fun t265 => ((minstrelref01_Divide.f kj19 t262 t265).bind fun bt268 => ((minstrelref01_Round.f kj19 (t248 != t249) (wrap64 ((wrap64 (t254 - t257)) - 128)) bt268.1 (decide ((bt268.2.length : Int) > 0))).bind fun t274 => (some t274))))) = some r := H
                    have A26 := Aside0.mk A260
                    clear A260
                    replace H := Option.bind_eq_some_iff.mp H
                    obtain ⟨t262, A270, H⟩ := H
                    replace H : ((minstrelref01_Digits.f t258).bind fun t265 => ((minstrelref01_Divide.f kj19 t262 t265).bind fun bt268 => ((minstrelref01_Round.f kj19 (t248 != t249) (wrap64 ((wrap64 (t254 - t257)) - 128)) bt268.1 (decide ((bt268.2.length : Int) > 0))).bind fun t274 => (some t274)))) = some r := H
                    have A27 := Aside0.mk A270
                    clear A270
                    replace H := Option.bind_eq_some_iff.mp H
                    obtain ⟨t265, A280, H⟩ := H
                    replace H : ((minstrelref01_Divide.f kj19 t262 t265).bind fun bt268 => ((minstrelref01_Round.f kj19 (t248 != t249) (wrap64 ((wrap64 (t254 - t257)) - 128)) bt268.1 (decide ((bt268.2.length : Int) > 0))).bind fun t274 => (some t274))) = some r := H
                    have A28 := Aside0.mk A280
                    clear A280
                    replace H := Option.bind_eq_some_iff.mp H
                    obtain ⟨⟨t268, t269⟩, A290, H⟩ := H
                    replace H : ((minstrelref01_Round.f kj19 (t248 != t249) (wrap64 ((wrap64 (t254 - t257)) - 128)) t268 (decide ((t269.length : Int) > 0))).bind fun t274 => (some t274)) = some r := H
                    have A29 := Aside0.mk A290
                    clear A290
                    replace H := Option.bind_eq_some_iff.mp H
                    obtain ⟨t274, A300, H⟩ := H
                    replace H : (some t274) = some r := H
                    have A30 := Aside0.mk A300
                    clear A300
                    obtain rfl := Option.some.inj H
                    go_wp2_with (first | ((with_reducible refine gate_callee (f := 27) rfl ?_); refine goesL_ (some 66) rfl rfl Try.func27 (by kernel_rfl) rfl #[.int .u64 a0] rfl (by (try simp only [List.map_toArray, List.map_cons, List.map_nil]); first | done | rfl | (simp only [List.length_drop, List.length_take]; rfl)) ?_; (with_reducible refine (minstrelref01_Parts.calls kj19 a0 t253 t254 t255 _ A24.out).mono ?_); rintro e w' ⟨rfl, ⟨nd, rfl⟩⟩; refine ⟨_, rfl, ?_⟩) | ((with_reducible refine gate_callee (f := 27) rfl ?_); refine goesL_ (some 72) rfl rfl Try.func27 (by kernel_rfl) rfl #[.int .u64 a1] rfl (by (try simp only [List.map_toArray, List.map_cons, List.map_nil]); first | done | rfl | (simp only [List.length_drop, List.length_take]; rfl)) ?_; (with_reducible refine (minstrelref01_Parts.calls kj19 a1 t256 t257 t258 _ A25.out).mono ?_); rintro e w' ⟨rfl, ⟨nd, rfl⟩⟩; refine ⟨_, rfl, ?_⟩) | ((with_reducible refine gate_callee (f := 30) rfl ?_); refine goesL_ (some 78) rfl rfl Try.func30 (by kernel_rfl) rfl #[.int .u64 t255] rfl (by (try simp only [List.map_toArray, List.map_cons, List.map_nil]); first | done | rfl | (simp only [List.length_drop, List.length_take]; rfl)) ?_; (with_reducible refine (minstrelref01_Digits.calls t255 t259 _ A26.out).mono ?_); rintro e w31 ⟨v260, rfl, ho0, hb⟩; refine ⟨_, rfl, ?_⟩; have n0_ := Aside0.mk (Kd.R_lower ho0 (below_size (by repeat (first | (with_reducible first | exact HB.out | apply below_alloc | apply pw_below_drewN | apply below_drew1) | exact HB.out)))); have n1_ := Aside0.mk (below_step (by repeat (first | (with_reducible first | exact HB.out | apply below_alloc | apply pw_below_drewN | apply below_drew1) | exact HB.out)) hb); clear HB; have HO261 := n0_; have HB := n1_; clear n0_ n1_; (try clear hb); (try clear hb2); (try clear hk); (try clear hi); (try clear ho0); obtain ⟨Ao32, co32, eo32⟩ := Kd.R_slice HO261.out; subst eo32) | ((with_reducible refine gate_callee (f := 29) rfl ?_); refine goesL_ (some 79) rfl rfl Try.func29 (by kernel_rfl) rfl #[.slice Ao32 t259.length co32, .int .i64 128] rfl (by (try simp only [List.map_toArray, List.map_cons, List.map_nil]); first | done | rfl | (simp only [List.length_drop, List.length_take]; rfl)) ?_; (with_reducible refine (minstrelref01_Up.calls kj19 _ _ t259 128 t262 _ ?side1 ?side2 A27.out).mono ?_); (case side1 => repeat (first | exact (Kd.R_reads' HO261.out).2.2 | (with_reducible refine Kd.C_alloc ?_ _) | (with_reducible refine Kd.C_drewN ?_ _) | (with_reducible refine Kd.C_drew ?_))); (case side2 => exact (Kd.R_reads' HO261.out).2.1); rintro e w33 ⟨v263, rfl, ho0, hb⟩; refine ⟨_, rfl, ?_⟩; have n0_ := Aside0.mk (Kd.R_elder' (by (with_reducible repeat (first | apply Kd.R_alloc | apply Kd.R_drewN | apply Kd.R_drew)); exact HO261.out) (Kd.R_base ho0) hb); have n1_ := Aside0.mk (Kd.R_lower (Kd.R_new' ho0 (Kd.R_lt (by (with_reducible repeat (first | apply Kd.R_alloc | apply Kd.R_drewN | apply Kd.R_drew)); exact HO261.out))) (below_size (by repeat (first | (with_reducible first | exact HB.out | apply below_alloc | apply pw_below_drewN | apply below_drew1) | exact HB.out)))); have n2_ := Aside0.mk (below_step (by repeat (first | (with_reducible first | exact HB.out | apply below_alloc | apply pw_below_drewN | apply below_drew1) | exact HB.out)) hb); clear HO261; clear HB; have HO261 := n0_; have HO264 := n1_; have HB := n2_; clear n0_ n1_ n2_; (try clear hb); (try clear hb2); (try clear hk); (try clear hi); (try clear ho0)) | ((with_reducible refine gate_callee (f := 30) rfl ?_); refine goesL_ (some 81) rfl rfl Try.func30 (by kernel_rfl) rfl #[.int .u64 t258] rfl (by (try simp only [List.map_toArray, List.map_cons, List.map_nil]); first | done | rfl | (simp only [List.length_drop, List.length_take]; rfl)) ?_; (with_reducible refine (minstrelref01_Digits.calls t258 t265 _ A28.out).mono ?_); rintro e w34 ⟨v266, rfl, ho0, hb⟩; refine ⟨_, rfl, ?_⟩; have n0_ := Aside0.mk (Kd.R_elder' (by (with_reducible repeat (first | apply Kd.R_alloc | apply Kd.R_drewN | apply Kd.R_drew)); exact HO261.out) (Kd.R_base ho0) hb); have n1_ := Aside0.mk (Kd.R_elder' (by (with_reducible repeat (first | apply Kd.R_alloc | apply Kd.R_drewN | apply Kd.R_drew)); exact HO264.out) (Kd.R_base ho0) hb); have n2_ := Aside0.mk (Kd.R_lower (Kd.R_new' (Kd.R_new' ho0 (Kd.R_lt (by (with_reducible repeat (first | apply Kd.R_alloc | apply Kd.R_drewN | apply Kd.R_drew)); exact HO261.out))) (Kd.R_lt (by (with_reducible repeat (first | apply Kd.R_alloc | apply Kd.R_drewN | apply Kd.R_drew)); exact HO264.out))) (below_size (by repeat (first | (with_reducible first | exact HB.out | apply below_alloc | apply pw_below_drewN | apply below_drew1) | exact HB.out)))); have n3_ := Aside0.mk (below_step (by repeat (first | (with_reducible first | exact HB.out | apply below_alloc | apply pw_below_drewN | apply below_drew1) | exact HB.out)) hb); clear HO261; clear HO264; clear HB; have HO261 := n0_; have HO264 := n1_; have HO267 := n2_; have HB := n3_; clear n0_ n1_ n2_ n3_; (try clear hb); (try clear hb2); (try clear hk); (try clear hi); (try clear ho0); obtain ⟨Ao35, co35, eo35⟩ := Kd.R_slice HO264.out; subst eo35; obtain ⟨Ao36, co36, eo36⟩ := Kd.R_slice HO267.out; subst eo36) | ((with_reducible refine gate_callee (f := 28) rfl ?_); refine goesL_ (some 82) rfl rfl Try.func28 (by kernel_rfl) rfl #[.slice Ao35 t262.length co35, .slice Ao36 t265.length co36] rfl (by (try simp only [List.map_toArray, List.map_cons, List.map_nil]); first | done | rfl | (simp only [List.length_drop, List.length_take]; rfl)) ?_; (with_reducible refine (minstrelref01_Divide.calls kj19 _ _ t262 _ _ t265 t268 t269 _ ?side1 ?side2 ?side3 ?side4 A29.out).mono ?_); (case side1 => repeat (first | exact (Kd.R_reads' HO264.out).2.2 | (with_reducible refine Kd.C_alloc ?_ _) | (with_reducible refine Kd.C_drewN ?_ _) | (with_reducible refine Kd.C_drew ?_))); (case side2 => exact (Kd.R_reads' HO264.out).2.1); (case side3 => repeat (first | exact (Kd.R_reads' HO267.out).2.2 | (with_reducible refine Kd.C_alloc ?_ _) | (with_reducible refine Kd.C_drewN ?_ _) | (with_reducible refine Kd.C_drew ?_))); (case side4 => exact (Kd.R_reads' HO267.out).2.1); rintro e w37 ⟨v270, v272, rfl, ho0, ho1, hb⟩; refine ⟨_, rfl, ?_⟩; have n0_ := Aside0.mk (Kd.R_mono (Kd.R_told (Kd.R_told (Kd.R_old (by (with_reducible repeat (first | apply Kd.R_alloc | apply Kd.R_drewN | apply Kd.R_drew)); exact HO261.out) hb) (Kd.R_base ho0)) (Kd.R_base ho1)) (fun _ h_ => h_.1)); have n1_ := Aside0.mk (Kd.R_mono (Kd.R_told (Kd.R_told (Kd.R_old (by (with_reducible repeat (first | apply Kd.R_alloc | apply Kd.R_drewN | apply Kd.R_drew)); exact HO264.out) hb) (Kd.R_base ho0)) (Kd.R_base ho1)) (fun _ h_ => h_.1)); have n2_ := Aside0.mk (Kd.R_mono (Kd.R_told (Kd.R_told (Kd.R_old (by (with_reducible repeat (first | apply Kd.R_alloc | apply Kd.R_drewN | apply Kd.R_drew)); exact HO267.out) hb) (Kd.R_base ho0)) (Kd.R_base ho1)) (fun _ h_ => h_.1)); have n3_ := Aside0.mk (Kd.R_lower (Kd.R_new' (Kd.R_new' (Kd.R_new' ho0 (Kd.R_lt (by (with_reducible repeat (first | apply Kd.R_alloc | apply Kd.R_drewN | apply Kd.R_drew)); exact HO261.out))) (Kd.R_lt (by (with_reducible repeat (first | apply Kd.R_alloc | apply Kd.R_drewN | apply Kd.R_drew)); exact HO264.out))) (Kd.R_lt (by (with_reducible repeat (first | apply Kd.R_alloc | apply Kd.R_drewN | apply Kd.R_drew)); exact HO267.out))) (below_size (by repeat (first | (with_reducible first | exact HB.out | apply below_alloc | apply pw_below_drewN | apply below_drew1) | exact HB.out)))); have n4_ := Aside0.mk (Kd.R_lower (Kd.R_new' (Kd.R_new' (Kd.R_new' ho1 (Kd.R_lt (by (with_reducible repeat (first | apply Kd.R_alloc | apply Kd.R_drewN | apply Kd.R_drew)); exact HO261.out))) (Kd.R_lt (by (with_reducible repeat (first | apply Kd.R_alloc | apply Kd.R_drewN | apply Kd.R_drew)); exact HO264.out))) (Kd.R_lt (by (with_reducible repeat (first | apply Kd.R_alloc | apply Kd.R_drewN | apply Kd.R_drew)); exact HO267.out))) (below_size (by repeat (first | (with_reducible first | exact HB.out | apply below_alloc | apply pw_below_drewN | apply below_drew1) | exact HB.out)))); have n5_ := Aside0.mk (below_step (by repeat (first | (with_reducible first | exact HB.out | apply below_alloc | apply pw_below_drewN | apply below_drew1) | exact HB.out)) hb); clear HO261; clear HO264; clear HO267; clear HB; have HO261 := n0_; have HO264 := n1_; have HO267 := n2_; have HO271 := n3_; have HO273 := n4_; have HB := n5_; clear n0_ n1_ n2_ n3_ n4_ n5_; (try clear hb); (try clear hb2); (try clear hk); (try clear hi); (try clear ho0); (try clear ho1); obtain ⟨Ao38, co38, eo38⟩ := Kd.R_slice HO273.out; subst eo38; obtain ⟨Ao39, co39, eo39⟩ := Kd.R_slice HO271.out; subst eo39) | ((with_reducible refine gate_callee (f := 31) rfl ?_); refine goesL_ (some 94) rfl rfl Try.func31 (by kernel_rfl) rfl #[.bool (t248 != t249), .int .i64 (wrap64 ((wrap64 (t254 - t257)) - 128)), .slice Ao39 t268.length co39, .bool (decide (0 < t269.length))] rfl (by (try simp only [List.map_toArray, List.map_cons, List.map_nil]); first | done | rfl | (simp only [List.length_drop, List.length_take]; rfl)) ?_; (with_reducible refine (minstrelref01_Round.calls kj19 (t248 != t249) (wrap64 ((wrap64 (t254 - t257)) - 128)) _ _ t268 (decide (0 < t269.length)) t274 _ ?side1 ?side2 (by have h_ := A30.out; rw [show (decide ((t269.length : Int) > 0)) = decide (0 < t269.length) from decide_eq_decide.2 (by omega)] at h_; exact h_)).mono ?_); (case side1 => repeat (first | exact (Kd.R_reads' HO271.out).2.2 | (with_reducible refine Kd.C_alloc ?_ _) | (with_reducible refine Kd.C_drewN ?_ _) | (with_reducible refine Kd.C_drew ?_))); (case side2 => exact (Kd.R_reads' HO271.out).2.1); rintro e w40 ⟨rfl, hb⟩; refine ⟨_, rfl, ?_⟩; have n0_ := Aside0.mk (Kd.R_below (by (with_reducible repeat (first | apply Kd.R_alloc | apply Kd.R_drewN | apply Kd.R_drew)); exact HO261.out) hb); have n1_ := Aside0.mk (Kd.R_below (by (with_reducible repeat (first | apply Kd.R_alloc | apply Kd.R_drewN | apply Kd.R_drew)); exact HO264.out) hb); have n2_ := Aside0.mk (Kd.R_below (by (with_reducible repeat (first | apply Kd.R_alloc | apply Kd.R_drewN | apply Kd.R_drew)); exact HO267.out) hb); have n3_ := Aside0.mk (Kd.R_below (by (with_reducible repeat (first | apply Kd.R_alloc | apply Kd.R_drewN | apply Kd.R_drew)); exact HO271.out) hb); have n4_ := Aside0.mk (Kd.R_below (by (with_reducible repeat (first | apply Kd.R_alloc | apply Kd.R_drewN | apply Kd.R_drew)); exact HO273.out) hb); have n5_ := Aside0.mk (below_step (by repeat (first | (with_reducible first | exact HB.out | apply below_alloc | apply pw_below_drewN | apply below_drew1) | exact HB.out)) hb); clear HO261; clear HO264; clear HO267; clear HO271; clear HO273; clear HB; have HO261 := n0_; have HO264 := n1_; have HO267 := n2_; have HO271 := n3_; have HO273 := n4_; have HB := n5_; clear n0_ n1_ n2_ n3_ n4_ n5_; (try clear hb); (try clear hb2); (try clear hk); (try clear hi)))
                    go_ret
                    exact ⟨by first | rfl | (simp [errW_none, errW_some] <;> rfl) | (simp [*, errW_none, errW_some] <;> rfl), by repeat (first | (with_reducible first | exact HB.out | apply below_alloc | apply pw_below_drewN | apply below_drew1) | exact HB.out)⟩

-- NOT PRINTED: function 49 (math_sqrt)

-- NOT PRINTED: function 32 (math_Sqrt)

-- NOT PRINTED: function 12 (quo_Sqrt)

-- NOT PRINTED: function 11 (minstrellaw03_lives)

-- NOT PRINTED: function 3 (minstrellaw03_QuoDivides)

end Go.Proofs.Yteghlmcafhhkcaa.Ref
