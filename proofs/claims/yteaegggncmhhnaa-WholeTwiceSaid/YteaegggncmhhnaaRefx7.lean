-- (head)
import Derived.Test.YteaegggncmhhnaaRefx0
import Derived.Test.YteaegggncmhhnaaRefx4
import Derived.Test.YteaegggncmhhnaaRefx5
import Derived.Test.YteaegggncmhhnaaRefx6
namespace Go.Proofs.Yteaegggncmhhnaa.Ref
open Go.RowKit Go.Proofs.YteaegggncmhhnaaW.PrintWords Go.Proofs.YteaegggncmhhnaaW.PrintLast Go.Proofs.YteaegggncmhhnaaW.PrintMore
attribute [local go_sem] max2_int min2_int max_two min_two max_three min_three max_four min_four   -- for this text's walks alone
set_option linter.unusedVariables false
set_option linter.unusedSimpArgs false

/-! ### minstrelref02_Add: function 64 -/
def minstrelref02_Add.j0 : Nat → Int → Int → Int → Int → Bool → Option (Int)
  | 0, _, _, _, _, _ => none
  | k + 1, x0, x1, x5, x6, x29 => if x29 = true then ((minstrelref01_Nan.f).bind fun t360 => (some t360)) else (if x5 = 3 then (some x0) else (if x6 = 3 then (some x1) else ((minstrelref02_Sum.f k x0 x1).bind fun t361 => (some t361))))
def minstrelref02_Add.f (k : Nat) (a0 : Int) (a1 : Int) : Option (Int) := (minstrelref01_Kind.f k a0).bind fun t358 => ((minstrelref01_Kind.f k a1).bind fun t359 => (if t358 = 4 then (minstrelref02_Add.j0 k a0 a1 t358 t359 true) else (if t359 = 4 then (minstrelref02_Add.j0 k a0 a1 t358 t359 true) else (if t358 = 3 then (if t359 = 3 then (minstrelref02_Add.j0 k a0 a1 t358 t359 (a0 != a1)) else (minstrelref02_Add.j0 k a0 a1 t358 t359 false)) else (minstrelref02_Add.j0 k a0 a1 t358 t359 false)))))
theorem minstrelref02_Add.mono_l : ∀ k, (∀ y0 y1 y2 y3 y4, LeO (minstrelref02_Add.j0 k y0 y1 y2 y3 y4) (minstrelref02_Add.j0 (k + 1) y0 y1 y2 y3 y4))
  | 0 => fun _ _ _ _ _ r h => by simp [minstrelref02_Add.j0] at h
  | k + 1 => by
    have ih0 := minstrelref02_Add.mono_l k
    · intro y0 y1 y2 y3 y4
      unfold minstrelref02_Add.j0
      repeat' first
      | (with_reducible exact ih0 _ _ _ _ _)
      | (with_reducible exact minstrelref01_Kind.mono _ _)
      | (with_reducible exact minstrelref02_Sum.mono _ _ _)
      | (with_reducible exact LeO.refl _)
      | (with_reducible exact LeO.none _)
      | (with_reducible refine LeO.ite ?_ ?_)
      | (with_reducible refine LeO.bind ?_ (fun _ => ?_))
      | exact ih0 _ _ _ _ _
      | exact minstrelref01_Kind.mono _ _
      | exact minstrelref02_Sum.mono _ _ _
      | exact LeO.none _
      | refine LeO.ite ?_ ?_
      | refine LeO.bind ?_ (fun _ => ?_)
theorem minstrelref02_Add.mono : ∀ a0 a1 k, LeO (minstrelref02_Add.f k a0 a1) (minstrelref02_Add.f (k + 1) a0 a1) := by
  intro a0 a1 k
  have ih0 := minstrelref02_Add.mono_l k
  unfold minstrelref02_Add.f
  repeat' first
      | (with_reducible exact ih0 _ _ _ _ _)
      | (with_reducible exact minstrelref01_Kind.mono _ _)
      | (with_reducible exact minstrelref02_Sum.mono _ _ _)
      | (with_reducible exact LeO.refl _)
      | (with_reducible exact LeO.none _)
      | (with_reducible refine LeO.ite ?_ ?_)
      | (with_reducible refine LeO.bind ?_ (fun _ => ?_))
      | exact ih0 _ _ _ _ _
      | exact minstrelref01_Kind.mono _ _
      | exact minstrelref02_Sum.mono _ _ _
      | exact LeO.none _
      | refine LeO.ite ?_ ?_
      | refine LeO.bind ?_ (fun _ => ?_)
set_option maxHeartbeats 8000000 in
set_option maxRecDepth 100000 in
theorem minstrelref02_Add.calls (k : Nat) (a0 : Int) (a1 : Int) (r : Int) (w : World) (h : minstrelref02_Add.f k a0 a1 = some r) :
    Calls Try.prog 64 #[.int .u64 a0, .int .u64 a1] w fun e w' => e = .returned (.int .u64 r) ∧ Below w.heap.size w w' := by
  have HB := Aside0.mk (Below.refl w.heap.size w)
  have H : ((minstrelref01_Kind.f k a0).bind fun t358 => ((minstrelref01_Kind.f k a1).bind fun t359 => (if t358 = 4 then (minstrelref02_Add.j0 k a0 a1 t358 t359 true) else (if t359 = 4 then (minstrelref02_Add.j0 k a0 a1 t358 t359 true) else (if t358 = 3 then (if t359 = 3 then (minstrelref02_Add.j0 k a0 a1 t358 t359 (a0 != a1)) else (minstrelref02_Add.j0 k a0 a1 t358 t359 false)) else (minstrelref02_Add.j0 k a0 a1 t358 t359 false)))))) = some r := h
  clear h
  replace H := Option.bind_eq_some_iff.mp H
  obtain ⟨t358, A30, H⟩ := H
  replace H : ((minstrelref01_Kind.f k a1).bind fun t359 => (if t358 = 4 then (minstrelref02_Add.j0 k a0 a1 t358 t359 true) else (if t359 = 4 then (minstrelref02_Add.j0 k a0 a1 t358 t359 true) else (if t358 = 3 then (if t359 = 3 then (minstrelref02_Add.j0 k a0 a1 t358 t359 (a0 != a1)) else (minstrelref02_Add.j0 k a0 a1 t358 t359 false)) else (minstrelref02_Add.j0 k a0 a1 t358 t359 false))))) = some r := H
  have A3 := Aside0.mk A30
  clear A30
  replace H := Option.bind_eq_some_iff.mp H
  obtain ⟨t359, A40, H⟩ := H
  replace H : (if t358 = 4 then (minstrelref02_Add.j0 k a0 a1 t358 t359 true) else (if t359 = 4 then (minstrelref02_Add.j0 k a0 a1 t358 t359 true) else (if t358 = 3 then (if t359 = 3 then (minstrelref02_Add.j0 k a0 a1 t358 t359 (a0 != a1)) else (minstrelref02_Add.j0 k a0 a1 t358 t359 false)) else (minstrelref02_Add.j0 k a0 a1 t358 t359 false)))) = some r := H
  have A4 := Aside0.mk A40
  clear A40
  have HC5 := Aside0.mk H
  clear H
  go_enter Try.func64, Try.ntmps64
  go_upto_region 2 with (first | ((with_reducible refine gate_callee (f := 25) rfl ?_); refine goesL_ (some 8) rfl rfl Try.func25 (by kernel_rfl) rfl #[.int .u64 a0] rfl (by (try simp only [List.map_toArray, List.map_cons, List.map_nil]); first | done | rfl | (simp only [List.length_drop, List.length_take]; rfl)) ?_; (with_reducible refine (minstrelref01_Kind.calls k a0 t358 _ A3.out).mono ?_); rintro e w' ⟨rfl, ⟨nd, rfl⟩⟩; refine ⟨_, rfl, ?_⟩) | ((with_reducible refine gate_callee (f := 25) rfl ?_); refine goesL_ (some 10) rfl rfl Try.func25 (by kernel_rfl) rfl #[.int .u64 a1] rfl (by (try simp only [List.map_toArray, List.map_cons, List.map_nil]); first | done | rfl | (simp only [List.length_drop, List.length_take]; rfl)) ?_; (with_reducible refine (minstrelref01_Kind.calls k a1 t359 _ A4.out).mono ?_); rintro e w' ⟨rfl, ⟨nd, rfl⟩⟩; refine ⟨_, rfl, ?_⟩))
  (try simp only [Act.put, List.setIfInBounds_toArray, List.set_cons_zero, List.set_cons_succ])
  go_cut [29] (fun v29 wc => ∃ (kq : Nat) (x29_4 : Bool), v29 = .bool x29_4 ∧ Aside0 (minstrelref02_Add.j0 kq a0 a1 t358 t359 x29_4 = some r) ∧ Aside0 (kq ≤ k) ∧ Aside0 (Below w.heap.size w wc))
  case first =>
    have H := HC5.out
    clear HC5
    by_cases c6 : t358 = 4
    · rw [if_pos c6] at H
      have c6b0 : (t358 == 4) = true := beq_iff_eq.mpr c6
      have c6b1 : (t358 != 4) = false := bne_eq_false_iff_eq.mpr c6
      clear c6
      (first | rw [c6b0] | (simp only [i64_w, i32_w]; rw [c6b0]) | skip)
      have H' := Aside0.mk H
      clear H
      go_wp2
      go_meet
      case rel => exact ⟨_, (true), (by first | rfl | (simp; done) | (simp [*]; done)), H', ⟨by first | omega | exact Nat.le_refl _⟩, ⟨by repeat (first | (with_reducible first | exact HB.out | apply below_alloc | apply pw_below_drewN | apply below_drew1) | exact HB.out)⟩⟩
    · rw [if_neg c6] at H
      have c6b0 : (t358 == 4) = false := beq_eq_false_iff_ne.mpr c6
      have c6b1 : (t358 != 4) = true := bne_iff_ne.mpr c6
      (first | rw [c6b0] | (simp only [i64_w, i32_w]; rw [c6b0]) | skip)
      by_cases c7 : t359 = 4
      · rw [if_pos c7] at H
        have c7b0 : (t359 == 4) = true := beq_iff_eq.mpr c7
        have c7b1 : (t359 != 4) = false := bne_eq_false_iff_eq.mpr c7
        clear c7
        have H' := Aside0.mk H
        clear H
        go_wp2
        go_meet
        case rel => exact ⟨_, (true), (by first | rfl | (simp; done) | (simp [*]; done)), H', ⟨by first | omega | exact Nat.le_refl _⟩, ⟨by repeat (first | (with_reducible first | exact HB.out | apply below_alloc | apply pw_below_drewN | apply below_drew1) | exact HB.out)⟩⟩
      · rw [if_neg c7] at H
        have c7b0 : (t359 == 4) = false := beq_eq_false_iff_ne.mpr c7
        have c7b1 : (t359 != 4) = true := bne_iff_ne.mpr c7
        by_cases c8 : t358 = 3
        · rw [if_pos c8] at H
          have c8b0 : (t358 == 3) = true := beq_iff_eq.mpr c8
          have c8b1 : (t358 != 3) = false := bne_eq_false_iff_eq.mpr c8
          clear c8
          by_cases c9 : t359 = 3
          · rw [if_pos c9] at H
            have c9b0 : (t359 == 3) = true := beq_iff_eq.mpr c9
            have c9b1 : (t359 != 3) = false := bne_eq_false_iff_eq.mpr c9
            clear c9
            have H' := Aside0.mk H
            clear H
            go_wp2
            go_meet
            case rel => exact ⟨_, ((a0 != a1)), (by first | rfl | (simp; done) | (simp [*]; done)), H', ⟨by first | omega | exact Nat.le_refl _⟩, ⟨by repeat (first | (with_reducible first | exact HB.out | apply below_alloc | apply pw_below_drewN | apply below_drew1) | exact HB.out)⟩⟩
          · rw [if_neg c9] at H
            have c9b0 : (t359 == 3) = false := beq_eq_false_iff_ne.mpr c9
            have c9b1 : (t359 != 3) = true := bne_iff_ne.mpr c9
            have H' := Aside0.mk H
            clear H
            go_wp2
            go_meet
            case rel => exact ⟨_, (false), (by first | rfl | (simp; done) | (simp [*]; done)), H', ⟨by first | omega | exact Nat.le_refl _⟩, ⟨by repeat (first | (with_reducible first | exact HB.out | apply below_alloc | apply pw_below_drewN | apply below_drew1) | exact HB.out)⟩⟩
        · rw [if_neg c8] at H
          have c8b0 : (t358 == 3) = false := beq_eq_false_iff_ne.mpr c8
          have c8b1 : (t358 != 3) = true := bne_iff_ne.mpr c8
          have H' := Aside0.mk H
          clear H
          go_wp2
          go_meet
          case rel => exact ⟨_, (false), (by first | rfl | (simp; done) | (simp [*]; done)), H', ⟨by first | omega | exact Nat.le_refl _⟩, ⟨by repeat (first | (with_reducible first | exact HB.out | apply below_alloc | apply pw_below_drewN | apply below_drew1) | exact HB.out)⟩⟩
  case rest =>
    clear HC5
    try clear c2
    try clear p2
    try clear c6
    try clear c6b0
    try clear c6b1
    try clear c7
    try clear c7b0
    try clear c7b1
    try clear c8
    try clear c8b0
    try clear c8b1
    try clear c9
    try clear c9b0
    try clear c9b1
    obtain ⟨kq, x29_4, rfl, HA, HJ4, HB⟩ := hcut
    cases kq with
    | zero => exact absurd HA.out (by simp [minstrelref02_Add.j0])
    | succ kj4 =>
      have H := HA.out
      clear HA
      simp only [minstrelref02_Add.j0] at H
      by_cases c10 : x29_4 = true
      · subst c10
        have H1 : ((minstrelref01_Nan.f).bind fun t360 => (some t360)) = some r := by rw [if_pos rfl] at H; exact H
        clear H
        have H := H1
        clear H1
        replace H := Option.bind_eq_some_iff.mp H
        obtain ⟨t360, A110, H⟩ := H
        replace H : (some t360) = some r := H
        have A11 := Aside0.mk A110
        clear A110
        obtain rfl := Option.some.inj H
        go_wp2_with (first | ((with_reducible refine gate_callee (f := 75) rfl ?_); refine goesL_ (some 30) rfl rfl Try.func75 (by kernel_rfl) rfl #[] rfl (by (try simp only [List.map_toArray, List.map_cons, List.map_nil]); first | done | rfl | (simp only [List.length_drop, List.length_take]; rfl)) ?_; (with_reducible refine (minstrelref01_Nan.calls  t360 _ A11.out).mono ?_); rintro e w' ⟨rfl, ⟨nd, rfl⟩⟩; refine ⟨_, rfl, ?_⟩))
        go_ret
        exact ⟨by first | rfl | (simp [errW_none, errW_some] <;> rfl) | (simp [*, errW_none, errW_some] <;> rfl), by repeat (first | (with_reducible first | exact HB.out | apply below_alloc | apply pw_below_drewN | apply below_drew1) | exact HB.out)⟩
      · replace c10 := Bool.eq_false_iff.mpr c10
        subst c10
        have H1 : (if t358 = 3 then (some a0) else (if t359 = 3 then (some a1) else ((minstrelref02_Sum.f kj4 a0 a1).bind fun t361 => (some t361)))) = some r := by rw [if_neg (show ¬ (false = true) by decide)] at H; exact H
        clear H
        have H := H1
        clear H1
        by_cases c12 : t358 = 3
        · rw [if_pos c12] at H
          have c12b0 : (t358 == 3) = true := beq_iff_eq.mpr c12
          have c12b1 : (t358 != 3) = false := bne_eq_false_iff_eq.mpr c12
          clear c12
          obtain rfl := Option.some.inj H
          go_wp2
          go_ret
          exact ⟨by first | rfl | (simp [errW_none, errW_some] <;> rfl) | (simp [*, errW_none, errW_some] <;> rfl), by repeat (first | (with_reducible first | exact HB.out | apply below_alloc | apply pw_below_drewN | apply below_drew1) | exact HB.out)⟩
        · rw [if_neg c12] at H
          have c12b0 : (t358 == 3) = false := beq_eq_false_iff_ne.mpr c12
          have c12b1 : (t358 != 3) = true := bne_iff_ne.mpr c12
          by_cases c13 : t359 = 3
          · rw [if_pos c13] at H
            have c13b0 : (t359 == 3) = true := beq_iff_eq.mpr c13
            have c13b1 : (t359 != 3) = false := bne_eq_false_iff_eq.mpr c13
            clear c13
            obtain rfl := Option.some.inj H
            go_wp2
            go_ret
            exact ⟨by first | rfl | (simp [errW_none, errW_some] <;> rfl) | (simp [*, errW_none, errW_some] <;> rfl), by repeat (first | (with_reducible first | exact HB.out | apply below_alloc | apply pw_below_drewN | apply below_drew1) | exact HB.out)⟩
          · rw [if_neg c13] at H
            have c13b0 : (t359 == 3) = false := beq_eq_false_iff_ne.mpr c13
            have c13b1 : (t359 != 3) = true := bne_iff_ne.mpr c13
            replace H := Option.bind_eq_some_iff.mp H
            obtain ⟨t361, A140, H⟩ := H
            replace H : (some t361) = some r := H
            have A14 := Aside0.mk A140
            clear A140
            obtain rfl := Option.some.inj H
            go_wp2_with (first | ((with_reducible refine gate_callee (f := 76) rfl ?_); refine goesL_ (some 39) rfl rfl Try.func76 (by kernel_rfl) rfl #[.int .u64 a0, .int .u64 a1] rfl (by (try simp only [List.map_toArray, List.map_cons, List.map_nil]); first | done | rfl | (simp only [List.length_drop, List.length_take]; rfl)) ?_; (with_reducible refine (minstrelref02_Sum.calls kj4 a0 a1 t361 _ A14.out).mono ?_); rintro e w15 ⟨rfl, hb⟩; refine ⟨_, rfl, ?_⟩; have n0_ := Aside0.mk (below_step (by repeat (first | (with_reducible first | exact HB.out | apply below_alloc | apply pw_below_drewN | apply below_drew1) | exact HB.out)) hb); clear HB; have HB := n0_; clear n0_; (try clear hb); (try clear hb2); (try clear hk); (try clear hi)))
            go_ret
            exact ⟨by first | rfl | (simp [errW_none, errW_some] <;> rfl) | (simp [*, errW_none, errW_some] <;> rfl), by repeat (first | (with_reducible first | exact HB.out | apply below_alloc | apply pw_below_drewN | apply below_drew1) | exact HB.out)⟩

/-! ### minstrelref02_Neg: function 65 -/
def minstrelref02_Neg.f (k : Nat) (a0 : Int) : Option (Int) := (minstrelref01_Kind.f k a0).bind fun t362 => (if t362 = 4 then ((minstrelref01_Nan.f).bind fun t363 => (some t363)) else (some (Go.bits .xor .u64 a0 9223372036854775808)))
theorem minstrelref02_Neg.mono : ∀ a0 k, LeO (minstrelref02_Neg.f k a0) (minstrelref02_Neg.f (k + 1) a0) := by
  intro a0 k
  unfold minstrelref02_Neg.f
  repeat' first
      | (with_reducible exact minstrelref01_Kind.mono _ _)
      | (with_reducible exact LeO.refl _)
      | (with_reducible exact LeO.none _)
      | (with_reducible refine LeO.ite ?_ ?_)
      | (with_reducible refine LeO.bind ?_ (fun _ => ?_))
      | exact minstrelref01_Kind.mono _ _
      | exact LeO.none _
      | refine LeO.ite ?_ ?_
      | refine LeO.bind ?_ (fun _ => ?_)
set_option maxHeartbeats 8000000 in
set_option maxRecDepth 100000 in
theorem minstrelref02_Neg.calls (k : Nat) (a0 : Int) (r : Int) (w : World) (h : minstrelref02_Neg.f k a0 = some r) :
    Calls Try.prog 65 #[.int .u64 a0] w fun e w' => e = .returned (.int .u64 r) ∧ Drawn0 w w' := by
  have H : ((minstrelref01_Kind.f k a0).bind fun t362 => (if t362 = 4 then ((minstrelref01_Nan.f).bind fun t363 => (some t363)) else (some (Go.bits .xor .u64 a0 9223372036854775808)))) = some r := h
  clear h
  replace H := Option.bind_eq_some_iff.mp H
  obtain ⟨t362, A20, H⟩ := H
  replace H : (if t362 = 4 then ((minstrelref01_Nan.f).bind fun t363 => (some t363)) else (some (Go.bits .xor .u64 a0 9223372036854775808))) = some r := H
  have A2 := Aside0.mk A20
  clear A20
  by_cases c3 : t362 = 4
  · rw [if_pos c3] at H
    have c3b0 : (t362 == 4) = true := beq_iff_eq.mpr c3
    have c3b1 : (t362 != 4) = false := bne_eq_false_iff_eq.mpr c3
    clear c3
    replace H := Option.bind_eq_some_iff.mp H
    obtain ⟨t363, A40, H⟩ := H
    replace H : (some t363) = some r := H
    have A4 := Aside0.mk A40
    clear A40
    obtain rfl := Option.some.inj H
    go_enter Try.func65, Try.ntmps65
    go_wp2_with (first | ((with_reducible refine gate_callee (f := 25) rfl ?_); refine goesL_ (some 4) rfl rfl Try.func25 (by kernel_rfl) rfl #[.int .u64 a0] rfl (by (try simp only [List.map_toArray, List.map_cons, List.map_nil]); first | done | rfl | (simp only [List.length_drop, List.length_take]; rfl)) ?_; (with_reducible refine (minstrelref01_Kind.calls k a0 t362 _ A2.out).mono ?_); rintro e w' ⟨rfl, ⟨nd, rfl⟩⟩; refine ⟨_, rfl, ?_⟩) | ((with_reducible refine gate_callee (f := 75) rfl ?_); refine goesL_ (some 6) rfl rfl Try.func75 (by kernel_rfl) rfl #[] rfl (by (try simp only [List.map_toArray, List.map_cons, List.map_nil]); first | done | rfl | (simp only [List.length_drop, List.length_take]; rfl)) ?_; (with_reducible refine (minstrelref01_Nan.calls  t363 _ A4.out).mono ?_); rintro e w' ⟨rfl, ⟨nd, rfl⟩⟩; refine ⟨_, rfl, ?_⟩))
    go_ret
    exact ⟨by first | rfl | (simp; done) | (simp [*]; done), by repeat (first | exact Drawn0.refl _ | apply Drawn0.step)⟩
  · rw [if_neg c3] at H
    have c3b0 : (t362 == 4) = false := beq_eq_false_iff_ne.mpr c3
    have c3b1 : (t362 != 4) = true := bne_iff_ne.mpr c3
    obtain rfl := Option.some.inj H
    go_enter Try.func65, Try.ntmps65
    go_wp2_with (first | ((with_reducible refine gate_callee (f := 25) rfl ?_); refine goesL_ (some 4) rfl rfl Try.func25 (by kernel_rfl) rfl #[.int .u64 a0] rfl (by (try simp only [List.map_toArray, List.map_cons, List.map_nil]); first | done | rfl | (simp only [List.length_drop, List.length_take]; rfl)) ?_; (with_reducible refine (minstrelref01_Kind.calls k a0 t362 _ A2.out).mono ?_); rintro e w' ⟨rfl, ⟨nd, rfl⟩⟩; refine ⟨_, rfl, ?_⟩))
    go_ret
    exact ⟨by first | rfl | (simp; done) | (simp [*]; done), by repeat (first | exact Drawn0.refl _ | apply Drawn0.step)⟩

/-! ### minstrelref02_Sub: function 43 -/
def minstrelref02_Sub.f (k : Nat) (a0 : Int) (a1 : Int) : Option (Int) := (minstrelref02_Neg.f k a1).bind fun t364 => ((minstrelref02_Add.f k a0 t364).bind fun t365 => (some t365))
theorem minstrelref02_Sub.mono : ∀ a0 a1 k, LeO (minstrelref02_Sub.f k a0 a1) (minstrelref02_Sub.f (k + 1) a0 a1) := by
  intro a0 a1 k
  unfold minstrelref02_Sub.f
  repeat' first
      | (with_reducible exact minstrelref02_Add.mono _ _ _)
      | (with_reducible exact minstrelref02_Neg.mono _ _)
      | (with_reducible exact LeO.refl _)
      | (with_reducible exact LeO.none _)
      | (with_reducible refine LeO.ite ?_ ?_)
      | (with_reducible refine LeO.bind ?_ (fun _ => ?_))
      | exact minstrelref02_Add.mono _ _ _
      | exact minstrelref02_Neg.mono _ _
      | exact LeO.none _
      | refine LeO.ite ?_ ?_
      | refine LeO.bind ?_ (fun _ => ?_)
set_option maxHeartbeats 8000000 in
set_option maxRecDepth 100000 in
theorem minstrelref02_Sub.calls (k : Nat) (a0 : Int) (a1 : Int) (r : Int) (w : World) (h : minstrelref02_Sub.f k a0 a1 = some r) :
    Calls Try.prog 43 #[.int .u64 a0, .int .u64 a1] w fun e w' => e = .returned (.int .u64 r) ∧ Below w.heap.size w w' := by
  have HB := Aside0.mk (Below.refl w.heap.size w)
  have H : ((minstrelref02_Neg.f k a1).bind fun t364 => ((minstrelref02_Add.f k a0 t364).bind fun t365 => (some t365))) = some r := h
  clear h
  replace H := Option.bind_eq_some_iff.mp H
  obtain ⟨t364, A30, H⟩ := H
  replace H : ((minstrelref02_Add.f k a0 t364).bind fun t365 => (some t365)) = some r := H
  have A3 := Aside0.mk A30
  clear A30
  replace H := Option.bind_eq_some_iff.mp H
  obtain ⟨t365, A40, H⟩ := H
  replace H : (some t365) = some r := H
  have A4 := Aside0.mk A40
  clear A40
  obtain rfl := Option.some.inj H
  go_enter Try.func43, Try.ntmps43
  go_wp2_with (first | ((with_reducible refine gate_callee (f := 65) rfl ?_); refine goesL_ (some 7) rfl rfl Try.func65 (by kernel_rfl) rfl #[.int .u64 a1] rfl (by (try simp only [List.map_toArray, List.map_cons, List.map_nil]); first | done | rfl | (simp only [List.length_drop, List.length_take]; rfl)) ?_; (with_reducible refine (minstrelref02_Neg.calls k a1 t364 _ A3.out).mono ?_); rintro e w' ⟨rfl, ⟨nd, rfl⟩⟩; refine ⟨_, rfl, ?_⟩) | ((with_reducible refine gate_callee (f := 64) rfl ?_); refine goesL_ (some 8) rfl rfl Try.func64 (by kernel_rfl) rfl #[.int .u64 a0, .int .u64 t364] rfl (by (try simp only [List.map_toArray, List.map_cons, List.map_nil]); first | done | rfl | (simp only [List.length_drop, List.length_take]; rfl)) ?_; (with_reducible refine (minstrelref02_Add.calls k a0 t364 t365 _ A4.out).mono ?_); rintro e w5 ⟨rfl, hb⟩; refine ⟨_, rfl, ?_⟩; have n0_ := Aside0.mk (below_step (by repeat (first | (with_reducible first | exact HB.out | apply below_alloc | apply pw_below_drewN | apply below_drew1) | exact HB.out)) hb); clear HB; have HB := n0_; clear n0_; (try clear hb); (try clear hb2); (try clear hk); (try clear hi)))
  go_ret
  exact ⟨by first | rfl | (simp [errW_none, errW_some] <;> rfl) | (simp [*, errW_none, errW_some] <;> rfl), by repeat (first | (with_reducible first | exact HB.out | apply below_alloc | apply pw_below_drewN | apply below_drew1) | exact HB.out)⟩

/-! ### minstrelref04_Apart: function 27 -/
def minstrelref04_Apart.f (k : Nat) (a0 : Int) (a1 : Int) : Option (Int) := (minstrelref02_Sub.f k a0 a1).bind fun t366 => (some t366)
theorem minstrelref04_Apart.mono : ∀ a0 a1 k, LeO (minstrelref04_Apart.f k a0 a1) (minstrelref04_Apart.f (k + 1) a0 a1) := by
  intro a0 a1 k
  unfold minstrelref04_Apart.f
  repeat' first
      | (with_reducible exact minstrelref02_Sub.mono _ _ _)
      | (with_reducible exact LeO.refl _)
      | (with_reducible exact LeO.none _)
      | (with_reducible refine LeO.ite ?_ ?_)
      | (with_reducible refine LeO.bind ?_ (fun _ => ?_))
      | exact minstrelref02_Sub.mono _ _ _
      | exact LeO.none _
      | refine LeO.ite ?_ ?_
      | refine LeO.bind ?_ (fun _ => ?_)
set_option maxHeartbeats 8000000 in
set_option maxRecDepth 100000 in
theorem minstrelref04_Apart.calls (k : Nat) (a0 : Int) (a1 : Int) (r : Int) (w : World) (h : minstrelref04_Apart.f k a0 a1 = some r) :
    Calls Try.prog 27 #[.int .u64 a0, .int .u64 a1] w fun e w' => e = .returned (.int .u64 r) ∧ Below w.heap.size w w' := by
  have HB := Aside0.mk (Below.refl w.heap.size w)
  have H : ((minstrelref02_Sub.f k a0 a1).bind fun t366 => (some t366)) = some r := h
  clear h
  replace H := Option.bind_eq_some_iff.mp H
  obtain ⟨t366, A30, H⟩ := H
  replace H : (some t366) = some r := H
  have A3 := Aside0.mk A30
  clear A30
  obtain rfl := Option.some.inj H
  go_enter Try.func27, Try.ntmps27
  go_wp2_with (first | ((with_reducible refine gate_callee (f := 43) rfl ?_); refine goesL_ (some 7) rfl rfl Try.func43 (by kernel_rfl) rfl #[.int .u64 a0, .int .u64 a1] rfl (by (try simp only [List.map_toArray, List.map_cons, List.map_nil]); first | done | rfl | (simp only [List.length_drop, List.length_take]; rfl)) ?_; (with_reducible refine (minstrelref02_Sub.calls k a0 a1 t366 _ A3.out).mono ?_); rintro e w4 ⟨rfl, hb⟩; refine ⟨_, rfl, ?_⟩; have n0_ := Aside0.mk (below_step (by repeat (first | (with_reducible first | exact HB.out | apply below_alloc | apply pw_below_drewN | apply below_drew1) | exact HB.out)) hb); clear HB; have HB := n0_; clear n0_; (try clear hb); (try clear hb2); (try clear hk); (try clear hi)))
  go_ret
  exact ⟨by first | rfl | (simp [errW_none, errW_some] <;> rfl) | (simp [*, errW_none, errW_some] <;> rfl), by repeat (first | (with_reducible first | exact HB.out | apply below_alloc | apply pw_below_drewN | apply below_drew1) | exact HB.out)⟩

-- NOT PRINTED: function 5 (minstrellaw04_WholeRounds)

-- NOT PRINTED: function 6 (minstrellaw04_WholeRises)

-- NOT PRINTED: function 7 (minstrellaw04_WholeTwice)

end Go.Proofs.Yteaegggncmhhnaa.Ref
