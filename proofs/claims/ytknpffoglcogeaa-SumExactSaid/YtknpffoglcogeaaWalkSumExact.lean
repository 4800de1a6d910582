/- The walk of SumExact: it answers true. Conditions: the arguments are whole numbers of 32 bits. -/
import Derived.Test.YtknpffoglcogeaaAnswers
namespace Go.Proofs.Ytknpffoglcogeaa.Ans
open Go Go.RowKit Go.Proofs.Ytknpffoglcogeaa.Num Go.Proofs.Ytknpffoglcogeaa.Fl Go.Proofs.Ytknpffoglcogeaa.Dig

theorem walk_SumExact (a b : Nat) (ha : a < 4294967296) (hb : b < 4294967296) : Ans 7 #[.int .u32 a, .int .u32 b] (.bool true) := by
  intro w
  obtain ⟨x, hx⟩ : ∃ x, x = a / 64 := ⟨_, rfl⟩
  obtain ⟨y, hy⟩ : ∃ y, y = b / 64 := ⟨_, rfl⟩
  have lx : x < 67108864 := by omega
  have ly : y < 67108864 := by omega
  have lxy : x * y ≤ 67108863 * 67108863 := Nat.mul_le_mul (Nat.le_of_lt_succ lx) (Nat.le_of_lt_succ ly)
  have c1 : (2 : Nat) ^ 53 = 9007199254740992 := by decide
  have sx : x < 2 ^ 53 := by omega
  have sy : y < 2 ^ 53 := by omega
  have sxy : x + y < 2 ^ 53 := by omega
  have wx := ans_whole x (by unfold W; omega)
  have wy := ans_whole y (by unfold W; omega)
  have ws := ans_whole (x + y) (by unfold W; omega)
  have wp := ans_whole (x * y) (by unfold W; omega)
  have m1 := ans_Add (wholeW x) (wholeW y)
  rw [whole_add x y sx sy] at m1
  have m2 := ans_Mul (wholeW x) (wholeW y)
  rw [whole_mul x y sx sy] at m2
  have m3 := ans_Sub (wholeW (x + y)) (wholeW y)
  rw [whole_sub x y sy sxy] at m3
  have pb : (x : Int) * (y : Int) ≤ 4503599493152769 := by rw [← Int.natCast_mul]; omega
  have p0 : 0 ≤ (x : Int) * (y : Int) := Int.mul_nonneg (Int.natCast_nonneg _) (Int.natCast_nonneg _)
  rw [Int.natCast_add] at ws
  rw [Int.natCast_mul] at wp
  have ex : (x : Int) = (a : Int) / 64 := by omega
  have ey : (y : Int) = (b : Int) / 64 := by omega
  clear lxy c1 sx sy sxy hx hy
  generalize ((wholeW x : Nat) : Int) = r1 at *
  generalize ((wholeW y : Nat) : Int) = r2 at *
  generalize ((wholeW (x + y) : Nat) : Int) = r3 at *
  generalize ((wholeW (x * y) : Nat) : Int) = r4 at *
  generalize (x : Int) = X at *
  generalize (y : Int) = Y at *
  clear lx ly
  subst ex ey
  have A0 : 0 ≤ (a : Int) := Int.natCast_nonneg _
  have A1 : (a : Int) < 4294967296 := by omega
  have B0 : 0 ≤ (b : Int) := Int.natCast_nonneg _
  have B1 : (b : Int) < 4294967296 := by omega
  clear ha hb
  generalize (a : Int) = P at *
  generalize (b : Int) = Q at *
  go_enter Try.func7, Try.ntmps7
  go_wp2_with fail
  refine (wx.at _).mono ?_; rintro e w1 ⟨rfl, hb1⟩
  go_wp2_with fail
  refine (wy.at _).mono ?_; rintro e w2 ⟨rfl, hb2⟩
  go_wp2_with fail
  refine (m1.at _).mono ?_; rintro e w3 ⟨rfl, hb3⟩
  go_wp2_with fail
  refine (ws.at _).mono ?_; rintro e w4 ⟨rfl, hb4⟩
  go_wp2_with fail
  refine (wx.at _).mono ?_; rintro e w5 ⟨rfl, hb5⟩
  go_wp2_with fail
  refine (wy.at _).mono ?_; rintro e w6 ⟨rfl, hb6⟩
  go_wp2_with fail
  refine (m2.at _).mono ?_; rintro e w7 ⟨rfl, hb7⟩
  go_wp2_with fail
  refine (wp.at _).mono ?_; rintro e w8 ⟨rfl, hb8⟩
  go_wp2_with fail
  refine (wx.at _).mono ?_; rintro e w9 ⟨rfl, hb9⟩
  go_wp2_with fail
  refine (wy.at _).mono ?_; rintro e w10 ⟨rfl, hb10⟩
  go_wp2_with fail
  refine (m1.at _).mono ?_; rintro e w11 ⟨rfl, hb11⟩
  go_wp2_with fail
  refine (wy.at _).mono ?_; rintro e w12 ⟨rfl, hb12⟩
  go_wp2_with fail
  refine (m3.at _).mono ?_; rintro e w13 ⟨rfl, hb13⟩
  go_wp2_with fail
  refine (wx.at _).mono ?_; rintro e w14 ⟨rfl, hb14⟩
  go_wp2_with fail
  refine (ans_lives.at _).mono ?_; rintro e w15 ⟨rfl, hb15⟩
  go_wp2_with fail
  go_ret
  exact ⟨rfl, (bthen hb1 (bthen hb2 (bthen hb3 (bthen hb4 (bthen hb5 (bthen hb6 (bthen hb7 (bthen hb8 (bthen hb9 (bthen hb10 (bthen hb11 (bthen hb12 (bthen hb13 (bthen hb14 hb15))))))))))))))⟩
theorem wf_u32 {a : Int} (h : (Lit.int .u32 a).wf = true) : ∃ n : Nat, a = n ∧ n < 4294967296 := by
  simp [Lit.wf, IntKind.min, IntKind.max, IntKind.signed, IntKind.bits] at h
  obtain ⟨n, rfl⟩ := Int.eq_ofNat_of_zero_le h.1
  exact ⟨n, rfl, by omega⟩
theorem row_SumExact (a0 a1 : Int) (w : World) (w0 : (Lit.int .u32 a0).wf = true) (w1 : (Lit.int .u32 a1).wf = true) :
    Calls Try.prog 7 #[.int .u32 a0, .int .u32 a1] w fun e w' => e = .returned (.bool true) ∧ Below w.heap.size w w' := by
  obtain ⟨a, rfl, ha⟩ := wf_u32 w0
  obtain ⟨b, rfl, hb⟩ := wf_u32 w1
  exact walk_SumExact a b ha hb w
end Go.Proofs.Ytknpffoglcogeaa.Ans
