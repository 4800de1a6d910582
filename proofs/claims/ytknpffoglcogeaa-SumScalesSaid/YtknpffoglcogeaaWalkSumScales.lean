/- The walk of SumScales: it answers true. Conditions: the first argument is a word of 64 bits, the second one a byte. -/
import Derived.Test.YtknpffoglcogeaaAnswers
namespace Go.Proofs.Ytknpffoglcogeaa.Ans
open Go Go.RowKit Go.Proofs.YtknpffoglcogeaaW.PrintWords Go.Proofs.Ytknpffoglcogeaa.Num Go.Proofs.Ytknpffoglcogeaa.DigLaw Go.Proofs.Ytknpffoglcogeaa.Fl Go.Proofs.Ytknpffoglcogeaa.Dig

theorem walk_SumScales_other (a b : Nat) (ha : a < W) (h : kindN a ≠ 2) : Ans 4 #[.int .u64 a, .int .u8 b] (.bool true) := by
  intro w
  have p := ans_refParts a ha
  have k := ans_refKind a ha
  generalize ((fracN a : Nat) : Int) = f at *
  generalize expN a = e at *
  generalize sg a = s at *
  generalize kindN a = kk at *
  have c2 : ((kk : Int) != 2) = true := bne_iff_ne.2 (by omega)
  clear h ha
  generalize (a : Int) = x at *
  generalize (b : Int) = y at *
  go_enter Try.func4, Try.ntmps4
  go_wp2_with fail
  refine (p.at _).mono ?_; rintro e w1 ⟨rfl, hb1⟩
  go_wp2_with fail
  refine (k.at _).mono ?_; rintro e w2 ⟨rfl, hb2⟩
  go_wp2_with fail
  refine (ans_lives.at _).mono ?_; rintro e w3 ⟨rfl, hb3⟩
  go_wp2_with fail
  go_ret
  exact ⟨rfl, bthen hb1 (bthen hb2 hb3)⟩
theorem walk_SumScales_plain (a b : Nat) (ha : a < W) (hb : b < 256) (h : kindN a = 2) : Ans 4 #[.int .u64 a, .int .u8 b] (.bool true) := by
  intro w
  have fa : rg a < INF := (fin_kind a).1 (by omega)
  have p := ans_refParts a ha
  have k := ans_refKind a ha
  rw [h] at k
  have ea := exp_range a
  have m1 := ans_Mul a (twoW (b % 100))
  rw [scales_mul fa (b % 100) (by omega)] at m1
  have m2 := ans_Add a a
  rw [scales_add fa] at m2
  obtain ⟨l, dl, vl, ll, hl⟩ := digits_at (fracN a) (by have := frac_lt a; unfold W; omega)
  have r1 := fun (w : World) (A : Option Addr) (c : Nat) (hh : Holds w A c l) => round_at (sg a) (expN a + ((b % 100 : Nat) : Int)) dl (by omega) (by omega) (by omega) hh
  have r2 := fun (w : World) (A : Option Addr) (c : Nat) (hh : Holds w A c l) => round_at (sg a) (expN a + 1) dl (by omega) (by omega) (by omega) hh
  rw [vl] at r1 r2
  have e2 : ((twoW (b % 100) : Nat) : Int) = (1023 + (b : Int) % 100) * 4503599627370496 := by
    unfold twoW; rw [show (2 : Nat) ^ 52 = 4503599627370496 from by decide]; omega
  rw [e2] at m1
  generalize ((Ieee.double.word (sg a) (rung (fracN a) (expN a + ((b % 100 : Nat) : Int))) : Nat) : Int) = v1 at *
  generalize ((Ieee.double.word (sg a) (rung (fracN a) (expN a + 1)) : Nat) : Int) = v2 at *
  rw [show ((b % 100 : Nat) : Int) = (b : Int) % 100 from by omega] at r1
  generalize ((fracN a : Nat) : Int) = f at *
  clear vl ll dl fa h ha e2
  generalize expN a = e at *
  generalize sg a = s at *
  generalize (a : Int) = x at *
  have B0 : 0 ≤ (b : Int) := Int.natCast_nonneg _
  have B1 : (b : Int) < 256 := by omega
  clear hb
  generalize (b : Int) = y at *
  obtain ⟨ea1, ea2⟩ := ea
  have R1 := Aside0.mk r1
  have R2 := Aside0.mk r2
  have HL := Aside0.mk hl
  clear r1 r2 hl
  generalize hlen : l.length = len at *
  go_enter Try.func4, Try.ntmps4
  go_wp2_with fail
  refine (p.at _).mono ?_; rintro e w1 ⟨rfl, hb1⟩
  go_wp2_with fail
  refine (k.at _).mono ?_; rintro e w2 ⟨rfl, hb2⟩
  go_wp2_with fail
  refine (m1.at _).mono ?_; rintro e w3 ⟨rfl, hb3⟩
  go_wp2_with fail
  refine (HL.out _).mono ?_; rintro e w4 ⟨A, c, rfl, hh, hb4⟩
  have HH := Aside0.mk hh
  clear hh
  go_wp2_with fail
  refine (R1.out _ A c HH.out).mono ?_; rintro e w5 ⟨rfl, hb5⟩
  go_wp2_with fail
  refine (m2.at _).mono ?_; rintro e w6 ⟨rfl, hb6⟩
  go_wp2_with fail
  refine (HL.out _).mono ?_; rintro e w7 ⟨A2, c2, rfl, hh2, hb7⟩
  have HH2 := Aside0.mk hh2
  clear hh2
  go_wp2_with fail
  refine (R2.out _ A2 c2 HH2.out).mono ?_; rintro e w8 ⟨rfl, hb8⟩
  go_wp2_with fail
  refine (ans_lives.at _).mono ?_; rintro e w9 ⟨rfl, hb9⟩
  go_wp2_with fail
  go_ret
  exact ⟨rfl, bthen hb1 (bthen hb2 (bthen hb3 (bthen hb4 (bthen hb5 (bthen hb6 (bthen hb7 (bthen hb8 hb9)))))))⟩
theorem wf_u8 {a : Int} (h : (Lit.int .u8 a).wf = true) : ∃ n : Nat, a = n ∧ n < 256 := by
  simp [Lit.wf, IntKind.min, IntKind.max, IntKind.signed, IntKind.bits] at h
  obtain ⟨n, rfl⟩ := Int.eq_ofNat_of_zero_le h.1
  exact ⟨n, rfl, by omega⟩
theorem row_SumScales (a0 a1 : Int) (w : World) (w0 : (Lit.int .u64 a0).wf = true) (w1 : (Lit.int .u8 a1).wf = true) :
    Calls Try.prog 4 #[.int .u64 a0, .int .u8 a1] w fun e w' => e = .returned (.bool true) ∧ Below w.heap.size w w' := by
  obtain ⟨a, rfl, ha⟩ := wf_u64 w0
  obtain ⟨b, rfl, hb⟩ := wf_u8 w1
  by_cases h : kindN a = 2
  · exact walk_SumScales_plain a b ha hb h w
  · exact walk_SumScales_other a b ha h w
end Go.Proofs.Ytknpffoglcogeaa.Ans
