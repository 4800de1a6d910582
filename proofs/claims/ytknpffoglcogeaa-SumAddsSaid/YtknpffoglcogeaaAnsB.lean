/- Answers of the layer 2 further: sums, differences, the reference's Neg, and that anything is added at all. Condition: words have 64 bits. -/
import Derived.Test.YtknpffoglcogeaaAns
import Derived.Test.YtknpffoglcogeaaNegLaw
namespace Go.Proofs.Ytknpffoglcogeaa.Ans
open Go Go.RowKit Go.Proofs.Ytknpffoglcogeaa.Ref Go.Proofs.YtknpffoglcogeaaW.PrintWords Go.Proofs.YtknpffoglcogeaaW.PrintLast Go.Proofs.YtknpffoglcogeaaW.PrintMore
open Go.Proofs.Ytknpffoglcogeaa.Num Go.Proofs.Ytknpffoglcogeaa.DigLaw Go.Proofs.Ytknpffoglcogeaa.Fl Go.Proofs.Ytknpffoglcogeaa.Dig Go.Proofs.Ytknpffoglcogeaa.Float
open Ieee (double)

theorem refNeg_is (a : Nat) (ha : a < W) : Ev (fun k => minstrelref02_Neg.f k (a : Int)) ((negW a : Nat) : Int) := by
  obtain ⟨K, hk⟩ := kind_is a ha
  refine ⟨K, fun k hle => ?_⟩
  have h : minstrelref01_Kind.f k (a : Int) = some ((kindN a : Nat) : Int) := hk k hle
  show minstrelref02_Neg.f k (a : Int) = some ((negW a : Nat) : Int)
  unfold minstrelref02_Neg.f negW
  rw [h, Option.bind_some, nan_is, Option.bind_some, flip_xor a ha]
  by_cases c : kindN a = 4
  · rw [if_pos c, if_pos (by omega)]; rfl
  · rw [if_neg c, if_neg (by omega)]
theorem ans_refNeg (a : Nat) (ha : a < W) : Ans 12 #[.int .u64 a] (.int .u64 (negW a)) := by
  intro w
  obtain ⟨k, hk⟩ := (refNeg_is a ha).rounds
  refine (minstrelref02_Neg.calls k _ _ w hk).mono ?_
  rintro e w' ⟨rfl, hd⟩
  exact ⟨rfl, hd.below⟩

theorem ans_Add (a b : Nat) : Ans 18 #[.int .u64 a, .int .u64 b] (.int .u64 (addW a b)) := by
  intro w
  cases h : double.add a b with
  | none =>
    have e : addW a b = Dig.NANW := by unfold addW; rw [h]; rfl
    rw [e]
    refine (Add_none a b h w).mono ?_
    rintro e w' ⟨rfl, rfl⟩
    exact ⟨rfl, (Below.refl _ _).drew⟩
  | some r =>
    have e : addW a b = r := by unfold addW; rw [h]; rfl
    rw [e]
    refine (Add_some a b r h w).mono ?_
    rintro e w' ⟨rfl, rfl⟩
    have hr : rg r ≤ INF := by
      unfold Ieee.Format.add at h
      rw [Option.map_eq_some_iff] at h
      obtain ⟨d, hd, rfl⟩ := h
      exact sum_ok hd
    rw [canon_num hr]
    exact ⟨rfl, Below.refl _ _⟩
def subW (a b : Nat) : Nat := (double.sub a b).getD Dig.NANW
theorem ans_Sub (a b : Nat) : Ans 21 #[.int .u64 a, .int .u64 b] (.int .u64 (subW a b)) := by
  intro w
  cases h : double.sub a b with
  | none =>
    have e : subW a b = Dig.NANW := by unfold subW; rw [h]; rfl
    rw [e]
    refine (Sub_none a b h w).mono ?_
    rintro e w' ⟨rfl, rfl⟩
    exact ⟨rfl, (Below.refl _ _).drew⟩
  | some r =>
    have e : subW a b = r := by unfold subW; rw [h]; rfl
    rw [e]
    refine (Sub_some a b r h w).mono ?_
    rintro e w' ⟨rfl, rfl⟩
    have hr : rg r ≤ INF := by
      unfold Ieee.Format.sub at h
      rw [Option.map_eq_some_iff] at h
      obtain ⟨d, hd, rfl⟩ := h
      exact sum_ok hd
    rw [canon_num hr]
    exact ⟨rfl, Below.refl _ _⟩

theorem lives_add : addW 4591870180066957722 4596373779694328218 = 4599075939470750516 := by decide +kernel
theorem lives_mul : mulW 0 13830554455654793216 = 9223372036854775808 := by decide +kernel
theorem ans_lives : Ans 13 #[] (.bool true) := by
  intro w
  have h1 := ans_Add 4591870180066957722 4596373779694328218
  have h2 := ans_Mul 0 13830554455654793216
  rw [lives_add] at h1
  rw [lives_mul] at h2
  have H1 : Ans 18 #[.int .u64 4591870180066957722, .int .u64 4596373779694328218] (.int .u64 4599075939470750516) := h1
  have H2 : Ans 10 #[.int .u64 0, .int .u64 13830554455654793216] (.int .u64 9223372036854775808) := h2
  clear h1 h2
  go_enter Try.func13, Try.ntmps13
  go_wp2_with (first | (go_at_call 18; refine (H1.at _).mono ?_; rintro e w1 ⟨rfl, hb1⟩) | (go_at_call 10; refine (H2.at _).mono ?_; rintro e w2 ⟨rfl, hb2⟩))
  go_ret
  exact ⟨rfl, bthen hb1 hb2⟩
end Go.Proofs.Ytknpffoglcogeaa.Ans
