/- RandPowers: below a power of two a number is the next one's low bits. No conditions. -/
import Derived.Test.YtijjofdnkdfccaaPRandPowersx1
import Derived.Test.YtijjofdnkdfccaaRandLaw
namespace Go.Proofs.Ytijjofdnkdfccaa.Pure
open Go.RowKit Go.Proofs.Ytijjofdnkdfccaa.PRandPowers Go.Proofs.YtijjofdnkdfccaaW.PrintWords Go.Proofs.YtijjofdnkdfccaaW.PrintLast Go.Proofs.YtijjofdnkdfccaaW.PrintMore
open Go.Proofs.Ytijjofdnkdfccaa.Num Go.Proofs.Ytijjofdnkdfccaa.RandLaw

namespace RandPowersAid
theorem next_is (n : Nat) : rand_next.f (n : Int) = some (((stp n : Nat) : Int), ((mixed (stp n) : Nat) : Int)) := by
  unfold rand_next.f; rw [stp_go, mixed_go _ (stp_lt n)]
theorem Next_is (n : Nat) : rand_Next.f (n : Int) = some (((stp n : Nat) : Int), ((mixed (stp n) : Nat) : Int)) := by
  unfold rand_Next.f; rw [next_is]; rfl
theorem lives_is : minstrellaw16_lives.f = some true := by
  unfold minstrellaw16_lives.f
  have h := Next_is 0
  rw [show ((0 : Nat) : Int) = 0 from rfl] at h
  rw [h]
  have h1 : stp 0 = 11400714819323198485 := by decide +kernel
  have h2 : mixed 11400714819323198485 = 16294208416658607535 := by decide +kernel
  simp only [Option.bind_some, h1, h2]
  rfl
theorem below_two (s : Nat) (n : Int) (h0 : 0 < n) (h1 : n < 18446744073709551616) (h : (18446744073709551616 : Int) % n = 0) :
    rand_Below.f 1 (s : Int) n = some (((stp s : Nat) : Int), ((mixed (stp s) : Nat) : Int) % n) := by
  have e1 : IntKind.u64.wrap (-n) = 18446744073709551616 - n := by rw [u64w]; omega
  have e2 : Int.tmod (18446744073709551616 - n) n = 0 := by
    rw [Int.tmod_eq_emod_of_nonneg (by omega), Int.sub_emod_right, h]
  have hm := mixed_lt (stp s)
  unfold rand_Below.f
  rw [if_neg (Int.ne_of_gt h0), e1, e2, rand_Below.l0, next_is]
  simp only [Option.bind_some]
  have e3 : IntKind.u64.wrap (18446744073709551615 - 0) = 18446744073709551615 := by decide
  rw [e3, if_pos (by unfold M at hm; omega), if_neg (Int.ne_of_gt h0), Int.tmod_eq_emod_of_nonneg (Int.natCast_nonneg _)]
theorem core {a1 s n a x : Int} {k : Nat} (h0 : 0 ≤ Int.tmod a1 64) (hn : shl .u64 1 (Int.tmod a1 64) = n) (h1 : rand_Below.f k s n = some (a, x)) {y : Int} (h2 : rand_Next.f s = some (a, y)) (h3 : x = Go.bits .and .u64 y (IntKind.u64.wrap (n - 1))) :
    minstrellaw16_RandPowers.f k s a1 = some true := by
  unfold minstrellaw16_RandPowers.f
  rw [if_pos h0, hn, h1, h2, lives_is]
  simp only [Option.bind_some, if_true]
  rw [if_pos h3]
end RandPowersAid
open RandPowersAid

theorem RandPowers : minstrellaw16_RandPowers.Pure := by
  intro a0 a1 w0 w1
  obtain ⟨s, rfl, hs⟩ := wf_u64 w0
  have hb : 0 ≤ a1 := by simp [Lit.wf, IntKind.min, IntKind.max, IntKind.signed, IntKind.bits] at w1; omega
  have ht : Int.tmod a1 64 = a1 % 64 := Int.tmod_eq_emod_of_nonneg hb
  obtain ⟨j, hj, hj2⟩ : ∃ j : Nat, a1 % 64 = (j : Int) ∧ j < 64 := ⟨(a1 % 64).toNat, by omega, by omega⟩
  have hp : 2 ^ j < 18446744073709551616 := Nat.lt_of_lt_of_le (Nat.pow_lt_pow_right (by decide) hj2) (by decide)
  have hn : shl .u64 1 (Int.tmod a1 64) = ((2 ^ j : Nat) : Int) := by
    rw [ht, hj]; unfold shl
    rw [Int.toNat_natCast, Nat.min_eq_left (by simp [IntKind.bits]; omega), Int.one_mul]
    rw [show ((2 : Int) ^ j) = ((2 ^ j : Nat) : Int) from by simp]
    exact u64in (by omega) (by omega)
  have hdiv : (18446744073709551616 : Int) % ((2 ^ j : Nat) : Int) = 0 := by
    have : 18446744073709551616 % 2 ^ j = 0 := by
      have e : 18446744073709551616 = 2 ^ j * 2 ^ (64 - j) := by rw [← Nat.pow_add, show j + (64 - j) = 64 by omega]
      rw [e]; exact Nat.mul_mod_right _ _
    omega
  have hpos := Nat.two_pow_pos j
  refine ⟨1, core (by omega) hn (below_two s _ (by omega) (by omega) hdiv) (Next_is s) ?_⟩
  have e : IntKind.u64.wrap (((2 ^ j : Nat) : Int) - 1) = ((2 ^ j - 1 : Nat) : Int) := by rw [u64in (by omega) (by omega)]; omega
  rw [e, mask_nat _ j (mixed_lt _) (by omega), Int.natCast_emod]

end Go.Proofs.Ytijjofdnkdfccaa.Pure
