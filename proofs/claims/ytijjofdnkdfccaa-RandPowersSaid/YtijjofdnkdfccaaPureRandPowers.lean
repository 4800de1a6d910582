/- RandPowers: below a power of two a number is the next one's low bits. No conditions. -/
import Derived.Test.YtijjofdnkdfccaaPRandPowersx1
import Derived.Test.YtijjofdnkdfccaaRandLaw
namespace Go.Proofs.Ytijjofdnkdfccaa.Pure
open Go.RowKit Go.Proofs.Ytijjofdnkdfccaa.PRandPowers Go.Proofs.YtijjofdnkdfccaaW.PrintWords Go.Proofs.YtijjofdnkdfccaaW.PrintLast Go.Proofs.YtijjofdnkdfccaaW.PrintMore
open Go.Proofs.Ytijjofdnkdfccaa.Num Go.Proofs.Ytijjofdnkdfccaa.RandLaw

namespace RandPowersAid
theorem next_is (n : Nat) : rand_next.f (n : Int) = some (((stp n : Nat) : Int), ((mixed (stp n) : Nat) : Int)) := by
  unfold rand_next.f; rw [stp_go, mixed_go _ (stp_lt n)]
theorem Next_is (n : Nat) : rand_Next.f (n : Int) = some (((stp n : Nat) : Int), ((mixed (stp n) : Nat) : Int)) := by
  unfold rand_Next.f; rw [next_is]; rfl
theorem lives_is : minstrellaw16_lives.f = some true := by
  unfold minstrellaw16_lives.f
  have h := Next_is 0
  rw [show ((0 : Nat) : Int) = 0 from rfl] at h
  rw [h]
  have h1 : stp 0 = 11400714819323198485 := by decide +kernel
  have h2 : mixed 11400714819323198485 = 16294208416658607535 := by decide +kernel
  simp only [Option.bind_some, h1, h2]
  rfl
theorem below_gen {s n a x last : Int} (h0 : 0 < n) (h1 : Int.tmod (IntKind.u64.wrap (-n)) n = 0) (hl : IntKind.u64.wrap (18446744073709551615 - 0) = last) (hx : x ≤ last) (h2 : rand_next.f s = some (a, x)) (hx0 : 0 ≤ x) :
    rand_Below.f 1 s n = some (a, x % n) := by
  unfold rand_Below.f
  rw [if_neg (Int.ne_of_gt h0), h1, rand_Below.l0, h2]
  simp only [Option.bind_some]
  rw [hl, if_pos hx, if_neg (Int.ne_of_gt h0), Int.tmod_eq_emod_of_nonneg hx0]
theorem spare_two {n : Int} (h0 : 0 < n) (h1 : n < 18446744073709551616) (h : (18446744073709551616 : Int) % n = 0) : Int.tmod (IntKind.u64.wrap (-n)) n = 0 := by
  have e1 : IntKind.u64.wrap (-n) = 18446744073709551616 - n := by rw [u64w]; omega
  rw [e1, Int.tmod_eq_emod_of_nonneg (by omega), Int.sub_emod_right, h]
theorem last_two : IntKind.u64.wrap (18446744073709551615 - 0) = 18446744073709551615 := u64in (by omega) (by omega)
theorem two_mod {a p : Nat} (h : a % p = 0) : (a : Int) % (p : Int) = 0 := by
  have := congrArg (fun n : Nat => (n : Int)) h
  simp only [Int.natCast_emod] at this; exact this
theorem le_last {n : Nat} (h : n < M) : (n : Int) ≤ 18446744073709551615 := by unfold M at h; omega
theorem core {a1 s n a x : Int} {k : Nat} (h0 : 0 ≤ Int.tmod a1 64) (hn : shl .u64 1 (Int.tmod a1 64) = n) (h1 : rand_Below.f k s n = some (a, x)) {y : Int} (h2 : rand_Next.f s = some (a, y)) (h3 : x = Go.bits .and .u64 y (IntKind.u64.wrap (n - 1))) :
    minstrellaw16_RandPowers.f k s a1 = some true := by
  unfold minstrellaw16_RandPowers.f
  rw [if_pos h0, hn, h1, h2, lives_is]
  simp only [Option.bind_some, if_true]
  rw [if_pos h3]
end RandPowersAid
open RandPowersAid

theorem RandPowers : minstrellaw16_RandPowers.Pure := by
  intro a0 a1 w0 w1
  obtain ⟨s, rfl, hs⟩ := wf_u64 w0
  have hb : 0 ≤ a1 := by simp [Lit.wf, IntKind.min, IntKind.max, IntKind.signed, IntKind.bits] at w1; omega
  have ht : Int.tmod a1 64 = a1 % 64 := Int.tmod_eq_emod_of_nonneg hb
  obtain ⟨j, hj, hj2⟩ : ∃ j : Nat, a1 % 64 = (j : Int) ∧ j < 64 := ⟨(a1 % 64).toNat, by omega, by omega⟩
  have hp : 2 ^ j < 18446744073709551616 := Nat.lt_of_lt_of_le (Nat.pow_lt_pow_right (by decide) hj2) (by decide)
  have hpos : 0 < 2 ^ j := Nat.two_pow_pos j
  have hpw : ((2 : Int) ^ j) = ((2 ^ j : Nat) : Int) := by simp
  have hdn : 18446744073709551616 % 2 ^ j = 0 := by
    have e : 18446744073709551616 = 2 ^ j * 2 ^ (64 - j) := by rw [← Nat.pow_add, show j + (64 - j) = 64 by omega]
    rw [e]; exact Nat.mul_mod_right _ _
  have hmask := mask_nat (mixed (stp s)) j (mixed_lt _) (Nat.le_of_lt hp)
  generalize 2 ^ j = p at hp hpos hpw hdn hmask
  have hn : shl .u64 1 (Int.tmod a1 64) = ((p : Nat) : Int) := by
    rw [ht, hj]; unfold shl
    rw [Int.toNat_natCast, Nat.min_eq_left (by simp [IntKind.bits]; omega), Int.one_mul, hpw]
    exact u64in (by omega) (by omega)
  have hdiv : (18446744073709551616 : Int) % ((p : Nat) : Int) = 0 := two_mod hdn
  refine ⟨1, core (by omega) hn (below_gen (by omega) (spare_two (by omega) (by omega) hdiv) last_two (le_last (mixed_lt _)) (next_is s) (Int.natCast_nonneg _)) (Next_is s) ?_⟩
  have e : IntKind.u64.wrap (((p : Nat) : Int) - 1) = ((p - 1 : Nat) : Int) := by rw [u64in (by omega) (by omega)]; omega
  rw [e, hmask, Int.natCast_emod]

end Go.Proofs.Ytijjofdnkdfccaa.Pure
