/- RandSeeds: the state with which a text begins is the document's. No conditions but the bound on a text's size. -/
import Derived.Test.YtijjofdnkdfccaaPRandSeedsx1
import Derived.Test.YtijjofdnkdfccaaRandLaw
namespace Go.Proofs.Ytijjofdnkdfccaa.Pure
open Go.RowKit Go.Proofs.Ytijjofdnkdfccaa.PRandSeeds Go.Proofs.YtijjofdnkdfccaaW.PrintWords Go.Proofs.YtijjofdnkdfccaaW.PrintLast
open Go.Proofs.Ytijjofdnkdfccaa.Num Go.Proofs.Ytijjofdnkdfccaa.RandLaw

namespace RandSeedsAid
theorem next_is (n : Nat) : rand_next.f (n : Int) = some (((stp n : Nat) : Int), ((mixed (stp n) : Nat) : Int)) := by
  unfold rand_next.f; rw [stp_go, mixed_go _ (stp_lt n)]
theorem Next_is (n : Nat) : rand_Next.f (n : Int) = some (((stp n : Nat) : Int), ((mixed (stp n) : Nat) : Int)) := by
  unfold rand_Next.f; rw [next_is]; rfl
theorem ref_is (n : Nat) : minstrelref16_Next.f (n : Int) = some (((stp n : Nat) : Int), ((mixed (stp n) : Nat) : Int)) := by
  unfold minstrelref16_Next.f; rw [stp_go, mixed_go _ (stp_lt n)]
theorem lives_is : minstrellaw16_lives.f = some true := by
  unfold minstrellaw16_lives.f
  have h := Next_is 0
  rw [show ((0 : Nat) : Int) = 0 from rfl] at h
  rw [h]
  have h1 : stp 0 = 11400714819323198485 := by decide +kernel
  have h2 : mixed 11400714819323198485 = 16294208416658607535 := by decide +kernel
  simp only [Option.bind_some, h1, h2]
  rfl
theorem wrap_at {i : Int} {n : Nat} (h0 : 0 ≤ i) (h : i < (n : Int)) (hn : n ≤ 140737488351232) : wrap64 (i + 1) = i + 1 := i64in (by omega) (by omega)
theorem xor_in (h : Nat) (hh : h < M) (b : Int) (h0 : 0 ≤ b) (h1 : b ≤ 255) : ∃ n : Nat, Go.bits .xor .u64 (h : Int) (IntKind.u64.wrap b) = (n : Int) := by
  obtain ⟨c, rfl⟩ := Int.eq_ofNat_of_zero_le h0
  rw [u64in h0 (by omega)]
  exact ⟨h ^^^ c, xor_nat h c hh (by omega)⟩
theorem both (s : ByteArray) (hn : s.size ≤ 140737488351232) (d : Nat) : ∀ (i : Int) (h : Nat), 0 ≤ i → (s.size : Int) - i = d → h < M →
    ∃ r, rand_Seed.l0 (d + 1) s (h : Int) (s.size : Int) i = some r ∧ minstrelref16_Seed.l0 (d + 1) s (h : Int) i = some r := by
  induction d with
  | zero =>
    intro i h h0 hd hh
    exact ⟨h, by simp only [rand_Seed.l0]; rw [if_neg (by omega)], by simp only [minstrelref16_Seed.l0]; rw [if_neg (by omega)]⟩
  | succ d ih =>
    intro i h h0 hd hh
    have hlt : i < (s.size : Int) := by omega
    obtain ⟨n, hx⟩ := xor_in h hh (bt s i) (bt_range s i).1 (bt_range s i).2
    obtain ⟨r, h1, h2⟩ := ih (i + 1) (mixed (stp n)) (by omega) (by omega) (mixed_lt _)
    refine ⟨r, ?_, ?_⟩
    · rw [rand_Seed.l0, if_pos hlt, if_pos h0, if_pos hlt, hx, next_is]; simp only [Option.bind_some]; rw [wrap_at h0 hlt hn]; exact h1
    · rw [minstrelref16_Seed.l0, if_pos hlt, if_pos h0, hx, ref_is]; simp only [Option.bind_some]; rw [wrap_at h0 hlt hn]; exact h2
theorem core {s : ByteArray} {k : Nat} {r : Int} (h1 : rand_Seed.f k s = some r) (h2 : minstrelref16_Seed.f k s = some r) : minstrellaw16_RandSeeds.f k s = some true := by
  unfold minstrellaw16_RandSeeds.f
  rw [h1, h2, lives_is]; simp only [Option.bind_some, if_true]
end RandSeedsAid
open RandSeedsAid

theorem RandSeeds : minstrellaw16_RandSeeds.Pure := by
  intro s hn
  obtain ⟨r, h1, h2⟩ := both s hn s.size 0 0 (by omega) (by omega) (by decide)
  exact ⟨s.size + 1, core (r := r) (by unfold rand_Seed.f; exact h1) (by unfold minstrelref16_Seed.f; exact h2)⟩

end Go.Proofs.Ytijjofdnkdfccaa.Pure
