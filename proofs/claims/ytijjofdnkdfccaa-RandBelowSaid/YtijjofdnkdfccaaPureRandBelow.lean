/- RandBelow: the number below another one is the document's, and lies below it; the loop ends, since each state comes to one that tells 0. No conditions. -/
import Derived.Test.YtijjofdnkdfccaaPRandBelowx1
import Derived.Test.YtijjofdnkdfccaaRandLaw
namespace Go.Proofs.Ytijjofdnkdfccaa.Pure
open Go.RowKit Go.Proofs.Ytijjofdnkdfccaa.PRandBelow Go.Proofs.YtijjofdnkdfccaaW.PrintWords Go.Proofs.YtijjofdnkdfccaaW.PrintLast
open Go.Proofs.Ytijjofdnkdfccaa.Num Go.Proofs.Ytijjofdnkdfccaa.RandLaw

namespace RandBelowAid
theorem next_is (n : Nat) : rand_next.f (n : Int) = some (((stp n : Nat) : Int), ((mixed (stp n) : Nat) : Int)) := by
  unfold rand_next.f; rw [stp_go, mixed_go _ (stp_lt n)]
theorem Next_is (n : Nat) : rand_Next.f (n : Int) = some (((stp n : Nat) : Int), ((mixed (stp n) : Nat) : Int)) := by
  unfold rand_Next.f; rw [next_is]; rfl
theorem ref_is (n : Nat) : minstrelref16_Next.f (n : Int) = some (((stp n : Nat) : Int), ((mixed (stp n) : Nat) : Int)) := by
  unfold minstrelref16_Next.f; rw [stp_go, mixed_go _ (stp_lt n)]
theorem lives_is : minstrellaw16_lives.f = some true := by
  unfold minstrellaw16_lives.f
  have h := Next_is 0
  rw [show ((0 : Nat) : Int) = 0 from rfl] at h
  rw [h]
  have h1 : stp 0 = 11400714819323198485 := by decide +kernel
  have h2 : mixed 11400714819323198485 = 16294208416658607535 := by decide +kernel
  simp only [Option.bind_some, h1, h2]
  rfl
/-- the two loops, with one bound -/
theorem both (n : Int) (hn : 0 < n) (spare last : Int) (hl : IntKind.u64.wrap (18446744073709551615 - spare) = last) (h0 : 0 ≤ last) (d : Nat) : ∀ (s : Nat), s < M → (s + (d + 1) * 11400714819323198485) % M = 0 →
    ∃ a x : Int, rand_Below.l0 (d + 1) (s : Int) n spare = some (a, x) ∧ minstrelref16_Below.l0 (d + 1) (s : Int) n last = some (a, x) ∧ 0 ≤ x ∧ x < n := by
  have stop : ∀ (s d : Nat), (((mixed (stp s) : Nat) : Int) ≤ last) → ∃ a x : Int, rand_Below.l0 (d + 1) (s : Int) n spare = some (a, x) ∧ minstrelref16_Below.l0 (d + 1) (s : Int) n last = some (a, x) ∧ 0 ≤ x ∧ x < n := by
    intro s d h
    refine ⟨((stp s : Nat) : Int), Int.tmod ((mixed (stp s) : Nat) : Int) n, ?_, ?_, ?_, ?_⟩
    · rw [rand_Below.l0, next_is]; simp only [Option.bind_some]; rw [hl, if_pos h, if_neg (Int.ne_of_gt hn)]
    · rw [minstrelref16_Below.l0, ref_is]; simp only [Option.bind_some]; rw [if_pos h, if_neg (Int.ne_of_gt hn)]
    · exact Int.tmod_nonneg _ (Int.natCast_nonneg _)
    · exact Int.tmod_lt_of_pos _ hn
  induction d with
  | zero =>
    intro s hs h
    refine stop s 0 ?_
    have e : stp s = 0 := by
      rw [Nat.zero_add, Nat.one_mul] at h; exact h
    rw [e, mixed_zero]; exact h0
  | succ d ih =>
    intro s hs h
    by_cases c : ((mixed (stp s) : Nat) : Int) ≤ last
    · exact stop s (d + 1) c
    · obtain ⟨a, x, h1, h2, h3, h4⟩ := ih (stp s) (stp_lt s) (by
        unfold stp
        rw [Nat.add_mod, Nat.mod_mod, ← Nat.add_mod]
        rw [Nat.add_mul] at h
        rw [Nat.add_assoc, Nat.add_comm 11400714819323198485]
        rw [Nat.one_mul] at h
        exact h)
      refine ⟨a, x, ?_, ?_, h3, h4⟩
      · rw [rand_Below.l0, next_is]; simp only [Option.bind_some]; rw [hl, if_neg c]; exact h1
      · rw [minstrelref16_Below.l0, ref_is]; simp only [Option.bind_some]; rw [if_neg c]; exact h2
theorem core {s n a x : Int} {k : Nat} (hn : 0 < n) (h1 : rand_Below.f k s n = some (a, x)) (h2 : minstrelref16_Below.f k s n = some (a, x)) (hx : x < n) : minstrellaw16_RandBelow.f k s n = some true := by
  unfold minstrellaw16_RandBelow.f
  rw [h1, h2, lives_is]; simp only [Option.bind_some, if_true]
  rw [if_neg (Int.ne_of_gt hn), if_pos hn, if_pos hx]
theorem nil_core {s : Int} {k : Nat} : minstrellaw16_RandBelow.f k s 0 = some true := by
  unfold minstrellaw16_RandBelow.f rand_Below.f minstrelref16_Below.f
  rw [lives_is, if_pos rfl, if_pos rfl]; simp
/-- The document's bound and the program's: the last number of the greatest multiple of n. -/
theorem bounds (n : Int) (h0 : 0 < n) (h1 : n < 18446744073709551616) :
    ∃ last, 0 ≤ last ∧ IntKind.u64.wrap (18446744073709551615 - Int.tmod (IntKind.u64.wrap (-n)) n) = last ∧
      (if (18446744073709551615 : Int) % n = IntKind.u64.wrap (n - 1) then last = 18446744073709551615 else IntKind.u64.wrap (IntKind.u64.wrap (18446744073709551615 - (18446744073709551615 : Int) % n) - 1) = last) := by
  have e1 : IntKind.u64.wrap (-n) = 18446744073709551616 - n := by rw [u64w]; omega
  have e2 : Int.tmod (18446744073709551616 - n) n = 18446744073709551616 % n := by
    rw [Int.tmod_eq_emod_of_nonneg (by omega), Int.sub_emod_right]
  have hr0 := Int.emod_nonneg 18446744073709551616 (Int.ne_of_gt h0)
  have hr1 := Int.emod_lt_of_pos 18446744073709551616 h0
  have hq0 := Int.emod_nonneg 18446744073709551615 (Int.ne_of_gt h0)
  have hq1 := Int.emod_lt_of_pos 18446744073709551615 h0
  have ha := Int.emod_add_mul_ediv 18446744073709551616 n
  have hb := Int.emod_add_mul_ediv 18446744073709551615 n
  have key : (18446744073709551615 : Int) % n = n - 1 ∧ (18446744073709551616 : Int) % n = 0 ∨ (18446744073709551615 : Int) % n + 1 = (18446744073709551616 : Int) % n ∧ (18446744073709551615 : Int) % n ≠ n - 1 := by
    by_cases c : (18446744073709551615 : Int) % n = n - 1
    · left
      refine ⟨c, ?_⟩
      have : (18446744073709551616 : Int) = 18446744073709551615 + 1 := by omega
      rw [this, Int.add_emod, c]
      by_cases hn1 : n = 1
      · subst hn1; rfl
      · rw [Int.emod_eq_of_lt (a := 1) (by omega) (by omega), show n - 1 + 1 = n by omega, Int.emod_self]
    · right
      refine ⟨?_, c⟩
      have : (18446744073709551616 : Int) = 18446744073709551615 + 1 := by omega
      rw [this, Int.add_emod]
      by_cases hn1 : n = 1
      · subst hn1; exact absurd (by rfl) c
      · rw [Int.emod_eq_of_lt (a := 1) (by omega) (by omega), Int.emod_eq_of_lt (a := 18446744073709551615 % n + 1) (by omega) (by omega)]
  rw [e1, e2]
  have en : IntKind.u64.wrap (n - 1) = n - 1 := u64in (by omega) (by omega)
  rw [en]
  generalize hA : (18446744073709551616 : Int) % n = A at *
  generalize hB : (18446744073709551615 : Int) % n = B at *
  clear ha hb e1 e2 en hA hB
  rcases key with ⟨k1, k2⟩ | ⟨k1, k2⟩
  · refine ⟨18446744073709551615, by decide, ?_, ?_⟩
    · rw [k2]; rfl
    · rw [if_pos k1]
  · refine ⟨18446744073709551615 - A, by omega, u64in (by omega) (by omega), ?_⟩
    rw [if_neg k2, u64in (n := 18446744073709551615 - B) (by omega) (by omega), u64in (by omega) (by omega)]
    omega
end RandBelowAid
open RandBelowAid

theorem RandBelow : minstrellaw16_RandBelow.Pure := by
  intro a0 a1 w0 w1
  obtain ⟨s, rfl, hs⟩ := wf_u64 w0
  obtain ⟨m, rfl, hm⟩ := wf_u64 w1
  by_cases hz : m = 0
  · subst hz; exact ⟨0, nil_core⟩
  · have hpos : (0 : Int) < (m : Int) := by omega
    obtain ⟨d, hd⟩ := reach s hs
    obtain ⟨last, l0, l1, l2⟩ := bounds (m : Int) hpos (by omega)
    obtain ⟨a, x, h1, h2, h3, h4⟩ := both (m : Int) hpos _ last l1 l0 d s hs hd
    refine ⟨d + 1 + 1, core hpos (a := a) (x := x) ?_ ?_ h4⟩
    · unfold rand_Below.f
      rw [if_neg (Int.ne_of_gt hpos)]
      exact at_rounds (fun k => (rand_Below.mono_l k) _ _ _) (Nat.le_succ _) h1
    · unfold minstrelref16_Below.f
      rw [if_neg (Int.ne_of_gt hpos)]
      by_cases c : (18446744073709551615 : Int) % (m : Int) = IntKind.u64.wrap ((m : Int) - 1)
      · rw [if_pos c] at l2 ⊢; rw [minstrelref16_Below.j0, ← l2]; exact h2
      · rw [if_neg c] at l2 ⊢; rw [minstrelref16_Below.j0, l2]; exact h2

end Go.Proofs.Ytijjofdnkdfccaa.Pure
