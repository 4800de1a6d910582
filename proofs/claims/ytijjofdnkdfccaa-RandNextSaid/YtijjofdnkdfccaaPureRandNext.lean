/- RandNext: the number behind each state is the document's, and no two states tell one number or one next state. No conditions. -/
import Derived.Test.YtijjofdnkdfccaaPRandNextx1
import Derived.Test.YtijjofdnkdfccaaRandLaw
namespace Go.Proofs.Ytijjofdnkdfccaa.Pure
open Go.RowKit Go.Proofs.Ytijjofdnkdfccaa.PRandNext Go.Proofs.YtijjofdnkdfccaaW.PrintWords Go.Proofs.YtijjofdnkdfccaaW.PrintLast
open Go.Proofs.Ytijjofdnkdfccaa.Num Go.Proofs.Ytijjofdnkdfccaa.RandLaw

namespace RandNextAid
theorem next_is (n : Nat) : rand_next.f (n : Int) = some (((stp n : Nat) : Int), ((mixed (stp n) : Nat) : Int)) := by
  unfold rand_next.f; rw [stp_go, mixed_go _ (stp_lt n)]
theorem Next_is (n : Nat) : rand_Next.f (n : Int) = some (((stp n : Nat) : Int), ((mixed (stp n) : Nat) : Int)) := by
  unfold rand_Next.f; rw [next_is]; rfl
theorem ref_is (n : Nat) : minstrelref16_Next.f (n : Int) = some (((stp n : Nat) : Int), ((mixed (stp n) : Nat) : Int)) := by
  unfold minstrelref16_Next.f; rw [stp_go, mixed_go _ (stp_lt n)]
theorem lives_is : minstrellaw16_lives.f = some true := by
  unfold minstrellaw16_lives.f
  have h := Next_is 0
  rw [show ((0 : Nat) : Int) = 0 from rfl] at h
  rw [h]
  have h1 : stp 0 = 11400714819323198485 := by decide +kernel
  have h2 : mixed 11400714819323198485 = 16294208416658607535 := by decide +kernel
  simp only [Option.bind_some, h1, h2]
  rfl
theorem beq_of {a b c d : Int} (h : a = b ↔ c = d) : ((a == b) == (c == d)) = true := by
  by_cases e : a = b
  · have := h.1 e; subst e; subst this; simp
  · have e2 : ¬ c = d := fun x => e (h.2 x)
    rw [beq_eq_false_iff_ne.mpr e, beq_eq_false_iff_ne.mpr e2]; rfl
theorem core {s t a b x y : Int} (e1 : rand_Next.f s = some (a, x)) (e2 : rand_Next.f t = some (b, y)) (e3 : minstrelref16_Next.f s = some (a, x)) (h1 : a = b ↔ s = t) (h2 : x = y ↔ s = t) :
    minstrellaw16_RandNext.f s t = some true := by
  unfold minstrellaw16_RandNext.f
  rw [e1, e2, e3, lives_is]
  simp only [Option.bind_some, if_true]
  rw [if_pos (beq_of h1), if_pos (beq_of h2)]
theorem inj_of {f : Nat → Nat} {s t : Nat} (h : f s = f t → s = t) : ((f s : Nat) : Int) = ((f t : Nat) : Int) ↔ (s : Int) = (t : Int) := by
  constructor
  · intro e; rw [h (Int.ofNat.inj e)]
  · intro e; rw [Int.ofNat.inj e]
end RandNextAid
open RandNextAid

theorem RandNext : minstrellaw16_RandNext.Pure := by
  intro a0 a1 w0 w1
  obtain ⟨s, rfl, hs⟩ := wf_u64 w0
  obtain ⟨t, rfl, ht⟩ := wf_u64 w1
  exact core (Next_is s) (Next_is t) (ref_is s) (inj_of (stp_inj s t hs ht)) (inj_of (f := fun s => mixed (stp s)) fun h => stp_inj s t hs ht (mixed_inj _ _ (stp_lt s) (stp_lt t) h))

end Go.Proofs.Ytijjofdnkdfccaa.Pure
