/- Answers of the layer 2's reference: Add, Sub; sums in either order, differences as sums. Condition: words have 64 bits. -/
import Derived.Test.YtknpffoglcogeaaAnsB
import Derived.Test.YtknpffoglcogeaaRefD
namespace Go.Proofs.Ytknpffoglcogeaa.Ans
open Go Go.RowKit Go.Proofs.Ytknpffoglcogeaa.Ref Go.Proofs.YtknpffoglcogeaaW.PrintWords Go.Proofs.YtknpffoglcogeaaW.PrintLast Go.Proofs.YtknpffoglcogeaaW.PrintMore
open Go.Proofs.Ytknpffoglcogeaa.Num Go.Proofs.Ytknpffoglcogeaa.DigLaw Go.Proofs.Ytknpffoglcogeaa.Fl Go.Proofs.Ytknpffoglcogeaa.Dig Go.Proofs.Ytknpffoglcogeaa.Float
open Ieee (double Datum)

theorem ans_refAdd (a b : Nat) (ha : a < W) (hb : b < W) : Ans 20 #[.int .u64 a, .int .u64 b] (.int .u64 (addW a b)) := by
  intro w
  obtain ⟨k, hk⟩ := (refAdd_is a b ha hb).rounds
  exact minstrelref02_Add.calls k _ _ _ w hk
theorem ans_refSub (a b : Nat) (ha : a < W) (hb : b < W) : Ans 22 #[.int .u64 a, .int .u64 b] (.int .u64 (addW a (negW b))) := by
  intro w
  obtain ⟨K1, h1⟩ := refNeg_is b hb
  obtain ⟨K2, h2⟩ := refAdd_is a (negW b) ha (neg_lt b)
  refine minstrelref02_Sub.calls (max K1 K2) _ _ _ w ?_
  have e1 : minstrelref02_Neg.f (max K1 K2) (b : Int) = some ((negW b : Nat) : Int) := h1 _ (by omega)
  have e2 : minstrelref02_Add.f (max K1 K2) (a : Int) ((negW b : Nat) : Int) = some ((addW a (negW b) : Nat) : Int) := h2 _ (by omega)
  unfold minstrelref02_Sub.f
  rw [e1, Option.bind_some, e2, Option.bind_some]

theorem sum_comm (x y : Datum) : x.sum y = y.sum x := by
  cases x <;> cases y <;> simp only [Datum.sum]
  · rw [Int.min_comm]
    congr 2
    · rw [Int.add_comm, Bool.and_comm]
    · rw [Int.add_comm]
  · rename_i s t
    by_cases h : s = t
    · rw [if_pos h, if_pos h.symm, h]
    · rw [if_neg h, if_neg (fun e => h e.symm)]
theorem add_comm' (a b : Nat) : addW a b = addW b a := by unfold addW Ieee.Format.add; rw [sum_comm]
theorem sub_add (a b : Nat) : subW a b = addW a (negW b) := by
  rcases Nat.lt_or_ge INF (rg b) with h | h
  · rw [neg_nan h]
    unfold subW addW
    rw [add_nan (.inr nanw_nan)]
    unfold Ieee.Format.sub
    rw [read_nan h]
    cases double.read a <;> rfl
  · rw [neg_num h]
    unfold subW addW Ieee.Format.sub Ieee.Format.add
    rw [read_flip]
theorem flip_flip (a : Nat) (ha : a < W) : flipW (flipW a) = a := by
  obtain ⟨h1, h2, h3⟩ := flip_facts a
  obtain ⟨g1, g2, g3⟩ := flip_facts (flipW a)
  exact word_ext g3 ha (by rw [g1, h1, Bool.not_not]) (by rw [g2, h2])
theorem add_neg_neg (a b : Nat) (hb : b < W) : addW a (negW (negW b)) = addW a b := by
  rcases Nat.lt_or_ge INF (rg b) with h | h
  · rw [neg_nan h, neg_nan nanw_nan]
    unfold addW
    rw [add_nan (.inr nanw_nan), add_nan (.inr h)]
  · rw [neg_num h, neg_num (by rw [(flip_facts b).2.1]; exact h), flip_flip b hb]
theorem add_lt (a b : Nat) : addW a b < W := by
  unfold addW Ieee.Format.add
  cases hd : (double.read a).sum (double.read b) with
  | none => exact nanw_facts.2.2.1
  | some d =>
    have hn : d.isNaN = false := by
      cases d with
      | number s m p => rfl
      | infinity s => rfl
      | nan s f =>
        exfalso
        cases hx : double.read a <;> cases hy : double.read b <;> rw [hx, hy] at hd <;> simp only [Datum.sum] at hd <;> try (split at hd) <;> cases hd
        all_goals cases hd
    exact (write_num d hn).2
end Go.Proofs.Ytknpffoglcogeaa.Ans
