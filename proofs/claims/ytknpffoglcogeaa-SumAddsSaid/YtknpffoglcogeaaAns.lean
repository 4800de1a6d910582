/- Answers: a call that comes back with a value and leaves all elder memory as it was. What the functions of the layer 2 and its reference answer. Condition: words have 64 bits. -/
import Derived.Test.YtknpffoglcogeaaFloatB
import Derived.Test.YtknpffoglcogeaaRefB
namespace Go.Proofs.Ytknpffoglcogeaa.Ans
open Go Go.RowKit Go.Proofs.Ytknpffoglcogeaa.Ref Go.Proofs.YtknpffoglcogeaaW.PrintWords Go.Proofs.YtknpffoglcogeaaW.PrintLast Go.Proofs.YtknpffoglcogeaaW.PrintMore
open Go.Proofs.Ytknpffoglcogeaa.Num Go.Proofs.Ytknpffoglcogeaa.DigLaw Go.Proofs.Ytknpffoglcogeaa.Fl Go.Proofs.Ytknpffoglcogeaa.Dig Go.Proofs.Ytknpffoglcogeaa.Float
open Ieee (double)

def Ans (f : FuncId) (args : Array Value) (v : Value) : Prop := ∀ w, Calls Try.prog f args w fun e w' => e = .returned v ∧ Below w.heap.size w w'
theorem Ans.at {f : FuncId} {args : Array Value} {v : Value} (h : Ans f args v) (w : World) : Calls Try.prog f args w fun e w' => e = .returned v ∧ Below w.heap.size w w' := h w
theorem bthen {w w1 w2 : World} (h1 : Below w.heap.size w w1) (h2 : Below w1.heap.size w1 w2) : Below w.heap.size w w2 := below_then h1 h1.size h2

theorem nanw_eq : Float.NANW = Dig.NANW := rfl
theorem wordI_ok (z : Bool) (T : Int) : rg (wordI z T) ≤ INF := by
  unfold wordI
  rw [word_eq]
  have h1 := rung_le_inf T.natAbs (-1074)
  have h2 := INF_lt
  rw [(sg_word _ _ (by unfold S63 at h2; omega)).2.1]; exact h1
theorem word_ok (s : Bool) {r : Nat} (h : r ≤ INF) : rg (double.word s r) ≤ INF := by
  rw [word_eq]
  have h2 := INF_lt
  rw [(sg_word _ _ (by unfold S63 at h2; omega)).2.1]; exact h
/-- an operation's word is no NaN -/
theorem mul_ok {a b r : Nat} (h : double.mul a b = some r) : rg r ≤ INF := by
  unfold Ieee.Format.mul at h
  rw [Option.map_eq_some_iff] at h
  obtain ⟨d, hd, rfl⟩ := h
  cases d with
  | number s m p => rw [write_number]; exact word_ok s (rung_le_inf _ _)
  | infinity s => unfold Ieee.Format.write; rw [infRung_eq]; exact word_ok s (Nat.le_refl _)
  | nan s f =>
    exfalso
    cases hx : double.read a <;> cases hy : double.read b <;> rw [hx, hy] at hd <;> simp only [Ieee.Datum.product] at hd <;> try (split at hd) <;> cases hd
    all_goals cases hd
theorem sum_ok {x y d : Ieee.Datum} (h : Ieee.Datum.sum x y = some d) : rg (double.write d) ≤ INF := by
  cases d with
  | number s m p => rw [write_number]; exact word_ok s (rung_le_inf _ _)
  | infinity s => unfold Ieee.Format.write; rw [infRung_eq]; exact word_ok s (Nat.le_refl _)
  | nan s f =>
    exfalso
    cases x <;> cases y <;> simp only [Ieee.Datum.sum] at h <;> try (split at h) <;> cases h
    all_goals cases h
theorem ans_Mul (a b : Nat) : Ans 10 #[.int .u64 a, .int .u64 b] (.int .u64 (mulW a b)) := by
  intro w
  cases h : double.mul a b with
  | none =>
    have e : mulW a b = Dig.NANW := by unfold mulW; rw [h]; rfl
    rw [e]
    refine (Mul_none a b h w).mono ?_
    rintro e w' ⟨rfl, rfl⟩
    exact ⟨rfl, (Below.refl _ _).drew⟩
  | some r =>
    have e : mulW a b = r := by unfold mulW; rw [h]; rfl
    rw [e]
    refine (Mul_some a b r h w).mono ?_
    rintro e w' ⟨rfl, rfl⟩
    rw [canon_num (mul_ok h)]
    exact ⟨rfl, Below.refl _ _⟩
theorem ans_refMul (a b : Nat) (ha : a < W) (hb : b < W) : Ans 11 #[.int .u64 a, .int .u64 b] (.int .u64 (mulW a b)) := by
  intro w
  obtain ⟨k, hk⟩ := (mul_is a b ha hb).rounds
  exact minstrelref02_Mul.calls k _ _ _ w hk
end Go.Proofs.Ytknpffoglcogeaa.Ans
