/- What the program's Unit (layer 16) answers: the next state, and the next number's upper 53 bits over 2^53. Condition: the argument is a word of 64 bits. -/
import Derived.Test.YtijjofdnkdfccaaRefx
import Derived.Test.YtijjofdnkdfccaaRandLaw
import Derived.Test.YtijjofdnkdfccaaUnitLaw
import Derived.Test.YtijjofdnkdfccaaRefO
import Derived.WalkKit
import Derived.KernelRfl
import Derived.Laws.Externs
import Derived.Laws.Cover2
import Derived.Laws.FloatArith
namespace Go.Proofs.Ytijjofdnkdfccaa.Ans
open Go Go.RowKit Go.Proofs.Ytijjofdnkdfccaa.Ref Go.Proofs.YtijjofdnkdfccaaW.PrintWords Go.Proofs.YtijjofdnkdfccaaW.PrintLast Go.Proofs.YtijjofdnkdfccaaW.PrintMore
open Go.Proofs.Ytijjofdnkdfccaa.Num Go.Proofs.Ytijjofdnkdfccaa.DigLaw Go.Proofs.Ytijjofdnkdfccaa.Fl Go.Proofs.Ytijjofdnkdfccaa.Dig Go.Proofs.Ytijjofdnkdfccaa.RandLaw
open Ieee (double Datum)

def Ans (f : FuncId) (args : Array Value) (v : Value) : Prop := ∀ w, Calls Try.prog f args w fun e w' => e = .returned v ∧ Below w.heap.size w w'
theorem Ans.at {f : FuncId} {args : Array Value} {v : Value} (h : Ans f args v) (w : World) : Calls Try.prog f args w fun e w' => e = .returned v ∧ Below w.heap.size w w' := h w
theorem bthen {w w1 w2 : World} (h1 : Below w.heap.size w w1) (h2 : Below w1.heap.size w1 w2) : Below w.heap.size w w2 := below_then h1 h1.size h2

theorem bits_run (n : Nat) (w : World) : (callFunc 20 #[.float .f64 n]).run Try.prog w = .ok (.value (.int .u64 n)) w := (run_callFunc_extern (fn := Try.f20) (e := Extern.MathFloatBits.float64bits) Try.func20 (by kernel_rfl) (by kernel_rfl) (by kernel_rfl) (by kernel_rfl) #[.float .f64 n] w).trans rfl
attribute [local go_sem] bits_run

theorem next_is (n : Nat) : rand_next.f (n : Int) = some (((stp n : Nat) : Int), ((mixed (stp n) : Nat) : Int)) := by
  unfold rand_next.f; rw [stp_go, mixed_go _ (stp_lt n)]
theorem refNext_is (n : Nat) : minstrelref16_Next.f (n : Int) = some (((stp n : Nat) : Int), ((mixed (stp n) : Nat) : Int)) := by
  unfold minstrelref16_Next.f; rw [stp_go, mixed_go _ (stp_lt n)]
theorem Next_is (n : Nat) : rand_Next.f (n : Int) = some (((stp n : Nat) : Int), ((mixed (stp n) : Nat) : Int)) := by
  unfold rand_Next.f; rw [next_is]; rfl
theorem lives_is : minstrellaw16_lives.f = some true := by
  unfold minstrellaw16_lives.f
  have h := Next_is 0
  rw [show ((0 : Nat) : Int) = 0 from rfl] at h
  rw [h]
  have h1 : stp 0 = 11400714819323198485 := by decide +kernel
  have h2 : mixed 11400714819323198485 = 16294208416658607535 := by decide +kernel
  simp only [Option.bind_some, h1, h2]
  rfl
theorem ans_next (n : Nat) : Ans 19 #[.int .u64 n] (.tuple #[.int .u64 (stp n), .int .u64 (mixed (stp n))]) := fun w =>
  (rand_next.calls _ _ _ w (next_is n)).mono fun _ _ ⟨h, hd⟩ => ⟨h, hd.below⟩
theorem ans_lives : Ans 10 #[] (.bool true) := fun w =>
  (minstrellaw16_lives.calls _ w lives_is).mono fun _ _ ⟨h, hd⟩ => ⟨h, hd.below⟩

/-- the 53 upper bits -/
def top (n : Nat) : Nat := mixed (stp n) / 2048
theorem top_lt (n : Nat) : top n < 2 ^ 53 := by
  have h := mixed_lt (stp n)
  have e : (2 : Nat) ^ 53 = 9007199254740992 := by decide
  unfold top; unfold M at h; rw [e]; omega
theorem of_nat (n : Nat) : floatOfInt .f64 (n : Int) = rung n 0 := by
  show double.write (.number (decide ((n : Int) < 0)) (n : Int).natAbs 0) = _
  rw [write_number, decide_eq_false (by omega), word_false, Int.natAbs_natCast]
theorem unit_zero : double.div (rung 0 0) C53 = some (rung 0 (-53)) := by rw [rung_zero, rung_zero]; decide +kernel
theorem unit_all (n : Nat) : floatBits .quo .f64 (rung (top n) 0) C53 = some (rung (top n) (-53)) := by
  show double.div (rung (top n) 0) C53 = _
  by_cases h : top n = 0
  · rw [h]; exact unit_zero
  · exact unit_div (top_lt n) h
theorem ans_Unit (n : Nat) : Ans 11 #[.int .u64 n] (.tuple #[.int .u64 (stp n), .int .u64 (rung (top n) (-53) : Nat)]) := by
  intro w
  have q := fun w : World => run_float_arith (P := Try.prog) w .quo 39 .f64 (rung (top n) 0) C53 _ (unit_all n)
  have x := ans_next n
  have c : floatOfInt .f64 (((mixed (stp n) : Nat) : Int) / 2048) = rung (top n) 0 := by
    rw [← of_nat]; unfold top; rw [Int.natCast_ediv]; rfl
  have cc : C53 = 4845873199050653696 := rfl
  rw [cc] at q
  generalize rung (top n) (-53) = r at *
  generalize rung (top n) 0 = p at *
  generalize ((mixed (stp n) : Nat) : Int) = m at *
  generalize ((stp n : Nat) : Int) = s at *
  generalize (n : Int) = y at *
  go_enter Try.func11, Try.ntmps11
  go_wp2_with fail
  refine (x.at _).mono ?_; rintro e w1 ⟨rfl, hb1⟩
  go_wp2_with fail
  go_ret2
  exact ⟨rfl, hb1⟩

/-! ### the document's -/
theorem refUnit_is (n : Nat) : Ev (fun k => minstrelref16_Unit.f k (n : Int)) (((stp n : Nat) : Int), ((rung (top n) (-53) : Nat) : Int)) := by
  have hm := mixed_lt (stp n)
  have ht := top_lt n
  obtain ⟨l, hl, dl, vl, ll⟩ := digits_is (top n) (by unfold top; unfold M at hm; omega)
  have hr := round_is false (-53) dl (by omega) false (by omega) (by omega) (fun h => by cases h)
  rw [vl, nearest_eq, rung_twice, word_false] at hr
  obtain ⟨K, hK⟩ := hr
  refine ⟨K, fun k hk => ?_⟩
  have h2 : minstrelref01_Round.f k false (-53) l false = some ((rung (top n) (-53) : Nat) : Int) := hK k hk
  show minstrelref16_Unit.f k (n : Int) = some (((stp n : Nat) : Int), ((rung (top n) (-53) : Nat) : Int))
  unfold minstrelref16_Unit.f
  rw [refNext_is, Option.bind_some]
  dsimp only
  have e : ((mixed (stp n) : Nat) : Int) / 2048 = ((top n : Nat) : Int) := by unfold top; rw [Int.natCast_ediv]; rfl
  rw [e, hl, Option.bind_some, h2, Option.bind_some]
theorem ans_refUnit (n : Nat) : Ans 12 #[.int .u64 n] (.tuple #[.int .u64 (stp n), .int .u64 (rung (top n) (-53) : Nat)]) := fun w =>
  let ⟨k, hk⟩ := Ev.rounds (refUnit_is n); minstrelref16_Unit.calls k _ _ _ w hk
theorem ans_refLess (a b : Nat) (ha : a < W) (hb : b < W) : Ans 14 #[.int .u64 a, .int .u64 b] (.bool (lessB a b)) := fun w => let ⟨k, hk⟩ := Ev.rounds (less_is a b ha hb); (minstrelref01_Less.calls k _ _ _ w hk).mono fun _ _ ⟨h, hd⟩ => ⟨h, hd.below⟩
theorem ans_refSign (a : Nat) (ha : a < W) : Ans 13 #[.int .u64 a] (.bool (sg a)) := fun w => (minstrelref01_Neg.calls _ _ w (neg_is a ha)).mono fun _ _ ⟨h, hd⟩ => ⟨h, hd.below⟩
def ONE : Nat := 4607182418800017408
theorem one_facts : rg ONE = 1023 * 2 ^ 52 ∧ sg ONE = false ∧ ONE < W ∧ rg ONE < INF := by decide +kernel
def E21 : Nat := 1021
def E22 : Nat := 1022
theorem V_one : V (rg ONE) = 2 ^ (52 + E22) := by
  rw [one_facts.1]
  have := V_binade E22 (2 ^ 52) (by decide) (Or.inr (Nat.le_refl _))
  rw [show E22 * 2 ^ 52 + 2 ^ 52 = 1023 * 2 ^ 52 from by decide] at this
  rw [this, ← Nat.pow_add]
theorem unit_facts (n : Nat) : sg (rung (top n) (-53)) = false ∧ rung (top n) (-53) < W ∧ lessB (rung (top n) (-53)) ONE = true := by
  obtain ⟨g1, g2, g3⟩ := word_facts false (rung_le_inf (top n) (-53))
  rw [word_false] at g1 g2 g3
  refine ⟨g1, g3, ?_⟩
  have s := rung_scale (top n) E21 (-53)
  rw [show (-53 : Int) - ((E21 : Nat) : Int) = -1074 from by unfold E21; decide] at s
  have x := rung_exact (top n) E21 (top_lt n) (by unfold E21; decide)
  rw [s] at x
  obtain ⟨o1, o2, o3, o4⟩ := one_facts
  unfold lessB
  rw [decide_eq_true_iff]
  refine ⟨by rw [g2]; exact Nat.le_of_lt x.1, Nat.le_of_lt o4, ?_⟩
  unfold Vi
  rw [g1, g2, o2, x.2, V_one]
  have h : top n * 2 ^ E21 < 2 ^ (52 + E22) := by
    rw [show 52 + E22 = 53 + E21 from by unfold E21 E22; decide, Nat.pow_add 2 53]
    exact Nat.mul_lt_mul_of_pos_right (top_lt n) (Nat.two_pow_pos _)
  unfold sn
  rw [if_neg (by simp), if_neg (by simp)]
  exact Int.ofNat_lt.2 h
end Go.Proofs.Ytijjofdnkdfccaa.Ans
