/- Answers: a call that comes back with a value and leaves all elder memory as it was; the reference's Kind, Parts, Less, Nan, Neg. Condition: words have 64 bits. -/
import Derived.Test.YtknpffoglcogeaaFloats
import Derived.Test.YtknpffoglcogeaaRefs
import Derived.Test.YtknpffoglcogeaaPlain
namespace Go.Proofs.Ytknpffoglcogeaa.Ans
open Go Go.RowKit Go.Proofs.Ytknpffoglcogeaa.Ref Go.Proofs.YtknpffoglcogeaaW.PrintWords Go.Proofs.YtknpffoglcogeaaW.PrintLast Go.Proofs.YtknpffoglcogeaaW.PrintMore
open Go.Proofs.Ytknpffoglcogeaa.Num Go.Proofs.Ytknpffoglcogeaa.DigLaw Go.Proofs.Ytknpffoglcogeaa.Fl Go.Proofs.Ytknpffoglcogeaa.Dig Go.Proofs.Ytknpffoglcogeaa.Float
open Ieee (double Datum)

def Ans (f : FuncId) (args : Array Value) (v : Value) : Prop := ∀ w, Calls Try.prog f args w fun e w' => e = .returned v ∧ Below w.heap.size w w'
theorem Ans.at {f : FuncId} {args : Array Value} {v : Value} (h : Ans f args v) (w : World) : Calls Try.prog f args w fun e w' => e = .returned v ∧ Below w.heap.size w w' := h w
theorem bthen {w w1 w2 : World} (h1 : Below w.heap.size w w1) (h2 : Below w1.heap.size w1 w2) : Below w.heap.size w w2 := below_then h1 h1.size h2

theorem nanw_eq : Float.NANW = Dig.NANW := rfl
theorem wordI_ok (z : Bool) (T : Int) : rg (wordI z T) ≤ INF := by
  unfold wordI
  rw [word_eq]
  have h1 := rung_le_inf T.natAbs (-1074)
  have h2 := INF_lt
  rw [(sg_word _ _ (by unfold S63 at h2; omega)).2.1]; exact h1
theorem word_ok (s : Bool) {r : Nat} (h : r ≤ INF) : rg (double.word s r) ≤ INF := by
  rw [word_eq]
  have h2 := INF_lt
  rw [(sg_word _ _ (by unfold S63 at h2; omega)).2.1]; exact h
theorem ans_refKind (a : Nat) (ha : a < W) : Ans 15 #[.int .u64 a] (.int .i64 (kindN a)) := fun w => let ⟨k, hk⟩ := Ev.rounds (kind_is a ha); (minstrelref01_Kind.calls k _ _ w hk).mono fun _ _ ⟨h, hd⟩ => ⟨h, hd.below⟩
theorem ans_refParts (a : Nat) (ha : a < W) : Ans 14 #[.int .u64 a] (.tuple #[.bool (sg a), .int .i64 (expN a), .int .u64 (fracN a)]) := fun w => let ⟨k, hk⟩ := Ev.rounds (parts_is a ha); (minstrelref01_Parts.calls k _ _ _ _ w hk).mono fun _ _ ⟨h, hd⟩ => ⟨h, hd.below⟩
theorem ans_refLess (a b : Nat) (ha : a < W) (hb : b < W) : Ans 19 #[.int .u64 a, .int .u64 b] (.bool (lessB a b)) := fun w => let ⟨k, hk⟩ := Ev.rounds (less_is a b ha hb); (minstrelref01_Less.calls k _ _ _ w hk).mono fun _ _ ⟨h, hd⟩ => ⟨h, hd.below⟩
theorem ans_refNan : Ans 28 #[] (.int .u64 9221120237041090560) := fun w => (minstrelref01_Nan.calls _ w nan_is).mono fun _ _ ⟨h, hd⟩ => ⟨h, hd.below⟩
theorem ans_refSign (a : Nat) (ha : a < W) : Ans 32 #[.int .u64 a] (.bool (sg a)) := fun w => (minstrelref01_Neg.calls _ _ w (neg_is a ha)).mono fun _ _ ⟨h, hd⟩ => ⟨h, hd.below⟩
end Go.Proofs.Ytknpffoglcogeaa.Ans

/- Answers of the reference's Equal. Condition: words have 64 bits. -/
namespace Go.Proofs.Ytknpffoglcogeaa.Ans
open Go Go.RowKit Go.Proofs.Ytknpffoglcogeaa.Ref Go.Proofs.YtknpffoglcogeaaW.PrintWords Go.Proofs.YtknpffoglcogeaaW.PrintLast Go.Proofs.YtknpffoglcogeaaW.PrintMore
open Go.Proofs.Ytknpffoglcogeaa.Num Go.Proofs.Ytknpffoglcogeaa.DigLaw Go.Proofs.Ytknpffoglcogeaa.Fl Go.Proofs.Ytknpffoglcogeaa.Dig Go.Proofs.Ytknpffoglcogeaa.Float
open Ieee (double Datum)

theorem ans_refEqual (a b : Nat) (ha : a < W) (hb : b < W) : Ans 29 #[.int .u64 a, .int .u64 b] (.bool (eqB a b)) := fun w => let ⟨k, hk⟩ := Ev.rounds (equal_is a b ha hb); (minstrelref01_Equal.calls k _ _ _ w hk).mono fun _ _ ⟨h, hd⟩ => ⟨h, hd.below⟩
end Go.Proofs.Ytknpffoglcogeaa.Ans

/- Answers: a call that comes back with a value and leaves all elder memory as it was. What the functions of the layer 2 and its reference answer. Condition: words have 64 bits. -/
namespace Go.Proofs.Ytknpffoglcogeaa.Ans
open Go Go.RowKit Go.Proofs.Ytknpffoglcogeaa.Ref Go.Proofs.YtknpffoglcogeaaW.PrintWords Go.Proofs.YtknpffoglcogeaaW.PrintLast Go.Proofs.YtknpffoglcogeaaW.PrintMore
open Go.Proofs.Ytknpffoglcogeaa.Num Go.Proofs.Ytknpffoglcogeaa.DigLaw Go.Proofs.Ytknpffoglcogeaa.Fl Go.Proofs.Ytknpffoglcogeaa.Dig Go.Proofs.Ytknpffoglcogeaa.Float
open Ieee (double)

/-- an operation's word is no NaN -/
theorem mul_ok {a b r : Nat} (h : double.mul a b = some r) : rg r ≤ INF := by
  unfold Ieee.Format.mul at h
  rw [Option.map_eq_some_iff] at h
  obtain ⟨d, hd, rfl⟩ := h
  cases d with
  | number s m p => rw [write_number]; exact word_ok s (rung_le_inf _ _)
  | infinity s => unfold Ieee.Format.write; rw [infRung_eq]; exact word_ok s (Nat.le_refl _)
  | nan s f =>
    exfalso
    cases hx : double.read a <;> cases hy : double.read b <;> rw [hx, hy] at hd <;> simp only [Ieee.Datum.product] at hd <;> try (split at hd) <;> cases hd
    all_goals cases hd
theorem sum_ok {x y d : Ieee.Datum} (h : Ieee.Datum.sum x y = some d) : rg (double.write d) ≤ INF := by
  cases d with
  | number s m p => rw [write_number]; exact word_ok s (rung_le_inf _ _)
  | infinity s => unfold Ieee.Format.write; rw [infRung_eq]; exact word_ok s (Nat.le_refl _)
  | nan s f =>
    exfalso
    cases x <;> cases y <;> simp only [Ieee.Datum.sum] at h <;> try (split at h) <;> cases h
    all_goals cases h
theorem ans_Mul (a b : Nat) : Ans 10 #[.int .u64 a, .int .u64 b] (.int .u64 (mulW a b)) := by
  intro w
  cases h : double.mul a b with
  | none =>
    have e : mulW a b = Dig.NANW := by unfold mulW; rw [h]; rfl
    rw [e]
    refine (Mul_none a b h w).mono ?_
    rintro e w' ⟨rfl, rfl⟩
    exact ⟨rfl, (Below.refl _ _).drew⟩
  | some r =>
    have e : mulW a b = r := by unfold mulW; rw [h]; rfl
    rw [e]
    refine (Mul_some a b r h w).mono ?_
    rintro e w' ⟨rfl, rfl⟩
    rw [canon_num (mul_ok h)]
    exact ⟨rfl, Below.refl _ _⟩
theorem ans_refMul (a b : Nat) (ha : a < W) (hb : b < W) : Ans 11 #[.int .u64 a, .int .u64 b] (.int .u64 (mulW a b)) := by
  intro w
  obtain ⟨k, hk⟩ := (mul_is a b ha hb).rounds
  exact minstrelref02_Mul.calls k _ _ _ w hk
end Go.Proofs.Ytknpffoglcogeaa.Ans

/- Answers of the layer 2 further: sums, differences, the reference's Neg, and that anything is added at all. Condition: words have 64 bits. -/
namespace Go.Proofs.Ytknpffoglcogeaa.Ans
open Go Go.RowKit Go.Proofs.Ytknpffoglcogeaa.Ref Go.Proofs.YtknpffoglcogeaaW.PrintWords Go.Proofs.YtknpffoglcogeaaW.PrintLast Go.Proofs.YtknpffoglcogeaaW.PrintMore
open Go.Proofs.Ytknpffoglcogeaa.Num Go.Proofs.Ytknpffoglcogeaa.DigLaw Go.Proofs.Ytknpffoglcogeaa.Fl Go.Proofs.Ytknpffoglcogeaa.Dig Go.Proofs.Ytknpffoglcogeaa.Float
open Ieee (double)

theorem refNeg_is (a : Nat) (ha : a < W) : Ev (fun k => minstrelref02_Neg.f k (a : Int)) ((negW a : Nat) : Int) := by
  obtain ⟨K, hk⟩ := kind_is a ha
  refine ⟨K, fun k hle => ?_⟩
  have h : minstrelref01_Kind.f k (a : Int) = some ((kindN a : Nat) : Int) := hk k hle
  show minstrelref02_Neg.f k (a : Int) = some ((negW a : Nat) : Int)
  unfold minstrelref02_Neg.f negW
  rw [h, Option.bind_some, nan_is, Option.bind_some, flip_xor a ha]
  by_cases c : kindN a = 4
  · rw [if_pos c, if_pos (by omega)]; rfl
  · rw [if_neg c, if_neg (by omega)]
theorem ans_refNeg (a : Nat) (ha : a < W) : Ans 12 #[.int .u64 a] (.int .u64 (negW a)) := by
  intro w
  obtain ⟨k, hk⟩ := (refNeg_is a ha).rounds
  refine (minstrelref02_Neg.calls k _ _ w hk).mono ?_
  rintro e w' ⟨rfl, hd⟩
  exact ⟨rfl, hd.below⟩

theorem ans_Add (a b : Nat) : Ans 18 #[.int .u64 a, .int .u64 b] (.int .u64 (addW a b)) := by
  intro w
  cases h : double.add a b with
  | none =>
    have e : addW a b = Dig.NANW := by unfold addW; rw [h]; rfl
    rw [e]
    refine (Add_none a b h w).mono ?_
    rintro e w' ⟨rfl, rfl⟩
    exact ⟨rfl, (Below.refl _ _).drew⟩
  | some r =>
    have e : addW a b = r := by unfold addW; rw [h]; rfl
    rw [e]
    refine (Add_some a b r h w).mono ?_
    rintro e w' ⟨rfl, rfl⟩
    have hr : rg r ≤ INF := by
      unfold Ieee.Format.add at h
      rw [Option.map_eq_some_iff] at h
      obtain ⟨d, hd, rfl⟩ := h
      exact sum_ok hd
    rw [canon_num hr]
    exact ⟨rfl, Below.refl _ _⟩
def subW (a b : Nat) : Nat := (double.sub a b).getD Dig.NANW
theorem ans_Sub (a b : Nat) : Ans 21 #[.int .u64 a, .int .u64 b] (.int .u64 (subW a b)) := by
  intro w
  cases h : double.sub a b with
  | none =>
    have e : subW a b = Dig.NANW := by unfold subW; rw [h]; rfl
    rw [e]
    refine (Sub_none a b h w).mono ?_
    rintro e w' ⟨rfl, rfl⟩
    exact ⟨rfl, (Below.refl _ _).drew⟩
  | some r =>
    have e : subW a b = r := by unfold subW; rw [h]; rfl
    rw [e]
    refine (Sub_some a b r h w).mono ?_
    rintro e w' ⟨rfl, rfl⟩
    have hr : rg r ≤ INF := by
      unfold Ieee.Format.sub at h
      rw [Option.map_eq_some_iff] at h
      obtain ⟨d, hd, rfl⟩ := h
      exact sum_ok hd
    rw [canon_num hr]
    exact ⟨rfl, Below.refl _ _⟩

theorem lives_add : addW 4591870180066957722 4596373779694328218 = 4599075939470750516 := by decide +kernel
theorem lives_mul : mulW 0 13830554455654793216 = 9223372036854775808 := by decide +kernel
theorem ans_lives : Ans 13 #[] (.bool true) := by
  intro w
  have h1 := ans_Add 4591870180066957722 4596373779694328218
  have h2 := ans_Mul 0 13830554455654793216
  rw [lives_add] at h1
  rw [lives_mul] at h2
  have H1 : Ans 18 #[.int .u64 4591870180066957722, .int .u64 4596373779694328218] (.int .u64 4599075939470750516) := h1
  have H2 : Ans 10 #[.int .u64 0, .int .u64 13830554455654793216] (.int .u64 9223372036854775808) := h2
  clear h1 h2
  go_enter Try.func13, Try.ntmps13
  go_wp2_with (first | (go_at_call 18; refine (H1.at _).mono ?_; rintro e w1 ⟨rfl, hb1⟩) | (go_at_call 10; refine (H2.at _).mono ?_; rintro e w2 ⟨rfl, hb2⟩))
  go_ret
  exact ⟨rfl, bthen hb1 hb2⟩
end Go.Proofs.Ytknpffoglcogeaa.Ans

/- Answers of the layer 2's reference: Add, Sub; sums in either order, differences as sums. Condition: words have 64 bits. -/
namespace Go.Proofs.Ytknpffoglcogeaa.Ans
open Go Go.RowKit Go.Proofs.Ytknpffoglcogeaa.Ref Go.Proofs.YtknpffoglcogeaaW.PrintWords Go.Proofs.YtknpffoglcogeaaW.PrintLast Go.Proofs.YtknpffoglcogeaaW.PrintMore
open Go.Proofs.Ytknpffoglcogeaa.Num Go.Proofs.Ytknpffoglcogeaa.DigLaw Go.Proofs.Ytknpffoglcogeaa.Fl Go.Proofs.Ytknpffoglcogeaa.Dig Go.Proofs.Ytknpffoglcogeaa.Float
open Ieee (double Datum)

theorem ans_refAdd (a b : Nat) (ha : a < W) (hb : b < W) : Ans 20 #[.int .u64 a, .int .u64 b] (.int .u64 (addW a b)) := by
  intro w
  obtain ⟨k, hk⟩ := (refAdd_is a b ha hb).rounds
  exact minstrelref02_Add.calls k _ _ _ w hk
theorem ans_refSub (a b : Nat) (ha : a < W) (hb : b < W) : Ans 22 #[.int .u64 a, .int .u64 b] (.int .u64 (addW a (negW b))) := by
  intro w
  obtain ⟨K1, h1⟩ := refNeg_is b hb
  obtain ⟨K2, h2⟩ := refAdd_is a (negW b) ha (neg_lt b)
  refine minstrelref02_Sub.calls (max K1 K2) _ _ _ w ?_
  have e1 : minstrelref02_Neg.f (max K1 K2) (b : Int) = some ((negW b : Nat) : Int) := h1 _ (by omega)
  have e2 : minstrelref02_Add.f (max K1 K2) (a : Int) ((negW b : Nat) : Int) = some ((addW a (negW b) : Nat) : Int) := h2 _ (by omega)
  unfold minstrelref02_Sub.f
  rw [e1, Option.bind_some, e2, Option.bind_some]

theorem sum_comm (x y : Datum) : x.sum y = y.sum x := by
  cases x <;> cases y <;> simp only [Datum.sum]
  · rw [Int.min_comm]
    congr 2
    · rw [Int.add_comm, Bool.and_comm]
    · rw [Int.add_comm]
  · rename_i s t
    by_cases h : s = t
    · rw [if_pos h, if_pos h.symm, h]
    · rw [if_neg h, if_neg (fun e => h e.symm)]
theorem add_comm' (a b : Nat) : addW a b = addW b a := by unfold addW Ieee.Format.add; rw [sum_comm]
theorem sub_add (a b : Nat) : subW a b = addW a (negW b) := by
  rcases Nat.lt_or_ge INF (rg b) with h | h
  · rw [neg_nan h]
    unfold subW addW
    rw [add_nan (.inr nanw_nan)]
    unfold Ieee.Format.sub
    rw [read_nan h]
    cases double.read a <;> rfl
  · rw [neg_num h]
    unfold subW addW Ieee.Format.sub Ieee.Format.add
    rw [read_flip]
theorem flip_flip (a : Nat) (ha : a < W) : flipW (flipW a) = a := by
  obtain ⟨h1, h2, h3⟩ := flip_facts a
  obtain ⟨g1, g2, g3⟩ := flip_facts (flipW a)
  exact word_ext g3 ha (by rw [g1, h1, Bool.not_not]) (by rw [g2, h2])
theorem add_neg_neg (a b : Nat) (hb : b < W) : addW a (negW (negW b)) = addW a b := by
  rcases Nat.lt_or_ge INF (rg b) with h | h
  · rw [neg_nan h, neg_nan nanw_nan]
    unfold addW
    rw [add_nan (.inr nanw_nan), add_nan (.inr h)]
  · rw [neg_num h, neg_num (by rw [(flip_facts b).2.1]; exact h), flip_flip b hb]
theorem add_lt (a b : Nat) : addW a b < W := by
  unfold addW Ieee.Format.add
  cases hd : (double.read a).sum (double.read b) with
  | none => exact nanw_facts.2.2.1
  | some d =>
    have hn : d.isNaN = false := by
      cases d with
      | number s m p => rfl
      | infinity s => rfl
      | nan s f =>
        exfalso
        cases hx : double.read a <;> cases hy : double.read b <;> rw [hx, hy] at hd <;> simp only [Datum.sum] at hd <;> try (split at hd) <;> cases hd
        all_goals cases hd
    exact (write_num d hn).2
end Go.Proofs.Ytknpffoglcogeaa.Ans

/- Joined for the layer 2. -/

/- Plain law of sums and products of doubles: what nothing and one do; rounding does not turn the order about. -/
namespace Go.Proofs.Ytknpffoglcogeaa.Ans
open Go.Proofs.Ytknpffoglcogeaa.Num Go.Proofs.Ytknpffoglcogeaa.DigLaw Go.Proofs.Ytknpffoglcogeaa.Fl Go.Proofs.Ytknpffoglcogeaa.Dig
open Ieee (double Datum)

def ONE : Nat := 4607182418800017408
theorem one_facts : rg ONE = 1023 * 2 ^ 52 ∧ sg ONE = false ∧ ONE < W ∧ rg ONE < INF := by decide +kernel
def E22 : Nat := 1022
theorem V_one : V (rg ONE) = 2 ^ (52 + E22) := by
  have h := V_binade E22 (2 ^ 52) (by decide) (Or.inr (Nat.le_refl _))
  have e : E22 * 2 ^ 52 + 2 ^ 52 = 1023 * 2 ^ 52 := by unfold E22; decide
  rw [one_facts.1, ← e, h, ← Nat.pow_add]
theorem mul_one' {a : Nat} (ha : a < W) (h : rg a ≤ INF) : mulW a ONE = a := by
  rcases Nat.lt_or_ge (rg a) INF with f | f
  · unfold mulW
    rw [mul_fin f one_facts.2.2.2, V_one, one_facts.2.1, Bool.xor_false]
    have hs := rung_scale (V (rg a)) (52 + E22) (-1074)
    rw [show (-1074 : Int) - ((52 + E22 : Nat) : Int) = -2148 from by unfold E22; decide] at hs
    rw [hs, rung_V _ h]
    show double.word (sg a) (rg a) = a
    rw [word_eq]; exact (word_split a ha).symm
  · have hi : rg a = INF := by omega
    unfold mulW
    rw [mul_if hi one_facts.2.2.2 (by rw [one_facts.1]; decide), one_facts.2.1, Bool.xor_false]
    exact inf_word ha hi
theorem mul_nan1 {a : Nat} (h : INF < rg a) (b : Nat) : mulW a b = Dig.NANW := by unfold mulW; rw [mul_nan (.inl h)]; rfl
theorem add_nan1 {a : Nat} (h : INF < rg a) (b : Nat) : addW a b = Dig.NANW := by unfold addW; rw [add_nan (.inl h)]; rfl
theorem Vi_zero : Vi 0 = 0 ∧ rg 0 = 0 ∧ sg 0 = false := by
  have h : rg 0 = 0 ∧ sg 0 = false := by decide
  refine ⟨?_, h.1, h.2⟩
  unfold Vi; rw [h.1, h.2, V_zero]; rfl
/-- the number that a rounded one stands for -/
theorem Vi_wordI (z : Bool) (T : Int) : Vi (wordI z T) = sn (decide (T < 0)) (V (rung T.natAbs (-1074))) := by
  unfold Vi wordI
  obtain ⟨h1, h2, _⟩ := word_facts (if T = 0 then z else decide (T < 0)) (rung_le_inf T.natAbs (-1074))
  rw [h1, h2]
  by_cases c : T = 0
  · subst c
    rw [show Int.natAbs 0 = 0 from rfl, rung_zero, V_zero, if_pos rfl]
    cases z <;> rfl
  · rw [if_neg c]
theorem Vi_abs (a : Nat) : (Vi a).natAbs = V (rg a) := by unfold Vi; exact sn_abs _ _
theorem Vi_neg {a : Nat} (h : rg a ≠ 0) : decide (Vi a < 0) = sg a := by
  unfold Vi; exact sn_neg (Nat.ne_of_gt (V_pos h))
theorem Vi_zero_iff {a : Nat} : Vi a = 0 ↔ rg a = 0 := by unfold Vi; rw [sn_zero, V_eq_zero]
theorem Vi_round {a : Nat} (f : rg a < INF) (z : Bool) : Vi (wordI z (Vi a)) = Vi a := by
  rw [Vi_wordI, Vi_abs, rung_V _ (Nat.le_of_lt f)]
  by_cases c : rg a = 0
  · have hz := Vi_zero_iff.2 c
    rw [hz, c, V_zero]; rfl
  · rw [Vi_neg c]; rfl
theorem add_zero_eq {a : Nat} (ha : a < W) (h : rg a ≤ INF) : eqB (addW a 0) a = true := by
  unfold eqB
  rw [decide_eq_true_iff]
  rcases Nat.lt_or_ge (rg a) INF with f | f
  · have e : addW a 0 = wordI (sg a && sg 0) (Vi a) := by
      unfold addW; rw [add_fin f (by rw [Vi_zero.2.1, cINF]; decide), Vi_zero.1, Int.add_zero]; rfl
    rw [e, Vi_round f]
    refine ⟨?_, h, rfl⟩
    unfold wordI
    rw [(word_facts _ (rung_le_inf _ _)).2.1]; exact rung_le_inf _ _
  · have hi : rg a = INF := by omega
    have e : addW a 0 = a := by
      unfold addW; rw [add_if hi (by rw [Vi_zero.2.1, cINF]; decide)]; exact inf_word ha hi
    rw [e]; exact ⟨h, h, rfl⟩
theorem sub_self_inf {a : Nat} (h : rg a = INF) : subW a a = Dig.NANW := by
  rw [sub_add, neg_num (Nat.le_of_eq h)]
  unfold addW
  rw [add_ii h (by rw [(flip_facts a).2.1]; exact h), (flip_facts a).1, if_neg (by cases sg a <;> simp)]; rfl
theorem sub_self_fin {a : Nat} (h : rg a < INF) : subW a a = 0 := by
  rw [sub_add, neg_num (Nat.le_of_lt h)]
  unfold addW
  rw [add_fin h (by rw [(flip_facts a).2.1]; exact h)]
  have e : Vi a + Vi (flipW a) = 0 := by
    unfold Vi; rw [(flip_facts a).1, (flip_facts a).2.1]
    cases sg a
    · rw [sn_f, Bool.not_false, sn_t]; omega
    · rw [sn_t, Bool.not_true, sn_f]; omega
  rw [e, (flip_facts a).1]
  have e2 : (sg a && !sg a) = false := by cases sg a <;> rfl
  rw [e2]
  show wordI false 0 = 0
  unfold wordI
  rw [if_pos rfl, show Int.natAbs 0 = 0 from rfl, rung_zero]; rfl

/-! ### rounding does not turn the order about -/
theorem rnd_mono {q : Int} {S T : Int} (h : S ≤ T) : sn (decide (S < 0)) (V (rung S.natAbs q)) ≤ sn (decide (T < 0)) (V (rung T.natAbs q)) := by
  by_cases s : S < 0
  · by_cases t : T < 0
    · have := V_mono (rung_mono_at (q := q) (show T.natAbs ≤ S.natAbs by omega))
      rw [decide_eq_true s, decide_eq_true t, sn_t, sn_t]; omega
    · rw [decide_eq_true s, decide_eq_false t, sn_t, sn_f]; omega
  · have t : ¬ T < 0 := by omega
    have := V_mono (rung_mono_at (q := q) (show S.natAbs ≤ T.natAbs by omega))
    rw [decide_eq_false s, decide_eq_false t, sn_f, sn_f]; omega
theorem add_rises {a b c : Nat} (fa : rg a < INF) (fb : rg b < INF) (fc : rg c < INF) (h : Vi a ≤ Vi b) : lessB (addW b c) (addW a c) = false := by
  have e1 : addW a c = wordI (sg a && sg c) (Vi a + Vi c) := by unfold addW; rw [add_fin fa fc]; rfl
  have e2 : addW b c = wordI (sg b && sg c) (Vi b + Vi c) := by unfold addW; rw [add_fin fb fc]; rfl
  unfold lessB
  rw [decide_eq_false_iff_not, e1, e2, Vi_wordI, Vi_wordI]
  have := rnd_mono (q := -1074) (show Vi a + Vi c ≤ Vi b + Vi c by omega)
  intro hh; omega
theorem abs_facts (c : Nat) : rg (rg c) = rg c ∧ sg (rg c) = false ∧ rg c < W := by
  have h := rg_lt c
  have := sg_word false (rg c) h
  rw [show sgn false = 0 from rfl, Nat.zero_add] at this
  exact ⟨this.2.1, this.1, this.2.2⟩
theorem mul_rises {a b c : Nat} (fa : rg a < INF) (fb : rg b < INF) (fc : rg c < INF) (h : Vi a ≤ Vi b) : lessB (mulW b (rg c)) (mulW a (rg c)) = false := by
  obtain ⟨h1, h2, _⟩ := abs_facts c
  have fc' : rg (rg c) < INF := by rw [h1]; exact fc
  have e1 : mulW a (rg c) = double.word (sg a) (rung (V (rg a) * V (rg c)) (-2148)) := by unfold mulW; rw [mul_fin fa fc', h1, h2, Bool.xor_false]; rfl
  have e2 : mulW b (rg c) = double.word (sg b) (rung (V (rg b) * V (rg c)) (-2148)) := by unfold mulW; rw [mul_fin fb fc', h1, h2, Bool.xor_false]; rfl
  unfold lessB
  rw [decide_eq_false_iff_not, e1, e2]
  obtain ⟨x1, x2, _⟩ := word_facts (sg a) (rung_le_inf (V (rg a) * V (rg c)) (-2148))
  obtain ⟨y1, y2, _⟩ := word_facts (sg b) (rung_le_inf (V (rg b) * V (rg c)) (-2148))
  unfold Vi at h ⊢
  rw [x1, x2, y1, y2]
  have key : sn (sg a) (V (rung (V (rg a) * V (rg c)) (-2148))) ≤ sn (sg b) (V (rung (V (rg b) * V (rg c)) (-2148))) := by
    generalize V (rg a) = x at h ⊢
    generalize V (rg b) = y at h ⊢
    generalize V (rg c) = z
    cases hs : sg a <;> cases ht : sg b <;> rw [hs, ht] at h
    · rw [sn_f, sn_f] at h ⊢
      have := V_mono (rung_mono_at (q := -2148) (Nat.mul_le_mul_right z (show x ≤ y by omega)))
      omega
    · rw [sn_f, sn_t] at h
      have hx : x = 0 := by omega
      have hy : y = 0 := by omega
      rw [hx, hy, Nat.zero_mul, rung_zero, V_zero]; decide
    · rw [sn_t, sn_f]; omega
    · rw [sn_t, sn_t] at h ⊢
      have := V_mono (rung_mono_at (q := -2148) (Nat.mul_le_mul_right z (show y ≤ x by omega)))
      omega
  intro hh; omega
end Go.Proofs.Ytknpffoglcogeaa.Ans

/- Plain law and answers for SumExact: whole numbers below 2^53 are doubles, just so. -/
namespace Go.Proofs.Ytknpffoglcogeaa.Ans
open Go Go.RowKit Go.Proofs.Ytknpffoglcogeaa.Ref Go.Proofs.YtknpffoglcogeaaW.PrintWords Go.Proofs.YtknpffoglcogeaaW.PrintLast Go.Proofs.YtknpffoglcogeaaW.PrintMore
open Go.Proofs.Ytknpffoglcogeaa.Num Go.Proofs.Ytknpffoglcogeaa.DigLaw Go.Proofs.Ytknpffoglcogeaa.Fl Go.Proofs.Ytknpffoglcogeaa.Dig Go.Proofs.Ytknpffoglcogeaa.Float
open Ieee (double Datum)

/-- a number of 53 bits, times a power of two, is one that a rung stands for -/
theorem rep_exact (e : Nat) : ∀ n : Nat, n < 2 ^ 53 → e ≤ 2045 → ∃ r, r < INF ∧ V r = n * 2 ^ e := by
  have c1 : (2 : Nat) ^ 53 = 9007199254740992 := by decide
  have c2 : (2 : Nat) ^ 52 = 4503599627370496 := by decide
  induction e with
  | zero =>
    intro n hn _
    have h := V_binade 0 n (Nat.le_of_lt hn) (Or.inl rfl)
    rw [Nat.zero_mul, Nat.zero_add] at h
    exact ⟨n, by rw [cINF]; omega, h⟩
  | succ e ih =>
    intro n hn he
    by_cases c : 2 ^ 52 ≤ n
    · have h := V_binade (e + 1) n (Nat.le_of_lt hn) (Or.inr c)
      exact ⟨(e + 1) * 2 ^ 52 + n, by rw [cINF, c2]; omega, h⟩
    · obtain ⟨r, h1, h2⟩ := ih (2 * n) (by omega) (by omega)
      exact ⟨r, h1, by rw [h2, Nat.pow_succ, Nat.mul_comm 2 n, Nat.mul_assoc, Nat.mul_comm 2]⟩
theorem rung_exact (n e : Nat) (hn : n < 2 ^ 53) (he : e ≤ 2045) : rung (n * 2 ^ e) (-1074) < INF ∧ V (rung (n * 2 ^ e) (-1074)) = n * 2 ^ e := by
  obtain ⟨r, h1, h2⟩ := rep_exact e n hn he
  rw [← h2, rung_V r (Nat.le_of_lt h1)]; exact ⟨h1, rfl⟩
def E74 : Nat := 1074
def wholeW (n : Nat) : Nat := rung n 0
theorem whole_rung (n : Nat) : rung n 0 = rung (n * 2 ^ E74) (-1074) := by
  have e : ((0 : Int) - -1074).toNat = E74 := by unfold E74; decide
  rw [rung_at n 0 (-1074) (by omega), e]
theorem whole_facts (n : Nat) (hn : n < 2 ^ 53) : rg (wholeW n) < INF ∧ Vi (wholeW n) = ((n * 2 ^ E74 : Nat) : Int) ∧ sg (wholeW n) = false ∧ wholeW n < W := by
  obtain ⟨h1, h2⟩ := rung_exact n E74 hn (by unfold E74; decide)
  obtain ⟨g1, g2, g3⟩ := word_facts false (rung_le_inf n 0)
  rw [word_false] at g1 g2 g3
  unfold wholeW Vi
  rw [g1, g2, whole_rung, h2]
  exact ⟨h1, rfl, rfl, by rw [← whole_rung]; exact g3⟩
theorem wordI_nat (n : Nat) : wordI false ((n * 2 ^ E74 : Nat) : Int) = wholeW n := by
  unfold wordI wholeW
  rw [whole_rung, Int.natAbs_natCast]
  have hs : (if ((n * 2 ^ E74 : Nat) : Int) = 0 then false else decide (((n * 2 ^ E74 : Nat) : Int) < 0)) = false := by
    split
    · rfl
    · rw [decide_eq_false]; exact Int.not_lt.2 (Int.natCast_nonneg _)
  rw [hs, word_false]
theorem whole_add (x y : Nat) (hx : x < 2 ^ 53) (hy : y < 2 ^ 53) : addW (wholeW x) (wholeW y) = wholeW (x + y) := by
  obtain ⟨f1, v1, s1, _⟩ := whole_facts x hx
  obtain ⟨f2, v2, s2, _⟩ := whole_facts y hy
  unfold addW
  rw [add_fin f1 f2, v1, v2, s1, s2, ← Int.natCast_add, ← Nat.add_mul, Option.getD_some, Bool.and_self]
  exact wordI_nat (x + y)
theorem whole_mul (x y : Nat) (hx : x < 2 ^ 53) (hy : y < 2 ^ 53) : mulW (wholeW x) (wholeW y) = wholeW (x * y) := by
  obtain ⟨f1, v1, s1, _⟩ := whole_facts x hx
  obtain ⟨f2, v2, s2, _⟩ := whole_facts y hy
  have w1 : V (rg (wholeW x)) = x * 2 ^ E74 := by unfold Vi at v1; rw [s1, sn_f] at v1; exact Int.ofNat.inj v1
  have w2 : V (rg (wholeW y)) = y * 2 ^ E74 := by unfold Vi at v2; rw [s2, sn_f] at v2; exact Int.ofNat.inj v2
  unfold mulW
  rw [mul_fin f1 f2, w1, w2, s1, s2, Option.getD_some, Bool.xor_false, word_false]
  unfold wholeW
  have h := rung_at (x * y) 0 (-2148) (by omega)
  have e : x * 2 ^ E74 * (y * 2 ^ E74) = x * y * 2 ^ ((0 : Int) - -2148).toNat := by
    have e2 : ((0 : Int) - -2148).toNat = E74 + E74 := by unfold E74; decide
    rw [e2, Nat.pow_add]
    generalize 2 ^ E74 = g
    ac_rfl
  rw [e, ← h]
theorem whole_sub (x y : Nat) (hy : y < 2 ^ 53) (hxy : x + y < 2 ^ 53) : subW (wholeW (x + y)) (wholeW y) = wholeW x := by
  obtain ⟨f1, v1, s1, _⟩ := whole_facts (x + y) hxy
  obtain ⟨f2, v2, s2, _⟩ := whole_facts y hy
  rw [sub_add, neg_num (Nat.le_of_lt f2)]
  obtain ⟨p1, p2, _⟩ := flip_facts (wholeW y)
  have v3 : Vi (flipW (wholeW y)) = -((y * 2 ^ E74 : Nat) : Int) := by
    rw [← v2]; unfold Vi; rw [p1, p2, s2]; rfl
  unfold addW
  rw [add_fin f1 (by rw [p2]; exact f2), v1, v3, s1, Option.getD_some, Bool.false_and]
  have e : ((((x + y) * 2 ^ E74 : Nat) : Int) + -((y * 2 ^ E74 : Nat) : Int)) = ((x * 2 ^ E74 : Nat) : Int) := by
    rw [Nat.add_mul, Int.natCast_add]; omega
  rw [e]
  exact wordI_nat x
/-! ### the law's own function -/
theorem whole_is (n : Nat) (h : n < W) : Ev (fun k => minstrellaw02_whole.f k (n : Int)) ((wholeW n : Nat) : Int) := by
  obtain ⟨l, hl, dl, vl, ll⟩ := digits_is n h
  have hr := round_is false 0 dl (by omega) false (by omega) (by omega) (fun h => by cases h)
  rw [vl, nearest_eq, rung_twice, word_false] at hr
  obtain ⟨K, hK⟩ := hr
  refine ⟨K, fun k hk => ?_⟩
  have h2 : minstrelref01_Round.f k false 0 l false = some ((rung n 0 : Nat) : Int) := hK k hk
  show minstrellaw02_whole.f k (n : Int) = some ((wholeW n : Nat) : Int)
  unfold minstrellaw02_whole.f
  rw [hl, Option.bind_some, h2, Option.bind_some]; rfl
theorem ans_whole (n : Nat) (h : n < W) : Ans 23 #[.int .u64 n] (.int .u64 (wholeW n)) := by
  intro w
  obtain ⟨k, hk⟩ := (whole_is n h).rounds
  exact minstrellaw02_whole.calls k _ _ w hk
end Go.Proofs.Ytknpffoglcogeaa.Ans

/- Calls that hand a list of digits on: Digits and Round; and the plain law of SumScales. Conditions: words have 64 bits, exponents lie within ten thousand. -/
namespace Go.Proofs.Ytknpffoglcogeaa.Ans
open Go Go.RowKit Go.Proofs.Ytknpffoglcogeaa.Ref Go.Proofs.YtknpffoglcogeaaW.PrintWords Go.Proofs.YtknpffoglcogeaaW.PrintLast Go.Proofs.YtknpffoglcogeaaW.PrintMore
open Go.Proofs.Ytknpffoglcogeaa.Num Go.Proofs.Ytknpffoglcogeaa.DigLaw Go.Proofs.Ytknpffoglcogeaa.Fl Go.Proofs.Ytknpffoglcogeaa.Dig Go.Proofs.Ytknpffoglcogeaa.Float
open Ieee (double Datum)

/-- in a world, an address and a capacity hold a list of digits -/
def Holds (w : World) (A : Option Addr) (c : Nat) (l : List Int) : Prop := Kd.C (Kd.int .u64) w A l.length l ∧ l.length ≤ c
/-- a call of Round with digits that are held -/
theorem round_at (neg : Bool) (e : Int) {l : List Int} (hl : Dg l) (ll : l.length < 4000) (he0 : -10000 ≤ e) (he1 : e ≤ 10000) {w : World} {A : Option Addr} {c : Nat} (h : Holds w A c l) :
    Calls Try.prog 16 #[.bool neg, .int .i64 e, .slice A l.length c, .bool false] w fun e' w' => e' = .returned (.int .u64 (double.word neg (rung (val l) e) : Nat)) ∧ Below w.heap.size w w' := by
  have hr := round_is neg e hl ll false he0 he1 (fun h => by cases h)
  rw [nearest_eq, rung_twice] at hr
  obtain ⟨k, hk⟩ := hr.rounds
  exact minstrelref01_Round.calls k neg e A c l false _ w h.1 h.2 hk
/-- a call of Digits: four digits of the number, held behind it -/
theorem digits_at (n : Nat) (h : n < W) : ∃ l : List Int, Dg l ∧ val l = n ∧ l.length = 4 ∧ ∀ w, Calls Try.prog 17 #[.int .u64 n] w fun e w' => ∃ A c, e = .returned (.slice A l.length c) ∧ Holds w' A c l ∧ Below w.heap.size w w' := by
  obtain ⟨l, hl, dl, vl, ll⟩ := digits_is n h
  refine ⟨l, dl, vl, ll, fun w => (minstrelref01_Digits.calls _ l w hl).mono ?_⟩
  rintro e w' ⟨v, rfl, hR, hB⟩
  obtain ⟨A, c, rfl⟩ := Kd.R_slice hR
  have hh := Kd.R_reads' hR
  exact ⟨A, c, rfl, ⟨hh.2.2, hh.2.1⟩, hB⟩

/-! ### SumScales -/
def twoW (j : Nat) : Nat := (1023 + j) * 2 ^ 52
theorem two_facts (j : Nat) (hj : j < 100) : rg (twoW j) = twoW j ∧ sg (twoW j) = false ∧ twoW j < W ∧ rg (twoW j) < INF ∧ rg (twoW j) ≠ 0 ∧ V (rg (twoW j)) = 2 ^ (52 + (E22 + j)) := by
  have c2 : (2 : Nat) ^ 52 = 4503599627370496 := by decide
  have hl : twoW j < 9223372036854775808 := by unfold twoW; rw [c2]; omega
  have h := sg_word false (twoW j) hl
  rw [show sgn false = 0 from rfl, Nat.zero_add] at h
  have hv := V_binade (E22 + j) (2 ^ 52) (by decide) (Or.inr (Nat.le_refl _))
  have e : (E22 + j) * 2 ^ 52 + 2 ^ 52 = twoW j := by unfold twoW E22; rw [c2]; omega
  rw [e, ← Nat.pow_add] at hv
  refine ⟨h.2.1, h.1, h.2.2, ?_, ?_, ?_⟩
  · rw [h.2.1, cINF]; unfold twoW; rw [c2]; omega
  · rw [h.2.1]; unfold twoW; rw [c2]; omega
  · rw [h.2.1]; exact hv
theorem frac_rung {a : Nat} (f : rg a < INF) (i : Int) : rung (fracN a) (expN a + i) = rung (V (rg a)) (-1074 + i) := by
  have ea := exp_range a
  rw [rung_at (fracN a) (expN a + i) (-1074 + i) (by omega), ← frac_V a f, show (expN a + i - (-1074 + i)).toNat = (expN a + 1074).toNat by omega]
theorem scales_mul {a : Nat} (f : rg a < INF) (j : Nat) (hj : j < 100) : mulW a (twoW j) = double.word (sg a) (rung (fracN a) (expN a + (j : Int))) := by
  obtain ⟨_, h2, _, h4, _, h6⟩ := two_facts j hj
  unfold mulW
  rw [mul_fin f h4, h2, h6, Bool.xor_false, frac_rung f (j : Int), Option.getD_some]
  have hs := rung_scale (V (rg a)) (52 + (E22 + j)) (-1074 + (j : Int))
  have e : (-1074 + (j : Int)) - ((52 + (E22 + j) : Nat) : Int) = -2148 := by unfold E22; omega
  rw [e] at hs
  rw [hs]
theorem scales_add {a : Nat} (f : rg a < INF) : addW a a = double.word (sg a) (rung (fracN a) (expN a + 1)) := by
  unfold addW
  rw [add_fin f f, Option.getD_some, Bool.and_self, frac_rung f 1]
  have hs := rung_scale (V (rg a)) 1 (-1074 + 1)
  rw [show (-1074 + 1 : Int) - ((1 : Nat) : Int) = -1074 from rfl, Nat.pow_one] at hs
  unfold wordI
  have hT : Vi a + Vi a = sn (sg a) (V (rg a) * 2) := by unfold Vi; rw [sn_add_eq]; congr 1; omega
  rw [hT, sn_abs, hs]
  congr 1
  by_cases z : V (rg a) * 2 = 0
  · rw [if_pos (sn_zero.2 z)]
  · rw [if_neg (fun e => z (sn_zero.1 e)), sn_neg z]
end Go.Proofs.Ytknpffoglcogeaa.Ans

/- Plain law and answers for SumLoses: what a sum lacks, in words; calls that hand lists of digits on. Conditions: the words are finite, and the sum, too. -/
namespace Go.Proofs.Ytknpffoglcogeaa.Ans
open Go Go.RowKit Go.Proofs.Ytknpffoglcogeaa.Ref Go.Proofs.YtknpffoglcogeaaW.PrintWords Go.Proofs.YtknpffoglcogeaaW.PrintLast Go.Proofs.YtknpffoglcogeaaW.PrintMore
open Go.Proofs.Ytknpffoglcogeaa.Num Go.Proofs.Ytknpffoglcogeaa.DigLaw Go.Proofs.Ytknpffoglcogeaa.Fl Go.Proofs.Ytknpffoglcogeaa.Dig Go.Proofs.Ytknpffoglcogeaa.Float
open Ieee (double Datum)

theorem wordI_rg (z : Bool) (T : Int) : rg (wordI z T) = rung T.natAbs (-1074) ∧ wordI z T < W := by
  obtain ⟨_, h2, h3⟩ := word_facts (if T = 0 then z else decide (T < 0)) (rung_le_inf T.natAbs (-1074))
  exact ⟨h2, h3⟩
theorem sn_abs_self (T : Int) : sn (decide (T < 0)) T.natAbs = T := by
  unfold sn
  by_cases h : T < 0
  · rw [decide_eq_true h, if_pos rfl]; omega
  · rw [decide_eq_false h, if_neg (by simp)]; omega
theorem wordI_rep {T : Int} (h : RepN T.natAbs) (z : Bool) : rg (wordI z T) < INF ∧ Vi (wordI z T) = T := by
  obtain ⟨h1, h2⟩ := h.rung
  rw [(wordI_rg z T).1, Vi_wordI, h2, sn_abs_self]
  exact ⟨h1, rfl⟩
theorem sub_fin {a b : Nat} (fa : rg a < INF) (fb : rg b < INF) : subW a b = wordI (sg a && !sg b) (Vi a - Vi b) := by
  rw [sub_add, neg_num (Nat.le_of_lt fb)]
  obtain ⟨p1, p2, _⟩ := flip_facts b
  have v3 : Vi (flipW b) = -Vi b := by
    unfold Vi; rw [p1, p2]; cases sg b
    · rfl
    · show sn false _ = - -(V (rg b) : Int); rw [Int.neg_neg]; rfl
  unfold addW
  rw [add_fin fa (by rw [p2]; exact fb), v3, p1, Option.getD_some]; rfl
/-- THE REST OF A SUM in words -/
theorem lose_words {a b : Nat} (fa : rg a < INF) (fb : rg b < INF) (hle : rg b ≤ rg a) (fs : rg (addW a b) < INF) :
    rg (subW b (subW (addW a b) a)) < INF ∧ Vi (addW a b) + Vi (subW b (subW (addW a b) a)) = Vi a + Vi b := by
  have es : addW a b = wordI (sg a && sg b) (Vi a + Vi b) := by unfold addW; rw [add_fin fa fb, Option.getD_some]
  have hr : rg (addW a b) = rung (Vi a + Vi b).natAbs (-1074) := by rw [es, (wordI_rg _ _).1]
  have vs : Vi (addW a b) = sn (decide (Vi a + Vi b < 0)) (V (rung (Vi a + Vi b).natAbs (-1074))) := by rw [es, Vi_wordI]
  have hV := V_mono hle
  have hc : rung (Vi a + Vi b).natAbs (-1074) < INF := by rw [← hr]; exact fs
  have key : RepN (Vi (addW a b) - Vi a).natAbs ∧ RepN (Vi b - (Vi (addW a b) - Vi a)).natAbs := by
    cases hs : sg a
    · have hT : ((Vi a + Vi b).natAbs : Int) = (V (rg a) : Int) + sn (sg b) (V (rg b)) := by
        unfold Vi; rw [hs, sn_f]
        cases sg b
        · rw [sn_f]; omega
        · rw [sn_t]; omega
      have h := lose_core fa fb hle (sg b) hT hc
      have v0 : Vi (addW a b) = (V (rung (Vi a + Vi b).natAbs (-1074)) : Int) := by
        rw [vs]
        have h1 : ¬ Vi a + Vi b < 0 := by
          unfold Vi; rw [hs, sn_f]
          cases sg b
          · rw [sn_f]; omega
          · rw [sn_t]; omega
        rw [decide_eq_false h1, sn_f]
      have va : Vi a = (V (rg a) : Int) := by unfold Vi; rw [hs, sn_f]
      have vb : Vi b = sn (sg b) (V (rg b)) := rfl
      rw [← v0, ← va] at h
      refine ⟨h.1, ?_⟩
      have e : Vi b - (Vi (addW a b) - Vi a) = ((Vi a + Vi b).natAbs : Int) - Vi (addW a b) := by rw [hT, ← va, ← vb]; omega
      rw [e]; exact h.2
    · have hT : ((Vi a + Vi b).natAbs : Int) = (V (rg a) : Int) + sn (!sg b) (V (rg b)) := by
        unfold Vi; rw [hs, sn_t]
        cases sg b
        · rw [sn_f]; show _ = _ + sn true _; rw [sn_t]; omega
        · rw [sn_t]; show _ = _ + sn false _; rw [sn_f]; omega
      have h := lose_core fa fb hle (!sg b) hT hc
      have v0 : Vi (addW a b) = -(V (rung (Vi a + Vi b).natAbs (-1074)) : Int) := by
        rw [vs]
        by_cases h1 : Vi a + Vi b < 0
        · rw [decide_eq_true h1, sn_t]
        · have h2 : Vi a + Vi b = 0 := by
            unfold Vi at h1 ⊢; rw [hs, sn_t] at h1 ⊢
            cases hb : sg b
            · rw [hb, sn_f] at h1; rw [sn_f]; omega
            · rw [hb, sn_t] at h1; rw [sn_t]; omega
          rw [h2, show (0 : Int).natAbs = 0 from rfl, rung_zero, V_zero]; rfl
      have va : Vi a = -(V (rg a) : Int) := by unfold Vi; rw [hs, sn_t]
      have vb : Vi b = -sn (!sg b) (V (rg b)) := by
        unfold Vi
        cases sg b
        · show sn false _ = -sn true _; rw [sn_f, sn_t]; omega
        · show sn true _ = -sn false _; rw [sn_f, sn_t]
      have e1 : Vi (addW a b) - Vi a = -((V (rung (Vi a + Vi b).natAbs (-1074)) : Int) - (V (rg a) : Int)) := by rw [v0, va]; omega
      have e2 : Vi b - (Vi (addW a b) - Vi a) = -(((Vi a + Vi b).natAbs : Int) - (V (rung (Vi a + Vi b).natAbs (-1074)) : Int)) := by rw [e1, hT, vb]; omega
      rw [e2, e1, Int.natAbs_neg, Int.natAbs_neg]
      exact h
  have z1 := wordI_rep key.1 (sg (addW a b) && !sg a)
  rw [← sub_fin fs fa] at z1
  have z2 : RepN (Vi b - Vi (subW (addW a b) a)).natAbs := by rw [z1.2]; exact key.2
  have z3 := wordI_rep z2 (sg b && !sg (subW (addW a b) a))
  rw [← sub_fin fb z1.1] at z3
  refine ⟨z3.1, ?_⟩
  rw [z3.2, z1.2]; omega
/-- two sums that are one: sign, exponents and digits -/
theorem same_exact {a b s t : Nat} (fa : rg a < INF) (fb : rg b < INF) (fs : rg s < INF) (ft : rg t < INF) (h : Vi s + Vi t = Vi a + Vi b) :
    (exMag a b = 0 → exMag s t = 0) ∧ (exMag a b ≠ 0 → exNeg a b = exNeg s t ∧ ∀ low, low ≤ lowN a b → low ≤ lowN s t → exMag a b * 2 ^ (lowN a b - low).toNat = exMag s t * 2 ^ (lowN s t - low).toNat) := by
  have x1 := ex_Vi a b fa fb
  have x2 := ex_Vi s t fs ft
  rw [h, ← x1] at x2
  refine ⟨fun z => ?_, fun z => ?_⟩
  · have := (ex_zero a b fa fb).1 z
    exact (ex_zero s t fs ft).2 (by rw [h]; exact this)
  · have z2 : exMag s t ≠ 0 := fun e => z ((ex_zero a b fa fb).2 (by rw [← h]; exact (ex_zero s t fs ft).1 e))
    have p1 : exMag a b * 2 ^ (lowN a b + 1074).toNat ≠ 0 := Nat.mul_ne_zero z (Nat.ne_of_gt (Nat.two_pow_pos _))
    have p2 : exMag s t * 2 ^ (lowN s t + 1074).toNat ≠ 0 := Nat.mul_ne_zero z2 (Nat.ne_of_gt (Nat.two_pow_pos _))
    have hs : exNeg a b = exNeg s t := by rw [← sn_neg (s := exNeg a b) p1, ← sn_neg (s := exNeg s t) p2, x2]
    have hm := congrArg Int.natAbs x2
    rw [sn_abs, sn_abs] at hm
    refine ⟨hs, fun low l1 l2 => ?_⟩
    have f1 := low_facts a b
    have f2 := low_facts s t
    rcases Int.le_total (-1074) low with c | c
    · have hp := Nat.two_pow_pos (low + 1074).toNat
      apply Nat.eq_of_mul_eq_mul_right hp
      rw [Nat.mul_assoc, Nat.mul_assoc, ← Nat.pow_add, ← Nat.pow_add, show (lowN a b - low).toNat + (low + 1074).toNat = (lowN a b + 1074).toNat by omega, show (lowN s t - low).toNat + (low + 1074).toNat = (lowN s t + 1074).toNat by omega]
      exact hm.symm
    · have e1 : (lowN a b - low).toNat = (lowN a b + 1074).toNat + (-1074 - low).toNat := by omega
      have e2 : (lowN s t - low).toNat = (lowN s t + 1074).toNat + (-1074 - low).toNat := by omega
      rw [e1, e2, Nat.pow_add, Nat.pow_add, ← Nat.mul_assoc, ← Nat.mul_assoc, hm]

/-! ### calls with lists of digits -/
theorem Holds.below {w w1 : World} {A : Option Addr} {c : Nat} {l : List Int} (h : Holds w A c l) (hb : Below w.heap.size w w1) : Holds w1 A c l := ⟨Kd.C_below h.1 hb, h.2⟩
/-- a call that comes back with a list of digits -/
def Lists (f : FuncId) (args : Array Value) (w : World) (l : List Int) : Prop := Calls Try.prog f args w fun e w' => ∃ A c, e = .returned (.slice A l.length c) ∧ Holds w' A c l ∧ Below w.heap.size w w'
theorem trim_at {l : List Int} (dl : Dg l) (ll : l.length < 1000000) {w : World} {A : Option Addr} {c : Nat} (h : Holds w A c l) : Lists 25 #[.slice A l.length c] w (dig (val l)) := by
  obtain ⟨k, hk⟩ := (trim_is dl ll).rounds
  refine (minstrelref01_Trim.calls k A c l _ w h.1 h.2 hk).mono ?_
  rintro e w' ⟨v, rfl, hR, hB⟩
  obtain ⟨A', c', rfl⟩ := Kd.R_slice hR
  have hh := Kd.R_reads' hR
  exact ⟨A', c', rfl, ⟨hh.2.2, hh.2.1⟩, hB⟩
theorem up_at {l : List Int} (dl : Dg l) (ll : l.length < 100000) (n : Nat) (hn : n < 100000) {w : World} {A : Option Addr} {c : Nat} (h : Holds w A c l) : Lists 27 #[.slice A l.length c, .int .i64 n] w (dig (val l * 2 ^ n)) := by
  obtain ⟨k, hk⟩ := (up_is dl ll n hn).rounds
  refine (minstrelref01_Up.calls k A c l _ _ w h.1 h.2 hk).mono ?_
  rintro e w' ⟨v, rfl, hR, hB⟩
  obtain ⟨A', c', rfl⟩ := Kd.R_slice hR
  have hh := Kd.R_reads' hR
  exact ⟨A', c', rfl, ⟨hh.2.2, hh.2.1⟩, hB⟩
theorem cmp_at {l m : List Int} (dl : Dg l) (dm : Dg m) (ll : l.length < 1000000) (lm : m.length < 1000000) {w : World} {A B : Option Addr} {c d : Nat} (h : Holds w A c l) (h2 : Holds w B d m) :
    Calls Try.prog 26 #[.slice A l.length c, .slice B m.length d] w fun e w' => e = .returned (.int .i64 (cmpN (val l) (val m))) ∧ Below w.heap.size w w' := by
  obtain ⟨k, hk⟩ := (cmp_is dl dm ll lm).rounds
  refine (minstrelref01_Cmp.calls k A c l B d m _ w h.1 h.2 h2.1 h2.2 hk).mono ?_
  rintro e w' ⟨rfl, hd⟩
  exact ⟨rfl, hd.below⟩
theorem exact_at (a b : Nat) (ha : a < W) (hb : b < W) (w : World) : Calls Try.prog 24 #[.int .u64 a, .int .u64 b] w fun e w' => ∃ A c, e = .returned (.tuple #[.bool (exNeg a b), .int .i64 (lowN a b), .slice A (dig (exMag a b)).length c]) ∧ Holds w' A c (dig (exMag a b)) ∧ Below w.heap.size w w' := by
  obtain ⟨k, hk⟩ := (exact_is a b ha hb).rounds
  refine (minstrelref02_Exact.calls k _ _ _ _ _ w hk).mono ?_
  rintro e w' ⟨v, rfl, hR, hB⟩
  obtain ⟨A', c', rfl⟩ := Kd.R_slice hR
  have hh := Kd.R_reads' hR
  exact ⟨A', c', rfl, ⟨hh.2.2, hh.2.1⟩, hB⟩
end Go.Proofs.Ytknpffoglcogeaa.Ans
