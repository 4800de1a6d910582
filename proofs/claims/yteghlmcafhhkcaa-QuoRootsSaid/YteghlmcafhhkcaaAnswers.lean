/- Answers: a call that comes back with a value and leaves all elder memory as it was; the reference's Kind, Parts, Less, Nan, Neg. Condition: words have 64 bits. -/
import Derived.Test.YteghlmcafhhkcaaFloats
import Derived.Test.YteghlmcafhhkcaaRefs
namespace Go.Proofs.Yteghlmcafhhkcaa.Ans
open Go Go.RowKit Go.Proofs.Yteghlmcafhhkcaa.Ref Go.Proofs.YteghlmcafhhkcaaW.PrintWords Go.Proofs.YteghlmcafhhkcaaW.PrintLast Go.Proofs.YteghlmcafhhkcaaW.PrintMore
open Go.Proofs.Yteghlmcafhhkcaa.Num Go.Proofs.Yteghlmcafhhkcaa.DigLaw Go.Proofs.Yteghlmcafhhkcaa.Fl Go.Proofs.Yteghlmcafhhkcaa.Dig Go.Proofs.Yteghlmcafhhkcaa.Float
open Ieee (double Datum)

def Ans (f : FuncId) (args : Array Value) (v : Value) : Prop := ∀ w, Calls Try.prog f args w fun e w' => e = .returned v ∧ Below w.heap.size w w'
theorem Ans.at {f : FuncId} {args : Array Value} {v : Value} (h : Ans f args v) (w : World) : Calls Try.prog f args w fun e w' => e = .returned v ∧ Below w.heap.size w w' := h w
theorem bthen {w w1 w2 : World} (h1 : Below w.heap.size w w1) (h2 : Below w1.heap.size w1 w2) : Below w.heap.size w w2 := below_then h1 h1.size h2

theorem nanw_eq : Float.NANW = Dig.NANW := rfl
theorem wordI_ok (z : Bool) (T : Int) : rg (wordI z T) ≤ INF := by
  unfold wordI
  rw [word_eq]
  have h1 := rung_le_inf T.natAbs (-1074)
  have h2 := INF_lt
  rw [(sg_word _ _ (by unfold S63 at h2; omega)).2.1]; exact h1
theorem word_ok (s : Bool) {r : Nat} (h : r ≤ INF) : rg (double.word s r) ≤ INF := by
  rw [word_eq]
  have h2 := INF_lt
  rw [(sg_word _ _ (by unfold S63 at h2; omega)).2.1]; exact h
theorem ans_refKind (a : Nat) (ha : a < W) : Ans 15 #[.int .u64 a] (.int .i64 (kindN a)) := fun w => let ⟨k, hk⟩ := Ev.rounds (kind_is a ha); (minstrelref01_Kind.calls k _ _ w hk).mono fun _ _ ⟨h, hd⟩ => ⟨h, hd.below⟩
theorem ans_refParts (a : Nat) (ha : a < W) : Ans 27 #[.int .u64 a] (.tuple #[.bool (sg a), .int .i64 (expN a), .int .u64 (fracN a)]) := fun w => let ⟨k, hk⟩ := Ev.rounds (parts_is a ha); (minstrelref01_Parts.calls k _ _ _ _ w hk).mono fun _ _ ⟨h, hd⟩ => ⟨h, hd.below⟩
theorem ans_refLess (a b : Nat) (ha : a < W) (hb : b < W) : Ans 14 #[.int .u64 a, .int .u64 b] (.bool (lessB a b)) := fun w => let ⟨k, hk⟩ := Ev.rounds (less_is a b ha hb); (minstrelref01_Less.calls k _ _ _ w hk).mono fun _ _ ⟨h, hd⟩ => ⟨h, hd.below⟩
theorem ans_refNan : Ans 22 #[] (.int .u64 9221120237041090560) := fun w => (minstrelref01_Nan.calls _ w nan_is).mono fun _ _ ⟨h, hd⟩ => ⟨h, hd.below⟩
theorem ans_refSign (a : Nat) (ha : a < W) : Ans 21 #[.int .u64 a] (.bool (sg a)) := fun w => (minstrelref01_Neg.calls _ _ w (neg_is a ha)).mono fun _ _ ⟨h, hd⟩ => ⟨h, hd.below⟩
end Go.Proofs.Yteghlmcafhhkcaa.Ans

/- What the program's Div and Sqrt (layer 3) answer: IEEE 754's word, and one NaN where there is none. Condition: the arguments are words of 64 bits. -/
namespace Go.Proofs.Yteghlmcafhhkcaa.Ans
open Go Go.RowKit Go.Proofs.Yteghlmcafhhkcaa.Ref Go.Proofs.YteghlmcafhhkcaaW.PrintWords Go.Proofs.YteghlmcafhhkcaaW.PrintLast Go.Proofs.YteghlmcafhhkcaaW.PrintMore
open Go.Proofs.Yteghlmcafhhkcaa.Num Go.Proofs.Yteghlmcafhhkcaa.DigLaw Go.Proofs.Yteghlmcafhhkcaa.Fl Go.Proofs.Yteghlmcafhhkcaa.Dig Go.Proofs.Yteghlmcafhhkcaa.Float
open Ieee (double Datum)

attribute [local go_sem] frombits_run bits_run
theorem ans_of (a : Nat) : Ans 24 #[.int .u64 a] (.float .f64 a) := by
  intro w
  go_enter Try.func24, Try.ntmps24
  go_wp2
  go_ret
  exact ⟨rfl, Below.refl _ _⟩
theorem ans_told (a : Nat) : Ans 23 #[.float .f64 a] (.int .u64 (canonW a)) := by
  intro w
  go_enter Try.func23, Try.ntmps23
  go_wp2_with (go_at_call 41; refine (Canon_any _ _).mono ?_; rintro e w' ⟨rfl, rfl⟩)
  go_ret
  exact ⟨rfl, Below.refl _ _⟩
theorem write_ok' {d : Datum} (h : d.isNaN = false) : rg (double.write d) ≤ INF := (write_num d h).1
theorem quotient_num {digits : Nat} {x y d : Datum} (h : Datum.quotient digits x y = some d) : d.isNaN = false := by
  cases d with
  | number s m p => rfl
  | infinity s => rfl
  | nan s f =>
    exfalso
    cases x <;> cases y <;> simp only [Datum.quotient] at h <;> try (split at h) <;> try (split at h) <;> cases h
    all_goals cases h
theorem root_num {digits : Nat} {x d : Datum} (h : Datum.root digits x = some d) : d.isNaN = false := by
  cases d with
  | number s m p => rfl
  | infinity s => rfl
  | nan s f =>
    exfalso
    cases x with
    | number s m p =>
      simp only [Datum.root] at h
      split at h
      · cases h
      · split at h
        · cases h
        · cases h
    | infinity s =>
      simp only [Datum.root] at h
      split at h
      · cases h
      · cases h
    | nan s f => simp only [Datum.root] at h; cases h
theorem div_ok {a b r : Nat} (h : double.div a b = some r) : rg r ≤ INF ∧ r < W := by
  unfold Ieee.Format.div at h
  rw [Option.map_eq_some_iff] at h
  obtain ⟨d, hd, rfl⟩ := h
  exact write_num d (quotient_num hd)
theorem sqrt_ok {a r : Nat} (h : double.sqrt a = some r) : rg r ≤ INF ∧ r < W := by
  unfold Ieee.Format.sqrt at h
  rw [Option.map_eq_some_iff] at h
  obtain ⟨d, hd, rfl⟩ := h
  exact write_num d (root_num hd)
def sqrtW (a : Nat) : Nat := (double.sqrt a).getD Dig.NANW
theorem div_lt (a b : Nat) : divW a b < W := by
  unfold divW
  cases h : double.div a b with
  | none => exact nanw_facts.2.2.1
  | some r => exact (div_ok h).2
theorem sqrt_lt (a : Nat) : sqrtW a < W := by
  unfold sqrtW
  cases h : double.sqrt a with
  | none => exact nanw_facts.2.2.1
  | some r => exact (sqrt_ok h).2
theorem ans_Div (a b : Nat) : Ans 9 #[.int .u64 a, .int .u64 b] (.int .u64 (divW a b)) := by
  intro w
  have oa := ans_of a
  have ob := ans_of b
  cases h : double.div a b with
  | none =>
    have e : divW a b = Dig.NANW := by unfold divW; rw [h]; rfl
    rw [e]
    have hm : ∀ w : World, (binOp .quo 36 (.float .f64 a) (.float .f64 b)).run Try.prog w = .ok (.float .f64 (drawnNaN a b w)) w.drew := fun w => arith_none .quo 36 a b (.inr (.inr (.inr rfl))) h w
    have ht : ∀ w : World, Ans 23 #[.float .f64 (drawnNaN a b w)] (.int .u64 Dig.NANW) := fun w => by
      have := ans_told (drawnNaN a b w)
      rw [show canonW (drawnNaN a b w) = Dig.NANW from cut_isNaN a b _] at this; exact this
    clear h e
    go_enter Try.func9, Try.ntmps9
    go_wp2_with fail
    refine (oa.at _).mono ?_; rintro e w1 ⟨rfl, hb1⟩
    go_wp2_with fail
    refine (ob.at _).mono ?_; rintro e w2 ⟨rfl, hb2⟩
    go_wp2_with fail
    refine ((ht _).at _).mono ?_; rintro e w3 ⟨rfl, hb3⟩
    go_wp2_with fail
    go_ret
    exact ⟨rfl, bthen hb1 (bthen (bthen hb2 (Below.refl _ _).drew) hb3)⟩
  | some r =>
    have e : divW a b = r := by unfold divW; rw [h]; rfl
    rw [e]
    have hm : ∀ w : World, (binOp .quo 36 (.float .f64 a) (.float .f64 b)).run Try.prog w = .ok (.float .f64 r) w := fun w => run_float_arith w .quo 36 .f64 a b r h
    have ht := ans_told r
    rw [canon_num (div_ok h).1] at ht
    clear h e
    go_enter Try.func9, Try.ntmps9
    go_wp2_with fail
    refine (oa.at _).mono ?_; rintro e w1 ⟨rfl, hb1⟩
    go_wp2_with fail
    refine (ob.at _).mono ?_; rintro e w2 ⟨rfl, hb2⟩
    go_wp2_with fail
    refine (ht.at _).mono ?_; rintro e w3 ⟨rfl, hb3⟩
    go_wp2_with fail
    go_ret
    exact ⟨rfl, bthen hb1 (bthen hb2 hb3)⟩
/-! ### Sqrt -/
theorem extSqrt_eq (x : Nat) : Extern.MathSqrt.sqrt #[.float .f64 x] =
    match FloatKind.f64.format.sqrt x with
    | some r => pure (.float .f64 r)
    | none => (do pure (.float .f64 (← choose (.nanBits .f64 x x))) : Sem Value) := rfl
theorem ask_run (q : Question) (hf : q.forced = false) (k : Nat → Value) (w : World) : (do let x ← choose q; pure (k x) : Sem Value).run Try.prog w = .ok (k (q.cut (w.tape w.drawn q))) w.drew := by
  simp [hf]
theorem sqrt_some (a r : Nat) (h : double.sqrt a = some r) (w : World) : (callFunc 49 #[.float .f64 a]).run Try.prog w = .ok (.value (.float .f64 r)) w := by
  have h' : FloatKind.f64.format.sqrt a = some r := h
  rw [run_callFunc_extern (fn := Try.f49) (e := Extern.MathSqrt.sqrt) Try.func49 (by kernel_rfl) (by kernel_rfl) (by kernel_rfl) (by kernel_rfl), extSqrt_eq, h']
  rfl
theorem sqrt_none (a : Nat) (h : double.sqrt a = none) (w : World) : (callFunc 49 #[.float .f64 a]).run Try.prog w = .ok (.value (.float .f64 (drawnNaN a a w))) w.drew := by
  have h' : FloatKind.f64.format.sqrt a = none := h
  rw [run_callFunc_extern (fn := Try.f49) (e := Extern.MathSqrt.sqrt) Try.func49 (by kernel_rfl) (by kernel_rfl) (by kernel_rfl) (by kernel_rfl), extSqrt_eq, h']
  dsimp only
  rw [ask_run (Question.nanBits .f64 a a) rfl (fun x => .float .f64 x) w]
  rfl
theorem ans_Sqrt (a : Nat) : Ans 12 #[.int .u64 a] (.int .u64 (sqrtW a)) := by
  intro w
  have oa := ans_of a
  cases h : double.sqrt a with
  | none =>
    have e : sqrtW a = Dig.NANW := by unfold sqrtW; rw [h]; rfl
    rw [e]
    have hm := sqrt_none a h
    have ht : ∀ w : World, Ans 23 #[.float .f64 (drawnNaN a a w)] (.int .u64 Dig.NANW) := fun w => by
      have := ans_told (drawnNaN a a w)
      rw [show canonW (drawnNaN a a w) = Dig.NANW from cut_isNaN a a _] at this; exact this
    clear h e
    go_enter Try.func12, Try.ntmps12
    go_wp2_with (first | (go_at_call 24; refine (oa.at _).mono ?_; rintro e w1 ⟨rfl, hb1⟩) | (go_at_call 23; refine ((ht _).at _).mono ?_; rintro e w3 ⟨rfl, hb3⟩) | go_in)
    go_ret
    exact ⟨rfl, bthen (bthen hb1 (Below.refl _ _).drew) hb3⟩
  | some r =>
    have e : sqrtW a = r := by unfold sqrtW; rw [h]; rfl
    rw [e]
    have hm := sqrt_some a r h
    have ht := ans_told r
    rw [canon_num (sqrt_ok h).1] at ht
    clear h e
    go_enter Try.func12, Try.ntmps12
    go_wp2_with (first | (go_at_call 24; refine (oa.at _).mono ?_; rintro e w1 ⟨rfl, hb1⟩) | (go_at_call 23; refine (ht.at _).mono ?_; rintro e w3 ⟨rfl, hb3⟩) | go_in)
    go_ret
    exact ⟨rfl, bthen hb1 hb3⟩
theorem lives_div : divW 4607182418800017408 4613937818241073152 = 4599676419421066581 := by decide +kernel
theorem lives_sqrt : sqrtW 4611686018427387904 = 4609047870845172685 := by decide +kernel
theorem ans_lives : Ans 11 #[] (.bool true) := by
  intro w
  have h1 := ans_Div 4607182418800017408 4613937818241073152
  have h2 := ans_Sqrt 4611686018427387904
  rw [lives_div] at h1
  rw [lives_sqrt] at h2
  have H1 : Ans 9 #[.int .u64 4607182418800017408, .int .u64 4613937818241073152] (.int .u64 4599676419421066581) := h1
  have H2 : Ans 12 #[.int .u64 4611686018427387904] (.int .u64 4609047870845172685) := h2
  clear h1 h2
  go_enter Try.func11, Try.ntmps11
  go_wp2_with fail
  refine (H1.at _).mono ?_; rintro e w1 ⟨rfl, hb1⟩
  go_wp2_with fail
  refine (H2.at _).mono ?_; rintro e w2 ⟨rfl, hb2⟩
  go_wp2_with fail
  go_ret
  exact ⟨rfl, bthen hb1 hb2⟩
theorem ans_refDiv (a b : Nat) (ha : a < W) (hb : b < W) : Ans 10 #[.int .u64 a, .int .u64 b] (.int .u64 (divW a b)) := fun w =>
  let ⟨k, hk⟩ := Ev.rounds (refDiv_is a b ha hb); minstrelref03_Div.calls k _ _ _ w hk
end Go.Proofs.Yteghlmcafhhkcaa.Ans

/- Answers of the layer 3's reference, and the plain law of roots' order. Condition: the arguments are words of 64 bits. -/
namespace Go.Proofs.Yteghlmcafhhkcaa.Ans
open Go Go.RowKit Go.Proofs.Yteghlmcafhhkcaa.Ref Go.Proofs.YteghlmcafhhkcaaW.PrintWords Go.Proofs.YteghlmcafhhkcaaW.PrintLast Go.Proofs.YteghlmcafhhkcaaW.PrintMore
open Go.Proofs.Yteghlmcafhhkcaa.Num Go.Proofs.Yteghlmcafhhkcaa.DigLaw Go.Proofs.Yteghlmcafhhkcaa.Fl Go.Proofs.Yteghlmcafhhkcaa.Dig Go.Proofs.Yteghlmcafhhkcaa.Float
open Ieee (double Datum)

theorem sq_eq (a : Nat) : sqrtW a = sqW a := rfl
theorem ans_refSqrt (a : Nat) (ha : a < W) : Ans 13 #[.int .u64 a] (.int .u64 (sqrtW a)) := fun w =>
  let ⟨k, hk⟩ := Ev.rounds (refSqrt_is a ha); minstrelref03_Sqrt.calls k _ _ w hk
theorem root_some {a : Nat} (fa : rg a < INF) (za : rg a ≠ 0) (hs : sg a = false) : sg (sqW a) = false ∧ rg (sqW a) = rung (SR (V (rg a) * 2 ^ E1326)) (-1201) := by
  have e : sqW a = double.word false (rung (SR (V (rg a) * 2 ^ E1326)) (-1201)) := by
    unfold sqW; rw [sqrt_V fa za hs, Option.getD_some, word_false]
  obtain ⟨h1, h2, _⟩ := word_facts false (rung_le_inf (SR (V (rg a) * 2 ^ E1326)) (-1201))
  rw [e]; exact ⟨h1, h2⟩
theorem less_not {a b : Nat} (h : Vi b ≤ Vi a) : lessB a b = false := by
  unfold lessB; rw [decide_eq_false_iff_not]; intro x; omega
theorem Vi_pos {s : Nat} (h : sg s = false) : Vi s = (V (rg s) : Int) := by unfold Vi sn; rw [h]; simp
theorem Vi_neg' {s : Nat} (h : sg s = true) : Vi s = -(V (rg s) : Int) := by unfold Vi sn; rw [h]; simp
theorem root_nan {a : Nat} (h : double.sqrt a = none) : kindN (sqW a) = 4 := by
  unfold sqW; rw [h]; exact nanw_facts.2.2.2
theorem root_rises {a b : Nat} (ha : a < W) (hb : b < W) (hl : lessB a b = true) (hk : kindN (sqW a) ≠ 4) : lessB (sqW b) (sqW a) = false := by
  have h := of_decide_eq_true (show decide (rg a ≤ INF ∧ rg b ≤ INF ∧ Vi a < Vi b) = true from hl)
  obtain ⟨la, lb, hv⟩ := h
  apply less_not
  have posb : ∀ x : Int, 0 ≤ x → x < Vi b → sg b = false ∧ rg b ≠ 0 := by
    intro x hx hxb
    cases hs : sg b
    · refine ⟨rfl, fun z => ?_⟩
      rw [Vi_pos hs, z, V_small (by decide)] at hxb; omega
    · rw [Vi_neg' hs] at hxb; omega
  -- the root of b is b's infinity or a number
  have rb : sg b = false → rg b ≠ 0 → sg (sqW b) = false ∧ (rg b < INF → rg (sqW b) = rung (SR (V (rg b) * 2 ^ E1326)) (-1201)) ∧ (rg b = INF → rg (sqW b) = INF) := by
    intro hs hz
    rcases Nat.lt_or_ge (rg b) INF with f | f
    · obtain ⟨h1, h2⟩ := root_some f hz hs
      exact ⟨h1, fun _ => h2, fun e => by omega⟩
    · have e : sqW b = b := by unfold sqW; rw [sqrt_inf hb (by omega), hs, if_neg (by simp), Option.getD_some]
      rw [e]
      exact ⟨hs, fun f' => by omega, fun e => e⟩
  rcases Nat.lt_or_ge (rg a) INF with fa | fa
  · by_cases za : rg a = 0
    · have e : sqW a = a := by unfold sqW; rw [sqrt_zero ha za, Option.getD_some]
      have v0 : Vi a = 0 := by
        cases hs : sg a
        · rw [Vi_pos hs, za, V_small (by decide)]; rfl
        · rw [Vi_neg' hs, za, V_small (by decide)]; rfl
      obtain ⟨sb, zb⟩ := posb 0 (Int.le_refl _) (by omega)
      rw [e, v0, Vi_pos (rb sb zb).1]
      exact Int.natCast_nonneg _
    · cases hs : sg a
      · obtain ⟨h1, h2⟩ := root_some fa za hs
        have hva := Vi_pos hs
        obtain ⟨sb, zb⟩ := posb (Vi a) (by rw [hva]; exact Int.natCast_nonneg _) hv
        obtain ⟨g1, g2, g3⟩ := rb sb zb
        rw [Vi_pos h1, Vi_pos g1, h2]
        apply Int.ofNat_le.2
        apply V_mono
        rcases Nat.lt_or_ge (rg b) INF with fb | fb
        · rw [g2 fb]
          have hvb := Vi_pos sb
          exact rung_mono_at (SR_mono (Nat.mul_le_mul_right _ (by omega)))
        · rw [g3 (by omega)]; exact rung_le_inf _ _
      · exact absurd (root_nan (sqrt_neg fa za hs)) hk
  · have ea : rg a = INF := Nat.le_antisymm la fa
    cases hs : sg a
    · have hva := Vi_pos hs
      have hvb : Vi b ≤ (V INF : Int) := by
        have := V_mono lb
        cases hsb : sg b
        · rw [Vi_pos hsb]; omega
        · rw [Vi_neg' hsb]; omega
      rw [ea] at hva; omega
    · exact absurd (root_nan (by rw [sqrt_inf ha ea, hs, if_pos rfl])) hk
end Go.Proofs.Yteghlmcafhhkcaa.Ans
