/- What the document's Mul, Neg, Exact, Sum, Add, Sub (minstrelref02) compute: IEEE 754's answers, with one NaN. Condition: the words have 64 bits. -/
import Derived.Test.YtknpffoglcogeaaRefA
namespace Go.Proofs.Ytknpffoglcogeaa.Dig
open Go.RowKit Go.Proofs.Ytknpffoglcogeaa.Ref Go.Proofs.YtknpffoglcogeaaW.PrintWords Go.Proofs.YtknpffoglcogeaaW.PrintLast Go.Proofs.YtknpffoglcogeaaW.PrintMore
open Go.Proofs.Ytknpffoglcogeaa.Num Go.Proofs.Ytknpffoglcogeaa.DigLaw Go.Proofs.Ytknpffoglcogeaa.Fl
open Ieee (double)

def NANW : Nat := 9221120237041090560
def mulW (a b : Nat) : Nat := (double.mul a b).getD NANW
def addW (a b : Nat) : Nat := (double.add a b).getD NANW

theorem kind_vals (a : Nat) : kindN a = 0 ∨ kindN a = 1 ∨ kindN a = 2 ∨ kindN a = 3 ∨ kindN a = 4 := by
  rcases kind_facts a with ⟨hk, _⟩ | ⟨hk, _⟩ | ⟨hk, _⟩ | ⟨hk, _⟩ | ⟨hk, _⟩ <;> rw [hk] <;> decide
theorem nan_kind (a : Nat) : kindN a = 4 ↔ INF < rg a := by
  rcases kind_facts a with ⟨hk, h⟩ | ⟨hk, h⟩ | ⟨hk, h⟩ | ⟨hk, h⟩ | ⟨hk, h⟩ <;> rw [hk]
  · exact ⟨fun _ => h, fun _ => rfl⟩
  · exact ⟨fun e => by omega, fun e => by omega⟩
  · exact ⟨fun e => by omega, fun e => by omega⟩
  · have := cINF; exact ⟨fun e => by omega, fun e => by omega⟩
  · exact ⟨fun e => by omega, fun e => by omega⟩
theorem inf_kind (a : Nat) : kindN a = 3 ↔ rg a = INF := by
  rcases kind_facts a with ⟨hk, h⟩ | ⟨hk, h⟩ | ⟨hk, h⟩ | ⟨hk, h⟩ | ⟨hk, h⟩ <;> rw [hk]
  · exact ⟨fun e => by omega, fun e => by omega⟩
  · exact ⟨fun _ => h, fun _ => rfl⟩
  · have := cINF; exact ⟨fun e => by omega, fun e => by omega⟩
  · have := cINF; exact ⟨fun e => by omega, fun e => by omega⟩
  · exact ⟨fun e => by omega, fun e => by omega⟩
theorem zero_kind (a : Nat) : kindN a = 0 ↔ rg a = 0 := by
  have hI := cINF
  rcases kind_facts a with ⟨hk, h⟩ | ⟨hk, h⟩ | ⟨hk, h⟩ | ⟨hk, h⟩ | ⟨hk, h⟩ <;> rw [hk]
  · exact ⟨fun e => by omega, fun e => by omega⟩
  · exact ⟨fun e => by omega, fun e => by omega⟩
  · exact ⟨fun _ => h, fun _ => rfl⟩
  · exact ⟨fun e => by omega, fun e => by omega⟩
  · exact ⟨fun e => by omega, fun e => by omega⟩
theorem fin_kind (a : Nat) : kindN a < 3 ↔ rg a < INF := by
  have hI := cINF
  rcases kind_facts a with ⟨hk, h⟩ | ⟨hk, h⟩ | ⟨hk, h⟩ | ⟨hk, h⟩ | ⟨hk, h⟩ <;> rw [hk]
  · exact ⟨fun e => by omega, fun e => by omega⟩
  · exact ⟨fun e => by omega, fun e => by omega⟩
  · exact ⟨fun e => by omega, fun e => by omega⟩
  · exact ⟨fun e => by omega, fun e => by omega⟩
  · exact ⟨fun e => by omega, fun e => by omega⟩
theorem xor_bne (s t : Bool) : (s != t) = (s ^^ t) := by cases s <;> cases t <;> rfl

/-! ### Mul -/
theorem mul_nan {a b : Nat} (h : INF < rg a ∨ INF < rg b) : double.mul a b = none := by
  unfold Ieee.Format.mul
  rcases h with h | h
  · rw [read_nan h]; rfl
  · rw [read_nan h]; cases double.read a <;> rfl
theorem read_zero {a : Nat} (h : rg a = 0) : double.read a = .number (sg a) 0 (-1074) := by
  rw [read_eq, h, if_pos (by decide)]
theorem mul_zi {a b : Nat} (ha : rg a = 0) (hb : rg b = INF) : double.mul a b = none := by
  unfold Ieee.Format.mul; rw [read_zero ha, read_inf hb]; rfl
theorem mul_iz {a b : Nat} (ha : rg a = INF) (hb : rg b = 0) : double.mul a b = none := by
  unfold Ieee.Format.mul; rw [read_inf ha, read_zero hb]; rfl
theorem mag_pos {a m : Nat} {p : Int} (h : rg a ≠ 0) (hv : m * 2 ^ (p + 1074).toNat = V (rg a)) : m ≠ 0 := by
  intro e; rw [e, Nat.zero_mul] at hv
  have h1 := V_strict (a := 0) (b := rg a) (by omega)
  omega
theorem mul_ii {a b : Nat} (ha : rg a = INF) (hb : rg b = INF) : double.mul a b = some (double.word (sg a ^^ sg b) INF) := by
  unfold Ieee.Format.mul; rw [read_inf ha, read_inf hb, ← infRung_eq]; rfl
theorem mul_if {a b : Nat} (ha : rg a = INF) (hb : rg b < INF) (h0 : rg b ≠ 0) : double.mul a b = some (double.word (sg a ^^ sg b) INF) := by
  obtain ⟨m, p, e, _, hv⟩ := read_fin hb
  unfold Ieee.Format.mul
  rw [read_inf ha, e, ← infRung_eq]
  simp only [Ieee.Datum.product, if_neg (mag_pos h0 hv)]; rfl
theorem mul_fi {a b : Nat} (hb : rg b = INF) (ha : rg a < INF) (h0 : rg a ≠ 0) : double.mul a b = some (double.word (sg a ^^ sg b) INF) := by
  obtain ⟨m, p, e, _, hv⟩ := read_fin ha
  unfold Ieee.Format.mul
  rw [read_inf hb, e, ← infRung_eq]
  simp only [Ieee.Datum.product, if_neg (mag_pos h0 hv)]
  rw [Bool.xor_comm]; rfl

theorem mul_flag (a b : Nat) (s : Bool) (x y : Int) (k : Nat) :
    (if ((kindN a : Nat) : Int) = 4 then (minstrelref02_Mul.j0 k x y ((kindN a : Nat) : Int) ((kindN b : Nat) : Int) s true) else (if ((kindN b : Nat) : Int) = 4 then (minstrelref02_Mul.j0 k x y ((kindN a : Nat) : Int) ((kindN b : Nat) : Int) s true) else (if ((kindN a : Nat) : Int) = 3 then (if ((kindN b : Nat) : Int) = 0 then (minstrelref02_Mul.j0 k x y ((kindN a : Nat) : Int) ((kindN b : Nat) : Int) s true) else (if ((kindN a : Nat) : Int) = 0 then (minstrelref02_Mul.j0 k x y ((kindN a : Nat) : Int) ((kindN b : Nat) : Int) s (((kindN b : Nat) : Int) == 3)) else (minstrelref02_Mul.j0 k x y ((kindN a : Nat) : Int) ((kindN b : Nat) : Int) s false))) else (if ((kindN a : Nat) : Int) = 0 then (minstrelref02_Mul.j0 k x y ((kindN a : Nat) : Int) ((kindN b : Nat) : Int) s (((kindN b : Nat) : Int) == 3)) else (minstrelref02_Mul.j0 k x y ((kindN a : Nat) : Int) ((kindN b : Nat) : Int) s false)))))
    = minstrelref02_Mul.j0 k x y ((kindN a : Nat) : Int) ((kindN b : Nat) : Int) s (decide (kindN a = 4 ∨ kindN b = 4 ∨ kindN a = 3 ∧ kindN b = 0 ∨ kindN a = 0 ∧ kindN b = 3)) := by
  rcases kind_vals a with h | h | h | h | h <;> rcases kind_vals b with g | g | g | g | g <;> rw [h, g] <;> simp
theorem frac_prod_len (a b : Nat) : (dig (fracN a * fracN b)).length ≤ 8 := by
  have h1 : fracN a * fracN b ≤ 9007199254740992 * 9007199254740992 := Nat.mul_le_mul (Nat.le_of_lt (frac_lt a)) (Nat.le_of_lt (frac_lt b))
  exact dig_length' (Nat.lt_of_le_of_lt h1 (by decide))
theorem frac_prod_rung {a b : Nat} (fa : rg a < INF) (fb : rg b < INF) : rung (fracN a * fracN b) (expN a + expN b) = rung (V (rg a) * V (rg b)) (-2148) := by
  have ea := exp_range a
  have eb := exp_range b
  have e : (expN a + expN b - -2148).toNat = (expN a + 1074).toNat + (expN b + 1074).toNat := by omega
  rw [rung_at _ _ (-2148) (by omega), ← frac_V a fa, ← frac_V b fb, e, Nat.pow_add]
  congr 1
  generalize 2 ^ (expN a + 1074).toNat = u
  generalize 2 ^ (expN b + 1074).toNat = v
  ac_rfl
theorem mul_glue {k : Nat} {a b : Int} {s t neg : Bool} {e g f h z w : Int} {x y d : List Int} (p1 : minstrelref01_Parts.f k a = some (s, e, f)) (p2 : minstrelref01_Parts.f k b = some (t, g, h)) (hx : minstrelref01_Digits.f f = some x) (hy : minstrelref01_Digits.f h = some y) (ew : wrap64 (e + g) = z) (q : minstrelref01_Product.f k x y = some d) (r : minstrelref01_Round.f k neg z d false = some w) :
    ((minstrelref01_Parts.f k a).bind fun bt192 => ((minstrelref01_Parts.f k b).bind fun bt195 => ((minstrelref01_Digits.f bt192.2.2).bind fun t198 => ((minstrelref01_Digits.f bt195.2.2).bind fun t201 => ((minstrelref01_Product.f k t198 t201).bind fun t204 => ((minstrelref01_Round.f k neg (wrap64 (bt192.2.1 + bt195.2.1)) t204 false).bind fun t207 => (some t207))))))) = some w := by
  rw [p1, Option.bind_some, p2, Option.bind_some]; dsimp only; rw [hx, Option.bind_some, hy, Option.bind_some, ew, q, Option.bind_some, r, Option.bind_some]
theorem mul_fin_is (a b : Nat) (ha : a < W) (hb : b < W) (fa : rg a < INF) (fb : rg b < INF) (neg : Bool) :
    Ev (fun k => (minstrelref01_Parts.f k (a : Int)).bind fun bt192 => ((minstrelref01_Parts.f k (b : Int)).bind fun bt195 => ((minstrelref01_Digits.f bt192.2.2).bind fun t198 => ((minstrelref01_Digits.f bt195.2.2).bind fun t201 => ((minstrelref01_Product.f k t198 t201).bind fun t204 => ((minstrelref01_Round.f k neg (wrap64 (bt192.2.1 + bt195.2.1)) t204 false).bind fun t207 => (some t207))))))) ((double.word neg (rung (V (rg a) * V (rg b)) (-2148)) : Nat) : Int) := by
  have ea := exp_range a
  have eb := exp_range b
  have la := frac_lt a
  have lb := frac_lt b
  obtain ⟨x, hx, dx, vx, lx⟩ := digits_is (fracN a) (by omega)
  obtain ⟨y, hy, dy, vy, ly⟩ := digits_is (fracN b) (by omega)
  have ew : wrap64 (expN a + expN b) = expN a + expN b := i64in (by omega) (by omega)
  have e0 : -10000 ≤ expN a + expN b := by omega
  have e1 : expN a + expN b ≤ 10000 := by omega
  have hp := product_is dx dy (by omega) (by omega)
  rw [vx, vy] at hp
  have hr := round_is neg (expN a + expN b) (dig_Dg (fracN a * fracN b)) (Nat.lt_of_le_of_lt (frac_prod_len a b) (by decide)) false e0 e1 (fun h => by cases h)
  rw [dig_val, nearest_eq, rung_twice, frac_prod_rung fa fb] at hr
  obtain ⟨K1, p1⟩ := parts_is a ha
  obtain ⟨K2, p2⟩ := parts_is b hb
  obtain ⟨K3, q⟩ := hp
  obtain ⟨K4, r⟩ := hr
  refine ⟨max (max K1 K2) (max K3 K4), fun k hk => ?_⟩
  replace p1 : minstrelref01_Parts.f k (a : Int) = some (sg a, expN a, ((fracN a : Nat) : Int)) := p1 k (by omega)
  replace p2 : minstrelref01_Parts.f k (b : Int) = some (sg b, expN b, ((fracN b : Nat) : Int)) := p2 k (by omega)
  replace q : minstrelref01_Product.f k x y = some (dig (fracN a * fracN b)) := q k (by omega)
  replace r : minstrelref01_Round.f k neg (expN a + expN b) (dig (fracN a * fracN b)) false = some ((double.word neg (rung (V (rg a) * V (rg b)) (-2148)) : Nat) : Int) := r k (by omega)
  exact mul_glue p1 p2 hx hy ew q r
theorem mul_is (a b : Nat) (ha : a < W) (hb : b < W) : Ev (fun k => minstrelref02_Mul.f k (a : Int) (b : Int)) ((mulW a b : Nat) : Int) := by
  refine Ev.bind (kind_is a ha) (Ev.bind (kind_is b hb) ?_)
  refine Ev.congr (f := fun k => minstrelref02_Mul.j0 k (a : Int) (b : Int) ((kindN a : Nat) : Int) ((kindN b : Nat) : Int) (sg a ^^ sg b) (decide (kindN a = 4 ∨ kindN b = 4 ∨ kindN a = 3 ∧ kindN b = 0 ∨ kindN a = 0 ∧ kindN b = 3))) (fun k => ?_) ?_
  · rw [neg_is a ha, neg_is b hb]; simp only [Option.bind_some]; rw [xor_bne, mul_flag]
  · by_cases c : kindN a = 4 ∨ kindN b = 4 ∨ kindN a = 3 ∧ kindN b = 0 ∨ kindN a = 0 ∧ kindN b = 3
    · have hN : mulW a b = NANW := by
        have : double.mul a b = none := by
          rw [nan_kind, nan_kind, inf_kind, inf_kind, zero_kind, zero_kind] at c
          rcases c with c | c | c | c
          · exact mul_nan (.inl c)
          · exact mul_nan (.inr c)
          · exact mul_iz c.1 c.2
          · exact mul_zi c.1 c.2
        unfold mulW; rw [this]; rfl
      rw [hN, decide_eq_true c]
      refine Ev.step (f := fun _ => some ((NANW : Nat) : Int)) (fun k => ?_) (Ev.now _)
      rw [minstrelref02_Mul.j0, if_pos rfl]; rfl
    · rw [decide_eq_false c]
      refine Ev.step (f := fun k => minstrelref02_Mul.j1 k (a : Int) (b : Int) (sg a ^^ sg b) (decide (kindN a = 3 ∨ kindN b = 3))) (fun k => ?_) ?_
      · rw [minstrelref02_Mul.j0, if_neg (by simp)]
        rcases kind_vals a with h | h | h | h | h <;> rcases kind_vals b with g | g | g | g | g <;> rw [h, g] <;> simp
      · by_cases i : kindN a = 3 ∨ kindN b = 3
        · have hI : mulW a b = sgn (sg a ^^ sg b) + INF := by
            have : double.mul a b = some (double.word (sg a ^^ sg b) INF) := by
              rw [nan_kind, nan_kind, inf_kind, inf_kind, zero_kind, zero_kind] at c
              rw [inf_kind, inf_kind] at i
              rcases Nat.lt_trichotomy (rg a) INF with fa | fa | fa
              · have fb : rg b = INF := by omega
                exact mul_fi fb fa (by omega)
              · rcases Nat.lt_trichotomy (rg b) INF with fb | fb | fb
                · exact mul_if fa fb (by omega)
                · exact mul_ii fa fb
                · omega
              · omega
            unfold mulW; rw [this, ← word_eq]; rfl
          rw [hI, decide_eq_true i]
          refine Ev.step (f := fun _ => some ((sgn (sg a ^^ sg b) + INF : Nat) : Int)) (fun k => ?_) (Ev.now _)
          rw [minstrelref02_Mul.j1, if_pos rfl, infinite_is]; rfl
        · have fa : rg a < INF := (fin_kind a).1 (by have := kind_vals a; omega)
          have fb : rg b < INF := (fin_kind b).1 (by have := kind_vals b; omega)
          have hF : mulW a b = double.word (sg a ^^ sg b) (rung (V (rg a) * V (rg b)) (-2148)) := by unfold mulW; rw [mul_fin fa fb]; rfl
          rw [hF, decide_eq_false i]
          refine Ev.step (f := fun k => (minstrelref01_Parts.f k (a : Int)).bind fun bt192 => ((minstrelref01_Parts.f k (b : Int)).bind fun bt195 => ((minstrelref01_Digits.f bt192.2.2).bind fun t198 => ((minstrelref01_Digits.f bt195.2.2).bind fun t201 => ((minstrelref01_Product.f k t198 t201).bind fun t204 => ((minstrelref01_Round.f k (sg a ^^ sg b) (wrap64 (bt192.2.1 + bt195.2.1)) t204 false).bind fun t207 => (some t207))))))) (fun k => ?_) (mul_fin_is a b ha hb fa fb _)
          rw [minstrelref02_Mul.j1, if_neg (by simp)]
end Go.Proofs.Ytknpffoglcogeaa.Dig
