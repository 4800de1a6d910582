/- What the document's Sum, Add, Sub (minstrelref02) compute: IEEE 754's sums, with one NaN. Condition: the words have 64 bits. -/
import Derived.Test.YtknpffoglcogeaaRefC
namespace Go.Proofs.Ytknpffoglcogeaa.Dig
open Go.RowKit Go.Proofs.Ytknpffoglcogeaa.Ref Go.Proofs.YtknpffoglcogeaaW.PrintWords Go.Proofs.YtknpffoglcogeaaW.PrintLast Go.Proofs.YtknpffoglcogeaaW.PrintMore
open Go.Proofs.Ytknpffoglcogeaa.Num Go.Proofs.Ytknpffoglcogeaa.DigLaw Go.Proofs.Ytknpffoglcogeaa.Fl
open Ieee (double Datum)

theorem sn_zero {s : Bool} {n : Nat} : sn s n = 0 ↔ n = 0 := by cases s <;> simp only [sn_f, sn_t] <;> omega
theorem sn_neg {s : Bool} {n : Nat} (h : n ≠ 0) : decide (sn s n < 0) = s := by
  cases s
  · rw [sn_f, decide_eq_false (by omega)]
  · rw [sn_t, decide_eq_true (by omega)]
theorem ex_zero (a b : Nat) (fa : rg a < INF) (fb : rg b < INF) : exMag a b = 0 ↔ Vi a + Vi b = 0 := by
  rw [← ex_Vi a b fa fb, sn_zero, Nat.mul_eq_zero]
  have := Nat.two_pow_pos (lowN a b + 1074).toNat
  exact ⟨fun h => Or.inl h, fun h => h.resolve_right (by omega)⟩
/-- the nearest double of the sum without rounding -/
theorem ex_round (a b : Nat) (fa : rg a < INF) (fb : rg b < INF) (h0 : exMag a b ≠ 0) (z : Bool) : double.word (exNeg a b) (rung (exMag a b) (lowN a b)) = wordI z (Vi a + Vi b) := by
  have hl := low_facts a b
  have h1 : exMag a b * 2 ^ (lowN a b + 1074).toNat ≠ 0 := Nat.mul_ne_zero h0 (Nat.ne_of_gt (Nat.two_pow_pos _))
  have hr := rung_at (exMag a b) (lowN a b) (-1074) hl.2.2.1
  rw [show lowN a b - -1074 = lowN a b + 1074 by omega] at hr
  unfold wordI
  rw [← ex_Vi a b fa fb, if_neg (fun e => h1 (sn_zero.1 e)), sn_neg h1, sn_abs, hr]
theorem V_zero : V 0 = 0 := V_small (by decide)
theorem V_eq_zero {r : Nat} : V r = 0 ↔ r = 0 := ⟨fun h => V_inj (h.trans V_zero.symm), fun h => by rw [h, V_zero]⟩
/-- two numbers below nought whose sum is nothing are noughts -/
theorem both_neg {a b : Nat} (h : Vi a + Vi b = 0) (ha : sg a = true) (hb : sg b = true) : rg a = 0 ∧ rg b = 0 := by
  unfold Vi at h
  rw [ha, hb, sn_t, sn_t] at h
  exact ⟨V_eq_zero.1 (by omega), V_eq_zero.1 (by omega)⟩

theorem sum_glue {k : Nat} {a b : Int} {n z : Bool} {e kA kB w : Int} {d t : List Int} (sa sb : Bool) (p : minstrelref02_Exact.f k a b = some (n, e, d)) (ht : minstrelref01_Trim.f k d = some t) (hA : minstrelref01_Kind.f k a = some kA) (hB : minstrelref01_Kind.f k b = some kB)
    (na : minstrelref01_Neg.f a = some sa) (nb : minstrelref01_Neg.f b = some sb) (hz : (t.length : Int) = 0 → z = if kA = 0 then if kB = 0 then if sa = true then sb else false else false else false)
    (h0 : (t.length : Int) = 0 → w = ((sgn z : Nat) : Int)) (h1 : ¬ (t.length : Int) = 0 → minstrelref01_Round.f k n e d false = some w) : minstrelref02_Sum.f k a b = some w := by
  unfold minstrelref02_Sum.f
  rw [p, Option.bind_some]
  dsimp only
  rw [ht, Option.bind_some]
  by_cases c : (t.length : Int) = 0
  · rw [if_pos c, hA, Option.bind_some, hB, Option.bind_some, na, Option.bind_some, nb, Option.bind_some, h0 c, hz c, sign_is, sign_is, Option.bind_some, Option.bind_some]
    by_cases c1 : kA = 0
    · rw [if_pos c1, if_pos c1]
      by_cases c2 : kB = 0
      · rw [if_pos c2, if_pos c2]
        by_cases c3 : sa = true
        · rw [if_pos c3, if_pos c3]
        · rw [if_neg c3, if_neg c3]
      · rw [if_neg c2, if_neg c2]
    · rw [if_neg c1, if_neg c1]
  · rw [if_neg c, h1 c, Option.bind_some]
theorem dig_len_zero (n : Nat) : ((dig n).length : Int) = 0 ↔ n = 0 := by
  rw [← dig_nil_iff n]
  constructor
  · intro h; exact List.length_eq_zero_iff.1 (by omega)
  · intro h; rw [h]; rfl
theorem refSum_is (a b : Nat) (ha : a < W) (hb : b < W) (fa : rg a < INF) (fb : rg b < INF) : Ev (fun k => minstrelref02_Sum.f k (a : Int) (b : Int)) ((wordI (sg a && sg b) (Vi a + Vi b) : Nat) : Int) := by
  have hl := low_facts a b
  obtain ⟨K1, p1⟩ := exact_is a b ha hb
  have lE := dig_len _ (ex_lt a b)
  obtain ⟨K2, p2⟩ := trim_is (dig_Dg (exMag a b)) (Nat.lt_of_le_of_lt lE (by decide))
  obtain ⟨K3, p3⟩ := kind_is a ha
  obtain ⟨K4, p4⟩ := kind_is b hb
  have hr := round_is (exNeg a b) (lowN a b) (dig_Dg (exMag a b)) (Nat.lt_of_le_of_lt lE (by decide)) false (by omega) (by omega) (fun h => by cases h)
  rw [dig_val, nearest_eq, rung_twice] at hr
  obtain ⟨K5, p5⟩ := hr
  rw [dig_val] at p2
  refine ⟨max (max K1 K2) (max (max K3 K4) K5), fun k hk => sum_glue (z := sg a && sg b) (sg a) (sg b) (p1 k (by omega)) (p2 k (by omega)) (p3 k (by omega)) (p4 k (by omega)) (neg_is a ha) (neg_is b hb) ?_ ?_ ?_⟩
  · intro h
    have hT := (ex_zero a b fa fb).1 ((dig_len_zero _).1 h)
    cases hsa : sg a
    · rw [Bool.false_and]; split
      · split
        · rw [if_neg (by simp)]
        · rfl
      · rfl
    · cases hsb : sg b
      · rw [Bool.and_false]; split
        · split
          · rfl
          · rfl
        · rfl
      · obtain ⟨za, zb⟩ := both_neg hT hsa hsb
        rw [(zero_kind a).2 za, (zero_kind b).2 zb]; rfl
  · intro h
    have hT := (ex_zero a b fa fb).1 ((dig_len_zero _).1 h)
    unfold wordI
    rw [hT, if_pos rfl, word_eq, show Int.natAbs 0 = 0 from rfl, rung_zero, Nat.add_zero]
  · intro h
    have h0 : exMag a b ≠ 0 := fun e => h ((dig_len_zero _).2 e)
    have := p5 k (by omega)
    rw [ex_round a b fa fb h0 (sg a && sg b)] at this
    exact this

/-! ### Add -/
theorem add_nan {a b : Nat} (h : INF < rg a ∨ INF < rg b) : double.add a b = none := by
  unfold Ieee.Format.add
  rcases h with h | h
  · rw [read_nan h]; rfl
  · rw [read_nan h]; cases double.read a <;> rfl
theorem add_ii {a b : Nat} (ha : rg a = INF) (hb : rg b = INF) : double.add a b = if sg a = sg b then some (double.word (sg a) INF) else none := by
  unfold Ieee.Format.add
  rw [read_inf ha, read_inf hb]
  simp only [Datum.sum]
  by_cases c : sg a = sg b
  · rw [if_pos c, if_pos c, ← infRung_eq]; rfl
  · rw [if_neg c, if_neg c]; rfl
theorem add_if {a b : Nat} (ha : rg a = INF) (hb : rg b < INF) : double.add a b = some (double.word (sg a) INF) := by
  obtain ⟨m, p, e, _⟩ := read_fin hb
  unfold Ieee.Format.add
  rw [read_inf ha, e, ← infRung_eq]; rfl
theorem add_fi {a b : Nat} (ha : rg a < INF) (hb : rg b = INF) : double.add a b = some (double.word (sg b) INF) := by
  obtain ⟨m, p, e, _⟩ := read_fin ha
  unfold Ieee.Format.add
  rw [read_inf hb, e, ← infRung_eq]; rfl
theorem inf_word {a : Nat} (ha : a < W) (h : rg a = INF) : double.word (sg a) INF = a := by
  rw [word_eq, ← h]; exact (word_split a ha).symm
theorem add_flag (a b : Nat) (x y : Int) (f : Bool) (k : Nat) :
    (if ((kindN a : Nat) : Int) = 4 then (minstrelref02_Add.j0 k x y ((kindN a : Nat) : Int) ((kindN b : Nat) : Int) true) else (if ((kindN b : Nat) : Int) = 4 then (minstrelref02_Add.j0 k x y ((kindN a : Nat) : Int) ((kindN b : Nat) : Int) true) else (if ((kindN a : Nat) : Int) = 3 then (if ((kindN b : Nat) : Int) = 3 then (minstrelref02_Add.j0 k x y ((kindN a : Nat) : Int) ((kindN b : Nat) : Int) f) else (minstrelref02_Add.j0 k x y ((kindN a : Nat) : Int) ((kindN b : Nat) : Int) false)) else (minstrelref02_Add.j0 k x y ((kindN a : Nat) : Int) ((kindN b : Nat) : Int) false))))
    = minstrelref02_Add.j0 k x y ((kindN a : Nat) : Int) ((kindN b : Nat) : Int) (decide (kindN a = 4 ∨ kindN b = 4) || (decide (kindN a = 3 ∧ kindN b = 3) && f)) := by
  rcases kind_vals a with h | h | h | h | h <;> rcases kind_vals b with g | g | g | g | g <;> rw [h, g] <;> simp
theorem refAdd_j {a b : Nat} {k : Nat} {flag : Bool} {kA kB w : Int} (hf : flag = true → w = ((NANW : Nat) : Int)) (ha : flag = false → kA = 3 → w = (a : Int)) (hb : flag = false → ¬ kA = 3 → kB = 3 → w = (b : Int)) (hs : flag = false → ¬ kA = 3 → ¬ kB = 3 → minstrelref02_Sum.f k (a : Int) (b : Int) = some w) :
    minstrelref02_Add.j0 (k + 1) (a : Int) (b : Int) kA kB flag = some w := by
  rw [minstrelref02_Add.j0]
  cases flag
  · rw [if_neg (by simp)]
    by_cases c1 : kA = 3
    · rw [if_pos c1, ha rfl c1]
    · rw [if_neg c1]
      by_cases c2 : kB = 3
      · rw [if_pos c2, hb rfl c1 c2]
      · rw [if_neg c2, hs rfl c1 c2, Option.bind_some]
  · rw [if_pos rfl, nan_is, Option.bind_some, hf rfl]; rfl
theorem refAdd_is (a b : Nat) (ha : a < W) (hb : b < W) : Ev (fun k => minstrelref02_Add.f k (a : Int) (b : Int)) ((addW a b : Nat) : Int) := by
  obtain ⟨K1, p1⟩ := kind_is a ha
  obtain ⟨K2, p2⟩ := kind_is b hb
  have fin : Ev (fun k => minstrelref02_Add.j0 k (a : Int) (b : Int) ((kindN a : Nat) : Int) ((kindN b : Nat) : Int) (decide (kindN a = 4 ∨ kindN b = 4) || (decide (kindN a = 3 ∧ kindN b = 3) && ((a : Int) != (b : Int))))) ((addW a b : Nat) : Int) := by
    by_cases n4 : kindN a = 4 ∨ kindN b = 4
    · have hN : addW a b = NANW := by
        rw [nan_kind, nan_kind] at n4
        unfold addW; rw [add_nan n4]; rfl
      refine ⟨1, fun k hk => ?_⟩
      obtain ⟨m, rfl⟩ : ∃ m, k = m + 1 := ⟨k - 1, by omega⟩
      have hfl : (decide (kindN a = 4 ∨ kindN b = 4) || (decide (kindN a = 3 ∧ kindN b = 3) && ((a : Int) != (b : Int)))) = true := by rw [decide_eq_true n4, Bool.true_or]
      exact refAdd_j (fun _ => by rw [hN]) (fun h => by rw [hfl] at h; cases h) (fun h => by rw [hfl] at h; cases h) (fun h => by rw [hfl] at h; cases h)
    · by_cases i3 : kindN a = 3 ∧ kindN b = 3
      · have ia := (inf_kind a).1 i3.1
        have ib := (inf_kind b).1 i3.2
        refine ⟨1, fun k hk => ?_⟩
        obtain ⟨m, rfl⟩ : ∃ m, k = m + 1 := ⟨k - 1, by omega⟩
        by_cases s : sg a = sg b
        · have hab : a = b := word_ext ha hb s (ia.trans ib.symm)
          have hI : addW a b = a := by unfold addW; rw [add_ii ia ib, if_pos s]; exact inf_word ha ia
          have hfl : (decide (kindN a = 4 ∨ kindN b = 4) || (decide (kindN a = 3 ∧ kindN b = 3) && ((a : Int) != (b : Int)))) = false := by rw [decide_eq_false n4, hab]; simp
          exact refAdd_j (fun h => by rw [hfl] at h; cases h) (fun _ _ => by rw [hI]) (fun _ h => absurd (by rw [i3.1]; rfl) h) (fun _ h => absurd (by rw [i3.1]; rfl) h)
        · have hN : addW a b = NANW := by unfold addW; rw [add_ii ia ib, if_neg s]; rfl
          have hne : ¬ (a : Int) = (b : Int) := fun e => s (by rw [Int.ofNat.inj e])
          have hfl : (decide (kindN a = 4 ∨ kindN b = 4) || (decide (kindN a = 3 ∧ kindN b = 3) && ((a : Int) != (b : Int)))) = true := by rw [decide_eq_false n4, decide_eq_true i3, bne_iff_ne.2 hne]; rfl
          exact refAdd_j (fun _ => by rw [hN]) (fun h => by rw [hfl] at h; cases h) (fun h => by rw [hfl] at h; cases h) (fun h => by rw [hfl] at h; cases h)
      · have hfl : (decide (kindN a = 4 ∨ kindN b = 4) || (decide (kindN a = 3 ∧ kindN b = 3) && ((a : Int) != (b : Int)))) = false := by rw [decide_eq_false n4, decide_eq_false i3]; rfl
        rw [hfl]
        by_cases ka : kindN a = 3
        · have ia := (inf_kind a).1 ka
          have fb : rg b < INF := (fin_kind b).1 (by have := kind_vals b; omega)
          have hI : addW a b = a := by unfold addW; rw [add_if ia fb]; exact inf_word ha ia
          refine ⟨1, fun k hk => ?_⟩
          obtain ⟨m, rfl⟩ : ∃ m, k = m + 1 := ⟨k - 1, by omega⟩
          exact refAdd_j (fun h => by cases h) (fun _ _ => by rw [hI]) (fun _ h => absurd (by rw [ka]; rfl) h) (fun _ h => absurd (by rw [ka]; rfl) h)
        · have fa : rg a < INF := (fin_kind a).1 (by have := kind_vals a; omega)
          have ka' : ¬ ((kindN a : Nat) : Int) = 3 := by omega
          by_cases kb : kindN b = 3
          · have ib := (inf_kind b).1 kb
            have hI : addW a b = b := by unfold addW; rw [add_fi fa ib]; exact inf_word hb ib
            refine ⟨1, fun k hk => ?_⟩
            obtain ⟨m, rfl⟩ : ∃ m, k = m + 1 := ⟨k - 1, by omega⟩
            exact refAdd_j (fun h => by cases h) (fun _ h => absurd h ka') (fun _ _ _ => by rw [hI]) (fun _ _ h => absurd (by rw [kb]; rfl) h)
          · have fb : rg b < INF := (fin_kind b).1 (by have := kind_vals b; omega)
            have kb' : ¬ ((kindN b : Nat) : Int) = 3 := by omega
            have hF : addW a b = wordI (sg a && sg b) (Vi a + Vi b) := by unfold addW; rw [add_fin fa fb]; rfl
            obtain ⟨K, hs⟩ := refSum_is a b ha hb fa fb
            refine ⟨K + 1, fun k hk => ?_⟩
            obtain ⟨m, rfl⟩ : ∃ m, k = m + 1 := ⟨k - 1, by omega⟩
            exact refAdd_j (fun h => by cases h) (fun _ h => absurd h ka') (fun _ _ h => absurd h kb') (fun _ _ _ => by rw [hF]; exact hs m (by omega))
  obtain ⟨K3, p3⟩ := fin
  refine ⟨max (max K1 K2) K3, fun k hk => ?_⟩
  have h1 : minstrelref01_Kind.f k (a : Int) = some ((kindN a : Nat) : Int) := p1 k (by omega)
  have h2 : minstrelref01_Kind.f k (b : Int) = some ((kindN b : Nat) : Int) := p2 k (by omega)
  show minstrelref02_Add.f k (a : Int) (b : Int) = _
  unfold minstrelref02_Add.f
  rw [h1, Option.bind_some, h2, Option.bind_some, add_flag]
  exact p3 k (by omega)
end Go.Proofs.Ytknpffoglcogeaa.Dig
