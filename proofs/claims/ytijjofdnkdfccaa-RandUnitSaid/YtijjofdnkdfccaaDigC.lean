/- What the document's digit functions (minstrelref01) compute, third part: shifts down, quotients, small numbers, a number's digits. Conditions: the lists are digits, and not too long. -/
import Derived.Test.YtijjofdnkdfccaaDigB
namespace Go.Proofs.Ytijjofdnkdfccaa.Dig
open Go.RowKit Go.Proofs.Ytijjofdnkdfccaa.Ref Go.Proofs.YtijjofdnkdfccaaW.PrintWords Go.Proofs.YtijjofdnkdfccaaW.PrintLast Go.Proofs.YtijjofdnkdfccaaW.PrintMore
open Go.Proofs.Ytijjofdnkdfccaa.Num Go.Proofs.Ytijjofdnkdfccaa.DigLaw

theorem or_add (x y m : Nat) (hx : x < 2 ^ m) (h1 : x < 18446744073709551616) (h2 : y * 2 ^ m < 18446744073709551616) : Go.bits .or .u64 (x : Int) ((y * 2 ^ m : Nat) : Int) = ((x + y * 2 ^ m : Nat) : Int) := by
  rw [or_nat _ _ h1 h2, Nat.or_comm, Nat.mul_comm y, ← Nat.two_pow_add_eq_or_of_lt hx, Nat.add_comm]
theorem mod_succ_two (v i : Nat) : v % 2 ^ (i + 1) = v % 2 ^ i + 2 ^ i * (v / 2 ^ i % 2) := by rw [Nat.pow_succ, Nat.mod_mul]

/-! ### Down -/
theorem down_digit {a : List Int} (ha : Dg a) (lost : Bool) (out : List Int) (lo : out.length < 1000000) (i : Nat) (hi : i < 50000000) (res : List Int × Bool)
    (hr : Ev (fun k => minstrelref01_Down.l1 k a lost (out ++ [((val a / 2 ^ i % B : Nat) : Int)]) ((i + 16 : Nat) : Int)) res) (d : Nat) : ∀ (m : Nat), 16 - m = d → m ≤ 16 →
    Ev (fun k => minstrelref01_Down.l2 k a lost out (i : Int) ((val a / 2 ^ i % 2 ^ m : Nat) : Int) (m : Int)) res := by
  induction d with
  | zero =>
    intro m hd hm
    obtain rfl : m = 16 := by omega
    refine Ev.step (f := fun k => minstrelref01_Down.l1 k a lost (out ++ [((val a / 2 ^ i % B : Nat) : Int)]) ((i + 16 : Nat) : Int)) (fun k => ?_) hr
    rw [minstrelref01_Down.l2, if_neg (by omega), if_pos (by omega), i64in (by omega) (by omega)]; rfl
  | succ d ih =>
    intro m hd hm
    have e : wrap64 ((i : Int) + (m : Int)) = ((i + m : Nat) : Int) := by rw [i64in (by omega) (by omega)]; omega
    have e2 : IntKind.u64.wrap (m : Int) = (m : Int) := u64in (by omega) (by omega)
    have hb : val a / 2 ^ (i + m) % 2 < 2 := Nat.mod_lt _ (by decide)
    have hp : 2 ^ m ≤ 32768 := Nat.le_trans (Nat.pow_le_pow_right (by decide) (by omega : m ≤ 15)) (by decide)
    have hx : val a / 2 ^ i % 2 ^ m < 2 ^ m := Nat.mod_lt _ (Nat.two_pow_pos _)
    have hs : (val a / 2 ^ (i + m) % 2) * 2 ^ m ≤ 1 * 32768 := Nat.mul_le_mul (by omega) hp
    have hv : val a / 2 ^ i % 2 ^ m + (val a / 2 ^ (i + m) % 2) * 2 ^ m = val a / 2 ^ i % 2 ^ (m + 1) := by
      rw [mod_succ_two, Nat.div_div_eq_div_mul, ← Nat.pow_add, Nat.mul_comm]
    refine Ev.step (f := fun k => minstrelref01_Down.l2 k a lost out (i : Int) ((val a / 2 ^ i % 2 ^ (m + 1) : Nat) : Int) ((m + 1 : Nat) : Int)) (fun k => ?_) (ih (m + 1) (by omega) (by omega))
    rw [minstrelref01_Down.l2, if_pos (by omega), e, bit_is ha _ (by omega)]; simp only [Option.bind_some]
    rw [e2, if_pos (by omega), shl_nat _ _ (by omega) (by omega), or_add _ _ _ hx (by omega) (by omega), hv, i64in (by omega) (by omega)]; rfl
theorem down_out {a : List Int} (ha : Dg a) (la : a.length < 900000) (lost : Bool) (n : Nat) (hn : n < 1000000) (d : Nat) : ∀ (out : List Int), 16 * a.length ≤ n + 16 * out.length + 16 * d → n + 16 * out.length < 16 * a.length + n + 17 → Dg out → val out = val a / 2 ^ n % 2 ^ (16 * out.length) →
    Ev (fun k => minstrelref01_Down.l1 k a lost out ((n + 16 * out.length : Nat) : Int)) (dig (val a / 2 ^ n), lost) := by
  have fin : ∀ (out : List Int), ¬ n + 16 * out.length < 16 * a.length → n + 16 * out.length < 16 * a.length + n + 17 → Dg out → val out = val a / 2 ^ n % 2 ^ (16 * out.length) →
    Ev (fun k => minstrelref01_Down.l1 k a lost out ((n + 16 * out.length : Nat) : Int)) (dig (val a / 2 ^ n), lost) := by
    intro out hge hlt ho hv
    have hval : val out = val a / 2 ^ n := by
      rw [hv]; apply Nat.mod_eq_of_lt
      rw [Nat.div_lt_iff_lt_mul (Nat.two_pow_pos _), ← Nat.pow_add]
      exact Nat.lt_of_lt_of_le (val_lt_two ha) (Nat.pow_le_pow_right (by decide) (by omega))
    have ht := trim_is ho (by omega)
    rw [hval] at ht
    refine Ev.step (f := fun k => (minstrelref01_Trim.f k out).bind fun t => some (t, lost)) (fun k => ?_) (Ev.bind ht (Ev.now _))
    rw [minstrelref01_Down.l1, if_neg (by rw [i64in (by omega) (by omega)]; omega)]
  induction d with
  | zero =>
    intro out hd hlt ho hv
    exact fin out (by omega) hlt ho hv
  | succ d ih =>
    intro out hd hlt ho hv
    by_cases c : n + 16 * out.length < 16 * a.length
    · have hm : val a / 2 ^ (n + 16 * out.length) % B < B := Nat.mod_lt _ B_pos
      have hl : (out ++ [((val a / 2 ^ (n + 16 * out.length) % B : Nat) : Int)]).length = out.length + 1 := by simp
      have hrec := ih (out ++ [((val a / 2 ^ (n + 16 * out.length) % B : Nat) : Int)]) (by rw [hl]; omega) (by rw [hl]; omega) (Dg_append.2 ⟨ho, Dg_one (by omega) (by unfold B at hm ⊢; omega)⟩) (by
        rw [hl, val_append, val_one, Int.toNat_natCast, hv, Bp_two, show 16 * (out.length + 1) = 16 * out.length + 16 by omega, Nat.pow_add 2 (16 * out.length) 16, Nat.mod_mul, Nat.div_div_eq_div_mul, ← Nat.pow_add, B_eq])
      rw [hl, show n + 16 * (out.length + 1) = (n + 16 * out.length) + 16 by omega] at hrec
      have hin := down_digit ha lost out (by omega) (n + 16 * out.length) (by omega) _ hrec 16 0 (by omega) (by omega)
      refine Ev.step (f := fun k => minstrelref01_Down.l2 k a lost out ((n + 16 * out.length : Nat) : Int) 0 0) (fun k => ?_) ?_
      · rw [minstrelref01_Down.l1, if_pos (by rw [i64in (by omega) (by omega)]; omega)]
      · rw [Nat.pow_zero, Nat.mod_one] at hin; exact hin
    · exact fin out c hlt ho hv
theorem down_lost {a : List Int} (ha : Dg a) (la : a.length < 900000) (n : Nat) (hn : n < 1000000) (d : Nat) : ∀ (i : Nat), n - i = d → i ≤ n →
    Ev (fun k => minstrelref01_Down.l0 k a (n : Int) (decide (val a % 2 ^ i ≠ 0)) (i : Int)) (dig (val a / 2 ^ n), decide (val a % 2 ^ n ≠ 0)) := by
  have out := fun lost => down_out ha la lost n hn a.length [] (by simp only [List.length_nil]; omega) (by simp only [List.length_nil]; omega) Dg_nil (by simp [val, Nat.mod_one])
  have fin : ∀ (lost : Bool), lost = decide (val a % 2 ^ n ≠ 0) → Ev (fun k => minstrelref01_Down.j1 k a (n : Int) lost) (dig (val a / 2 ^ n), decide (val a % 2 ^ n ≠ 0)) := by
    intro lost hl
    rw [← hl]
    exact Ev.step (f := fun k => minstrelref01_Down.l1 k a lost [] (n : Int)) (fun k => rfl) (out lost)
  induction d with
  | zero =>
    intro i hd hi
    obtain rfl : i = n := by omega
    refine Ev.step (f := fun k => minstrelref01_Down.j1 k a (i : Int) (decide (val a % 2 ^ i ≠ 0))) (fun k => ?_) (fin _ rfl)
    rw [minstrelref01_Down.l0, if_neg (by omega)]
  | succ d ih =>
    intro i hd hi
    have ew : wrap64 (16 * (a.length : Int)) = ((16 * a.length : Nat) : Int) := by rw [i64in (by omega) (by omega)]; omega
    have ei : wrap64 ((i : Int) + 1) = ((i + 1 : Nat) : Int) := by rw [i64in (by omega) (by omega)]; rfl
    by_cases c : i < 16 * a.length
    · have hrec := ih (i + 1) (by omega) (by omega)
      have hb : val a / 2 ^ i % 2 < 2 := Nat.mod_lt _ (by decide)
      have hms := mod_succ_two (val a) i
      by_cases z : val a % 2 ^ i = 0
      · refine Ev.step (f := fun k => minstrelref01_Down.l0 k a (n : Int) (decide (val a % 2 ^ (i + 1) ≠ 0)) ((i + 1 : Nat) : Int)) (fun k => ?_) hrec
        have hf : decide (val a % 2 ^ i ≠ 0) = false := by rw [decide_eq_false_iff_not]; simp [z]
        rw [minstrelref01_Down.l0, if_pos (by omega), ew, if_pos (by omega), hf, if_neg (by simp), bit_is ha i (by omega)]
        simp only [Option.bind_some]
        rw [ei]
        have hbit : (((val a / 2 ^ i % 2 : Nat) : Int) == 1) = decide (val a % 2 ^ (i + 1) ≠ 0) := by
          rw [hms, z, Nat.zero_add]
          have hp := Nat.two_pow_pos i
          by_cases b1 : val a / 2 ^ i % 2 = 1
          · rw [b1]
            have : decide (2 ^ i * 1 ≠ 0) = true := by rw [decide_eq_true_iff]; omega
            rw [this]; rfl
          · have b0 : val a / 2 ^ i % 2 = 0 := by omega
            rw [b0]; rfl
        rw [hbit]
      · refine Ev.step (f := fun k => minstrelref01_Down.l0 k a (n : Int) (decide (val a % 2 ^ (i + 1) ≠ 0)) ((i + 1 : Nat) : Int)) (fun k => ?_) hrec
        have hf : decide (val a % 2 ^ i ≠ 0) = true := by rw [decide_eq_true_iff]; exact z
        have hf2 : decide (val a % 2 ^ (i + 1) ≠ 0) = true := by rw [decide_eq_true_iff, hms]; omega
        rw [minstrelref01_Down.l0, if_pos (by omega), ew, if_pos (by omega), hf, if_pos rfl, ei, hf2]
    · refine Ev.step (f := fun k => minstrelref01_Down.j1 k a (n : Int) (decide (val a % 2 ^ i ≠ 0))) (fun k => ?_) (fin _ ?_)
      · rw [minstrelref01_Down.l0, if_pos (by omega), ew, if_neg (by omega)]
      · have h1 : ∀ j, 16 * a.length ≤ j → val a % 2 ^ j = val a := fun j hj => Nat.mod_eq_of_lt (Nat.lt_of_lt_of_le (val_lt_two ha) (Nat.pow_le_pow_right (by decide) hj))
        rw [h1 i (by omega), h1 n (by omega)]
theorem down_is {a : List Int} (ha : Dg a) (la : a.length < 900000) (n : Nat) (hn : n < 1000000) : Ev (fun k => minstrelref01_Down.f k a (n : Int)) (dig (val a / 2 ^ n), decide (val a % 2 ^ n ≠ 0)) := by
  have := down_lost ha la n hn n 0 (by omega) (by omega)
  have hf : decide (val a % 2 ^ 0 ≠ 0) = false := by rw [decide_eq_false_iff_not]; simp [Nat.mod_one]
  rw [hf] at this; exact this

/-! ### Small, Digits -/
theorem small_is {a : List Int} (ha : Dg a) (h : val a < 18446744073709551616) : minstrelref01_Small.f a = some ((val a : Nat) : Int) := by
  have h4 : vt a 4 = val a := by rw [vt_mod ha]; exact Nat.mod_eq_of_lt (Nat.lt_of_lt_of_le h (by decide))
  have r0 := dg_lt ha 0
  have r1 := dg_lt ha 1
  have r2 := dg_lt ha 2
  have r3 := dg_lt ha 3
  simp only [vt, Nat.pow_zero, Nat.one_mul, Nat.zero_add] at h4
  unfold B at r0 r1 r2 r3
  have e1 : B ^ 1 = 65536 := by decide
  have e2 : B ^ 2 = 4294967296 := by decide
  have e3 : B ^ 3 = 281474976710656 := by decide
  rw [e1, e2, e3] at h4
  have a0 := at_is ha 0
  have a1 := at_is ha 1
  have a2 := at_is ha 2
  have a3 := at_is ha 3
  simp only [Int.natCast_zero] at a0
  rw [show ((1 : Nat) : Int) = 1 from rfl] at a1
  rw [show ((2 : Nat) : Int) = 2 from rfl] at a2
  rw [show ((3 : Nat) : Int) = 3 from rfl] at a3
  unfold minstrelref01_Small.f
  rw [a0, a1, a2, a3]; simp only [Option.bind_some]
  have w1 : IntKind.u64.wrap (((dg a 1 : Nat) : Int) * 65536) = ((dg a 1 * 2 ^ 16 : Nat) : Int) := by rw [u64in (by omega) (by omega)]; omega
  have w2 : IntKind.u64.wrap (((dg a 2 : Nat) : Int) * 4294967296) = ((dg a 2 * 2 ^ 32 : Nat) : Int) := by rw [u64in (by omega) (by omega)]; omega
  have w3 : IntKind.u64.wrap (((dg a 3 : Nat) : Int) * 281474976710656) = ((dg a 3 * 2 ^ 48 : Nat) : Int) := by rw [u64in (by omega) (by omega)]; omega
  rw [w1, w2, w3, or_add _ _ _ (by omega) (by omega) (by omega), or_add _ _ _ (by omega) (by omega) (by omega), or_add _ _ _ (by omega) (by omega) (by omega)]
  congr 2; omega
theorem digits_is (n : Nat) (h : n < 18446744073709551616) : ∃ l, minstrelref01_Digits.f (n : Int) = some l ∧ Dg l ∧ val l = n ∧ l.length = 4 := by
  unfold minstrelref01_Digits.f
  have e1 : (n : Int) / 65536 = ((n / 65536 : Nat) : Int) := by omega
  have e2 : (n : Int) / 4294967296 = ((n / 4294967296 : Nat) : Int) := by omega
  have e3 : (n : Int) / 281474976710656 = ((n / 281474976710656 : Nat) : Int) := by omega
  rw [e1, e2, e3, mask16 _ h, mask16 _ (by omega), mask16 _ (by omega)]
  refine ⟨_, rfl, ?_, ?_, rfl⟩
  · unfold B
    exact Dg_cons.2 ⟨⟨by omega, by omega⟩, Dg_cons.2 ⟨⟨by omega, by omega⟩, Dg_cons.2 ⟨⟨by omega, by omega⟩, Dg_one (by omega) (by omega)⟩⟩⟩
  · simp only [val, Int.toNat_natCast]; unfold B; omega
end Go.Proofs.Ytijjofdnkdfccaa.Dig
