/- What the document's digit functions (minstrelref01) compute: on lists of digits below 65536 they answer with the digits of the sum, difference, product, quotient, .. of the numbers. Conditions: the lists are digits, and shorter than a million. -/
import Derived.Test.YtknpffoglcogeaaRefx
import Derived.Test.YtknpffoglcogeaaDigLaw
namespace Go.Proofs.Ytknpffoglcogeaa.Dig
open Go.RowKit Go.Proofs.Ytknpffoglcogeaa.Ref Go.Proofs.YtknpffoglcogeaaW.PrintWords Go.Proofs.YtknpffoglcogeaaW.PrintLast Go.Proofs.YtknpffoglcogeaaW.PrintMore
open Go.Proofs.Ytknpffoglcogeaa.Num Go.Proofs.Ytknpffoglcogeaa.DigLaw

theorem rd_nat (l : List Int) (i : Nat) : rd l (i : Int) = l.getD i 0 := by unfold rd; rw [Int.toNat_natCast]
theorem rd_dg {l : List Int} (h : Dg l) (i : Nat) : rd l (i : Int) = ((dg l i : Nat) : Int) := by rw [rd_nat, dg_int h]

theorem at_is {l : List Int} (h : Dg l) (i : Nat) : minstrelref01_at.f l (i : Int) = some ((dg l i : Nat) : Int) := by
  unfold minstrelref01_at.f
  by_cases c : (i : Int) < (l.length : Int)
  · rw [if_pos c, if_pos (by omega), rd_dg h]
  · rw [if_neg c, dg_out (by omega)]; rfl

/-! ### Trim -/
theorem take_of_zeros {l : List Int} : ∀ (i : Nat), i ≤ l.length → (∀ j, i ≤ j → dg l j = 0) → val (l.take i) = val l := by
  intro i hi hz
  rw [val_take_drop l i hi]
  have : val (l.drop i) = 0 := by
    have key : ∀ n, vt (l.drop i) n = 0 := by
      intro n
      induction n with
      | zero => rfl
      | succ n ih =>
        have e : dg (l.drop i) n = dg l (i + n) := by unfold dg; rw [List.getD_eq_getElem?_getD, List.getD_eq_getElem?_getD, List.getElem?_drop]
        rw [vt, ih, e, hz (i + n) (by omega)]; simp
    rw [← vt_val _ _ (Nat.le_refl _)]; exact key _
  rw [this]; simp
theorem trim_loop {l : List Int} (h : Dg l) (hl : l.length < 1000000) : ∀ (i : Nat), i ≤ l.length → (∀ j, i ≤ j → dg l j = 0) → Ev (fun k => minstrelref01_Trim.l0 k l (i : Int)) (dig (val l)) := by
  have stop : ∀ (i : Nat), i ≤ l.length → (∀ j, i ≤ j → dg l j = 0) → (i = 0 ∨ dg l (i - 1) ≠ 0) → l.take i = dig (val l) := by
    intro i hi hz hc
    rw [← take_of_zeros i hi hz]
    apply dig_of (Dg_take h i)
    rcases hc with rfl | hc
    · left; rfl
    · by_cases i0 : i = 0
      · subst i0; left; rfl
      · right
        rw [List.length_take, Nat.min_eq_left hi]
        unfold dg at hc ⊢
        rw [List.getD_eq_getElem?_getD, List.getElem?_take_of_lt (by omega)]
        rw [List.getD_eq_getElem?_getD] at hc; exact hc
  have fin : ∀ (i : Nat), i ≤ l.length → ((some (([] : List Int) : List Int)).bind fun y106 => (if 0 ≤ (i : Int) then (if (i : Int) ≤ (l.length : Int) then (if y106.length + (l.take ((i : Int) : Int).toNat).length < 17592186044416 then (some (y106 ++ (l.take ((i : Int) : Int).toNat))) else (none)) else (none)) else (none))) = some (l.take i) := by
    intro i hi
    simp only [Option.bind_some, Int.toNat_natCast, List.length_nil, List.nil_append]
    rw [if_pos (by omega), if_pos (by omega), if_pos (by rw [List.length_take]; omega)]
  intro i
  induction i with
  | zero =>
    intro hi hz
    refine Ev.step (f := fun _ => some (dig (val l))) (fun k => ?_) (Ev.now _)
    rw [minstrelref01_Trim.l0, if_neg (by omega), ← stop 0 hi hz (.inl rfl)]
    exact fin 0 hi
  | succ i ih =>
    intro hi hz
    have e : wrap64 (((i + 1 : Nat) : Int) - 1) = (i : Int) := by rw [i64in (by omega) (by omega)]; omega
    by_cases c : dg l i = 0
    · refine Ev.step (f := fun k => minstrelref01_Trim.l0 k l (i : Int)) (fun k => ?_) (ih (by omega) (fun j hj => by
        by_cases e : j = i
        · rw [e]; exact c
        · exact hz j (by omega)))
      rw [minstrelref01_Trim.l0, if_pos (by omega), e, if_pos (by omega), if_pos (by omega), if_pos (by rw [rd_dg h, c]; rfl)]
    · refine Ev.step (f := fun _ => some (dig (val l))) (fun k => ?_) (Ev.now _)
      rw [minstrelref01_Trim.l0, if_pos (by omega), e, if_pos (by omega), if_pos (by omega), if_neg (by rw [rd_dg h]; omega), ← stop (i + 1) hi hz (.inr (by simpa using c))]
      exact fin (i + 1) hi
theorem trim_is {l : List Int} (h : Dg l) (hl : l.length < 1000000) : Ev (fun k => minstrelref01_Trim.f k l) (dig (val l)) :=
  trim_loop h hl l.length (Nat.le_refl _) (fun _ hj => dg_out hj)

/-! ### most, Cmp -/
theorem most_is (a b : List Int) : minstrelref01_most.f a b = some ((max a.length b.length : Nat) : Int) := by
  unfold minstrelref01_most.f
  by_cases c : (a.length : Int) > (b.length : Int)
  · rw [if_pos c, Nat.max_eq_left (by omega)]
  · rw [if_neg c, Nat.max_eq_right (by omega)]
def cmpN (x y : Nat) : Int := if x < y then -1 else if y < x then 1 else 0
theorem cmp_loop {a b : List Int} (ha : Dg a) (hb : Dg b) : ∀ (i : Nat), i < 1000000 → Ev (fun k => minstrelref01_Cmp.l0 k a b ((i : Int) - 1)) (cmpN (vt a i) (vt b i)) := by
  intro i
  induction i with
  | zero =>
    intro _
    refine Ev.step (f := fun _ => some (cmpN (vt a 0) (vt b 0))) (fun k => ?_) (Ev.now _)
    rw [minstrelref01_Cmp.l0, if_neg (by omega)]; rfl
  | succ i ih =>
    intro hi
    have e : (((i + 1 : Nat) : Int) - 1) = (i : Int) := by omega
    have la := vt_lt ha i
    have lb := vt_lt hb i
    have hp := Bp_pos i
    rw [e]
    rcases Nat.lt_trichotomy (dg a i) (dg b i) with c | c | c
    · refine Ev.step (f := fun _ => some (cmpN (vt a (i + 1)) (vt b (i + 1)))) (fun k => ?_) (Ev.now _)
      rw [minstrelref01_Cmp.l0, if_pos (by omega), at_is ha, at_is hb]
      simp only [Option.bind_some]
      rw [if_pos (by omega)]
      have : vt a (i + 1) < vt b (i + 1) := by
        rw [vt, vt]
        have := Nat.mul_le_mul_left (B ^ i) c
        rw [Nat.mul_succ] at this; omega
      rw [cmpN, if_pos this]
    · refine Ev.step (f := fun k => minstrelref01_Cmp.l0 k a b ((i : Int) - 1)) (fun k => ?_) ?_
      · rw [minstrelref01_Cmp.l0, if_pos (by omega), at_is ha, at_is hb]
        simp only [Option.bind_some]
        rw [if_neg (by omega), if_neg (by omega), i64in (by omega) (by omega)]
      · have e2 : cmpN (vt a (i + 1)) (vt b (i + 1)) = cmpN (vt a i) (vt b i) := by
          rw [vt, vt, c]; unfold cmpN
          by_cases c1 : vt a i < vt b i
          · rw [if_pos c1, if_pos (by omega)]
          · rw [if_neg c1, if_neg (by omega)]
            by_cases c2 : vt b i < vt a i
            · rw [if_pos c2, if_pos (by omega)]
            · rw [if_neg c2, if_neg (by omega)]
        rw [e2]; exact ih (by omega)
    · refine Ev.step (f := fun _ => some (cmpN (vt a (i + 1)) (vt b (i + 1)))) (fun k => ?_) (Ev.now _)
      rw [minstrelref01_Cmp.l0, if_pos (by omega), at_is ha, at_is hb]
      simp only [Option.bind_some]
      rw [if_neg (by omega), if_pos (by omega)]
      have : vt b (i + 1) < vt a (i + 1) := by
        rw [vt, vt]
        have := Nat.mul_le_mul_left (B ^ i) c
        rw [Nat.mul_succ] at this; omega
      rw [cmpN, if_neg (by omega), if_pos this]
theorem cmp_is {a b : List Int} (ha : Dg a) (hb : Dg b) (la : a.length < 1000000) (lb : b.length < 1000000) : Ev (fun k => minstrelref01_Cmp.f k a b) (cmpN (val a) (val b)) := by
  refine Ev.congr (f := fun k => minstrelref01_Cmp.l0 k a b (((max a.length b.length : Nat) : Int) - 1)) (fun k => ?_) ?_
  · unfold minstrelref01_Cmp.f
    rw [most_is]; simp only [Option.bind_some]
    rw [i64in (by omega) (by omega)]
  · have := cmp_loop ha hb (max a.length b.length) (by omega)
    rw [vt_val a _ (by omega), vt_val b _ (by omega)] at this
    exact this

/-! ### Sum, Minus -/
theorem sum_loop {a b : List Int} (ha : Dg a) (hb : Dg b) (la : a.length < 900000) (lb : b.length < 900000) (d : Nat) : ∀ (i c : Nat) (out : List Int), max a.length b.length - i = d → i ≤ max a.length b.length → Dg out → out.length = i → c ≤ 1 → val out + B ^ i * c = vt a i + vt b i →
    Ev (fun k => minstrelref01_Sum.l0 k a b out (c : Int) (i : Int)) (dig (val a + val b)) := by
  induction d with
  | zero =>
    intro i c out hd hi ho hlen hc hv
    have hi' : i = max a.length b.length := by omega
    rw [vt_val a i (by omega), vt_val b i (by omega)] at hv
    have hDg : Dg (out ++ [(c : Int)]) := Dg_append.2 ⟨ho, Dg_one (by omega) (by omega)⟩
    have hval : val (out ++ [(c : Int)]) = val a + val b := by rw [val_append, val_one, hlen, Int.toNat_natCast]; exact hv
    have ht := trim_is hDg (by simp; omega)
    rw [hval] at ht
    refine Ev.step (f := fun k => (minstrelref01_Trim.f k (out ++ [(c : Int)])).bind fun t => some t) (fun k => ?_) (Ev.bind ht (Ev.now _))
    rw [minstrelref01_Sum.l0, most_is]; simp only [Option.bind_some]
    rw [if_neg (by omega), if_pos (by omega)]
  | succ d ih =>
    intro i c out hd hi ho hlen hc hv
    have ra := dg_lt ha i
    have rb := dg_lt hb i
    have hx : IntKind.u64.wrap (IntKind.u64.wrap (((dg a i : Nat) : Int) + ((dg b i : Nat) : Int)) + (c : Int)) = ((dg a i + dg b i + c : Nat) : Int) := by
      unfold B at ra rb
      rw [u64in (n := ((dg a i : Nat) : Int) + ((dg b i : Nat) : Int)) (by omega) (by omega), u64in (by omega) (by omega)]; omega
    have hm : Go.bits .and .u64 ((dg a i + dg b i + c : Nat) : Int) 65535 = (((dg a i + dg b i + c) % B : Nat) : Int) := by
      have := mask_nat (dg a i + dg b i + c) 16 (by unfold B at ra rb; omega) (by decide)
      rw [show ((2 ^ 16 - 1 : Nat) : Int) = 65535 from by decide] at this
      rw [this]; rfl
    have hq : ((dg a i + dg b i + c : Nat) : Int) / 65536 = (((dg a i + dg b i + c) / B : Nat) : Int) := by unfold B; omega
    have hmod : (dg a i + dg b i + c) % B < B := Nat.mod_lt _ B_pos
    refine Ev.step (f := fun k => minstrelref01_Sum.l0 k a b (out ++ [(((dg a i + dg b i + c) % B : Nat) : Int)]) (((dg a i + dg b i + c) / B : Nat) : Int) ((i + 1 : Nat) : Int)) (fun k => ?_)
      (ih (i + 1) _ _ (by omega) (by omega) (Dg_append.2 ⟨ho, Dg_one (by omega) (by unfold B at hmod ⊢; omega)⟩) (by simp [hlen]) (by unfold B at ra rb ⊢; omega) ?_)
    · rw [minstrelref01_Sum.l0, most_is]; simp only [Option.bind_some]
      rw [if_pos (by omega), at_is ha, at_is hb]; simp only [Option.bind_some]
      rw [if_pos (by omega), hx, hm, hq, i64in (by omega) (by omega)]; rfl
    · rw [val_append, val_one, hlen, Int.toNat_natCast, vt, vt, Bp_succ]
      have h1 := Nat.mod_add_div (dg a i + dg b i + c) B
      have h2 := congrArg (B ^ i * ·) h1
      simp only [Nat.mul_add] at h2
      rw [Nat.mul_comm B (B ^ i), Nat.mul_assoc]; omega
theorem sum_is {a b : List Int} (ha : Dg a) (hb : Dg b) (la : a.length < 900000) (lb : b.length < 900000) : Ev (fun k => minstrelref01_Sum.f k a b) (dig (val a + val b)) :=
  sum_loop ha hb la lb _ 0 0 [] rfl (Nat.zero_le _) Dg_nil rfl (by omega) (by simp [val, vt])
theorem minus_loop {a b : List Int} (ha : Dg a) (hb : Dg b) (la : a.length < 900000) (hle : val b ≤ val a) (d : Nat) : ∀ (i c : Nat) (out : List Int), a.length - i = d → i ≤ a.length → Dg out → out.length = i → c ≤ 1 → vt a i + B ^ i * c = val out + vt b i →
    Ev (fun k => minstrelref01_Minus.l0 k a b out (c : Int) (i : Int)) (dig (val a - val b)) := by
  induction d with
  | zero =>
    intro i c out hd hi ho hlen hc hv
    have hi' : i = a.length := by omega
    rw [vt_val a i (by omega), vt_mod hb] at hv
    have hb2 : val b % B ^ i = val b := Nat.mod_eq_of_lt (Nat.lt_of_le_of_lt hle (by rw [hi']; exact val_lt ha))
    rw [hb2] at hv
    have ho2 : val out < B ^ i := by rw [← hlen]; exact val_lt ho
    have hc0 : c = 0 := by
      rcases Nat.eq_zero_or_pos c with h | h
      · exact h
      · have : c = 1 := by omega
        subst this; omega
    subst hc0
    have hval : val out = val a - val b := by simp at hv; omega
    have ht := trim_is ho (by omega)
    rw [hval] at ht
    refine Ev.step (f := fun k => (minstrelref01_Trim.f k out).bind fun t => some t) (fun k => ?_) (Ev.bind ht (Ev.now _))
    rw [minstrelref01_Minus.l0, if_neg (by omega)]
  | succ d ih =>
    intro i c out hd hi ho hlen hc hv
    have ra := dg_lt ha i
    have rb := dg_lt hb i
    unfold B at ra rb
    have hw : IntKind.u64.wrap (((dg b i : Nat) : Int) + (c : Int)) = ((dg b i + c : Nat) : Int) := by rw [u64in (by omega) (by omega)]; omega
    by_cases cc : dg a i < dg b i + c
    · refine Ev.step (f := fun k => minstrelref01_Minus.l0 k a b (out ++ [((dg a i + 65536 - (dg b i + c) : Nat) : Int)]) ((1 : Nat) : Int) ((i + 1 : Nat) : Int)) (fun k => ?_)
        (ih (i + 1) _ _ (by omega) (by omega) (Dg_append.2 ⟨ho, Dg_one (by omega) (by omega)⟩) (by simp [hlen]) (by omega) ?_)
      · rw [minstrelref01_Minus.l0, if_pos (by omega), if_pos (by omega), at_is hb]; simp only [Option.bind_some]
        rw [rd_dg ha, hw, if_pos (by omega), if_pos (by omega), i64in (by omega) (by omega)]
        rw [u64in (n := ((dg a i : Nat) : Int) + 65536) (by omega) (by omega), u64in (by omega) (by omega)]
        rw [show ((dg a i : Nat) : Int) + 65536 - ((dg b i + c : Nat) : Int) = ((dg a i + 65536 - (dg b i + c) : Nat) : Int) from by omega]; rfl
      · rw [val_append, val_one, hlen, Int.toNat_natCast, vt, vt, Bp_succ]
        have h1 : dg a i + B = (dg a i + 65536 - (dg b i + c)) + (dg b i + c) := by unfold B; omega
        have h2 := congrArg (B ^ i * ·) h1
        simp only [Nat.mul_add] at h2
        rw [Nat.mul_one, Nat.mul_comm B (B ^ i)]; omega
    · refine Ev.step (f := fun k => minstrelref01_Minus.l0 k a b (out ++ [((dg a i - (dg b i + c) : Nat) : Int)]) ((0 : Nat) : Int) ((i + 1 : Nat) : Int)) (fun k => ?_)
        (ih (i + 1) _ _ (by omega) (by omega) (Dg_append.2 ⟨ho, Dg_one (by omega) (by omega)⟩) (by simp [hlen]) (by omega) ?_)
      · rw [minstrelref01_Minus.l0, if_pos (by omega), if_pos (by omega), at_is hb]; simp only [Option.bind_some]
        rw [rd_dg ha, hw, if_neg (by omega), if_pos (by omega), i64in (by omega) (by omega), u64in (by omega) (by omega)]
        rw [show ((dg a i : Nat) : Int) - ((dg b i + c : Nat) : Int) = ((dg a i - (dg b i + c) : Nat) : Int) from by omega]; rfl
      · rw [val_append, val_one, hlen, Int.toNat_natCast, vt, vt]
        have h1 : dg a i = (dg a i - (dg b i + c)) + (dg b i + c) := by omega
        have h2 := congrArg (B ^ i * ·) h1
        simp only [Nat.mul_add] at h2
        omega
theorem minus_is {a b : List Int} (ha : Dg a) (hb : Dg b) (la : a.length < 900000) (hle : val b ≤ val a) : Ev (fun k => minstrelref01_Minus.f k a b) (dig (val a - val b)) :=
  minus_loop ha hb la hle _ 0 0 [] rfl (Nat.zero_le _) Dg_nil rfl (by omega) (by simp [val, vt])
end Go.Proofs.Ytknpffoglcogeaa.Dig
