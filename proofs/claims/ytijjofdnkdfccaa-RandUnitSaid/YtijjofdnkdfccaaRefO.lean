/- What the document's Order, Less, Equal (minstrelref01) compute: the order of the numbers that words stand for. Condition: the words have 64 bits. -/
import Derived.Test.YtijjofdnkdfccaaRefK
namespace Go.Proofs.Ytijjofdnkdfccaa.Dig
open Go.RowKit Go.Proofs.Ytijjofdnkdfccaa.Ref Go.Proofs.YtijjofdnkdfccaaW.PrintWords Go.Proofs.YtijjofdnkdfccaaW.PrintLast Go.Proofs.YtijjofdnkdfccaaW.PrintMore
open Go.Proofs.Ytijjofdnkdfccaa.Num Go.Proofs.Ytijjofdnkdfccaa.DigLaw Go.Proofs.Ytijjofdnkdfccaa.Fl

theorem andNot_top (a : Nat) (h : a < W) : Go.bits .andNot .u64 (a : Int) 9223372036854775808 = ((rg a : Nat) : Int) := by
  have e : Go.bits .andNot .u64 (a : Int) ((9223372036854775808 : Nat) : Int) = ((rg a : Nat) : Int) := by
    have ha' : a % 2 ^ IntKind.u64.bits = a := Nat.mod_eq_of_lt h
    simp only [bits, BitVec.ofInt_natCast]
    have key : (BitVec.ofNat IntKind.u64.bits a &&& ~~~ BitVec.ofNat IntKind.u64.bits 9223372036854775808).toNat = rg a := by
      show (BitVec.ofNat 64 a &&& ~~~ BitVec.ofNat 64 9223372036854775808).toNat = rg a
      have hn : ~~~ BitVec.ofNat 64 9223372036854775808 = BitVec.ofNat 64 9223372036854775807 := by decide
      rw [hn, BitVec.toNat_and, BitVec.toNat_ofNat, BitVec.toNat_ofNat]
      have e64 : (2 : Nat) ^ 64 = 18446744073709551616 := by decide
      have h' : a < 18446744073709551616 := h
      rw [e64, Nat.mod_eq_of_lt h', show 9223372036854775807 % 18446744073709551616 = 2 ^ 63 - 1 from by decide, Nat.and_two_pow_sub_one_eq_mod]
      rfl
    rw [key]
    have := rg_lt a
    exact u64of _ (by omega)
  exact e
def cmpI (x y : Int) : Int := if x < y then -1 else if x = y then 0 else 1
theorem V_cmp (s : Bool) (r t : Nat) : (if r = t then (0 : Int) else if ((decide ((r : Int) < (t : Int))) != s) = true then -1 else 1) = cmpI (sn s (V r)) (sn s (V t)) := by
  unfold cmpI
  rcases Nat.lt_trichotomy r t with h | h | h
  · have hv := V_strict h
    rw [if_neg (by omega), decide_eq_true (by omega)]
    cases s
    · rw [if_pos (by rfl), if_pos (show sn false (V r) < sn false (V t) by unfold sn; simp <;> omega)]
    · rw [if_neg (by simp), if_neg (show ¬ sn true (V r) < sn true (V t) by unfold sn; simp <;> omega), if_neg (show ¬ sn true (V r) = sn true (V t) by unfold sn; simp <;> omega)]
  · subst h
    rw [if_pos rfl, if_neg (Int.lt_irrefl _), if_pos rfl]
  · have hv := V_strict h
    rw [if_neg (by omega), decide_eq_false (by omega)]
    cases s
    · rw [if_neg (by simp), if_neg (show ¬ sn false (V r) < sn false (V t) by unfold sn; simp <;> omega), if_neg (show ¬ sn false (V r) = sn false (V t) by unfold sn; simp <;> omega)]
    · rw [if_pos (by rfl), if_pos (show sn true (V r) < sn true (V t) by unfold sn; simp <;> omega)]
theorem V_pos {r : Nat} (h : r ≠ 0) : 0 < V r := by
  have := V_strict (a := 0) (b := r) (by omega); omega
theorem V_cmp_ne {s t : Bool} (h : s ≠ t) {r q : Nat} (hz : r ≠ 0 ∨ q ≠ 0) : (if s = true then (-1 : Int) else 1) = cmpI (sn s (V r)) (sn t (V q)) := by
  have hp : 0 < V r + V q := by
    rcases hz with hz | hz
    · have := V_pos hz; omega
    · have := V_pos hz; omega
  unfold cmpI
  cases s <;> cases t
  · exact absurd rfl h
  · rw [if_neg (by simp), if_neg (show ¬ sn false (V r) < sn true (V q) by unfold sn; simp <;> omega), if_neg (show ¬ sn false (V r) = sn true (V q) by unfold sn; simp <;> omega)]
  · rw [if_pos rfl, if_pos (show sn true (V r) < sn false (V q) by unfold sn; simp <;> omega)]
  · exact absurd rfl h
theorem order_j (a b : Nat) (ha : a < W) (hb : b < W) (k : Nat) : minstrelref01_Order.j0 (k + 1) (a : Int) (b : Int) (decide (rg a = 0 ∧ rg b = 0)) = some (cmpI (Vi a) (Vi b)) := by
  rw [minstrelref01_Order.j0, neg_is a ha, neg_is b hb, andNot_top a ha, andNot_top b hb, Option.bind_some, Option.bind_some, Option.bind_some, Option.bind_some]
  by_cases z : rg a = 0 ∧ rg b = 0
  · have hV0 : V 0 = 0 := V_small (by decide)
    rw [decide_eq_true z, if_pos rfl]
    unfold Vi cmpI
    rw [z.1, z.2, hV0]
    cases sg a <;> cases sg b <;> rfl
  · rw [decide_eq_false z, if_neg (by simp)]
    by_cases s : sg a = sg b
    · have hne : ¬ (sg a != sg b) = true := by rw [s]; simp
      rw [if_neg hne]
      unfold Vi
      rw [← s, ← V_cmp (sg a) (rg a) (rg b)]
      by_cases c : rg a = rg b
      · rw [if_pos (by omega), if_pos c]
      · rw [if_neg (by omega), if_neg c]; split <;> rfl
    · have hne : (sg a != sg b) = true := bne_iff_ne.2 s
      rw [if_pos hne]
      unfold Vi
      rw [← V_cmp_ne s (by omega)]
      split <;> rfl
theorem order_is (a b : Nat) (ha : a < W) (hb : b < W) : Ev (fun k => minstrelref01_Order.f k (a : Int) (b : Int)) (cmpI (Vi a) (Vi b)) := by
  obtain ⟨K1, p1⟩ := kind_is a ha
  obtain ⟨K2, p2⟩ := kind_is b hb
  refine ⟨max (max K1 K2) 1, fun k hk => ?_⟩
  obtain ⟨m, rfl⟩ : ∃ m, k = m + 1 := ⟨k - 1, by omega⟩
  have h1 : minstrelref01_Kind.f (m + 1) (a : Int) = some ((kindN a : Nat) : Int) := p1 _ (by omega)
  have h2 : minstrelref01_Kind.f (m + 1) (b : Int) = some ((kindN b : Nat) : Int) := p2 _ (by omega)
  show minstrelref01_Order.f (m + 1) (a : Int) (b : Int) = _
  unfold minstrelref01_Order.f
  rw [h1, Option.bind_some, h2, Option.bind_some]
  have hj := order_j a b ha hb m
  by_cases za : kindN a = 0
  · rw [if_pos (by omega)]
    have e : (((kindN b : Nat) : Int) == 0) = decide (rg a = 0 ∧ rg b = 0) := by
      by_cases zb : kindN b = 0
      · rw [zb, decide_eq_true ⟨(zero_kind a).1 za, (zero_kind b).1 zb⟩]; rfl
      · rw [decide_eq_false (fun h => zb ((zero_kind b).2 h.2)), beq_eq_false_iff_ne.2 (by omega)]
    rw [e]; exact hj
  · rw [if_neg (by omega)]
    rw [decide_eq_false (fun h => za ((zero_kind a).2 h.1))] at hj
    exact hj
def lessB (a b : Nat) : Bool := decide (rg a ≤ INF ∧ rg b ≤ INF ∧ Vi a < Vi b)
def eqB (a b : Nat) : Bool := decide (rg a ≤ INF ∧ rg b ≤ INF ∧ Vi a = Vi b)
theorem cmpI_lt (x y : Int) : decide (cmpI x y < 0) = decide (x < y) := by
  unfold cmpI
  by_cases h : x < y
  · rw [if_pos h, decide_eq_true h]; rfl
  · rw [if_neg h, decide_eq_false h]; split <;> rfl
theorem cmpI_eq (x y : Int) : (cmpI x y == 0) = decide (x = y) := by
  unfold cmpI
  by_cases h : x < y
  · rw [if_pos h, decide_eq_false (by omega)]; rfl
  · rw [if_neg h]
    by_cases e : x = y
    · rw [if_pos e, decide_eq_true e]; rfl
    · rw [if_neg e, decide_eq_false e]; rfl
theorem less_is (a b : Nat) (ha : a < W) (hb : b < W) : Ev (fun k => minstrelref01_Less.f k (a : Int) (b : Int)) (lessB a b) := by
  obtain ⟨K1, p1⟩ := kind_is a ha
  obtain ⟨K2, p2⟩ := kind_is b hb
  obtain ⟨K3, p3⟩ := order_is a b ha hb
  refine ⟨max (max K1 K2) K3, fun k hk => ?_⟩
  have h1 : minstrelref01_Kind.f k (a : Int) = some ((kindN a : Nat) : Int) := p1 _ (by omega)
  have h2 : minstrelref01_Kind.f k (b : Int) = some ((kindN b : Nat) : Int) := p2 _ (by omega)
  have h3 : minstrelref01_Order.f k (a : Int) (b : Int) = some (cmpI (Vi a) (Vi b)) := p3 _ (by omega)
  show minstrelref01_Less.f k (a : Int) (b : Int) = _
  unfold minstrelref01_Less.f lessB
  rw [h1, Option.bind_some]
  have na := nan_kind a
  have nb := nan_kind b
  by_cases ka : kindN a = 4
  · rw [if_pos (by omega), decide_eq_false (fun h => by have := na.1 ka; omega)]
  · have la : rg a ≤ INF := Nat.le_of_not_lt fun h => ka (na.2 h)
    rw [if_neg (by omega), h2, Option.bind_some]
    by_cases kb : kindN b = 4
    · rw [if_pos (by omega), decide_eq_false (fun h => by have := nb.1 kb; omega)]
    · have lb : rg b ≤ INF := Nat.le_of_not_lt fun h => kb (nb.2 h)
      rw [if_neg (by omega), h3, Option.bind_some, cmpI_lt]
      congr 1
      exact decide_eq_decide.2 ⟨fun h => ⟨la, lb, h⟩, fun h => h.2.2⟩
end Go.Proofs.Ytijjofdnkdfccaa.Dig
