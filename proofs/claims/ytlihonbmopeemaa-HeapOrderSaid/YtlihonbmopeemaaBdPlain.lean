/- Texts on Plain, joined. No conditions but those that each theorem states. -/
import Ieee.Arith
import Derived.Laws.Entries
import Derived.RowKit
section
namespace Go.Proofs.Ytlihonbmopeemaa.Fl
open Ieee

/-- magnitude of a rung in units of 2^-1074 -/
def V (r : Nat) : Nat := if r < 2 ^ 52 then r else (2 ^ 52 + r % 2 ^ 52) * 2 ^ (r / 2 ^ 52 - 1)

theorem V_small {r : Nat} (h : r < 2 ^ 52) : V r = r := by unfold V; rw [if_pos h]

/-- the value of a rung of binade k -/
theorem V_binade (k j : Nat) (h : j ≤ 2 ^ 53) (h2 : k = 0 ∨ 2 ^ 52 ≤ j) : V (k * 2 ^ 52 + j) = j * 2 ^ k := by
  unfold V
  by_cases hj : j < 2 ^ 52
  · obtain rfl : k = 0 := by omega
    rw [if_pos (by omega)]; simp
  · rw [if_neg (by omega)]
    by_cases hj2 : j = 2 ^ 53
    · subst hj2
      have e1 : (k * 2 ^ 52 + 2 ^ 53) % 2 ^ 52 = 0 := by omega
      have e2 : (k * 2 ^ 52 + 2 ^ 53) / 2 ^ 52 - 1 = k + 1 := by omega
      rw [e1, e2, Nat.pow_succ]; omega
    · have e1 : (k * 2 ^ 52 + j) % 2 ^ 52 = j - 2 ^ 52 := by omega
      have e2 : (k * 2 ^ 52 + j) / 2 ^ 52 - 1 = k := by omega
      rw [e1, e2, show 2 ^ 52 + (j - 2 ^ 52) = j by omega]

theorem V_lt_succ (r : Nat) : V r < V (r + 1) := by
  by_cases h : r < 2 ^ 52
  · have := V_binade 0 r (by omega) (Or.inl rfl)
    have h2 := V_binade 0 (r + 1) (by omega) (Or.inl rfl)
    simp at this h2; omega
  · -- r = k*2^52 + j, 2^52 ≤ j < 2^53
    have e : r = (r / 2 ^ 52 - 1) * 2 ^ 52 + (2 ^ 52 + r % 2 ^ 52) := by omega
    generalize hk : r / 2 ^ 52 - 1 = k at *
    generalize hj : 2 ^ 52 + r % 2 ^ 52 = j at *
    have h1 := V_binade k j (by omega) (by omega)
    have h2 := V_binade k (j + 1) (by omega) (by omega)
    rw [e, Nat.add_assoc, h1, h2, Nat.add_mul]
    have := Nat.two_pow_pos k
    omega

theorem V_mono {a b : Nat} (h : a ≤ b) : V a ≤ V b := by
  induction h with
  | refl => exact Nat.le_refl _
  | step _ ih => exact Nat.le_trans ih (Nat.le_of_lt (V_lt_succ _))

theorem V_strict {a b : Nat} (h : a < b) : V a < V b := Nat.lt_of_lt_of_le (V_lt_succ a) (V_mono h)

theorem V_le_iff {a b : Nat} : V a ≤ V b ↔ a ≤ b := by
  constructor
  · intro h; by_cases c : a ≤ b
    · exact c
    · have := V_strict (a := b) (b := a) (by omega); omega
  · exact V_mono

theorem V_inj {a b : Nat} (h : V a = V b) : a = b := by
  have h1 := V_le_iff (a := a) (b := b)
  have h2 := V_le_iff (a := b) (b := a)
  omega

/-- whole-number rounding, to the nearest, ties to even -/
def cutE (n drop : Nat) : Nat := Toward.even.cut false n drop

theorem cut_even_neg (s : Bool) (n drop : Nat) : Toward.even.cut s n drop = cutE n drop := rfl

/-- The rule of rounding: q and rest to the exact power -/
theorem cutE_eq (n drop : Nat) : cutE n drop = n / 2 ^ drop + (if 2 ^ drop < 2 * (n % 2 ^ drop) ∨ (2 ^ drop = 2 * (n % 2 ^ drop) ∧ (n / 2 ^ drop) % 2 = 1) then 1 else 0) := by
  unfold cutE Toward.cut
  simp only [Nat.one_shiftLeft]
  have key : ∀ g : Nat, (n / g + (decide (g < 2 * (n % g)) || (g == 2 * (n % g) && n / g % 2 == 1)).toNat) = n / g + (if g < 2 * (n % g) ∨ (g = 2 * (n % g) ∧ (n / g) % 2 = 1) then 1 else 0) := by
    intro g
    congr 1
    by_cases h1 : g < 2 * (n % g)
    · simp [h1]
    · by_cases h2 : g = 2 * (n % g)
      · have h2' : (g == 2 * (n % g)) = true := by rw [beq_iff_eq]; exact h2
        by_cases h3 : n / g % 2 = 1
        · rw [if_pos (Or.inr ⟨h2, h3⟩), h2', h3]; simp
        · rw [if_neg (by intro h; rcases h with h | h; exact h1 h; exact h3 h.2), h2', decide_eq_false h1]
          have : (n / g % 2 == 1) = false := by rw [beq_eq_false_iff_ne]; exact h3
          rw [this]; rfl
      · rw [if_neg (by intro h; rcases h with h | h; exact h1 h; exact h2 h.1), decide_eq_false h1]
        have : (g == 2 * (n % g)) = false := by rw [beq_eq_false_iff_ne]; exact h2
        rw [this]; rfl
  rw [key]
  by_cases hd : drop ≤ n.log2 + 2
  · rw [Nat.min_eq_left hd]
  · have hd' : n.log2 + 2 ≤ drop := by omega
    rw [Nat.min_eq_right hd']
    have hn : n < 2 ^ (n.log2 + 1) := Nat.lt_log2_self
    have e : 2 ^ (n.log2 + 2) = 2 * 2 ^ (n.log2 + 1) := by rw [Nat.pow_succ]; omega
    have e2 : 2 ^ (n.log2 + 2) ≤ 2 ^ drop := Nat.pow_le_pow_right (by omega) hd'
    rw [Nat.div_eq_of_lt (a := n) (b := 2 ^ (n.log2 + 2)) (by omega), Nat.div_eq_of_lt (a := n) (b := 2 ^ drop) (by omega), Nat.mod_eq_of_lt (a := n) (b := 2 ^ (n.log2 + 2)) (by omega), Nat.mod_eq_of_lt (a := n) (b := 2 ^ drop) (by omega)]
    rw [if_neg (by omega), if_neg (by omega)]

end Go.Proofs.Ytlihonbmopeemaa.Fl
end
section
namespace Go.Proofs.Ytlihonbmopeemaa.Fl
open Ieee

def INF : Nat := 2047 * 2 ^ 52

def rung (m : Nat) (p : Int) : Nat := double.nearest false m p

theorem leastPlace_eq : double.leastPlace = -1074 := by decide
theorem binade_eq : double.binade = 2 ^ 52 := rfl
theorem fractionBits_eq : double.fractionBits = 52 := rfl
theorem infRung_eq : double.infRung = INF := by unfold Format.infRung INF; rw [binade_eq]; rfl
theorem signWeight_eq : double.signWeight = 2 ^ 63 := by decide

theorem word_false (r : Nat) : double.word false r = r := rfl
theorem word_true (r : Nat) : double.word true r = 2 ^ 63 + r := by unfold Format.word; rw [signWeight_eq]; rfl

theorem nearest_eq (s : Bool) (m : Nat) (p : Int) : double.nearest s m p = double.word s (rung m p) := by
  unfold rung Format.nearest
  by_cases h : m = 0
  · rw [if_pos h, if_pos h, word_false]
  · rw [if_neg h, if_neg h, word_false]; simp only [cut_even_neg]

theorem rung_zero (p : Int) : rung 0 p = 0 := by unfold rung Format.nearest; rw [if_pos rfl]; rfl

def lastOf (m : Nat) (p : Int) : Int := max (p + m.log2 - 52) (-1074)

theorem rung_def (m : Nat) (p : Int) (h : m ≠ 0) :
    rung m p = min ((lastOf m p + 1074).toNat * 2 ^ 52 + cutE (m * 2 ^ (p - lastOf m p).toNat) (lastOf m p - p).toNat) INF := by
  unfold rung Format.nearest
  rw [if_neg h, leastPlace_eq, binade_eq, infRung_eq, fractionBits_eq, word_false, cut_even_neg]
  simp only [Nat.shiftLeft_eq]
  have : ((52 : Nat) : Int) = 52 := rfl
  rw [this]
  show min (((lastOf m p) - -1074).toNat * 2 ^ 52 + cutE (m * 2 ^ (p - lastOf m p).toNat) (lastOf m p - p).toNat) INF = _
  rw [Int.sub_neg]

theorem rung_le_inf (m : Nat) (p : Int) : rung m p ≤ INF := by
  by_cases h : m = 0
  · subst h; rw [rung_zero]; exact Nat.zero_le _
  · rw [rung_def m p h]; exact Nat.min_le_right _ _

theorem cutE_le_iff (n d j : Nat) : cutE n d ≤ j ↔ 2 * n < (2 * j + 1) * 2 ^ d ∨ (2 * n = (2 * j + 1) * 2 ^ d ∧ j % 2 = 0) := by
  rw [cutE_eq]
  have hg : 0 < 2 ^ d := Nat.two_pow_pos d
  generalize 2 ^ d = g at *
  have hn : n = g * (n / g) + n % g := (Nat.div_add_mod n g).symm
  have hr : n % g < g := Nat.mod_lt _ hg
  generalize n / g = q at *
  generalize n % g = r at *
  subst hn
  rcases Nat.lt_trichotomy q j with h | h | h
  · -- q < j
    obtain ⟨e, rfl⟩ : ∃ e, j = q + 1 + e := ⟨j - q - 1, by omega⟩
    have e2 : (2 * (q + 1 + e) + 1) * g = 2 * (g * q) + 3 * g + 2 * (e * g) := by
      simp only [Nat.add_mul, Nat.mul_add, Nat.mul_assoc, Nat.mul_comm g q]; omega
    rw [e2]
    constructor
    · intro _; left; have := Nat.zero_le (e * g); omega
    · intro _; split <;> omega
  · subst h
    have e2 : (2 * q + 1) * g = 2 * (g * q) + g := by
      simp only [Nat.add_mul, Nat.mul_assoc, Nat.mul_comm g q]; omega
    rw [e2]
    constructor
    · intro h
      split at h
      · omega
      · rename_i hc
        by_cases h1 : 2 * r < g
        · left; omega
        · right; constructor
          · omega
          · omega
    · intro h
      rw [if_neg]
      · omega
      · omega
  · obtain ⟨e, rfl⟩ : ∃ e, q = j + 1 + e := ⟨q - j - 1, by omega⟩
    have e2 : (2 * j + 1) * g = 2 * (j * g) + g := by
      simp only [Nat.add_mul, Nat.mul_assoc]; omega
    have e3 : g * (j + 1 + e) = j * g + g + e * g := by
      rw [Nat.mul_comm, Nat.add_mul, Nat.add_mul, Nat.one_mul]
    rw [e2, e3]
    constructor
    · intro h; split at h <;> omega
    · intro h; have := Nat.zero_le (e * g); omega

def mid (r : Nat) : Nat := V r + V (r + 1)

/-- scaled comparison -/
def hA (m : Nat) (p : Int) : Nat := m * 2 ^ (p + 1075).toNat
def hB (M : Nat) (p : Int) : Nat := M * 2 ^ (-(p + 1075)).toNat

theorem scale (m M : Nat) (p last : Int) (hl : -1074 ≤ last) : ∃ t, m * 2 ^ (p - last).toNat * 2 ^ ((last + 1074).toNat + 1) = hA m p * 2 ^ t ∧ M * 2 ^ (last - p).toNat = hB M p * 2 ^ t := by
  unfold hA hB
  by_cases hP : 0 ≤ p + 1075
  · refine ⟨(last - p).toNat, ?_, ?_⟩
    · rw [Nat.mul_assoc, Nat.mul_assoc, ← Nat.pow_add, ← Nat.pow_add]; congr 2; omega
    · rw [show (-(p + 1075)).toNat = 0 by omega]; simp
  · refine ⟨((last - p) - (-(p + 1075))).toNat, ?_, ?_⟩
    · rw [Nat.mul_assoc, Nat.mul_assoc, ← Nat.pow_add, ← Nat.pow_add]; congr 2; omega
    · rw [Nat.mul_assoc, ← Nat.pow_add]; congr 2; omega

theorem V_pos_succ (r : Nat) : 0 < V (r + 1) := Nat.lt_of_le_of_lt (Nat.zero_le _) (V_lt_succ r)

theorem cutE_ge {n d j : Nat} (h : j * 2 ^ d ≤ n) : j ≤ cutE n d := by
  rw [cutE_eq]
  have := (Nat.le_div_iff_mul_le (Nat.two_pow_pos d)).2 h
  omega
theorem cutE_le {n d j : Nat} (h : n < j * 2 ^ d) : cutE n d ≤ j := by
  rw [cutE_eq]
  have := (Nat.div_lt_iff_lt_mul (Nat.two_pow_pos d)).2 h
  split <;> omega
theorem kept_gen (n d k : Nat) (hlt : n < 2 ^ 53 * 2 ^ d) (hge : k = 0 ∨ 2 ^ 52 * 2 ^ d ≤ n) : cutE n d ≤ 2 ^ 53 ∧ (k = 0 ∨ 2 ^ 52 ≤ cutE n d) :=
  ⟨cutE_le hlt, hge.imp id cutE_ge⟩
theorem mul_ac1 (c g x : Nat) : (c * g) * (2 * x) = (2 * (c * x)) * g := by ac_rfl
theorem mul_ac2 (n x : Nat) : n * (2 * x) = (2 * n) * x := by ac_rfl
theorem mul_ac3 (a b c : Nat) : a * b * c = (a * c) * b := by ac_rfl
theorem kept_lt (m : Nat) (p l : Int) (h : p + m.log2 - 52 ≤ l) : m * 2 ^ (p - l).toNat < 2 ^ 53 * 2 ^ (l - p).toNat := by
  have hL2 : m < 2 ^ (m.log2 + 1) := Nat.lt_log2_self
  have : m * 2 ^ (p - l).toNat < 2 ^ (m.log2 + 1) * 2 ^ (p - l).toNat := Nat.mul_lt_mul_of_pos_right hL2 (Nat.two_pow_pos _)
  rw [← Nat.pow_add] at this
  rw [← Nat.pow_add]
  exact Nat.lt_of_lt_of_le this (Nat.pow_le_pow_right (by decide) (by omega))
theorem kept_ge (m : Nat) (p l : Int) (hm : m ≠ 0) (h : l = p + m.log2 - 52) : 2 ^ 52 * 2 ^ (l - p).toNat ≤ m * 2 ^ (p - l).toNat := by
  have hL1 : 2 ^ m.log2 ≤ m := Nat.log2_self_le hm
  have : 2 ^ m.log2 * 2 ^ (p - l).toNat ≤ m * 2 ^ (p - l).toNat := Nat.mul_le_mul_right _ hL1
  rw [← Nat.pow_add] at this
  rw [← Nat.pow_add]
  exact Nat.le_trans (Nat.pow_le_pow_right (by decide) (by omega)) this
theorem lastOf_ge (m : Nat) (p : Int) : p + m.log2 - 52 ≤ lastOf m p ∧ -1074 ≤ lastOf m p ∧ (lastOf m p = -1074 ∨ lastOf m p = p + m.log2 - 52) := by
  unfold lastOf; omega
/-- what is kept of a number: never more than 2^53, and at least 2^52 unless it is tiny -/
theorem kept_facts (m : Nat) (p : Int) (hm : m ≠ 0) :
    m * 2 ^ (p - lastOf m p).toNat < 2 ^ 53 * 2 ^ (lastOf m p - p).toNat ∧
    ((lastOf m p + 1074).toNat = 0 ∨ 2 ^ 52 * 2 ^ (lastOf m p - p).toNat ≤ m * 2 ^ (p - lastOf m p).toNat) := by
  obtain ⟨h1, h2, h3⟩ := lastOf_ge m p
  refine ⟨kept_lt m p _ h1, ?_⟩
  rcases h3 with h3 | h3
  · left; rw [h3]; rfl
  · right; exact kept_ge m p _ hm h3

theorem core_le (n d k r M : Nat) (hM : M = mid r) (hlt : n < 2 ^ 53 * 2 ^ d) (hge : k = 0 ∨ 2 ^ 52 * 2 ^ d ≤ n) :
    k * 2 ^ 52 + cutE n d ≤ r ↔ n * 2 ^ (k + 1) < M * 2 ^ d ∨ (n * 2 ^ (k + 1) = M * 2 ^ d ∧ r % 2 = 0) := by
  obtain ⟨hc1, hc2⟩ := kept_gen n d k hlt hge
  have hd : 0 < 2 ^ d := Nat.two_pow_pos d
  have hk : 0 < 2 ^ k := Nat.two_pow_pos k
  have hk1 : 2 ^ (k + 1) = 2 * 2 ^ k := by rw [Nat.pow_succ, Nat.mul_comm]
  by_cases hA1 : k * 2 ^ 52 + 2 ^ 53 ≤ r
  · -- above
    constructor
    · intro _; left
      have h1 : V (k * 2 ^ 52 + 2 ^ 53) = 2 ^ 53 * 2 ^ k := V_binade k _ (Nat.le_refl _) (Or.inr (by decide))
      have h2 := V_mono hA1
      have h3 : 2 * (2 ^ 53 * 2 ^ k) ≤ M := by rw [hM]; unfold mid; have := V_lt_succ r; omega
      calc n * 2 ^ (k + 1) < (2 ^ 53 * 2 ^ d) * 2 ^ (k + 1) := Nat.mul_lt_mul_of_pos_right hlt (Nat.two_pow_pos _)
        _ = (2 * (2 ^ 53 * 2 ^ k)) * 2 ^ d := by rw [hk1, mul_ac1]
        _ ≤ M * 2 ^ d := Nat.mul_le_mul_right _ h3
    · intro _; omega
  · by_cases hA2 : k ≠ 0 ∧ r < k * 2 ^ 52 + 2 ^ 52
    · obtain ⟨h0, h1⟩ := hA2
      have hc3 : 2 ^ 52 ≤ cutE n d := by omega
      have hge' : 2 ^ 52 * 2 ^ d ≤ n := hge.resolve_left h0
      have h4 : V (k * 2 ^ 52 + 2 ^ 52) = 2 ^ 52 * 2 ^ k := V_binade k _ (by decide) (Or.inr (Nat.le_refl _))
      have h5 := V_mono (a := r + 1) (b := k * 2 ^ 52 + 2 ^ 52) (by omega)
      have h6 : M < 2 * (2 ^ 52 * 2 ^ k) := by rw [hM]; unfold mid; have := V_lt_succ r; omega
      have h7 : M * 2 ^ d < n * 2 ^ (k + 1) := by
        calc M * 2 ^ d < (2 * (2 ^ 52 * 2 ^ k)) * 2 ^ d := Nat.mul_lt_mul_of_pos_right h6 hd
          _ = (2 ^ 52 * 2 ^ d) * 2 ^ (k + 1) := by rw [hk1, mul_ac1]
          _ ≤ n * 2 ^ (k + 1) := Nat.mul_le_mul_right _ hge'
      constructor
      · intro h; exfalso; omega
      · intro h; exfalso
        rcases h with h | h
        · exact Nat.lt_asymm h h7
        · exact Nat.ne_of_gt h7 h.1
    · -- inside
      have hin : k = 0 ∨ k * 2 ^ 52 + 2 ^ 52 ≤ r := by omega
      obtain ⟨j, rfl⟩ : ∃ j, r = k * 2 ^ 52 + j := ⟨r - k * 2 ^ 52, by omega⟩
      have hj : j < 2 ^ 53 := by omega
      have hj2 : k = 0 ∨ 2 ^ 52 ≤ j := by omega
      have h1 : M = (2 * j + 1) * 2 ^ k := by
        rw [hM]; unfold mid
        rw [V_binade k j (Nat.le_of_lt hj) hj2, Nat.add_assoc, V_binade k (j + 1) hj (hj2.elim Or.inl fun h => Or.inr (Nat.le_succ_of_le h))]
        rw [← Nat.add_mul, ← Nat.add_assoc, ← Nat.two_mul]
      rw [h1]
      have h2 : n * 2 ^ (k + 1) = (2 * n) * 2 ^ k := by rw [hk1, mul_ac2]
      have h3 : (2 * j + 1) * 2 ^ k * 2 ^ d = ((2 * j + 1) * 2 ^ d) * 2 ^ k := mul_ac3 _ _ _
      rw [h2, h3, Nat.mul_lt_mul_right hk]
      have h4 : (2 * n) * 2 ^ k = ((2 * j + 1) * 2 ^ d) * 2 ^ k ↔ 2 * n = (2 * j + 1) * 2 ^ d := ⟨fun h => Nat.eq_of_mul_eq_mul_right hk h, fun h => by rw [h]⟩
      rw [h4]
      have h5 := cutE_le_iff n d j
      have h6 : (k * 2 ^ 52 + j) % 2 = j % 2 := by omega
      rw [h6, ← h5]; omega
theorem min_le_iff {a r I : Nat} (h : r < I) : min a I ≤ r ↔ a ≤ r := by omega
theorem rung_le_iff (m : Nat) (p : Int) (r : Nat) (hr : r < INF) :
    rung m p ≤ r ↔ hA m p < hB (mid r) p ∨ (hA m p = hB (mid r) p ∧ r % 2 = 0) := by
  by_cases hm : m = 0
  · subst hm
    rw [rung_zero]
    have h1 : 0 < mid r := by have := V_pos_succ r; unfold mid; omega
    have h2 : 0 < hB (mid r) p := Nat.mul_pos h1 (Nat.two_pow_pos _)
    have h3 : hA 0 p = 0 := by unfold hA; rw [Nat.zero_mul]
    rw [h3]; exact ⟨fun _ => Or.inl h2, fun _ => Nat.zero_le _⟩
  · rw [rung_def m p hm, min_le_iff hr]
    obtain ⟨h1, h2⟩ := kept_facts m p hm
    obtain ⟨t, ht1, ht2⟩ := scale m (mid r) p (lastOf m p) (lastOf_ge m p).2.1
    have ht : 0 < 2 ^ t := Nat.two_pow_pos t
    rw [core_le _ _ _ r (mid r) rfl h1 h2, ht1, ht2, Nat.mul_lt_mul_right ht]
    exact ⟨fun h => h.imp id fun h => ⟨Nat.eq_of_mul_eq_mul_right ht h.1, h.2⟩, fun h => h.imp id fun h => ⟨by rw [h.1], h.2⟩⟩

end Go.Proofs.Ytlihonbmopeemaa.Fl
end
section
namespace Go.Proofs.Ytlihonbmopeemaa.Fl
open Ieee

/-! ### the same number at another place -/
theorem scale_k (m M k : Nat) (p : Int) : ∃ t, hA (m * 2 ^ k) (p - k) = hA m p * 2 ^ t ∧ hB M (p - k) = hB M p * 2 ^ t := by
  unfold hA hB
  by_cases h1 : 0 ≤ p - k + 1075
  · refine ⟨0, ?_, ?_⟩
    · rw [Nat.mul_assoc, ← Nat.pow_add, Nat.pow_zero, Nat.mul_one]; congr 2; omega
    · rw [show (-(p - k + 1075)).toNat = 0 by omega, show (-(p + 1075)).toNat = 0 by omega, Nat.pow_zero, Nat.mul_one, Nat.mul_one]
  · by_cases h2 : 0 ≤ p + 1075
    · refine ⟨k - (p + 1075).toNat, ?_, ?_⟩
      · rw [show (p - k + 1075).toNat = 0 by omega, Nat.pow_zero, Nat.mul_one, Nat.mul_assoc, ← Nat.pow_add]; congr 2; omega
      · rw [show (-(p + 1075)).toNat = 0 by omega, Nat.pow_zero, Nat.mul_one]; congr 2; omega
    · refine ⟨k, ?_, ?_⟩
      · rw [show (p - k + 1075).toNat = 0 by omega, show (p + 1075).toNat = 0 by omega, Nat.pow_zero, Nat.mul_one, Nat.mul_one]
      · rw [Nat.mul_assoc, ← Nat.pow_add]; congr 2; omega
theorem rung_ext {m n : Nat} {p q : Int} (h : ∀ r, r < INF → (rung m p ≤ r ↔ rung n q ≤ r)) : rung m p = rung n q := by
  have h1 := rung_le_inf m p
  have h2 := rung_le_inf n q
  by_cases c1 : rung m p < INF
  · have := (h _ c1).1 (Nat.le_refl _)
    have c2 : rung n q < INF := Nat.lt_of_le_of_lt this c1
    exact Nat.le_antisymm ((h _ c2).2 (Nat.le_refl _)) this
  · by_cases c2 : rung n q < INF
    · have := (h _ c2).2 (Nat.le_refl _); omega
    · omega
theorem rung_scale (m k : Nat) (p : Int) : rung (m * 2 ^ k) (p - k) = rung m p := by
  apply rung_ext
  intro r hr
  rw [rung_le_iff _ _ r hr, rung_le_iff _ _ r hr]
  obtain ⟨t, h1, h2⟩ := scale_k m (mid r) k p
  have ht : 0 < 2 ^ t := Nat.two_pow_pos t
  rw [h1, h2, Nat.mul_lt_mul_right ht]
  exact ⟨fun h => h.imp id fun h => ⟨Nat.eq_of_mul_eq_mul_right ht h.1, h.2⟩, fun h => h.imp id fun h => ⟨by rw [h.1], h.2⟩⟩
theorem rung_at (m : Nat) (p q : Int) (h : q ≤ p) : rung m p = rung (m * 2 ^ (p - q).toNat) q := by
  have := rung_scale m (p - q).toNat p
  rw [show p - ((p - q).toNat : Int) = q by omega] at this
  exact this.symm
theorem rung_twice (m : Nat) (p : Int) : rung (2 * m + false.toNat) (p - 1) = rung m p := by
  have := rung_scale m 1 p
  rw [Nat.pow_one, Nat.mul_comm] at this
  exact this

/-! ### order -/
theorem rung_mono_at {m n : Nat} {q : Int} (h : m ≤ n) : rung m q ≤ rung n q := by
  have h2 := rung_le_inf m q
  by_cases c : rung n q < INF
  · apply (rung_le_iff m q _ c).2
    have h3 := (rung_le_iff n q _ c).1 (Nat.le_refl _)
    have h4 : hA m q ≤ hA n q := Nat.mul_le_mul_right _ h
    rcases h3 with h3 | h3
    · left; exact Nat.lt_of_le_of_lt h4 h3
    · rcases Nat.lt_or_ge (hA m q) (hB (mid (rung n q)) q) with h5 | h5
      · left; exact h5
      · right; exact ⟨Nat.le_antisymm (h3.1 ▸ h4) h5, h3.2⟩
  · omega
/-- a rung's own number is rounded to the rung -/
theorem rung_V (r : Nat) (h : r ≤ INF) : rung (V r) (-1074) = r := by
  have key : ∀ s, s < INF → (rung (V r) (-1074) ≤ s ↔ r ≤ s) := by
    intro s hs
    rw [rung_le_iff _ _ s hs]
    have e1 : hA (V r) (-1074) = 2 * V r := by unfold hA; rw [show ((-1074 : Int) + 1075).toNat = 1 from rfl, Nat.pow_one, Nat.mul_comm]
    have e2 : hB (mid s) (-1074) = V s + V (s + 1) := by unfold hB mid; rw [show (-((-1074 : Int) + 1075)).toNat = 0 from rfl, Nat.pow_zero, Nat.mul_one]
    rw [e1, e2]
    have hlt := V_lt_succ s
    by_cases c : r ≤ s
    · have := V_mono c
      exact ⟨fun _ => c, fun _ => Or.inl (by omega)⟩
    · have := V_mono (show s + 1 ≤ r by omega)
      exact ⟨fun h => by omega, fun h => absurd h c⟩
  have h2 := rung_le_inf (V r) (-1074)
  by_cases c : r < INF
  · have h3 := (key r c).2 (Nat.le_refl _)
    have h4 := (key _ (Nat.lt_of_le_of_lt h3 c)).1 (Nat.le_refl _)
    omega
  · have hr : r = INF := by omega
    by_cases c2 : rung (V r) (-1074) < INF
    · have := (key _ c2).1 (Nat.le_refl _); omega
    · omega

/-! ### words -/
def sg (a : Nat) : Bool := a / 2 ^ 63 % 2 == 1
def rg (a : Nat) : Nat := a % 2 ^ 63
def sn (s : Bool) (n : Nat) : Int := if s then -(n : Int) else (n : Int)
/-- what a word stands for, in units of the least number; an infinity is above all -/
def Vi (a : Nat) : Int := sn (sg a) (V (rg a))

theorem read_eq (a : Nat) : double.read a = if rg a < 2 ^ 52 then .number (sg a) (rg a) (-1074) else if rg a < INF then .number (sg a) (2 ^ 52 + rg a % 2 ^ 52) (-1074 + ((rg a / 2 ^ 52 - 1 : Nat) : Int)) else if rg a = INF then .infinity (sg a) else .nan (sg a) (rg a - INF) := by
  unfold Format.read
  rw [signWeight_eq, binade_eq, infRung_eq, leastPlace_eq]
  rfl
theorem read_fin {a : Nat} (h : rg a < INF) : ∃ m p, double.read a = .number (sg a) m p ∧ -1074 ≤ p ∧ m * 2 ^ (p + 1074).toNat = V (rg a) := by
  rw [read_eq]
  by_cases c : rg a < 2 ^ 52
  · rw [if_pos c]
    refine ⟨_, _, rfl, Int.le_refl _, ?_⟩
    rw [V_small c, show ((-1074 : Int) + 1074).toNat = 0 from rfl, Nat.pow_zero, Nat.mul_one]
  · rw [if_neg c, if_pos h]
    refine ⟨_, _, rfl, by omega, ?_⟩
    unfold V
    rw [if_neg c]
    congr 2; omega
theorem read_inf {a : Nat} (h : rg a = INF) : double.read a = .infinity (sg a) := by
  have h1 : ¬ rg a < 2 ^ 52 := by rw [h]; unfold INF; decide
  rw [read_eq, if_neg h1, if_neg (by omega), if_pos h]
theorem read_nan {a : Nat} (h : INF < rg a) : double.read a = .nan (sg a) (rg a - INF) := by
  have h1 : ¬ rg a < 2 ^ 52 := fun c => absurd (Nat.lt_trans h c) (by unfold INF; decide)
  rw [read_eq, if_neg h1, if_neg (by omega), if_neg (by omega)]

theorem signed_eq (s : Bool) (m k : Nat) : signed s m k = sn s (m * 2 ^ k) := by unfold signed sn; rw [Nat.shiftLeft_eq]
theorem sn_mul (s : Bool) (m c : Nat) : sn s (m * c) = sn s m * (c : Int) := by
  unfold sn; cases s
  · rw [if_neg (by simp), if_neg (by simp), Int.natCast_mul]
  · rw [if_pos rfl, if_pos rfl, Int.natCast_mul, Int.neg_mul]
theorem sn_abs (s : Bool) (m : Nat) : (sn s m).natAbs = m := by unfold sn; cases s <;> simp
theorem cmp_lt {x y : Int} (h : x < y) : compare x y = .lt := by simp only [compare, compareOfLessAndEq]; rw [if_pos h]
theorem cmp_eq {x y : Int} (h : x = y) : compare x y = .eq := by simp only [compare, compareOfLessAndEq]; rw [if_neg (by omega), if_pos h]
theorem cmp_gt {x y : Int} (h : y < x) : compare x y = .gt := by simp only [compare, compareOfLessAndEq]; rw [if_neg (by omega), if_neg (by omega)]
theorem cmp_mul (x y : Int) (c : Nat) (h : 0 < c) : compare (x * (c : Int)) (y * (c : Int)) = compare x y := by
  have hc : (0 : Int) < (c : Int) := by omega
  rcases Int.lt_trichotomy x y with l | l | l
  · rw [cmp_lt l, cmp_lt (Int.mul_lt_mul_of_pos_right l hc)]
  · rw [l, cmp_eq rfl, cmp_eq rfl]
  · rw [cmp_gt l, cmp_gt (Int.mul_lt_mul_of_pos_right l hc)]

/-- a finite word's number at a place between the least one and its own -/
theorem at_base {a m : Nat} {p base : Int} (hp : base ≤ p) (hb : -1074 ≤ base) (hv : m * 2 ^ (p + 1074).toNat = V (rg a)) : sn (sg a) (m * 2 ^ (p - base).toNat) * ((2 ^ (base + 1074).toNat : Nat) : Int) = Vi a := by
  unfold Vi
  rw [← sn_mul, Nat.mul_assoc, ← Nat.pow_add, show (p - base).toNat + (base + 1074).toNat = (p + 1074).toNat by omega, hv]

theorem V_lt_inf {r : Nat} (h : r < INF) : V r < V INF := V_strict h
theorem Vi_fin {a b : Nat} (ha : rg a < INF) (hb : rg b = INF) : sg b = false → Vi a < Vi b := by
  intro hs
  have := V_lt_inf ha
  unfold Vi sn; rw [hs, hb]; cases sg a <;> simp <;> omega
theorem Vi_fin' {a b : Nat} (ha : rg a < INF) (hb : rg b = INF) : sg b = true → Vi b < Vi a := by
  intro hs
  have := V_lt_inf ha
  unfold Vi sn; rw [hs, hb]; cases sg a <;> simp <;> omega
theorem V_inf_pos : 0 < V INF := Nat.lt_of_le_of_lt (Nat.zero_le _) (V_lt_inf (r := 0) (by unfold INF; decide))

/-- THE ORDER of two words that are no NaNs is that of the numbers that they stand for. -/
theorem order_eq {a b : Nat} (ha : rg a ≤ INF) (hb : rg b ≤ INF) : double.order a b = some (compare (Vi a) (Vi b)) := by
  unfold Format.order
  rcases Nat.lt_or_ge (rg a) INF with fa | fa
  · obtain ⟨m, p, e1, hp, hv⟩ := read_fin fa
    rcases Nat.lt_or_ge (rg b) INF with fb | fb
    · obtain ⟨n, q, e2, hq, hw⟩ := read_fin fb
      rw [e1, e2]
      simp only [Datum.order, signed_eq]
      rw [← at_base (base := min p q) (by omega) (by omega) hv, ← at_base (base := min p q) (by omega) (by omega) hw, cmp_mul _ _ _ (Nat.two_pow_pos _)]
    · have fb' : rg b = INF := by omega
      rw [e1, read_inf fb']
      simp only [Datum.order]
      cases hs : sg b
      · rw [cmp_lt (Vi_fin fa fb' hs)]; rfl
      · rw [cmp_gt (Vi_fin' fa fb' hs)]; rfl
  · have fa' : rg a = INF := by omega
    rcases Nat.lt_or_ge (rg b) INF with fb | fb
    · obtain ⟨n, q, e2, hq, hw⟩ := read_fin fb
      rw [read_inf fa', e2]
      simp only [Datum.order]
      cases hs : sg a
      · rw [cmp_gt (Vi_fin fb fa' hs)]; rfl
      · rw [cmp_lt (Vi_fin' fb fa' hs)]; rfl
    · have fb' : rg b = INF := by omega
      rw [read_inf fa', read_inf fb']
      simp only [Datum.order]
      have hp := V_inf_pos
      unfold Vi sn
      rw [fa', fb']
      cases sg a <;> cases sg b
      · rw [cmp_eq rfl]; rfl
      · rw [cmp_gt (by rw [if_pos rfl, if_neg (by simp)]; omega)]; rfl
      · rw [cmp_lt (by rw [if_pos rfl, if_neg (by simp)]; omega)]; rfl
      · rw [cmp_eq rfl]; rfl
theorem order_nan {a b : Nat} (h : INF < rg a ∨ INF < rg b) : double.order a b = none := by
  unfold Format.order
  rcases h with h | h
  · rw [read_nan h]; rfl
  · rw [read_nan h]
    cases double.read a <;> rfl

/-! ### sums and products of finite words -/
theorem write_number (s : Bool) (m : Nat) (p : Int) : double.write (.number s m p) = double.word s (rung m p) := nearest_eq s m p
/-- the word of a number in units of the least one; z: the sign of nothing -/
def wordI (z : Bool) (T : Int) : Nat := double.word (if T = 0 then z else decide (T < 0)) (rung T.natAbs (-1074))
theorem add_fin {a b : Nat} (fa : rg a < INF) (fb : rg b < INF) : double.add a b = some (wordI (sg a && sg b) (Vi a + Vi b)) := by
  obtain ⟨m, p, e1, hp, hv⟩ := read_fin fa
  obtain ⟨n, q, e2, hq, hw⟩ := read_fin fb
  have h1 := at_base (base := min p q) (by omega) (by omega) hv
  have h2 := at_base (base := min p q) (by omega) (by omega) hw
  unfold Format.add
  rw [e1, e2]
  simp only [Datum.sum, signed_eq, Option.map_some, write_number]
  rw [← h1, ← h2, ← Int.add_mul]
  generalize sn (sg a) (m * 2 ^ (p - min p q).toNat) + sn (sg b) (n * 2 ^ (q - min p q).toNat) = T
  have hb : (-1074 : Int) ≤ min p q := by omega
  rw [rung_at T.natAbs (min p q) (-1074) hb, show min p q - -1074 = min p q + 1074 by omega]
  have hc := Nat.two_pow_pos (min p q + 1074).toNat
  generalize 2 ^ (min p q + 1074).toNat = c at hc
  unfold wordI
  rw [Int.natAbs_mul, Int.natAbs_natCast]
  have hci : (0 : Int) < (c : Int) := by omega
  have z1 : T * (c : Int) = 0 ↔ T = 0 := ⟨fun h => (Int.mul_eq_zero.1 h).resolve_right (by omega), fun h => by rw [h, Int.zero_mul]⟩
  have z2 : T * (c : Int) < 0 ↔ T < 0 := ⟨fun h => by
      rcases Int.lt_or_le T 0 with l | l
      · exact l
      · exact absurd h (Int.not_lt.2 (Int.mul_nonneg l (Int.le_of_lt hci))), fun h => Int.mul_neg_of_neg_of_pos h hci⟩
  congr 2
  by_cases c0 : T = 0
  · rw [if_pos (by simpa using c0), if_pos (z1.2 c0)]
  · rw [if_neg (by simpa using c0), if_neg (fun h => c0 (z1.1 h))]
    exact decide_eq_decide.2 z2.symm
end Go.Proofs.Ytlihonbmopeemaa.Fl
end
section
namespace Go.Proofs.Ytlihonbmopeemaa.Num
open Go Go.RowKit

theorem u64w (n : Int) : IntKind.u64.wrap n = n % 18446744073709551616 := by simp [IntKind.wrap, IntKind.bits, IntKind.signed]
theorem u64in {n : Int} (h0 : 0 ≤ n) (h1 : n < 18446744073709551616) : IntKind.u64.wrap n = n := by rw [u64w]; omega
theorem u64of (n : Nat) (h : n < 18446744073709551616) : IntKind.u64.wrap (n : Int) = (n : Int) := u64in (Int.natCast_nonneg _) (by omega)
theorem i64of {n : Int} (m : Nat) (e : n = (m : Int)) (h : m < 9223372036854775808) : wrap64 n = (m : Int) := by subst e; unfold wrap64; omega
theorem i64w (n : Int) : wrap64 n = (n + 9223372036854775808) % 18446744073709551616 - 9223372036854775808 := by
  unfold wrap64; omega
theorem i64in {n : Int} (h0 : -9223372036854775808 ≤ n) (h1 : n < 9223372036854775808) : wrap64 n = n := by rw [i64w]; omega

theorem and_nat (a b : Nat) (ha : a < 18446744073709551616) (hb : b < 18446744073709551616) : bits .and .u64 (a : Int) (b : Int) = ((a &&& b : Nat) : Int) := by
  have h : a &&& b < 2 ^ 64 := Nat.and_lt_two_pow a hb
  have ha' : a % 2 ^ IntKind.u64.bits = a := Nat.mod_eq_of_lt ha
  have hb' : b % 2 ^ IntKind.u64.bits = b := Nat.mod_eq_of_lt hb
  simp only [bits, BitVec.ofInt_natCast, BitVec.toNat_and, BitVec.toNat_ofNat, ha', hb']
  exact u64in (Int.natCast_nonneg _) (by omega)
theorem or_nat (a b : Nat) (ha : a < 18446744073709551616) (hb : b < 18446744073709551616) : bits .or .u64 (a : Int) (b : Int) = ((a ||| b : Nat) : Int) := by
  have h : a ||| b < 2 ^ 64 := Nat.or_lt_two_pow ha hb
  have ha' : a % 2 ^ IntKind.u64.bits = a := Nat.mod_eq_of_lt ha
  have hb' : b % 2 ^ IntKind.u64.bits = b := Nat.mod_eq_of_lt hb
  simp only [bits, BitVec.ofInt_natCast, BitVec.toNat_or, BitVec.toNat_ofNat, ha', hb']
  exact u64in (Int.natCast_nonneg _) (by omega)
/-- a mask of low bits -/
theorem mask_nat (a i : Nat) (ha : a < 18446744073709551616) (hi : 2 ^ i ≤ 18446744073709551616) : bits .and .u64 (a : Int) ((2 ^ i - 1 : Nat) : Int) = ((a % 2 ^ i : Nat) : Int) := by
  have := Nat.two_pow_pos i
  rw [and_nat a _ ha (by omega), Nat.and_two_pow_sub_one_eq_mod]

end Go.Proofs.Ytlihonbmopeemaa.Num
end
section
namespace Go.Proofs.Ytlihonbmopeemaa.DigLaw

def B : Nat := 65536
theorem B_eq : B = 2 ^ 16 := by decide
def Dg (l : List Int) : Prop := ∀ x ∈ l, 0 ≤ x ∧ x < 65536
def val : List Int → Nat
  | [] => 0
  | x :: l => x.toNat + B * val l
def dg (l : List Int) (i : Nat) : Nat := (l.getD i 0).toNat
/-- the number of the first n digits -/
def vt (l : List Int) : Nat → Nat
  | 0 => 0
  | n + 1 => vt l n + B ^ n * dg l n

theorem B_pos : 0 < B := by decide
theorem Bp_pos (n : Nat) : 0 < B ^ n := Nat.pow_pos B_pos
theorem Bp_succ (n : Nat) : B ^ (n + 1) = B * B ^ n := by rw [Nat.pow_succ, Nat.mul_comm]

theorem Dg_nil : Dg [] := by intro x h; cases h
theorem Dg_cons {x : Int} {l : List Int} : Dg (x :: l) ↔ (0 ≤ x ∧ x < 65536) ∧ Dg l := by
  unfold Dg; simp
theorem Dg_append {a b : List Int} : Dg (a ++ b) ↔ Dg a ∧ Dg b := by
  unfold Dg; simp only [List.mem_append]
  exact ⟨fun h => ⟨fun x hx => h x (.inl hx), fun x hx => h x (.inr hx)⟩, fun h x hx => hx.elim (h.1 x) (h.2 x)⟩
theorem Dg_one {x : Int} (h : 0 ≤ x) (h1 : x < 65536) : Dg [x] := Dg_cons.2 ⟨⟨h, h1⟩, Dg_nil⟩
theorem Dg_nat {n : Nat} (h : n < 65536) : Dg [(n : Int)] := Dg_one (by omega) (by omega)
theorem Dg_take {l : List Int} (h : Dg l) (n : Nat) : Dg (l.take n) := fun x hx => h x (List.mem_of_mem_take hx)
theorem Dg_zeros (n : Nat) : Dg (List.replicate n 0) := fun x hx => by
  have := List.eq_of_mem_replicate hx; subst this; exact ⟨by omega, by omega⟩
theorem Dg_set {l : List Int} (h : Dg l) (i : Nat) {d : Int} (h0 : 0 ≤ d) (h1 : d < 65536) : Dg (l.set i d) := fun x hx => by
  rcases List.mem_or_eq_of_mem_set hx with hx | rfl
  · exact h x hx
  · exact ⟨h0, h1⟩
theorem dg_range {l : List Int} (h : Dg l) (i : Nat) : 0 ≤ l.getD i 0 ∧ l.getD i 0 < 65536 := by
  rw [List.getD_eq_getElem?_getD]
  by_cases c : i < l.length
  · rw [List.getElem?_eq_getElem c]; exact h _ (List.getElem_mem c)
  · rw [List.getElem?_eq_none (by omega)]; simp
theorem dg_int {l : List Int} (h : Dg l) (i : Nat) : l.getD i 0 = ((dg l i : Nat) : Int) := by
  have := dg_range h i; unfold dg; omega
theorem dg_lt {l : List Int} (h : Dg l) (i : Nat) : dg l i < B := by
  have := dg_range h i; unfold dg B; omega
theorem dg_out {l : List Int} {i : Nat} (h : l.length ≤ i) : dg l i = 0 := by
  unfold dg; rw [List.getD_eq_getElem?_getD, List.getElem?_eq_none h]; rfl

theorem val_append (a b : List Int) : val (a ++ b) = val a + B ^ a.length * val b := by
  induction a with
  | nil => simp [val]
  | cons x a ih =>
    simp only [List.cons_append, val, List.length_cons, ih, Bp_succ]
    rw [Nat.mul_add, Nat.mul_assoc]; omega
theorem val_one (x : Int) : val [x] = x.toNat := by simp [val]
theorem val_zeros (n : Nat) : val (List.replicate n 0) = 0 := by
  induction n with
  | zero => rfl
  | succ n ih => simp only [List.replicate_succ, val, ih]; rfl
theorem val_lt {l : List Int} (h : Dg l) : val l < B ^ l.length := by
  induction l with
  | nil => simp [val]
  | cons x l ih =>
    have := ih (Dg_cons.1 h).2
    have hx := (Dg_cons.1 h).1
    simp only [val, List.length_cons, Bp_succ]
    have h1 : x.toNat < B := by unfold B; omega
    have h2 : B * (val l + 1) ≤ B * B ^ l.length := Nat.mul_le_mul_left _ this
    rw [Nat.mul_add] at h2; omega
theorem dg_zero (x : Int) (l : List Int) : dg (x :: l) 0 = x.toNat := rfl
theorem dg_succ (x : Int) (l : List Int) (i : Nat) : dg (x :: l) (i + 1) = dg l i := rfl
theorem vt_cons (x : Int) (l : List Int) (n : Nat) : vt (x :: l) (n + 1) = x.toNat + B * vt l n := by
  induction n with
  | zero => simp [vt, dg]
  | succ n ih =>
    rw [vt, ih, vt, dg_succ, Bp_succ, Nat.mul_add, Nat.mul_assoc]; omega
theorem vt_val (l : List Int) : ∀ n : Nat, l.length ≤ n → vt l n = val l := by
  induction l with
  | nil =>
    intro n _
    induction n with
    | zero => rfl
    | succ n ih => rw [vt, ih (by simp), dg_out (by simp)]; simp [val]
  | cons x l ih =>
    intro n hn
    obtain ⟨m, rfl⟩ : ∃ m, n = m + 1 := ⟨n - 1, by simp at hn; omega⟩
    rw [vt_cons, ih m (by simp at hn; omega)]; rfl
theorem vt_lt {l : List Int} (h : Dg l) (n : Nat) : vt l n < B ^ n := by
  induction n with
  | zero => simp [vt]
  | succ n ih =>
    have := dg_lt h n
    rw [vt, Bp_succ]
    have h2 : B ^ n * (dg l n + 1) ≤ B ^ n * B := Nat.mul_le_mul_left _ this
    rw [Nat.mul_add, Nat.mul_comm (B ^ n) B] at h2; omega
theorem vt_mod {l : List Int} (h : Dg l) (n : Nat) : vt l n = val l % B ^ n := by
  have key : ∀ m, vt l (n + m) % B ^ n = vt l n := by
    intro m
    induction m with
    | zero => exact Nat.mod_eq_of_lt (vt_lt h n)
    | succ m ih =>
      rw [← Nat.add_assoc, vt, Nat.pow_add, Nat.mul_assoc, Nat.add_mul_mod_self_left]; exact ih
  rw [← vt_val l (n + l.length) (by omega), key]
theorem dg_eq {l : List Int} (h : Dg l) (n : Nat) : dg l n = val l / B ^ n % B := by
  have h1 := vt_mod h (n + 1)
  rw [vt, vt_mod h n] at h1
  have h2 : val l % B ^ (n + 1) = val l % B ^ n + B ^ n * (val l / B ^ n % B) := by
    rw [Nat.pow_succ, Nat.mod_mul]
  rw [h2] at h1
  exact Nat.eq_of_mul_eq_mul_left (Bp_pos n) (by omega)
theorem val_take_drop (l : List Int) (n : Nat) (hn : n ≤ l.length) : val l = val (l.take n) + B ^ n * val (l.drop n) := by
  have := val_append (l.take n) (l.drop n)
  rw [List.take_append_drop, List.length_take, Nat.min_eq_left hn] at this; exact this
theorem val_set {l : List Int} (h : Dg l) : ∀ (i : Nat) (d : Int), i < l.length → val (l.set i d) + B ^ i * dg l i = val l + B ^ i * d.toNat := by
  induction l with
  | nil => intro i d hi; simp at hi
  | cons x l ih =>
    intro i d hi
    cases i with
    | zero => simp only [List.set_cons_zero, val, dg_zero, Nat.pow_zero, Nat.one_mul]; omega
    | succ i =>
      have := ih (Dg_cons.1 h).2 i d (by simp at hi; omega)
      simp only [List.set_cons_succ, val, dg_succ, Bp_succ, Nat.mul_assoc]
      have h2 := congrArg (B * ·) this
      simp only [Nat.mul_add] at h2; omega
theorem dg_set_ne (l : List Int) (i j : Nat) (d : Int) (h : j ≠ i) : dg (l.set i d) j = dg l j := by
  unfold dg; rw [List.getD_eq_getElem?_getD, List.getD_eq_getElem?_getD, List.getElem?_set_ne (by omega)]

/-- the digits of a number, with no noughts behind the highest -/
def dig (n : Nat) : List Int := if _h : n = 0 then [] else ((n % B : Nat) : Int) :: dig (n / B)
  termination_by n
  decreasing_by exact Nat.div_lt_self (by omega) (by decide)
theorem dig_zero : dig 0 = [] := by rw [dig]; rfl
theorem dig_pos {n : Nat} (h : n ≠ 0) : dig n = ((n % B : Nat) : Int) :: dig (n / B) := by rw [dig, dif_neg h]
theorem dig_Dg (n : Nat) : Dg (dig n) := by
  induction n using Nat.strongRecOn with
  | ind n ih =>
    by_cases h : n = 0
    · subst h; rw [dig_zero]; exact Dg_nil
    · rw [dig_pos h]
      have := Nat.mod_lt n B_pos
      refine Dg_cons.2 ⟨⟨by omega, by unfold B at *; omega⟩, ih _ (Nat.div_lt_self (by omega) (by decide))⟩
theorem dig_val (n : Nat) : val (dig n) = n := by
  induction n using Nat.strongRecOn with
  | ind n ih =>
    by_cases h : n = 0
    · subst h; rw [dig_zero]; rfl
    · rw [dig_pos h, val, ih _ (Nat.div_lt_self (by omega) (by decide)), Int.toNat_natCast, Nat.mod_add_div]
theorem dig_length {n k : Nat} (h : n < B ^ k) : (dig n).length ≤ k := by
  induction k generalizing n with
  | zero =>
    have : n = 0 := by simp at h; omega
    subst this; rw [dig_zero]; simp
  | succ k ih =>
    by_cases h0 : n = 0
    · subst h0; rw [dig_zero]; simp
    · rw [dig_pos h0, List.length_cons]
      have := ih (n := n / B) (by rw [Nat.div_lt_iff_lt_mul B_pos, ← Nat.pow_succ]; exact h)
      omega
/-- a list that does not end in 0 is the digits of its number -/
theorem dig_of {l : List Int} (h : Dg l) (hl : l = [] ∨ dg l (l.length - 1) ≠ 0) : l = dig (val l) := by
  induction l with
  | nil => rw [val, dig_zero]
  | cons x l ih =>
    have hx := (Dg_cons.1 h).1
    have hd := (Dg_cons.1 h).2
    have hnz : val (x :: l) ≠ 0 := by
      intro h0
      rcases hl with hl | hl
      · cases hl
      · have := dg_eq h ((x :: l).length - 1)
        rw [h0] at this; simp at this; exact hl (by simpa using this)
    have ih' : l = dig (val l) := by
      apply ih hd
      by_cases c : l = []
      · left; exact c
      · right
        rcases hl with hl | hl
        · cases hl
        · have hlen : l.length ≠ 0 := by intro e; exact c (List.length_eq_zero_iff.1 e)
          obtain ⟨m, hm⟩ : ∃ m, l.length = m + 1 := ⟨l.length - 1, by omega⟩
          rw [List.length_cons, hm] at hl
          simp only [Nat.add_sub_cancel] at hl
          rw [dg_succ] at hl
          rw [hm]; simpa using hl
    have hx1 : x.toNat < B := by unfold B; omega
    rw [dig_pos hnz, val]
    have e1 : (x.toNat + B * val l) % B = x.toNat := by rw [Nat.add_mul_mod_self_left, Nat.mod_eq_of_lt hx1]
    have e2 : (x.toNat + B * val l) / B = val l := by rw [Nat.add_mul_div_left _ _ B_pos, Nat.div_eq_of_lt hx1, Nat.zero_add]
    rw [e1, e2, ← ih']
    congr 1; omega
/-- how many bits a number has -/
def blen (n : Nat) : Nat := if n = 0 then 0 else n.log2 + 1
theorem blen_lt (n : Nat) : n < 2 ^ blen n := by
  unfold blen; split
  · rename_i h; subst h; decide
  · exact Nat.lt_log2_self
theorem blen_le {n k : Nat} (h : n < 2 ^ k) : blen n ≤ k := by
  unfold blen; split
  · omega
  · rename_i h0; exact (Nat.log2_lt h0).2 h
theorem blen_ge {n : Nat} (h : n ≠ 0) : 2 ^ (blen n - 1) ≤ n := by
  unfold blen; rw [if_neg h]; exact Nat.log2_self_le h
theorem Bp_two (n : Nat) : B ^ n = 2 ^ (16 * n) := by rw [B_eq, ← Nat.pow_mul]
theorem dig_length' {n k : Nat} (h : n < 2 ^ (16 * k)) : (dig n).length ≤ k := dig_length (by rw [Bp_two]; exact h)
theorem val_lt_two {l : List Int} (h : Dg l) : val l < 2 ^ (16 * l.length) := by rw [← Bp_two]; exact val_lt h
end Go.Proofs.Ytlihonbmopeemaa.DigLaw
end
section
namespace Go.Proofs.Ytlihonbmopeemaa.Fl
open Go.Proofs.Ytlihonbmopeemaa.DigLaw

/-- how the document rounds x, whose last two bits lie below the last one that counts -/
def upOf (x : Nat) (lost : Bool) : Bool := decide (2 < x % 4) || (x % 4 == 2 && (lost || x / 4 % 2 == 1))
def kept (x : Nat) (lost : Bool) : Nat := x / 4 + (upOf x lost).toNat

theorem div_lem (v m D : Nat) (hm : m ≤ 1) : (2 * v + m) / 2 ^ (D + 1) = v / 2 ^ D ∧ (2 * v + m) % 2 ^ (D + 1) = 2 * (v % 2 ^ D) + m := by
  have hp := Nat.two_pow_pos D
  have h := Nat.div_add_mod v (2 ^ D)
  have hlt := Nat.mod_lt v hp
  rw [Nat.pow_succ]
  generalize 2 ^ D = g at *
  generalize v / g = q at *
  generalize v % g = r at *
  subst h
  have e : 2 * (g * q + r) + m = (2 * r + m) + (g * 2) * q := by
    rw [Nat.mul_add, Nat.mul_comm g 2, Nat.mul_assoc]; omega
  rw [e, Nat.add_mul_div_left _ _ (by omega), Nat.add_mul_mod_self_left, Nat.div_eq_of_lt (by omega), Nat.mod_eq_of_lt (by omega)]
  exact ⟨by omega, rfl⟩

/-- where at least two bits fall out -/
theorem kept_drop (v m E : Nat) (hm : m ≤ 1) : kept (v / 2 ^ E) (decide (m = 1) || decide (v % 2 ^ E ≠ 0)) = cutE (2 * v + m) (E + 3) := by
  rw [cutE_eq]
  obtain ⟨h1, h2⟩ := div_lem v m (E + 2) hm
  rw [show E + 3 = E + 2 + 1 from rfl, h1, h2]
  unfold kept upOf
  have hp := Nat.two_pow_pos E
  have e4 : v / 2 ^ (E + 2) = v / 2 ^ E / 4 := by rw [Nat.div_div_eq_div_mul, show 2 ^ (E + 2) = 2 ^ E * 4 from by rw [Nat.pow_succ, Nat.pow_succ]; omega]
  have em : v % 2 ^ (E + 2) = v % 2 ^ E + 2 ^ E * (v / 2 ^ E % 4) := by rw [show 2 ^ (E + 2) = 2 ^ E * 4 from by rw [Nat.pow_succ, Nat.pow_succ]; omega, Nat.mod_mul]
  have ep : 2 ^ (E + 2 + 1) = 8 * 2 ^ E := by rw [Nat.pow_succ, Nat.pow_succ, Nat.pow_succ]; omega
  rw [e4, em, ep]
  have ht := Nat.mod_lt v hp
  have hl : v / 2 ^ E % 4 < 4 := Nat.mod_lt _ (by decide)
  congr 1
  generalize v / 2 ^ E / 4 = q
  generalize v / 2 ^ E % 4 = low at *
  generalize v % 2 ^ E = t at *
  generalize 2 ^ E = g at *
  have hlow : low = 0 ∨ low = 1 ∨ low = 2 ∨ low = 3 := by omega
  rcases hlow with rfl | rfl | rfl | rfl
  · rw [if_neg (by omega)]; rfl
  · rw [if_neg (by omega)]; rfl
  · by_cases c : m = 1 ∨ t ≠ 0
    · have hL : (decide (m = 1) || decide (t ≠ 0)) = true := by
        rcases c with c | c
        · rw [decide_eq_true c]; rfl
        · rw [decide_eq_true c, Bool.or_true]
      rw [if_pos (by omega), hL]; rfl
    · have hm0 : ¬ m = 1 := fun h => c (.inl h)
      have ht0 : ¬ t ≠ 0 := fun h => c (.inr h)
      rw [decide_eq_false hm0, decide_eq_false ht0]
      by_cases o : q % 2 = 1
      · rw [if_pos (by omega), o]; rfl
      · have o0 : q % 2 = 0 := by omega
        rw [if_neg (by omega), o0]; rfl
  · rw [if_pos (by omega)]; rfl
/-- where one bit falls out -/
theorem kept_one (v : Nat) : kept (v * 2) false = cutE (2 * v) 2 := by
  rw [cutE_eq]
  unfold kept upOf
  have e : (2 : Nat) ^ 2 = 4 := by decide
  rw [e, Nat.mul_comm v 2]
  congr 1
  have hlow : 2 * v % 4 = 0 ∨ 2 * v % 4 = 2 := by omega
  rcases hlow with h | h
  · rw [h, if_neg (by omega)]; rfl
  · rw [h]
    by_cases o : 2 * v / 4 % 2 = 1
    · rw [if_pos (by omega), o]; rfl
    · have o0 : 2 * v / 4 % 2 = 0 := by omega
      rw [if_neg (by omega), o0]; rfl
/-- where none does -/
theorem kept_four (n : Nat) : kept (n * 4) false = n := by
  unfold kept upOf
  rw [Nat.mul_mod_left, Nat.mul_div_cancel _ (by decide)]; rfl
theorem cutE_zero (n : Nat) : cutE n 0 = n := by
  rw [cutE_eq, Nat.pow_zero, Nat.div_one, Nat.mod_one, if_neg (by omega)]; rfl
theorem cutE_one (n : Nat) : cutE (2 * n) 1 = n := by
  rw [cutE_eq, Nat.pow_one, Nat.mul_div_cancel_left _ (by decide), Nat.mul_mod_right, if_neg (by omega)]; rfl

/-- the document's word of what is kept, at the place e -/
def wordOf (q : Nat) (e : Int) : Nat :=
  let q' := if q = 2 ^ 53 then 2 ^ 52 else q
  let e' := if q = 2 ^ 53 then e + 1 else e
  if 971 < e' then INF else if q' < 2 ^ 52 then q' else (e' + 1075).toNat * 2 ^ 52 + (q' - 2 ^ 52)
theorem wordOf_eq (q : Nat) (e : Int) (h0 : -1074 ≤ e) (h1 : q ≤ 2 ^ 53) (h2 : (e + 1074).toNat = 0 ∨ 2 ^ 52 ≤ q) : wordOf q e = min ((e + 1074).toNat * 2 ^ 52 + q) INF := by
  unfold wordOf INF
  obtain ⟨k, rfl⟩ : ∃ k : Nat, e = (k : Int) - 1074 := ⟨(e + 1074).toNat, by omega⟩
  have ek : ((k : Int) - 1074 + 1074).toNat = k := by omega
  rw [ek] at h2 ⊢
  have c1 : (2 : Nat) ^ 53 = 9007199254740992 := by decide
  have c2 : (2 : Nat) ^ 52 = 4503599627370496 := by decide
  rw [c1, c2] at *
  dsimp only
  by_cases hq : q = 9007199254740992
  · rw [if_pos hq, if_pos hq]
    by_cases h3 : (971 : Int) < (k : Int) - 1074 + 1
    · rw [if_pos h3]; omega
    · rw [if_neg h3, if_neg (by omega)]
      have : ((k : Int) - 1074 + 1 + 1075).toNat = k + 2 := by omega
      rw [this]; omega
  · rw [if_neg hq, if_neg hq]
    by_cases h3 : (971 : Int) < (k : Int) - 1074
    · rw [if_pos h3]; omega
    · rw [if_neg h3]
      by_cases h4 : q < 4503599627370496
      · rw [if_pos h4]; omega
      · rw [if_neg h4]
        have : ((k : Int) - 1074 + 1075).toNat = k + 1 := by omega
        rw [this]; omega

theorem mid_zero : mid 0 = 1 := by
  unfold mid; rw [V_small (by decide), V_small (by decide)]
/-- far below the least number -/
theorem rung_low (m : Nat) (p : Int) (k : Nat) (h : m < 2 ^ k) (hk : (k : Int) + p < -1075) : rung m p = 0 := by
  have := (rung_le_iff m p 0 (by unfold INF; decide)).2 (Or.inl (by
    unfold hA hB
    rw [mid_zero, Nat.one_mul, show (p + 1075).toNat = 0 by omega, Nat.pow_zero, Nat.mul_one]
    exact Nat.lt_of_lt_of_le h (Nat.pow_le_pow_right (by decide) (by omega))))
  omega
def E46 : Nat := 2046
theorem E46_eq : E46 = 2046 := rfl
theorem V_inf : V INF = 2 ^ (52 + E46) := by
  have := V_binade E46 (2 ^ 52) (by decide) (Or.inr (Nat.le_refl _))
  have e : E46 * 2 ^ 52 + 2 ^ 52 = INF := by unfold INF E46; decide
  rw [e] at this; rw [this, ← Nat.pow_add]
/-- far above the greatest one -/
theorem rung_high (m : Nat) (p : Int) (k : Nat) (h : 2 ^ k ≤ m) (hk : 1024 < (k : Int) + p) : rung m p = INF := by
  by_cases c : rung m p = INF
  · exact c
  · exfalso
    have hle := rung_le_inf m p
    have h1 : rung m p ≤ INF - 1 := by omega
    have h0 : INF - 1 < INF := by unfold INF; decide
    have h2 := (rung_le_iff m p (INF - 1) h0).1 h1
    have hE := E46_eq
    have h3 : mid (INF - 1) < 2 ^ (52 + E46 + 1) := by
      unfold mid
      have e : INF - 1 + 1 = INF := by unfold INF; decide
      have := V_lt_succ (INF - 1)
      rw [e, V_inf] at this
      rw [e, V_inf, Nat.pow_succ]
      omega
    have h4 : hB (mid (INF - 1)) p < hA m p := by
      unfold hA hB
      calc mid (INF - 1) * 2 ^ (-(p + 1075)).toNat < 2 ^ (52 + E46 + 1) * 2 ^ (-(p + 1075)).toNat := Nat.mul_lt_mul_of_pos_right h3 (Nat.two_pow_pos _)
        _ ≤ 2 ^ k * 2 ^ (p + 1075).toNat := by rw [← Nat.pow_add, ← Nat.pow_add]; exact Nat.pow_le_pow_right (by decide) (by omega)
        _ ≤ m * 2 ^ (p + 1075).toNat := Nat.mul_le_mul_right _ h
    rcases h2 with h2 | h2
    · exact Nat.lt_asymm h2 h4
    · exact Nat.ne_of_gt h4 h2.1

theorem log2_twice {v m : Nat} (hv : v ≠ 0) (hm : m ≤ 1) : (2 * v + m).log2 = v.log2 + 1 := by
  have h0 : 2 * v + m ≠ 0 := by omega
  have h1 := Nat.log2_self_le hv
  have h2 : v < 2 ^ (v.log2 + 1) := Nat.lt_log2_self
  apply (Nat.log2_eq_iff h0).2
  rw [Nat.pow_succ, Nat.pow_succ]
  rw [Nat.pow_succ] at h2
  omega
end Go.Proofs.Ytlihonbmopeemaa.Fl
end
section
namespace Go.Proofs.Ytlihonbmopeemaa.Fl

theorem cINF' : INF = 9218868437227405312 := by unfold INF; decide
/-- a number of 53 bits, times a power of two, is one that a rung stands for -/
theorem rep_exact (e : Nat) : ∀ n : Nat, n < 2 ^ 53 → e ≤ 2045 → ∃ r, r < INF ∧ V r = n * 2 ^ e := by
  have c1 : (2 : Nat) ^ 53 = 9007199254740992 := by decide
  have c2 : (2 : Nat) ^ 52 = 4503599627370496 := by decide
  induction e with
  | zero =>
    intro n hn _
    have h := V_binade 0 n (Nat.le_of_lt hn) (Or.inl rfl)
    rw [Nat.zero_mul, Nat.zero_add] at h
    exact ⟨n, by rw [cINF']; omega, h⟩
  | succ e ih =>
    intro n hn he
    by_cases c : 2 ^ 52 ≤ n
    · have h := V_binade (e + 1) n (Nat.le_of_lt hn) (Or.inr c)
      exact ⟨(e + 1) * 2 ^ 52 + n, by rw [cINF', c2]; omega, h⟩
    · obtain ⟨r, h1, h2⟩ := ih (2 * n) (by omega) (by omega)
      exact ⟨r, h1, by rw [h2, Nat.pow_succ, Nat.mul_comm 2 n, Nat.mul_assoc, Nat.mul_comm 2]⟩
theorem rung_exact (n e : Nat) (hn : n < 2 ^ 53) (he : e ≤ 2045) : rung (n * 2 ^ e) (-1074) < INF ∧ V (rung (n * 2 ^ e) (-1074)) = n * 2 ^ e := by
  obtain ⟨r, h1, h2⟩ := rep_exact e n hn he
  rw [← h2, rung_V r (Nat.le_of_lt h1)]; exact ⟨h1, rfl⟩
def E74 : Nat := 1074
theorem rung_zero_at (n : Nat) : rung n 0 = rung (n * 2 ^ E74) (-1074) := by
  have e : ((0 : Int) - -1074).toNat = E74 := by unfold E74; decide
  rw [rung_at n 0 (-1074) (by omega), e]
theorem whole_V (n : Nat) (hn : n < 2 ^ 53) : rung n 0 < INF ∧ V (rung n 0) = n * 2 ^ E74 := by
  rw [rung_zero_at]; exact rung_exact n E74 hn (by unfold E74; decide)
end Go.Proofs.Ytlihonbmopeemaa.Fl
end
