/- Plain law of IEEE 754 doubles: the rung that a number is rounded to lies at or below r just if the number lies below the middle behind r, or on it and r is even. -/
import Derived.Test.YtijjofdnkdfccaaFlA
namespace Go.Proofs.Ytijjofdnkdfccaa.Fl
open Ieee

def INF : Nat := 2047 * 2 ^ 52

def rung (m : Nat) (p : Int) : Nat := double.nearest false m p

theorem leastPlace_eq : double.leastPlace = -1074 := by decide
theorem binade_eq : double.binade = 2 ^ 52 := rfl
theorem fractionBits_eq : double.fractionBits = 52 := rfl
theorem infRung_eq : double.infRung = INF := by unfold Format.infRung INF; rw [binade_eq]; rfl
theorem signWeight_eq : double.signWeight = 2 ^ 63 := by decide

theorem word_false (r : Nat) : double.word false r = r := rfl
theorem word_true (r : Nat) : double.word true r = 2 ^ 63 + r := by unfold Format.word; rw [signWeight_eq]; rfl

theorem nearest_eq (s : Bool) (m : Nat) (p : Int) : double.nearest s m p = double.word s (rung m p) := by
  unfold rung Format.nearest
  by_cases h : m = 0
  · rw [if_pos h, if_pos h, word_false]
  · rw [if_neg h, if_neg h, word_false]; simp only [cut_even_neg]

theorem rung_zero (p : Int) : rung 0 p = 0 := by unfold rung Format.nearest; rw [if_pos rfl]; rfl

def lastOf (m : Nat) (p : Int) : Int := max (p + m.log2 - 52) (-1074)

theorem rung_def (m : Nat) (p : Int) (h : m ≠ 0) :
    rung m p = min ((lastOf m p + 1074).toNat * 2 ^ 52 + cutE (m * 2 ^ (p - lastOf m p).toNat) (lastOf m p - p).toNat) INF := by
  unfold rung Format.nearest
  rw [if_neg h, leastPlace_eq, binade_eq, infRung_eq, fractionBits_eq, word_false, cut_even_neg]
  simp only [Nat.shiftLeft_eq]
  have : ((52 : Nat) : Int) = 52 := rfl
  rw [this]
  show min (((lastOf m p) - -1074).toNat * 2 ^ 52 + cutE (m * 2 ^ (p - lastOf m p).toNat) (lastOf m p - p).toNat) INF = _
  rw [Int.sub_neg]

theorem rung_le_inf (m : Nat) (p : Int) : rung m p ≤ INF := by
  by_cases h : m = 0
  · subst h; rw [rung_zero]; exact Nat.zero_le _
  · rw [rung_def m p h]; exact Nat.min_le_right _ _

theorem cutE_le_iff (n d j : Nat) : cutE n d ≤ j ↔ 2 * n < (2 * j + 1) * 2 ^ d ∨ (2 * n = (2 * j + 1) * 2 ^ d ∧ j % 2 = 0) := by
  rw [cutE_eq]
  have hg : 0 < 2 ^ d := Nat.two_pow_pos d
  generalize 2 ^ d = g at *
  have hn : n = g * (n / g) + n % g := (Nat.div_add_mod n g).symm
  have hr : n % g < g := Nat.mod_lt _ hg
  generalize n / g = q at *
  generalize n % g = r at *
  subst hn
  rcases Nat.lt_trichotomy q j with h | h | h
  · -- q < j
    obtain ⟨e, rfl⟩ : ∃ e, j = q + 1 + e := ⟨j - q - 1, by omega⟩
    have e2 : (2 * (q + 1 + e) + 1) * g = 2 * (g * q) + 3 * g + 2 * (e * g) := by
      simp only [Nat.add_mul, Nat.mul_add, Nat.mul_assoc, Nat.mul_comm g q]; omega
    rw [e2]
    constructor
    · intro _; left; have := Nat.zero_le (e * g); omega
    · intro _; split <;> omega
  · subst h
    have e2 : (2 * q + 1) * g = 2 * (g * q) + g := by
      simp only [Nat.add_mul, Nat.mul_assoc, Nat.mul_comm g q]; omega
    rw [e2]
    constructor
    · intro h
      split at h
      · omega
      · rename_i hc
        by_cases h1 : 2 * r < g
        · left; omega
        · right; constructor
          · omega
          · omega
    · intro h
      rw [if_neg]
      · omega
      · omega
  · obtain ⟨e, rfl⟩ : ∃ e, q = j + 1 + e := ⟨q - j - 1, by omega⟩
    have e2 : (2 * j + 1) * g = 2 * (j * g) + g := by
      simp only [Nat.add_mul, Nat.mul_assoc]; omega
    have e3 : g * (j + 1 + e) = j * g + g + e * g := by
      rw [Nat.mul_comm, Nat.add_mul, Nat.add_mul, Nat.one_mul]
    rw [e2, e3]
    constructor
    · intro h; split at h <;> omega
    · intro h; have := Nat.zero_le (e * g); omega

def mid (r : Nat) : Nat := V r + V (r + 1)

/-- scaled comparison -/
def hA (m : Nat) (p : Int) : Nat := m * 2 ^ (p + 1075).toNat
def hB (M : Nat) (p : Int) : Nat := M * 2 ^ (-(p + 1075)).toNat

theorem scale (m M : Nat) (p last : Int) (hl : -1074 ≤ last) : ∃ t, m * 2 ^ (p - last).toNat * 2 ^ ((last + 1074).toNat + 1) = hA m p * 2 ^ t ∧ M * 2 ^ (last - p).toNat = hB M p * 2 ^ t := by
  unfold hA hB
  by_cases hP : 0 ≤ p + 1075
  · refine ⟨(last - p).toNat, ?_, ?_⟩
    · rw [Nat.mul_assoc, Nat.mul_assoc, ← Nat.pow_add, ← Nat.pow_add]; congr 2; omega
    · rw [show (-(p + 1075)).toNat = 0 by omega]; simp
  · refine ⟨((last - p) - (-(p + 1075))).toNat, ?_, ?_⟩
    · rw [Nat.mul_assoc, Nat.mul_assoc, ← Nat.pow_add, ← Nat.pow_add]; congr 2; omega
    · rw [Nat.mul_assoc, ← Nat.pow_add]; congr 2; omega

theorem V_pos_succ (r : Nat) : 0 < V (r + 1) := Nat.lt_of_le_of_lt (Nat.zero_le _) (V_lt_succ r)

theorem cutE_ge {n d j : Nat} (h : j * 2 ^ d ≤ n) : j ≤ cutE n d := by
  rw [cutE_eq]
  have := (Nat.le_div_iff_mul_le (Nat.two_pow_pos d)).2 h
  omega
theorem cutE_le {n d j : Nat} (h : n < j * 2 ^ d) : cutE n d ≤ j := by
  rw [cutE_eq]
  have := (Nat.div_lt_iff_lt_mul (Nat.two_pow_pos d)).2 h
  split <;> omega
theorem kept_gen (n d k : Nat) (hlt : n < 2 ^ 53 * 2 ^ d) (hge : k = 0 ∨ 2 ^ 52 * 2 ^ d ≤ n) : cutE n d ≤ 2 ^ 53 ∧ (k = 0 ∨ 2 ^ 52 ≤ cutE n d) :=
  ⟨cutE_le hlt, hge.imp id cutE_ge⟩
theorem mul_ac1 (c g x : Nat) : (c * g) * (2 * x) = (2 * (c * x)) * g := by ac_rfl
theorem mul_ac2 (n x : Nat) : n * (2 * x) = (2 * n) * x := by ac_rfl
theorem mul_ac3 (a b c : Nat) : a * b * c = (a * c) * b := by ac_rfl
theorem kept_lt (m : Nat) (p l : Int) (h : p + m.log2 - 52 ≤ l) : m * 2 ^ (p - l).toNat < 2 ^ 53 * 2 ^ (l - p).toNat := by
  have hL2 : m < 2 ^ (m.log2 + 1) := Nat.lt_log2_self
  have : m * 2 ^ (p - l).toNat < 2 ^ (m.log2 + 1) * 2 ^ (p - l).toNat := Nat.mul_lt_mul_of_pos_right hL2 (Nat.two_pow_pos _)
  rw [← Nat.pow_add] at this
  rw [← Nat.pow_add]
  exact Nat.lt_of_lt_of_le this (Nat.pow_le_pow_right (by decide) (by omega))
theorem kept_ge (m : Nat) (p l : Int) (hm : m ≠ 0) (h : l = p + m.log2 - 52) : 2 ^ 52 * 2 ^ (l - p).toNat ≤ m * 2 ^ (p - l).toNat := by
  have hL1 : 2 ^ m.log2 ≤ m := Nat.log2_self_le hm
  have : 2 ^ m.log2 * 2 ^ (p - l).toNat ≤ m * 2 ^ (p - l).toNat := Nat.mul_le_mul_right _ hL1
  rw [← Nat.pow_add] at this
  rw [← Nat.pow_add]
  exact Nat.le_trans (Nat.pow_le_pow_right (by decide) (by omega)) this
theorem lastOf_ge (m : Nat) (p : Int) : p + m.log2 - 52 ≤ lastOf m p ∧ -1074 ≤ lastOf m p ∧ (lastOf m p = -1074 ∨ lastOf m p = p + m.log2 - 52) := by
  unfold lastOf; omega
/-- what is kept of a number: never more than 2^53, and at least 2^52 unless it is tiny -/
theorem kept_facts (m : Nat) (p : Int) (hm : m ≠ 0) :
    m * 2 ^ (p - lastOf m p).toNat < 2 ^ 53 * 2 ^ (lastOf m p - p).toNat ∧
    ((lastOf m p + 1074).toNat = 0 ∨ 2 ^ 52 * 2 ^ (lastOf m p - p).toNat ≤ m * 2 ^ (p - lastOf m p).toNat) := by
  obtain ⟨h1, h2, h3⟩ := lastOf_ge m p
  refine ⟨kept_lt m p _ h1, ?_⟩
  rcases h3 with h3 | h3
  · left; rw [h3]; rfl
  · right; exact kept_ge m p _ hm h3

theorem core_le (n d k r M : Nat) (hM : M = mid r) (hlt : n < 2 ^ 53 * 2 ^ d) (hge : k = 0 ∨ 2 ^ 52 * 2 ^ d ≤ n) :
    k * 2 ^ 52 + cutE n d ≤ r ↔ n * 2 ^ (k + 1) < M * 2 ^ d ∨ (n * 2 ^ (k + 1) = M * 2 ^ d ∧ r % 2 = 0) := by
  obtain ⟨hc1, hc2⟩ := kept_gen n d k hlt hge
  have hd : 0 < 2 ^ d := Nat.two_pow_pos d
  have hk : 0 < 2 ^ k := Nat.two_pow_pos k
  have hk1 : 2 ^ (k + 1) = 2 * 2 ^ k := by rw [Nat.pow_succ, Nat.mul_comm]
  by_cases hA1 : k * 2 ^ 52 + 2 ^ 53 ≤ r
  · -- above
    constructor
    · intro _; left
      have h1 : V (k * 2 ^ 52 + 2 ^ 53) = 2 ^ 53 * 2 ^ k := V_binade k _ (Nat.le_refl _) (Or.inr (by decide))
      have h2 := V_mono hA1
      have h3 : 2 * (2 ^ 53 * 2 ^ k) ≤ M := by rw [hM]; unfold mid; have := V_lt_succ r; omega
      calc n * 2 ^ (k + 1) < (2 ^ 53 * 2 ^ d) * 2 ^ (k + 1) := Nat.mul_lt_mul_of_pos_right hlt (Nat.two_pow_pos _)
        _ = (2 * (2 ^ 53 * 2 ^ k)) * 2 ^ d := by rw [hk1, mul_ac1]
        _ ≤ M * 2 ^ d := Nat.mul_le_mul_right _ h3
    · intro _; omega
  · by_cases hA2 : k ≠ 0 ∧ r < k * 2 ^ 52 + 2 ^ 52
    · obtain ⟨h0, h1⟩ := hA2
      have hc3 : 2 ^ 52 ≤ cutE n d := by omega
      have hge' : 2 ^ 52 * 2 ^ d ≤ n := hge.resolve_left h0
      have h4 : V (k * 2 ^ 52 + 2 ^ 52) = 2 ^ 52 * 2 ^ k := V_binade k _ (by decide) (Or.inr (Nat.le_refl _))
      have h5 := V_mono (a := r + 1) (b := k * 2 ^ 52 + 2 ^ 52) (by omega)
      have h6 : M < 2 * (2 ^ 52 * 2 ^ k) := by rw [hM]; unfold mid; have := V_lt_succ r; omega
      have h7 : M * 2 ^ d < n * 2 ^ (k + 1) := by
        calc M * 2 ^ d < (2 * (2 ^ 52 * 2 ^ k)) * 2 ^ d := Nat.mul_lt_mul_of_pos_right h6 hd
          _ = (2 ^ 52 * 2 ^ d) * 2 ^ (k + 1) := by rw [hk1, mul_ac1]
          _ ≤ n * 2 ^ (k + 1) := Nat.mul_le_mul_right _ hge'
      constructor
      · intro h; exfalso; omega
      · intro h; exfalso
        rcases h with h | h
        · exact Nat.lt_asymm h h7
        · exact Nat.ne_of_gt h7 h.1
    · -- inside
      have hin : k = 0 ∨ k * 2 ^ 52 + 2 ^ 52 ≤ r := by omega
      obtain ⟨j, rfl⟩ : ∃ j, r = k * 2 ^ 52 + j := ⟨r - k * 2 ^ 52, by omega⟩
      have hj : j < 2 ^ 53 := by omega
      have hj2 : k = 0 ∨ 2 ^ 52 ≤ j := by omega
      have h1 : M = (2 * j + 1) * 2 ^ k := by
        rw [hM]; unfold mid
        rw [V_binade k j (Nat.le_of_lt hj) hj2, Nat.add_assoc, V_binade k (j + 1) hj (hj2.elim Or.inl fun h => Or.inr (Nat.le_succ_of_le h))]
        rw [← Nat.add_mul, ← Nat.add_assoc, ← Nat.two_mul]
      rw [h1]
      have h2 : n * 2 ^ (k + 1) = (2 * n) * 2 ^ k := by rw [hk1, mul_ac2]
      have h3 : (2 * j + 1) * 2 ^ k * 2 ^ d = ((2 * j + 1) * 2 ^ d) * 2 ^ k := mul_ac3 _ _ _
      rw [h2, h3, Nat.mul_lt_mul_right hk]
      have h4 : (2 * n) * 2 ^ k = ((2 * j + 1) * 2 ^ d) * 2 ^ k ↔ 2 * n = (2 * j + 1) * 2 ^ d := ⟨fun h => Nat.eq_of_mul_eq_mul_right hk h, fun h => by rw [h]⟩
      rw [h4]
      have h5 := cutE_le_iff n d j
      have h6 : (k * 2 ^ 52 + j) % 2 = j % 2 := by omega
      rw [h6, ← h5]; omega
theorem min_le_iff {a r I : Nat} (h : r < I) : min a I ≤ r ↔ a ≤ r := by omega
theorem rung_le_iff (m : Nat) (p : Int) (r : Nat) (hr : r < INF) :
    rung m p ≤ r ↔ hA m p < hB (mid r) p ∨ (hA m p = hB (mid r) p ∧ r % 2 = 0) := by
  by_cases hm : m = 0
  · subst hm
    rw [rung_zero]
    have h1 : 0 < mid r := by have := V_pos_succ r; unfold mid; omega
    have h2 : 0 < hB (mid r) p := Nat.mul_pos h1 (Nat.two_pow_pos _)
    have h3 : hA 0 p = 0 := by unfold hA; rw [Nat.zero_mul]
    rw [h3]; exact ⟨fun _ => Or.inl h2, fun _ => Nat.zero_le _⟩
  · rw [rung_def m p hm, min_le_iff hr]
    obtain ⟨h1, h2⟩ := kept_facts m p hm
    obtain ⟨t, ht1, ht2⟩ := scale m (mid r) p (lastOf m p) (lastOf_ge m p).2.1
    have ht : 0 < 2 ^ t := Nat.two_pow_pos t
    rw [core_le _ _ _ r (mid r) rfl h1 h2, ht1, ht2, Nat.mul_lt_mul_right ht]
    exact ⟨fun h => h.imp id fun h => ⟨Nat.eq_of_mul_eq_mul_right ht h.1, h.2⟩, fun h => h.imp id fun h => ⟨by rw [h.1], h.2⟩⟩

end Go.Proofs.Ytijjofdnkdfccaa.Fl
