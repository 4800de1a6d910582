/- Plain law of numbers as digits to the base 65536, the lowest first (no program in sight). -/
import Derived.Test.YtijjofdnkdfccaaNum
namespace Go.Proofs.Ytijjofdnkdfccaa.DigLaw

def B : Nat := 65536
theorem B_eq : B = 2 ^ 16 := by decide
def Dg (l : List Int) : Prop := ∀ x ∈ l, 0 ≤ x ∧ x < 65536
def val : List Int → Nat
  | [] => 0
  | x :: l => x.toNat + B * val l
def dg (l : List Int) (i : Nat) : Nat := (l.getD i 0).toNat
/-- the number of the first n digits -/
def vt (l : List Int) : Nat → Nat
  | 0 => 0
  | n + 1 => vt l n + B ^ n * dg l n

theorem B_pos : 0 < B := by decide
theorem Bp_pos (n : Nat) : 0 < B ^ n := Nat.pow_pos B_pos
theorem Bp_succ (n : Nat) : B ^ (n + 1) = B * B ^ n := by rw [Nat.pow_succ, Nat.mul_comm]

theorem Dg_nil : Dg [] := by intro x h; cases h
theorem Dg_cons {x : Int} {l : List Int} : Dg (x :: l) ↔ (0 ≤ x ∧ x < 65536) ∧ Dg l := by
  unfold Dg; simp
theorem Dg_append {a b : List Int} : Dg (a ++ b) ↔ Dg a ∧ Dg b := by
  unfold Dg; simp only [List.mem_append]
  exact ⟨fun h => ⟨fun x hx => h x (.inl hx), fun x hx => h x (.inr hx)⟩, fun h x hx => hx.elim (h.1 x) (h.2 x)⟩
theorem Dg_one {x : Int} (h : 0 ≤ x) (h1 : x < 65536) : Dg [x] := Dg_cons.2 ⟨⟨h, h1⟩, Dg_nil⟩
theorem Dg_nat {n : Nat} (h : n < 65536) : Dg [(n : Int)] := Dg_one (by omega) (by omega)
theorem Dg_take {l : List Int} (h : Dg l) (n : Nat) : Dg (l.take n) := fun x hx => h x (List.mem_of_mem_take hx)
theorem Dg_drop {l : List Int} (h : Dg l) (n : Nat) : Dg (l.drop n) := fun x hx => h x (List.mem_of_mem_drop hx)
theorem Dg_zeros (n : Nat) : Dg (List.replicate n 0) := fun x hx => by
  have := List.eq_of_mem_replicate hx; subst this; exact ⟨by omega, by omega⟩
theorem Dg_set {l : List Int} (h : Dg l) (i : Nat) {d : Int} (h0 : 0 ≤ d) (h1 : d < 65536) : Dg (l.set i d) := fun x hx => by
  rcases List.mem_or_eq_of_mem_set hx with hx | rfl
  · exact h x hx
  · exact ⟨h0, h1⟩
theorem dg_range {l : List Int} (h : Dg l) (i : Nat) : 0 ≤ l.getD i 0 ∧ l.getD i 0 < 65536 := by
  rw [List.getD_eq_getElem?_getD]
  by_cases c : i < l.length
  · rw [List.getElem?_eq_getElem c]; exact h _ (List.getElem_mem c)
  · rw [List.getElem?_eq_none (by omega)]; simp
theorem dg_int {l : List Int} (h : Dg l) (i : Nat) : l.getD i 0 = ((dg l i : Nat) : Int) := by
  have := dg_range h i; unfold dg; omega
theorem dg_lt {l : List Int} (h : Dg l) (i : Nat) : dg l i < B := by
  have := dg_range h i; unfold dg B; omega
theorem dg_out {l : List Int} {i : Nat} (h : l.length ≤ i) : dg l i = 0 := by
  unfold dg; rw [List.getD_eq_getElem?_getD, List.getElem?_eq_none h]; rfl

theorem val_append (a b : List Int) : val (a ++ b) = val a + B ^ a.length * val b := by
  induction a with
  | nil => simp [val]
  | cons x a ih =>
    simp only [List.cons_append, val, List.length_cons, ih, Bp_succ]
    rw [Nat.mul_add, Nat.mul_assoc]; omega
theorem val_one (x : Int) : val [x] = x.toNat := by simp [val]
theorem val_zeros (n : Nat) : val (List.replicate n 0) = 0 := by
  induction n with
  | zero => rfl
  | succ n ih => simp only [List.replicate_succ, val, ih]; rfl
theorem val_lt {l : List Int} (h : Dg l) : val l < B ^ l.length := by
  induction l with
  | nil => simp [val]
  | cons x l ih =>
    have := ih (Dg_cons.1 h).2
    have hx := (Dg_cons.1 h).1
    simp only [val, List.length_cons, Bp_succ]
    have h1 : x.toNat < B := by unfold B; omega
    have h2 : B * (val l + 1) ≤ B * B ^ l.length := Nat.mul_le_mul_left _ this
    rw [Nat.mul_add] at h2; omega
theorem dg_zero (x : Int) (l : List Int) : dg (x :: l) 0 = x.toNat := rfl
theorem dg_succ (x : Int) (l : List Int) (i : Nat) : dg (x :: l) (i + 1) = dg l i := rfl
theorem vt_cons (x : Int) (l : List Int) (n : Nat) : vt (x :: l) (n + 1) = x.toNat + B * vt l n := by
  induction n with
  | zero => simp [vt, dg]
  | succ n ih =>
    rw [vt, ih, vt, dg_succ, Bp_succ, Nat.mul_add, Nat.mul_assoc]; omega
theorem vt_val (l : List Int) : ∀ n : Nat, l.length ≤ n → vt l n = val l := by
  induction l with
  | nil =>
    intro n _
    induction n with
    | zero => rfl
    | succ n ih => rw [vt, ih (by simp), dg_out (by simp)]; simp [val]
  | cons x l ih =>
    intro n hn
    obtain ⟨m, rfl⟩ : ∃ m, n = m + 1 := ⟨n - 1, by simp at hn; omega⟩
    rw [vt_cons, ih m (by simp at hn; omega)]; rfl
theorem vt_lt {l : List Int} (h : Dg l) (n : Nat) : vt l n < B ^ n := by
  induction n with
  | zero => simp [vt]
  | succ n ih =>
    have := dg_lt h n
    rw [vt, Bp_succ]
    have h2 : B ^ n * (dg l n + 1) ≤ B ^ n * B := Nat.mul_le_mul_left _ this
    rw [Nat.mul_add, Nat.mul_comm (B ^ n) B] at h2; omega
theorem vt_mod {l : List Int} (h : Dg l) (n : Nat) : vt l n = val l % B ^ n := by
  have key : ∀ m, vt l (n + m) % B ^ n = vt l n := by
    intro m
    induction m with
    | zero => exact Nat.mod_eq_of_lt (vt_lt h n)
    | succ m ih =>
      rw [← Nat.add_assoc, vt, Nat.pow_add, Nat.mul_assoc, Nat.add_mul_mod_self_left]; exact ih
  rw [← vt_val l (n + l.length) (by omega), key]
theorem dg_eq {l : List Int} (h : Dg l) (n : Nat) : dg l n = val l / B ^ n % B := by
  have h1 := vt_mod h (n + 1)
  rw [vt, vt_mod h n] at h1
  have h2 : val l % B ^ (n + 1) = val l % B ^ n + B ^ n * (val l / B ^ n % B) := by
    rw [Nat.pow_succ, Nat.mod_mul]
  rw [h2] at h1
  exact Nat.eq_of_mul_eq_mul_left (Bp_pos n) (by omega)
theorem val_take_drop (l : List Int) (n : Nat) (hn : n ≤ l.length) : val l = val (l.take n) + B ^ n * val (l.drop n) := by
  have := val_append (l.take n) (l.drop n)
  rw [List.take_append_drop, List.length_take, Nat.min_eq_left hn] at this; exact this
theorem val_set {l : List Int} (h : Dg l) : ∀ (i : Nat) (d : Int), i < l.length → val (l.set i d) + B ^ i * dg l i = val l + B ^ i * d.toNat := by
  induction l with
  | nil => intro i d hi; simp at hi
  | cons x l ih =>
    intro i d hi
    cases i with
    | zero => simp only [List.set_cons_zero, val, dg_zero, Nat.pow_zero, Nat.one_mul]; omega
    | succ i =>
      have := ih (Dg_cons.1 h).2 i d (by simp at hi; omega)
      simp only [List.set_cons_succ, val, dg_succ, Bp_succ, Nat.mul_assoc]
      have h2 := congrArg (B * ·) this
      simp only [Nat.mul_add] at h2; omega
theorem dg_set_ne (l : List Int) (i j : Nat) (d : Int) (h : j ≠ i) : dg (l.set i d) j = dg l j := by
  unfold dg; rw [List.getD_eq_getElem?_getD, List.getD_eq_getElem?_getD, List.getElem?_set_ne (by omega)]

/-- the digits of a number, with no noughts behind the highest -/
def dig (n : Nat) : List Int := if _h : n = 0 then [] else ((n % B : Nat) : Int) :: dig (n / B)
  termination_by n
  decreasing_by exact Nat.div_lt_self (by omega) (by decide)
theorem dig_zero : dig 0 = [] := by rw [dig]; rfl
theorem dig_pos {n : Nat} (h : n ≠ 0) : dig n = ((n % B : Nat) : Int) :: dig (n / B) := by rw [dig, dif_neg h]
theorem dig_Dg (n : Nat) : Dg (dig n) := by
  induction n using Nat.strongRecOn with
  | ind n ih =>
    by_cases h : n = 0
    · subst h; rw [dig_zero]; exact Dg_nil
    · rw [dig_pos h]
      have := Nat.mod_lt n B_pos
      refine Dg_cons.2 ⟨⟨by omega, by unfold B at *; omega⟩, ih _ (Nat.div_lt_self (by omega) (by decide))⟩
theorem dig_val (n : Nat) : val (dig n) = n := by
  induction n using Nat.strongRecOn with
  | ind n ih =>
    by_cases h : n = 0
    · subst h; rw [dig_zero]; rfl
    · rw [dig_pos h, val, ih _ (Nat.div_lt_self (by omega) (by decide)), Int.toNat_natCast, Nat.mod_add_div]
theorem dig_nil_iff (n : Nat) : dig n = [] ↔ n = 0 := by
  by_cases h : n = 0
  · subst h; simp [dig_zero]
  · rw [dig_pos h]; simp [h]
theorem dig_length {n k : Nat} (h : n < B ^ k) : (dig n).length ≤ k := by
  induction k generalizing n with
  | zero =>
    have : n = 0 := by simp at h; omega
    subst this; rw [dig_zero]; simp
  | succ k ih =>
    by_cases h0 : n = 0
    · subst h0; rw [dig_zero]; simp
    · rw [dig_pos h0, List.length_cons]
      have := ih (n := n / B) (by rw [Nat.div_lt_iff_lt_mul B_pos, ← Nat.pow_succ]; exact h)
      omega
/-- a list that does not end in 0 is the digits of its number -/
theorem dig_of {l : List Int} (h : Dg l) (hl : l = [] ∨ dg l (l.length - 1) ≠ 0) : l = dig (val l) := by
  induction l with
  | nil => rw [val, dig_zero]
  | cons x l ih =>
    have hx := (Dg_cons.1 h).1
    have hd := (Dg_cons.1 h).2
    have hnz : val (x :: l) ≠ 0 := by
      intro h0
      rcases hl with hl | hl
      · cases hl
      · have := dg_eq h ((x :: l).length - 1)
        rw [h0] at this; simp at this; exact hl (by simpa using this)
    have ih' : l = dig (val l) := by
      apply ih hd
      by_cases c : l = []
      · left; exact c
      · right
        rcases hl with hl | hl
        · cases hl
        · have hlen : l.length ≠ 0 := by intro e; exact c (List.length_eq_zero_iff.1 e)
          obtain ⟨m, hm⟩ : ∃ m, l.length = m + 1 := ⟨l.length - 1, by omega⟩
          rw [List.length_cons, hm] at hl
          simp only [Nat.add_sub_cancel] at hl
          rw [dg_succ] at hl
          rw [hm]; simpa using hl
    have hx1 : x.toNat < B := by unfold B; omega
    rw [dig_pos hnz, val]
    have e1 : (x.toNat + B * val l) % B = x.toNat := by rw [Nat.add_mul_mod_self_left, Nat.mod_eq_of_lt hx1]
    have e2 : (x.toNat + B * val l) / B = val l := by rw [Nat.add_mul_div_left _ _ B_pos, Nat.div_eq_of_lt hx1, Nat.zero_add]
    rw [e1, e2, ← ih']
    congr 1; omega
/-- how many bits a number has -/
def blen (n : Nat) : Nat := if n = 0 then 0 else n.log2 + 1
theorem blen_lt (n : Nat) : n < 2 ^ blen n := by
  unfold blen; split
  · rename_i h; subst h; decide
  · exact Nat.lt_log2_self
theorem blen_le {n k : Nat} (h : n < 2 ^ k) : blen n ≤ k := by
  unfold blen; split
  · omega
  · rename_i h0; exact (Nat.log2_lt h0).2 h
theorem blen_ge {n : Nat} (h : n ≠ 0) : 2 ^ (blen n - 1) ≤ n := by
  unfold blen; rw [if_neg h]; exact Nat.log2_self_le h
theorem Bp_two (n : Nat) : B ^ n = 2 ^ (16 * n) := by rw [B_eq, ← Nat.pow_mul]
theorem dig_length' {n k : Nat} (h : n < 2 ^ (16 * k)) : (dig n).length ≤ k := dig_length (by rw [Bp_two]; exact h)
theorem val_lt_two {l : List Int} (h : Dg l) : val l < 2 ^ (16 * l.length) := by rw [← Bp_two]; exact val_lt h
end Go.Proofs.Ytijjofdnkdfccaa.DigLaw
