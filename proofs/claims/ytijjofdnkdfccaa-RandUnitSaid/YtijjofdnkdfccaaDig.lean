/- What the document's digit functions (minstrelref01) compute: on lists of digits below 65536 they answer with the digits of the sum, difference, product, quotient, .. of the numbers. Conditions: the lists are digits, and shorter than a million. -/
import Derived.Test.YtijjofdnkdfccaaRefx
import Derived.Test.YtijjofdnkdfccaaDigLaw
namespace Go.Proofs.Ytijjofdnkdfccaa.Dig
open Go.RowKit Go.Proofs.Ytijjofdnkdfccaa.Ref Go.Proofs.YtijjofdnkdfccaaW.PrintWords Go.Proofs.YtijjofdnkdfccaaW.PrintLast Go.Proofs.YtijjofdnkdfccaaW.PrintMore
open Go.Proofs.Ytijjofdnkdfccaa.Num Go.Proofs.Ytijjofdnkdfccaa.DigLaw

theorem rd_nat (l : List Int) (i : Nat) : rd l (i : Int) = l.getD i 0 := by unfold rd; rw [Int.toNat_natCast]
theorem rd_dg {l : List Int} (h : Dg l) (i : Nat) : rd l (i : Int) = ((dg l i : Nat) : Int) := by rw [rd_nat, dg_int h]

theorem at_is {l : List Int} (h : Dg l) (i : Nat) : minstrelref01_at.f l (i : Int) = some ((dg l i : Nat) : Int) := by
  unfold minstrelref01_at.f
  by_cases c : (i : Int) < (l.length : Int)
  · rw [if_pos c, if_pos (by omega), rd_dg h]
  · rw [if_neg c, dg_out (by omega)]; rfl

/-! ### Trim -/
theorem take_of_zeros {l : List Int} : ∀ (i : Nat), i ≤ l.length → (∀ j, i ≤ j → dg l j = 0) → val (l.take i) = val l := by
  intro i hi hz
  rw [val_take_drop l i hi]
  have : val (l.drop i) = 0 := by
    have key : ∀ n, vt (l.drop i) n = 0 := by
      intro n
      induction n with
      | zero => rfl
      | succ n ih =>
        have e : dg (l.drop i) n = dg l (i + n) := by unfold dg; rw [List.getD_eq_getElem?_getD, List.getD_eq_getElem?_getD, List.getElem?_drop]
        rw [vt, ih, e, hz (i + n) (by omega)]; simp
    rw [← vt_val _ _ (Nat.le_refl _)]; exact key _
  rw [this]; simp
theorem trim_loop {l : List Int} (h : Dg l) (hl : l.length < 1000000) : ∀ (i : Nat), i ≤ l.length → (∀ j, i ≤ j → dg l j = 0) → Ev (fun k => minstrelref01_Trim.l0 k l (i : Int)) (dig (val l)) := by
  have stop : ∀ (i : Nat), i ≤ l.length → (∀ j, i ≤ j → dg l j = 0) → (i = 0 ∨ dg l (i - 1) ≠ 0) → l.take i = dig (val l) := by
    intro i hi hz hc
    rw [← take_of_zeros i hi hz]
    apply dig_of (Dg_take h i)
    rcases hc with rfl | hc
    · left; rfl
    · by_cases i0 : i = 0
      · subst i0; left; rfl
      · right
        rw [List.length_take, Nat.min_eq_left hi]
        unfold dg at hc ⊢
        rw [List.getD_eq_getElem?_getD, List.getElem?_take_of_lt (by omega)]
        rw [List.getD_eq_getElem?_getD] at hc; exact hc
  have fin : ∀ (i : Nat), i ≤ l.length → ((some (([] : List Int) : List Int)).bind fun y106 => (if 0 ≤ (i : Int) then (if (i : Int) ≤ (l.length : Int) then (if y106.length + (l.take ((i : Int) : Int).toNat).length < 17592186044416 then (some (y106 ++ (l.take ((i : Int) : Int).toNat))) else (none)) else (none)) else (none))) = some (l.take i) := by
    intro i hi
    simp only [Option.bind_some, Int.toNat_natCast, List.length_nil, List.nil_append]
    rw [if_pos (by omega), if_pos (by omega), if_pos (by rw [List.length_take]; omega)]
  intro i
  induction i with
  | zero =>
    intro hi hz
    refine Ev.step (f := fun _ => some (dig (val l))) (fun k => ?_) (Ev.now _)
    rw [minstrelref01_Trim.l0, if_neg (by omega), ← stop 0 hi hz (.inl rfl)]
    exact fin 0 hi
  | succ i ih =>
    intro hi hz
    have e : wrap64 (((i + 1 : Nat) : Int) - 1) = (i : Int) := by rw [i64in (by omega) (by omega)]; omega
    by_cases c : dg l i = 0
    · refine Ev.step (f := fun k => minstrelref01_Trim.l0 k l (i : Int)) (fun k => ?_) (ih (by omega) (fun j hj => by
        by_cases e : j = i
        · rw [e]; exact c
        · exact hz j (by omega)))
      rw [minstrelref01_Trim.l0, if_pos (by omega), e, if_pos (by omega), if_pos (by omega), if_pos (by rw [rd_dg h, c]; rfl)]
    · refine Ev.step (f := fun _ => some (dig (val l))) (fun k => ?_) (Ev.now _)
      rw [minstrelref01_Trim.l0, if_pos (by omega), e, if_pos (by omega), if_pos (by omega), if_neg (by rw [rd_dg h]; omega), ← stop (i + 1) hi hz (.inr (by simpa using c))]
      exact fin (i + 1) hi
theorem trim_is {l : List Int} (h : Dg l) (hl : l.length < 1000000) : Ev (fun k => minstrelref01_Trim.f k l) (dig (val l)) :=
  trim_loop h hl l.length (Nat.le_refl _) (fun _ hj => dg_out hj)

end Go.Proofs.Ytijjofdnkdfccaa.Dig
