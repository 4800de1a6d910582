/- What the document's Round (minstrelref01) computes, put together: the nearest double of (2v + m) 2^(exp - 1), where m = 1 stands for a little more. Conditions: as in the text before this one. -/
import Derived.Test.YtijjofdnkdfccaaDigD
namespace Go.Proofs.Ytijjofdnkdfccaa.Dig
open Go.RowKit Go.Proofs.Ytijjofdnkdfccaa.Ref Go.Proofs.YtijjofdnkdfccaaW.PrintWords Go.Proofs.YtijjofdnkdfccaaW.PrintLast Go.Proofs.YtijjofdnkdfccaaW.PrintMore
open Go.Proofs.Ytijjofdnkdfccaa.Num Go.Proofs.Ytijjofdnkdfccaa.DigLaw Go.Proofs.Ytijjofdnkdfccaa.Fl

theorem round_word {M : Nat} {p : Int} (hM : M ≠ 0) {q : Nat} {e : Int} (he : lastOf M p = e) (hq : q = cutE (M * 2 ^ (p - e).toNat) (e - p).toNat) : wordOf q e = rung M p ∧ q ≤ 2 ^ 53 := by
  obtain ⟨h1, h2⟩ := kept_facts M p hM
  have h3 := (lastOf_ge M p).2.1
  rw [he] at h1 h2 h3
  obtain ⟨h4, h5⟩ := kept_gen _ _ _ h1 h2
  rw [rung_def M p hM, he, hq]
  exact ⟨wordOf_eq _ e h3 h4 h5, h4⟩

theorem last_of {v m : Nat} (hv : v ≠ 0) (hm : m ≤ 1) (exp drop : Int) (hd : drop = max ((blen v : Nat) - 53 : Int) (-1074 - exp)) : lastOf (2 * v + m) (exp - 1) = exp + drop := by
  have h1 : blen v = v.log2 + 1 := by unfold blen; rw [if_neg hv]
  unfold lastOf
  rw [log2_twice hv hm, hd, h1]; omega

theorem j1_is (neg : Bool) (exp : Int) {l : List Int} (hl : Dg l) (ll : l.length < 90000) (more : Bool) (drop : Int) (hv : val l ≠ 0) (hd : drop = max ((blen (val l) : Nat) - 53 : Int) (-1074 - exp)) (hm : more = true → 3 ≤ drop)
    (he0 : -80000 ≤ exp) (he1 : exp ≤ 80000) (hd1 : exp + drop ≤ 80000) :
    Ev (fun k => minstrelref01_Round.j1 k neg exp l more drop) ((sgn neg + rung (2 * val l + more.toNat) (exp - 1) : Nat) : Int) := by
  have hm1 : more.toNat ≤ 1 := by cases more <;> decide
  have hlast := last_of (m := more.toNat) hv hm1 exp drop hd
  have hM : 2 * val l + more.toNat ≠ 0 := by omega
  have hbl : blen (val l) ≤ 16 * l.length := blen_le (val_lt_two hl)
  have hdge : -1074 - exp ≤ drop := by omega
  have hdle : drop ≤ 1500000 := by omega
  have hdlow : -53 ≤ drop := by omega
  by_cases c : 2 ≤ drop
  · -- bits fall out
    obtain ⟨E, hE⟩ : ∃ E : Nat, drop = (E : Int) + 2 := ⟨(drop - 2).toNat, by omega⟩
    have hk := kept_drop (val l) more.toNat E hm1
    have e1 : (exp - 1 - (exp + drop)).toNat = 0 := by omega
    have e2 : (exp + drop - (exp - 1)).toNat = E + 3 := by omega
    obtain ⟨hw, hle⟩ := round_word hM hlast (q := kept (val l / 2 ^ E) (decide (more.toNat = 1) || decide (val l % 2 ^ E ≠ 0))) (by rw [e1, e2, Nat.pow_zero, Nat.mul_one, hk])
    have hj := j2_is neg (exp + drop) (val l / 2 ^ E) _ hle (by omega) (by omega)
    rw [hw] at hj
    have hdn := down_is hl (by omega) E (by omega)
    have ee : wrap64 (exp + drop) = exp + drop := i64in (by omega) (by omega)
    have e3 : wrap64 (drop - 2) = (E : Int) := i64of E (by omega) (by omega)
    refine Ev.step (f := fun k => (minstrelref01_Down.f k l (E : Int)).bind fun bt => (if more = true then (minstrelref01_Round.j2 k neg (exp + drop) bt.1 true) else (minstrelref01_Round.j2 k neg (exp + drop) bt.1 bt.2))) (fun k => ?_) (Ev.bind hdn ?_)
    · rw [minstrelref01_Round.j1, if_pos (show drop ≥ 2 from c), e3, ee]
    · cases more
      · exact hj
      · exact hj
  · have hmore : more = false := by
      cases more
      · rfl
      · have := hm rfl; omega
    subst hmore
    obtain ⟨U, hU⟩ : ∃ U : Nat, 2 - drop = (U : Int) + 1 := ⟨(1 - drop).toNat, by omega⟩
    have hu := up_is hl (by omega) (U + 1) (by omega)
    have hk : kept (val l * 2 ^ (U + 1)) false = cutE ((2 * val l + false.toNat) * 2 ^ (exp - 1 - (exp + drop)).toNat) (exp + drop - (exp - 1)).toNat := by
      rw [show 2 * val l + false.toNat = 2 * val l from rfl]
      match U, hU with
      | 0, hU =>
        rw [show (exp - 1 - (exp + drop)).toNat = 0 by omega, show (exp + drop - (exp - 1)).toNat = 2 by omega, Nat.pow_zero, Nat.mul_one, Nat.zero_add, Nat.pow_one]
        exact kept_one _
      | 1, hU =>
        rw [show (exp - 1 - (exp + drop)).toNat = 0 by omega, show (exp + drop - (exp - 1)).toNat = 1 by omega, Nat.pow_zero, Nat.mul_one, cutE_one, show (2 : Nat) ^ (1 + 1) = 4 from by decide]
        exact kept_four _
      | j + 2, hU =>
        rw [show (exp - 1 - (exp + drop)).toNat = j by omega, show (exp + drop - (exp - 1)).toNat = 0 by omega, cutE_zero, show val l * 2 ^ (j + 2 + 1) = (2 * val l * 2 ^ j) * 4 from by
          rw [Nat.pow_succ, Nat.pow_succ, Nat.pow_succ]
          generalize 2 ^ j = g
          rw [Nat.mul_comm 2 (val l), Nat.mul_assoc, Nat.mul_assoc, Nat.mul_assoc, Nat.mul_assoc]
          congr 1
          omega]
        exact kept_four _
    obtain ⟨hw, hle⟩ := round_word hM hlast (q := kept (val l * 2 ^ (U + 1)) false) hk
    have hj := j2_is neg (exp + drop) (val l * 2 ^ (U + 1)) false hle (by omega) (by omega)
    rw [hw] at hj
    have ee : wrap64 (exp + drop) = exp + drop := i64in (by omega) (by omega)
    have e3 : wrap64 (2 - drop) = ((U + 1 : Nat) : Int) := i64of (U + 1) (by omega) (by omega)
    refine Ev.step (f := fun k => (minstrelref01_Up.f k l ((U + 1 : Nat) : Int)).bind fun t => minstrelref01_Round.j2 k neg (exp + drop) t false) (fun k => ?_) (Ev.bind hu hj)
    rw [minstrelref01_Round.j1, if_neg (show ¬ drop ≥ 2 from c), e3, ee]

/-- THE NEAREST DOUBLE. -/
theorem round_is (neg : Bool) (exp : Int) {l : List Int} (hl : Dg l) (ll : l.length < 4000) (more : Bool) (he0 : -10000 ≤ exp) (he1 : exp ≤ 10000) (hm : more = true → 56 ≤ blen (val l)) :
    Ev (fun k => minstrelref01_Round.f k neg exp l more) ((Ieee.double.nearest neg (2 * val l + more.toNat) (exp - 1) : Nat) : Int) := by
  rw [nearest_eq, word_eq]
  have hm1 : more.toNat ≤ 1 := by cases more <;> decide
  have hbl : blen (val l) ≤ 16 * l.length := blen_le (val_lt_two hl)
  have hlen := len_is hl (by omega)
  have hvlt := blen_lt (val l)
  by_cases hv : val l = 0
  · -- nothing
    have hb : blen (val l) = 0 := by rw [hv]; rfl
    have hmore : more = false := by
      cases more
      · rfl
      · have := hm rfl; omega
    subst hmore
    rw [hv] at hlen ⊢
    rw [show (2 * 0 + false.toNat) = 0 from rfl, rung_zero]
    rw [show blen 0 = 0 from rfl] at hlen
    refine Ev.bind hlen (Ev.congr (f := fun k => minstrelref01_Round.j0 k neg exp l false 0 true) (fun k => ?_) (Ev.step (f := fun _ => some ((sgn neg + 0 : Nat) : Int)) (fun k => ?_) (Ev.now _)))
    · rw [if_pos (show ((0 : Nat) : Int) = 0 from rfl), if_neg (by simp)]; rfl
    · rw [minstrelref01_Round.j0, if_pos rfl, sign_is]; rfl
  · have hbpos : 0 < blen (val l) := by unfold blen; rw [if_neg hv]; omega
    have hvge := blen_ge hv
    have hsum : wrap64 (((blen (val l) : Nat) : Int) + exp) = ((blen (val l) : Nat) : Int) + exp := i64in (by omega) (by omega)
    have hd53 : wrap64 (((blen (val l) : Nat) : Int) - 53) = ((blen (val l) : Nat) : Int) - 53 := i64in (by omega) (by omega)
    have hdl : wrap64 (-1074 - exp) = -1074 - exp := i64in (by omega) (by omega)
    refine Ev.bind hlen (Ev.congr (f := fun k => minstrelref01_Round.j0 k neg exp l more ((blen (val l) : Nat) : Int) (decide (((blen (val l) : Nat) : Int) + exp < -1100))) (fun k => ?_) ?_)
    · rw [if_neg (by omega), hsum]
    · by_cases c1 : ((blen (val l) : Nat) : Int) + exp < -1100
      · have hr := rung_low (2 * val l + more.toNat) (exp - 1) (blen (val l) + 1) (by rw [Nat.pow_succ]; omega) (by omega)
        rw [hr]
        refine Ev.step (f := fun _ => some ((sgn neg + 0 : Nat) : Int)) (fun k => ?_) (Ev.now _)
        rw [minstrelref01_Round.j0, decide_eq_true c1, if_pos rfl, sign_is]; rfl
      · by_cases c2 : ((blen (val l) : Nat) : Int) + exp > 1100
        · have hpw : 2 ^ blen (val l) = 2 * 2 ^ (blen (val l) - 1) := by rw [← Nat.pow_succ']; congr 1; omega
          have hr := rung_high (2 * val l + more.toNat) (exp - 1) (blen (val l)) (by rw [hpw]; omega) (by omega)
          rw [hr]
          refine Ev.step (f := fun _ => some ((sgn neg + INF : Nat) : Int)) (fun k => ?_) (Ev.now _)
          rw [minstrelref01_Round.j0, decide_eq_false c1, if_neg (by simp), hsum, if_pos c2, infinite_is]; rfl
        · by_cases c3 : -1074 - exp > ((blen (val l) : Nat) : Int) - 53
          · have hj := j1_is neg exp hl (by omega) more (-1074 - exp) hv (by omega) (fun h => by have := hm h; omega) (by omega) (by omega) (by omega)
            refine Ev.step (f := fun k => minstrelref01_Round.j1 k neg exp l more (-1074 - exp)) (fun k => ?_) hj
            rw [minstrelref01_Round.j0, decide_eq_false c1, if_neg (by simp), hsum, if_neg c2, hdl, hd53, if_pos c3]
          · have hj := j1_is neg exp hl (by omega) more (((blen (val l) : Nat) : Int) - 53) hv (by omega) (fun h => by have := hm h; omega) (by omega) (by omega) (by omega)
            refine Ev.step (f := fun k => minstrelref01_Round.j1 k neg exp l more (((blen (val l) : Nat) : Int) - 53)) (fun k => ?_) hj
            rw [minstrelref01_Round.j0, decide_eq_false c1, if_neg (by simp), hsum, if_neg c2, hdl, hd53, if_neg c3]
end Go.Proofs.Ytijjofdnkdfccaa.Dig
