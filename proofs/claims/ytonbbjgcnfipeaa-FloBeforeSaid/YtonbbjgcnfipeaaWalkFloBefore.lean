/- FloBefore: the order of all numbers is one. Conditions: the arguments are words of 64 bits. -/
import Derived.Test.YtonbbjgcnfipeaaAnswers
namespace Go.Proofs.Ytonbbjgcnfipeaa.Ans
open Go Go.RowKit Go.Proofs.Ytonbbjgcnfipeaa.Num Go.Proofs.Ytonbbjgcnfipeaa.Fl Go.Proofs.Ytonbbjgcnfipeaa.Dig Go.Proofs.Ytonbbjgcnfipeaa.Float

theorem rank_inj {a b : Nat} (ha : a < W) (hb : b < W) (h : rankN a = rankN b) : canonW a = canonW b := by
  have ra := rg_lt (canonW a)
  have rb := rg_lt (canonW b)
  unfold rankN at h
  apply word_ext (canon_lt ha) (canon_lt hb)
  · cases hs : sg (canonW a) <;> cases ht : sg (canonW b) <;> rw [hs, ht] at h
    · rw [if_neg (by simp), if_pos rfl] at h; omega
    · rw [if_pos rfl, if_neg (by simp)] at h; omega
  · cases hs : sg (canonW a) <;> cases ht : sg (canonW b) <;> rw [hs, ht] at h
    · rw [if_neg (by simp), if_neg (by simp)] at h; omega
    · rw [if_neg (by simp), if_pos rfl] at h; omega
    · rw [if_pos rfl, if_neg (by simp)] at h; omega
    · rw [if_pos rfl, if_pos rfl] at h; omega
theorem rank_canon {a b : Nat} (h : canonW a = canonW b) : rankN a = rankN b := by unfold rankN; rw [h]
theorem less_before {a b : Nat} (h : lessB a b = true) : beforeB a b = true := by
  unfold lessB at h
  rw [decide_eq_true_eq] at h
  unfold beforeB
  rw [decide_eq_true_eq]
  refine (rank_Vi h.1 h.2.1 ?_).2 h.2.2
  intro z
  have h1 := Vi_nil.2 z.1
  have h2 := Vi_nil.2 z.2
  omega
theorem canon_ne (a b : Nat) (ha : a < W) (hb : b < W) : (((canonW a : Nat) : Int) != ((canonW b : Nat) : Int)) = (beforeB a b || beforeB b a) := by
  unfold beforeB
  rcases Nat.lt_trichotomy (rankN a) (rankN b) with h | h | h
  · rw [decide_eq_true h, Bool.true_or, bne_iff_ne]
    intro e; have := rank_canon (Int.ofNat.inj e); omega
  · rw [decide_eq_false (by omega), decide_eq_false (by omega), rank_inj ha hb h]; simp
  · rw [decide_eq_true h, Bool.or_true, bne_iff_ne]
    intro e; have := rank_canon (Int.ofNat.inj e); omega
theorem walk_FloBefore_up_true (a b c : Nat) (ha : a < W) (hb : b < W) (hc : c < W) (hx : beforeB a b = true) (hy : beforeB b a = false) (hl : lessB a b = true) (hz : beforeB b c = false) : Ans 7 #[.int .u64 a, .int .u64 b, .int .u64 c] (.bool true) := by
  intro w
  have x1 := ans_Before a b ha hb
  have y1 := ans_Before b a hb ha
  have z1 := ans_Before b c hb hc
  have u1 := ans_Before a c ha hc
  have c1 := ans_Canon a
  have c2 := ans_Canon b
  have l1 := ans_Less a b
  have hne := canon_ne a b ha hb
  rw [hx] at x1 hne
  rw [hy] at y1 hne
  rw [hz] at z1
  clear ha hb hc hx hy hz u1
  rw [hl] at l1
  clear hl
  generalize ((canonW a : Nat) : Int) = ca at *
  generalize ((canonW b : Nat) : Int) = cb at *
  generalize (a : Int) = p at *
  generalize (b : Int) = q at *
  generalize (c : Int) = r at *
  replace hne : (ca != cb) = true := hne
  go_enter Try.func7, Try.ntmps7
  go_wp2_with fail
  refine (x1.at _).mono ?_; rintro e w1 ⟨rfl, hb1⟩
  go_wp2_with fail
  refine (y1.at _).mono ?_; rintro e w2 ⟨rfl, hb2⟩
  go_wp2_with fail
  refine (c1.at _).mono ?_; rintro e w3 ⟨rfl, hb3⟩
  go_wp2_with fail
  refine (c2.at _).mono ?_; rintro e w4 ⟨rfl, hb4⟩
  go_wp2_with fail
  refine (l1.at _).mono ?_; rintro e w5 ⟨rfl, hb5⟩
  go_wp2_with fail
  refine (z1.at _).mono ?_; rintro e w6 ⟨rfl, hb6⟩
  go_wp2_with fail
  refine (ans_lives.at _).mono ?_; rintro e w7 ⟨rfl, hb7⟩
  go_wp2_with fail
  go_ret
  exact ⟨rfl, (bthen hb1 (bthen hb2 (bthen hb3 (bthen hb4 (bthen hb5 (bthen hb6 hb7))))))⟩
theorem walk_FloBefore_up_false (a b c : Nat) (ha : a < W) (hb : b < W) (hc : c < W) (hx : beforeB a b = true) (hy : beforeB b a = false) (hl : lessB a b = false) (hz : beforeB b c = false) : Ans 7 #[.int .u64 a, .int .u64 b, .int .u64 c] (.bool true) := by
  intro w
  have x1 := ans_Before a b ha hb
  have y1 := ans_Before b a hb ha
  have z1 := ans_Before b c hb hc
  have u1 := ans_Before a c ha hc
  have c1 := ans_Canon a
  have c2 := ans_Canon b
  have l1 := ans_Less a b
  have hne := canon_ne a b ha hb
  rw [hx] at x1 hne
  rw [hy] at y1 hne
  rw [hz] at z1
  clear ha hb hc hx hy hz u1
  rw [hl] at l1
  clear hl
  generalize ((canonW a : Nat) : Int) = ca at *
  generalize ((canonW b : Nat) : Int) = cb at *
  generalize (a : Int) = p at *
  generalize (b : Int) = q at *
  generalize (c : Int) = r at *
  replace hne : (ca != cb) = true := hne
  go_enter Try.func7, Try.ntmps7
  go_wp2_with fail
  refine (x1.at _).mono ?_; rintro e w1 ⟨rfl, hb1⟩
  go_wp2_with fail
  refine (y1.at _).mono ?_; rintro e w2 ⟨rfl, hb2⟩
  go_wp2_with fail
  refine (c1.at _).mono ?_; rintro e w3 ⟨rfl, hb3⟩
  go_wp2_with fail
  refine (c2.at _).mono ?_; rintro e w4 ⟨rfl, hb4⟩
  go_wp2_with fail
  refine (l1.at _).mono ?_; rintro e w5 ⟨rfl, hb5⟩
  go_wp2_with fail
  refine (z1.at _).mono ?_; rintro e w6 ⟨rfl, hb6⟩
  go_wp2_with fail
  refine (ans_lives.at _).mono ?_; rintro e w7 ⟨rfl, hb7⟩
  go_wp2_with fail
  go_ret
  exact ⟨rfl, (bthen hb1 (bthen hb2 (bthen hb3 (bthen hb4 (bthen hb5 (bthen hb6 hb7))))))⟩
theorem walk_FloBefore_on_true (a b c : Nat) (ha : a < W) (hb : b < W) (hc : c < W) (hx : beforeB a b = true) (hy : beforeB b a = false) (hl : lessB a b = true) (hz : beforeB b c = true) : Ans 7 #[.int .u64 a, .int .u64 b, .int .u64 c] (.bool true) := by
  intro w
  have x1 := ans_Before a b ha hb
  have y1 := ans_Before b a hb ha
  have z1 := ans_Before b c hb hc
  have u1 := ans_Before a c ha hc
  have c1 := ans_Canon a
  have c2 := ans_Canon b
  have l1 := ans_Less a b
  have hne := canon_ne a b ha hb
  rw [hx] at x1 hne
  rw [hy] at y1 hne
  have hu : beforeB a c = true := by
    unfold beforeB at hx hz ⊢
    rw [decide_eq_true_eq] at hx hz ⊢
    omega
  rw [hz] at z1
  rw [hu] at u1
  clear ha hb hc hx hy hz hu
  rw [hl] at l1
  clear hl
  generalize ((canonW a : Nat) : Int) = ca at *
  generalize ((canonW b : Nat) : Int) = cb at *
  generalize (a : Int) = p at *
  generalize (b : Int) = q at *
  generalize (c : Int) = r at *
  replace hne : (ca != cb) = true := hne
  go_enter Try.func7, Try.ntmps7
  go_wp2_with fail
  refine (x1.at _).mono ?_; rintro e w1 ⟨rfl, hb1⟩
  go_wp2_with fail
  refine (y1.at _).mono ?_; rintro e w2 ⟨rfl, hb2⟩
  go_wp2_with fail
  refine (c1.at _).mono ?_; rintro e w3 ⟨rfl, hb3⟩
  go_wp2_with fail
  refine (c2.at _).mono ?_; rintro e w4 ⟨rfl, hb4⟩
  go_wp2_with fail
  refine (l1.at _).mono ?_; rintro e w5 ⟨rfl, hb5⟩
  go_wp2_with fail
  refine (z1.at _).mono ?_; rintro e w6 ⟨rfl, hb6⟩
  go_wp2_with fail
  refine (u1.at _).mono ?_; rintro e w7 ⟨rfl, hb7⟩
  go_wp2_with fail
  refine (ans_lives.at _).mono ?_; rintro e w8 ⟨rfl, hb8⟩
  go_wp2_with fail
  go_ret
  exact ⟨rfl, (bthen hb1 (bthen hb2 (bthen hb3 (bthen hb4 (bthen hb5 (bthen hb6 (bthen hb7 hb8)))))))⟩
theorem walk_FloBefore_on_false (a b c : Nat) (ha : a < W) (hb : b < W) (hc : c < W) (hx : beforeB a b = true) (hy : beforeB b a = false) (hl : lessB a b = false) (hz : beforeB b c = true) : Ans 7 #[.int .u64 a, .int .u64 b, .int .u64 c] (.bool true) := by
  intro w
  have x1 := ans_Before a b ha hb
  have y1 := ans_Before b a hb ha
  have z1 := ans_Before b c hb hc
  have u1 := ans_Before a c ha hc
  have c1 := ans_Canon a
  have c2 := ans_Canon b
  have l1 := ans_Less a b
  have hne := canon_ne a b ha hb
  rw [hx] at x1 hne
  rw [hy] at y1 hne
  have hu : beforeB a c = true := by
    unfold beforeB at hx hz ⊢
    rw [decide_eq_true_eq] at hx hz ⊢
    omega
  rw [hz] at z1
  rw [hu] at u1
  clear ha hb hc hx hy hz hu
  rw [hl] at l1
  clear hl
  generalize ((canonW a : Nat) : Int) = ca at *
  generalize ((canonW b : Nat) : Int) = cb at *
  generalize (a : Int) = p at *
  generalize (b : Int) = q at *
  generalize (c : Int) = r at *
  replace hne : (ca != cb) = true := hne
  go_enter Try.func7, Try.ntmps7
  go_wp2_with fail
  refine (x1.at _).mono ?_; rintro e w1 ⟨rfl, hb1⟩
  go_wp2_with fail
  refine (y1.at _).mono ?_; rintro e w2 ⟨rfl, hb2⟩
  go_wp2_with fail
  refine (c1.at _).mono ?_; rintro e w3 ⟨rfl, hb3⟩
  go_wp2_with fail
  refine (c2.at _).mono ?_; rintro e w4 ⟨rfl, hb4⟩
  go_wp2_with fail
  refine (l1.at _).mono ?_; rintro e w5 ⟨rfl, hb5⟩
  go_wp2_with fail
  refine (z1.at _).mono ?_; rintro e w6 ⟨rfl, hb6⟩
  go_wp2_with fail
  refine (u1.at _).mono ?_; rintro e w7 ⟨rfl, hb7⟩
  go_wp2_with fail
  refine (ans_lives.at _).mono ?_; rintro e w8 ⟨rfl, hb8⟩
  go_wp2_with fail
  go_ret
  exact ⟨rfl, (bthen hb1 (bthen hb2 (bthen hb3 (bthen hb4 (bthen hb5 (bthen hb6 (bthen hb7 hb8)))))))⟩
theorem walk_FloBefore_down (a b c : Nat) (ha : a < W) (hb : b < W) (hc : c < W) (hx : beforeB a b = false) (hy : beforeB b a = true) : Ans 7 #[.int .u64 a, .int .u64 b, .int .u64 c] (.bool true) := by
  intro w
  have x1 := ans_Before a b ha hb
  have y1 := ans_Before b a hb ha
  have z1 := ans_Before b c hb hc
  have u1 := ans_Before a c ha hc
  have c1 := ans_Canon a
  have c2 := ans_Canon b
  have l1 := ans_Less a b
  have hne := canon_ne a b ha hb
  rw [hx] at x1 hne
  rw [hy] at y1 hne
  have hl : lessB a b = false := by
    cases h : lessB a b
    · rfl
    · rw [less_before h] at hx; cases hx
  rw [hl] at l1
  clear ha hb hc hx hy hl z1 u1
  generalize ((canonW a : Nat) : Int) = ca at *
  generalize ((canonW b : Nat) : Int) = cb at *
  generalize (a : Int) = p at *
  generalize (b : Int) = q at *
  generalize (c : Int) = r at *
  replace hne : (ca != cb) = true := hne
  go_enter Try.func7, Try.ntmps7
  go_wp2_with fail
  refine (x1.at _).mono ?_; rintro e w1 ⟨rfl, hb1⟩
  go_wp2_with fail
  refine (y1.at _).mono ?_; rintro e w2 ⟨rfl, hb2⟩
  go_wp2_with fail
  refine (c1.at _).mono ?_; rintro e w3 ⟨rfl, hb3⟩
  go_wp2_with fail
  refine (c2.at _).mono ?_; rintro e w4 ⟨rfl, hb4⟩
  go_wp2_with fail
  refine (l1.at _).mono ?_; rintro e w5 ⟨rfl, hb5⟩
  go_wp2_with fail
  refine (ans_lives.at _).mono ?_; rintro e w6 ⟨rfl, hb6⟩
  go_wp2_with fail
  go_ret
  exact ⟨rfl, (bthen hb1 (bthen hb2 (bthen hb3 (bthen hb4 (bthen hb5 hb6)))))⟩
theorem walk_FloBefore_same (a b c : Nat) (ha : a < W) (hb : b < W) (hc : c < W) (hx : beforeB a b = false) (hy : beforeB b a = false) : Ans 7 #[.int .u64 a, .int .u64 b, .int .u64 c] (.bool true) := by
  intro w
  have x1 := ans_Before a b ha hb
  have y1 := ans_Before b a hb ha
  have z1 := ans_Before b c hb hc
  have u1 := ans_Before a c ha hc
  have c1 := ans_Canon a
  have c2 := ans_Canon b
  have l1 := ans_Less a b
  have hne := canon_ne a b ha hb
  rw [hx] at x1 hne
  rw [hy] at y1 hne
  have hl : lessB a b = false := by
    cases h : lessB a b
    · rfl
    · rw [less_before h] at hx; cases hx
  rw [hl] at l1
  clear ha hb hc hx hy hl z1 u1
  generalize ((canonW a : Nat) : Int) = ca at *
  generalize ((canonW b : Nat) : Int) = cb at *
  generalize (a : Int) = p at *
  generalize (b : Int) = q at *
  generalize (c : Int) = r at *
  replace hne : (ca != cb) = false := hne
  go_enter Try.func7, Try.ntmps7
  go_wp2_with fail
  refine (x1.at _).mono ?_; rintro e w1 ⟨rfl, hb1⟩
  go_wp2_with fail
  refine (y1.at _).mono ?_; rintro e w2 ⟨rfl, hb2⟩
  go_wp2_with fail
  refine (c1.at _).mono ?_; rintro e w3 ⟨rfl, hb3⟩
  go_wp2_with fail
  refine (c2.at _).mono ?_; rintro e w4 ⟨rfl, hb4⟩
  go_wp2_with fail
  refine (l1.at _).mono ?_; rintro e w5 ⟨rfl, hb5⟩
  go_wp2_with fail
  refine (ans_lives.at _).mono ?_; rintro e w6 ⟨rfl, hb6⟩
  go_wp2_with fail
  go_ret
  exact ⟨rfl, (bthen hb1 (bthen hb2 (bthen hb3 (bthen hb4 (bthen hb5 hb6)))))⟩
theorem row_FloBefore (a0 a1 a2 : Int) (w : World) (w0 : (Lit.int .u64 a0).wf = true) (w1 : (Lit.int .u64 a1).wf = true) (w2 : (Lit.int .u64 a2).wf = true) :
    Calls Try.prog 7 #[.int .u64 a0, .int .u64 a1, .int .u64 a2] w fun e w' => e = .returned (.bool true) ∧ Below w.heap.size w w' := by
  obtain ⟨a, rfl, ha⟩ := wf_u64 w0
  obtain ⟨b, rfl, hb⟩ := wf_u64 w1
  obtain ⟨c, rfl, hc⟩ := wf_u64 w2
  cases hx : beforeB a b
  · cases hy : beforeB b a
    · exact walk_FloBefore_same a b c ha hb hc hx hy w
    · exact walk_FloBefore_down a b c ha hb hc hx hy w
  · have hy : beforeB b a = false := by
      unfold beforeB at hx ⊢
      rw [decide_eq_true_eq] at hx
      rw [decide_eq_false_iff_not]; omega
    cases hz : beforeB b c
    · cases hl : lessB a b
      · exact walk_FloBefore_up_false a b c ha hb hc hx hy hl hz w
      · exact walk_FloBefore_up_true a b c ha hb hc hx hy hl hz w
    · cases hl : lessB a b
      · exact walk_FloBefore_on_false a b c ha hb hc hx hy hl hz w
      · exact walk_FloBefore_on_true a b c ha hb hc hx hy hl hz w
end Go.Proofs.Ytonbbjgcnfipeaa.Ans
