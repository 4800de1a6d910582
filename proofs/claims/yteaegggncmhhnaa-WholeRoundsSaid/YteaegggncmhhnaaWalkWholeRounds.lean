/- WholeRounds: which whole numbers lie about each number, and which is the nearest. No condition but the kind of the argument. -/
import Derived.Test.YteaegggncmhhnaaAnswers
namespace Go.Proofs.Yteaegggncmhhnaa.Ans
open Go Go.RowKit Go.Proofs.Yteaegggncmhhnaa.Num Go.Proofs.Yteaegggncmhhnaa.DigLaw Go.Proofs.Yteaegggncmhhnaa.Fl Go.Proofs.Yteaegggncmhhnaa.Dig Go.Proofs.Yteaegggncmhhnaa.Float
open Ieee (Toward)

theorem walk_WholeRounds_other (a : Nat) (ha : a < W) (h : ¬ kindN a < 3) : Ans 5 #[.int .u64 a] (.bool true) := by
  intro w
  have p1 := ans_Trunc a ha
  have p2 := ans_Floor a ha
  have p3 := ans_Ceil a ha
  have p4 := ans_Near a ha
  have r1 := ans_refTrunc a ha
  have r2 := ans_refFloor a ha
  have r3 := ans_refCeil a ha
  have r4 := ans_refNear a ha
  have k := ans_refKind a ha
  have kk : ((kindN a : Nat) : Int) ≥ 3 := by omega
  clear ha h
  generalize ((kindN a : Nat) : Int) = q at *
  generalize ((intW .zero a : Nat) : Int) = x1 at *
  generalize ((intW .down a : Nat) : Int) = x2 at *
  generalize ((intW .up a : Nat) : Int) = x3 at *
  generalize ((intW .even a : Nat) : Int) = x4 at *
  generalize (a : Int) = x at *
  go_enter Try.func5, Try.ntmps5
  go_wp2_with fail
  refine (p1.at _).mono ?_; rintro e w1 ⟨rfl, hb1⟩
  go_wp2_with fail
  refine (p2.at _).mono ?_; rintro e w2 ⟨rfl, hb2⟩
  go_wp2_with fail
  refine (p3.at _).mono ?_; rintro e w3 ⟨rfl, hb3⟩
  go_wp2_with fail
  refine (p4.at _).mono ?_; rintro e w4 ⟨rfl, hb4⟩
  go_wp2_with fail
  refine (r1.at _).mono ?_; rintro e w5 ⟨rfl, hb5⟩
  go_wp2_with fail
  refine (r2.at _).mono ?_; rintro e w6 ⟨rfl, hb6⟩
  go_wp2_with fail
  refine (r3.at _).mono ?_; rintro e w7 ⟨rfl, hb7⟩
  go_wp2_with fail
  refine (r4.at _).mono ?_; rintro e w8 ⟨rfl, hb8⟩
  go_wp2_with fail
  refine (k.at _).mono ?_; rintro e w9 ⟨rfl, hb9⟩
  go_wp2_with fail
  refine (ans_lives.at _).mono ?_; rintro e w10 ⟨rfl, hb10⟩
  go_wp2_with fail
  go_ret
  exact ⟨rfl, (bthen hb1 (bthen hb2 (bthen hb3 (bthen hb4 (bthen hb5 (bthen hb6 (bthen hb7 (bthen hb8 (bthen hb9 hb10)))))))))⟩
theorem walk_WholeRounds_whole (a : Nat) (ha : a < W) (h : rg a < INF) (hz : V (rg a) % U = 0) : Ans 5 #[.int .u64 a] (.bool true) := by
  intro w
  have p1 := ans_Trunc a ha
  have p2 := ans_Floor a ha
  have p3 := ans_Ceil a ha
  have p4 := ans_Near a ha
  have r1 := ans_refTrunc a ha
  have r2 := ans_refFloor a ha
  have r3 := ans_refCeil a ha
  have r4 := ans_refNear a ha
  have k := ans_refKind a ha
  rw [intW_same .down .zero h hz] at p2 r2
  rw [intW_same .up .zero h hz] at p3 r3
  rw [intW_same .even .zero h hz] at p4 r4
  have hx := intW_lt .zero ha
  have gx := intW_num .zero (Nat.le_of_lt h)
  have ev := Vi_self .zero h hz
  have l1 := ans_refLess a (intW .zero a) ha hx
  rw [less_no (Int.le_of_eq ev)] at l1
  have l2 := ans_refLess (intW .zero a) a hx ha
  rw [less_no (Int.le_of_eq ev.symm)] at l2
  have i := ans_refIs a ha
  rw [show isW a = true from decide_eq_true ⟨h, hz⟩] at i
  have e1 := ans_refEqual (intW .zero a) a hx ha
  rw [eqB_vi gx (Nat.le_of_lt h), decide_eq_true ev] at e1
  have e2 := ans_refEqual (intW .zero a) (intW .zero a) hx hx
  rw [eqB_vi gx gx, decide_eq_true rfl] at e2
  have kk : ¬ ((kindN a : Nat) : Int) ≥ 3 := by have := (fin_kind a).2 h; omega
  clear ha h hz hx gx ev
  generalize ((kindN a : Nat) : Int) = q at *
  generalize ((intW .zero a : Nat) : Int) = x1 at *
  generalize (a : Int) = x at *
  go_enter Try.func5, Try.ntmps5
  go_wp2_with fail
  refine (p1.at _).mono ?_; rintro e w1 ⟨rfl, hb1⟩
  go_wp2_with fail
  refine (p2.at _).mono ?_; rintro e w2 ⟨rfl, hb2⟩
  go_wp2_with fail
  refine (p3.at _).mono ?_; rintro e w3 ⟨rfl, hb3⟩
  go_wp2_with fail
  refine (p4.at _).mono ?_; rintro e w4 ⟨rfl, hb4⟩
  go_wp2_with fail
  refine (r1.at _).mono ?_; rintro e w5 ⟨rfl, hb5⟩
  go_wp2_with fail
  refine (r2.at _).mono ?_; rintro e w6 ⟨rfl, hb6⟩
  go_wp2_with fail
  refine (r3.at _).mono ?_; rintro e w7 ⟨rfl, hb7⟩
  go_wp2_with fail
  refine (r4.at _).mono ?_; rintro e w8 ⟨rfl, hb8⟩
  go_wp2_with fail
  refine (k.at _).mono ?_; rintro e w9 ⟨rfl, hb9⟩
  go_wp2_with fail
  refine (l1.at _).mono ?_; rintro e w10 ⟨rfl, hb10⟩
  go_wp2_with fail
  refine (l2.at _).mono ?_; rintro e w11 ⟨rfl, hb11⟩
  go_wp2_with fail
  refine (i.at _).mono ?_; rintro e w12 ⟨rfl, hb12⟩
  go_wp2_with fail
  refine (e1.at _).mono ?_; rintro e w13 ⟨rfl, hb13⟩
  go_wp2_with fail
  refine (e1.at _).mono ?_; rintro e w14 ⟨rfl, hb14⟩
  go_wp2_with fail
  refine (e2.at _).mono ?_; rintro e w15 ⟨rfl, hb15⟩
  go_wp2_with fail
  refine (e2.at _).mono ?_; rintro e w16 ⟨rfl, hb16⟩
  go_wp2_with fail
  refine (ans_lives.at _).mono ?_; rintro e w17 ⟨rfl, hb17⟩
  go_wp2_with fail
  go_ret
  exact ⟨rfl, (bthen hb1 (bthen hb2 (bthen hb3 (bthen hb4 (bthen hb5 (bthen hb6 (bthen hb7 (bthen hb8 (bthen hb9 (bthen hb10 (bthen hb11 (bthen hb12 (bthen hb13 (bthen hb14 (bthen hb15 (bthen hb16 hb17))))))))))))))))⟩
theorem walk_WholeRounds_pu (a : Nat) (ha : a < W) (h : rg a < INF) (hz : V (rg a) % U ≠ 0) (hs : sg a = false) (hn : eqB (intW .even a) (intW .down a) = false) : Ans 5 #[.int .u64 a] (.bool true) := by
  intro w
  have p1 := ans_Trunc a ha
  have p2 := ans_Floor a ha
  have p3 := ans_Ceil a ha
  have p4 := ans_Near a ha
  have r1 := ans_refTrunc a ha
  have r2 := ans_refFloor a ha
  have r3 := ans_refCeil a ha
  have r4 := ans_refNear a ha
  have k := ans_refKind a ha
  have hd := intW_lt .down ha
  have hu := intW_lt .up ha
  have hv := intW_lt .even ha
  have gd := intW_num .down (Nat.le_of_lt h)
  have gu := intW_num .up (Nat.le_of_lt h)
  have gv := intW_num .even (Nat.le_of_lt h)
  have l1 := ans_refLess a (intW .down a) ha hd
  rw [less_no (down_le h)] at l1
  have l2 := ans_refLess (intW .up a) a hu ha
  rw [less_no (up_ge h)] at l2
  have i := ans_refIs a ha
  rw [show isW a = false from decide_eq_false (fun x => hz x.2)] at i
  have one := apart_one h hz
  have hU := U_pos
  have e1 := ans_refEqual (intW .down a) (intW .up a) hd hu
  rw [eqB_vi gd gu, decide_eq_false (by omega)] at e1
  have ap := ans_refApart (intW .up a) (intW .down a) hu hd
  rw [apart_is h hz, show ((ONE : Nat) : Int) = 4607182418800017408 from rfl] at ap
  have e3 := ans_refEqual (intW .even a) (intW .down a) hv hd
  have nr := near_one h
  have e4 := ans_refEqual (intW .even a) (intW .up a) hv hu
  rw [eqB_vi gv gu, decide_eq_true (nr.resolve_left (fun x => by rw [eqB_vi gv gd, decide_eq_true x] at hn; cases hn))] at e4
  rw [hn] at e3
  rw [zero_down hs] at p2 r2 l1 e1 ap e3
  have kk : ¬ ((kindN a : Nat) : Int) ≥ 3 := by have := (fin_kind a).2 h; omega
  clear ha h hz hd hu hv gd gu gv one hU hn hs nr
  generalize ((kindN a : Nat) : Int) = q at *
  generalize ((intW .zero a : Nat) : Int) = x1 at *
  generalize ((intW .down a : Nat) : Int) = x2 at *
  generalize ((intW .up a : Nat) : Int) = x3 at *
  generalize ((intW .even a : Nat) : Int) = x4 at *
  generalize (a : Int) = x at *
  go_enter Try.func5, Try.ntmps5
  go_wp2_with fail
  refine (p1.at _).mono ?_; rintro e w1 ⟨rfl, hb1⟩
  go_wp2_with fail
  refine (p2.at _).mono ?_; rintro e w2 ⟨rfl, hb2⟩
  go_wp2_with fail
  refine (p3.at _).mono ?_; rintro e w3 ⟨rfl, hb3⟩
  go_wp2_with fail
  refine (p4.at _).mono ?_; rintro e w4 ⟨rfl, hb4⟩
  go_wp2_with fail
  refine (r1.at _).mono ?_; rintro e w5 ⟨rfl, hb5⟩
  go_wp2_with fail
  refine (r2.at _).mono ?_; rintro e w6 ⟨rfl, hb6⟩
  go_wp2_with fail
  refine (r3.at _).mono ?_; rintro e w7 ⟨rfl, hb7⟩
  go_wp2_with fail
  refine (r4.at _).mono ?_; rintro e w8 ⟨rfl, hb8⟩
  go_wp2_with fail
  refine (k.at _).mono ?_; rintro e w9 ⟨rfl, hb9⟩
  go_wp2_with fail
  refine (l1.at _).mono ?_; rintro e w10 ⟨rfl, hb10⟩
  go_wp2_with fail
  refine (l2.at _).mono ?_; rintro e w11 ⟨rfl, hb11⟩
  go_wp2_with fail
  refine (i.at _).mono ?_; rintro e w12 ⟨rfl, hb12⟩
  go_wp2_with fail
  refine (e1.at _).mono ?_; rintro e w13 ⟨rfl, hb13⟩
  go_wp2_with fail
  refine (ap.at _).mono ?_; rintro e w14 ⟨rfl, hb14⟩
  go_wp2_with fail
  refine (e3.at _).mono ?_; rintro e w15 ⟨rfl, hb15⟩
  go_wp2_with fail
  refine (e4.at _).mono ?_; rintro e w16 ⟨rfl, hb16⟩
  go_wp2_with fail
  refine (ans_lives.at _).mono ?_; rintro e w17 ⟨rfl, hb17⟩
  go_wp2_with fail
  go_ret
  exact ⟨rfl, (bthen hb1 (bthen hb2 (bthen hb3 (bthen hb4 (bthen hb5 (bthen hb6 (bthen hb7 (bthen hb8 (bthen hb9 (bthen hb10 (bthen hb11 (bthen hb12 (bthen hb13 (bthen hb14 (bthen hb15 (bthen hb16 hb17))))))))))))))))⟩
theorem walk_WholeRounds_pd (a : Nat) (ha : a < W) (h : rg a < INF) (hz : V (rg a) % U ≠ 0) (hs : sg a = false) (hn : eqB (intW .even a) (intW .down a) = true) : Ans 5 #[.int .u64 a] (.bool true) := by
  intro w
  have p1 := ans_Trunc a ha
  have p2 := ans_Floor a ha
  have p3 := ans_Ceil a ha
  have p4 := ans_Near a ha
  have r1 := ans_refTrunc a ha
  have r2 := ans_refFloor a ha
  have r3 := ans_refCeil a ha
  have r4 := ans_refNear a ha
  have k := ans_refKind a ha
  have hd := intW_lt .down ha
  have hu := intW_lt .up ha
  have hv := intW_lt .even ha
  have gd := intW_num .down (Nat.le_of_lt h)
  have gu := intW_num .up (Nat.le_of_lt h)
  have gv := intW_num .even (Nat.le_of_lt h)
  have l1 := ans_refLess a (intW .down a) ha hd
  rw [less_no (down_le h)] at l1
  have l2 := ans_refLess (intW .up a) a hu ha
  rw [less_no (up_ge h)] at l2
  have i := ans_refIs a ha
  rw [show isW a = false from decide_eq_false (fun x => hz x.2)] at i
  have one := apart_one h hz
  have hU := U_pos
  have e1 := ans_refEqual (intW .down a) (intW .up a) hd hu
  rw [eqB_vi gd gu, decide_eq_false (by omega)] at e1
  have ap := ans_refApart (intW .up a) (intW .down a) hu hd
  rw [apart_is h hz, show ((ONE : Nat) : Int) = 4607182418800017408 from rfl] at ap
  have e3 := ans_refEqual (intW .even a) (intW .down a) hv hd
  rw [hn] at e3
  rw [zero_down hs] at p2 r2 l1 e1 ap e3
  have kk : ¬ ((kindN a : Nat) : Int) ≥ 3 := by have := (fin_kind a).2 h; omega
  clear ha h hz hd hu hv gd gu gv one hU hn hs
  generalize ((kindN a : Nat) : Int) = q at *
  generalize ((intW .zero a : Nat) : Int) = x1 at *
  generalize ((intW .down a : Nat) : Int) = x2 at *
  generalize ((intW .up a : Nat) : Int) = x3 at *
  generalize ((intW .even a : Nat) : Int) = x4 at *
  generalize (a : Int) = x at *
  go_enter Try.func5, Try.ntmps5
  go_wp2_with fail
  refine (p1.at _).mono ?_; rintro e w1 ⟨rfl, hb1⟩
  go_wp2_with fail
  refine (p2.at _).mono ?_; rintro e w2 ⟨rfl, hb2⟩
  go_wp2_with fail
  refine (p3.at _).mono ?_; rintro e w3 ⟨rfl, hb3⟩
  go_wp2_with fail
  refine (p4.at _).mono ?_; rintro e w4 ⟨rfl, hb4⟩
  go_wp2_with fail
  refine (r1.at _).mono ?_; rintro e w5 ⟨rfl, hb5⟩
  go_wp2_with fail
  refine (r2.at _).mono ?_; rintro e w6 ⟨rfl, hb6⟩
  go_wp2_with fail
  refine (r3.at _).mono ?_; rintro e w7 ⟨rfl, hb7⟩
  go_wp2_with fail
  refine (r4.at _).mono ?_; rintro e w8 ⟨rfl, hb8⟩
  go_wp2_with fail
  refine (k.at _).mono ?_; rintro e w9 ⟨rfl, hb9⟩
  go_wp2_with fail
  refine (l1.at _).mono ?_; rintro e w10 ⟨rfl, hb10⟩
  go_wp2_with fail
  refine (l2.at _).mono ?_; rintro e w11 ⟨rfl, hb11⟩
  go_wp2_with fail
  refine (i.at _).mono ?_; rintro e w12 ⟨rfl, hb12⟩
  go_wp2_with fail
  refine (e1.at _).mono ?_; rintro e w13 ⟨rfl, hb13⟩
  go_wp2_with fail
  refine (ap.at _).mono ?_; rintro e w14 ⟨rfl, hb14⟩
  go_wp2_with fail
  refine (e3.at _).mono ?_; rintro e w15 ⟨rfl, hb15⟩
  go_wp2_with fail
  refine (ans_lives.at _).mono ?_; rintro e w16 ⟨rfl, hb16⟩
  go_wp2_with fail
  go_ret
  exact ⟨rfl, (bthen hb1 (bthen hb2 (bthen hb3 (bthen hb4 (bthen hb5 (bthen hb6 (bthen hb7 (bthen hb8 (bthen hb9 (bthen hb10 (bthen hb11 (bthen hb12 (bthen hb13 (bthen hb14 (bthen hb15 hb16)))))))))))))))⟩
theorem walk_WholeRounds_nu (a : Nat) (ha : a < W) (h : rg a < INF) (hz : V (rg a) % U ≠ 0) (hs : sg a = true) (hn : eqB (intW .even a) (intW .down a) = false) : Ans 5 #[.int .u64 a] (.bool true) := by
  intro w
  have p1 := ans_Trunc a ha
  have p2 := ans_Floor a ha
  have p3 := ans_Ceil a ha
  have p4 := ans_Near a ha
  have r1 := ans_refTrunc a ha
  have r2 := ans_refFloor a ha
  have r3 := ans_refCeil a ha
  have r4 := ans_refNear a ha
  have k := ans_refKind a ha
  have hd := intW_lt .down ha
  have hu := intW_lt .up ha
  have hv := intW_lt .even ha
  have gd := intW_num .down (Nat.le_of_lt h)
  have gu := intW_num .up (Nat.le_of_lt h)
  have gv := intW_num .even (Nat.le_of_lt h)
  have l1 := ans_refLess a (intW .down a) ha hd
  rw [less_no (down_le h)] at l1
  have l2 := ans_refLess (intW .up a) a hu ha
  rw [less_no (up_ge h)] at l2
  have i := ans_refIs a ha
  rw [show isW a = false from decide_eq_false (fun x => hz x.2)] at i
  have one := apart_one h hz
  have hU := U_pos
  have e1 := ans_refEqual (intW .down a) (intW .up a) hd hu
  rw [eqB_vi gd gu, decide_eq_false (by omega)] at e1
  have ap := ans_refApart (intW .up a) (intW .down a) hu hd
  rw [apart_is h hz, show ((ONE : Nat) : Int) = 4607182418800017408 from rfl] at ap
  have e3 := ans_refEqual (intW .even a) (intW .down a) hv hd
  have nr := near_one h
  have e4 := ans_refEqual (intW .even a) (intW .up a) hv hu
  rw [eqB_vi gv gu, decide_eq_true (nr.resolve_left (fun x => by rw [eqB_vi gv gd, decide_eq_true x] at hn; cases hn))] at e4
  rw [hn] at e3
  have ne : intW .zero a ≠ intW .down a := by
    rw [← zero_up hs]; intro e; rw [e] at one; omega
  have n1 : ((((intW .zero a : Nat) : Int)) == ((intW .down a : Nat) : Int)) = false := beq_eq_false_iff_ne.2 (fun e => ne (Int.ofNat.inj e))
  rw [zero_up hs] at p3 r3 l2 e1 ap e4
  have kk : ¬ ((kindN a : Nat) : Int) ≥ 3 := by have := (fin_kind a).2 h; omega
  clear ha h hz hd hu hv gd gu gv one hU hn hs nr ne
  generalize ((kindN a : Nat) : Int) = q at *
  generalize ((intW .zero a : Nat) : Int) = x1 at *
  generalize ((intW .down a : Nat) : Int) = x2 at *
  generalize ((intW .up a : Nat) : Int) = x3 at *
  generalize ((intW .even a : Nat) : Int) = x4 at *
  generalize (a : Int) = x at *
  go_enter Try.func5, Try.ntmps5
  go_wp2_with fail
  refine (p1.at _).mono ?_; rintro e w1 ⟨rfl, hb1⟩
  go_wp2_with fail
  refine (p2.at _).mono ?_; rintro e w2 ⟨rfl, hb2⟩
  go_wp2_with fail
  refine (p3.at _).mono ?_; rintro e w3 ⟨rfl, hb3⟩
  go_wp2_with fail
  refine (p4.at _).mono ?_; rintro e w4 ⟨rfl, hb4⟩
  go_wp2_with fail
  refine (r1.at _).mono ?_; rintro e w5 ⟨rfl, hb5⟩
  go_wp2_with fail
  refine (r2.at _).mono ?_; rintro e w6 ⟨rfl, hb6⟩
  go_wp2_with fail
  refine (r3.at _).mono ?_; rintro e w7 ⟨rfl, hb7⟩
  go_wp2_with fail
  refine (r4.at _).mono ?_; rintro e w8 ⟨rfl, hb8⟩
  go_wp2_with fail
  refine (k.at _).mono ?_; rintro e w9 ⟨rfl, hb9⟩
  go_wp2_with fail
  refine (l1.at _).mono ?_; rintro e w10 ⟨rfl, hb10⟩
  go_wp2_with fail
  refine (l2.at _).mono ?_; rintro e w11 ⟨rfl, hb11⟩
  go_wp2_with fail
  refine (i.at _).mono ?_; rintro e w12 ⟨rfl, hb12⟩
  go_wp2_with fail
  refine (e1.at _).mono ?_; rintro e w13 ⟨rfl, hb13⟩
  go_wp2_with fail
  refine (ap.at _).mono ?_; rintro e w14 ⟨rfl, hb14⟩
  go_wp2_with fail
  refine (e3.at _).mono ?_; rintro e w15 ⟨rfl, hb15⟩
  go_wp2_with fail
  refine (e4.at _).mono ?_; rintro e w16 ⟨rfl, hb16⟩
  go_wp2_with fail
  refine (ans_lives.at _).mono ?_; rintro e w17 ⟨rfl, hb17⟩
  go_wp2_with fail
  go_ret
  exact ⟨rfl, (bthen hb1 (bthen hb2 (bthen hb3 (bthen hb4 (bthen hb5 (bthen hb6 (bthen hb7 (bthen hb8 (bthen hb9 (bthen hb10 (bthen hb11 (bthen hb12 (bthen hb13 (bthen hb14 (bthen hb15 (bthen hb16 hb17))))))))))))))))⟩
theorem walk_WholeRounds_nd (a : Nat) (ha : a < W) (h : rg a < INF) (hz : V (rg a) % U ≠ 0) (hs : sg a = true) (hn : eqB (intW .even a) (intW .down a) = true) : Ans 5 #[.int .u64 a] (.bool true) := by
  intro w
  have p1 := ans_Trunc a ha
  have p2 := ans_Floor a ha
  have p3 := ans_Ceil a ha
  have p4 := ans_Near a ha
  have r1 := ans_refTrunc a ha
  have r2 := ans_refFloor a ha
  have r3 := ans_refCeil a ha
  have r4 := ans_refNear a ha
  have k := ans_refKind a ha
  have hd := intW_lt .down ha
  have hu := intW_lt .up ha
  have hv := intW_lt .even ha
  have gd := intW_num .down (Nat.le_of_lt h)
  have gu := intW_num .up (Nat.le_of_lt h)
  have gv := intW_num .even (Nat.le_of_lt h)
  have l1 := ans_refLess a (intW .down a) ha hd
  rw [less_no (down_le h)] at l1
  have l2 := ans_refLess (intW .up a) a hu ha
  rw [less_no (up_ge h)] at l2
  have i := ans_refIs a ha
  rw [show isW a = false from decide_eq_false (fun x => hz x.2)] at i
  have one := apart_one h hz
  have hU := U_pos
  have e1 := ans_refEqual (intW .down a) (intW .up a) hd hu
  rw [eqB_vi gd gu, decide_eq_false (by omega)] at e1
  have ap := ans_refApart (intW .up a) (intW .down a) hu hd
  rw [apart_is h hz, show ((ONE : Nat) : Int) = 4607182418800017408 from rfl] at ap
  have e3 := ans_refEqual (intW .even a) (intW .down a) hv hd
  rw [hn] at e3
  have ne : intW .zero a ≠ intW .down a := by
    rw [← zero_up hs]; intro e; rw [e] at one; omega
  have n1 : ((((intW .zero a : Nat) : Int)) == ((intW .down a : Nat) : Int)) = false := beq_eq_false_iff_ne.2 (fun e => ne (Int.ofNat.inj e))
  rw [zero_up hs] at p3 r3 l2 e1 ap
  have kk : ¬ ((kindN a : Nat) : Int) ≥ 3 := by have := (fin_kind a).2 h; omega
  clear ha h hz hd hu hv gd gu gv one hU hn hs ne
  generalize ((kindN a : Nat) : Int) = q at *
  generalize ((intW .zero a : Nat) : Int) = x1 at *
  generalize ((intW .down a : Nat) : Int) = x2 at *
  generalize ((intW .up a : Nat) : Int) = x3 at *
  generalize ((intW .even a : Nat) : Int) = x4 at *
  generalize (a : Int) = x at *
  go_enter Try.func5, Try.ntmps5
  go_wp2_with fail
  refine (p1.at _).mono ?_; rintro e w1 ⟨rfl, hb1⟩
  go_wp2_with fail
  refine (p2.at _).mono ?_; rintro e w2 ⟨rfl, hb2⟩
  go_wp2_with fail
  refine (p3.at _).mono ?_; rintro e w3 ⟨rfl, hb3⟩
  go_wp2_with fail
  refine (p4.at _).mono ?_; rintro e w4 ⟨rfl, hb4⟩
  go_wp2_with fail
  refine (r1.at _).mono ?_; rintro e w5 ⟨rfl, hb5⟩
  go_wp2_with fail
  refine (r2.at _).mono ?_; rintro e w6 ⟨rfl, hb6⟩
  go_wp2_with fail
  refine (r3.at _).mono ?_; rintro e w7 ⟨rfl, hb7⟩
  go_wp2_with fail
  refine (r4.at _).mono ?_; rintro e w8 ⟨rfl, hb8⟩
  go_wp2_with fail
  refine (k.at _).mono ?_; rintro e w9 ⟨rfl, hb9⟩
  go_wp2_with fail
  refine (l1.at _).mono ?_; rintro e w10 ⟨rfl, hb10⟩
  go_wp2_with fail
  refine (l2.at _).mono ?_; rintro e w11 ⟨rfl, hb11⟩
  go_wp2_with fail
  refine (i.at _).mono ?_; rintro e w12 ⟨rfl, hb12⟩
  go_wp2_with fail
  refine (e1.at _).mono ?_; rintro e w13 ⟨rfl, hb13⟩
  go_wp2_with fail
  refine (ap.at _).mono ?_; rintro e w14 ⟨rfl, hb14⟩
  go_wp2_with fail
  refine (e3.at _).mono ?_; rintro e w15 ⟨rfl, hb15⟩
  go_wp2_with fail
  refine (ans_lives.at _).mono ?_; rintro e w16 ⟨rfl, hb16⟩
  go_wp2_with fail
  go_ret
  exact ⟨rfl, (bthen hb1 (bthen hb2 (bthen hb3 (bthen hb4 (bthen hb5 (bthen hb6 (bthen hb7 (bthen hb8 (bthen hb9 (bthen hb10 (bthen hb11 (bthen hb12 (bthen hb13 (bthen hb14 (bthen hb15 hb16)))))))))))))))⟩
theorem row_WholeRounds (a0 : Int) (w : World) (w0 : (Lit.int .u64 a0).wf = true) :
    Calls Try.prog 5 #[.int .u64 a0] w fun e w' => e = .returned (.bool true) ∧ Below w.heap.size w w' := by
  obtain ⟨a, rfl, ha⟩ := wf_u64 w0
  by_cases c : kindN a < 3
  · have f := (fin_kind a).1 c
    by_cases z : V (rg a) % U = 0
    · exact walk_WholeRounds_whole a ha f z w
    · cases hs : sg a
      · cases hn : eqB (intW .even a) (intW .down a)
        · exact walk_WholeRounds_pu a ha f z hs hn w
        · exact walk_WholeRounds_pd a ha f z hs hn w
      · cases hn : eqB (intW .even a) (intW .down a)
        · exact walk_WholeRounds_nu a ha f z hs hn w
        · exact walk_WholeRounds_nd a ha f z hs hn w
  · exact walk_WholeRounds_other a ha c w
end Go.Proofs.Yteaegggncmhhnaa.Ans
