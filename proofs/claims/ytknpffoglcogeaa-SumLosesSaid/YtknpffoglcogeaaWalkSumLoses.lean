/- SumLoses: what a sum lacks is found by two differences, just so. No condition but the kinds of the arguments. -/
import Derived.Test.YtknpffoglcogeaaAnswers
namespace Go.Proofs.Ytknpffoglcogeaa.Ans
open Go Go.RowKit Go.Proofs.Ytknpffoglcogeaa.Num Go.Proofs.Ytknpffoglcogeaa.DigLaw Go.Proofs.Ytknpffoglcogeaa.Fl Go.Proofs.Ytknpffoglcogeaa.Dig Go.Proofs.Ytknpffoglcogeaa.Float

set_option maxHeartbeats 4000000 in
theorem lose_nf1 (x y k1 : Int) (K1 : Ans 15 #[.int .u64 x] (.int .i64 k1)) (h1 : k1 ≥ 3) : Ans 8 #[.int .u64 x, .int .u64 y] (.bool true) := by
  intro w
  go_enter Try.func8, Try.ntmps8
  go_wp2_with fail
  refine (K1.at _).mono ?_; rintro e_ w1 ⟨rfl, hb1⟩
  go_wp2_with fail
  refine (ans_lives.at _).mono ?_; rintro e_ w2 ⟨rfl, hb2⟩
  go_wp2_with fail
  go_ret
  exact ⟨rfl, (bthen hb1 hb2)⟩
set_option maxHeartbeats 4000000 in
theorem lose_nf2 (x y k1 k2 : Int) (K1 : Ans 15 #[.int .u64 x] (.int .i64 k1)) (K2 : Ans 15 #[.int .u64 y] (.int .i64 k2)) (h1 : ¬ k1 ≥ 3) (h2 : k2 ≥ 3) : Ans 8 #[.int .u64 x, .int .u64 y] (.bool true) := by
  intro w
  go_enter Try.func8, Try.ntmps8
  go_wp2_with fail
  refine (K1.at _).mono ?_; rintro e_ w1 ⟨rfl, hb1⟩
  go_wp2_with fail
  refine (K2.at _).mono ?_; rintro e_ w2 ⟨rfl, hb2⟩
  go_wp2_with fail
  refine (ans_lives.at _).mono ?_; rintro e_ w3 ⟨rfl, hb3⟩
  go_wp2_with fail
  go_ret
  exact ⟨rfl, (bthen hb1 (bthen hb2 hb3))⟩
set_option maxHeartbeats 4000000 in
theorem lose_inf_k (x y s z r k1 k2 k3 : Int) (K1 : Ans 15 #[.int .u64 x] (.int .i64 k1)) (K2 : Ans 15 #[.int .u64 y] (.int .i64 k2)) (h1 : ¬ k1 ≥ 3) (h2 : ¬ k2 ≥ 3)
    (L : Ans 19 #[.int .u64 (Go.bits .andNot .u64 x 9223372036854775808), .int .u64 (Go.bits .andNot .u64 y 9223372036854775808)] (.bool false))
    (A : Ans 18 #[.int .u64 x, .int .u64 y] (.int .u64 s)) (K3 : Ans 15 #[.int .u64 s] (.int .i64 k3)) (h3 : k3 = 3) : Ans 8 #[.int .u64 x, .int .u64 y] (.bool true) := by
  intro w
  go_enter Try.func8, Try.ntmps8
  go_wp2_with fail
  refine (K1.at _).mono ?_; rintro e_ w1 ⟨rfl, hb1⟩
  go_wp2_with fail
  refine (K2.at _).mono ?_; rintro e_ w2 ⟨rfl, hb2⟩
  go_wp2_with fail
  refine (L.at _).mono ?_; rintro e_ w3 ⟨rfl, hb3⟩
  go_wp2_with fail
  refine (A.at _).mono ?_; rintro e_ w4 ⟨rfl, hb4⟩
  go_wp2_with fail
  refine (K3.at _).mono ?_; rintro e_ w5 ⟨rfl, hb5⟩
  go_wp2_with fail
  refine (ans_lives.at _).mono ?_; rintro e_ w6 ⟨rfl, hb6⟩
  go_wp2_with fail
  go_ret
  exact ⟨rfl, (bthen hb1 (bthen hb2 (bthen hb3 (bthen hb4 (bthen hb5 hb6)))))⟩
set_option maxHeartbeats 4000000 in
theorem lose_zero_k (x y s z r k1 k2 k3 : Int) (K1 : Ans 15 #[.int .u64 x] (.int .i64 k1)) (K2 : Ans 15 #[.int .u64 y] (.int .i64 k2)) (h1 : ¬ k1 ≥ 3) (h2 : ¬ k2 ≥ 3)
    (L : Ans 19 #[.int .u64 (Go.bits .andNot .u64 x 9223372036854775808), .int .u64 (Go.bits .andNot .u64 y 9223372036854775808)] (.bool false))
    (A : Ans 18 #[.int .u64 x, .int .u64 y] (.int .u64 s)) (K3 : Ans 15 #[.int .u64 s] (.int .i64 k3)) (h3 : ¬ k3 = 3)
    (S1 : Ans 21 #[.int .u64 s, .int .u64 x] (.int .u64 z)) (S2 : Ans 21 #[.int .u64 y, .int .u64 z] (.int .u64 r))
    (n : Bool) (e g : Int) (m1 m2 j1 : Nat) (P1 P2 : World → Option Addr → Nat → Prop)
    (j2 : Nat) (o : Bool) (X1 : ∀ w, Calls Try.prog 24 #[.int .u64 x, .int .u64 y] w fun e_ w' => ∃ A c, e_ = .returned (.tuple #[.bool n, .int .i64 e, .slice A m1 c]) ∧ P1 w' A c ∧ Below w.heap.size w w') (b1 : ∀ w w1 A c, P1 w A c → Below w.heap.size w w1 → P1 w1 A c)
    (X2 : ∀ w, Calls Try.prog 24 #[.int .u64 s, .int .u64 r] w fun e_ w' => ∃ A c, e_ = .returned (.tuple #[.bool o, .int .i64 g, .slice A m2 c]) ∧ P2 w' A c ∧ Below w.heap.size w w') (b2 : ∀ w w1 A c, P2 w A c → Below w.heap.size w w1 → P2 w1 A c)
    (T1 : ∀ w A c, P1 w A c → Calls Try.prog 25 #[.slice A m1 c] w fun e_ w' => ∃ A' c', e_ = .returned (.slice A' j1 c') ∧ Below w.heap.size w w')
    (T2 : ∀ w A c, P2 w A c → Calls Try.prog 25 #[.slice A m2 c] w fun e_ w' => ∃ A' c', e_ = .returned (.slice A' j2 c') ∧ Below w.heap.size w w') (hj1 : (j1 : Int) = 0) (hj2 : (j2 : Int) = 0) : Ans 8 #[.int .u64 x, .int .u64 y] (.bool true) := by
  intro w
  go_enter Try.func8, Try.ntmps8
  go_wp2_with fail
  refine (K1.at _).mono ?_; rintro e_ w1 ⟨rfl, hb1⟩
  go_wp2_with fail
  refine (K2.at _).mono ?_; rintro e_ w2 ⟨rfl, hb2⟩
  go_wp2_with fail
  refine (L.at _).mono ?_; rintro e_ w3 ⟨rfl, hb3⟩
  go_wp2_with fail
  refine (A.at _).mono ?_; rintro e_ w4 ⟨rfl, hb4⟩
  go_wp2_with fail
  refine (K3.at _).mono ?_; rintro e_ w5 ⟨rfl, hb5⟩
  go_wp2_with fail
  refine (S1.at _).mono ?_; rintro e_ w6 ⟨rfl, hb6⟩
  go_wp2_with fail
  refine (S2.at _).mono ?_; rintro e_ w7 ⟨rfl, hb7⟩
  go_wp2_with fail
  refine (X1 _).mono ?_; rintro e_ w8 ⟨A1, c1, rfl, H1, hb8⟩
  go_wp2_with fail
  refine (X2 _).mono ?_; rintro e_ w9 ⟨A2, c2, rfl, H2, hb9⟩
  go_wp2_with fail
  refine (T1 _ _ _ (b1 _ _ _ _ H1 hb9)).mono ?_; rintro e_ w10 ⟨A3, c3, rfl, hb10⟩
  go_wp2_with fail
  refine (T2 _ _ _ (b2 _ _ _ _ H2 hb10)).mono ?_; rintro e_ w11 ⟨A4, c4, rfl, hb11⟩
  go_wp2_with fail
  refine (ans_lives.at _).mono ?_; rintro e_ w12 ⟨rfl, hb12⟩
  go_wp2_with fail
  go_ret
  exact ⟨rfl, (bthen hb1 (bthen hb2 (bthen hb3 (bthen hb4 (bthen hb5 (bthen hb6 (bthen hb7 (bthen hb8 (bthen hb9 (bthen hb10 (bthen hb11 hb12)))))))))))⟩
set_option maxHeartbeats 4000000 in
theorem lose_some_ke (x y s z r k1 k2 k3 : Int) (K1 : Ans 15 #[.int .u64 x] (.int .i64 k1)) (K2 : Ans 15 #[.int .u64 y] (.int .i64 k2)) (h1 : ¬ k1 ≥ 3) (h2 : ¬ k2 ≥ 3)
    (L : Ans 19 #[.int .u64 (Go.bits .andNot .u64 x 9223372036854775808), .int .u64 (Go.bits .andNot .u64 y 9223372036854775808)] (.bool false))
    (A : Ans 18 #[.int .u64 x, .int .u64 y] (.int .u64 s)) (K3 : Ans 15 #[.int .u64 s] (.int .i64 k3)) (h3 : ¬ k3 = 3)
    (S1 : Ans 21 #[.int .u64 s, .int .u64 x] (.int .u64 z)) (S2 : Ans 21 #[.int .u64 y, .int .u64 z] (.int .u64 r))
    (n : Bool) (e g : Int) (m1 m2 j1 : Nat) (P1 P2 : World → Option Addr → Nat → Prop)
    (u1 u2 : Nat) (Q1 Q2 : World → Option Addr → Nat → Prop) (X1 : ∀ w, Calls Try.prog 24 #[.int .u64 x, .int .u64 y] w fun e_ w' => ∃ A c, e_ = .returned (.tuple #[.bool n, .int .i64 e, .slice A m1 c]) ∧ P1 w' A c ∧ Below w.heap.size w w') (b1 : ∀ w w1 A c, P1 w A c → Below w.heap.size w w1 → P1 w1 A c)
    (X2 : ∀ w, Calls Try.prog 24 #[.int .u64 s, .int .u64 r] w fun e_ w' => ∃ A c, e_ = .returned (.tuple #[.bool n, .int .i64 g, .slice A m2 c]) ∧ P2 w' A c ∧ Below w.heap.size w w') (b2 : ∀ w w1 A c, P2 w A c → Below w.heap.size w w1 → P2 w1 A c)
    (T1 : ∀ w A c, P1 w A c → Calls Try.prog 25 #[.slice A m1 c] w fun e_ w' => ∃ A' c', e_ = .returned (.slice A' j1 c') ∧ Below w.heap.size w w') (hj1 : ¬ (j1 : Int) = 0) (hge : ¬ g < e)
    (U1 : ∀ w A c, P1 w A c → Calls Try.prog 27 #[.slice A m1 c, .int .i64 0] w fun e_ w' => ∃ A' c', e_ = .returned (.slice A' u1 c') ∧ Q1 w' A' c' ∧ Below w.heap.size w w')
    (U2 : ∀ w A c, P2 w A c → Calls Try.prog 27 #[.slice A m2 c, .int .i64 (wrap64 (g - e))] w fun e_ w' => ∃ A' c', e_ = .returned (.slice A' u2 c') ∧ Q2 w' A' c' ∧ Below w.heap.size w w') (d1 : ∀ w w1 A c, Q1 w A c → Below w.heap.size w w1 → Q1 w1 A c)
    (C : ∀ w A c A' c', Q1 w A c → Q2 w A' c' → Calls Try.prog 26 #[.slice A u1 c, .slice A' u2 c'] w fun e_ w' => e_ = .returned (.int .i64 0) ∧ Below w.heap.size w w') : Ans 8 #[.int .u64 x, .int .u64 y] (.bool true) := by
  intro w
  go_enter Try.func8, Try.ntmps8
  go_wp2_with fail
  refine (K1.at _).mono ?_; rintro e_ w1 ⟨rfl, hb1⟩
  go_wp2_with fail
  refine (K2.at _).mono ?_; rintro e_ w2 ⟨rfl, hb2⟩
  go_wp2_with fail
  refine (L.at _).mono ?_; rintro e_ w3 ⟨rfl, hb3⟩
  go_wp2_with fail
  refine (A.at _).mono ?_; rintro e_ w4 ⟨rfl, hb4⟩
  go_wp2_with fail
  refine (K3.at _).mono ?_; rintro e_ w5 ⟨rfl, hb5⟩
  go_wp2_with fail
  refine (S1.at _).mono ?_; rintro e_ w6 ⟨rfl, hb6⟩
  go_wp2_with fail
  refine (S2.at _).mono ?_; rintro e_ w7 ⟨rfl, hb7⟩
  go_wp2_with fail
  refine (X1 _).mono ?_; rintro e_ w8 ⟨A1, c1, rfl, H1, hb8⟩
  go_wp2_with fail
  refine (X2 _).mono ?_; rintro e_ w9 ⟨A2, c2, rfl, H2, hb9⟩
  go_wp2_with fail
  refine (T1 _ _ _ (b1 _ _ _ _ H1 hb9)).mono ?_; rintro e_ w10 ⟨A3, c3, rfl, hb10⟩
  go_wp2_with fail
  refine (U1 _ _ _ (b1 _ _ _ _ H1 (bthen hb9 hb10))).mono ?_; rintro e_ w11 ⟨A4, c4, rfl, G1, hb11⟩
  go_wp2_with fail
  refine (U2 _ _ _ (b2 _ _ _ _ H2 (bthen hb10 hb11))).mono ?_; rintro e_ w12 ⟨A5, c5, rfl, G2, hb12⟩
  go_wp2_with fail
  refine (C _ _ _ _ _ (d1 _ _ _ _ G1 hb12) G2).mono ?_; rintro e_ w13 ⟨rfl, hb13⟩
  go_wp2_with fail
  refine (ans_lives.at _).mono ?_; rintro e_ w14 ⟨rfl, hb14⟩
  go_wp2_with fail
  go_ret
  exact ⟨rfl, (bthen hb1 (bthen hb2 (bthen hb3 (bthen hb4 (bthen hb5 (bthen hb6 (bthen hb7 (bthen hb8 (bthen hb9 (bthen hb10 (bthen hb11 (bthen hb12 (bthen hb13 hb14)))))))))))))⟩
set_option maxHeartbeats 4000000 in
theorem lose_some_kg (x y s z r k1 k2 k3 : Int) (K1 : Ans 15 #[.int .u64 x] (.int .i64 k1)) (K2 : Ans 15 #[.int .u64 y] (.int .i64 k2)) (h1 : ¬ k1 ≥ 3) (h2 : ¬ k2 ≥ 3)
    (L : Ans 19 #[.int .u64 (Go.bits .andNot .u64 x 9223372036854775808), .int .u64 (Go.bits .andNot .u64 y 9223372036854775808)] (.bool false))
    (A : Ans 18 #[.int .u64 x, .int .u64 y] (.int .u64 s)) (K3 : Ans 15 #[.int .u64 s] (.int .i64 k3)) (h3 : ¬ k3 = 3)
    (S1 : Ans 21 #[.int .u64 s, .int .u64 x] (.int .u64 z)) (S2 : Ans 21 #[.int .u64 y, .int .u64 z] (.int .u64 r))
    (n : Bool) (e g : Int) (m1 m2 j1 : Nat) (P1 P2 : World → Option Addr → Nat → Prop)
    (u1 u2 : Nat) (Q1 Q2 : World → Option Addr → Nat → Prop) (X1 : ∀ w, Calls Try.prog 24 #[.int .u64 x, .int .u64 y] w fun e_ w' => ∃ A c, e_ = .returned (.tuple #[.bool n, .int .i64 e, .slice A m1 c]) ∧ P1 w' A c ∧ Below w.heap.size w w') (b1 : ∀ w w1 A c, P1 w A c → Below w.heap.size w w1 → P1 w1 A c)
    (X2 : ∀ w, Calls Try.prog 24 #[.int .u64 s, .int .u64 r] w fun e_ w' => ∃ A c, e_ = .returned (.tuple #[.bool n, .int .i64 g, .slice A m2 c]) ∧ P2 w' A c ∧ Below w.heap.size w w') (b2 : ∀ w w1 A c, P2 w A c → Below w.heap.size w w1 → P2 w1 A c)
    (T1 : ∀ w A c, P1 w A c → Calls Try.prog 25 #[.slice A m1 c] w fun e_ w' => ∃ A' c', e_ = .returned (.slice A' j1 c') ∧ Below w.heap.size w w') (hj1 : ¬ (j1 : Int) = 0) (hge : g < e)
    (U1 : ∀ w A c, P1 w A c → Calls Try.prog 27 #[.slice A m1 c, .int .i64 (wrap64 (e - g))] w fun e_ w' => ∃ A' c', e_ = .returned (.slice A' u1 c') ∧ Q1 w' A' c' ∧ Below w.heap.size w w')
    (U2 : ∀ w A c, P2 w A c → Calls Try.prog 27 #[.slice A m2 c, .int .i64 0] w fun e_ w' => ∃ A' c', e_ = .returned (.slice A' u2 c') ∧ Q2 w' A' c' ∧ Below w.heap.size w w') (d1 : ∀ w w1 A c, Q1 w A c → Below w.heap.size w w1 → Q1 w1 A c)
    (C : ∀ w A c A' c', Q1 w A c → Q2 w A' c' → Calls Try.prog 26 #[.slice A u1 c, .slice A' u2 c'] w fun e_ w' => e_ = .returned (.int .i64 0) ∧ Below w.heap.size w w') : Ans 8 #[.int .u64 x, .int .u64 y] (.bool true) := by
  intro w
  go_enter Try.func8, Try.ntmps8
  go_wp2_with fail
  refine (K1.at _).mono ?_; rintro e_ w1 ⟨rfl, hb1⟩
  go_wp2_with fail
  refine (K2.at _).mono ?_; rintro e_ w2 ⟨rfl, hb2⟩
  go_wp2_with fail
  refine (L.at _).mono ?_; rintro e_ w3 ⟨rfl, hb3⟩
  go_wp2_with fail
  refine (A.at _).mono ?_; rintro e_ w4 ⟨rfl, hb4⟩
  go_wp2_with fail
  refine (K3.at _).mono ?_; rintro e_ w5 ⟨rfl, hb5⟩
  go_wp2_with fail
  refine (S1.at _).mono ?_; rintro e_ w6 ⟨rfl, hb6⟩
  go_wp2_with fail
  refine (S2.at _).mono ?_; rintro e_ w7 ⟨rfl, hb7⟩
  go_wp2_with fail
  refine (X1 _).mono ?_; rintro e_ w8 ⟨A1, c1, rfl, H1, hb8⟩
  go_wp2_with fail
  refine (X2 _).mono ?_; rintro e_ w9 ⟨A2, c2, rfl, H2, hb9⟩
  go_wp2_with fail
  refine (T1 _ _ _ (b1 _ _ _ _ H1 hb9)).mono ?_; rintro e_ w10 ⟨A3, c3, rfl, hb10⟩
  go_wp2_with fail
  refine (U1 _ _ _ (b1 _ _ _ _ H1 (bthen hb9 hb10))).mono ?_; rintro e_ w11 ⟨A4, c4, rfl, G1, hb11⟩
  go_wp2_with fail
  refine (U2 _ _ _ (b2 _ _ _ _ H2 (bthen hb10 hb11))).mono ?_; rintro e_ w12 ⟨A5, c5, rfl, G2, hb12⟩
  go_wp2_with fail
  refine (C _ _ _ _ _ (d1 _ _ _ _ G1 hb12) G2).mono ?_; rintro e_ w13 ⟨rfl, hb13⟩
  go_wp2_with fail
  refine (ans_lives.at _).mono ?_; rintro e_ w14 ⟨rfl, hb14⟩
  go_wp2_with fail
  go_ret
  exact ⟨rfl, (bthen hb1 (bthen hb2 (bthen hb3 (bthen hb4 (bthen hb5 (bthen hb6 (bthen hb7 (bthen hb8 (bthen hb9 (bthen hb10 (bthen hb11 (bthen hb12 (bthen hb13 hb14)))))))))))))⟩
set_option maxHeartbeats 4000000 in
theorem lose_inf_s (x y s z r k1 k2 k3 : Int) (K1 : Ans 15 #[.int .u64 x] (.int .i64 k1)) (K2 : Ans 15 #[.int .u64 y] (.int .i64 k2)) (h1 : ¬ k1 ≥ 3) (h2 : ¬ k2 ≥ 3)
    (L : Ans 19 #[.int .u64 (Go.bits .andNot .u64 x 9223372036854775808), .int .u64 (Go.bits .andNot .u64 y 9223372036854775808)] (.bool true))
    (A : Ans 18 #[.int .u64 y, .int .u64 x] (.int .u64 s)) (K3 : Ans 15 #[.int .u64 s] (.int .i64 k3)) (h3 : k3 = 3) : Ans 8 #[.int .u64 x, .int .u64 y] (.bool true) := by
  intro w
  go_enter Try.func8, Try.ntmps8
  go_wp2_with fail
  refine (K1.at _).mono ?_; rintro e_ w1 ⟨rfl, hb1⟩
  go_wp2_with fail
  refine (K2.at _).mono ?_; rintro e_ w2 ⟨rfl, hb2⟩
  go_wp2_with fail
  refine (L.at _).mono ?_; rintro e_ w3 ⟨rfl, hb3⟩
  go_wp2_with fail
  refine (A.at _).mono ?_; rintro e_ w4 ⟨rfl, hb4⟩
  go_wp2_with fail
  refine (K3.at _).mono ?_; rintro e_ w5 ⟨rfl, hb5⟩
  go_wp2_with fail
  refine (ans_lives.at _).mono ?_; rintro e_ w6 ⟨rfl, hb6⟩
  go_wp2_with fail
  go_ret
  exact ⟨rfl, (bthen hb1 (bthen hb2 (bthen hb3 (bthen hb4 (bthen hb5 hb6)))))⟩
set_option maxHeartbeats 4000000 in
theorem lose_zero_s (x y s z r k1 k2 k3 : Int) (K1 : Ans 15 #[.int .u64 x] (.int .i64 k1)) (K2 : Ans 15 #[.int .u64 y] (.int .i64 k2)) (h1 : ¬ k1 ≥ 3) (h2 : ¬ k2 ≥ 3)
    (L : Ans 19 #[.int .u64 (Go.bits .andNot .u64 x 9223372036854775808), .int .u64 (Go.bits .andNot .u64 y 9223372036854775808)] (.bool true))
    (A : Ans 18 #[.int .u64 y, .int .u64 x] (.int .u64 s)) (K3 : Ans 15 #[.int .u64 s] (.int .i64 k3)) (h3 : ¬ k3 = 3)
    (S1 : Ans 21 #[.int .u64 s, .int .u64 y] (.int .u64 z)) (S2 : Ans 21 #[.int .u64 x, .int .u64 z] (.int .u64 r))
    (n : Bool) (e g : Int) (m1 m2 j1 : Nat) (P1 P2 : World → Option Addr → Nat → Prop)
    (j2 : Nat) (o : Bool) (X1 : ∀ w, Calls Try.prog 24 #[.int .u64 y, .int .u64 x] w fun e_ w' => ∃ A c, e_ = .returned (.tuple #[.bool n, .int .i64 e, .slice A m1 c]) ∧ P1 w' A c ∧ Below w.heap.size w w') (b1 : ∀ w w1 A c, P1 w A c → Below w.heap.size w w1 → P1 w1 A c)
    (X2 : ∀ w, Calls Try.prog 24 #[.int .u64 s, .int .u64 r] w fun e_ w' => ∃ A c, e_ = .returned (.tuple #[.bool o, .int .i64 g, .slice A m2 c]) ∧ P2 w' A c ∧ Below w.heap.size w w') (b2 : ∀ w w1 A c, P2 w A c → Below w.heap.size w w1 → P2 w1 A c)
    (T1 : ∀ w A c, P1 w A c → Calls Try.prog 25 #[.slice A m1 c] w fun e_ w' => ∃ A' c', e_ = .returned (.slice A' j1 c') ∧ Below w.heap.size w w')
    (T2 : ∀ w A c, P2 w A c → Calls Try.prog 25 #[.slice A m2 c] w fun e_ w' => ∃ A' c', e_ = .returned (.slice A' j2 c') ∧ Below w.heap.size w w') (hj1 : (j1 : Int) = 0) (hj2 : (j2 : Int) = 0) : Ans 8 #[.int .u64 x, .int .u64 y] (.bool true) := by
  intro w
  go_enter Try.func8, Try.ntmps8
  go_wp2_with fail
  refine (K1.at _).mono ?_; rintro e_ w1 ⟨rfl, hb1⟩
  go_wp2_with fail
  refine (K2.at _).mono ?_; rintro e_ w2 ⟨rfl, hb2⟩
  go_wp2_with fail
  refine (L.at _).mono ?_; rintro e_ w3 ⟨rfl, hb3⟩
  go_wp2_with fail
  refine (A.at _).mono ?_; rintro e_ w4 ⟨rfl, hb4⟩
  go_wp2_with fail
  refine (K3.at _).mono ?_; rintro e_ w5 ⟨rfl, hb5⟩
  go_wp2_with fail
  refine (S1.at _).mono ?_; rintro e_ w6 ⟨rfl, hb6⟩
  go_wp2_with fail
  refine (S2.at _).mono ?_; rintro e_ w7 ⟨rfl, hb7⟩
  go_wp2_with fail
  refine (X1 _).mono ?_; rintro e_ w8 ⟨A1, c1, rfl, H1, hb8⟩
  go_wp2_with fail
  refine (X2 _).mono ?_; rintro e_ w9 ⟨A2, c2, rfl, H2, hb9⟩
  go_wp2_with fail
  refine (T1 _ _ _ (b1 _ _ _ _ H1 hb9)).mono ?_; rintro e_ w10 ⟨A3, c3, rfl, hb10⟩
  go_wp2_with fail
  refine (T2 _ _ _ (b2 _ _ _ _ H2 hb10)).mono ?_; rintro e_ w11 ⟨A4, c4, rfl, hb11⟩
  go_wp2_with fail
  refine (ans_lives.at _).mono ?_; rintro e_ w12 ⟨rfl, hb12⟩
  go_wp2_with fail
  go_ret
  exact ⟨rfl, (bthen hb1 (bthen hb2 (bthen hb3 (bthen hb4 (bthen hb5 (bthen hb6 (bthen hb7 (bthen hb8 (bthen hb9 (bthen hb10 (bthen hb11 hb12)))))))))))⟩
set_option maxHeartbeats 4000000 in
theorem lose_some_se (x y s z r k1 k2 k3 : Int) (K1 : Ans 15 #[.int .u64 x] (.int .i64 k1)) (K2 : Ans 15 #[.int .u64 y] (.int .i64 k2)) (h1 : ¬ k1 ≥ 3) (h2 : ¬ k2 ≥ 3)
    (L : Ans 19 #[.int .u64 (Go.bits .andNot .u64 x 9223372036854775808), .int .u64 (Go.bits .andNot .u64 y 9223372036854775808)] (.bool true))
    (A : Ans 18 #[.int .u64 y, .int .u64 x] (.int .u64 s)) (K3 : Ans 15 #[.int .u64 s] (.int .i64 k3)) (h3 : ¬ k3 = 3)
    (S1 : Ans 21 #[.int .u64 s, .int .u64 y] (.int .u64 z)) (S2 : Ans 21 #[.int .u64 x, .int .u64 z] (.int .u64 r))
    (n : Bool) (e g : Int) (m1 m2 j1 : Nat) (P1 P2 : World → Option Addr → Nat → Prop)
    (u1 u2 : Nat) (Q1 Q2 : World → Option Addr → Nat → Prop) (X1 : ∀ w, Calls Try.prog 24 #[.int .u64 y, .int .u64 x] w fun e_ w' => ∃ A c, e_ = .returned (.tuple #[.bool n, .int .i64 e, .slice A m1 c]) ∧ P1 w' A c ∧ Below w.heap.size w w') (b1 : ∀ w w1 A c, P1 w A c → Below w.heap.size w w1 → P1 w1 A c)
    (X2 : ∀ w, Calls Try.prog 24 #[.int .u64 s, .int .u64 r] w fun e_ w' => ∃ A c, e_ = .returned (.tuple #[.bool n, .int .i64 g, .slice A m2 c]) ∧ P2 w' A c ∧ Below w.heap.size w w') (b2 : ∀ w w1 A c, P2 w A c → Below w.heap.size w w1 → P2 w1 A c)
    (T1 : ∀ w A c, P1 w A c → Calls Try.prog 25 #[.slice A m1 c] w fun e_ w' => ∃ A' c', e_ = .returned (.slice A' j1 c') ∧ Below w.heap.size w w') (hj1 : ¬ (j1 : Int) = 0) (hge : ¬ g < e)
    (U1 : ∀ w A c, P1 w A c → Calls Try.prog 27 #[.slice A m1 c, .int .i64 0] w fun e_ w' => ∃ A' c', e_ = .returned (.slice A' u1 c') ∧ Q1 w' A' c' ∧ Below w.heap.size w w')
    (U2 : ∀ w A c, P2 w A c → Calls Try.prog 27 #[.slice A m2 c, .int .i64 (wrap64 (g - e))] w fun e_ w' => ∃ A' c', e_ = .returned (.slice A' u2 c') ∧ Q2 w' A' c' ∧ Below w.heap.size w w') (d1 : ∀ w w1 A c, Q1 w A c → Below w.heap.size w w1 → Q1 w1 A c)
    (C : ∀ w A c A' c', Q1 w A c → Q2 w A' c' → Calls Try.prog 26 #[.slice A u1 c, .slice A' u2 c'] w fun e_ w' => e_ = .returned (.int .i64 0) ∧ Below w.heap.size w w') : Ans 8 #[.int .u64 x, .int .u64 y] (.bool true) := by
  intro w
  go_enter Try.func8, Try.ntmps8
  go_wp2_with fail
  refine (K1.at _).mono ?_; rintro e_ w1 ⟨rfl, hb1⟩
  go_wp2_with fail
  refine (K2.at _).mono ?_; rintro e_ w2 ⟨rfl, hb2⟩
  go_wp2_with fail
  refine (L.at _).mono ?_; rintro e_ w3 ⟨rfl, hb3⟩
  go_wp2_with fail
  refine (A.at _).mono ?_; rintro e_ w4 ⟨rfl, hb4⟩
  go_wp2_with fail
  refine (K3.at _).mono ?_; rintro e_ w5 ⟨rfl, hb5⟩
  go_wp2_with fail
  refine (S1.at _).mono ?_; rintro e_ w6 ⟨rfl, hb6⟩
  go_wp2_with fail
  refine (S2.at _).mono ?_; rintro e_ w7 ⟨rfl, hb7⟩
  go_wp2_with fail
  refine (X1 _).mono ?_; rintro e_ w8 ⟨A1, c1, rfl, H1, hb8⟩
  go_wp2_with fail
  refine (X2 _).mono ?_; rintro e_ w9 ⟨A2, c2, rfl, H2, hb9⟩
  go_wp2_with fail
  refine (T1 _ _ _ (b1 _ _ _ _ H1 hb9)).mono ?_; rintro e_ w10 ⟨A3, c3, rfl, hb10⟩
  go_wp2_with fail
  refine (U1 _ _ _ (b1 _ _ _ _ H1 (bthen hb9 hb10))).mono ?_; rintro e_ w11 ⟨A4, c4, rfl, G1, hb11⟩
  go_wp2_with fail
  refine (U2 _ _ _ (b2 _ _ _ _ H2 (bthen hb10 hb11))).mono ?_; rintro e_ w12 ⟨A5, c5, rfl, G2, hb12⟩
  go_wp2_with fail
  refine (C _ _ _ _ _ (d1 _ _ _ _ G1 hb12) G2).mono ?_; rintro e_ w13 ⟨rfl, hb13⟩
  go_wp2_with fail
  refine (ans_lives.at _).mono ?_; rintro e_ w14 ⟨rfl, hb14⟩
  go_wp2_with fail
  go_ret
  exact ⟨rfl, (bthen hb1 (bthen hb2 (bthen hb3 (bthen hb4 (bthen hb5 (bthen hb6 (bthen hb7 (bthen hb8 (bthen hb9 (bthen hb10 (bthen hb11 (bthen hb12 (bthen hb13 hb14)))))))))))))⟩
set_option maxHeartbeats 4000000 in
theorem lose_some_sg (x y s z r k1 k2 k3 : Int) (K1 : Ans 15 #[.int .u64 x] (.int .i64 k1)) (K2 : Ans 15 #[.int .u64 y] (.int .i64 k2)) (h1 : ¬ k1 ≥ 3) (h2 : ¬ k2 ≥ 3)
    (L : Ans 19 #[.int .u64 (Go.bits .andNot .u64 x 9223372036854775808), .int .u64 (Go.bits .andNot .u64 y 9223372036854775808)] (.bool true))
    (A : Ans 18 #[.int .u64 y, .int .u64 x] (.int .u64 s)) (K3 : Ans 15 #[.int .u64 s] (.int .i64 k3)) (h3 : ¬ k3 = 3)
    (S1 : Ans 21 #[.int .u64 s, .int .u64 y] (.int .u64 z)) (S2 : Ans 21 #[.int .u64 x, .int .u64 z] (.int .u64 r))
    (n : Bool) (e g : Int) (m1 m2 j1 : Nat) (P1 P2 : World → Option Addr → Nat → Prop)
    (u1 u2 : Nat) (Q1 Q2 : World → Option Addr → Nat → Prop) (X1 : ∀ w, Calls Try.prog 24 #[.int .u64 y, .int .u64 x] w fun e_ w' => ∃ A c, e_ = .returned (.tuple #[.bool n, .int .i64 e, .slice A m1 c]) ∧ P1 w' A c ∧ Below w.heap.size w w') (b1 : ∀ w w1 A c, P1 w A c → Below w.heap.size w w1 → P1 w1 A c)
    (X2 : ∀ w, Calls Try.prog 24 #[.int .u64 s, .int .u64 r] w fun e_ w' => ∃ A c, e_ = .returned (.tuple #[.bool n, .int .i64 g, .slice A m2 c]) ∧ P2 w' A c ∧ Below w.heap.size w w') (b2 : ∀ w w1 A c, P2 w A c → Below w.heap.size w w1 → P2 w1 A c)
    (T1 : ∀ w A c, P1 w A c → Calls Try.prog 25 #[.slice A m1 c] w fun e_ w' => ∃ A' c', e_ = .returned (.slice A' j1 c') ∧ Below w.heap.size w w') (hj1 : ¬ (j1 : Int) = 0) (hge : g < e)
    (U1 : ∀ w A c, P1 w A c → Calls Try.prog 27 #[.slice A m1 c, .int .i64 (wrap64 (e - g))] w fun e_ w' => ∃ A' c', e_ = .returned (.slice A' u1 c') ∧ Q1 w' A' c' ∧ Below w.heap.size w w')
    (U2 : ∀ w A c, P2 w A c → Calls Try.prog 27 #[.slice A m2 c, .int .i64 0] w fun e_ w' => ∃ A' c', e_ = .returned (.slice A' u2 c') ∧ Q2 w' A' c' ∧ Below w.heap.size w w') (d1 : ∀ w w1 A c, Q1 w A c → Below w.heap.size w w1 → Q1 w1 A c)
    (C : ∀ w A c A' c', Q1 w A c → Q2 w A' c' → Calls Try.prog 26 #[.slice A u1 c, .slice A' u2 c'] w fun e_ w' => e_ = .returned (.int .i64 0) ∧ Below w.heap.size w w') : Ans 8 #[.int .u64 x, .int .u64 y] (.bool true) := by
  intro w
  go_enter Try.func8, Try.ntmps8
  go_wp2_with fail
  refine (K1.at _).mono ?_; rintro e_ w1 ⟨rfl, hb1⟩
  go_wp2_with fail
  refine (K2.at _).mono ?_; rintro e_ w2 ⟨rfl, hb2⟩
  go_wp2_with fail
  refine (L.at _).mono ?_; rintro e_ w3 ⟨rfl, hb3⟩
  go_wp2_with fail
  refine (A.at _).mono ?_; rintro e_ w4 ⟨rfl, hb4⟩
  go_wp2_with fail
  refine (K3.at _).mono ?_; rintro e_ w5 ⟨rfl, hb5⟩
  go_wp2_with fail
  refine (S1.at _).mono ?_; rintro e_ w6 ⟨rfl, hb6⟩
  go_wp2_with fail
  refine (S2.at _).mono ?_; rintro e_ w7 ⟨rfl, hb7⟩
  go_wp2_with fail
  refine (X1 _).mono ?_; rintro e_ w8 ⟨A1, c1, rfl, H1, hb8⟩
  go_wp2_with fail
  refine (X2 _).mono ?_; rintro e_ w9 ⟨A2, c2, rfl, H2, hb9⟩
  go_wp2_with fail
  refine (T1 _ _ _ (b1 _ _ _ _ H1 hb9)).mono ?_; rintro e_ w10 ⟨A3, c3, rfl, hb10⟩
  go_wp2_with fail
  refine (U1 _ _ _ (b1 _ _ _ _ H1 (bthen hb9 hb10))).mono ?_; rintro e_ w11 ⟨A4, c4, rfl, G1, hb11⟩
  go_wp2_with fail
  refine (U2 _ _ _ (b2 _ _ _ _ H2 (bthen hb10 hb11))).mono ?_; rintro e_ w12 ⟨A5, c5, rfl, G2, hb12⟩
  go_wp2_with fail
  refine (C _ _ _ _ _ (d1 _ _ _ _ G1 hb12) G2).mono ?_; rintro e_ w13 ⟨rfl, hb13⟩
  go_wp2_with fail
  refine (ans_lives.at _).mono ?_; rintro e_ w14 ⟨rfl, hb14⟩
  go_wp2_with fail
  go_ret
  exact ⟨rfl, (bthen hb1 (bthen hb2 (bthen hb3 (bthen hb4 (bthen hb5 (bthen hb6 (bthen hb7 (bthen hb8 (bthen hb9 (bthen hb10 (bthen hb11 (bthen hb12 (bthen hb13 hb14)))))))))))))⟩
theorem sub_lt (a b : Nat) : subW a b < W := by rw [sub_add]; exact add_lt _ _
theorem less_abs (x y : Nat) : lessB (rg x) (rg y) = decide (rg x < rg y ∧ rg x ≤ INF ∧ rg y ≤ INF) := by
  obtain ⟨p1, p2, _⟩ := abs_facts x
  obtain ⟨q1, q2, _⟩ := abs_facts y
  unfold lessB Vi
  rw [p1, p2, q1, q2, sn_f, sn_f]
  apply decide_eq_decide.2
  constructor
  · intro h
    refine ⟨?_, h.1, h.2.1⟩
    apply Nat.lt_of_not_le
    intro c
    have := V_mono c
    omega
  · intro h
    have := V_strict h.1
    exact ⟨h.2.1, h.2.2, by omega⟩
theorem cmpN_self (n : Nat) : cmpN n n = 0 := by unfold cmpN; rw [if_neg (by omega), if_neg (by omega)]
def E300 : Nat := 300
theorem up_len {n k : Nat} (h : n < 2 ^ (E98 + 1)) (hk : k ≤ 2045) : (dig (n * 2 ^ k)).length ≤ 300 := by
  refine dig_length' (k := E300) ?_
  calc n * 2 ^ k < 2 ^ (E98 + 1) * 2 ^ k := Nat.mul_lt_mul_of_pos_right h (Nat.two_pow_pos _)
    _ = 2 ^ (E98 + 1 + k) := by rw [← Nat.pow_add]
    _ ≤ 2 ^ (16 * E300) := Nat.pow_le_pow_right (by decide) (by unfold E98 E300; omega)
theorem core_k (x y : Nat) (hx : x < W) (hy : y < W) (fx : rg x < INF) (fy : rg y < INF) (hle : rg y ≤ rg x) : Ans 8 #[.int .u64 x, .int .u64 y] (.bool true) := by
  have K1 := ans_refKind x hx
  have K2 := ans_refKind y hy
  have h1 : ¬ ((kindN x : Nat) : Int) ≥ 3 := by have := (fin_kind x).2 fx; omega
  have h2 : ¬ ((kindN y : Nat) : Int) ≥ 3 := by have := (fin_kind y).2 fy; omega
  have L := ans_refLess (rg x) (rg y) (abs_facts x).2.2 (abs_facts y).2.2
  rw [less_abs, ← andNot_top x hx, ← andNot_top y hy, decide_eq_false (by omega)] at L
  have A := ans_Add x y
  have ws := add_lt x y
  have K3 := ans_refKind (addW x y) ws
  by_cases c : kindN (addW x y) = 3
  · exact lose_inf_k x y _ 0 0 _ _ _ K1 K2 h1 h2 L A K3 (by rw [c]; rfl)
  · have h3 : ¬ ((kindN (addW x y) : Nat) : Int) = 3 := by omega
    have fs : rg (addW x y) < INF := by
      have h : rg (addW x y) ≤ INF := by unfold addW; rw [add_fin fx fy]; exact wordI_ok _ _
      have := (inf_kind (addW x y)).2
      rcases Nat.lt_or_ge (rg (addW x y)) INF with d | d
      · exact d
      · exact absurd (this (Nat.le_antisymm h d)) c
    obtain ⟨fr, hv⟩ := lose_words fx fy hle fs
    obtain ⟨z0, z1⟩ := same_exact fx fy fs fr hv
    have wr := sub_lt y (subW (addW x y) x)
    have S1 := ans_Sub (addW x y) x
    have S2 := ans_Sub y (subW (addW x y) x)
    have X1 := fun w => exact_at x y hx hy w
    have X2 := fun w => exact_at (addW x y) (subW y (subW (addW x y) x)) ws wr w
    have l1 := low_facts x y
    have l2 := low_facts (addW x y) (subW y (subW (addW x y) x))
    have e1 := ex_lt x y
    have e2 := ex_lt (addW x y) (subW y (subW (addW x y) x))
    clear hv c fr fs ws wr
    generalize lowN x y = e at *
    generalize lowN (addW x y) (subW y (subW (addW x y) x)) = g at *
    generalize exMag x y = d at *
    generalize exMag (addW x y) (subW y (subW (addW x y) x)) = h at *
    generalize exNeg x y = n at *
    generalize exNeg (addW x y) (subW y (subW (addW x y) x)) = o at *
    have len1 := dig_len d e1
    have len2 := dig_len h e2
    have tr : ∀ (m : Nat) (_ : (dig m).length ≤ 200) (w : World) (A : Option Addr) (c : Nat), Holds w A c (dig m) → Calls Try.prog 25 #[.slice A (dig m).length c] w fun e_ w' => ∃ A' c', e_ = .returned (.slice A' (dig m).length c') ∧ Below w.heap.size w w' := by
      intro m hm w A c hh
      have := trim_at (dig_Dg m) (by omega) hh
      rw [dig_val] at this
      refine this.mono ?_
      rintro e_ w' ⟨A', c', he, _, hb⟩
      exact ⟨A', c', he, hb⟩
    have hb : ∀ (m : Nat) (w w1 : World) (A : Option Addr) (c : Nat), Holds w A c (dig m) → Below w.heap.size w w1 → Holds w1 A c (dig m) := fun m w w1 A c hh b => hh.below b
    by_cases z : d = 0
    · have zh := z0 z
      exact lose_zero_k x y _ _ _ _ _ _ K1 K2 h1 h2 L A K3 h3 S1 S2 n e g (dig d).length (dig h).length (dig d).length (fun w A c => Holds w A c (dig d)) (fun w A c => Holds w A c (dig h)) (dig h).length o X1 (hb d) X2 (hb h) (tr d len1) (tr h len2) (by rw [z, dig_zero]; rfl) (by rw [zh, dig_zero]; rfl)
    · obtain ⟨y1, y2⟩ := z1 z
      subst y1
      have up : ∀ (m j : Nat) (_ : m < 2 ^ (E98 + 1)) (_ : j ≤ 2045) (i : Int) (_ : i = (j : Int)) (w : World) (A : Option Addr) (c : Nat), Holds w A c (dig m) → Calls Try.prog 27 #[.slice A (dig m).length c, .int .i64 i] w fun e_ w' => ∃ A' c', e_ = .returned (.slice A' (dig (m * 2 ^ j)).length c') ∧ Holds w' A' c' (dig (m * 2 ^ j)) ∧ Below w.heap.size w w' := by
        intro m j hm hj i hi w A c hh
        subst hi
        have := up_at (dig_Dg m) (by have := dig_len m hm; omega) j (by omega) hh
        rw [dig_val] at this
        exact this
      have cm : ∀ (low : Int), low ≤ e → low ≤ g → -1074 ≤ low → ∀ (w : World) (A : Option Addr) (c : Nat) (A' : Option Addr) (c' : Nat), Holds w A c (dig (d * 2 ^ (e - low).toNat)) → Holds w A' c' (dig (h * 2 ^ (g - low).toNat)) → Calls Try.prog 26 #[.slice A (dig (d * 2 ^ (e - low).toNat)).length c, .slice A' (dig (h * 2 ^ (g - low).toNat)).length c'] w fun e_ w' => e_ = .returned (.int .i64 0) ∧ Below w.heap.size w w' := by
        intro low hl1 hl2 hl3 w A c A' c' ha hb
        have u1 := up_len (k := (e - low).toNat) e1 (by omega)
        have u2 := up_len (k := (g - low).toNat) e2 (by omega)
        have := cmp_at (dig_Dg _) (dig_Dg _) (by omega) (by omega) ha hb
        rw [dig_val, dig_val, y2 low hl1 hl2, cmpN_self] at this
        rw [y2 low hl1 hl2]
        exact this
      have hj : ¬ (((dig d).length : Nat) : Int) = 0 := by
        intro x0
        exact z ((dig_nil_iff d).1 (List.length_eq_zero_iff.1 (Int.ofNat.inj x0)))
      by_cases c : g < e
      · have u1 := up d (e - g).toNat e1 (by omega) (wrap64 (e - g)) (by rw [i64in (by omega) (by omega)]; omega)
        have u2 := up h (g - g).toNat e2 (by omega) 0 (by omega)
        exact lose_some_kg x y _ _ _ _ _ _ K1 K2 h1 h2 L A K3 h3 S1 S2 n e g (dig d).length (dig h).length (dig d).length (fun w A c => Holds w A c (dig d)) (fun w A c => Holds w A c (dig h)) _ _ (fun w A c => Holds w A c (dig (d * 2 ^ (e - g).toNat))) (fun w A c => Holds w A c (dig (h * 2 ^ (g - g).toNat))) X1 (hb d) X2 (hb h) (tr d len1) hj c u1 u2 (hb _) (cm g (by omega) (by omega) (by omega))
      · have u1 := up d (e - e).toNat e1 (by omega) 0 (by omega)
        have u2 := up h (g - e).toNat e2 (by omega) (wrap64 (g - e)) (by rw [i64in (by omega) (by omega)]; omega)
        exact lose_some_ke x y _ _ _ _ _ _ K1 K2 h1 h2 L A K3 h3 S1 S2 n e g (dig d).length (dig h).length (dig d).length (fun w A c => Holds w A c (dig d)) (fun w A c => Holds w A c (dig h)) _ _ (fun w A c => Holds w A c (dig (d * 2 ^ (e - e).toNat))) (fun w A c => Holds w A c (dig (h * 2 ^ (g - e).toNat))) X1 (hb d) X2 (hb h) (tr d len1) hj c u1 u2 (hb _) (cm e (by omega) (by omega) (by omega))
theorem core_s (x y : Nat) (hx : x < W) (hy : y < W) (fx : rg x < INF) (fy : rg y < INF) (hlt : rg x < rg y) : Ans 8 #[.int .u64 x, .int .u64 y] (.bool true) := by
  have K1 := ans_refKind x hx
  have K2 := ans_refKind y hy
  have h1 : ¬ ((kindN x : Nat) : Int) ≥ 3 := by have := (fin_kind x).2 fx; omega
  have h2 : ¬ ((kindN y : Nat) : Int) ≥ 3 := by have := (fin_kind y).2 fy; omega
  have L := ans_refLess (rg x) (rg y) (abs_facts x).2.2 (abs_facts y).2.2
  rw [less_abs, ← andNot_top x hx, ← andNot_top y hy, decide_eq_true ⟨hlt, Nat.le_of_lt fx, Nat.le_of_lt fy⟩] at L
  have A := ans_Add y x
  have ws := add_lt y x
  have K3 := ans_refKind (addW y x) ws
  by_cases c : kindN (addW y x) = 3
  · exact lose_inf_s x y _ 0 0 _ _ _ K1 K2 h1 h2 L A K3 (by rw [c]; rfl)
  · have h3 : ¬ ((kindN (addW y x) : Nat) : Int) = 3 := by omega
    have fs : rg (addW y x) < INF := by
      have h : rg (addW y x) ≤ INF := by unfold addW; rw [add_fin fy fx]; exact wordI_ok _ _
      have := (inf_kind (addW y x)).2
      rcases Nat.lt_or_ge (rg (addW y x)) INF with d | d
      · exact d
      · exact absurd (this (Nat.le_antisymm h d)) c
    obtain ⟨fr, hv⟩ := lose_words fy fx (Nat.le_of_lt hlt) fs
    obtain ⟨z0, z1⟩ := same_exact fy fx fs fr hv
    have wr := sub_lt x (subW (addW y x) y)
    have S1 := ans_Sub (addW y x) y
    have S2 := ans_Sub x (subW (addW y x) y)
    have X1 := fun w => exact_at y x hy hx w
    have X2 := fun w => exact_at (addW y x) (subW x (subW (addW y x) y)) ws wr w
    have l1 := low_facts y x
    have l2 := low_facts (addW y x) (subW x (subW (addW y x) y))
    have e1 := ex_lt y x
    have e2 := ex_lt (addW y x) (subW x (subW (addW y x) y))
    clear hv c fr fs ws wr
    generalize lowN y x = e at *
    generalize lowN (addW y x) (subW x (subW (addW y x) y)) = g at *
    generalize exMag y x = d at *
    generalize exMag (addW y x) (subW x (subW (addW y x) y)) = h at *
    generalize exNeg y x = n at *
    generalize exNeg (addW y x) (subW x (subW (addW y x) y)) = o at *
    have len1 := dig_len d e1
    have len2 := dig_len h e2
    have tr : ∀ (m : Nat) (_ : (dig m).length ≤ 200) (w : World) (A : Option Addr) (c : Nat), Holds w A c (dig m) → Calls Try.prog 25 #[.slice A (dig m).length c] w fun e_ w' => ∃ A' c', e_ = .returned (.slice A' (dig m).length c') ∧ Below w.heap.size w w' := by
      intro m hm w A c hh
      have := trim_at (dig_Dg m) (by omega) hh
      rw [dig_val] at this
      refine this.mono ?_
      rintro e_ w' ⟨A', c', he, _, hb⟩
      exact ⟨A', c', he, hb⟩
    have hb : ∀ (m : Nat) (w w1 : World) (A : Option Addr) (c : Nat), Holds w A c (dig m) → Below w.heap.size w w1 → Holds w1 A c (dig m) := fun m w w1 A c hh b => hh.below b
    by_cases z : d = 0
    · have zh := z0 z
      exact lose_zero_s x y _ _ _ _ _ _ K1 K2 h1 h2 L A K3 h3 S1 S2 n e g (dig d).length (dig h).length (dig d).length (fun w A c => Holds w A c (dig d)) (fun w A c => Holds w A c (dig h)) (dig h).length o X1 (hb d) X2 (hb h) (tr d len1) (tr h len2) (by rw [z, dig_zero]; rfl) (by rw [zh, dig_zero]; rfl)
    · obtain ⟨y1, y2⟩ := z1 z
      subst y1
      have up : ∀ (m j : Nat) (_ : m < 2 ^ (E98 + 1)) (_ : j ≤ 2045) (i : Int) (_ : i = (j : Int)) (w : World) (A : Option Addr) (c : Nat), Holds w A c (dig m) → Calls Try.prog 27 #[.slice A (dig m).length c, .int .i64 i] w fun e_ w' => ∃ A' c', e_ = .returned (.slice A' (dig (m * 2 ^ j)).length c') ∧ Holds w' A' c' (dig (m * 2 ^ j)) ∧ Below w.heap.size w w' := by
        intro m j hm hj i hi w A c hh
        subst hi
        have := up_at (dig_Dg m) (by have := dig_len m hm; omega) j (by omega) hh
        rw [dig_val] at this
        exact this
      have cm : ∀ (low : Int), low ≤ e → low ≤ g → -1074 ≤ low → ∀ (w : World) (A : Option Addr) (c : Nat) (A' : Option Addr) (c' : Nat), Holds w A c (dig (d * 2 ^ (e - low).toNat)) → Holds w A' c' (dig (h * 2 ^ (g - low).toNat)) → Calls Try.prog 26 #[.slice A (dig (d * 2 ^ (e - low).toNat)).length c, .slice A' (dig (h * 2 ^ (g - low).toNat)).length c'] w fun e_ w' => e_ = .returned (.int .i64 0) ∧ Below w.heap.size w w' := by
        intro low hl1 hl2 hl3 w A c A' c' ha hb
        have u1 := up_len (k := (e - low).toNat) e1 (by omega)
        have u2 := up_len (k := (g - low).toNat) e2 (by omega)
        have := cmp_at (dig_Dg _) (dig_Dg _) (by omega) (by omega) ha hb
        rw [dig_val, dig_val, y2 low hl1 hl2, cmpN_self] at this
        rw [y2 low hl1 hl2]
        exact this
      have hj : ¬ (((dig d).length : Nat) : Int) = 0 := by
        intro x0
        exact z ((dig_nil_iff d).1 (List.length_eq_zero_iff.1 (Int.ofNat.inj x0)))
      by_cases c : g < e
      · have u1 := up d (e - g).toNat e1 (by omega) (wrap64 (e - g)) (by rw [i64in (by omega) (by omega)]; omega)
        have u2 := up h (g - g).toNat e2 (by omega) 0 (by omega)
        exact lose_some_sg x y _ _ _ _ _ _ K1 K2 h1 h2 L A K3 h3 S1 S2 n e g (dig d).length (dig h).length (dig d).length (fun w A c => Holds w A c (dig d)) (fun w A c => Holds w A c (dig h)) _ _ (fun w A c => Holds w A c (dig (d * 2 ^ (e - g).toNat))) (fun w A c => Holds w A c (dig (h * 2 ^ (g - g).toNat))) X1 (hb d) X2 (hb h) (tr d len1) hj c u1 u2 (hb _) (cm g (by omega) (by omega) (by omega))
      · have u1 := up d (e - e).toNat e1 (by omega) 0 (by omega)
        have u2 := up h (g - e).toNat e2 (by omega) (wrap64 (g - e)) (by rw [i64in (by omega) (by omega)]; omega)
        exact lose_some_se x y _ _ _ _ _ _ K1 K2 h1 h2 L A K3 h3 S1 S2 n e g (dig d).length (dig h).length (dig d).length (fun w A c => Holds w A c (dig d)) (fun w A c => Holds w A c (dig h)) _ _ (fun w A c => Holds w A c (dig (d * 2 ^ (e - e).toNat))) (fun w A c => Holds w A c (dig (h * 2 ^ (g - e).toNat))) X1 (hb d) X2 (hb h) (tr d len1) hj c u1 u2 (hb _) (cm e (by omega) (by omega) (by omega))
theorem row_SumLoses (a0 a1 : Int) (w : World) (w0 : (Lit.int .u64 a0).wf = true) (w1 : (Lit.int .u64 a1).wf = true) :
    Calls Try.prog 8 #[.int .u64 a0, .int .u64 a1] w fun e w' => e = .returned (.bool true) ∧ Below w.heap.size w w' := by
  obtain ⟨x, rfl, hx⟩ := wf_u64 w0
  obtain ⟨y, rfl, hy⟩ := wf_u64 w1
  by_cases c1 : kindN x < 3
  · by_cases c2 : kindN y < 3
    · have fx := (fin_kind x).1 c1
      have fy := (fin_kind y).1 c2
      rcases Nat.lt_or_ge (rg x) (rg y) with h | h
      · exact core_s x y hx hy fx fy h w
      · exact core_k x y hx hy fx fy h w
    · exact lose_nf2 _ _ _ _ (ans_refKind x hx) (ans_refKind y hy) (by omega) (by omega) w
  · exact lose_nf1 _ _ _ (ans_refKind x hx) (by omega) w
end Go.Proofs.Ytknpffoglcogeaa.Ans
