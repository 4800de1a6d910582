/- WholeTwice: a whole number about a number is whole, and stays what it is. No condition but the kind of the argument. -/
import Derived.Test.YteaegggncmhhnaaAnswers
import Derived.LoopN
namespace Go.Proofs.Yteaegggncmhhnaa.Ans
open Go Go.RowKit Go.Proofs.Yteaegggncmhhnaa.Num Go.Proofs.Yteaegggncmhhnaa.DigLaw Go.Proofs.Yteaegggncmhhnaa.Fl Go.Proofs.Yteaegggncmhhnaa.Dig Go.Proofs.Yteaegggncmhhnaa.Float
open Ieee (Toward)

set_option maxHeartbeats 4000000 in
theorem walk_WholeTwice_fin (x x1 x2 x3 x4 k1 k2 k3 k4 : Int)
    (p1 : Ans 17 #[.int .u64 x] (.int .u64 x1))
    (p2 : Ans 18 #[.int .u64 x] (.int .u64 x2))
    (p3 : Ans 19 #[.int .u64 x] (.int .u64 x3))
    (p4 : Ans 20 #[.int .u64 x] (.int .u64 x4))
    (sTrunc1 : Ans 17 #[.int .u64 x1] (.int .u64 x1)) (sFloor1 : Ans 18 #[.int .u64 x1] (.int .u64 x1)) (sCeil1 : Ans 19 #[.int .u64 x1] (.int .u64 x1)) (sNear1 : Ans 20 #[.int .u64 x1] (.int .u64 x1)) (sIs1 : Ans 10 #[.int .u64 x1] (.bool true)) (sK1 : Ans 25 #[.int .u64 x1] (.int .i64 k1)) (hk1 : k1 < 3)
    (sTrunc2 : Ans 17 #[.int .u64 x2] (.int .u64 x2)) (sFloor2 : Ans 18 #[.int .u64 x2] (.int .u64 x2)) (sCeil2 : Ans 19 #[.int .u64 x2] (.int .u64 x2)) (sNear2 : Ans 20 #[.int .u64 x2] (.int .u64 x2)) (sIs2 : Ans 10 #[.int .u64 x2] (.bool true)) (sK2 : Ans 25 #[.int .u64 x2] (.int .i64 k2)) (hk2 : k2 < 3)
    (sTrunc3 : Ans 17 #[.int .u64 x3] (.int .u64 x3)) (sFloor3 : Ans 18 #[.int .u64 x3] (.int .u64 x3)) (sCeil3 : Ans 19 #[.int .u64 x3] (.int .u64 x3)) (sNear3 : Ans 20 #[.int .u64 x3] (.int .u64 x3)) (sIs3 : Ans 10 #[.int .u64 x3] (.bool true)) (sK3 : Ans 25 #[.int .u64 x3] (.int .i64 k3)) (hk3 : k3 < 3)
    (sTrunc4 : Ans 17 #[.int .u64 x4] (.int .u64 x4)) (sFloor4 : Ans 18 #[.int .u64 x4] (.int .u64 x4)) (sCeil4 : Ans 19 #[.int .u64 x4] (.int .u64 x4)) (sNear4 : Ans 20 #[.int .u64 x4] (.int .u64 x4)) (sIs4 : Ans 10 #[.int .u64 x4] (.bool true)) (sK4 : Ans 25 #[.int .u64 x4] (.int .i64 k4)) (hk4 : k4 < 3) : Ans 7 #[.int .u64 x] (.bool true) := by
  intro w
  go_enter Try.func7, Try.ntmps7
  go_wp2_with fail
  refine (p1.at _).mono ?_; rintro e w1 ⟨rfl, hb1⟩
  go_wp2_with fail
  refine (p2.at _).mono ?_; rintro e w2 ⟨rfl, hb2⟩
  go_wp2_with fail
  refine (p3.at _).mono ?_; rintro e w3 ⟨rfl, hb3⟩
  go_wp2_with fail
  refine (p4.at _).mono ?_; rintro e w4 ⟨rfl, hb4⟩
  go_wp2_with fail
  clear p1 p2 p3 p4
  have B4 := bthen hb1 (bthen hb2 (bthen hb3 hb4))
  obtain ⟨W0, hW⟩ : ∃ W0, W0 = w4.alloc (Obj.cells #[Value.int .u64 x1, Value.int .u64 x2, Value.int .u64 x3, Value.int .u64 x4] 23) := ⟨_, rfl⟩
  have B5 : Below w.heap.size w W0 := by rw [hW]; exact B4.alloc B4.size _
  have Z : w4.heap.size < W0.heap.size := by rw [hW]; show _ < (w4.heap.push _).size; rw [Array.size_push]; omega
  have c0 : W0.cell? ⟨w4.heap.size, 0, none⟩ = some (.int .u64 x1) := by rw [hW, World.cell?_alloc_new]; rfl
  have c1 : W0.cell? ⟨w4.heap.size, 1, none⟩ = some (.int .u64 x2) := by rw [hW, World.cell?_alloc_new]; rfl
  have c2 : W0.cell? ⟨w4.heap.size, 2, none⟩ = some (.int .u64 x3) := by rw [hW, World.cell?_alloc_new]; rfl
  have c3 : W0.cell? ⟨w4.heap.size, 3, none⟩ = some (.int .u64 x4) := by rw [hW, World.cell?_alloc_new]; rfl
  rw [← hW]
  clear hW B4 hb1 hb2 hb3 hb4
  generalize w4.heap.size = b4 at *
  refine wp_loop_rounds 5 ?_
  rw [rounds_succ]
  go_wp2_with fail
  refine (sTrunc1.at _).mono ?_; rintro e w5 ⟨rfl, hb5⟩
  go_wp2_with fail
  refine (sFloor1.at _).mono ?_; rintro e w6 ⟨rfl, hb6⟩
  go_wp2_with fail
  refine (sCeil1.at _).mono ?_; rintro e w7 ⟨rfl, hb7⟩
  go_wp2_with fail
  refine (sNear1.at _).mono ?_; rintro e w8 ⟨rfl, hb8⟩
  go_wp2_with fail
  refine (sIs1.at _).mono ?_; rintro e w9 ⟨rfl, hb9⟩
  go_wp2_with fail
  refine (sK1.at _).mono ?_; rintro e w10 ⟨rfl, hb10⟩
  have R0 := (bthen hb5 (bthen hb6 (bthen hb7 (bthen hb8 (bthen hb9 hb10)))))
  have Z0 : b4 < w10.heap.size := Nat.lt_of_lt_of_le Z R0.size
  have E0 := bthen B5 R0
  have d0_1 := (R0.cell (p := ⟨b4, 1, none⟩) Z).trans c1
  have d0_2 := (R0.cell (p := ⟨b4, 2, none⟩) Z).trans c2
  have d0_3 := (R0.cell (p := ⟨b4, 3, none⟩) Z).trans c3
  clear hb5 hb6 hb7 hb8 hb9 hb10
  clear c0 c1 c2 c3
  go_wp2_with fail
  rw [rounds_succ]
  go_wp2_with fail
  refine (sTrunc2.at _).mono ?_; rintro e w11 ⟨rfl, hb11⟩
  go_wp2_with fail
  refine (sFloor2.at _).mono ?_; rintro e w12 ⟨rfl, hb12⟩
  go_wp2_with fail
  refine (sCeil2.at _).mono ?_; rintro e w13 ⟨rfl, hb13⟩
  go_wp2_with fail
  refine (sNear2.at _).mono ?_; rintro e w14 ⟨rfl, hb14⟩
  go_wp2_with fail
  refine (sIs2.at _).mono ?_; rintro e w15 ⟨rfl, hb15⟩
  go_wp2_with fail
  refine (sK2.at _).mono ?_; rintro e w16 ⟨rfl, hb16⟩
  have R1 := (bthen hb11 (bthen hb12 (bthen hb13 (bthen hb14 (bthen hb15 hb16)))))
  have Z1 : b4 < w16.heap.size := Nat.lt_of_lt_of_le Z0 R1.size
  have E1 := bthen E0 R1
  have d1_2 := (R1.cell (p := ⟨b4, 2, none⟩) Z0).trans d0_2
  have d1_3 := (R1.cell (p := ⟨b4, 3, none⟩) Z0).trans d0_3
  clear hb11 hb12 hb13 hb14 hb15 hb16
  clear d0_1 d0_2 d0_3
  go_wp2_with fail
  rw [rounds_succ]
  go_wp2_with fail
  refine (sTrunc3.at _).mono ?_; rintro e w17 ⟨rfl, hb17⟩
  go_wp2_with fail
  refine (sFloor3.at _).mono ?_; rintro e w18 ⟨rfl, hb18⟩
  go_wp2_with fail
  refine (sCeil3.at _).mono ?_; rintro e w19 ⟨rfl, hb19⟩
  go_wp2_with fail
  refine (sNear3.at _).mono ?_; rintro e w20 ⟨rfl, hb20⟩
  go_wp2_with fail
  refine (sIs3.at _).mono ?_; rintro e w21 ⟨rfl, hb21⟩
  go_wp2_with fail
  refine (sK3.at _).mono ?_; rintro e w22 ⟨rfl, hb22⟩
  have R2 := (bthen hb17 (bthen hb18 (bthen hb19 (bthen hb20 (bthen hb21 hb22)))))
  have Z2 : b4 < w22.heap.size := Nat.lt_of_lt_of_le Z1 R2.size
  have E2 := bthen E1 R2
  have d2_3 := (R2.cell (p := ⟨b4, 3, none⟩) Z1).trans d1_3
  clear hb17 hb18 hb19 hb20 hb21 hb22
  clear d1_2 d1_3
  go_wp2_with fail
  rw [rounds_succ]
  go_wp2_with fail
  refine (sTrunc4.at _).mono ?_; rintro e w23 ⟨rfl, hb23⟩
  go_wp2_with fail
  refine (sFloor4.at _).mono ?_; rintro e w24 ⟨rfl, hb24⟩
  go_wp2_with fail
  refine (sCeil4.at _).mono ?_; rintro e w25 ⟨rfl, hb25⟩
  go_wp2_with fail
  refine (sNear4.at _).mono ?_; rintro e w26 ⟨rfl, hb26⟩
  go_wp2_with fail
  refine (sIs4.at _).mono ?_; rintro e w27 ⟨rfl, hb27⟩
  go_wp2_with fail
  refine (sK4.at _).mono ?_; rintro e w28 ⟨rfl, hb28⟩
  have R3 := (bthen hb23 (bthen hb24 (bthen hb25 (bthen hb26 (bthen hb27 hb28)))))
  have Z3 : b4 < w28.heap.size := Nat.lt_of_lt_of_le Z2 R3.size
  have E3 := bthen E2 R3
  clear hb23 hb24 hb25 hb26 hb27 hb28
  clear d2_3
  go_wp2_with fail
  rw [rounds_succ]
  go_wp2_with fail
  refine (ans_lives.at _).mono ?_; rintro e wz ⟨rfl, hbz⟩
  go_wp2_with fail
  go_ret
  exact ⟨rfl, bthen E3 hbz⟩
set_option maxHeartbeats 4000000 in
theorem walk_WholeTwice_other (x x1 x2 x3 x4 k1 k2 k3 k4 : Int)
    (p1 : Ans 17 #[.int .u64 x] (.int .u64 x1))
    (p2 : Ans 18 #[.int .u64 x] (.int .u64 x2))
    (p3 : Ans 19 #[.int .u64 x] (.int .u64 x3))
    (p4 : Ans 20 #[.int .u64 x] (.int .u64 x4))
    (sTrunc1 : Ans 17 #[.int .u64 x1] (.int .u64 x1)) (sFloor1 : Ans 18 #[.int .u64 x1] (.int .u64 x1)) (sCeil1 : Ans 19 #[.int .u64 x1] (.int .u64 x1)) (sNear1 : Ans 20 #[.int .u64 x1] (.int .u64 x1)) (sIs1 : Ans 10 #[.int .u64 x1] (.bool false)) (sK1 : Ans 25 #[.int .u64 x1] (.int .i64 k1)) (hk1 : ¬ k1 < 3)
    (sTrunc2 : Ans 17 #[.int .u64 x2] (.int .u64 x2)) (sFloor2 : Ans 18 #[.int .u64 x2] (.int .u64 x2)) (sCeil2 : Ans 19 #[.int .u64 x2] (.int .u64 x2)) (sNear2 : Ans 20 #[.int .u64 x2] (.int .u64 x2)) (sIs2 : Ans 10 #[.int .u64 x2] (.bool false)) (sK2 : Ans 25 #[.int .u64 x2] (.int .i64 k2)) (hk2 : ¬ k2 < 3)
    (sTrunc3 : Ans 17 #[.int .u64 x3] (.int .u64 x3)) (sFloor3 : Ans 18 #[.int .u64 x3] (.int .u64 x3)) (sCeil3 : Ans 19 #[.int .u64 x3] (.int .u64 x3)) (sNear3 : Ans 20 #[.int .u64 x3] (.int .u64 x3)) (sIs3 : Ans 10 #[.int .u64 x3] (.bool false)) (sK3 : Ans 25 #[.int .u64 x3] (.int .i64 k3)) (hk3 : ¬ k3 < 3)
    (sTrunc4 : Ans 17 #[.int .u64 x4] (.int .u64 x4)) (sFloor4 : Ans 18 #[.int .u64 x4] (.int .u64 x4)) (sCeil4 : Ans 19 #[.int .u64 x4] (.int .u64 x4)) (sNear4 : Ans 20 #[.int .u64 x4] (.int .u64 x4)) (sIs4 : Ans 10 #[.int .u64 x4] (.bool false)) (sK4 : Ans 25 #[.int .u64 x4] (.int .i64 k4)) (hk4 : ¬ k4 < 3) : Ans 7 #[.int .u64 x] (.bool true) := by
  intro w
  go_enter Try.func7, Try.ntmps7
  go_wp2_with fail
  refine (p1.at _).mono ?_; rintro e w1 ⟨rfl, hb1⟩
  go_wp2_with fail
  refine (p2.at _).mono ?_; rintro e w2 ⟨rfl, hb2⟩
  go_wp2_with fail
  refine (p3.at _).mono ?_; rintro e w3 ⟨rfl, hb3⟩
  go_wp2_with fail
  refine (p4.at _).mono ?_; rintro e w4 ⟨rfl, hb4⟩
  go_wp2_with fail
  clear p1 p2 p3 p4
  have B4 := bthen hb1 (bthen hb2 (bthen hb3 hb4))
  obtain ⟨W0, hW⟩ : ∃ W0, W0 = w4.alloc (Obj.cells #[Value.int .u64 x1, Value.int .u64 x2, Value.int .u64 x3, Value.int .u64 x4] 23) := ⟨_, rfl⟩
  have B5 : Below w.heap.size w W0 := by rw [hW]; exact B4.alloc B4.size _
  have Z : w4.heap.size < W0.heap.size := by rw [hW]; show _ < (w4.heap.push _).size; rw [Array.size_push]; omega
  have c0 : W0.cell? ⟨w4.heap.size, 0, none⟩ = some (.int .u64 x1) := by rw [hW, World.cell?_alloc_new]; rfl
  have c1 : W0.cell? ⟨w4.heap.size, 1, none⟩ = some (.int .u64 x2) := by rw [hW, World.cell?_alloc_new]; rfl
  have c2 : W0.cell? ⟨w4.heap.size, 2, none⟩ = some (.int .u64 x3) := by rw [hW, World.cell?_alloc_new]; rfl
  have c3 : W0.cell? ⟨w4.heap.size, 3, none⟩ = some (.int .u64 x4) := by rw [hW, World.cell?_alloc_new]; rfl
  rw [← hW]
  clear hW B4 hb1 hb2 hb3 hb4
  generalize w4.heap.size = b4 at *
  refine wp_loop_rounds 5 ?_
  rw [rounds_succ]
  go_wp2_with fail
  refine (sTrunc1.at _).mono ?_; rintro e w5 ⟨rfl, hb5⟩
  go_wp2_with fail
  refine (sFloor1.at _).mono ?_; rintro e w6 ⟨rfl, hb6⟩
  go_wp2_with fail
  refine (sCeil1.at _).mono ?_; rintro e w7 ⟨rfl, hb7⟩
  go_wp2_with fail
  refine (sNear1.at _).mono ?_; rintro e w8 ⟨rfl, hb8⟩
  go_wp2_with fail
  refine (sIs1.at _).mono ?_; rintro e w9 ⟨rfl, hb9⟩
  go_wp2_with fail
  refine (sK1.at _).mono ?_; rintro e w10 ⟨rfl, hb10⟩
  have R0 := (bthen hb5 (bthen hb6 (bthen hb7 (bthen hb8 (bthen hb9 hb10)))))
  have Z0 : b4 < w10.heap.size := Nat.lt_of_lt_of_le Z R0.size
  have E0 := bthen B5 R0
  have d0_1 := (R0.cell (p := ⟨b4, 1, none⟩) Z).trans c1
  have d0_2 := (R0.cell (p := ⟨b4, 2, none⟩) Z).trans c2
  have d0_3 := (R0.cell (p := ⟨b4, 3, none⟩) Z).trans c3
  clear hb5 hb6 hb7 hb8 hb9 hb10
  clear c0 c1 c2 c3
  go_wp2_with fail
  rw [rounds_succ]
  go_wp2_with fail
  refine (sTrunc2.at _).mono ?_; rintro e w11 ⟨rfl, hb11⟩
  go_wp2_with fail
  refine (sFloor2.at _).mono ?_; rintro e w12 ⟨rfl, hb12⟩
  go_wp2_with fail
  refine (sCeil2.at _).mono ?_; rintro e w13 ⟨rfl, hb13⟩
  go_wp2_with fail
  refine (sNear2.at _).mono ?_; rintro e w14 ⟨rfl, hb14⟩
  go_wp2_with fail
  refine (sIs2.at _).mono ?_; rintro e w15 ⟨rfl, hb15⟩
  go_wp2_with fail
  refine (sK2.at _).mono ?_; rintro e w16 ⟨rfl, hb16⟩
  have R1 := (bthen hb11 (bthen hb12 (bthen hb13 (bthen hb14 (bthen hb15 hb16)))))
  have Z1 : b4 < w16.heap.size := Nat.lt_of_lt_of_le Z0 R1.size
  have E1 := bthen E0 R1
  have d1_2 := (R1.cell (p := ⟨b4, 2, none⟩) Z0).trans d0_2
  have d1_3 := (R1.cell (p := ⟨b4, 3, none⟩) Z0).trans d0_3
  clear hb11 hb12 hb13 hb14 hb15 hb16
  clear d0_1 d0_2 d0_3
  go_wp2_with fail
  rw [rounds_succ]
  go_wp2_with fail
  refine (sTrunc3.at _).mono ?_; rintro e w17 ⟨rfl, hb17⟩
  go_wp2_with fail
  refine (sFloor3.at _).mono ?_; rintro e w18 ⟨rfl, hb18⟩
  go_wp2_with fail
  refine (sCeil3.at _).mono ?_; rintro e w19 ⟨rfl, hb19⟩
  go_wp2_with fail
  refine (sNear3.at _).mono ?_; rintro e w20 ⟨rfl, hb20⟩
  go_wp2_with fail
  refine (sIs3.at _).mono ?_; rintro e w21 ⟨rfl, hb21⟩
  go_wp2_with fail
  refine (sK3.at _).mono ?_; rintro e w22 ⟨rfl, hb22⟩
  have R2 := (bthen hb17 (bthen hb18 (bthen hb19 (bthen hb20 (bthen hb21 hb22)))))
  have Z2 : b4 < w22.heap.size := Nat.lt_of_lt_of_le Z1 R2.size
  have E2 := bthen E1 R2
  have d2_3 := (R2.cell (p := ⟨b4, 3, none⟩) Z1).trans d1_3
  clear hb17 hb18 hb19 hb20 hb21 hb22
  clear d1_2 d1_3
  go_wp2_with fail
  rw [rounds_succ]
  go_wp2_with fail
  refine (sTrunc4.at _).mono ?_; rintro e w23 ⟨rfl, hb23⟩
  go_wp2_with fail
  refine (sFloor4.at _).mono ?_; rintro e w24 ⟨rfl, hb24⟩
  go_wp2_with fail
  refine (sCeil4.at _).mono ?_; rintro e w25 ⟨rfl, hb25⟩
  go_wp2_with fail
  refine (sNear4.at _).mono ?_; rintro e w26 ⟨rfl, hb26⟩
  go_wp2_with fail
  refine (sIs4.at _).mono ?_; rintro e w27 ⟨rfl, hb27⟩
  go_wp2_with fail
  refine (sK4.at _).mono ?_; rintro e w28 ⟨rfl, hb28⟩
  have R3 := (bthen hb23 (bthen hb24 (bthen hb25 (bthen hb26 (bthen hb27 hb28)))))
  have Z3 : b4 < w28.heap.size := Nat.lt_of_lt_of_le Z2 R3.size
  have E3 := bthen E2 R3
  clear hb23 hb24 hb25 hb26 hb27 hb28
  clear d2_3
  go_wp2_with fail
  rw [rounds_succ]
  go_wp2_with fail
  refine (ans_lives.at _).mono ?_; rintro e wz ⟨rfl, hbz⟩
  go_wp2_with fail
  go_ret
  exact ⟨rfl, bthen E3 hbz⟩
theorem row_WholeTwice (a0 : Int) (w : World) (w0 : (Lit.int .u64 a0).wf = true) :
    Calls Try.prog 7 #[.int .u64 a0] w fun e w' => e = .returned (.bool true) ∧ Below w.heap.size w w' := by
  obtain ⟨a, rfl, ha⟩ := wf_u64 w0
  have t : ∀ v, Ans 17 #[.int .u64 (intW v a)] (.int .u64 (intW v a)) := fun v => by
    have h := ans_Trunc (intW v a) (intW_lt v ha); rw [whole_twice] at h; exact h
  have f : ∀ v, Ans 18 #[.int .u64 (intW v a)] (.int .u64 (intW v a)) := fun v => by
    have h := ans_Floor (intW v a) (intW_lt v ha); rw [whole_twice] at h; exact h
  have c : ∀ v, Ans 19 #[.int .u64 (intW v a)] (.int .u64 (intW v a)) := fun v => by
    have h := ans_Ceil (intW v a) (intW_lt v ha); rw [whole_twice] at h; exact h
  have n : ∀ v, Ans 20 #[.int .u64 (intW v a)] (.int .u64 (intW v a)) := fun v => by
    have h := ans_Near (intW v a) (intW_lt v ha); rw [whole_twice] at h; exact h
  have i := fun v => ans_Is (intW v a) (intW_lt v ha)
  have k := fun v => ans_refKind (intW v a) (intW_lt v ha)
  have hw := fun v => is_whole v a
  by_cases h : rg a < INF
  · have hk : ∀ v, ((kindN (intW v a) : Nat) : Int) < 3 := fun v => by have := (fin_kind _).2 (intW_facts v h).2.1; omega
    have i' : ∀ v, Ans 10 #[.int .u64 (intW v a)] (.bool true) := fun v => by
      have := i v; rw [hw v, decide_eq_true ((fin_kind _).2 (intW_facts v h).2.1)] at this; exact this
    exact walk_WholeTwice_fin _ _ _ _ _ _ _ _ _ (ans_Trunc a ha) (ans_Floor a ha) (ans_Ceil a ha) (ans_Near a ha) (t _) (f _) (c _) (n _) (i' _) (k _) (hk _) (t _) (f _) (c _) (n _) (i' _) (k _) (hk _) (t _) (f _) (c _) (n _) (i' _) (k _) (hk _) (t _) (f _) (c _) (n _) (i' _) (k _) (hk _) w
  · have nk : ∀ v, ¬ rg (intW v a) < INF := fun v => by
      rcases Nat.lt_or_ge INF (rg a) with c | c
      · rw [intW_nan v c]; have := nanw_nan; omega
      · rw [intW_inf v (by omega)]; omega
    have hk : ∀ v, ¬ ((kindN (intW v a) : Nat) : Int) < 3 := fun v x => nk v ((fin_kind _).1 (by omega))
    have i' : ∀ v, Ans 10 #[.int .u64 (intW v a)] (.bool false) := fun v => by
      have := i v; rw [hw v, decide_eq_false (fun x => nk v ((fin_kind _).1 x))] at this; exact this
    exact walk_WholeTwice_other _ _ _ _ _ _ _ _ _ (ans_Trunc a ha) (ans_Floor a ha) (ans_Ceil a ha) (ans_Near a ha) (t _) (f _) (c _) (n _) (i' _) (k _) (hk _) (t _) (f _) (c _) (n _) (i' _) (k _) (hk _) (t _) (f _) (c _) (n _) (i' _) (k _) (hk _) (t _) (f _) (c _) (n _) (i' _) (k _) (hk _) w
end Go.Proofs.Yteaegggncmhhnaa.Ans
