/- Texts on AsksG, joined. No conditions but those that each theorem states. -/
import Derived.Test.YtlihonbmopeemaaBdObjG
import Derived.Test.YtlihonbmopeemaaBdAskG
section
namespace Go.Proofs.Ytlihonbmopeemaa.Hp
open Go Go.RowKit Go.Proofs.Ytlihonbmopeemaa.HpLaw Go.Proofs.Ytlihonbmopeemaa.Ans Go.Proofs.Ytlihonbmopeemaa.Num Go.Proofs.Ytlihonbmopeemaa.DigLaw Go.Proofs.Ytlihonbmopeemaa.Fl Go.Proofs.Ytlihonbmopeemaa.Dig Go.Proofs.Ytlihonbmopeemaa.Float
set_option linter.unusedSimpArgs false
attribute [local go_sem ↓] Go.wp_at_zero Go.wp_at_succ
attribute [local go_sem high] eqV

theorem HeapIs.len_walk {W : World} {hp : Nat} {s : List Ob} {limit : Int} {F : List Nat} (h : HeapIs W hp s limit F) : Calls Try.prog 70 #[.pointer (some ⟨hp, 0, none⟩)] W fun e w' => e = .returned (.int .i64 s.length) ∧ W = w' := by
  obtain ⟨os, v, h1, h2, h3, h4, h5⟩ := h
  have := Go.Proofs.Ytlihonbmopeemaa.Hp.len_walk W h1
  rw [← h2, obs_len]
  exact this
theorem RefIs.len {W : World} {d : Nat} {s : List Ob} {limit : Int} {G : List Nat} (h : RefIs W d s limit G) : ∃ ad cap, W.cell? ⟨d, 0, none⟩ = some (.slice ad s.length cap) ∧ s.length ≤ 1048576 := by
  obtain ⟨l, v, h1, h2, h3, h4, h5⟩ := h
  obtain ⟨ad, cap, hv, -, -, -⟩ := row_form h1.row
  refine ⟨ad, cap, ?_, ?_⟩
  · rw [h1.d_cells.1, hv, ← h2, robs_len]
  · have := usedOf_len s
    omega
set_option maxHeartbeats 4000000 in
set_option maxRecDepth 100000 in
theorem asks_walk {N hp d : Nat} {s : List Ob} {limit : Int} (x : ActV) (hk : VOK x.k) (W : World) (h : Joint N hp d s limit W) (hP : PlainS s) :
    Calls Try.prog 44 #[.pointer (some ⟨hp, 0, none⟩), .pointer (some ⟨d, 0, none⟩), x.val] W (DoesP N W hp d s limit) := by
  obtain ⟨kind, o, a, b, n, kk, vv⟩ := x
  have J := Lib.hid h
  obtain ⟨F, G, h1, h2, -, -, h5⟩ := h
  have hd5 := h5 d h2.d_mem
  have hNW : N ≤ W.heap.size := by have := h2.lt d h2.d_mem; omega
  have JD : Hid (∀ w, Below W.heap.size W w → DoesP N W hp d s limit (.returned (.bool true)) w) := by
    intro w hb
    obtain ⟨F, G, h1, h2, h3, h4, h5⟩ := J.out
    exact ⟨rfl, ⟨F, G, h1.kept (B := []) (Chg.of_below hb) (fun _ _ => List.not_mem_nil), h2.below hb, h3, h4, h5⟩, hb.mono hNW⟩
  have h1b : ∀ w, Below W.heap.size W w → HeapIs w hp s limit F := fun w hb => h1.kept (B := []) (Chg.of_below hb) (fun _ _ => List.not_mem_nil)
  have h2b : ∀ w, Below W.heap.size W w → RefIs w d s limit G := fun w hb => h2.below hb
  have hp1 : ∀ ob ∈ s, ob.kind ≠ 5 → ob.kv = [] := h1.plain
  obtain ⟨r, Hr⟩ : ∃ r, Hid (r = nextS s o kk) := ⟨_, Lib.hid rfl⟩
  obtain ⟨g, Hg⟩ : ∃ g, Hid (g = getS s o kk) := ⟨_, Lib.hid rfl⟩
  obtain ⟨lo, Hlo⟩ : ∃ lo, Hid (lo = lookS s 17 o kk) := ⟨_, Lib.hid rfl⟩
  obtain ⟨sl, Hsl⟩ : ∃ sl, Hid (sl = slotS s o n) := ⟨_, Lib.hid rfl⟩
  have C1 : Hid (∀ w, Below W.heap.size W w → Calls Try.prog 22 #[.pointer (some ⟨hp, 0, none⟩), .int .i64 o, kk.v] w (NextP w r)) := fun w hb => by
    rw [Hr.out]; exact next_walk o kk hk w (h1b w hb)
  have C2 : Hid (∀ w, Below W.heap.size W w → Calls Try.prog 64 #[.pointer (some ⟨d, 0, none⟩), .int .i64 o, kk.v] w (NextP w r)) := fun w hb => by
    rw [Hr.out]; exact rnext_walk o kk hk w (h2b w hb)
  have C3 : Hid (∀ w, Below W.heap.size W w → Calls Try.prog 14 #[.pointer (some ⟨hp, 0, none⟩), .int .i64 o, kk.v] w (ValP w g)) := fun w hb => by
    rw [Hg.out]; exact Get_walk o kk hk w (h1b w hb)
  have C4 : Hid (∀ w, Below W.heap.size W w → Calls Try.prog 65 #[.pointer (some ⟨d, 0, none⟩), .int .i64 o, kk.v] w (ValP w g)) := fun w hb => by
    rw [Hg.out]; exact rget_walk o kk hk w (h2b w hb) hp1
  have C5 : Hid (∀ w, Below W.heap.size W w → Calls Try.prog 15 #[.pointer (some ⟨hp, 0, none⟩), .int .i64 o, kk.v] w (ValP w lo)) := fun w hb => by
    rw [Hlo.out]; exact look_walk o kk hk w (h1b w hb)
  have C6 : Hid (∀ w, Below W.heap.size W w → Calls Try.prog 66 #[.pointer (some ⟨d, 0, none⟩), .int .i64 o, kk.v] w (ValP w lo)) := fun w hb => by
    rw [Hlo.out]; exact rlook_walk o kk hk w (h2b w hb) hP
  have C7 : Hid (∀ w, Below W.heap.size W w → Calls Try.prog 12 #[.pointer (some ⟨hp, 0, none⟩), .int .i64 o] w fun e w' => ∃ n : Nat, e = .returned (.int .i64 n) ∧ SizeIs s o n ∧ w = w') := fun w hb => size_walk o w (h1b w hb)
  have C8 : Hid (∀ w, Below W.heap.size W w → Calls Try.prog 67 #[.pointer (some ⟨d, 0, none⟩), .int .i64 o] w (SizeP w s o)) := fun w hb => rsize_walk o w (h2b w hb) hp1
  have C9 : Hid (∀ w, Below W.heap.size W w → Calls Try.prog 68 #[.pointer (some ⟨hp, 0, none⟩), .int .i64 o, .int .i64 n] w (ValP w sl)) := fun w hb => by
    rw [Hsl.out]; exact slot_walk o n w (h1b w hb)
  have C10 : Hid (∀ w, Below W.heap.size W w → Calls Try.prog 69 #[.pointer (some ⟨d, 0, none⟩), .int .i64 o, .int .i64 n] w (ValP w sl)) := fun w hb => by
    rw [Hsl.out]; exact rslot_walk o n w (h2b w hb)
  obtain ⟨u, Hu⟩ : ∃ u, Hid (u = usedOf s) := ⟨_, Lib.hid rfl⟩
  obtain ⟨sn, Hsn⟩ : ∃ sn, Hid (sn = s.length) := ⟨_, Lib.hid rfl⟩
  have C11 : Hid (∀ w, Below W.heap.size W w → Calls Try.prog 18 #[.pointer (some ⟨hp, 0, none⟩)] w fun e w' => e = .returned (.int .i64 ((u : Nat) : Int)) ∧ w = w') := fun w hb => by
    rw [Hu.out]; exact used_is (h1b w hb)
  have C12 : Hid (∀ w, Below W.heap.size W w → Calls Try.prog 19 #[.pointer (some ⟨d, 0, none⟩)] w (NmP w ((u : Nat) : Int))) := fun w hb => by
    rw [Hu.out]; exact rused_walk w (h2b w hb)
  have C13 : Hid (∀ w, Below W.heap.size W w → Calls Try.prog 70 #[.pointer (some ⟨hp, 0, none⟩)] w fun e w' => e = .returned (.int .i64 ((sn : Nat) : Int)) ∧ w = w') := fun w hb => by
    rw [Hsn.out]; exact (h1b w hb).len_walk
  have C14 : Hid (∃ ad cap, ∀ w, Below W.heap.size W w → w.cell? ⟨d, 0, none⟩ = some (.slice ad sn cap)) := by
    obtain ⟨ad, cap, e, _⟩ := h2.len
    exact ⟨ad, cap, fun w hb => by rw [Hsn.out, hb.cell (World.block_lt_of_cell? W _ e)]; exact e⟩
  have HB0 : Hid (∀ O, Below W.heap.size W (W.alloc O)) := fun O => (Below.refl _ _).alloc (Nat.le_refl _) O
  have hs0 : sameV ⟨r.1.k, r.1.n, r.1.s, r.1.o⟩ ⟨r.1.k, r.1.n, r.1.s, r.1.o⟩ = true := sameV_self _
  have hs1 : sameV ⟨r.2.1.k, r.2.1.n, r.2.1.s, r.2.1.o⟩ ⟨r.2.1.k, r.2.1.n, r.2.1.s, r.2.1.o⟩ = true := sameV_self _
  have hs2 : sameV ⟨g.k, g.n, g.s, g.o⟩ ⟨g.k, g.n, g.s, g.o⟩ = true := sameV_self _
  have hs3 : sameV ⟨lo.k, lo.n, lo.s, lo.o⟩ ⟨lo.k, lo.n, lo.s, lo.o⟩ = true := sameV_self _
  have hs4 : sameV ⟨sl.k, sl.n, sl.s, sl.o⟩ ⟨sl.k, sl.n, sl.s, sl.o⟩ = true := sameV_self _
  clear h1 h2 h5 hd5 h1b h2b hp1 hP
  unfold Val.v at C1 C2 C3 C4 C5 C6
  unfold ActV.val ActV.cs
  go_enter Try.func44, Try.ntmps44
  go_upto_region 1 with fail
  obtain ⟨w1, Hw1⟩ : ∃ w1, Hid (w1 = W.alloc (.cells #[.int .i64 kind, .int .i64 o, .int .i64 a, .int .i64 b, .int .i64 n, .int .i64 kk.k, .int .u64 kk.n, .string kk.s, .int .i64 kk.o, .int .i64 vv.k, .int .u64 vv.n, .string vv.s, .int .i64 vv.o] 52)) := ⟨_, Lib.hid rfl⟩
  rw [← Hw1.out]
  have B1 : Hid (Below W.heap.size W w1) := by
    show Below _ _ _
    rw [Hw1.out]; exact HB0.out _
  have X1 : Hid (w1.heap[W.heap.size]? = some (.cells (ActV.cs ⟨kind, o, a, b, n, kk, vv⟩) 52 (0, 0))) := by
    show _ = _
    rw [Hw1.out]; exact heap_alloc_new _ _
  have HC : Hid (∀ w, Below w1.heap.size w1 w → w.cell? ⟨W.heap.size, 1, none⟩ = some (.int .i64 o) ∧ w.cell? ⟨W.heap.size, 4, none⟩ = some (.int .i64 n) ∧ w.cell? ⟨W.heap.size, 5, none⟩ = some (.int .i64 kk.k) ∧ w.cell? ⟨W.heap.size, 6, none⟩ = some (.int .u64 kk.n) ∧ w.cell? ⟨W.heap.size, 7, none⟩ = some (.string kk.s) ∧ w.cell? ⟨W.heap.size, 8, none⟩ = some (.int .i64 kk.o)) := by
    intro w hb
    obtain ⟨-, c1, -, -, c4, c5, c6, c7, c8, -⟩ := box13 ((hb.block _ (Array.getElem?_eq_some_iff.1 X1.out).1).trans X1.out)
    exact ⟨c1, c4, c5, c6, c7, c8⟩
  obtain ⟨be, Hbe⟩ : ∃ be, Hid (be = W.heap.size) := ⟨_, Lib.hid rfl⟩
  rw [← Hbe.out] at HC ⊢
  obtain ⟨c1, c4, c5, c6, c7, c8⟩ := HC.out w1 (Below.refl _ _)
  go_wp2_with fail
  refine (C1.out _ B1.out).mono ?_
  rintro e w2 ⟨rfl, b2⟩
  have Z2 := Lib.hid b2
  clear b2 c1 c4 c5 c6 c7 c8
  simp only [Val.v]
  go_upto_region 2 with fail
  obtain ⟨w3, Hw3⟩ : ∃ w3, Hid (w3 = (w2.alloc (.cells #[.int .i64 r.1.k, .int .u64 r.1.n, .string r.1.s, .int .i64 r.1.o] 34)).alloc (.cells #[.int .i64 r.2.1.k, .int .u64 r.2.1.n, .string r.2.1.s, .int .i64 r.2.1.o] 34)) := ⟨_, Lib.hid rfl⟩
  rw [← Hw3.out]
  have X3 : Hid (Bx w2 [r.1, r.2.1] w3) := by
    show Bx _ _ _
    rw [Hw3.out]
    exact ((Bx.nil w2).snoc rfl r.1).snoc (by simp) r.2.1
  obtain ⟨b7, Hb7⟩ : ∃ b, Hid (b = w2.heap.size) := ⟨_, Lib.hid rfl⟩
  obtain ⟨b8, Hb8⟩ : ∃ b, Hid (b = w2.heap.size + 1) := ⟨_, Lib.hid rfl⟩
  rw [← Hb8.out, ← Hb7.out]
  have Z3 := Lib.hid (bthen Z2.out X3.out.below)
  obtain ⟨c1, c4, c5, c6, c7, c8⟩ := HC.out w3 Z3.out
  go_wp2_with fail
  refine (C2.out _ (bthen B1.out Z3.out)).mono ?_
  rintro e w4 ⟨rfl, b4⟩
  have B4 := Lib.hid b4
  clear b4 c1 c4 c5 c6 c7 c8
  simp only [Val.v]
  go_upto_region 3 with fail
  obtain ⟨w5, Hw5⟩ : ∃ w5, Hid (w5 = (w4.alloc (.cells #[.int .i64 r.1.k, .int .u64 r.1.n, .string r.1.s, .int .i64 r.1.o] 34)).alloc (.cells #[.int .i64 r.2.1.k, .int .u64 r.2.1.n, .string r.2.1.s, .int .i64 r.2.1.o] 34)) := ⟨_, Lib.hid rfl⟩
  rw [← Hw5.out]
  have X5 : Hid (Bx w4 [r.1, r.2.1] w5) := by
    show Bx _ _ _
    rw [Hw5.out]
    exact ((Bx.nil w4).snoc rfl r.1).snoc (by simp) r.2.1
  obtain ⟨p7, Hp7⟩ : ∃ b, Hid (b = w4.heap.size) := ⟨_, Lib.hid rfl⟩
  obtain ⟨p8, Hp8⟩ : ∃ b, Hid (b = w4.heap.size + 1) := ⟨_, Lib.hid rfl⟩
  rw [← Hp8.out, ← Hp7.out]
  have Z := Lib.hid (bthen Z3.out (bthen B4.out X5.out.below))
  obtain ⟨ad, cap, hca⟩ := C14.out
  have HCA := Lib.hid hca
  have BZ := Lib.hid (bthen B1.out Z.out)
  have HCELL : Hid (∀ w, Below w5.heap.size w5 w → w.cell? ⟨b7, 0, none⟩ = some (.int .i64 r.1.k) ∧ w.cell? ⟨b7, 1, none⟩ = some (.int .u64 r.1.n) ∧ w.cell? ⟨b7, 2, none⟩ = some (.string r.1.s) ∧ w.cell? ⟨b7, 3, none⟩ = some (.int .i64 r.1.o) ∧ w.cell? ⟨b8, 0, none⟩ = some (.int .i64 r.2.1.k) ∧ w.cell? ⟨b8, 1, none⟩ = some (.int .u64 r.2.1.n) ∧ w.cell? ⟨b8, 2, none⟩ = some (.string r.2.1.s) ∧ w.cell? ⟨b8, 3, none⟩ = some (.int .i64 r.2.1.o) ∧ w.cell? ⟨p7, 0, none⟩ = some (.int .i64 r.1.k) ∧ w.cell? ⟨p7, 1, none⟩ = some (.int .u64 r.1.n) ∧ w.cell? ⟨p7, 2, none⟩ = some (.string r.1.s) ∧ w.cell? ⟨p7, 3, none⟩ = some (.int .i64 r.1.o) ∧ w.cell? ⟨p8, 0, none⟩ = some (.int .i64 r.2.1.k) ∧ w.cell? ⟨p8, 1, none⟩ = some (.int .u64 r.2.1.n) ∧ w.cell? ⟨p8, 2, none⟩ = some (.string r.2.1.s) ∧ w.cell? ⟨p8, 3, none⟩ = some (.int .i64 r.2.1.o) ∧
      w.cell? ⟨be, 1, none⟩ = some (.int .i64 o) ∧ w.cell? ⟨be, 4, none⟩ = some (.int .i64 n) ∧ w.cell? ⟨be, 5, none⟩ = some (.int .i64 kk.k) ∧ w.cell? ⟨be, 6, none⟩ = some (.int .u64 kk.n) ∧ w.cell? ⟨be, 7, none⟩ = some (.string kk.s) ∧ w.cell? ⟨be, 8, none⟩ = some (.int .i64 kk.o) ∧ w.cell? ⟨d, 0, none⟩ = some (.slice ad sn cap)) := by
    intro w hb
    obtain ⟨d0, d1, d2, d3, -⟩ := (X3.out.step (bthen B4.out (bthen X5.out.below hb))).cell 0 rfl b7 Hb7.out
    obtain ⟨i0, i1, i2, i3, -⟩ := (X3.out.step (bthen B4.out (bthen X5.out.below hb))).cell 1 rfl b8 Hb8.out
    obtain ⟨f0, f1, f2, f3, -⟩ := (X5.out.step hb).cell 0 rfl p7 Hp7.out
    obtain ⟨g0, g1, g2, g3, -⟩ := (X5.out.step hb).cell 1 rfl p8 Hp8.out
    obtain ⟨c1, c4, c5, c6, c7, c8⟩ := HC.out w (bthen Z.out hb)
    exact ⟨d0, d1, d2, d3, i0, i1, i2, i3, f0, f1, f2, f3, g0, g1, g2, g3, c1, c4, c5, c6, c7, c8, HCA.out w (bthen BZ.out hb)⟩
  simp only [List.append_eq, List.cons_append, List.nil_append]
  refine with_act ?_
  intro a0 HA0
  have e0 : a0.eval (.tmp 0) = .pointer (some ⟨hp, 0, none⟩) := by rw [HA0.out]; rfl
  have e1 : a0.eval (.tmp 1) = .pointer (some ⟨d, 0, none⟩) := by rw [HA0.out]; rfl
  have e5 : a0.eval (.tmp 5) = .pointer (some ⟨be, 0, none⟩) := by rw [HA0.out]; rfl
  have e7 : a0.eval (.tmp 7) = .pointer (some ⟨b7, 0, none⟩) := by rw [HA0.out]; rfl
  have e8 : a0.eval (.tmp 8) = .pointer (some ⟨b8, 0, none⟩) := by rw [HA0.out]; rfl
  have e9 : a0.eval (.tmp 9) = .int .i64 r.2.2 := by rw [HA0.out]; rfl
  have e10 : a0.eval (.tmp 10) = .pointer (some ⟨p7, 0, none⟩) := by rw [HA0.out]; rfl
  have e11 : a0.eval (.tmp 11) = .pointer (some ⟨p8, 0, none⟩) := by rw [HA0.out]; rfl
  have e12 : a0.eval (.tmp 12) = .int .i64 r.2.2 := by rw [HA0.out]; rfl
  have hsz : a0.tmps.size = 119 := by rw [HA0.out]; rfl
  have HB := Lib.hid (Below.drew (Below.refl w5.heap.size w5))
  refine wp_region_T 86 (fun w' => Below w5.heap.size w5 w') (by kernel_rfl) (by kernel_rfl) HB.out ?_
  refine runT_takeW 0 33 (.agg #[.int .i64 r.1.k, .int .u64 r.1.n, .string r.1.s, .int .i64 r.1.o]) rfl (by kernel_rfl) (fun _ _ _ h => h) ?_ ?_; rotate_left
  refine runT_takeW 1 34 (.agg #[.int .i64 r.1.k, .int .u64 r.1.n, .string r.1.s, .int .i64 r.1.o]) rfl (by kernel_rfl) (fun _ _ _ h => h) ?_ ?_; rotate_left
  refine runT_takeW 2 35 (.bool true) rfl (by kernel_rfl) (fun _ _ _ h => h) ?_ ?_; rotate_left
  refine runT_takeW 3 36 (.bool true) rfl (by kernel_rfl) (fun _ _ _ h => h) ?_ ?_; rotate_left
  refine runT_takeW 4 37 (.agg #[.int .i64 r.2.1.k, .int .u64 r.2.1.n, .string r.2.1.s, .int .i64 r.2.1.o]) rfl (by kernel_rfl) (fun _ _ _ h => h) ?_ ?_; rotate_left
  refine runT_takeW 5 38 (.agg #[.int .i64 r.2.1.k, .int .u64 r.2.1.n, .string r.2.1.s, .int .i64 r.2.1.o]) rfl (by kernel_rfl) (fun _ _ _ h => h) ?_ ?_; rotate_left
  refine runT_takeW 6 39 (.bool true) rfl (by kernel_rfl) (fun _ _ _ h => h) ?_ ?_; rotate_left
  refine runT_takeW 7 40 (.bool true) rfl (by kernel_rfl) (fun _ _ _ h => h) ?_ ?_; rotate_left
  refine runT_takeW 8 41 (.bool true) rfl (by kernel_rfl) (fun _ _ _ h => h) ?_ ?_; rotate_left
  refine runT_takeW 9 42 (.int .i64 r.2.2) rfl (by kernel_rfl) (fun _ _ _ h => h) ?_ ?_; rotate_left
  refine runT_takeW 10 43 (.int .i64 r.2.2) rfl (by kernel_rfl) (fun _ _ _ h => h) ?_ ?_; rotate_left
  refine runT_takeW 11 44 (.bool true) rfl (by kernel_rfl) (fun _ _ _ h => h) ?_ ?_; rotate_left
  refine runT_takeW 12 45 (.bool true) rfl (by kernel_rfl) (fun _ _ _ h => h) ?_ ?_; rotate_left
  refine runT_takeW 13 46 (.bool true) rfl (by kernel_rfl) (fun _ _ _ h => h) ?_ ?_; rotate_left
  refine runT_takeW 14 47 (.pointer (some ⟨hp, 0, none⟩)) rfl (by kernel_rfl) (fun _ _ _ h => h) ?_ ?_; rotate_left
  refine runT_takeW 15 48 (.pointer (some ⟨be, 1, none⟩)) rfl (by kernel_rfl) (fun _ _ _ h => h) ?_ ?_; rotate_left
  refine runT_takeW 16 49 (.int .i64 o) rfl (by kernel_rfl) (fun _ _ _ h => h) ?_ ?_; rotate_left
  refine runT_takeW 17 50 (.pointer (some ⟨be, 5, none⟩)) rfl (by kernel_rfl) (fun _ _ _ h => h) ?_ ?_; rotate_left
  refine runT_takeW 18 51 (.agg #[.int .i64 kk.k, .int .u64 kk.n, .string kk.s, .int .i64 kk.o]) rfl (by kernel_rfl) (fun _ _ _ h => h) ?_ ?_; rotate_left
  refine runT_takeW 20 53 (.pointer (some ⟨d, 0, none⟩)) rfl (by kernel_rfl) (fun _ _ _ h => h) ?_ ?_; rotate_left
  refine runT_takeW 21 54 (.pointer (some ⟨be, 1, none⟩)) rfl (by kernel_rfl) (fun _ _ _ h => h) ?_ ?_; rotate_left
  refine runT_takeW 22 55 (.int .i64 o) rfl (by kernel_rfl) (fun _ _ _ h => h) ?_ ?_; rotate_left
  refine runT_takeW 23 56 (.pointer (some ⟨be, 5, none⟩)) rfl (by kernel_rfl) (fun _ _ _ h => h) ?_ ?_; rotate_left
  refine runT_takeW 24 57 (.agg #[.int .i64 kk.k, .int .u64 kk.n, .string kk.s, .int .i64 kk.o]) rfl (by kernel_rfl) (fun _ _ _ h => h) ?_ ?_; rotate_left
  refine runT_one 19 (by kernel_rfl) (by decide) (fun o ho => ?_)
  simp only [List.getElem?_toArray, List.getElem?_cons_succ, List.getElem?_cons_zero, Option.some.injEq] at ho
  subst ho
  refine ⟨?_, fun K hK => ?_⟩; rotate_left
  refine step_call _ Try.func14 (by kernel_rfl) rfl rfl (#[.pointer (some ⟨hp, 0, none⟩), .int .i64 o, .agg #[.int .i64 kk.k, .int .u64 kk.n, .string kk.s, .int .i64 kk.o]]) ?_ ?_; rotate_left
  refine (C3.out _ (bthen BZ.out HB.out)).mono ?_
  rintro e w8 ⟨rfl, b8⟩
  have HB := Lib.hid (bthen HB.out b8)
  clear b8
  refine ⟨.agg #[.int .i64 g.k, .int .u64 g.n, .string g.s, .int .i64 g.o], rfl, hK _ _ HB.out ?_⟩
  refine runT_one 25 (by kernel_rfl) (by decide) (fun o ho => ?_)
  simp only [List.getElem?_toArray, List.getElem?_cons_succ, List.getElem?_cons_zero, Option.some.injEq] at ho
  subst ho
  refine ⟨?_, fun K hK => ?_⟩; rotate_left
  refine step_call _ Try.func65 (by kernel_rfl) rfl rfl (#[.pointer (some ⟨d, 0, none⟩), .int .i64 o, .agg #[.int .i64 kk.k, .int .u64 kk.n, .string kk.s, .int .i64 kk.o]]) ?_ ?_; rotate_left
  refine (C4.out _ (bthen BZ.out HB.out)).mono ?_
  rintro e w8 ⟨rfl, b8⟩
  have HB := Lib.hid (bthen HB.out b8)
  clear b8
  refine ⟨.agg #[.int .i64 g.k, .int .u64 g.n, .string g.s, .int .i64 g.o], rfl, hK _ _ HB.out ?_⟩
  refine runT_takeW 26 59 (.bool true) rfl (by kernel_rfl) (fun _ _ _ h => h) ?_ ?_; rotate_left
  refine runT_takeW 27 60 (.bool true) rfl (by kernel_rfl) (fun _ _ _ h => h) ?_ ?_; rotate_left
  refine runT_takeW 28 61 (.bool true) rfl (by kernel_rfl) (fun _ _ _ h => h) ?_ ?_; rotate_left
  refine runT_takeW 29 62 (.pointer (some ⟨hp, 0, none⟩)) rfl (by kernel_rfl) (fun _ _ _ h => h) ?_ ?_; rotate_left
  refine runT_takeW 30 63 (.pointer (some ⟨be, 1, none⟩)) rfl (by kernel_rfl) (fun _ _ _ h => h) ?_ ?_; rotate_left
  refine runT_takeW 31 64 (.int .i64 o) rfl (by kernel_rfl) (fun _ _ _ h => h) ?_ ?_; rotate_left
  refine runT_takeW 32 65 (.pointer (some ⟨be, 5, none⟩)) rfl (by kernel_rfl) (fun _ _ _ h => h) ?_ ?_; rotate_left
  refine runT_takeW 33 66 (.agg #[.int .i64 kk.k, .int .u64 kk.n, .string kk.s, .int .i64 kk.o]) rfl (by kernel_rfl) (fun _ _ _ h => h) ?_ ?_; rotate_left
  refine runT_takeW 35 68 (.pointer (some ⟨d, 0, none⟩)) rfl (by kernel_rfl) (fun _ _ _ h => h) ?_ ?_; rotate_left
  refine runT_takeW 36 69 (.pointer (some ⟨be, 1, none⟩)) rfl (by kernel_rfl) (fun _ _ _ h => h) ?_ ?_; rotate_left
  refine runT_takeW 37 70 (.int .i64 o) rfl (by kernel_rfl) (fun _ _ _ h => h) ?_ ?_; rotate_left
  refine runT_takeW 38 71 (.pointer (some ⟨be, 5, none⟩)) rfl (by kernel_rfl) (fun _ _ _ h => h) ?_ ?_; rotate_left
  refine runT_takeW 39 72 (.agg #[.int .i64 kk.k, .int .u64 kk.n, .string kk.s, .int .i64 kk.o]) rfl (by kernel_rfl) (fun _ _ _ h => h) ?_ ?_; rotate_left
  refine runT_one 34 (by kernel_rfl) (by decide) (fun o ho => ?_)
  simp only [List.getElem?_toArray, List.getElem?_cons_succ, List.getElem?_cons_zero, Option.some.injEq] at ho
  subst ho
  refine ⟨?_, fun K hK => ?_⟩; rotate_left
  refine step_call _ Try.func15 (by kernel_rfl) rfl rfl (#[.pointer (some ⟨hp, 0, none⟩), .int .i64 o, .agg #[.int .i64 kk.k, .int .u64 kk.n, .string kk.s, .int .i64 kk.o]]) ?_ ?_; rotate_left
  refine (C5.out _ (bthen BZ.out HB.out)).mono ?_
  rintro e w8 ⟨rfl, b8⟩
  have HB := Lib.hid (bthen HB.out b8)
  clear b8
  refine ⟨.agg #[.int .i64 lo.k, .int .u64 lo.n, .string lo.s, .int .i64 lo.o], rfl, hK _ _ HB.out ?_⟩
  refine runT_one 40 (by kernel_rfl) (by decide) (fun o ho => ?_)
  simp only [List.getElem?_toArray, List.getElem?_cons_succ, List.getElem?_cons_zero, Option.some.injEq] at ho
  subst ho
  refine ⟨?_, fun K hK => ?_⟩; rotate_left
  refine step_call _ Try.func66 (by kernel_rfl) rfl rfl (#[.pointer (some ⟨d, 0, none⟩), .int .i64 o, .agg #[.int .i64 kk.k, .int .u64 kk.n, .string kk.s, .int .i64 kk.o]]) ?_ ?_; rotate_left
  refine (C6.out _ (bthen BZ.out HB.out)).mono ?_
  rintro e w8 ⟨rfl, b8⟩
  have HB := Lib.hid (bthen HB.out b8)
  clear b8
  refine ⟨.agg #[.int .i64 lo.k, .int .u64 lo.n, .string lo.s, .int .i64 lo.o], rfl, hK _ _ HB.out ?_⟩
  refine runT_takeW 41 74 (.bool true) rfl (by kernel_rfl) (fun _ _ _ h => h) ?_ ?_; rotate_left
  refine runT_takeW 42 75 (.bool true) rfl (by kernel_rfl) (fun _ _ _ h => h) ?_ ?_; rotate_left
  refine runT_takeW 43 76 (.bool true) rfl (by kernel_rfl) (fun _ _ _ h => h) ?_ ?_; rotate_left
  refine runT_takeW 44 77 (.pointer (some ⟨hp, 0, none⟩)) rfl (by kernel_rfl) (fun _ _ _ h => h) ?_ ?_; rotate_left
  refine runT_takeW 45 78 (.pointer (some ⟨be, 1, none⟩)) rfl (by kernel_rfl) (fun _ _ _ h => h) ?_ ?_; rotate_left
  refine runT_takeW 46 79 (.int .i64 o) rfl (by kernel_rfl) (fun _ _ _ h => h) ?_ ?_; rotate_left
  refine runT_takeW 48 81 (.pointer (some ⟨d, 0, none⟩)) rfl (by kernel_rfl) (fun _ _ _ h => h) ?_ ?_; rotate_left
  refine runT_takeW 49 82 (.pointer (some ⟨be, 1, none⟩)) rfl (by kernel_rfl) (fun _ _ _ h => h) ?_ ?_; rotate_left
  refine runT_takeW 50 83 (.int .i64 o) rfl (by kernel_rfl) (fun _ _ _ h => h) ?_ ?_; rotate_left
  refine runT_one 47 (by kernel_rfl) (by decide) (fun o ho => ?_)
  simp only [List.getElem?_toArray, List.getElem?_cons_succ, List.getElem?_cons_zero, Option.some.injEq] at ho
  subst ho
  refine ⟨?_, fun K hK => ?_⟩; rotate_left
  refine step_call _ Try.func12 (by kernel_rfl) rfl rfl (#[.pointer (some ⟨hp, 0, none⟩), .int .i64 o]) ?_ ?_; rotate_left
  refine (C7.out _ (bthen BZ.out HB.out)).mono ?_
  rintro e w8 ⟨n1, rfl, hn1, rfl⟩
  refine ⟨_, rfl, hK _ _ HB.out ?_⟩
  refine runT_one 51 (by kernel_rfl) (by decide) (fun o ho => ?_)
  simp only [List.getElem?_toArray, List.getElem?_cons_succ, List.getElem?_cons_zero, Option.some.injEq] at ho
  subst ho
  refine ⟨?_, fun K hK => ?_⟩; rotate_left
  refine step_call _ Try.func67 (by kernel_rfl) rfl rfl (#[.pointer (some ⟨d, 0, none⟩), .int .i64 o]) ?_ ?_; rotate_left
  refine (C8.out _ (bthen BZ.out HB.out)).mono ?_
  rintro e w8 ⟨n2, rfl, hn2, b8⟩
  obtain rfl := hn1.unique hn2
  have HB := Lib.hid (bthen HB.out b8)
  clear b8 hn1 hn2
  refine ⟨_, rfl, hK _ _ HB.out ?_⟩
  refine runT_takeW 52 85 (.bool true) rfl (by kernel_rfl) (fun _ _ _ h => h) ?_ ?_; rotate_left
  refine runT_takeW 53 86 (.bool true) rfl (by kernel_rfl) (fun _ _ _ h => h) ?_ ?_; rotate_left
  refine runT_takeW 54 87 (.bool true) rfl (by kernel_rfl) (fun _ _ _ h => h) ?_ ?_; rotate_left
  refine runT_takeW 55 88 (.pointer (some ⟨hp, 0, none⟩)) rfl (by kernel_rfl) (fun _ _ _ h => h) ?_ ?_; rotate_left
  refine runT_takeW 56 89 (.pointer (some ⟨be, 1, none⟩)) rfl (by kernel_rfl) (fun _ _ _ h => h) ?_ ?_; rotate_left
  refine runT_takeW 57 90 (.int .i64 o) rfl (by kernel_rfl) (fun _ _ _ h => h) ?_ ?_; rotate_left
  refine runT_takeW 58 91 (.pointer (some ⟨be, 4, none⟩)) rfl (by kernel_rfl) (fun _ _ _ h => h) ?_ ?_; rotate_left
  refine runT_takeW 59 92 (.int .i64 n) rfl (by kernel_rfl) (fun _ _ _ h => h) ?_ ?_; rotate_left
  refine runT_takeW 61 94 (.pointer (some ⟨d, 0, none⟩)) rfl (by kernel_rfl) (fun _ _ _ h => h) ?_ ?_; rotate_left
  refine runT_takeW 62 95 (.pointer (some ⟨be, 1, none⟩)) rfl (by kernel_rfl) (fun _ _ _ h => h) ?_ ?_; rotate_left
  refine runT_takeW 63 96 (.int .i64 o) rfl (by kernel_rfl) (fun _ _ _ h => h) ?_ ?_; rotate_left
  refine runT_takeW 64 97 (.pointer (some ⟨be, 4, none⟩)) rfl (by kernel_rfl) (fun _ _ _ h => h) ?_ ?_; rotate_left
  refine runT_takeW 65 98 (.int .i64 n) rfl (by kernel_rfl) (fun _ _ _ h => h) ?_ ?_; rotate_left
  refine runT_one 60 (by kernel_rfl) (by decide) (fun o ho => ?_)
  simp only [List.getElem?_toArray, List.getElem?_cons_succ, List.getElem?_cons_zero, Option.some.injEq] at ho
  subst ho
  refine ⟨?_, fun K hK => ?_⟩; rotate_left
  refine step_call _ Try.func68 (by kernel_rfl) rfl rfl (#[.pointer (some ⟨hp, 0, none⟩), .int .i64 o, .int .i64 n]) ?_ ?_; rotate_left
  refine (C9.out _ (bthen BZ.out HB.out)).mono ?_
  rintro e w8 ⟨rfl, b8⟩
  have HB := Lib.hid (bthen HB.out b8)
  clear b8
  refine ⟨.agg #[.int .i64 sl.k, .int .u64 sl.n, .string sl.s, .int .i64 sl.o], rfl, hK _ _ HB.out ?_⟩
  refine runT_one 66 (by kernel_rfl) (by decide) (fun o ho => ?_)
  simp only [List.getElem?_toArray, List.getElem?_cons_succ, List.getElem?_cons_zero, Option.some.injEq] at ho
  subst ho
  refine ⟨?_, fun K hK => ?_⟩; rotate_left
  refine step_call _ Try.func69 (by kernel_rfl) rfl rfl (#[.pointer (some ⟨d, 0, none⟩), .int .i64 o, .int .i64 n]) ?_ ?_; rotate_left
  refine (C10.out _ (bthen BZ.out HB.out)).mono ?_
  rintro e w8 ⟨rfl, b8⟩
  have HB := Lib.hid (bthen HB.out b8)
  clear b8
  refine ⟨.agg #[.int .i64 sl.k, .int .u64 sl.n, .string sl.s, .int .i64 sl.o], rfl, hK _ _ HB.out ?_⟩
  refine runT_takeW 67 100 (.bool true) rfl (by kernel_rfl) (fun _ _ _ h => h) ?_ ?_; rotate_left
  refine runT_takeW 68 101 (.bool true) rfl (by kernel_rfl) (fun _ _ _ h => h) ?_ ?_; rotate_left
  refine runT_takeW 69 102 (.bool true) rfl (by kernel_rfl) (fun _ _ _ h => h) ?_ ?_; rotate_left
  refine runT_takeW 70 103 (.pointer (some ⟨hp, 0, none⟩)) rfl (by kernel_rfl) (fun _ _ _ h => h) ?_ ?_; rotate_left
  refine runT_takeW 72 105 (.pointer (some ⟨d, 0, none⟩)) rfl (by kernel_rfl) (fun _ _ _ h => h) ?_ ?_; rotate_left
  refine runT_one 71 (by kernel_rfl) (by decide) (fun o ho => ?_)
  simp only [List.getElem?_toArray, List.getElem?_cons_succ, List.getElem?_cons_zero, Option.some.injEq] at ho
  subst ho
  refine ⟨?_, fun K hK => ?_⟩; rotate_left
  refine step_call _ Try.func18 (by kernel_rfl) rfl rfl (#[.pointer (some ⟨hp, 0, none⟩)]) ?_ ?_; rotate_left
  refine (C11.out _ (bthen BZ.out HB.out)).mono ?_
  rintro e w8 ⟨rfl, rfl⟩
  refine ⟨_, rfl, hK _ _ HB.out ?_⟩
  refine runT_one 73 (by kernel_rfl) (by decide) (fun o ho => ?_)
  simp only [List.getElem?_toArray, List.getElem?_cons_succ, List.getElem?_cons_zero, Option.some.injEq] at ho
  subst ho
  refine ⟨?_, fun K hK => ?_⟩; rotate_left
  refine step_call _ Try.func19 (by kernel_rfl) rfl rfl (#[.pointer (some ⟨d, 0, none⟩)]) ?_ ?_; rotate_left
  refine (C12.out _ (bthen BZ.out HB.out)).mono ?_
  rintro e w8 ⟨rfl, b8⟩
  have HB := Lib.hid (bthen HB.out b8)
  clear b8
  refine ⟨_, rfl, hK _ _ HB.out ?_⟩
  refine runT_takeW 74 107 (.bool true) rfl (by kernel_rfl) (fun _ _ _ h => h) ?_ ?_; rotate_left
  refine runT_takeW 75 108 (.bool true) rfl (by kernel_rfl) (fun _ _ _ h => h) ?_ ?_; rotate_left
  refine runT_takeW 76 109 (.bool true) rfl (by kernel_rfl) (fun _ _ _ h => h) ?_ ?_; rotate_left
  refine runT_takeW 77 110 (.pointer (some ⟨hp, 0, none⟩)) rfl (by kernel_rfl) (fun _ _ _ h => h) ?_ ?_; rotate_left
  refine runT_takeW 79 112 (.pointer (some ⟨d, 0, none⟩)) rfl (by kernel_rfl) (fun _ _ _ h => h) ?_ ?_; rotate_left
  refine runT_takeW 80 113 (.pointer (some ⟨d, 0, none⟩)) rfl (by kernel_rfl) (fun _ _ _ h => h) ?_ ?_; rotate_left
  refine runT_takeW 81 114 (.pointer (some ⟨d, 0, none⟩)) rfl (by kernel_rfl) (fun _ _ _ h => h) ?_ ?_; rotate_left
  refine runT_takeW 82 115 (.slice ad sn cap) rfl (by kernel_rfl) (fun _ _ _ h => h) ?_ ?_; rotate_left
  refine runT_takeW 83 116 (.int .i64 (sn : Int)) rfl (by kernel_rfl) (fun _ _ _ h => h) ?_ ?_; rotate_left
  refine runT_one 78 (by kernel_rfl) (by decide) (fun o ho => ?_)
  simp only [List.getElem?_toArray, List.getElem?_cons_succ, List.getElem?_cons_zero, Option.some.injEq] at ho
  subst ho
  refine ⟨?_, fun K hK => ?_⟩; rotate_left
  refine step_call _ Try.func70 (by kernel_rfl) rfl rfl (#[.pointer (some ⟨hp, 0, none⟩)]) ?_ ?_; rotate_left
  refine (C13.out _ (bthen BZ.out HB.out)).mono ?_
  rintro e w8 ⟨rfl, rfl⟩
  refine ⟨_, rfl, hK _ _ HB.out ?_⟩
  refine runT_takeW 84 117 (.bool true) rfl (by kernel_rfl) (fun _ _ _ h => h) ?_ ?_; rotate_left
  refine runT_takeW 85 118 (.bool true) rfl (by kernel_rfl) (fun _ _ _ h => h) ?_ ?_; rotate_left
  refine runT_done [_] rfl (by kernel_rfl) ?_
  · rw [HA0.out]
    have HE := Lib.hid (JD.out _ (bthen BZ.out HB.out))
    clear HA0 e0 e1 e5 e7 e8 e9 e10 e11 e12 hsz HCELL
    go_wp2_with fail
    go_ret
    exact HE.out
  all_goals first
    | (intro w oi hw ho; simp only [List.getElem?_toArray, List.getElem?_cons_succ, List.getElem?_cons_zero, Option.some.injEq] at ho; subst ho; refine ⟨by (first | exact (wanted_of (c := true) rfl rfl (by simp only [put_size, hsz, Nat.reduceLT]) (by repeat (first | (with_reducible exact eval_put_eq _ (by simp only [put_size, hsz, Nat.reduceLT])) | (with_reducible exact e0) | (with_reducible exact e1) | (with_reducible exact e5) | (with_reducible exact e7) | (with_reducible exact e8) | (with_reducible exact e9) | (with_reducible exact e10) | (with_reducible exact e11) | (with_reducible exact e12) | (with_reducible refine (eval_put_ne _ (by decide)).trans ?_)))).trans rfl | exact (wanted_of (c := false) rfl rfl (by simp only [put_size, hsz, Nat.reduceLT]) (by repeat (first | (with_reducible exact eval_put_eq _ (by simp only [put_size, hsz, Nat.reduceLT])) | (with_reducible exact e0) | (with_reducible exact e1) | (with_reducible exact e5) | (with_reducible exact e7) | (with_reducible exact e8) | (with_reducible exact e9) | (with_reducible exact e10) | (with_reducible exact e11) | (with_reducible exact e12) | (with_reducible refine (eval_put_ne _ (by decide)).trans ?_)))).trans rfl | rfl), ?_⟩; obtain ⟨d0, d1, d2, d3, i0, i1, i2, i3, f0, f1, f2, f3, g0, g1, g2, g3, c1, c4, c5, c6, c7, c8, q0⟩ := HCELL.out _ hw; unfold execOp; simp only [eval_put_ne, eval_put_eq, put_size, hsz, ne_eq, Nat.reduceEqDiff, not_false_eq_true, reduceCtorEq, Nat.reduceLT, e0, e1, e5, e7, e8, e9, e10, e11, e12]; go_simp)
    | (simp only [List.map_toArray, List.map_cons, List.map_nil, eval_put_ne, eval_put_eq, put_size, hsz, ne_eq, Nat.reduceEqDiff, not_false_eq_true, reduceCtorEq, Nat.reduceLT, e0, e1, e5, e7, e8, e9, e10, e11, e12]; done)
    | (first | exact (wanted_of (c := true) rfl rfl (by simp only [put_size, hsz, Nat.reduceLT]) (by repeat (first | (with_reducible exact eval_put_eq _ (by simp only [put_size, hsz, Nat.reduceLT])) | (with_reducible exact e0) | (with_reducible exact e1) | (with_reducible exact e5) | (with_reducible exact e7) | (with_reducible exact e8) | (with_reducible exact e9) | (with_reducible exact e10) | (with_reducible exact e11) | (with_reducible exact e12) | (with_reducible refine (eval_put_ne _ (by decide)).trans ?_)))).trans rfl | exact (wanted_of (c := false) rfl rfl (by simp only [put_size, hsz, Nat.reduceLT]) (by repeat (first | (with_reducible exact eval_put_eq _ (by simp only [put_size, hsz, Nat.reduceLT])) | (with_reducible exact e0) | (with_reducible exact e1) | (with_reducible exact e5) | (with_reducible exact e7) | (with_reducible exact e8) | (with_reducible exact e9) | (with_reducible exact e10) | (with_reducible exact e11) | (with_reducible exact e12) | (with_reducible refine (eval_put_ne _ (by decide)).trans ?_)))).trans rfl | rfl)
end Go.Proofs.Ytlihonbmopeemaa.Hp
end
