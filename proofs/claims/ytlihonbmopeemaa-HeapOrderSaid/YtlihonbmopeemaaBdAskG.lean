/- Texts on AskG, joined. No conditions but those that each theorem states. -/
import Derived.Test.YtlihonbmopeemaaBdSideD
import Derived.Deep.RegionHeld3
import Derived.Test.YtlihonbmopeemaaBdHeapC
import Derived.Deep.RegionLaw
import Derived.Laws.Cover3
import Derived.Deep.QuietTactic
import Derived.BigQuiet
section
namespace Go.Proofs.Ytlihonbmopeemaa.Hp
open Go Go.RowKit Go.Proofs.Ytlihonbmopeemaa.HpLaw Go.Proofs.Ytlihonbmopeemaa.Ans Go.Proofs.Ytlihonbmopeemaa.Num Go.Proofs.Ytlihonbmopeemaa.DigLaw Go.Proofs.Ytlihonbmopeemaa.Fl Go.Proofs.Ytlihonbmopeemaa.Dig Go.Proofs.Ytlihonbmopeemaa.Float
set_option linter.unusedSimpArgs false

theorem look_place : ∀ {kv : List (Val × Val)} {k : Val} {p : Nat}, placeL (kv.map Prod.fst) k = some p → ∃ v, lookKV kv k = some v ∧ (kv.map Prod.snd)[p]? = some v
  | [], k, p, h => by cases h
  | a :: l, k, p, h => by
    have h' : (if sameV a.1 k then some 0 else (placeL (l.map Prod.fst) k).map (· + 1)) = some p := h
    have e1 : lookKV (a :: l) k = if sameV a.1 k then some a.2 else lookKV l k := rfl
    rw [e1]
    cases hs : sameV a.1 k
    · rw [hs, if_neg (by simp)] at h'
      obtain ⟨q, hq, rfl⟩ := Option.map_eq_some_iff.1 h'
      obtain ⟨v, r1, r2⟩ := look_place hq
      exact ⟨v, r1, r2⟩
    · rw [hs, if_pos rfl] at h'
      obtain rfl := Option.some.inj h'
      exact ⟨a.2, rfl, rfl⟩
theorem HeapIs.plain {W : World} {hp : Nat} {s : List Ob} {limit : Int} {F : List Nat} (h : HeapIs W hp s limit F) : ∀ ob ∈ s, ob.kind ≠ 5 → ob.kv = [] := by
  obtain ⟨os, v, h1, h2, h3, h4, h5⟩ := h
  intro ob hob hk
  rw [← h2] at hob
  obtain ⟨x, hx, rfl⟩ := List.mem_map.1 hob
  obtain ⟨i, hi, rfl⟩ := List.mem_iff_getElem.1 hx
  have ho := h1.objs i _ (List.getElem?_eq_getElem hi)
  show tkv (os[i]).1.tab = []
  cases ht : (os[i]).1.tab with
  | none => rfl
  | some T => exact absurd (ho.kind.1 (by rw [ht]; rfl)) hk
theorem RowR.cell {w : World} {v : Value} {l : List Val} (h : RowR w v l) {j : Nat} (hj : j < l.length) :
    w.cell? ⟨vb v, j * 4, none⟩ = some (.int .i64 (l[j]).k) ∧ w.cell? ⟨vb v, j * 4 + 1, none⟩ = some (.int .u64 (l[j]).n) ∧ w.cell? ⟨vb v, j * 4 + 2, none⟩ = some (.string (l[j]).s) ∧ w.cell? ⟨vb v, j * 4 + 3, none⟩ = some (.int .i64 (l[j]).o) ∧ ∃ cap, v = .slice (some ⟨vb v, 0, none⟩) l.length cap := by
  have ho := h.own_ (List.length_pos_iff.1 (by omega))
  obtain ⟨ad, cap, hv, _, _, had⟩ := row_form ho
  obtain ⟨a, b, c, d⟩ := val_cells ho hj
  have hv2 := hv
  rw [had (by omega)] at hv2
  exact ⟨a, b, c, d, cap, hv2⟩
set_option maxHeartbeats 1000000 in
theorem rslot_walk {d : Nat} {s : List Ob} {limit : Int} {G : List Nat} (o q : Int) (W : World) (h : RefIs W d s limit G) :
    Calls Try.prog 69 #[.pointer (some ⟨d, 0, none⟩), .int .i64 o, .int .i64 q] W (ValP W (slotS s o q)) := by
  have t0 := Lib.hid (One.start W nilV)
  have HI := Lib.hid h
  have HS0 := Lib.hid (has_walk o q _ (h.below t0.out.below))
  clear h
  cases ho : hasS s o q with
  | false =>
    have HL : Hid (slotS s o q = nilV) := by
      show slotS s o q = nilV
      unfold slotS
      unfold hasS at ho
      cases hob : obAt s o with
      | none => rfl
      | some ob =>
        rw [hob] at ho
        simp only at ho ⊢
        have hn := of_decide_eq_false ho
        by_cases h0 : 0 ≤ q
        · rw [if_pos h0, List.getD_eq_getElem?_getD, List.getElem?_eq_none (by omega)]; rfl
        · rw [if_neg h0]
    rw [ho] at HS0
    clear ho
    go_enter Try.func69, Try.ntmps69
    go_wp2_with fail
    refine HS0.out.mono ?_
    rintro e w1 ⟨rfl, b1⟩
    have T1 := Lib.hid (t0.out.step b1)
    obtain ⟨q0, q1, q2, q3, qf⟩ := T1.out.facts
    have T2 := Lib.hid (T1.out.put nilV)
    obtain ⟨r0, r1, r2, r3, _⟩ := T2.out.facts
    clear b1
    go_wp2_with fail
    rw [put4_nil]
    exact bodyPost_ret (v := nilV.v) (by simp [results, Try.results69, go_sem, Val.out, r0, r1, r2, r3]) rfl ⟨by rw [HL.out], T2.out.below⟩
  | true =>
    obtain ⟨ob, hob, hq0, hq1⟩ : ∃ ob, obAt s o = some ob ∧ 0 ≤ q ∧ q < (ob.slots.length : Int) := by
      unfold hasS at ho
      cases hob : obAt s o with
      | none => rw [hob] at ho; cases ho
      | some ob => rw [hob] at ho; exact ⟨ob, rfl, of_decide_eq_true ho⟩
    obtain ⟨j, rfl⟩ := Int.eq_ofNat_of_zero_le hq0
    rw [ho] at HS0
    obtain ⟨l, v, i, x, h1, h2, h3, rfl, hx, rfl, hs, hil, hlen, hu, hlim⟩ := HI.out.at_ hob
    have hj : j < x.1.slots.length := by omega
    obtain ⟨y, Hy⟩ : ∃ y, Hid (x.1.slots[j] = y) := ⟨_, Lib.hid rfl⟩
    have HL : Hid (slotS s ((i : Int) + 1) (j : Int) = y) := by
      show slotS s ((i : Int) + 1) (j : Int) = y
      unfold slotS
      rw [hob]
      simp only
      rw [if_pos hq0, Int.toNat_natCast, List.getD_eq_getElem?_getD, List.getElem?_eq_getElem hj]
      exact Hy.out
    have H1 := Lib.hid h1
    have HX := Lib.hid hx
    clear h1 h2 h3 hob hx hs hu hlim ho
    go_enter Try.func69, Try.ntmps69
    go_wp2_with fail
    refine HS0.out.mono ?_
    rintro e w1 ⟨rfl, b1⟩
    have T1 := Lib.hid (t0.out.step b1)
    obtain ⟨q0, q1, q2, q3, qf⟩ := T1.out.facts
    have hR := H1.out.kept (B := []) (Chg.of_below T1.out.below) (fun _ _ => List.not_mem_nil)
    obtain ⟨c0, c1, cf⟩ := hR.d_cells
    obtain ⟨n0, n1, n2, n3, n4, n5, n6, n7, n8, n9⟩ := hR.ob_cells HX.out
    obtain ⟨ad, cap, hv, -, -, had⟩ := row_form hR.row
    rw [hv, had (by omega)] at c0
    have hwr : IntKind.i64.wrap ((i : Nat) : Int) = (i : Int) := by rw [IntKind.wrap_i64]; omega
    have hi0' : (0 : Int) ≤ (i : Int) := Int.natCast_nonneg _
    have hi1' : (i : Int) < (l.length : Int) := by omega
    obtain ⟨z0, z1, z2, z3, scap, hsv⟩ := (hR.objs x (List.mem_of_getElem? HX.out)).slots.cell hj
    rw [hsv] at n9
    rw [Hy.out] at z0 z1 z2 z3
    obtain ⟨g, Hg⟩ : ∃ g, Hid (g = vb x.2.sv) := ⟨_, Lib.hid rfl⟩
    rw [← Hg.out] at n9 z0 z1 z2 z3
    have T2 := Lib.hid (T1.out.put y)
    obtain ⟨r0, r1, r2, r3, _⟩ := T2.out.facts
    clear b1 hR hv had hsv n0 n1 n2 n3 n4 n5 n6 n7 n8
    go_wp2_with fail
    rw [put4_eq]
    exact bodyPost_ret (v := y.v) (by simp [results, Try.results69, go_sem, Val.out, r0, r1, r2, r3]) rfl ⟨by rw [HL.out], T2.out.below⟩
set_option maxHeartbeats 1000000 in
set_option maxRecDepth 100000 in
theorem rget_walk {d : Nat} {s : List Ob} {limit : Int} {G : List Nat} (o : Int) (k : Val) (hk : VOK k) (W : World) (h : RefIs W d s limit G) (hP : ∀ ob ∈ s, ob.kind ≠ 5 → ob.kv = []) :
    Calls Try.prog 65 #[.pointer (some ⟨d, 0, none⟩), .int .i64 o, k.v] W (ValP W (getS s o k)) := by
  have hK := fun w => rkey_walk k hk w
  have t0 := Lib.hid (Two.start W k nilV)
  have HI := Lib.hid h
  have HT : Hid (∀ w, Below W.heap.size W w → Calls Try.prog 21 #[.pointer (some ⟨d, 0, none⟩), .int .i64 o] w (BlP w (isTab s o))) := fun w hb => hasT_walk o w (HI.out.below hb)
  clear h
  unfold Val.v at hK ⊢
  obtain ⟨y, Hy⟩ : ∃ y, Hid (y = (keyV k).getD nilV) := ⟨_, Lib.hid rfl⟩
  by_cases hg : isTab s o = true ∧ (keyV k).isSome = true
  · obtain ⟨ht, hks⟩ := hg
    obtain ⟨ob, hob, hk5⟩ : ∃ ob, obAt s o = some ob ∧ ob.kind = 5 := by
      unfold isTab at ht
      cases hob : obAt s o with
      | none => rw [hob] at ht; cases ht
      | some ob => rw [hob] at ht; exact ⟨ob, rfl, of_decide_eq_true ht⟩
    have hky : keyV k = some y := by
      rw [Hy.out]
      obtain ⟨z, hz⟩ := Option.isSome_iff_exists.1 hks
      rw [hz]; rfl
    rw [ht] at HT
    obtain ⟨l, v, i, x, h1, h2, h3, rfl, hx, rfl, hs, hil, hlen, hu, hlim⟩ := HI.out.at_ hob
    have HG : Hid (getS s ((i : Int) + 1) k = (lookKV x.1.kv y).getD nilV) := by
      show getS _ _ _ = _
      unfold getS
      rw [hob, hky]
    have HKY := Lib.hid hky
    have hkvl : x.1.kv.length ≤ 1048575 := by
      have e1 := used_take s i x.1 hs
      have e2 := used_take_le s (i + 1)
      omega
    have H1 := Lib.hid h1
    have HX := Lib.hid hx
    clear h1 h2 h3 hs hob hx hu ht hk5 hky hks hlim Hy
    go_enter Try.func65, Try.ntmps65
    obtain ⟨a0, a1, a2, a3, -, -, -, -, af, -⟩ := t0.out.facts
    go_wp2_with fail
    refine (hK _).mono ?_
    rintro e w2 ⟨rfl, b2⟩
    have T2 := Lib.hid (t0.out.step b2)
    obtain ⟨p0, p1, p2, p3, q0, q1, q2, q3, pf, qf⟩ := T2.out.facts
    clear b2 hK a0 a1 a2 a3 af
    unfold keyR
    rw [HKY.out, show (Option.some y).getD nilV = y from rfl, Val.out, show (Option.some y).isSome = true from rfl]
    have T3 := Lib.hid (T2.out.put0 y)
    obtain ⟨w3, Hw3⟩ : ∃ w3, Hid (w3 = put4 w2 W.heap.size y) := ⟨_, Lib.hid rfl⟩
    rw [← Hw3.out] at T3
    go_upto_region 2 with fail
    rw [put4_eq, ← Hw3.out]
    clear p0 p1 p2 p3 q0 q1 q2 q3 pf qf
    go_wp2_with fail
    refine (HT.out _ T3.out.below).mono ?_
    rintro e w5 ⟨rfl, b5⟩
    have T5 := Lib.hid (T3.out.step b5)
    clear b5 Hw3
    have hR := H1.out.kept (B := []) (Chg.of_below T5.out.below) (fun _ _ => List.not_mem_nil)
    obtain ⟨c0, c1, cf⟩ := hR.d_cells
    obtain ⟨n0, n1, n2, n3, n4, n5, n6, n7, n8, n9⟩ := hR.ob_cells HX.out
    obtain ⟨ad, cap, hv, -, -, had⟩ := row_form hR.row
    rw [hv, had (by omega)] at c0
    have hwr : IntKind.i64.wrap ((i : Nat) : Int) = (i : Int) := by rw [IntKind.wrap_i64]; omega
    have hi0' : (0 : Int) ≤ (i : Int) := Int.natCast_nonneg _
    have hi1' : (i : Int) < (l.length : Int) := by omega
    obtain ⟨ka, kc, va, vc, sa, sc, ekv, evv, esv, -⟩ := (hR.objs x (List.mem_of_getElem? HX.out)).forms
    rw [ekv] at n1
    rw [evv] at n2
    rw [esv] at n9
    clear hR hv had
    go_upto_region 5 with fail
    obtain ⟨w6, Hw6⟩ : ∃ w6, Hid (w6 = w5.alloc (.cells #[.int .i64 x.1.kind, .slice ka x.1.kv.length kc, .slice va x.1.kv.length vc, .int .i64 x.1.mt.k, .int .u64 x.1.mt.n, .string x.1.mt.s, .int .i64 x.1.mt.o, .int .i64 x.1.a, .int .i64 x.1.b, .slice sa x.1.slots.length sc] 60)) := ⟨_, Lib.hid rfl⟩
    rw [← Hw6.out]
    have S6 : Hid (SBox True W w5.heap.size x x.2.kv x.2.vv (.slice (some ⟨0, 0, none⟩) 0 0) [] (.slice (some ⟨0, 0, none⟩) 0 0) [] y nilV w6) := by
      refine SBox.start T5.out ?_
      unfold rCells
      rw [ekv, evv, esv]
      exact Hw6.out
    clear n0 n1 n2 n3 n4 n5 n6 n7 n8 n9 c0 c1 cf Hw6
    have hP' := rplace_walk x y (by omega) w6 ((H1.out.kept (B := []) (Chg.of_below S6.out.two.below) (fun _ _ => List.not_mem_nil)).objs x (List.mem_of_getElem? HX.out)).keys
    unfold rV Val.v at hP'
    rw [ekv, evv, esv] at hP'
    obtain ⟨n0, n1, n2, n3, n4, n5, n6, n7, n8, n9, nf, nl⟩ := S6.out.parts.cell
    simp only [ekv, evv, esv] at n0 n1 n2 n3 n4 n5 n6 n7 n8 n9
    obtain ⟨p0, p1, p2, p3, q0, q1, q2, q3, pf, qf⟩ := S6.out.two.facts
    have HE := Lib.hid (And.intro ekv (And.intro evv esv))
    clear ekv evv esv
    go_wp2_with fail
    refine hP'.mono ?_
    rintro e w7 ⟨rfl, b7⟩
    have S7 := Lib.hid (S6.out.step b7)
    clear hP' b7 n0 n1 n2 n3 n4 n5 n6 n7 n8 n9 nf nl p0 p1 p2 p3 q0 q1 q2 q3 pf qf S6
    obtain ⟨n0, n1, n2, n3, n4, n5, n6, n7, n8, n9, nf, nl⟩ := S7.out.parts.cell
    simp only [HE.out.2.1] at n2
    obtain ⟨p0, p1, p2, p3, q0, q1, q2, q3, pf, qf⟩ := S7.out.two.facts
    clear n0 n1 n3 n4 n5 n6 n7 n8 n9
    cases hp : placeL (keysOf x.1) y with
    | none =>
      have hpi : placeI (keysOf x.1) y = -1 := by unfold placeI; rw [hp]
      rw [hpi]
      have HL := Lib.hid (kv_missing hp).1
      have T8 := Lib.hid (S7.out.two.put1 nilV)
      obtain ⟨-, -, -, -, r0, r1, r2, r3, -, -⟩ := T8.out.facts
      clear hp hpi
      go_wp2_with fail
      rw [put4_nil]
      exact bodyPost_ret (v := nilV.v) (by simp [results, Try.results65, go_sem, Val.out, r0, r1, r2, r3]) rfl ⟨by rw [HG.out, HL.out]; rfl, T8.out.below⟩
    | some p =>
      have hpi : placeI (keysOf x.1) y = (p : Int) := by unfold placeI; rw [hp]
      rw [hpi]
      obtain ⟨u, hu1, hu2⟩ := look_place hp
      have hpv : p < (valsOf x.1).length := (List.getElem?_eq_some_iff.1 hu2).1
      have hpu : (valsOf x.1)[p] = u := (List.getElem?_eq_some_iff.1 hu2).2
      have HL := Lib.hid hu1
      obtain ⟨z0, z1, z2, z3, vcap, hvv⟩ := ((H1.out.kept (B := []) (Chg.of_below S7.out.two.below) (fun _ _ => List.not_mem_nil)).objs x (List.mem_of_getElem? HX.out)).vals.cell hpv
      rw [hpu] at z0 z1 z2 z3
      have hva : va = some ⟨vb x.2.vv, 0, none⟩ := by
        have := HE.out.2.1
        rw [hvv] at this
        exact (((Value.slice.injEq ..).mp this).1).symm
      obtain ⟨g, Hg⟩ : ∃ g, Hid (g = vb x.2.vv) := ⟨_, Lib.hid rfl⟩
      rw [← Hg.out] at hva z0 z1 z2 z3
      rw [hva] at n2
      have hp0 : (0 : Int) ≤ (p : Int) := Int.natCast_nonneg _
      have hp1 : (p : Int) < (x.1.kv.length : Int) := by rw [valsOf_len] at hpv; omega
      have T8 := Lib.hid (S7.out.two.put1 u)
      obtain ⟨-, -, -, -, r0, r1, r2, r3, -, -⟩ := T8.out.facts
      clear hp hpi hu1 hu2 hpu hvv hva
      go_wp2_with fail
      rw [put4_eq]
      exact bodyPost_ret (v := u.v) (by simp [results, Try.results65, go_sem, Val.out, r0, r1, r2, r3]) rfl ⟨by rw [HG.out, HL.out]; rfl, T8.out.below⟩
  · have HG : Hid (getS s o k = nilV) := by
      show getS s o k = nilV
      unfold getS
      cases hob : obAt s o with
      | none => rfl
      | some ob =>
        cases hkk : keyV k with
        | none => rfl
        | some k' =>
          simp only
          have hn : ob.kind ≠ 5 := fun e => hg ⟨by unfold isTab; rw [hob]; exact decide_eq_true e, by rw [hkk]; rfl⟩
          obtain ⟨q, _, hq⟩ := obAt_some hob
          rw [hP ob (List.mem_of_getElem? hq) hn]; rfl
    obtain ⟨ok, Hok⟩ : ∃ ok, Hid (ok = (keyV k).isSome) := ⟨_, Lib.hid rfl⟩
    obtain ⟨tb, Htb⟩ : ∃ tb, Hid (tb = isTab s o) := ⟨_, Lib.hid rfl⟩
    rw [← Htb.out] at HT
    have hbt : tb = false ∨ (tb = true ∧ ok = false) := by
      rw [Htb.out, Hok.out]
      cases h1 : isTab s o
      · exact .inl rfl
      · refine .inr ⟨rfl, ?_⟩
        cases h2 : (keyV k).isSome
        · rfl
        · exact absurd ⟨h1, h2⟩ hg
    clear hg
    go_enter Try.func65, Try.ntmps65
    obtain ⟨a0, a1, a2, a3, -, -, -, -, af, -⟩ := t0.out.facts
    go_wp2_with fail
    refine (hK _).mono ?_
    rintro e w2 ⟨rfl, b2⟩
    have T2 := Lib.hid (t0.out.step b2)
    obtain ⟨p0, p1, p2, p3, q0, q1, q2, q3, pf, qf⟩ := T2.out.facts
    clear b2 hK a0 a1 a2 a3 af
    unfold keyR
    rw [← Hy.out, ← Hok.out, Val.out]
    have T3 := Lib.hid (T2.out.put0 y)
    obtain ⟨w3, Hw3⟩ : ∃ w3, Hid (w3 = put4 w2 W.heap.size y) := ⟨_, Lib.hid rfl⟩
    rw [← Hw3.out] at T3
    go_upto_region 2 with fail
    rw [put4_eq, ← Hw3.out]
    clear p0 p1 p2 p3 q0 q1 q2 q3 pf qf
    go_wp2_with fail
    refine (HT.out _ T3.out.below).mono ?_
    rintro e w5 ⟨rfl, b5⟩
    have T5 := Lib.hid (T3.out.step b5)
    obtain ⟨p0, p1, p2, p3, q0, q1, q2, q3, pf, qf⟩ := T5.out.facts
    have T8 := Lib.hid (T5.out.put1 nilV)
    obtain ⟨-, -, -, -, r0, r1, r2, r3, -, -⟩ := T8.out.facts
    clear b5 Hw3
    rcases hbt with rfl | ⟨rfl, rfl⟩
    all_goals
      go_wp2_with fail
      rw [put4_nil]
      exact bodyPost_ret (v := nilV.v) (by simp [results, Try.results65, go_sem, Val.out, r0, r1, r2, r3]) rfl ⟨by rw [HG.out], T8.out.below⟩
end Go.Proofs.Ytlihonbmopeemaa.Hp
end
section
namespace Go.Proofs.Ytlihonbmopeemaa.Hp
open Go Go.RowKit

section
variable {P : Program} {md : Region.Mode} {ops : Array Oper} {Q : Exit → Go.Act → World → Prop} {S : World → Prop} {n : Nat}
theorem wanted_of {o : Oper} {a : Go.Act} {g d : Nat} {b c : Bool} (hg : o.guard = some (g, b)) (hd : ((ops[g]?).bind (·.dst)) = some d) (hs : d < a.tmps.size) (hv : a.eval (.tmp d) = .bool c) : Region.wanted o (yielded ops a.tmps) = (c == b) := by
  have h1 : a.tmps[d]? = some (.bool c) := by
    rw [Array.getElem?_eq_getElem hs]
    have : a.eval (.tmp d) = a.tmps[d] := by simp [Act.eval, hs]
    rw [← this, hv]
  unfold Region.wanted yielded
  rw [hg]
  simp only [hd, Option.bind_some, h1]
  cases b <;> cases c <;> rfl
theorem wanted_undef {o : Oper} {a : Go.Act} {g d : Nat} {b : Bool} (hg : o.guard = some (g, b)) (hd : ((ops[g]?).bind (·.dst)) = some d) (hs : d < a.tmps.size) (hv : a.eval (.tmp d) = undef) : Region.wanted o (yielded ops a.tmps) = false := by
  have h1 : a.tmps[d]? = some undef := by
    rw [Array.getElem?_eq_getElem hs]
    have : a.eval (.tmp d) = a.tmps[d] := by simp [Act.eval, hs]
    rw [← this, hv]
  unfold Region.wanted yielded
  rw [hg]
  simp only [hd, Option.bind_some, h1]
  cases b <;> rfl
/-- take number i first, told whether it is wanted -/
theorem runT_takeW {f : Nat} {lst : Array Bool} {a : Go.Act} {w : World} (i d : Nat) (v : Value) (hd : ((ops[i]?).bind (·.dst)) = some d) (hb : ((Region.ready md ops lst).contains i && Region.free md ops lst i && decide (i < n)) = true)
    (hQ : ∀ c a w, Q (.panic c) (a.put (some d) v) w → Q (.panic c) a w) (hy : ∀ w oi, S w → ops[i]? = some oi → Region.wanted oi (yielded ops a.tmps) = true ∧ (execOp a.eval oi).run P w = .ok (.value v) w) (h : runT P md ops Q S n f (lst.setIfInBounds i true) (a.put (some d) v) w) : runT P md ops Q S n (f + 1) lst a w := by
  intro hst inv hS
  simp only [Bool.and_eq_true, decide_eq_true_eq] at hb
  have hr : i ∈ Region.ready md ops lst := by simpa using hb.1.1
  obtain ⟨oi, hi, hdi⟩ := Option.bind_eq_some_iff.1 hd
  exact headT_first hi hst hb.2 (by rw [hdi]; exact hQ) f lst a w inv hb.1.2 hr (.inl ⟨(hy w oi hS hi).1, fun w' hw' => (hy w' oi hw' hi).2⟩) hS (by rw [hdi]; exact h hst (inv.set hr hb.2) hS)
/-- number i is not wanted -/
theorem runT_skip {f : Nat} {lst : Array Bool} {a : Go.Act} {w : World} (i d : Nat) (hd : ((ops[i]?).bind (·.dst)) = some d) (hb : ((Region.ready md ops lst).contains i && Region.free md ops lst i && decide (i < n)) = true)
    (hQ : ∀ c a w, Q (.panic c) (a.put (some d) undef) w → Q (.panic c) a w) (hw : ∀ oi, ops[i]? = some oi → Region.wanted oi (yielded ops a.tmps) = false) (h : runT P md ops Q S n f (lst.setIfInBounds i true) (a.put (some d) undef) w) : runT P md ops Q S n (f + 1) lst a w := by
  intro hst inv hS
  simp only [Bool.and_eq_true, decide_eq_true_eq] at hb
  have hr : i ∈ Region.ready md ops lst := by simpa using hb.1.1
  obtain ⟨oi, hi, hdi⟩ := Option.bind_eq_some_iff.1 hd
  exact headT_first (v := undef) hi hst hb.2 (by rw [hdi]; exact hQ) f lst a w inv hb.1.2 hr (.inr ⟨hw oi hi, rfl⟩) hS (by rw [hdi]; exact h hst (inv.set hr hb.2) hS)
/-- number i is not wanted, since its guard itself was not -/
theorem runT_skipU {f : Nat} {lst : Array Bool} {a : Go.Act} {w : World} (i d g dg : Nat) (b : Bool) (hd : ((ops[i]?).bind (·.dst)) = some d) (hb : ((Region.ready md ops lst).contains i && Region.free md ops lst i && decide (i < n)) = true)
    (hQ : ∀ c a w, Q (.panic c) (a.put (some d) undef) w → Q (.panic c) a w) (hg : ((ops[i]?).bind (·.guard)) = some (g, b)) (hdg : ((ops[g]?).bind (·.dst)) = some dg) (hs : dg < a.tmps.size) (hv : a.eval (.tmp dg) = undef)
    (h : runT P md ops Q S n f (lst.setIfInBounds i true) (a.put (some d) undef) w) : runT P md ops Q S n (f + 1) lst a w := by
  refine runT_skip i d hd hb hQ (fun oi ho => ?_) h
  rw [ho] at hg
  exact wanted_undef hg hdg hs hv
/-- one operation comes up, and is wanted -/
theorem runT_one {f : Nat} {lst : Array Bool} {a : Go.Act} {w : World} (i : Nat) (hr : Region.ready md ops lst = [i]) (hb : i < n)
    (h : ∀ o, ops[i]? = some o → Region.wanted o (yielded ops a.tmps) = true ∧ ∀ K : Go.Act → World → Prop, (∀ a' w', S w' → runT P md ops Q S n f (lst.setIfInBounds i true) a' w' → K a' w') → Oper.wp P o a w K Q) : runT P md ops Q S n (f + 1) lst a w := by
  refine runT_all [i] hr (by simpa using hb) ?_
  intro j hj o ho K hK
  obtain rfl := List.mem_singleton.1 hj
  obtain ⟨h1, h2⟩ := h o ho
  rw [if_pos h1]
  exact h2 K hK
/-- a call comes up -/
theorem step_call {w : World} {o : Oper} {a : Go.Act} {K : Go.Act → World → Prop} (f : Nat) {fn : Func} (hf : P.funcs[f]? = some fn) (hname : (fn.name == "runtime.NumGoroutine") = false) (hb : fn.body.isSome = true)
    {args : Array Operand} {ts : Array TypeId} (ho : o.op = .call { callee := .value (.func f), args := args, argTypes := ts }) (vs : Array Value) (hv : args.map a.eval = vs)
    (h : Calls P f vs w fun e w' => ∃ v, e = .returned v ∧ K (a.put o.dst v) w') : Oper.wp P o a w K Q := by
  subst hv
  obtain ⟨c, hc⟩ := Option.isSome_iff_exists.1 hb
  have h1 : fn.name ≠ "runtime.NumGoroutine" := by simpa using hname
  have hr : (callFunc f (args.map a.eval)).run P w = .ok (.enter f (args.map a.eval)) w := by simp [callFunc, hf, h1, hc]
  unfold Oper.wp
  simp only [execOp, ho]
  go_simp
  refine h.mono ?_
  rintro e w' ⟨v, rfl, hk⟩
  exact hk
end
end Go.Proofs.Ytlihonbmopeemaa.Hp
end
section
namespace Go.Proofs.Ytlihonbmopeemaa.Hp
open Go Go.RowKit Go.Proofs.Ytlihonbmopeemaa.HpLaw Go.Proofs.Ytlihonbmopeemaa.Ans Go.Proofs.Ytlihonbmopeemaa.Num Go.Proofs.Ytlihonbmopeemaa.DigLaw Go.Proofs.Ytlihonbmopeemaa.Fl Go.Proofs.Ytlihonbmopeemaa.Dig Go.Proofs.Ytlihonbmopeemaa.Float
set_option linter.unusedSimpArgs false

theorem look_some_place {kv : List (Val × Val)} {k : Val} {v : Val} (h : lookKV kv k = some v) : ∃ p, placeL (kv.map Prod.fst) k = some p := by
  cases hp : placeL (kv.map Prod.fst) k with
  | none => rw [(kv_missing hp).1] at h; cases h
  | some p => exact ⟨p, rfl⟩
theorem count_keys {kv : List (Val × Val)} {n : Nat} (hn : n ≤ 9007199254740990) (h : ∀ j : Nat, j < n → ∃ v, lookKV kv (numKey (j + 1)) = some v) : n ≤ kv.length := by
  have hp : ∀ j : Nat, j < n → ∃ p, placeL (kv.map Prod.fst) (numKey (j + 1)) = some p := fun j hj => by
    obtain ⟨v, hv⟩ := h j hj
    exact look_some_place hv
  have key := nodup_le kv.length ((List.range n).map fun j => (placeL (kv.map Prod.fst) (numKey (j + 1))).getD 0) ?_ ?_
  · rw [List.length_map, List.length_range] at key; exact key
  · unfold List.Nodup
    rw [List.pairwise_map]
    refine List.pairwise_lt_range.imp_of_mem ?_
    intro a b ha hb hab e
    rw [List.mem_range] at ha hb
    obtain ⟨p, h1⟩ := hp a ha
    obtain ⟨q, h2⟩ := hp b hb
    rw [h1, h2] at e
    have e' : p = q := e
    have k1 := (placeL_some.1 h1).1
    have k2 := (placeL_some.1 h2).1
    rw [e', k2] at k1
    have := numKey_inj (by omega) (by omega) (Option.some.inj k1)
    omega
  · intro x hx
    obtain ⟨j, hj, rfl⟩ := List.mem_map.1 hx
    rw [List.mem_range] at hj
    obtain ⟨p, h1⟩ := hp j hj
    rw [h1]
    have := (List.getElem?_eq_some_iff.1 (placeL_some.1 h1).1).1
    rw [List.length_map] at this
    exact this
theorem SizeIs.unique {s : List Ob} {o : Int} {n m : Nat} (h : SizeIs s o n) (k : SizeIs s o m) : n = m := by
  unfold SizeIs at h k
  cases ho : obAt s o with
  | none => rw [ho] at h k; exact h.trans k.symm
  | some ob =>
    rw [ho] at h k
    rcases Nat.lt_trichotomy n m with c | c | c
    · obtain ⟨v, hv⟩ := k.1 n c
      rw [h.2.1] at hv; cases hv
    · exact c
    · obtain ⟨v, hv⟩ := h.1 m c
      rw [k.2.1] at hv; cases hv
def SizeP (W : World) (s : List Ob) (o : Int) (e : Ending) (w' : World) : Prop := ∃ n : Nat, e = .returned (.int .i64 n) ∧ SizeIs s o n ∧ Below W.heap.size W w'
set_option maxHeartbeats 2000000 in
set_option maxRecDepth 100000 in
theorem rsize_walk {d : Nat} {s : List Ob} {limit : Int} {G : List Nat} (o : Int) (W : World) (h : RefIs W d s limit G) (hP : ∀ ob ∈ s, ob.kind ≠ 5 → ob.kv = []) :
    Calls Try.prog 67 #[.pointer (some ⟨d, 0, none⟩), .int .i64 o] W (SizeP W s o) := by
  have HI := Lib.hid h
  have HT : Hid (∀ w, Below W.heap.size W w → Calls Try.prog 21 #[.pointer (some ⟨d, 0, none⟩), .int .i64 o] w (BlP w (isTab s o))) := fun w hb => hasT_walk o w (HI.out.below hb)
  clear h
  cases ht : isTab s o with
  | false =>
    have HG : Hid (∀ w, Below W.heap.size W w → SizeP W s o (.returned (.int .i64 0)) w) := by
      intro w hb
      refine ⟨0, rfl, ?_, hb⟩
      unfold SizeIs
      cases hob : obAt s o with
      | none => rfl
      | some ob =>
        have hn : ob.kind ≠ 5 := fun e => by
          unfold isTab at ht
          rw [hob] at ht
          exact of_decide_eq_false ht e
        obtain ⟨q, _, hq⟩ := obAt_some hob
        refine ⟨fun j hj => absurd hj (Nat.not_lt_zero _), ?_, by omega⟩
        rw [hP ob (List.mem_of_getElem? hq) hn]; rfl
    rw [ht] at HT
    clear ht hP
    go_enter Try.func67, Try.ntmps67
    go_wp2_with fail
    go_loopw [5] (fun i wr => i = .int .i64 0 ∧ Below W.heap.size W wr) (fun _ _ => 0)
    case atStart => exact ⟨rfl, Below.refl _ _⟩
    case round =>
      obtain ⟨rfl, hB⟩ := hrel
      have HB := Lib.hid hB
      clear hB
      go_upto_region 2 with fail
      refine with_act ?_
      intro a0 HA0
      have e0 : a0.eval (.tmp 0) = .pointer (some ⟨d, 0, none⟩) := by rw [HA0.out]; rfl
      have e1 : a0.eval (.tmp 1) = .int .i64 o := by rw [HA0.out]; rfl
      have e5 : a0.eval (.tmp 5) = .int .i64 (0 : Int) := by rw [HA0.out]; rfl
      have hsz : a0.tmps.size = 27 := by rw [HA0.out]; rfl
      have HB := Lib.hid (Below.drew HB.out)
      refine wp_region_T 17 (fun w' => Below W.heap.size W w') (by kernel_rfl) (by kernel_rfl) HB.out ?_
      refine runT_takeW 0 6 (.pointer (some ⟨d, 0, none⟩)) rfl (by kernel_rfl) (fun _ _ _ h => h) (fun w oi hw ho => ?_) ?_
      · simp only [List.getElem?_toArray, List.getElem?_cons_succ, List.getElem?_cons_zero, Option.some.injEq] at ho
        subst ho
        refine ⟨(by simp [Region.wanted]), ?_⟩
        skip
        unfold execOp
        simp only [eval_put_ne, eval_put_eq, put_size, hsz, ne_eq, Nat.reduceEqDiff, not_false_eq_true, reduceCtorEq, Nat.reduceLT, e0, e1, e5]
        go_simp
      refine runT_takeW 1 7 (.int .i64 o) rfl (by kernel_rfl) (fun _ _ _ h => h) (fun w oi hw ho => ?_) ?_
      · simp only [List.getElem?_toArray, List.getElem?_cons_succ, List.getElem?_cons_zero, Option.some.injEq] at ho
        subst ho
        refine ⟨(by simp [Region.wanted]), ?_⟩
        skip
        unfold execOp
        simp only [eval_put_ne, eval_put_eq, put_size, hsz, ne_eq, Nat.reduceEqDiff, not_false_eq_true, reduceCtorEq, Nat.reduceLT, e0, e1, e5]
        go_simp
      refine runT_one 2 (by kernel_rfl) (by decide) (fun o ho => ?_)
      simp only [List.getElem?_toArray, List.getElem?_cons_succ, List.getElem?_cons_zero, Option.some.injEq] at ho
      subst ho
      refine ⟨(by simp [Region.wanted]), ?_⟩
      intro K hK
      refine step_call _ Try.func21 (by kernel_rfl) rfl rfl (#[.pointer (some ⟨d, 0, none⟩), .int .i64 o]) (by simp only [List.map_toArray, List.map_cons, List.map_nil, eval_put_ne, eval_put_eq, put_size, hsz, ne_eq, Nat.reduceEqDiff, not_false_eq_true, reduceCtorEq, Nat.reduceLT, e0, e1, e5]) ?_
      refine (HT.out _ HB.out).mono ?_
      rintro e w6 ⟨rfl, b6⟩
      have HB := Lib.hid (bthen HB.out b6)
      clear b6
      refine ⟨_, rfl, hK _ _ HB.out ?_⟩
      refine runT_takeW 3 9 (.bool false) rfl (by kernel_rfl) (fun _ _ _ h => h) (fun w oi hw ho => ?_) ?_
      · simp only [List.getElem?_toArray, List.getElem?_cons_succ, List.getElem?_cons_zero, Option.some.injEq] at ho
        subst ho
        refine ⟨(by simp [Region.wanted]), ?_⟩
        skip
        unfold execOp
        simp only [eval_put_ne, eval_put_eq, put_size, hsz, ne_eq, Nat.reduceEqDiff, not_false_eq_true, reduceCtorEq, Nat.reduceLT, e0, e1, e5]
        go_simp
      refine runT_skip 4 10 rfl (by kernel_rfl) (fun _ _ _ h => h) (fun oi ho => ?_) ?_
      · simp only [List.getElem?_toArray, List.getElem?_cons_succ, List.getElem?_cons_zero, Option.some.injEq] at ho
        subst ho
        exact (wanted_of (c := false) rfl rfl (by simp only [put_size, hsz, Nat.reduceLT]) (by (repeat (first | (with_reducible exact eval_put_eq _ (by simp only [put_size, hsz, Nat.reduceLT])) | (with_reducible exact e0) | (with_reducible exact e1) | (with_reducible exact e5) | (with_reducible refine (eval_put_ne _ (by decide)).trans ?_))))).trans rfl
      refine runT_skip 5 11 rfl (by kernel_rfl) (fun _ _ _ h => h) (fun oi ho => ?_) ?_
      · simp only [List.getElem?_toArray, List.getElem?_cons_succ, List.getElem?_cons_zero, Option.some.injEq] at ho
        subst ho
        exact (wanted_of (c := false) rfl rfl (by simp only [put_size, hsz, Nat.reduceLT]) (by (repeat (first | (with_reducible exact eval_put_eq _ (by simp only [put_size, hsz, Nat.reduceLT])) | (with_reducible exact e0) | (with_reducible exact e1) | (with_reducible exact e5) | (with_reducible refine (eval_put_ne _ (by decide)).trans ?_))))).trans rfl
      refine runT_skip 6 12 rfl (by kernel_rfl) (fun _ _ _ h => h) (fun oi ho => ?_) ?_
      · simp only [List.getElem?_toArray, List.getElem?_cons_succ, List.getElem?_cons_zero, Option.some.injEq] at ho
        subst ho
        exact (wanted_of (c := false) rfl rfl (by simp only [put_size, hsz, Nat.reduceLT]) (by (repeat (first | (with_reducible exact eval_put_eq _ (by simp only [put_size, hsz, Nat.reduceLT])) | (with_reducible exact e0) | (with_reducible exact e1) | (with_reducible exact e5) | (with_reducible refine (eval_put_ne _ (by decide)).trans ?_))))).trans rfl
      refine runT_skip 7 13 rfl (by kernel_rfl) (fun _ _ _ h => h) (fun oi ho => ?_) ?_
      · simp only [List.getElem?_toArray, List.getElem?_cons_succ, List.getElem?_cons_zero, Option.some.injEq] at ho
        subst ho
        exact (wanted_of (c := false) rfl rfl (by simp only [put_size, hsz, Nat.reduceLT]) (by (repeat (first | (with_reducible exact eval_put_eq _ (by simp only [put_size, hsz, Nat.reduceLT])) | (with_reducible exact e0) | (with_reducible exact e1) | (with_reducible exact e5) | (with_reducible refine (eval_put_ne _ (by decide)).trans ?_))))).trans rfl
      refine runT_skip 8 14 rfl (by kernel_rfl) (fun _ _ _ h => h) (fun oi ho => ?_) ?_
      · simp only [List.getElem?_toArray, List.getElem?_cons_succ, List.getElem?_cons_zero, Option.some.injEq] at ho
        subst ho
        exact (wanted_of (c := false) rfl rfl (by simp only [put_size, hsz, Nat.reduceLT]) (by (repeat (first | (with_reducible exact eval_put_eq _ (by simp only [put_size, hsz, Nat.reduceLT])) | (with_reducible exact e0) | (with_reducible exact e1) | (with_reducible exact e5) | (with_reducible refine (eval_put_ne _ (by decide)).trans ?_))))).trans rfl
      refine runT_skip 9 15 rfl (by kernel_rfl) (fun _ _ _ h => h) (fun oi ho => ?_) ?_
      · simp only [List.getElem?_toArray, List.getElem?_cons_succ, List.getElem?_cons_zero, Option.some.injEq] at ho
        subst ho
        exact (wanted_of (c := false) rfl rfl (by simp only [put_size, hsz, Nat.reduceLT]) (by (repeat (first | (with_reducible exact eval_put_eq _ (by simp only [put_size, hsz, Nat.reduceLT])) | (with_reducible exact e0) | (with_reducible exact e1) | (with_reducible exact e5) | (with_reducible refine (eval_put_ne _ (by decide)).trans ?_))))).trans rfl
      refine runT_skip 10 16 rfl (by kernel_rfl) (fun _ _ _ h => h) (fun oi ho => ?_) ?_
      · simp only [List.getElem?_toArray, List.getElem?_cons_succ, List.getElem?_cons_zero, Option.some.injEq] at ho
        subst ho
        exact (wanted_of (c := false) rfl rfl (by simp only [put_size, hsz, Nat.reduceLT]) (by (repeat (first | (with_reducible exact eval_put_eq _ (by simp only [put_size, hsz, Nat.reduceLT])) | (with_reducible exact e0) | (with_reducible exact e1) | (with_reducible exact e5) | (with_reducible refine (eval_put_ne _ (by decide)).trans ?_))))).trans rfl
      refine runT_skip 11 17 rfl (by kernel_rfl) (fun _ _ _ h => h) (fun oi ho => ?_) ?_
      · simp only [List.getElem?_toArray, List.getElem?_cons_succ, List.getElem?_cons_zero, Option.some.injEq] at ho
        subst ho
        exact (wanted_of (c := false) rfl rfl (by simp only [put_size, hsz, Nat.reduceLT]) (by (repeat (first | (with_reducible exact eval_put_eq _ (by simp only [put_size, hsz, Nat.reduceLT])) | (with_reducible exact e0) | (with_reducible exact e1) | (with_reducible exact e5) | (with_reducible refine (eval_put_ne _ (by decide)).trans ?_))))).trans rfl
      refine runT_skip 12 18 rfl (by kernel_rfl) (fun _ _ _ h => h) (fun oi ho => ?_) ?_
      · simp only [List.getElem?_toArray, List.getElem?_cons_succ, List.getElem?_cons_zero, Option.some.injEq] at ho
        subst ho
        exact (wanted_of (c := false) rfl rfl (by simp only [put_size, hsz, Nat.reduceLT]) (by (repeat (first | (with_reducible exact eval_put_eq _ (by simp only [put_size, hsz, Nat.reduceLT])) | (with_reducible exact e0) | (with_reducible exact e1) | (with_reducible exact e5) | (with_reducible refine (eval_put_ne _ (by decide)).trans ?_))))).trans rfl
      refine runT_skip 13 19 rfl (by kernel_rfl) (fun _ _ _ h => h) (fun oi ho => ?_) ?_
      · simp only [List.getElem?_toArray, List.getElem?_cons_succ, List.getElem?_cons_zero, Option.some.injEq] at ho
        subst ho
        exact (wanted_of (c := false) rfl rfl (by simp only [put_size, hsz, Nat.reduceLT]) (by (repeat (first | (with_reducible exact eval_put_eq _ (by simp only [put_size, hsz, Nat.reduceLT])) | (with_reducible exact e0) | (with_reducible exact e1) | (with_reducible exact e5) | (with_reducible refine (eval_put_ne _ (by decide)).trans ?_))))).trans rfl
      refine runT_skip 14 20 rfl (by kernel_rfl) (fun _ _ _ h => h) (fun oi ho => ?_) ?_
      · simp only [List.getElem?_toArray, List.getElem?_cons_succ, List.getElem?_cons_zero, Option.some.injEq] at ho
        subst ho
        exact (wanted_of (c := false) rfl rfl (by simp only [put_size, hsz, Nat.reduceLT]) (by (repeat (first | (with_reducible exact eval_put_eq _ (by simp only [put_size, hsz, Nat.reduceLT])) | (with_reducible exact e0) | (with_reducible exact e1) | (with_reducible exact e5) | (with_reducible refine (eval_put_ne _ (by decide)).trans ?_))))).trans rfl
      refine runT_skip 15 21 rfl (by kernel_rfl) (fun _ _ _ h => h) (fun oi ho => ?_) ?_
      · simp only [List.getElem?_toArray, List.getElem?_cons_succ, List.getElem?_cons_zero, Option.some.injEq] at ho
        subst ho
        exact (wanted_of (c := false) rfl rfl (by simp only [put_size, hsz, Nat.reduceLT]) (by (repeat (first | (with_reducible exact eval_put_eq _ (by simp only [put_size, hsz, Nat.reduceLT])) | (with_reducible exact e0) | (with_reducible exact e1) | (with_reducible exact e5) | (with_reducible refine (eval_put_ne _ (by decide)).trans ?_))))).trans rfl
      refine runT_skip 16 22 rfl (by kernel_rfl) (fun _ _ _ h => h) (fun oi ho => ?_) ?_
      · simp only [List.getElem?_toArray, List.getElem?_cons_succ, List.getElem?_cons_zero, Option.some.injEq] at ho
        subst ho
        exact (wanted_of (c := false) rfl rfl (by simp only [put_size, hsz, Nat.reduceLT]) (by (repeat (first | (with_reducible exact eval_put_eq _ (by simp only [put_size, hsz, Nat.reduceLT])) | (with_reducible exact e0) | (with_reducible exact e1) | (with_reducible exact e5) | (with_reducible refine (eval_put_ne _ (by decide)).trans ?_))))).trans rfl
      refine runT_done [_] rfl (by kernel_rfl) ?_
      rw [HA0.out]
      clear HA0 e0 e1 e5 hsz
      go_wp2_with fail
      go_ret
      exact HG.out _ HB.out
  | true =>
    obtain ⟨ob, hob, hk5⟩ : ∃ ob, obAt s o = some ob ∧ ob.kind = 5 := by
      unfold isTab at ht
      cases hob : obAt s o with
      | none => rw [hob] at ht; cases ht
      | some ob => rw [hob] at ht; exact ⟨ob, rfl, of_decide_eq_true ht⟩
    rw [ht] at HT
    obtain ⟨l, v, i, x, h1, h2, h3, rfl, hx, rfl, hs, hil, hlen, hu, hlim⟩ := HI.out.at_ hob
    have hkvl : x.1.kv.length ≤ 1048575 := by
      have e1 := used_take s i x.1 hs
      have e2 := used_take_le s (i + 1)
      omega
    have HG : Hid (∀ n : Nat, ∀ w, (∀ j : Nat, j < n → ∃ v, lookKV x.1.kv (numKey (j + 1)) = some v) → lookKV x.1.kv (numKey (n + 1)) = none → n ≤ 33554432 → Below W.heap.size W w → SizeP W s ((i : Int) + 1) (.returned (.int .i64 (n : Int))) w) := by
      intro n w h1 h2 h3 hb
      refine ⟨n, rfl, ?_, hb⟩
      unfold SizeIs
      rw [hob]
      exact ⟨h1, h2, h3⟩
    have H1 := Lib.hid h1
    have HX := Lib.hid hx
    obtain ⟨ka, kc, va, vc, sa, sc, ekv, evv, esv, -⟩ := (h1.objs x (List.mem_of_getElem? hx)).forms
    obtain ⟨ad, cap, hv, -, -, had⟩ := row_form h1.row
    have HCELL : Hid (∀ w', Below W.heap.size W w' → w'.cell? ⟨d, 0, none⟩ = some (.slice (some ⟨vb v, 0, none⟩) l.length cap) ∧ w'.cell? ⟨vb v, i * 10, none⟩ = some (.int .i64 x.1.kind) ∧ w'.cell? ⟨vb v, i * 10 + 1, none⟩ = some (.slice ka x.1.kv.length kc) ∧ w'.cell? ⟨vb v, i * 10 + 2, none⟩ = some (.slice va x.1.kv.length vc) ∧
        w'.cell? ⟨vb v, i * 10 + 3, none⟩ = some (.int .i64 x.1.mt.k) ∧ w'.cell? ⟨vb v, i * 10 + 4, none⟩ = some (.int .u64 x.1.mt.n) ∧ w'.cell? ⟨vb v, i * 10 + 5, none⟩ = some (.string x.1.mt.s) ∧ w'.cell? ⟨vb v, i * 10 + 6, none⟩ = some (.int .i64 x.1.mt.o) ∧ w'.cell? ⟨vb v, i * 10 + 7, none⟩ = some (.int .i64 x.1.a) ∧ w'.cell? ⟨vb v, i * 10 + 8, none⟩ = some (.int .i64 x.1.b) ∧ w'.cell? ⟨vb v, i * 10 + 9, none⟩ = some (.slice sa x.1.slots.length sc)) := by
      intro w' hb
      have hR := H1.out.kept (B := []) (Chg.of_below hb) (fun _ _ => List.not_mem_nil)
      obtain ⟨c0, -, -⟩ := hR.d_cells
      obtain ⟨n0, n1, n2, n3, n4, n5, n6, n7, n8, n9⟩ := hR.ob_cells HX.out
      rw [hv, had (by omega)] at c0
      rw [ekv] at n1
      rw [evv] at n2
      rw [esv] at n9
      exact ⟨c0, n0, n1, n2, n3, n4, n5, n6, n7, n8, n9⟩
    have HPL : Hid (∀ w, Below W.heap.size W w → ∀ y : Val, Calls Try.prog 62 #[.agg #[.int .i64 x.1.kind, .slice ka x.1.kv.length kc, .slice va x.1.kv.length vc, .int .i64 x.1.mt.k, .int .u64 x.1.mt.n, .string x.1.mt.s, .int .i64 x.1.mt.o, .int .i64 x.1.a, .int .i64 x.1.b, .slice sa x.1.slots.length sc], y.v] w (NmP w (placeI (keysOf x.1) y))) := by
      intro w hb y
      have hP' := rplace_walk x y (by omega) w ((H1.out.kept (B := []) (Chg.of_below hb) (fun _ _ => List.not_mem_nil)).objs x (List.mem_of_getElem? HX.out)).keys
      unfold rV at hP'
      rw [ekv, evv, esv] at hP'
      exact hP'
    have hwr : IntKind.i64.wrap ((i : Nat) : Int) = (i : Int) := by rw [IntKind.wrap_i64]; omega
    have hi0' : (0 : Int) ≤ (i : Int) := Int.natCast_nonneg _
    have hi1' : (i : Int) < (l.length : Int) := by omega
    clear h1 h2 h3 hs hob hx hu ht hk5 hlim ekv evv esv hv had hP
    go_enter Try.func67, Try.ntmps67
    go_wp2_with fail
    go_loopw [5] (fun t wr => ∃ m : Nat, t = .int .i64 m ∧ (∀ j : Nat, j < m → ∃ v, lookKV x.1.kv (numKey (j + 1)) = some v) ∧ m ≤ 1048575 ∧ Below W.heap.size W wr) (fun t _ => 1048576 - (intOf t).toNat)
    case atStart => exact ⟨0, rfl, fun j hj => absurd hj (Nat.not_lt_zero _), by omega, Below.refl _ _⟩
    case round =>
      obtain ⟨m, rfl, hM, hm, hB⟩ := hrel
      have HB := Lib.hid hB
      have HM := Lib.hid hM
      clear hB hM
      obtain ⟨r, Hr⟩ : ∃ r, Hid (r = placeI (keysOf x.1) (numV ((m : Int) + 1))) := ⟨_, Lib.hid rfl⟩
      have HNUM : Hid (∀ w, Calls Try.prog 10 #[.int .i64 ((m : Int) + 1)] w (ValP w (numV ((m : Int) + 1)))) := fun w => Number_any ((m : Int) + 1) (by omega) (by omega) w
      have hwm : IntKind.i64.wrap ((m : Int) + 1) = (m : Int) + 1 := by rw [IntKind.wrap_i64]; omega
      go_upto_region 2 with fail
      refine with_act ?_
      intro a0 HA0
      have e0 : a0.eval (.tmp 0) = .pointer (some ⟨d, 0, none⟩) := by rw [HA0.out]; rfl
      have e1 : a0.eval (.tmp 1) = .int .i64 ((i : Int) + 1) := by rw [HA0.out]; rfl
      have e5 : a0.eval (.tmp 5) = .int .i64 (m : Int) := by rw [HA0.out]; rfl
      have hsz : a0.tmps.size = 27 := by rw [HA0.out]; rfl
      have HB := Lib.hid (Below.drew HB.out)
      refine wp_region_T 17 (fun w' => Below W.heap.size W w') (by kernel_rfl) (by kernel_rfl) HB.out ?_
      refine runT_takeW 0 6 (.pointer (some ⟨d, 0, none⟩)) rfl (by kernel_rfl) (fun _ _ _ h => h) (fun w oi hw ho => ?_) ?_
      · simp only [List.getElem?_toArray, List.getElem?_cons_succ, List.getElem?_cons_zero, Option.some.injEq] at ho
        subst ho
        refine ⟨(by simp [Region.wanted]), ?_⟩
        obtain ⟨c0, n0, n1, n2, n3, n4, n5, n6, n7, n8, n9⟩ := HCELL.out _ hw
        unfold execOp
        simp only [eval_put_ne, eval_put_eq, put_size, hsz, ne_eq, Nat.reduceEqDiff, not_false_eq_true, reduceCtorEq, Nat.reduceLT, e0, e1, e5]
        go_simp
      refine runT_takeW 1 7 (.int .i64 ((i : Int) + 1)) rfl (by kernel_rfl) (fun _ _ _ h => h) (fun w oi hw ho => ?_) ?_
      · simp only [List.getElem?_toArray, List.getElem?_cons_succ, List.getElem?_cons_zero, Option.some.injEq] at ho
        subst ho
        refine ⟨(by simp [Region.wanted]), ?_⟩
        obtain ⟨c0, n0, n1, n2, n3, n4, n5, n6, n7, n8, n9⟩ := HCELL.out _ hw
        unfold execOp
        simp only [eval_put_ne, eval_put_eq, put_size, hsz, ne_eq, Nat.reduceEqDiff, not_false_eq_true, reduceCtorEq, Nat.reduceLT, e0, e1, e5]
        go_simp
      refine runT_one 2 (by kernel_rfl) (by decide) (fun o ho => ?_)
      simp only [List.getElem?_toArray, List.getElem?_cons_succ, List.getElem?_cons_zero, Option.some.injEq] at ho
      subst ho
      refine ⟨(by simp [Region.wanted]), ?_⟩
      intro K hK
      refine step_call _ Try.func21 (by kernel_rfl) rfl rfl (#[.pointer (some ⟨d, 0, none⟩), .int .i64 ((i : Int) + 1)]) (by simp only [List.map_toArray, List.map_cons, List.map_nil, eval_put_ne, eval_put_eq, put_size, hsz, ne_eq, Nat.reduceEqDiff, not_false_eq_true, reduceCtorEq, Nat.reduceLT, e0, e1, e5]) ?_
      refine (HT.out _ HB.out).mono ?_
      rintro e w6 ⟨rfl, b6⟩
      have HB := Lib.hid (bthen HB.out b6)
      clear b6
      refine ⟨_, rfl, hK _ _ HB.out ?_⟩
      refine runT_takeW 3 9 (.bool true) rfl (by kernel_rfl) (fun _ _ _ h => h) (fun w oi hw ho => ?_) ?_
      · simp only [List.getElem?_toArray, List.getElem?_cons_succ, List.getElem?_cons_zero, Option.some.injEq] at ho
        subst ho
        refine ⟨(by simp [Region.wanted]), ?_⟩
        obtain ⟨c0, n0, n1, n2, n3, n4, n5, n6, n7, n8, n9⟩ := HCELL.out _ hw
        unfold execOp
        simp only [eval_put_ne, eval_put_eq, put_size, hsz, ne_eq, Nat.reduceEqDiff, not_false_eq_true, reduceCtorEq, Nat.reduceLT, e0, e1, e5]
        go_simp
      refine runT_takeW 4 10 (.pointer (some ⟨d, 0, none⟩)) rfl (by kernel_rfl) (fun _ _ _ h => h) (fun w oi hw ho => ?_) ?_
      · simp only [List.getElem?_toArray, List.getElem?_cons_succ, List.getElem?_cons_zero, Option.some.injEq] at ho
        subst ho
        refine ⟨(wanted_of (c := true) rfl rfl (by simp only [put_size, hsz, Nat.reduceLT]) (by (repeat (first | (with_reducible exact eval_put_eq _ (by simp only [put_size, hsz, Nat.reduceLT])) | (with_reducible exact e0) | (with_reducible exact e1) | (with_reducible exact e5) | (with_reducible refine (eval_put_ne _ (by decide)).trans ?_))))).trans rfl, ?_⟩
        obtain ⟨c0, n0, n1, n2, n3, n4, n5, n6, n7, n8, n9⟩ := HCELL.out _ hw
        unfold execOp
        simp only [eval_put_ne, eval_put_eq, put_size, hsz, ne_eq, Nat.reduceEqDiff, not_false_eq_true, reduceCtorEq, Nat.reduceLT, e0, e1, e5]
        go_simp
      refine runT_takeW 5 11 (.pointer (some ⟨d, 0, none⟩)) rfl (by kernel_rfl) (fun _ _ _ h => h) (fun w oi hw ho => ?_) ?_
      · simp only [List.getElem?_toArray, List.getElem?_cons_succ, List.getElem?_cons_zero, Option.some.injEq] at ho
        subst ho
        refine ⟨(wanted_of (c := true) rfl rfl (by simp only [put_size, hsz, Nat.reduceLT]) (by (repeat (first | (with_reducible exact eval_put_eq _ (by simp only [put_size, hsz, Nat.reduceLT])) | (with_reducible exact e0) | (with_reducible exact e1) | (with_reducible exact e5) | (with_reducible refine (eval_put_ne _ (by decide)).trans ?_))))).trans rfl, ?_⟩
        obtain ⟨c0, n0, n1, n2, n3, n4, n5, n6, n7, n8, n9⟩ := HCELL.out _ hw
        unfold execOp
        simp only [eval_put_ne, eval_put_eq, put_size, hsz, ne_eq, Nat.reduceEqDiff, not_false_eq_true, reduceCtorEq, Nat.reduceLT, e0, e1, e5]
        go_simp
      refine runT_takeW 6 12 (.pointer (some ⟨d, 0, none⟩)) rfl (by kernel_rfl) (fun _ _ _ h => h) (fun w oi hw ho => ?_) ?_
      · simp only [List.getElem?_toArray, List.getElem?_cons_succ, List.getElem?_cons_zero, Option.some.injEq] at ho
        subst ho
        refine ⟨(wanted_of (c := true) rfl rfl (by simp only [put_size, hsz, Nat.reduceLT]) (by (repeat (first | (with_reducible exact eval_put_eq _ (by simp only [put_size, hsz, Nat.reduceLT])) | (with_reducible exact e0) | (with_reducible exact e1) | (with_reducible exact e5) | (with_reducible refine (eval_put_ne _ (by decide)).trans ?_))))).trans rfl, ?_⟩
        obtain ⟨c0, n0, n1, n2, n3, n4, n5, n6, n7, n8, n9⟩ := HCELL.out _ hw
        unfold execOp
        simp only [eval_put_ne, eval_put_eq, put_size, hsz, ne_eq, Nat.reduceEqDiff, not_false_eq_true, reduceCtorEq, Nat.reduceLT, e0, e1, e5]
        go_simp
      refine runT_takeW 7 13 (.slice (some ⟨vb v, 0, none⟩) l.length cap) rfl (by kernel_rfl) (fun _ _ _ h => h) (fun w oi hw ho => ?_) ?_
      · simp only [List.getElem?_toArray, List.getElem?_cons_succ, List.getElem?_cons_zero, Option.some.injEq] at ho
        subst ho
        refine ⟨(wanted_of (c := true) rfl rfl (by simp only [put_size, hsz, Nat.reduceLT]) (by (repeat (first | (with_reducible exact eval_put_eq _ (by simp only [put_size, hsz, Nat.reduceLT])) | (with_reducible exact e0) | (with_reducible exact e1) | (with_reducible exact e5) | (with_reducible refine (eval_put_ne _ (by decide)).trans ?_))))).trans rfl, ?_⟩
        obtain ⟨c0, n0, n1, n2, n3, n4, n5, n6, n7, n8, n9⟩ := HCELL.out _ hw
        unfold execOp
        simp only [eval_put_ne, eval_put_eq, put_size, hsz, ne_eq, Nat.reduceEqDiff, not_false_eq_true, reduceCtorEq, Nat.reduceLT, e0, e1, e5]
        go_simp
      refine runT_takeW 8 14 (.int .i64 ((i : Int) + 1)) rfl (by kernel_rfl) (fun _ _ _ h => h) (fun w oi hw ho => ?_) ?_
      · simp only [List.getElem?_toArray, List.getElem?_cons_succ, List.getElem?_cons_zero, Option.some.injEq] at ho
        subst ho
        refine ⟨(wanted_of (c := true) rfl rfl (by simp only [put_size, hsz, Nat.reduceLT]) (by (repeat (first | (with_reducible exact eval_put_eq _ (by simp only [put_size, hsz, Nat.reduceLT])) | (with_reducible exact e0) | (with_reducible exact e1) | (with_reducible exact e5) | (with_reducible refine (eval_put_ne _ (by decide)).trans ?_))))).trans rfl, ?_⟩
        obtain ⟨c0, n0, n1, n2, n3, n4, n5, n6, n7, n8, n9⟩ := HCELL.out _ hw
        unfold execOp
        simp only [eval_put_ne, eval_put_eq, put_size, hsz, ne_eq, Nat.reduceEqDiff, not_false_eq_true, reduceCtorEq, Nat.reduceLT, e0, e1, e5]
        go_simp
      refine runT_takeW 9 15 (.int .i64 (i : Int)) rfl (by kernel_rfl) (fun _ _ _ h => h) (fun w oi hw ho => ?_) ?_
      · simp only [List.getElem?_toArray, List.getElem?_cons_succ, List.getElem?_cons_zero, Option.some.injEq] at ho
        subst ho
        refine ⟨(wanted_of (c := true) rfl rfl (by simp only [put_size, hsz, Nat.reduceLT]) (by (repeat (first | (with_reducible exact eval_put_eq _ (by simp only [put_size, hsz, Nat.reduceLT])) | (with_reducible exact e0) | (with_reducible exact e1) | (with_reducible exact e5) | (with_reducible refine (eval_put_ne _ (by decide)).trans ?_))))).trans rfl, ?_⟩
        obtain ⟨c0, n0, n1, n2, n3, n4, n5, n6, n7, n8, n9⟩ := HCELL.out _ hw
        unfold execOp
        simp only [eval_put_ne, eval_put_eq, put_size, hsz, ne_eq, Nat.reduceEqDiff, not_false_eq_true, reduceCtorEq, Nat.reduceLT, e0, e1, e5]
        go_simp
      refine runT_takeW 10 16 (.pointer (some ⟨vb v, i * 10, none⟩)) rfl (by kernel_rfl) (fun _ _ _ h => h) (fun w oi hw ho => ?_) ?_
      · simp only [List.getElem?_toArray, List.getElem?_cons_succ, List.getElem?_cons_zero, Option.some.injEq] at ho
        subst ho
        refine ⟨(wanted_of (c := true) rfl rfl (by simp only [put_size, hsz, Nat.reduceLT]) (by (repeat (first | (with_reducible exact eval_put_eq _ (by simp only [put_size, hsz, Nat.reduceLT])) | (with_reducible exact e0) | (with_reducible exact e1) | (with_reducible exact e5) | (with_reducible refine (eval_put_ne _ (by decide)).trans ?_))))).trans rfl, ?_⟩
        obtain ⟨c0, n0, n1, n2, n3, n4, n5, n6, n7, n8, n9⟩ := HCELL.out _ hw
        unfold execOp
        simp only [eval_put_ne, eval_put_eq, put_size, hsz, ne_eq, Nat.reduceEqDiff, not_false_eq_true, reduceCtorEq, Nat.reduceLT, e0, e1, e5]
        go_simp
      refine runT_takeW 11 17 (.agg #[.int .i64 x.1.kind, .slice ka x.1.kv.length kc, .slice va x.1.kv.length vc, .int .i64 x.1.mt.k, .int .u64 x.1.mt.n, .string x.1.mt.s, .int .i64 x.1.mt.o, .int .i64 x.1.a, .int .i64 x.1.b, .slice sa x.1.slots.length sc]) rfl (by kernel_rfl) (fun _ _ _ h => h) (fun w oi hw ho => ?_) ?_
      · simp only [List.getElem?_toArray, List.getElem?_cons_succ, List.getElem?_cons_zero, Option.some.injEq] at ho
        subst ho
        refine ⟨(wanted_of (c := true) rfl rfl (by simp only [put_size, hsz, Nat.reduceLT]) (by (repeat (first | (with_reducible exact eval_put_eq _ (by simp only [put_size, hsz, Nat.reduceLT])) | (with_reducible exact e0) | (with_reducible exact e1) | (with_reducible exact e5) | (with_reducible refine (eval_put_ne _ (by decide)).trans ?_))))).trans rfl, ?_⟩
        obtain ⟨c0, n0, n1, n2, n3, n4, n5, n6, n7, n8, n9⟩ := HCELL.out _ hw
        unfold execOp
        simp only [eval_put_ne, eval_put_eq, put_size, hsz, ne_eq, Nat.reduceEqDiff, not_false_eq_true, reduceCtorEq, Nat.reduceLT, e0, e1, e5]
        go_simp
      refine runT_takeW 12 18 (.int .i64 (m : Int)) rfl (by kernel_rfl) (fun _ _ _ h => h) (fun w oi hw ho => ?_) ?_
      · simp only [List.getElem?_toArray, List.getElem?_cons_succ, List.getElem?_cons_zero, Option.some.injEq] at ho
        subst ho
        refine ⟨(wanted_of (c := true) rfl rfl (by simp only [put_size, hsz, Nat.reduceLT]) (by (repeat (first | (with_reducible exact eval_put_eq _ (by simp only [put_size, hsz, Nat.reduceLT])) | (with_reducible exact e0) | (with_reducible exact e1) | (with_reducible exact e5) | (with_reducible refine (eval_put_ne _ (by decide)).trans ?_))))).trans rfl, ?_⟩
        obtain ⟨c0, n0, n1, n2, n3, n4, n5, n6, n7, n8, n9⟩ := HCELL.out _ hw
        unfold execOp
        simp only [eval_put_ne, eval_put_eq, put_size, hsz, ne_eq, Nat.reduceEqDiff, not_false_eq_true, reduceCtorEq, Nat.reduceLT, e0, e1, e5]
        go_simp
      refine runT_takeW 13 19 (.int .i64 ((m : Int) + 1)) rfl (by kernel_rfl) (fun _ _ _ h => h) (fun w oi hw ho => ?_) ?_
      · simp only [List.getElem?_toArray, List.getElem?_cons_succ, List.getElem?_cons_zero, Option.some.injEq] at ho
        subst ho
        refine ⟨(wanted_of (c := true) rfl rfl (by simp only [put_size, hsz, Nat.reduceLT]) (by (repeat (first | (with_reducible exact eval_put_eq _ (by simp only [put_size, hsz, Nat.reduceLT])) | (with_reducible exact e0) | (with_reducible exact e1) | (with_reducible exact e5) | (with_reducible refine (eval_put_ne _ (by decide)).trans ?_))))).trans rfl, ?_⟩
        obtain ⟨c0, n0, n1, n2, n3, n4, n5, n6, n7, n8, n9⟩ := HCELL.out _ hw
        unfold execOp
        simp only [eval_put_ne, eval_put_eq, put_size, hsz, ne_eq, Nat.reduceEqDiff, not_false_eq_true, reduceCtorEq, Nat.reduceLT, e0, e1, e5]
        go_simp
      refine runT_one 14 (by kernel_rfl) (by decide) (fun o ho => ?_)
      simp only [List.getElem?_toArray, List.getElem?_cons_succ, List.getElem?_cons_zero, Option.some.injEq] at ho
      subst ho
      refine ⟨(wanted_of (c := true) rfl rfl (by simp only [put_size, hsz, Nat.reduceLT]) (by (repeat (first | (with_reducible exact eval_put_eq _ (by simp only [put_size, hsz, Nat.reduceLT])) | (with_reducible exact e0) | (with_reducible exact e1) | (with_reducible exact e5) | (with_reducible refine (eval_put_ne _ (by decide)).trans ?_))))).trans rfl, ?_⟩
      intro K hK
      refine step_call _ Try.func10 (by kernel_rfl) rfl rfl (#[.int .i64 ((m : Int) + 1)]) (by simp only [List.map_toArray, List.map_cons, List.map_nil, eval_put_ne, eval_put_eq, put_size, hsz, ne_eq, Nat.reduceEqDiff, not_false_eq_true, reduceCtorEq, Nat.reduceLT, e0, e1, e5]) ?_
      refine (HNUM.out _).mono ?_
      rintro e w6 ⟨rfl, b6⟩
      have HB := Lib.hid (bthen HB.out b6)
      clear b6
      refine ⟨_, rfl, hK _ _ HB.out ?_⟩
      refine runT_one 15 (by kernel_rfl) (by decide) (fun o ho => ?_)
      simp only [List.getElem?_toArray, List.getElem?_cons_succ, List.getElem?_cons_zero, Option.some.injEq] at ho
      subst ho
      refine ⟨(wanted_of (c := true) rfl rfl (by simp only [put_size, hsz, Nat.reduceLT]) (by (repeat (first | (with_reducible exact eval_put_eq _ (by simp only [put_size, hsz, Nat.reduceLT])) | (with_reducible exact e0) | (with_reducible exact e1) | (with_reducible exact e5) | (with_reducible refine (eval_put_ne _ (by decide)).trans ?_))))).trans rfl, ?_⟩
      intro K hK
      refine step_call _ Try.func62 (by kernel_rfl) rfl rfl (#[.agg #[.int .i64 x.1.kind, .slice ka x.1.kv.length kc, .slice va x.1.kv.length vc, .int .i64 x.1.mt.k, .int .u64 x.1.mt.n, .string x.1.mt.s, .int .i64 x.1.mt.o, .int .i64 x.1.a, .int .i64 x.1.b, .slice sa x.1.slots.length sc], (numV ((m : Int) + 1)).v]) (by simp only [List.map_toArray, List.map_cons, List.map_nil, eval_put_ne, eval_put_eq, put_size, hsz, ne_eq, Nat.reduceEqDiff, not_false_eq_true, reduceCtorEq, Nat.reduceLT, e0, e1, e5]) ?_
      refine (HPL.out _ HB.out (numV ((m : Int) + 1))).mono ?_
      rintro e w6 ⟨rfl, b6⟩
      have HB := Lib.hid (bthen HB.out b6)
      clear b6
      rw [← Hr.out]
      refine ⟨_, rfl, hK _ _ HB.out ?_⟩
      refine runT_takeW 16 22 (.bool (decide (0 ≤ r))) rfl (by kernel_rfl) (fun _ _ _ h => h) (fun w oi hw ho => ?_) ?_
      · simp only [List.getElem?_toArray, List.getElem?_cons_succ, List.getElem?_cons_zero, Option.some.injEq] at ho
        subst ho
        refine ⟨(wanted_of (c := true) rfl rfl (by simp only [put_size, hsz, Nat.reduceLT]) (by (repeat (first | (with_reducible exact eval_put_eq _ (by simp only [put_size, hsz, Nat.reduceLT])) | (with_reducible exact e0) | (with_reducible exact e1) | (with_reducible exact e5) | (with_reducible refine (eval_put_ne _ (by decide)).trans ?_))))).trans rfl, ?_⟩
        obtain ⟨c0, n0, n1, n2, n3, n4, n5, n6, n7, n8, n9⟩ := HCELL.out _ hw
        unfold execOp
        simp only [eval_put_ne, eval_put_eq, put_size, hsz, ne_eq, Nat.reduceEqDiff, not_false_eq_true, reduceCtorEq, Nat.reduceLT, e0, e1, e5]
        go_simp
      refine runT_done [_] rfl (by kernel_rfl) ?_
      rw [HA0.out]
      clear HA0 e0 e1 e5 hsz
      have hnk : numV ((m : Int) + 1) = numKey (m + 1) := by
        have := numV_key (m + 1)
        rw [← this]
        congr 1
      rw [hnk] at Hr
      cases hp : placeL (keysOf x.1) (numKey (m + 1)) with
      | none =>
        have hr : r = -1 := by rw [Hr.out]; unfold placeI; rw [hp]
        have HA := Lib.hid (HG.out m _ HM.out (kv_missing hp).1 (by omega) HB.out)
        subst hr
        clear hp hnk HM HG HPL HCELL hwm Hr
        go_wp2_with fail
        go_ret
        exact HA.out
      | some p =>
        have hr : r = (p : Int) := by rw [Hr.out]; unfold placeI; rw [hp]
        obtain ⟨u, hu1, -⟩ := look_place hp
        have hM2 : ∀ j : Nat, j < m + 1 → ∃ v, lookKV x.1.kv (numKey (j + 1)) = some v := by
          intro j hj
          by_cases e : j = m
          · subst e; exact ⟨u, hu1⟩
          · exact HM.out j (by omega)
        have hcnt := count_keys (by omega) hM2
        have HM2 := Lib.hid hM2
        subst hr
        clear hp hnk HM HG HPL HCELL hM2 hu1 Hr
        go_wp2_with fail
        go_roundw
        case rel => exact ⟨m + 1, by go_num, HM2.out, by omega, HB.out⟩
        case measure => simp [intOf]; omega
end Go.Proofs.Ytlihonbmopeemaa.Hp
end
section
namespace Go.Proofs.Ytlihonbmopeemaa.Hp
open Go Go.RowKit Go.Proofs.Ytlihonbmopeemaa.HpLaw Go.Proofs.Ytlihonbmopeemaa.Ans Go.Proofs.Ytlihonbmopeemaa.Num Go.Proofs.Ytlihonbmopeemaa.DigLaw Go.Proofs.Ytlihonbmopeemaa.Fl Go.Proofs.Ytlihonbmopeemaa.Dig Go.Proofs.Ytlihonbmopeemaa.Float
set_option linter.unusedSimpArgs false

/-- what is no table has no keys, and nothing stands in for it -/
def PlainS (s : List Ob) : Prop := ∀ ob ∈ s, ob.kind ≠ 5 → ob.kv = [] ∧ ob.mt.k = 0
theorem getS_plain {s : List Ob} (hP : PlainS s) {q : Int} (h : isTab s q = false) (k : Val) : getS s q k = nilV := by
  unfold getS
  cases hob : obAt s q with
  | none => rfl
  | some ob =>
    cases hkk : keyV k with
    | none => rfl
    | some k' =>
      simp only
      have hn : ob.kind ≠ 5 := fun e => by
        unfold isTab at h
        rw [hob] at h
        exact of_decide_eq_false h e
      obtain ⟨j, _, hj⟩ := obAt_some hob
      rw [(hP ob (List.mem_of_getElem? hj) hn).1]; rfl
theorem lookS_plain {s : List Ob} (hP : PlainS s) {q : Int} (h : isTab s q = false) (k : Val) : ∀ n, lookS s n q k = nilV
  | 0 => rfl
  | n + 1 => by
    show (if (getS s q k).k = 0 then _ else _) = nilV
    rw [getS_plain hP h k, if_pos (show nilV.k = 0 from rfl)]
    cases hob : obAt s q with
    | none => rfl
    | some ob =>
      have hn : ob.kind ≠ 5 := fun e => by
        unfold isTab at h
        rw [hob] at h
        exact of_decide_eq_false h e
      obtain ⟨j, _, hj⟩ := obAt_some hob
      simp only
      rw [if_pos (hP ob (List.mem_of_getElem? hj) hn).2]
set_option maxHeartbeats 1000000 in
set_option maxRecDepth 100000 in
theorem rlook_walk {d : Nat} {s : List Ob} {limit : Int} {G : List Nat} (o : Int) (k : Val) (hk : VOK k) (W : World) (h : RefIs W d s limit G) (hP : PlainS s) :
    Calls Try.prog 66 #[.pointer (some ⟨d, 0, none⟩), .int .i64 o, k.v] W (ValP W (lookS s 17 o k)) := by
  have t0 := Lib.hid (Two.start W k nilV)
  have HI := Lib.hid h
  have HT : Hid (∀ q w, Below W.heap.size W w → Calls Try.prog 21 #[.pointer (some ⟨d, 0, none⟩), .int .i64 q] w (BlP w (isTab s q))) := fun q w hb => hasT_walk q w (HI.out.below hb)
  have HGET : Hid (∀ q w, Below W.heap.size W w → Calls Try.prog 65 #[.pointer (some ⟨d, 0, none⟩), .int .i64 q, .agg #[.int .i64 k.k, .int .u64 k.n, .string k.s, .int .i64 k.o]] w (ValP w (getS s q k))) := fun q w hb => rget_walk q k hk w (HI.out.below hb) (fun ob ho hn => (hP ob ho hn).1)
  have HP := Lib.hid hP
  clear h hP
  unfold Val.v
  go_enter Try.func66, Try.ntmps66
  go_wp2_with fail
  have EB := Lib.hid (boxes_nil W k)
  rw [EB.out]
  go_loopw [1, 7] (fun o' i wr => ∃ (n : Nat) (q : Int), n ≤ 17 ∧ o' = .int .i64 q ∧ i = .int .i64 ((17 : Int) - (n : Int)) ∧ Hid (lookS s 17 o k = lookS s n q k) ∧ Two W k nilV wr) (fun _ i _ => (17 - intOf i).toNat)
  case atStart => exact ⟨17, o, Nat.le_refl _, rfl, rfl, Lib.hid rfl, t0.out⟩
  case round =>
    obtain ⟨n, q, hn, rfl, rfl, hl, ht⟩ := hrel
    have HT0 := Lib.hid ht
    clear ht
    cases n with
    | zero =>
      have T2 := Lib.hid (HT0.out.put1 nilV)
      obtain ⟨-, -, -, -, q0, q1, q2, q3, -, qf⟩ := HT0.out.facts
      obtain ⟨-, -, -, -, s0, s1, s2, s3, -, -⟩ := T2.out.facts
      have HL : Hid (lookS s 17 o k = nilV) := hl.out.trans rfl
      go_wp2_with fail
      rw [put4_nil]
      exact bodyPost_ret (v := nilV.v) (by simp [results, Try.results66, go_sem, Val.out, s0, s1, s2, s3]) rfl ⟨by rw [HL.out], T2.out.below⟩
    | succ n =>
      have hle : (17 : Int) - ((n + 1 : Nat) : Int) ≤ 16 := by omega
      go_wp2_with fail
      refine (HT.out q _ HT0.out.below).mono ?_
      rintro e w1 ⟨rfl, b1⟩
      have T1 := Lib.hid (HT0.out.step b1)
      obtain ⟨p0, p1, p2, p3, q0, q1, q2, q3, pf, qf⟩ := T1.out.facts
      clear b1
      cases hq : isTab s q with
      | false =>
        have HL : Hid (lookS s 17 o k = nilV) := hl.out.trans (lookS_plain HP.out hq k _)
        have T2 := Lib.hid (T1.out.put1 nilV)
        obtain ⟨-, -, -, -, s0, s1, s2, s3, -, -⟩ := T2.out.facts
        clear hq
        go_wp2_with fail
        rw [put4_nil]
        exact bodyPost_ret (v := nilV.v) (by simp [results, Try.results66, go_sem, Val.out, s0, s1, s2, s3]) rfl ⟨by rw [HL.out], T2.out.below⟩
      | true =>
        obtain ⟨ob, hob, hk5⟩ : ∃ ob, obAt s q = some ob ∧ ob.kind = 5 := by
          unfold isTab at hq
          cases hob : obAt s q with
          | none => rw [hob] at hq; cases hq
          | some ob => rw [hob] at hq; exact ⟨ob, rfl, of_decide_eq_true hq⟩
        obtain ⟨l, v, i, x, h1, h2, h3, rfl, hx, rfl, hs, hil, hlen, hu, hlim⟩ := HI.out.at_ hob
        obtain ⟨y, Hy⟩ : ∃ y, Hid (y = getS s ((i : Int) + 1) k) := ⟨_, Lib.hid rfl⟩
        have HLs : Hid (lookS s 17 o k = if y.k = 0 then (if x.1.mt.k = 0 then nilV else lookS s n x.1.mt.o k) else y) := by
          show lookS s 17 o k = _
          rw [hl.out, Hy.out]
          show (if (getS s ((i : Int) + 1) k).k = 0 then _ else _) = _
          rw [hob]
        have H1 := Lib.hid h1
        have HX := Lib.hid hx
        clear h1 h2 h3 hs hob hx hu hlim hk5 hq hl
        go_wp2_with fail
        refine (HGET.out _ _ T1.out.below).mono ?_
        rintro e w2 ⟨rfl, b2⟩
        rw [← Hy.out, Val.out]
        have T2 := Lib.hid (T1.out.step b2)
        have b3 : Below w2.heap.size w2 (w2.alloc (Obj.cells #[.int .i64 y.k, .int .u64 y.n, .string y.s, .int .i64 y.o] 34)) := (Below.refl _ _).alloc (Nat.le_refl _) _
        have T3 := Lib.hid (T2.out.step b3)
        obtain ⟨r0, r1, r2, r3, s0, s1, s2, s3, rf, sf⟩ := T3.out.facts
        clear b2 p0 p1 p2 p3 q0 q1 q2 q3 pf qf
        by_cases hy : y.k = 0
        · have e0 : (y.k != 0) = false := by rw [hy]; rfl
          have hR := H1.out.kept (B := []) (Chg.of_below T3.out.below) (fun _ _ => List.not_mem_nil)
          obtain ⟨c0, c1, cf⟩ := hR.d_cells
          obtain ⟨-, -, -, n3, n4, n5, n6, -, -, -⟩ := hR.ob_cells HX.out
          obtain ⟨ad, cap, hv, -, -, had⟩ := row_form hR.row
          rw [hv, had (by omega)] at c0
          have hwr : IntKind.i64.wrap ((i : Nat) : Int) = (i : Int) := by rw [IntKind.wrap_i64]; omega
          have hi0' : (0 : Int) ≤ (i : Int) := Int.natCast_nonneg _
          have hi1' : (i : Int) < (l.length : Int) := by omega
          clear hR hv had
          by_cases hm : x.1.mt.k = 0
          · have e1 : (x.1.mt.k == 0) = true := by rw [hm]; rfl
            have HL : Hid (lookS s 17 o k = nilV) := by
              show lookS s 17 o k = nilV
              rw [HLs.out, if_pos hy, if_pos hm]
            have T4 := Lib.hid (T3.out.put1 nilV)
            obtain ⟨-, -, -, -, x0, x1, x2, x3, -, -⟩ := T4.out.facts
            clear hm hy b3
            go_wp2_with fail
            rw [put4_nil]
            exact bodyPost_ret (v := nilV.v) (by simp [results, Try.results66, go_sem, Val.out, x0, x1, x2, x3]) rfl ⟨by rw [HL.out], T4.out.below⟩
          · have e1 : (x.1.mt.k == 0) = false := by rw [beq_eq_false_iff_ne]; exact hm
            have HL : Hid (lookS s 17 o k = lookS s n x.1.mt.o k) := by
              show lookS s 17 o k = _
              rw [HLs.out, if_pos hy, if_neg hm]
            clear hm hy b3
            go_wp2_with fail
            go_roundw
            case rel => exact ⟨n, x.1.mt.o, by omega, rfl, by congr 1; omega, HL, T3.out⟩
            case measure => simp [intOf]; omega
        · have e0 : (y.k != 0) = true := by rw [bne_iff_ne]; exact hy
          have HL : Hid (lookS s 17 o k = y) := by
            show lookS s 17 o k = y
            rw [HLs.out, if_neg hy]
          have T4 := Lib.hid (T3.out.put1 y)
          obtain ⟨-, -, -, -, x0, x1, x2, x3, -, -⟩ := T4.out.facts
          clear hy b3
          go_wp2_with fail
          rw [put4_eq]
          exact bodyPost_ret (v := y.v) (by simp [results, Try.results66, go_sem, Val.out, x0, x1, x2, x3]) rfl ⟨by rw [HL.out], T4.out.below⟩
end Go.Proofs.Ytlihonbmopeemaa.Hp
end
section
namespace Go.Proofs.Ytlihonbmopeemaa.Hp
open Go Go.RowKit Go.Proofs.Ytlihonbmopeemaa.HpLaw Go.Proofs.Ytlihonbmopeemaa.Ans Go.Proofs.Ytlihonbmopeemaa.Num Go.Proofs.Ytlihonbmopeemaa.DigLaw Go.Proofs.Ytlihonbmopeemaa.Fl Go.Proofs.Ytlihonbmopeemaa.Dig Go.Proofs.Ytlihonbmopeemaa.Float
set_option linter.unusedSimpArgs false
attribute [local go_sem ↓] Go.wp_at_zero Go.wp_at_succ

def nextAt (kv : List (Val × Val)) (i : Nat) : Val × Val × Int := match kv[i]? with
  | some x => (x.1, x.2, 0)
  | none => (nilV, nilV, 0)
def nextS (s : List Ob) (o : Int) (k : Val) : Val × Val × Int := match obAt s o with
  | none => (nilV, nilV, 5)
  | some ob => if ob.kind = 5 then (if (normV k).k = 0 then nextAt ob.kv 0 else match keyV k with
      | none => (nilV, nilV, 5)
      | some k' => match placeL (keysOf ob) k' with
        | none => (nilV, nilV, 5)
        | some p => nextAt ob.kv (p + 1)) else (nilV, nilV, 5)
def NextP (W : World) (r : Val × Val × Int) (e : Ending) (w' : World) : Prop := e = .returned (.tuple #[r.1.v, r.2.1.v, .int .i64 r.2.2]) ∧ Below W.heap.size W w'
/-- values in boxes of the call's own, one behind the other -/
structure Bx (W : World) (l : List Val) (w : World) : Prop where
  below : Below W.heap.size W w
  at_ : ∀ i y, l[i]? = some y → w.heap[W.heap.size + i]? = some (.cells #[.int .i64 y.k, .int .u64 y.n, .string y.s, .int .i64 y.o] 34 (0, 0))
section
variable {W w : World} {l : List Val}
theorem Bx.size (h : Bx W l w) : W.heap.size + l.length ≤ w.heap.size := by
  rcases Nat.eq_zero_or_pos l.length with e | e
  · rw [e]; exact h.below.size
  · have := (Array.getElem?_eq_some_iff.1 (h.at_ (l.length - 1) _ (List.getElem?_eq_getElem (by omega)))).1
    omega
theorem Bx.step {w' : World} (h : Bx W l w) (hb : Below w.heap.size w w') : Bx W l w' := by
  have hs := h.size
  refine ⟨h.below.trans (hb.mono h.below.size), fun i y hi => (hb.block _ ?_).trans (h.at_ i y hi)⟩
  have := (List.getElem?_eq_some_iff.1 hi).1
  omega
theorem Bx.put (h : Bx W l w) (i : Nat) (hi : i < l.length) (x : Val) : Bx W (l.set i x) (put4 w (W.heap.size + i) x) := by
  have hs := h.size
  refine ⟨put4_below h.below (by omega) x, fun j y hj => ?_⟩
  rw [List.getElem?_set] at hj
  by_cases e : i = j
  · subst e
    rw [if_pos rfl, if_pos hi] at hj
    obtain rfl := Option.some.inj hj
    exact put4_block (h.at_ i _ (List.getElem?_eq_getElem hi)) x
  · rw [if_neg e] at hj
    have hjl := (List.getElem?_eq_some_iff.1 hj).1
    exact ((put4_chg w (W.heap.size + i) x).block _ (by omega) (by rw [List.mem_singleton]; omega)).trans (h.at_ j y hj)
theorem Bx.cell (h : Bx W l w) (i : Nat) {y : Val} (hi : l[i]? = some y) (q : Nat) (hq : q = W.heap.size + i) : w.cell? ⟨q, 0, none⟩ = some (.int .i64 y.k) ∧ w.cell? ⟨q, 1, none⟩ = some (.int .u64 y.n) ∧ w.cell? ⟨q, 2, none⟩ = some (.string y.s) ∧ w.cell? ⟨q, 3, none⟩ = some (.int .i64 y.o) ∧ (∀ o, w.frozen? ⟨q, o, none⟩ = false) := by
  subst hq
  have h1 := h.at_ i y hi
  obtain ⟨a, b, c, d⟩ := cells4 h1
  exact ⟨a, b, c, d, fun o => frozen_of h1 o⟩
theorem Bx.nil (W : World) : Bx W [] W := ⟨Below.refl _ _, fun i y h => by cases h⟩
theorem Bx.snoc (h : Bx W l w) (hs : w.heap.size = W.heap.size + l.length) (y : Val) : Bx W (l ++ [y]) (w.alloc (.cells #[.int .i64 y.k, .int .u64 y.n, .string y.s, .int .i64 y.o] 34)) := by
  have h2 := h.step ((Below.refl _ _).alloc (Nat.le_refl _) (.cells #[.int .i64 y.k, .int .u64 y.n, .string y.s, .int .i64 y.o] 34))
  refine ⟨h2.below, fun i x hi => ?_⟩
  by_cases e : i < l.length
  · rw [List.getElem?_append_left e] at hi
    exact h2.at_ i x hi
  · have e2 : i = l.length := by
      have := (List.getElem?_eq_some_iff.1 hi).1
      rw [List.length_append, List.length_singleton] at this
      omega
    subst e2
    rw [List.getElem?_append_right (Nat.le_refl _), Nat.sub_self] at hi
    obtain rfl : y = x := Option.some.inj hi
    rw [← hs]
    exact heap_alloc_new _ _
end
theorem Bx.four (W : World) (k : Val) : Bx W [k, nilV, nilV, nilV] ((((W.alloc (.cells #[.int .i64 k.k, .int .u64 k.n, .string k.s, .int .i64 k.o] 34)).alloc (.cells #[.int .i64 0, .int .u64 0, .string ⟨#[]⟩, .int .i64 0] 34)).alloc (.cells #[.int .i64 0, .int .u64 0, .string ⟨#[]⟩, .int .i64 0] 34)).alloc (.cells #[.int .i64 0, .int .u64 0, .string ⟨#[]⟩, .int .i64 0] 34)) :=
  (((((Bx.nil W).snoc rfl k).snoc (by simp) nilV).snoc (by simp) nilV).snoc (by simp) nilV)
theorem field_k (k n : Int) (s : ByteArray) (o : Int) (w : World) : (Instr.field 34 (.agg #[.int .i64 k, .int .u64 n, .string s, .int .i64 o]) 0).run Try.prog w = .ok (.int .i64 k) w := by
  simp [Instr.field, run_underlying Try.underlying34, sizeOf, typeInfo, go_sem, asAgg]
set_option maxHeartbeats 2000000 in
set_option maxRecDepth 100000 in
theorem rnext_walk {d : Nat} {s : List Ob} {limit : Int} {G : List Nat} (o : Int) (k : Val) (hk : VOK k) (W : World) (h : RefIs W d s limit G) :
    Calls Try.prog 64 #[.pointer (some ⟨d, 0, none⟩), .int .i64 o, k.v] W (NextP W (nextS s o k)) := by
  have hK := fun w => rkey_walk k hk w
  have hN := fun w => rnormal_walk k hk w
  have t0 := Lib.hid (Bx.four W k)
  have HI := Lib.hid h
  have HT : Hid (∀ w, Below W.heap.size W w → Calls Try.prog 21 #[.pointer (some ⟨d, 0, none⟩), .int .i64 o] w (BlP w (isTab s o))) := fun w hb => hasT_walk o w (HI.out.below hb)
  clear h
  unfold Val.v at hK hN ⊢
  cases ho : isTab s o with
  | false =>
    have HG : Hid (nextS s o k = (nilV, nilV, 5)) := by
      show nextS s o k = _
      unfold nextS
      unfold isTab at ho
      cases hob : obAt s o with
      | none => rfl
      | some ob =>
        rw [hob] at ho
        simp only at ho ⊢
        rw [if_neg (of_decide_eq_false ho)]
    rw [ho] at HT
    clear ho
    go_enter Try.func64, Try.ntmps64
    go_wp2_with fail
    refine (HT.out _ t0.out.below).mono ?_
    rintro e w1 ⟨rfl, b1⟩
    have T1 := Lib.hid (t0.out.step b1)
    clear b1 hN hK
    obtain ⟨a0, a1, a2, a3, af⟩ := T1.out.cell 1 rfl (W.heap.size + 1) rfl
    obtain ⟨b0, b1, b2, b3, bf⟩ := T1.out.cell 2 rfl (W.heap.size + 1 + 1) rfl
    obtain ⟨d0, d1, d2, d3, df⟩ := T1.out.cell 3 rfl (W.heap.size + 1 + 1 + 1) rfl
    go_upto_region 3 with fail
    have T2 := Lib.hid ((T1.out.put 1 (by simp) nilV).put 2 (by simp) nilV)
    obtain ⟨r0, r1, r2, r3, -⟩ := T2.out.cell 1 rfl (W.heap.size + 1) rfl
    obtain ⟨s0, s1, s2, s3, -⟩ := T2.out.cell 2 rfl (W.heap.size + 1 + 1) rfl
    have T3 := Lib.hid (T2.out.step (Below.drew (Below.refl _ _)))
    go_region_law (fail)
    all_goals
      go_wp2_with fail
      rw [put4_eq, put4_eq]
      exact bodyPost_ret (v := .tuple #[nilV.v, nilV.v, .int .i64 5]) (by simp [results, Try.results64, go_sem, Act.put, Val.out, r0, r1, r2, r3, s0, s1, s2, s3]) rfl ⟨by rw [HG.out], T3.out.below⟩
  | true =>
    obtain ⟨ob, hob, hk5⟩ : ∃ ob, obAt s o = some ob ∧ ob.kind = 5 := by
      unfold isTab at ho
      cases hob : obAt s o with
      | none => rw [hob] at ho; cases ho
      | some ob => rw [hob] at ho; exact ⟨ob, rfl, of_decide_eq_true ho⟩
    rw [ho] at HT
    obtain ⟨l, v, i, x, h1, h2, h3, rfl, hx, rfl, hs, hil, hlen, hu, hlim⟩ := HI.out.at_ hob
    have hkvl : x.1.kv.length ≤ 1048575 := by
      have e1 := used_take s i x.1 hs
      have e2 := used_take_le s (i + 1)
      omega
    have HG : Hid (nextS s ((i : Int) + 1) k = if (normV k).k = 0 then nextAt x.1.kv 0 else match keyV k with
      | none => (nilV, nilV, 5)
      | some k' => match placeL (keysOf x.1) k' with
        | none => (nilV, nilV, 5)
        | some p => nextAt x.1.kv (p + 1)) := by
      show nextS s ((i : Int) + 1) k = _
      unfold nextS
      rw [hob]
      simp only
      rw [if_pos hk5]
    have H1 := Lib.hid h1
    have HX := Lib.hid hx
    have hwr : IntKind.i64.wrap ((i : Nat) : Int) = (i : Int) := by rw [IntKind.wrap_i64]; omega
    have hi0' : (0 : Int) ≤ (i : Int) := Int.natCast_nonneg _
    have hi1' : (i : Int) < (l.length : Int) := by omega
    clear h1 h2 h3 hs hob hx hu ho hk5 hlim
    go_enter Try.func64, Try.ntmps64
    go_wp2_with fail
    refine (HT.out _ t0.out.below).mono ?_
    rintro e w1 ⟨rfl, b1⟩
    have T1 := Lib.hid (t0.out.step b1)
    clear b1
    have hR := H1.out.kept (B := []) (Chg.of_below T1.out.below) (fun _ _ => List.not_mem_nil)
    obtain ⟨c0, c1, cf⟩ := hR.d_cells
    obtain ⟨n0, n1, n2, n3, n4, n5, n6, n7, n8, n9⟩ := hR.ob_cells HX.out
    obtain ⟨ad, cap, hv, -, -, had⟩ := row_form hR.row
    rw [hv, had (by omega)] at c0
    obtain ⟨ka, kc, va, vc, sa, sc, ekv, evv, esv, -⟩ := (hR.objs x (List.mem_of_getElem? HX.out)).forms
    rw [ekv] at n1
    rw [evv] at n2
    rw [esv] at n9
    clear hR hv had
    go_upto_region 5 with fail
    obtain ⟨w2, Hw2⟩ : ∃ w2, Hid (w2 = w1.alloc (.cells #[.int .i64 x.1.kind, .slice ka x.1.kv.length kc, .slice va x.1.kv.length vc, .int .i64 x.1.mt.k, .int .u64 x.1.mt.n, .string x.1.mt.s, .int .i64 x.1.mt.o, .int .i64 x.1.a, .int .i64 x.1.b, .slice sa x.1.slots.length sc] 60)) := ⟨_, Lib.hid rfl⟩
    rw [← Hw2.out]
    have O2 : Hid (OBox w1 w1.heap.size x w2) := by
      show OBox _ _ _ _
      rw [Hw2.out]
      have e := box_new w1 x
      unfold rCells at e
      rw [ekv, evv, esv] at e
      exact e
    have T2 := Lib.hid (T1.out.step O2.out.below)
    have HE := Lib.hid (And.intro ekv (And.intro evv esv))
    obtain ⟨bx, Hbx⟩ : ∃ bx, Hid (bx = w1.heap.size) := ⟨_, Lib.hid rfl⟩
    rw [← Hbx.out] at O2 ⊢
    clear n0 n1 n2 n3 n4 n5 n6 n7 n8 n9 c0 c1 cf Hw2 ekv evv esv
    obtain ⟨a0, a1, a2, a3, af⟩ := T2.out.cell 0 rfl (W.heap.size) rfl
    go_wp2_with fail
    refine (hN _).mono ?_
    rintro e w3 ⟨rfl, b3⟩
    have T3 := Lib.hid (T2.out.step b3)
    have O3 := Lib.hid (O2.out.step b3)
    clear b3 a0 a1 a2 a3 af T2 O2 hN
    obtain ⟨y, Hy⟩ : ∃ y, Hid (y = normV k) := ⟨_, Lib.hid rfl⟩
    rw [← Hy.out, Val.out]
    rw [← Hy.out] at HG
    have hfk := fun w => field_k y.k y.n y.s y.o w
    go_upto_if 32 with fail
    go_cut [11] (fun t wx => ∃ r : Int, t = .int .i64 r ∧ -1 ≤ r ∧ r < x.1.kv.length ∧ nextS s ((i : Int) + 1) k = nextAt x.1.kv (r + 1).toNat ∧ Bx W [k, nilV, nilV, nilV] wx ∧ OBox w1 bx x wx)
    case first =>
      by_cases hz : y.k = 0
      · have e0 : (y.k != 0) = false := by rw [hz]; rfl
        have HZ := Lib.hid hz
        clear hz
        go_wp2_with fail
        go_meet
        exact ⟨-1, rfl, by omega, by omega, by rw [HG.out, if_pos HZ.out]; rfl, T3.out, O3.out⟩
      · have e0 : (y.k != 0) = true := by rw [bne_iff_ne]; exact hz
        rw [if_neg hz] at HG
        clear hz
        obtain ⟨a0, a1, a2, a3, af⟩ := T3.out.cell 0 rfl (W.heap.size) rfl
        have HPL : Hid (∀ w, Below w1.heap.size w1 w → ∀ y : Val, Calls Try.prog 62 #[.agg #[.int .i64 x.1.kind, .slice ka x.1.kv.length kc, .slice va x.1.kv.length vc, .int .i64 x.1.mt.k, .int .u64 x.1.mt.n, .string x.1.mt.s, .int .i64 x.1.mt.o, .int .i64 x.1.a, .int .i64 x.1.b, .slice sa x.1.slots.length sc], .agg #[.int .i64 y.k, .int .u64 y.n, .string y.s, .int .i64 y.o]] w (NmP w (placeI (keysOf x.1) y))) := by
          intro w hb y
          have hP' := rplace_walk x y (by omega) w ((H1.out.kept (B := []) (Chg.of_below (bthen T1.out.below hb)) (fun _ _ => List.not_mem_nil)).objs x (List.mem_of_getElem? HX.out)).keys
          unfold rV Val.v at hP'
          rw [HE.out.1, HE.out.2.1, HE.out.2.2] at hP'
          exact hP'
        go_wp2_with fail
        refine (hK _).mono ?_
        rintro e w4 ⟨rfl, b4⟩
        have T4 := Lib.hid (T3.out.step b4)
        have O4 := Lib.hid (O3.out.step b4)
        clear b4 a0 a1 a2 a3 af hK hfk
        obtain ⟨z, Hz⟩ : ∃ z, Hid (z = (keyV k).getD nilV) := ⟨_, Lib.hid rfl⟩
        obtain ⟨ok, Hok⟩ : ∃ ok, Hid (ok = (keyV k).isSome) := ⟨_, Lib.hid rfl⟩
        unfold keyR
        rw [← Hz.out, ← Hok.out, Val.out]
        go_upto_region 7 with fail
        obtain ⟨w5, Hw5⟩ : ∃ w5, Hid (w5 = w4.alloc (.cells #[.int .i64 z.k, .int .u64 z.n, .string z.s, .int .i64 z.o] 34)) := ⟨_, Lib.hid rfl⟩
        rw [← Hw5.out]
        have b5 : Below w4.heap.size w4 w5 := by rw [Hw5.out]; exact (Below.refl _ _).alloc (Nat.le_refl _) _
        have B5 : Hid (w5.heap[w4.heap.size]? = some (.cells #[.int .i64 z.k, .int .u64 z.n, .string z.s, .int .i64 z.o] 34 (0, 0))) := by
          show _ = _
          rw [Hw5.out]; exact heap_alloc_new _ _
        have T5 := Lib.hid (T4.out.step b5)
        have O5 := Lib.hid (O4.out.step b5)
        obtain ⟨q0, q1, q2, q3⟩ := cells4 B5.out
        obtain ⟨n0, n1, n2, n3, n4, n5, n6, n7, n8, n9, nf, nl⟩ := O5.out.cell
        rw [HE.out.1] at n1
        rw [HE.out.2.1] at n2
        rw [HE.out.2.2] at n9
        clear b5 Hw5
        go_wp2_with fail
        refine (HPL.out _ O5.out.below z).mono ?_
        rintro e w6 ⟨rfl, b6⟩
        have T6 := Lib.hid (T5.out.step b6)
        have O6 := Lib.hid (O5.out.step b6)
        clear b6 n0 n1 n2 n3 n4 n5 n6 n7 n8 n9 nf nl q0 q1 q2 q3 HPL
        cases hkk : keyV k with
        | none =>
          have hokf : ok = false := by rw [Hok.out, hkk]; rfl
          have HGn : Hid (nextS s ((i : Int) + 1) k = (nilV, nilV, 5)) := by
            show _ = _
            rw [HG.out, hkk]
          subst hokf
          clear hkk
          obtain ⟨a0, a1, a2, a3, af⟩ := T6.out.cell 1 rfl (W.heap.size + 1) rfl
          obtain ⟨b0, b1, b2, b3, bf⟩ := T6.out.cell 2 rfl (W.heap.size + 1 + 1) rfl
          obtain ⟨d0, d1, d2, d3, df⟩ := T6.out.cell 3 rfl (W.heap.size + 1 + 1 + 1) rfl
          have U2 := Lib.hid ((T6.out.put 1 (by simp) nilV).put 2 (by simp) nilV)
          obtain ⟨r0, r1, r2, r3, -⟩ := U2.out.cell 1 rfl (W.heap.size + 1) rfl
          obtain ⟨s0, s1, s2, s3, -⟩ := U2.out.cell 2 rfl (W.heap.size + 1 + 1) rfl
          have U3 := Lib.hid (U2.out.step (Below.drew (Below.refl _ _)))
          go_upto_region 9 with fail
          go_region_law (fail)
          all_goals
            go_wp2_with fail
            rw [put4_eq, put4_eq]
            exact bodyPost_ret (v := .tuple #[nilV.v, nilV.v, .int .i64 5]) (by simp [results, Try.results64, go_sem, Act.put, Val.out, r0, r1, r2, r3, s0, s1, s2, s3]) rfl ⟨by rw [HGn.out], U3.out.below⟩
        | some z' =>
          have hokt : ok = true := by rw [Hok.out, hkk]; rfl
          have hzz : z = z' := by rw [Hz.out, hkk]; rfl
          subst hzz
          rw [hkk] at HG
          subst hokt
          clear hkk
          cases hp : placeL (keysOf x.1) z with
          | none =>
            have hpi : placeI (keysOf x.1) z = -1 := by unfold placeI; rw [hp]
            rw [hpi]
            have HGn : Hid (nextS s ((i : Int) + 1) k = (nilV, nilV, 5)) := by
              show _ = _
              rw [HG.out]
              simp only
              rw [hp]
            clear hp hpi
            obtain ⟨a0, a1, a2, a3, af⟩ := T6.out.cell 1 rfl (W.heap.size + 1) rfl
            obtain ⟨b0, b1, b2, b3, bf⟩ := T6.out.cell 2 rfl (W.heap.size + 1 + 1) rfl
            obtain ⟨d0, d1, d2, d3, df⟩ := T6.out.cell 3 rfl (W.heap.size + 1 + 1 + 1) rfl
            have U2 := Lib.hid ((T6.out.put 1 (by simp) nilV).put 2 (by simp) nilV)
            obtain ⟨r0, r1, r2, r3, -⟩ := U2.out.cell 1 rfl (W.heap.size + 1) rfl
            obtain ⟨s0, s1, s2, s3, -⟩ := U2.out.cell 2 rfl (W.heap.size + 1 + 1) rfl
            have U3 := Lib.hid (U2.out.step (Below.drew (Below.refl _ _)))
            go_upto_region 9 with fail
            go_region_law (fail)
            all_goals
              go_wp2_with fail
              rw [put4_eq, put4_eq]
              exact bodyPost_ret (v := .tuple #[nilV.v, nilV.v, .int .i64 5]) (by simp [results, Try.results64, go_sem, Act.put, Val.out, r0, r1, r2, r3, s0, s1, s2, s3]) rfl ⟨by rw [HGn.out], U3.out.below⟩
          | some p =>
            have hpi : placeI (keysOf x.1) z = (p : Int) := by unfold placeI; rw [hp]
            rw [hpi]
            have hpl : p < x.1.kv.length := by
              have := (List.getElem?_eq_some_iff.1 (placeL_some.1 hp).1).1
              rw [keysOf_len] at this
              exact this
            have HGn : Hid (nextS s ((i : Int) + 1) k = nextAt x.1.kv (p + 1)) := by
              show _ = _
              rw [HG.out]
              simp only
              rw [hp]
            have hp0 : ¬ ((p : Int) < 0) := by omega
            clear hp hpi
            go_wp2_with fail
            go_meet
            exact ⟨(p : Int), rfl, by omega, by omega, by rw [HGn.out]; congr 1, T6.out, O6.out⟩
    case rest =>
      clear T3 O3 HG hfk hK
      obtain ⟨r, rfl, hr0, hr1, hnx, hT, hO⟩ := hcut
      have T6 := Lib.hid hT
      have O6 := Lib.hid hO
      have HNX := Lib.hid hnx
      clear hT hO hnx
      obtain ⟨w6, rfl⟩ : ∃ w6, w6 = wc := ⟨_, rfl⟩
      obtain ⟨n0, n1, n2, n3, n4, n5, n6, n7, n8, n9, nf, nl⟩ := O6.out.cell
      rw [HE.out.1] at n1
      rw [HE.out.2.1] at n2
      clear n0 n3 n4 n5 n6 n7 n8 n9
      obtain ⟨m, hm⟩ : ∃ m : Nat, r + 1 = (m : Int) := ⟨(r + 1).toNat, by omega⟩
      have hr : r = (m : Int) - 1 := by omega
      subst hr
      have hwm : IntKind.i64.wrap ((m : Int) - 1 + 1) = (m : Int) := by rw [IntKind.wrap_i64]; omega
      have hwm2 : IntKind.i64.wrap (m : Int) = (m : Int) := by rw [IntKind.wrap_i64]; omega
      have hml : m ≤ x.1.kv.length := by omega
      rw [show ((m : Int) - 1 + 1).toNat = m by omega] at HNX
      by_cases hge : m = x.1.kv.length
      · have HGn : Hid (nextS s ((i : Int) + 1) k = (nilV, nilV, 0)) := by
          show _ = _
          rw [HNX.out]
          unfold nextAt
          rw [List.getElem?_eq_none (by omega)]
        have hle : (x.1.kv.length : Int) ≤ (m : Int) := by omega
        obtain ⟨a0, a1, a2, a3, af⟩ := T6.out.cell 1 rfl (W.heap.size + 1) rfl
        obtain ⟨b0, b1, b2, b3, bf⟩ := T6.out.cell 2 rfl (W.heap.size + 1 + 1) rfl
        obtain ⟨d0, d1, d2, d3, df⟩ := T6.out.cell 3 rfl (W.heap.size + 1 + 1 + 1) rfl
        have U2 := Lib.hid ((T6.out.put 1 (by simp) nilV).put 2 (by simp) nilV)
        obtain ⟨r0, r1, r2, r3, -⟩ := U2.out.cell 1 rfl (W.heap.size + 1) rfl
        obtain ⟨s0, s1, s2, s3, -⟩ := U2.out.cell 2 rfl (W.heap.size + 1 + 1) rfl
        have U3 := Lib.hid (U2.out.step (Below.drew (Below.refl _ _)))
        go_upto_region 11 with fail
        go_region_law (fail)
        all_goals
          go_wp2_with fail
          rw [put4_eq, put4_eq]
          exact bodyPost_ret (v := .tuple #[nilV.v, nilV.v, .int .i64 0]) (by simp [results, Try.results64, go_sem, Act.put, Val.out, r0, r1, r2, r3, s0, s1, s2, s3]) rfl ⟨by rw [HGn.out], U3.out.below⟩
      · have hlt : m < x.1.kv.length := by omega
        obtain ⟨uk, Huk⟩ : ∃ u, Hid (u = (x.1.kv[m]).1) := ⟨_, Lib.hid rfl⟩
        obtain ⟨uv, Huv⟩ : ∃ u, Hid (u = (x.1.kv[m]).2) := ⟨_, Lib.hid rfl⟩
        have HGn : Hid (nextS s ((i : Int) + 1) k = (uk, uv, 0)) := by
          show _ = _
          rw [HNX.out]
          unfold nextAt
          rw [List.getElem?_eq_getElem hlt, Huk.out, Huv.out]
        have hox := (H1.out.kept (B := []) (Chg.of_below (bthen T1.out.below O6.out.below)) (fun _ _ => List.not_mem_nil)).objs x (List.mem_of_getElem? HX.out)
        have hmk : m < (keysOf x.1).length := by rw [keysOf_len]; exact hlt
        have hmv : m < (valsOf x.1).length := by rw [valsOf_len]; exact hlt
        have ek : (keysOf x.1)[m] = uk := by
          rw [Huk.out]
          exact List.getElem_map ..
        have ev : (valsOf x.1)[m] = uv := by
          rw [Huv.out]
          exact List.getElem_map ..
        obtain ⟨x0, x1, x2, x3, kcap, hkv⟩ := hox.keys.cell hmk
        obtain ⟨y0, y1, y2, y3, vcap, hvv⟩ := hox.vals.cell hmv
        rw [ek] at x0 x1 x2 x3
        rw [ev] at y0 y1 y2 y3
        have hka : ka = some ⟨vb x.2.kv, 0, none⟩ := by
          have := HE.out.1
          rw [hkv] at this
          exact (((Value.slice.injEq ..).mp this).1).symm
        have hva : va = some ⟨vb x.2.vv, 0, none⟩ := by
          have := HE.out.2.1
          rw [hvv] at this
          exact (((Value.slice.injEq ..).mp this).1).symm
        have hxm : x ∈ l := List.mem_of_getElem? HX.out
        have hgkl : vb x.2.kv < W.heap.size := H1.out.lt _ (rfoot_o hxm (List.mem_append_left _ (rown_of (List.length_pos_iff.1 (by omega)) (by rw [hkv]; exact List.mem_singleton.2 rfl))))
        have hgvl : vb x.2.vv < W.heap.size := H1.out.lt _ (rfoot_o hxm (List.mem_append_right _ (List.mem_append_left _ (rown_of (List.length_pos_iff.1 (by omega)) (by rw [hvv]; exact List.mem_singleton.2 rfl)))))
        have hbxl : W.heap.size + 4 ≤ bx := by rw [Hbx.out]; exact T1.out.size
        obtain ⟨gk, Hgk⟩ : ∃ g, Hid (g = vb x.2.kv) := ⟨_, Lib.hid rfl⟩
        obtain ⟨gv, Hgv⟩ : ∃ g, Hid (g = vb x.2.vv) := ⟨_, Lib.hid rfl⟩
        rw [← Hgk.out] at hgkl
        rw [← Hgv.out] at hgvl
        have z1 : ¬ (gk = W.heap.size + 1) := by omega
        have z2 : ¬ (gv = W.heap.size + 1) := by omega
        have z3 : ¬ (bx = W.heap.size + 1) := by omega
        have z4 : ¬ (W.heap.size + 1 = gk) := by omega
        have z5 : ¬ (W.heap.size + 1 = gv) := by omega
        have z6 : ¬ (W.heap.size + 1 = bx) := by omega
        rw [← Hgk.out] at hka x0 x1 x2 x3
        rw [← Hgv.out] at hva y0 y1 y2 y3
        rw [hka] at n1
        rw [hva] at n2
        have hm0 : (0 : Int) ≤ (m : Int) := Int.natCast_nonneg _
        have hm1 : (m : Int) < (x.1.kv.length : Int) := by omega
        have hle : ¬ ((x.1.kv.length : Int) ≤ (m : Int)) := by omega
        clear ek ev hkv hvv hka hva hox hge
        obtain ⟨a0, a1, a2, a3, af⟩ := T6.out.cell 1 rfl (W.heap.size + 1) rfl
        obtain ⟨b0, b1, b2, b3, bf⟩ := T6.out.cell 2 rfl (W.heap.size + 1 + 1) rfl
        obtain ⟨d0, d1, d2, d3, df⟩ := T6.out.cell 3 rfl (W.heap.size + 1 + 1 + 1) rfl
        have U2 := Lib.hid ((T6.out.put 1 (by simp) uk).put 2 (by simp) uv)
        obtain ⟨r0, r1, r2, r3, -⟩ := U2.out.cell 1 rfl (W.heap.size + 1) rfl
        obtain ⟨s0, s1, s2, s3, -⟩ := U2.out.cell 2 rfl (W.heap.size + 1 + 1) rfl
        have U3 := Lib.hid (U2.out.step (Below.drew (Below.refl _ _)))
        go_upto_region 12 with fail
        go_region_law (fail)
        all_goals
          go_wp2_with fail
          rw [put4_eq, put4_eq]
          exact bodyPost_ret (v := .tuple #[uk.v, uv.v, .int .i64 0]) (by simp [results, Try.results64, go_sem, Act.put, Val.out, r0, r1, r2, r3, s0, s1, s2, s3]) rfl ⟨by rw [HGn.out], U3.out.below⟩
end Go.Proofs.Ytlihonbmopeemaa.Hp
end
section
namespace Go.Proofs.Ytlihonbmopeemaa.Hp
open Go Go.RowKit Go.Proofs.Ytlihonbmopeemaa.HpLaw Go.Proofs.Ytlihonbmopeemaa.Ans Go.Proofs.Ytlihonbmopeemaa.Num Go.Proofs.Ytlihonbmopeemaa.DigLaw Go.Proofs.Ytlihonbmopeemaa.Fl Go.Proofs.Ytlihonbmopeemaa.Dig Go.Proofs.Ytlihonbmopeemaa.Float
set_option linter.unusedSimpArgs false

/-- how many living ones lie ahead -/
def cnt (l : List Ent) (i : Nat) : Nat := (liveL (l.take i)).length
theorem kvs_len (l : List Ent) : (kvs l).length = (liveL l).length := by unfold kvs; rw [List.length_map]
theorem kvs_append (a b : List Ent) : kvs (a ++ b) = kvs a ++ kvs b := by unfold kvs liveL; rw [List.filter_append, List.map_append]
theorem kvs_cons (e : Ent) (r : List Ent) : kvs (e :: r) = if e.dead then kvs r else (e.key, e.val) :: kvs r := by
  unfold kvs liveL
  rw [List.filter_cons]
  cases e.dead <;> rfl
theorem cnt_succ {l : List Ent} {j : Nat} (hj : j < l.length) : cnt l (j + 1) = cnt l j + (if (l[j]).dead then 0 else 1) := by
  unfold cnt
  rw [← List.take_append_getElem hj, live_snoc]
  split
  · rfl
  · rw [List.length_append]; rfl
theorem kvs_at {l : List Ent} {j : Nat} (hj : j < l.length) (hd : (l[j]).dead = false) : (kvs l)[cnt l j]? = some ((l[j]).key, (l[j]).val) := by
  have e : l = l.take j ++ (l[j] :: l.drop (j + 1)) := by rw [List.getElem_cons_drop, List.take_append_drop]
  have h1 : (kvs (l.take j)).length = cnt l j := kvs_len _
  have h2 : kvs l = kvs (l.take j) ++ ((l[j]).key, (l[j]).val) :: kvs (l.drop (j + 1)) := by
    conv => lhs; rw [e]
    rw [kvs_append, kvs_cons, hd]; rfl
  rw [h2, List.getElem?_append_right (by omega), h1, Nat.sub_self]
  rfl
theorem cnt_all (l : List Ent) : (kvs l)[cnt l l.length]? = none := by
  have h1 : cnt l l.length = (kvs l).length := by unfold cnt; rw [List.take_length, kvs_len]
  rw [h1]
  exact List.getElem?_eq_none (Nat.le_refl _)
theorem place_cnt {l : List Ent} (ho : Once (kds l)) {i : Nat} {k : Val} (hi : (kds l)[i]? = some (some k)) : placeL ((kvs l).map Prod.fst) k = some (cnt l i) ∧ ∃ h : i < l.length, (l[i]).dead = false := by
  have hil : i < l.length := by
    have := (List.getElem?_eq_some_iff.1 hi).1
    rw [kds_len] at this; exact this
  have hd : (l[i]).dead = false := by
    have h := kds_at hil
    rw [hi] at h
    cases hdd : (l[i]).dead
    · rfl
    · rw [hdd] at h; cases h
  have hk : (l[i]).key = k := by
    have h := kds_at hil
    rw [hi, hd] at h
    exact (Option.some.inj (Option.some.inj h)).symm
  have hat := kvs_at hil hd
  have hkey : ((kvs l).map Prod.fst)[cnt l i]? = some k := by rw [List.getElem?_map, hat, ← hk]; rfl
  refine ⟨placeL_some.2 ⟨hkey, fun j hj e => ?_⟩, hil, hd⟩
  have hn := once_nodup (l := l) ho
  obtain ⟨a1, a2⟩ := List.getElem?_eq_some_iff.1 hkey
  obtain ⟨b1, b2⟩ := List.getElem?_eq_some_iff.1 e
  have := (List.nodup_iff_pairwise_ne.1 hn)
  have hne := List.pairwise_iff_getElem.1 this j (cnt l i) b1 a1 hj
  rw [a2, b2] at hne
  exact hne rfl
theorem place_no {l : List Ent} {k : Val} (h : ∀ i : Nat, (kds l)[i]? ≠ some (some k)) : placeL ((kvs l).map Prod.fst) k = none := by
  refine placeL_none.2 fun x hx e => ?_
  obtain ⟨q, hq, rfl⟩ := List.mem_map.1 hx
  obtain ⟨y, hy, rfl⟩ := List.mem_map.1 hq
  obtain ⟨hy1, hy2⟩ := List.mem_filter.1 hy
  obtain ⟨j, hj, rfl⟩ := List.mem_iff_getElem.1 hy1
  have hdj : (l[j]).dead = false := by simpa using hy2
  refine h j ?_
  rw [kds_at hj, hdj]
  have e2 : (l[j]).key = k := e
  rw [e2]; rfl
end Go.Proofs.Ytlihonbmopeemaa.Hp
end
section
namespace Go.Proofs.Ytlihonbmopeemaa.Hp
open Go Go.RowKit Go.Proofs.Ytlihonbmopeemaa.HpLaw Go.Proofs.Ytlihonbmopeemaa.Ans Go.Proofs.Ytlihonbmopeemaa.Num Go.Proofs.Ytlihonbmopeemaa.DigLaw Go.Proofs.Ytlihonbmopeemaa.Fl Go.Proofs.Ytlihonbmopeemaa.Dig Go.Proofs.Ytlihonbmopeemaa.Float
attribute [local go_sem ↓] Go.wp_at_zero Go.wp_at_succ
set_option linter.unusedSimpArgs false

theorem nilV_key : KeyOK nilV := ⟨⟨0, rfl, by decide⟩, by show (0 : Nat) ≤ maxLen; exact Nat.zero_le _, fun h => by cases h⟩
set_option maxHeartbeats 2000000 in
set_option maxRecDepth 100000 in
theorem next_walk {hp : Nat} {s : List Ob} {limit : Int} {F : List Nat} (o : Int) (k : Val) (hk : VOK k) (W : World) (h : HeapIs W hp s limit F) :
    Calls Try.prog 22 #[.pointer (some ⟨hp, 0, none⟩), .int .i64 o, k.v] W (NextP W (nextS s o k)) := by
  have hK := fun w => Key_walk k hk w
  have hN := fun w => Normal_walk k hk w
  have t0 := Lib.hid (Bx.four W k)
  unfold Val.v at hK hN ⊢
  rcases tab_cases h o with ⟨hno, hcall⟩ | ⟨os, v, i, ob, l, T, hyes⟩
  · have HG : Hid (nextS s o k = (nilV, nilV, 5)) := by
      show nextS s o k = _
      unfold nextS
      rcases hno with e | ⟨ob, e, hk5, _⟩
      · rw [e]
      · rw [e]
        simp only
        rw [if_neg hk5]
    have HC := Lib.hid hcall
    clear hcall hno h hN hK
    go_enter Try.func22, Try.ntmps22
    go_wp2_with fail
    refine (HC.out _ t0.out.below).mono ?_
    rintro e w1 ⟨rfl, rfl⟩
    obtain ⟨w1, Hw1⟩ : ∃ w1, Hid (w1 = (((W.alloc (.cells #[.int .i64 k.k, .int .u64 k.n, .string k.s, .int .i64 k.o] 34)).alloc (.cells #[.int .i64 0, .int .u64 0, .string ⟨#[]⟩, .int .i64 0] 34)).alloc (.cells #[.int .i64 0, .int .u64 0, .string ⟨#[]⟩, .int .i64 0] 34)).alloc (.cells #[.int .i64 0, .int .u64 0, .string ⟨#[]⟩, .int .i64 0] 34)) := ⟨_, Lib.hid rfl⟩
    rw [← Hw1.out] at t0 ⊢
    obtain ⟨a0, a1, a2, a3, af⟩ := t0.out.cell 1 rfl (W.heap.size + 1) rfl
    obtain ⟨b0, b1, b2, b3, bf⟩ := t0.out.cell 2 rfl (W.heap.size + 1 + 1) rfl
    obtain ⟨d0, d1, d2, d3, df⟩ := t0.out.cell 3 rfl (W.heap.size + 1 + 1 + 1) rfl
    have U2 := Lib.hid ((t0.out.put 1 (by simp) nilV).put 2 (by simp) nilV)
    obtain ⟨r0, r1, r2, r3, -⟩ := U2.out.cell 1 rfl (W.heap.size + 1) rfl
    obtain ⟨s0, s1, s2, s3, -⟩ := U2.out.cell 2 rfl (W.heap.size + 1 + 1) rfl
    have U3 := Lib.hid (U2.out.step (Below.drew (Below.refl _ _)))
    go_upto_region 4 with fail
    go_region_law (fail)
    all_goals
      go_wp2_with fail
      rw [put4_eq, put4_eq]
      exact bodyPost_ret (v := .tuple #[nilV.v, nilV.v, .int .i64 5]) (by simp [results, Try.results22, go_sem, Act.put, Val.out, r0, r1, r2, r3, s0, s1, s2, s3]) rfl ⟨by rw [HG.out], U3.out.below⟩
  · have HC := Lib.hid hyes.call
    have HY := Lib.hid hyes
    obtain ⟨e1, e2, e3, e4⟩ := hyes.obAt
    have HG : Hid (nextS s o k = if (normV k).k = 0 then nextAt (kvs T.l) 0 else match keyV k with
      | none => (nilV, nilV, 5)
      | some k' => match placeL ((kvs T.l).map Prod.fst) k' with
        | none => (nilV, nilV, 5)
        | some p => nextAt (kvs T.l) (p + 1)) := by
      show nextS s o k = _
      unfold nextS
      rw [e1]
      simp only
      rw [if_pos e3, e2]
      unfold keysOf
      rw [e2]
      try rfl
    clear hyes h e1 e2 e3 e4
    have hTl : T.l.length ≤ 33554432 := HY.out.ok.len
    go_enter Try.func22, Try.ntmps22
    go_wp2_with fail
    refine (HC.out _ t0.out.below).mono ?_
    rintro e w1 ⟨rfl, rfl⟩
    obtain ⟨w1, Hw1⟩ : ∃ w1, Hid (w1 = (((W.alloc (.cells #[.int .i64 k.k, .int .u64 k.n, .string k.s, .int .i64 k.o] 34)).alloc (.cells #[.int .i64 0, .int .u64 0, .string ⟨#[]⟩, .int .i64 0] 34)).alloc (.cells #[.int .i64 0, .int .u64 0, .string ⟨#[]⟩, .int .i64 0] 34)).alloc (.cells #[.int .i64 0, .int .u64 0, .string ⟨#[]⟩, .int .i64 0] 34)) := ⟨_, Lib.hid rfl⟩
    rw [← Hw1.out] at t0 ⊢
    obtain ⟨a0, a1, a2, a3, af⟩ := t0.out.cell 0 rfl (W.heap.size) rfl
    go_wp2_with fail
    refine (hN _).mono ?_
    rintro e w3 ⟨rfl, b3⟩
    have T3 := Lib.hid (t0.out.step b3)
    clear b3 a0 a1 a2 a3 af hN
    obtain ⟨y, Hy⟩ : ∃ y, Hid (y = normV k) := ⟨_, Lib.hid rfl⟩
    rw [← Hy.out, Val.out]
    rw [← Hy.out] at HG
    have hfk := fun w => field_k y.k y.n y.s y.o w
    go_upto_if 28 with fail
    go_cut [11] (fun t wx => ∃ n : Nat, t = .int .i64 n ∧ n ≤ T.l.length ∧ nextS s o k = nextAt (kvs T.l) (cnt T.l n) ∧ Bx W [k, nilV, nilV, nilV] wx)
    case first =>
      by_cases hz : y.k = 0
      · have e0 : (y.k != 0) = false := by rw [hz]; rfl
        have HZ := Lib.hid hz
        clear hz
        go_wp2_with fail
        go_meet
        exact ⟨0, rfl, Nat.zero_le _, by rw [HG.out, if_pos HZ.out]; rfl, T3.out⟩
      · have e0 : (y.k != 0) = true := by rw [bne_iff_ne]; exact hz
        rw [if_neg hz] at HG
        clear hz
        obtain ⟨a0, a1, a2, a3, af⟩ := T3.out.cell 0 rfl (W.heap.size) rfl
        go_wp2_with fail
        refine (hK _).mono ?_
        rintro e w4 ⟨rfl, b4⟩
        have T4 := Lib.hid (T3.out.step b4)
        clear b4 a0 a1 a2 a3 af hK hfk
        obtain ⟨z, Hz⟩ : ∃ z, Hid (z = (keyV k).getD nilV) := ⟨_, Lib.hid rfl⟩
        obtain ⟨ok, Hok⟩ : ∃ ok, Hid (ok = (keyV k).isSome) := ⟨_, Lib.hid rfl⟩
        have hkz : KeyOK z := by
          rw [Hz.out]
          cases hkk : keyV k with
          | none => exact nilV_key
          | some z' => exact keyV_ok hk hkk
        unfold keyR
        rw [← Hz.out, ← Hok.out, Val.out]
        go_upto_region 8 with fail
        obtain ⟨w5, Hw5⟩ : ∃ w5, Hid (w5 = w4.alloc (.cells #[.int .i64 z.k, .int .u64 z.n, .string z.s, .int .i64 z.o] 34)) := ⟨_, Lib.hid rfl⟩
        rw [← Hw5.out]
        have b5 : Below w4.heap.size w4 w5 := by rw [Hw5.out]; exact (Below.refl _ _).alloc (Nat.le_refl _) _
        have B5 : Hid (w5.heap[w4.heap.size]? = some (.cells #[.int .i64 z.k, .int .u64 z.n, .string z.s, .int .i64 z.o] 34 (0, 0))) := by
          show _ = _
          rw [Hw5.out]; exact heap_alloc_new _ _
        have T5 := Lib.hid (T4.out.step b5)
        obtain ⟨q0, q1, q2, q3⟩ := cells4 B5.out
        have hat5 := HY.out.at_.kept (B := []) (Chg.of_below T5.out.below) (fun _ _ => List.not_mem_nil)
        have HPL := Lib.hid (place_walk l.p T _ _ _ z hkz w5 hat5 HY.out.ok)
        clear b5 Hw5 hat5
        go_wp2_with fail
        refine HPL.out.mono ?_
        rintro e w6 ⟨r, rfl, hr, b6⟩
        have T6 := Lib.hid (T5.out.step b6)
        clear b6 q0 q1 q2 q3 HPL
        cases hkk : keyV k with
        | none =>
          have hokf : ok = false := by rw [Hok.out, hkk]; rfl
          have HGn : Hid (nextS s o k = (nilV, nilV, 5)) := by
            show _ = _
            rw [HG.out, hkk]
          subst hokf
          clear hkk hr
          obtain ⟨a0, a1, a2, a3, af⟩ := T6.out.cell 1 rfl (W.heap.size + 1) rfl
          obtain ⟨b0, b1, b2, b3, bf⟩ := T6.out.cell 2 rfl (W.heap.size + 1 + 1) rfl
          obtain ⟨d0, d1, d2, d3, df⟩ := T6.out.cell 3 rfl (W.heap.size + 1 + 1 + 1) rfl
          have U2 := Lib.hid ((T6.out.put 1 (by simp) nilV).put 2 (by simp) nilV)
          obtain ⟨r0, r1, r2, r3, -⟩ := U2.out.cell 1 rfl (W.heap.size + 1) rfl
          obtain ⟨s0, s1, s2, s3, -⟩ := U2.out.cell 2 rfl (W.heap.size + 1 + 1) rfl
          have U3 := Lib.hid (U2.out.step (Below.drew (Below.refl _ _)))
          go_upto_region 10 with fail
          go_region_law (fail)
          all_goals
            go_wp2_with fail
            rw [put4_eq, put4_eq]
            exact bodyPost_ret (v := .tuple #[nilV.v, nilV.v, .int .i64 5]) (by simp [results, Try.results22, go_sem, Act.put, Val.out, r0, r1, r2, r3, s0, s1, s2, s3]) rfl ⟨by rw [HGn.out], U3.out.below⟩
        | some z' =>
          have hokt : ok = true := by rw [Hok.out, hkk]; rfl
          have hzz : z = z' := by rw [Hz.out, hkk]; rfl
          subst hzz
          rw [hkk] at HG
          subst hokt
          clear hkk
          rcases hr with ⟨rfl, hno⟩ | ⟨p, rfl, hpp⟩
          · have HGn : Hid (nextS s o k = (nilV, nilV, 5)) := by
              show _ = _
              rw [HG.out]
              simp only
              rw [place_no hno]
            clear hno
            obtain ⟨a0, a1, a2, a3, af⟩ := T6.out.cell 1 rfl (W.heap.size + 1) rfl
            obtain ⟨b0, b1, b2, b3, bf⟩ := T6.out.cell 2 rfl (W.heap.size + 1 + 1) rfl
            obtain ⟨d0, d1, d2, d3, df⟩ := T6.out.cell 3 rfl (W.heap.size + 1 + 1 + 1) rfl
            have U2 := Lib.hid ((T6.out.put 1 (by simp) nilV).put 2 (by simp) nilV)
            obtain ⟨r0, r1, r2, r3, -⟩ := U2.out.cell 1 rfl (W.heap.size + 1) rfl
            obtain ⟨s0, s1, s2, s3, -⟩ := U2.out.cell 2 rfl (W.heap.size + 1 + 1) rfl
            have U3 := Lib.hid (U2.out.step (Below.drew (Below.refl _ _)))
            go_upto_region 10 with fail
            go_region_law (fail)
            all_goals
              go_wp2_with fail
              rw [put4_eq, put4_eq]
              exact bodyPost_ret (v := .tuple #[nilV.v, nilV.v, .int .i64 5]) (by simp [results, Try.results22, go_sem, Act.put, Val.out, r0, r1, r2, r3, s0, s1, s2, s3]) rfl ⟨by rw [HGn.out], U3.out.below⟩
          · obtain ⟨hpl, hlt, hdd⟩ := place_cnt HY.out.ok.once hpp
            have HGn : Hid (nextS s o k = nextAt (kvs T.l) (cnt T.l (p + 1))) := by
              show _ = _
              rw [HG.out]
              simp only
              rw [hpl, cnt_succ hlt, hdd]
              rfl
            have hp0 : ¬ ((p : Int) < 0) := by omega
            have hwp : IntKind.i64.wrap ((p : Int) + 1) = (p : Int) + 1 := by rw [IntKind.wrap_i64]; omega
            clear hpp hpl hdd
            go_wp2_with fail
            go_meet
            exact ⟨p + 1, by go_num, hlt, HGn.out, T6.out⟩
    case rest =>
      clear T3 HG hfk hK
      obtain ⟨n, rfl, hn, hnx, hT⟩ := hcut
      have T6 := Lib.hid hT
      have HNX := Lib.hid hnx
      clear hT hnx
      obtain ⟨w6, rfl⟩ : ∃ w6, w6 = wc := ⟨_, rfl⟩
      have hat := HY.out.at_.kept (B := []) (Chg.of_below T6.out.below) (fun _ _ => List.not_mem_nil)
      obtain ⟨nn, hph⟩ := hat.head
      have hc0 : w6.cell? ⟨l.p, 0, none⟩ = some l.lv := cell_of hph 0
      obtain ⟨lad, lcap, hlv, k1, k2, lhad⟩ := row_form hat.l
      rw [hlv] at hc0
      have hn1 : (n : Int) ≤ (T.l.length : Int) := by omega
      have hn0 : (0 : Int) ≤ (n : Int) := Int.natCast_nonneg _
      have hn2 : n ≤ lcap := by omega
      have hn3 : (n : Int) ≤ (lcap : Int) := by omega
      have HL := Lib.hid hlv
      have HLH := Lib.hid lhad
      clear hat hph hlv lhad
      go_upto_region 12 with fail
      go_cut [52, 53, 54] (fun a b c wx => ∃ sad scap, a = .slice sad (T.l.length - n) scap ∧ b = .int .i64 ((T.l.length - n : Nat) : Int) ∧ c = .int .i64 0 ∧ (n < T.l.length → sad = some ⟨vb l.lv, n * 9, none⟩) ∧ T.l.length - n ≤ scap ∧ wx = w6)
      case first =>
        by_cases h0 : T.l.length = 0
        · have hn4 : n = 0 := by omega
          subst hn4
          rw [h0] at hc0
          rcases lad with _ | lad
          all_goals
            go_wp2_with fail
            go_meet
            rw [h0]
            exact ⟨_, _, rfl, rfl, rfl, fun h => absurd h (Nat.lt_irrefl _), Nat.zero_le _, rfl⟩
        · have had := HLH.out (by omega)
          obtain ⟨lg, Hlg⟩ : ∃ g, Hid (g = vb l.lv) := ⟨_, Lib.hid rfl⟩
          rw [had, ← Hlg.out] at hc0
          by_cases hcn : lcap = n
          · have hnl : n = T.l.length := by omega
            go_wp2_with fail
            go_meet
            rw [show T.l.length - n = 0 by omega]
            exact ⟨_, _, rfl, rfl, rfl, fun h => absurd h (by omega), Nat.zero_le _, rfl⟩
          · have hcn2 : ¬ n = lcap := fun e => hcn e.symm
            go_wp2_with fail
            go_meet
            exact ⟨_, _, rfl, rfl, rfl, fun _ => by rw [Hlg.out], by omega, rfl⟩
      case rest =>
        obtain ⟨sad, scap, rfl, rfl, rfl, hsad, hscap, rfl⟩ := hcut
        obtain ⟨N, HN⟩ : ∃ N, Hid (N = T.l.length - n) := ⟨_, Lib.hid rfl⟩
        have hN : n + N = T.l.length := by have := HN.out; omega
        rw [← HN.out] at hscap ⊢
        have HSAD := Lib.hid hsad
        clear hc0 hsad
        go_wp2_with fail
        go_loopw [54] (fun j wr => ∃ q : Nat, j = .int .i64 q ∧ q ≤ N ∧ cnt T.l (n + q) = cnt T.l n ∧ Bx W [k, nilV, nilV, nilV] wr) (fun j _ => N - (intOf j).toNat)
        case atStart => exact ⟨0, rfl, Nat.zero_le _, rfl, T6.out⟩
        case round =>
          obtain ⟨q, rfl, hqN, hcq, hT⟩ := hrel
          have TT := Lib.hid hT
          have HCQ := Lib.hid hcq
          clear hT hcq
          by_cases hq : q < N
          · have hsd := HSAD.out (by omega)
            subst hsd
            have hlt : n + q < T.l.length := by omega
            have hat := HY.out.at_.kept (B := []) (Chg.of_below TT.out.below) (fun _ _ => List.not_mem_nil)
            have hrow := hat.l
            rw [HL.out, HLH.out (by omega)] at hrow
            obtain ⟨en, Hen⟩ : ∃ en, Hid (T.l[n + q] = en) := ⟨_, Lib.hid rfl⟩
            obtain ⟨x0, x1, x2, x3, y0, y1, y2, y3, yd⟩ := ent_nine hrow hlt Hen.out
            rw [show (n + q) * 9 = n * 9 + q * 9 by omega] at x0 x1 x2 x3 y0 y1 y2 y3 yd
            obtain ⟨lg, Hlg⟩ : ∃ g, Hid (g = vb l.lv) := ⟨_, Lib.hid rfl⟩
            rw [← Hlg.out] at x0 x1 x2 x3 y0 y1 y2 y3 yd ⊢
            have hq0 : (0 : Int) ≤ (q : Int) := Int.natCast_nonneg _
            have hq1 : (q : Int) < (N : Int) := by omega
            have hwq : IntKind.i64.wrap ((q : Int) + 1) = (q : Int) + 1 := by rw [IntKind.wrap_i64]; omega
            have HLT := Lib.hid hlt
            clear hat hrow
            cases hd : en.dead with
            | true =>
              rw [hd] at yd
              have HCQ2 : Hid (cnt T.l (n + (q + 1)) = cnt T.l n) := by
                show _ = _
                rw [← Nat.add_assoc, cnt_succ HLT.out, HCQ.out, Hen.out, hd]
                rfl
              have T7 : Hid (∀ O, Bx W [k, nilV, nilV, nilV] (wr.alloc O)) := fun O => TT.out.step ((Below.refl _ _).alloc (Nat.le_refl _) O)
              clear hd
              go_wp2_with fail
              go_roundw
              case rel => exact ⟨q + 1, by go_num, by omega, HCQ2.out, T7.out _⟩
              case measure => simp [intOf]; omega
            | false =>
              rw [hd] at yd
              have HGn : Hid (nextS s o k = (en.key, en.val, 0)) := by
                show _ = _
                rw [HNX.out]
                unfold nextAt
                rw [← HCQ.out, kvs_at HLT.out (by rw [Hen.out]; exact hd), Hen.out]
              clear hd
              obtain ⟨uk, Huk⟩ : ∃ u, Hid (u = en.key) := ⟨_, Lib.hid rfl⟩
              obtain ⟨uv, Huv⟩ : ∃ u, Hid (u = en.val) := ⟨_, Lib.hid rfl⟩
              rw [← Huk.out] at x0 x1 x2 x3 HGn
              rw [← Huv.out] at y0 y1 y2 y3 HGn
              go_upto_region 16 with fail
              obtain ⟨w8, Hw8⟩ : ∃ w8, Hid (w8 = wr.alloc (.cells #[.int .i64 uk.k, .int .u64 uk.n, .string uk.s, .int .i64 uk.o, .int .i64 uv.k, .int .u64 uv.n, .string uv.s, .int .i64 uv.o, .bool false] 82)) := ⟨_, Lib.hid rfl⟩
              rw [← Hw8.out]
              have B8 : w8.heap[wr.heap.size]? = some (.cells #[.int .i64 uk.k, .int .u64 uk.n, .string uk.s, .int .i64 uk.o, .int .i64 uv.k, .int .u64 uv.n, .string uv.s, .int .i64 uv.o, .bool false] 82 (0, 0)) := by
                rw [Hw8.out]; exact heap_alloc_new _ _
              have T8 : Hid (Bx W [k, nilV, nilV, nilV] w8) := by
                show Bx _ _ _
                rw [Hw8.out]
                exact TT.out.step ((Below.refl _ _).alloc (Nat.le_refl _) _)
              have hbxl : W.heap.size + 4 ≤ wr.heap.size := TT.out.size
              obtain ⟨bx, Hbx⟩ : ∃ bx, Hid (bx = wr.heap.size) := ⟨_, Lib.hid rfl⟩
              rw [← Hbx.out] at B8 hbxl ⊢
              have m0 : w8.cell? ⟨bx, 0, none⟩ = some (.int .i64 uk.k) := cell_of B8 0
              have m1 : w8.cell? ⟨bx, 1, none⟩ = some (.int .u64 uk.n) := cell_of B8 1
              have m2 : w8.cell? ⟨bx, 2, none⟩ = some (.string uk.s) := cell_of B8 2
              have m3 : w8.cell? ⟨bx, 3, none⟩ = some (.int .i64 uk.o) := cell_of B8 3
              have m4 : w8.cell? ⟨bx, 4, none⟩ = some (.int .i64 uv.k) := cell_of B8 4
              have m5 : w8.cell? ⟨bx, 5, none⟩ = some (.int .u64 uv.n) := cell_of B8 5
              have m6 : w8.cell? ⟨bx, 6, none⟩ = some (.string uv.s) := cell_of B8 6
              have m7 : w8.cell? ⟨bx, 7, none⟩ = some (.int .i64 uv.o) := cell_of B8 7
              have z3 : ¬ (bx = W.heap.size + 1) := by omega
              have z6 : ¬ (W.heap.size + 1 = bx) := by omega
              clear x0 x1 x2 x3 y0 y1 y2 y3 yd B8
              obtain ⟨a0, a1, a2, a3, af⟩ := T8.out.cell 1 rfl (W.heap.size + 1) rfl
              obtain ⟨b0, b1, b2, b3, bf⟩ := T8.out.cell 2 rfl (W.heap.size + 1 + 1) rfl
              obtain ⟨d0, d1, d2, d3, df⟩ := T8.out.cell 3 rfl (W.heap.size + 1 + 1 + 1) rfl
              have U2 := Lib.hid ((T8.out.put 1 (by simp) uk).put 2 (by simp) uv)
              obtain ⟨r0, r1, r2, r3, -⟩ := U2.out.cell 1 rfl (W.heap.size + 1) rfl
              obtain ⟨s0, s1, s2, s3, -⟩ := U2.out.cell 2 rfl (W.heap.size + 1 + 1) rfl
              have U3 := Lib.hid (U2.out.step (Below.drew (Below.refl _ _)))
              go_region_law (fail)
              all_goals
                go_wp2_with fail
                rw [put4_eq, put4_eq]
                exact bodyPost_ret (v := .tuple #[uk.v, uv.v, .int .i64 0]) (by simp [results, Try.results22, go_sem, Act.put, Val.out, r0, r1, r2, r3, s0, s1, s2, s3]) rfl ⟨by rw [HGn.out], U3.out.below⟩
          · have hqe : q = N := by omega
            have HGn : Hid (nextS s o k = (nilV, nilV, 0)) := by
              show _ = _
              rw [HNX.out]
              unfold nextAt
              rw [← HCQ.out, hqe, hN, cnt_all]
            have hq2 : ¬ ((q : Int) < (N : Int)) := by omega
            subst hqe
            obtain ⟨a0, a1, a2, a3, af⟩ := TT.out.cell 1 rfl (W.heap.size + 1) rfl
            obtain ⟨b0, b1, b2, b3, bf⟩ := TT.out.cell 2 rfl (W.heap.size + 1 + 1) rfl
            obtain ⟨d0, d1, d2, d3, df⟩ := TT.out.cell 3 rfl (W.heap.size + 1 + 1 + 1) rfl
            have U2 := Lib.hid ((TT.out.put 1 (by simp) nilV).put 2 (by simp) nilV)
            obtain ⟨r0, r1, r2, r3, -⟩ := U2.out.cell 1 rfl (W.heap.size + 1) rfl
            obtain ⟨s0, s1, s2, s3, -⟩ := U2.out.cell 2 rfl (W.heap.size + 1 + 1) rfl
            have U3 := Lib.hid (U2.out.step (Below.drew (Below.refl _ _)))
            go_upto_region 18 with fail
            go_region_law (fail)
            all_goals
              go_wp2_with fail
              rw [put4_eq, put4_eq]
              exact bodyPost_ret (v := .tuple #[nilV.v, nilV.v, .int .i64 0]) (by simp [results, Try.results22, go_sem, Act.put, Val.out, r0, r1, r2, r3, s0, s1, s2, s3]) rfl ⟨by rw [HGn.out], U3.out.below⟩
end Go.Proofs.Ytlihonbmopeemaa.Hp
end
section
namespace Go.Proofs.Ytlihonbmopeemaa.Hp
open Go Go.RowKit Go.Proofs.Ytlihonbmopeemaa.HpLaw Go.Proofs.Ytlihonbmopeemaa.Ans Go.Proofs.Ytlihonbmopeemaa.Num Go.Proofs.Ytlihonbmopeemaa.DigLaw Go.Proofs.Ytlihonbmopeemaa.Fl Go.Proofs.Ytlihonbmopeemaa.Dig Go.Proofs.Ytlihonbmopeemaa.Float
set_option linter.unusedSimpArgs false
attribute [local go_sem ↓] Go.wp_at_zero Go.wp_at_succ

theorem slice_nil (ao : Option Addr) (n c : Nat) (w : World) : (binOp BinOp.eql 58 (.slice ao n c) (.slice none 0 0)).run Try.prog w = .ok (.bool ao.isNone) w := by
  unfold binOp
  go_simp
  rw [run_equal_slice_nil (P := Try.prog) w 58 34 ao n c Try.underlying58]
  rfl
def CloneP (W : World) (l : List Val) (e : Ending) (w' : World) : Prop := ∃ v', e = .returned v' ∧ RowR w' v' l ∧ Below W.heap.size W w' ∧ ∀ b ∈ rown v' l, W.heap.size ≤ b
set_option maxHeartbeats 1000000 in
set_option maxRecDepth 100000 in
theorem clone_walk (v : Value) (l : List Val) (hl : l.length ≤ 1048576) (W : World) (h : RowR W v l) :
    Calls Try.prog 71 #[v] W (CloneP W l) := by
  obtain ⟨ao, cap, rfl, h1, h2⟩ := h.form
  have H := Lib.hid h
  cases ao with
  | none =>
    have hnil : l = [] := by
      cases l with
      | nil => rfl
      | cons a r =>
        obtain ⟨ad, c, hf, _, _, had⟩ := row_form (h.own_ (List.cons_ne_nil _ _))
        have e1 := ((Value.slice.injEq ..).mp hf).1
        rw [had (by simp)] at e1
        cases e1
    have HG : Hid (CloneP W l (.returned (.slice none 0 0)) W) := by
      refine ⟨_, rfl, ?_, Below.refl _ _, fun b hb => absurd (rown_mem hb).1 (fun c => c hnil)⟩
      subst hnil
      exact ⟨⟨none, 0, rfl, Nat.le_refl _, by omega⟩, fun c => absurd rfl c⟩
    clear h
    clear hnil
    have hsn : ∀ w, (binOp BinOp.eql 58 (.slice none l.length cap) (.slice none 0 0)).run Try.prog w = .ok (.bool true) w := fun w => slice_nil none l.length cap w
    go_enter Try.func71, Try.ntmps71
    go_wp2_with fail
    go_ret
    exact HG.out
  | some a =>
    have hsn : ∀ w, (binOp BinOp.eql 58 (.slice (some a) l.length cap) (.slice none 0 0)).run Try.prog w = .ok (.bool false) w := fun w => slice_nil (some a) l.length cap w
    obtain ⟨tj, hj0, hj1, hj2, hj3⟩ := info_parts (show (Try.prog.info? 34).map (fun i => (i.zero, i.size, i.bytes)) = some (some (.agg #[.int .i64 0, .int .u64 0, .string ByteArray.empty, .int .i64 0]), 4, 40) from by kernel_rfl)
    have HROW : Hid (∀ O, 0 < l.length → (W.alloc O).ownsRow 0 34 4 (.slice (some a) l.length cap) l.length (valCells l)) := fun O h0 => (H.out.own_ (List.length_pos_iff.1 h0)).alloc O
    have HF : Hid (∃ ao cap', Value.slice (some a) l.length cap = .slice ao l.length cap') := ⟨_, _, rfl⟩
    have HBL : Hid (∀ O, Below W.heap.size W (W.alloc O)) := fun O => (Below.refl _ _).alloc (Nat.le_refl _) O
    have HX0 : Hid (l.length = 0 → valCells l = []) := fun e => by rw [List.eq_nil_of_length_eq_zero e]; rfl
    clear h
    go_enter Try.func71, Try.ntmps71
    go_wp2_with (at_builtin; go_loud (refine wpList_copy_row _ rfl (.tmp 5) (.tmp 6) 58 rfl 34 tj _ 4 40 Try.underlying58 hj0 hj1 hj2 hj3 rfl (by decide) _ rfl _ rfl l.length (valCells l) HF.out (fun h0 => HROW.out _ h0) HX0.out (by unfold maxLen; omega) (by omega) ?_))
    intro ad cap' w4 g1 g2 g3
    have HG : Hid (CloneP W l (.returned (.slice (some ad) l.length cap')) w4) := by
      have hp := PRow.of g1
      exact ⟨_, rfl, hp.read, (HBL.out _).trans (g2.mono (by first | omega | simp)), fun b hb => by have := g3 b (rown_gown hb); have := (HBL.out (Obj.cells #[] 34)).size; omega⟩
    clear g1 g2 g3 HROW HF HBL HX0
    go_wp2_with fail
    go_ret
    exact HG.out
end Go.Proofs.Ytlihonbmopeemaa.Hp
end
section
namespace Go.Proofs.Ytlihonbmopeemaa.Hp
open Go Go.RowKit Go.Proofs.Ytlihonbmopeemaa.HpLaw Go.Proofs.Ytlihonbmopeemaa.Ans Go.Proofs.Ytlihonbmopeemaa.Num Go.Proofs.Ytlihonbmopeemaa.DigLaw Go.Proofs.Ytlihonbmopeemaa.Fl Go.Proofs.Ytlihonbmopeemaa.Dig Go.Proofs.Ytlihonbmopeemaa.Float
set_option linter.unusedSimpArgs false

theorem PlainS.nil : PlainS [] := fun ob h => by cases h
theorem PlainS.snoc {s : List Ob} (h : PlainS s) {x : Ob} (hx : x.kind ≠ 5 → x.kv = [] ∧ x.mt.k = 0) : PlainS (s ++ [x]) := by
  intro ob hob
  rcases List.mem_append.1 hob with c | c
  · exact h ob c
  · rw [List.mem_singleton.1 c]; exact hx
theorem PlainS.set {s : List Ob} (h : PlainS s) (i : Nat) {x : Ob} (hx : x.kind ≠ 5 → x.kv = [] ∧ x.mt.k = 0) : PlainS (s.set i x) := by
  intro ob hob
  rcases List.mem_or_eq_of_mem_set hob with c | rfl
  · exact h ob c
  · exact hx
theorem PlainS.at_ {s : List Ob} (h : PlainS s) {o : Int} {ob : Ob} (ho : obAt s o = some ob) : ob.kind ≠ 5 → ob.kv = [] ∧ ob.mt.k = 0 := by
  obtain ⟨i, _, hi⟩ := obAt_some ho
  exact h ob (List.mem_of_getElem? hi)
theorem actS_plain {s : List Ob} {limit : Int} (x : ActV) (h : PlainS s) : PlainS (actS s limit x) := by
  unfold actS
  split
  · unfold tableR
    split
    · exact h.snoc fun e => absurd rfl e
    · exact h
  · split
    · unfold setS
      cases ho : obAt s x.o with
      | none => exact h
      | some ob =>
        simp only
        split
        · rename_i h5
          cases keyV x.k with
          | none => exact h
          | some k' =>
            simp only
            split
            · exact h.set _ fun e => absurd h5 e
            · cases lookKV ob.kv k' with
              | some u => exact h.set _ fun e => absurd h5 e
              | none =>
                simp only
                split
                · exact h.set _ fun e => absurd h5 e
                · exact h
        · exact h
    · split
      · unfold setMetaS
        cases ho : obAt s x.o with
        | none => exact h
        | some ob =>
          simp only
          split
          · rename_i h5
            split
            · exact h.set _ fun e => absurd h5 e
            · exact h
          · exact h
      · split
        · unfold makeS
          split
          · exact h
          · split
            · exact h.snoc fun _ => ⟨rfl, rfl⟩
            · exact h
        · split
          · unfold setSlotS
            cases ho : obAt s x.o with
            | none => exact h
            | some ob =>
              simp only
              split
              · exact h.set _ (show ob.kind ≠ 5 → ob.kv = [] ∧ ob.mt.k = 0 from h.at_ ho)
              · exact h
          · split
            · unfold markS
              cases ho : obAt s x.o with
              | none => exact h
              | some ob =>
                simp only
                split
                · exact h
                · exact h.set _ (show ob.kind ≠ 5 → ob.kv = [] ∧ ob.mt.k = 0 from h.at_ ho)
            · exact h
end Go.Proofs.Ytlihonbmopeemaa.Hp
end
section
namespace Go.Proofs.Ytlihonbmopeemaa.Hp
open Go Go.RowKit Go.Proofs.Ytlihonbmopeemaa.HpLaw Go.Proofs.Ytlihonbmopeemaa.Ans Go.Proofs.Ytlihonbmopeemaa.Num Go.Proofs.Ytlihonbmopeemaa.DigLaw Go.Proofs.Ytlihonbmopeemaa.Fl Go.Proofs.Ytlihonbmopeemaa.Dig Go.Proofs.Ytlihonbmopeemaa.Float
set_option linter.unusedSimpArgs false
attribute [local go_sem ↓] Go.wp_at_zero Go.wp_at_succ

attribute [local go_sem high] eqV
set_option maxHeartbeats 2000000 in
set_option maxRecDepth 100000 in
theorem same_walk (ob : Ob) (a b : RLoc) (hk : ob.kv.length ≤ 1048576) (hs : ob.slots.length ≤ 1048576) (W : World) (ha : RObjAt W (ob, a)) (hb : RObjAt W (ob, b)) :
    Calls Try.prog 47 #[rV (ob, a), rV (ob, b)] W (BlP W true) := by
  obtain ⟨ka, kc, va, vc, sa, sc, ekv, evv, esv, -⟩ := ha.forms
  obtain ⟨ka', kc', va', vc', sa', sc', ekv', evv', esv', -⟩ := hb.forms
  unfold rV
  rw [ekv, evv, esv, ekv', evv', esv']
  have HA := Lib.hid ha
  have HB := Lib.hid hb
  have HE := Lib.hid (And.intro (And.intro ekv (And.intro evv esv)) (And.intro ekv' (And.intro evv' esv')))
  clear ha hb ekv evv esv ekv' evv' esv'
  have hmt : sameV ⟨ob.mt.k, ob.mt.n, ob.mt.s, ob.mt.o⟩ ⟨ob.mt.k, ob.mt.n, ob.mt.s, ob.mt.o⟩ = true := sameV_self _
  go_enter Try.func47, Try.ntmps47
  go_upto_if 68 with fail
  clear hmt
  obtain ⟨w1, Hw1⟩ : ∃ w1, Hid (w1 = (W.alloc (.cells #[.int .i64 ob.kind, .slice ka ob.kv.length kc, .slice va ob.kv.length vc, .int .i64 ob.mt.k, .int .u64 ob.mt.n, .string ob.mt.s, .int .i64 ob.mt.o, .int .i64 ob.a, .int .i64 ob.b, .slice sa ob.slots.length sc] 60)).alloc
    (.cells #[.int .i64 ob.kind, .slice ka' ob.kv.length kc', .slice va' ob.kv.length vc', .int .i64 ob.mt.k, .int .u64 ob.mt.n, .string ob.mt.s, .int .i64 ob.mt.o, .int .i64 ob.a, .int .i64 ob.b, .slice sa' ob.slots.length sc'] 60)) := ⟨_, Lib.hid rfl⟩
  rw [← Hw1.out]
  have O1 : Hid (OBox W W.heap.size (ob, a) w1 ∧ OBox W (W.heap.size + 1) (ob, b) w1) := by
    show _ ∧ _
    have e1 := box_new W (ob, a)
    have e2 := box_new (W.alloc (.cells (rCells (ob, a)).toArray 60)) (ob, b)
    have e3 := e1.step e2.below
    have e4 : OBox W (W.heap.size + 1) (ob, b) ((W.alloc (.cells (rCells (ob, a)).toArray 60)).alloc (.cells (rCells (ob, b)).toArray 60)) := by
      have hs : (W.alloc (.cells (rCells (ob, a)).toArray 60)).heap.size = W.heap.size + 1 := by simp
      refine ⟨e3.below, by omega, ?_⟩
      rw [← hs]
      exact e2.at_
    unfold rCells at e3 e4
    rw [HE.out.1.1, HE.out.1.2.1, HE.out.1.2.2, HE.out.2.1, HE.out.2.2.1, HE.out.2.2.2] at e3 e4
    rw [Hw1.out]
    exact ⟨e3, e4⟩
  clear Hw1
  go_upto_block 0 with fail
  go_cut [5] (fun _ wx => OBox W W.heap.size (ob, a) wx ∧ OBox W (W.heap.size + 1) (ob, b) wx)
  case first =>
    go_wp2_with fail
    go_loopw [5] (fun t wr => ∃ j : Nat, j ≤ ob.kv.length ∧ t = .int .i64 j ∧ OBox W W.heap.size (ob, a) wr ∧ OBox W (W.heap.size + 1) (ob, b) wr) (fun t _ => ob.kv.length - (intOf t).toNat)
    case atStart => exact ⟨0, Nat.zero_le _, rfl, O1.out⟩
    case round =>
      obtain ⟨j, hj, rfl, hO⟩ := hrel
      have OO := Lib.hid hO
      obtain ⟨-, n1, n2, -, -, -, -, -, -, n9, -, -⟩ := hO.1.cell
      obtain ⟨-, m1, m2, -, -, -, -, -, -, m9, -, -⟩ := hO.2.cell
      rw [HE.out.1.1] at n1
      rw [HE.out.1.2.1] at n2
      rw [HE.out.2.1] at m1
      rw [HE.out.2.2.1] at m2
      clear hO n9 m9
      by_cases hjn : j < ob.kv.length
      · have hjk : j < (keysOf ob).length := by rw [keysOf_len]; exact hjn
        have hjv : j < (valsOf ob).length := by rw [valsOf_len]; exact hjn
        have hA := HA.out.kept (B := []) (Chg.of_below OO.out.1.below) (fun _ _ => List.not_mem_nil)
        have hB := HB.out.kept (B := []) (Chg.of_below OO.out.1.below) (fun _ _ => List.not_mem_nil)
        obtain ⟨x0, x1, x2, x3, c1, f1⟩ := hA.keys.cell hjk
        obtain ⟨y0, y1, y2, y3, c2, f2⟩ := hB.keys.cell hjk
        obtain ⟨p0, p1, p2, p3, c3, f3⟩ := hA.vals.cell hjv
        obtain ⟨q0, q1, q2, q3, c4, f4⟩ := hB.vals.cell hjv
        have h1 : ka = some ⟨vb a.kv, 0, none⟩ := by
          have := HE.out.1.1
          rw [f1] at this
          exact (((Value.slice.injEq ..).mp this).1).symm
        have h2 : ka' = some ⟨vb b.kv, 0, none⟩ := by
          have := HE.out.2.1
          rw [f2] at this
          exact (((Value.slice.injEq ..).mp this).1).symm
        have h3 : va = some ⟨vb a.vv, 0, none⟩ := by
          have := HE.out.1.2.1
          rw [f3] at this
          exact (((Value.slice.injEq ..).mp this).1).symm
        have h4 : va' = some ⟨vb b.vv, 0, none⟩ := by
          have := HE.out.2.2.1
          rw [f4] at this
          exact (((Value.slice.injEq ..).mp this).1).symm
        obtain ⟨uk, Huk⟩ : ∃ u, Hid ((keysOf ob)[j] = u) := ⟨_, Lib.hid rfl⟩
        obtain ⟨uv, Huv⟩ : ∃ u, Hid ((valsOf ob)[j] = u) := ⟨_, Lib.hid rfl⟩
        have x0' : wr.cell? ⟨vb a.kv, j * 4, none⟩ = some (.int .i64 uk.k) := by rw [← Huk.out]; exact x0
        have x1' : wr.cell? ⟨vb a.kv, j * 4 + 1, none⟩ = some (.int .u64 uk.n) := by rw [← Huk.out]; exact x1
        have x2' : wr.cell? ⟨vb a.kv, j * 4 + 2, none⟩ = some (.string uk.s) := by rw [← Huk.out]; exact x2
        have x3' : wr.cell? ⟨vb a.kv, j * 4 + 3, none⟩ = some (.int .i64 uk.o) := by rw [← Huk.out]; exact x3
        have y0' : wr.cell? ⟨vb b.kv, j * 4, none⟩ = some (.int .i64 uk.k) := by rw [← Huk.out]; exact y0
        have y1' : wr.cell? ⟨vb b.kv, j * 4 + 1, none⟩ = some (.int .u64 uk.n) := by rw [← Huk.out]; exact y1
        have y2' : wr.cell? ⟨vb b.kv, j * 4 + 2, none⟩ = some (.string uk.s) := by rw [← Huk.out]; exact y2
        have y3' : wr.cell? ⟨vb b.kv, j * 4 + 3, none⟩ = some (.int .i64 uk.o) := by rw [← Huk.out]; exact y3
        have p0' : wr.cell? ⟨vb a.vv, j * 4, none⟩ = some (.int .i64 uv.k) := by rw [← Huv.out]; exact p0
        have p1' : wr.cell? ⟨vb a.vv, j * 4 + 1, none⟩ = some (.int .u64 uv.n) := by rw [← Huv.out]; exact p1
        have p2' : wr.cell? ⟨vb a.vv, j * 4 + 2, none⟩ = some (.string uv.s) := by rw [← Huv.out]; exact p2
        have p3' : wr.cell? ⟨vb a.vv, j * 4 + 3, none⟩ = some (.int .i64 uv.o) := by rw [← Huv.out]; exact p3
        have q0' : wr.cell? ⟨vb b.vv, j * 4, none⟩ = some (.int .i64 uv.k) := by rw [← Huv.out]; exact q0
        have q1' : wr.cell? ⟨vb b.vv, j * 4 + 1, none⟩ = some (.int .u64 uv.n) := by rw [← Huv.out]; exact q1
        have q2' : wr.cell? ⟨vb b.vv, j * 4 + 2, none⟩ = some (.string uv.s) := by rw [← Huv.out]; exact q2
        have q3' : wr.cell? ⟨vb b.vv, j * 4 + 3, none⟩ = some (.int .i64 uv.o) := by rw [← Huv.out]; exact q3
        clear x0 x1 x2 x3 y0 y1 y2 y3 p0 p1 p2 p3 q0 q1 q2 q3 f1 f2 f3 f4 hA hB
        subst h1 h2 h3 h4
        have sk : sameV ⟨uk.k, uk.n, uk.s, uk.o⟩ ⟨uk.k, uk.n, uk.s, uk.o⟩ = true := sameV_self _
        have sv : sameV ⟨uv.k, uv.n, uv.s, uv.o⟩ ⟨uv.k, uv.n, uv.s, uv.o⟩ = true := sameV_self _
        have hj0 : (0 : Int) ≤ (j : Int) := Int.natCast_nonneg _
        have hj1 : (j : Int) < (ob.kv.length : Int) := by omega
        have hwj : IntKind.i64.wrap ((j : Int) + 1) = (j : Int) + 1 := by rw [IntKind.wrap_i64]; omega
        go_wp2_with fail
        go_quiet (fail)
        go_wp2_with fail
        go_roundw
        case rel => exact ⟨j + 1, by omega, by go_num, OO.out.1.step (Below.drewN (Below.refl _ _) _), OO.out.2.step (Below.drewN (Below.refl _ _) _)⟩
        case measure => simp [intOf]; omega
      · have hje : j = ob.kv.length := by omega
        subst hje
        go_wp2_with fail
        go_meet
        exact OO.out
  case rest =>
    clear O1
    have O1 := Lib.hid hcut
    clear hcut
    go_wp2_with fail
    go_loopw [6] (fun t wr => ∃ j : Nat, j ≤ ob.slots.length ∧ t = .int .i64 j ∧ OBox W W.heap.size (ob, a) wr ∧ OBox W (W.heap.size + 1) (ob, b) wr) (fun t _ => ob.slots.length - (intOf t).toNat)
    case atStart => exact ⟨0, Nat.zero_le _, rfl, O1.out⟩
    case round =>
      obtain ⟨j, hj, rfl, hO⟩ := hrel
      have OO := Lib.hid hO
      obtain ⟨-, -, -, -, -, -, -, -, -, n9, -, -⟩ := hO.1.cell
      obtain ⟨-, -, -, -, -, -, -, -, -, m9, -, -⟩ := hO.2.cell
      rw [HE.out.1.2.2] at n9
      rw [HE.out.2.2.2] at m9
      clear hO
      by_cases hjn : j < ob.slots.length
      · have hA := HA.out.kept (B := []) (Chg.of_below OO.out.1.below) (fun _ _ => List.not_mem_nil)
        have hB := HB.out.kept (B := []) (Chg.of_below OO.out.1.below) (fun _ _ => List.not_mem_nil)
        obtain ⟨x0, x1, x2, x3, c1, f1⟩ := hA.slots.cell hjn
        obtain ⟨y0, y1, y2, y3, c2, f2⟩ := hB.slots.cell hjn
        have h1 : sa = some ⟨vb a.sv, 0, none⟩ := by
          have := HE.out.1.2.2
          rw [f1] at this
          exact (((Value.slice.injEq ..).mp this).1).symm
        have h2 : sa' = some ⟨vb b.sv, 0, none⟩ := by
          have := HE.out.2.2.2
          rw [f2] at this
          exact (((Value.slice.injEq ..).mp this).1).symm
        obtain ⟨uk, Huk⟩ : ∃ u, Hid (ob.slots[j] = u) := ⟨_, Lib.hid rfl⟩
        have x0' : wr.cell? ⟨vb a.sv, j * 4, none⟩ = some (.int .i64 uk.k) := by rw [← Huk.out]; exact x0
        have x1' : wr.cell? ⟨vb a.sv, j * 4 + 1, none⟩ = some (.int .u64 uk.n) := by rw [← Huk.out]; exact x1
        have x2' : wr.cell? ⟨vb a.sv, j * 4 + 2, none⟩ = some (.string uk.s) := by rw [← Huk.out]; exact x2
        have x3' : wr.cell? ⟨vb a.sv, j * 4 + 3, none⟩ = some (.int .i64 uk.o) := by rw [← Huk.out]; exact x3
        have y0' : wr.cell? ⟨vb b.sv, j * 4, none⟩ = some (.int .i64 uk.k) := by rw [← Huk.out]; exact y0
        have y1' : wr.cell? ⟨vb b.sv, j * 4 + 1, none⟩ = some (.int .u64 uk.n) := by rw [← Huk.out]; exact y1
        have y2' : wr.cell? ⟨vb b.sv, j * 4 + 2, none⟩ = some (.string uk.s) := by rw [← Huk.out]; exact y2
        have y3' : wr.cell? ⟨vb b.sv, j * 4 + 3, none⟩ = some (.int .i64 uk.o) := by rw [← Huk.out]; exact y3
        clear x0 x1 x2 x3 y0 y1 y2 y3 f1 f2 hA hB
        subst h1 h2
        have sk : sameV ⟨uk.k, uk.n, uk.s, uk.o⟩ ⟨uk.k, uk.n, uk.s, uk.o⟩ = true := sameV_self _
        have hj0 : (0 : Int) ≤ (j : Int) := Int.natCast_nonneg _
        have hj1 : (j : Int) < (ob.slots.length : Int) := by omega
        have hwj : IntKind.i64.wrap ((j : Int) + 1) = (j : Int) + 1 := by rw [IntKind.wrap_i64]; omega
        go_wp2_with fail
        go_quiet (fail)
        go_wp2_with fail
        go_roundw
        case rel => exact ⟨j + 1, by omega, by go_num, OO.out.1.step (Below.drewN (Below.refl _ _) _), OO.out.2.step (Below.drewN (Below.refl _ _) _)⟩
        case measure => simp [intOf]; omega
      · have hje : j = ob.slots.length := by omega
        subst hje
        go_wp2_with fail
        go_ret
        exact ⟨rfl, OO.out.1.below⟩
end Go.Proofs.Ytlihonbmopeemaa.Hp
end
section
namespace Go.Proofs.Ytlihonbmopeemaa.Hp
open Go Go.RowKit Go.Proofs.Ytlihonbmopeemaa.HpLaw Go.Proofs.Ytlihonbmopeemaa.Ans Go.Proofs.Ytlihonbmopeemaa.Num Go.Proofs.Ytlihonbmopeemaa.DigLaw Go.Proofs.Ytlihonbmopeemaa.Fl Go.Proofs.Ytlihonbmopeemaa.Dig Go.Proofs.Ytlihonbmopeemaa.Float
set_option linter.unusedSimpArgs false

/-- the box of an object, and its two rows, which are newer than world V -/
structure Rows2 (V : World) (bx : Nat) (ob : Ob) (sv ck cv kv : Value) (ks : List Val) (vv : Value) (vs : List Val) (w : World) : Prop where
  chg : Chg [bx] V w
  bxn : bx < V.heap.size
  box : w.heap[bx]? = some (.cells (rCells (ob, ⟨ck, cv, sv⟩)).toArray 60 (0, 0))
  keys : w.ownsRow 0 34 4 kv ks.length (valCells ks)
  vals : w.ownsRow 0 34 4 vv vs.length (valCells vs)
  kn : ∀ b ∈ own kv, V.heap.size ≤ b ∧ b ∉ own vv
  vn : ∀ b ∈ own vv, V.heap.size ≤ b
section
variable {V : World} {bx : Nat} {ob : Ob} {sv ck cv kv vv : Value} {ks vs : List Val} {w : World}
theorem Rows2.start (hbx : bx < V.heap.size) (h : V.heap[bx]? = some (.cells (rCells (ob, ⟨.slice none 0 0, .slice none 0 0, sv⟩)).toArray 60 (0, 0))) :
    Rows2 V bx ob sv (.slice none 0 0) (.slice none 0 0) (.slice none 0 0) [] (.slice none 0 0) [] V :=
  ⟨Chg.refl _ _, hbx, h, World.ownsRow_nil _ _ _ _, World.ownsRow_nil _ _ _ _, (fun b hb => by cases hb), (fun b hb => by cases hb)⟩
theorem Rows2.bxl (h : Rows2 V bx ob sv ck cv kv ks vv vs w) : bx < w.heap.size := (Array.getElem?_eq_some_iff.1 h.box).1
theorem Rows2.klt (h : Rows2 V bx ob sv ck cv kv ks vv vs w) : ∀ b ∈ own kv, b < w.heap.size := fun b hb => (h.keys.lt b (Option.mem_toList.1 hb)).2
theorem Rows2.vlt (h : Rows2 V bx ob sv ck cv kv ks vv vs w) : ∀ b ∈ own vv, b < w.heap.size := fun b hb => (h.vals.lt b (Option.mem_toList.1 hb)).2
theorem Rows2.step (h : Rows2 V bx ob sv ck cv kv ks vv vs w) {w' : World} (hb : Below w.heap.size w w') : Rows2 V bx ob sv ck cv kv ks vv vs w' :=
  ⟨h.chg.trans (Chg.of_below (B := []) hb) (fun x hx _ => by cases hx), h.bxn, (hb.block _ h.bxl).trans h.box, row_kept h.keys (B := []) (Chg.of_below hb) (fun _ _ => List.not_mem_nil), row_kept h.vals (B := []) (Chg.of_below hb) (fun _ _ => List.not_mem_nil), h.kn, h.vn⟩
theorem Rows2.keys_more {w6 : World} {kv' : Value} {u : Val} (h : Rows2 V bx ob sv ck cv kv ks vv vs w) (k1 : w6.ownsRow 0 34 4 kv' (ks.length + 1) (valCells ks ++ u.cs)) (k2 : Chg (own kv) w w6) (k3 : ∀ b ∈ own kv', b ∈ own kv ∨ w.heap.size ≤ b) :
    Rows2 V bx ob sv ck cv kv' (ks ++ [u]) vv vs w6 := by
  have hl := h.bxl
  have hn := h.bxn
  have hs := h.chg.size
  rw [← valCells_one u, ← valCells_app] at k1
  refine ⟨h.chg.trans k2 (fun x hx hx2 => by have := (h.kn x hx).1; omega), hn, (k2.block _ hl (fun e => by have := (h.kn _ e).1; omega)).trans h.box, by rw [List.length_append]; exact k1, row_kept h.vals k2 (fun b hb e => (h.kn b e).2 hb), fun b hb => ?_, h.vn⟩
  rcases k3 b hb with e | e
  · exact h.kn b e
  · exact ⟨by omega, fun e2 => by have := h.vlt b e2; omega⟩
theorem Rows2.vals_more {w6 : World} {vv' : Value} {u : Val} (h : Rows2 V bx ob sv ck cv kv ks vv vs w) (k1 : w6.ownsRow 0 34 4 vv' (vs.length + 1) (valCells vs ++ u.cs)) (k2 : Chg (own vv) w w6) (k3 : ∀ b ∈ own vv', b ∈ own vv ∨ w.heap.size ≤ b) :
    Rows2 V bx ob sv ck cv kv ks vv' (vs ++ [u]) w6 := by
  have hl := h.bxl
  have hn := h.bxn
  have hs := h.chg.size
  rw [← valCells_one u, ← valCells_app] at k1
  refine ⟨h.chg.trans k2 (fun x hx hx2 => by have := h.vn x hx; omega), hn, (k2.block _ hl (fun e => by have := h.vn _ e; omega)).trans h.box, row_kept h.keys k2 (fun b hb e => (h.kn b hb).2 e), by rw [List.length_append]; exact k1, fun b hb => ⟨(h.kn b hb).1, fun e => ?_⟩, fun b hb => ?_⟩
  · rcases k3 b e with e2 | e2
    · exact (h.kn b hb).2 e2
    · have := h.klt b hb; omega
  · rcases k3 b hb with e2 | e2
    · exact h.vn b e2
    · omega
/-- the rows are stored in the box -/
theorem Rows2.store (h : Rows2 V bx ob sv ck cv kv ks vv vs w) : Rows2 V bx ob sv kv vv kv ks vv vs ((w.setCell ⟨bx, 1, none⟩ kv).setCell ⟨bx, 2, none⟩ vv) := by
  have hn := h.bxn
  have c1 := chg_set w bx 1 kv
  have c2 := chg_set (w.setCell ⟨bx, 1, none⟩ kv) bx 2 vv
  have c := c1.trans c2 (fun x hx _ => hx)
  have b1 : (w.setCell ⟨bx, 1, none⟩ kv).heap[bx]? = some (.cells (rCells (ob, ⟨kv, cv, sv⟩)).toArray 60 (0, 0)) := (setCell_at h.box 1 kv).trans rfl
  exact ⟨h.chg.trans c (fun x hx _ => hx), hn, (setCell_at b1 2 vv).trans rfl, row_kept h.keys c (fun b hb e => by have := (h.kn b hb).1; have := List.mem_singleton.1 e; omega), row_kept h.vals c (fun b hb e => by have := h.vn b hb; have := List.mem_singleton.1 e; omega), h.kn, h.vn⟩
theorem Rows2.cells (h : Rows2 V bx ob sv ck cv kv ks vv vs w) : w.cell? ⟨bx, 1, none⟩ = some ck ∧ w.cell? ⟨bx, 2, none⟩ = some cv ∧ (∀ o, w.frozen? ⟨bx, o, none⟩ = false) ∧ bx < w.heap.size :=
  ⟨cell_of h.box 1, cell_of h.box 2, fun o => frozen_of h.box o, h.bxl⟩
end
/-- beside them the box of a table's entry -/
structure RowsE (V : World) (bx : Nat) (ob : Ob) (sv ck cv kv : Value) (ks : List Val) (vv : Value) (vs : List Val) (be : Nat) (e : Ent) (w : World) : Prop where
  r : Rows2 V bx ob sv ck cv kv ks vv vs w
  ent : w.heap[be]? = some (.cells e.cs.toArray 82 (0, 0))
  ek : be ∉ own kv
  ev : be ∉ own vv
/-- what the region reads -/
def ReadsE (bx : Nat) (kv vv : Value) (be : Nat) (e : Ent) (w : World) : Prop :=
  (w.cell? ⟨bx, 1, none⟩ = some kv ∧ w.cell? ⟨bx, 2, none⟩ = some vv) ∧ w.cell? ⟨be, 0, none⟩ = some (.int .i64 e.key.k) ∧ w.cell? ⟨be, 1, none⟩ = some (.int .u64 e.key.n) ∧ w.cell? ⟨be, 2, none⟩ = some (.string e.key.s) ∧ w.cell? ⟨be, 3, none⟩ = some (.int .i64 e.key.o) ∧
    w.cell? ⟨be, 4, none⟩ = some (.int .i64 e.val.k) ∧ w.cell? ⟨be, 5, none⟩ = some (.int .u64 e.val.n) ∧ w.cell? ⟨be, 6, none⟩ = some (.string e.val.s) ∧ w.cell? ⟨be, 7, none⟩ = some (.int .i64 e.val.o)
section
variable {V : World} {bx : Nat} {ob : Ob} {sv ck cv kv vv : Value} {ks vs : List Val} {be : Nat} {e : Ent} {w : World}
theorem RowsE.el (h : RowsE V bx ob sv ck cv kv ks vv vs be e w) : be < w.heap.size := (Array.getElem?_eq_some_iff.1 h.ent).1
theorem RowsE.start (h : Rows2 V bx ob sv ck cv kv ks vv vs w) {w' : World} (hb : Below w.heap.size w w') (hn : w.heap.size ≤ be) (he : w'.heap[be]? = some (.cells e.cs.toArray 82 (0, 0))) : RowsE V bx ob sv ck cv kv ks vv vs be e w' :=
  ⟨h.step hb, he, fun m => by have := h.klt be m; omega, fun m => by have := h.vlt be m; omega⟩
theorem RowsE.step (h : RowsE V bx ob sv ck cv kv ks vv vs be e w) {w' : World} (hb : Below w.heap.size w w') : RowsE V bx ob sv ck cv kv ks vv vs be e w' :=
  ⟨h.r.step hb, (hb.block _ h.el).trans h.ent, h.ek, h.ev⟩
theorem RowsE.keys_more {w6 : World} {kv' : Value} {u : Val} (h : RowsE V bx ob sv ck cv kv ks vv vs be e w) (k1 : w6.ownsRow 0 34 4 kv' (ks.length + 1) (valCells ks ++ u.cs)) (k2 : Chg (own kv) w w6) (k3 : ∀ b ∈ own kv', b ∈ own kv ∨ w.heap.size ≤ b) :
    RowsE V bx ob sv ck cv kv' (ks ++ [u]) vv vs be e w6 := by
  have hl := h.el
  refine ⟨h.r.keys_more k1 k2 k3, (k2.block _ hl h.ek).trans h.ent, fun m => ?_, h.ev⟩
  rcases k3 be m with d | d
  · exact h.ek d
  · omega
theorem RowsE.vals_more {w6 : World} {vv' : Value} {u : Val} (h : RowsE V bx ob sv ck cv kv ks vv vs be e w) (k1 : w6.ownsRow 0 34 4 vv' (vs.length + 1) (valCells vs ++ u.cs)) (k2 : Chg (own vv) w w6) (k3 : ∀ b ∈ own vv', b ∈ own vv ∨ w.heap.size ≤ b) :
    RowsE V bx ob sv ck cv kv ks vv' (vs ++ [u]) be e w6 := by
  have hl := h.el
  refine ⟨h.r.vals_more k1 k2 k3, (k2.block _ hl h.ev).trans h.ent, h.ek, fun m => ?_⟩
  rcases k3 be m with d | d
  · exact h.ev d
  · omega
/-- a value is laid out behind all -/
theorem RowsE.lay (h : RowsE V bx ob sv ck cv kv ks vv vs be e w) (u : Val) : RowsE V bx ob sv ck cv kv ks vv vs be e (w.alloc (.cells #[.int .i64 u.k, .int .u64 u.n, .string u.s, .int .i64 u.o] 34)) ∧
    (w.alloc (.cells #[.int .i64 u.k, .int .u64 u.n, .string u.s, .int .i64 u.o] 34)).heap[w.heap.size]? = some (.cells #[.int .i64 u.k, .int .u64 u.n, .string u.s, .int .i64 u.o] 34 (0, 0)) ∧ w.heap.size ∉ own kv ∧ w.heap.size ∉ own vv :=
  ⟨h.step ((Below.refl _ _).alloc (Nat.le_refl _) _), heap_alloc_new _ _, fun m => by have := h.r.klt _ m; omega, fun m => by have := h.r.vlt _ m; omega⟩
theorem RowsE.reads (h : RowsE V bx ob sv ck cv kv ks vv vs be e w) : ReadsE bx ck cv be e w :=
  ⟨⟨h.r.cells.1, h.r.cells.2.1⟩, cell_of h.ent 0, cell_of h.ent 1, cell_of h.ent 2, cell_of h.ent 3, cell_of h.ent 4, cell_of h.ent 5, cell_of h.ent 6, cell_of h.ent 7⟩
end
end Go.Proofs.Ytlihonbmopeemaa.Hp
end
