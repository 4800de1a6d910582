/- Texts on HeapC, joined. No conditions but those that each theorem states. -/
import Derived.Test.YtlihonbmopeemaaBdHeapB
import Derived.Deep.RegionLaw
import Derived.OpenShut
import Derived.ProofKit
section
namespace Go.Proofs.Ytlihonbmopeemaa.Hp
open Go Go.RowKit Go.Proofs.Ytlihonbmopeemaa.HpLaw Go.Proofs.Ytlihonbmopeemaa.Ans Go.Proofs.Ytlihonbmopeemaa.Num Go.Proofs.Ytlihonbmopeemaa.DigLaw Go.Proofs.Ytlihonbmopeemaa.Fl Go.Proofs.Ytlihonbmopeemaa.Dig Go.Proofs.Ytlihonbmopeemaa.Float

theorem objCells_put : ∀ (l : List Obj2) (i j : Nat) (vs : List Value) (x y : Obj2), l[i]? = some x → j + vs.length ≤ 9 → oCells y = putL (oCells x) j vs → putL (objCells l) (i * 9 + j) vs = objCells (l.set i y)
  | [], i, j, vs, x, y, h, _, _ => by cases h
  | a :: l, 0, j, vs, x, y, h, hj, he => by
    obtain rfl : a = x := Option.some.inj h
    show putL (oCells a ++ objCells l) (0 * 9 + j) vs = oCells y ++ objCells l
    rw [he, Nat.zero_mul, Nat.zero_add]
    exact putL_head vs (oCells a) (objCells l) j (by rw [oCells_len]; exact hj)
  | a :: l, i + 1, j, vs, x, y, h, hj, he => by
    have e1 : objCells (a :: l) = oCells a ++ objCells l := List.flatMap_cons ..
    have e2 : objCells (a :: l.set i y) = oCells a ++ objCells (l.set i y) := List.flatMap_cons ..
    rw [List.set_cons_succ, e1, e2, ← objCells_put l i j vs x y h hj he, show (i + 1) * 9 + j = (oCells a).length + (i * 9 + j) by rw [oCells_len]; omega, putL_append]
where
  putL_head : ∀ (vs p q : List Value) (j : Nat), j + vs.length ≤ p.length → putL (p ++ q) j vs = putL p j vs ++ q
  | [], p, q, j, _ => rfl
  | v :: r, p, q, j, h => by
    rw [List.length_cons] at h
    unfold putL
    rw [List.set_append_left _ _ (by omega), putL_head r (p.set j v) q (j + 1) (by rw [List.length_set]; omega)]
/-- some of an object's cells turn, and none of its parts -/
theorem HeapAt.putObj {w : World} {hp : Nat} {os : List Obj2} {v : Value} {used limit : Int} (h : HeapAt w hp os v used limit) {i : Nat} {x y : Obj2} (hx : os[i]? = some x) {j : Nat} {vs : List Value} (hj : j + vs.length ≤ 9) (hc : oCells y = putL (oCells x) j vs)
    (ht : y.1.tab = x.1.tab) (hl : y.2 = x.2) (hk : y.1.kind = x.1.kind) (hs : y.1.slots = x.1.slots) :
    HeapAt (w.setCells (vb v) (i * 9 + j) vs) hp (os.set i y) v used limit ∧ Chg (own v) w (w.setCells (vb v) (i * 9 + j) vs) ∧ hfoot hp v (os.set i y) = hfoot hp v os := by
  have hil : i < os.length := (List.getElem?_eq_some_iff.1 hx).1
  obtain ⟨ad, cap, hv, c1, c2, c3⟩ := row_form h.row
  rw [c3 (by omega)] at hv
  have hrow := h.row
  rw [hv] at hrow
  obtain ⟨r1, r2⟩ := row_put vs (i * 9 + j) hrow
  rw [objCells_put os i j vs x y hx hj hc] at r1
  have hown : own v = [vb v] := by rw [hv]; rfl
  have hC : Chg (own v) w (w.setCells (vb v) (i * 9 + j) vs) := by rw [hown]; exact r2
  have hft : ft y = ft x := by unfold ft tft; rw [ht, hl]
  have hget : ∀ (q : Nat) (z : Obj2), (os.set i y)[q]? = some z → ∃ z', os[q]? = some z' ∧ ft z = ft z' ∧ (ObjAt (w.setCells (vb v) (i * 9 + j) vs) z' → ObjAt (w.setCells (vb v) (i * 9 + j) vs) z) := by
    intro q z hz
    rw [List.getElem?_set] at hz
    by_cases c : i = q
    · rw [if_pos c, if_pos (c ▸ hil)] at hz
      obtain rfl := Option.some.inj hz
      refine ⟨x, c ▸ hx, hft, fun ho => ⟨?_, ?_, ?_, ?_, ?_⟩⟩
      · rw [ht, hl]; exact ho.tab
      · rw [hl, hs]; exact ho.slots
      · intro b hb
        have hb' : b ∈ tft x := by unfold tft at hb ⊢; rw [ht, hl] at hb; exact hb
        rw [hl]; exact ho.apart b hb'
      · rw [ht, hk]; exact ho.kind
      · rw [hk, hs]; exact ho.plain
    · rw [if_neg c] at hz
      exact ⟨z, hz, rfl, id⟩
  have hsep : ∀ (q : Nat) (z : Obj2), os[q]? = some z → ObjAt (w.setCells (vb v) (i * 9 + j) vs) z := fun q z hz => (h.objs q z hz).kept hC (fun b hb => (h.sepH q z hz b hb).2)
  refine ⟨⟨?_, ?_, ?_, h.hpv, ?_, ?_⟩, hC, ?_⟩
  · rw [hC.block hp (h.lt hp (hfoot_hp ..)) h.hpv]; exact h.head
  · rw [List.length_set]
    have r1' := r1
    rw [← hv] at r1'
    exact r1'
  · intro q z hz
    obtain ⟨z', h1, _, h3⟩ := hget q z hz
    exact h3 (hsep q z' h1)
  · intro q z hz b hb
    obtain ⟨z', h1, h2, _⟩ := hget q z hz
    exact h.sepH q z' h1 b (h2 ▸ hb)
  · intro q r z u hz hu hqr b hb hbu
    obtain ⟨z', h1, h2, _⟩ := hget q z hz
    obtain ⟨u', k1, k2, _⟩ := hget r u hu
    exact h.sep q r z' u' h1 k1 hqr b (h2 ▸ hb) (k2 ▸ hbu)
  · have hfm : ∀ (l : List Obj2) (q : Nat), l[q]? = some x → (l.set q y).flatMap ft = l.flatMap ft := by
      intro l
      induction l with
      | nil => intro q hq; cases hq
      | cons a l ih =>
        intro q hq
        cases q with
        | zero =>
          obtain rfl : a = x := Option.some.inj hq
          rw [List.set_cons_zero, List.flatMap_cons, List.flatMap_cons, hft]
        | succ q => rw [List.set_cons_succ, List.flatMap_cons, List.flatMap_cons, ih q hq]
    unfold hfoot
    rw [hfm os i hx]
def isTab (s : List Ob) (o : Int) : Bool := match obAt s o with
  | some ob => decide (ob.kind = 5)
  | Option.none => false
def setMt (ob : Ob) (m : Val) : Ob := { ob with mt := m }
def setMetaS (s : List Ob) (o : Int) (m : Val) : Int × List Ob := match obAt s o with
  | Option.none => (5, s)
  | some ob => if ob.kind = 5 then
      (if (normV m).k = 0 ∨ ((normV m).k = 5 ∧ isTab s (normV m).o = true) then (0, s.set (o.toNat - 1) (setMt ob (normV m))) else (1, s))
    else (5, s)
def AnsP (W : World) (hp : Nat) (limit : Int) (F : List Nat) (r : Int × List Ob) (e : Ending) (w' : World) : Prop := e = .returned (.int .i64 r.1) ∧ HStep W hp limit F r.2 w'
/-- the tables' pointer, whatever there is -/
theorem table_any {W : World} {hp : Nat} {s : List Ob} {limit : Int} {F : List Nat} (h : HeapIs W hp s limit F) (o : Int) : ∃ t : Option Addr, (t = Option.none ↔ isTab s o = false) ∧ ∀ w, Below W.heap.size W w →
    Calls Try.prog 24 #[.pointer (some ⟨hp, 0, none⟩), .int .i64 o] w fun e w' => e = .returned (.pointer t) ∧ w = w' := by
  rcases tab_cases h o with ⟨hno, hcall⟩ | ⟨os, v, i, ob, l, T, hyes⟩
  · refine ⟨Option.none, ⟨fun _ => ?_, fun _ => rfl⟩, hcall⟩
    unfold isTab
    rcases hno with hno | ⟨ob, hno, h1, _⟩
    · rw [hno]
    · rw [hno]; exact decide_eq_false h1
  · refine ⟨some ⟨l.p, 0, none⟩, ⟨(fun e => by cases e), fun e => ?_⟩, hyes.call⟩
    unfold isTab at e
    rw [hyes.obAt.1] at e
    have : decide (ob.ob.kind = 5) = true := decide_eq_true hyes.obAt.2.2.1
    have e' : decide (ob.ob.kind = 5) = false := e
    rw [e'] at this; cases this
theorem setCells_four (w : World) (g o : Nat) (y : Val) : w.setCells g o y.cs = (((w.setCell ⟨g, o, none⟩ (.int .i64 y.k)).setCell ⟨g, o + 1, none⟩ (.int .u64 y.n)).setCell ⟨g, o + 2, none⟩ (.string y.s)).setCell ⟨g, o + 3, none⟩ (.int .i64 y.o) := rfl
set_option maxHeartbeats 1000000 in
theorem setMeta_walk {hp : Nat} {s : List Ob} {limit : Int} {F : List Nat} (o : Int) (m : Val) (hm : VOK m) (W : World) (h : HeapIs W hp s limit F) :
    Calls Try.prog 16 #[.pointer (some ⟨hp, 0, none⟩), .int .i64 o, m.v] W (AnsP W hp limit F (setMetaS s o m)) := by
  have hN := fun w => Normal_walk m hm w
  have t0 := Lib.hid (One.start W m)
  unfold Val.v at hN ⊢
  have h0 := h
  obtain ⟨os, v, h1, h2, h3, h4, h5⟩ := h
  have HI := Lib.hid h0
  have hk1 := h1.kept (B := []) (Chg.of_below t0.out.below) (fun _ _ => List.not_mem_nil)
  cases ho : obAt s o with
  | none =>
    have hn := obAt_none ho
    rw [← h2, obs_len] at hn
    have hat := at_no hn _ hk1
    have HG : Hid (∀ w, Below W.heap.size W w → AnsP W hp limit F (setMetaS s o m) (.returned (.int .i64 5)) w) := by
      intro w hb
      unfold AnsP setMetaS
      rw [ho]
      exact ⟨rfl, HStep.of_below HI.out hb⟩
    clear ho hn h0 h1 h2 h3 h4 h5 hk1
    go_enter Try.func16, Try.ntmps16
    go_wp2_with fail
    refine hat.mono ?_
    rintro e w1 ⟨rfl, rfl⟩
    obtain ⟨p0, p1, p2, p3, pf⟩ := t0.out.facts
    go_wp2_with fail
    refine (hN _).mono ?_
    rintro e w2 ⟨rfl, b2⟩
    have T2 := Lib.hid (t0.out.step b2)
    obtain ⟨q0, q1, q2, q3, qf⟩ := T2.out.facts
    obtain ⟨y, Hy⟩ : ∃ y, Hid (y = normV m) := ⟨_, Lib.hid rfl⟩
    rw [← Hy.out, Val.out]
    have T3 := Lib.hid (T2.out.put y)
    clear b2 hN
    go_wp2_with fail
    go_ret
    rw [put4_eq]
    exact HG.out _ T3.out.below
  | some ob =>
    obtain ⟨i, rfl, hi⟩ := obAt_some ho
    rw [← h2, obs_at] at hi
    cases hx : os[i]? with
    | none => rw [hx] at hi; cases hi
    | some x =>
      rw [hx] at hi
      obtain rfl : x.1.ob = ob := Option.some.inj hi
      have hobj := h1.objs i x hx
      have hat := at_yes hx _ hk1
      obtain ⟨t, Ht⟩ : ∃ t, Hid (t = tptr x) := ⟨_, Lib.hid rfl⟩
      have hcell1 : W.cell? ⟨vb v, i * 9 + 1, none⟩ = some (tptr x) := h1.cells hx 1 (by decide)
      have hvb : vb v < W.heap.size := World.block_lt_of_cell? W _ hcell1
      go_enter Try.func16, Try.ntmps16
      go_wp2_with fail
      refine hat.mono ?_
      rintro e w1 ⟨rfl, rfl⟩
      obtain ⟨p0, p1, p2, p3, pf⟩ := t0.out.facts
      go_upto_region 2 with fail
      go_wp2_with fail
      refine (hN _).mono ?_
      rintro e w2 ⟨rfl, b2⟩
      have T2 := Lib.hid (t0.out.step b2)
      obtain ⟨q0, q1, q2, q3, qf⟩ := T2.out.facts
      obtain ⟨y, Hy⟩ : ∃ y, Hid (y = normV m) := ⟨_, Lib.hid rfl⟩
      rw [← Hy.out, Val.out]
      have T3 := Lib.hid (T2.out.put y)
      obtain ⟨w3, Hw3⟩ : ∃ w3, Hid (w3 = put4 w2 W.heap.size y) := ⟨_, Lib.hid rfl⟩
      rw [← Hw3.out] at T3
      clear b2 hN p0 p1 p2 p3 pf
      go_upto_region 3 with fail
      rw [put4_eq, ← Hw3.out]
      clear q0 q1 q2 q3 qf
      obtain ⟨q0, q1, q2, q3, qf⟩ := T3.out.facts
      have h3k := h1.kept (B := []) (Chg.of_below T3.out.below) (fun _ _ => List.not_mem_nil)
      have hc1 : w3.cell? ⟨vb v, i * 9 + 1, none⟩ = some (tptr x) := h3k.cells hx 1 (by decide)
      have HI3 := HI.out.kept (B := []) (Chg.of_below T3.out.below) (fun _ _ => List.not_mem_nil)
      cases htb : x.1.tab with
      | none =>
        have hk5 : ¬ x.1.ob.kind = 5 := fun e => by
          have := hobj.kind.2 e
          rw [htb] at this; cases this
        have HG : Hid (AnsP W hp limit F (setMetaS s ((i : Int) + 1) m) (.returned (.int .i64 5)) w3) := by
          show AnsP _ _ _ _ _ _ _
          unfold AnsP setMetaS
          rw [ho]
          simp only
          rw [if_neg hk5]
          exact ⟨rfl, HStep.of_below HI.out T3.out.below⟩
        have hc1' : w3.cell? ⟨vb v, i * 9 + 1, none⟩ = some (.pointer Option.none) := by
          rw [hc1]; unfold tptr; rw [htb]; rfl
        clear hc1 hk5 h3k ho h0 h1 h2 h3 h4 h5 hk1 hobj hcell1
        go_wp2_with fail
        go_ret
        exact HG.out
      | some T =>
        have hk5 : x.1.ob.kind = 5 := hobj.kind.1 (by rw [htb]; rfl)
        have hc1' : w3.cell? ⟨vb v, i * 9 + 1, none⟩ = some (.pointer (some ⟨x.2.p, 0, none⟩)) := by
          rw [hc1]; unfold tptr; rw [htb]; rfl
        obtain ⟨t', ht', hcall⟩ := table_any HI3 y.o
        have HC := Lib.hid (hcall w3 (Below.refl _ _))
        have hS : setMetaS s ((i : Int) + 1) m = if y.k = 0 ∨ (y.k = 5 ∧ isTab s y.o = true) then (0, s.set i (setMt x.1.ob y)) else (1, s) := by
          unfold setMetaS
          rw [ho]
          simp only
          rw [if_pos hk5, ← Hy.out, show ((i : Int) + 1).toNat - 1 = i by omega]
        have HNo : Hid (¬ (y.k = 0 ∨ (y.k = 5 ∧ isTab s y.o = true)) → AnsP W hp limit F (setMetaS s ((i : Int) + 1) m) (.returned (.int .i64 1)) w3) := by
          intro hn
          unfold AnsP
          rw [hS, if_neg hn]
          exact ⟨rfl, HStep.of_below HI.out T3.out.below⟩
        have hput := h3k.putObj hx (y := ({ x.1 with mt := y }, x.2)) (j := 2) (vs := y.cs) (by show 2 + 4 ≤ 9; decide) rfl rfl rfl rfl rfl
        have HYes : Hid (y.k = 0 ∨ (y.k = 5 ∧ isTab s y.o = true) → AnsP W hp limit F (setMetaS s ((i : Int) + 1) m) (.returned (.int .i64 0)) (w3.setCells (vb v) (i * 9 + 2) y.cs)) := by
          intro hy
          unfold AnsP
          rw [hS, if_pos hy]
          obtain ⟨k1, k2, k3⟩ := hput
          have hs : obs (os.set i ({ x.1 with mt := y }, x.2)) = s.set i (setMt x.1.ob y) := by
            rw [obs_set, h2]
            exact congrArg _ rfl
          have hi' : s[i]? = some x.1.ob := by rw [← h2, obs_at, hx]; rfl
          have hus : usedOf (s.set i (setMt x.1.ob y)) = usedOf s := by
            have := usedOf_set s i x.1.ob (setMt x.1.ob y) hi'
            have e : (setMt x.1.ob y).cells = x.1.ob.cells := rfl
            omega
          refine ⟨rfl, F, ⟨_, v, by rw [hus]; exact k1, hs, by rw [k3]; exact h3, by rw [hus]; exact h4, h5⟩, (Chg.of_below (B := F) T3.out.below).trans k2 (fun b hb _ => by rw [h3]; exact hfoot_v hb), fun b hb => .inl hb⟩
        have c2 : w3.cell? ⟨vb v, i * 9 + 2, none⟩ = some (.int .i64 x.1.mt.k) := h3k.cells hx 2 (by decide)
        have c3 : w3.cell? ⟨vb v, i * 9 + 3, none⟩ = some (.int .u64 x.1.mt.n) := h3k.cells hx 3 (by decide)
        have c4 : w3.cell? ⟨vb v, i * 9 + 4, none⟩ = some (.string x.1.mt.s) := h3k.cells hx 4 (by decide)
        have c5 : w3.cell? ⟨vb v, i * 9 + 5, none⟩ = some (.int .i64 x.1.mt.o) := h3k.cells hx 5 (by decide)
        have cf : ∀ q, w3.frozen? ⟨vb v, q, none⟩ = false := by
          intro q
          obtain ⟨ad, cap, hv, d1, d2, d3⟩ := row_form h3k.row
          have hil := (List.getElem?_eq_some_iff.1 hx).1
          rw [d3 (by omega)] at hv
          have hrow := h3k.row
          rw [hv] at hrow
          exact hrow.frozenAt q
        have Ht' := Lib.hid ht'
        clear hc1 hk5 h3k ho h0 h1 h2 h3 h4 h5 hk1 hobj hcell1 hput hS HI3 hcall ht' htb
        by_cases k0 : y.k = 0
        · have e0 : (y.k != 0) = false := by rw [k0]; rfl
          have HG := Lib.hid (HYes.out (.inl k0))
          clear k0 HYes HNo
          go_wp2_with fail
          go_ret
          rw [setCells_four] at HG
          exact HG.out
        · have e0 : (y.k != 0) = true := by rw [bne_iff_ne]; exact k0
          by_cases k5 : y.k = 5
          · have e5 : (y.k != 5) = false := by rw [k5]; rfl
            cases t' with
            | none =>
              have HG := Lib.hid (HNo.out (fun c => c.elim k0 (fun c => by
                have := Ht'.out.1 rfl
                rw [this] at c; exact absurd c.2 (by decide))))
              clear k0 k5 HYes HNo
              go_wp2_with fail
              refine HC.out.mono ?_
              rintro e w4 ⟨rfl, rfl⟩
              go_wp2_with fail
              go_ret
              exact HG.out
            | some ta =>
              have HG := Lib.hid (HYes.out (.inr ⟨k5, by
                cases h : isTab s y.o
                · have := Ht'.out.2 h
                  cases this
                · rfl⟩))
              clear k0 k5 HYes HNo
              go_wp2_with fail
              refine HC.out.mono ?_
              rintro e w4 ⟨rfl, rfl⟩
              go_wp2_with fail
              go_ret
              rw [setCells_four] at HG
              exact HG.out
          · have e5 : (y.k != 5) = true := by rw [bne_iff_ne]; exact k5
            have HG := Lib.hid (HNo.out (fun c => c.elim k0 (fun c => k5 c.1)))
            clear k0 k5 HYes HNo
            go_wp2_with fail
            go_ret
            exact HG.out
end Go.Proofs.Ytlihonbmopeemaa.Hp
end
section
namespace Go.Proofs.Ytlihonbmopeemaa.Hp
open Go Go.RowKit Go.Proofs.Ytlihonbmopeemaa.HpLaw Go.Proofs.Ytlihonbmopeemaa.Ans Go.Proofs.Ytlihonbmopeemaa.Num Go.Proofs.Ytlihonbmopeemaa.DigLaw Go.Proofs.Ytlihonbmopeemaa.Fl Go.Proofs.Ytlihonbmopeemaa.Dig Go.Proofs.Ytlihonbmopeemaa.Float

/-- an object that is there, and where -/
theorem ob_cases {W : World} {hp : Nat} {s : List Ob} {limit : Int} {F : List Nat} (h : HeapIs W hp s limit F) (o : Int) :
    (obAt s o = Option.none ∧ ∀ w, Below W.heap.size W w → Calls Try.prog 34 #[.pointer (some ⟨hp, 0, none⟩), .int .i64 o] w fun e w' => e = .returned (.pointer Option.none) ∧ w = w') ∨
    ∃ os v i x, HeapAt W hp os v ((usedOf s : Nat) : Int) limit ∧ obs os = s ∧ F = hfoot hp v os ∧ ((usedOf s : Nat) : Int) ≤ limit ∧ limit ≤ 1048576 ∧ o = ((i : Nat) : Int) + 1 ∧ os[i]? = some x ∧ obAt s o = some x.1.ob ∧ s[i]? = some x.1.ob ∧
      ∀ w, Below W.heap.size W w → Calls Try.prog 34 #[.pointer (some ⟨hp, 0, none⟩), .int .i64 o] w fun e w' => e = .returned (.pointer (some ⟨vb v, i * 9, none⟩)) ∧ w = w' := by
  obtain ⟨os, v, h1, h2, h3, h4, h5⟩ := h
  have hk : ∀ w, Below W.heap.size W w → HeapAt w hp os v ((usedOf s : Nat) : Int) limit := fun w hb => h1.kept (B := []) (Chg.of_below hb) (fun _ _ => List.not_mem_nil)
  cases ho : obAt s o with
  | none =>
    have hn := obAt_none ho
    rw [← h2, obs_len] at hn
    exact .inl ⟨rfl, fun w hb => at_no hn w (hk w hb)⟩
  | some ob =>
    obtain ⟨i, rfl, hi⟩ := obAt_some ho
    have hi' := hi
    rw [← h2, obs_at] at hi
    cases hx : os[i]? with
    | none => rw [hx] at hi; cases hi
    | some x =>
      rw [hx] at hi
      obtain rfl : x.1.ob = ob := Option.some.inj hi
      exact .inr ⟨os, v, i, x, h1, h2, h3, h4, h5, rfl, hx, rfl, hi', fun w hb => at_yes hx w (hk w hb)⟩
def setA (ob : Ob) (a : Int) : Ob := { ob with a := a }
def markS (s : List Ob) (o a : Int) : Int × List Ob := match obAt s o with
  | Option.none => (5, s)
  | some ob => if ob.kind = 5 then (5, s) else (0, s.set (o.toNat - 1) (setA ob a))
theorem HeapAt.obj_free {w : World} {hp : Nat} {os : List Obj2} {v : Value} {used limit : Int} (h : HeapAt w hp os v used limit) {i : Nat} {x : Obj2} (hx : os[i]? = some x) : ∀ q, w.frozen? ⟨vb v, q, none⟩ = false := by
  intro q
  obtain ⟨ad, cap, hv, d1, d2, d3⟩ := row_form h.row
  have hil := (List.getElem?_eq_some_iff.1 hx).1
  rw [d3 (by omega)] at hv
  have hrow := h.row
  rw [hv] at hrow
  exact hrow.frozenAt q
set_option maxHeartbeats 1000000 in
theorem mark_walk {hp : Nat} {s : List Ob} {limit : Int} {F : List Nat} (o a : Int) (W : World) (h : HeapIs W hp s limit F) :
    Calls Try.prog 42 #[.pointer (some ⟨hp, 0, none⟩), .int .i64 o, .int .i64 a] W (AnsP W hp limit F (markS s o a)) := by
  have HI := Lib.hid h
  rcases ob_cases h o with ⟨ho, hat⟩ | ⟨os, v, i, x, h1, h2, h3, h4, h5, rfl, hx, ho, hs, hat⟩
  · have HG : Hid (AnsP W hp limit F (markS s o a) (.returned (.int .i64 5)) W) := by
      unfold AnsP markS
      rw [ho]
      exact ⟨rfl, HStep.of_below HI.out (Below.refl _ _)⟩
    have HC := Lib.hid (hat W (Below.refl _ _))
    clear h ho hat
    go_enter Try.func42, Try.ntmps42
    go_wp2_with fail
    refine HC.out.mono ?_
    rintro e w1 ⟨rfl, rfl⟩
    go_wp2_with fail
    go_ret
    exact HG.out
  · have hobj := h1.objs i x hx
    have HC := Lib.hid (hat W (Below.refl _ _))
    have c1 : W.cell? ⟨vb v, i * 9 + 1, none⟩ = some (tptr x) := h1.cells hx 1 (by decide)
    have c6 : W.cell? ⟨vb v, i * 9 + 6, none⟩ = some (.int .i64 x.1.a) := h1.cells hx 6 (by decide)
    have cf := h1.obj_free hx
    cases ht : x.1.tab with
    | none =>
      have hk5 : ¬ x.1.ob.kind = 5 := fun e => by
        have := hobj.kind.2 e
        rw [ht] at this; cases this
      have c1' : W.cell? ⟨vb v, i * 9 + 1, none⟩ = some (.pointer Option.none) := by rw [c1]; unfold tptr; rw [ht]; rfl
      have hput := h1.putObj hx (y := ({ x.1 with a := a }, x.2)) (j := 6) (vs := [.int .i64 a]) (by show 6 + 1 ≤ 9; decide) rfl rfl rfl rfl rfl
      have HG : Hid (AnsP W hp limit F (markS s ((i : Int) + 1) a) (.returned (.int .i64 0)) (W.setCell ⟨vb v, i * 9 + 6, none⟩ (.int .i64 a))) := by
        show AnsP _ _ _ _ _ _ _
        unfold AnsP markS
        rw [ho]
        simp only
        rw [if_neg hk5, show ((i : Int) + 1).toNat - 1 = i by omega]
        obtain ⟨k1, k2, k3⟩ := hput
        have hs' : obs (os.set i ({ x.1 with a := a }, x.2)) = s.set i (setA x.1.ob a) := by
          rw [obs_set, h2]
          exact congrArg _ rfl
        have hus : usedOf (s.set i (setA x.1.ob a)) = usedOf s := by
          have := usedOf_set s i x.1.ob (setA x.1.ob a) hs
          have e : (setA x.1.ob a).cells = x.1.ob.cells := rfl
          omega
        exact ⟨rfl, F, ⟨_, v, by rw [hus]; exact k1, hs', by rw [k3]; exact h3, by rw [hus]; exact h4, h5⟩, k2.mono (fun b hb _ => by rw [h3]; exact hfoot_v hb), fun b hb => .inl hb⟩
      clear h h1 h2 h3 h4 h5 ho hs hat hobj c1 hk5 hput ht
      go_enter Try.func42, Try.ntmps42
      go_wp2_with fail
      refine HC.out.mono ?_
      rintro e w1 ⟨rfl, rfl⟩
      go_wp2_with fail
      go_ret
      exact HG.out
    | some T =>
      have hk5 : x.1.ob.kind = 5 := hobj.kind.1 (by rw [ht]; rfl)
      have c1' : W.cell? ⟨vb v, i * 9 + 1, none⟩ = some (.pointer (some ⟨x.2.p, 0, none⟩)) := by rw [c1]; unfold tptr; rw [ht]; rfl
      have HG : Hid (AnsP W hp limit F (markS s ((i : Int) + 1) a) (.returned (.int .i64 5)) W) := by
        show AnsP _ _ _ _ _ _ _
        unfold AnsP markS
        rw [ho]
        simp only
        rw [if_pos hk5]
        exact ⟨rfl, HStep.of_below HI.out (Below.refl _ _)⟩
      clear h h1 h2 h3 h4 h5 ho hs hat hobj c1 hk5 ht
      go_enter Try.func42, Try.ntmps42
      go_wp2_with fail
      refine HC.out.mono ?_
      rintro e w1 ⟨rfl, rfl⟩
      go_wp2_with fail
      go_ret
      exact HG.out
theorem valCells_at (l : List Val) (i j : Nat) (hj : j < 4) (hi : i < l.length) : (valCells l)[i * 4 + j]? = (l[i]).cs[j]? := by
  induction l generalizing i with
  | nil => exact absurd hi (Nat.not_lt_zero _)
  | cons a l ih =>
    have e : valCells (a :: l) = a.cs ++ valCells l := List.flatMap_cons ..
    have hl : a.cs.length = 4 := rfl
    rw [e]
    cases i with
    | zero => rw [Nat.zero_mul, Nat.zero_add, List.getElem?_append_left (by rw [hl]; exact hj)]; rfl
    | succ i =>
      rw [List.getElem?_append_right (by rw [hl]; omega), hl, show (i + 1) * 4 + j - 4 = i * 4 + j by omega, ih i (by simpa using hi)]
      rfl
theorem valCells_put : ∀ (l : List Val) (i : Nat) (y : Val), i < l.length → putL (valCells l) (i * 4) y.cs = valCells (l.set i y)
  | [], i, _, h => absurd h (Nat.not_lt_zero _)
  | a :: l, 0, y, _ => by
    show putL (a.cs ++ valCells l) 0 y.cs = y.cs ++ valCells l
    rfl
  | a :: l, i + 1, y, h => by
    have e1 : valCells (a :: l) = a.cs ++ valCells l := List.flatMap_cons ..
    have e2 : valCells (a :: l.set i y) = a.cs ++ valCells (l.set i y) := List.flatMap_cons ..
    have hl : a.cs.length = 4 := rfl
    rw [List.set_cons_succ, e1, e2, ← valCells_put l i y (by simpa using h), show (i + 1) * 4 = a.cs.length + i * 4 by rw [hl]; omega, putL_append]
/-- the cells of a value in a row -/
theorem val_cells {w : World} {v : Value} {l : List Val} (h : w.ownsRow 0 34 4 v l.length (valCells l)) {i : Nat} (hi : i < l.length) :
    w.cell? ⟨vb v, i * 4, none⟩ = some (.int .i64 (l[i]).k) ∧ w.cell? ⟨vb v, i * 4 + 1, none⟩ = some (.int .u64 (l[i]).n) ∧ w.cell? ⟨vb v, i * 4 + 2, none⟩ = some (.string (l[i]).s) ∧ w.cell? ⟨vb v, i * 4 + 3, none⟩ = some (.int .i64 (l[i]).o) := by
  obtain ⟨ad, cap, hv, c1, c2, c3⟩ := row_form h
  have h' := h
  rw [hv, c3 (by omega)] at h'
  have g : ∀ j, j < 4 → ∀ u, (l[i]).cs[j]? = some u → w.cell? ⟨vb v, i * 4 + j, none⟩ = some u := fun j hj u hu => row_cell h' ((valCells_at l i j hj hi).trans hu)
  exact ⟨g 0 (by decide) _ rfl, g 1 (by decide) _ rfl, g 2 (by decide) _ rfl, g 3 (by decide) _ rfl⟩
def slotS (s : List Ob) (o i : Int) : Val := match obAt s o with
  | Option.none => nilV
  | some ob => if 0 ≤ i then ob.slots.getD i.toNat nilV else nilV
end Go.Proofs.Ytlihonbmopeemaa.Hp
end
section
namespace Go.Proofs.Ytlihonbmopeemaa.Hp
open Go Go.RowKit Go.Proofs.Ytlihonbmopeemaa.HpLaw Go.Proofs.Ytlihonbmopeemaa.Ans Go.Proofs.Ytlihonbmopeemaa.Num Go.Proofs.Ytlihonbmopeemaa.DigLaw Go.Proofs.Ytlihonbmopeemaa.Fl Go.Proofs.Ytlihonbmopeemaa.Dig Go.Proofs.Ytlihonbmopeemaa.Float

set_option maxHeartbeats 1000000 in
theorem slot_walk {hp : Nat} {s : List Ob} {limit : Int} {F : List Nat} (o i : Int) (W : World) (h : HeapIs W hp s limit F) :
    Calls Try.prog 68 #[.pointer (some ⟨hp, 0, none⟩), .int .i64 o, .int .i64 i] W (ValP W (slotS s o i)) := by
  have t0 := Lib.hid (One.start W nilV)
  rcases ob_cases h o with ⟨ho, hat⟩ | ⟨os, v, q, x, h1, h2, h3, h4, h5, rfl, hx, ho, hs, hat⟩
  · have HC := Lib.hid (hat _ t0.out.below)
    have HL : Hid (slotS s o i = nilV) := by
      show slotS s o i = nilV
      unfold slotS
      rw [ho]
    clear h ho hat
    go_enter Try.func68, Try.ntmps68
    go_wp2_with fail
    refine HC.out.mono ?_
    rintro e w1 ⟨rfl, rfl⟩
    go_wp2_with fail
    exact bodyPost_ret (v := nilV.v) (by simp [results, Try.results68, go_sem, Val.out, nilV, E3]) rfl ⟨by rw [HL.out], t0.out.below⟩
  · have HC := Lib.hid (hat _ t0.out.below)
    have h1k := h1.kept (B := []) (Chg.of_below t0.out.below) (fun _ _ => List.not_mem_nil)
    have hobj := h1k.objs q x hx
    have c8 := h1k.cells hx 8 (by decide)
    simp only [oCells, List.getElem?_cons_zero, List.getElem?_cons_succ] at c8
    obtain ⟨ad, cap, hsv, d1, d2, d3⟩ := row_form hobj.slots
    have HSV := Lib.hid hsv
    have c8' := c8
    rw [hsv] at c8'
    have hS : slotS s ((q : Int) + 1) i = if 0 ≤ i then x.1.slots.getD i.toNat nilV else nilV := by
      unfold slotS
      rw [ho]
      rfl
    have HS := Lib.hid hS
    by_cases hi : 0 ≤ i ∧ i < (x.1.slots.length : Int)
    · obtain ⟨j, rfl⟩ := Int.eq_ofNat_of_zero_le hi.1
      have hj : j < x.1.slots.length := by omega
      obtain ⟨y, Hy⟩ : ∃ y, Hid (x.1.slots[j] = y) := ⟨_, Lib.hid rfl⟩
      have HL : Hid (slotS s ((q : Int) + 1) (j : Int) = y) := by
        show slotS s ((q : Int) + 1) (j : Int) = y
        rw [HS.out, if_pos (by omega), Int.toNat_natCast, List.getD_eq_getElem?_getD, List.getElem?_eq_getElem hj]
        exact Hy.out
      obtain ⟨r0, r1, r2, r3⟩ := val_cells hobj.slots hj
      rw [Hy.out] at r0 r1 r2 r3
      have had := d3 (by omega)
      obtain ⟨g, Hg⟩ : ∃ g, Hid (g = vb x.2.sv) := ⟨_, Lib.hid rfl⟩
      rw [← Hg.out] at r0 r1 r2 r3 had
      subst had
      have T2 := Lib.hid (One.start W y)
      clear h h1 h1k h2 h3 h4 h5 ho hs hat hobj c8 hsv d3 hS hi hx
      go_enter Try.func68, Try.ntmps68
      go_wp2_with fail
      refine HC.out.mono ?_
      rintro e w1 ⟨rfl, rfl⟩
      go_wp2_with fail
      exact bodyPost_ret (v := y.v) (by simp [results, Try.results68, go_sem, Val.out]) rfl ⟨by rw [HL.out], T2.out.below⟩
    · have HL : Hid (slotS s ((q : Int) + 1) i = nilV) := by
        show slotS s ((q : Int) + 1) i = nilV
        rw [HS.out]
        by_cases h0 : 0 ≤ i
        · rw [if_pos h0, List.getD_eq_getElem?_getD, List.getElem?_eq_none (by omega)]; rfl
        · rw [if_neg h0]
      clear h h1 h1k h2 h3 h4 h5 ho hs hat hobj c8 hsv d3 hS hx
      by_cases h0 : i < 0
      · clear hi
        go_enter Try.func68, Try.ntmps68
        go_wp2_with fail
        refine HC.out.mono ?_
        rintro e w1 ⟨rfl, rfl⟩
        go_wp2_with fail
        exact bodyPost_ret (v := nilV.v) (by simp [results, Try.results68, go_sem, Val.out, nilV, E3]) rfl ⟨by rw [HL.out], t0.out.below⟩
      · have h1 : (x.1.slots.length : Int) ≤ i := by omega
        clear hi
        go_enter Try.func68, Try.ntmps68
        go_wp2_with fail
        refine HC.out.mono ?_
        rintro e w1 ⟨rfl, rfl⟩
        go_wp2_with fail
        exact bodyPost_ret (v := nilV.v) (by simp [results, Try.results68, go_sem, Val.out, nilV, E3]) rfl ⟨by rw [HL.out], t0.out.below⟩
def slotV (v : Val) : Val := if v.k = 9 then v else normV v
def setSl (ob : Ob) (l : List Val) : Ob := { ob with slots := l }
def setSlotS (s : List Ob) (o i : Int) (v : Val) : Int × List Ob := match obAt s o with
  | Option.none => (5, s)
  | some ob => if 0 ≤ i ∧ i < (ob.slots.length : Int) then (0, s.set (o.toNat - 1) (setSl ob (ob.slots.set i.toNat (slotV v)))) else (5, s)
/-- a slot turns -/
theorem HeapAt.putSlot {w : World} {hp : Nat} {os : List Obj2} {v : Value} {used limit : Int} (h : HeapAt w hp os v used limit) {i : Nat} {x : Obj2} (hx : os[i]? = some x) {j : Nat} (hj : j < x.1.slots.length) (y : Val) :
    HeapAt (w.setCells (vb x.2.sv) (j * 4) y.cs) hp (os.set i ({ x.1 with slots := x.1.slots.set j y }, x.2)) v used limit ∧ Chg [vb x.2.sv] w (w.setCells (vb x.2.sv) (j * 4) y.cs) ∧ vb x.2.sv ∈ ft x ∧
    (∀ b ∈ hfoot hp v (os.set i ({ x.1 with slots := x.1.slots.set j y }, x.2)), b ∈ hfoot hp v os ∨ w.heap.size ≤ b) := by
  have hobj := h.objs i x hx
  obtain ⟨ad, cap, hsv, d1, d2, d3⟩ := row_form hobj.slots
  rw [d3 (by omega)] at hsv
  have hrow := hobj.slots
  rw [hsv] at hrow
  obtain ⟨r1, r2⟩ := row_put y.cs (j * 4) hrow
  rw [valCells_put _ _ _ hj] at r1
  have hown : vb x.2.sv ∈ own x.2.sv := by rw [hsv]; exact List.mem_singleton.2 rfl
  have hft : vb x.2.sv ∈ ft x := List.mem_append_right _ hown
  have hB : ∀ b ∈ [vb x.2.sv], b ∈ ft x := fun b hb => by rw [List.mem_singleton.1 hb]; exact hft
  have hne5 : x.1.kind ≠ 5 := fun e => by
    have := hobj.plain e
    rw [this] at hj; exact absurd hj (Nat.not_lt_zero _)
  have hnt : x.1.tab = Option.none := by
    cases ht : x.1.tab with
    | none => rfl
    | some T => exact absurd (hobj.kind.1 (by rw [ht]; rfl)) hne5
  obtain ⟨k1, k2⟩ := h.turn hx (y := ({ x.1 with slots := x.1.slots.set j y }, x.2)) rfl r2 hB ⟨(fun T hT => by
      have : x.1.tab = some T := hT
      rw [hnt] at this; cases this), by
      show World.ownsRow _ _ _ _ _ (x.1.slots.set j y).length _
      rw [List.length_set]
      have := r1
      rw [← hsv] at this
      exact this, hobj.apart, hobj.kind, (fun e => absurd e hne5)⟩ (fun b hb => .inl hb)
  exact ⟨k1, r2, hft, k2⟩
def SlotB (s : List Ob) (o i : Int) (v : Val) (W : World) (hp : Nat) (limit : Int) (F : List Nat) (w3 : World) (g j : Nat) : Prop := ∀ y m, y = slotV v → AnsP W hp limit F (setSlotS s o i v) (.returned (.int .i64 0)) ((w3.setCells g (j * 4) y.cs).drewN m)
set_option maxHeartbeats 2000000 in
theorem setSlot_walk {hp : Nat} {s : List Ob} {limit : Int} {F : List Nat} (o i : Int) (v0 : Val) (hv0 : VOK v0) (W : World) (h : HeapIs W hp s limit F) :
    Calls Try.prog 40 #[.pointer (some ⟨hp, 0, none⟩), .int .i64 o, .int .i64 i, v0.v] W (AnsP W hp limit F (setSlotS s o i v0)) := by
  have hN := fun w => Normal_walk v0 hv0 w
  have t0 := Lib.hid (One.start W v0)
  have HI := Lib.hid h
  have HNo : Hid (setSlotS s o i v0 = (5, s) → ∀ w, Below W.heap.size W w → AnsP W hp limit F (setSlotS s o i v0) (.returned (.int .i64 5)) w) := by
    intro e w hw
    unfold AnsP
    rw [e]
    exact ⟨rfl, HStep.of_below HI.out hw⟩
  unfold Val.v at hN ⊢
  rcases ob_cases h o with ⟨ho, hat⟩ | ⟨os, v, q, x, h1, h2, h3, h4, h5, rfl, hx, ho, hs, hat⟩
  · have HC := Lib.hid (hat _ t0.out.below)
    have HG := Lib.hid (HNo.out (by unfold setSlotS; rw [ho]) _ t0.out.below)
    clear h ho hat hN HNo
    go_enter Try.func40, Try.ntmps40
    go_wp2_with fail
    refine HC.out.mono ?_
    rintro e w1 ⟨rfl, rfl⟩
    go_wp2_with fail
    go_ret
    exact HG.out
  · have HC := Lib.hid (hat _ t0.out.below)
    have h1k := h1.kept (B := []) (Chg.of_below t0.out.below) (fun _ _ => List.not_mem_nil)
    have hobj := h1k.objs q x hx
    have c8 := h1k.cells hx 8 (by decide)
    simp only [oCells, List.getElem?_cons_zero, List.getElem?_cons_succ] at c8
    obtain ⟨ad, cap, hsv, d1, d2, d3⟩ := row_form hobj.slots
    have c8' := c8
    rw [hsv] at c8'
    have hS : setSlotS s ((q : Int) + 1) i v0 = if 0 ≤ i ∧ i < (x.1.slots.length : Int) then (0, s.set q (setSl x.1.ob (x.1.slots.set i.toNat (slotV v0)))) else (5, s) := by
      unfold setSlotS
      rw [ho, show ((q : Int) + 1).toNat - 1 = q by omega]
      rfl
    by_cases hi : 0 ≤ i ∧ i < (x.1.slots.length : Int)
    · obtain ⟨j, rfl⟩ := Int.eq_ofNat_of_zero_le hi.1
      have hj : j < x.1.slots.length := by omega
      have had := d3 (by omega)
      have hj0 : (0 : Int) ≤ (j : Int) := Int.natCast_nonneg _
      have hj1 : (j : Int) < (x.1.slots.length : Int) := hi.2
      have hfin : Hid (∀ w3, Below W.heap.size W w3 → SlotB s ((q : Int) + 1) (j : Int) v0 W hp limit F w3 (vb x.2.sv) j) := by
        intro w3 hb3 y m hy
        unfold AnsP
        rw [hS, if_pos hi, Int.toNat_natCast, ← hy]
        have h3k := h1.kept (B := []) (Chg.of_below hb3) (fun _ _ => List.not_mem_nil)
        obtain ⟨k1, k2, k3, k4⟩ := h3k.putSlot hx hj y
        have hs' : obs (os.set q ({ x.1 with slots := x.1.slots.set j y }, x.2)) = s.set q (setSl x.1.ob (x.1.slots.set j y)) := by
          rw [obs_set, h2]
          exact congrArg _ rfl
        have hus : usedOf (s.set q (setSl x.1.ob (x.1.slots.set j y))) = usedOf s := by
          have e1 := usedOf_set s q x.1.ob (setSl x.1.ob (x.1.slots.set j y)) hs
          have e2 : (setSl x.1.ob (x.1.slots.set j y)).cells = x.1.ob.cells := by
            show 1 + x.1.ob.kv.length + (x.1.slots.set j y).length = 1 + x.1.ob.kv.length + x.1.slots.length
            rw [List.length_set]
          omega
        refine ⟨rfl, HStep.then ⟨_, ⟨_, v, by rw [hus]; exact k1, hs', rfl, by rw [hus]; exact h4, h5⟩, (Chg.of_below (B := F) hb3).trans k2 (fun b hb _ => ?_), fun b hb => ?_⟩ (Below.drewN (Below.refl _ _) m)⟩
        · rw [List.mem_singleton.1 hb, h3]; exact hfoot_o hx k3
        · rcases k4 b hb with c | c
          · rw [h3]; exact .inl c
          · exact .inr (Nat.le_trans hb3.size c)
      have hrowk : Hid (∀ w3, Below W.heap.size W w3 → w3.cell? ⟨vb v, q * 9 + 8, none⟩ = some (.slice (some ⟨vb x.2.sv, 0, none⟩) x.1.slots.length cap) ∧ (∃ y : Val, w3.cell? ⟨vb x.2.sv, j * 4, none⟩ = some (.int .i64 y.k) ∧ w3.cell? ⟨vb x.2.sv, j * 4 + 1, none⟩ = some (.int .u64 y.n) ∧ w3.cell? ⟨vb x.2.sv, j * 4 + 2, none⟩ = some (.string y.s) ∧ w3.cell? ⟨vb x.2.sv, j * 4 + 3, none⟩ = some (.int .i64 y.o)) ∧ ∀ z, w3.frozen? ⟨vb x.2.sv, z, none⟩ = false) := by
        intro w3 hb3
        have h3k := h1.kept (B := []) (Chg.of_below hb3) (fun _ _ => List.not_mem_nil)
        have hob3 := h3k.objs q x hx
        have e8 := h3k.cells hx 8 (by decide)
        simp only [oCells, List.getElem?_cons_zero, List.getElem?_cons_succ] at e8
        have hsv' := hsv
        rw [had] at hsv'
        rw [hsv'] at e8
        have hr := hob3.slots
        rw [hsv'] at hr
        exact ⟨e8, ⟨_, val_cells hob3.slots hj⟩, fun z => hr.frozenAt z⟩
      clear HNo
      have h9 : v0.k = 9 ∨ v0.k ≠ 9 := by omega
      rw [had] at c8'
      clear h h1 h1k h2 h3 h4 h5 ho hs hat hobj c8 hsv d3 hS hi hx had HI
      rcases h9 with h9 | h9
      · have e9 : (v0.k != 9) = false := by rw [h9]; rfl
        have HV : Hid (slotV v0 = v0) := by
          show slotV v0 = v0
          unfold slotV
          rw [if_pos h9]
        have HSB := Lib.hid (hfin.out _ t0.out.below)
        obtain ⟨b8, ⟨y0, z0, z1, z2, z3⟩, zf⟩ := hrowk.out _ t0.out.below
        obtain ⟨p0, p1, p2, p3, pf⟩ := t0.out.facts
        clear h9 hfin hrowk hN c8'
        go_enter Try.func40, Try.ntmps40
        go_wp2_with fail
        refine HC.out.mono ?_
        rintro e w1 ⟨rfl, rfl⟩
        go_upto_region 6 with fail
        go_region_law (fail)
        all_goals
          go_wp2_with fail
          go_ret
          exact HSB.out v0 1 HV.out.symm
      · have e9 : (v0.k != 9) = true := by rw [bne_iff_ne]; exact h9
        have HV : Hid (slotV v0 = normV v0) := by
          show slotV v0 = normV v0
          unfold slotV
          rw [if_neg h9]
        obtain ⟨b8, ⟨y0, z0, z1, z2, z3⟩, zf⟩ := hrowk.out _ t0.out.below
        clear h9 z0 z1 z2 z3 zf y0 c8'
        go_enter Try.func40, Try.ntmps40
        go_wp2_with fail
        refine HC.out.mono ?_
        rintro e w1 ⟨rfl, rfl⟩
        obtain ⟨p0, p1, p2, p3, pf⟩ := t0.out.facts
        go_wp2_with fail
        refine (hN _).mono ?_
        rintro e w2 ⟨rfl, b2⟩
        have T2 := Lib.hid (t0.out.step b2)
        obtain ⟨q0, q1, q2, q3, qf⟩ := T2.out.facts
        obtain ⟨y, Hy⟩ : ∃ y, Hid (y = normV v0) := ⟨_, Lib.hid rfl⟩
        rw [← Hy.out, Val.out]
        have T3 := Lib.hid (T2.out.put y)
        obtain ⟨w3, Hw3⟩ : ∃ w3, Hid (w3 = put4 w2 W.heap.size y) := ⟨_, Lib.hid rfl⟩
        rw [← Hw3.out] at T3
        have HSB := Lib.hid (hfin.out _ T3.out.below)
        obtain ⟨b8', ⟨y0, z0, z1, z2, z3⟩, zf⟩ := hrowk.out _ T3.out.below
        have HVY : Hid (y = slotV v0) := by
          show y = slotV v0
          rw [Hy.out, HV.out]
        clear b2 hN p0 p1 p2 p3 pf b8
        go_upto_region 6 with fail
        rw [put4_eq, ← Hw3.out]
        clear q0 q1 q2 q3 qf
        obtain ⟨q0, q1, q2, q3, qf⟩ := T3.out.facts
        clear hfin hrowk
        go_region_law (fail)
        all_goals
          go_wp2_with fail
          go_ret
          exact HSB.out y 1 HVY.out
    · have HG0 := HNo.out (by rw [hS, if_neg hi])
      have HG := Lib.hid (HG0 _ t0.out.below)
      clear h h1 h1k h2 h3 h4 h5 ho hs hat hobj c8 hsv d3 hS hx hN HNo HG0
      by_cases h0 : i < 0
      · clear hi
        go_enter Try.func40, Try.ntmps40
        go_wp2_with fail
        refine HC.out.mono ?_
        rintro e w1 ⟨rfl, rfl⟩
        go_wp2_with fail
        go_ret
        exact HG.out
      · have h1 : (x.1.slots.length : Int) ≤ i := by omega
        clear hi
        go_enter Try.func40, Try.ntmps40
        go_wp2_with fail
        refine HC.out.mono ?_
        rintro e w1 ⟨rfl, rfl⟩
        go_wp2_with fail
        go_ret
        exact HG.out
end Go.Proofs.Ytlihonbmopeemaa.Hp
end
section
namespace Go.Proofs.Ytlihonbmopeemaa.Hp
open Go Go.RowKit Go.Proofs.Ytlihonbmopeemaa.HpLaw Go.Proofs.Ytlihonbmopeemaa.Ans Go.Proofs.Ytlihonbmopeemaa.Num Go.Proofs.Ytlihonbmopeemaa.DigLaw Go.Proofs.Ytlihonbmopeemaa.Fl Go.Proofs.Ytlihonbmopeemaa.Dig Go.Proofs.Ytlihonbmopeemaa.Float

def newOb (kind a b : Int) (n : Nat) : Ob := ⟨kind, [], nilV, a, b, List.replicate n nilV⟩
def badMake (kind n : Int) : Prop := (kind ≠ 6 ∧ kind ≠ 7 ∧ kind ≠ 9) ∨ n < 0 ∨ 255 < n
instance (kind n : Int) : Decidable (badMake kind n) := by unfold badMake; exact inferInstance
def makeS (s : List Ob) (limit kind a b n : Int) : Int × Int × List Ob :=
  if badMake kind n then (0, 1, s) else if ((usedOf s : Nat) : Int) + (1 + n) ≤ limit then ((s.length : Int) + 1, 0, s ++ [newOb kind a b n.toNat]) else (0, 2, s)
def zeroV : Array Value := #[.int .i64 0, .int .u64 0, .string ByteArray.empty, .int .i64 0]
theorem made_vals : ∀ n : Nat, (madeCells zeroV (n * 4)).toList = valCells (List.replicate n nilV)
  | 0 => by unfold madeCells; simp [valCells]
  | n + 1 => by
    have ih := made_vals n
    have e1 : valCells (List.replicate (n + 1) nilV) = valCells (List.replicate n nilV) ++ nilV.cs := by
      unfold valCells
      rw [List.replicate_succ', List.flatMap_append]
      simp
    have e2 : (madeCells zeroV ((n + 1) * 4)).toList = (madeCells zeroV (n * 4)).toList ++ nilV.cs := by
      unfold madeCells
      rw [show (n + 1) * 4 = n * 4 + 1 + 1 + 1 + 1 by omega]
      simp only [Array.toList_map, Array.toList_range, List.range_succ, List.map_append, List.append_assoc, List.map_cons, List.map_nil]
      congr 1
      have hz : zeroV.size = 4 := rfl
      rw [hz, show (n * 4) % 4 = 0 by omega, show (n * 4 + 1) % 4 = 1 by omega, show (n * 4 + 1 + 1) % 4 = 2 by omega, show (n * 4 + 1 + 1 + 1) % 4 = 3 by omega]
      rfl
    rw [e1, e2, ih]
def MakeP (W : World) (hp : Nat) (limit : Int) (F : List Nat) (r : Int × Int × List Ob) (e : Ending) (w' : World) : Prop := e = .returned (.tuple #[.int .i64 r.1, .int .i64 r.2.1]) ∧ HStep W hp limit F r.2.2 w'
set_option maxHeartbeats 2000000 in
set_option maxRecDepth 100000 in
theorem make_walk {hp : Nat} {s : List Ob} {limit : Int} {F : List Nat} (kind a b n : Int) (W : World) (h : HeapIs W hp s limit F) :
    Calls Try.prog 38 #[.pointer (some ⟨hp, 0, none⟩), .int .i64 kind, .int .i64 a, .int .i64 b, .int .i64 n] W (MakeP W hp limit F (makeS s limit kind a b n)) := by
  by_cases hbad : badMake kind n
  · have HG : Hid (MakeP W hp limit F (makeS s limit kind a b n) (.returned (.tuple #[.int .i64 0, .int .i64 1])) W) := by
      show MakeP _ _ _ _ _ _ _
      unfold MakeP makeS
      rw [if_pos hbad]
      exact ⟨rfl, HStep.of_below h (Below.refl _ _)⟩
    clear h
    unfold badMake at hbad
    by_cases c6 : kind = 6 ∨ kind = 7 ∨ kind = 9
    · have hn : n < 0 ∨ 255 < n := by omega
      by_cases n0 : n < 0
      · clear hbad hn
        rcases c6 with rfl | rfl | rfl
        all_goals
          go_enter Try.func38, Try.ntmps38
          go_wp2_with fail
          go_ret2
          exact HG.out
      · have n1 : 255 < n := by omega
        clear hbad hn
        rcases c6 with rfl | rfl | rfl
        all_goals
          go_enter Try.func38, Try.ntmps38
          go_wp2_with fail
          go_ret2
          exact HG.out
    · have k6 : (kind != 6) = true := by rw [bne_iff_ne]; omega
      have k7 : (kind != 7) = true := by rw [bne_iff_ne]; omega
      have k9 : (kind != 9) = true := by rw [bne_iff_ne]; omega
      clear hbad c6
      go_enter Try.func38, Try.ntmps38
      go_wp2_with fail
      go_ret2
      exact HG.out
  · have hok := hbad
    unfold badMake at hok
    have hS : makeS s limit kind a b n = if ((usedOf s : Nat) : Int) + (1 + n) ≤ limit then ((s.length : Int) + 1, 0, s ++ [newOb kind a b n.toNat]) else (0, 2, s) := by unfold makeS; rw [if_neg hbad]
    obtain ⟨m, rfl⟩ := Int.eq_ofNat_of_zero_le (show 0 ≤ n by omega)
    have hm : m ≤ 255 := by omega
    have hkind : kind = 6 ∨ kind = 7 ∨ kind = 9 := by omega
    rw [Int.toNat_natCast] at hS
    have HS := Lib.hid hS
    have HK := Lib.hid hkind
    have h0 := h
    obtain ⟨os, v, h1, h2, h3, h4, h5⟩ := h
    have HI := Lib.hid h0
    clear hok hbad hS h0
    obtain ⟨u, hu⟩ : ∃ u : Int, Hid (u = ((usedOf s : Nat) : Int)) := ⟨_, Lib.hid rfl⟩
    have hul : u ≤ limit := by rw [hu.out]; exact h4
    have hu0 : 0 ≤ u := by rw [hu.out]; exact Int.natCast_nonneg _
    rw [← hu.out] at h1
    have hlen : os.length ≤ 1048576 := by
      have e1 := usedOf_len s
      rw [← h2, obs_len] at e1
      rw [h2] at e1
      have := hu.out
      omega
    obtain ⟨x, Hx⟩ : ∃ x : Obj2, Hid (x = (⟨kind, Option.none, nilV, a, b, List.replicate m nilV⟩, ⟨0, .slice Option.none 0 0, .slice Option.none 0 0, .slice Option.none 0 0, .slice (some ⟨W.heap.size, 0, none⟩) m m⟩)) := ⟨_, Lib.hid rfl⟩
    have hv : oV x = .agg #[.int .i64 kind, .pointer Option.none, .int .i64 0, .int .u64 0, .string ⟨#[]⟩, .int .i64 0, .int .i64 a, .int .i64 b, .slice (some ⟨W.heap.size, 0, none⟩) m m] := by rw [Hx.out]; rfl
    have hft : ft x = [W.heap.size] := by rw [Hx.out]; rfl
    have hob : x.1.ob = newOb kind a b m := by rw [Hx.out]; rfl
    have Hft := Lib.hid hft
    have Hob := Lib.hid hob
    have Hv := Lib.hid hv
    have H1 := Lib.hid h1
    have H2 := Lib.hid h2
    have H3 := Lib.hid h3
    have hlt := Lib.hid h1.lt
    have Hat : Hid (∀ w1 : World, w1.ownsRow 0 34 4 (.slice (some ⟨W.heap.size, 0, none⟩) m m) m (madeCells zeroV (m * 4)).toList → ObjAt w1 x) := by
      intro w1 hw1
      rw [made_vals] at hw1
      rw [Hx.out]
      refine ⟨(fun T hT => by cases hT), ?_, (fun b hb => by cases hb), ⟨(fun e => by cases e), fun e => ?_⟩, fun e => ?_⟩
      · show w1.ownsRow 0 34 4 (.slice (some ⟨W.heap.size, 0, none⟩) m m) (List.replicate m nilV).length (valCells (List.replicate m nilV))
        rw [List.length_replicate]; exact hw1
      · have e' : kind = 5 := e
        have := HK.out
        omega
      · have e' : kind = 5 := e
        have := HK.out
        omega
    have hchg : Hid (∀ w1 w', W.grownBy w1 none → PutQ w1 hp os v u limit x (1 + (m : Int)) w' → u + (1 + (m : Int)) ≤ limit → HStep W hp limit F (s ++ [newOb kind a b m]) w') := by
      intro w1 w' hg hq hle
      obtain ⟨v', k1, k2, k3⟩ := hq
      have hc : Chg [] W w1 := Chg.of_grown hg
      have hs : obs (os ++ [x]) = s ++ [newOb kind a b m] := by
        unfold obs
        rw [List.map_append, List.map_cons, List.map_nil, Hob.out]
        exact congrArg (· ++ [newOb kind a b m]) H2.out
      have hus : ((usedOf (s ++ [newOb kind a b m]) : Nat) : Int) = u + (1 + (m : Int)) := by
        rw [usedOf_append, usedOf_one, hu.out]
        have : (newOb kind a b m).cells = 1 + 0 + m := by
          show 1 + 0 + (List.replicate m nilV).length = _
          rw [List.length_replicate]
        omega
      have hsz := hc.size
      refine ⟨hfoot hp v' (os ++ [x]), ⟨_, v', ?_, hs, rfl, by omega, h5⟩, (hc.mono (B' := F) (fun b hb => absurd hb List.not_mem_nil)).trans k2 (fun b hb _ => ?_), fun b hb => ?_⟩
      · rw [hus]; exact k1
      · rw [H3.out]
        rcases List.mem_cons.1 hb with d | d
        · rw [d]; exact hfoot_hp ..
        · exact hfoot_v d
      · rw [H3.out]
        rcases k3 b hb with d | d | d
        · exact .inl d
        · rw [Hft.out] at d; rw [List.mem_singleton.1 d]; exact .inr (Nat.le_refl _)
        · exact .inr (by omega)
    obtain ⟨ti, hi0, hi1, hi2, hi3⟩ := info_parts (show (Try.prog.info? 34).map (fun i => (i.zero, i.size, i.bytes)) = some (some (.agg #[.int .i64 0, .int .u64 0, .string ByteArray.empty, .int .i64 0]), 4, 40) from by kernel_rfl)
    have hl : Hid ((os.length : Int) = (s.length : Int)) := by
      show (os.length : Int) = (s.length : Int)
      rw [← H2.out, obs_len]
    have hkind := HK.out
    clear h1 h2 h3 hft hob hv
    by_cases hroom : u + (1 + (m : Int)) ≤ limit
    · have HR : Hid (makeS s limit kind a b (m : Int) = ((s.length : Int) + 1, 0, s ++ [newOb kind a b m])) := by
        show makeS s limit kind a b (m : Int) = _
        rw [HS.out, ← hu.out, if_pos hroom]
      rcases hkind with rfl | rfl | rfl
      all_goals
        go_enter Try.func38, Try.ntmps38
        go_wp2_with (at_make; go_loud (refine wpList_make_full _ rfl (.tmp 34) (.tmp 34) 58 rfl 0 34 ti _ 4 Try.underlying58 hi0 hi1 hi2 .i64 .i64 m m m rfl rfl rfl rfl (by rw [hi3]; omega) (by unfold maxLen; omega) (Nat.zero_le _) ?_))
        intro w1 hrow hgr
        have hgrow := Lib.hid hgr
        have hrow' := Lib.hid hrow
        clear hgr hrow
        go_wp2_with fail
        rw [← Hv.out]
        refine (put_yes (v := v) hu0 hul h5 (by omega) (by omega) hlen w1 (H1.out.kept (B := []) (Chg.of_grown hgrow.out) (fun _ _ => List.not_mem_nil)) (Hat.out w1 hrow'.out) (by rw [Hft.out]; intro c hc; rw [List.mem_singleton.1 hc]; exact (hrow'.out.lt W.heap.size rfl).2) (by rw [Hft.out]; intro c hc e; rw [List.mem_singleton.1 hc] at e; have := hlt.out _ e; omega)).mono ?_
        rintro e w2 ⟨rfl, hq⟩
        have HF := Lib.hid (hchg.out w1 w2 hgrow.out hq hroom)
        rw [hl.out]
        clear hq
        go_wp2_with fail
        go_ret2
        unfold MakeP
        rw [HR.out]
        exact ⟨rfl, HF.out⟩
    · have HR : Hid (makeS s limit kind a b (m : Int) = (0, 2, s)) := by
        show makeS s limit kind a b (m : Int) = _
        rw [HS.out, ← hu.out, if_neg hroom]
      rcases hkind with rfl | rfl | rfl
      all_goals
        go_enter Try.func38, Try.ntmps38
        go_wp2_with (at_make; go_loud (refine wpList_make_full _ rfl (.tmp 34) (.tmp 34) 58 rfl 0 34 ti _ 4 Try.underlying58 hi0 hi1 hi2 .i64 .i64 m m m rfl rfl rfl rfl (by rw [hi3]; omega) (by unfold maxLen; omega) (Nat.zero_le _) ?_))
        intro w1 hrow hgr
        have hgrow := Lib.hid hgr
        clear hgr hrow
        go_wp2_with fail
        rw [← Hv.out]
        refine (put_no (v := v) hu0 hul h5 (by omega) w1 (H1.out.kept (B := []) (Chg.of_grown hgrow.out) (fun _ _ => List.not_mem_nil))).mono ?_
        rintro e w2 ⟨rfl, hb2⟩
        have HF := Lib.hid (HStep.of_below HI.out ((Chg.of_grown hgrow.out : Chg [] W w1).below.trans (hb2.mono (Chg.of_grown hgrow.out : Chg [] W w1).size)))
        clear hb2
        go_wp2_with fail
        go_ret2
        unfold MakeP
        rw [HR.out]
        exact ⟨rfl, HF.out⟩
end Go.Proofs.Ytlihonbmopeemaa.Hp
end
section
namespace Go.Proofs.Ytlihonbmopeemaa.Hp
open Go Go.RowKit Go.Proofs.Ytlihonbmopeemaa.HpLaw Go.Proofs.Ytlihonbmopeemaa.Ans Go.Proofs.Ytlihonbmopeemaa.Num Go.Proofs.Ytlihonbmopeemaa.DigLaw Go.Proofs.Ytlihonbmopeemaa.Fl Go.Proofs.Ytlihonbmopeemaa.Dig Go.Proofs.Ytlihonbmopeemaa.Float

def lookS (s : List Ob) : Nat → Int → Val → Val
  | 0, _, _ => nilV
  | n + 1, o, k => if (getS s o k).k = 0 then
      (match obAt s o with
      | Option.none => nilV
      | some ob => if ob.mt.k = 0 then nilV else lookS s n ob.mt.o k)
    else getS s o k
theorem boxes_nil (W : World) (k : Val) : (W.alloc (Obj.cells #[.int .i64 k.k, .int .u64 k.n, .string k.s, .int .i64 k.o] 34)).alloc (Obj.cells #[.int .i64 0, .int .u64 0, .string ⟨#[]⟩, .int .i64 0] 34) = boxes W k nilV := rfl
set_option maxHeartbeats 1000000 in
theorem look_walk {hp : Nat} {s : List Ob} {limit : Int} {F : List Nat} (o : Int) (k : Val) (hk : VOK k) (W : World) (h : HeapIs W hp s limit F) :
    Calls Try.prog 15 #[.pointer (some ⟨hp, 0, none⟩), .int .i64 o, k.v] W (ValP W (lookS s 17 o k)) := by
  have t0 := Lib.hid (Two.start W k nilV)
  have HI := Lib.hid h
  clear h
  unfold Val.v
  go_enter Try.func15, Try.ntmps15
  go_wp2_with fail
  have eb := boxes_nil W k
  rw [eb]
  go_loopw [1, 9] (fun o' i wr => ∃ (n : Nat) (q : Int), n ≤ 17 ∧ o' = .int .i64 q ∧ i = .int .i64 ((17 : Int) - (n : Int)) ∧ Hid (lookS s 17 o k = lookS s n q k) ∧ Two W k nilV wr) (fun _ i _ => (17 - intOf i).toNat)
  case atStart => exact ⟨17, o, Nat.le_refl _, rfl, rfl, Lib.hid rfl, t0.out⟩
  case round =>
    obtain ⟨n, q, hn, rfl, rfl, hl, ht⟩ := hrel
    have HT := Lib.hid ht
    obtain ⟨p0, p1, p2, p3, q0, q1, q2, q3, pf, qf⟩ := ht.facts
    clear ht
    cases n with
    | zero =>
      have T2 := Lib.hid (HT.out.put1 nilV)
      obtain ⟨_, _, _, _, s0, s1, s2, s3, _, _⟩ := T2.out.facts
      have HL : Hid (lookS s 17 o k = nilV) := hl.out.trans rfl
      go_wp2_with fail
      rw [put4_nil]
      exact bodyPost_ret (v := nilV.v) (by simp [results, Try.results15, go_sem, Val.out, s0, s1, s2, s3]) rfl ⟨by rw [HL.out], T2.out.below⟩
    | succ n =>
      have hwr := HI.out.kept (B := []) (Chg.of_below HT.out.below) (fun _ _ => List.not_mem_nil)
      have hg := get_walk q k hk wr hwr
      unfold Val.v at hg
      go_wp2_with fail
      refine hg.mono ?_
      rintro e w2 ⟨rfl, b2⟩
      obtain ⟨y, Hy⟩ : ∃ y, Hid (y = getS s q k) := ⟨_, Lib.hid rfl⟩
      rw [← Hy.out, Val.out]
      have T2 := Lib.hid (HT.out.step b2)
      have hw2 := HI.out.kept (B := []) (Chg.of_below T2.out.below) (fun _ _ => List.not_mem_nil)
      have b3 : Below w2.heap.size w2 (w2.alloc (Obj.cells #[.int .i64 y.k, .int .u64 y.n, .string y.s, .int .i64 y.o] 34)) := (Below.refl _ _).alloc (Nat.le_refl _) _
      have T3 := Lib.hid (T2.out.step b3)
      obtain ⟨r0, r1, r2, r3, s0, s1, s2, s3, rf, sf⟩ := T3.out.facts
      by_cases hy : y.k = 0
      · have e0 : (y.k != 0) = false := by rw [hy]; rfl
        have HY0 := Lib.hid hy
        have hw3 := HI.out.kept (B := []) (Chg.of_below T3.out.below) (fun _ _ => List.not_mem_nil)
        clear b2 hg hy hw2 hwr p0 p1 p2 p3 q0 q1 q2 q3 pf qf
        obtain ⟨os, v, h1, h2, h3, h4, h5⟩ := hw3
        cases ho : obAt s q with
        | none =>
          have hn' := obAt_none ho
          rw [← h2, obs_len] at hn'
          have hat := Lib.hid (at_no hn' _ h1)
          have HL : Hid (lookS s 17 o k = nilV) := by
            show lookS s 17 o k = nilV
            rw [hl.out]
            show (if (getS s q k).k = 0 then _ else _) = nilV
            rw [← Hy.out, if_pos HY0.out, ho]
          have T4 := Lib.hid (T3.out.put1 nilV)
          obtain ⟨_, _, _, _, x0, x1, x2, x3, _, _⟩ := T4.out.facts
          clear h1 h2 h3 h4 h5 ho hn'
          go_wp2_with fail
          refine hat.out.mono ?_
          rintro e w4 ⟨rfl, rfl⟩
          go_wp2_with fail
          rw [put4_nil]
          exact bodyPost_ret (v := nilV.v) (by simp [results, Try.results15, go_sem, Val.out, x0, x1, x2, x3]) rfl ⟨by rw [HL.out], T4.out.below⟩
        | some ob =>
          obtain ⟨i, rfl, hi⟩ := obAt_some ho
          rw [← h2, obs_at] at hi
          cases hx : os[i]? with
          | none => rw [hx] at hi; cases hi
          | some x =>
            rw [hx] at hi
            obtain rfl : x.1.ob = ob := Option.some.inj hi
            have hat := Lib.hid (at_yes hx _ h1)
            have c2 := h1.cells hx 2 (by decide)
            have c5 := h1.cells hx 5 (by decide)
            simp only [oCells, List.getElem?_cons_zero, List.getElem?_cons_succ] at c2 c5
            have HLs : Hid (lookS s 17 o k = if x.1.mt.k = 0 then nilV else lookS s n x.1.mt.o k) := by
              show lookS s 17 o k = _
              rw [hl.out]
              show (if (getS s ((i : Int) + 1) k).k = 0 then _ else _) = _
              rw [← Hy.out, if_pos HY0.out, ho]
              rfl
            clear h1 h2 h3 h4 h5 ho hx hi
            by_cases hm : x.1.mt.k = 0
            · have e1 : (x.1.mt.k == 0) = true := by rw [hm]; rfl
              have HL : Hid (lookS s 17 o k = nilV) := by
                show lookS s 17 o k = nilV
                rw [HLs.out, if_pos hm]
              have T4 := Lib.hid (T3.out.put1 nilV)
              obtain ⟨_, _, _, _, x0, x1, x2, x3, _, _⟩ := T4.out.facts
              clear hm
              go_wp2_with fail
              refine hat.out.mono ?_
              rintro e w4 ⟨rfl, rfl⟩
              go_wp2_with fail
              rw [put4_nil]
              exact bodyPost_ret (v := nilV.v) (by simp [results, Try.results15, go_sem, Val.out, x0, x1, x2, x3]) rfl ⟨by rw [HL.out], T4.out.below⟩
            · have e1 : (x.1.mt.k == 0) = false := by rw [beq_eq_false_iff_ne]; exact hm
              have HL : Hid (lookS s 17 o k = lookS s n x.1.mt.o k) := by
                show lookS s 17 o k = _
                rw [HLs.out, if_neg hm]
              clear hm
              go_wp2_with fail
              refine hat.out.mono ?_
              rintro e w4 ⟨rfl, rfl⟩
              go_wp2_with fail
              go_roundw
              case rel => exact ⟨n, x.1.mt.o, by omega, rfl, by go_num, HL, T3.out⟩
              case measure => simp [intOf]; omega
      · have e0 : (y.k != 0) = true := by rw [bne_iff_ne]; exact hy
        have HL : Hid (lookS s 17 o k = y) := by
          show lookS s 17 o k = y
          rw [hl.out]
          show (if (getS s q k).k = 0 then _ else getS s q k) = y
          rw [← Hy.out, if_neg hy]
        have T4 := Lib.hid (T3.out.put1 y)
        obtain ⟨_, _, _, _, x0, x1, x2, x3, _, _⟩ := T4.out.facts
        clear b2 hg hy hw2 hwr p0 p1 p2 p3 q0 q1 q2 q3 pf qf
        go_wp2_with fail
        rw [put4_eq]
        exact bodyPost_ret (v := y.v) (by simp [results, Try.results15, go_sem, Val.out, x0, x1, x2, x3]) rfl ⟨by rw [HL.out], T4.out.below⟩
end Go.Proofs.Ytlihonbmopeemaa.Hp
end
section
namespace Go.Proofs.Ytlihonbmopeemaa.Hp
open Go Go.ChangeShapes Go.WideShapes Go.RowKit Go.Proofs.Ytlihonbmopeemaa.HpLaw Go.Proofs.Ytlihonbmopeemaa.Ans Go.Proofs.Ytlihonbmopeemaa.Num Go.Proofs.Ytlihonbmopeemaa.DigLaw Go.Proofs.Ytlihonbmopeemaa.Fl Go.Proofs.Ytlihonbmopeemaa.Dig Go.Proofs.Ytlihonbmopeemaa.Float

theorem cellsV : Try.prog.cellsOf 34 = 4 := by kernel_rfl
section
variable {H : Type} {enc : TypeId × Value → H} {w : World} {base : Nat} {spare : Nat → Bool} {held : Bool}
theorem one_of {cs : List Value} {o : Nat} {v : Value} (h : (cs.drop o).take 1 = [v]) : cs[o]? = some v := by
  have e : ((cs.drop o).take 1)[0]? = some v := by rw [h]; rfl
  rw [List.getElem?_take, if_pos (by decide), List.getElem?_drop] at e
  exact e
theorem list4 : ∀ (cs : List Value), cs.length = 4 → ∃ a b c d, cs = [a, b, c, d]
  | [a, b, c, d], _ => ⟨a, b, c, d, rfl⟩
theorem wf_u64 {n : Int} (h : (Lit.int .u64 n).wf = true) : ∃ a : Nat, n = a ∧ a < Dig.W := by
  simp only [Lit.wf, Bool.and_eq_true, decide_eq_true_eq] at h
  have h1 : (0 : Int) ≤ n := h.1
  have h2 : n ≤ 18446744073709551615 := h.2
  refine ⟨n.toNat, by omega, ?_⟩
  show n.toNat < 18446744073709551616
  omega
set_option maxRecDepth 100000 in
/-- a value of scripts, out of its reading -/
theorem open_val {fuel : Nat} {cs : List Value} {x : DataW H × List MemPlace} (h : DataW.trod enc Try.prog w base spare held fuel 34 cs = some x) : ∃ y : Val, cs = y.cs ∧ VOK y := by
  obtain ⟨xs, n, rfl, hx, hlen, hxl, hf⟩ := DataW.trod_struct Try.underlying34 h
  have hl4 : cs.length = 4 := hlen.trans cellsV
  have hxl4 : xs.length = 4 := hxl
  have g : ∀ i (hi : i < 4), xs[i]? = some (xs[i]'(by omega)) := fun i hi => List.getElem?_eq_getElem (by omega)
  have f0 := hf 0 _ rfl
  have f1 := hf 1 _ rfl
  have f2 := hf 2 _ rfl
  have f3 := hf 3 _ rfl
  rw [g 0 (by decide)] at f0
  rw [g 1 (by decide)] at f1
  rw [g 2 (by decide)] at f2
  rw [g 3 (by decide)] at f3
  obtain ⟨k, hk, _, wk⟩ := DataW.trod_int Try.underlying3 f0
  obtain ⟨nn, hn, _, wn⟩ := DataW.trod_int Try.underlying32 f1
  obtain ⟨s, hs, _, ws⟩ := DataW.trod_string Try.underlying9 f2
  obtain ⟨o, ho, _, wo⟩ := DataW.trod_int Try.underlying3 f3
  have c0 : cs[0]? = some (.int .i64 k) := one_of hk
  have c1 : cs[1]? = some (.int .u64 nn) := one_of hn
  have c2 : cs[2]? = some (.string s) := one_of hs
  have c3 : cs[3]? = some (.int .i64 o) := one_of ho
  have hv : VOK ⟨k, nn, s, o⟩ := ⟨wf_u64 wn, ws⟩
  refine ⟨⟨k, nn, s, o⟩, ?_, hv⟩
  obtain ⟨d0, d1, d2, d3, rfl⟩ := list4 cs hl4
  obtain rfl := Option.some.inj c0
  obtain rfl := Option.some.inj c1
  obtain rfl := Option.some.inj c2
  obtain rfl := Option.some.inj c3
  rfl
end
end Go.Proofs.Ytlihonbmopeemaa.Hp
end
