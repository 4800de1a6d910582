/- Arguments that hold values of scripts, opened. No conditions. -/
import Derived.Test.YtlihonbmopeemaaHeapB
import Derived.OpenShut
import Derived.ProofKit
import Derived.Deep.CutBlock
import Derived.Deep.DrawnRows
namespace Go.Proofs.Ytlihonbmopeemaa.Hp
open Go Go.ChangeShapes Go.WideShapes Go.RowKit Go.Proofs.Ytlihonbmopeemaa.HpLaw Go.Proofs.Ytlihonbmopeemaa.Ans Go.Proofs.Ytlihonbmopeemaa.Num Go.Proofs.Ytlihonbmopeemaa.DigLaw Go.Proofs.Ytlihonbmopeemaa.Fl Go.Proofs.Ytlihonbmopeemaa.Dig Go.Proofs.Ytlihonbmopeemaa.Float

theorem cellsV : Try.prog.cellsOf 34 = 4 := by kernel_rfl
theorem cells4V : Try.prog.cellsOf 41 = 16 := by kernel_rfl
section
variable {H : Type} {enc : TypeId × Value → H} {w : World} {base : Nat} {spare : Nat → Bool} {held : Bool}
theorem one_of {cs : List Value} {o : Nat} {v : Value} (h : (cs.drop o).take 1 = [v]) : cs[o]? = some v := by
  have e : ((cs.drop o).take 1)[0]? = some v := by rw [h]; rfl
  rw [List.getElem?_take, if_pos (by decide), List.getElem?_drop] at e
  exact e
theorem list4 : ∀ (cs : List Value), cs.length = 4 → ∃ a b c d, cs = [a, b, c, d]
  | [a, b, c, d], _ => ⟨a, b, c, d, rfl⟩
theorem wf_u64 {n : Int} (h : (Lit.int .u64 n).wf = true) : ∃ a : Nat, n = a ∧ a < Dig.W := by
  simp only [Lit.wf, Bool.and_eq_true, decide_eq_true_eq] at h
  have h1 : (0 : Int) ≤ n := h.1
  have h2 : n ≤ 18446744073709551615 := h.2
  refine ⟨n.toNat, by omega, ?_⟩
  show n.toNat < 18446744073709551616
  omega
set_option maxRecDepth 100000 in
/-- a value of scripts, out of its reading -/
theorem open_val {fuel : Nat} {cs : List Value} {x : DataW H × List MemPlace} (h : DataW.trod enc Try.prog w base spare held fuel 34 cs = some x) : ∃ y : Val, cs = y.cs ∧ VOK y := by
  obtain ⟨xs, n, rfl, hx, hlen, hxl, hf⟩ := DataW.trod_struct Try.underlying34 h
  have hl4 : cs.length = 4 := hlen.trans cellsV
  have hxl4 : xs.length = 4 := hxl
  have g : ∀ i (hi : i < 4), xs[i]? = some (xs[i]'(by omega)) := fun i hi => List.getElem?_eq_getElem (by omega)
  have f0 := hf 0 _ rfl
  have f1 := hf 1 _ rfl
  have f2 := hf 2 _ rfl
  have f3 := hf 3 _ rfl
  rw [g 0 (by decide)] at f0
  rw [g 1 (by decide)] at f1
  rw [g 2 (by decide)] at f2
  rw [g 3 (by decide)] at f3
  obtain ⟨k, hk, _, wk⟩ := DataW.trod_int Try.underlying3 f0
  obtain ⟨nn, hn, _, wn⟩ := DataW.trod_int Try.underlying32 f1
  obtain ⟨s, hs, _, ws⟩ := DataW.trod_string Try.underlying9 f2
  obtain ⟨o, ho, _, wo⟩ := DataW.trod_int Try.underlying3 f3
  have c0 : cs[0]? = some (.int .i64 k) := one_of hk
  have c1 : cs[1]? = some (.int .u64 nn) := one_of hn
  have c2 : cs[2]? = some (.string s) := one_of hs
  have c3 : cs[3]? = some (.int .i64 o) := one_of ho
  have hv : VOK ⟨k, nn, s, o⟩ := ⟨wf_u64 wn, ws⟩
  refine ⟨⟨k, nn, s, o⟩, ?_, hv⟩
  obtain ⟨d0, d1, d2, d3, rfl⟩ := list4 cs hl4
  obtain rfl := Option.some.inj c0
  obtain rfl := Option.some.inj c1
  obtain rfl := Option.some.inj c2
  obtain rfl := Option.some.inj c3
  rfl
theorem okWide_array {P : Program} {r : Reach} {b0 : Nat} {t e : TypeId} {n : Nat} {v : Value} (ht : P.underlying t = some (.array n e)) (h : Value.okWide P w r b0 t v) : ∃ cs, v = .agg cs ∧ cs.size = P.cellsOf t := by
  simp only [Value.okWide, ht] at h
  obtain ⟨cs, h1, h2, _⟩ := h
  exact ⟨cs, h1, h2⟩
def fourV (k l v x : Val) : Value := .agg #[.int .i64 k.k, .int .u64 k.n, .string k.s, .int .i64 k.o, .int .i64 l.k, .int .u64 l.n, .string l.s, .int .i64 l.o, .int .i64 v.k, .int .u64 v.n, .string v.s, .int .i64 v.o, .int .i64 x.k, .int .u64 x.n, .string x.s, .int .i64 x.o]
set_option maxRecDepth 100000 in
theorem open_four {r : Reach} {b0 : Nat} {v : Value} {d : DataW H} {p : List MemPlace} (hv : Value.okWide Try.prog w r b0 41 v) (h : DataW.Trod enc Try.prog w base spare held 41 v d p) :
    ∃ a b c e : Val, v = fourV a b c e ∧ VOK a ∧ VOK b ∧ VOK c ∧ VOK e := by
  obtain ⟨cs, rfl, hsz⟩ := okWide_array Try.underlying41 hv
  obtain ⟨fuel, hf⟩ := h
  obtain ⟨xs, n, _, hx, hlen, hxl, hg⟩ := DataW.trod_array Try.underlying41 hf
  have hC := cellsV
  have hcs : (Value.agg cs).cells.toList = cs.toList := rfl
  rw [hcs] at hg hlen
  have hl16 : cs.toList.length = 16 := hlen.trans cells4V
  have g : ∀ i (hi : i < 4), ∃ y : Val, (cs.toList.drop (i * 4)).take 4 = y.cs ∧ VOK y := by
    intro i hi
    have h1 := hg i hi
    rw [hC, List.getElem?_eq_getElem (by omega)] at h1
    exact open_val h1
  obtain ⟨a, ha, oa⟩ := g 0 (by decide)
  obtain ⟨b, hb, ob⟩ := g 1 (by decide)
  obtain ⟨c, hc, oc⟩ := g 2 (by decide)
  obtain ⟨e, he, oe⟩ := g 3 (by decide)
  refine ⟨a, b, c, e, ?_, oa, ob, oc, oe⟩
  have hall : cs.toList = a.cs ++ (b.cs ++ (c.cs ++ e.cs)) := by
    rw [← ha, ← hb, ← hc, ← he]
    have e1 : ∀ (l : List Value) (n : Nat), l.drop n = (l.drop n).take 4 ++ l.drop (n + 4) := fun l n => by
      rw [← List.drop_drop, List.take_append_drop]
    rw [Nat.zero_mul, List.drop_zero]
    conv => lhs; rw [← List.drop_zero (l := cs.toList), e1 cs.toList 0, e1 cs.toList (0 + 4), e1 cs.toList (0 + 4 + 4), e1 cs.toList (0 + 4 + 4 + 4)]
    rw [List.drop_eq_nil_of_le (show cs.toList.length ≤ 0 + 4 + 4 + 4 + 4 by omega), List.append_nil, List.drop_zero]
  have : cs = (a.cs ++ (b.cs ++ (c.cs ++ e.cs))).toArray := by rw [← hall]
  rw [this]; rfl
end
end Go.Proofs.Ytlihonbmopeemaa.Hp

/- SetMeta of a heap, told plainly. Condition: the value's number is a word of 64 bits. -/
namespace Go.Proofs.Ytlihonbmopeemaa.Hp
open Go Go.RowKit Go.Proofs.Ytlihonbmopeemaa.HpLaw Go.Proofs.Ytlihonbmopeemaa.Ans Go.Proofs.Ytlihonbmopeemaa.Num Go.Proofs.Ytlihonbmopeemaa.DigLaw Go.Proofs.Ytlihonbmopeemaa.Fl Go.Proofs.Ytlihonbmopeemaa.Dig Go.Proofs.Ytlihonbmopeemaa.Float

theorem objCells_put : ∀ (l : List Obj2) (i j : Nat) (vs : List Value) (x y : Obj2), l[i]? = some x → j + vs.length ≤ 9 → oCells y = putL (oCells x) j vs → putL (objCells l) (i * 9 + j) vs = objCells (l.set i y)
  | [], i, j, vs, x, y, h, _, _ => by cases h
  | a :: l, 0, j, vs, x, y, h, hj, he => by
    obtain rfl : a = x := Option.some.inj h
    show putL (oCells a ++ objCells l) (0 * 9 + j) vs = oCells y ++ objCells l
    rw [he, Nat.zero_mul, Nat.zero_add]
    exact putL_head vs (oCells a) (objCells l) j (by rw [oCells_len]; exact hj)
  | a :: l, i + 1, j, vs, x, y, h, hj, he => by
    have e1 : objCells (a :: l) = oCells a ++ objCells l := List.flatMap_cons ..
    have e2 : objCells (a :: l.set i y) = oCells a ++ objCells (l.set i y) := List.flatMap_cons ..
    rw [List.set_cons_succ, e1, e2, ← objCells_put l i j vs x y h hj he, show (i + 1) * 9 + j = (oCells a).length + (i * 9 + j) by rw [oCells_len]; omega, putL_append]
where
  putL_head : ∀ (vs p q : List Value) (j : Nat), j + vs.length ≤ p.length → putL (p ++ q) j vs = putL p j vs ++ q
  | [], p, q, j, _ => rfl
  | v :: r, p, q, j, h => by
    rw [List.length_cons] at h
    unfold putL
    rw [List.set_append_left _ _ (by omega), putL_head r (p.set j v) q (j + 1) (by rw [List.length_set]; omega)]
/-- some of an object's cells turn, and none of its parts -/
theorem HeapAt.putObj {w : World} {hp : Nat} {os : List Obj2} {v : Value} {used limit : Int} (h : HeapAt w hp os v used limit) {i : Nat} {x y : Obj2} (hx : os[i]? = some x) {j : Nat} {vs : List Value} (hj : j + vs.length ≤ 9) (hc : oCells y = putL (oCells x) j vs)
    (ht : y.1.tab = x.1.tab) (hl : y.2 = x.2) (hk : y.1.kind = x.1.kind) (hs : y.1.slots = x.1.slots) :
    HeapAt (w.setCells (vb v) (i * 9 + j) vs) hp (os.set i y) v used limit ∧ Chg (own v) w (w.setCells (vb v) (i * 9 + j) vs) ∧ hfoot hp v (os.set i y) = hfoot hp v os := by
  have hil : i < os.length := (List.getElem?_eq_some_iff.1 hx).1
  obtain ⟨ad, cap, hv, c1, c2, c3⟩ := row_form h.row
  rw [c3 (by omega)] at hv
  have hrow := h.row
  rw [hv] at hrow
  obtain ⟨r1, r2⟩ := row_put vs (i * 9 + j) hrow
  rw [objCells_put os i j vs x y hx hj hc] at r1
  have hown : own v = [vb v] := by rw [hv]; rfl
  have hC : Chg (own v) w (w.setCells (vb v) (i * 9 + j) vs) := by rw [hown]; exact r2
  have hft : ft y = ft x := by unfold ft tft; rw [ht, hl]
  have hget : ∀ (q : Nat) (z : Obj2), (os.set i y)[q]? = some z → ∃ z', os[q]? = some z' ∧ ft z = ft z' ∧ (ObjAt (w.setCells (vb v) (i * 9 + j) vs) z' → ObjAt (w.setCells (vb v) (i * 9 + j) vs) z) := by
    intro q z hz
    rw [List.getElem?_set] at hz
    by_cases c : i = q
    · rw [if_pos c, if_pos (c ▸ hil)] at hz
      obtain rfl := Option.some.inj hz
      refine ⟨x, c ▸ hx, hft, fun ho => ⟨?_, ?_, ?_, ?_, ?_⟩⟩
      · rw [ht, hl]; exact ho.tab
      · rw [hl, hs]; exact ho.slots
      · intro b hb
        have hb' : b ∈ tft x := by unfold tft at hb ⊢; rw [ht, hl] at hb; exact hb
        rw [hl]; exact ho.apart b hb'
      · rw [ht, hk]; exact ho.kind
      · rw [hk, hs]; exact ho.plain
    · rw [if_neg c] at hz
      exact ⟨z, hz, rfl, id⟩
  have hsep : ∀ (q : Nat) (z : Obj2), os[q]? = some z → ObjAt (w.setCells (vb v) (i * 9 + j) vs) z := fun q z hz => (h.objs q z hz).kept hC (fun b hb => (h.sepH q z hz b hb).2)
  refine ⟨⟨?_, ?_, ?_, h.hpv, ?_, ?_⟩, hC, ?_⟩
  · rw [hC.block hp (h.lt hp (hfoot_hp ..)) h.hpv]; exact h.head
  · rw [List.length_set]
    have r1' := r1
    rw [← hv] at r1'
    exact r1'
  · intro q z hz
    obtain ⟨z', h1, _, h3⟩ := hget q z hz
    exact h3 (hsep q z' h1)
  · intro q z hz b hb
    obtain ⟨z', h1, h2, _⟩ := hget q z hz
    exact h.sepH q z' h1 b (h2 ▸ hb)
  · intro q r z u hz hu hqr b hb hbu
    obtain ⟨z', h1, h2, _⟩ := hget q z hz
    obtain ⟨u', k1, k2, _⟩ := hget r u hu
    exact h.sep q r z' u' h1 k1 hqr b (h2 ▸ hb) (k2 ▸ hbu)
  · have hfm : ∀ (l : List Obj2) (q : Nat), l[q]? = some x → (l.set q y).flatMap ft = l.flatMap ft := by
      intro l
      induction l with
      | nil => intro q hq; cases hq
      | cons a l ih =>
        intro q hq
        cases q with
        | zero =>
          obtain rfl : a = x := Option.some.inj hq
          rw [List.set_cons_zero, List.flatMap_cons, List.flatMap_cons, hft]
        | succ q => rw [List.set_cons_succ, List.flatMap_cons, List.flatMap_cons, ih q hq]
    unfold hfoot
    rw [hfm os i hx]
def isTab (s : List Ob) (o : Int) : Bool := match obAt s o with
  | some ob => decide (ob.kind = 5)
  | Option.none => false
def setMt (ob : Ob) (m : Val) : Ob := { ob with mt := m }
def setMetaS (s : List Ob) (o : Int) (m : Val) : Int × List Ob := match obAt s o with
  | Option.none => (5, s)
  | some ob => if ob.kind = 5 then
      (if (normV m).k = 0 ∨ ((normV m).k = 5 ∧ isTab s (normV m).o = true) then (0, s.set (o.toNat - 1) (setMt ob (normV m))) else (1, s))
    else (5, s)
def AnsP (W : World) (hp : Nat) (limit : Int) (F : List Nat) (r : Int × List Ob) (e : Ending) (w' : World) : Prop := e = .returned (.int .i64 r.1) ∧ HStep W hp limit F r.2 w'
/-- the tables' pointer, whatever there is -/
theorem table_any {W : World} {hp : Nat} {s : List Ob} {limit : Int} {F : List Nat} (h : HeapIs W hp s limit F) (o : Int) : ∃ t : Option Addr, (t = Option.none ↔ isTab s o = false) ∧ ∀ w, Below W.heap.size W w →
    Calls Try.prog 24 #[.pointer (some ⟨hp, 0, none⟩), .int .i64 o] w fun e w' => e = .returned (.pointer t) ∧ w = w' := by
  rcases tab_cases h o with ⟨hno, hcall⟩ | ⟨os, v, i, ob, l, T, hyes⟩
  · refine ⟨Option.none, ⟨fun _ => ?_, fun _ => rfl⟩, hcall⟩
    unfold isTab
    rcases hno with hno | ⟨ob, hno, h1, _⟩
    · rw [hno]
    · rw [hno]; exact decide_eq_false h1
  · refine ⟨some ⟨l.p, 0, none⟩, ⟨(fun e => by cases e), fun e => ?_⟩, hyes.call⟩
    unfold isTab at e
    rw [hyes.obAt.1] at e
    have : decide (ob.ob.kind = 5) = true := decide_eq_true hyes.obAt.2.2.1
    have e' : decide (ob.ob.kind = 5) = false := e
    rw [e'] at this; cases this
theorem setCells_four (w : World) (g o : Nat) (y : Val) : w.setCells g o y.cs = (((w.setCell ⟨g, o, none⟩ (.int .i64 y.k)).setCell ⟨g, o + 1, none⟩ (.int .u64 y.n)).setCell ⟨g, o + 2, none⟩ (.string y.s)).setCell ⟨g, o + 3, none⟩ (.int .i64 y.o) := rfl
set_option maxHeartbeats 1000000 in
theorem setMeta_walk {hp : Nat} {s : List Ob} {limit : Int} {F : List Nat} (o : Int) (m : Val) (hm : VOK m) (W : World) (h : HeapIs W hp s limit F) :
    Calls Try.prog 16 #[.pointer (some ⟨hp, 0, none⟩), .int .i64 o, m.v] W (AnsP W hp limit F (setMetaS s o m)) := by
  have hN := fun w => Normal_walk m hm w
  have t0 := Lib.hid (One.start W m)
  unfold Val.v at hN ⊢
  have h0 := h
  obtain ⟨os, v, h1, h2, h3, h4, h5⟩ := h
  have HI := Lib.hid h0
  have hk1 := h1.kept (B := []) (Chg.of_below t0.out.below) (fun _ _ => List.not_mem_nil)
  cases ho : obAt s o with
  | none =>
    have hn := obAt_none ho
    rw [← h2, obs_len] at hn
    have hat := at_no hn _ hk1
    have HG : Hid (∀ w, Below W.heap.size W w → AnsP W hp limit F (setMetaS s o m) (.returned (.int .i64 5)) w) := by
      intro w hb
      unfold AnsP setMetaS
      rw [ho]
      exact ⟨rfl, HStep.of_below HI.out hb⟩
    clear ho hn h0 h1 h2 h3 h4 h5 hk1
    go_enter Try.func16, Try.ntmps16
    go_wp2_with fail
    refine hat.mono ?_
    rintro e w1 ⟨rfl, rfl⟩
    obtain ⟨p0, p1, p2, p3, pf⟩ := t0.out.facts
    go_wp2_with fail
    refine (hN _).mono ?_
    rintro e w2 ⟨rfl, b2⟩
    have T2 := Lib.hid (t0.out.step b2)
    obtain ⟨q0, q1, q2, q3, qf⟩ := T2.out.facts
    obtain ⟨y, Hy⟩ : ∃ y, Hid (y = normV m) := ⟨_, Lib.hid rfl⟩
    rw [← Hy.out, Val.out]
    have T3 := Lib.hid (T2.out.put y)
    clear b2 hN
    go_wp2_with fail
    go_ret
    rw [put4_eq]
    exact HG.out _ T3.out.below
  | some ob =>
    obtain ⟨i, rfl, hi⟩ := obAt_some ho
    rw [← h2, obs_at] at hi
    cases hx : os[i]? with
    | none => rw [hx] at hi; cases hi
    | some x =>
      rw [hx] at hi
      obtain rfl : x.1.ob = ob := Option.some.inj hi
      have hobj := h1.objs i x hx
      have hat := at_yes hx _ hk1
      obtain ⟨t, Ht⟩ : ∃ t, Hid (t = tptr x) := ⟨_, Lib.hid rfl⟩
      have hcell1 : W.cell? ⟨vb v, i * 9 + 1, none⟩ = some (tptr x) := h1.cells hx 1 (by decide)
      have hvb : vb v < W.heap.size := World.block_lt_of_cell? W _ hcell1
      go_enter Try.func16, Try.ntmps16
      go_wp2_with fail
      refine hat.mono ?_
      rintro e w1 ⟨rfl, rfl⟩
      obtain ⟨p0, p1, p2, p3, pf⟩ := t0.out.facts
      go_upto_region 2 with fail
      go_wp2_with fail
      refine (hN _).mono ?_
      rintro e w2 ⟨rfl, b2⟩
      have T2 := Lib.hid (t0.out.step b2)
      obtain ⟨q0, q1, q2, q3, qf⟩ := T2.out.facts
      obtain ⟨y, Hy⟩ : ∃ y, Hid (y = normV m) := ⟨_, Lib.hid rfl⟩
      rw [← Hy.out, Val.out]
      have T3 := Lib.hid (T2.out.put y)
      obtain ⟨w3, Hw3⟩ : ∃ w3, Hid (w3 = put4 w2 W.heap.size y) := ⟨_, Lib.hid rfl⟩
      rw [← Hw3.out] at T3
      clear b2 hN p0 p1 p2 p3 pf
      go_upto_region 3 with fail
      rw [put4_eq, ← Hw3.out]
      clear q0 q1 q2 q3 qf
      obtain ⟨q0, q1, q2, q3, qf⟩ := T3.out.facts
      have h3k := h1.kept (B := []) (Chg.of_below T3.out.below) (fun _ _ => List.not_mem_nil)
      have hc1 : w3.cell? ⟨vb v, i * 9 + 1, none⟩ = some (tptr x) := h3k.cells hx 1 (by decide)
      have HI3 := HI.out.kept (B := []) (Chg.of_below T3.out.below) (fun _ _ => List.not_mem_nil)
      cases htb : x.1.tab with
      | none =>
        have hk5 : ¬ x.1.ob.kind = 5 := fun e => by
          have := hobj.kind.2 e
          rw [htb] at this; cases this
        have HG : Hid (AnsP W hp limit F (setMetaS s ((i : Int) + 1) m) (.returned (.int .i64 5)) w3) := by
          show AnsP _ _ _ _ _ _ _
          unfold AnsP setMetaS
          rw [ho]
          simp only
          rw [if_neg hk5]
          exact ⟨rfl, HStep.of_below HI.out T3.out.below⟩
        have hc1' : w3.cell? ⟨vb v, i * 9 + 1, none⟩ = some (.pointer Option.none) := by
          rw [hc1]; unfold tptr; rw [htb]; rfl
        clear hc1 hk5 h3k ho h0 h1 h2 h3 h4 h5 hk1 hobj hcell1
        go_wp2_with fail
        go_ret
        exact HG.out
      | some T =>
        have hk5 : x.1.ob.kind = 5 := hobj.kind.1 (by rw [htb]; rfl)
        have hc1' : w3.cell? ⟨vb v, i * 9 + 1, none⟩ = some (.pointer (some ⟨x.2.p, 0, none⟩)) := by
          rw [hc1]; unfold tptr; rw [htb]; rfl
        obtain ⟨t', ht', hcall⟩ := table_any HI3 y.o
        have HC := Lib.hid (hcall w3 (Below.refl _ _))
        have hS : setMetaS s ((i : Int) + 1) m = if y.k = 0 ∨ (y.k = 5 ∧ isTab s y.o = true) then (0, s.set i (setMt x.1.ob y)) else (1, s) := by
          unfold setMetaS
          rw [ho]
          simp only
          rw [if_pos hk5, ← Hy.out, show ((i : Int) + 1).toNat - 1 = i by omega]
        have HNo : Hid (¬ (y.k = 0 ∨ (y.k = 5 ∧ isTab s y.o = true)) → AnsP W hp limit F (setMetaS s ((i : Int) + 1) m) (.returned (.int .i64 1)) w3) := by
          intro hn
          unfold AnsP
          rw [hS, if_neg hn]
          exact ⟨rfl, HStep.of_below HI.out T3.out.below⟩
        have hput := h3k.putObj hx (y := ({ x.1 with mt := y }, x.2)) (j := 2) (vs := y.cs) (by show 2 + 4 ≤ 9; decide) rfl rfl rfl rfl rfl
        have HYes : Hid (y.k = 0 ∨ (y.k = 5 ∧ isTab s y.o = true) → AnsP W hp limit F (setMetaS s ((i : Int) + 1) m) (.returned (.int .i64 0)) (w3.setCells (vb v) (i * 9 + 2) y.cs)) := by
          intro hy
          unfold AnsP
          rw [hS, if_pos hy]
          obtain ⟨k1, k2, k3⟩ := hput
          have hs : obs (os.set i ({ x.1 with mt := y }, x.2)) = s.set i (setMt x.1.ob y) := by
            rw [obs_set, h2]
            exact congrArg _ rfl
          have hi' : s[i]? = some x.1.ob := by rw [← h2, obs_at, hx]; rfl
          have hus : usedOf (s.set i (setMt x.1.ob y)) = usedOf s := by
            have := usedOf_set s i x.1.ob (setMt x.1.ob y) hi'
            have e : (setMt x.1.ob y).cells = x.1.ob.cells := rfl
            omega
          refine ⟨rfl, F, ⟨_, v, by rw [hus]; exact k1, hs, by rw [k3]; exact h3, by rw [hus]; exact h4, h5⟩, (Chg.of_below (B := F) T3.out.below).trans k2 (fun b hb _ => by rw [h3]; exact hfoot_v hb), fun b hb => .inl hb⟩
        have c2 : w3.cell? ⟨vb v, i * 9 + 2, none⟩ = some (.int .i64 x.1.mt.k) := h3k.cells hx 2 (by decide)
        have c3 : w3.cell? ⟨vb v, i * 9 + 3, none⟩ = some (.int .u64 x.1.mt.n) := h3k.cells hx 3 (by decide)
        have c4 : w3.cell? ⟨vb v, i * 9 + 4, none⟩ = some (.string x.1.mt.s) := h3k.cells hx 4 (by decide)
        have c5 : w3.cell? ⟨vb v, i * 9 + 5, none⟩ = some (.int .i64 x.1.mt.o) := h3k.cells hx 5 (by decide)
        have cf : ∀ q, w3.frozen? ⟨vb v, q, none⟩ = false := by
          intro q
          obtain ⟨ad, cap, hv, d1, d2, d3⟩ := row_form h3k.row
          have hil := (List.getElem?_eq_some_iff.1 hx).1
          rw [d3 (by omega)] at hv
          have hrow := h3k.row
          rw [hv] at hrow
          exact hrow.frozenAt q
        have Ht' := Lib.hid ht'
        clear hc1 hk5 h3k ho h0 h1 h2 h3 h4 h5 hk1 hobj hcell1 hput hS HI3 hcall ht' htb
        by_cases k0 : y.k = 0
        · have e0 : (y.k != 0) = false := by rw [k0]; rfl
          have HG := Lib.hid (HYes.out (.inl k0))
          clear k0 HYes HNo
          go_wp2_with fail
          go_ret
          rw [setCells_four] at HG
          exact HG.out
        · have e0 : (y.k != 0) = true := by rw [bne_iff_ne]; exact k0
          by_cases k5 : y.k = 5
          · have e5 : (y.k != 5) = false := by rw [k5]; rfl
            cases t' with
            | none =>
              have HG := Lib.hid (HNo.out (fun c => c.elim k0 (fun c => by
                have := Ht'.out.1 rfl
                rw [this] at c; exact absurd c.2 (by decide))))
              clear k0 k5 HYes HNo
              go_wp2_with fail
              refine HC.out.mono ?_
              rintro e w4 ⟨rfl, rfl⟩
              go_wp2_with fail
              go_ret
              exact HG.out
            | some ta =>
              have HG := Lib.hid (HYes.out (.inr ⟨k5, by
                cases h : isTab s y.o
                · have := Ht'.out.2 h
                  cases this
                · rfl⟩))
              clear k0 k5 HYes HNo
              go_wp2_with fail
              refine HC.out.mono ?_
              rintro e w4 ⟨rfl, rfl⟩
              go_wp2_with fail
              go_ret
              rw [setCells_four] at HG
              exact HG.out
          · have e5 : (y.k != 5) = true := by rw [bne_iff_ne]; exact k5
            have HG := Lib.hid (HNo.out (fun c => c.elim k0 (fun c => k5 c.1)))
            clear k0 k5 HYes HNo
            go_wp2_with fail
            go_ret
            exact HG.out
end Go.Proofs.Ytlihonbmopeemaa.Hp

/- Look of a heap, told plainly. Condition: the key's number is a word of 64 bits. -/
namespace Go.Proofs.Ytlihonbmopeemaa.Hp
open Go Go.RowKit Go.Proofs.Ytlihonbmopeemaa.HpLaw Go.Proofs.Ytlihonbmopeemaa.Ans Go.Proofs.Ytlihonbmopeemaa.Num Go.Proofs.Ytlihonbmopeemaa.DigLaw Go.Proofs.Ytlihonbmopeemaa.Fl Go.Proofs.Ytlihonbmopeemaa.Dig Go.Proofs.Ytlihonbmopeemaa.Float

def lookS (s : List Ob) : Nat → Int → Val → Val
  | 0, _, _ => nilV
  | n + 1, o, k => if (getS s o k).k = 0 then
      (match obAt s o with
      | Option.none => nilV
      | some ob => if ob.mt.k = 0 then nilV else lookS s n ob.mt.o k)
    else getS s o k
theorem boxes_nil (W : World) (k : Val) : (W.alloc (Obj.cells #[.int .i64 k.k, .int .u64 k.n, .string k.s, .int .i64 k.o] 34)).alloc (Obj.cells #[.int .i64 0, .int .u64 0, .string ⟨#[]⟩, .int .i64 0] 34) = boxes W k nilV := rfl
set_option maxHeartbeats 1000000 in
theorem look_walk {hp : Nat} {s : List Ob} {limit : Int} {F : List Nat} (o : Int) (k : Val) (hk : VOK k) (W : World) (h : HeapIs W hp s limit F) :
    Calls Try.prog 15 #[.pointer (some ⟨hp, 0, none⟩), .int .i64 o, k.v] W (ValP W (lookS s 17 o k)) := by
  have t0 := Lib.hid (Two.start W k nilV)
  have HI := Lib.hid h
  clear h
  unfold Val.v
  go_enter Try.func15, Try.ntmps15
  go_wp2_with fail
  have eb := boxes_nil W k
  rw [eb]
  go_loopw [1, 9] (fun o' i wr => ∃ (n : Nat) (q : Int), n ≤ 17 ∧ o' = .int .i64 q ∧ i = .int .i64 ((17 : Int) - (n : Int)) ∧ Hid (lookS s 17 o k = lookS s n q k) ∧ Two W k nilV wr) (fun _ i _ => (17 - intOf i).toNat)
  case atStart => exact ⟨17, o, Nat.le_refl _, rfl, rfl, Lib.hid rfl, t0.out⟩
  case round =>
    obtain ⟨n, q, hn, rfl, rfl, hl, ht⟩ := hrel
    have HT := Lib.hid ht
    obtain ⟨p0, p1, p2, p3, q0, q1, q2, q3, pf, qf⟩ := ht.facts
    clear ht
    cases n with
    | zero =>
      have T2 := Lib.hid (HT.out.put1 nilV)
      obtain ⟨_, _, _, _, s0, s1, s2, s3, _, _⟩ := T2.out.facts
      have HL : Hid (lookS s 17 o k = nilV) := hl.out.trans rfl
      go_wp2_with fail
      rw [put4_nil]
      exact bodyPost_ret (v := nilV.v) (by simp [results, Try.results15, go_sem, Val.out, s0, s1, s2, s3]) rfl ⟨by rw [HL.out], T2.out.below⟩
    | succ n =>
      have hwr := HI.out.kept (B := []) (Chg.of_below HT.out.below) (fun _ _ => List.not_mem_nil)
      have hg := get_walk q k hk wr hwr
      unfold Val.v at hg
      go_wp2_with fail
      refine hg.mono ?_
      rintro e w2 ⟨rfl, b2⟩
      obtain ⟨y, Hy⟩ : ∃ y, Hid (y = getS s q k) := ⟨_, Lib.hid rfl⟩
      rw [← Hy.out, Val.out]
      have T2 := Lib.hid (HT.out.step b2)
      have hw2 := HI.out.kept (B := []) (Chg.of_below T2.out.below) (fun _ _ => List.not_mem_nil)
      have b3 : Below w2.heap.size w2 (w2.alloc (Obj.cells #[.int .i64 y.k, .int .u64 y.n, .string y.s, .int .i64 y.o] 34)) := (Below.refl _ _).alloc (Nat.le_refl _) _
      have T3 := Lib.hid (T2.out.step b3)
      obtain ⟨r0, r1, r2, r3, s0, s1, s2, s3, rf, sf⟩ := T3.out.facts
      by_cases hy : y.k = 0
      · have e0 : (y.k != 0) = false := by rw [hy]; rfl
        have HY0 := Lib.hid hy
        have hw3 := HI.out.kept (B := []) (Chg.of_below T3.out.below) (fun _ _ => List.not_mem_nil)
        clear b2 hg hy hw2 hwr p0 p1 p2 p3 q0 q1 q2 q3 pf qf
        obtain ⟨os, v, h1, h2, h3, h4, h5⟩ := hw3
        cases ho : obAt s q with
        | none =>
          have hn' := obAt_none ho
          rw [← h2, obs_len] at hn'
          have hat := Lib.hid (at_no hn' _ h1)
          have HL : Hid (lookS s 17 o k = nilV) := by
            show lookS s 17 o k = nilV
            rw [hl.out]
            show (if (getS s q k).k = 0 then _ else _) = nilV
            rw [← Hy.out, if_pos HY0.out, ho]
          have T4 := Lib.hid (T3.out.put1 nilV)
          obtain ⟨_, _, _, _, x0, x1, x2, x3, _, _⟩ := T4.out.facts
          clear h1 h2 h3 h4 h5 ho hn'
          go_wp2_with fail
          refine hat.out.mono ?_
          rintro e w4 ⟨rfl, rfl⟩
          go_wp2_with fail
          rw [put4_nil]
          exact bodyPost_ret (v := nilV.v) (by simp [results, Try.results15, go_sem, Val.out, x0, x1, x2, x3]) rfl ⟨by rw [HL.out], T4.out.below⟩
        | some ob =>
          obtain ⟨i, rfl, hi⟩ := obAt_some ho
          rw [← h2, obs_at] at hi
          cases hx : os[i]? with
          | none => rw [hx] at hi; cases hi
          | some x =>
            rw [hx] at hi
            obtain rfl : x.1.ob = ob := Option.some.inj hi
            have hat := Lib.hid (at_yes hx _ h1)
            have c2 := h1.cells hx 2 (by decide)
            have c5 := h1.cells hx 5 (by decide)
            simp only [oCells, List.getElem?_cons_zero, List.getElem?_cons_succ] at c2 c5
            have HLs : Hid (lookS s 17 o k = if x.1.mt.k = 0 then nilV else lookS s n x.1.mt.o k) := by
              show lookS s 17 o k = _
              rw [hl.out]
              show (if (getS s ((i : Int) + 1) k).k = 0 then _ else _) = _
              rw [← Hy.out, if_pos HY0.out, ho]
              rfl
            clear h1 h2 h3 h4 h5 ho hx hi
            by_cases hm : x.1.mt.k = 0
            · have e1 : (x.1.mt.k == 0) = true := by rw [hm]; rfl
              have HL : Hid (lookS s 17 o k = nilV) := by
                show lookS s 17 o k = nilV
                rw [HLs.out, if_pos hm]
              have T4 := Lib.hid (T3.out.put1 nilV)
              obtain ⟨_, _, _, _, x0, x1, x2, x3, _, _⟩ := T4.out.facts
              clear hm
              go_wp2_with fail
              refine hat.out.mono ?_
              rintro e w4 ⟨rfl, rfl⟩
              go_wp2_with fail
              rw [put4_nil]
              exact bodyPost_ret (v := nilV.v) (by simp [results, Try.results15, go_sem, Val.out, x0, x1, x2, x3]) rfl ⟨by rw [HL.out], T4.out.below⟩
            · have e1 : (x.1.mt.k == 0) = false := by rw [beq_eq_false_iff_ne]; exact hm
              have HL : Hid (lookS s 17 o k = lookS s n x.1.mt.o k) := by
                show lookS s 17 o k = _
                rw [HLs.out, if_neg hm]
              clear hm
              go_wp2_with fail
              refine hat.out.mono ?_
              rintro e w4 ⟨rfl, rfl⟩
              go_wp2_with fail
              go_roundw
              case rel => exact ⟨n, x.1.mt.o, by omega, rfl, by go_num, HL, T3.out⟩
              case measure => simp [intOf]; omega
      · have e0 : (y.k != 0) = true := by rw [bne_iff_ne]; exact hy
        have HL : Hid (lookS s 17 o k = y) := by
          show lookS s 17 o k = y
          rw [hl.out]
          show (if (getS s q k).k = 0 then _ else getS s q k) = y
          rw [← Hy.out, if_neg hy]
        have T4 := Lib.hid (T3.out.put1 y)
        obtain ⟨_, _, _, _, x0, x1, x2, x3, _, _⟩ := T4.out.facts
        clear b2 hg hy hw2 hwr p0 p1 p2 p3 q0 q1 q2 q3 pf qf
        go_wp2_with fail
        rw [put4_eq]
        exact bodyPost_ret (v := y.v) (by simp [results, Try.results15, go_sem, Val.out, x0, x1, x2, x3]) rfl ⟨by rw [HL.out], T4.out.below⟩
end Go.Proofs.Ytlihonbmopeemaa.Hp

/- The keys of a table as a list of numbers. No conditions. -/
namespace Go.Proofs.Ytlihonbmopeemaa.Hp
open Go Go.RowKit Go.Proofs.Ytlihonbmopeemaa.HpLaw Go.Proofs.Ytlihonbmopeemaa.Ans Go.Proofs.Ytlihonbmopeemaa.Num Go.Proofs.Ytlihonbmopeemaa.DigLaw Go.Proofs.Ytlihonbmopeemaa.Fl Go.Proofs.Ytlihonbmopeemaa.Dig Go.Proofs.Ytlihonbmopeemaa.Float

def tabWith (kv : List (Val × Val)) : Ob := ⟨5, kv, nilV, 0, 0, []⟩
def Small (n : Int) : Prop := n.natAbs ≤ 9007199254740992
def Keys (kv : List (Val × Val)) (l : List Int) : Prop := ∀ n : Int, Small n → ((∃ v, lookKV kv (numV n) = some v) ↔ n ∈ l)
theorem look_put (kv : List (Val × Val)) (k v q : Val) : (∃ x, lookKV (putKV kv k v) q = some x) ↔ ∃ x, lookKV kv q = some x := by
  induction kv with
  | nil => exact Iff.rfl
  | cons a kv ih =>
    have e1 : putKV (a :: kv) k v = (if sameV a.1 k then (a.1, v) else a) :: putKV kv k v := rfl
    rw [e1]
    have e2 : (if sameV a.1 k then (a.1, v) else a).1 = a.1 := by split <;> rfl
    have e3 : ∀ (b : Val × Val) r, lookKV (b :: r) q = if sameV b.1 q then some b.2 else lookKV r q := fun _ _ => rfl
    rw [e3, e3, e2]
    cases sameV a.1 q
    · exact ih
    · exact ⟨fun _ => ⟨_, rfl⟩, fun _ => ⟨_, rfl⟩⟩
theorem look_erase (kv : List (Val × Val)) (k q : Val) : (∃ x, lookKV (eraseKV kv k) q = some x) ↔ (∃ x, lookKV kv q = some x) ∧ q ≠ k := by
  induction kv with
  | nil => exact ⟨(fun ⟨x, h⟩ => by cases h), (fun ⟨⟨x, h⟩, _⟩ => by cases h)⟩
  | cons a kv ih =>
    have e3 : ∀ (b : Val × Val) r, lookKV (b :: r) q = if sameV b.1 q then some b.2 else lookKV r q := fun _ _ => rfl
    cases hs : sameV a.1 k
    · have e1 : eraseKV (a :: kv) k = a :: eraseKV kv k := by unfold eraseKV; rw [List.filter_cons, hs]; rfl
      rw [e1, e3, e3]
      cases hq : sameV a.1 q
      · exact ih
      · have haq := (sameV_iff _ _).1 hq
        refine ⟨fun _ => ⟨⟨_, rfl⟩, fun e => ?_⟩, fun _ => ⟨_, rfl⟩⟩
        rw [haq, e, sameV_self] at hs; cases hs
    · have e1 : eraseKV (a :: kv) k = eraseKV kv k := by unfold eraseKV; rw [List.filter_cons, hs]; rfl
      have hak := (sameV_iff _ _).1 hs
      rw [e1, e3]
      cases hq : sameV a.1 q
      · exact ih
      · have haq := (sameV_iff _ _).1 hq
        refine ⟨fun h => ?_, fun h => absurd (haq.symm.trans hak) h.2⟩
        obtain ⟨x, hx⟩ := h
        exact absurd rfl (by
          have := (ih.1 ⟨x, hx⟩).2
          rw [← haq, hak] at this; exact this)
theorem look_add (kv : List (Val × Val)) (k v q : Val) : (∃ x, lookKV (kv ++ [(k, v)]) q = some x) ↔ (∃ x, lookKV kv q = some x) ∨ q = k := by
  induction kv with
  | nil =>
    have e : lookKV [(k, v)] q = if sameV k q then some v else none := rfl
    rw [List.nil_append, e]
    cases hs : sameV k q
    · refine ⟨(fun ⟨x, h⟩ => by cases h), fun h => ?_⟩
      rcases h with ⟨x, h⟩ | h
      · cases h
      · rw [h, sameV_self] at hs; cases hs
    · exact ⟨fun _ => .inr ((sameV_iff _ _).1 hs).symm, fun _ => ⟨_, rfl⟩⟩
  | cons a kv ih =>
    have e3 : ∀ (b : Val × Val) r, lookKV (b :: r) q = if sameV b.1 q then some b.2 else lookKV r q := fun _ _ => rfl
    rw [List.cons_append, e3, e3]
    cases sameV a.1 q
    · exact ih
    · exact ⟨fun _ => .inl ⟨_, rfl⟩, fun _ => ⟨_, rfl⟩⟩
theorem set_tab (kv : List (Val × Val)) (limit : Int) (n : Int) (hn : Small n) (v : Val) : setS [tabWith kv] limit 1 (numV n) v =
    (if (normV v).k = 0 then (0, [tabWith (eraseKV kv (numV n))]) else
      match lookKV kv (numV n) with
      | some _ => (0, [tabWith (putKV kv (numV n) (normV v))])
      | Option.none => if ((usedOf [tabWith kv] : Nat) : Int) + 1 ≤ limit then (0, [tabWith (kv ++ [(numV n, normV v)])]) else (2, [tabWith kv]) : Int × List Ob) := by
  unfold setS
  rw [show obAt [tabWith kv] 1 = some (tabWith kv) from rfl, numV_keyV hn]
  simp only
  rw [if_pos (show (tabWith kv).kind = 5 from rfl)]
  rfl
theorem set_add (kv : List (Val × Val)) (n : Int) (hn : Small n) (hl : kv.length ≤ 1000) {l : List Int} (h : Keys kv l) : ∃ kv', setS [tabWith kv] 2000 1 (numV n) (numV 1) = (0, [tabWith kv']) ∧ kv'.length ≤ kv.length + 1 ∧ Keys kv' (l ++ [n]) := by
  rw [set_tab _ _ _ hn, numV_norm, if_neg (show ¬ (numV 1).k = 0 by show ¬ (3 : Int) = 0; omega)]
  cases hk : lookKV kv (numV n) with
  | some x =>
    refine ⟨_, rfl, by unfold putKV; rw [List.length_map]; omega, fun q hq => ?_⟩
    rw [look_put, h q hq, List.mem_append, List.mem_singleton]
    have hnl : n ∈ l := (h n hn).1 ⟨x, hk⟩
    exact ⟨fun c => .inl c, fun c => c.elim id (fun c => c ▸ hnl)⟩
  | none =>
    simp only
    rw [if_pos (by have : usedOf [tabWith kv] = 1 + kv.length + 0 := rfl; omega)]
    refine ⟨_, rfl, by rw [List.length_append, List.length_singleton]; exact Nat.le_refl _, fun q hq => ?_⟩
    rw [look_add, h q hq, List.mem_append, List.mem_singleton]
    exact ⟨fun c => c.elim .inl (fun c => .inr (numV_inj hq hn c)), fun c => c.elim .inl (fun c => .inr (by rw [c]))⟩
theorem set_del (kv : List (Val × Val)) (n : Int) (hn : Small n) {l : List Int} (h : Keys kv l) : setS [tabWith kv] 2000 1 (numV n) nilV = (0, [tabWith (eraseKV kv (numV n))]) ∧ (eraseKV kv (numV n)).length ≤ kv.length ∧ Keys (eraseKV kv (numV n)) (l.filter fun q => decide (q ≠ n)) := by
  refine ⟨?_, List.length_filter_le _ _, fun q hq => ?_⟩
  · rw [set_tab _ _ _ hn, if_pos (show (normV nilV).k = 0 from rfl)]
  · rw [look_erase, h q hq, List.mem_filter, decide_eq_true_eq]
    exact ⟨fun c => ⟨c.1, fun e => c.2 (by rw [e])⟩, fun c => ⟨c.1, fun e => c.2 (numV_inj hq hn e)⟩⟩
theorem size_of {kv : List (Val × Val)} {l : List Int} (h : Keys kv l) {m n : Nat} (hm : SizeIs [tabWith kv] 1 m) (hn : ∀ j : Nat, j < n → ((j : Int) + 1) ∈ l) (hn1 : ((n : Int) + 1) ∉ l) (hs : n ≤ 1000) : m = n := by
  unfold SizeIs at hm
  rw [show obAt [tabWith kv] 1 = some (tabWith kv) from rfl] at hm
  obtain ⟨h1, h2, h3⟩ := hm
  have key : ∀ j : Nat, j ≤ 33554432 → ((∃ v, lookKV kv (numKey (j + 1)) = some v) ↔ ((j : Int) + 1) ∈ l) := by
    intro j hj
    have := h ((j : Int) + 1) (by unfold Small; omega)
    exact this
  rcases Nat.lt_trichotomy m n with c | c | c
  · have h4 := (key m (by omega)).2 (hn m c)
    obtain ⟨v, hv⟩ := h4
    have h2' : lookKV kv (numKey (m + 1)) = none := h2
    rw [h2'] at hv; cases hv
  · exact c
  · exact absurd ((key n (by omega)).1 (h1 n c)) hn1
theorem count_le : ∀ (n : Nat) (l : List Int), (∀ j : Nat, j < n → ((j : Int) + 1) ∈ l) → n ≤ l.length
  | 0, _, _ => Nat.zero_le _
  | n + 1, l, h => by
    have h1 := h n (Nat.lt_succ_self _)
    have h2 := count_le n (l.erase ((n : Int) + 1)) (fun j hj => (List.mem_erase_of_ne (by omega)).2 (h j (by omega)))
    rw [List.length_erase_of_mem h1] at h2
    have := List.length_pos_of_mem h1
    omega
/-- a row of whole numbers -/
def ints (l : List Int) : List Value := l.map fun n => .int .i64 n
theorem in_walk (v : Value) (l : List Int) (x : Int) (hl : l.length ≤ 1000) (W : World) (h : W.ownsRow 0 3 1 v l.length (ints l)) :
    Calls Try.prog 11 #[v, .int .i64 x] W fun e w' => e = .returned (.bool (decide (x ∈ l))) ∧ W = w' := by
  obtain ⟨ad, cap, hv, c1, c2, c3⟩ := row_form h
  have hcell : ∀ (k : Nat) (hk : k < l.length), W.cell? ⟨vb v, k, none⟩ = some (.int .i64 l[k]) := by
    intro k hk
    have h' := h
    rw [hv, c3 (by omega)] at h'
    refine row_cell h' ?_
    unfold ints
    rw [List.getElem?_map, List.getElem?_eq_getElem hk]; rfl
  have Hcell := Lib.hid hcell
  have Hc3 := Lib.hid c3
  rw [hv]
  obtain ⟨g, Hg⟩ : ∃ g, Hid (g = vb v) := ⟨_, Lib.hid rfl⟩
  rw [← Hg.out] at Hcell Hc3
  clear hcell c3 h hv
  go_enter Try.func11, Try.ntmps11
  go_wp2_with fail
  go_loop [5] (fun i => ∃ k : Nat, k ≤ l.length ∧ i = .int .i64 k ∧ Hid (∀ j (hj : j < l.length), j < k → l[j] ≠ x)) (fun i => l.length - (intOf i).toNat)
  case atStart => exact ⟨0, Nat.zero_le _, rfl, fun j _ hj => absurd hj (Nat.not_lt_zero _)⟩
  case round =>
    obtain ⟨k, hk, rfl, hno⟩ := hrel
    by_cases hlt : k < l.length
    · have q := Hcell.out k hlt
      have hsome := Hc3.out (by omega)
      subst hsome
      obtain ⟨m, Hm⟩ : ∃ m, Hid (l[k] = m) := ⟨_, Lib.hid rfl⟩
      rw [Hm.out] at q
      by_cases hx : m = x
      · have hmem : Hid (decide (x ∈ l) = true) := by
          show decide (x ∈ l) = true
          rw [decide_eq_true_eq, ← hx, ← Hm.out]
          exact List.getElem_mem hlt
        subst hx
        go_wp2_with fail
        go_ret
        rw [hmem.out]
        exact ⟨rfl, rfl⟩
      · have e1 : (m == x) = false := by rw [beq_eq_false_iff_ne]; exact hx
        have Hx := Lib.hid hx
        clear hx
        go_wp2_with fail
        go_round
        case rel => exact ⟨k + 1, by omega, by go_num, fun j hj hjk => by
          rcases Nat.lt_or_eq_of_le (Nat.lt_succ_iff.1 hjk) with c | c
          · exact hno.out j hj c
          · subst c; rw [Hm.out]; exact Hx.out⟩
        case measure => simp [intOf]; omega
    · obtain rfl : k = l.length := by omega
      have hmem : Hid (decide (x ∈ l) = false) := by
        show decide (x ∈ l) = false
        rw [decide_eq_false_iff_not]
        intro hx
        obtain ⟨j, hj, e⟩ := List.getElem_of_mem hx
        exact hno.out j hj hj e
      go_wp2_with fail
      go_ret
      rw [hmem.out]
      exact ⟨rfl, rfl⟩
end Go.Proofs.Ytlihonbmopeemaa.Hp

/- Two tables beside one another, told plainly. No conditions. -/
namespace Go.Proofs.Ytlihonbmopeemaa.Hp
open Go Go.RowKit Go.Proofs.Ytlihonbmopeemaa.HpLaw Go.Proofs.Ytlihonbmopeemaa.Ans Go.Proofs.Ytlihonbmopeemaa.Num Go.Proofs.Ytlihonbmopeemaa.DigLaw Go.Proofs.Ytlihonbmopeemaa.Fl Go.Proofs.Ytlihonbmopeemaa.Dig Go.Proofs.Ytlihonbmopeemaa.Float

/-- a table of at most one key, whose value is not Nil -/
def Few (kv : List (Val × Val)) : Prop := kv = [] ∨ ∃ k v, kv = [(k, v)] ∧ v.k ≠ 0
theorem few_get {kv : List (Val × Val)} (h : Few kv) (k : Val) : (lookKV kv k).getD nilV = nilV ∨ ((lookKV kv k).getD nilV).k ≠ 0 := by
  rcases h with rfl | ⟨a, v, rfl, hv⟩
  · exact .inl rfl
  · show (if sameV a k then some v else Option.none).getD nilV = nilV ∨ ((if sameV a k then some v else Option.none).getD nilV).k ≠ 0
    cases sameV a k
    · exact .inl rfl
    · exact .inr hv
theorem few_size {kv : List (Val × Val)} (h : Few kv) {n : Nat} (h1 : ∀ j : Nat, j < n → ∃ v, lookKV kv (numKey (j + 1)) = some v) : n ≤ 1 := by
  rcases Nat.lt_or_ge 1 n with c | c
  · obtain ⟨v0, e0⟩ := h1 0 (by omega)
    obtain ⟨v1, e1⟩ := h1 1 c
    rcases h with rfl | ⟨a, v, rfl, hv⟩
    · cases e0
    · have m0 := look_mem e0
      have m1 := look_mem e1
      rw [List.mem_singleton] at m0 m1
      have := (congrArg Prod.fst m0).trans (congrArg Prod.fst m1).symm
      have := numKey_inj (by decide) (by decide) this
      omega
  · exact c
theorem set_one (k v : Val) : ∃ r kv, Few kv ∧ (r = (0 : Int) ∨ r = 1) ∧ setS [tabOb, tabOb] 100 1 k v = (r, [tabWith kv, tabOb]) := by
  unfold setS
  rw [show obAt [tabOb, tabOb] 1 = some tabOb from rfl]
  simp only
  rw [if_pos (show tabOb.kind = 5 from rfl)]
  cases keyV k with
  | none => exact ⟨1, [], .inl rfl, .inr rfl, rfl⟩
  | some k' =>
    simp only
    by_cases hz : (normV v).k = 0
    · rw [if_pos hz]; exact ⟨0, [], .inl rfl, .inl rfl, rfl⟩
    · rw [if_neg hz, show lookKV tabOb.kv k' = Option.none from rfl]
      simp only
      rw [if_pos (show ((usedOf [tabOb, tabOb] : Nat) : Int) + 1 ≤ 100 by decide)]
      exact ⟨0, [(k', normV v)], .inr ⟨_, _, rfl, hz⟩, .inl rfl, rfl⟩
theorem set_two {kv1 : List (Val × Val)} (h1 : Few kv1) (k v : Val) : ∃ r kv, Few kv ∧ (r = (0 : Int) ∨ r = 1) ∧ setS [tabWith kv1, tabOb] 100 2 k v = (r, [tabWith kv1, tabWith kv]) := by
  unfold setS
  rw [show obAt [tabWith kv1, tabOb] 2 = some tabOb from rfl]
  simp only
  rw [if_pos (show tabOb.kind = 5 from rfl)]
  cases keyV k with
  | none => exact ⟨1, [], .inl rfl, .inr rfl, rfl⟩
  | some k' =>
    simp only
    by_cases hz : (normV v).k = 0
    · rw [if_pos hz]; exact ⟨0, [], .inl rfl, .inl rfl, rfl⟩
    · rw [if_neg hz, show lookKV tabOb.kv k' = Option.none from rfl]
      simp only
      have hu : usedOf [tabWith kv1, tabOb] = 1 + kv1.length + 0 + (1 + 0 + 0 + 0) := rfl
      have hl : kv1.length ≤ 1 := by
        rcases h1 with rfl | ⟨a, v, rfl, _⟩
        · exact Nat.zero_le _
        · exact Nat.le_refl _
      rw [if_pos (by omega)]
      exact ⟨0, [(k', normV v)], .inr ⟨_, _, rfl, hz⟩, .inl rfl, rfl⟩
def M2 : Val := ⟨5, 0, E3, 2⟩
def S2 (kv1 kv2 : List (Val × Val)) : List Ob := [tabWith kv1, tabWith kv2]
def S3 (kv1 kv2 : List (Val × Val)) : List Ob := [setMt (tabWith kv1) M2, tabWith kv2]
theorem meta_two (kv1 kv2 : List (Val × Val)) : setMetaS (S2 kv1 kv2) 1 M2 = (0, S3 kv1 kv2) := rfl
def getKV (kv : List (Val × Val)) (l : Val) : Val := match keyV l with
  | some k' => (lookKV kv k').getD nilV
  | Option.none => nilV
theorem get_two (kv1 kv2 : List (Val × Val)) (l : Val) : getS (S2 kv1 kv2) 1 l = getKV kv1 l ∧ getS (S2 kv1 kv2) 2 l = getKV kv2 l ∧ getS (S3 kv1 kv2) 1 l = getKV kv1 l ∧ getS (S3 kv1 kv2) 2 l = getKV kv2 l := by
  unfold getS getKV
  rw [show obAt (S2 kv1 kv2) 1 = some (tabWith kv1) from rfl, show obAt (S2 kv1 kv2) 2 = some (tabWith kv2) from rfl, show obAt (S3 kv1 kv2) 1 = some (setMt (tabWith kv1) M2) from rfl, show obAt (S3 kv1 kv2) 2 = some (tabWith kv2) from rfl]
  cases keyV l with
  | none => exact ⟨rfl, rfl, rfl, rfl⟩
  | some k' => exact ⟨rfl, rfl, rfl, rfl⟩
theorem getKV_few {kv : List (Val × Val)} (h : Few kv) (l : Val) : getKV kv l = nilV ∨ (getKV kv l).k ≠ 0 := by
  unfold getKV
  cases keyV l with
  | none => exact .inl rfl
  | some k' => exact few_get h k'
theorem look_S2 {kv1 kv2 : List (Val × Val)} (h1 : Few kv1) (l : Val) : lookS (S2 kv1 kv2) 17 1 l = getKV kv1 l := by
  show (if (getS (S2 kv1 kv2) 1 l).k = 0 then _ else getS (S2 kv1 kv2) 1 l) = _
  rw [(get_two kv1 kv2 l).1]
  rcases getKV_few h1 l with e | e
  · rw [e]; rfl
  · rw [if_neg e]
theorem look_S3 {kv1 kv2 : List (Val × Val)} (h2 : Few kv2) (l : Val) : lookS (S3 kv1 kv2) 17 1 l = if (getKV kv1 l).k = 0 then getKV kv2 l else getKV kv1 l := by
  show (if (getS (S3 kv1 kv2) 1 l).k = 0 then lookS (S3 kv1 kv2) 16 2 l else getS (S3 kv1 kv2) 1 l) = _
  rw [(get_two kv1 kv2 l).2.2.1]
  by_cases e : (getKV kv1 l).k = 0
  · rw [if_pos e, if_pos e]
    show (if (getS (S3 kv1 kv2) 2 l).k = 0 then nilV else getS (S3 kv1 kv2) 2 l) = _
    rw [(get_two kv1 kv2 l).2.2.2]
    rcases getKV_few h2 l with e2 | e2
    · rw [e2]; rfl
    · rw [if_neg e2]
  · rw [if_neg e, if_neg e]
theorem size_S3 {kv1 kv2 : List (Val × Val)} (h1 : Few kv1) {n : Nat} (h : SizeIs (S3 kv1 kv2) 1 n) : n ≤ 1 := by
  unfold SizeIs at h
  rw [show obAt (S3 kv1 kv2) 1 = some (setMt (tabWith kv1) M2) from rfl] at h
  exact few_size h1 h.1
theorem start_two : tableR [] 100 = (1, 0, [tabOb]) ∧ tableR [tabOb] 100 = (2, 0, [tabOb, tabOb]) := ⟨rfl, rfl⟩
end Go.Proofs.Ytlihonbmopeemaa.Hp

/- The walk of HeapApart. Condition: the numbers of the four values are words of 64 bits. -/
namespace Go.Proofs.Ytlihonbmopeemaa.Hp
open Go Go.RowKit Go.Proofs.Ytlihonbmopeemaa.HpLaw Go.Proofs.Ytlihonbmopeemaa.Ans Go.Proofs.Ytlihonbmopeemaa.Num Go.Proofs.Ytlihonbmopeemaa.DigLaw Go.Proofs.Ytlihonbmopeemaa.Fl Go.Proofs.Ytlihonbmopeemaa.Dig Go.Proofs.Ytlihonbmopeemaa.Float
attribute [local go_sem high] eqV
attribute [local go_sem ↓] Go.wp_at_zero Go.wp_at_succ

def vBlock (y : Val) : Obj := Obj.cells #[.int .i64 y.k, .int .u64 y.n, .string y.s, .int .i64 y.o] 34 (0, 0)
/-- the four values, each in a box of its own -/
structure FourB (W : World) (g3 g4 g5 g6 : Nat) (k l v x : Val) (w : World) : Prop where
  below : Below W.heap.size W w
  b3 : w.heap[g3]? = some (vBlock k)
  b4 : w.heap[g4]? = some (vBlock l)
  b5 : w.heap[g5]? = some (vBlock v)
  b6 : w.heap[g6]? = some (vBlock x)
theorem FourB.facts {W : World} {g3 g4 g5 g6 : Nat} {k l v x : Val} {w : World} (h : FourB W g3 g4 g5 g6 k l v x w) : g3 < w.heap.size ∧ g4 < w.heap.size ∧ g5 < w.heap.size ∧ g6 < w.heap.size :=
  ⟨(Array.getElem?_eq_some_iff.1 h.b3).1, (Array.getElem?_eq_some_iff.1 h.b4).1, (Array.getElem?_eq_some_iff.1 h.b5).1, (Array.getElem?_eq_some_iff.1 h.b6).1⟩
theorem four_cells {w : World} {g : Nat} {y : Val} (h : w.heap[g]? = some (vBlock y)) : ∀ w', Below w.heap.size w w' →
    w'.cell? ⟨g, 0, none⟩ = some (.int .i64 y.k) ∧ w'.cell? ⟨g, 1, none⟩ = some (.int .u64 y.n) ∧ w'.cell? ⟨g, 2, none⟩ = some (.string y.s) ∧ w'.cell? ⟨g, 3, none⟩ = some (.int .i64 y.o) := fun _ hb =>
  cells4 ((hb.block g (Array.getElem?_eq_some_iff.1 h).1).trans h)
/-- a value in a box that is none of the heap's -/
structure Box (w : World) (g : Nat) (y : Val) (F : List Nat) : Prop where
  c0 : w.cell? ⟨g, 0, none⟩ = some (.int .i64 y.k)
  c1 : w.cell? ⟨g, 1, none⟩ = some (.int .u64 y.n)
  c2 : w.cell? ⟨g, 2, none⟩ = some (.string y.s)
  c3 : w.cell? ⟨g, 3, none⟩ = some (.int .i64 y.o)
  far : g ∉ F
theorem Box.step {w w' : World} {g : Nat} {y : Val} {F B : List Nat} (h : Box w g y F) (hc : Chg B w w') (hB : ∀ b ∈ B, b ∈ F) : Box w' g y F := by
  have hg : g < w.heap.size := World.block_lt_of_cell? w _ h.c0
  have e : ∀ o, w'.cell? ⟨g, o, none⟩ = w.cell? ⟨g, o, none⟩ := fun o => World.cell?_of_block (w := w) (hc.block g hg (fun e => h.far (hB g e)))
  exact ⟨(e 0).trans h.c0, (e 1).trans h.c1, (e 2).trans h.c2, (e 3).trans h.c3, h.far⟩
/-- the heap, and what lies beneath it -/
structure Ap (wA : World) (hp : Nat) (s : List Ob) (F : List Nat) (w : World) : Prop where
  is : HeapIs w hp s 100 F
  below : Below wA.heap.size wA w
  far : ∀ b ∈ F, wA.heap.size ≤ b
theorem Ap.step {wA : World} {hp : Nat} {s : List Ob} {F : List Nat} {w w' : World} (h : Ap wA hp s F w) (hb : Below w.heap.size w w') : Ap wA hp s F w' :=
  ⟨h.is.kept (B := []) (Chg.of_below hb) (fun _ _ => List.not_mem_nil), h.below.trans (hb.mono h.below.size), h.far⟩
def ApBoxes (wA : World) (hp : Nat) (s : List Ob) (F : List Nat) (g15 g16 : Nat) (ha ot : Val) (w : World) : Prop := Ap wA hp s F w ∧ Box w g15 ha F ∧ Box w g16 ot F
theorem apBoxes_mk {wA : World} {hp : Nat} {s : List Ob} {F : List Nat} {wo w : World} {g15 g16 : Nat} {ha ot : Val} (h : Ap wA hp s F wo) (hb : Below wo.heap.size wo w) (h1 : wo.heap.size ≤ g15) (h2 : wo.heap.size ≤ g16)
    (a0 : w.cell? ⟨g15, 0, none⟩ = some (.int .i64 ha.k)) (a1 : w.cell? ⟨g15, 1, none⟩ = some (.int .u64 ha.n)) (a2 : w.cell? ⟨g15, 2, none⟩ = some (.string ha.s)) (a3 : w.cell? ⟨g15, 3, none⟩ = some (.int .i64 ha.o))
    (b0 : w.cell? ⟨g16, 0, none⟩ = some (.int .i64 ot.k)) (b1 : w.cell? ⟨g16, 1, none⟩ = some (.int .u64 ot.n)) (b2 : w.cell? ⟨g16, 2, none⟩ = some (.string ot.s)) (b3 : w.cell? ⟨g16, 3, none⟩ = some (.int .i64 ot.o)) : ApBoxes wA hp s F g15 g16 ha ot w :=
  ⟨h.step hb, ⟨a0, a1, a2, a3, fun e => by have := h.is.lt _ e; omega⟩, ⟨b0, b1, b2, b3, fun e => by have := h.is.lt _ e; omega⟩⟩
theorem ApBoxes.turn {wA : World} {hp : Nat} {s s' : List Ob} {F : List Nat} {wo w' : World} {g15 g16 : Nat} {ha ot : Val} (h : ApBoxes wA hp s F g15 g16 ha ot wo) (hs : HStep wo hp 100 F s' w') : ∃ F', ApBoxes wA hp s' F' g15 g16 ha ot w' := by
  obtain ⟨F', h1, h2, h3⟩ := hs
  obtain ⟨a, b, c⟩ := h
  have hsz := a.below.size
  have far : ∀ g y, Box wo g y F → g ∉ F' := fun g y hb e => by
    rcases h3 g e with d | d
    · exact hb.far d
    · have := World.block_lt_of_cell? wo _ hb.c0
      simp only at this
      omega
  have b' := b.step h2 (fun _ h => h)
  have c' := c.step h2 (fun _ h => h)
  refine ⟨F', ⟨h1, a.below.trans (h2.below_of hsz a.far), fun x hx => ?_⟩, ⟨b'.c0, b'.c1, b'.c2, b'.c3, far _ _ b⟩, ⟨c'.c0, c'.c1, c'.c2, c'.c3, far _ _ c⟩⟩
  rcases h3 x hx with d | d
  · exact a.far x d
  · omega
theorem ApBoxes.step {wA : World} {hp : Nat} {s : List Ob} {F : List Nat} {wo w' : World} {g15 g16 : Nat} {ha ot : Val} (h : ApBoxes wA hp s F g15 g16 ha ot wo) (hb : Below wo.heap.size wo w') : ApBoxes wA hp s F g15 g16 ha ot w' :=
  ⟨h.1.step hb, h.2.1.step (B := []) (Chg.of_below hb) (fun _ h => absurd h List.not_mem_nil), h.2.2.step (B := []) (Chg.of_below hb) (fun _ h => absurd h List.not_mem_nil)⟩
def four (w1 : World) (O0 O1 O2 O3 : Obj) : World := ((((w1.alloc O0).alloc O1).alloc O2).alloc O3).drew
theorem four_at (w1 : World) (O0 O1 O2 O3 : Obj) : (four w1 O0 O1 O2 O3).heap[w1.heap.size]? = some O0 ∧ (four w1 O0 O1 O2 O3).heap[w1.heap.size + 1]? = some O1 ∧ (four w1 O0 O1 O2 O3).heap[w1.heap.size + 2]? = some O2 ∧ (four w1 O0 O1 O2 O3).heap[w1.heap.size + 3]? = some O3 ∧ Below w1.heap.size w1 (four w1 O0 O1 O2 O3) := by
  have e : (four w1 O0 O1 O2 O3).heap = ((((w1.heap.push O0).push O1).push O2).push O3) := rfl
  refine ⟨?_, ?_, ?_, ?_, ((((((Below.refl _ _).alloc (Nat.le_refl _) _).alloc (by simp) _).alloc (by first | omega | (simp <;> omega)) _).alloc (by first | omega | (simp <;> omega)) _).drew)⟩
  all_goals (rw [e]; simp only [Array.getElem?_push, Array.size_push])
  · rw [if_neg (by omega), if_neg (by omega), if_neg (by omega), if_pos trivial]
  · rw [if_neg (by omega), if_neg (by omega), if_pos trivial]
  · rw [if_neg (by omega), if_pos trivial]
  · rw [if_pos trivial]
theorem four_is {W w1 : World} (hb : Below W.heap.size W w1) (O0 O1 O2 O3 : Obj) {g3 g4 g5 g6 : Nat} {k l v x : Val} (h3 : (four w1 O0 O1 O2 O3).heap[g3]? = some (vBlock k)) (h4 : (four w1 O0 O1 O2 O3).heap[g4]? = some (vBlock l)) (h5 : (four w1 O0 O1 O2 O3).heap[g5]? = some (vBlock v)) (h6 : (four w1 O0 O1 O2 O3).heap[g6]? = some (vBlock x)) :
    FourB W g3 g4 g5 g6 k l v x (four w1 O0 O1 O2 O3) :=
  ⟨hb.trans ((four_at w1 O0 O1 O2 O3).2.2.2.2.mono hb.size), h3, h4, h5, h6⟩
set_option maxHeartbeats 40000000 in
set_option maxRecDepth 100000 in
theorem apart_walk (k l v x : Val) (hk : VOK k) (hl : VOK l) (hv : VOK v) (hx : VOK x) (W : World) :
    Calls Try.prog 4 #[.agg #[.int .i64 k.k, .int .u64 k.n, .string k.s, .int .i64 k.o, .int .i64 l.k, .int .u64 l.n, .string l.s, .int .i64 l.o, .int .i64 v.k, .int .u64 v.n, .string v.s, .int .i64 v.o, .int .i64 x.k, .int .u64 x.n, .string x.s, .int .i64 x.o]] W
      (fun e w' => e = .returned (.bool true) ∧ Below W.heap.size W w') := by
  go_enter Try.func4, Try.ntmps4
  go_upto_region 1 with fail
  have hbox : (W.alloc (Obj.cells #[.int .i64 k.k, .int .u64 k.n, .string k.s, .int .i64 k.o, .int .i64 l.k, .int .u64 l.n, .string l.s, .int .i64 l.o, .int .i64 v.k, .int .u64 v.n, .string v.s, .int .i64 v.o, .int .i64 x.k, .int .u64 x.n, .string x.s, .int .i64 x.o] 41)).heap[W.heap.size]? = some (Obj.cells #[.int .i64 k.k, .int .u64 k.n, .string k.s, .int .i64 k.o, .int .i64 l.k, .int .u64 l.n, .string l.s, .int .i64 l.o, .int .i64 v.k, .int .u64 v.n, .string v.s, .int .i64 v.o, .int .i64 x.k, .int .u64 x.n, .string x.s, .int .i64 x.o] 41 (0, 0)) := heap_alloc_new _ _
  have hb : Below W.heap.size W (W.alloc (Obj.cells #[.int .i64 k.k, .int .u64 k.n, .string k.s, .int .i64 k.o, .int .i64 l.k, .int .u64 l.n, .string l.s, .int .i64 l.o, .int .i64 v.k, .int .u64 v.n, .string v.s, .int .i64 v.o, .int .i64 x.k, .int .u64 x.n, .string x.s, .int .i64 x.o] 41)) := (Below.refl _ _).alloc (Nat.le_refl _) _
  generalize (W.alloc (Obj.cells #[.int .i64 k.k, .int .u64 k.n, .string k.s, .int .i64 k.o, .int .i64 l.k, .int .u64 l.n, .string l.s, .int .i64 l.o, .int .i64 v.k, .int .u64 v.n, .string v.s, .int .i64 v.o, .int .i64 x.k, .int .u64 x.n, .string x.s, .int .i64 x.o] 41)) = w1 at hbox hb ⊢
  have hsz : W.heap.size < w1.heap.size := (Array.getElem?_eq_some_iff.1 hbox).1
  go_cut [3, 4, 5, 6] (fun s3 s4 s5 s6 wx => ∃ g3 g4 g5 g6 : Nat, s3 = .pointer (some ⟨g3, 0, none⟩) ∧ s4 = .pointer (some ⟨g4, 0, none⟩) ∧ s5 = .pointer (some ⟨g5, 0, none⟩) ∧ s6 = .pointer (some ⟨g6, 0, none⟩) ∧ FourB W g3 g4 g5 g6 k l v x wx)
  case first =>
    have c0 : w1.cell? ⟨W.heap.size, 0, none⟩ = some (.int .i64 k.k) := by rw [cell_of hbox]; rfl
    have c1 : w1.cell? ⟨W.heap.size, 1, none⟩ = some (.int .u64 k.n) := by rw [cell_of hbox]; rfl
    have c2 : w1.cell? ⟨W.heap.size, 2, none⟩ = some (.string k.s) := by rw [cell_of hbox]; rfl
    have c3 : w1.cell? ⟨W.heap.size, 3, none⟩ = some (.int .i64 k.o) := by rw [cell_of hbox]; rfl
    have c4 : w1.cell? ⟨W.heap.size, 4, none⟩ = some (.int .i64 l.k) := by rw [cell_of hbox]; rfl
    have c5 : w1.cell? ⟨W.heap.size, 5, none⟩ = some (.int .u64 l.n) := by rw [cell_of hbox]; rfl
    have c6 : w1.cell? ⟨W.heap.size, 6, none⟩ = some (.string l.s) := by rw [cell_of hbox]; rfl
    have c7 : w1.cell? ⟨W.heap.size, 7, none⟩ = some (.int .i64 l.o) := by rw [cell_of hbox]; rfl
    have c8 : w1.cell? ⟨W.heap.size, 8, none⟩ = some (.int .i64 v.k) := by rw [cell_of hbox]; rfl
    have c9 : w1.cell? ⟨W.heap.size, 9, none⟩ = some (.int .u64 v.n) := by rw [cell_of hbox]; rfl
    have c10 : w1.cell? ⟨W.heap.size, 10, none⟩ = some (.string v.s) := by rw [cell_of hbox]; rfl
    have c11 : w1.cell? ⟨W.heap.size, 11, none⟩ = some (.int .i64 v.o) := by rw [cell_of hbox]; rfl
    have c12 : w1.cell? ⟨W.heap.size, 12, none⟩ = some (.int .i64 x.k) := by rw [cell_of hbox]; rfl
    have c13 : w1.cell? ⟨W.heap.size, 13, none⟩ = some (.int .u64 x.n) := by rw [cell_of hbox]; rfl
    have c14 : w1.cell? ⟨W.heap.size, 14, none⟩ = some (.string x.s) := by rw [cell_of hbox]; rfl
    have c15 : w1.cell? ⟨W.heap.size, 15, none⟩ = some (.int .i64 x.o) := by rw [cell_of hbox]; rfl
    have HB := Lib.hid hb
    clear hbox hb
    have f0 : ∀ w', Below w1.heap.size w1 w' → w'.cell? ⟨W.heap.size, 0, none⟩ = some (.int .i64 k.k) := fun w' h => (h.cell hsz).trans c0
    have f1 : ∀ w', Below w1.heap.size w1 w' → w'.cell? ⟨W.heap.size, 1, none⟩ = some (.int .u64 k.n) := fun w' h => (h.cell hsz).trans c1
    have f2 : ∀ w', Below w1.heap.size w1 w' → w'.cell? ⟨W.heap.size, 2, none⟩ = some (.string k.s) := fun w' h => (h.cell hsz).trans c2
    have f3 : ∀ w', Below w1.heap.size w1 w' → w'.cell? ⟨W.heap.size, 3, none⟩ = some (.int .i64 k.o) := fun w' h => (h.cell hsz).trans c3
    have f4 : ∀ w', Below w1.heap.size w1 w' → w'.cell? ⟨W.heap.size, 4, none⟩ = some (.int .i64 l.k) := fun w' h => (h.cell hsz).trans c4
    have f5 : ∀ w', Below w1.heap.size w1 w' → w'.cell? ⟨W.heap.size, 5, none⟩ = some (.int .u64 l.n) := fun w' h => (h.cell hsz).trans c5
    have f6 : ∀ w', Below w1.heap.size w1 w' → w'.cell? ⟨W.heap.size, 6, none⟩ = some (.string l.s) := fun w' h => (h.cell hsz).trans c6
    have f7 : ∀ w', Below w1.heap.size w1 w' → w'.cell? ⟨W.heap.size, 7, none⟩ = some (.int .i64 l.o) := fun w' h => (h.cell hsz).trans c7
    have f8 : ∀ w', Below w1.heap.size w1 w' → w'.cell? ⟨W.heap.size, 8, none⟩ = some (.int .i64 v.k) := fun w' h => (h.cell hsz).trans c8
    have f9 : ∀ w', Below w1.heap.size w1 w' → w'.cell? ⟨W.heap.size, 9, none⟩ = some (.int .u64 v.n) := fun w' h => (h.cell hsz).trans c9
    have f10 : ∀ w', Below w1.heap.size w1 w' → w'.cell? ⟨W.heap.size, 10, none⟩ = some (.string v.s) := fun w' h => (h.cell hsz).trans c10
    have f11 : ∀ w', Below w1.heap.size w1 w' → w'.cell? ⟨W.heap.size, 11, none⟩ = some (.int .i64 v.o) := fun w' h => (h.cell hsz).trans c11
    have f12 : ∀ w', Below w1.heap.size w1 w' → w'.cell? ⟨W.heap.size, 12, none⟩ = some (.int .i64 x.k) := fun w' h => (h.cell hsz).trans c12
    have f13 : ∀ w', Below w1.heap.size w1 w' → w'.cell? ⟨W.heap.size, 13, none⟩ = some (.int .u64 x.n) := fun w' h => (h.cell hsz).trans c13
    have f14 : ∀ w', Below w1.heap.size w1 w' → w'.cell? ⟨W.heap.size, 14, none⟩ = some (.string x.s) := fun w' h => (h.cell hsz).trans c14
    have f15 : ∀ w', Below w1.heap.size w1 w' → w'.cell? ⟨W.heap.size, 15, none⟩ = some (.int .i64 x.o) := fun w' h => (h.cell hsz).trans c15
    clear c0 c1 c2 c3 c4 c5 c6 c7 c8 c9 c10 c11 c12 c13 c14 c15
    go_region_held3 (fun w' => Below w1.heap.size w1 w')
      (first | assumption | exact Below.refl _ _ | (repeat (first | exact Below.refl _ _ | assumption | refine Below.drew ?_ | refine Below.alloc ?_ (by first | omega | (simp <;> omega)) _ | refine Below.setCell ?_ (by first | omega | (simp <;> omega)) _)))
      (fail)
    all_goals
      clear f0 f1 f2 f3 f4 f5 f6 f7 f8 f9 f10 f11 f12 f13 f14 f15
      go_wp2_with fail
      go_meet
      refine ⟨_, _, _, _, rfl, rfl, rfl, rfl, four_is HB.out _ _ _ _ ?_ ?_ ?_ ?_⟩
      all_goals
        first
          | exact (four_at w1 _ _ _ _).1
          | exact (four_at w1 _ _ _ _).2.1
          | exact (four_at w1 _ _ _ _).2.2.1
          | exact (four_at w1 _ _ _ _).2.2.2.1
  case rest =>
    obtain ⟨g3, g4, g5, g6, rfl, rfl, rfl, rfl, hB⟩ := hcut
    have HB := Lib.hid hB
    obtain ⟨wA, rfl⟩ : ∃ wA, wA = wc := ⟨_, rfl⟩
    clear hbox hb hsz hB
    go_wp2_with fail
    refine (new_yes 100 (by decide) (by decide) wA).mono ?_
    rintro e w2 ⟨rfl, k2, b2⟩
    have K2 := Lib.hid (heap_new (by decide) (by decide) k2)
    have hb2 : ∀ b ∈ [wA.heap.size], wA.heap.size ≤ b := fun b hb => by rw [List.mem_singleton.1 hb]; exact Nat.le_refl _
    have HB2 := Lib.hid hb2
    clear k2 hb2
    go_wp2_with fail
    refine (table_walk w2 K2.out).mono ?_
    rintro e w3 ⟨rfl, k3⟩
    rw [start_two.1] at k3 ⊢
    obtain ⟨F3, k3, b3, hF3⟩ := k3.next b2.size HB2.out
    have K3 := Lib.hid k3
    have HF3 := Lib.hid hF3
    have B3 := Lib.hid (b2.trans b3)
    clear k3 hF3 b2 b3
    go_wp2_with fail
    refine (table_walk w3 K3.out).mono ?_
    rintro e w4 ⟨rfl, k4⟩
    rw [start_two.2] at k4 ⊢
    obtain ⟨F4, k4, b4, hF4⟩ := k4.next B3.out.size HF3.out
    have K4 := Lib.hid k4
    have HF4 := Lib.hid hF4
    have B4 := Lib.hid (B3.out.trans b4)
    clear k4 hF4 b4 K2 HB2 K3 HF3
    obtain ⟨r1, kv1, hf1, hr1, e1⟩ := set_one k v
    obtain ⟨r2, kv2, hf2, hr2, e2⟩ := set_two hf1 l x
    have E1 := Lib.hid e1
    have E2 := Lib.hid e2
    have HR1 := Lib.hid hr1
    have HR2 := Lib.hid hr2
    have FW1 := Lib.hid hf1
    have FW2 := Lib.hid hf2
    clear e1 e2 hr1 hr2 hf1 hf2
    go_upto_region 7 with fail
    obtain ⟨hp, Hp⟩ : ∃ hp, Hid (hp = wA.heap.size) := ⟨_, Lib.hid rfl⟩
    rw [← Hp.out] at K4 ⊢
    go_cut [13, 14] (fun s13 s14 wx => s13 = .int .i64 r1 ∧ s14 = .int .i64 r2 ∧ ∃ F, HeapIs wx hp (S2 kv1 kv2) 100 F ∧ Below wA.heap.size wA wx ∧ ∀ b ∈ F, wA.heap.size ≤ b)
    case first =>
      have f3 : ∀ w', Below wA.heap.size wA w' → w'.cell? ⟨g3, 0, none⟩ = some (.int .i64 k.k) := fun w' h => (four_cells HB.out.b3 w' h).1
      have f3b : ∀ w', Below wA.heap.size wA w' → w'.cell? ⟨g3, 1, none⟩ = some (.int .u64 k.n) := fun w' h => (four_cells HB.out.b3 w' h).2.1
      have f3c : ∀ w', Below wA.heap.size wA w' → w'.cell? ⟨g3, 2, none⟩ = some (.string k.s) := fun w' h => (four_cells HB.out.b3 w' h).2.2.1
      have f3d : ∀ w', Below wA.heap.size wA w' → w'.cell? ⟨g3, 3, none⟩ = some (.int .i64 k.o) := fun w' h => (four_cells HB.out.b3 w' h).2.2.2
      have f4 : ∀ w', Below wA.heap.size wA w' → w'.cell? ⟨g4, 0, none⟩ = some (.int .i64 l.k) := fun w' h => (four_cells HB.out.b4 w' h).1
      have f4b : ∀ w', Below wA.heap.size wA w' → w'.cell? ⟨g4, 1, none⟩ = some (.int .u64 l.n) := fun w' h => (four_cells HB.out.b4 w' h).2.1
      have f4c : ∀ w', Below wA.heap.size wA w' → w'.cell? ⟨g4, 2, none⟩ = some (.string l.s) := fun w' h => (four_cells HB.out.b4 w' h).2.2.1
      have f4d : ∀ w', Below wA.heap.size wA w' → w'.cell? ⟨g4, 3, none⟩ = some (.int .i64 l.o) := fun w' h => (four_cells HB.out.b4 w' h).2.2.2
      have f5 : ∀ w', Below wA.heap.size wA w' → w'.cell? ⟨g5, 0, none⟩ = some (.int .i64 v.k) := fun w' h => (four_cells HB.out.b5 w' h).1
      have f5b : ∀ w', Below wA.heap.size wA w' → w'.cell? ⟨g5, 1, none⟩ = some (.int .u64 v.n) := fun w' h => (four_cells HB.out.b5 w' h).2.1
      have f5c : ∀ w', Below wA.heap.size wA w' → w'.cell? ⟨g5, 2, none⟩ = some (.string v.s) := fun w' h => (four_cells HB.out.b5 w' h).2.2.1
      have f5d : ∀ w', Below wA.heap.size wA w' → w'.cell? ⟨g5, 3, none⟩ = some (.int .i64 v.o) := fun w' h => (four_cells HB.out.b5 w' h).2.2.2
      have f6 : ∀ w', Below wA.heap.size wA w' → w'.cell? ⟨g6, 0, none⟩ = some (.int .i64 x.k) := fun w' h => (four_cells HB.out.b6 w' h).1
      have f6b : ∀ w', Below wA.heap.size wA w' → w'.cell? ⟨g6, 1, none⟩ = some (.int .u64 x.n) := fun w' h => (four_cells HB.out.b6 w' h).2.1
      have f6c : ∀ w', Below wA.heap.size wA w' → w'.cell? ⟨g6, 2, none⟩ = some (.string x.s) := fun w' h => (four_cells HB.out.b6 w' h).2.2.1
      have f6d : ∀ w', Below wA.heap.size wA w' → w'.cell? ⟨g6, 3, none⟩ = some (.int .i64 x.o) := fun w' h => (four_cells HB.out.b6 w' h).2.2.2
      have tok1 : True := trivial
      go_region_held3 (fun w' => Below wA.heap.size wA w')
        (first | assumption | exact B4.out | exact B4.out.drew)
        (first
          | (go_at_call 9; have tok2 := tok1; clear tok1 tok2; refine (set_walk 1 k v hk hv _ (K4.out.kept (B := []) (Chg.of_below (Below.drew (Below.refl _ _))) (fun _ _ => List.not_mem_nil))).mono ?_; rintro e w5 ⟨rfl, h5⟩; rw [E1.out] at h5 ⊢; obtain ⟨F5, h5, b5, hF5⟩ := h5.next B4.out.size HF4.out; have K5 := Lib.hid h5; have B5 := B4.out.drew.trans b5; have HF5 := Lib.hid hF5; clear h5 b5 hF5)
          | (go_at_call 9; refine (set_walk 2 l x hl hx _ K5.out).mono ?_; rintro e w6 ⟨rfl, h6⟩; rw [E2.out] at h6 ⊢; obtain ⟨F6, h6, b6, hF6⟩ := h6.next B5.size HF5.out; have K6 := Lib.hid h6; have B6 := B5.trans b6; have HF6 := Lib.hid hF6; clear h6 b6 hF6))
      go_wp2_with fail
      go_meet
      exact ⟨rfl, rfl, F6, K6.out, B6, HF6.out⟩
    case rest =>
      obtain ⟨rfl, rfl, F, k5, b5, hF5⟩ := hcut
      have A5 : Hid (Ap wA hp (S2 kv1 kv2) F wc) := ⟨k5, b5, hF5⟩
      clear k5 b5 hF5 K4 HF4 B4
      obtain ⟨wo, rfl⟩ : ∃ wo, wo = wc := ⟨_, rfl⟩
      go_upto_region 8 with fail
      go_cut [69] (fun s69 wx => s69 = .bool false ∧ wx = wo)
      case first =>
        have hr1 := HR1.out
        have hr2 := HR2.out
        clear A5 HB FW1 FW2 HR1 HR2 E1 E2
        rcases hr1 with rfl | rfl
        all_goals
          rcases hr2 with rfl | rfl
          all_goals
            go_wp2_with fail
            go_meet
            exact ⟨rfl, rfl⟩
      case rest =>
        obtain ⟨rfl, rfl⟩ := hcut
        obtain ⟨wo, rfl⟩ : ∃ wo, wo = wc := ⟨_, rfl⟩
        obtain ⟨ha, Hha⟩ : ∃ ha, Hid (ha = getKV kv1 l) := ⟨_, Lib.hid rfl⟩
        obtain ⟨ot, Hot⟩ : ∃ ot, Hid (ot = getKV kv2 l) := ⟨_, Lib.hid rfl⟩
        go_upto_region 10 with fail
        go_cut [15, 16] (fun s15 s16 wx => ∃ g15 g16 : Nat, s15 = .pointer (some ⟨g15, 0, none⟩) ∧ s16 = .pointer (some ⟨g16, 0, none⟩) ∧ ApBoxes wA hp (S2 kv1 kv2) F g15 g16 ha ot wx)
        case first =>
          have f4 : ∀ w', Below wo.heap.size wo w' → w'.cell? ⟨g4, 0, none⟩ = some (.int .i64 l.k) := fun w' h => (four_cells HB.out.b4 w' (bthen A5.out.below h)).1
          have f4b : ∀ w', Below wo.heap.size wo w' → w'.cell? ⟨g4, 1, none⟩ = some (.int .u64 l.n) := fun w' h => (four_cells HB.out.b4 w' (bthen A5.out.below h)).2.1
          have f4c : ∀ w', Below wo.heap.size wo w' → w'.cell? ⟨g4, 2, none⟩ = some (.string l.s) := fun w' h => (four_cells HB.out.b4 w' (bthen A5.out.below h)).2.2.1
          have f4d : ∀ w', Below wo.heap.size wo w' → w'.cell? ⟨g4, 3, none⟩ = some (.int .i64 l.o) := fun w' h => (four_cells HB.out.b4 w' (bthen A5.out.below h)).2.2.2
          have HG : Hid (∀ w', Below wo.heap.size wo w' → HeapIs w' hp (S2 kv1 kv2) 100 F) := fun w' h => A5.out.is.kept (B := []) (Chg.of_below h) (fun _ _ => List.not_mem_nil)
          have tok1 : True := trivial
          go_region_held3 (fun w' => Below wo.heap.size wo w')
            (first | (with_reducible assumption) | (repeat (first | (with_reducible exact Below.refl _ _) | (with_reducible assumption) | (with_reducible refine Below.drew ?_) | (with_reducible refine Below.alloc ?_ ?_ _) | (with_reducible refine Below.setCell ?_ ?_ _) | omega | (simp <;> omega))))
            (first
              | (go_at_call 14; have tok2 := tok1; clear tok1 tok2; refine (Get_walk 1 l hl _ (HG.out _ (by (first | (with_reducible assumption) | (repeat (first | (with_reducible exact Below.refl _ _) | (with_reducible assumption) | (with_reducible refine Below.drew ?_) | (with_reducible refine Below.alloc ?_ ?_ _) | (with_reducible refine Below.setCell ?_ ?_ _) | omega | (simp <;> omega))))))).mono ?_; rintro e w6 ⟨rfl, b6⟩; rw [(get_two kv1 kv2 l).1, ← Hha.out, Val.out]; obtain ⟨hc6, hf6⟩ := bcell b6; have s6 := bthen (w := wo) (by (first | (with_reducible assumption) | (repeat (first | (with_reducible exact Below.refl _ _) | (with_reducible assumption) | (with_reducible refine Below.drew ?_) | (with_reducible refine Below.alloc ?_ ?_ _) | (with_reducible refine Below.setCell ?_ ?_ _) | omega | (simp <;> omega))))) b6; have z6 := b6.size; have y6 := s6.size; (try simp at z6); (try have z6a := Nat.lt_of_succ_le z6); (try have z6b := Nat.lt_of_succ_lt z6a); (try have z6c := Nat.ne_of_lt z6a); (try have z6d := Nat.ne_of_lt z6b); clear b6)
              | (go_at_call 14; refine (Get_walk 2 l hl _ (HG.out _ (by (first | (with_reducible assumption) | (repeat (first | (with_reducible exact Below.refl _ _) | (with_reducible assumption) | (with_reducible refine Below.drew ?_) | (with_reducible refine Below.alloc ?_ ?_ _) | (with_reducible refine Below.setCell ?_ ?_ _) | omega | (simp <;> omega))))))).mono ?_; rintro e w7 ⟨rfl, b7⟩; rw [(get_two kv1 kv2 l).2.1, ← Hot.out, Val.out]; obtain ⟨hc7, hf7⟩ := bcell b7; have s7 := bthen (w := wo) (by (first | (with_reducible assumption) | (repeat (first | (with_reducible exact Below.refl _ _) | (with_reducible assumption) | (with_reducible refine Below.drew ?_) | (with_reducible refine Below.alloc ?_ ?_ _) | (with_reducible refine Below.setCell ?_ ?_ _) | omega | (simp <;> omega))))) b7; have z7 := b7.size; have y7 := s7.size; (try simp at z7); (try have z7a := Nat.lt_of_succ_le z7); (try have z7b := Nat.lt_of_succ_lt z7a); (try have z7c := Nat.ne_of_lt z7a); (try have z7d := Nat.ne_of_lt z7b); (try have z7e := Nat.lt_of_lt_of_le z6a z7); (try have z7f := Nat.ne_of_lt z7e); (try have z7g := Nat.lt_of_lt_of_le z6b z7); (try have z7h := Nat.ne_of_lt z7g); (try have z7i := Nat.lt_trans z6a z7a); (try have z7j := Nat.ne_of_lt z7i); (try have z7k := Nat.lt_trans z6b z7a); (try have z7l := Nat.ne_of_lt z7k); clear b7))
          all_goals
            go_wp2_with fail
            go_meet
            refine ⟨_, _, rfl, rfl, apBoxes_mk A5.out ?_ ?_ ?_ ?_ ?_ ?_ ?_ ?_ ?_ ?_ ?_⟩
            · (first | (with_reducible assumption) | (repeat (first | (with_reducible exact Below.refl _ _) | (with_reducible assumption) | (with_reducible refine Below.drew ?_) | (with_reducible refine Below.alloc ?_ ?_ _) | (with_reducible refine Below.setCell ?_ ?_ _) | omega | (simp <;> omega))))
            · first | omega | (simp <;> omega)
            · first | omega | (simp <;> omega)
            all_goals (go_simp; try (refine World.cell?_setCell_same' _ _ _ ?_; go_simp))
        case rest =>
          obtain ⟨g15, g16, rfl, rfl, hAB⟩ := hcut
          obtain ⟨wo, rfl⟩ : ∃ wo, wo = wc := ⟨_, rfl⟩
          have AB := Lib.hid hAB
          clear hAB A5
          go_upto_region 11 with fail
          go_cut [83] (fun s83 wx => s83 = .bool false ∧ ApBoxes wA hp (S2 kv1 kv2) F g15 g16 ha ot wx)
          case first =>
            have f4 : ∀ w', Below wo.heap.size wo w' → w'.cell? ⟨g4, 0, none⟩ = some (.int .i64 l.k) := fun w' h => (four_cells HB.out.b4 w' (bthen AB.out.1.below h)).1
            have f4b : ∀ w', Below wo.heap.size wo w' → w'.cell? ⟨g4, 1, none⟩ = some (.int .u64 l.n) := fun w' h => (four_cells HB.out.b4 w' (bthen AB.out.1.below h)).2.1
            have f4c : ∀ w', Below wo.heap.size wo w' → w'.cell? ⟨g4, 2, none⟩ = some (.string l.s) := fun w' h => (four_cells HB.out.b4 w' (bthen AB.out.1.below h)).2.2.1
            have f4d : ∀ w', Below wo.heap.size wo w' → w'.cell? ⟨g4, 3, none⟩ = some (.int .i64 l.o) := fun w' h => (four_cells HB.out.b4 w' (bthen AB.out.1.below h)).2.2.2
            have fa : ∀ w', Below wo.heap.size wo w' → w'.cell? ⟨g15, 0, none⟩ = some (.int .i64 ha.k) := fun w' h => (AB.out.2.1.step (B := []) (Chg.of_below h) (fun _ h => absurd h List.not_mem_nil)).c0
            have fb : ∀ w', Below wo.heap.size wo w' → w'.cell? ⟨g15, 1, none⟩ = some (.int .u64 ha.n) := fun w' h => (AB.out.2.1.step (B := []) (Chg.of_below h) (fun _ h => absurd h List.not_mem_nil)).c1
            have fc : ∀ w', Below wo.heap.size wo w' → w'.cell? ⟨g15, 2, none⟩ = some (.string ha.s) := fun w' h => (AB.out.2.1.step (B := []) (Chg.of_below h) (fun _ h => absurd h List.not_mem_nil)).c2
            have fd : ∀ w', Below wo.heap.size wo w' → w'.cell? ⟨g15, 3, none⟩ = some (.int .i64 ha.o) := fun w' h => (AB.out.2.1.step (B := []) (Chg.of_below h) (fun _ h => absurd h List.not_mem_nil)).c3
            have HG : Hid (∀ w', Below wo.heap.size wo w' → HeapIs w' hp (S2 kv1 kv2) 100 F) := fun w' h => AB.out.1.is.kept (B := []) (Chg.of_below h) (fun _ _ => List.not_mem_nil)
            have HN : Hid (∀ w', Below wo.heap.size wo w' → ApBoxes wA hp (S2 kv1 kv2) F g15 g16 ha ot w') := fun w' h => ⟨AB.out.1.step h, AB.out.2.1.step (B := []) (Chg.of_below h) (fun _ h => absurd h List.not_mem_nil), AB.out.2.2.step (B := []) (Chg.of_below h) (fun _ h => absurd h List.not_mem_nil)⟩
            have hs : sameV ⟨ha.k, ha.n, ha.s, ha.o⟩ ⟨ha.k, ha.n, ha.s, ha.o⟩ = true := sameV_self ha
            go_region_held3 (fun w' => Below wo.heap.size wo w')
              (first | (with_reducible assumption) | (repeat (first | (with_reducible exact Below.refl _ _) | (with_reducible assumption) | (with_reducible refine Below.drew ?_) | (with_reducible refine Below.alloc ?_ ?_ _) | (with_reducible refine Below.setCell ?_ ?_ _) | omega | (simp <;> omega))))
              (first
                | (go_at_call 15; refine (look_walk 1 l hl _ (HG.out _ (by (first | (with_reducible assumption) | (repeat (first | (with_reducible exact Below.refl _ _) | (with_reducible assumption) | (with_reducible refine Below.drew ?_) | (with_reducible refine Below.alloc ?_ ?_ _) | (with_reducible refine Below.setCell ?_ ?_ _) | omega | (simp <;> omega))))))).mono ?_; rintro e w6 ⟨rfl, b6⟩; rw [look_S2 FW1.out, ← Hha.out, Val.out]; have s6 := bthen (w := wo) (by (first | (with_reducible assumption) | (repeat (first | (with_reducible exact Below.refl _ _) | (with_reducible assumption) | (with_reducible refine Below.drew ?_) | (with_reducible refine Below.alloc ?_ ?_ _) | (with_reducible refine Below.setCell ?_ ?_ _) | omega | (simp <;> omega))))) b6; clear b6))
            all_goals
              go_wp2_with fail
              go_meet
              exact ⟨rfl, HN.out _ (by (first | (with_reducible assumption) | (repeat (first | (with_reducible exact Below.refl _ _) | (with_reducible assumption) | (with_reducible refine Below.drew ?_) | (with_reducible refine Below.alloc ?_ ?_ _) | (with_reducible refine Below.setCell ?_ ?_ _) | omega | (simp <;> omega)))))⟩
          case rest =>
            obtain ⟨rfl, hAB⟩ := hcut
            obtain ⟨wo, rfl⟩ : ∃ wo, wo = wc := ⟨_, rfl⟩
            have AB := Lib.hid hAB
            clear hAB
            go_wp2_with fail
            refine (setMeta_walk 1 M2 ⟨⟨0, rfl, by decide⟩, by show (0 : Nat) ≤ maxLen; exact Nat.zero_le _⟩ _ AB.out.1.is).mono ?_
            rintro e w7 ⟨rfl, h7⟩
            rw [meta_two] at h7 ⊢
            obtain ⟨F', h7⟩ := AB.out.turn h7
            have A7 := Lib.hid h7
            clear AB h7
            obtain ⟨wv, Hwv⟩ : ∃ wv, Hid (wv = if ha.k = 0 then ot else ha) := ⟨_, Lib.hid rfl⟩
            have hbl : Below w7.heap.size w7 (w7.alloc (Obj.cells #[.int .i64 ha.k, .int .u64 ha.n, .string ha.s, .int .i64 ha.o] 34)) := (Below.refl _ _).alloc (Nat.le_refl _) _
            have A8 := Lib.hid (A7.out.step hbl)
            obtain ⟨c0, c1, c2, c3, _⟩ := A7.out.2.1
            obtain ⟨d0, d1, d2, d3, _⟩ := A7.out.2.2
            obtain ⟨e0, e1, e2, e3, _⟩ := A8.out.2.1
            obtain ⟨q0, q1, q2, q3, _⟩ := A8.out.2.2
            have hblk : (w7.alloc (Obj.cells #[.int .i64 ha.k, .int .u64 ha.n, .string ha.s, .int .i64 ha.o] 34)).heap[w7.heap.size]? = some (Obj.cells #[.int .i64 ha.k, .int .u64 ha.n, .string ha.s, .int .i64 ha.o] 34 (0, 0)) := heap_alloc_new _ _
            have hnF : w7.heap.size ∉ F' := fun e => by have := A7.out.1.is.lt _ e; omega
            have HP : Hid (ApBoxes wA hp (S3 kv1 kv2) F' g15 g16 ha ot (w7.alloc (Obj.cells #[.int .i64 ot.k, .int .u64 ot.n, .string ot.s, .int .i64 ot.o] 34)) ∧ Box (w7.alloc (Obj.cells #[.int .i64 ot.k, .int .u64 ot.n, .string ot.s, .int .i64 ot.o] 34)) w7.heap.size ot F') := by
              have hb2 : (w7.alloc (Obj.cells #[.int .i64 ot.k, .int .u64 ot.n, .string ot.s, .int .i64 ot.o] 34)).heap[w7.heap.size]? = some (Obj.cells #[.int .i64 ot.k, .int .u64 ot.n, .string ot.s, .int .i64 ot.o] 34 (0, 0)) := heap_alloc_new _ _
              obtain ⟨x0, x1, x2, x3⟩ := cells4 hb2
              exact ⟨A7.out.step ((Below.refl _ _).alloc (Nat.le_refl _) _), ⟨x0, x1, x2, x3, hnF⟩⟩
            have HQ : Hid (Box (w7.alloc (Obj.cells #[.int .i64 ha.k, .int .u64 ha.n, .string ha.s, .int .i64 ha.o] 34)) w7.heap.size ha F') := by
              obtain ⟨x0, x1, x2, x3⟩ := cells4 hblk
              exact ⟨x0, x1, x2, x3, hnF⟩
            go_upto_if 93 with fail
            go_cut [] (fun wx => ApBoxes wA hp (S3 kv1 kv2) F' g15 g16 ha ot wx ∧ Box wx w7.heap.size wv F')
            case first =>
              by_cases hz : ha.k = 0
              · have hw : wv = ot := by rw [Hwv.out, if_pos hz]
                have HW := Lib.hid hw
                have hz' : (ha.k == 0) = true := by rw [hz]; rfl
                clear hz hw hblk
                go_wp2_with fail
                go_meet
                rw [HW.out]
                exact HP.out
              · have hw : wv = ha := by rw [Hwv.out, if_neg hz]
                have HW := Lib.hid hw
                have hz' : (ha.k == 0) = false := by rw [beq_eq_false_iff_ne]; exact hz
                clear hz hw hblk
                go_wp2_with fail
                go_meet
                rw [HW.out]
                exact ⟨A8.out, HQ.out⟩
            case rest =>
              obtain ⟨hAB, hBx⟩ := hcut
              obtain ⟨wo, rfl⟩ : ∃ wo, wo = wc := ⟨_, rfl⟩
              have AB := Lib.hid hAB
              have BX := Lib.hid hBx
              clear hAB hBx c0 c1 c2 c3 d0 d1 d2 d3 e0 e1 e2 e3 q0 q1 q2 q3 hblk hnF HP HQ A8 A7 hbl
              go_upto_region 18 with fail
              have HG : Hid (∀ w', Below wo.heap.size wo w' → HeapIs w' hp (S3 kv1 kv2) 100 F') := fun w' h => AB.out.1.is.kept (B := []) (Chg.of_below h) (fun _ _ => List.not_mem_nil)
              have HN : Hid (∀ w', Below wo.heap.size wo w' → Below W.heap.size W w') := fun w' h => HB.out.below.trans ((bthen AB.out.1.below h).mono HB.out.below.size)
              have f4 : ∀ w', Below wo.heap.size wo w' → w'.cell? ⟨g4, 0, none⟩ = some (.int .i64 l.k) := fun w' h => (four_cells HB.out.b4 w' (bthen AB.out.1.below h)).1
              have f4b : ∀ w', Below wo.heap.size wo w' → w'.cell? ⟨g4, 1, none⟩ = some (.int .u64 l.n) := fun w' h => (four_cells HB.out.b4 w' (bthen AB.out.1.below h)).2.1
              have f4c : ∀ w', Below wo.heap.size wo w' → w'.cell? ⟨g4, 2, none⟩ = some (.string l.s) := fun w' h => (four_cells HB.out.b4 w' (bthen AB.out.1.below h)).2.2.1
              have f4d : ∀ w', Below wo.heap.size wo w' → w'.cell? ⟨g4, 3, none⟩ = some (.int .i64 l.o) := fun w' h => (four_cells HB.out.b4 w' (bthen AB.out.1.below h)).2.2.2
              have fa : ∀ w', Below wo.heap.size wo w' → w'.cell? ⟨g15, 0, none⟩ = some (.int .i64 ha.k) := fun w' h => (AB.out.step h).2.1.c0
              have fb : ∀ w', Below wo.heap.size wo w' → w'.cell? ⟨g15, 1, none⟩ = some (.int .u64 ha.n) := fun w' h => (AB.out.step h).2.1.c1
              have fc : ∀ w', Below wo.heap.size wo w' → w'.cell? ⟨g15, 2, none⟩ = some (.string ha.s) := fun w' h => (AB.out.step h).2.1.c2
              have fd : ∀ w', Below wo.heap.size wo w' → w'.cell? ⟨g15, 3, none⟩ = some (.int .i64 ha.o) := fun w' h => (AB.out.step h).2.1.c3
              have fe : ∀ w', Below wo.heap.size wo w' → w'.cell? ⟨w7.heap.size, 0, none⟩ = some (.int .i64 wv.k) := fun w' h => (BX.out.step (B := []) (Chg.of_below h) (fun _ h => absurd h List.not_mem_nil)).c0
              have ff : ∀ w', Below wo.heap.size wo w' → w'.cell? ⟨w7.heap.size, 1, none⟩ = some (.int .u64 wv.n) := fun w' h => (BX.out.step (B := []) (Chg.of_below h) (fun _ h => absurd h List.not_mem_nil)).c1
              have fg : ∀ w', Below wo.heap.size wo w' → w'.cell? ⟨w7.heap.size, 2, none⟩ = some (.string wv.s) := fun w' h => (BX.out.step (B := []) (Chg.of_below h) (fun _ h => absurd h List.not_mem_nil)).c2
              have fh : ∀ w', Below wo.heap.size wo w' → w'.cell? ⟨w7.heap.size, 3, none⟩ = some (.int .i64 wv.o) := fun w' h => (BX.out.step (B := []) (Chg.of_below h) (fun _ h => absurd h List.not_mem_nil)).c3
              have HL : Hid (lookS (S3 kv1 kv2) 17 1 l = wv) := by
                show lookS (S3 kv1 kv2) 17 1 l = wv
                rw [look_S3 FW2.out, ← Hha.out, ← Hot.out, ← Hwv.out]
              have HGT : Hid (getS (S3 kv1 kv2) 1 l = ha) := by
                show getS (S3 kv1 kv2) 1 l = ha
                rw [(get_two kv1 kv2 l).2.2.1, ← Hha.out]
              have hs1 : sameV ⟨wv.k, wv.n, wv.s, wv.o⟩ ⟨wv.k, wv.n, wv.s, wv.o⟩ = true := sameV_self wv
              have hs2 : sameV ⟨ha.k, ha.n, ha.s, ha.o⟩ ⟨ha.k, ha.n, ha.s, ha.o⟩ = true := sameV_self ha
              go_region_held3 (fun w' => Below wo.heap.size wo w')
                (first | (with_reducible assumption) | (repeat (first | (with_reducible exact Below.refl _ _) | (with_reducible assumption) | (with_reducible refine Below.drew ?_) | (with_reducible refine Below.alloc ?_ ?_ _) | (with_reducible refine Below.setCell ?_ ?_ _) | omega | (simp <;> omega))))
                (first
                  | (go_at_call 15; refine (look_walk 1 l hl _ (HG.out _ (by (first | (with_reducible assumption) | (repeat (first | (with_reducible exact Below.refl _ _) | (with_reducible assumption) | (with_reducible refine Below.drew ?_) | (with_reducible refine Below.alloc ?_ ?_ _) | (with_reducible refine Below.setCell ?_ ?_ _) | omega | (simp <;> omega))))))).mono ?_; rintro e w6 ⟨rfl, b6⟩; rw [HL.out, Val.out]; have s6 := bthen (w := wo) (by (first | (with_reducible assumption) | (repeat (first | (with_reducible exact Below.refl _ _) | (with_reducible assumption) | (with_reducible refine Below.drew ?_) | (with_reducible refine Below.alloc ?_ ?_ _) | (with_reducible refine Below.setCell ?_ ?_ _) | omega | (simp <;> omega))))) b6; clear b6)
                  | (go_at_call 14; refine (Get_walk 1 l hl _ (HG.out _ (by (first | (with_reducible assumption) | (repeat (first | (with_reducible exact Below.refl _ _) | (with_reducible assumption) | (with_reducible refine Below.drew ?_) | (with_reducible refine Below.alloc ?_ ?_ _) | (with_reducible refine Below.setCell ?_ ?_ _) | omega | (simp <;> omega))))))).mono ?_; rintro e w8 ⟨rfl, b8⟩; rw [HGT.out, Val.out]; have s8 := bthen (w := wo) (by (first | (with_reducible assumption) | (repeat (first | (with_reducible exact Below.refl _ _) | (with_reducible assumption) | (with_reducible refine Below.drew ?_) | (with_reducible refine Below.alloc ?_ ?_ _) | (with_reducible refine Below.setCell ?_ ?_ _) | omega | (simp <;> omega))))) b8; clear b8)
                  | (go_at_call 12; refine (size_walk (s := S3 kv1 kv2) (limit := 100) (F := F') 1 _ (HG.out _ (by (first | (with_reducible assumption) | (repeat (first | (with_reducible exact Below.refl _ _) | (with_reducible assumption) | (with_reducible refine Below.drew ?_) | (with_reducible refine Below.alloc ?_ ?_ _) | (with_reducible refine Below.setCell ?_ ?_ _) | omega | (simp <;> omega))))))).mono ?_; rintro e w9 ⟨n, rfl, hn, hw⟩; subst hw; have hn1 := size_S3 FW1.out hn; have hn2 : ((n : Nat) : Int) ≤ 1 := Int.ofNat_le.2 hn1; clear hn hn1)
                  | (go_at_call 13; refine (lives_any _).mono ?_; rintro e w10 ⟨rfl, b10⟩; have s10 := bthen (w := wo) (by (first | (with_reducible assumption) | (repeat (first | (with_reducible exact Below.refl _ _) | (with_reducible assumption) | (with_reducible refine Below.drew ?_) | (with_reducible refine Below.alloc ?_ ?_ _) | (with_reducible refine Below.setCell ?_ ?_ _) | omega | (simp <;> omega))))) b10; clear b10))
              all_goals
                go_wp2_with fail
                go_ret
                exact ⟨rfl, HN.out _ (by (first | (with_reducible assumption) | (repeat (first | (with_reducible exact Below.refl _ _) | (with_reducible assumption) | (with_reducible refine Below.drew ?_) | (with_reducible refine Below.alloc ?_ ?_ _) | (with_reducible refine Below.setCell ?_ ?_ _) | omega | (simp <;> omega)))))⟩
end Go.Proofs.Ytlihonbmopeemaa.Hp
namespace Go.Proofs.Ytlihonbmopeemaa.Ans
open Go Go.RowKit Go.Proofs.Ytlihonbmopeemaa.Hp
theorem row_HeapApart (k l v x : Val) (W : World) (hk : VOK k) (hl : VOK l) (hv : VOK v) (hx : VOK x) : Calls Try.prog 4 #[fourV k l v x] W fun e w' => e = .returned (.bool true) ∧ Below W.heap.size W w' :=
  apart_walk k l v x hk hl hv hx W
end Go.Proofs.Ytlihonbmopeemaa.Ans
