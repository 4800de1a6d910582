/- Texts on SideC, joined. No conditions but those that each theorem states. -/
import Derived.Test.YtlihonbmopeemaaBdSideB
import Derived.StillTail
import Derived.OrdersHeld
section
namespace Go.Proofs.Ytlihonbmopeemaa.Hp
open Go Go.RowKit Go.Proofs.Ytlihonbmopeemaa.HpLaw Go.Proofs.Ytlihonbmopeemaa.Ans Go.Proofs.Ytlihonbmopeemaa.Num Go.Proofs.Ytlihonbmopeemaa.DigLaw Go.Proofs.Ytlihonbmopeemaa.Fl Go.Proofs.Ytlihonbmopeemaa.Dig Go.Proofs.Ytlihonbmopeemaa.Float

/-- keys that are there once -/
theorem kv_found : ∀ {kv : List (Val × Val)} {k : Val} {p : Nat}, placeL (kv.map Prod.fst) k = some p → (kv.map Prod.fst).Nodup → ∀ z, p < kv.length ∧ (∃ v0, lookKV kv k = some v0) ∧ eraseKV kv k = kv.eraseIdx p ∧ putKV kv k z = kv.set p (k, z)
  | [], k, p, h, _, z => by cases h
  | a :: l, k, p, h, hU, z => by
    rw [List.map_cons, List.nodup_cons] at hU
    have h' : (if sameV a.1 k then some 0 else (placeL (l.map Prod.fst) k).map (· + 1)) = some p := h
    have e1 : lookKV (a :: l) k = if sameV a.1 k then some a.2 else lookKV l k := rfl
    have e2 : eraseKV (a :: l) k = if sameV a.1 k then eraseKV l k else a :: eraseKV l k := by
      unfold eraseKV
      rw [List.filter_cons]
      cases sameV a.1 k <;> rfl
    have e3 : putKV (a :: l) k z = (if sameV a.1 k then (a.1, z) else a) :: putKV l k z := rfl
    rw [e1, e2, e3]
    cases hs : sameV a.1 k
    · rw [hs, if_neg (by simp)] at h'
      obtain ⟨q, hq, rfl⟩ := Option.map_eq_some_iff.1 h'
      obtain ⟨r1, r2, r3, r4⟩ := kv_found hq hU.2 z
      rw [r3, r4]
      exact ⟨by rw [List.length_cons]; omega, r2, rfl, rfl⟩
    · obtain rfl := (sameV_iff a.1 k).1 hs
      rw [hs, if_pos rfl] at h'
      obtain rfl := Option.some.inj h'
      have hno : ∀ x ∈ l, sameV x.1 a.1 = false := fun x hx => sameV_false (fun e => hU.1 (by rw [← e]; exact List.mem_map.2 ⟨x, hx, rfl⟩))
      refine ⟨Nat.zero_lt_succ _, ⟨_, rfl⟩, ?_, ?_⟩
      · show eraseKV l a.1 = l
        unfold eraseKV
        exact List.filter_eq_self.2 fun x hx => by rw [hno x hx]; rfl
      · show (a.1, z) :: putKV l a.1 z = (a.1, z) :: l
        congr 1
        unfold putKV
        have e : ∀ m : List (Val × Val), (∀ x ∈ m, sameV x.1 a.1 = false) → m.map (fun x => if sameV x.1 a.1 then (x.1, z) else x) = m := by
          intro m hm
          induction m with
          | nil => rfl
          | cons b m ih => rw [List.map_cons, ih (fun x hx => hm x (List.mem_cons_of_mem _ hx)), hm b (List.mem_cons_self ..)]; rfl
        exact e l hno
theorem kv_missing {kv : List (Val × Val)} {k : Val} (h : placeL (kv.map Prod.fst) k = Option.none) : lookKV kv k = Option.none ∧ eraseKV kv k = kv := by
  have hno : ∀ x ∈ kv, sameV x.1 k = false := fun x hx => sameV_false (placeL_none.1 h x.1 (List.mem_map.2 ⟨x, hx, rfl⟩))
  constructor
  · clear h
    induction kv with
    | nil => rfl
    | cons a l ih =>
      have e1 : lookKV (a :: l) k = if sameV a.1 k then some a.2 else lookKV l k := rfl
      rw [e1, hno a (List.mem_cons_self ..)]
      exact ih fun x hx => hno x (List.mem_cons_of_mem _ hx)
  · unfold eraseKV
    exact List.filter_eq_self.2 fun x hx => by rw [hno x hx]; rfl
theorem map_eraseIdx {α β : Type} (f : α → β) : ∀ (l : List α) (p : Nat), (l.eraseIdx p).map f = (l.map f).eraseIdx p
  | [], _ => rfl
  | _ :: _, 0 => rfl
  | a :: l, p + 1 => by
    show f a :: (l.eraseIdx p).map f = f a :: (l.map f).eraseIdx p
    rw [map_eraseIdx f l p]
theorem set_at_self {α : Type} : ∀ (l : List α) (p : Nat) (a : α), l[p]? = some a → l.set p a = l
  | [], _, _, h => by cases h
  | b :: l, 0, a, h => by rw [Option.some.inj h.symm]; rfl
  | b :: l, p + 1, a, h => by
    show b :: l.set p a = b :: l
    rw [set_at_self l p a h]
theorem putL_zero : ∀ (vs xs : List Value), vs.length ≤ xs.length → putL xs 0 vs = vs ++ xs.drop vs.length
  | [], xs, _ => rfl
  | v :: r, [], h => absurd h (by simp)
  | v :: r, x :: xs, h => by
    show putL (v :: xs) 1 r = v :: (r ++ xs.drop r.length)
    rw [← putL_zero r xs (by simpa using h)]
    exact putL_append [v] r xs 0
theorem valCells_len (l : List Val) : (valCells l).length = l.length * 4 := by
  induction l with
  | nil => rfl
  | cons a l ih =>
    have e : valCells (a :: l) = a.cs ++ valCells l := List.flatMap_cons ..
    rw [e, List.length_append, ih, List.length_cons]
    show 4 + l.length * 4 = _
    omega
theorem valCells_app (a b : List Val) : valCells (a ++ b) = valCells a ++ valCells b := List.flatMap_append ..
theorem valCells_one (y : Val) : valCells [y] = y.cs := by
  have e : valCells [y] = y.cs ++ valCells [] := List.flatMap_cons ..
  rw [e]; exact List.append_nil _
theorem valCells_drop : ∀ (l : List Val) (k : Nat), (valCells l).drop (k * 4) = valCells (l.drop k)
  | [], k => by rw [List.drop_nil]; exact List.drop_nil
  | a :: l, 0 => rfl
  | a :: l, k + 1 => by
    have e : valCells (a :: l) = a.cs ++ valCells l := List.flatMap_cons ..
    rw [e, List.drop_succ_cons, ← valCells_drop l k, show (k + 1) * 4 = a.cs.length + k * 4 by show _ = 4 + k * 4; omega, List.drop_append, List.drop_eq_nil_of_le (Nat.le_add_right _ _), Nat.add_sub_cancel_left, List.nil_append]
theorem valCells_shift (l : List Val) (p : Nat) (hp : p < l.length) : (putL (valCells l) (p * 4) (valCells (l.drop (p + 1)))).take ((l.length - 1) * 4) = valCells (l.eraseIdx p) := by
  obtain ⟨A, B, a, rfl, rfl⟩ : ∃ A B a, l = A ++ a :: B ∧ A.length = p := ⟨l.take p, l.drop (p + 1), l[p], by rw [List.getElem_cons_drop, List.take_append_drop], by rw [List.length_take]; omega⟩
  have e1 : (A ++ a :: B).drop (A.length + 1) = B := by rw [List.drop_append]; simp
  have e2 : (A ++ a :: B).eraseIdx A.length = A ++ B := by rw [List.eraseIdx_append_of_length_le (Nat.le_refl _)]; simp
  have e3 : valCells (a :: B) = a.cs ++ valCells B := List.flatMap_cons ..
  rw [e1, e2, valCells_app, e3, valCells_app]
  have h4 : (valCells A).length = A.length * 4 := valCells_len A
  have hB : (valCells B).length = B.length * 4 := valCells_len B
  have h0 := putL_append (valCells A) (valCells B) (a.cs ++ valCells B) 0
  rw [h4, Nat.add_zero] at h0
  rw [h0, putL_zero _ _ (by rw [List.length_append]; omega), ← List.append_assoc]
  exact List.take_left' (by rw [List.length_append, h4, hB, List.length_append, List.length_cons]; omega)
theorem row_erase {w : World} {g cap n p : Nat} {l : List Val} (hn : n = l.length) (h : w.ownsRow 0 34 4 (.slice (some ⟨g, 0, none⟩) n cap) n (valCells l)) (hp : p < l.length) :
    (w.setCells g (p * 4) (valCells (l.drop (p + 1)))).ownsRow 0 34 4 (.slice (some ⟨g, 0, none⟩) (n - 1) cap) (n - 1) (valCells (l.eraseIdx p)) ∧ Chg [g] w (w.setCells g (p * 4) (valCells (l.drop (p + 1)))) := by
  subst hn
  obtain ⟨h1, h2⟩ := row_put (valCells (l.drop (p + 1))) (p * 4) h
  have h3 := row_cut h1 (show l.length - 1 ≤ l.length by omega) (by omega)
  rw [valCells_shift l p hp] at h3
  exact ⟨h3, h2⟩
theorem valCells_flat (l : List Val) : ∀ u ∈ valCells l, u.oneCell' = true := by
  intro u hu
  obtain ⟨y, _, hy⟩ := List.mem_flatMap.1 hu
  have : u ∈ [Value.int .i64 y.k, .int .u64 y.n, .string y.s, .int .i64 y.o] := hy
  simp only [List.mem_cons, List.not_mem_nil, or_false] at this
  rcases this with rfl | rfl | rfl | rfl <;> rfl
theorem erase_facts {w : World} {g cap n p : Nat} {l : List Val} (hn : n = l.length) (h : w.ownsRow 0 34 4 (.slice (some ⟨g, 0, none⟩) n cap) n (valCells l)) (hp : p < l.length) :
    (valCells (l.drop (p + 1))).length = (n - (p + 1)) * 4 ∧ (∀ j u, (valCells (l.drop (p + 1)))[j]? = some u → w.cell? ((⟨g, if cap = p + 1 then 0 else (p + 1) * 4, none⟩ : Addr).add j) = some u) ∧
    (∀ j, j < (valCells (l.drop (p + 1))).length → (w.cell? ⟨g, 0 + p * 4 + j, none⟩).isSome = true ∧ w.frozen? ⟨g, 0 + p * 4 + j, none⟩ = false) ∧ p + (n - (p + 1)) = n - 1 := by
  subst hn
  have e1 : (valCells (l.drop (p + 1))).length = (l.length - (p + 1)) * 4 := by rw [valCells_len, List.length_drop]
  refine ⟨e1, fun j u hu => ?_, fun j hj => ⟨?_, h.frozenAt _⟩, by omega⟩
  · have hj := (List.getElem?_eq_some_iff.1 hu).1
    obtain ⟨ad, cap', hf, q1, q2, _⟩ := row_form h
    obtain ⟨_, _, rfl⟩ := (Value.slice.injEq ..).mp hf
    rw [← valCells_drop, List.getElem?_drop] at hu
    rw [if_neg (by omega), Addr.add_lit]
    exact row_cell h hu
  · have hlt : 0 + p * 4 + j < (valCells l).length := by rw [valCells_len]; omega
    rw [row_cell h (List.getElem?_eq_getElem hlt)]
    rfl
/-- a row of values in a box's object: where E holds it may be appended to -/
structure PRow (E : Prop) (w : World) (v : Value) (l : List Val) : Prop where
  form : ∃ ad cap, v = .slice (some ad) l.length cap ∧ l.length ≤ cap ∧ cap ≤ 9223372036854775807
  own_ : 0 < l.length → w.ownsRow 0 34 4 v l.length (valCells l)
  nil : E → l.length = 0 → ∃ b, v = .slice (some b) 0 0
theorem PRow.of {w : World} {v : Value} {l : List Val} (h : GRow 34 4 w v l.length (valCells l)) : PRow True w v l := ⟨h.form, h.own_, fun _ h0 => (h.nil h0).2⟩
theorem PRow.to {w : World} {v : Value} {l : List Val} (h : PRow True w v l) : GRow 34 4 w v l.length (valCells l) :=
  ⟨h.form, h.own_, fun h0 => ⟨by rw [List.eq_nil_of_length_eq_zero h0]; rfl, h.nil trivial h0⟩⟩
theorem PRow.weak {E : Prop} {w : World} {v : Value} {l : List Val} (h : PRow E w v l) : PRow False w v l := ⟨h.form, h.own_, False.elim⟩
theorem PRow.kept {E : Prop} {w w' : World} {v : Value} {l : List Val} {B : List Nat} (h : PRow E w v l) (hc : Chg B w w') (hn : ∀ b ∈ gown v l.length, b ∉ B) : PRow E w' v l :=
  ⟨h.form, fun h0 => row_kept (h.own_ h0) hc (fun b hb => hn b (gown_of h0 hb)), h.nil⟩
theorem PRow.lt {E : Prop} {w : World} {v : Value} {l : List Val} (h : PRow E w v l) : ∀ b ∈ gown v l.length, b < w.heap.size := by
  intro b hb
  obtain ⟨h0, hb⟩ := gown_mem hb
  exact ((h.own_ h0).lt b (Option.mem_toList.1 hb)).2
theorem PRow.owned {E : Prop} {w : World} {v : Value} {l : List Val} {n : Nat} (hn : n = l.length) (h : w.ownsRow 0 34 4 v n (valCells l)) (h0 : 0 < n) : PRow E w v l := by
  subst hn
  obtain ⟨ad, cap, hv, h1, h2, h3⟩ := row_form h
  rw [h3 h0] at hv
  exact ⟨⟨_, cap, hv, h1, h2⟩, fun _ => h, fun _ e => absurd e (by omega)⟩
theorem PRow.read {E : Prop} {w : World} {v : Value} {l : List Val} (h : PRow E w v l) : RowR w v l := by
  obtain ⟨ad, cap, h1, h2, h3⟩ := h.form
  exact ⟨⟨_, cap, h1, h2, h3⟩, fun hl => h.own_ (List.length_pos_iff.2 hl)⟩
theorem rown_gown {v : Value} {l : List Val} {b : Nat} (h : b ∈ rown v l) : b ∈ gown v l.length := gown_of (List.length_pos_iff.2 (rown_mem h).1) (rown_mem h).2
/-- the box, the two values' boxes, and the two rows -/
structure SBox (E : Prop) (W : World) (bx : Nat) (x : RObj) (ck cv kv : Value) (ks : List Val) (vv : Value) (vs : List Val) (y z : Val) (w : World) : Prop where
  two : Two W y z w
  bxn : W.heap.size + 2 ≤ bx
  box : w.heap[bx]? = some (.cells (rCells (x.1, ⟨ck, cv, x.2.sv⟩)).toArray 60 (0, 0))
  keys : PRow E w kv ks
  vals : PRow E w vv vs
  kn : ∀ b ∈ gown kv ks.length, W.heap.size + 2 ≤ b ∧ b ≠ bx ∧ b ∉ gown vv vs.length
  vn : ∀ b ∈ gown vv vs.length, W.heap.size + 2 ≤ b ∧ b ≠ bx
section
variable {E : Prop} {W : World} {bx : Nat} {x : RObj} {ck cv kv vv kv0 vv0 : Value} {ks vs : List Val} {y z : Val} {w : World}
theorem SBox.bxl (h : SBox E W bx x ck cv kv ks vv vs y z w) : bx < w.heap.size := (Array.getElem?_eq_some_iff.1 h.box).1
theorem SBox.chg (h : SBox E W bx x ck cv kv ks vv vs y z w) {w' : World} {B : List Nat} (hc : Chg B w w') (hB : ∀ b ∈ B, W.heap.size + 2 ≤ b ∧ b ≠ bx) : Two W y z w' ∧ w'.heap[bx]? = some (.cells (rCells (x.1, ⟨ck, cv, x.2.sv⟩)).toArray 60 (0, 0)) := by
  have hs := h.two.size
  have hl := h.bxl
  refine ⟨⟨h.two.below.trans (hc.below_of h.two.below.size (fun b hb => by have := (hB b hb).1; omega)), (hc.block _ (by omega) (fun e => by have := (hB _ e).1; omega)).trans h.two.fst, (hc.block _ (by omega) (fun e => by have := (hB _ e).1; omega)).trans h.two.snd⟩,
    (hc.block _ hl (fun e => (hB _ e).2 rfl)).trans h.box⟩
theorem SBox.step (h : SBox E W bx x ck cv kv ks vv vs y z w) {w' : World} (hb : Below w.heap.size w w') : SBox E W bx x ck cv kv ks vv vs y z w' := by
  obtain ⟨h1, h2⟩ := h.chg (B := []) (Chg.of_below hb) (fun _ hb => absurd hb List.not_mem_nil)
  exact ⟨h1, h.bxn, h2, h.keys.kept (B := []) (Chg.of_below hb) (fun _ _ => List.not_mem_nil), h.vals.kept (B := []) (Chg.of_below hb) (fun _ _ => List.not_mem_nil), h.kn, h.vn⟩
theorem SBox.weak (h : SBox E W bx x ck cv kv ks vv vs y z w) : SBox False W bx x ck cv kv ks vv vs y z w := ⟨h.two, h.bxn, h.box, h.keys.weak, h.vals.weak, h.kn, h.vn⟩
theorem SBox.keys_copy {w1 w4 : World} {l : List Val} (h : SBox True W bx x ck cv kv0 [] vv vs y z w) (hb : Below w.heap.size w w1) (g1 : GRow 34 4 w4 kv l.length (valCells l)) (g2 : Below w1.heap.size w1 w4) (g3 : ∀ b ∈ gown kv l.length, w1.heap.size ≤ b) :
    SBox True W bx x ck cv kv l vv vs y z w4 := by
  have hh := h.step (hb.trans (g2.mono hb.size))
  have hs := hb.size
  have h1 := h.bxl
  have h2 := h.two.size
  exact ⟨hh.two, hh.bxn, hh.box, PRow.of g1, hh.vals, fun b hb' => ⟨by have := g3 b hb'; omega, by have := g3 b hb'; omega, fun e => by have := g3 b hb'; have := h.vals.lt b e; omega⟩, hh.vn⟩
theorem SBox.vals_copy {w1 w4 : World} {l : List Val} (h : SBox True W bx x ck cv kv ks vv0 [] y z w) (hb : Below w.heap.size w w1) (g1 : GRow 34 4 w4 vv l.length (valCells l)) (g2 : Below w1.heap.size w1 w4) (g3 : ∀ b ∈ gown vv l.length, w1.heap.size ≤ b) :
    SBox True W bx x ck cv kv ks vv l y z w4 := by
  have hh := h.step (hb.trans (g2.mono hb.size))
  have hs := hb.size
  have h1 := h.bxl
  have h2 := h.two.size
  exact ⟨hh.two, hh.bxn, hh.box, hh.keys, PRow.of g1, fun b hb' => ⟨(h.kn b hb').1, (h.kn b hb').2.1, fun e => by have := g3 b e; have := h.keys.lt b hb'; omega⟩, fun b hb' => ⟨by have := g3 b hb'; omega, by have := g3 b hb'; omega⟩⟩
theorem SBox.keys_more {w1 w6 : World} {kv' : Value} {u : Val} (h : SBox E W bx x ck cv kv ks vv vs y z w) (hb : Below w.heap.size w w1) (k1 : w6.ownsRow 0 34 4 kv' (ks.length + 1) (valCells ks ++ u.cs)) (k2 : Chg (gown kv ks.length) w1 w6) (k3 : ∀ b ∈ own kv', b ∈ gown kv ks.length ∨ w1.heap.size ≤ b) :
    SBox E W bx x ck cv kv' (ks ++ [u]) vv vs y z w6 := by
  have hh := h.step hb
  obtain ⟨q1, q2⟩ := hh.chg k2 (fun b hb => ⟨(h.kn b hb).1, (h.kn b hb).2.1⟩)
  have hs := hb.size
  have h1 := h.bxl
  have h2 := h.two.size
  rw [← valCells_one u, ← valCells_app] at k1
  refine ⟨q1, h.bxn, q2, PRow.owned (by simp) k1 (by omega), hh.vals.kept k2 (fun b hb e => (h.kn b e).2.2 hb), fun b hb' => ?_, h.vn⟩
  rcases k3 b (gown_mem hb').2 with c | c
  · exact h.kn b c
  · exact ⟨by omega, by omega, fun e => by have := h.vals.lt b e; omega⟩
theorem SBox.vals_more {w1 w6 : World} {vv' : Value} {u : Val} (h : SBox E W bx x ck cv kv ks vv vs y z w) (hb : Below w.heap.size w w1) (k1 : w6.ownsRow 0 34 4 vv' (vs.length + 1) (valCells vs ++ u.cs)) (k2 : Chg (gown vv vs.length) w1 w6) (k3 : ∀ b ∈ own vv', b ∈ gown vv vs.length ∨ w1.heap.size ≤ b) :
    SBox E W bx x ck cv kv ks vv' (vs ++ [u]) y z w6 := by
  have hh := h.step hb
  obtain ⟨q1, q2⟩ := hh.chg k2 h.vn
  have hs := hb.size
  have h1 := h.bxl
  have h2 := h.two.size
  rw [← valCells_one u, ← valCells_app] at k1
  refine ⟨q1, h.bxn, q2, hh.keys.kept k2 (fun b hb e => (h.kn b hb).2.2 e), PRow.owned (by simp) k1 (by omega), fun b hb' => ⟨(h.kn b hb').1, (h.kn b hb').2.1, fun e => ?_⟩, fun b hb' => ?_⟩
  · rcases k3 b (gown_mem e).2 with c | c
    · exact (h.kn b hb').2.2 c
    · have := h.keys.lt b hb'; omega
  · rcases k3 b (gown_mem hb').2 with c | c
    · exact h.vn b c
    · exact ⟨by omega, by omega⟩
theorem SBox.store (h : SBox E W bx x ck cv kv ks vv vs y z w) : SBox E W bx x kv vv kv ks vv vs y z ((w.setCell ⟨bx, 1, none⟩ kv).setCell ⟨bx, 2, none⟩ vv) := by
  have hc : Chg [bx] w ((w.setCell ⟨bx, 1, none⟩ kv).setCell ⟨bx, 2, none⟩ vv) := (chg_set w bx 1 kv).trans (chg_set _ bx 2 vv) (fun b hb _ => hb)
  have hs := h.two.size
  have hbx := h.bxn
  have nb : ∀ c : Nat, c ≠ bx → c ∉ [bx] := fun c hc e => hc (List.mem_singleton.1 e)
  exact ⟨⟨h.two.below.trans (hc.below_of h.two.below.size (fun b hb => by rw [List.mem_singleton.1 hb]; omega)), (hc.block _ (by omega) (nb _ (by omega))).trans h.two.fst, (hc.block _ (by omega) (nb _ (by omega))).trans h.two.snd⟩, hbx,
    (setCell_at (setCell_at h.box 1 kv) 2 vv).trans rfl, h.keys.kept hc (fun b hb => nb b (h.kn b hb).2.1), h.vals.kept hc (fun b hb => nb b (h.vn b hb).2), h.kn, h.vn⟩
theorem SBox.keys_cut {g cap n p : Nat} (hn : n = ks.length) (h : SBox False W bx x ck cv (.slice (some ⟨g, 0, none⟩) n cap) ks vv vs y z w) (hp : p < ks.length) :
    SBox False W bx x ck cv (.slice (some ⟨g, 0, none⟩) (n - 1) cap) (ks.eraseIdx p) vv vs y z (w.setCells g (p * 4) (valCells (ks.drop (p + 1)))) := by
  subst hn
  have ho := h.keys.own_ (by omega)
  obtain ⟨r1, r2⟩ := row_erase rfl ho hp
  have hg : g ∈ gown (.slice (some ⟨g, 0, none⟩) ks.length cap) ks.length := gown_of (by omega) (List.mem_singleton.2 rfl)
  obtain ⟨q1, q2⟩ := h.chg r2 (fun b hb => by rw [List.mem_singleton.1 hb]; exact ⟨(h.kn g hg).1, (h.kn g hg).2.1⟩)
  have el : (ks.eraseIdx p).length = ks.length - 1 := List.length_eraseIdx_of_lt hp
  obtain ⟨ad, cap', hf, e2, e3⟩ := h.keys.form
  obtain ⟨_, _, rfl⟩ := (Value.slice.injEq ..).mp hf
  refine ⟨q1, h.bxn, q2, ⟨⟨_, _, by rw [el], by omega, e3⟩, fun _ => by rw [el]; exact r1, False.elim⟩, h.vals.kept r2 (fun b hb e => (h.kn g hg).2.2 (by rw [← List.mem_singleton.1 e]; exact hb)), fun b hb => ?_, h.vn⟩
  have e : b = g := List.mem_singleton.1 (gown_mem hb).2
  rw [e]; exact h.kn g hg
theorem SBox.vals_cut {g cap n p : Nat} (hn : n = vs.length) (h : SBox False W bx x ck cv kv ks (.slice (some ⟨g, 0, none⟩) n cap) vs y z w) (hp : p < vs.length) :
    SBox False W bx x ck cv kv ks (.slice (some ⟨g, 0, none⟩) (n - 1) cap) (vs.eraseIdx p) y z (w.setCells g (p * 4) (valCells (vs.drop (p + 1)))) := by
  subst hn
  have ho := h.vals.own_ (by omega)
  obtain ⟨r1, r2⟩ := row_erase rfl ho hp
  have hg : g ∈ gown (.slice (some ⟨g, 0, none⟩) vs.length cap) vs.length := gown_of (by omega) (List.mem_singleton.2 rfl)
  obtain ⟨q1, q2⟩ := h.chg r2 (fun b hb => by rw [List.mem_singleton.1 hb]; exact h.vn g hg)
  have el : (vs.eraseIdx p).length = vs.length - 1 := List.length_eraseIdx_of_lt hp
  obtain ⟨ad, cap', hf, e2, e3⟩ := h.vals.form
  obtain ⟨_, _, rfl⟩ := (Value.slice.injEq ..).mp hf
  refine ⟨q1, h.bxn, q2, h.keys.kept r2 (fun b hb e => (h.kn b hb).2.2 (by rw [List.mem_singleton.1 e]; exact hg)), ⟨⟨_, _, by rw [el], by omega, e3⟩, fun _ => by rw [el]; exact r1, False.elim⟩, fun b hb => ⟨(h.kn b hb).1, (h.kn b hb).2.1, fun e => ?_⟩, fun b hb => ?_⟩
  · have e' : b = g := List.mem_singleton.1 (gown_mem e).2
    exact (h.kn b hb).2.2 (by rw [e']; exact hg)
  · have e' : b = g := List.mem_singleton.1 (gown_mem hb).2
    rw [e']; exact h.vn g hg
/-- a value turns in its place -/
theorem SBox.vals_put {g cap n p : Nat} (hn : n = vs.length) (h : SBox E W bx x ck cv kv ks (.slice (some ⟨g, 0, none⟩) n cap) vs y z w) (hp : p < vs.length) (u : Val) :
    SBox E W bx x ck cv kv ks (.slice (some ⟨g, 0, none⟩) n cap) (vs.set p u) y z (w.setCells g (p * 4) u.cs) := by
  subst hn
  have ho := h.vals.own_ (by omega)
  obtain ⟨r1, r2⟩ := row_put u.cs (p * 4) ho
  rw [valCells_put _ _ _ hp] at r1
  have hg : g ∈ gown (.slice (some ⟨g, 0, none⟩) vs.length cap) vs.length := gown_of (by omega) (List.mem_singleton.2 rfl)
  obtain ⟨q1, q2⟩ := h.chg r2 (fun b hb => by rw [List.mem_singleton.1 hb]; exact h.vn g hg)
  have el : (vs.set p u).length = vs.length := List.length_set
  refine ⟨q1, h.bxn, q2, h.keys.kept r2 (fun b hb e => (h.kn b hb).2.2 (by rw [List.mem_singleton.1 e]; exact hg)), PRow.owned el.symm r1 (by omega), fun b hb => ⟨(h.kn b hb).1, (h.kn b hb).2.1, fun e => ?_⟩, fun b hb => ?_⟩
  · exact (h.kn b hb).2.2 (by rw [el] at e; exact e)
  · exact h.vn b (by rw [el] at hb; exact hb)
/-- a value is laid in a box of its own -/
theorem SBox.lay (h : SBox E W bx x ck cv kv ks vv vs y z w) (u : Val) : SBox E W bx x ck cv kv ks vv vs y z (w.alloc (.cells #[.int .i64 u.k, .int .u64 u.n, .string u.s, .int .i64 u.o] 34)) ∧
    (w.alloc (.cells #[.int .i64 u.k, .int .u64 u.n, .string u.s, .int .i64 u.o] 34)).heap[w.heap.size]? = some (.cells #[.int .i64 u.k, .int .u64 u.n, .string u.s, .int .i64 u.o] 34 (0, 0)) ∧ w.heap.size ∉ gown kv ks.length :=
  ⟨h.step ((Below.refl _ _).alloc (Nat.le_refl _) _), heap_alloc_new _ _, fun e => absurd (h.keys.lt _ e) (Nat.lt_irrefl _)⟩
end
theorem box4_news {w : World} {X : Nat} {u : Val} (h : w.heap[X]? = some (.cells #[.int .i64 u.k, .int .u64 u.n, .string u.s, .int .i64 u.o] 34 (0, 0))) : ∀ j v, u.cs[j]? = some v → w.cell? ((⟨X, 0, none⟩ : Addr).add j) = some v := by
  intro j v hj
  rw [Addr.add_lit, Nat.zero_add, cell_of h]
  rw [← hj]
  have e : u.cs = [Value.int .i64 u.k, .int .u64 u.n, .string u.s, .int .i64 u.o] := rfl
  rw [e]
  exact List.getElem?_toArray ..
theorem cs_flat (u : Val) : ∀ v ∈ u.cs, v.oneCell' = true := by
  have h := valCells_flat [u]
  rw [valCells_one] at h
  exact h
end Go.Proofs.Ytlihonbmopeemaa.Hp
end
section
namespace Go.Proofs.Ytlihonbmopeemaa.Hp
open Go Go.RowKit

section
variable (P : Program) (md : Region.Mode) (ops : Array Oper) (Q : Exit → Go.Act → World → Prop) (S : World → Prop) (n : Nat)
/-- the head of the region in whatever order, then its tail in a row -/
def headT : Nat → Array Bool → Go.Act → World → Prop
  | 0, lst, a, w => Region.seqB md ops (ops.size - n) n lst = true ∧ wpList P ops Q (ops.toList.drop n) a w
  | f + 1, lst, a, w => Region.ready md ops lst ≠ [] ∧ ∀ i ∈ Region.ready md ops lst, i < n ∧ wpOp P ops Q i (fun a' w' => S w' ∧ headT f (lst.setIfInBounds i true) a' w') a w
def statT : Bool := Region.noSelect ops && decide (n < ops.size) && Region.sinkB md ops n && Region.chainB md ops n
def runT (f : Nat) (lst : Array Bool) (a : Go.Act) (w : World) : Prop := statT md ops n = true → HeadInv md ops n lst → S w → headT P md ops Q S n f lst a w
end
section
variable {P : Program} {md : Region.Mode} {ops : Array Oper} {Q : Exit → Go.Act → World → Prop} {S : World → Prop} {n : Nat}
theorem headT_any : ∀ (f : Nat) (lst : Array Bool) (a : Go.Act) (w : World), headT P md ops Q S n f lst a w → wpAny P md ops Q (f + (ops.size - n)) lst a w
  | 0, lst, a, w, h => by
    have e : (ops.toList.drop n).length = ops.size - n := by simp
    have hq := wpAny_of_seq (md := md) (Q' := Q) (ops.toList.drop n) n lst a w (fun j => by simp [List.getElem?_drop]) (by rw [e]; exact h.1) h.2
    rw [e] at hq
    rw [Nat.zero_add]; exact hq
  | f + 1, lst, a, w, h => by
    rw [show f + 1 + (ops.size - n) = (f + (ops.size - n)) + 1 by omega]
    exact ⟨fun h0 => absurd h0 h.1, fun i hi => wpOp_mono (fun a' w' hh => headT_any f _ a' w' hh.2) (h.2 i hi).2⟩
theorem statT_parts (h : statT md ops n = true) : Region.noSelect ops = true ∧ n < ops.size ∧ Region.sinkB md ops n = true ∧ Region.chainB md ops n = true := by
  unfold statT at h
  simp only [Bool.and_eq_true, decide_eq_true_eq] at h
  exact ⟨h.1.1.1, h.1.1.2, h.1.2, h.2⟩
theorem headT_first {i : Nat} {oi : Oper} {v : Value} (hi : ops[i]? = some oi) (hst : statT md ops n = true) (hin : i < n) (hQ : ∀ c a w, Q (.panic c) (a.put oi.dst v) w → Q (.panic c) a w) :
    ∀ (f : Nat) (lst : Array Bool) (a : Go.Act) (w : World), HeadInv md ops n lst → Region.free md ops lst i = true → i ∈ Region.ready md ops lst → YieldsIf P ops S oi v a → S w →
      headT P md ops Q S n f (lst.setIfInBounds i true) (a.put oi.dst v) w → headT P md ops Q S n (f + 1) lst a w := by
  obtain ⟨hsel, hn, hs, hc⟩ := statT_parts hst
  have hsp := Region.noSelect_spec hsel
  have key : ∀ (f : Nat) (lst : Array Bool) (a : Go.Act) (w : World), HeadInv md ops n lst → (∀ j oj, ops[j]? = some oj → j ≠ i → lst.getD j true = false → (∀ e ∈ oj.after, Region.binds md e = true → e.on ≠ i) → oi.apart ops oj = true) →
      i ∈ Region.ready md ops lst → YieldsIf P ops S oi v a → S w → headT P md ops Q S n f (lst.setIfInBounds i true) (a.put oi.dst v) w → headT P md ops Q S n (f + 1) lst a w := by
    intro f
    induction f with
    | zero =>
      intro lst a w inv _ hr hy hS H
      have hun := (mem_ready.1 hr).1
      refine ⟨fun h => (by rw [h] at hr; cases hr), fun j hj => ?_⟩
      have hjn : j < n := Nat.lt_of_not_le fun h => tail_waits hs hc hn inv _ i rfl hin hun j h hj
      refine ⟨hjn, ?_⟩
      by_cases hji : j = i
      · subst hji; exact hy.wpOp hi hS ⟨hS, H⟩
      · have := seqB_ready H.1 j (ready_mono hj hji)
        omega
    | succ f ih =>
      intro lst a w inv hfree hr hy hS H
      have hun := (mem_ready.1 hr).1
      refine ⟨fun h => (by rw [h] at hr; cases hr), fun j hj => ?_⟩
      have hjn : j < n := Nat.lt_of_not_le fun h => tail_waits hs hc hn inv _ i rfl hin hun j h hj
      refine ⟨hjn, ?_⟩
      by_cases hji : j = i
      · subst hji; exact hy.wpOp hi hS ⟨hS, H⟩
      · have h1 := (H.2 j (ready_mono hj hji)).2
        obtain ⟨hjun, oj, hoj, hall⟩ := mem_ready.1 hj
        have hnot : ∀ e ∈ oj.after, Region.binds md e = true → e.on ≠ i := fun e he hb heq => by
          have h1 := hall e he hb
          rw [heq, getD_both hun] at h1
          cases h1
        refine wpOp_mono (fun a' w' h3 => ⟨h3.2.1, ih (lst.setIfInBounds j true) a' w' (inv.set hj hjn) (fun k ok hk hki hk2 hno => ?_) (ready_mono hr (Ne.symm hji)) h3.1 h3.2.1 ?_⟩)
          (wpOp_putIf hoj (hfree j oj hoj hji hjun hnot) (fun cs b => hsp i oi cs b hi) (fun cs b => hsp j oj cs b hoj) hQ hy h1)
        · refine hfree k ok hk hki ?_ hno
          by_cases hjk : j = k
          · subst hjk; exact hjun
          · rw [getD_set_ne true hjk] at hk2; exact hk2
        · rw [Array.setIfInBounds_comm _ _ hji]
          exact h3.2.2
  exact fun f lst a w inv hf => key f lst a w inv (Region.free_spec hi hf)
/-- take number i first -/
theorem runT_take {f : Nat} {lst : Array Bool} {a : Go.Act} {w : World} (i d : Nat) (v : Value) (hd : ((ops[i]?).bind (·.dst)) = some d) (hb : ((Region.ready md ops lst).contains i && Region.free md ops lst i && decide (i < n)) = true)
    (hQ : ∀ c a w, Q (.panic c) (a.put (some d) v) w → Q (.panic c) a w) (hy : ∀ w oi, S w → ops[i]? = some oi → oi.guard = none ∧ (execOp a.eval oi).run P w = .ok (.value v) w) (h : runT P md ops Q S n f (lst.setIfInBounds i true) (a.put (some d) v) w) : runT P md ops Q S n (f + 1) lst a w := by
  intro hst inv hS
  simp only [Bool.and_eq_true, decide_eq_true_eq] at hb
  have hr : i ∈ Region.ready md ops lst := by simpa using hb.1.1
  obtain ⟨oi, hi, hdi⟩ := Option.bind_eq_some_iff.1 hd
  exact headT_first hi hst hb.2 (by rw [hdi]; exact hQ) f lst a w inv hb.1.2 hr (.inl ⟨by simp [Region.wanted, (hy w oi hS hi).1], fun w' hw' => (hy w' oi hw' hi).2⟩) hS (by rw [hdi]; exact h hst (inv.set hr hb.2) hS)
/-- whichever comes up -/
theorem runT_all {f : Nat} {lst : Array Bool} {a : Go.Act} {w : World} (rs : List Nat) (hr : Region.ready md ops lst = rs) (hb : (!rs.isEmpty && rs.all fun i => decide (i < n)) = true)
    (h : ∀ i ∈ rs, ∀ o, ops[i]? = some o → ∀ K : Go.Act → World → Prop, (∀ a' w', S w' → runT P md ops Q S n f (lst.setIfInBounds i true) a' w' → K a' w') → if Region.wanted o (yielded ops a.tmps) = true then Oper.wp P o a w K Q else K (a.put o.dst undef) w) : runT P md ops Q S n (f + 1) lst a w := by
  intro hst inv hS
  subst hr
  simp only [Bool.and_eq_true, Bool.not_eq_true', List.all_eq_true, decide_eq_true_eq] at hb
  refine ⟨fun e => (by rw [e] at hb; exact absurd hb.1 (by simp)), fun i hi => ⟨hb.2 i hi, ?_⟩⟩
  obtain ⟨_, o, ho, _⟩ := mem_ready.1 hi
  unfold wpOp
  simp only [ho]
  have hh := h i hi o ho (fun a' w' => S w' ∧ headT P md ops Q S n f (lst.setIfInBounds i true) a' w') (fun a' w' hs hrun => ⟨hs, hrun hst (inv.set hi (hb.2 i hi)) hs⟩)
  split
  · rename_i hw; rw [if_pos hw] at hh; exact .inl hh
  · rename_i hw; rw [if_neg hw] at hh; exact hh
theorem runT_done {lst : Array Bool} {a : Go.Act} {w : World} (tl : List Oper) (htl : ops.toList.drop n = tl) (hB : Region.seqB md ops (ops.size - n) n lst = true) (h : wpList P ops Q tl a w) : runT P md ops Q S n 0 lst a w := fun _ _ _ => ⟨hB, by rw [htl]; exact h⟩
theorem wp_region_T {id : Nat} {a : Go.Act} {w : World} (n : Nat) (S : World → Prop) (hm : P.follows .mixedOrders = true) (hst : statT .any ops n = true) (hS : S w.drew)
    (h : runT P .any ops Q S n n (Array.replicate ops.size false) a w.drew) : (Code.region id ops true).wp P Q a w := by
  refine wp_region_any hm ?_
  have hn := (statT_parts hst).2.1
  have hh := headT_any n _ a _ (h hst ⟨by simp, fun j oj _ hl => (by rw [getD_replicate_false] at hl; cases hl), fun t _ ht => getD_in (by simpa using ht) (getD_replicate_false _ _)⟩ hS)
  rw [show n + (ops.size - n) = ops.size by omega] at hh
  exact hh
theorem with_act {C : Code} {P : Program} {Q : Exit → Go.Act → World → Prop} {a : Go.Act} {w : World} (h : ∀ a', Hid (a' = a) → Code.wp P C Q a' w) : Code.wp P C Q a w := h a (Lib.hid rfl)
theorem step_slice0 {w : World} {o : Oper} {a : Go.Act} {K : Go.Act → World → Prop} {E : Prop} (hg : o.guard = none) (t e : TypeId) (ho : o.op = .buildSlice t 0 #[]) (ht : P.underlying t = some (.slice e)) (i : TypeInfo) (hi : P.info? e = some i)
    (h : K (a.put o.dst (.slice (some ⟨w.heap.size, 0, none⟩) 0 0)) (w.alloc (.cells #[] e))) : if Region.wanted o (yielded ops a.tmps) = true then Oper.wp P o a w K Q else E := by
  have hw : Region.wanted o (yielded ops a.tmps) = true := by simp [Region.wanted, hg]
  rw [if_pos hw]
  unfold Oper.wp
  simp only [execOp, ho]
  go_simp
  simp [run_underlying ht, sizeOf, typeInfo, hi]
  go_simp
  exact h
theorem step_slice1 {w : World} {o : Oper} {a : Go.Act} {K : Go.Act → World → Prop} {E : Prop} (hg : o.guard = none) (t e : TypeId) (x : Operand) (ho : o.op = .buildSlice t 1 #[(0, x)]) (ht : P.underlying t = some (.slice e)) (i : TypeInfo) (hi : P.info? e = some i)
    (hz : i.zero = some (.agg #[.int .i64 0, .int .u64 0, .string ByteArray.empty, .int .i64 0])) (hs : i.size = 4) (k n q : Int) (s : ByteArray) (hx : a.eval x = .agg #[.int .i64 k, .int .u64 n, .string s, .int .i64 q])
    (h : K (a.put o.dst (.slice (some ⟨w.heap.size, 0, none⟩) 1 1)) (w.alloc (.cells #[.int .i64 k, .int .u64 n, .string s, .int .i64 q] e))) : if Region.wanted o (yielded ops a.tmps) = true then Oper.wp P o a w K Q else E := by
  have hw : Region.wanted o (yielded ops a.tmps) = true := by simp [Region.wanted, hg]
  rw [if_pos hw]
  unfold Oper.wp
  simp only [execOp, ho]
  simp only [List.map_toArray, List.map_cons, List.map_nil, hx]
  go_simp
  simp [run_underlying ht, sizeOf, typeInfo, hi, hs, zeroValue, hz]
  go_simp
  exact h
theorem put_size (a : Go.Act) (d : Option Nat) (v : Value) : (a.put d v).tmps.size = a.tmps.size := by
  cases d <;> simp [Act.put]
theorem eval_put_eq {a : Go.Act} {d : Nat} (v : Value) (h : d < a.tmps.size) : (a.put (some d) v).eval (.tmp d) = v := by
  simp [Act.put, Act.eval, h]
theorem eval_put_ne {a : Go.Act} {d e : Nat} (v : Value) (h : d ≠ e) : (a.put (some d) v).eval (.tmp e) = a.eval (.tmp e) := by
  simp [Act.put, Act.eval, Array.getElem?_setIfInBounds_ne h]
end
end Go.Proofs.Ytlihonbmopeemaa.Hp
end
section
namespace Go.Proofs.Ytlihonbmopeemaa.Hp
open Go Go.RowKit Go.Proofs.Ytlihonbmopeemaa.HpLaw Go.Proofs.Ytlihonbmopeemaa.Ans Go.Proofs.Ytlihonbmopeemaa.Num Go.Proofs.Ytlihonbmopeemaa.DigLaw Go.Proofs.Ytlihonbmopeemaa.Fl Go.Proofs.Ytlihonbmopeemaa.Dig Go.Proofs.Ytlihonbmopeemaa.Float
attribute [local go_sem ↓] Go.wp_at_zero Go.wp_at_succ
set_option linter.unusedSimpArgs false

theorem SBox.parts {E : Prop} {W : World} {bx : Nat} {x : RObj} {ck cv kv vv : Value} {ks vs : List Val} {y z : Val} {w : World} (h : SBox E W bx x ck cv kv ks vv vs y z w) : OBox W bx (x.1, ⟨ck, cv, x.2.sv⟩) w :=
  ⟨h.two.below, by have := h.bxn; omega, h.box⟩
theorem PRow.empty (E : Prop) (w : World) : PRow E w (.slice (some ⟨0, 0, none⟩) 0 0) [] := ⟨⟨_, 0, rfl, Nat.le_refl _, by omega⟩, fun h => absurd h (by simp), fun _ _ => ⟨_, rfl⟩⟩
theorem SBox.start {W w3 : World} {x : RObj} {y z : Val} (h : Two W y z w3) {w4 : World} (hw : w4 = w3.alloc (.cells (rCells x).toArray 60)) : SBox True W w3.heap.size x x.2.kv x.2.vv (.slice (some ⟨0, 0, none⟩) 0 0) [] (.slice (some ⟨0, 0, none⟩) 0 0) [] y z w4 := by
  subst hw
  exact ⟨h.step ((Below.refl _ _).alloc (Nat.le_refl _) _), h.size, heap_alloc_new _ _, PRow.empty _ _, PRow.empty _ _, fun b hb => absurd (gown_mem hb).1 (by simp), fun b hb => absurd (gown_mem hb).1 (by simp)⟩
theorem SBox.two_cells {E : Prop} {W : World} {bx : Nat} {x : RObj} {ck cv kv vv : Value} {ks vs : List Val} {y z : Val} {w : World} {a b : Value} (h : SBox E W bx x ck cv kv ks vv vs y z w) (e1 : ck = a) (e2 : cv = b) :
    w.cell? ⟨bx, 1, none⟩ = some a ∧ w.cell? ⟨bx, 2, none⟩ = some b ∧ (∀ o, w.frozen? ⟨bx, o, none⟩ = false) ∧ bx < w.heap.size ∧ bx < w.heap.size + 1 ∧ bx < w.heap.size + 1 + 1 := by
  obtain ⟨-, h1, h2, -, -, -, -, -, -, -, hf, hl⟩ := h.parts.cell
  subst e1 e2
  exact ⟨h1, h2, hf, hl, by omega, by omega⟩
theorem PRow.addr {E : Prop} {w : World} {v : Value} {l : List Val} (h : PRow E w v l) (h0 : 0 < l.length) : ∃ g cap, v = .slice (some ⟨g, 0, none⟩) l.length cap ∧ l.length ≤ cap ∧ cap ≤ 9223372036854775807 := by
  obtain ⟨ad, cap, hv, h1, h2, h3⟩ := row_form (h.own_ h0)
  rw [h3 h0] at hv
  exact ⟨_, cap, hv, h1, h2⟩
theorem SBox.cells2 {E : Prop} {W : World} {bx : Nat} {x : RObj} {ck cv kv vv : Value} {ks vs : List Val} {y z : Val} {w : World} {a b : Value} (h : SBox E W bx x ck cv kv ks vv vs y z w) (e1 : ck = a) (e2 : cv = b) :
    w.cell? ⟨bx, 1, none⟩ = some a ∧ w.cell? ⟨bx, 2, none⟩ = some b := ⟨(h.two_cells e1 e2).1, (h.two_cells e1 e2).2.1⟩
def SYes (W : World) (d : Nat) (l : List RObj) (limit : Int) (G : List Nat) (i : Nat) (x : RObj) (r : Int × List Ob) (m : List (Val × Val)) : Prop :=
  ∀ kv vv y z w2 bx ck cv, SBox False W bx x ck cv kv (m.map Prod.fst) vv (m.map Prod.snd) y z w2 → ∀ v' w5, RCopied W d l v' limit w5 → Chg [d] w2 w5 → w2.heap.size ≤ vb v' →
    AnsR W d limit G r (.returned (.int .i64 0)) (w5.setCells (vb v') (i * 10) (rCells (setKV x.1 m, ⟨kv, vv, x.2.sv⟩)))
theorem RefAt.yes {W : World} {d : Nat} {l : List RObj} {v : Value} {limit : Int} {s : List Ob} {G : List Nat} (h : RefAt W d l v limit) (hs : robs l = s) (hG : G = rfoot d v l) (hl : limit ≤ 1048576) {i : Nat} {x : RObj} (hx : l[i]? = some x) {r : Int × List Ob} {m : List (Val × Val)}
    (hr : r = (0, s.set i (setKV x.1 m))) (hu : ((usedOf (s.set i (setKV x.1 m)) : Nat) : Int) ≤ limit) : SYes W d l limit G i x r m := by
  intro kv vv y z w2 bx ck cv hS v' w5 hc hk hvb
  subst hr
  have hox := (h.kept (B := []) (Chg.of_below hS.two.below) (fun _ _ => List.not_mem_nil)).objs x (List.mem_of_getElem? hx)
  refine ⟨rfl, h.swap hs hG hl hS.two.below hc hk hvb hx (y := (setKV x.1 m, ⟨kv, vv, x.2.sv⟩)) ⟨hS.keys.read, hS.vals.read, hox.slots⟩ (fun b hb => ?_) hu⟩
  rcases List.mem_append.1 hb with c | c
  · exact .inr (by have := (hS.kn b (rown_gown c)).1; omega)
  · rcases List.mem_append.1 c with c | c
    · exact .inr (by have := (hS.vn b (rown_gown c)).1; omega)
    · exact .inl (List.mem_append_right _ (List.mem_append_right _ c))
set_option maxHeartbeats 2000000 in
set_option maxRecDepth 100000 in
theorem rset_walk {d : Nat} {s : List Ob} {limit : Int} {G : List Nat} (o : Int) (k v0 : Val) (hk : VOK k) (hv0 : VOK v0) (W : World) (h : RefIs W d s limit G) (hU : ∀ ob ∈ s, (keysOf ob).Nodup) :
    Calls Try.prog 36 #[.pointer (some ⟨d, 0, none⟩), .int .i64 o, k.v, v0.v] W (AnsR W d limit G (setS s limit o k v0)) := by
  have hK := fun w => rkey_walk k hk w
  have hN := fun w => rnormal_walk v0 hv0 w
  have t0 := Lib.hid (Two.start W k v0)
  have HI := Lib.hid h
  have HT : Hid (∀ w, Below W.heap.size W w → Calls Try.prog 21 #[.pointer (some ⟨d, 0, none⟩), .int .i64 o] w (BlP w (isTab s o))) := fun w hb => hasT_walk o w (HI.out.below hb)
  clear h
  unfold Val.v at hK hN ⊢
  cases ho : isTab s o with
  | false =>
    have HG : Hid (∀ w, Below W.heap.size W w → AnsR W d limit G (setS s limit o k v0) (.returned (.int .i64 5)) w) := by
      intro w hb
      have e : setS s limit o k v0 = (5, s) := by
        unfold setS
        unfold isTab at ho
        cases hob : obAt s o with
        | none => rfl
        | some ob =>
          rw [hob] at ho
          simp only at ho ⊢
          rw [if_neg (of_decide_eq_false ho)]
      unfold AnsR
      rw [e]
      exact ⟨rfl, RStep.of_below HI.out hb⟩
    rw [ho] at HT
    clear ho hU
    go_enter Try.func36, Try.ntmps36
    go_wp2_with fail
    refine (HT.out _ t0.out.below).mono ?_
    rintro e w1 ⟨rfl, b1⟩
    have T1 := Lib.hid (t0.out.step b1)
    clear b1 hN hK
    go_wp2_with fail
    go_ret
    exact HG.out _ T1.out.below
  | true =>
    obtain ⟨ob, hob, hk5⟩ : ∃ ob, obAt s o = some ob ∧ ob.kind = 5 := by
      unfold isTab at ho
      cases hob : obAt s o with
      | none => rw [hob] at ho; cases ho
      | some ob => rw [hob] at ho; exact ⟨ob, rfl, of_decide_eq_true ho⟩
    rw [ho] at HT
    obtain ⟨l, v, i, x, h1, h2, h3, rfl, hx, rfl, hs, hil, hlen, hu, hlim⟩ := HI.out.at_ hob
    have hnd := hU x.1 (List.mem_of_getElem? hs)
    have HS : Hid (setS s limit ((i : Int) + 1) k v0 = match keyV k with
      | Option.none => (1, s)
      | some k' => if (normV v0).k = 0 then (0, s.set i (setKV x.1 (eraseKV x.1.kv k'))) else
          match lookKV x.1.kv k' with
          | some _ => (0, s.set i (setKV x.1 (putKV x.1.kv k' (normV v0))))
          | Option.none => if ((usedOf s : Nat) : Int) + 1 ≤ limit then (0, s.set i (setKV x.1 (x.1.kv ++ [(k', normV v0)]))) else (2, s)) := by
      show setS s limit ((i : Int) + 1) k v0 = _
      unfold setS
      rw [hob]
      simp only
      rw [if_pos hk5, show ((i : Int) + 1).toNat - 1 = i by omega]
      rfl
    have hkvl : x.1.kv.length ≤ 1048575 := by
      have e1 := used_take s i x.1 hs
      have e2 := used_take_le s (i + 1)
      omega
    have HUS : Hid (∀ m, ((usedOf (s.set i (setKV x.1 m)) : Nat) : Int) = usedOf s + m.length - x.1.kv.length) := by
      intro m
      have e1 := usedOf_set s i x.1 (setKV x.1 m) hs
      have e2 : (setKV x.1 m).cells = 1 + m.length + x.1.slots.length := rfl
      have e3 : x.1.cells = 1 + x.1.kv.length + x.1.slots.length := rfl
      omega
    have H1 := Lib.hid h1
    have HX := Lib.hid hx
    have HSET := Lib.hid (And.intro h2 (And.intro h3 (And.intro hu hlim)))
    have HND := Lib.hid hnd
    clear h1 h2 h3 hs hob hx hu ho hU hk5 hnd
    go_enter Try.func36, Try.ntmps36
    go_wp2_with fail
    refine (HT.out _ t0.out.below).mono ?_
    rintro e w1 ⟨rfl, b1⟩
    have T1 := Lib.hid (t0.out.step b1)
    obtain ⟨a0, a1, a2, a3, -, -, -, -, af, -⟩ := T1.out.facts
    clear b1
    go_wp2_with fail
    refine (hK _).mono ?_
    rintro e w2 ⟨rfl, b2⟩
    have T2 := Lib.hid (T1.out.step b2)
    obtain ⟨p0, p1, p2, p3, q0, q1, q2, q3, pf, qf⟩ := T2.out.facts
    clear b2 hK a0 a1 a2 a3 af
    unfold keyR
    cases hkv : keyV k with
    | none =>
      have HG : Hid (∀ w, Below W.heap.size W w → AnsR W d limit G (setS s limit ((i : Int) + 1) k v0) (.returned (.int .i64 1)) w) := by
        intro w hw
        unfold AnsR
        rw [HS.out, hkv]
        exact ⟨rfl, RStep.of_below HI.out hw⟩
      have T4 := Lib.hid (T2.out.put0 nilV)
      rw [show (Option.none : Option Val).getD nilV = nilV from rfl, Val.out, show (Option.none : Option Val).isSome = false from rfl]
      clear hkv
      go_wp2_with fail
      go_ret
      rw [put4_eq]
      exact HG.out _ T4.out.below
    | some y =>
      have T3 := Lib.hid (T2.out.put0 y)
      rw [hkv] at HS
      rw [show (Option.some y).getD nilV = y from rfl, Val.out, show (Option.some y).isSome = true from rfl]
      clear hkv
      obtain ⟨w3, Hw3⟩ : ∃ w3, Hid (w3 = put4 w2 W.heap.size y) := ⟨_, Lib.hid rfl⟩
      rw [← Hw3.out] at T3
      go_upto_region 6 with fail
      rw [put4_eq, ← Hw3.out]
      clear p0 p1 p2 p3 q0 q1 q2 q3 pf qf
      obtain ⟨-, -, -, -, q0, q1, q2, q3, -, qf⟩ := T3.out.facts
      go_wp2_with fail
      refine (hN _).mono ?_
      rintro e w4 ⟨rfl, b4⟩
      have T4 := Lib.hid (T3.out.step b4)
      clear q0 q1 q2 q3 qf b4 hN
      obtain ⟨-, -, -, -, q0, q1, q2, q3, -, qf⟩ := T4.out.facts
      obtain ⟨z, Hz⟩ : ∃ z, Hid (z = normV v0) := ⟨_, Lib.hid rfl⟩
      rw [← Hz.out, Val.out]
      rw [← Hz.out] at HS
      have T5 := Lib.hid (T4.out.put1 z)
      obtain ⟨w5, Hw5⟩ : ∃ w5, Hid (w5 = put4 w4 (W.heap.size + 1) z) := ⟨_, Lib.hid rfl⟩
      rw [← Hw5.out] at T5
      go_upto_region 7 with fail
      rw [put4_eq, ← Hw5.out]
      clear q0 q1 q2 q3 qf T1 T2 T3 T4 Hw3 Hw5 t0 HT
      have hR := H1.out.kept (B := []) (Chg.of_below T5.out.below) (fun _ _ => List.not_mem_nil)
      obtain ⟨c0, c1, cf⟩ := hR.d_cells
      obtain ⟨n0, n1, n2, n3, n4, n5, n6, n7, n8, n9⟩ := hR.ob_cells HX.out
      obtain ⟨ad, cap, hv, -, -, had⟩ := row_form hR.row
      rw [hv, had (by omega)] at c0
      have hwr : IntKind.i64.wrap ((i : Nat) : Int) = (i : Int) := by rw [IntKind.wrap_i64]; omega
      have hi0' : (0 : Int) ≤ (i : Int) := Int.natCast_nonneg _
      have hi1' : (i : Int) < (l.length : Int) := by omega
      obtain ⟨ka, kc, va, vc, sa, sc, ekv, evv, esv, -⟩ := (hR.objs x (List.mem_of_getElem? HX.out)).forms
      rw [ekv] at n1
      rw [evv] at n2
      rw [esv] at n9
      clear hR hv had
      go_upto_region 8 with fail
      obtain ⟨w6, Hw6⟩ : ∃ w6, Hid (w6 = w5.alloc (.cells #[.int .i64 x.1.kind, .slice ka x.1.kv.length kc, .slice va x.1.kv.length vc, .int .i64 x.1.mt.k, .int .u64 x.1.mt.n, .string x.1.mt.s, .int .i64 x.1.mt.o, .int .i64 x.1.a, .int .i64 x.1.b, .slice sa x.1.slots.length sc] 60)) := ⟨_, Lib.hid rfl⟩
      rw [← Hw6.out]
      have S6 : Hid (SBox True W w5.heap.size x x.2.kv x.2.vv (.slice (some ⟨0, 0, none⟩) 0 0) [] (.slice (some ⟨0, 0, none⟩) 0 0) [] y z w6) := by
        refine SBox.start T5.out ?_
        unfold rCells
        rw [ekv, evv, esv]
        exact Hw6.out
      clear n0 n1 n2 n3 n4 n5 n6 n7 n8 n9 c0 c1 cf Hw6
      have hP := rplace_walk x y (by omega) w6 ((H1.out.kept (B := []) (Chg.of_below S6.out.two.below) (fun _ _ => List.not_mem_nil)).objs x (List.mem_of_getElem? HX.out)).keys
      unfold rV Val.v at hP
      rw [ekv, evv, esv] at hP
      obtain ⟨n0, n1, n2, n3, n4, n5, n6, n7, n8, n9, nf, nl⟩ := S6.out.parts.cell
      simp only [ekv, evv, esv] at n0 n1 n2 n3 n4 n5 n6 n7 n8 n9
      obtain ⟨p0, p1, p2, p3, q0, q1, q2, q3, pf, qf⟩ := S6.out.two.facts
      have HE := Lib.hid (And.intro ekv (And.intro evv esv))
      clear ekv evv esv
      go_wp2_with fail
      refine hP.mono ?_
      rintro e w7 ⟨rfl, b7⟩
      have S7 := Lib.hid (S6.out.step b7)
      clear hP b7 n0 n1 n2 n3 n4 n5 n6 n7 n8 n9 nf nl p0 p1 p2 p3 q0 q1 q2 q3 pf qf S6
      obtain ⟨bx, Hbx⟩ : ∃ bx, Hid (bx = w5.heap.size) := ⟨_, Lib.hid rfl⟩
      rw [← Hbx.out] at S7 ⊢
      go_upto_region 9 with fail
      obtain ⟨tj, hj0, hj1, hj2, hj3⟩ := info_parts (show (Try.prog.info? 34).map (fun i => (i.zero, i.size, i.bytes)) = some (some (.agg #[.int .i64 0, .int .u64 0, .string ByteArray.empty, .int .i64 0]), 4, 40) from by kernel_rfl)
      have HKV : Hid (∀ w, Below W.heap.size W w → 0 < (keysOf x.1).length → w.ownsRow 0 34 4 (.slice ka x.1.kv.length kc) (keysOf x.1).length (valCells (keysOf x.1))) := by
        intro w hb h0
        rw [← HE.out.1]
        exact ((H1.out.kept (B := []) (Chg.of_below hb) (fun _ _ => List.not_mem_nil)).objs x (List.mem_of_getElem? HX.out)).keys.own_ (List.length_pos_iff.1 h0)
      have HVV : Hid (∀ w, Below W.heap.size W w → 0 < (valsOf x.1).length → w.ownsRow 0 34 4 (.slice va x.1.kv.length vc) (valsOf x.1).length (valCells (valsOf x.1))) := by
        intro w hb h0
        rw [← HE.out.2.1]
        exact ((H1.out.kept (B := []) (Chg.of_below hb) (fun _ _ => List.not_mem_nil)).objs x (List.mem_of_getElem? HX.out)).vals.own_ (List.length_pos_iff.1 h0)
      have HKF : Hid (∃ ao cap, Value.slice ka x.1.kv.length kc = .slice ao (keysOf x.1).length cap) := ⟨ka, kc, by rw [keysOf_len]⟩
      have HVF : Hid (∃ ao cap, Value.slice va x.1.kv.length vc = .slice ao (valsOf x.1).length cap) := ⟨va, vc, by rw [valsOf_len]⟩
      have HX0 : Hid (∀ m : List Val, m.length = 0 → valCells m = []) := fun m e => by rw [List.eq_nil_of_length_eq_zero e]; rfl
      have hkl : (keysOf x.1).length ≤ 1048575 := by rw [keysOf_len]; exact hkvl
      have hvl : (valsOf x.1).length ≤ 1048575 := by rw [valsOf_len]; exact hkvl
      have SB := S7
      go_cut [] (fun wx => ∃ kv vv, SBox True W bx x kv vv kv (keysOf x.1) vv (valsOf x.1) y z wx)
      case first =>
        obtain ⟨m1, m2, mf, ml, ml1, ml2⟩ := SB.out.two_cells HE.out.1 HE.out.2.1
        refine with_act ?_
        intro a0 HA0
        have e10 : a0.eval (.tmp 10) = .pointer (some ⟨bx, 0, none⟩) := by rw [HA0.out]; rfl
        have hsz : a0.tmps.size = 117 := by rw [HA0.out]; rfl
        refine wp_region_T 9 (fun w' => w'.cell? ⟨bx, 1, none⟩ = some (.slice ka x.1.kv.length kc) ∧ w'.cell? ⟨bx, 2, none⟩ = some (.slice va x.1.kv.length vc)) (by kernel_rfl) (by kernel_rfl) ⟨m1, m2⟩ ?_
        have SB := Lib.hid (SB.out.step (Below.drew (Below.refl _ _)))
        refine runT_take 1 37 (.pointer (some ⟨bx, 1, none⟩)) rfl (by kernel_rfl) (fun _ _ _ h => h) (fun w oi hw ho => ?_) ?_
        · obtain ⟨hw1, hw2⟩ := hw
          simp only [List.getElem?_toArray, List.getElem?_cons_succ, List.getElem?_cons_zero, Option.some.injEq] at ho
          subst ho
          refine ⟨rfl, ?_⟩
          unfold execOp
          simp only [eval_put_ne, eval_put_eq, put_size, hsz, ne_eq, Nat.reduceEqDiff, not_false_eq_true, reduceCtorEq, Nat.reduceLT, e10]
          go_simp
        refine runT_take 2 38 (.slice ka x.1.kv.length kc) rfl (by kernel_rfl) (fun _ _ _ h => h) (fun w oi hw ho => ?_) ?_
        · obtain ⟨hw1, hw2⟩ := hw
          simp only [List.getElem?_toArray, List.getElem?_cons_succ, List.getElem?_cons_zero, Option.some.injEq] at ho
          subst ho
          refine ⟨rfl, ?_⟩
          unfold execOp
          simp only [eval_put_ne, eval_put_eq, put_size, hsz, ne_eq, Nat.reduceEqDiff, not_false_eq_true, reduceCtorEq, Nat.reduceLT, e10]
          go_simp
        refine runT_take 5 41 (.pointer (some ⟨bx, 2, none⟩)) rfl (by kernel_rfl) (fun _ _ _ h => h) (fun w oi hw ho => ?_) ?_
        · obtain ⟨hw1, hw2⟩ := hw
          simp only [List.getElem?_toArray, List.getElem?_cons_succ, List.getElem?_cons_zero, Option.some.injEq] at ho
          subst ho
          refine ⟨rfl, ?_⟩
          unfold execOp
          simp only [eval_put_ne, eval_put_eq, put_size, hsz, ne_eq, Nat.reduceEqDiff, not_false_eq_true, reduceCtorEq, Nat.reduceLT, e10]
          go_simp
        refine runT_take 6 42 (.slice va x.1.kv.length vc) rfl (by kernel_rfl) (fun _ _ _ h => h) (fun w oi hw ho => ?_) ?_
        · obtain ⟨hw1, hw2⟩ := hw
          simp only [List.getElem?_toArray, List.getElem?_cons_succ, List.getElem?_cons_zero, Option.some.injEq] at ho
          subst ho
          refine ⟨rfl, ?_⟩
          unfold execOp
          simp only [eval_put_ne, eval_put_eq, put_size, hsz, ne_eq, Nat.reduceEqDiff, not_false_eq_true, reduceCtorEq, Nat.reduceLT, e10]
          go_simp
        refine runT_all [0, 4] (by kernel_rfl) (by kernel_rfl) ?_
        intro i hi o ho K hK
        simp only [List.mem_cons, List.not_mem_nil, or_false] at hi
        rcases hi with rfl | rfl
        · simp only [List.getElem?_toArray, List.getElem?_cons_succ, List.getElem?_cons_zero, Option.some.injEq] at ho
          subst ho
          refine step_slice0 rfl 58 34 rfl Try.underlying58 tj hj0 ?_
          have SB := Lib.hid (SB.out.step ((Below.refl _ _).alloc (Nat.le_refl _) (Obj.cells #[] 34)))
          refine hK _ _ (SB.out.cells2 HE.out.1 HE.out.2.1) ?_
          refine runT_all [3, 4] (by kernel_rfl) (by kernel_rfl) ?_
          intro i hi o ho K hK
          simp only [List.mem_cons, List.not_mem_nil, or_false] at hi
          rcases hi with rfl | rfl
          · simp only [List.getElem?_toArray, List.getElem?_cons_succ, List.getElem?_cons_zero, Option.some.injEq] at ho
            subst ho
            refine step_copy_row rfl (.tmp 36) (.tmp 38) _ rfl 34 tj _ 4 40 Try.underlying58 hj0 hj1 hj2 hj3 rfl (by decide) _ (by (repeat (first | (with_reducible exact eval_put_eq _ (by simp only [put_size, hsz, Nat.reduceLT])) | (with_reducible exact e10) | (with_reducible refine (eval_put_ne _ (by decide)).trans ?_)))) (.slice ka x.1.kv.length kc) (by (repeat (first | (with_reducible exact eval_put_eq _ (by simp only [put_size, hsz, Nat.reduceLT])) | (with_reducible exact e10) | (with_reducible refine (eval_put_ne _ (by decide)).trans ?_)))) (keysOf x.1).length (valCells (keysOf x.1)) HKF.out (fun h0 => HKV.out _ SB.out.two.below h0) (HX0.out _) (by unfold maxLen; omega) (by omega) ?_
            intro ad3 cap3 w3r g1 g2 g3
            have SB := Lib.hid (SB.out.keys_copy (Below.refl _ _) g1 g2 g3)
            clear g1 g2 g3
            refine hK _ _ (SB.out.cells2 HE.out.1 HE.out.2.1) ?_
            refine runT_take 8 44 (.pointer (some ⟨bx, 1, none⟩)) rfl (by kernel_rfl) (fun _ _ _ h => h) (fun w oi hw ho => ?_) ?_
            · obtain ⟨hw1, hw2⟩ := hw
              simp only [List.getElem?_toArray, List.getElem?_cons_succ, List.getElem?_cons_zero, Option.some.injEq] at ho
              subst ho
              refine ⟨rfl, ?_⟩
              unfold execOp
              simp only [eval_put_ne, eval_put_eq, put_size, hsz, ne_eq, Nat.reduceEqDiff, not_false_eq_true, reduceCtorEq, Nat.reduceLT, e10]
              go_simp
            refine runT_all [4] (by kernel_rfl) (by kernel_rfl) ?_
            intro i hi o ho K hK
            simp only [List.mem_cons, List.not_mem_nil, or_false] at hi
            subst hi
            simp only [List.getElem?_toArray, List.getElem?_cons_succ, List.getElem?_cons_zero, Option.some.injEq] at ho
            subst ho
            refine step_slice0 rfl 58 34 rfl Try.underlying58 tj hj0 ?_
            have SB := Lib.hid (SB.out.step ((Below.refl _ _).alloc (Nat.le_refl _) (Obj.cells #[] 34)))
            refine hK _ _ (SB.out.cells2 HE.out.1 HE.out.2.1) ?_
            refine runT_all [7] (by kernel_rfl) (by kernel_rfl) ?_
            intro i hi o ho K hK
            simp only [List.mem_cons, List.not_mem_nil, or_false] at hi
            subst hi
            simp only [List.getElem?_toArray, List.getElem?_cons_succ, List.getElem?_cons_zero, Option.some.injEq] at ho
            subst ho
            refine step_copy_row rfl (.tmp 40) (.tmp 42) _ rfl 34 tj _ 4 40 Try.underlying58 hj0 hj1 hj2 hj3 rfl (by decide) _ (by (repeat (first | (with_reducible exact eval_put_eq _ (by simp only [put_size, hsz, Nat.reduceLT])) | (with_reducible exact e10) | (with_reducible refine (eval_put_ne _ (by decide)).trans ?_)))) (.slice va x.1.kv.length vc) (by (repeat (first | (with_reducible exact eval_put_eq _ (by simp only [put_size, hsz, Nat.reduceLT])) | (with_reducible exact e10) | (with_reducible refine (eval_put_ne _ (by decide)).trans ?_)))) (valsOf x.1).length (valCells (valsOf x.1)) HVF.out (fun h0 => HVV.out _ SB.out.two.below h0) (HX0.out _) (by unfold maxLen; omega) (by omega) ?_
            intro ad7 cap7 w7r g1 g2 g3
            have SB := Lib.hid (SB.out.vals_copy (Below.refl _ _) g1 g2 g3)
            clear g1 g2 g3
            refine hK _ _ (SB.out.cells2 HE.out.1 HE.out.2.1) ?_
            refine runT_done [_, _, _] rfl (by kernel_rfl) ?_
            rw [HA0.out]
            obtain ⟨m1, m2, mf, ml, ml1, ml2⟩ := SB.out.two_cells HE.out.1 HE.out.2.1
            go_wp2_with fail
            go_meet
            exact ⟨_, _, SB.out.store⟩
          · simp only [List.getElem?_toArray, List.getElem?_cons_succ, List.getElem?_cons_zero, Option.some.injEq] at ho
            subst ho
            refine step_slice0 rfl 58 34 rfl Try.underlying58 tj hj0 ?_
            have SB := Lib.hid (SB.out.step ((Below.refl _ _).alloc (Nat.le_refl _) (Obj.cells #[] 34)))
            refine hK _ _ (SB.out.cells2 HE.out.1 HE.out.2.1) ?_
            refine runT_all [3] (by kernel_rfl) (by kernel_rfl) ?_
            intro i hi o ho K hK
            simp only [List.mem_cons, List.not_mem_nil, or_false] at hi
            subst hi
            simp only [List.getElem?_toArray, List.getElem?_cons_succ, List.getElem?_cons_zero, Option.some.injEq] at ho
            subst ho
            refine step_copy_row rfl (.tmp 36) (.tmp 38) _ rfl 34 tj _ 4 40 Try.underlying58 hj0 hj1 hj2 hj3 rfl (by decide) _ (by (repeat (first | (with_reducible exact eval_put_eq _ (by simp only [put_size, hsz, Nat.reduceLT])) | (with_reducible exact e10) | (with_reducible refine (eval_put_ne _ (by decide)).trans ?_)))) (.slice ka x.1.kv.length kc) (by (repeat (first | (with_reducible exact eval_put_eq _ (by simp only [put_size, hsz, Nat.reduceLT])) | (with_reducible exact e10) | (with_reducible refine (eval_put_ne _ (by decide)).trans ?_)))) (keysOf x.1).length (valCells (keysOf x.1)) HKF.out (fun h0 => HKV.out _ SB.out.two.below h0) (HX0.out _) (by unfold maxLen; omega) (by omega) ?_
            intro ad3 cap3 w3r g1 g2 g3
            have SB := Lib.hid (SB.out.keys_copy (Below.refl _ _) g1 g2 g3)
            clear g1 g2 g3
            refine hK _ _ (SB.out.cells2 HE.out.1 HE.out.2.1) ?_
            refine runT_take 8 44 (.pointer (some ⟨bx, 1, none⟩)) rfl (by kernel_rfl) (fun _ _ _ h => h) (fun w oi hw ho => ?_) ?_
            · obtain ⟨hw1, hw2⟩ := hw
              simp only [List.getElem?_toArray, List.getElem?_cons_succ, List.getElem?_cons_zero, Option.some.injEq] at ho
              subst ho
              refine ⟨rfl, ?_⟩
              unfold execOp
              simp only [eval_put_ne, eval_put_eq, put_size, hsz, ne_eq, Nat.reduceEqDiff, not_false_eq_true, reduceCtorEq, Nat.reduceLT, e10]
              go_simp
            refine runT_all [7] (by kernel_rfl) (by kernel_rfl) ?_
            intro i hi o ho K hK
            simp only [List.mem_cons, List.not_mem_nil, or_false] at hi
            subst hi
            simp only [List.getElem?_toArray, List.getElem?_cons_succ, List.getElem?_cons_zero, Option.some.injEq] at ho
            subst ho
            refine step_copy_row rfl (.tmp 40) (.tmp 42) _ rfl 34 tj _ 4 40 Try.underlying58 hj0 hj1 hj2 hj3 rfl (by decide) _ (by (repeat (first | (with_reducible exact eval_put_eq _ (by simp only [put_size, hsz, Nat.reduceLT])) | (with_reducible exact e10) | (with_reducible refine (eval_put_ne _ (by decide)).trans ?_)))) (.slice va x.1.kv.length vc) (by (repeat (first | (with_reducible exact eval_put_eq _ (by simp only [put_size, hsz, Nat.reduceLT])) | (with_reducible exact e10) | (with_reducible refine (eval_put_ne _ (by decide)).trans ?_)))) (valsOf x.1).length (valCells (valsOf x.1)) HVF.out (fun h0 => HVV.out _ SB.out.two.below h0) (HX0.out _) (by unfold maxLen; omega) (by omega) ?_
            intro ad7 cap7 w7r g1 g2 g3
            have SB := Lib.hid (SB.out.vals_copy (Below.refl _ _) g1 g2 g3)
            clear g1 g2 g3
            refine hK _ _ (SB.out.cells2 HE.out.1 HE.out.2.1) ?_
            refine runT_done [_, _, _] rfl (by kernel_rfl) ?_
            rw [HA0.out]
            obtain ⟨m1, m2, mf, ml, ml1, ml2⟩ := SB.out.two_cells HE.out.1 HE.out.2.1
            go_wp2_with fail
            go_meet
            exact ⟨_, _, SB.out.store⟩
        · simp only [List.getElem?_toArray, List.getElem?_cons_succ, List.getElem?_cons_zero, Option.some.injEq] at ho
          subst ho
          refine step_slice0 rfl 58 34 rfl Try.underlying58 tj hj0 ?_
          have SB := Lib.hid (SB.out.step ((Below.refl _ _).alloc (Nat.le_refl _) (Obj.cells #[] 34)))
          refine hK _ _ (SB.out.cells2 HE.out.1 HE.out.2.1) ?_
          refine runT_all [0] (by kernel_rfl) (by kernel_rfl) ?_
          intro i hi o ho K hK
          simp only [List.mem_cons, List.not_mem_nil, or_false] at hi
          subst hi
          simp only [List.getElem?_toArray, List.getElem?_cons_succ, List.getElem?_cons_zero, Option.some.injEq] at ho
          subst ho
          refine step_slice0 rfl 58 34 rfl Try.underlying58 tj hj0 ?_
          have SB := Lib.hid (SB.out.step ((Below.refl _ _).alloc (Nat.le_refl _) (Obj.cells #[] 34)))
          refine hK _ _ (SB.out.cells2 HE.out.1 HE.out.2.1) ?_
          refine runT_all [3] (by kernel_rfl) (by kernel_rfl) ?_
          intro i hi o ho K hK
          simp only [List.mem_cons, List.not_mem_nil, or_false] at hi
          subst hi
          simp only [List.getElem?_toArray, List.getElem?_cons_succ, List.getElem?_cons_zero, Option.some.injEq] at ho
          subst ho
          refine step_copy_row rfl (.tmp 36) (.tmp 38) _ rfl 34 tj _ 4 40 Try.underlying58 hj0 hj1 hj2 hj3 rfl (by decide) _ (by (repeat (first | (with_reducible exact eval_put_eq _ (by simp only [put_size, hsz, Nat.reduceLT])) | (with_reducible exact e10) | (with_reducible refine (eval_put_ne _ (by decide)).trans ?_)))) (.slice ka x.1.kv.length kc) (by (repeat (first | (with_reducible exact eval_put_eq _ (by simp only [put_size, hsz, Nat.reduceLT])) | (with_reducible exact e10) | (with_reducible refine (eval_put_ne _ (by decide)).trans ?_)))) (keysOf x.1).length (valCells (keysOf x.1)) HKF.out (fun h0 => HKV.out _ SB.out.two.below h0) (HX0.out _) (by unfold maxLen; omega) (by omega) ?_
          intro ad3 cap3 w3r g1 g2 g3
          have SB := Lib.hid (SB.out.keys_copy (Below.refl _ _) g1 g2 g3)
          clear g1 g2 g3
          refine hK _ _ (SB.out.cells2 HE.out.1 HE.out.2.1) ?_
          refine runT_take 8 44 (.pointer (some ⟨bx, 1, none⟩)) rfl (by kernel_rfl) (fun _ _ _ h => h) (fun w oi hw ho => ?_) ?_
          · obtain ⟨hw1, hw2⟩ := hw
            simp only [List.getElem?_toArray, List.getElem?_cons_succ, List.getElem?_cons_zero, Option.some.injEq] at ho
            subst ho
            refine ⟨rfl, ?_⟩
            unfold execOp
            simp only [eval_put_ne, eval_put_eq, put_size, hsz, ne_eq, Nat.reduceEqDiff, not_false_eq_true, reduceCtorEq, Nat.reduceLT, e10]
            go_simp
          refine runT_all [7] (by kernel_rfl) (by kernel_rfl) ?_
          intro i hi o ho K hK
          simp only [List.mem_cons, List.not_mem_nil, or_false] at hi
          subst hi
          simp only [List.getElem?_toArray, List.getElem?_cons_succ, List.getElem?_cons_zero, Option.some.injEq] at ho
          subst ho
          refine step_copy_row rfl (.tmp 40) (.tmp 42) _ rfl 34 tj _ 4 40 Try.underlying58 hj0 hj1 hj2 hj3 rfl (by decide) _ (by (repeat (first | (with_reducible exact eval_put_eq _ (by simp only [put_size, hsz, Nat.reduceLT])) | (with_reducible exact e10) | (with_reducible refine (eval_put_ne _ (by decide)).trans ?_)))) (.slice va x.1.kv.length vc) (by (repeat (first | (with_reducible exact eval_put_eq _ (by simp only [put_size, hsz, Nat.reduceLT])) | (with_reducible exact e10) | (with_reducible refine (eval_put_ne _ (by decide)).trans ?_)))) (valsOf x.1).length (valCells (valsOf x.1)) HVF.out (fun h0 => HVV.out _ SB.out.two.below h0) (HX0.out _) (by unfold maxLen; omega) (by omega) ?_
          intro ad7 cap7 w7r g1 g2 g3
          have SB := Lib.hid (SB.out.vals_copy (Below.refl _ _) g1 g2 g3)
          clear g1 g2 g3
          refine hK _ _ (SB.out.cells2 HE.out.1 HE.out.2.1) ?_
          refine runT_done [_, _, _] rfl (by kernel_rfl) ?_
          rw [HA0.out]
          obtain ⟨m1, m2, mf, ml, ml1, ml2⟩ := SB.out.two_cells HE.out.1 HE.out.2.1
          go_wp2_with fail
          go_meet
          exact ⟨_, _, SB.out.store⟩
      case rest =>
        obtain ⟨kv, vv, hS⟩ := hcut
        have S9 := Lib.hid hS
        clear hS S7 SB HKV HVV HKF HVF HX0
        obtain ⟨w9, rfl⟩ : ∃ w9, w9 = wc := ⟨_, rfl⟩
        obtain ⟨p0, p1, p2, p3, q0, q1, q2, q3, pf, qf⟩ := S9.out.two.facts
        go_upto_if 48 with fail
        go_cut [11] (fun _ wx => ∃ m kv vv y' z', SBox False W bx x kv vv kv (m.map Prod.fst) vv (m.map Prod.snd) y' z' wx ∧ SYes W d l limit G i x (setS s limit ((i : Int) + 1) k v0) m)
        case first =>
          have HY : Hid (∀ m, setS s limit ((i : Int) + 1) k v0 = (0, s.set i (setKV x.1 m)) → ((usedOf s : Nat) : Int) + m.length - x.1.kv.length ≤ limit → SYes W d l limit G i x (setS s limit ((i : Int) + 1) k v0) m) := by
            intro m hm hu
            exact H1.out.yes HSET.out.1 HSET.out.2.1 HSET.out.2.2.2 HX.out hm (by rw [HUS.out]; exact hu)
          have HU0 := Lib.hid HSET.out.2.2.1
          clear HUS HSET
          by_cases hz : z.k = 0
          · have e0 : (z.k == 0) = true := by rw [hz]; rfl
            rw [if_pos hz] at HS
            clear hz
            cases hp : placeL (keysOf x.1) y with
            | none =>
              have hpi : placeI (keysOf x.1) y = -1 := by unfold placeI; rw [hp]
              rw [hpi]
              have HL := Lib.hid (kv_missing hp)
              clear hp hpi
              go_wp2_with fail
              go_meet
              refine ⟨x.1.kv, kv, vv, _, _, S9.out.weak, HY.out _ (by rw [HS.out, HL.out.2]) (by have := HU0.out; omega)⟩
            | some p =>
              have hpi : placeI (keysOf x.1) y = (p : Int) := by unfold placeI; rw [hp]
              rw [hpi]
              have HL := Lib.hid (kv_found hp HND.out z)
              have hpl : p < (keysOf x.1).length := by rw [keysOf_len]; exact HL.out.1
              have hpv : p < (valsOf x.1).length := by rw [valsOf_len]; exact HL.out.1
              have HPL := Lib.hid (And.intro hpl hpv)
              clear hp hpi
              obtain ⟨gk, ck, hkk, k1, k2⟩ := S9.out.keys.addr (by omega)
              obtain ⟨gv, cv, hvv, r1, r2⟩ := S9.out.vals.addr (by omega)
              rw [hkk, hvv] at S9
              have SB := Lib.hid S9.out.weak
              obtain ⟨m1, m2, mf, ml, -, -⟩ := SB.out.two_cells rfl rfl
              have hp0 : (0 : Int) ≤ (p : Int) := Int.natCast_nonneg _
              have hpw : IntKind.i64.wrap ((p : Int) + 1) = (p : Int) + 1 := by rw [IntKind.wrap_i64]; omega
              clear hkk hvv
              go_upto_region 12 with fail
              have hk1 : p ≤ ck := by omega
              have hv1 : p ≤ cv := by omega
              have hn1 : (p : Int) ≤ (ck : Int) := by omega
              have hn2 : (p : Int) ≤ (cv : Int) := by omega
              have hn3 : (p : Int) + 1 ≤ ((keysOf x.1).length : Int) := by omega
              have hn4 : (p : Int) + 1 ≤ ((valsOf x.1).length : Int) := by omega
              have hn5 : (0 : Int) ≤ (p : Int) + 1 := by omega
              have ht : ((p : Int) + 1).toNat = p + 1 := by omega
              obtain ⟨ak, Hak⟩ : ∃ ak, Hid (ak = if ck = p + 1 then 0 else (p + 1) * 4) := ⟨_, Lib.hid rfl⟩
              obtain ⟨av, Hav⟩ : ∃ av, Hid (av = if cv = p + 1 then 0 else (p + 1) * 4) := ⟨_, Lib.hid rfl⟩
              refine with_act ?_
              intro a0 HA0
              have e10 : a0.eval (.tmp 10) = .pointer (some ⟨bx, 0, none⟩) := by rw [HA0.out]; rfl
              have e11 : a0.eval (.tmp 11) = .int .i64 (p : Int) := by rw [HA0.out]; rfl
              have hsz : a0.tmps.size = 117 := by rw [HA0.out]; rfl
              refine wp_region_T 21 (fun w' => w'.cell? ⟨bx, 1, none⟩ = some (.slice (some ⟨gk, 0, none⟩) (keysOf x.1).length ck) ∧ w'.cell? ⟨bx, 2, none⟩ = some (.slice (some ⟨gv, 0, none⟩) (valsOf x.1).length cv)) (by kernel_rfl) (by kernel_rfl) ⟨m1, m2⟩ ?_
              have SB := Lib.hid (SB.out.step (Below.drew (Below.refl _ _)))
              refine runT_take 0 51 (.pointer (some ⟨bx, 1, none⟩)) rfl (by kernel_rfl) (fun _ _ _ h => h) (fun w oi hw ho => ?_) ?_
              · obtain ⟨hw1, hw2⟩ := hw
                simp only [List.getElem?_toArray, List.getElem?_cons_succ, List.getElem?_cons_zero, Option.some.injEq] at ho
                subst ho
                refine ⟨rfl, ?_⟩
                unfold execOp
                simp only [eval_put_ne, eval_put_eq, put_size, hsz, ne_eq, Nat.reduceEqDiff, not_false_eq_true, reduceCtorEq, Nat.reduceLT, e10, e11]
                go_simp
              refine runT_take 1 52 (.slice (some ⟨gk, 0, none⟩) (keysOf x.1).length ck) rfl (by kernel_rfl) (fun _ _ _ h => h) (fun w oi hw ho => ?_) ?_
              · obtain ⟨hw1, hw2⟩ := hw
                simp only [List.getElem?_toArray, List.getElem?_cons_succ, List.getElem?_cons_zero, Option.some.injEq] at ho
                subst ho
                refine ⟨rfl, ?_⟩
                unfold execOp
                simp only [eval_put_ne, eval_put_eq, put_size, hsz, ne_eq, Nat.reduceEqDiff, not_false_eq_true, reduceCtorEq, Nat.reduceLT, e10, e11]
                go_simp
              refine runT_take 2 53 (.int .i64 (p : Int)) rfl (by kernel_rfl) (fun _ _ _ h => h) (fun w oi hw ho => ?_) ?_
              · obtain ⟨hw1, hw2⟩ := hw
                simp only [List.getElem?_toArray, List.getElem?_cons_succ, List.getElem?_cons_zero, Option.some.injEq] at ho
                subst ho
                refine ⟨rfl, ?_⟩
                unfold execOp
                simp only [eval_put_ne, eval_put_eq, put_size, hsz, ne_eq, Nat.reduceEqDiff, not_false_eq_true, reduceCtorEq, Nat.reduceLT, e10, e11]
                go_simp
              refine runT_take 3 54 (.slice (some ⟨gk, 0, none⟩) p ck) rfl (by kernel_rfl) (fun _ _ _ h => h) (fun w oi hw ho => ?_) ?_
              · obtain ⟨hw1, hw2⟩ := hw
                simp only [List.getElem?_toArray, List.getElem?_cons_succ, List.getElem?_cons_zero, Option.some.injEq] at ho
                subst ho
                refine ⟨rfl, ?_⟩
                unfold execOp
                simp only [eval_put_ne, eval_put_eq, put_size, hsz, ne_eq, Nat.reduceEqDiff, not_false_eq_true, reduceCtorEq, Nat.reduceLT, e10, e11]
                go_simp
              refine runT_take 4 55 (.pointer (some ⟨bx, 1, none⟩)) rfl (by kernel_rfl) (fun _ _ _ h => h) (fun w oi hw ho => ?_) ?_
              · obtain ⟨hw1, hw2⟩ := hw
                simp only [List.getElem?_toArray, List.getElem?_cons_succ, List.getElem?_cons_zero, Option.some.injEq] at ho
                subst ho
                refine ⟨rfl, ?_⟩
                unfold execOp
                simp only [eval_put_ne, eval_put_eq, put_size, hsz, ne_eq, Nat.reduceEqDiff, not_false_eq_true, reduceCtorEq, Nat.reduceLT, e10, e11]
                go_simp
              refine runT_take 5 56 (.slice (some ⟨gk, 0, none⟩) (keysOf x.1).length ck) rfl (by kernel_rfl) (fun _ _ _ h => h) (fun w oi hw ho => ?_) ?_
              · obtain ⟨hw1, hw2⟩ := hw
                simp only [List.getElem?_toArray, List.getElem?_cons_succ, List.getElem?_cons_zero, Option.some.injEq] at ho
                subst ho
                refine ⟨rfl, ?_⟩
                unfold execOp
                simp only [eval_put_ne, eval_put_eq, put_size, hsz, ne_eq, Nat.reduceEqDiff, not_false_eq_true, reduceCtorEq, Nat.reduceLT, e10, e11]
                go_simp
              refine runT_take 6 57 (.int .i64 (p : Int)) rfl (by kernel_rfl) (fun _ _ _ h => h) (fun w oi hw ho => ?_) ?_
              · obtain ⟨hw1, hw2⟩ := hw
                simp only [List.getElem?_toArray, List.getElem?_cons_succ, List.getElem?_cons_zero, Option.some.injEq] at ho
                subst ho
                refine ⟨rfl, ?_⟩
                unfold execOp
                simp only [eval_put_ne, eval_put_eq, put_size, hsz, ne_eq, Nat.reduceEqDiff, not_false_eq_true, reduceCtorEq, Nat.reduceLT, e10, e11]
                go_simp
              refine runT_take 7 58 (.int .i64 ((p : Int) + 1)) rfl (by kernel_rfl) (fun _ _ _ h => h) (fun w oi hw ho => ?_) ?_
              · obtain ⟨hw1, hw2⟩ := hw
                simp only [List.getElem?_toArray, List.getElem?_cons_succ, List.getElem?_cons_zero, Option.some.injEq] at ho
                subst ho
                refine ⟨rfl, ?_⟩
                unfold execOp
                simp only [eval_put_ne, eval_put_eq, put_size, hsz, ne_eq, Nat.reduceEqDiff, not_false_eq_true, reduceCtorEq, Nat.reduceLT, e10, e11]
                go_simp
              refine runT_take 8 59 (.slice (some ⟨gk, ak, none⟩) ((keysOf x.1).length - (p + 1)) (ck - (p + 1))) rfl (by kernel_rfl) (fun _ _ _ h => h) (fun w oi hw ho => ?_) ?_
              · obtain ⟨hw1, hw2⟩ := hw
                simp only [List.getElem?_toArray, List.getElem?_cons_succ, List.getElem?_cons_zero, Option.some.injEq] at ho
                subst ho
                refine ⟨rfl, ?_⟩
                unfold execOp
                simp only [eval_put_ne, eval_put_eq, put_size, hsz, ne_eq, Nat.reduceEqDiff, not_false_eq_true, reduceCtorEq, Nat.reduceLT, e10, e11]
                rw [Hak.out]
                by_cases hc : ck = p + 1 <;> go_simp
              refine runT_take 10 61 (.pointer (some ⟨bx, 2, none⟩)) rfl (by kernel_rfl) (fun _ _ _ h => h) (fun w oi hw ho => ?_) ?_
              · obtain ⟨hw1, hw2⟩ := hw
                simp only [List.getElem?_toArray, List.getElem?_cons_succ, List.getElem?_cons_zero, Option.some.injEq] at ho
                subst ho
                refine ⟨rfl, ?_⟩
                unfold execOp
                simp only [eval_put_ne, eval_put_eq, put_size, hsz, ne_eq, Nat.reduceEqDiff, not_false_eq_true, reduceCtorEq, Nat.reduceLT, e10, e11]
                go_simp
              refine runT_take 11 62 (.slice (some ⟨gv, 0, none⟩) (valsOf x.1).length cv) rfl (by kernel_rfl) (fun _ _ _ h => h) (fun w oi hw ho => ?_) ?_
              · obtain ⟨hw1, hw2⟩ := hw
                simp only [List.getElem?_toArray, List.getElem?_cons_succ, List.getElem?_cons_zero, Option.some.injEq] at ho
                subst ho
                refine ⟨rfl, ?_⟩
                unfold execOp
                simp only [eval_put_ne, eval_put_eq, put_size, hsz, ne_eq, Nat.reduceEqDiff, not_false_eq_true, reduceCtorEq, Nat.reduceLT, e10, e11]
                go_simp
              refine runT_take 12 63 (.int .i64 (p : Int)) rfl (by kernel_rfl) (fun _ _ _ h => h) (fun w oi hw ho => ?_) ?_
              · obtain ⟨hw1, hw2⟩ := hw
                simp only [List.getElem?_toArray, List.getElem?_cons_succ, List.getElem?_cons_zero, Option.some.injEq] at ho
                subst ho
                refine ⟨rfl, ?_⟩
                unfold execOp
                simp only [eval_put_ne, eval_put_eq, put_size, hsz, ne_eq, Nat.reduceEqDiff, not_false_eq_true, reduceCtorEq, Nat.reduceLT, e10, e11]
                go_simp
              refine runT_take 13 64 (.slice (some ⟨gv, 0, none⟩) p cv) rfl (by kernel_rfl) (fun _ _ _ h => h) (fun w oi hw ho => ?_) ?_
              · obtain ⟨hw1, hw2⟩ := hw
                simp only [List.getElem?_toArray, List.getElem?_cons_succ, List.getElem?_cons_zero, Option.some.injEq] at ho
                subst ho
                refine ⟨rfl, ?_⟩
                unfold execOp
                simp only [eval_put_ne, eval_put_eq, put_size, hsz, ne_eq, Nat.reduceEqDiff, not_false_eq_true, reduceCtorEq, Nat.reduceLT, e10, e11]
                go_simp
              refine runT_take 14 65 (.pointer (some ⟨bx, 2, none⟩)) rfl (by kernel_rfl) (fun _ _ _ h => h) (fun w oi hw ho => ?_) ?_
              · obtain ⟨hw1, hw2⟩ := hw
                simp only [List.getElem?_toArray, List.getElem?_cons_succ, List.getElem?_cons_zero, Option.some.injEq] at ho
                subst ho
                refine ⟨rfl, ?_⟩
                unfold execOp
                simp only [eval_put_ne, eval_put_eq, put_size, hsz, ne_eq, Nat.reduceEqDiff, not_false_eq_true, reduceCtorEq, Nat.reduceLT, e10, e11]
                go_simp
              refine runT_take 15 66 (.slice (some ⟨gv, 0, none⟩) (valsOf x.1).length cv) rfl (by kernel_rfl) (fun _ _ _ h => h) (fun w oi hw ho => ?_) ?_
              · obtain ⟨hw1, hw2⟩ := hw
                simp only [List.getElem?_toArray, List.getElem?_cons_succ, List.getElem?_cons_zero, Option.some.injEq] at ho
                subst ho
                refine ⟨rfl, ?_⟩
                unfold execOp
                simp only [eval_put_ne, eval_put_eq, put_size, hsz, ne_eq, Nat.reduceEqDiff, not_false_eq_true, reduceCtorEq, Nat.reduceLT, e10, e11]
                go_simp
              refine runT_take 16 67 (.int .i64 (p : Int)) rfl (by kernel_rfl) (fun _ _ _ h => h) (fun w oi hw ho => ?_) ?_
              · obtain ⟨hw1, hw2⟩ := hw
                simp only [List.getElem?_toArray, List.getElem?_cons_succ, List.getElem?_cons_zero, Option.some.injEq] at ho
                subst ho
                refine ⟨rfl, ?_⟩
                unfold execOp
                simp only [eval_put_ne, eval_put_eq, put_size, hsz, ne_eq, Nat.reduceEqDiff, not_false_eq_true, reduceCtorEq, Nat.reduceLT, e10, e11]
                go_simp
              refine runT_take 17 68 (.int .i64 ((p : Int) + 1)) rfl (by kernel_rfl) (fun _ _ _ h => h) (fun w oi hw ho => ?_) ?_
              · obtain ⟨hw1, hw2⟩ := hw
                simp only [List.getElem?_toArray, List.getElem?_cons_succ, List.getElem?_cons_zero, Option.some.injEq] at ho
                subst ho
                refine ⟨rfl, ?_⟩
                unfold execOp
                simp only [eval_put_ne, eval_put_eq, put_size, hsz, ne_eq, Nat.reduceEqDiff, not_false_eq_true, reduceCtorEq, Nat.reduceLT, e10, e11]
                go_simp
              refine runT_take 18 69 (.slice (some ⟨gv, av, none⟩) ((valsOf x.1).length - (p + 1)) (cv - (p + 1))) rfl (by kernel_rfl) (fun _ _ _ h => h) (fun w oi hw ho => ?_) ?_
              · obtain ⟨hw1, hw2⟩ := hw
                simp only [List.getElem?_toArray, List.getElem?_cons_succ, List.getElem?_cons_zero, Option.some.injEq] at ho
                subst ho
                refine ⟨rfl, ?_⟩
                unfold execOp
                simp only [eval_put_ne, eval_put_eq, put_size, hsz, ne_eq, Nat.reduceEqDiff, not_false_eq_true, reduceCtorEq, Nat.reduceLT, e10, e11]
                rw [Hav.out]
                by_cases hc : cv = p + 1 <;> go_simp
              refine runT_all [9] (by kernel_rfl) (by kernel_rfl) ?_
              intro i hi o ho K hK
              simp only [List.mem_cons, List.not_mem_nil, or_false] at hi
              subst hi
              simp only [List.getElem?_toArray, List.getElem?_cons_succ, List.getElem?_cons_zero, Option.some.injEq] at ho
              subst ho
              obtain ⟨f1, f2, f3, f4⟩ := erase_facts rfl (SB.out.keys.own_ (by have := HPL.out.1; omega)) HPL.out.1
              rw [← Hak.out] at f2
              refine step_append_room rfl (.tmp 54) (.tmp 59) _ rfl 34 tj 4 Try.underlying58 hj0 hj2 gk 0 p ck (by (repeat (first | (with_reducible exact eval_put_eq _ (by simp only [put_size, hsz, Nat.reduceLT])) | (with_reducible exact e10) | (with_reducible exact e11) | (with_reducible refine (eval_put_ne _ (by decide)).trans ?_)))) ⟨gk, ak, none⟩ ((keysOf x.1).length - (p + 1)) (ck - (p + 1)) (valCells ((keysOf x.1).drop (p + 1))) (by (repeat (first | (with_reducible exact eval_put_eq _ (by simp only [put_size, hsz, Nat.reduceLT])) | (with_reducible exact e10) | (with_reducible exact e11) | (with_reducible refine (eval_put_ne _ (by decide)).trans ?_)))) f1 f2 (valCells_flat _) (by omega) f3 ?_
              have SB := Lib.hid (SB.out.keys_cut rfl HPL.out.1)
              rw [f4, Nat.zero_add]
              clear f1 f2 f3 f4
              refine hK _ _ (SB.out.cells2 rfl rfl) ?_
              refine runT_take 20 71 (.pointer (some ⟨bx, 1, none⟩)) rfl (by kernel_rfl) (fun _ _ _ h => h) (fun w oi hw ho => ?_) ?_
              · obtain ⟨hw1, hw2⟩ := hw
                simp only [List.getElem?_toArray, List.getElem?_cons_succ, List.getElem?_cons_zero, Option.some.injEq] at ho
                subst ho
                refine ⟨rfl, ?_⟩
                unfold execOp
                simp only [eval_put_ne, eval_put_eq, put_size, hsz, ne_eq, Nat.reduceEqDiff, not_false_eq_true, reduceCtorEq, Nat.reduceLT, e10, e11]
                go_simp
              refine runT_all [19] (by kernel_rfl) (by kernel_rfl) ?_
              intro i hi o ho K hK
              simp only [List.mem_cons, List.not_mem_nil, or_false] at hi
              subst hi
              simp only [List.getElem?_toArray, List.getElem?_cons_succ, List.getElem?_cons_zero, Option.some.injEq] at ho
              subst ho
              obtain ⟨f1, f2, f3, f4⟩ := erase_facts rfl (SB.out.vals.own_ (by have := HPL.out.2; omega)) HPL.out.2
              rw [← Hav.out] at f2
              refine step_append_room rfl (.tmp 64) (.tmp 69) _ rfl 34 tj 4 Try.underlying58 hj0 hj2 gv 0 p cv (by (repeat (first | (with_reducible exact eval_put_eq _ (by simp only [put_size, hsz, Nat.reduceLT])) | (with_reducible exact e10) | (with_reducible exact e11) | (with_reducible refine (eval_put_ne _ (by decide)).trans ?_)))) ⟨gv, av, none⟩ ((valsOf x.1).length - (p + 1)) (cv - (p + 1)) (valCells ((valsOf x.1).drop (p + 1))) (by (repeat (first | (with_reducible exact eval_put_eq _ (by simp only [put_size, hsz, Nat.reduceLT])) | (with_reducible exact e10) | (with_reducible exact e11) | (with_reducible refine (eval_put_ne _ (by decide)).trans ?_)))) f1 f2 (valCells_flat _) (by omega) f3 ?_
              have SB := Lib.hid (SB.out.vals_cut rfl HPL.out.2)
              rw [f4, Nat.zero_add]
              clear f1 f2 f3 f4
              refine hK _ _ (SB.out.cells2 rfl rfl) ?_
              refine runT_done [_, _, _] rfl (by kernel_rfl) ?_
              rw [HA0.out]
              obtain ⟨m1, m2, mf, ml, ml1, ml2⟩ := SB.out.two_cells rfl rfl
              go_wp2_with fail
              go_meet
              exact ⟨x.1.kv.eraseIdx p, _, _, _, _, by rw [map_eraseIdx, map_eraseIdx]; exact SB.out.store, HY.out _ (by rw [HS.out, HL.out.2.2.1]) (by have := HU0.out; have := HL.out.1; rw [List.length_eraseIdx_of_lt HL.out.1]; omega)⟩
          · have e0 : (z.k == 0) = false := by rw [beq_eq_false_iff_ne]; exact hz
            rw [if_neg hz] at HS
            clear hz
            cases hp : placeL (keysOf x.1) y with
            | none =>
              have hpi : placeI (keysOf x.1) y = -1 := by unfold placeI; rw [hp]
              rw [hpi]
              have HL := Lib.hid (kv_missing hp)
              clear hp hpi
              obtain ⟨u, Hu⟩ : ∃ u, Hid (u = usedOf s) := ⟨_, Lib.hid rfl⟩
              have hu4 := HU0.out
              rw [← Hu.out] at hu4
              have hw1 : IntKind.i64.wrap ((u : Int) + 1) = (u : Int) + 1 := by rw [IntKind.wrap_i64]; omega
              have HNo : Hid (limit < (u : Int) + 1 → ∀ w, Below W.heap.size W w → AnsR W d limit G (setS s limit ((i : Int) + 1) k v0) (.returned (.int .i64 2)) w) := by
                intro hn w hb
                unfold AnsR
                rw [HS.out, HL.out.1]
                simp only
                rw [← Hu.out, if_neg (by omega)]
                exact ⟨rfl, RStep.of_below HI.out hb⟩
              have HYes : Hid ((u : Int) + 1 ≤ limit → SYes W d l limit G i x (setS s limit ((i : Int) + 1) k v0) (x.1.kv ++ [(y, z)])) := by
                intro hy
                refine HY.out _ ?_ (by rw [List.length_append, ← Hu.out]; simp; omega)
                rw [HS.out, HL.out.1]
                simp only
                rw [← Hu.out, if_pos hy]
              have f1 : ∀ w', Below w9.heap.size w9 w' → w'.cell? ⟨d, 1, none⟩ = some (.int .i64 limit) := fun w' hb => (H1.out.kept (B := []) (Chg.of_below (bthen S9.out.two.below hb)) (fun _ _ => List.not_mem_nil)).d_cells.2.1
              go_upto_region 15 with fail
              go_cut [87] (fun t wx => t = .bool (decide (limit < (u : Int) + 1)) ∧ SBox True W bx x kv vv kv (keysOf x.1) vv (valsOf x.1) y z wx)
              case first =>
                clear p0 p1 p2 p3 q0 q1 q2 q3 pf qf HNo HYes HY HS HL HU0 HX HND H1 hil hlen hkvl hkl hvl hj0 hj1 hj2 hj3 hwr hi0' hi1'
                go_region_held3 (fun w' => Below w9.heap.size w9 w')
                  (first | (with_reducible assumption) | (repeat (first | (with_reducible exact Below.refl _ _) | (with_reducible assumption) | (with_reducible refine Below.drew ?_) | (with_reducible refine Below.alloc ?_ ?_ _) | (with_reducible refine Below.setCell ?_ ?_ _) | omega | (simp <;> omega))))
                  ((go_at_call 19; refine (rused_walk _ (HI.out.below (bthen S9.out.two.below (by (first | (with_reducible assumption) | (repeat (first | (with_reducible exact Below.refl _ _) | (with_reducible assumption) | (with_reducible refine Below.drew ?_) | (with_reducible refine Below.alloc ?_ ?_ _) | (with_reducible refine Below.setCell ?_ ?_ _) | omega | (simp <;> omega)))))))).mono ?_; rintro e w6 ⟨rfl, b6⟩; rw [← Hu.out]; have s6 := bthen (w := w9) (by (first | (with_reducible assumption) | (repeat (first | (with_reducible exact Below.refl _ _) | (with_reducible assumption) | (with_reducible refine Below.drew ?_) | (with_reducible refine Below.alloc ?_ ?_ _) | (with_reducible refine Below.setCell ?_ ?_ _) | omega | (simp <;> omega))))) b6; clear b6))
                all_goals
                  go_wp2_with fail
                  go_meet
                  exact ⟨rfl, S9.out.step (by (first | (with_reducible assumption) | (repeat (first | (with_reducible exact Below.refl _ _) | (with_reducible assumption) | (with_reducible refine Below.drew ?_) | (with_reducible refine Below.alloc ?_ ?_ _) | (with_reducible refine Below.setCell ?_ ?_ _) | omega | (simp <;> omega)))))⟩
              case rest =>
                obtain ⟨rfl, hS⟩ := hcut
                have SB := Lib.hid hS
                obtain ⟨w2, rfl⟩ : ∃ w2, w2 = wc := ⟨_, rfl⟩
                clear hS f1 S9 p0 p1 p2 p3 q0 q1 q2 q3 pf qf
                by_cases hy : limit < (u : Int) + 1
                · have HA := Lib.hid (HNo.out hy w2 SB.out.two.below)
                  rw [decide_eq_true hy]
                  clear HNo HYes hy
                  go_wp2_with fail
                  go_ret
                  exact HA.out
                · have HA := Lib.hid (HYes.out (by omega))
                  rw [decide_eq_false hy]
                  clear HNo HYes hy
                  go_upto_region 17 with fail
                  obtain ⟨adk, capk, hkk, k1, k2⟩ := SB.out.keys.form
                  obtain ⟨adv, capv, hvv, r1, r2⟩ := SB.out.vals.form
                  rw [hkk, hvv] at SB
                  obtain ⟨m1, m2, mf, ml, ml1, ml2⟩ := SB.out.two_cells rfl rfl
                  have HT2 := Lib.hid SB.out.two
                  clear hkk hvv
                  refine with_act ?_
                  intro a0 HA0
                  have e10 : a0.eval (.tmp 10) = .pointer (some ⟨bx, 0, none⟩) := by rw [HA0.out]; rfl
                  have e6 : a0.eval (.tmp 6) = .pointer (some ⟨W.heap.size, 0, none⟩) := by rw [HA0.out]; rfl
                  have e7 : a0.eval (.tmp 7) = .pointer (some ⟨W.heap.size + 1, 0, none⟩) := by rw [HA0.out]; rfl
                  have hsz : a0.tmps.size = 117 := by rw [HA0.out]; rfl
                  have SB := Lib.hid (SB.out.step (Below.drew (Below.refl _ _)))
                  refine wp_region_T 11 (fun w' => (w'.cell? ⟨bx, 1, none⟩ = some (.slice (some adk) (keysOf x.1).length capk) ∧ w'.cell? ⟨bx, 2, none⟩ = some (.slice (some adv) (valsOf x.1).length capv)) ∧ Two W y z w') (by kernel_rfl) (by kernel_rfl) ⟨SB.out.cells2 rfl rfl, SB.out.two⟩ ?_
                  refine runT_take 0 88 (.pointer (some ⟨bx, 1, none⟩)) rfl (by kernel_rfl) (fun _ _ _ h => h) (fun w oi hw ho => ?_) ?_
                  · obtain ⟨⟨hw1, hw3⟩, hw2⟩ := hw
                    simp only [List.getElem?_toArray, List.getElem?_cons_succ, List.getElem?_cons_zero, Option.some.injEq] at ho
                    subst ho
                    refine ⟨rfl, ?_⟩
                    unfold execOp
                    simp only [eval_put_ne, eval_put_eq, put_size, hsz, ne_eq, Nat.reduceEqDiff, not_false_eq_true, reduceCtorEq, Nat.reduceLT, e10, e6, e7]
                    go_simp
                  refine runT_take 1 89 (.slice (some adk) (keysOf x.1).length capk) rfl (by kernel_rfl) (fun _ _ _ h => h) (fun w oi hw ho => ?_) ?_
                  · obtain ⟨⟨hw1, hw3⟩, hw2⟩ := hw
                    simp only [List.getElem?_toArray, List.getElem?_cons_succ, List.getElem?_cons_zero, Option.some.injEq] at ho
                    subst ho
                    refine ⟨rfl, ?_⟩
                    unfold execOp
                    simp only [eval_put_ne, eval_put_eq, put_size, hsz, ne_eq, Nat.reduceEqDiff, not_false_eq_true, reduceCtorEq, Nat.reduceLT, e10, e6, e7]
                    go_simp
                  refine runT_take 2 90 (.agg #[.int .i64 y.k, .int .u64 y.n, .string y.s, .int .i64 y.o]) rfl (by kernel_rfl) (fun _ _ _ h => h) (fun w oi hw ho => ?_) ?_
                  · obtain ⟨⟨hw1, hw3⟩, hw2⟩ := hw
                    simp only [List.getElem?_toArray, List.getElem?_cons_succ, List.getElem?_cons_zero, Option.some.injEq] at ho
                    subst ho
                    obtain ⟨b0, b1, b2, b3, b4, b5, b6, b7, bf, bg⟩ := hw2.facts
                    refine ⟨rfl, ?_⟩
                    unfold execOp
                    simp only [eval_put_ne, eval_put_eq, put_size, hsz, ne_eq, Nat.reduceEqDiff, not_false_eq_true, reduceCtorEq, Nat.reduceLT, e10, e6, e7]
                    go_simp
                  refine runT_take 5 93 (.pointer (some ⟨bx, 2, none⟩)) rfl (by kernel_rfl) (fun _ _ _ h => h) (fun w oi hw ho => ?_) ?_
                  · obtain ⟨⟨hw1, hw3⟩, hw2⟩ := hw
                    simp only [List.getElem?_toArray, List.getElem?_cons_succ, List.getElem?_cons_zero, Option.some.injEq] at ho
                    subst ho
                    refine ⟨rfl, ?_⟩
                    unfold execOp
                    simp only [eval_put_ne, eval_put_eq, put_size, hsz, ne_eq, Nat.reduceEqDiff, not_false_eq_true, reduceCtorEq, Nat.reduceLT, e10, e6, e7]
                    go_simp
                  refine runT_take 6 94 (.slice (some adv) (valsOf x.1).length capv) rfl (by kernel_rfl) (fun _ _ _ h => h) (fun w oi hw ho => ?_) ?_
                  · obtain ⟨⟨hw1, hw3⟩, hw2⟩ := hw
                    simp only [List.getElem?_toArray, List.getElem?_cons_succ, List.getElem?_cons_zero, Option.some.injEq] at ho
                    subst ho
                    refine ⟨rfl, ?_⟩
                    unfold execOp
                    simp only [eval_put_ne, eval_put_eq, put_size, hsz, ne_eq, Nat.reduceEqDiff, not_false_eq_true, reduceCtorEq, Nat.reduceLT, e10, e6, e7]
                    go_simp
                  refine runT_take 7 95 (.agg #[.int .i64 z.k, .int .u64 z.n, .string z.s, .int .i64 z.o]) rfl (by kernel_rfl) (fun _ _ _ h => h) (fun w oi hw ho => ?_) ?_
                  · obtain ⟨⟨hw1, hw3⟩, hw2⟩ := hw
                    simp only [List.getElem?_toArray, List.getElem?_cons_succ, List.getElem?_cons_zero, Option.some.injEq] at ho
                    subst ho
                    obtain ⟨b0, b1, b2, b3, b4, b5, b6, b7, bf, bg⟩ := hw2.facts
                    refine ⟨rfl, ?_⟩
                    unfold execOp
                    simp only [eval_put_ne, eval_put_eq, put_size, hsz, ne_eq, Nat.reduceEqDiff, not_false_eq_true, reduceCtorEq, Nat.reduceLT, e10, e6, e7]
                    go_simp
                  refine runT_all [3, 8] (by kernel_rfl) (by kernel_rfl) ?_
                  intro i hi o ho K hK
                  simp only [List.mem_cons, List.not_mem_nil, or_false] at hi
                  rcases hi with rfl | rfl
                  · simp only [List.getElem?_toArray, List.getElem?_cons_succ, List.getElem?_cons_zero, Option.some.injEq] at ho
                    subst ho
                    refine step_slice1 rfl 58 34 (.tmp 90) rfl Try.underlying58 tj hj0 hj1 hj2 y.k y.n y.o y.s (by (repeat (first | (with_reducible exact eval_put_eq _ (by simp only [put_size, hsz, Nat.reduceLT])) | (with_reducible exact e10) | (with_reducible exact e6) | (with_reducible exact e7) | (with_reducible refine (eval_put_ne _ (by decide)).trans ?_)))) ?_
                    obtain ⟨hSB, hN, hX3⟩ := SB.out.lay y
                    have N3 := Lib.hid hN
                    have SB := Lib.hid hSB
                    clear hSB hN
                    refine hK _ _ ⟨SB.out.cells2 rfl rfl, SB.out.two⟩ ?_
                    refine runT_all [4, 8] (by kernel_rfl) (by kernel_rfl) ?_
                    intro i hi o ho K hK
                    simp only [List.mem_cons, List.not_mem_nil, or_false] at hi
                    rcases hi with rfl | rfl
                    · simp only [List.getElem?_toArray, List.getElem?_cons_succ, List.getElem?_cons_zero, Option.some.injEq] at ho
                      subst ho
                      refine step_more_row rfl (.tmp 89) (.tmp 91) _ rfl 34 tj _ 4 40 Try.underlying58 hj0 hj1 hj2 hj3 rfl (by decide) (.slice (some adk) (keysOf x.1).length capk) (keysOf x.1).length (valCells (keysOf x.1)) (by (repeat (first | (with_reducible exact eval_put_eq _ (by simp only [put_size, hsz, Nat.reduceLT])) | (with_reducible exact e10) | (with_reducible exact e6) | (with_reducible exact e7) | (with_reducible refine (eval_put_ne _ (by decide)).trans ?_)))) SB.out.keys.to _ 1 1 y.cs (by (repeat (first | (with_reducible exact eval_put_eq _ (by simp only [put_size, hsz, Nat.reduceLT])) | (with_reducible exact e10) | (with_reducible exact e6) | (with_reducible exact e7) | (with_reducible refine (eval_put_ne _ (by decide)).trans ?_)))) rfl (box4_news N3.out) (cs_flat _) (by omega) (by unfold maxLen; omega) (by omega) ?_
                      intro g4 cap4 w4r k1 k2 k3
                      have SB := Lib.hid (SB.out.keys_more (Below.refl _ _) k1 k2 k3)
                      clear k1 k2 k3
                      refine hK _ _ ⟨SB.out.cells2 rfl rfl, SB.out.two⟩ ?_
                      refine runT_take 10 98 (.pointer (some ⟨bx, 1, none⟩)) rfl (by kernel_rfl) (fun _ _ _ h => h) (fun w oi hw ho => ?_) ?_
                      · obtain ⟨⟨hw1, hw3⟩, hw2⟩ := hw
                        simp only [List.getElem?_toArray, List.getElem?_cons_succ, List.getElem?_cons_zero, Option.some.injEq] at ho
                        subst ho
                        refine ⟨rfl, ?_⟩
                        unfold execOp
                        simp only [eval_put_ne, eval_put_eq, put_size, hsz, ne_eq, Nat.reduceEqDiff, not_false_eq_true, reduceCtorEq, Nat.reduceLT, e10, e6, e7]
                        go_simp
                      refine runT_all [8] (by kernel_rfl) (by kernel_rfl) ?_
                      intro i hi o ho K hK
                      simp only [List.mem_cons, List.not_mem_nil, or_false] at hi
                      subst hi
                      simp only [List.getElem?_toArray, List.getElem?_cons_succ, List.getElem?_cons_zero, Option.some.injEq] at ho
                      subst ho
                      refine step_slice1 rfl 58 34 (.tmp 95) rfl Try.underlying58 tj hj0 hj1 hj2 z.k z.n z.o z.s (by (repeat (first | (with_reducible exact eval_put_eq _ (by simp only [put_size, hsz, Nat.reduceLT])) | (with_reducible exact e10) | (with_reducible exact e6) | (with_reducible exact e7) | (with_reducible refine (eval_put_ne _ (by decide)).trans ?_)))) ?_
                      obtain ⟨hSB, hN, hX8⟩ := SB.out.lay z
                      have N3 := Lib.hid ((((Below.refl _ _).alloc (Nat.le_refl _) (Obj.cells #[.int .i64 z.k, .int .u64 z.n, .string z.s, .int .i64 z.o] 34)).block _ (Array.getElem?_eq_some_iff.1 N3.out).1).trans N3.out)
                      have N8 := Lib.hid hN
                      have SB := Lib.hid hSB
                      clear hSB hN
                      refine hK _ _ ⟨SB.out.cells2 rfl rfl, SB.out.two⟩ ?_
                      refine runT_all [9] (by kernel_rfl) (by kernel_rfl) ?_
                      intro i hi o ho K hK
                      simp only [List.mem_cons, List.not_mem_nil, or_false] at hi
                      subst hi
                      simp only [List.getElem?_toArray, List.getElem?_cons_succ, List.getElem?_cons_zero, Option.some.injEq] at ho
                      subst ho
                      refine step_more_row rfl (.tmp 94) (.tmp 96) _ rfl 34 tj _ 4 40 Try.underlying58 hj0 hj1 hj2 hj3 rfl (by decide) (.slice (some adv) (valsOf x.1).length capv) (valsOf x.1).length (valCells (valsOf x.1)) (by (repeat (first | (with_reducible exact eval_put_eq _ (by simp only [put_size, hsz, Nat.reduceLT])) | (with_reducible exact e10) | (with_reducible exact e6) | (with_reducible exact e7) | (with_reducible refine (eval_put_ne _ (by decide)).trans ?_)))) SB.out.vals.to _ 1 1 z.cs (by (repeat (first | (with_reducible exact eval_put_eq _ (by simp only [put_size, hsz, Nat.reduceLT])) | (with_reducible exact e10) | (with_reducible exact e6) | (with_reducible exact e7) | (with_reducible refine (eval_put_ne _ (by decide)).trans ?_)))) rfl (box4_news N8.out) (cs_flat _) (by omega) (by unfold maxLen; omega) (by omega) ?_
                      intro g9 cap9 w9r k1 k2 k3
                      have SB := Lib.hid (SB.out.vals_more (Below.refl _ _) k1 k2 k3)
                      clear k1 k2 k3
                      refine hK _ _ ⟨SB.out.cells2 rfl rfl, SB.out.two⟩ ?_
                      refine runT_done [_, _, _] rfl (by kernel_rfl) ?_
                      rw [HA0.out]
                      obtain ⟨m1, m2, mf, ml, ml1, ml2⟩ := SB.out.two_cells rfl rfl
                      go_wp2_with fail
                      go_meet
                      exact ⟨x.1.kv ++ [(y, z)], _, _, _, _, by rw [List.map_append, List.map_append]; exact SB.out.store.weak, HA.out⟩
                    · simp only [List.getElem?_toArray, List.getElem?_cons_succ, List.getElem?_cons_zero, Option.some.injEq] at ho
                      subst ho
                      refine step_slice1 rfl 58 34 (.tmp 95) rfl Try.underlying58 tj hj0 hj1 hj2 z.k z.n z.o z.s (by (repeat (first | (with_reducible exact eval_put_eq _ (by simp only [put_size, hsz, Nat.reduceLT])) | (with_reducible exact e10) | (with_reducible exact e6) | (with_reducible exact e7) | (with_reducible refine (eval_put_ne _ (by decide)).trans ?_)))) ?_
                      obtain ⟨hSB, hN, hX8⟩ := SB.out.lay z
                      have N3 := Lib.hid ((((Below.refl _ _).alloc (Nat.le_refl _) (Obj.cells #[.int .i64 z.k, .int .u64 z.n, .string z.s, .int .i64 z.o] 34)).block _ (Array.getElem?_eq_some_iff.1 N3.out).1).trans N3.out)
                      have N8 := Lib.hid hN
                      have SB := Lib.hid hSB
                      clear hSB hN
                      refine hK _ _ ⟨SB.out.cells2 rfl rfl, SB.out.two⟩ ?_
                      refine runT_all [4] (by kernel_rfl) (by kernel_rfl) ?_
                      intro i hi o ho K hK
                      simp only [List.mem_cons, List.not_mem_nil, or_false] at hi
                      subst hi
                      simp only [List.getElem?_toArray, List.getElem?_cons_succ, List.getElem?_cons_zero, Option.some.injEq] at ho
                      subst ho
                      refine step_more_row rfl (.tmp 89) (.tmp 91) _ rfl 34 tj _ 4 40 Try.underlying58 hj0 hj1 hj2 hj3 rfl (by decide) (.slice (some adk) (keysOf x.1).length capk) (keysOf x.1).length (valCells (keysOf x.1)) (by (repeat (first | (with_reducible exact eval_put_eq _ (by simp only [put_size, hsz, Nat.reduceLT])) | (with_reducible exact e10) | (with_reducible exact e6) | (with_reducible exact e7) | (with_reducible refine (eval_put_ne _ (by decide)).trans ?_)))) SB.out.keys.to _ 1 1 y.cs (by (repeat (first | (with_reducible exact eval_put_eq _ (by simp only [put_size, hsz, Nat.reduceLT])) | (with_reducible exact e10) | (with_reducible exact e6) | (with_reducible exact e7) | (with_reducible refine (eval_put_ne _ (by decide)).trans ?_)))) rfl (box4_news N3.out) (cs_flat _) (by omega) (by unfold maxLen; omega) (by omega) ?_
                      intro g4 cap4 w4r k1 k2 k3
                      have N8 := Lib.hid ((k2.block _ (Array.getElem?_eq_some_iff.1 N8.out).1 hX8).trans N8.out)
                      have SB := Lib.hid (SB.out.keys_more (Below.refl _ _) k1 k2 k3)
                      clear k1 k2 k3
                      refine hK _ _ ⟨SB.out.cells2 rfl rfl, SB.out.two⟩ ?_
                      refine runT_take 10 98 (.pointer (some ⟨bx, 1, none⟩)) rfl (by kernel_rfl) (fun _ _ _ h => h) (fun w oi hw ho => ?_) ?_
                      · obtain ⟨⟨hw1, hw3⟩, hw2⟩ := hw
                        simp only [List.getElem?_toArray, List.getElem?_cons_succ, List.getElem?_cons_zero, Option.some.injEq] at ho
                        subst ho
                        refine ⟨rfl, ?_⟩
                        unfold execOp
                        simp only [eval_put_ne, eval_put_eq, put_size, hsz, ne_eq, Nat.reduceEqDiff, not_false_eq_true, reduceCtorEq, Nat.reduceLT, e10, e6, e7]
                        go_simp
                      refine runT_all [9] (by kernel_rfl) (by kernel_rfl) ?_
                      intro i hi o ho K hK
                      simp only [List.mem_cons, List.not_mem_nil, or_false] at hi
                      subst hi
                      simp only [List.getElem?_toArray, List.getElem?_cons_succ, List.getElem?_cons_zero, Option.some.injEq] at ho
                      subst ho
                      refine step_more_row rfl (.tmp 94) (.tmp 96) _ rfl 34 tj _ 4 40 Try.underlying58 hj0 hj1 hj2 hj3 rfl (by decide) (.slice (some adv) (valsOf x.1).length capv) (valsOf x.1).length (valCells (valsOf x.1)) (by (repeat (first | (with_reducible exact eval_put_eq _ (by simp only [put_size, hsz, Nat.reduceLT])) | (with_reducible exact e10) | (with_reducible exact e6) | (with_reducible exact e7) | (with_reducible refine (eval_put_ne _ (by decide)).trans ?_)))) SB.out.vals.to _ 1 1 z.cs (by (repeat (first | (with_reducible exact eval_put_eq _ (by simp only [put_size, hsz, Nat.reduceLT])) | (with_reducible exact e10) | (with_reducible exact e6) | (with_reducible exact e7) | (with_reducible refine (eval_put_ne _ (by decide)).trans ?_)))) rfl (box4_news N8.out) (cs_flat _) (by omega) (by unfold maxLen; omega) (by omega) ?_
                      intro g9 cap9 w9r k1 k2 k3
                      have SB := Lib.hid (SB.out.vals_more (Below.refl _ _) k1 k2 k3)
                      clear k1 k2 k3
                      refine hK _ _ ⟨SB.out.cells2 rfl rfl, SB.out.two⟩ ?_
                      refine runT_done [_, _, _] rfl (by kernel_rfl) ?_
                      rw [HA0.out]
                      obtain ⟨m1, m2, mf, ml, ml1, ml2⟩ := SB.out.two_cells rfl rfl
                      go_wp2_with fail
                      go_meet
                      exact ⟨x.1.kv ++ [(y, z)], _, _, _, _, by rw [List.map_append, List.map_append]; exact SB.out.store.weak, HA.out⟩
                  · simp only [List.getElem?_toArray, List.getElem?_cons_succ, List.getElem?_cons_zero, Option.some.injEq] at ho
                    subst ho
                    refine step_slice1 rfl 58 34 (.tmp 95) rfl Try.underlying58 tj hj0 hj1 hj2 z.k z.n z.o z.s (by (repeat (first | (with_reducible exact eval_put_eq _ (by simp only [put_size, hsz, Nat.reduceLT])) | (with_reducible exact e10) | (with_reducible exact e6) | (with_reducible exact e7) | (with_reducible refine (eval_put_ne _ (by decide)).trans ?_)))) ?_
                    obtain ⟨hSB, hN, hX8⟩ := SB.out.lay z
                    have N8 := Lib.hid hN
                    have SB := Lib.hid hSB
                    clear hSB hN
                    refine hK _ _ ⟨SB.out.cells2 rfl rfl, SB.out.two⟩ ?_
                    refine runT_all [3] (by kernel_rfl) (by kernel_rfl) ?_
                    intro i hi o ho K hK
                    simp only [List.mem_cons, List.not_mem_nil, or_false] at hi
                    subst hi
                    simp only [List.getElem?_toArray, List.getElem?_cons_succ, List.getElem?_cons_zero, Option.some.injEq] at ho
                    subst ho
                    refine step_slice1 rfl 58 34 (.tmp 90) rfl Try.underlying58 tj hj0 hj1 hj2 y.k y.n y.o y.s (by (repeat (first | (with_reducible exact eval_put_eq _ (by simp only [put_size, hsz, Nat.reduceLT])) | (with_reducible exact e10) | (with_reducible exact e6) | (with_reducible exact e7) | (with_reducible refine (eval_put_ne _ (by decide)).trans ?_)))) ?_
                    obtain ⟨hSB, hN, hX3⟩ := SB.out.lay y
                    have N8 := Lib.hid ((((Below.refl _ _).alloc (Nat.le_refl _) (Obj.cells #[.int .i64 y.k, .int .u64 y.n, .string y.s, .int .i64 y.o] 34)).block _ (Array.getElem?_eq_some_iff.1 N8.out).1).trans N8.out)
                    have N3 := Lib.hid hN
                    have SB := Lib.hid hSB
                    clear hSB hN
                    refine hK _ _ ⟨SB.out.cells2 rfl rfl, SB.out.two⟩ ?_
                    refine runT_all [4] (by kernel_rfl) (by kernel_rfl) ?_
                    intro i hi o ho K hK
                    simp only [List.mem_cons, List.not_mem_nil, or_false] at hi
                    subst hi
                    simp only [List.getElem?_toArray, List.getElem?_cons_succ, List.getElem?_cons_zero, Option.some.injEq] at ho
                    subst ho
                    refine step_more_row rfl (.tmp 89) (.tmp 91) _ rfl 34 tj _ 4 40 Try.underlying58 hj0 hj1 hj2 hj3 rfl (by decide) (.slice (some adk) (keysOf x.1).length capk) (keysOf x.1).length (valCells (keysOf x.1)) (by (repeat (first | (with_reducible exact eval_put_eq _ (by simp only [put_size, hsz, Nat.reduceLT])) | (with_reducible exact e10) | (with_reducible exact e6) | (with_reducible exact e7) | (with_reducible refine (eval_put_ne _ (by decide)).trans ?_)))) SB.out.keys.to _ 1 1 y.cs (by (repeat (first | (with_reducible exact eval_put_eq _ (by simp only [put_size, hsz, Nat.reduceLT])) | (with_reducible exact e10) | (with_reducible exact e6) | (with_reducible exact e7) | (with_reducible refine (eval_put_ne _ (by decide)).trans ?_)))) rfl (box4_news N3.out) (cs_flat _) (by omega) (by unfold maxLen; omega) (by omega) ?_
                    intro g4 cap4 w4r k1 k2 k3
                    have N8 := Lib.hid ((k2.block _ (Array.getElem?_eq_some_iff.1 N8.out).1 hX8).trans N8.out)
                    have SB := Lib.hid (SB.out.keys_more (Below.refl _ _) k1 k2 k3)
                    clear k1 k2 k3
                    refine hK _ _ ⟨SB.out.cells2 rfl rfl, SB.out.two⟩ ?_
                    refine runT_take 10 98 (.pointer (some ⟨bx, 1, none⟩)) rfl (by kernel_rfl) (fun _ _ _ h => h) (fun w oi hw ho => ?_) ?_
                    · obtain ⟨⟨hw1, hw3⟩, hw2⟩ := hw
                      simp only [List.getElem?_toArray, List.getElem?_cons_succ, List.getElem?_cons_zero, Option.some.injEq] at ho
                      subst ho
                      refine ⟨rfl, ?_⟩
                      unfold execOp
                      simp only [eval_put_ne, eval_put_eq, put_size, hsz, ne_eq, Nat.reduceEqDiff, not_false_eq_true, reduceCtorEq, Nat.reduceLT, e10, e6, e7]
                      go_simp
                    refine runT_all [9] (by kernel_rfl) (by kernel_rfl) ?_
                    intro i hi o ho K hK
                    simp only [List.mem_cons, List.not_mem_nil, or_false] at hi
                    subst hi
                    simp only [List.getElem?_toArray, List.getElem?_cons_succ, List.getElem?_cons_zero, Option.some.injEq] at ho
                    subst ho
                    refine step_more_row rfl (.tmp 94) (.tmp 96) _ rfl 34 tj _ 4 40 Try.underlying58 hj0 hj1 hj2 hj3 rfl (by decide) (.slice (some adv) (valsOf x.1).length capv) (valsOf x.1).length (valCells (valsOf x.1)) (by (repeat (first | (with_reducible exact eval_put_eq _ (by simp only [put_size, hsz, Nat.reduceLT])) | (with_reducible exact e10) | (with_reducible exact e6) | (with_reducible exact e7) | (with_reducible refine (eval_put_ne _ (by decide)).trans ?_)))) SB.out.vals.to _ 1 1 z.cs (by (repeat (first | (with_reducible exact eval_put_eq _ (by simp only [put_size, hsz, Nat.reduceLT])) | (with_reducible exact e10) | (with_reducible exact e6) | (with_reducible exact e7) | (with_reducible refine (eval_put_ne _ (by decide)).trans ?_)))) rfl (box4_news N8.out) (cs_flat _) (by omega) (by unfold maxLen; omega) (by omega) ?_
                    intro g9 cap9 w9r k1 k2 k3
                    have SB := Lib.hid (SB.out.vals_more (Below.refl _ _) k1 k2 k3)
                    clear k1 k2 k3
                    refine hK _ _ ⟨SB.out.cells2 rfl rfl, SB.out.two⟩ ?_
                    refine runT_done [_, _, _] rfl (by kernel_rfl) ?_
                    rw [HA0.out]
                    obtain ⟨m1, m2, mf, ml, ml1, ml2⟩ := SB.out.two_cells rfl rfl
                    go_wp2_with fail
                    go_meet
                    exact ⟨x.1.kv ++ [(y, z)], _, _, _, _, by rw [List.map_append, List.map_append]; exact SB.out.store.weak, HA.out⟩
            | some p =>
              have hpi : placeI (keysOf x.1) y = (p : Int) := by unfold placeI; rw [hp]
              rw [hpi]
              have HL := Lib.hid (kv_found hp HND.out z)
              have hpl : p < (keysOf x.1).length := by rw [keysOf_len]; exact HL.out.1
              have hpv : p < (valsOf x.1).length := by rw [valsOf_len]; exact HL.out.1
              have HK := Lib.hid ((placeL_some.1 hp).1)
              clear hp hpi
              obtain ⟨gv, cv, hvv, r1, r2⟩ := S9.out.vals.addr (by omega)
              rw [hvv] at S9
              obtain ⟨m1, m2, mf, ml, -, -⟩ := S9.out.two_cells rfl rfl
              have ho := S9.out.vals.own_ (by omega)
              obtain ⟨z0, z1, z2, z3⟩ := val_cells ho hpv
              have zf : ∀ q, w9.frozen? ⟨gv, q, none⟩ = false := fun q => ho.frozenAt q
              rw [show vb (.slice (some ⟨gv, 0, none⟩) (valsOf x.1).length cv) = gv from rfl] at z0 z1 z2 z3
              have hp0 : (0 : Int) ≤ (p : Int) := Int.natCast_nonneg _
              have hp1 : (p : Int) < ((valsOf x.1).length : Int) := by omega
              clear ho hvv
              go_wp2_with fail
              go_meet
              rw [← setCells_four]
              have e1 : (x.1.kv.set p (y, z)).map Prod.fst = keysOf x.1 := by rw [List.map_set]; exact set_at_self _ _ _ HK.out
              have e2 : (x.1.kv.set p (y, z)).map Prod.snd = (valsOf x.1).set p z := List.map_set ..
              refine ⟨x.1.kv.set p (y, z), kv, _, _, _, by rw [e1, e2]; exact (S9.out.vals_put rfl hpv z).weak, HY.out _ ?_ (by rw [List.length_set]; have := HU0.out; omega)⟩
              obtain ⟨-, ⟨u0, hu0⟩, -, h4⟩ := HL.out
              rw [HS.out, hu0, ← h4]
        case rest =>
          clear S9 p0 p1 p2 p3 q0 q1 q2 q3 pf qf HS HUS HSET HND hj0 hj1 hj2 hj3 hkl hvl T5
          obtain ⟨m, kv', vv', y', z', hS, hY⟩ := hcut
          have S6 := Lib.hid hS
          have HA0 : Hid (SYes W d l limit G i x (setS s limit ((i : Int) + 1) k v0) m) := hY
          obtain ⟨w6, rfl⟩ : ∃ w6, w6 = wc := ⟨_, rfl⟩
          have HA := Lib.hid (HA0.out kv' vv' y' z' w6 bx kv' vv' S6.out)
          have HB6 := Lib.hid S6.out.two.below
          obtain ⟨ak, capk, hkk, -, -⟩ := S6.out.keys.form
          obtain ⟨av, capv, hvv, -, -⟩ := S6.out.vals.form
          have hbl := S6.out.bxl
          have hbn := S6.out.bxn
          have HC6 := Lib.hid S6.out.box
          clear hS hY HA0
          have hR := H1.out.kept (B := []) (Chg.of_below HB6.out) (fun _ _ => List.not_mem_nil)
          obtain ⟨c0, c1, cf⟩ := hR.d_cells
          have hdl : d < w6.heap.size := hR.lt d (rfoot_d ..)
          have hdW : d < W.heap.size := H1.out.lt d (rfoot_d ..)
          have HROW : Hid (∀ O, (w6.alloc O).ownsRow 0 60 10 v l.length (rrow l)) := fun O => hR.row.alloc O
          have HF : Hid (∃ ao cap, v = .slice ao l.length cap) := by
            obtain ⟨ad, cap, hv, _⟩ := row_form hR.row
            exact ⟨ad, cap, hv⟩
          have HBL : Hid (∀ O, Below w6.heap.size w6 (w6.alloc O)) := fun O => (Below.refl _ _).alloc (Nat.le_refl _) O
          rw [List.length_map] at hkk hvv
          have HKK := Lib.hid (And.intro hkk hvv)
          clear hR hkk hvv
          obtain ⟨ti, ti0, ti1, ti2, ti3⟩ := info_parts (show (Try.prog.info? 60).map (fun i => (i.zero, i.size, i.bytes)) = some (some (.agg #[.int .i64 0, .slice none 0 0, .slice none 0 0, .int .i64 0, .int .u64 0, .string ByteArray.empty, .int .i64 0, .int .i64 0, .int .i64 0, .slice none 0 0]), 10, 136) from by kernel_rfl)
          go_wp2_with (at_builtin; go_loud (refine wpList_copy_row _ rfl (.tmp 101) (.tmp 105) 47 rfl 60 ti _ 10 136 Try.underlying47 ti0 ti1 ti2 ti3 rfl (by decide) _ rfl _ rfl l.length (rrow l) HF.out (fun _ => HROW.out _) (fun e => absurd e (by omega)) (by unfold maxLen; omega) (by omega) ?_))
          intro ad7 cap7 w7 g1 g2 g3
          obtain ⟨g7, rfl, hC, m0, mf, r1, r2, hgn7⟩ := H1.out.copy_facts HB6.out (HBL.out _) g1 (by simp) g2 g3 (by omega)
          have HC := Lib.hid hC
          have b7 : Below w6.heap.size w6 w7 := by
            have := HBL.out (Obj.cells #[] 60)
            exact this.trans (g2.mono (by first | omega | (simp <;> omega)))
          have B7 := Lib.hid b7
          clear g1 g2 g3 HROW HF c0 c1 cf hC b7
          go_upto_region 19 with fail
          obtain ⟨w8, Hw8⟩ : ∃ w8, Hid (w8 = w7.setCell ⟨d, 0, none⟩ (.slice (some ⟨g7, 0, none⟩) l.length cap7)) := ⟨_, Lib.hid rfl⟩
          rw [← Hw8.out] at HC ⊢
          have K8 : Hid (Chg [d] w6 w8) := by
            show Chg _ _ _
            rw [Hw8.out]
            exact (Chg.of_below (B := [d]) B7.out).trans (chg_set w7 d 0 _) (fun b hb' _ => hb')
          have A8 : w8.heap[bx]? = some (.cells (rCells (x.1, ⟨kv', vv', x.2.sv⟩)).toArray 60 (0, 0)) := by
            rw [Hw8.out, setCell_off (by omega), B7.out.block _ hbl]
            exact HC6.out
          obtain ⟨o0, o1, o2, o3, o4, o5, o6, o7, o8, o9, of, olt⟩ := box_cells A8
          rw [HKK.out.1] at o1
          rw [HKK.out.2] at o2
          rw [HE.out.2.2] at o9
          obtain ⟨m0', m1', mf'⟩ := HC.out.at_.d_cells
          obtain ⟨n0, n1, n2, n3, n4, n5, n6, n7, n8, n9⟩ := HC.out.at_.ob_cells HX.out
          have nf := HC.out.at_.free_at (by omega)
          rw [show vb (.slice (some ⟨g7, 0, none⟩) l.length cap7) = g7 from rfl] at n0 n1 n2 n3 n4 n5 n6 n7 n8 n9 nf
          clear m0 mf A8
          have HZ : Hid (AnsR W d limit G (setS s limit ((i : Int) + 1) k v0) (.returned (.int .i64 0)) ((((((((((w8.setCell ⟨g7, i * 10, none⟩ (.int .i64 x.1.kind)).setCell ⟨g7, i * 10 + 1, none⟩ (.slice (some ak) m.length capk)).setCell ⟨g7, i * 10 + 2, none⟩ (.slice (some av) m.length capv)).setCell ⟨g7, i * 10 + 3, none⟩ (.int .i64 x.1.mt.k)).setCell ⟨g7, i * 10 + 4, none⟩ (.int .u64 x.1.mt.n)).setCell ⟨g7, i * 10 + 5, none⟩ (.string x.1.mt.s)).setCell ⟨g7, i * 10 + 6, none⟩ (.int .i64 x.1.mt.o)).setCell ⟨g7, i * 10 + 7, none⟩ (.int .i64 x.1.a)).setCell ⟨g7, i * 10 + 8, none⟩ (.int .i64 x.1.b)).setCell ⟨g7, i * 10 + 9, none⟩ (.slice sa x.1.slots.length sc)).drew) := by
            have hz := (HA.out _ _ HC.out K8.out hgn7).drew
            rw [setCells_ten] at hz
            simp only [HKK.out.1, HKK.out.2, HE.out.2.2] at hz
            exact hz
          go_region_law (fail)
          all_goals
            go_wp2_with fail
            go_ret
            exact HZ.out
end Go.Proofs.Ytlihonbmopeemaa.Hp
end
