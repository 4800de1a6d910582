/- Texts on SideA, joined. No conditions but those that each theorem states. -/
import Derived.Test.YtlihonbmopeemaaBdHeapC
import Derived.Deep.DeepCutAuto
import Derived.Deep.RegionHeld3
import Derived.Deep.DrawnRows
import Derived.ArgAppend
import Derived.Laws.OwnMore
import Derived.Deep.RegionLaw
section
namespace Go.Proofs.Ytlihonbmopeemaa.Hp
open Go Go.RowKit Go.Proofs.Ytlihonbmopeemaa.HpLaw Go.Proofs.Ytlihonbmopeemaa.Ans Go.Proofs.Ytlihonbmopeemaa.Num Go.Proofs.Ytlihonbmopeemaa.DigLaw Go.Proofs.Ytlihonbmopeemaa.Fl Go.Proofs.Ytlihonbmopeemaa.Dig Go.Proofs.Ytlihonbmopeemaa.Float

/-- where an object's rows lie -/
structure RLoc where
  kv : Value
  vv : Value
  sv : Value
abbrev RObj := Ob × RLoc
def keysOf (o : Ob) : List Val := o.kv.map Prod.fst
def valsOf (o : Ob) : List Val := o.kv.map Prod.snd
theorem keysOf_len (o : Ob) : (keysOf o).length = o.kv.length := List.length_map ..
theorem valsOf_len (o : Ob) : (valsOf o).length = o.kv.length := List.length_map ..
def rCells (x : RObj) : List Value := [.int .i64 x.1.kind, x.2.kv, x.2.vv, .int .i64 x.1.mt.k, .int .u64 x.1.mt.n, .string x.1.mt.s, .int .i64 x.1.mt.o, .int .i64 x.1.a, .int .i64 x.1.b, x.2.sv]
def rrow (l : List RObj) : List Value := l.flatMap rCells
/-- a row of values that is read only: of an empty one nothing is asked -/
structure RowR (w : World) (v : Value) (l : List Val) : Prop where
  form : ∃ ao cap, v = .slice ao l.length cap ∧ l.length ≤ cap ∧ cap ≤ 9223372036854775807
  own_ : l ≠ [] → w.ownsRow 0 34 4 v l.length (valCells l)
def rown (v : Value) (l : List Val) : List Nat := if l = [] then [] else own v
theorem RowR.of_owns {w : World} {v : Value} {l : List Val} (h : w.ownsRow 0 34 4 v l.length (valCells l)) : RowR w v l := by
  obtain ⟨ad, cap, hv, h1, h2, _⟩ := row_form h
  exact ⟨⟨ad, cap, hv, h1, h2⟩, fun _ => h⟩
theorem rown_mem {v : Value} {l : List Val} {b : Nat} (h : b ∈ rown v l) : l ≠ [] ∧ b ∈ own v := by
  unfold rown at h
  split at h
  · cases h
  · rename_i c; exact ⟨c, h⟩
theorem rown_of {v : Value} {l : List Val} {b : Nat} (hl : l ≠ []) (h : b ∈ own v) : b ∈ rown v l := by unfold rown; rw [if_neg hl]; exact h
theorem RowR.kept {w w' : World} {v : Value} {l : List Val} {B : List Nat} (h : RowR w v l) (hc : Chg B w w') (hn : ∀ b ∈ rown v l, b ∉ B) : RowR w' v l :=
  ⟨h.form, fun hl => row_kept (h.own_ hl) hc (fun b hb => hn b (rown_of hl hb))⟩
theorem RowR.lt {w : World} {v : Value} {l : List Val} (h : RowR w v l) : ∀ b ∈ rown v l, b < w.heap.size := by
  intro b hb
  obtain ⟨hl, hb⟩ := rown_mem hb
  exact ((h.own_ hl).lt b (Option.mem_toList.1 hb)).2
def rft (x : RObj) : List Nat := rown x.2.kv (keysOf x.1) ++ (rown x.2.vv (valsOf x.1) ++ rown x.2.sv x.1.slots)
structure RObjAt (w : World) (x : RObj) : Prop where
  keys : RowR w x.2.kv (keysOf x.1)
  vals : RowR w x.2.vv (valsOf x.1)
  slots : RowR w x.2.sv x.1.slots
theorem RObjAt.forms {w : World} {x : RObj} (h : RObjAt w x) : ∃ ka kc va vc sa sc, x.2.kv = .slice ka x.1.kv.length kc ∧ x.2.vv = .slice va x.1.kv.length vc ∧ x.2.sv = .slice sa x.1.slots.length sc ∧
    x.1.kv.length ≤ kc ∧ kc ≤ 9223372036854775807 ∧ x.1.kv.length ≤ vc ∧ vc ≤ 9223372036854775807 ∧ x.1.slots.length ≤ sc ∧ sc ≤ 9223372036854775807 := by
  obtain ⟨ka, kc, k1, k2, k3⟩ := h.keys.form
  obtain ⟨va, vc, v1, v2, v3⟩ := h.vals.form
  obtain ⟨sa, sc, s1, s2, s3⟩ := h.slots.form
  rw [keysOf_len] at k1 k2
  rw [valsOf_len] at v1 v2
  exact ⟨ka, kc, va, vc, sa, sc, k1, v1, s1, k2, k3, v2, v3, s2, s3⟩
def rfoot (d : Nat) (v : Value) (l : List RObj) : List Nat := d :: (own v ++ l.flatMap rft)
structure RefAt (w : World) (d : Nat) (l : List RObj) (v : Value) (limit : Int) : Prop where
  head : w.heap[d]? = some (.cells #[v, .int .i64 limit] 49 (0, 0))
  row : w.ownsRow 0 60 10 v l.length (rrow l)
  objs : ∀ x ∈ l, RObjAt w x
  dv : d ∉ own v
  dsep : ∀ x ∈ l, d ∉ rft x
def robs (l : List RObj) : List Ob := l.map Prod.fst
theorem robs_len (l : List RObj) : (robs l).length = l.length := List.length_map ..
theorem robs_at (l : List RObj) (i : Nat) : (robs l)[i]? = l[i]?.map Prod.fst := List.getElem?_map ..
theorem robs_set (l : List RObj) (i : Nat) (y : RObj) : robs (l.set i y) = (robs l).set i y.1 := by unfold robs; rw [List.map_set]
def RefIs (w : World) (d : Nat) (s : List Ob) (limit : Int) (G : List Nat) : Prop := ∃ l v, RefAt w d l v limit ∧ robs l = s ∧ G = rfoot d v l ∧ ((usedOf s : Nat) : Int) ≤ limit ∧ limit ≤ 1048576
def RStep (W : World) (d : Nat) (limit : Int) (G : List Nat) (s' : List Ob) (w' : World) : Prop := ∃ G', RefIs w' d s' limit G' ∧ Chg [d] W w' ∧ ∀ b ∈ G', b ∈ G ∨ W.heap.size ≤ b
theorem rCells_len (x : RObj) : (rCells x).length = 10 := rfl
theorem rrow_snoc (l : List RObj) (x : RObj) : rrow (l ++ [x]) = rrow l ++ rCells x := by unfold rrow; rw [List.flatMap_append]; simp
theorem rrow_at (l : List RObj) (i j : Nat) (hj : j < 10) (hi : i < l.length) : (rrow l)[i * 10 + j]? = (rCells l[i])[j]? := by
  induction l generalizing i with
  | nil => exact absurd hi (Nat.not_lt_zero _)
  | cons a l ih =>
    have e : rrow (a :: l) = rCells a ++ rrow l := List.flatMap_cons ..
    rw [e]
    cases i with
    | zero => rw [Nat.zero_mul, Nat.zero_add, List.getElem?_append_left (by rw [rCells_len]; exact hj)]; rfl
    | succ i =>
      rw [List.getElem?_append_right (by rw [rCells_len]; omega), rCells_len, show (i + 1) * 10 + j - 10 = i * 10 + j by omega, ih i (by simpa using hi)]
      rfl
theorem putL_front : ∀ (vs p q : List Value) (j : Nat), j + vs.length ≤ p.length → putL (p ++ q) j vs = putL p j vs ++ q
  | [], p, q, j, _ => rfl
  | v :: r, p, q, j, h => by
    rw [List.length_cons] at h
    unfold putL
    rw [List.set_append_left _ _ (by omega), putL_front r (p.set j v) q (j + 1) (by rw [List.length_set]; omega)]
theorem rrow_put : ∀ (l : List RObj) (i j : Nat) (vs : List Value) (x y : RObj), l[i]? = some x → j + vs.length ≤ 10 → rCells y = putL (rCells x) j vs → putL (rrow l) (i * 10 + j) vs = rrow (l.set i y)
  | [], i, j, vs, x, y, h, _, _ => by cases h
  | a :: l, 0, j, vs, x, y, h, hj, he => by
    obtain rfl : a = x := Option.some.inj h
    show putL (rCells a ++ rrow l) (0 * 10 + j) vs = rCells y ++ rrow l
    rw [he, Nat.zero_mul, Nat.zero_add]
    exact putL_front vs (rCells a) (rrow l) j (by rw [rCells_len]; exact hj)
  | a :: l, i + 1, j, vs, x, y, h, hj, he => by
    have e1 : rrow (a :: l) = rCells a ++ rrow l := List.flatMap_cons ..
    have e2 : rrow (a :: l.set i y) = rCells a ++ rrow (l.set i y) := List.flatMap_cons ..
    rw [List.set_cons_succ, e1, e2, ← rrow_put l i j vs x y h hj he, show (i + 1) * 10 + j = (rCells a).length + (i * 10 + j) by rw [rCells_len]; omega, putL_append]
theorem RObjAt.kept {w w' : World} {x : RObj} {B : List Nat} (h : RObjAt w x) (hc : Chg B w w') (hn : ∀ b ∈ rft x, b ∉ B) : RObjAt w' x :=
  ⟨h.keys.kept hc (fun b hb => hn b (List.mem_append_left _ hb)), h.vals.kept hc (fun b hb => hn b (List.mem_append_right _ (List.mem_append_left _ hb))), h.slots.kept hc (fun b hb => hn b (List.mem_append_right _ (List.mem_append_right _ hb)))⟩
theorem RObjAt.lt {w : World} {x : RObj} (h : RObjAt w x) : ∀ b ∈ rft x, b < w.heap.size := by
  intro b hb
  rcases List.mem_append.1 hb with c | c
  · exact h.keys.lt b c
  · rcases List.mem_append.1 c with c | c
    · exact h.vals.lt b c
    · exact h.slots.lt b c
theorem rfoot_d (d : Nat) (v : Value) (l : List RObj) : d ∈ rfoot d v l := List.mem_cons_self ..
theorem rfoot_v {d : Nat} {v : Value} {l : List RObj} {b : Nat} (h : b ∈ own v) : b ∈ rfoot d v l := List.mem_cons_of_mem _ (List.mem_append_left _ h)
theorem rfoot_o {d : Nat} {v : Value} {l : List RObj} {b : Nat} {x : RObj} (hx : x ∈ l) (h : b ∈ rft x) : b ∈ rfoot d v l := List.mem_cons_of_mem _ (List.mem_append_right _ (List.mem_flatMap.2 ⟨x, hx, h⟩))
theorem rfoot_cases {d : Nat} {v : Value} {l : List RObj} {b : Nat} (h : b ∈ rfoot d v l) : b = d ∨ b ∈ own v ∨ ∃ x ∈ l, b ∈ rft x := by
  rcases List.mem_cons.1 h with c | c
  · exact .inl c
  · rcases List.mem_append.1 c with c | c
    · exact .inr (.inl c)
    · exact .inr (.inr (List.mem_flatMap.1 c))
theorem RefAt.lt {w : World} {d : Nat} {l : List RObj} {v : Value} {limit : Int} (h : RefAt w d l v limit) : ∀ b ∈ rfoot d v l, b < w.heap.size := by
  intro b hb
  rcases rfoot_cases hb with c | c | ⟨x, hx, c⟩
  · rw [c]; exact (Array.getElem?_eq_some_iff.1 h.head).1
  · exact (h.row.lt b (Option.mem_toList.1 c)).2
  · exact (h.objs x hx).lt b c
theorem RefAt.kept {w w' : World} {d : Nat} {l : List RObj} {v : Value} {limit : Int} {B : List Nat} (h : RefAt w d l v limit) (hc : Chg B w w') (hn : ∀ b ∈ rfoot d v l, b ∉ B) : RefAt w' d l v limit :=
  ⟨(hc.block d (Array.getElem?_eq_some_iff.1 h.head).1 (hn d (rfoot_d ..))).trans h.head, row_kept h.row hc (fun b hb => hn b (rfoot_v hb)), fun x hx => (h.objs x hx).kept hc (fun b hb => hn b (rfoot_o hx hb)), h.dv, h.dsep⟩
theorem RefIs.kept {w w' : World} {d : Nat} {s : List Ob} {limit : Int} {G B : List Nat} (h : RefIs w d s limit G) (hc : Chg B w w') (hn : ∀ b ∈ G, b ∉ B) : RefIs w' d s limit G := by
  obtain ⟨l, v, h1, h2, h3, h4⟩ := h
  exact ⟨l, v, h1.kept hc (fun b hb => hn b (by rw [h3]; exact hb)), h2, h3, h4⟩
theorem RefIs.lt {w : World} {d : Nat} {s : List Ob} {limit : Int} {G : List Nat} (h : RefIs w d s limit G) : ∀ b ∈ G, b < w.heap.size := by
  obtain ⟨l, v, h1, h2, h3, h4⟩ := h
  rw [h3]; exact h1.lt
theorem RefIs.d_mem {w : World} {d : Nat} {s : List Ob} {limit : Int} {G : List Nat} (h : RefIs w d s limit G) : d ∈ G := by
  obtain ⟨l, v, h1, h2, h3, h4⟩ := h
  rw [h3]; exact rfoot_d ..
theorem RefIs.below {w w' : World} {d : Nat} {s : List Ob} {limit : Int} {G : List Nat} (h : RefIs w d s limit G) (hb : Below w.heap.size w w') : RefIs w' d s limit G := h.kept (B := []) (Chg.of_below hb) (fun _ _ => List.not_mem_nil)
theorem RStep.of_below {W w : World} {d : Nat} {s : List Ob} {limit : Int} {G : List Nat} (h : RefIs W d s limit G) (hb : Below W.heap.size W w) : RStep W d limit G s w := ⟨G, h.below hb, Chg.of_below hb, fun _ hb => .inl hb⟩
theorem RefAt.d_cells {w : World} {d : Nat} {l : List RObj} {v : Value} {limit : Int} (h : RefAt w d l v limit) :
    w.cell? ⟨d, 0, none⟩ = some v ∧ w.cell? ⟨d, 1, none⟩ = some (.int .i64 limit) ∧ ∀ o, w.frozen? ⟨d, o, none⟩ = false := by
  refine ⟨?_, ?_, fun o => frozen_of h.head o⟩ <;> (rw [cell_of h.head]; rfl)
theorem RefAt.cells {w : World} {d : Nat} {l : List RObj} {v : Value} {limit : Int} (h : RefAt w d l v limit) {i : Nat} {x : RObj} (hx : l[i]? = some x) (j : Nat) (hj : j < 10) : w.cell? ⟨vb v, i * 10 + j, none⟩ = (rCells x)[j]? := by
  obtain ⟨hil, he⟩ := List.getElem?_eq_some_iff.1 hx
  obtain ⟨ad, cap, hv, h1, h2, h3⟩ := row_form h.row
  rw [h3 (by omega)] at hv
  have hr := h.row
  rw [hv] at hr
  have hc := rrow_at l i j hj hil
  rw [he] at hc
  have hjx : j < (rCells x).length := hj
  rw [List.getElem?_eq_getElem hjx] at hc ⊢
  exact row_cell hr hc
/-- an object that is there, and where -/
theorem RefIs.at_ {W : World} {d : Nat} {s : List Ob} {limit : Int} {G : List Nat} (h : RefIs W d s limit G) {o : Int} {ob : Ob} (ho : obAt s o = some ob) :
    ∃ l v i x, RefAt W d l v limit ∧ robs l = s ∧ G = rfoot d v l ∧ o = ((i : Nat) : Int) + 1 ∧ l[i]? = some x ∧ x.1 = ob ∧ s[i]? = some ob ∧ i < l.length ∧ l.length ≤ 1048576 ∧ ((usedOf s : Nat) : Int) ≤ limit ∧ limit ≤ 1048576 := by
  obtain ⟨l, v, h1, h2, h3, h4, h5⟩ := h
  obtain ⟨i, rfl, hi⟩ := obAt_some ho
  have hi' := hi
  rw [← h2, robs_at] at hi
  have hlen : l.length ≤ usedOf s := by rw [← robs_len, h2]; exact usedOf_len s
  cases hx : l[i]? with
  | none => rw [hx] at hi; cases hi
  | some x =>
    rw [hx] at hi
    exact ⟨l, v, i, x, h1, h2, h3, rfl, hx, Option.some.inj hi, hi', (List.getElem?_eq_some_iff.1 hx).1, by omega, h4, h5⟩
/-- the list of objects is a row of its own -/
theorem RefAt.renew {w w4 : World} {d : Nat} {l l' : List RObj} {v v' : Value} {limit : Int} (h : RefAt w d l v limit) (hb : Below w.heap.size w w4) (hr : w4.ownsRow 0 60 10 v' l'.length (rrow l')) (hv : ∀ b ∈ own v', w.heap.size ≤ b)
    (ho : ∀ x ∈ l', RObjAt w4 x) (hd : ∀ x ∈ l', d ∉ rft x) : RefAt (w4.setCell ⟨d, 0, none⟩ v') d l' v' limit ∧ Chg [d] w (w4.setCell ⟨d, 0, none⟩ v') := by
  have hdl : d < w.heap.size := (Array.getElem?_eq_some_iff.1 h.head).1
  have h4 := h.kept (B := []) (Chg.of_below hb) (fun _ _ => List.not_mem_nil)
  have hs := chg_set w4 d 0 v'
  have hdv : d ∉ own v' := fun e => by have := hv d e; omega
  exact ⟨⟨(setCell_at h4.head 0 v').trans rfl, row_kept hr hs (fun b hb' e => hdv (by rw [List.mem_singleton.1 e] at hb'; exact hb')), fun x hx => (ho x hx).kept hs (fun b hb' e => hd x hx (by rw [List.mem_singleton.1 e] at hb'; exact hb')), hdv, hd⟩,
    (Chg.of_below (B := [d]) hb).trans hs (fun b hb' _ => hb')⟩
/-- some cells of an object turn, in a row that no object's own rows meet -/
theorem RefAt.put {w : World} {d : Nat} {l : List RObj} {v : Value} {limit : Int} (h : RefAt w d l v limit) {i : Nat} {x y : RObj} (hx : l[i]? = some x) {j : Nat} {vs : List Value} (hj : j + vs.length ≤ 10) (hc : rCells y = putL (rCells x) j vs)
    (hfree : ∀ z ∈ l, vb v ∉ rft z) (hy : RObjAt w y) (hyv : vb v ∉ rft y) (hyd : d ∉ rft y) :
    RefAt (w.setCells (vb v) (i * 10 + j) vs) d (l.set i y) v limit ∧ Chg [vb v] w (w.setCells (vb v) (i * 10 + j) vs) := by
  have hil : i < l.length := (List.getElem?_eq_some_iff.1 hx).1
  obtain ⟨ad, cap, hv, c1, c2, c3⟩ := row_form h.row
  rw [c3 (by omega)] at hv
  have hrow := h.row
  rw [hv] at hrow
  obtain ⟨r1, r2⟩ := row_put vs (i * 10 + j) hrow
  rw [rrow_put l i j vs x y hx hj hc] at r1
  have hown : own v = [vb v] := by rw [hv]; rfl
  have hmem : ∀ z ∈ l.set i y, RObjAt w z ∧ vb v ∉ rft z ∧ d ∉ rft z := by
    intro z hz
    rcases List.mem_or_eq_of_mem_set hz with c | rfl
    · exact ⟨h.objs z c, hfree z c, h.dsep z c⟩
    · exact ⟨hy, hyv, hyd⟩
  refine ⟨⟨?_, ?_, fun z hz => (hmem z hz).1.kept r2 (fun b hb e => (hmem z hz).2.1 (by rw [List.mem_singleton.1 e] at hb; exact hb)), h.dv, fun z hz => (hmem z hz).2.2⟩, r2⟩
  · rw [r2.block d (Array.getElem?_eq_some_iff.1 h.head).1 (fun e => h.dv (by rw [hown]; exact e))]; exact h.head
  · rw [List.length_set]
    have r1' := r1
    rw [← hv] at r1'
    exact r1'
end Go.Proofs.Ytlihonbmopeemaa.Hp
end
section
namespace Go.Proofs.Ytlihonbmopeemaa.Hp
open Go Go.RowKit Go.Proofs.Ytlihonbmopeemaa.HpLaw Go.Proofs.Ytlihonbmopeemaa.Ans Go.Proofs.Ytlihonbmopeemaa.Num Go.Proofs.Ytlihonbmopeemaa.DigLaw Go.Proofs.Ytlihonbmopeemaa.Fl Go.Proofs.Ytlihonbmopeemaa.Dig Go.Proofs.Ytlihonbmopeemaa.Float

def BlP (W : World) (b : Bool) (e : Ending) (w' : World) : Prop := e = .returned (.bool b) ∧ Below W.heap.size W w'
def NmP (W : World) (n : Int) (e : Ending) (w' : World) : Prop := e = .returned (.int .i64 n) ∧ Below W.heap.size W w'
theorem used_take (s : List Ob) (k : Nat) (o : Ob) (h : s[k]? = some o) : usedOf (s.take (k + 1)) = usedOf (s.take k) + (1 + o.kv.length + o.slots.length) := by
  have hk := (List.getElem?_eq_some_iff.1 h)
  obtain ⟨hk1, hk2⟩ := hk
  rw [List.take_succ_eq_append_getElem hk1, usedOf_append, hk2, usedOf_one]; rfl
theorem used_take_le (s : List Ob) (k : Nat) : usedOf (s.take k) ≤ usedOf s := by
  conv => rhs; rw [← List.take_append_drop k s, usedOf_append]
  omega
set_option maxHeartbeats 1000000 in
theorem rused_walk {d : Nat} {s : List Ob} {limit : Int} {G : List Nat} (W : World) (h : RefIs W d s limit G) :
    Calls Try.prog 19 #[.pointer (some ⟨d, 0, none⟩)] W (NmP W ((usedOf s : Nat) : Int)) := by
  obtain ⟨l, v, h1, h2, h3, h4, h5⟩ := h
  have H1 := Lib.hid h1
  have H2 := Lib.hid h2
  have hlen : l.length ≤ 1048576 := by
    have := usedOf_len s
    rw [← h2, robs_len] at this
    rw [h2] at this
    omega
  have hdl : d < W.heap.size := h1.lt d (rfoot_d ..)
  obtain ⟨ad, cap, hv, e1, e2, e3⟩ := row_form h1.row
  have HV := Lib.hid hv
  have HE := Lib.hid e3
  clear h1 h2 h3 hv e3
  go_enter Try.func19, Try.ntmps19
  go_wp2_with fail
  go_loopw [3, 4] (fun n i wr => ∃ k : Nat, k ≤ l.length ∧ i = .int .i64 k ∧ n = .int .i64 ((usedOf (s.take k) : Nat) : Int) ∧ Below W.heap.size W wr) (fun _ i _ => l.length - (intOf i).toNat)
  case atStart => exact ⟨0, Nat.zero_le _, rfl, by rw [List.take_zero]; rfl, Below.refl _ _⟩
  case round =>
    obtain ⟨k, hk, rfl, rfl, hb⟩ := hrel
    have hR := H1.out.kept (B := []) (Chg.of_below hb) (fun _ _ => List.not_mem_nil)
    obtain ⟨c0, c1, cf⟩ := hR.d_cells
    rw [HV.out] at c0
    have hut := used_take_le s k
    by_cases hkl : k < l.length
    · have hx := List.getElem?_eq_getElem hkl
      obtain ⟨x, Hx⟩ : ∃ x, Hid (l[k] = x) := ⟨_, Lib.hid rfl⟩
      rw [Hx.out] at hx
      have hxm : x ∈ l := List.mem_of_getElem? hx
      have hro := hR.objs x hxm
      obtain ⟨ka, kc, va, vc, sa, sc, hkv, _, hsv, _, _, _, _, _, _⟩ := hro.forms
      have q1 : wr.cell? ⟨vb v, k * 10 + 1, none⟩ = some x.2.kv := hR.cells hx 1 (by decide)
      have q9 : wr.cell? ⟨vb v, k * 10 + 9, none⟩ = some x.2.sv := hR.cells hx 9 (by decide)
      rw [hkv] at q1
      rw [hsv] at q9
      have had := HE.out (by omega)
      obtain ⟨g, Hg⟩ : ∃ g, Hid (g = vb v) := ⟨_, Lib.hid rfl⟩
      rw [← Hg.out] at q1 q9 had
      subst had
      have hs : s[k]? = some x.1 := by rw [← H2.out, robs_at, hx]; rfl
      have hnx := used_take s k x.1 hs
      have hut2 := used_take_le s (k + 1)
      have HN := Lib.hid hnx
      have hb' : Hid (∀ n, Below W.heap.size W (wr.drewN n)) := fun n => Below.drewN hb n
      have hq1 : x.1.kv.length ≤ 1048576 := by omega
      have hq2 : x.1.slots.length ≤ 1048576 := by omega
      have hq3 : usedOf (s.take k) ≤ 1048576 := by omega
      obtain ⟨n1, Hn1⟩ : ∃ n1, Hid (n1 = x.1.kv.length) := ⟨_, Lib.hid rfl⟩
      obtain ⟨n2, Hn2⟩ : ∃ n2, Hid (n2 = x.1.slots.length) := ⟨_, Lib.hid rfl⟩
      obtain ⟨n3, Hn3⟩ : ∃ n3, Hid (n3 = usedOf (s.take k)) := ⟨_, Lib.hid rfl⟩
      rw [← Hn1.out] at q1 hq1 HN
      rw [← Hn2.out] at q9 hq2 HN
      rw [← Hn3.out] at hq3 HN ⊢
      clear hR hx hro hkv hsv hs hnx hut hut2 hxm hb
      go_wp2_with fail
      go_quiet (fail)
      go_wp2_with fail
      go_roundw
      case rel => exact ⟨k + 1, by omega, by go_num, by rw [HN.out]; go_num, hb'.out _⟩
      case measure => simp [intOf]; omega
    · obtain rfl : k = l.length := by omega
      have hfin : Hid (s.take l.length = s) := by
        show s.take l.length = s
        rw [← H2.out, ← robs_len l]
        exact List.take_of_length_le (Nat.le_refl _)
      rw [hfin.out]
      clear hR
      go_wp2_with fail
      go_ret
      exact ⟨rfl, hb⟩
theorem is_walk {d : Nat} {s : List Ob} {limit : Int} {G : List Nat} (o : Int) (W : World) (h : RefIs W d s limit G) :
    Calls Try.prog 46 #[.pointer (some ⟨d, 0, none⟩), .int .i64 o] W (BlP W (obAt s o).isSome) := by
  obtain ⟨l, v, h1, h2, h3, h4, h5⟩ := h
  obtain ⟨ad, cap, hv, e1, e2, e3⟩ := row_form h1.row
  obtain ⟨c0, c1, cf⟩ := h1.d_cells
  rw [hv] at c0
  have HS : Hid ((obAt s o).isSome = decide (1 ≤ o ∧ o ≤ (l.length : Int))) := by
    show (obAt s o).isSome = _
    cases ho : obAt s o with
    | none =>
      have := obAt_none ho
      rw [← h2, robs_len] at this
      exact (decide_eq_false (by omega)).symm
    | some ob =>
      obtain ⟨i, rfl, hi⟩ := obAt_some ho
      have hil := (List.getElem?_eq_some_iff.1 hi).1
      rw [← h2, robs_len] at hil
      exact (decide_eq_true (by omega)).symm
  clear h1 h2 h3 h4 h5 hv e3 c1 cf
  by_cases ha : 1 ≤ o
  · by_cases hb : o ≤ (l.length : Int)
    · have HS2 : Hid ((obAt s o).isSome = true) := HS.out.trans (decide_eq_true ⟨ha, hb⟩)
      clear HS
      go_enter Try.func46, Try.ntmps46
      go_wp2_with fail
      go_ret
      exact ⟨by rw [HS2.out]; rfl, Below.refl _ _⟩
    · have HS2 : Hid ((obAt s o).isSome = false) := HS.out.trans (decide_eq_false (fun c => hb c.2))
      have hb' : (l.length : Int) < o := by omega
      clear HS hb
      go_enter Try.func46, Try.ntmps46
      go_wp2_with fail
      go_ret
      refine ⟨?_, Below.refl _ _⟩
      rw [HS2.out]
      show Ending.returned (.bool (decide (o ≤ (l.length : Int)))) = _
      rw [decide_eq_false (by omega)]
  · have HS2 : Hid ((obAt s o).isSome = false) := HS.out.trans (decide_eq_false (fun c => ha c.1))
    have ha' : o < 1 := by omega
    clear HS ha
    go_enter Try.func46, Try.ntmps46
    go_wp2_with fail
    go_ret
    exact ⟨by rw [HS2.out]; rfl, Below.refl _ _⟩
theorem hasT_walk {d : Nat} {s : List Ob} {limit : Int} {G : List Nat} (o : Int) (W : World) (h : RefIs W d s limit G) :
    Calls Try.prog 21 #[.pointer (some ⟨d, 0, none⟩), .int .i64 o] W (BlP W (isTab s o)) := by
  have hi := is_walk o W h
  cases ho : obAt s o with
  | none =>
    have HS : Hid (isTab s o = false) := by
      show isTab s o = false
      unfold isTab; rw [ho]
    rw [ho] at hi
    clear h ho
    go_enter Try.func21, Try.ntmps21
    go_wp2_with fail
    refine hi.mono ?_
    rintro e w1 ⟨rfl, b1⟩
    rw [show (Option.none : Option Ob).isSome = false from rfl]
    go_wp2_with fail
    go_ret
    exact ⟨by rw [HS.out]; rfl, b1⟩
  | some ob =>
    have HS : Hid (isTab s o = (ob.kind == 5)) := by
      show isTab s o = _
      unfold isTab; rw [ho]
      exact (Bool.beq_eq_decide_eq ..).symm
    rw [ho] at hi
    obtain ⟨l, v, i, x, h1, h2, h3, rfl, hx, rfl, hs, hil, hlen, _, _⟩ := h.at_ ho
    have H1 := Lib.hid h1
    have Hx := Lib.hid hx
    obtain ⟨ad, cap, hv, e1, e2, e3⟩ := row_form h1.row
    have had := e3 (by omega)
    have HV := Lib.hid hv
    clear h h1 h2 h3 hs ho hv e3 hx
    go_enter Try.func21, Try.ntmps21
    go_wp2_with fail
    refine hi.mono ?_
    rintro e w1 ⟨rfl, b1⟩
    rw [show (some x.1 : Option Ob).isSome = true from rfl]
    have hR := H1.out.kept (B := []) (Chg.of_below b1) (fun _ _ => List.not_mem_nil)
    obtain ⟨c0, c1, cf⟩ := hR.d_cells
    rw [HV.out] at c0
    have q0 : w1.cell? ⟨vb v, i * 10 + 0, none⟩ = some (.int .i64 x.1.kind) := hR.cells Hx.out 0 (by decide)
    rw [Nat.add_zero] at q0
    obtain ⟨g, Hg⟩ : ∃ g, Hid (g = vb v) := ⟨_, Lib.hid rfl⟩
    rw [← Hg.out] at q0 had
    subst had
    clear hR hi
    go_wp2_with fail
    go_ret
    exact ⟨by rw [HS.out]; rfl, b1⟩
def hasS (s : List Ob) (o q : Int) : Bool := match obAt s o with
  | Option.none => false
  | some ob => decide (0 ≤ q ∧ q < (ob.slots.length : Int))
theorem has_walk {d : Nat} {s : List Ob} {limit : Int} {G : List Nat} (o q : Int) (W : World) (h : RefIs W d s limit G) :
    Calls Try.prog 63 #[.pointer (some ⟨d, 0, none⟩), .int .i64 o, .int .i64 q] W (BlP W (hasS s o q)) := by
  have hi := is_walk o W h
  cases ho : obAt s o with
  | none =>
    have HS : Hid (hasS s o q = false) := by
      show hasS s o q = false
      unfold hasS; rw [ho]
    rw [ho] at hi
    clear h ho
    go_enter Try.func63, Try.ntmps63
    go_wp2_with fail
    refine hi.mono ?_
    rintro e w1 ⟨rfl, b1⟩
    rw [show (Option.none : Option Ob).isSome = false from rfl]
    go_wp2_with fail
    go_ret
    exact ⟨by rw [HS.out]; rfl, b1⟩
  | some ob =>
    have hS : hasS s o q = decide (0 ≤ q ∧ q < (ob.slots.length : Int)) := by unfold hasS; rw [ho]
    rw [ho] at hi
    obtain ⟨l, v, i, x, h1, h2, h3, rfl, hx, rfl, hs, hil, hlen, _, _⟩ := h.at_ ho
    have H1 := Lib.hid h1
    have Hx := Lib.hid hx
    obtain ⟨ad, cap, hv, e1, e2, e3⟩ := row_form h1.row
    have had := e3 (by omega)
    have HV := Lib.hid hv
    clear h h1 h2 h3 hs ho hv e3 hx
    have hq0 : ∀ w1, Below W.heap.size W w1 → ∃ sa sc, x.2.sv = .slice sa x.1.slots.length sc ∧ x.1.slots.length ≤ sc ∧ sc ≤ 9223372036854775807 := by
      intro w1 b1
      have hR := H1.out.kept (B := []) (Chg.of_below b1) (fun _ _ => List.not_mem_nil)
      obtain ⟨sa, sc, hsv, g1, g2⟩ := (hR.objs x (List.mem_of_getElem? Hx.out)).slots.form
      exact ⟨sa, sc, hsv, g1, g2⟩
    obtain ⟨sa, sc, hsv, g1, g2⟩ := hq0 W (Below.refl _ _)
    have HSV := Lib.hid hsv
    have HG : Hid (∀ w1, Below W.heap.size W w1 → w1.cell? ⟨d, 0, none⟩ = some v ∧ w1.cell? ⟨vb v, i * 10 + 9, none⟩ = some x.2.sv) := by
      intro w1 b1
      have hR := H1.out.kept (B := []) (Chg.of_below b1) (fun _ _ => List.not_mem_nil)
      exact ⟨hR.d_cells.1, hR.cells Hx.out 9 (by decide)⟩
    obtain ⟨g, Hg⟩ : ∃ g, Hid (g = vb v) := ⟨_, Lib.hid rfl⟩
    rw [← Hg.out] at had HG
    subst had
    clear hq0 hsv
    by_cases ha : q < 0
    · have HD : Hid (hasS s ((i : Int) + 1) q = false) := hS.trans (decide_eq_false (by omega))
      clear hS
      go_enter Try.func63, Try.ntmps63
      go_wp2_with fail
      refine hi.mono ?_
      rintro e w1 ⟨rfl, b1⟩
      rw [show (some x.1 : Option Ob).isSome = true from rfl]
      obtain ⟨c0, q9⟩ := HG.out w1 b1
      rw [HV.out] at c0
      rw [HSV.out] at q9
      go_wp2_with fail
      go_ret
      exact ⟨by rw [HD.out]; rfl, b1⟩
    · by_cases hc : q < (x.1.slots.length : Int)
      · have HD : Hid (hasS s ((i : Int) + 1) q = true) := hS.trans (decide_eq_true (by omega))
        have ha' : 0 ≤ q := by omega
        clear ha hS
        go_enter Try.func63, Try.ntmps63
        go_wp2_with fail
        refine hi.mono ?_
        rintro e w1 ⟨rfl, b1⟩
        rw [show (some x.1 : Option Ob).isSome = true from rfl]
        obtain ⟨c0, q9⟩ := HG.out w1 b1
        rw [HV.out] at c0
        rw [HSV.out] at q9
        go_wp2_with fail
        go_ret
        exact ⟨by rw [HD.out]; rfl, b1⟩
      · have HD : Hid (hasS s ((i : Int) + 1) q = false) := hS.trans (decide_eq_false (by omega))
        have hc' : (x.1.slots.length : Int) ≤ q := by omega
        clear hc hS
        go_enter Try.func63, Try.ntmps63
        go_wp2_with fail
        refine hi.mono ?_
        rintro e w1 ⟨rfl, b1⟩
        rw [show (some x.1 : Option Ob).isSome = true from rfl]
        obtain ⟨c0, q9⟩ := HG.out w1 b1
        rw [HV.out] at c0
        rw [HSV.out] at q9
        go_wp2_with fail
        go_ret
        refine ⟨?_, b1⟩
        rw [HD.out]
        show Ending.returned (.bool (decide (q < (x.1.slots.length : Int)))) = _
        rw [decide_eq_false (by omega)]
end Go.Proofs.Ytlihonbmopeemaa.Hp
end
section
namespace Go.Proofs.Ytlihonbmopeemaa.Hp
open Go Go.RowKit Go.Proofs.Ytlihonbmopeemaa.HpLaw Go.Proofs.Ytlihonbmopeemaa.Ans Go.Proofs.Ytlihonbmopeemaa.Num Go.Proofs.Ytlihonbmopeemaa.DigLaw Go.Proofs.Ytlihonbmopeemaa.Fl Go.Proofs.Ytlihonbmopeemaa.Dig Go.Proofs.Ytlihonbmopeemaa.Float
attribute [local go_sem high] eqV
attribute [local go_sem ↓] Go.wp_at_zero Go.wp_at_succ

theorem rnorm_3 (a : Nat) (ha : a < Dig.W) (s : ByteArray) (o : Int) (W : World) : Calls Try.prog 61 #[.agg #[.int .i64 3, .int .u64 a, .string s, .int .i64 o]] W (NormP W ⟨3, a, s, o⟩) := by
  have hn : normV ⟨3, a, s, o⟩ = ⟨3, ((canonW a : Nat) : Int), E3, 0⟩ := rfl
  have HN := Lib.hid hn
  have t0 := Two.start W ⟨3, a, s, o⟩ nilV
  have EB := Lib.hid (boxes_nil W ⟨3, a, s, o⟩)
  clear hn
  go_enter Try.func61, Try.ntmps61
  go_upto_region 2 with fail
  rw [EB.out]
  generalize boxes W ⟨3, a, s, o⟩ nilV = wo at t0 ⊢
  have hsz := t0.size
  have T0 := Lib.hid t0
  obtain ⟨p0, p1, p2, p3, q0, q1, q2, q3, pf, qf⟩ := t0.facts
  clear t0 EB
  go_cut [] (fun wx => Two W ⟨3, a, s, o⟩ ⟨3, ((canonW a : Nat) : Int), E3, 0⟩ wx)
  case first =>
    go_region_with ((go_at_call 56; refine ((ans_refCanon a ha).at _).mono ?_; rintro e w6 ⟨rfl, b6⟩; have T6 := Lib.hid (T0.out.step (bthen (w := wo) (by (first | (with_reducible assumption) | (repeat (first | (with_reducible exact Below.refl _ _) | (with_reducible assumption) | (with_reducible refine Below.drew ?_) | (with_reducible refine Below.alloc ?_ ?_ _) | (with_reducible refine Below.setCell ?_ ?_ _) | omega | (simp <;> omega))))) b6)); obtain ⟨r0, r1, r2, r3, s0, s1, s2, s3, rf, sf⟩ := T6.out.facts; clear b6))
    all_goals
      have HR := T6.out.put1 ⟨3, ((canonW a : Nat) : Int), E3, 0⟩
      go_wp2_with fail
      go_meet
      rw [put4_mk]
      exact HR
  case rest =>
    clear T0 p0 p1 p2 p3 q0 q1 q2 q3 pf qf
    have T7 := Lib.hid hcut
    obtain ⟨r0, r1, r2, r3, s0, s1, s2, s3, rf, sf⟩ := hcut.facts
    clear hcut
    go_wp2_with fail
    exact bodyPost_ret (v := Val.v ⟨3, ((canonW a : Nat) : Int), E3, 0⟩) (by simp [results, Try.results61, go_sem, Val.out, s0, s1, s2, s3]) rfl ⟨by rw [HN.out], T7.out.below⟩
set_option maxHeartbeats 1000000 in
theorem rnorm_4 (n : Int) (s : ByteArray) (o : Int) (W : World) : Calls Try.prog 61 #[.agg #[.int .i64 4, .int .u64 n, .string s, .int .i64 o]] W (NormP W ⟨4, n, s, o⟩) := by
  have hn : normV ⟨4, n, s, o⟩ = ⟨4, 0, s, 0⟩ := rfl
  have HN := Lib.hid hn
  have t0 := Two.start W ⟨4, n, s, o⟩ nilV
  have EB := Lib.hid (boxes_nil W ⟨4, n, s, o⟩)
  clear hn
  go_enter Try.func61, Try.ntmps61
  go_upto_region 1 with fail
  rw [EB.out]
  generalize boxes W ⟨4, n, s, o⟩ nilV = wo at t0 ⊢
  have T7 := Lib.hid (t0.put1 ⟨4, 0, s, 0⟩)
  obtain ⟨p0, p1, p2, p3, q0, q1, q2, q3, pf, qf⟩ := t0.facts
  obtain ⟨_, _, _, _, s0, s1, s2, s3, _, _⟩ := T7.out.facts
  clear t0 EB
  go_wp2_with fail
  rw [put4_mk]
  exact bodyPost_ret (v := Val.v ⟨4, 0, s, 0⟩) (by simp [results, Try.results61, go_sem, Val.out, s0, s1, s2, s3]) rfl ⟨by rw [HN.out], T7.out.below⟩
set_option maxHeartbeats 1000000 in
theorem rnorm_1 (n : Int) (s : ByteArray) (o : Int) (W : World) : Calls Try.prog 61 #[.agg #[.int .i64 1, .int .u64 n, .string s, .int .i64 o]] W (NormP W ⟨1, n, s, o⟩) := by
  have hn : normV ⟨1, n, s, o⟩ = ⟨1, 0, ⟨#[]⟩, 0⟩ := rfl
  have HN := Lib.hid hn
  have t0 := Two.start W ⟨1, n, s, o⟩ nilV
  have EB := Lib.hid (boxes_nil W ⟨1, n, s, o⟩)
  clear hn
  go_enter Try.func61, Try.ntmps61
  go_upto_region 1 with fail
  rw [EB.out]
  generalize boxes W ⟨1, n, s, o⟩ nilV = wo at t0 ⊢
  have T7 := Lib.hid (t0.put1 ⟨1, 0, ⟨#[]⟩, 0⟩)
  obtain ⟨p0, p1, p2, p3, q0, q1, q2, q3, pf, qf⟩ := t0.facts
  obtain ⟨_, _, _, _, s0, s1, s2, s3, _, _⟩ := T7.out.facts
  clear t0 EB
  go_wp2_with fail
  rw [put4_mk]
  exact bodyPost_ret (v := Val.v ⟨1, 0, ⟨#[]⟩, 0⟩) (by simp [results, Try.results61, go_sem, Val.out, s0, s1, s2, s3]) rfl ⟨by rw [HN.out], T7.out.below⟩
set_option maxHeartbeats 1000000 in
theorem rnorm_2 (n : Int) (s : ByteArray) (o : Int) (W : World) : Calls Try.prog 61 #[.agg #[.int .i64 2, .int .u64 n, .string s, .int .i64 o]] W (NormP W ⟨2, n, s, o⟩) := by
  have hn : normV ⟨2, n, s, o⟩ = ⟨2, 0, ⟨#[]⟩, 0⟩ := rfl
  have HN := Lib.hid hn
  have t0 := Two.start W ⟨2, n, s, o⟩ nilV
  have EB := Lib.hid (boxes_nil W ⟨2, n, s, o⟩)
  clear hn
  go_enter Try.func61, Try.ntmps61
  go_upto_region 1 with fail
  rw [EB.out]
  generalize boxes W ⟨2, n, s, o⟩ nilV = wo at t0 ⊢
  have T7 := Lib.hid (t0.put1 ⟨2, 0, ⟨#[]⟩, 0⟩)
  obtain ⟨p0, p1, p2, p3, q0, q1, q2, q3, pf, qf⟩ := t0.facts
  obtain ⟨_, _, _, _, s0, s1, s2, s3, _, _⟩ := T7.out.facts
  clear t0 EB
  go_wp2_with fail
  rw [put4_mk]
  exact bodyPost_ret (v := Val.v ⟨2, 0, ⟨#[]⟩, 0⟩) (by simp [results, Try.results61, go_sem, Val.out, s0, s1, s2, s3]) rfl ⟨by rw [HN.out], T7.out.below⟩
set_option maxHeartbeats 1000000 in
theorem rnorm_5 (n : Int) (s : ByteArray) (o : Int) (W : World) : Calls Try.prog 61 #[.agg #[.int .i64 5, .int .u64 n, .string s, .int .i64 o]] W (NormP W ⟨5, n, s, o⟩) := by
  have hn : normV ⟨5, n, s, o⟩ = ⟨5, 0, ⟨#[]⟩, o⟩ := rfl
  have HN := Lib.hid hn
  have t0 := Two.start W ⟨5, n, s, o⟩ nilV
  have EB := Lib.hid (boxes_nil W ⟨5, n, s, o⟩)
  clear hn
  go_enter Try.func61, Try.ntmps61
  go_upto_region 1 with fail
  rw [EB.out]
  generalize boxes W ⟨5, n, s, o⟩ nilV = wo at t0 ⊢
  have T7 := Lib.hid (t0.put1 ⟨5, 0, ⟨#[]⟩, o⟩)
  obtain ⟨p0, p1, p2, p3, q0, q1, q2, q3, pf, qf⟩ := t0.facts
  obtain ⟨_, _, _, _, s0, s1, s2, s3, _, _⟩ := T7.out.facts
  clear t0 EB
  go_wp2_with fail
  rw [put4_mk]
  exact bodyPost_ret (v := Val.v ⟨5, 0, ⟨#[]⟩, o⟩) (by simp [results, Try.results61, go_sem, Val.out, s0, s1, s2, s3]) rfl ⟨by rw [HN.out], T7.out.below⟩
set_option maxHeartbeats 1000000 in
theorem rnorm_6 (n : Int) (s : ByteArray) (o : Int) (W : World) : Calls Try.prog 61 #[.agg #[.int .i64 6, .int .u64 n, .string s, .int .i64 o]] W (NormP W ⟨6, n, s, o⟩) := by
  have hn : normV ⟨6, n, s, o⟩ = ⟨6, 0, ⟨#[]⟩, o⟩ := rfl
  have HN := Lib.hid hn
  have t0 := Two.start W ⟨6, n, s, o⟩ nilV
  have EB := Lib.hid (boxes_nil W ⟨6, n, s, o⟩)
  clear hn
  go_enter Try.func61, Try.ntmps61
  go_upto_region 1 with fail
  rw [EB.out]
  generalize boxes W ⟨6, n, s, o⟩ nilV = wo at t0 ⊢
  have T7 := Lib.hid (t0.put1 ⟨6, 0, ⟨#[]⟩, o⟩)
  obtain ⟨p0, p1, p2, p3, q0, q1, q2, q3, pf, qf⟩ := t0.facts
  obtain ⟨_, _, _, _, s0, s1, s2, s3, _, _⟩ := T7.out.facts
  clear t0 EB
  go_wp2_with fail
  rw [put4_mk]
  exact bodyPost_ret (v := Val.v ⟨6, 0, ⟨#[]⟩, o⟩) (by simp [results, Try.results61, go_sem, Val.out, s0, s1, s2, s3]) rfl ⟨by rw [HN.out], T7.out.below⟩
set_option maxHeartbeats 1000000 in
theorem rnorm_7 (n : Int) (s : ByteArray) (o : Int) (W : World) : Calls Try.prog 61 #[.agg #[.int .i64 7, .int .u64 n, .string s, .int .i64 o]] W (NormP W ⟨7, n, s, o⟩) := by
  have hn : normV ⟨7, n, s, o⟩ = ⟨7, 0, ⟨#[]⟩, o⟩ := rfl
  have HN := Lib.hid hn
  have t0 := Two.start W ⟨7, n, s, o⟩ nilV
  have EB := Lib.hid (boxes_nil W ⟨7, n, s, o⟩)
  clear hn
  go_enter Try.func61, Try.ntmps61
  go_upto_region 1 with fail
  rw [EB.out]
  generalize boxes W ⟨7, n, s, o⟩ nilV = wo at t0 ⊢
  have T7 := Lib.hid (t0.put1 ⟨7, 0, ⟨#[]⟩, o⟩)
  obtain ⟨p0, p1, p2, p3, q0, q1, q2, q3, pf, qf⟩ := t0.facts
  obtain ⟨_, _, _, _, s0, s1, s2, s3, _, _⟩ := T7.out.facts
  clear t0 EB
  go_wp2_with fail
  rw [put4_mk]
  exact bodyPost_ret (v := Val.v ⟨7, 0, ⟨#[]⟩, o⟩) (by simp [results, Try.results61, go_sem, Val.out, s0, s1, s2, s3]) rfl ⟨by rw [HN.out], T7.out.below⟩
set_option maxHeartbeats 1000000 in
theorem rnorm_8 (n : Int) (s : ByteArray) (o : Int) (W : World) : Calls Try.prog 61 #[.agg #[.int .i64 8, .int .u64 n, .string s, .int .i64 o]] W (NormP W ⟨8, n, s, o⟩) := by
  have hn : normV ⟨8, n, s, o⟩ = ⟨8, 0, ⟨#[]⟩, o⟩ := rfl
  have HN := Lib.hid hn
  have t0 := Two.start W ⟨8, n, s, o⟩ nilV
  have EB := Lib.hid (boxes_nil W ⟨8, n, s, o⟩)
  clear hn
  go_enter Try.func61, Try.ntmps61
  go_upto_region 1 with fail
  rw [EB.out]
  generalize boxes W ⟨8, n, s, o⟩ nilV = wo at t0 ⊢
  have T7 := Lib.hid (t0.put1 ⟨8, 0, ⟨#[]⟩, o⟩)
  obtain ⟨p0, p1, p2, p3, q0, q1, q2, q3, pf, qf⟩ := t0.facts
  obtain ⟨_, _, _, _, s0, s1, s2, s3, _, _⟩ := T7.out.facts
  clear t0 EB
  go_wp2_with fail
  rw [put4_mk]
  exact bodyPost_ret (v := Val.v ⟨8, 0, ⟨#[]⟩, o⟩) (by simp [results, Try.results61, go_sem, Val.out, s0, s1, s2, s3]) rfl ⟨by rw [HN.out], T7.out.below⟩
set_option maxHeartbeats 1000000 in
theorem rnorm_low (k : Int) (h : k < 1) (n : Int) (s : ByteArray) (o : Int) (W : World) : Calls Try.prog 61 #[.agg #[.int .i64 k, .int .u64 n, .string s, .int .i64 o]] W (NormP W ⟨k, n, s, o⟩) := by
  have hn : normV ⟨k, n, s, o⟩ = nilV := by
    unfold normV
    simp only
    rw [if_neg (by omega), if_neg (by omega), if_neg (by omega), if_neg (by omega)]
  have HN := Lib.hid hn
  have t0 := Two.start W ⟨k, n, s, o⟩ nilV
  have EB := Lib.hid (boxes_nil W ⟨k, n, s, o⟩)
  have e1 : (k == 1) = false := by rw [beq_eq_false_iff_ne]; omega
  have e2 : (k == 2) = false := by rw [beq_eq_false_iff_ne]; omega
  have e3 : (k == 3) = false := by rw [beq_eq_false_iff_ne]; omega
  have e4 : (k == 4) = false := by rw [beq_eq_false_iff_ne]; omega
  clear hn
  go_enter Try.func61, Try.ntmps61
  go_upto_region 1 with fail
  rw [EB.out]
  generalize boxes W ⟨k, n, s, o⟩ nilV = wo at t0 ⊢
  have T7 := Lib.hid (t0.put1 nilV)
  obtain ⟨p0, p1, p2, p3, q0, q1, q2, q3, pf, qf⟩ := t0.facts
  obtain ⟨_, _, _, _, s0, s1, s2, s3, _, _⟩ := T7.out.facts
  clear t0 EB
  go_wp2_with fail
  rw [put4_nil]
  exact bodyPost_ret (v := Val.v nilV) (by simp [results, Try.results61, go_sem, Val.out, s0, s1, s2, s3]) rfl ⟨by rw [HN.out], T7.out.below⟩
set_option maxHeartbeats 1000000 in
theorem rnorm_high (k : Int) (h : 8 < k) (n : Int) (s : ByteArray) (o : Int) (W : World) : Calls Try.prog 61 #[.agg #[.int .i64 k, .int .u64 n, .string s, .int .i64 o]] W (NormP W ⟨k, n, s, o⟩) := by
  have hn : normV ⟨k, n, s, o⟩ = nilV := by
    unfold normV
    simp only
    rw [if_neg (by omega), if_neg (by omega), if_neg (by omega), if_neg (by omega)]
  have HN := Lib.hid hn
  have t0 := Two.start W ⟨k, n, s, o⟩ nilV
  have EB := Lib.hid (boxes_nil W ⟨k, n, s, o⟩)
  have e1 : (k == 1) = false := by rw [beq_eq_false_iff_ne]; omega
  have e2 : (k == 2) = false := by rw [beq_eq_false_iff_ne]; omega
  have e3 : (k == 3) = false := by rw [beq_eq_false_iff_ne]; omega
  have e4 : (k == 4) = false := by rw [beq_eq_false_iff_ne]; omega
  clear hn
  go_enter Try.func61, Try.ntmps61
  go_upto_region 1 with fail
  rw [EB.out]
  generalize boxes W ⟨k, n, s, o⟩ nilV = wo at t0 ⊢
  have T7 := Lib.hid (t0.put1 nilV)
  obtain ⟨p0, p1, p2, p3, q0, q1, q2, q3, pf, qf⟩ := t0.facts
  obtain ⟨_, _, _, _, s0, s1, s2, s3, _, _⟩ := T7.out.facts
  clear t0 EB
  go_wp2_with fail
  rw [put4_nil]
  exact bodyPost_ret (v := Val.v nilV) (by simp [results, Try.results61, go_sem, Val.out, s0, s1, s2, s3]) rfl ⟨by rw [HN.out], T7.out.below⟩
theorem rnormal_walk (x : Val) (hx : VOK x) (W : World) : Calls Try.prog 61 #[x.v] W (NormP W x) := by
  obtain ⟨a, ha, haW⟩ := hx.num
  obtain ⟨k, n, s, o⟩ := x
  by_cases h1 : k < 1
  · exact rnorm_low k h1 n s o W
  · by_cases h8 : 8 < k
    · exact rnorm_high k h8 n s o W
    · obtain rfl | rfl | rfl | rfl | rfl | rfl | rfl | rfl : k = 1 ∨ k = 2 ∨ k = 3 ∨ k = 4 ∨ k = 5 ∨ k = 6 ∨ k = 7 ∨ k = 8 := by omega
      · exact rnorm_1 n s o W
      · exact rnorm_2 n s o W
      · subst ha; exact rnorm_3 a haW s o W
      · exact rnorm_4 n s o W
      · exact rnorm_5 n s o W
      · exact rnorm_6 n s o W
      · exact rnorm_7 n s o W
      · exact rnorm_8 n s o W
end Go.Proofs.Ytlihonbmopeemaa.Hp
end
section
namespace Go.Proofs.Ytlihonbmopeemaa.Hp
open Go Go.RowKit Go.Proofs.Ytlihonbmopeemaa.HpLaw Go.Proofs.Ytlihonbmopeemaa.Ans Go.Proofs.Ytlihonbmopeemaa.Num Go.Proofs.Ytlihonbmopeemaa.DigLaw Go.Proofs.Ytlihonbmopeemaa.Fl Go.Proofs.Ytlihonbmopeemaa.Dig Go.Proofs.Ytlihonbmopeemaa.Float
attribute [local go_sem high] eqV
attribute [local go_sem ↓] Go.wp_at_zero Go.wp_at_succ

theorem zero_words {a : Nat} (h : a < Dig.W) : kindN a = 0 ↔ a = 0 ∨ a = 9223372036854775808 := by
  have hr : rg a = a % 9223372036854775808 := rfl
  have hW : a < 18446744073709551616 := h
  have hc := cINF
  rcases kind_facts a with ⟨hk, h1⟩ | ⟨hk, h1⟩ | ⟨hk, h1⟩ | ⟨hk, h1, _⟩ | ⟨hk, h1, _⟩ <;> rw [hk] <;> rw [hr] at h1 <;> omega
set_option maxHeartbeats 1000000 in
theorem rkey_walk (x : Val) (hx : VOK x) (W : World) : Calls Try.prog 60 #[x.v] W (KeyP W x) := by
  have hn := fun W => rnormal_walk x hx W
  have hy := normV_ok hx
  have t0 := Two.start W x nilV
  have EB := Lib.hid (boxes_nil W x)
  unfold Val.v at *
  go_enter Try.func60, Try.ntmps60
  go_upto_region 1 with fail
  rw [EB.out]
  generalize boxes W x nilV = wo at t0 ⊢
  obtain ⟨p0, p1, p2, p3, q0, q1, q2, q3, pf, qf⟩ := t0.facts
  go_wp2_with fail
  refine (hn _).mono ?_
  rintro e w1 ⟨rfl, h1⟩
  have t1 : Two W x nilV w1 := t0.step h1
  clear p0 p1 p2 p3 q0 q1 q2 q3 pf qf t0 EB
  obtain ⟨y, Hy⟩ : ∃ y, Hid (y = normV x) := ⟨_, Lib.hid rfl⟩
  rw [← Hy.out] at hy
  have T2 := Lib.hid (t1.put0 y)
  obtain ⟨p0, p1, p2, p3, q0, q1, q2, q3, pf, qf⟩ := t1.facts
  rw [← Hy.out, Val.out]
  clear h1 t1 hn
  obtain ⟨w2, Hw2⟩ : ∃ w2, Hid (w2 = put4 w1 W.heap.size y) := ⟨_, Lib.hid rfl⟩
  rw [← Hw2.out] at T2
  go_upto_region 2 with fail
  rw [put4_eq, ← Hw2.out]
  clear p0 p1 p2 p3 q0 q1 q2 q3 pf qf
  obtain ⟨p0, p1, p2, p3, q0, q1, q2, q3, pf, qf⟩ := T2.out.facts
  obtain ⟨a, ha, haW⟩ := hy.num
  by_cases k0 : y.k = 0
  · have HK : Hid (keyV x = none) := by
      show keyV x = none
      unfold keyV keyY
      rw [← Hy.out, if_pos (.inl k0)]
    have e0 : (y.k == 0) = true := by rw [k0]; rfl
    clear k0
    have T3 := T2.out.put1 nilV
    obtain ⟨r0, r1, r2, r3, s0, s1, s2, s3, _, _⟩ := T3.facts
    go_wp2_with fail
    rw [put4_nil]
    exact bodyPost_ret (v := keyR none) (by simp [results, Try.results60, go_sem, keyR, Val.out, s0, s1, s2, s3]) rfl ⟨by rw [HK.out], T3.below⟩
  · have e0 : (y.k == 0) = false := by rw [beq_eq_false_iff_ne]; exact k0
    have e0' : ¬ y.k = 0 := k0
    clear k0
    by_cases k3 : y.k = 3
    · have e3 : (y.k == 3) = true := by rw [k3]; rfl
      have kd : y.n.toNat = a := by rw [ha]; rfl
      have HA := Lib.hid ha
      have HD := Lib.hid kd
      have H3 := Lib.hid k3
      have H0 := Lib.hid e0'
      have na : w2.cell? ⟨W.heap.size, 1, none⟩ = some (.int .u64 (a : Int)) := by rw [p1, ha]
      clear k3 kd ha e0' p1
      go_wp2_with fail
      refine ((ans_refKind a haW).at _).mono ?_
      rintro e w3 ⟨rfl, h3⟩
      have T3 := Lib.hid (T2.out.step h3)
      obtain ⟨r0, r1, r2, r3, s0, s1, s2, s3, rf, sf⟩ := T3.out.facts
      have hks := kind_vals a
      have HZ := Lib.hid (zero_words haW)
      by_cases k4 : kindN a = 4
      · have HK : Hid (keyV x = none) := by
          show keyV x = none
          unfold keyV keyY
          rw [← Hy.out, if_pos (.inr ⟨H3.out, by rw [HD.out]; exact k4⟩)]
        rw [k4]
        have T4 := T3.out.put1 nilV
        obtain ⟨u0, u1, u2, u3, v0, v1, v2, v3, _, _⟩ := T4.facts
        clear h3 na p0 p2 p3 q0 q1 q2 q3 pf qf r1 k4 hks
        go_wp2_with fail
        rw [put4_nil]
        exact bodyPost_ret (v := keyR none) (by simp [results, Try.results60, go_sem, keyR, Val.out, v0, v1, v2, v3]) rfl ⟨by rw [HK.out], T4.below⟩
      · have e4 : (((kindN a : Nat) : Int) == 4) = false := by rw [beq_eq_false_iff_ne]; omega
        have ra : w3.cell? ⟨W.heap.size, 1, none⟩ = some (.int .u64 (a : Int)) := by rw [r1, HA.out]
        have H4 := Lib.hid k4
        clear h3 na p0 p2 p3 q0 q1 q2 q3 pf qf r1 k4 hks
        by_cases kz : a = 9223372036854775808
        · have HK : Hid (keyV x = some ⟨y.k, 0, y.s, y.o⟩) := by
            show keyV x = _
            unfold keyV keyY
            rw [← Hy.out, if_neg (fun c => c.elim H0.out (fun c => H4.out (by rw [← HD.out]; exact c.2))), if_pos ⟨H3.out, by rw [HD.out]; exact HZ.out.2 (.inr kz)⟩]
          have ez : (((a : Nat) : Int) == 9223372036854775808) = true := by rw [kz]; rfl
          have T5 : Two W ⟨y.k, 0, y.s, y.o⟩ nilV (w3.setCell ⟨W.heap.size, 1, none⟩ (.int .u64 0)) := by
            refine ⟨T3.out.below.setCell (Nat.le_refl _) _, (setCell_at T3.out.fst 1 _).trans rfl, ?_⟩
            rw [setCell_off (by omega)]
            exact T3.out.snd
          have T6 := T5.put1 ⟨y.k, 0, y.s, y.o⟩
          obtain ⟨x0, x1, x2, x3, y0, y1, y2, y3, _, _⟩ := T6.facts
          clear kz T5
          go_wp2_with fail
          rw [put4_mk]
          exact bodyPost_ret (v := keyR (some ⟨y.k, 0, y.s, y.o⟩)) (by simp [results, Try.results60, go_sem, keyR, Val.out, y0, y1, y2, y3]) rfl ⟨by rw [HK.out], T6.below⟩
        · have ez : (((a : Nat) : Int) == 9223372036854775808) = false := by rw [beq_eq_false_iff_ne]; omega
          have HK : Hid (keyV x = some y) := by
            show keyV x = some y
            unfold keyV keyY
            rw [← Hy.out, if_neg (fun c => c.elim H0.out (fun c => H4.out (by rw [← HD.out]; exact c.2)))]
            split
            · rename_i c
              have hz := HZ.out.1 (by rw [← HD.out]; exact c.2)
              obtain rfl : a = 0 := by omega
              rw [show (0 : Int) = y.n from HA.out.symm]
            · rfl
          have T6 := T3.out.put1 y
          obtain ⟨x0, x1, x2, x3, y0, y1, y2, y3, _, _⟩ := T6.facts
          clear kz
          go_wp2_with fail
          rw [show ((a : Nat) : Int) = y.n from HA.out.symm, put4_eq]
          exact bodyPost_ret (v := keyR (some y)) (by simp [results, Try.results60, go_sem, keyR, Val.out, y0, y1, y2, y3]) rfl ⟨by rw [HK.out], T6.below⟩
    · have e3 : (y.k == 3) = false := by rw [beq_eq_false_iff_ne]; exact k3
      have HK : Hid (keyV x = some y) := by
        show keyV x = some y
        unfold keyV keyY
        rw [← Hy.out, if_neg (fun c => c.elim e0' (fun c => k3 c.1)), if_neg (fun c => k3 c.1)]
      clear k3 e0' ha
      have T3 := T2.out.put1 y
      obtain ⟨r0, r1, r2, r3, s0, s1, s2, s3, _, _⟩ := T3.facts
      go_wp2_with fail
      rw [put4_eq]
      exact bodyPost_ret (v := keyR (some y)) (by simp [results, Try.results60, go_sem, keyR, Val.out, s0, s1, s2, s3]) rfl ⟨by rw [HK.out], T3.below⟩
/-- a key's place among keys, counted from nought; none: it is not there -/
def placeL : List Val → Val → Option Nat
  | [], _ => Option.none
  | x :: r, k => if sameV x k then some 0 else (placeL r k).map (· + 1)
theorem placeL_none {l : List Val} {k : Val} : placeL l k = Option.none ↔ ∀ x ∈ l, x ≠ k := by
  induction l with
  | nil => exact ⟨(fun _ x h => by cases h), fun _ => rfl⟩
  | cons a l ih =>
    unfold placeL
    cases hs : sameV a k
    · rw [if_neg (by simp), Option.map_eq_none_iff, ih]
      have hne : a ≠ k := fun e => by rw [(sameV_iff a k).2 e] at hs; cases hs
      exact ⟨fun h x hx => by rcases List.mem_cons.1 hx with rfl | hx; exact hne; exact h x hx, fun h x hx => h x (List.mem_cons_of_mem _ hx)⟩
    · rw [if_pos rfl]
      exact ⟨(fun h => by cases h), fun h => absurd ((sameV_iff a k).1 hs) (h a (List.mem_cons_self ..))⟩
theorem placeL_some {l : List Val} {k : Val} {i : Nat} : placeL l k = some i ↔ l[i]? = some k ∧ ∀ j, j < i → l[j]? ≠ some k := by
  induction l generalizing i with
  | nil => exact ⟨(fun h => by cases h), (fun h => by cases h.1)⟩
  | cons a l ih =>
    unfold placeL
    cases hs : sameV a k
    · have hne : a ≠ k := fun e => by rw [(sameV_iff a k).2 e] at hs; cases hs
      rw [if_neg (by simp)]
      cases i with
      | zero =>
        refine ⟨fun h => ?_, fun h => absurd (Option.some.inj h.1) hne⟩
        obtain ⟨q, _, hq⟩ := Option.map_eq_some_iff.1 h
        omega
      | succ i =>
        rw [show ((placeL l k).map (· + 1) = some (i + 1)) ↔ placeL l k = some i by
          rw [Option.map_eq_some_iff]
          exact ⟨fun ⟨q, h1, h2⟩ => by rw [h1, show q = i by omega], fun h => ⟨i, h, rfl⟩⟩, ih]
        constructor
        · rintro ⟨h1, h2⟩
          refine ⟨h1, fun j hj => ?_⟩
          cases j with
          | zero => exact fun e => hne (Option.some.inj e)
          | succ j => exact h2 j (by omega)
        · rintro ⟨h1, h2⟩
          exact ⟨h1, fun j hj => h2 (j + 1) (by omega)⟩
    · obtain rfl := (sameV_iff a k).1 hs
      rw [if_pos rfl]
      constructor
      · intro h
        obtain rfl := Option.some.inj h
        exact ⟨rfl, fun j hj => absurd hj (Nat.not_lt_zero _)⟩
      · rintro ⟨h1, h2⟩
        cases i with
        | zero => rfl
        | succ i => exact absurd rfl (h2 0 (by omega))
def placeI (l : List Val) (k : Val) : Int := match placeL l k with
  | Option.none => -1
  | some i => (i : Int)
def rV (x : RObj) : Value := .agg #[.int .i64 x.1.kind, x.2.kv, x.2.vv, .int .i64 x.1.mt.k, .int .u64 x.1.mt.n, .string x.1.mt.s, .int .i64 x.1.mt.o, .int .i64 x.1.a, .int .i64 x.1.b, x.2.sv]
structure PlR (W : World) (kv : Value) (k : Val) (wr : World) : Prop where
  below : Below W.heap.size W wr
  row : wr.cell? ⟨W.heap.size, 1, none⟩ = some kv
  box : wr.heap[W.heap.size + 1]? = some (.cells #[.int .i64 k.k, .int .u64 k.n, .string k.s, .int .i64 k.o] 34 (0, 0))
theorem PlR.drewN {W : World} {kv : Value} {k : Val} {wr : World} (h : PlR W kv k wr) (n : Nat) : PlR W kv k (wr.drewN n) := ⟨Below.drewN h.below n, h.row, h.box⟩
set_option maxHeartbeats 1000000 in
theorem rplace_walk (x : RObj) (k : Val) (hl : x.1.kv.length ≤ 1048576) (W : World) (h : RowR W x.2.kv (keysOf x.1)) :
    Calls Try.prog 62 #[rV x, k.v] W (NmP W (placeI (keysOf x.1) k)) := by
  have H := Lib.hid h
  obtain ⟨ad, cap, hv, e1, e2⟩ := h.form
  rw [keysOf_len] at hv e1
  have HV := Lib.hid hv
  obtain ⟨n, Hn⟩ : ∃ n, Hid (n = x.1.kv.length) := ⟨_, Lib.hid rfl⟩
  rw [← Hn.out] at hl e1 hv
  unfold rV Val.v
  rw [hv]
  clear h hv
  go_enter Try.func62, Try.ntmps62
  go_upto_region 1 with fail
  have hP : ∀ b1, PlR W (.slice ad n cap) k ((W.alloc (.cells b1 60)).alloc (.cells #[.int .i64 k.k, .int .u64 k.n, .string k.s, .int .i64 k.o] 34)) ∨ b1[1]? ≠ some (.slice ad n cap) := by
    intro b1
    by_cases hb1 : b1[1]? = some (.slice ad n cap)
    · refine .inl ⟨((Below.refl _ _).alloc (Nat.le_refl _) _).alloc (by simp) _, ?_, ?_⟩
      · have hh : ((W.alloc (.cells b1 60)).alloc (.cells #[.int .i64 k.k, .int .u64 k.n, .string k.s, .int .i64 k.o] 34)).heap[W.heap.size]? = some (.cells b1 60 (0, 0)) := (Below.heap_alloc _ _ _ (by simp)).trans (heap_alloc_new _ _)
        rw [cell_of hh]; exact hb1
      · have hh := heap_alloc_new (W.alloc (.cells b1 60)) (.cells #[.int .i64 k.k, .int .u64 k.n, .string k.s, .int .i64 k.o] 34)
        simp only [show (W.alloc (Obj.cells b1 60)).heap.size = W.heap.size + 1 by simp] at hh
        exact hh
    · exact .inr hb1
  have hP1 := (hP #[.int .i64 x.1.kind, .slice ad n cap, x.2.vv, .int .i64 x.1.mt.k, .int .u64 x.1.mt.n, .string x.1.mt.s, .int .i64 x.1.mt.o, .int .i64 x.1.a, .int .i64 x.1.b, x.2.sv]).resolve_right (fun e => e rfl)
  clear hP
  have hP2 := Lib.hid hP1
  generalize ((W.alloc (Obj.cells #[.int .i64 x.1.kind, .slice ad n cap, x.2.vv, .int .i64 x.1.mt.k, .int .u64 x.1.mt.n, .string x.1.mt.s, .int .i64 x.1.mt.o, .int .i64 x.1.a, .int .i64 x.1.b, x.2.sv] 60)).alloc (Obj.cells #[.int .i64 k.k, .int .u64 k.n, .string k.s, .int .i64 k.o] 34)) = wo at hP2 ⊢
  clear hP1
  go_wp2_with fail
  go_loopw [5] (fun i wr => ∃ j : Nat, j ≤ n ∧ i = .int .i64 j ∧ Hid (∀ q, q < j → (keysOf x.1)[q]? ≠ some k) ∧ PlR W (.slice ad n cap) k wr) (fun i _ => n - (intOf i).toNat)
  case atStart => exact ⟨0, Nat.zero_le _, rfl, fun q hq => absurd hq (Nat.not_lt_zero _), hP2.out⟩
  case round =>
    obtain ⟨j, hj, rfl, hmiss, hP⟩ := hrel
    have HP := Lib.hid hP
    have c1 := hP.row
    obtain ⟨k0, k1, k2, k3⟩ := cells4 hP.box
    have hkl := keysOf_len x.1
    rw [← Hn.out] at hkl
    by_cases hjn : j < n
    · have hjk : j < (keysOf x.1).length := by omega
      have hne : keysOf x.1 ≠ [] := fun e => by rw [e] at hjk; exact absurd hjk (Nat.not_lt_zero _)
      have hrow := row_kept (H.out.own_ hne) (B := []) (Chg.of_below hP.below) (fun _ _ => List.not_mem_nil)
      obtain ⟨r0, r1, r2, r3⟩ := val_cells hrow hjk
      have had : ad = some ⟨vb x.2.kv, 0, none⟩ := by
        obtain ⟨ad', cap', hv', _, _, c3⟩ := row_form hrow
        have := c3 (by omega)
        rw [HV.out] at hv'
        have e := (Value.slice.injEq ..).mp hv'
        rw [e.1]; exact this
      obtain ⟨g, Hg⟩ : ∃ g, Hid (g = vb x.2.kv) := ⟨_, Lib.hid rfl⟩
      rw [← Hg.out] at r0 r1 r2 r3 had
      subst had
      obtain ⟨y, Hy⟩ : ∃ y, Hid ((keysOf x.1)[j] = y) := ⟨_, Lib.hid rfl⟩
      rw [Hy.out] at r0 r1 r2 r3
      have hat : Hid ((keysOf x.1)[j]? = some y) := by
        show _ = _
        rw [List.getElem?_eq_getElem hjk, Hy.out]
      clear hrow hkl hP hne
      cases hs : sameV y k
      · have hnx : Hid (∀ q, q < j + 1 → (keysOf x.1)[q]? ≠ some k) := by
          intro q hq e
          rcases Nat.lt_or_eq_of_le (Nat.lt_succ_iff.1 hq) with c | c
          · exact hmiss.out q c e
          · rw [c, hat.out] at e
            rw [(sameV_iff y k).2 (Option.some.inj e)] at hs; cases hs
        go_wp2_with fail
        go_quiet (fail)
        go_wp2_with fail
        go_roundw
        case rel => exact ⟨j + 1, by omega, by go_num, hnx, HP.out.drewN _⟩
        case measure => simp [intOf]; omega
      · have hfin : Hid (placeI (keysOf x.1) k = (j : Int)) := by
          show placeI (keysOf x.1) k = (j : Int)
          have : placeL (keysOf x.1) k = some j := placeL_some.2 ⟨by rw [hat.out, (sameV_iff y k).1 hs], hmiss.out⟩
          unfold placeI
          rw [this]
        go_wp2_with fail
        go_quiet (fail)
        go_wp2_with fail
        go_ret
        exact ⟨by rw [hfin.out]; rfl, Below.drewN HP.out.below _⟩
    · obtain rfl : j = n := by omega
      have hfin : Hid (placeI (keysOf x.1) k = -1) := by
        show placeI (keysOf x.1) k = -1
        have : placeL (keysOf x.1) k = Option.none := by
          rw [placeL_none]
          intro z hz e
          obtain ⟨q, hq⟩ := List.getElem?_of_mem hz
          have hql := (List.getElem?_eq_some_iff.1 hq).1
          exact hmiss.out q (by omega) (by rw [hq, e])
        unfold placeI
        rw [this]
      clear hP hkl
      go_wp2_with fail
      go_ret
      exact ⟨by rw [hfin.out]; rfl, HP.out.below⟩
end Go.Proofs.Ytlihonbmopeemaa.Hp
end
section
namespace Go.Proofs.Ytlihonbmopeemaa.Hp
open Go Go.RowKit Go.Proofs.Ytlihonbmopeemaa.HpLaw Go.Proofs.Ytlihonbmopeemaa.Ans Go.Proofs.Ytlihonbmopeemaa.Num Go.Proofs.Ytlihonbmopeemaa.DigLaw Go.Proofs.Ytlihonbmopeemaa.Fl Go.Proofs.Ytlihonbmopeemaa.Dig Go.Proofs.Ytlihonbmopeemaa.Float

/-- a row that may be appended to -/
structure GRow (e : TypeId) (size : Nat) (w : World) (v : Value) (n : Nat) (xs : List Value) : Prop where
  form : ∃ ad cap, v = .slice (some ad) n cap ∧ n ≤ cap ∧ cap ≤ 9223372036854775807
  own_ : 0 < n → w.ownsRow 0 e size v n xs
  nil : n = 0 → xs = [] ∧ ∃ b, v = .slice (some b) 0 0
def gown (v : Value) (n : Nat) : List Nat := if n = 0 then [] else own v
theorem gown_mem {v : Value} {n b : Nat} (h : b ∈ gown v n) : 0 < n ∧ b ∈ own v := by
  unfold gown at h
  split at h
  · cases h
  · rename_i c; exact ⟨by omega, h⟩
theorem gown_of {v : Value} {n b : Nat} (hn : 0 < n) (h : b ∈ own v) : b ∈ gown v n := by unfold gown; rw [if_neg (by omega)]; exact h
theorem GRow.kept {e : TypeId} {size : Nat} {w w' : World} {v : Value} {n : Nat} {xs : List Value} {B : List Nat} (h : GRow e size w v n xs) (hc : Chg B w w') (hn : ∀ b ∈ gown v n, b ∉ B) : GRow e size w' v n xs :=
  ⟨h.form, fun h0 => row_kept (h.own_ h0) hc (fun b hb => hn b (gown_of h0 hb)), h.nil⟩
theorem GRow.lt {e : TypeId} {size : Nat} {w : World} {v : Value} {n : Nat} {xs : List Value} (h : GRow e size w v n xs) : ∀ b ∈ gown v n, b < w.heap.size := by
  intro b hb
  obtain ⟨h0, hb⟩ := gown_mem hb
  exact ((h.own_ h0).lt b (Option.mem_toList.1 hb)).2
theorem ownsRow_zero {w : World} {b : Nat} {e : TypeId} {size : Nat} {v : Value} {n : Nat} {xs : List Value} (h : w.ownsRow b e size v n xs) : w.ownsRow 0 e size v n xs := by
  refine ⟨h.1, ?_⟩
  rcases h.2 with h0 | ⟨g, cap, cur, h1, _, h2⟩
  · exact .inl h0
  · exact .inr ⟨g, cap, cur, h1, Nat.zero_le _, h2⟩
section
variable {P : Program} (w : World)
/-- append onto an empty row: a row of its own, or nothing -/
theorem run_copy (t ty e : TypeId) (i : TypeInfo) (z : Value) (size bytes : Nat) (ht : P.underlying t = some (.slice e)) (hi : P.info? e = some i) (hz : i.zero = some z)
    (hsize : i.size = size) (hby : i.bytes = bytes) (hzs : z.cells.size = size) (hsz : 0 < size)
    (b : Addr) (src : Value) (n : Nat) (xs : List Value) (hf : ∃ ao cap, src = .slice ao n cap) (ho : 0 < n → w.ownsRow 0 e size src n xs) (hx : n = 0 → xs = []) (h63 : n ≤ maxLen) (hbytes : n * bytes ≤ 140737488355328) :
    ∃ v' w', (Builtin.append_ #[t, t] ty #[.slice (some b) 0 0, src]).run P w = .ok v' w' ∧ GRow e size w' v' n xs ∧ Below w.heap.size w w' ∧ ∀ x ∈ gown v' n, w.heap.size ≤ x := by
  rcases Nat.eq_zero_or_pos n with rfl | h0
  · obtain ⟨ao, cap, rfl⟩ := hf
    refine ⟨.slice (some b) 0 0, w, ?_, ⟨⟨b, 0, rfl, Nat.le_refl _, by omega⟩, (fun h => absurd h (Nat.lt_irrefl _)), fun _ => ⟨hx rfl, b, rfl⟩⟩, Below.refl _ _, fun x hx => absurd (gown_mem hx).1 (Nat.lt_irrefl _)⟩
    cases ao with
    | none => simp [Builtin.append_, run_underlying ht, sizeOf, typeInfo, hi, Builtin.lenOf, Builtin.firstCells, storeCells]
    | some a =>
      obtain ⟨bb, bo, bs⟩ := b
      have hfc := run_firstCells_some (P := P) w i.size 0 a 0 cap [] (by simp) (fun j v h => by cases h)
      simp [Builtin.append_, run_underlying ht, sizeOf, typeInfo, hi, Builtin.lenOf, hfc, storeCells]
  · have hown := ho h0
    obtain ⟨ad, cap, hs, _, _, h3⟩ := row_form hown
    rw [h3 h0] at hs
    generalize vb src = g at hs
    subst hs
    obtain ⟨v', w', hr, h2, hg⟩ := run_append_arg_grows (P := P) w t ty e i z size bytes ht hi hz hsize hby hzs hsz b 0 0 [] (by simp) (fun j u h => by cases h) _ n cap xs hown.1 (hown.cells rfl) (by omega) (by omega) (by rw [Nat.zero_add]; exact hbytes)
    rw [Nat.zero_add, List.nil_append] at h2
    have h2' := ownsRow_zero h2
    obtain ⟨ad', cap', hv', k1, k2, k3⟩ := row_form h2'
    rw [k3 h0] at hv'
    exact ⟨v', w', hr, ⟨⟨_, cap', hv', k1, k2⟩, fun _ => h2', fun h => absurd h (by omega)⟩, ⟨hg.os, hg.tape, hg.output, hg.size, fun k hk => hg.block k hk (by simp)⟩, fun x hx => (h2.lt x (Option.mem_toList.1 (gown_mem hx).2)).1⟩
/-- append of something onto such a row -/
theorem run_more (t ty e : TypeId) (i : TypeInfo) (z : Value) (size bytes : Nat) (ht : P.underlying t = some (.slice e)) (hi : P.info? e = some i) (hz : i.zero = some z)
    (hsize : i.size = size) (hby : i.bytes = bytes) (hzs : z.cells.size = size) (hsz : 0 < size)
    (v : Value) (n : Nat) (xs : List Value) (hv : GRow e size w v n xs) (a : Addr) (m c : Nat) (news : List Value) (hl : news.length = m * size) (hnews : ∀ j u, news[j]? = some u → w.cell? (a.add j) = some u) (h1 : ∀ u ∈ news, u.oneCell' = true)
    (hm : 0 < m) (h63 : n + m ≤ maxLen) (hbytes : (n + m) * bytes ≤ 140737488355328) :
    ∃ v' w', (Builtin.append_ #[t, t] ty #[v, .slice (some a) m c]).run P w = .ok v' w' ∧ w'.ownsRow 0 e size v' (n + m) (xs ++ news) ∧ Chg (gown v n) w w' ∧ ∀ x ∈ own v', x ∈ gown v n ∨ w.heap.size ≤ x := by
  rcases Nat.eq_zero_or_pos n with rfl | h0
  · obtain ⟨rfl, b, rfl⟩ := hv.nil rfl
    obtain ⟨v', w', hr, h2, hg⟩ := run_append_arg_grows (P := P) w t ty e i z size bytes ht hi hz hsize hby hzs hsz b 0 0 [] (by simp) (fun j u h => by cases h) a m c news hl hnews (by omega) h63 hbytes
    refine ⟨v', w', hr, ownsRow_zero h2, ⟨hg.os, hg.tape, hg.output, hg.size, fun k hk _ => hg.block k hk (by simp)⟩, fun x hx => .inr (h2.lt x (Option.mem_toList.1 hx)).1⟩
  · obtain ⟨v', w', hr, h2, h3, h4⟩ := run_append_foot (P := P) w t ty e i z size bytes ht hi hz hsize hby hzs hsz v n xs (hv.own_ h0) a m c news hl hnews h1 h63 hbytes
    have e : gown v n = own v := by unfold gown; rw [if_neg (by omega)]
    exact ⟨v', w', hr, h2, by rw [e]; exact h3, by rw [e]; exact h4⟩
theorem wpList_copy_row {ops : Array Oper} {rest : List Oper} {o : Oper} {a : Go.Act} {Q : Exit → Go.Act → World → Prop} (hgd : o.guard = none) (s x : Operand) (t : TypeId)
    (ho : o.op = .call { callee := .builtin .append, args := #[s, x], argTypes := #[t, t] })
    (e : TypeId) (i : TypeInfo) (z : Value) (size bytes : Nat) (ht : P.underlying t = some (.slice e)) (hi : P.info? e = some i) (hz : i.zero = some z)
    (hsize : i.size = size) (hby : i.bytes = bytes) (hzs : z.cells.size = size) (hsz : 0 < size)
    (b : Addr) (hs : a.eval s = .slice (some b) 0 0) (src : Value) (hsrc : a.eval x = src) (n : Nat) (xs : List Value) (hf : ∃ ao cap, src = .slice ao n cap) (hown : 0 < n → w.ownsRow 0 e size src n xs) (hx : n = 0 → xs = []) (h63 : n ≤ maxLen) (hbytes : n * bytes ≤ 140737488355328)
    (h : ∀ ad cap w', GRow e size w' (.slice (some ad) n cap) n xs → Below w.heap.size w w' → (∀ x ∈ gown (.slice (some ad) n cap) n, w.heap.size ≤ x) → wpList P ops Q rest (a.put o.dst (.slice (some ad) n cap)) w') : wpList P ops Q (o :: rest) a w := by
  refine wpList_plain hgd fun K hK => ?_
  obtain ⟨v', w', hr, h2, h3, h4⟩ := run_copy (P := P) w t o.type e i z size bytes ht hi hz hsize hby hzs hsz b src n xs hf hown hx h63 hbytes
  obtain ⟨ad, cap, rfl, _, _⟩ := h2.form
  unfold Oper.wp execOp
  simp only [ho, resolve, invoke, builtin, Sem.run_bind, Sem.run_pure, Result.andThen_ok, List.map_toArray, List.map_cons, List.map_nil, hs, hsrc, hr]
  exact hK _ _ (h ad cap w' h2 h3 h4)
theorem wpList_more_row {ops : Array Oper} {rest : List Oper} {o : Oper} {a : Go.Act} {Q : Exit → Go.Act → World → Prop} (hgd : o.guard = none) (s x : Operand) (t : TypeId)
    (ho : o.op = .call { callee := .builtin .append, args := #[s, x], argTypes := #[t, t] })
    (e : TypeId) (i : TypeInfo) (z : Value) (size bytes : Nat) (ht : P.underlying t = some (.slice e)) (hi : P.info? e = some i) (hz : i.zero = some z)
    (hsize : i.size = size) (hby : i.bytes = bytes) (hzs : z.cells.size = size) (hsz : 0 < size)
    (v : Value) (n : Nat) (xs : List Value) (hs : a.eval s = v) (hv : GRow e size w v n xs) (ad : Addr) (m c : Nat) (news : List Value) (hx : a.eval x = .slice (some ad) m c) (hl : news.length = m * size) (hnews : ∀ j u, news[j]? = some u → w.cell? (ad.add j) = some u) (h1 : ∀ u ∈ news, u.oneCell' = true)
    (hm : 0 < m) (h63 : n + m ≤ maxLen) (hbytes : (n + m) * bytes ≤ 140737488355328)
    (h : ∀ g cap w', w'.ownsRow 0 e size (.slice (some ⟨g, 0, none⟩) (n + m) cap) (n + m) (xs ++ news) → Chg (gown v n) w w' → (∀ x ∈ own (.slice (some ⟨g, 0, none⟩) (n + m) cap), x ∈ gown v n ∨ w.heap.size ≤ x) → wpList P ops Q rest (a.put o.dst (.slice (some ⟨g, 0, none⟩) (n + m) cap)) w') : wpList P ops Q (o :: rest) a w := by
  refine wpList_plain hgd fun K hK => ?_
  obtain ⟨v', w', hr, h2, h3, h4⟩ := run_more (P := P) w t o.type e i z size bytes ht hi hz hsize hby hzs hsz v n xs hv ad m c news hl hnews h1 hm h63 hbytes
  obtain ⟨g, cap, rfl, _, _⟩ := h2.form (by omega)
  unfold Oper.wp execOp
  simp only [ho, resolve, invoke, builtin, Sem.run_bind, Sem.run_pure, Result.andThen_ok, List.map_toArray, List.map_cons, List.map_nil, hs, hx, hr]
  exact hK _ _ (h g cap w' h2 h3 h4)
end
theorem step_copy_row {P : Program} {w : World} {ops : Array Oper} {o : Oper} {a : Go.Act} {K : Go.Act → World → Prop} {Q : Exit → Go.Act → World → Prop} {E : Prop} (hgd : o.guard = none) (s x : Operand) (t : TypeId)
    (ho : o.op = .call { callee := .builtin .append, args := #[s, x], argTypes := #[t, t] })
    (e : TypeId) (i : TypeInfo) (z : Value) (size bytes : Nat) (ht : P.underlying t = some (.slice e)) (hi : P.info? e = some i) (hz : i.zero = some z)
    (hsize : i.size = size) (hby : i.bytes = bytes) (hzs : z.cells.size = size) (hsz : 0 < size)
    (b : Addr) (hs : a.eval s = .slice (some b) 0 0) (src : Value) (hsrc : a.eval x = src) (n : Nat) (xs : List Value) (hf : ∃ ao cap, src = .slice ao n cap) (hown : 0 < n → w.ownsRow 0 e size src n xs) (hx : n = 0 → xs = []) (h63 : n ≤ maxLen) (hbytes : n * bytes ≤ 140737488355328)
    (h : ∀ ad cap w', GRow e size w' (.slice (some ad) n cap) n xs → Below w.heap.size w w' → (∀ x ∈ gown (.slice (some ad) n cap) n, w.heap.size ≤ x) → K (a.put o.dst (.slice (some ad) n cap)) w') :
    if Region.wanted o (yielded ops a.tmps) = true then Oper.wp P o a w K Q else E := by
  have hw : Region.wanted o (yielded ops a.tmps) = true := by simp [Region.wanted, hgd]
  rw [if_pos hw]
  obtain ⟨v', w', hr, h2, h3, h4⟩ := run_copy (P := P) w t o.type e i z size bytes ht hi hz hsize hby hzs hsz b src n xs hf hown hx h63 hbytes
  obtain ⟨ad, cap, rfl, _, _⟩ := h2.form
  unfold Oper.wp execOp
  simp only [ho, resolve, invoke, builtin, Sem.run_bind, Sem.run_pure, Result.andThen_ok, List.map_toArray, List.map_cons, List.map_nil, hs, hsrc, hr]
  exact h ad cap w' h2 h3 h4
theorem step_more_row {P : Program} {w : World} {ops : Array Oper} {o : Oper} {a : Go.Act} {K : Go.Act → World → Prop} {Q : Exit → Go.Act → World → Prop} {E : Prop} (hgd : o.guard = none) (s x : Operand) (t : TypeId)
    (ho : o.op = .call { callee := .builtin .append, args := #[s, x], argTypes := #[t, t] })
    (e : TypeId) (i : TypeInfo) (z : Value) (size bytes : Nat) (ht : P.underlying t = some (.slice e)) (hi : P.info? e = some i) (hz : i.zero = some z)
    (hsize : i.size = size) (hby : i.bytes = bytes) (hzs : z.cells.size = size) (hsz : 0 < size)
    (v : Value) (n : Nat) (xs : List Value) (hs : a.eval s = v) (hv : GRow e size w v n xs) (ad : Addr) (m c : Nat) (news : List Value) (hx : a.eval x = .slice (some ad) m c) (hl : news.length = m * size) (hnews : ∀ j u, news[j]? = some u → w.cell? (ad.add j) = some u) (h1 : ∀ u ∈ news, u.oneCell' = true)
    (hm : 0 < m) (h63 : n + m ≤ maxLen) (hbytes : (n + m) * bytes ≤ 140737488355328)
    (h : ∀ g cap w', w'.ownsRow 0 e size (.slice (some ⟨g, 0, none⟩) (n + m) cap) (n + m) (xs ++ news) → Chg (gown v n) w w' → (∀ x ∈ own (.slice (some ⟨g, 0, none⟩) (n + m) cap), x ∈ gown v n ∨ w.heap.size ≤ x) → K (a.put o.dst (.slice (some ⟨g, 0, none⟩) (n + m) cap)) w') :
    if Region.wanted o (yielded ops a.tmps) = true then Oper.wp P o a w K Q else E := by
  have hw : Region.wanted o (yielded ops a.tmps) = true := by simp [Region.wanted, hgd]
  rw [if_pos hw]
  obtain ⟨v', w', hr, h2, h3, h4⟩ := run_more (P := P) w t o.type e i z size bytes ht hi hz hsize hby hzs hsz v n xs hv ad m c news hl hnews h1 hm h63 hbytes
  obtain ⟨g, cap, rfl, _, _⟩ := h2.form (by omega)
  unfold Oper.wp execOp
  simp only [ho, resolve, invoke, builtin, Sem.run_bind, Sem.run_pure, Result.andThen_ok, List.map_toArray, List.map_cons, List.map_nil, hs, hx, hr]
  exact h g cap w' h2 h3 h4
/-- the same, what is appended told by the value that was laid -/
theorem step_more_agg {P : Program} {w : World} {ops : Array Oper} {o : Oper} {a : Go.Act} {K : Go.Act → World → Prop} {Q : Exit → Go.Act → World → Prop} {E : Prop} (hgd : o.guard = none) (s x : Operand) (t : TypeId)
    (ho : o.op = .call { callee := .builtin .append, args := #[s, x], argTypes := #[t, t] })
    (e : TypeId) (i : TypeInfo) (z : Value) (size bytes : Nat) (ht : P.underlying t = some (.slice e)) (hi : P.info? e = some i) (hz : i.zero = some z)
    (hsize : i.size = size) (hby : i.bytes = bytes) (hzs : z.cells.size = size) (hsz : 0 < size)
    (v : Value) (n : Nat) (xs : List Value) (hs : a.eval s = v) (hv : GRow e size w v n xs) (y : Operand) (ad : Addr) (m c : Nat) (news : List Value) (_hy : a.eval y = .agg news.toArray) (hx : a.eval x = .slice (some ad) m c) (hl : news.length = m * size) (hnews : ∀ j u, news[j]? = some u → w.cell? (ad.add j) = some u) (h1 : ∀ u ∈ news, u.oneCell' = true)
    (hm : 0 < m) (h63 : n + m ≤ maxLen) (hbytes : (n + m) * bytes ≤ 140737488355328)
    (h : ∀ g cap w', w'.ownsRow 0 e size (.slice (some ⟨g, 0, none⟩) (n + m) cap) (n + m) (xs ++ news) → Chg (gown v n) w w' → (∀ x ∈ own (.slice (some ⟨g, 0, none⟩) (n + m) cap), x ∈ gown v n ∨ w.heap.size ≤ x) → K (a.put o.dst (.slice (some ⟨g, 0, none⟩) (n + m) cap)) w') :
    if Region.wanted o (yielded ops a.tmps) = true then Oper.wp P o a w K Q else E :=
  step_more_row hgd s x t ho e i z size bytes ht hi hz hsize hby hzs hsz v n xs hs hv ad m c news hx hl hnews h1 hm h63 hbytes h
end Go.Proofs.Ytlihonbmopeemaa.Hp
end
section
namespace Go.Proofs.Ytlihonbmopeemaa.Hp
open Go Go.RowKit Go.Proofs.Ytlihonbmopeemaa.HpLaw Go.Proofs.Ytlihonbmopeemaa.Ans Go.Proofs.Ytlihonbmopeemaa.Num Go.Proofs.Ytlihonbmopeemaa.DigLaw Go.Proofs.Ytlihonbmopeemaa.Fl Go.Proofs.Ytlihonbmopeemaa.Dig Go.Proofs.Ytlihonbmopeemaa.Float

def AnsR (W : World) (d : Nat) (limit : Int) (G : List Nat) (r : Int × List Ob) (e : Ending) (w' : World) : Prop := e = .returned (.int .i64 r.1) ∧ RStep W d limit G r.2 w'
/-- the objects' row is copied, and the copy is the heap's row -/
structure RCopied (W : World) (d : Nat) (l : List RObj) (v' : Value) (limit : Int) (w5 : World) : Prop where
  at_ : RefAt w5 d l v' limit
  chg : Chg [d] W w5
  new : ∀ b ∈ own v', W.heap.size ≤ b
  free : ∀ z ∈ l, vb v' ∉ rft z
  old : d < W.heap.size
theorem RCopied.drew {W : World} {d : Nat} {l : List RObj} {v' : Value} {limit : Int} {w5 : World} (h : RCopied W d l v' limit w5) : RCopied W d l v' limit w5.drew :=
  ⟨h.at_.kept (B := []) (Chg.of_below (Below.drew (Below.refl _ _))) (fun _ _ => List.not_mem_nil), h.chg.trans (Chg.of_below (B := []) (Below.drew (Below.refl _ _))) (fun _ hb _ => absurd hb List.not_mem_nil), h.new, h.free, h.old⟩
theorem RefAt.copied {W w1 w4 : World} {d : Nat} {l : List RObj} {v v' : Value} {limit : Int} (h : RefAt W d l v limit) (hb1 : Below W.heap.size W w1) (hg : GRow 60 10 w4 v' l.length (rrow l)) (hb4 : Below w1.heap.size w1 w4)
    (hn : ∀ x ∈ gown v' l.length, w1.heap.size ≤ x) (hl : 0 < l.length) : RCopied W d l v' limit (w4.setCell ⟨d, 0, none⟩ v') := by
  have hb : Below W.heap.size W w4 := hb1.trans (hb4.mono hb1.size)
  have hs1 := hb1.size
  have hv : ∀ b ∈ own v', W.heap.size ≤ b := fun b hb' => by have := hn b (gown_of hl hb'); omega
  obtain ⟨k1, k2⟩ := h.renew hb (hg.own_ hl) hv (fun x hx => (h.objs x hx).kept (B := []) (Chg.of_below hb) (fun _ _ => List.not_mem_nil)) h.dsep
  refine ⟨k1, k2, hv, fun z hz e => ?_, h.lt d (rfoot_d ..)⟩
  have hlt := (h.objs z hz).lt _ e
  obtain ⟨ad, cap, hf, _, _, h3⟩ := row_form (hg.own_ hl)
  have : vb v' ∈ own v' := by rw [hf, h3 hl]; exact List.mem_singleton.2 rfl
  have := hv _ this
  omega
/-- an object turns in the copy -/
theorem RCopied.put {W : World} {d : Nat} {l : List RObj} {v v' : Value} {limit : Int} {w5 : World} {s : List Ob} {G : List Nat} (h : RCopied W d l v' limit w5) (hs : robs l = s) (hG : G = rfoot d v l) (hl : limit ≤ 1048576)
    {i : Nat} {x y : RObj} (hx : l[i]? = some x) {j : Nat} {vs : List Value} (hj : j + vs.length ≤ 10) (hc : rCells y = putL (rCells x) j vs) (hy : RObjAt w5 y) (hyG : ∀ b ∈ rft y, b ∈ rft x ∨ (W.heap.size ≤ b ∧ b ≠ vb v')) (hu : ((usedOf (s.set i y.1) : Nat) : Int) ≤ limit) :
    RStep W d limit G (s.set i y.1) (w5.setCells (vb v') (i * 10 + j) vs) := by
  have hil : i < l.length := (List.getElem?_eq_some_iff.1 hx).1
  have hxm : x ∈ l := List.mem_of_getElem? hx
  have hvm : vb v' ∈ own v' := by
    obtain ⟨ad, cap, hf, _, _, h3⟩ := row_form h.at_.row
    rw [hf, h3 (by omega)]; exact List.mem_singleton.2 rfl
  have hvn := h.new _ hvm
  have hyv : vb v' ∉ rft y := fun e => by
    rcases hyG _ e with c | c
    · exact h.free x hxm c
    · exact c.2 rfl
  have hdW := h.old
  have hyd : d ∉ rft y := fun e => by
    rcases hyG _ e with c | c
    · exact h.at_.dsep x hxm c
    · omega
  obtain ⟨k1, k2⟩ := h.at_.put hx hj hc h.free hy hyv hyd
  refine ⟨_, ⟨_, _, k1, by rw [robs_set, hs], rfl, hu, hl⟩, h.chg.trans k2 (fun b hb hlt => by rw [List.mem_singleton.1 hb] at hlt; omega), fun b hb => ?_⟩
  rcases rfoot_cases hb with c | c | ⟨z, hz, c⟩
  · rw [c, hG]; exact .inl (rfoot_d ..)
  · exact .inr (h.new b c)
  · rcases List.mem_or_eq_of_mem_set hz with hm | rfl
    · rw [hG]; exact .inl (rfoot_o hm c)
    · rcases hyG b c with e | e
      · rw [hG]; exact .inl (rfoot_o hxm e)
      · exact .inr e.1
/-- what is known when the copy is made -/
theorem RefAt.copy_facts {W w2 w1 w4 : World} {d : Nat} {l : List RObj} {v : Value} {limit : Int} {ad : Addr} {cap : Nat} (h : RefAt W d l v limit) (hb2 : Below W.heap.size W w2) (hb1 : Below w2.heap.size w2 w1) (hg : GRow 60 10 w4 (.slice (some ad) l.length cap) l.length (rrow l)) {m : Nat} (hm : w1.heap.size = m) (hb4 : Below m w1 w4)
    (hn : ∀ x ∈ gown (.slice (some ad) l.length cap) l.length, m ≤ x) (hl : 0 < l.length) :
    ∃ g, ad = ⟨g, 0, none⟩ ∧ RCopied W d l (.slice (some ⟨g, 0, none⟩) l.length cap) limit (w4.setCell ⟨d, 0, none⟩ (.slice (some ⟨g, 0, none⟩) l.length cap)) ∧ w4.cell? ⟨d, 0, none⟩ = some v ∧ w4.frozen? ⟨d, 0, none⟩ = false ∧ l.length ≤ cap ∧ cap ≤ 9223372036854775807 ∧ w2.heap.size ≤ g := by
  obtain ⟨ad', cap', hf, q1, q2, q3⟩ := row_form (hg.own_ hl)
  subst hm
  have q4 := q3 hl
  generalize vb (Value.slice (some ad) l.length cap) = g at q4
  rw [q4] at hf
  have e := (Value.slice.injEq ..).mp hf
  obtain rfl := Option.some.inj e.1
  obtain rfl := e.2.2
  have h12 := bthen hb2 hb1
  have hR := h.kept (B := []) (Chg.of_below (bthen h12 hb4)) (fun _ _ => List.not_mem_nil)
  refine ⟨_, rfl, h.copied h12 hg hb4 hn hl, hR.d_cells.1, hR.d_cells.2.2 0, q1, q2, ?_⟩
  have k1 : w1.heap.size ≤ g := hn g (gown_of hl (List.mem_singleton.2 rfl))
  have k2 := hb1.size
  exact Nat.le_trans k2 k1
theorem RefAt.free_at {w : World} {d : Nat} {l : List RObj} {v : Value} {limit : Int} (h : RefAt w d l v limit) (hl : 0 < l.length) : ∀ q, w.frozen? ⟨vb v, q, none⟩ = false := by
  intro q
  obtain ⟨ad, cap, hv, _, _, d3⟩ := row_form h.row
  rw [d3 hl] at hv
  have hrow := h.row
  rw [hv] at hrow
  exact hrow.frozenAt q
set_option maxHeartbeats 1000000 in
theorem rmark_walk {d : Nat} {s : List Ob} {limit : Int} {G : List Nat} (o a : Int) (W : World) (h : RefIs W d s limit G) :
    Calls Try.prog 43 #[.pointer (some ⟨d, 0, none⟩), .int .i64 o, .int .i64 a] W (AnsR W d limit G (markS s o a)) := by
  have HI := Lib.hid h
  have hi := is_walk o W h
  cases ho : obAt s o with
  | none =>
    have HG : Hid (∀ w, Below W.heap.size W w → AnsR W d limit G (markS s o a) (.returned (.int .i64 5)) w) := by
      intro w hb
      unfold AnsR markS
      rw [ho]
      exact ⟨rfl, RStep.of_below HI.out hb⟩
    rw [ho] at hi
    clear h ho
    go_enter Try.func43, Try.ntmps43
    go_wp2_with fail
    refine hi.mono ?_
    rintro e w1 ⟨rfl, b1⟩
    rw [show (Option.none : Option Ob).isSome = false from rfl]
    go_wp2_with fail
    go_ret
    exact HG.out _ b1
  | some ob =>
    rw [ho] at hi
    obtain ⟨l, v, i, x, h1, h2, h3, rfl, hx, rfl, hs, hil, hlen, hu, hlim⟩ := h.at_ ho
    have hT := fun w (hb : Below W.heap.size W w) => hasT_walk ((i : Int) + 1) w (HI.out.below hb)
    have hTv : isTab s ((i : Int) + 1) = decide (x.1.kind = 5) := by unfold isTab; rw [ho]
    rw [hTv] at hT
    have HT := Lib.hid hT
    clear hT
    by_cases hk : x.1.kind = 5
    · have HG : Hid (∀ w, Below W.heap.size W w → AnsR W d limit G (markS s ((i : Int) + 1) a) (.returned (.int .i64 5)) w) := by
        intro w hb
        unfold AnsR markS
        rw [ho]
        simp only
        rw [if_pos hk]
        exact ⟨rfl, RStep.of_below HI.out hb⟩
      rw [decide_eq_true hk] at HT
      clear h h1 h2 h3 hs ho hx hTv hk hu hlim
      go_enter Try.func43, Try.ntmps43
      go_wp2_with fail
      refine hi.mono ?_
      rintro e w1 ⟨rfl, b1⟩
      rw [show (some x.1 : Option Ob).isSome = true from rfl]
      go_wp2_with fail
      refine (HT.out w1 b1).mono ?_
      rintro e w2 ⟨rfl, b2⟩
      go_wp2_with fail
      go_ret
      exact HG.out _ (bthen b1 b2)
    · rw [decide_eq_false hk] at HT
      have hS : markS s ((i : Int) + 1) a = (0, s.set i (setA x.1 a)) := by
        unfold markS
        rw [ho]
        simp only
        rw [if_neg hk, show ((i : Int) + 1).toNat - 1 = i by omega]
      have hus : usedOf (s.set i (setA x.1 a)) = usedOf s := by
        have := usedOf_set s i x.1 (setA x.1 a) hs
        have e : (setA x.1 a).cells = x.1.cells := rfl
        omega
      have HG : Hid (∀ v' w5, RCopied W d l v' limit w5 → AnsR W d limit G (markS s ((i : Int) + 1) a) (.returned (.int .i64 0)) (w5.setCell ⟨vb v', i * 10 + 7, none⟩ (.int .i64 a))) := by
        intro v' w5 hc
        unfold AnsR
        rw [hS]
        exact ⟨rfl, hc.put (x := x) (y := (setA x.1 a, x.2)) h2 h3 hlim hx (j := 7) (vs := [.int .i64 a]) (by show 7 + 1 ≤ 10; decide) rfl ⟨(hc.at_.objs x (List.mem_of_getElem? hx)).keys, (hc.at_.objs x (List.mem_of_getElem? hx)).vals, (hc.at_.objs x (List.mem_of_getElem? hx)).slots⟩ (fun b hb => .inl hb) (by rw [hus]; exact hu)⟩
      have H1 := Lib.hid h1
      have HX := Lib.hid hx
      obtain ⟨ti, hi0, hi1, hi2, hi3⟩ := info_parts (show (Try.prog.info? 60).map (fun i => (i.zero, i.size, i.bytes)) = some (some (.agg #[.int .i64 0, .slice none 0 0, .slice none 0 0, .int .i64 0, .int .u64 0, .string ByteArray.empty, .int .i64 0, .int .i64 0, .int .i64 0, .slice none 0 0]), 10, 136) from by kernel_rfl)
      clear h h1 h2 h3 hs ho hx hTv hk hu hlim hS hus
      go_enter Try.func43, Try.ntmps43
      go_wp2_with fail
      refine hi.mono ?_
      rintro e w1 ⟨rfl, b1⟩
      rw [show (some x.1 : Option Ob).isSome = true from rfl]
      go_wp2_with fail
      refine (HT.out w1 b1).mono ?_
      rintro e w2 ⟨rfl, b2⟩
      have B2 := Lib.hid (bthen b1 b2)
      have hR := H1.out.kept (B := []) (Chg.of_below B2.out) (fun _ _ => List.not_mem_nil)
      obtain ⟨c0, c1, cf⟩ := hR.d_cells
      have hdl : d < w2.heap.size := hR.lt d (rfoot_d ..)
      have HROW : Hid (∀ O, (w2.alloc O).ownsRow 0 60 10 v l.length (rrow l)) := fun O => hR.row.alloc O
      have HF : Hid (∃ ao cap, v = .slice ao l.length cap) := by
        obtain ⟨ad, cap, hv, _⟩ := row_form hR.row
        exact ⟨ad, cap, hv⟩
      have HBL : Hid (∀ O, Below w2.heap.size w2 (w2.alloc O)) := fun O => (Below.refl _ _).alloc (Nat.le_refl _) O
      clear hi HT b1 b2 hR
      go_wp2_with (at_builtin; go_loud (refine wpList_copy_row _ rfl (.tmp 17) (.tmp 21) 47 rfl 60 ti _ 10 136 Try.underlying47 hi0 hi1 hi2 hi3 rfl (by decide) _ rfl _ rfl l.length (rrow l) HF.out (fun _ => HROW.out _) (fun e => absurd e (by omega)) (by unfold maxLen; omega) (by omega) ?_))
      intro ad cap w4 g1 g2 g3
      obtain ⟨g, rfl, hC, n0, nf, q1, q2, _⟩ := H1.out.copy_facts B2.out (HBL.out _) g1 (by simp) g2 g3 (by omega)
      have HC := Lib.hid hC
      clear g1 g2 g3 HROW HF c0 c1 cf hC
      go_upto_region 4 with fail
      have hA := HC.out.at_
      have n7 : _ = some (Value.int .i64 x.1.a) := hA.cells HX.out 7 (by decide)
      obtain ⟨m0, m1, mf⟩ := hA.d_cells
      have nf7 := hA.free_at (by omega)
      rw [show vb (.slice (some ⟨g, 0, none⟩) l.length cap) = g from rfl] at n7 nf7
      obtain ⟨w5, Hw5⟩ : ∃ w5, Hid (w5 = w4.setCell ⟨d, 0, none⟩ (.slice (some ⟨g, 0, none⟩) l.length cap)) := ⟨_, Lib.hid rfl⟩
      rw [← Hw5.out] at n7 m0 m1 mf nf7 HC ⊢
      clear hA n0 nf
      go_wp2_with fail
      go_ret
      exact HG.out _ _ HC.out
end Go.Proofs.Ytlihonbmopeemaa.Hp
end
section
namespace Go.Proofs.Ytlihonbmopeemaa.Hp
open Go Go.RowKit Go.Proofs.Ytlihonbmopeemaa.HpLaw Go.Proofs.Ytlihonbmopeemaa.Ans Go.Proofs.Ytlihonbmopeemaa.Num Go.Proofs.Ytlihonbmopeemaa.DigLaw Go.Proofs.Ytlihonbmopeemaa.Fl Go.Proofs.Ytlihonbmopeemaa.Dig Go.Proofs.Ytlihonbmopeemaa.Float
attribute [local go_sem ↓] Go.wp_at_zero Go.wp_at_succ

theorem RefAt.ob_cells {w : World} {d : Nat} {l : List RObj} {v : Value} {limit : Int} (h : RefAt w d l v limit) {i : Nat} {x : RObj} (hx : l[i]? = some x) :
    w.cell? ⟨vb v, i * 10, none⟩ = some (.int .i64 x.1.kind) ∧ w.cell? ⟨vb v, i * 10 + 1, none⟩ = some x.2.kv ∧ w.cell? ⟨vb v, i * 10 + 2, none⟩ = some x.2.vv ∧ w.cell? ⟨vb v, i * 10 + 3, none⟩ = some (.int .i64 x.1.mt.k) ∧ w.cell? ⟨vb v, i * 10 + 4, none⟩ = some (.int .u64 x.1.mt.n) ∧
    w.cell? ⟨vb v, i * 10 + 5, none⟩ = some (.string x.1.mt.s) ∧ w.cell? ⟨vb v, i * 10 + 6, none⟩ = some (.int .i64 x.1.mt.o) ∧ w.cell? ⟨vb v, i * 10 + 7, none⟩ = some (.int .i64 x.1.a) ∧ w.cell? ⟨vb v, i * 10 + 8, none⟩ = some (.int .i64 x.1.b) ∧ w.cell? ⟨vb v, i * 10 + 9, none⟩ = some x.2.sv :=
  ⟨h.cells hx 0 (by decide), h.cells hx 1 (by decide), h.cells hx 2 (by decide), h.cells hx 3 (by decide), h.cells hx 4 (by decide), h.cells hx 5 (by decide), h.cells hx 6 (by decide), h.cells hx 7 (by decide), h.cells hx 8 (by decide), h.cells hx 9 (by decide)⟩
set_option maxHeartbeats 2000000 in
set_option maxRecDepth 100000 in
theorem rsetMeta_walk {d : Nat} {s : List Ob} {limit : Int} {G : List Nat} (o : Int) (m : Val) (hm : VOK m) (W : World) (h : RefIs W d s limit G) :
    Calls Try.prog 37 #[.pointer (some ⟨d, 0, none⟩), .int .i64 o, m.v] W (AnsR W d limit G (setMetaS s o m)) := by
  have hN := fun w => rnormal_walk m hm w
  have t0 := Lib.hid (One.start W m)
  have HI := Lib.hid h
  have HT : Hid (∀ q w, Below W.heap.size W w → Calls Try.prog 21 #[.pointer (some ⟨d, 0, none⟩), .int .i64 q] w (BlP w (isTab s q))) := fun q w hb => hasT_walk q w (HI.out.below hb)
  clear h
  unfold Val.v at hN ⊢
  go_enter Try.func37, Try.ntmps37
  obtain ⟨p0, p1, p2, p3, pf⟩ := t0.out.facts
  go_wp2_with fail
  refine (hN _).mono ?_
  rintro e w1 ⟨rfl, b1⟩
  have T1 := Lib.hid (t0.out.step b1)
  obtain ⟨q0, q1, q2, q3, qf⟩ := T1.out.facts
  obtain ⟨y, Hy⟩ : ∃ y, Hid (y = normV m) := ⟨_, Lib.hid rfl⟩
  rw [← Hy.out, Val.out]
  have T2 := Lib.hid (T1.out.put y)
  obtain ⟨w2, Hw2⟩ : ∃ w2, Hid (w2 = put4 w1 W.heap.size y) := ⟨_, Lib.hid rfl⟩
  rw [← Hw2.out] at T2
  clear b1 hN p0 p1 p2 p3 pf
  go_upto_region 2 with fail
  rw [put4_eq, ← Hw2.out]
  clear q0 q1 q2 q3 qf
  go_wp2_with fail
  refine (HT.out o w2 T2.out.below).mono ?_
  rintro e w3 ⟨rfl, b3⟩
  have T3 := Lib.hid (T2.out.step b3)
  obtain ⟨q0, q1, q2, q3, qf⟩ := T3.out.facts
  clear b3
  cases ho : isTab s o with
  | false =>
    have HG : Hid (AnsR W d limit G (setMetaS s o m) (.returned (.int .i64 5)) w3) := by
      show AnsR _ _ _ _ _ _ _
      unfold AnsR setMetaS
      unfold isTab at ho
      cases hob : obAt s o with
      | none => exact ⟨rfl, RStep.of_below HI.out T3.out.below⟩
      | some ob =>
        rw [hob] at ho
        simp only at ho ⊢
        rw [if_neg (of_decide_eq_false ho)]
        exact ⟨rfl, RStep.of_below HI.out T3.out.below⟩
    clear ho
    go_wp2_with fail
    go_ret
    exact HG.out
  | true =>
    obtain ⟨ob, hob, hk5⟩ : ∃ ob, obAt s o = some ob ∧ ob.kind = 5 := by
      unfold isTab at ho
      cases hob : obAt s o with
      | none => rw [hob] at ho; cases ho
      | some ob => rw [hob] at ho; exact ⟨ob, rfl, of_decide_eq_true ho⟩
    obtain ⟨l, v, i, x, h1, h2, h3, rfl, hx, rfl, hs, hil, hlen, hu, hlim⟩ := HI.out.at_ hob
    have hS : setMetaS s ((i : Int) + 1) m = if y.k = 0 ∨ (y.k = 5 ∧ isTab s y.o = true) then (0, s.set i (setMt x.1 y)) else (1, s) := by
      unfold setMetaS
      rw [hob]
      simp only
      rw [if_pos hk5, ← Hy.out, show ((i : Int) + 1).toNat - 1 = i by omega]
    have hus : usedOf (s.set i (setMt x.1 y)) = usedOf s := by
      have := usedOf_set s i x.1 (setMt x.1 y) hs
      have e : (setMt x.1 y).cells = x.1.cells := rfl
      omega
    have HNo : Hid (¬ (y.k = 0 ∨ (y.k = 5 ∧ isTab s y.o = true)) → ∀ w, Below W.heap.size W w → AnsR W d limit G (setMetaS s ((i : Int) + 1) m) (.returned (.int .i64 1)) w) := by
      intro hn w hb
      unfold AnsR
      rw [hS, if_neg hn]
      exact ⟨rfl, RStep.of_below HI.out hb⟩
    have HYes : Hid (y.k = 0 ∨ (y.k = 5 ∧ isTab s y.o = true) → ∀ v' w5, RCopied W d l v' limit w5 → AnsR W d limit G (setMetaS s ((i : Int) + 1) m) (.returned (.int .i64 0)) (w5.setCells (vb v') (i * 10 + 3) y.cs)) := by
      intro hy v' w5 hc
      unfold AnsR
      rw [hS, if_pos hy]
      have hox := hc.at_.objs x (List.mem_of_getElem? hx)
      exact ⟨rfl, hc.put (x := x) (y := (setMt x.1 y, x.2)) h2 h3 hlim hx (j := 3) (vs := y.cs) (by show 3 + 4 ≤ 10; decide) rfl ⟨hox.keys, hox.vals, hox.slots⟩ (fun b hb => .inl hb) (by rw [hus]; exact hu)⟩
    have H1 := Lib.hid h1
    have HX := Lib.hid hx
    clear h1 h2 h3 hs hob hx hk5 hu hlim hS hus ho
    go_upto_region 4 with fail
    by_cases hy : y.k = 0 ∨ (y.k = 5 ∧ isTab s y.o = true)
    · have HA : Hid (∀ v' w5, RCopied W d l v' limit w5 → AnsR W d limit G (setMetaS s ((i : Int) + 1) m) (.returned (.int .i64 0)) (w5.setCells (vb v') (i * 10 + 3) y.cs)) := HYes.out hy
      clear HNo HYes
      go_cut [27] (fun t wx => t = .bool false ∧ One W y wx)
      case first =>
        by_cases k0 : y.k = 0
        · have e0 : (y.k != 0) = false := by rw [k0]; rfl
          clear hy k0
          go_wp2_with fail
          go_meet
          exact ⟨rfl, T3.out⟩
        · have e0 : (y.k != 0) = true := by rw [bne_iff_ne]; exact k0
          have h5 := hy.resolve_left k0
          have e5 : (y.k != 5) = false := by rw [h5.1]; rfl
          have hT := HT.out y.o w3 T3.out.below
          rw [h5.2] at hT
          clear hy k0 h5
          go_wp2_with fail
          refine hT.mono ?_
          rintro e w4 ⟨rfl, b4⟩
          have T4 := Lib.hid (T3.out.step b4)
          clear b4
          go_wp2_with fail
          go_meet
          exact ⟨rfl, T4.out⟩
      case rest =>
        clear T3 q0 q1 q2 q3 qf T2 T1 t0
        obtain ⟨rfl, hcut⟩ := hcut
        have T3 := Lib.hid hcut
        clear hcut
        obtain ⟨w2, rfl⟩ : ∃ w2, w2 = wc := ⟨_, rfl⟩
        obtain ⟨ti, hi0, hi1, hi2, hi3⟩ := info_parts (show (Try.prog.info? 60).map (fun i => (i.zero, i.size, i.bytes)) = some (some (.agg #[.int .i64 0, .slice none 0 0, .slice none 0 0, .int .i64 0, .int .u64 0, .string ByteArray.empty, .int .i64 0, .int .i64 0, .int .i64 0, .slice none 0 0]), 10, 136) from by kernel_rfl)
        have hR := H1.out.kept (B := []) (Chg.of_below T3.out.below) (fun _ _ => List.not_mem_nil)
        obtain ⟨c0, c1, cf⟩ := hR.d_cells
        have hdl : d < w2.heap.size := hR.lt d (rfoot_d ..)
        have hdW : d < W.heap.size := H1.out.lt d (rfoot_d ..)
        have HROW : Hid (∀ O, (w2.alloc O).ownsRow 0 60 10 v l.length (rrow l)) := fun O => hR.row.alloc O
        have HF : Hid (∃ ao cap, v = .slice ao l.length cap) := by
          obtain ⟨ad, cap, hv, _⟩ := row_form hR.row
          exact ⟨ad, cap, hv⟩
        have HBL : Hid (∀ O, Below w2.heap.size w2 (w2.alloc O)) := fun O => (Below.refl _ _).alloc (Nat.le_refl _) O
        clear hR
        go_wp2_with (at_builtin; go_loud (refine wpList_copy_row _ rfl (.tmp 29) (.tmp 33) 47 rfl 60 ti _ 10 136 Try.underlying47 hi0 hi1 hi2 hi3 rfl (by decide) _ rfl _ rfl l.length (rrow l) HF.out (fun _ => HROW.out _) (fun e => absurd e (by omega)) (by unfold maxLen; omega) (by omega) ?_))
        intro ad cap w4 g1 g2 g3
        obtain ⟨g, rfl, hC, n0, nf, q1, q2, hgn⟩ := H1.out.copy_facts T3.out.below (HBL.out _) g1 (by simp) g2 g3 (by omega)
        have HC := Lib.hid hC
        have b4 : Below w2.heap.size w2 w4 := by
          have := HBL.out (Obj.cells #[] 60)
          exact this.trans (g2.mono (by omega))
        have hsz3 := T3.out.size
        have T5 : (w4.setCell ⟨d, 0, none⟩ (.slice (some ⟨g, 0, none⟩) l.length cap)).heap[W.heap.size]? = some (.cells #[.int .i64 y.k, .int .u64 y.n, .string y.s, .int .i64 y.o] 34 (0, 0)) := by
          rw [setCell_off (by omega)]
          exact (T3.out.step b4).fst
        clear g1 g2 g3 HROW HF c0 c1 cf hC
        go_upto_region 7 with fail
        have hA := HC.out.at_
        have nf7 := hA.free_at (by omega)
        obtain ⟨_, _, _, n3, n4, n5, n6, _, _, _⟩ := hA.ob_cells HX.out
        obtain ⟨m0, m1, mf⟩ := hA.d_cells
        rw [show vb (.slice (some ⟨g, 0, none⟩) l.length cap) = g from rfl] at n3 n4 n5 n6 nf7
        obtain ⟨q0, q1', q2', q3⟩ := cells4 T5
        obtain ⟨w5, Hw5⟩ : ∃ w5, Hid (w5 = w4.setCell ⟨d, 0, none⟩ (.slice (some ⟨g, 0, none⟩) l.length cap)) := ⟨_, Lib.hid rfl⟩
        rw [← Hw5.out] at n3 n4 n5 n6 m0 m1 mf nf7 HC q0 q1' q2' q3 ⊢
        clear hA n0 nf T5 b4
        have hwr : IntKind.i64.wrap ((i : Nat) : Int) = (i : Int) := by rw [IntKind.wrap_i64]; omega
        have hi0' : (0 : Int) ≤ (i : Int) := Int.natCast_nonneg _
        have hi1' : (i : Int) < (l.length : Int) := by omega
        go_region_law (fail)
        all_goals
          go_wp2_with fail
          go_ret
          have hz := HA.out _ _ HC.out.drew
          rw [setCells_four] at hz
          exact hz
    · have HA := Lib.hid (HNo.out hy)
      have k0 : ¬ y.k = 0 := fun e => hy (.inl e)
      have e0 : (y.k != 0) = true := by rw [bne_iff_ne]; exact k0
      by_cases k5 : y.k = 5
      · have e5 : (y.k != 5) = false := by rw [k5]; rfl
        have hf : isTab s y.o = false := by
          cases ht : isTab s y.o
          · rfl
          · exact absurd (.inr ⟨k5, ht⟩) hy
        have hT := HT.out y.o w3 T3.out.below
        rw [hf] at hT
        clear hy k0 k5 hf HNo HYes
        go_wp2_with fail
        refine hT.mono ?_
        rintro e w4 ⟨rfl, b4⟩
        go_wp2_with fail
        go_ret
        exact HA.out _ (T3.out.step b4).below
      · have e5 : (y.k != 5) = true := by rw [bne_iff_ne]; exact k5
        clear hy k0 k5 HNo HYes
        go_wp2_with fail
        go_ret
        exact HA.out _ T3.out.below
end Go.Proofs.Ytlihonbmopeemaa.Hp
end
section
namespace Go.Proofs.Ytlihonbmopeemaa.Hp
open Go Go.RowKit Go.Proofs.Ytlihonbmopeemaa.HpLaw Go.Proofs.Ytlihonbmopeemaa.Ans Go.Proofs.Ytlihonbmopeemaa.Num Go.Proofs.Ytlihonbmopeemaa.DigLaw Go.Proofs.Ytlihonbmopeemaa.Fl Go.Proofs.Ytlihonbmopeemaa.Dig Go.Proofs.Ytlihonbmopeemaa.Float
attribute [local go_sem ↓] Go.wp_at_zero Go.wp_at_succ

def MakeR (W : World) (d : Nat) (limit : Int) (G : List Nat) (r : Int × Int × List Ob) (e : Ending) (w' : World) : Prop := e = .returned (.tuple #[.int .i64 r.1, .int .i64 r.2.1]) ∧ RStep W d limit G r.2.2 w'
theorem gown_below {e : TypeId} {size : Nat} {W w w' : World} {v : Value} {n : Nat} {xs : List Value} (hb : Below W.heap.size W w) (_hg : GRow e size w v n xs) (hn : ∀ b ∈ gown v n, W.heap.size ≤ b) (hc : Chg (gown v n) w w') : Below W.heap.size W w' :=
  hb.trans (hc.below_of hb.size hn)
/-- one more object -/
theorem RefAt.pushed {W w6 : World} {d : Nat} {l : List RObj} {v v' : Value} {limit : Int} {s : List Ob} {G : List Nat} (h : RefAt W d l v limit) (hs : robs l = s) (hG : G = rfoot d v l) (hl : limit ≤ 1048576) (hb : Below W.heap.size W w6) {x : RObj}
    (hr : w6.ownsRow 0 60 10 v' (l.length + 1) (rrow l ++ rCells x)) (hv : ∀ b ∈ own v', W.heap.size ≤ b) (hx : RObjAt w6 x) (hxn : ∀ b ∈ rft x, W.heap.size ≤ b) (hu : ((usedOf (s ++ [x.1]) : Nat) : Int) ≤ limit) :
    RStep W d limit G (s ++ [x.1]) (w6.setCell ⟨d, 0, none⟩ v') ∧ (w6.setCell ⟨d, 0, none⟩ v').cell? ⟨d, 0, none⟩ = some v' := by
  have hd : d < W.heap.size := h.lt d (rfoot_d ..)
  have hlen : (l ++ [x]).length = l.length + 1 := by simp
  obtain ⟨k1, k2⟩ := h.renew (l' := l ++ [x]) hb (by rw [hlen, rrow_snoc]; exact hr) hv (fun z hz => by
      rcases List.mem_append.1 hz with c | c
      · exact (h.objs z c).kept (B := []) (Chg.of_below hb) (fun _ _ => List.not_mem_nil)
      · rw [List.mem_singleton.1 c]; exact hx) (fun z hz => by
      rcases List.mem_append.1 hz with c | c
      · exact h.dsep z c
      · rw [List.mem_singleton.1 c]; intro e; have := hxn _ e; omega)
  refine ⟨⟨_, ⟨_, _, k1, by unfold robs; rw [List.map_append]; exact congrArg (· ++ [x.1]) hs, rfl, hu, hl⟩, k2, fun b hb' => ?_⟩, k1.d_cells.1⟩
  rcases rfoot_cases hb' with c | c | ⟨z, hz, c⟩
  · rw [c, hG]; exact .inl (rfoot_d ..)
  · exact .inr (hv b c)
  · rcases List.mem_append.1 hz with e | e
    · rw [hG]; exact .inl (rfoot_o e c)
    · rw [List.mem_singleton.1 e] at c; exact .inr (hxn b c)
def tabX : RObj := (tabOb, ⟨.slice none 0 0, .slice none 0 0, .slice none 0 0⟩)
theorem tabX_at (w : World) : RObjAt w tabX :=
  ⟨⟨⟨none, 0, rfl, Nat.zero_le _, by omega⟩, fun h => absurd rfl h⟩, ⟨⟨none, 0, rfl, Nat.zero_le _, by omega⟩, fun h => absurd rfl h⟩, ⟨⟨none, 0, rfl, Nat.zero_le _, by omega⟩, fun h => absurd rfl h⟩⟩
set_option maxHeartbeats 2000000 in
set_option maxRecDepth 100000 in
theorem rtable_walk {d : Nat} {s : List Ob} {limit : Int} {G : List Nat} (W : World) (h : RefIs W d s limit G) :
    Calls Try.prog 35 #[.pointer (some ⟨d, 0, none⟩)] W (MakeR W d limit G (tableR s limit)) := by
  have HI := Lib.hid h
  obtain ⟨l, v, h1, h2, h3, h4, h5⟩ := h
  have H1 := Lib.hid h1
  have hlen : l.length ≤ 1048576 := by
    have := usedOf_len s
    rw [← h2, robs_len] at this
    rw [h2] at this
    omega
  obtain ⟨u, Hu⟩ : ∃ u, Hid (u = usedOf s) := ⟨_, Lib.hid rfl⟩
  have hu4 := h4
  rw [← Hu.out] at hu4
  have f1 : ∀ w', Below W.heap.size W w' → w'.cell? ⟨d, 1, none⟩ = some (.int .i64 limit) := fun w' hb => (H1.out.kept (B := []) (Chg.of_below hb) (fun _ _ => List.not_mem_nil)).d_cells.2.1
  have HNo : Hid (limit < (u : Int) + 1 → ∀ w, Below W.heap.size W w → MakeR W d limit G (tableR s limit) (.returned (.tuple #[.int .i64 0, .int .i64 2])) w) := by
    intro hn w hb
    unfold MakeR tableR
    rw [← Hu.out, if_neg (by omega)]
    exact ⟨rfl, RStep.of_below HI.out hb⟩
  have HYes : Hid ((u : Int) + 1 ≤ limit → ∀ v' w6, Below W.heap.size W w6 → w6.ownsRow 0 60 10 v' (l.length + 1) (rrow l ++ rCells tabX) → (∀ b ∈ own v', W.heap.size ≤ b) → MakeR W d limit G (tableR s limit) (.returned (.tuple #[.int .i64 ((l.length : Int) + 1), .int .i64 0])) (w6.setCell ⟨d, 0, none⟩ v')) := by
    intro hy v' w6 hb hr hv
    unfold MakeR tableR
    rw [← Hu.out, if_pos hy, ← robs_len l, h2]
    refine ⟨rfl, (H1.out.pushed (x := tabX) h2 h3 h5 hb hr hv (tabX_at w6) (fun b hb' => by cases hb') ?_).1⟩
    rw [usedOf_append, usedOf_one]
    have e : (tabX.1).cells = 1 := rfl
    rw [e, ← Hu.out]
    omega
  have hwu : IntKind.i64.wrap ((u : Int) + 1) = (u : Int) + 1 := by rw [IntKind.wrap_i64]; omega
  clear h1 h2 h3 h4
  go_enter Try.func35, Try.ntmps35
  go_upto_region 1 with fail
  go_cut [11] (fun t wx => t = .bool (decide (limit < (u : Int) + 1)) ∧ Below W.heap.size W wx)
  case first =>
    go_region_held3 (fun w' => Below W.heap.size W w')
      (first | (with_reducible assumption) | (repeat (first | (with_reducible exact Below.refl _ _) | (with_reducible assumption) | (with_reducible refine Below.drew ?_) | (with_reducible refine Below.alloc ?_ ?_ _) | (with_reducible refine Below.setCell ?_ ?_ _) | omega | (simp <;> omega))))
      ((go_at_call 19; refine (rused_walk _ (HI.out.below (by (first | (with_reducible assumption) | (repeat (first | (with_reducible exact Below.refl _ _) | (with_reducible assumption) | (with_reducible refine Below.drew ?_) | (with_reducible refine Below.alloc ?_ ?_ _) | (with_reducible refine Below.setCell ?_ ?_ _) | omega | (simp <;> omega))))))).mono ?_; rintro e w6 ⟨rfl, b6⟩; rw [← Hu.out]; have s6 := bthen (w := W) (by (first | (with_reducible assumption) | (repeat (first | (with_reducible exact Below.refl _ _) | (with_reducible assumption) | (with_reducible refine Below.drew ?_) | (with_reducible refine Below.alloc ?_ ?_ _) | (with_reducible refine Below.setCell ?_ ?_ _) | omega | (simp <;> omega))))) b6; clear b6))
    all_goals
      go_wp2_with fail
      go_meet
      exact ⟨rfl, by (first | (with_reducible assumption) | (repeat (first | (with_reducible exact Below.refl _ _) | (with_reducible assumption) | (with_reducible refine Below.drew ?_) | (with_reducible refine Below.alloc ?_ ?_ _) | (with_reducible refine Below.setCell ?_ ?_ _) | omega | (simp <;> omega))))⟩
  case rest =>
    obtain ⟨rfl, hb⟩ := hcut
    obtain ⟨w2, rfl⟩ : ∃ w2, w2 = wc := ⟨_, rfl⟩
    by_cases hy : limit < (u : Int) + 1
    · have HA := Lib.hid (HNo.out hy w2 hb)
      rw [decide_eq_true hy]
      clear HNo HYes hy f1
      go_wp2_with fail
      go_ret2
      exact HA.out
    · have HA := Lib.hid (HYes.out (by omega))
      rw [decide_eq_false hy]
      clear HNo HYes hy
      obtain ⟨ti, hi0, hi1, hi2, hi3⟩ := info_parts (show (Try.prog.info? 60).map (fun i => (i.zero, i.size, i.bytes)) = some (some (.agg #[.int .i64 0, .slice none 0 0, .slice none 0 0, .int .i64 0, .int .u64 0, .string ByteArray.empty, .int .i64 0, .int .i64 0, .int .i64 0, .slice none 0 0]), 10, 136) from by kernel_rfl)
      have hR := H1.out.kept (B := []) (Chg.of_below hb) (fun _ _ => List.not_mem_nil)
      obtain ⟨c0, c1, cf⟩ := hR.d_cells
      have hdl : d < w2.heap.size := hR.lt d (rfoot_d ..)
      have HROW : Hid (∀ O, (w2.alloc O).ownsRow 0 60 10 v l.length (rrow l)) := fun O => hR.row.alloc O
      have HF : Hid (∃ ao cap, v = .slice ao l.length cap) := by
        obtain ⟨ad, cap, hv, _⟩ := row_form hR.row
        exact ⟨ad, cap, hv⟩
      have HBL : Hid (∀ O, Below w2.heap.size w2 (w2.alloc O)) := fun O => (Below.refl _ _).alloc (Nat.le_refl _) O
      have hx0 : l.length = 0 → rrow l = [] := fun e => by rw [List.eq_nil_of_length_eq_zero e]; rfl
      have HB := Lib.hid hb
      clear hR f1 hb
      go_wp2_with (at_builtin; go_loud (refine wpList_copy_row _ rfl (.tmp 13) (.tmp 17) 47 rfl 60 ti _ 10 136 Try.underlying47 hi0 hi1 hi2 hi3 rfl (by decide) _ rfl _ rfl l.length (rrow l) HF.out (fun _ => HROW.out _) hx0 (by unfold maxLen; omega) (by omega) ?_))
      intro ad cap w4 g1 g2 g3
      have b4 : Below W.heap.size W w4 := HB.out.trans ((HBL.out (Obj.cells #[] 60)).trans (g2.mono (by omega)) |>.mono HB.out.size)
      have n0 := (H1.out.kept (B := []) (Chg.of_below b4) (fun _ _ => List.not_mem_nil)).d_cells
      have G1 := Lib.hid g1
      have G3 : Hid (∀ x ∈ gown (.slice (some ad) l.length cap) l.length, W.heap.size ≤ x) := fun x hx => by have := g3 x hx; have := HB.out.size; omega
      have B4 := Lib.hid b4
      clear g1 g2 g3 HROW HF HBL c0 c1 cf hx0 b4
      have GALL : Hid (∀ O, GRow 60 10 (w4.alloc O) (.slice (some ad) l.length cap) l.length (rrow l)) := fun O => G1.out.kept (B := []) (Chg.of_below ((Below.refl _ _).alloc (Nat.le_refl _) O)) (fun _ _ => List.not_mem_nil)
      have hone : Hid (∀ u ∈ rCells tabX, u.oneCell' = true) := by
        intro u hu
        simp only [rCells, tabX, tabOb, nilV, List.mem_cons, List.not_mem_nil, or_false] at hu
        rcases hu with rfl | rfl | rfl | rfl | rfl | rfl | rfl | rfl | rfl | rfl
        all_goals rfl
      go_wp2_with (at_builtin; go_loud (refine wpList_more_row _ rfl (.tmp 18) (.tmp 20) 47 rfl 60 ti _ 10 136 Try.underlying47 hi0 hi1 hi2 hi3 rfl (by decide) _ l.length (rrow l) rfl (GALL.out _) _ 1 1 (rCells tabX) rfl rfl (World.news_of_block (cs := (rCells tabX).toArray) (t := 60) (fr := (0, 0)) (heap_alloc_new w4 _)) hone.out (by omega) (by unfold maxLen; omega) (by omega) ?_))
      intro g gcap w6 k1 k2 k3
      have b5 : Below w4.heap.size w4 (w4.alloc (Obj.cells #[.int .i64 5, .slice none 0 0, .slice none 0 0, .int .i64 0, .int .u64 0, .string ⟨#[]⟩, .int .i64 0, .int .i64 0, .int .i64 0, .slice none 0 0] 60)) := (Below.refl _ _).alloc (Nat.le_refl _) _
      have b6 : Below W.heap.size W w6 := gown_below (bthen B4.out b5) (GALL.out _) G3.out k2
      have n1 := (H1.out.kept (B := []) (Chg.of_below b6) (fun _ _ => List.not_mem_nil)).d_cells
      obtain ⟨m0, m1, mf⟩ := n1
      have HR := Lib.hid (HA.out _ _ b6 k1 (fun b hb => by
        rcases k3 b hb with c | c
        · exact G3.out b c
        · have := (bthen B4.out b5).size; exact Nat.le_trans this (by simpa using c)))
      obtain ⟨ad', cap', hf, q1, q2, q3⟩ := row_form k1
      have e3 := ((Value.slice.injEq ..).mp hf).2.2
      rw [← e3] at q1 q2
      clear k1 k2 k3 hf q3 e3 n0 HA b5 b6 m1
      go_wp2_with fail
      go_ret2
      exact HR.out
end Go.Proofs.Ytlihonbmopeemaa.Hp
end
