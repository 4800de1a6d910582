/- The keys of a table as a list of numbers. No conditions. -/
import Derived.Test.YtlihonbmopeemaaHeapB
import Derived.Deep.CutBlock
namespace Go.Proofs.Ytlihonbmopeemaa.Hp
open Go Go.RowKit Go.Proofs.Ytlihonbmopeemaa.HpLaw Go.Proofs.Ytlihonbmopeemaa.Ans Go.Proofs.Ytlihonbmopeemaa.Num Go.Proofs.Ytlihonbmopeemaa.DigLaw Go.Proofs.Ytlihonbmopeemaa.Fl Go.Proofs.Ytlihonbmopeemaa.Dig Go.Proofs.Ytlihonbmopeemaa.Float

def tabWith (kv : List (Val × Val)) : Ob := ⟨5, kv, nilV, 0, 0, []⟩
def Small (n : Int) : Prop := n.natAbs ≤ 9007199254740992
def Keys (kv : List (Val × Val)) (l : List Int) : Prop := ∀ n : Int, Small n → ((∃ v, lookKV kv (numV n) = some v) ↔ n ∈ l)
theorem look_put (kv : List (Val × Val)) (k v q : Val) : (∃ x, lookKV (putKV kv k v) q = some x) ↔ ∃ x, lookKV kv q = some x := by
  induction kv with
  | nil => exact Iff.rfl
  | cons a kv ih =>
    have e1 : putKV (a :: kv) k v = (if sameV a.1 k then (a.1, v) else a) :: putKV kv k v := rfl
    rw [e1]
    have e2 : (if sameV a.1 k then (a.1, v) else a).1 = a.1 := by split <;> rfl
    have e3 : ∀ (b : Val × Val) r, lookKV (b :: r) q = if sameV b.1 q then some b.2 else lookKV r q := fun _ _ => rfl
    rw [e3, e3, e2]
    cases sameV a.1 q
    · exact ih
    · exact ⟨fun _ => ⟨_, rfl⟩, fun _ => ⟨_, rfl⟩⟩
theorem look_erase (kv : List (Val × Val)) (k q : Val) : (∃ x, lookKV (eraseKV kv k) q = some x) ↔ (∃ x, lookKV kv q = some x) ∧ q ≠ k := by
  induction kv with
  | nil => exact ⟨(fun ⟨x, h⟩ => by cases h), (fun ⟨⟨x, h⟩, _⟩ => by cases h)⟩
  | cons a kv ih =>
    have e3 : ∀ (b : Val × Val) r, lookKV (b :: r) q = if sameV b.1 q then some b.2 else lookKV r q := fun _ _ => rfl
    cases hs : sameV a.1 k
    · have e1 : eraseKV (a :: kv) k = a :: eraseKV kv k := by unfold eraseKV; rw [List.filter_cons, hs]; rfl
      rw [e1, e3, e3]
      cases hq : sameV a.1 q
      · exact ih
      · have haq := (sameV_iff _ _).1 hq
        refine ⟨fun _ => ⟨⟨_, rfl⟩, fun e => ?_⟩, fun _ => ⟨_, rfl⟩⟩
        rw [haq, e, sameV_self] at hs; cases hs
    · have e1 : eraseKV (a :: kv) k = eraseKV kv k := by unfold eraseKV; rw [List.filter_cons, hs]; rfl
      have hak := (sameV_iff _ _).1 hs
      rw [e1, e3]
      cases hq : sameV a.1 q
      · exact ih
      · have haq := (sameV_iff _ _).1 hq
        refine ⟨fun h => ?_, fun h => absurd (haq.symm.trans hak) h.2⟩
        obtain ⟨x, hx⟩ := h
        exact absurd rfl (by
          have := (ih.1 ⟨x, hx⟩).2
          rw [← haq, hak] at this; exact this)
theorem look_add (kv : List (Val × Val)) (k v q : Val) : (∃ x, lookKV (kv ++ [(k, v)]) q = some x) ↔ (∃ x, lookKV kv q = some x) ∨ q = k := by
  induction kv with
  | nil =>
    have e : lookKV [(k, v)] q = if sameV k q then some v else none := rfl
    rw [List.nil_append, e]
    cases hs : sameV k q
    · refine ⟨(fun ⟨x, h⟩ => by cases h), fun h => ?_⟩
      rcases h with ⟨x, h⟩ | h
      · cases h
      · rw [h, sameV_self] at hs; cases hs
    · exact ⟨fun _ => .inr ((sameV_iff _ _).1 hs).symm, fun _ => ⟨_, rfl⟩⟩
  | cons a kv ih =>
    have e3 : ∀ (b : Val × Val) r, lookKV (b :: r) q = if sameV b.1 q then some b.2 else lookKV r q := fun _ _ => rfl
    rw [List.cons_append, e3, e3]
    cases sameV a.1 q
    · exact ih
    · exact ⟨fun _ => .inl ⟨_, rfl⟩, fun _ => ⟨_, rfl⟩⟩
theorem set_tab (kv : List (Val × Val)) (limit : Int) (n : Int) (hn : Small n) (v : Val) : setS [tabWith kv] limit 1 (numV n) v =
    (if (normV v).k = 0 then (0, [tabWith (eraseKV kv (numV n))]) else
      match lookKV kv (numV n) with
      | some _ => (0, [tabWith (putKV kv (numV n) (normV v))])
      | Option.none => if ((usedOf [tabWith kv] : Nat) : Int) + 1 ≤ limit then (0, [tabWith (kv ++ [(numV n, normV v)])]) else (2, [tabWith kv]) : Int × List Ob) := by
  unfold setS
  rw [show obAt [tabWith kv] 1 = some (tabWith kv) from rfl, numV_keyV hn]
  simp only
  rw [if_pos (show (tabWith kv).kind = 5 from rfl)]
  rfl
theorem set_add (kv : List (Val × Val)) (n : Int) (hn : Small n) (hl : kv.length ≤ 1000) {l : List Int} (h : Keys kv l) : ∃ kv', setS [tabWith kv] 2000 1 (numV n) (numV 1) = (0, [tabWith kv']) ∧ kv'.length ≤ kv.length + 1 ∧ Keys kv' (l ++ [n]) := by
  rw [set_tab _ _ _ hn, numV_norm, if_neg (show ¬ (numV 1).k = 0 by show ¬ (3 : Int) = 0; omega)]
  cases hk : lookKV kv (numV n) with
  | some x =>
    refine ⟨_, rfl, by unfold putKV; rw [List.length_map]; omega, fun q hq => ?_⟩
    rw [look_put, h q hq, List.mem_append, List.mem_singleton]
    have hnl : n ∈ l := (h n hn).1 ⟨x, hk⟩
    exact ⟨fun c => .inl c, fun c => c.elim id (fun c => c ▸ hnl)⟩
  | none =>
    simp only
    rw [if_pos (by have : usedOf [tabWith kv] = 1 + kv.length + 0 := rfl; omega)]
    refine ⟨_, rfl, by rw [List.length_append, List.length_singleton]; exact Nat.le_refl _, fun q hq => ?_⟩
    rw [look_add, h q hq, List.mem_append, List.mem_singleton]
    exact ⟨fun c => c.elim .inl (fun c => .inr (numV_inj hq hn c)), fun c => c.elim .inl (fun c => .inr (by rw [c]))⟩
theorem set_del (kv : List (Val × Val)) (n : Int) (hn : Small n) {l : List Int} (h : Keys kv l) : setS [tabWith kv] 2000 1 (numV n) nilV = (0, [tabWith (eraseKV kv (numV n))]) ∧ (eraseKV kv (numV n)).length ≤ kv.length ∧ Keys (eraseKV kv (numV n)) (l.filter fun q => decide (q ≠ n)) := by
  refine ⟨?_, List.length_filter_le _ _, fun q hq => ?_⟩
  · rw [set_tab _ _ _ hn, if_pos (show (normV nilV).k = 0 from rfl)]
  · rw [look_erase, h q hq, List.mem_filter, decide_eq_true_eq]
    exact ⟨fun c => ⟨c.1, fun e => c.2 (by rw [e])⟩, fun c => ⟨c.1, fun e => c.2 (numV_inj hq hn e)⟩⟩
theorem size_of {kv : List (Val × Val)} {l : List Int} (h : Keys kv l) {m n : Nat} (hm : SizeIs [tabWith kv] 1 m) (hn : ∀ j : Nat, j < n → ((j : Int) + 1) ∈ l) (hn1 : ((n : Int) + 1) ∉ l) (hs : n ≤ 1000) : m = n := by
  unfold SizeIs at hm
  rw [show obAt [tabWith kv] 1 = some (tabWith kv) from rfl] at hm
  obtain ⟨h1, h2, h3⟩ := hm
  have key : ∀ j : Nat, j ≤ 33554432 → ((∃ v, lookKV kv (numKey (j + 1)) = some v) ↔ ((j : Int) + 1) ∈ l) := by
    intro j hj
    have := h ((j : Int) + 1) (by unfold Small; omega)
    exact this
  rcases Nat.lt_trichotomy m n with c | c | c
  · have h4 := (key m (by omega)).2 (hn m c)
    obtain ⟨v, hv⟩ := h4
    have h2' : lookKV kv (numKey (m + 1)) = none := h2
    rw [h2'] at hv; cases hv
  · exact c
  · exact absurd ((key n (by omega)).1 (h1 n c)) hn1
theorem count_le : ∀ (n : Nat) (l : List Int), (∀ j : Nat, j < n → ((j : Int) + 1) ∈ l) → n ≤ l.length
  | 0, _, _ => Nat.zero_le _
  | n + 1, l, h => by
    have h1 := h n (Nat.lt_succ_self _)
    have h2 := count_le n (l.erase ((n : Int) + 1)) (fun j hj => (List.mem_erase_of_ne (by omega)).2 (h j (by omega)))
    rw [List.length_erase_of_mem h1] at h2
    have := List.length_pos_of_mem h1
    omega
/-- a row of whole numbers -/
def ints (l : List Int) : List Value := l.map fun n => .int .i64 n
theorem in_walk (v : Value) (l : List Int) (x : Int) (hl : l.length ≤ 1000) (W : World) (h : W.ownsRow 0 3 1 v l.length (ints l)) :
    Calls Try.prog 11 #[v, .int .i64 x] W fun e w' => e = .returned (.bool (decide (x ∈ l))) ∧ W = w' := by
  obtain ⟨ad, cap, hv, c1, c2, c3⟩ := row_form h
  have hcell : ∀ (k : Nat) (hk : k < l.length), W.cell? ⟨vb v, k, none⟩ = some (.int .i64 l[k]) := by
    intro k hk
    have h' := h
    rw [hv, c3 (by omega)] at h'
    refine row_cell h' ?_
    unfold ints
    rw [List.getElem?_map, List.getElem?_eq_getElem hk]; rfl
  have Hcell := Lib.hid hcell
  have Hc3 := Lib.hid c3
  rw [hv]
  obtain ⟨g, Hg⟩ : ∃ g, Hid (g = vb v) := ⟨_, Lib.hid rfl⟩
  rw [← Hg.out] at Hcell Hc3
  clear hcell c3 h hv
  go_enter Try.func11, Try.ntmps11
  go_wp2_with fail
  go_loop [5] (fun i => ∃ k : Nat, k ≤ l.length ∧ i = .int .i64 k ∧ Hid (∀ j (hj : j < l.length), j < k → l[j] ≠ x)) (fun i => l.length - (intOf i).toNat)
  case atStart => exact ⟨0, Nat.zero_le _, rfl, fun j _ hj => absurd hj (Nat.not_lt_zero _)⟩
  case round =>
    obtain ⟨k, hk, rfl, hno⟩ := hrel
    by_cases hlt : k < l.length
    · have q := Hcell.out k hlt
      have hsome := Hc3.out (by omega)
      subst hsome
      obtain ⟨m, Hm⟩ : ∃ m, Hid (l[k] = m) := ⟨_, Lib.hid rfl⟩
      rw [Hm.out] at q
      by_cases hx : m = x
      · have hmem : Hid (decide (x ∈ l) = true) := by
          show decide (x ∈ l) = true
          rw [decide_eq_true_eq, ← hx, ← Hm.out]
          exact List.getElem_mem hlt
        subst hx
        go_wp2_with fail
        go_ret
        rw [hmem.out]
        exact ⟨rfl, rfl⟩
      · have e1 : (m == x) = false := by rw [beq_eq_false_iff_ne]; exact hx
        have Hx := Lib.hid hx
        clear hx
        go_wp2_with fail
        go_round
        case rel => exact ⟨k + 1, by omega, by go_num, fun j hj hjk => by
          rcases Nat.lt_or_eq_of_le (Nat.lt_succ_iff.1 hjk) with c | c
          · exact hno.out j hj c
          · subst c; rw [Hm.out]; exact Hx.out⟩
        case measure => simp [intOf]; omega
    · obtain rfl : k = l.length := by omega
      have hmem : Hid (decide (x ∈ l) = false) := by
        show decide (x ∈ l) = false
        rw [decide_eq_false_iff_not]
        intro hx
        obtain ⟨j, hj, e⟩ := List.getElem_of_mem hx
        exact hno.out j hj hj e
      go_wp2_with fail
      go_ret
      rw [hmem.out]
      exact ⟨rfl, rfl⟩
end Go.Proofs.Ytlihonbmopeemaa.Hp

/- The walk of HeapSizes. No conditions. -/
namespace Go.Proofs.Ytlihonbmopeemaa.Hp
open Go Go.RowKit Go.Proofs.Ytlihonbmopeemaa.HpLaw Go.Proofs.Ytlihonbmopeemaa.Ans Go.Proofs.Ytlihonbmopeemaa.Num Go.Proofs.Ytlihonbmopeemaa.DigLaw Go.Proofs.Ytlihonbmopeemaa.Fl Go.Proofs.Ytlihonbmopeemaa.Dig Go.Proofs.Ytlihonbmopeemaa.Float

/-- an argument's row of small whole numbers -/
structure Reads16 (W : World) (a : Option Addr) (len cap : Nat) (z : List Int) : Prop where
  le : len ≤ cap
  most : cap ≤ 9223372036854775807
  cell : ∀ i : Nat, i < len → ∃ x, a = some x ∧ W.cell? (x.add i) = some (.int .i16 (z.getD i 0)) ∧ -32768 ≤ z.getD i 0 ∧ z.getD i 0 ≤ 32767
structure SzR (W : World) (hp : Nat) (hasV : Value) (l : List Int) (n : Nat) (wr : World) : Prop where
  ex : ∃ kv F, HeapIs wr hp [tabWith kv] 2000 F ∧ (∀ b ∈ F, W.heap.size ≤ b ∧ b ∉ own hasV) ∧ Keys kv l ∧ kv.length ≤ n
  below : Below W.heap.size W wr
  row : wr.ownsRow 0 3 1 hasV l.length (ints l)
  new : ∀ b ∈ own hasV, W.heap.size ≤ b
theorem append_ints (l : List Int) (n : Int) : ints l ++ [.int .i64 n] = ints (l ++ [n]) := by unfold ints; rw [List.map_append]; rfl
/-- a number behind the others -/
theorem SzR.add {W : World} {hp : Nat} {hasV v' : Value} {l' : List Int} {m : Nat} {wr w4 : World} {kv : List (Val × Val)} {F : List Nat} (hh : HeapIs wr hp [tabWith kv] 2000 F) (hF : ∀ b ∈ F, W.heap.size ≤ b ∧ b ∉ own hasV) (hk : Keys kv l') (hl : kv.length ≤ m)
    (hb : Below W.heap.size W wr) (hnew : ∀ b ∈ own hasV, W.heap.size ≤ b) (hr : w4.ownsRow 0 3 1 v' l'.length (ints l')) (hc : Chg (own hasV) wr w4) (hv : ∀ b ∈ own v', b ∈ own hasV ∨ wr.heap.size ≤ b) : SzR W hp v' l' m w4 := by
  have hsz := hb.size
  have hlt := hh.lt
  refine ⟨⟨kv, F, hh.kept hc (fun b hb' => (hF b hb').2), fun b hb' => ⟨(hF b hb').1, fun e => ?_⟩, hk, hl⟩, hb.trans (hc.below_of hsz hnew), hr, fun b hb' => ?_⟩
  · rcases hv b e with c | c
    · exact (hF b hb').2 c
    · have := hlt b hb'; omega
  · rcases hv b hb' with c | c
    · exact hnew b c
    · omega
/-- while what stays is gathered -/
structure InR (W : World) (hp : Nat) (hasV lV : Value) (l l2 : List Int) (kv : List (Val × Val)) (wr : World) : Prop where
  ex : ∃ F, HeapIs wr hp [tabWith kv] 2000 F ∧ ∀ b ∈ F, W.heap.size ≤ b ∧ b ∉ own hasV ∧ b ∉ own lV
  below : Below W.heap.size W wr
  rowH : wr.ownsRow 0 3 1 hasV l.length (ints l)
  rowL : wr.ownsRow 0 3 1 lV l2.length (ints l2)
  new : ∀ b ∈ own lV, W.heap.size ≤ b ∧ b ∉ own hasV
theorem InR.step {W : World} {hp : Nat} {hasV lV : Value} {l l2 : List Int} {kv : List (Val × Val)} {wr w' : World} (h : InR W hp hasV lV l l2 kv wr) (hb : Below wr.heap.size wr w') : InR W hp hasV lV l l2 kv w' := by
  obtain ⟨F, h1, h2⟩ := h.ex
  exact ⟨⟨F, h1.kept (B := []) (Chg.of_below hb) (fun _ _ => List.not_mem_nil), h2⟩, h.below.trans (hb.mono h.below.size), row_kept h.rowH (B := []) (Chg.of_below hb) (fun _ _ => List.not_mem_nil), row_kept h.rowL (B := []) (Chg.of_below hb) (fun _ _ => List.not_mem_nil), h.new⟩
theorem InR.add {W : World} {hp : Nat} {hasV lV v' : Value} {l l2 l3 : List Int} {kv : List (Val × Val)} {wr w4 : World} (h : InR W hp hasV lV l l2 kv wr) (hr : w4.ownsRow 0 3 1 v' l3.length (ints l3)) (hc : Chg (own lV) wr w4) (hv : ∀ b ∈ own v', b ∈ own lV ∨ wr.heap.size ≤ b) :
    InR W hp hasV v' l l3 kv w4 := by
  obtain ⟨F, h1, h2⟩ := h.ex
  have hsz := h.below.size
  have hlt := h1.lt
  refine ⟨⟨F, h1.kept hc (fun b hb => (h2 b hb).2.2), fun b hb => ⟨(h2 b hb).1, (h2 b hb).2.1, fun e => ?_⟩⟩, h.below.trans (hc.below_of hsz (fun b hb => (h.new b hb).1)), row_kept h.rowH hc (fun b hb e => (h.new b e).2 hb), hr, fun b hb => ?_⟩
  · rcases hv b e with c | c
    · exact (h2 b hb).2.2 c
    · have := hlt b hb; omega
  · rcases hv b hb with c | c
    · exact h.new b c
    · refine ⟨by omega, fun e => ?_⟩
      have := (h.rowH.lt b (Option.mem_toList.1 e)).2
      omega
theorem InR.out {W : World} {hp : Nat} {hasV lV : Value} {l l2 : List Int} {kv : List (Val × Val)} {wr : World} (h : InR W hp hasV lV l l2 kv wr) (hk : Keys kv l2) {m : Nat} (hl : kv.length ≤ m) : SzR W hp lV l2 m wr := by
  obtain ⟨F, h1, h2⟩ := h.ex
  exact ⟨⟨kv, F, h1, fun b hb => ⟨(h2 b hb).1, (h2 b hb).2.2⟩, hk, hl⟩, h.below, h.rowL, fun b hb => (h.new b hb).1⟩
def BoolP (W : World) (e : Ending) (w' : World) : Prop := e = .returned (.bool true) ∧ Below W.heap.size W w'
set_option maxHeartbeats 1000000 in
set_option maxRecDepth 100000 in
theorem sizes_walk (a0 a1 : Option Addr) (len0 len1 cap0 cap1 : Nat) (z0 z1 : List Int) (W : World) (h0 : Reads16 W a0 len0 cap0 z0) (h1 : Reads16 W a1 len1 cap1 z1) :
    Calls Try.prog 3 #[.slice a0 len0 cap0, .slice a1 len1 cap1] W (BoolP W) := by
  have H0 := Lib.hid h0
  have H1 := Lib.hid h1
  have hm0 := h0.most
  have hl0 := h0.le
  have hm1 := h1.most
  have hl1 := h1.le
  have F1 : Hid (tableR [] 2000 = (1, 0, [tabWith []])) := rfl
  clear h0 h1
  go_enter Try.func3, Try.ntmps3
  go_wp2_with fail
  refine (new_yes 2000 (by decide) (by decide) W).mono ?_
  rintro e w1 ⟨rfl, k1, b1⟩
  have K1 := Lib.hid (heap_new (by decide) (by decide) k1)
  have hb1 : ∀ b ∈ [W.heap.size], W.heap.size ≤ b := fun b hb => by rw [List.mem_singleton.1 hb]; exact Nat.le_refl _
  have HB1 := Lib.hid hb1
  clear k1 hb1
  go_wp2_with fail
  refine (table_walk w1 K1.out).mono ?_
  rintro e w2 ⟨rfl, k2⟩
  rw [F1.out] at k2 ⊢
  obtain ⟨F', k2, b2, hF2⟩ := k2.next b1.size HB1.out
  have B2 := b1.trans b2
  obtain ⟨hp, Hp⟩ : ∃ hp, Hid (hp = W.heap.size) := ⟨_, Lib.hid rfl⟩
  rw [← Hp.out] at k2 ⊢
  have hstart : SzR W hp (.slice (some ⟨w2.heap.size, 0, none⟩) 0 0) [] 0 (w2.alloc (Obj.cells #[] 3)) := by
    have hbl : Below w2.heap.size w2 (w2.alloc (Obj.cells #[] 3)) := (Below.refl _ _).alloc (Nat.le_refl _) _
    refine ⟨⟨[], F', k2.kept (B := []) (Chg.of_below hbl) (fun _ _ => List.not_mem_nil), fun b hb => ⟨hF2 b hb, fun e => ?_⟩, fun n _ => ⟨(fun ⟨v, h⟩ => by cases h), (fun h => by cases h)⟩, Nat.le_refl _⟩, B2.trans (hbl.mono B2.size), World.ownsRow_made w2 #[] 0 (Nat.zero_le _) (Nat.zero_le _) rfl, fun b hb => ?_⟩
    · have := k2.lt b hb
      have e' : b = w2.heap.size := List.mem_singleton.1 e
      omega
    · rw [List.mem_singleton.1 hb]; exact B2.size
  have HS := Lib.hid hstart
  clear hstart k2 hF2 b1 b2 B2 K1 HB1 F1
  go_upto_block 0 with fail
  go_cut [9] (fun has wx => ∃ l, l.length ≤ 300 ∧ SzR W hp has l 300 wx)
  case first =>
    go_wp2_with fail
    go_loopw [9, 10] (fun has i wr => ∃ (k : Nat) (l : List Int), k ≤ 300 ∧ k ≤ len0 ∧ i = .int .i64 k ∧ l.length ≤ k ∧ SzR W hp has l k wr) (fun _ i _ => len0 - (intOf i).toNat)
    case atStart => exact ⟨0, [], by omega, by omega, rfl, Nat.le_refl _, HS.out⟩
    case round =>
      obtain ⟨k, l, hk3, hkl, rfl, hll, hR⟩ := hrel
      clear HS
      have HR := Lib.hid hR
      by_cases hlt : k < len0 ∧ k < 300
      · obtain ⟨ha, hb⟩ := hlt
        obtain ⟨x, rfl, hx, hlo, hhi⟩ := H0.out.cell k ha
        obtain ⟨z, Hz⟩ : ∃ z, Hid (z = z0.getD k 0) := ⟨_, Lib.hid rfl⟩
        rw [← Hz.out] at hx hlo hhi
        have hxb : (x.add k).block < W.heap.size := World.block_lt_of_cell? W _ hx
        have hxr : wr.cell? (x.add k) = some (.int .i16 z) := by rw [hR.below.cell (p := x.add k) hxb]; exact hx
        go_upto_region 9 with fail
        go_wp2_with fail
        obtain ⟨kv, F, hh, hF, hK, hkl⟩ := hR.ex
        refine (Number_any z (by omega) (by omega) wr).mono ?_
        rintro e w3 ⟨rfl, b3⟩
        have H3 := Lib.hid (hh.kept (B := []) (Chg.of_below b3) (fun _ _ => List.not_mem_nil))
        go_wp2_with fail
        refine (Number_any 1 (by decide) (by decide) w3).mono ?_
        rintro e w4 ⟨rfl, b4⟩
        have H4 := Lib.hid (H3.out.kept (B := []) (Chg.of_below b4) (fun _ _ => List.not_mem_nil))
        go_wp2_with fail
        refine (set_walk 1 (numV z) (numV 1) (numV_ok z) (numV_ok 1) w4 H4.out).mono ?_
        rintro e w5 ⟨rfl, h5⟩
        obtain ⟨kv', e1, e2, e3⟩ := set_add kv z (by unfold Small; omega) (by omega) hK
        rw [e1] at h5 ⊢
        have b34 : Below wr.heap.size wr w4 := b3.trans (b4.mono b3.size)
        obtain ⟨F5, h5, c5, hF5⟩ := h5
        have c5' : Chg F wr w5 := (Chg.of_below (B := F) b34).trans c5 (fun b hb _ => hb)
        have hF5' : ∀ b ∈ F5, W.heap.size ≤ b ∧ b ∉ own u9 := by
          intro b hb
          rcases hF5 b hb with c | c
          · exact hF b c
          · have hs1 := b34.size
            have hs2 := hR.below.size
            refine ⟨by omega, fun e => ?_⟩
            have := (hR.row.lt b (Option.mem_toList.1 e)).2
            omega
        have hbw5 : Below W.heap.size W w5 := hR.below.trans (c5'.below_of hR.below.size (fun b hb => (hF b hb).1))
        have hrow5 : w5.ownsRow 0 3 1 u9 l.length (ints l) := row_kept hR.row c5' (fun b hb e => (hF b e).2 hb)
        have hxr5 : w5.cell? (x.add k) = some (.int .i16 z) := by rw [hbw5.cell (p := x.add k) hxb]; exact hx
        have H5 := Lib.hid h5
        have HF5 := Lib.hid hF5'
        have HB5 := Lib.hid hbw5
        have HROW5 := Lib.hid hrow5
        have E3 := Lib.hid e3
        obtain ⟨had, hcap, hhas, d1, d2, d3⟩ := row_form hrow5
        have Hhas := Lib.hid hhas
        have hrowA : ∀ O, (w5.alloc O).ownsRow 0 3 1 u9 l.length (ints l) := fun O => hrow5.alloc O
        have HROWA := Lib.hid hrowA
        obtain ⟨ti, hi0, hi1, hi2, hi3⟩ := info_parts (show (Try.prog.info? 3).map (fun i => (i.zero, i.size, i.bytes)) = some (some (.int .i64 0), 1, 8) from by kernel_rfl)
        clear hR e1 h5 hF5' hbw5 hrow5 hrowA e3 hK hF hh b3 b4 b34 c5 hF5 c5' hxr hhas d3 d1 d2
        go_wp2_with (at_builtin; go_loud (refine wpList_append_foot _ rfl (.tmp 51) (.tmp 57) 29 rfl 3 ti (.int .i64 0) 1 8 Try.underlying29 hi0 hi1 hi2 hi3 rfl (by decide) _ _ _ rfl (HROWA.out _) _ _ _ [.int .i64 z] rfl rfl ?_ ?_ ?_ ?_ ?_))
        · intro j u hj
          cases j with
          | zero =>
            obtain rfl := Option.some.inj hj
            exact (cell_of (heap_alloc_new w5 _) 0).trans rfl
          | succ j => cases hj
        · intro u hu
          rw [List.mem_singleton] at hu
          subst hu; rfl
        · unfold maxLen; omega
        · omega
        intro v' w6 g1 g2 g3
        have g1' : w6.ownsRow 0 3 1 v' (l ++ [z]).length (ints (l ++ [z])) := by
          rw [List.length_append, ← append_ints]; exact g1
        have hbl : ∀ O, Below w5.heap.size w5 (w5.alloc O) := fun O => (Below.refl _ _).alloc (Nat.le_refl _) O
        have hA : SzR W hp v' (l ++ [z]) (k + 1) w6 := SzR.add (H5.out.kept (B := []) (Chg.of_below (hbl _)) (fun _ _ => List.not_mem_nil)) HF5.out E3.out (by omega) (HB5.out.trans ((hbl _).mono HB5.out.size)) HR.out.new g1' g2 (fun x hx => by rw [show (w5.alloc (Obj.cells #[Value.int IntKind.i64 z] 3)).heap.size = w5.heap.size + 1 by simp]; exact g3 x hx)
        have HA := Lib.hid hA
        obtain ⟨vad, vcap, hv', _, _, _⟩ := row_form g1'
        clear g1 g1' g2 g3 hA HROWA HROW5
        go_wp2_with fail
        go_roundw
        case rel => exact ⟨k + 1, l ++ [z], by omega, by omega, by go_num, by rw [List.length_append, List.length_singleton]; omega, HA.out⟩
        case measure => simp [intOf]; omega
      · have hstop : k = len0 ∨ k = 300 := by omega
        have hR3 : SzR W hp u9 l 300 wr := by
          obtain ⟨kv, F, e1, e2, e3, e4⟩ := hR.ex
          exact ⟨⟨kv, F, e1, e2, e3, by omega⟩, hR.below, hR.row, hR.new⟩
        have HR3 := Lib.hid hR3
        clear hR hR3
        by_cases hk0 : k < len0
        all_goals
          go_wp2_with fail
          go_meet
          exact ⟨l, by omega, HR3.out⟩
  case rest =>
    obtain ⟨l, hl3, hR⟩ := hcut
    clear HS
    have HS := Lib.hid hR
    clear hR
    go_upto_block 2 with fail
    go_cut [9] (fun has wx => ∃ l, l.length ≤ 300 ∧ SzR W hp has l 300 wx)
    case first =>
      go_wp2_with fail
      go_loopw [9, 11] (fun has i wr => ∃ (k : Nat) (l : List Int), k ≤ 300 ∧ k ≤ len1 ∧ i = .int .i64 k ∧ l.length ≤ 300 ∧ SzR W hp has l 300 wr) (fun _ i _ => len1 - (intOf i).toNat)
      case atStart => exact ⟨0, l, by omega, by omega, rfl, hl3, HS.out⟩
      case round =>
        clear HS hl3 l
        obtain ⟨k, l, hk3, hkl, rfl, hll, hR⟩ := hrel
        have HR := Lib.hid hR
        by_cases hlt : k < len1 ∧ k < 300
        · obtain ⟨ha, hb⟩ := hlt
          obtain ⟨x, rfl, hx, hlo, hhi⟩ := H1.out.cell k ha
          obtain ⟨z, Hz⟩ : ∃ z, Hid (z = z1.getD k 0) := ⟨_, Lib.hid rfl⟩
          rw [← Hz.out] at hx hlo hhi
          have hxb : (x.add k).block < W.heap.size := World.block_lt_of_cell? W _ hx
          have hxr : wr.cell? (x.add k) = some (.int .i16 z) := by rw [hR.below.cell (p := x.add k) hxb]; exact hx
          obtain ⟨kv, F, hh, hF, hK, hkl⟩ := hR.ex
          go_upto_region 14 with fail
          go_wp2_with fail
          refine (Number_any z (by omega) (by omega) wr).mono ?_
          rintro e w3 ⟨rfl, b3⟩
          have H3 := Lib.hid (hh.kept (B := []) (Chg.of_below b3) (fun _ _ => List.not_mem_nil))
          go_wp2_with fail
          refine (set_walk 1 (numV z) nilV (numV_ok z) ⟨⟨0, rfl, by decide⟩, by show (0 : Nat) ≤ maxLen; exact Nat.zero_le _⟩ w3 H3.out).mono ?_
          rintro e w5 ⟨rfl, h5⟩
          obtain ⟨e1, e2, e3⟩ := set_del kv z (by unfold Small; omega) hK
          rw [e1] at h5 ⊢
          obtain ⟨F5, h5, c5, hF5⟩ := h5
          have c5' : Chg F wr w5 := (Chg.of_below (B := F) b3).trans c5 (fun b hb _ => hb)
          have hF5' : ∀ b ∈ F5, W.heap.size ≤ b ∧ b ∉ own u9 := by
            intro b hb
            rcases hF5 b hb with c | c
            · exact hF b c
            · have hs1 := b3.size
              have hs2 := hR.below.size
              refine ⟨by omega, fun e => ?_⟩
              have := (hR.row.lt b (Option.mem_toList.1 e)).2
              omega
          have hbw5 : Below W.heap.size W w5 := hR.below.trans (c5'.below_of hR.below.size (fun b hb => (hF b hb).1))
          have hrow5 : w5.ownsRow 0 3 1 u9 l.length (ints l) := row_kept hR.row c5' (fun b hb e => (hF b e).2 hb)
          have hin : InR W hp u9 (.slice (some ⟨w5.heap.size, 0, none⟩) 0 0) l [] (eraseKV kv (numV z)) (w5.alloc (Obj.cells #[] 3)) := by
            have hbl : Below w5.heap.size w5 (w5.alloc (Obj.cells #[] 3)) := (Below.refl _ _).alloc (Nat.le_refl _) _
            refine ⟨⟨F5, h5.kept (B := []) (Chg.of_below hbl) (fun _ _ => List.not_mem_nil), fun b hb => ⟨(hF5' b hb).1, (hF5' b hb).2, fun e => ?_⟩⟩, hbw5.trans (hbl.mono hbw5.size), row_kept hrow5 (B := []) (Chg.of_below hbl) (fun _ _ => List.not_mem_nil), World.ownsRow_made w5 #[] 0 (Nat.zero_le _) (Nat.zero_le _) rfl, fun b hb => ?_⟩
            · have := h5.lt b hb
              have e' : b = w5.heap.size := List.mem_singleton.1 e
              omega
            · have e' : b = w5.heap.size := List.mem_singleton.1 hb
              have := hbw5.size
              refine ⟨by omega, fun e => ?_⟩
              have := (hrow5.lt b (Option.mem_toList.1 e)).2
              omega
          have HIN := Lib.hid hin
          have E3 := Lib.hid e3
          have hkl' : (eraseKV kv (numV z)).length ≤ 300 := by omega
          obtain ⟨had, hcap, hhas, d1, d2, d3⟩ := row_form hR.row
          subst hhas
          have Hd3 := Lib.hid d3
          clear hR e1 h5 hF5' hbw5 hrow5 e3 hK hF hh b3 c5 hF5 c5' hxr d3 H3 hin
          go_wp2_with fail
          obtain ⟨kv', Hkv'⟩ : ∃ kv', Hid (kv' = eraseKV kv (numV z)) := ⟨_, Lib.hid rfl⟩
          rw [← Hkv'.out] at HIN E3 hkl'
          obtain ⟨wo, Hwo⟩ : ∃ wo, Hid (wo = w5.alloc (Obj.cells #[] 3)) := ⟨_, Lib.hid rfl⟩
          rw [← Hwo.out] at HIN ⊢
          obtain ⟨v0, Hv0⟩ : ∃ v0, Hid (v0 = Value.slice (some ⟨w5.heap.size, 0, none⟩) 0 0) := ⟨_, Lib.hid rfl⟩
          rw [← Hv0.out] at HIN
          clear Hwo
          go_loopw [12, 13] (fun lV j wr => ∃ q : Nat, q ≤ l.length ∧ j = .int .i64 q ∧ InR W hp (.slice had l.length hcap) lV l ((l.take q).filter fun y => decide (y ≠ z)) kv' wr) (fun _ j _ => l.length - (intOf j).toNat)
          case atStart => exact ⟨0, Nat.zero_le _, rfl, by rw [← Hv0.out]; exact HIN.out⟩
          case round =>
            obtain ⟨q, hq, rfl, hI⟩ := hrel
            have HI := Lib.hid hI
            by_cases hql : q < l.length
            · have hhad := Hd3.out (by omega)
              have hcell : wr.cell? ⟨vb (.slice had l.length hcap), q, none⟩ = some (.int .i64 l[q]) := by
                have h' := hI.rowH
                rw [hhad] at h'
                refine row_cell h' ?_
                unfold ints
                rw [List.getElem?_map, List.getElem?_eq_getElem hql]; rfl
              obtain ⟨g, Hg⟩ : ∃ g, Hid (g = vb (.slice had l.length hcap)) := ⟨_, Lib.hid rfl⟩
              rw [← Hg.out] at hcell hhad
              subst hhad
              obtain ⟨m, Hm⟩ : ∃ m, Hid (m = l[q]) := ⟨_, Lib.hid rfl⟩
              rw [← Hm.out] at hcell
              have hxr : wr.cell? (x.add k) = some (.int .i16 z) := by rw [hI.below.cell (p := x.add k) hxb]; exact hx
              have hq0 : (0 : Int) ≤ (q : Int) := Int.natCast_nonneg _
              have hq1 : (q : Int) < (l.length : Int) := by omega
              have hk0' : (0 : Int) ≤ (k : Int) := Int.natCast_nonneg _
              have hk1' : (k : Int) < (len1 : Int) := by omega
              have htk : (l.take (q + 1)).filter (fun y => decide (y ≠ z)) = (l.take q).filter (fun y => decide (y ≠ z)) ++ [m].filter (fun y => decide (y ≠ z)) := by
                rw [List.take_succ_eq_append_getElem hql, List.filter_append, Hm.out]
              by_cases hmz : m = z
              · have hstep : Hid (∀ n, InR W hp (.slice (some ⟨g, 0, none⟩) l.length hcap) u12 l ((l.take (q + 1)).filter fun y => decide (y ≠ z)) kv' (wr.drewN n)) := by
                  intro n
                  rw [htk, List.filter_cons, if_neg (by rw [decide_eq_true_eq]; exact fun c => c hmz), List.filter_nil, List.append_nil]
                  exact HI.out.step (Below.drewN (Below.refl _ _) n)
                have e1 : (m != z) = false := by rw [hmz]; exact bne_self_eq_false z
                clear htk hmz hI
                go_wp2_with fail
                go_quiet (fail)
                go_wp2_with fail
                go_roundw
                case rel => exact ⟨q + 1, by omega, by go_num, hstep.out _⟩
                case measure => simp [intOf]; omega
              · have hstep : Hid (∀ n, InR W hp (.slice (some ⟨g, 0, none⟩) l.length hcap) u12 l ((l.take q).filter fun y => decide (y ≠ z)) kv' (wr.drewN n)) := fun n => HI.out.step (Below.drewN (Below.refl _ _) n)
                have HTK : Hid ((l.take (q + 1)).filter (fun y => decide (y ≠ z)) = (l.take q).filter (fun y => decide (y ≠ z)) ++ [m]) := by
                  show (l.take (q + 1)).filter (fun y => decide (y ≠ z)) = _
                  rw [htk, List.filter_cons, if_pos (by rw [decide_eq_true_eq]; exact hmz), List.filter_nil]
                have e1 : (m != z) = true := by rw [bne_iff_ne]; exact hmz
                clear htk hmz hI
                obtain ⟨l2, Hl2⟩ : ∃ l2, Hid (l2 = (l.take q).filter fun y => decide (y ≠ z)) := ⟨_, Lib.hid rfl⟩
                have hl2 : l2.length ≤ 300 := by
                  rw [Hl2.out]
                  have h1 := List.length_filter_le (fun y => decide (y ≠ z)) (l.take q)
                  have h2 := List.length_take_le q l
                  omega
                rw [← Hl2.out] at hstep HTK
                obtain ⟨ti, hi0, hi1, hi2, hi3⟩ := info_parts (show (Try.prog.info? 3).map (fun i => (i.zero, i.size, i.bytes)) = some (some (.int .i64 0), 1, 8) from by kernel_rfl)
                go_wp2_with fail
                go_quiet (fail)
                rename Nat => nq
                have hIn := Lib.hid (hstep.out nq)
                generalize wr.drewN nq = wq at hIn ⊢
                have HROWA : Hid (∀ O, (wq.alloc O).ownsRow 0 3 1 u12 l2.length (ints l2)) := fun O => hIn.out.rowL.alloc O
                have hcq : wq.cell? ⟨g, q, none⟩ = some (.int .i64 m) := by
                  have h' := hIn.out.rowH
                  refine row_cell h' ?_
                  unfold ints
                  rw [List.getElem?_map, List.getElem?_eq_getElem hql, Hm.out]; rfl
                go_wp2_with (at_builtin; go_loud (refine wpList_append_foot _ rfl (.tmp 96) (.tmp 101) 29 rfl 3 ti (.int .i64 0) 1 8 Try.underlying29 hi0 hi1 hi2 hi3 rfl (by decide) _ _ _ rfl (HROWA.out _) _ _ _ [.int .i64 m] rfl rfl ?_ ?_ ?_ ?_ ?_))
                · intro j u hj
                  cases j with
                  | zero =>
                    obtain rfl := Option.some.inj hj
                    exact (cell_of (heap_alloc_new wq _) 0).trans rfl
                  | succ j => cases hj
                · intro u hu
                  rw [List.mem_singleton] at hu
                  subst hu; rfl
                · unfold maxLen; omega
                · omega
                intro v' w6 g1 g2 g3
                have g1' : w6.ownsRow 0 3 1 v' (l2 ++ [m]).length (ints (l2 ++ [m])) := by
                  rw [List.length_append, ← append_ints]; exact g1
                have hbl : ∀ O, Below wq.heap.size wq (wq.alloc O) := fun O => (Below.refl _ _).alloc (Nat.le_refl _) O
                have hA := (hIn.out.step (hbl (Obj.cells #[Value.int IntKind.i64 m] 3))).add g1' g2 (fun x hx => by rw [show (wq.alloc (Obj.cells #[Value.int IntKind.i64 m] 3)).heap.size = wq.heap.size + 1 by simp]; exact g3 x hx)
                have HA := Lib.hid hA
                obtain ⟨vad, vcap, hv', _, _, _⟩ := row_form g1'
                clear g1 g1' g2 g3 hA HROWA hstep hcq
                go_wp2_with fail
                go_roundw
                case rel => exact ⟨q + 1, by omega, by go_num, by rw [HTK.out]; exact HA.out⟩
                case measure => simp [intOf]; omega
            · obtain rfl : q = l.length := by omega
              have hfin : Hid (SzR W hp u12 (l.filter fun y => decide (y ≠ z)) 300 wr) := by
                show SzR W hp u12 (l.filter fun y => decide (y ≠ z)) 300 wr
                have h' := hI
                rw [List.take_of_length_le (Nat.le_refl _)] at h'
                exact h'.out E3.out hkl'
              have hlf : (l.filter fun y => decide (y ≠ z)).length ≤ 300 := by
                have h1 := List.length_filter_le (fun y => decide (y ≠ z)) l
                omega
              clear hI
              go_wp2_with fail
              go_roundw
              case rel => exact ⟨k + 1, _, by omega, by omega, by go_num, hlf, hfin.out⟩
              case measure => simp [intOf]; omega
        · clear hR
          by_cases hk0 : k < len1
          all_goals
            go_wp2_with fail
            go_meet
            exact ⟨l, hll, HR.out⟩
    case rest =>
      clear HS hl3 l
      obtain ⟨l, hl3, hR⟩ := hcut
      obtain ⟨kv, F, hh, hF, hK, hkl⟩ := hR.ex
      have HH := Lib.hid hh
      have HK := Lib.hid hK
      have HB := Lib.hid hR.below
      have HROW := Lib.hid hR.row
      clear hR hh hF hK
      go_wp2_with fail
      go_loop [14] (fun i => ∃ n : Nat, n ≤ l.length ∧ i = .int .i64 n ∧ Hid (∀ j : Nat, j < n → ((j : Int) + 1) ∈ l)) (fun i => l.length + 1 - (intOf i).toNat)
      case atStart => exact ⟨0, Nat.zero_le _, rfl, fun j hj => absurd hj (Nat.not_lt_zero _)⟩
      case round =>
        obtain ⟨n, hn, rfl, hin⟩ := hrel
        go_wp2_with fail
        refine (in_walk _ l ((n : Int) + 1) (by omega) wc HROW.out).mono ?_
        rintro e w3 ⟨rfl, rfl⟩
        by_cases hm : ((n : Int) + 1) ∈ l
        · have hnext : Hid (∀ j : Nat, j < n + 1 → ((j : Int) + 1) ∈ l) := fun j hj => by
            rcases Nat.lt_or_eq_of_le (Nat.lt_succ_iff.1 hj) with c | c
            · exact hin.out j c
            · rw [c]; exact hm
          have hle : n + 1 ≤ l.length := count_le (n + 1) l hnext.out
          rw [decide_eq_true hm]
          clear hm
          go_wp2_with fail
          go_round
          case rel => exact ⟨n + 1, hle, by go_num, hnext⟩
          case measure => simp [intOf]; omega
        · have Hm := Lib.hid hm
          rw [decide_eq_false hm]
          clear hm
          go_wp2_with fail
          refine (size_walk 1 wc HH.out).mono ?_
          rintro e w4 ⟨m, rfl, hsz, rfl⟩
          obtain rfl := size_of HK.out hsz hin.out Hm.out (by omega)
          go_wp2_with fail
          refine (lives_any wc).mono ?_
          rintro e w5 ⟨rfl, b5⟩
          go_wp2_with fail
          go_ret
          exact ⟨rfl, HB.out.trans (b5.mono HB.out.size)⟩
theorem reads16 {W : World} {a : Option Addr} {len cap : Nat} {z : List Int} (h : (a = none ∧ len = 0 ∧ cap = 0 ∧ z = []) ∨
    ∃ x, a = some x ∧ len ≤ cap ∧ cap ≤ maxLen ∧ z.length = cap ∧ (∀ i, i < z.length → W.cell? (x.add i) = some (.int .i16 (z.getD i 0))) ∧ ∀ n ∈ z, (Lit.int .i16 n).wf = true) : Reads16 W a len cap z := by
  rcases h with ⟨rfl, rfl, rfl, rfl⟩ | ⟨x, rfl, h1, h2, h3, h4, h5⟩
  · exact ⟨Nat.le_refl _, by omega, fun i hi => absurd hi (Nat.not_lt_zero _)⟩
  · refine ⟨h1, by unfold maxLen at h2; omega, fun i hi => ⟨x, rfl, h4 i (by omega), ?_⟩⟩
    have hm : z.getD i 0 ∈ z := by
      rw [List.getD_eq_getElem?_getD, List.getElem?_eq_getElem (by omega)]
      exact List.getElem_mem _
    have hw := h5 _ hm
    simp only [Lit.wf, Bool.and_eq_true, decide_eq_true_eq] at hw
    exact hw
end Go.Proofs.Ytlihonbmopeemaa.Hp
namespace Go.Proofs.Ytlihonbmopeemaa.Ans
open Go Go.RowKit Go.Proofs.Ytlihonbmopeemaa.Hp
theorem row_HeapSizes (a0 : Option Addr) (len0 cap0 : Nat) (z0 : List Int) (a1 : Option Addr) (len1 cap1 : Nat) (z1 : List Int) (W : World)
    (w0 : (a0 = none ∧ len0 = 0 ∧ cap0 = 0 ∧ z0 = []) ∨ ∃ x, a0 = some x ∧ len0 ≤ cap0 ∧ cap0 ≤ maxLen ∧ z0.length = cap0 ∧ (∀ i, i < z0.length → W.cell? (x.add i) = some (.int .i16 (z0.getD i 0))) ∧ ∀ n ∈ z0, (Lit.int .i16 n).wf = true)
    (w1 : (a1 = none ∧ len1 = 0 ∧ cap1 = 0 ∧ z1 = []) ∨ ∃ x, a1 = some x ∧ len1 ≤ cap1 ∧ cap1 ≤ maxLen ∧ z1.length = cap1 ∧ (∀ i, i < z1.length → W.cell? (x.add i) = some (.int .i16 (z1.getD i 0))) ∧ ∀ n ∈ z1, (Lit.int .i16 n).wf = true) :
    Calls Try.prog 3 #[.slice a0 len0 cap0, .slice a1 len1 cap1] W fun e w' => e = .returned (.bool true) ∧ Below W.heap.size W w' :=
  sizes_walk a0 a1 len0 len1 cap0 cap1 z0 z1 W (reads16 w0) (reads16 w1)
end Go.Proofs.Ytlihonbmopeemaa.Ans
