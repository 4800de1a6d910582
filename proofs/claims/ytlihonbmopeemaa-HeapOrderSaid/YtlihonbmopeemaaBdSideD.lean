/- Texts on SideD, joined. No conditions but those that each theorem states. -/
import Derived.Test.YtlihonbmopeemaaBdSideC
import Derived.Test.YtlihonbmopeemaaBdHeapB
import Derived.Deep.RegionHeld3
import Derived.Test.YtlihonbmopeemaaBdHeapC
section
namespace Go.Proofs.Ytlihonbmopeemaa.Hp
open Go Go.RowKit Go.Proofs.Ytlihonbmopeemaa.HpLaw Go.Proofs.Ytlihonbmopeemaa.Ans Go.Proofs.Ytlihonbmopeemaa.Num Go.Proofs.Ytlihonbmopeemaa.DigLaw Go.Proofs.Ytlihonbmopeemaa.Fl Go.Proofs.Ytlihonbmopeemaa.Dig Go.Proofs.Ytlihonbmopeemaa.Float

theorem once_nodup : ∀ {l : List Ent}, (∀ (i j : Nat) (k : Val), (kds l)[i]? = some (some k) → (kds l)[j]? = some (some k) → i = j) → ((kvs l).map Prod.fst).Nodup
  | [], _ => List.nodup_nil
  | e :: l, h => by
    have ih : ((kvs l).map Prod.fst).Nodup := once_nodup fun i j k hi hj => by
      have := h (i + 1) (j + 1) k hi hj
      omega
    cases hd : e.dead
    · have e1 : (kvs (e :: l)).map Prod.fst = e.key :: (kvs l).map Prod.fst := by
        unfold kvs liveL
        rw [List.filter_cons, hd]
        rfl
      rw [e1, List.nodup_cons]
      refine ⟨fun hm => ?_, ih⟩
      obtain ⟨x, hx, hxk⟩ := List.mem_map.1 hm
      obtain ⟨y, hy, rfl⟩ := List.mem_map.1 hx
      obtain ⟨hy1, hy2⟩ := List.mem_filter.1 hy
      obtain ⟨j, hj, rfl⟩ := List.mem_iff_getElem.1 hy1
      have hdj : (l[j]).dead = false := by simpa using hy2
      have h0 : (kds (e :: l))[0]? = some (some e.key) := by
        show some (if e.dead then none else some e.key) = _
        rw [hd]; rfl
      have hj1 : (kds (e :: l))[j + 1]? = some (some e.key) := by
        have : (kds l)[j]? = some (some (l[j]).key) := by rw [kds_at hj, hdj]; rfl
        have e2 : (l[j]).key = e.key := hxk
        rw [e2] at this
        exact this
      have := h 0 (j + 1) e.key h0 hj1
      omega
    · have e1 : (kvs (e :: l)).map Prod.fst = (kvs l).map Prod.fst := by
        unfold kvs liveL
        rw [List.filter_cons, hd]
        rfl
      rw [e1]; exact ih
theorem HeapIs.nodup {W : World} {hp : Nat} {s : List Ob} {limit : Int} {F : List Nat} (h : HeapIs W hp s limit F) : ∀ ob ∈ s, (keysOf ob).Nodup := by
  obtain ⟨os, v, h1, h2, h3, h4, h5⟩ := h
  intro ob hob
  rw [← h2] at hob
  obtain ⟨x, hx, rfl⟩ := List.mem_map.1 hob
  obtain ⟨i, hi, rfl⟩ := List.mem_iff_getElem.1 hx
  have ho := h1.objs i _ (List.getElem?_eq_getElem hi)
  show ((tkv (os[i]).1.tab).map Prod.fst).Nodup
  cases ht : (os[i]).1.tab with
  | none => exact List.nodup_nil
  | some T => exact once_nodup (ho.tab T ht).2.once
/-- both heaps in memory, apart from one another, with a box that neither meets -/
structure Both (N : Nat) (W : World) (hp d : Nat) (s1 s2 : List Ob) (limit : Int) (bx : Nat) (o : Option Obj) (w : World) (F G : List Nat) : Prop where
  heap : HeapIs w hp s1 limit F
  ref : RefIs w d s2 limit G
  apart : ∀ b ∈ F, b ∉ G
  f : ∀ b ∈ F, N ≤ b ∧ b ≠ bx
  g : ∀ b ∈ G, N ≤ b ∧ b ≠ bx
  below : Below N W w
  box : w.heap[bx]? = o
  bxl : bx < w.heap.size
def BothIs (N : Nat) (W : World) (hp d : Nat) (s1 s2 : List Ob) (limit : Int) (bx : Nat) (o : Option Obj) (w : World) : Prop := ∃ F G, Both N W hp d s1 s2 limit bx o w F G
section
variable {N : Nat} {W : World} {hp d : Nat} {s1 s2 : List Ob} {limit : Int} {bx : Nat} {o : Option Obj} {w : World}
theorem BothIs.step (h : BothIs N W hp d s1 s2 limit bx o w) {w' : World} (hb : Below w.heap.size w w') : BothIs N W hp d s1 s2 limit bx o w' := by
  obtain ⟨F, G, h⟩ := h
  have hN : N ≤ w.heap.size := by
    have h1 := (h.g d h.ref.d_mem).1
    have h2 := h.ref.lt d h.ref.d_mem
    omega
  exact ⟨F, G, h.heap.kept (B := []) (Chg.of_below hb) (fun _ _ => List.not_mem_nil), h.ref.below hb, h.apart, h.f, h.g, h.below.trans (hb.mono hN), (hb.block _ h.bxl).trans h.box, Nat.lt_of_lt_of_le h.bxl hb.size⟩
theorem BothIs.heap_ (h : BothIs N W hp d s1 s2 limit bx o w) : ∃ F, HeapIs w hp s1 limit F ∧ ∀ s' w', HStep w hp limit F s' w' → BothIs N W hp d s' s2 limit bx o w' := by
  obtain ⟨F, G, h⟩ := h
  refine ⟨F, h.heap, fun s' w' hs => ?_⟩
  have hN : N ≤ w.heap.size := by
    have h1 := (h.g d h.ref.d_mem).1
    have h2 := h.ref.lt d h.ref.d_mem
    omega
  have hbl := h.bxl
  obtain ⟨F', h1, h2, h3⟩ := hs
  refine ⟨F', G, h1, h.ref.kept h2 (fun b hb e => h.apart b e hb), fun b hb hg => ?_, fun b hb => ?_, h.g, h.below.trans (h2.below_of hN (fun b hb => (h.f b hb).1)), (h2.block _ hbl (fun e => (h.f _ e).2 rfl)).trans h.box, Nat.lt_of_lt_of_le hbl h2.size⟩
  · rcases h3 b hb with c | c
    · exact h.apart b c hg
    · have := h.ref.lt b hg; omega
  · rcases h3 b hb with c | c
    · exact h.f b c
    · exact ⟨by omega, by omega⟩
theorem BothIs.ref_ (h : BothIs N W hp d s1 s2 limit bx o w) : ∃ G, RefIs w d s2 limit G ∧ ∀ s' w', RStep w d limit G s' w' → BothIs N W hp d s1 s' limit bx o w' := by
  obtain ⟨F, G, h⟩ := h
  refine ⟨G, h.ref, fun s' w' hs => ?_⟩
  have hd := h.ref.d_mem
  have hN : N ≤ w.heap.size := by
    have h1 := (h.g d hd).1
    have h2 := h.ref.lt d hd
    omega
  have hbl := h.bxl
  obtain ⟨G', h1, h2, h3⟩ := hs
  refine ⟨F, G', h.heap.kept h2 (fun b hb e => h.apart b hb (by rw [List.mem_singleton.1 e]; exact hd)), h1, fun b hb hg => ?_, h.f, fun b hb => ?_, h.below.trans (h2.below_of hN (fun b hb => by rw [List.mem_singleton.1 hb]; exact (h.g d hd).1)), (h2.block _ hbl (fun e => (h.g d hd).2 (List.mem_singleton.1 e).symm)).trans h.box, Nat.lt_of_lt_of_le hbl h2.size⟩
  · rcases h3 b hg with c | c
    · exact h.apart b hb c
    · have := h.heap.lt b hb; omega
  · rcases h3 b hb with c | c
    · exact h.g b c
    · exact ⟨by omega, by omega⟩
theorem BothIs.nodup (h : BothIs N W hp d s1 s2 limit bx o w) : ∀ ob ∈ s1, (keysOf ob).Nodup := by
  obtain ⟨F, G, h⟩ := h
  exact h.heap.nodup
end
/-- a call that is done by both -/
structure ActV where
  kind : Int
  o : Int
  a : Int
  b : Int
  n : Int
  k : Val
  v : Val
def ActV.cs (x : ActV) : Array Value := #[.int .i64 x.kind, .int .i64 x.o, .int .i64 x.a, .int .i64 x.b, .int .i64 x.n, .int .i64 x.k.k, .int .u64 x.k.n, .string x.k.s, .int .i64 x.k.o, .int .i64 x.v.k, .int .u64 x.v.n, .string x.v.s, .int .i64 x.v.o]
def ActV.val (x : ActV) : Value := .agg x.cs
def actS (s : List Ob) (limit : Int) (x : ActV) : List Ob :=
  if x.kind = 0 then (tableR s limit).2.2 else if x.kind = 1 then (setS s limit x.o x.k x.v).2 else if x.kind = 2 then (setMetaS s x.o x.v).2 else if x.kind = 3 then (makeS s limit x.o x.a x.b x.n).2.2 else
  if x.kind = 4 then (setSlotS s x.o x.n x.v).2 else if x.kind = 5 then (markS s x.o x.a).2 else s
theorem box13 {w : World} {bx : Nat} {x : ActV} (h : w.heap[bx]? = some (.cells x.cs 52 (0, 0))) :
    w.cell? ⟨bx, 0, none⟩ = some (.int .i64 x.kind) ∧ w.cell? ⟨bx, 1, none⟩ = some (.int .i64 x.o) ∧ w.cell? ⟨bx, 2, none⟩ = some (.int .i64 x.a) ∧ w.cell? ⟨bx, 3, none⟩ = some (.int .i64 x.b) ∧ w.cell? ⟨bx, 4, none⟩ = some (.int .i64 x.n) ∧
    w.cell? ⟨bx, 5, none⟩ = some (.int .i64 x.k.k) ∧ w.cell? ⟨bx, 6, none⟩ = some (.int .u64 x.k.n) ∧ w.cell? ⟨bx, 7, none⟩ = some (.string x.k.s) ∧ w.cell? ⟨bx, 8, none⟩ = some (.int .i64 x.k.o) ∧
    w.cell? ⟨bx, 9, none⟩ = some (.int .i64 x.v.k) ∧ w.cell? ⟨bx, 10, none⟩ = some (.int .u64 x.v.n) ∧ w.cell? ⟨bx, 11, none⟩ = some (.string x.v.s) ∧ w.cell? ⟨bx, 12, none⟩ = some (.int .i64 x.v.o) :=
  ⟨cell_of h 0, cell_of h 1, cell_of h 2, cell_of h 3, cell_of h 4, cell_of h 5, cell_of h 6, cell_of h 7, cell_of h 8, cell_of h 9, cell_of h 10, cell_of h 11, cell_of h 12⟩
def Joint (N hp d : Nat) (s : List Ob) (limit : Int) (w : World) : Prop := ∃ F G, HeapIs w hp s limit F ∧ RefIs w d s limit G ∧ (∀ b ∈ F, b ∉ G) ∧ (∀ b ∈ F, N ≤ b) ∧ ∀ b ∈ G, N ≤ b
theorem Joint.start {N hp d : Nat} {s : List Ob} {limit : Int} {W : World} (h : Joint N hp d s limit W) (O : Obj) {o : Option Obj} (ho : (W.alloc O).heap[W.heap.size]? = o) : BothIs N W hp d s s limit W.heap.size o (W.alloc O) := by
  obtain ⟨F, G, h1, h2, h3, h4, h5⟩ := h
  have hb : Below W.heap.size W (W.alloc O) := (Below.refl _ _).alloc (Nat.le_refl _) _
  have hN : N ≤ W.heap.size := by
    have h6 := h5 d h2.d_mem
    have h7 := h2.lt d h2.d_mem
    omega
  exact ⟨F, G, h1.kept (B := []) (Chg.of_below hb) (fun _ _ => List.not_mem_nil), h2.below hb, h3, fun b hb => ⟨h4 b hb, by have := h1.lt b hb; omega⟩, fun b hb => ⟨h5 b hb, by have := h2.lt b hb; omega⟩, hb.mono hN, ho, by simp⟩
theorem BothIs.join {N : Nat} {W : World} {hp d : Nat} {s : List Ob} {limit : Int} {bx : Nat} {o : Option Obj} {w : World} (h : BothIs N W hp d s s limit bx o w) : Joint N hp d s limit w ∧ Below N W w := by
  obtain ⟨F, G, h⟩ := h
  exact ⟨⟨F, G, h.heap, h.ref, h.apart, fun b hb => (h.f b hb).1, fun b hb => (h.g b hb).1⟩, h.below⟩
def DoesP (N : Nat) (W : World) (hp d : Nat) (s' : List Ob) (limit : Int) (e : Ending) (w' : World) : Prop := e = .returned (.bool true) ∧ Joint N hp d s' limit w' ∧ Below N W w'
theorem BothIs.cells {N : Nat} {W : World} {hp d : Nat} {s1 s2 : List Ob} {limit : Int} {bx : Nat} {x : ActV} {w : World} (h : BothIs N W hp d s1 s2 limit bx (some (.cells x.cs 52 (0, 0))) w) :
    w.cell? ⟨bx, 0, none⟩ = some (.int .i64 x.kind) ∧ w.cell? ⟨bx, 1, none⟩ = some (.int .i64 x.o) ∧ w.cell? ⟨bx, 2, none⟩ = some (.int .i64 x.a) ∧ w.cell? ⟨bx, 3, none⟩ = some (.int .i64 x.b) ∧ w.cell? ⟨bx, 4, none⟩ = some (.int .i64 x.n) ∧
    w.cell? ⟨bx, 5, none⟩ = some (.int .i64 x.k.k) ∧ w.cell? ⟨bx, 6, none⟩ = some (.int .u64 x.k.n) ∧ w.cell? ⟨bx, 7, none⟩ = some (.string x.k.s) ∧ w.cell? ⟨bx, 8, none⟩ = some (.int .i64 x.k.o) ∧
    w.cell? ⟨bx, 9, none⟩ = some (.int .i64 x.v.k) ∧ w.cell? ⟨bx, 10, none⟩ = some (.int .u64 x.v.n) ∧ w.cell? ⟨bx, 11, none⟩ = some (.string x.v.s) ∧ w.cell? ⟨bx, 12, none⟩ = some (.int .i64 x.v.o) := by
  obtain ⟨F, G, h⟩ := h
  exact box13 h.box
end Go.Proofs.Ytlihonbmopeemaa.Hp
end
section
namespace Go.Proofs.Ytlihonbmopeemaa.Hp
open Go Go.RowKit Go.Proofs.Ytlihonbmopeemaa.HpLaw Go.Proofs.Ytlihonbmopeemaa.Ans Go.Proofs.Ytlihonbmopeemaa.Num Go.Proofs.Ytlihonbmopeemaa.DigLaw Go.Proofs.Ytlihonbmopeemaa.Fl Go.Proofs.Ytlihonbmopeemaa.Dig Go.Proofs.Ytlihonbmopeemaa.Float
attribute [local go_sem ↓] Go.wp_at_zero Go.wp_at_succ
set_option linter.unusedSimpArgs false

set_option maxHeartbeats 4000000 in
set_option maxRecDepth 100000 in
theorem does_0 {N hp d : Nat} {s : List Ob} {limit : Int} (o a b n : Int) (kk vv : Val) (_hk : VOK kk) (_hv : VOK vv) (W : World) (h : Joint N hp d s limit W) :
    Calls Try.prog 17 #[.pointer (some ⟨hp, 0, none⟩), .pointer (some ⟨d, 0, none⟩), .agg #[.int .i64 0, .int .i64 o, .int .i64 a, .int .i64 b, .int .i64 n, .int .i64 kk.k, .int .u64 kk.n, .string kk.s, .int .i64 kk.o, .int .i64 vv.k, .int .u64 vv.n, .string vv.s, .int .i64 vv.o]] W (DoesP N W hp d (tableR s limit).2.2 limit) := by
  have J : Hid (BothIs N W hp d s s limit W.heap.size (some (.cells #[.int .i64 0, .int .i64 o, .int .i64 a, .int .i64 b, .int .i64 n, .int .i64 kk.k, .int .u64 kk.n, .string kk.s, .int .i64 kk.o, .int .i64 vv.k, .int .u64 vv.n, .string vv.s, .int .i64 vv.o] 52 (0, 0))) (W.alloc (.cells #[.int .i64 0, .int .i64 o, .int .i64 a, .int .i64 b, .int .i64 n, .int .i64 kk.k, .int .u64 kk.n, .string kk.s, .int .i64 kk.o, .int .i64 vv.k, .int .u64 vv.n, .string vv.s, .int .i64 vv.o] 52))) := h.start _ (heap_alloc_new _ _)
  obtain ⟨c0, c1, c2, c3, c4, c5, c6, c7, c8, c9, c10, c11, c12⟩ := J.out.cells (x := ⟨0, o, a, b, n, kk, vv⟩)
  have HU := Lib.hid J.out.nodup
  clear h
  go_enter Try.func17, Try.ntmps17
  go_wp2_with fail
  obtain ⟨F, hF, hst⟩ := J.out.heap_
  refine (table_walk _ hF).mono ?_
  rintro e w1 ⟨rfl, h1⟩
  have J1 := Lib.hid (hst _ _ h1)
  obtain ⟨r1, Hr1⟩ : ∃ r1, Hid (r1 = (tableR s limit).1) := ⟨_, Lib.hid rfl⟩
  obtain ⟨r2, Hr2⟩ : ∃ r2, Hid (r2 = (tableR s limit).2.1) := ⟨_, Lib.hid rfl⟩
  rw [← Hr1.out, ← Hr2.out]
  clear hst h1 hF F c0 c1 c2 c3 c4 c5 c6 c7 c8 c9 c10 c11 c12
  obtain ⟨c0, c1, c2, c3, c4, c5, c6, c7, c8, c9, c10, c11, c12⟩ := J1.out.cells (x := ⟨0, o, a, b, n, kk, vv⟩)
  go_wp2_with fail
  obtain ⟨G, hG, hst⟩ := J1.out.ref_
  refine (rtable_walk _ hG).mono ?_
  rintro e w2 ⟨rfl, h2⟩
  have J2 := Lib.hid (hst _ _ h2)
  rw [← Hr1.out, ← Hr2.out]
  clear hst h2 hG G
  go_wp2_with fail
  go_ret
  exact ⟨by simp [Act.eval], J2.out.join⟩
set_option maxHeartbeats 4000000 in
set_option maxRecDepth 100000 in
theorem does_1 {N hp d : Nat} {s : List Ob} {limit : Int} (o a b n : Int) (kk vv : Val) (_hk : VOK kk) (_hv : VOK vv) (W : World) (h : Joint N hp d s limit W) :
    Calls Try.prog 17 #[.pointer (some ⟨hp, 0, none⟩), .pointer (some ⟨d, 0, none⟩), .agg #[.int .i64 1, .int .i64 o, .int .i64 a, .int .i64 b, .int .i64 n, .int .i64 kk.k, .int .u64 kk.n, .string kk.s, .int .i64 kk.o, .int .i64 vv.k, .int .u64 vv.n, .string vv.s, .int .i64 vv.o]] W (DoesP N W hp d (setS s limit o kk vv).2 limit) := by
  have J : Hid (BothIs N W hp d s s limit W.heap.size (some (.cells #[.int .i64 1, .int .i64 o, .int .i64 a, .int .i64 b, .int .i64 n, .int .i64 kk.k, .int .u64 kk.n, .string kk.s, .int .i64 kk.o, .int .i64 vv.k, .int .u64 vv.n, .string vv.s, .int .i64 vv.o] 52 (0, 0))) (W.alloc (.cells #[.int .i64 1, .int .i64 o, .int .i64 a, .int .i64 b, .int .i64 n, .int .i64 kk.k, .int .u64 kk.n, .string kk.s, .int .i64 kk.o, .int .i64 vv.k, .int .u64 vv.n, .string vv.s, .int .i64 vv.o] 52))) := h.start _ (heap_alloc_new _ _)
  obtain ⟨c0, c1, c2, c3, c4, c5, c6, c7, c8, c9, c10, c11, c12⟩ := J.out.cells (x := ⟨1, o, a, b, n, kk, vv⟩)
  have HU := Lib.hid J.out.nodup
  clear h
  go_enter Try.func17, Try.ntmps17
  go_upto_region 7 with fail
  obtain ⟨w0, Hw0⟩ : ∃ w0, Hid (w0 = W.alloc (.cells #[.int .i64 1, .int .i64 o, .int .i64 a, .int .i64 b, .int .i64 n, .int .i64 kk.k, .int .u64 kk.n, .string kk.s, .int .i64 kk.o, .int .i64 vv.k, .int .u64 vv.n, .string vv.s, .int .i64 vv.o] 52)) := ⟨_, Lib.hid rfl⟩
  rw [← Hw0.out] at J c0 c1 c2 c3 c4 c5 c6 c7 c8 c9 c10 c11 c12 ⊢
  have JJ := Lib.hid (J.out.step (Below.drew (Below.refl _ _)))
  have HC : ∀ s1 s2 w', Hid (BothIs N W hp d s1 s2 limit W.heap.size (some (.cells #[.int .i64 1, .int .i64 o, .int .i64 a, .int .i64 b, .int .i64 n, .int .i64 kk.k, .int .u64 kk.n, .string kk.s, .int .i64 kk.o, .int .i64 vv.k, .int .u64 vv.n, .string vv.s, .int .i64 vv.o] 52 (0, 0))) w') → w'.cell? ⟨W.heap.size, 1, none⟩ = some (.int .i64 o) ∧ w'.cell? ⟨W.heap.size, 5, none⟩ = some (.int .i64 kk.k) ∧ w'.cell? ⟨W.heap.size, 6, none⟩ = some (.int .u64 kk.n) ∧ w'.cell? ⟨W.heap.size, 7, none⟩ = some (.string kk.s) ∧ w'.cell? ⟨W.heap.size, 8, none⟩ = some (.int .i64 kk.o) ∧ w'.cell? ⟨W.heap.size, 9, none⟩ = some (.int .i64 vv.k) ∧ w'.cell? ⟨W.heap.size, 10, none⟩ = some (.int .u64 vv.n) ∧ w'.cell? ⟨W.heap.size, 11, none⟩ = some (.string vv.s) ∧ w'.cell? ⟨W.heap.size, 12, none⟩ = some (.int .i64 vv.o) := by
    intro s1 s2 w' hb
    obtain ⟨c0, c1, c2, c3, c4, c5, c6, c7, c8, c9, c10, c11, c12⟩ := hb.out.cells (x := ⟨1, o, a, b, n, kk, vv⟩)
    exact ⟨c1, c5, c6, c7, c8, c9, c10, c11, c12⟩
  have HC := Lib.hid HC
  obtain ⟨r1, Hr1⟩ : ∃ r1, Hid (r1 = (setS s limit o kk vv).1) := ⟨_, Lib.hid rfl⟩
  clear J c0 c1 c2 c3 c4 c5 c6 c7 c8 c9 c10 c11 c12 Hw0
  go_region_held3 (fun w' => w'.cell? ⟨W.heap.size, 1, none⟩ = some (.int .i64 o) ∧ w'.cell? ⟨W.heap.size, 5, none⟩ = some (.int .i64 kk.k) ∧ w'.cell? ⟨W.heap.size, 6, none⟩ = some (.int .u64 kk.n) ∧ w'.cell? ⟨W.heap.size, 7, none⟩ = some (.string kk.s) ∧ w'.cell? ⟨W.heap.size, 8, none⟩ = some (.int .i64 kk.o) ∧ w'.cell? ⟨W.heap.size, 9, none⟩ = some (.int .i64 vv.k) ∧ w'.cell? ⟨W.heap.size, 10, none⟩ = some (.int .u64 vv.n) ∧ w'.cell? ⟨W.heap.size, 11, none⟩ = some (.string vv.s) ∧ w'.cell? ⟨W.heap.size, 12, none⟩ = some (.int .i64 vv.o))
    (exact HC.out _ _ _ (by assumption))
    (first
      | (go_at_call 9; obtain ⟨F, hF, hst⟩ := JJ.out.heap_; refine (set_walk o kk vv _hk _hv _ hF).mono ?_; rintro e w6 ⟨rfl, h6⟩; have JJ := Lib.hid (hst _ _ h6); rw [← Hr1.out]; clear hst h6 hF)
      | (go_at_call 36; obtain ⟨G, hG, hst⟩ := JJ.out.ref_; refine (rset_walk o kk vv _hk _hv _ hG HU.out).mono ?_; rintro e w7 ⟨rfl, h6⟩; have JJ := Lib.hid (hst _ _ h6); rw [← Hr1.out]; clear hst h6 hG))
  all_goals
    go_wp2_with fail
    go_ret
    exact ⟨by simp [Act.eval], JJ.out.join⟩
set_option maxHeartbeats 4000000 in
set_option maxRecDepth 100000 in
theorem does_2 {N hp d : Nat} {s : List Ob} {limit : Int} (o a b n : Int) (kk vv : Val) (_hk : VOK kk) (_hv : VOK vv) (W : World) (h : Joint N hp d s limit W) :
    Calls Try.prog 17 #[.pointer (some ⟨hp, 0, none⟩), .pointer (some ⟨d, 0, none⟩), .agg #[.int .i64 2, .int .i64 o, .int .i64 a, .int .i64 b, .int .i64 n, .int .i64 kk.k, .int .u64 kk.n, .string kk.s, .int .i64 kk.o, .int .i64 vv.k, .int .u64 vv.n, .string vv.s, .int .i64 vv.o]] W (DoesP N W hp d (setMetaS s o vv).2 limit) := by
  have J : Hid (BothIs N W hp d s s limit W.heap.size (some (.cells #[.int .i64 2, .int .i64 o, .int .i64 a, .int .i64 b, .int .i64 n, .int .i64 kk.k, .int .u64 kk.n, .string kk.s, .int .i64 kk.o, .int .i64 vv.k, .int .u64 vv.n, .string vv.s, .int .i64 vv.o] 52 (0, 0))) (W.alloc (.cells #[.int .i64 2, .int .i64 o, .int .i64 a, .int .i64 b, .int .i64 n, .int .i64 kk.k, .int .u64 kk.n, .string kk.s, .int .i64 kk.o, .int .i64 vv.k, .int .u64 vv.n, .string vv.s, .int .i64 vv.o] 52))) := h.start _ (heap_alloc_new _ _)
  obtain ⟨c0, c1, c2, c3, c4, c5, c6, c7, c8, c9, c10, c11, c12⟩ := J.out.cells (x := ⟨2, o, a, b, n, kk, vv⟩)
  have HU := Lib.hid J.out.nodup
  clear h
  go_enter Try.func17, Try.ntmps17
  go_upto_region 9 with fail
  obtain ⟨w0, Hw0⟩ : ∃ w0, Hid (w0 = W.alloc (.cells #[.int .i64 2, .int .i64 o, .int .i64 a, .int .i64 b, .int .i64 n, .int .i64 kk.k, .int .u64 kk.n, .string kk.s, .int .i64 kk.o, .int .i64 vv.k, .int .u64 vv.n, .string vv.s, .int .i64 vv.o] 52)) := ⟨_, Lib.hid rfl⟩
  rw [← Hw0.out] at J c0 c1 c2 c3 c4 c5 c6 c7 c8 c9 c10 c11 c12 ⊢
  have JJ := Lib.hid (J.out.step (Below.drew (Below.refl _ _)))
  have HC : ∀ s1 s2 w', Hid (BothIs N W hp d s1 s2 limit W.heap.size (some (.cells #[.int .i64 2, .int .i64 o, .int .i64 a, .int .i64 b, .int .i64 n, .int .i64 kk.k, .int .u64 kk.n, .string kk.s, .int .i64 kk.o, .int .i64 vv.k, .int .u64 vv.n, .string vv.s, .int .i64 vv.o] 52 (0, 0))) w') → w'.cell? ⟨W.heap.size, 1, none⟩ = some (.int .i64 o) ∧ w'.cell? ⟨W.heap.size, 9, none⟩ = some (.int .i64 vv.k) ∧ w'.cell? ⟨W.heap.size, 10, none⟩ = some (.int .u64 vv.n) ∧ w'.cell? ⟨W.heap.size, 11, none⟩ = some (.string vv.s) ∧ w'.cell? ⟨W.heap.size, 12, none⟩ = some (.int .i64 vv.o) := by
    intro s1 s2 w' hb
    obtain ⟨c0, c1, c2, c3, c4, c5, c6, c7, c8, c9, c10, c11, c12⟩ := hb.out.cells (x := ⟨2, o, a, b, n, kk, vv⟩)
    exact ⟨c1, c9, c10, c11, c12⟩
  have HC := Lib.hid HC
  obtain ⟨r1, Hr1⟩ : ∃ r1, Hid (r1 = (setMetaS s o vv).1) := ⟨_, Lib.hid rfl⟩
  clear J c0 c1 c2 c3 c4 c5 c6 c7 c8 c9 c10 c11 c12 Hw0
  go_region_held3 (fun w' => w'.cell? ⟨W.heap.size, 1, none⟩ = some (.int .i64 o) ∧ w'.cell? ⟨W.heap.size, 9, none⟩ = some (.int .i64 vv.k) ∧ w'.cell? ⟨W.heap.size, 10, none⟩ = some (.int .u64 vv.n) ∧ w'.cell? ⟨W.heap.size, 11, none⟩ = some (.string vv.s) ∧ w'.cell? ⟨W.heap.size, 12, none⟩ = some (.int .i64 vv.o))
    (exact HC.out _ _ _ (by assumption))
    (first
      | (go_at_call 16; obtain ⟨F, hF, hst⟩ := JJ.out.heap_; refine (setMeta_walk o vv _hv _ hF).mono ?_; rintro e w6 ⟨rfl, h6⟩; have JJ := Lib.hid (hst _ _ h6); rw [← Hr1.out]; clear hst h6 hF)
      | (go_at_call 37; obtain ⟨G, hG, hst⟩ := JJ.out.ref_; refine (rsetMeta_walk o vv _hv _ hG).mono ?_; rintro e w7 ⟨rfl, h6⟩; have JJ := Lib.hid (hst _ _ h6); rw [← Hr1.out]; clear hst h6 hG))
  all_goals
    go_wp2_with fail
    go_ret
    exact ⟨by simp [Act.eval], JJ.out.join⟩
set_option maxHeartbeats 4000000 in
set_option maxRecDepth 100000 in
theorem does_3 {N hp d : Nat} {s : List Ob} {limit : Int} (o a b n : Int) (kk vv : Val) (_hk : VOK kk) (_hv : VOK vv) (W : World) (h : Joint N hp d s limit W) :
    Calls Try.prog 17 #[.pointer (some ⟨hp, 0, none⟩), .pointer (some ⟨d, 0, none⟩), .agg #[.int .i64 3, .int .i64 o, .int .i64 a, .int .i64 b, .int .i64 n, .int .i64 kk.k, .int .u64 kk.n, .string kk.s, .int .i64 kk.o, .int .i64 vv.k, .int .u64 vv.n, .string vv.s, .int .i64 vv.o]] W (DoesP N W hp d (makeS s limit o a b n).2.2 limit) := by
  have J : Hid (BothIs N W hp d s s limit W.heap.size (some (.cells #[.int .i64 3, .int .i64 o, .int .i64 a, .int .i64 b, .int .i64 n, .int .i64 kk.k, .int .u64 kk.n, .string kk.s, .int .i64 kk.o, .int .i64 vv.k, .int .u64 vv.n, .string vv.s, .int .i64 vv.o] 52 (0, 0))) (W.alloc (.cells #[.int .i64 3, .int .i64 o, .int .i64 a, .int .i64 b, .int .i64 n, .int .i64 kk.k, .int .u64 kk.n, .string kk.s, .int .i64 kk.o, .int .i64 vv.k, .int .u64 vv.n, .string vv.s, .int .i64 vv.o] 52))) := h.start _ (heap_alloc_new _ _)
  obtain ⟨c0, c1, c2, c3, c4, c5, c6, c7, c8, c9, c10, c11, c12⟩ := J.out.cells (x := ⟨3, o, a, b, n, kk, vv⟩)
  have HU := Lib.hid J.out.nodup
  clear h
  go_enter Try.func17, Try.ntmps17
  go_wp2_with fail
  obtain ⟨F, hF, hst⟩ := J.out.heap_
  refine (make_walk o a b n _ hF).mono ?_
  rintro e w1 ⟨rfl, h1⟩
  have J1 := Lib.hid (hst _ _ h1)
  obtain ⟨r1, Hr1⟩ : ∃ r1, Hid (r1 = (makeS s limit o a b n).1) := ⟨_, Lib.hid rfl⟩
  obtain ⟨r2, Hr2⟩ : ∃ r2, Hid (r2 = (makeS s limit o a b n).2.1) := ⟨_, Lib.hid rfl⟩
  rw [← Hr1.out, ← Hr2.out]
  clear hst h1 hF F c0 c1 c2 c3 c4 c5 c6 c7 c8 c9 c10 c11 c12
  obtain ⟨c0, c1, c2, c3, c4, c5, c6, c7, c8, c9, c10, c11, c12⟩ := J1.out.cells (x := ⟨3, o, a, b, n, kk, vv⟩)
  go_wp2_with fail
  obtain ⟨G, hG, hst⟩ := J1.out.ref_
  refine (rmake_walk o a b n _ hG).mono ?_
  rintro e w2 ⟨rfl, h2⟩
  have J2 := Lib.hid (hst _ _ h2)
  rw [← Hr1.out, ← Hr2.out]
  clear hst h2 hG G
  go_wp2_with fail
  go_ret
  exact ⟨by simp [Act.eval], J2.out.join⟩
set_option maxHeartbeats 4000000 in
set_option maxRecDepth 100000 in
theorem does_4 {N hp d : Nat} {s : List Ob} {limit : Int} (o a b n : Int) (kk vv : Val) (_hk : VOK kk) (_hv : VOK vv) (W : World) (h : Joint N hp d s limit W) :
    Calls Try.prog 17 #[.pointer (some ⟨hp, 0, none⟩), .pointer (some ⟨d, 0, none⟩), .agg #[.int .i64 4, .int .i64 o, .int .i64 a, .int .i64 b, .int .i64 n, .int .i64 kk.k, .int .u64 kk.n, .string kk.s, .int .i64 kk.o, .int .i64 vv.k, .int .u64 vv.n, .string vv.s, .int .i64 vv.o]] W (DoesP N W hp d (setSlotS s o n vv).2 limit) := by
  have J : Hid (BothIs N W hp d s s limit W.heap.size (some (.cells #[.int .i64 4, .int .i64 o, .int .i64 a, .int .i64 b, .int .i64 n, .int .i64 kk.k, .int .u64 kk.n, .string kk.s, .int .i64 kk.o, .int .i64 vv.k, .int .u64 vv.n, .string vv.s, .int .i64 vv.o] 52 (0, 0))) (W.alloc (.cells #[.int .i64 4, .int .i64 o, .int .i64 a, .int .i64 b, .int .i64 n, .int .i64 kk.k, .int .u64 kk.n, .string kk.s, .int .i64 kk.o, .int .i64 vv.k, .int .u64 vv.n, .string vv.s, .int .i64 vv.o] 52))) := h.start _ (heap_alloc_new _ _)
  obtain ⟨c0, c1, c2, c3, c4, c5, c6, c7, c8, c9, c10, c11, c12⟩ := J.out.cells (x := ⟨4, o, a, b, n, kk, vv⟩)
  have HU := Lib.hid J.out.nodup
  clear h
  go_enter Try.func17, Try.ntmps17
  go_upto_region 15 with fail
  obtain ⟨w0, Hw0⟩ : ∃ w0, Hid (w0 = W.alloc (.cells #[.int .i64 4, .int .i64 o, .int .i64 a, .int .i64 b, .int .i64 n, .int .i64 kk.k, .int .u64 kk.n, .string kk.s, .int .i64 kk.o, .int .i64 vv.k, .int .u64 vv.n, .string vv.s, .int .i64 vv.o] 52)) := ⟨_, Lib.hid rfl⟩
  rw [← Hw0.out] at J c0 c1 c2 c3 c4 c5 c6 c7 c8 c9 c10 c11 c12 ⊢
  have JJ := Lib.hid (J.out.step (Below.drew (Below.refl _ _)))
  have HC : ∀ s1 s2 w', Hid (BothIs N W hp d s1 s2 limit W.heap.size (some (.cells #[.int .i64 4, .int .i64 o, .int .i64 a, .int .i64 b, .int .i64 n, .int .i64 kk.k, .int .u64 kk.n, .string kk.s, .int .i64 kk.o, .int .i64 vv.k, .int .u64 vv.n, .string vv.s, .int .i64 vv.o] 52 (0, 0))) w') → w'.cell? ⟨W.heap.size, 1, none⟩ = some (.int .i64 o) ∧ w'.cell? ⟨W.heap.size, 4, none⟩ = some (.int .i64 n) ∧ w'.cell? ⟨W.heap.size, 9, none⟩ = some (.int .i64 vv.k) ∧ w'.cell? ⟨W.heap.size, 10, none⟩ = some (.int .u64 vv.n) ∧ w'.cell? ⟨W.heap.size, 11, none⟩ = some (.string vv.s) ∧ w'.cell? ⟨W.heap.size, 12, none⟩ = some (.int .i64 vv.o) := by
    intro s1 s2 w' hb
    obtain ⟨c0, c1, c2, c3, c4, c5, c6, c7, c8, c9, c10, c11, c12⟩ := hb.out.cells (x := ⟨4, o, a, b, n, kk, vv⟩)
    exact ⟨c1, c4, c9, c10, c11, c12⟩
  have HC := Lib.hid HC
  obtain ⟨r1, Hr1⟩ : ∃ r1, Hid (r1 = (setSlotS s o n vv).1) := ⟨_, Lib.hid rfl⟩
  clear J c0 c1 c2 c3 c4 c5 c6 c7 c8 c9 c10 c11 c12 Hw0
  go_region_held3 (fun w' => w'.cell? ⟨W.heap.size, 1, none⟩ = some (.int .i64 o) ∧ w'.cell? ⟨W.heap.size, 4, none⟩ = some (.int .i64 n) ∧ w'.cell? ⟨W.heap.size, 9, none⟩ = some (.int .i64 vv.k) ∧ w'.cell? ⟨W.heap.size, 10, none⟩ = some (.int .u64 vv.n) ∧ w'.cell? ⟨W.heap.size, 11, none⟩ = some (.string vv.s) ∧ w'.cell? ⟨W.heap.size, 12, none⟩ = some (.int .i64 vv.o))
    (exact HC.out _ _ _ (by assumption))
    (first
      | (go_at_call 40; obtain ⟨F, hF, hst⟩ := JJ.out.heap_; refine (setSlot_walk o n vv _hv _ hF).mono ?_; rintro e w6 ⟨rfl, h6⟩; have JJ := Lib.hid (hst _ _ h6); rw [← Hr1.out]; clear hst h6 hF)
      | (go_at_call 41; obtain ⟨G, hG, hst⟩ := JJ.out.ref_; refine (rsetSlot_walk o n vv _hv _ hG).mono ?_; rintro e w7 ⟨rfl, h6⟩; have JJ := Lib.hid (hst _ _ h6); rw [← Hr1.out]; clear hst h6 hG))
  all_goals
    go_wp2_with fail
    go_ret
    exact ⟨by simp [Act.eval], JJ.out.join⟩
set_option maxHeartbeats 4000000 in
set_option maxRecDepth 100000 in
theorem does_5 {N hp d : Nat} {s : List Ob} {limit : Int} (o a b n : Int) (kk vv : Val) (_hk : VOK kk) (_hv : VOK vv) (W : World) (h : Joint N hp d s limit W) :
    Calls Try.prog 17 #[.pointer (some ⟨hp, 0, none⟩), .pointer (some ⟨d, 0, none⟩), .agg #[.int .i64 5, .int .i64 o, .int .i64 a, .int .i64 b, .int .i64 n, .int .i64 kk.k, .int .u64 kk.n, .string kk.s, .int .i64 kk.o, .int .i64 vv.k, .int .u64 vv.n, .string vv.s, .int .i64 vv.o]] W (DoesP N W hp d (markS s o a).2 limit) := by
  have J : Hid (BothIs N W hp d s s limit W.heap.size (some (.cells #[.int .i64 5, .int .i64 o, .int .i64 a, .int .i64 b, .int .i64 n, .int .i64 kk.k, .int .u64 kk.n, .string kk.s, .int .i64 kk.o, .int .i64 vv.k, .int .u64 vv.n, .string vv.s, .int .i64 vv.o] 52 (0, 0))) (W.alloc (.cells #[.int .i64 5, .int .i64 o, .int .i64 a, .int .i64 b, .int .i64 n, .int .i64 kk.k, .int .u64 kk.n, .string kk.s, .int .i64 kk.o, .int .i64 vv.k, .int .u64 vv.n, .string vv.s, .int .i64 vv.o] 52))) := h.start _ (heap_alloc_new _ _)
  obtain ⟨c0, c1, c2, c3, c4, c5, c6, c7, c8, c9, c10, c11, c12⟩ := J.out.cells (x := ⟨5, o, a, b, n, kk, vv⟩)
  have HU := Lib.hid J.out.nodup
  clear h
  go_enter Try.func17, Try.ntmps17
  go_upto_region 17 with fail
  obtain ⟨w0, Hw0⟩ : ∃ w0, Hid (w0 = W.alloc (.cells #[.int .i64 5, .int .i64 o, .int .i64 a, .int .i64 b, .int .i64 n, .int .i64 kk.k, .int .u64 kk.n, .string kk.s, .int .i64 kk.o, .int .i64 vv.k, .int .u64 vv.n, .string vv.s, .int .i64 vv.o] 52)) := ⟨_, Lib.hid rfl⟩
  rw [← Hw0.out] at J c0 c1 c2 c3 c4 c5 c6 c7 c8 c9 c10 c11 c12 ⊢
  have JJ := Lib.hid (J.out.step (Below.drew (Below.refl _ _)))
  have HC : ∀ s1 s2 w', Hid (BothIs N W hp d s1 s2 limit W.heap.size (some (.cells #[.int .i64 5, .int .i64 o, .int .i64 a, .int .i64 b, .int .i64 n, .int .i64 kk.k, .int .u64 kk.n, .string kk.s, .int .i64 kk.o, .int .i64 vv.k, .int .u64 vv.n, .string vv.s, .int .i64 vv.o] 52 (0, 0))) w') → w'.cell? ⟨W.heap.size, 1, none⟩ = some (.int .i64 o) ∧ w'.cell? ⟨W.heap.size, 2, none⟩ = some (.int .i64 a) := by
    intro s1 s2 w' hb
    obtain ⟨c0, c1, c2, c3, c4, c5, c6, c7, c8, c9, c10, c11, c12⟩ := hb.out.cells (x := ⟨5, o, a, b, n, kk, vv⟩)
    exact ⟨c1, c2⟩
  have HC := Lib.hid HC
  obtain ⟨r1, Hr1⟩ : ∃ r1, Hid (r1 = (markS s o a).1) := ⟨_, Lib.hid rfl⟩
  clear J c0 c1 c2 c3 c4 c5 c6 c7 c8 c9 c10 c11 c12 Hw0
  go_region_held3 (fun w' => w'.cell? ⟨W.heap.size, 1, none⟩ = some (.int .i64 o) ∧ w'.cell? ⟨W.heap.size, 2, none⟩ = some (.int .i64 a))
    (exact HC.out _ _ _ (by assumption))
    (first
      | (go_at_call 42; obtain ⟨F, hF, hst⟩ := JJ.out.heap_; refine (mark_walk o a _ hF).mono ?_; rintro e w6 ⟨rfl, h6⟩; have JJ := Lib.hid (hst _ _ h6); rw [← Hr1.out]; clear hst h6 hF)
      | (go_at_call 43; obtain ⟨G, hG, hst⟩ := JJ.out.ref_; refine (rmark_walk o a _ hG).mono ?_; rintro e w7 ⟨rfl, h6⟩; have JJ := Lib.hid (hst _ _ h6); rw [← Hr1.out]; clear hst h6 hG))
  all_goals
    go_wp2_with fail
    go_ret
    exact ⟨by simp [Act.eval], JJ.out.join⟩
set_option maxHeartbeats 4000000 in
set_option maxRecDepth 100000 in
theorem does_6 {N hp d : Nat} {s : List Ob} {limit : Int} (kind : Int) (o a b n : Int) (kk vv : Val) (_hk : VOK kk) (_hv : VOK vv) (k0 : ¬ kind = 0) (k1 : ¬ kind = 1) (k2 : ¬ kind = 2) (k3 : ¬ kind = 3) (k4 : ¬ kind = 4) (k5 : ¬ kind = 5) (W : World) (h : Joint N hp d s limit W) :
    Calls Try.prog 17 #[.pointer (some ⟨hp, 0, none⟩), .pointer (some ⟨d, 0, none⟩), .agg #[.int .i64 kind, .int .i64 o, .int .i64 a, .int .i64 b, .int .i64 n, .int .i64 kk.k, .int .u64 kk.n, .string kk.s, .int .i64 kk.o, .int .i64 vv.k, .int .u64 vv.n, .string vv.s, .int .i64 vv.o]] W (DoesP N W hp d s limit) := by
  have J : Hid (BothIs N W hp d s s limit W.heap.size (some (.cells #[.int .i64 kind, .int .i64 o, .int .i64 a, .int .i64 b, .int .i64 n, .int .i64 kk.k, .int .u64 kk.n, .string kk.s, .int .i64 kk.o, .int .i64 vv.k, .int .u64 vv.n, .string vv.s, .int .i64 vv.o] 52 (0, 0))) (W.alloc (.cells #[.int .i64 kind, .int .i64 o, .int .i64 a, .int .i64 b, .int .i64 n, .int .i64 kk.k, .int .u64 kk.n, .string kk.s, .int .i64 kk.o, .int .i64 vv.k, .int .u64 vv.n, .string vv.s, .int .i64 vv.o] 52))) := h.start _ (heap_alloc_new _ _)
  obtain ⟨c0, c1, c2, c3, c4, c5, c6, c7, c8, c9, c10, c11, c12⟩ := J.out.cells (x := ⟨kind, o, a, b, n, kk, vv⟩)
  have HU := Lib.hid J.out.nodup
  clear h
  have e0 : (kind == 0) = false := by rw [beq_eq_false_iff_ne]; exact k0
  have e1 : (kind == 1) = false := by rw [beq_eq_false_iff_ne]; exact k1
  have e2 : (kind == 2) = false := by rw [beq_eq_false_iff_ne]; exact k2
  have e3 : (kind == 3) = false := by rw [beq_eq_false_iff_ne]; exact k3
  have e4 : (kind == 4) = false := by rw [beq_eq_false_iff_ne]; exact k4
  have e5 : (kind == 5) = false := by rw [beq_eq_false_iff_ne]; exact k5
  clear k0 k1 k2 k3 k4 k5
  go_enter Try.func17, Try.ntmps17
  go_wp2_with fail
  go_ret
  exact ⟨by simp [Act.eval], J.out.join⟩
theorem does_walk {N hp d : Nat} {s : List Ob} {limit : Int} (x : ActV) (hk : VOK x.k) (hv : VOK x.v) (W : World) (h : Joint N hp d s limit W) :
    Calls Try.prog 17 #[.pointer (some ⟨hp, 0, none⟩), .pointer (some ⟨d, 0, none⟩), x.val] W (DoesP N W hp d (actS s limit x) limit) := by
  obtain ⟨kind, o, a, b, n, kk, vv⟩ := x
  by_cases k0 : kind = 0
  · subst k0; exact does_0 o a b n kk vv hk hv W h
  · by_cases k1 : kind = 1
    · subst k1; exact does_1 o a b n kk vv hk hv W h
    · by_cases k2 : kind = 2
      · subst k2; exact does_2 o a b n kk vv hk hv W h
      · by_cases k3 : kind = 3
        · subst k3; exact does_3 o a b n kk vv hk hv W h
        · by_cases k4 : kind = 4
          · subst k4; exact does_4 o a b n kk vv hk hv W h
          · by_cases k5 : kind = 5
            · subst k5; exact does_5 o a b n kk vv hk hv W h
            · have e : actS s limit ⟨kind, o, a, b, n, kk, vv⟩ = s := by
                unfold actS
                simp only
                rw [if_neg k0, if_neg k1, if_neg k2, if_neg k3, if_neg k4, if_neg k5]
              rw [e]
              exact does_6 kind o a b n kk vv hk hv k0 k1 k2 k3 k4 k5 W h
end Go.Proofs.Ytlihonbmopeemaa.Hp
end
section
namespace Go.Proofs.Ytlihonbmopeemaa.Hp
open Go Go.ChangeShapes Go.WideShapes Go.RowKit Go.Proofs.Ytlihonbmopeemaa.HpLaw Go.Proofs.Ytlihonbmopeemaa.Ans Go.Proofs.Ytlihonbmopeemaa.Num Go.Proofs.Ytlihonbmopeemaa.DigLaw Go.Proofs.Ytlihonbmopeemaa.Fl Go.Proofs.Ytlihonbmopeemaa.Dig Go.Proofs.Ytlihonbmopeemaa.Float

theorem cellsA : Try.prog.cellsOf 52 = 13 := by kernel_rfl
theorem list13 : ∀ (cs : List Value), cs.length = 13 → ∃ a b c d e f g h i j k l m, cs = [a, b, c, d, e, f, g, h, i, j, k, l, m]
  | [a, b, c, d, e, f, g, h, i, j, k, l, m], _ => ⟨a, b, c, d, e, f, g, h, i, j, k, l, m, rfl⟩
section
variable {H : Type} {enc : TypeId × Value → H} {w : World} {base : Nat} {spare : Nat → Bool} {held : Bool}
set_option maxRecDepth 100000 in
theorem open_act {fuel : Nat} {cs : List Value} {x : DataW H × List MemPlace} (h : DataW.trod enc Try.prog w base spare held fuel 52 cs = some x) : ∃ y : ActV, cs = y.cs.toList ∧ VOK y.k ∧ VOK y.v := by
  obtain ⟨xs, n, rfl, hx, hlen, hxl, hf⟩ := DataW.trod_struct Try.underlying52 h
  have hl : cs.length = 13 := hlen.trans cellsA
  have hxl7 : xs.length = 7 := hxl
  have g : ∀ i (hi : i < 7), xs[i]? = some (xs[i]'(by omega)) := fun i hi => List.getElem?_eq_getElem (by omega)
  have f0 := hf 0 _ rfl
  have f1 := hf 1 _ rfl
  have f2 := hf 2 _ rfl
  have f3 := hf 3 _ rfl
  have f4 := hf 4 _ rfl
  have f5 := hf 5 _ rfl
  have f6 := hf 6 _ rfl
  rw [g 0 (by decide)] at f0
  rw [g 1 (by decide)] at f1
  rw [g 2 (by decide)] at f2
  rw [g 3 (by decide)] at f3
  rw [g 4 (by decide)] at f4
  rw [g 5 (by decide)] at f5
  rw [g 6 (by decide)] at f6
  obtain ⟨n0, h0, _, _⟩ := DataW.trod_int Try.underlying3 f0
  obtain ⟨n1, h1, _, _⟩ := DataW.trod_int Try.underlying3 f1
  obtain ⟨n2, h2, _, _⟩ := DataW.trod_int Try.underlying3 f2
  obtain ⟨n3, h3, _, _⟩ := DataW.trod_int Try.underlying3 f3
  obtain ⟨n4, h4, _, _⟩ := DataW.trod_int Try.underlying3 f4
  obtain ⟨kk, hk, ok⟩ := open_val f5
  obtain ⟨vv, hv, ov⟩ := open_val f6
  have c0 : cs[0]? = some (.int .i64 n0) := one_of h0
  have c1 : cs[1]? = some (.int .i64 n1) := one_of h1
  have c2 : cs[2]? = some (.int .i64 n2) := one_of h2
  have c3 : cs[3]? = some (.int .i64 n3) := one_of h3
  have c4 : cs[4]? = some (.int .i64 n4) := one_of h4
  have hk' : (cs.drop 5).take 4 = kk.cs := hk
  have hv' : (cs.drop 9).take 4 = vv.cs := hv
  obtain ⟨d0, d1, d2, d3, d4, d5, d6, d7, d8, d9, d10, d11, d12, rfl⟩ := list13 cs hl
  obtain rfl := Option.some.inj c0
  obtain rfl := Option.some.inj c1
  obtain rfl := Option.some.inj c2
  obtain rfl := Option.some.inj c3
  obtain rfl := Option.some.inj c4
  refine ⟨⟨n0, n1, n2, n3, n4, kk, vv⟩, ?_, ok, ov⟩
  have e1 : [d5, d6, d7, d8] = kk.cs := hk'
  have e2 : [d9, d10, d11, d12] = vv.cs := hv'
  show [Value.int .i64 n0, .int .i64 n1, .int .i64 n2, .int .i64 n3, .int .i64 n4] ++ ([d5, d6, d7, d8] ++ [d9, d10, d11, d12]) = _
  rw [e1, e2]
  rfl
/-- a row of calls, as an argument -/
structure ActsAt (w : World) (a : Option Addr) (len cap : Nat) : Prop where
  le : len ≤ cap
  most : cap ≤ 9223372036854775807
  cell : ∀ i : Nat, i < len → ∃ x y, a = some x ∧ VOK (ActV.k y) ∧ VOK y.v ∧ ∀ (j : Nat) u, y.cs[j]? = some u → w.cell? ((x.add (i * 13)).add j) = some u
theorem open_acts {a : Option Addr} {len cap : Nat} {d : DataW H} {p : List MemPlace} (h : DataW.Trod enc Try.prog w base spare held 45 (.slice a len cap) d p) : ActsAt w a len cap := by
  obtain ⟨fuel, hf⟩ := h
  rcases DataW.trod_slice Try.underlying45 hf with ⟨hc, _⟩ | ⟨x, l, c, elems, rest, n, _, hc, _, hb, hl, hm, hlen, hel, _, _⟩
  · simp [Value.cells] at hc
    obtain ⟨rfl, rfl, rfl⟩ := hc
    exact ⟨Nat.le_refl _, by omega, fun i hi => absurd hi (Nat.not_lt_zero _)⟩
  · simp [Value.cells] at hc
    obtain ⟨rfl, rfl, rfl⟩ := hc
    refine ⟨hl, by unfold maxLen at hm; exact hm, fun i hi => ?_⟩
    have h1 := hel i hi
    rw [cellsA, List.getElem?_eq_getElem (by omega), Option.bind_eq_some_iff] at h1
    obtain ⟨cs, h2, h3⟩ := h1
    obtain ⟨y, rfl, ok, ov⟩ := open_act h3
    have h4 := World.cells?_some h2
    refine ⟨x, y, rfl, ok, ov, fun j u hu => ?_⟩
    have hj : j < 13 := (Array.getElem?_eq_some_iff.1 hu).1
    rw [h4.2.2 j hj, Array.getElem?_toList]
    exact hu
end
end Go.Proofs.Ytlihonbmopeemaa.Hp
end
