/- Texts on HeapA, joined. No conditions but those that each theorem states. -/
import Derived.Test.YtlihonbmopeemaaProg
import Derived.WalkKit
import Derived.KernelRfl
import Derived.LoopTactic
import Derived.Laws.Cover2
import Derived.Laws.AppendOwn
import Derived.Below
import Derived.WalkMore
import Derived.Lib.Hide
import Derived.Laws.Bits64b
import Derived.Deep.QuietTactic
import Derived.BigQuiet
import Derived.Test.YtlihonbmopeemaaBdWords
import Derived.Test.YtlihonbmopeemaaBdFloats
import Derived.OwnWalk
import Derived.Laws.IdiomCopy
import Derived.Deep.RegionHeld3
import Derived.Deep.AppendLies
import Derived.Deep.RegionLaw
import Derived.Deep.DeepCutAuto
section
namespace Go.Proofs.Ytlihonbmopeemaa.Hp
open Go Go.RowKit

/-- a value of a script -/
structure Val where
  k : Int
  n : Int
  s : ByteArray
  o : Int
def Val.v (x : Val) : Value := .agg #[.int .i64 x.k, .int .u64 x.n, .string x.s, .int .i64 x.o]
def mixI (n x : Int) : Int := IntKind.u64.wrap (Go.bits .xor .u64 n x * 1099511628211)
theorem mix_any (n x : Int) (b : Nat) (w : World) (h : w.cell? ⟨b, 0, none⟩ = some (.int .u64 n)) (hf : w.frozen? ⟨b, 0, none⟩ = false) :
    Calls Try.prog 91 #[.int .u64 x, .pointer (some ⟨b, 0, none⟩)] w fun e w' => e = .returned (.tuple #[]) ∧ w' = w.setCell ⟨b, 0, none⟩ (.int .u64 (mixI n x)) := by
  go_enter Try.func91, Try.ntmps91
  go_wp2
  go_end0
  exact ⟨rfl, rfl⟩
/-- while hashed runs: the value's box lies behind all that was there, and n behind it -/
structure St (W : World) (x : Val) (n : Int) (w : World) : Prop where
  below : Below W.heap.size W w
  box : w.heap[W.heap.size]? = some (.cells #[.int .i64 x.k, .int .u64 x.n, .string x.s, .int .i64 x.o] 34 (0, 0))
  num : w.heap[W.heap.size + 1]? = some (.cells #[.int .u64 n] 31 (0, 0))
theorem cell_of {w : World} {b : Nat} {c : Array Value} {e : TypeId} {fz : Nat × Nat} (h : w.heap[b]? = some (.cells c e fz)) (o : Nat) : w.cell? ⟨b, o, none⟩ = c[o]? := by
  unfold World.cell?
  rw [h]; rfl
theorem frozen_of {w : World} {b : Nat} {c : Array Value} {e : TypeId} (h : w.heap[b]? = some (.cells c e (0, 0))) (o : Nat) : w.frozen? ⟨b, o, none⟩ = false := by
  unfold World.frozen?
  rw [h]
  simp
theorem setCell_at {w : World} {b : Nat} {c : Array Value} {e : TypeId} {fz : Nat × Nat} (h : w.heap[b]? = some (.cells c e fz)) (o : Nat) (v : Value) : (w.setCell ⟨b, o, none⟩ v).heap[b]? = some (.cells (c.setIfInBounds o v) e fz) := by
  unfold World.setCell
  simp [Array.getElem?_modify, h]
theorem setCell_off {w : World} {b k : Nat} (h : k ≠ b) (o : Nat) (v : Value) : (w.setCell ⟨b, o, none⟩ v).heap[k]? = w.heap[k]? := Below.heap_setCell w ⟨b, o, none⟩ v k h
theorem St.mix {W : World} {x : Val} {n : Int} {w : World} (h : St W x n w) (y : Int) :
    Calls Try.prog 91 #[.int .u64 y, .pointer (some ⟨W.heap.size + 1, 0, none⟩)] w fun e w' => e = .returned (.tuple #[]) ∧ St W x (mixI n y) w' :=
  (mix_any n y (W.heap.size + 1) w (by rw [cell_of h.num]; rfl) (frozen_of h.num 0)).mono fun e w' ⟨h1, h2⟩ => ⟨h1, by
    subst h2
    exact ⟨h.below.setCell (Nat.le_succ _) _, by rw [setCell_off (by omega)]; exact h.box, by rw [setCell_at h.num]; rfl⟩⟩
theorem St.reads {W : World} {x : Val} {n : Int} {w : World} (h : St W x n w) :
    w.cell? ⟨W.heap.size, 0, none⟩ = some (.int .i64 x.k) ∧ w.cell? ⟨W.heap.size, 1, none⟩ = some (.int .u64 x.n) ∧ w.cell? ⟨W.heap.size, 2, none⟩ = some (.string x.s) ∧ w.cell? ⟨W.heap.size, 3, none⟩ = some (.int .i64 x.o) ∧
    w.cell? ⟨W.heap.size + 1, 0, none⟩ = some (.int .u64 n) := by
  refine ⟨?_, ?_, ?_, ?_, ?_⟩
  · rw [cell_of h.box]; rfl
  · rw [cell_of h.box]; rfl
  · rw [cell_of h.box]; rfl
  · rw [cell_of h.box]; rfl
  · rw [cell_of h.num]; rfl
def mixS (n : Int) (l : List UInt8) : Int := l.foldl (fun n c => mixI n (IntKind.u64.wrap c.toNat)) n
theorem mixS_snoc (n : Int) (s : ByteArray) (k : Nat) (h : k < s.size) : mixS n (s.data.toList.take (k + 1)) = mixI (mixS n (s.data.toList.take k)) (IntKind.u64.wrap ((s[k]).toNat : Nat)) := by
  have e : s.data.toList.take (k + 1) = s.data.toList.take k ++ [s[k]] := by
    rw [List.take_succ_eq_append_getElem (by simpa using h)]; rfl
  rw [e]
  unfold mixS
  rw [List.foldl_append]
  rfl
def headI (x : Val) : Int := mixI (mixI (mixI (mixI 14695981039346656037 (IntKind.u64.wrap x.k)) x.n) (x.n / 4294967296)) (IntKind.u64.wrap x.o)
def hashN (n : Int) : Int := bits .xor .u64 n (n / 536870912)
def hashI (x : Val) : Int := hashN (mixS (headI x) x.s.data.toList)
set_option maxHeartbeats 1000000 in
theorem hashed_any (x : Val) (hs : x.s.size ≤ maxLen) (W : World) : Calls Try.prog 74 #[x.v] W fun e w' => e = .returned (.int .u64 (hashI x)) ∧ Below W.heap.size W w' := by
  unfold maxLen at hs
  have hmf : ∀ (fn : Fn) (first cap : Array Value) (w : World), (Instr.makeFunc fn first cap).run Try.prog w = .ok (.func fn first cap) w := fun _ _ _ _ => rfl
  unfold Val.v
  go_enter Try.func74, Try.ntmps74
  go_wp2_with fail
  have h0 : St W x 14695981039346656037 ((W.alloc (Obj.cells #[Value.int IntKind.i64 x.k, Value.int IntKind.u64 x.n, Value.string x.s, Value.int IntKind.i64 x.o] 34)).alloc (Obj.cells #[Value.int IntKind.u64 14695981039346656037] 31)) :=
    ⟨((Below.refl _ _).alloc (Nat.le_refl _) _).alloc (by simp) _, (Below.heap_alloc _ _ _ (by simp)).trans (heap_alloc_new _ _), by have := heap_alloc_new (W.alloc (Obj.cells #[Value.int IntKind.i64 x.k, Value.int IntKind.u64 x.n, Value.string x.s, Value.int IntKind.i64 x.o] 34)) (Obj.cells #[Value.int IntKind.u64 14695981039346656037] 31); rwa [show (W.alloc (Obj.cells #[Value.int IntKind.i64 x.k, Value.int IntKind.u64 x.n, Value.string x.s, Value.int IntKind.i64 x.o] 34)).heap.size = W.heap.size + 1 by simp] at this⟩
  refine (h0.mix _).mono ?_
  rintro e w1 ⟨rfl, h1⟩
  obtain ⟨k1, n1, s1, o1, m1⟩ := h1.reads
  go_wp2_with fail
  refine (h1.mix _).mono ?_
  rintro e w2 ⟨rfl, h2⟩
  obtain ⟨k2, n2, s2, o2, m2⟩ := h2.reads
  go_wp2_with fail
  refine (h2.mix _).mono ?_
  rintro e w3 ⟨rfl, h3⟩
  obtain ⟨k3, n3, s3, o3, m3⟩ := h3.reads
  go_wp2_with fail
  refine (h3.mix _).mono ?_
  rintro e w4 ⟨rfl, h4⟩
  obtain ⟨k4, n4, s4, o4, m4⟩ := h4.reads
  go_wp2_with fail
  clear k1 n1 s1 o1 m1 k2 n2 s2 o2 m2 k3 n3 s3 o3 m3 h0
  have hh : St W x (headI x) w4 := h4
  have he : headI x = mixI (mixI (mixI (mixI 14695981039346656037 (IntKind.u64.wrap x.k)) x.n) (x.n / 4294967296)) (IntKind.u64.wrap x.o) := rfl
  rw [← he] at m4
  clear he h1 h2 h3 h4 k4 n4 s4 o4 m4
  go_loopw [29] (fun i wr => ∃ k : Nat, k ≤ x.s.size ∧ i = .int .i64 k ∧ St W x (mixS (headI x) (x.s.data.toList.take k)) wr) (fun i _ => x.s.size - (intOf i).toNat)
  case atStart => exact ⟨0, Nat.zero_le _, rfl, hh⟩
  case round =>
    obtain ⟨k, hk, rfl, hr⟩ := hrel
    obtain ⟨kr, nr, sr, or, mr⟩ := hr.reads
    by_cases hlt : k < x.s.size
    · go_wp2_with fail
      refine (hr.mix _).mono ?_
      rintro e w5 ⟨rfl, h5⟩
      rw [← mixS_snoc _ _ _ hlt] at h5
      clear kr nr sr or mr
      go_wp2_with fail
      go_roundw
      case rel => exact ⟨k + 1, by omega, by go_num, h5⟩
      case measure => simp [intOf]; omega
    · have e : k = x.s.size := by omega
      subst e
      have el : x.s.data.toList.take x.s.size = x.s.data.toList := List.take_of_length_le (by simp)
      rw [el] at mr hr
      go_wp2_with fail
      go_ret
      exact ⟨rfl, hr.below⟩
end Go.Proofs.Ytlihonbmopeemaa.Hp
end
section
namespace Go.Proofs.Ytlihonbmopeemaa.HpLaw

variable {K : Type}

/-- the j-th slot that is probed from a on -/
def slot (hash : List Nat) (a j : Nat) : Nat := hash.getD ((a + j) % hash.length) 0
/-- the first m entries are laid: each key that lives is met on its way, ahead of a free slot -/
structure HashOK (H : K → Nat) (kd : List (Option K)) (m : Nat) (hash : List Nat) : Prop where
  pos : 0 < hash.length
  le : ∀ s, hash.getD s 0 ≤ m
  reach : ∀ i k, i < m → kd[i]? = some (some k) → ∃ d, d < hash.length ∧ slot hash (H k) d = i + 1 ∧ ∀ e, e < d → slot hash (H k) e ≠ 0
  count : hash.countP (fun x => x != 0) ≤ m

theorem getD_set {l : List Nat} {i : Nat} (hi : i < l.length) (x j : Nat) : (l.set i x).getD j 0 = if j = i then x else l.getD j 0 := by
  rw [List.getD_eq_getElem?_getD, List.getD_eq_getElem?_getD, List.getElem?_set]
  by_cases h : i = j
  · rw [if_pos h, if_pos h.symm, if_pos (by omega)]; rfl
  · rw [if_neg h, if_neg (fun e => h e.symm)]
theorem count_set (p : Nat → Bool) : ∀ (l : List Nat) (i x : Nat), i < l.length → p (l.getD i 0) = false → p x = true → (l.set i x).countP p = l.countP p + 1
  | [], i, x, h, _, _ => absurd h (Nat.not_lt_zero _)
  | a :: l, 0, x, _, h1, h2 => by
    have h1' : p a = false := h1
    rw [List.set_cons_zero, List.countP_cons, List.countP_cons, h2, h1']
    rfl
  | a :: l, i + 1, x, h, h1, h2 => by
    rw [List.set_cons_succ, List.countP_cons, List.countP_cons, count_set p l i x (Nat.lt_of_succ_lt_succ h) h1 h2]
    omega
theorem free_some : ∀ (l : List Nat), l.countP (fun x => x != 0) < l.length → ∃ s, s < l.length ∧ l.getD s 0 = 0
  | [], h => absurd h (Nat.lt_irrefl _)
  | a :: l, h => by
    by_cases c : a = 0
    · exact ⟨0, by simp, c⟩
    · rw [List.countP_cons, if_pos (by simpa using c), List.length_cons] at h
      obtain ⟨s, h1, h2⟩ := free_some l (by omega)
      exact ⟨s + 1, by simpa using h1, h2⟩
theorem HashOK.free {H : K → Nat} {kd : List (Option K)} {m : Nat} {hash : List Nat} (h : HashOK H kd m hash) (hm : m < hash.length) : ∃ s, s < hash.length ∧ hash.getD s 0 = 0 :=
  free_some hash (Nat.lt_of_le_of_lt h.count hm)
/-- the way from one slot to another -/
def way (R s a : Nat) : Nat := (s + R - a) % R
theorem way_lt {R s a : Nat} (hs : s < R) (ha : a < R) (h : a ≠ s) : way R s ((a + 1) % R) < way R s a := by
  unfold way
  by_cases c : a + 1 = R
  · rw [c, Nat.mod_self, Nat.sub_zero, Nat.add_mod_right, Nat.mod_eq_of_lt hs, Nat.mod_eq_of_lt (by omega)]; omega
  · rw [Nat.mod_eq_of_lt (show a + 1 < R by omega)]
    by_cases d : a < s
    · rw [show s + R - (a + 1) = s - (a + 1) + R by omega, Nat.add_mod_right, show s + R - a = s - a + R by omega, Nat.add_mod_right, Nat.mod_eq_of_lt (by omega), Nat.mod_eq_of_lt (by omega)]; omega
    · rw [Nat.mod_eq_of_lt (by omega), Nat.mod_eq_of_lt (by omega)]; omega
theorem next_at (R a j : Nat) : ((a + j) % R + 1) % R = (a + (j + 1)) % R := by
  rw [Nat.mod_add_mod, Nat.add_assoc]
/-- where probing ends at a free slot, each key was met -/
theorem HashOK.met {H : K → Nat} {kd : List (Option K)} {m : Nat} {hash : List Nat} (h : HashOK H kd m hash) {k : K} {j : Nat} (hj : slot hash (H k) j = 0) {i : Nat} (hi : i < m) (hk : kd[i]? = some (some k)) :
    ∃ e, e < j ∧ slot hash (H k) e = i + 1 := by
  obtain ⟨d, hd, h1, h2⟩ := h.reach i k hi hk
  refine ⟨d, ?_, h1⟩
  rcases Nat.lt_or_ge d j with c | c
  · exact c
  · rcases Nat.lt_or_eq_of_le c with c | c
    · exact absurd hj (h2 j c)
    · subst c; omega
theorem slot_round (hash : List Nat) (a j : Nat) : slot hash a (j + hash.length) = slot hash a j := by
  unfold slot
  rw [← Nat.add_assoc, Nat.add_mod_right]
theorem first_lt {hash : List Nat} (hp : 0 < hash.length) {a d : Nat} (h0 : slot hash a d = 0) (h1 : ∀ e, e < d → slot hash a e ≠ 0) : d < hash.length := by
  rcases Nat.lt_or_ge d hash.length with c | c
  · exact c
  · refine absurd ?_ (h1 (d - hash.length) (by omega))
    rw [← slot_round, Nat.sub_add_cancel c]; exact h0
theorem HashOK.lay {H : K → Nat} {kd : List (Option K)} {m : Nat} {hash : List Nat} (h : HashOK H kd m hash) {k : K} (hk : kd[m]? = some (some k)) {d : Nat} (h0 : slot hash (H k) d = 0) (h1 : ∀ e, e < d → slot hash (H k) e ≠ 0) :
    HashOK H kd (m + 1) (hash.set ((H k + d) % hash.length) (m + 1)) := by
  have hs : (H k + d) % hash.length < hash.length := Nat.mod_lt _ h.pos
  have hd := first_lt h.pos h0 h1
  have key : ∀ a e, slot (hash.set ((H k + d) % hash.length) (m + 1)) a e = if (a + e) % hash.length = (H k + d) % hash.length then m + 1 else slot hash a e := by
    intro a e
    unfold slot
    rw [List.length_set, getD_set hs]
  refine ⟨by rw [List.length_set]; exact h.pos, ?_, ?_, ?_⟩
  · intro s
    rw [getD_set hs]
    split
    · exact Nat.le_refl _
    · exact Nat.le_succ_of_le (h.le s)
  · intro i k' hi hk'
    rw [List.length_set]
    rcases Nat.lt_or_eq_of_le (Nat.lt_succ_iff.1 hi) with c | c
    · obtain ⟨d', g1, g2, g3⟩ := h.reach i k' c hk'
      refine ⟨d', g1, ?_, ?_⟩
      · rw [key]
        split
        · rename_i e
          have : slot hash (H k') d' = slot hash (H k) d := by unfold slot; rw [e]
          omega
        · exact g2
      · intro e he
        rw [key]
        split
        · omega
        · exact g3 e he
    · subst c
      have hkk : k' = k := by
        have := hk'.symm.trans hk
        exact Option.some.inj (Option.some.inj this)
      subst hkk
      refine ⟨d, hd, ?_, ?_⟩
      · rw [key, if_pos rfl]
      · intro e he
        rw [key]
        split
        · omega
        · exact h1 e he
  · rw [count_set _ _ _ _ hs (by rw [show hash.getD ((H k + d) % hash.length) 0 = slot hash (H k) d from rfl, h0]; rfl) (by rfl)]
    exact Nat.succ_le_succ h.count
theorem HashOK.fresh (H : K → Nat) (kd : List (Option K)) {R : Nat} (h : 0 < R) : HashOK H kd 0 (List.replicate R 0) := by
  refine ⟨by simpa using h, ?_, ?_, ?_⟩
  · intro s
    rw [List.getD_eq_getElem?_getD, List.getElem?_replicate]
    split <;> exact Nat.le_refl _
  · intro i k hi _; omega
  · rw [List.countP_replicate]; exact Nat.le_refl _
/-- what has gone is no harm -/
theorem HashOK.dead {H : K → Nat} {kd kd' : List (Option K)} {m : Nat} {hash : List Nat} (h : HashOK H kd m hash) (hs : ∀ (i : Nat) (k : K), kd'[i]? = some (some k) → kd[i]? = some (some k)) : HashOK H kd' m hash :=
  ⟨h.pos, h.le, fun i k hi hk => h.reach i k hi (hs i k hk), h.count⟩
theorem HashOK.more {H : K → Nat} {kd kd' : List (Option K)} {m : Nat} {hash : List Nat} (h : HashOK H kd m hash) (hs : ∀ i : Nat, i < m → kd'[i]? = kd[i]?) : HashOK H kd' m hash :=
  ⟨h.pos, h.le, fun i k hi hk => h.reach i k hi (by rw [← hs i hi]; exact hk), h.count⟩

/-! ### the array part -/
structure ArrHas (num : Nat → K) (kd : List (Option K)) (array : List Nat) : Prop where
  has : ∀ j i : Nat, array[j]? = some i → kd[i]? = some (some (num (j + 1)))
structure ArrOK (num : Nat → K) (kd : List (Option K)) (array : List Nat) : Prop where
  has : ∀ j i : Nat, array[j]? = some i → kd[i]? = some (some (num (j + 1)))
  max : ∀ i : Nat, kd[i]? ≠ some (some (num (array.length + 1)))
def Once (kd : List (Option K)) : Prop := ∀ (i j : Nat) (k : K), kd[i]? = some (some k) → kd[j]? = some (some k) → i = j

theorem nodup_le : ∀ (n : Nat) (l : List Nat), l.Nodup → (∀ x ∈ l, x < n) → l.length ≤ n
  | 0, l, _, h => by
    cases l with
    | nil => exact Nat.le_refl _
    | cons a l => exact absurd (h a (List.mem_cons_self ..)) (Nat.not_lt_zero _)
  | n + 1, l, hn, h => by
    have h1 := nodup_le n (l.erase n) (hn.erase n) (fun x hx => by
      have h2 := h x (List.mem_of_mem_erase hx)
      have h3 : x ≠ n := fun e => by subst e; exact hn.not_mem_erase hx
      omega)
    have h2 : l.length ≤ (l.erase n).length + 1 := by
      rw [List.length_erase]; split <;> omega
    omega
theorem ArrHas.le {num : Nat → K} {kd : List (Option K)} {array : List Nat} (h : ArrHas num kd array) (hi : ∀ a b, a ≤ array.length → b ≤ array.length → num a = num b → a = b) : array.length ≤ kd.length := by
  refine nodup_le _ _ ?_ ?_
  · rw [List.Nodup, List.pairwise_iff_getElem]
    intro i j hil hj hij e
    have hs : array[i]? = some array[i] := List.getElem?_eq_getElem hil
    have hs' : array[j]? = some array[i] := by rw [List.getElem?_eq_getElem hj, e]
    have a := h.has i _ hs
    have b := h.has j _ hs'
    have := hi _ _ (by omega) (by omega) (Option.some.inj (Option.some.inj (a.symm.trans b)))
    omega
  · intro x hx
    obtain ⟨j, hj⟩ := List.getElem?_of_mem hx
    have := h.has j x hj
    exact (List.getElem?_eq_some_iff.1 this).1
end Go.Proofs.Ytlihonbmopeemaa.HpLaw
end
section
namespace Go.Proofs.Ytlihonbmopeemaa.Hp
open Go Go.RowKit Go.Proofs.Ytlihonbmopeemaa.HpLaw

def Val.cs (x : Val) : List Value := [.int .i64 x.k, .int .u64 x.n, .string x.s, .int .i64 x.o]
/-- an entry of a table -/
structure Ent where
  key : Val
  val : Val
  dead : Bool
def Ent.cs (e : Ent) : List Value := e.key.cs ++ (e.val.cs ++ [.bool e.dead])
def entCells (l : List Ent) : List Value := l.flatMap Ent.cs
def i32s (l : List Nat) : List Value := l.map fun (x : Nat) => .int .i32 (x : Int)
theorem ent_len (e : Ent) : e.cs.length = 9 := rfl
theorem entCells_at (l : List Ent) (i j : Nat) (hj : j < 9) (hi : i < l.length) : (entCells l)[i * 9 + j]? = (l[i]).cs[j]? := by
  induction l generalizing i with
  | nil => exact absurd hi (Nat.not_lt_zero _)
  | cons a l ih =>
    have e : entCells (a :: l) = a.cs ++ entCells l := List.flatMap_cons ..
    rw [e]
    cases i with
    | zero => rw [Nat.zero_mul, Nat.zero_add, List.getElem?_append_left (by rw [ent_len]; exact hj)]; rfl
    | succ i =>
      rw [List.getElem?_append_right (by rw [ent_len]; omega), ent_len, show (i + 1) * 9 + j - 9 = i * 9 + j by omega, ih i (by simpa using hi)]
      rfl
/-- a slice's cells read as the list tells -/
theorem row_cell {w : World} {base : Nat} {e : TypeId} {size : Nat} {g n cap : Nat} {xs : List Value} (h : w.ownsRow base e size (.slice (some ⟨g, 0, none⟩) n cap) n xs) {j : Nat} {u : Value} (hu : xs[j]? = some u) : w.cell? ⟨g, j, none⟩ = some u := by
  rcases h.2 with ⟨h0, _⟩ | ⟨g', cap', cur, he, _, hg, _, _, _, ht⟩
  · cases h0
  · cases he
    rw [cell_of hg]
    rw [← ht, List.getElem?_take] at hu
    split at hu
    · simpa using hu
    · cases hu

structure Tbl where
  l : List Ent
  hash : List Nat
  array : List Nat
def own (v : Value) : List Nat := v.ownBlock.toList
/-- table T lies at block p, and in the blocks F -/
structure TblAt (w : World) (p : Nat) (T : Tbl) (lv hv av : Value) : Prop where
  head : ∃ n : Int, w.heap[p]? = some (.cells #[lv, .int .i64 n, hv, av] 72 (0, 0))
  l : w.ownsRow 0 82 9 lv T.l.length (entCells T.l)
  hash : w.ownsRow 0 21 1 hv T.hash.length (i32s T.hash)
  array : w.ownsRow 0 21 1 av T.array.length (i32s T.array)
  apart : (p :: (own lv ++ (own hv ++ own av))).Nodup

def sameV (a b : Val) : Bool := a.k == b.k && (a.n == b.n && (a.s.toList == b.s.toList && (a.o == b.o)))
theorem eqV (d : Nat) (w : World) (x0 y0 : Int) (x1 y1 : Int) (x2 y2 : ByteArray) (x3 y3 : Int) :
    (Op.equalIn (d + 2) 34 (.agg #[.int .i64 x0, .int .u64 x1, .string x2, .int .i64 x3]) (.agg #[.int .i64 y0, .int .u64 y1, .string y2, .int .i64 y3])).run Try.prog w = .ok (sameV ⟨x0, x1, x2, x3⟩ ⟨y0, y1, y2, y3⟩) w := by
  refine Go.Proofs.YtlihonbmopeemaaW.PrintWords.eqA_of Try.underlying34 (by kernel_rfl) ?_
  refine Go.Proofs.YtlihonbmopeemaaW.PrintWords.eqf_cons (by rfl) (by go_simp; rfl) (by go_simp; rfl) (by go_simp) ?_
  refine Go.Proofs.YtlihonbmopeemaaW.PrintWords.eqf_cons (by rfl) (by go_simp; rfl) (by go_simp; rfl) (by go_simp) ?_
  refine Go.Proofs.YtlihonbmopeemaaW.PrintWords.eqf_cons (by rfl) (by go_simp; rfl) (by go_simp; rfl) (by go_simp) ?_
  exact Go.Proofs.YtlihonbmopeemaaW.PrintWords.eqf_last (by rfl) (by go_simp; rfl) (by go_simp; rfl) (by go_simp)
attribute [local go_sem high] eqV
theorem sameV_iff (a b : Val) : sameV a b = true ↔ a = b := by
  obtain ⟨a1, a2, a3, a4⟩ := a
  obtain ⟨b1, b2, b3, b4⟩ := b
  unfold sameV
  have e : a3.toList = b3.toList ↔ a3 = b3 := by
    rw [ByteArray.toList_eq, ByteArray.toList_eq]
    obtain ⟨⟨a⟩⟩ := a3
    obtain ⟨⟨b⟩⟩ := b3
    simp
  simp only [Bool.and_eq_true, beq_iff_eq, Val.mk.injEq, e]
theorem mask_is (n : Int) (h0 : 0 ≤ n) (h1 : n < 18446744073709551616) {R r : Nat} (hr : R = 2 ^ r) (hR : R ≤ 67108864) :
    bits .and .u64 n ((R : Int) - 1) = ((n.toNat % R : Nat) : Int) := by
  have hp : 0 < R := by rw [hr]; exact Nat.two_pow_pos r
  obtain ⟨m, rfl⟩ := Int.eq_ofNat_of_zero_le h0
  rw [show ((R : Int) - 1) = ((R - 1 : Nat) : Int) by omega, bits_and_u64_nat _ _ (by omega) (by omega), Int.toNat_natCast, hr, Nat.and_two_pow_sub_one_eq_mod]
theorem bits_range (op : BinOp) (x y : Int) : 0 ≤ bits op .u64 x y ∧ bits op .u64 x y < 18446744073709551616 := by
  unfold bits
  simp only [IntKind.wrap_u64]
  omega
theorem hash_range (x : Val) : 0 ≤ hashI x ∧ hashI x < 18446744073709551616 := by unfold hashI hashN; exact bits_range _ _ _
def HV (x : Val) : Nat := (hashI x).toNat
def kds (l : List Ent) : List (Option Val) := l.map fun e => if e.dead then none else some e.key
structure FindR (W : World) (T : Tbl) (x : Val) (a : Value) (wr : World) : Prop where
  at_ : ∃ j : Nat, a = .int .u64 (((HV x + j) % T.hash.length : Nat) : Int) ∧ ∀ e, e < j → slot T.hash (HV x) e ≠ 0 ∧ (kds T.l)[slot T.hash (HV x) e - 1]? ≠ some (some x)
  below : Below W.heap.size W wr
  box : ∀ o, wr.cell? ⟨W.heap.size, o, none⟩ = x.cs[o]?

def FindIs (T : Tbl) (x : Val) (r : Int) : Prop := (r = -1 ∧ ∀ i : Nat, (kds T.l)[i]? ≠ some (some x)) ∨ ∃ i : Nat, r = i ∧ (kds T.l)[i]? = some (some x)
def FindP (W : World) (T : Tbl) (x : Val) (e : Ending) (w' : World) : Prop := ∃ r : Int, e = .returned (.int .i64 r) ∧ FindIs T x r ∧ Below W.heap.size W w'
theorem kds_at {l : List Ent} {i : Nat} (h : i < l.length) : (kds l)[i]? = some (if l[i].dead then none else some l[i].key) := by
  unfold kds
  rw [List.getElem?_map, List.getElem?_eq_getElem h]; rfl
theorem kds_len (l : List Ent) : (kds l).length = l.length := List.length_map ..
theorem Below.drewN {B : Nat} {w w' : World} (h : Below B w w') (n : Nat) : Below B w (w'.drewN n) := ⟨h.os, h.tape, h.output, h.size, h.block⟩
theorem find_walk (p : Nat) (T : Tbl) (lv hv av : Value) (x : Val) (hx : x.s.size ≤ maxLen) (W : World) (h : TblAt W p T lv hv av) (hh : 0 < T.hash.length) (r : Nat) (hr : T.hash.length = 2 ^ r) (hR : T.hash.length ≤ 67108864) (hL : T.l.length ≤ 67108864)
    (hH : HashOK HV (kds T.l) T.l.length T.hash) (s : Nat) (hs : s < T.hash.length) (hs0 : T.hash.getD s 0 = 0) :
    Calls Try.prog 51 #[.pointer (some ⟨p, 0, none⟩), x.v] W (FindP W T x) := by
  have Hr := Lib.hid hr
  have Hs0 := Lib.hid hs0
  clear hr hs0
  obtain ⟨n, hp⟩ := h.head
  have hc := h.hash
  rcases hc.2 with ⟨_, h0⟩ | ⟨g, cap, cur, rfl, _, hg, hn, hm, _, _⟩
  · omega
  have hpb : p < W.heap.size := (Array.getElem?_eq_some_iff.1 hp).1
  have hgb : g < W.heap.size := (Array.getElem?_eq_some_iff.1 hg).1
  have p0 : W.cell? ⟨p, 0, none⟩ = some lv := by rw [cell_of hp]; rfl
  have p2 : W.cell? ⟨p, 2, none⟩ = some (.slice (some ⟨g, 0, none⟩) T.hash.length cap) := by rw [cell_of hp]; rfl
  have hq : (T.hash.length == 0) = false := by rw [beq_eq_false_iff_ne]; omega
  clear hp hg hn
  unfold maxLen at hm
  unfold Val.v
  go_enter Try.func51, Try.ntmps51
  have ha : ∀ b o, b < W.heap.size → ∀ O, (W.alloc O).cell? ⟨b, o, none⟩ = W.cell? ⟨b, o, none⟩ := fun b o hb O => World.cell?_of_block (Below.heap_alloc W O b hb)
  have hba : ∀ O, Below W.heap.size W (W.alloc O) := fun O => (Below.refl _ _).alloc (Nat.le_refl _) O
  go_wp2_with fail
  go_step3
  go_wp2_with fail
  go_step3
  go_wp2_with fail
  refine (hashed_any x hx _).mono ?_
  rintro e w1 ⟨rfl, h1⟩
  have hb1 : Below W.heap.size W w1 := (hba _).trans (h1.mono (by simp))
  have hx1 : ∀ o, w1.cell? ⟨W.heap.size, o, none⟩ = (W.alloc (Obj.cells #[Value.int IntKind.i64 x.k, Value.int IntKind.u64 x.n, Value.string x.s, Value.int IntKind.i64 x.o] 34)).cell? ⟨W.heap.size, o, none⟩ := fun o => h1.cell (by simp)
  go_wp2_with fail
  rw [mask_is (hashI x) (hash_range x).1 (hash_range x).2 Hr.out hR]
  have hx2 : ∀ o, w1.cell? ⟨W.heap.size, o, none⟩ = x.cs[o]? := by
    intro o
    rw [hx1 o, cell_of (heap_alloc_new _ _)]; exact (List.getElem?_toArray ..)
  clear hx1 h1 ha hba hq
  have hR0 : FindR W T x (.int .u64 (((hashI x).toNat % T.hash.length : Nat) : Int)) w1 := ⟨⟨0, rfl, fun e he => absurd he (Nat.not_lt_zero _)⟩, hb1, hx2⟩
  clear hb1 hx2
  go_loopw [6] (fun a wr => FindR W T x a wr) (fun a _ => way T.hash.length s (intOf a).toNat)
  case atStart => exact hR0
  case round =>
    obtain ⟨⟨j, rfl, hj⟩, hb, hbox⟩ := hrel
    have hg1 : ∀ o, wr.cell? ⟨g, o, none⟩ = W.cell? ⟨g, o, none⟩ := fun o => hb.cell hgb
    have hp1 : ∀ o, wr.cell? ⟨p, o, none⟩ = W.cell? ⟨p, o, none⟩ := fun o => hb.cell hpb
    have hal : (HV x + j) % T.hash.length < T.hash.length := Nat.mod_lt _ hh
    have hcell : W.cell? ⟨g, (HV x + j) % T.hash.length, none⟩ = some (.int .i32 ((slot T.hash (HV x) j : Nat) : Int)) := by
      refine row_cell hc ?_
      unfold i32s slot
      rw [List.getElem?_map, List.getD_eq_getElem?_getD, List.getElem?_eq_getElem hal]; rfl
    have hle : slot T.hash (HV x) j ≤ T.l.length := hH.le _
    have Hj : Hid (∀ e, e < j → slot T.hash (HV x) e ≠ 0 ∧ (kds T.l)[slot T.hash (HV x) e - 1]? ≠ some (some x)) := hj
    have Hs : Hid (slot T.hash (HV x) j = T.hash.getD ((HV x + j) % T.hash.length) 0) := rfl
    obtain ⟨v, Hsl⟩ : ∃ v, Hid (v = slot T.hash (HV x) j) := ⟨_, rfl⟩
    obtain ⟨a, Ha⟩ : ∃ a, Hid ((HV x + j) % T.hash.length = a) := ⟨_, rfl⟩
    rw [← Hsl.out] at hcell hle Hs
    rw [Ha.out] at hcell hal Hs
    have HA := Ha.out
    have hb0 := hbox 0
    have hb1 := hbox 1
    have hb2 := hbox 2
    have hb3 := hbox 3
    simp only [Val.cs, List.getElem?_cons_zero, List.getElem?_cons_succ] at hb0 hb1 hb2 hb3
    have Hbox := Lib.hid hbox
    clear hj hbox
    rw [HA]
    clear HA
    rcases Nat.eq_zero_or_pos v with hv | hv
    · subst hv
      have hmiss : ∀ i : Nat, (kds T.l)[i]? ≠ some (some x) := by
        intro i hi
        have hil : i < T.l.length := by rw [← kds_len]; exact (List.getElem?_eq_some_iff.1 hi).1
        obtain ⟨e, he, h2⟩ := hH.met (j := j) Hsl.out.symm hil hi
        have := (Hj.out e he).2
        rw [h2] at this
        exact this hi
      have Hm := Lib.hid hmiss
      clear hmiss
      go_wp2_with fail
      rw [Exit.noGoto_ret]
      go_ret
      exact ⟨-1, rfl, .inl ⟨rfl, Hm.out⟩, hb⟩
    · obtain ⟨i, rfl⟩ : ∃ i, v = i + 1 := ⟨v - 1, by omega⟩
      rcases h.l.2 with ⟨_, hl0⟩ | ⟨lg, lcap, lcur, rfl, _, hlg, hln, hlm, _, _⟩
      · omega
      have hlb : lg < W.heap.size := (Array.getElem?_eq_some_iff.1 hlg).1
      have hl1 : ∀ o, wr.cell? ⟨lg, o, none⟩ = W.cell? ⟨lg, o, none⟩ := fun o => hb.cell hlb
      have hil : i < T.l.length := by omega
      have q0 : W.cell? ⟨lg, i * 9, none⟩ = some (.int .i64 T.l[i].key.k) := row_cell h.l (entCells_at T.l i 0 (by omega) hil)
      have q1 : W.cell? ⟨lg, i * 9 + 1, none⟩ = some (.int .u64 T.l[i].key.n) := row_cell h.l (entCells_at T.l i 1 (by omega) hil)
      have q2 : W.cell? ⟨lg, i * 9 + 2, none⟩ = some (.string T.l[i].key.s) := row_cell h.l (entCells_at T.l i 2 (by omega) hil)
      have q3 : W.cell? ⟨lg, i * 9 + 3, none⟩ = some (.int .i64 T.l[i].key.o) := row_cell h.l (entCells_at T.l i 3 (by omega) hil)
      have q8 : W.cell? ⟨lg, i * 9 + 8, none⟩ = some (.bool T.l[i].dead) := row_cell h.l (entCells_at T.l i 8 (by omega) hil)
      have HT := Lib.hid (kds_at hil)
      clear hlg
      generalize T.l[i] = en at *
      have hway : a ≠ s := fun c => by have h1 := Hs.out; have h2 := Hs0.out; rw [← c] at h2; omega
      have Hn : Hid (bits .and .u64 ((a : Int) + 1) ((T.hash.length : Int) - 1) = (((HV x + (j + 1)) % T.hash.length : Nat) : Int)) := by
        show bits .and .u64 ((a : Int) + 1) ((T.hash.length : Int) - 1) = _
        rw [mask_is _ (by omega) (by omega) Hr.out hR, ← next_at, Ha.out]
        rfl
      have Hm : Hid (way T.hash.length s ((HV x + (j + 1)) % T.hash.length) < way T.hash.length s a) := by
        show way T.hash.length s ((HV x + (j + 1)) % T.hash.length) < way T.hash.length s a
        rw [← next_at, Ha.out]
        exact way_lt hs hal hway
      have Hg : Hid ((kds T.l)[i]? ≠ some (some x) → ∀ e, e < j + 1 → slot T.hash (HV x) e ≠ 0 ∧ (kds T.l)[slot T.hash (HV x) e - 1]? ≠ some (some x)) := by
        intro hn e he
        rcases Nat.lt_or_eq_of_le (Nat.lt_succ_iff.1 he) with c | c
        · exact Hj.out e c
        · subst c
          rw [← Hsl.out]
          exact ⟨Nat.succ_ne_zero _, hn⟩
      go_wp2_with fail
      by_cases hd : en.dead = true
      · have Hk : Hid ((kds T.l)[i]? ≠ some (some x)) := by
          show (kds T.l)[i]? ≠ some (some x)
          rw [HT.out, if_pos hd]
          intro h; cases h
        go_quiet (skip)
        go_wp2_with fail
        rw [Hn.out]
        exact ⟨⟨⟨j + 1, rfl, Hg.out Hk.out⟩, Below.drewN hb _, fun o => Hbox.out o⟩, Hm.out⟩
      · have hd' : en.dead = false := by simpa using hd
        clear hd
        cases hk : sameV en.key x
        · have Hk : Hid ((kds T.l)[i]? ≠ some (some x)) := by
            show (kds T.l)[i]? ≠ some (some x)
            rw [HT.out, hd']
            intro h
            have := (sameV_iff en.key x).2 (Option.some.inj (Option.some.inj h))
            rw [hk] at this
            cases this
          go_quiet (skip)
          go_wp2_with fail
          rw [Hn.out]
          exact ⟨⟨⟨j + 1, rfl, Hg.out Hk.out⟩, Below.drewN hb _, fun o => Hbox.out o⟩, Hm.out⟩
        · have Hk : Hid ((kds T.l)[i]? = some (some x)) := by
            show (kds T.l)[i]? = some (some x)
            rw [HT.out, hd', (sameV_iff en.key x).1 hk]
            rfl
          go_quiet (skip)
          go_wp2_with fail
          rw [Exit.noGoto_ret]
          go_ret
          exact ⟨i, rfl, .inr ⟨i, rfl, Hk.out⟩, Below.drewN hb _⟩
end Go.Proofs.Ytlihonbmopeemaa.Hp
end
section
namespace Go.Proofs.Ytlihonbmopeemaa.Hp
open Go Go.RowKit Go.Proofs.Ytlihonbmopeemaa.HpLaw

/-- of the blocks that were there, none but those of B has turned -/
structure Chg (B : List Nat) (w w' : World) : Prop where
  os : w'.os = w.os
  tape : w'.tape = w.tape
  output : w'.output = w.output
  size : w.heap.size ≤ w'.heap.size
  block : ∀ k, k < w.heap.size → k ∉ B → w'.heap[k]? = w.heap[k]?
theorem Chg.refl (B : List Nat) (w : World) : Chg B w w := ⟨rfl, rfl, rfl, Nat.le_refl _, fun _ _ _ => rfl⟩
theorem Chg.of_below {B : List Nat} {w w' : World} (h : Below w.heap.size w w') : Chg B w w' := ⟨h.os, h.tape, h.output, h.size, fun k hk _ => h.block k hk⟩
theorem Chg.of_grown {w w' : World} {row : Option Nat} (h : w.grownBy w' row) : Chg row.toList w w' :=
  ⟨h.os, h.tape, h.output, h.size, fun k hk hn => h.block k hk (fun e => hn (by rw [← e]; exact List.mem_singleton.2 rfl))⟩
/-- two steps: what the second may turn was turned by the first, too, or is new -/
theorem Chg.trans {B B' : List Nat} {a b c : World} (h : Chg B a b) (k : Chg B' b c) (hB : ∀ x ∈ B', x < a.heap.size → x ∈ B) : Chg B a c :=
  ⟨k.os.trans h.os, k.tape.trans h.tape, k.output.trans h.output, Nat.le_trans h.size k.size,
    fun x hx hn => (k.block x (Nat.lt_of_lt_of_le hx h.size) (fun e => hn (hB x e hx))).trans (h.block x hx hn)⟩
theorem Chg.mono {B B' : List Nat} {a b : World} (h : Chg B a b) (hB : ∀ x ∈ B, x < a.heap.size → x ∈ B') : Chg B' a b :=
  ⟨h.os, h.tape, h.output, h.size, fun x hx hn => h.block x hx (fun e => hn (hB x e hx))⟩
theorem Chg.below {a b : World} (h : Chg [] a b) : Below a.heap.size a b := ⟨h.os, h.tape, h.output, h.size, fun k hk => h.block k hk (List.not_mem_nil)⟩
theorem Chg.below_of {B : List Nat} {a b : World} (h : Chg B a b) {N : Nat} (hN : N ≤ a.heap.size) (hB : ∀ x ∈ B, N ≤ x) : Below N a b :=
  ⟨h.os, h.tape, h.output, h.size, fun k hk => h.block k (by omega) (fun e => by have := hB k e; omega)⟩
theorem row_kept {B : List Nat} {w w' : World} {base : Nat} {e : TypeId} {size : Nat} {v : Value} {n : Nat} {xs : List Value} (h : w.ownsRow base e size v n xs) (hc : Chg B w w') (hn : ∀ x ∈ own v, x ∉ B) : w'.ownsRow base e size v n xs := by
  refine ⟨h.1, ?_⟩
  rcases h.2 with hnil | ⟨g, cap, cur, rfl, hb, hgg, rest⟩
  · exact .inl hnil
  · refine .inr ⟨g, cap, cur, rfl, hb, ?_, rest⟩
    rw [hc.block g (Array.getElem?_eq_some_iff.1 hgg).1 (hn g (List.mem_singleton.2 rfl))]
    exact hgg
def foot (p : Nat) (lv hv av : Value) : List Nat := p :: (own lv ++ (own hv ++ own av))
theorem TblAt.kept {B : List Nat} {w w' : World} {p : Nat} {T : Tbl} {lv hv av : Value} (h : TblAt w p T lv hv av) (hc : Chg B w w') (hn : ∀ x ∈ foot p lv hv av, x ∉ B) : TblAt w' p T lv hv av := by
  obtain ⟨⟨n, hp⟩, h1, h2, h3, h4⟩ := h
  refine ⟨⟨n, ?_⟩, row_kept h1 hc ?_, row_kept h2 hc ?_, row_kept h3 hc ?_, h4⟩
  · rw [hc.block p (Array.getElem?_eq_some_iff.1 hp).1 (hn p (List.mem_cons_self ..))]; exact hp
  · intro x hx; exact hn x (List.mem_cons_of_mem _ (List.mem_append_left _ hx))
  · intro x hx; exact hn x (List.mem_cons_of_mem _ (List.mem_append_right _ (List.mem_append_left _ hx)))
  · intro x hx; exact hn x (List.mem_cons_of_mem _ (List.mem_append_right _ (List.mem_append_right _ hx)))
theorem TblAt.lt {w : World} {p : Nat} {T : Tbl} {lv hv av : Value} (h : TblAt w p T lv hv av) : ∀ x ∈ foot p lv hv av, x < w.heap.size := by
  obtain ⟨⟨n, hp⟩, h1, h2, h3, h4⟩ := h
  intro x hx
  rcases List.mem_cons.1 hx with rfl | hx
  · exact (Array.getElem?_eq_some_iff.1 hp).1
  · rcases List.mem_append.1 hx with hx | hx
    · exact (h1.lt x (Option.mem_toList.1 hx)).2
    · rcases List.mem_append.1 hx with hx | hx
      · exact (h2.lt x (Option.mem_toList.1 hx)).2
      · exact (h3.lt x (Option.mem_toList.1 hx)).2
theorem i32s_set (l : List Nat) (i x : Nat) : (i32s l).set i (.int .i32 (x : Int)) = i32s (l.set i x) := by
  unfold i32s
  rw [List.map_set]
def LayP (W : World) (p : Nat) (T : Tbl) (lv hv av : Value) (i : Nat) (e : Ending) (w' : World) : Prop :=
  e = .returned (.tuple #[]) ∧ ∃ hash, hash.length = T.hash.length ∧ HashOK HV (kds T.l) (i + 1) hash ∧ TblAt w' p ⟨T.l, hash, T.array⟩ lv hv av ∧ Chg (own hv) W w'
structure LayR (W : World) (T : Tbl) (x : Val) (a : Value) (wr : World) : Prop where
  at_ : ∃ j : Nat, a = .int .u64 (((HV x + j) % T.hash.length : Nat) : Int) ∧ ∀ e, e < j → slot T.hash (HV x) e ≠ 0
  below : Below W.heap.size W wr
set_option maxHeartbeats 1000000 in
theorem lay_walk (p : Nat) (T : Tbl) (lv hv av : Value) (i : Nat) (W : World) (h : TblAt W p T lv hv av) (hh : 0 < T.hash.length) (r : Nat) (hr : T.hash.length = 2 ^ r) (hR : T.hash.length ≤ 67108864) (_hL : T.l.length ≤ 67108864)
    (hi : i < T.l.length) (hH : HashOK HV (kds T.l) i T.hash) (hlt : i < T.hash.length) (hx : T.l[i].key.s.size ≤ maxLen) (hd : T.l[i].dead = false) :
    Calls Try.prog 53 #[.pointer (some ⟨p, 0, none⟩), .int .i64 i] W (LayP W p T lv hv av i) := by
  obtain ⟨s, hs, hs0⟩ := hH.free hlt
  have Hr := Lib.hid hr
  have Hs0 := Lib.hid hs0
  clear hr hs0
  obtain ⟨n, hp⟩ := h.head
  have hc := h.hash
  rcases hc.2 with ⟨_, h0⟩ | ⟨g, cap, cur, rfl, _, hg, hn, hm, _, _⟩
  · omega
  rcases h.l.2 with ⟨_, hl0⟩ | ⟨lg, lcap, lcur, rfl, _, hlg, hln, hlm, _, _⟩
  · omega
  have hpb : p < W.heap.size := (Array.getElem?_eq_some_iff.1 hp).1
  have hgb : g < W.heap.size := (Array.getElem?_eq_some_iff.1 hg).1
  have hlb : lg < W.heap.size := (Array.getElem?_eq_some_iff.1 hlg).1
  have p0 : W.cell? ⟨p, 0, none⟩ = some (.slice (some ⟨lg, 0, none⟩) T.l.length lcap) := by rw [cell_of hp]; rfl
  have p2 : W.cell? ⟨p, 2, none⟩ = some (.slice (some ⟨g, 0, none⟩) T.hash.length cap) := by rw [cell_of hp]; rfl
  have q0 : W.cell? ⟨lg, i * 9, none⟩ = some (.int .i64 T.l[i].key.k) := row_cell h.l (entCells_at T.l i 0 (by omega) hi)
  have q1 : W.cell? ⟨lg, i * 9 + 1, none⟩ = some (.int .u64 T.l[i].key.n) := row_cell h.l (entCells_at T.l i 1 (by omega) hi)
  have q2 : W.cell? ⟨lg, i * 9 + 2, none⟩ = some (.string T.l[i].key.s) := row_cell h.l (entCells_at T.l i 2 (by omega) hi)
  have q3 : W.cell? ⟨lg, i * 9 + 3, none⟩ = some (.int .i64 T.l[i].key.o) := row_cell h.l (entCells_at T.l i 3 (by omega) hi)
  have HT := Lib.hid (kds_at hi)
  have HD := Lib.hid hd
  clear hd
  clear hp hg hlg hn
  unfold maxLen at hm hlm
  generalize T.l[i] = en at *
  go_enter Try.func53, Try.ntmps53
  go_wp2_with fail
  refine (hashed_any en.key hx _).mono ?_
  rintro e w1 ⟨rfl, hb1⟩
  go_wp2_with fail
  rw [mask_is (hashI en.key) (hash_range en.key).1 (hash_range en.key).2 Hr.out hR]
  have hR0 : LayR W T en.key (.int .u64 (((hashI en.key).toNat % T.hash.length : Nat) : Int)) w1 := ⟨⟨0, rfl, fun e he => absurd he (Nat.not_lt_zero _)⟩, hb1⟩
  clear hb1
  go_loopw [5] (fun a wr => LayR W T en.key a wr) (fun a _ => way T.hash.length s (intOf a).toNat)
  case atStart => exact hR0
  case round =>
    obtain ⟨⟨j, rfl, hj⟩, hb⟩ := hrel
    have hg1 : ∀ o, wr.cell? ⟨g, o, none⟩ = W.cell? ⟨g, o, none⟩ := fun o => hb.cell hgb
    have hp1 : ∀ o, wr.cell? ⟨p, o, none⟩ = W.cell? ⟨p, o, none⟩ := fun o => hb.cell hpb
    have hal : (HV en.key + j) % T.hash.length < T.hash.length := Nat.mod_lt _ hh
    have hcell : W.cell? ⟨g, (HV en.key + j) % T.hash.length, none⟩ = some (.int .i32 ((slot T.hash (HV en.key) j : Nat) : Int)) := by
      refine row_cell hc ?_
      unfold i32s slot
      rw [List.getElem?_map, List.getD_eq_getElem?_getD, List.getElem?_eq_getElem hal]; rfl
    have hle : slot T.hash (HV en.key) j ≤ i := hH.le _
    have Hj : Hid (∀ e, e < j → slot T.hash (HV en.key) e ≠ 0) := hj
    have Hs : Hid (slot T.hash (HV en.key) j = T.hash.getD ((HV en.key + j) % T.hash.length) 0) := rfl
    obtain ⟨v, Hsl⟩ : ∃ v, Hid (v = slot T.hash (HV en.key) j) := ⟨_, rfl⟩
    obtain ⟨a, Ha⟩ : ∃ a, Hid ((HV en.key + j) % T.hash.length = a) := ⟨_, rfl⟩
    rw [← Hsl.out] at hcell hle Hs
    rw [Ha.out] at hcell hal Hs
    have HA := Ha.out
    clear hj
    rw [HA]
    clear HA
    rcases Nat.eq_zero_or_pos v with hv | hv
    · subst hv
      have hz : wr.frozen? ⟨g, a, none⟩ = false := by rw [hb.frozen hgb]; exact hc.frozenAt a
      have hfin : LayP W p T (.slice (some ⟨lg, 0, none⟩) T.l.length lcap) (.slice (some ⟨g, 0, none⟩) T.hash.length cap) av i (.returned (.tuple #[])) (wr.setCell ⟨g, a, none⟩ (.int .i32 ((i : Int) + 1))) := by
        have hT : TblAt wr p T (.slice (some ⟨lg, 0, none⟩) T.l.length lcap) (.slice (some ⟨g, 0, none⟩) T.hash.length cap) av := h.kept (B := []) (Chg.of_below hb) (fun _ _ => List.not_mem_nil)
        obtain ⟨s1, s2⟩ := hT.hash.stored a (.int .i32 (((i + 1 : Nat) : Nat) : Int))
        have hcg : Chg [g] wr (wr.setCell ⟨g, a, none⟩ (.int .i32 (((i + 1 : Nat) : Nat) : Int))) := Chg.of_grown s2
        have hap : ∀ x ∈ p :: (own (Value.slice (some ⟨lg, 0, none⟩) T.l.length lcap) ++ own av), x ∉ [g] := by
          have hn := hT.apart
          intro x hx hxg
          rw [List.mem_singleton] at hxg
          subst hxg
          have e : own (Value.slice (some ⟨x, 0, none⟩) T.hash.length cap) = [x] := rfl
          rw [e] at hn
          rw [List.nodup_cons, List.nodup_append] at hn
          rcases List.mem_cons.1 hx with c | hx
          · subst c
            exact hn.1 (List.mem_append_right _ (List.mem_append_left _ (List.mem_singleton.2 rfl)))
          · rcases List.mem_append.1 hx with c | c
            · exact hn.2.2.2 x c x (List.mem_append_left _ (List.mem_singleton.2 rfl)) rfl
            · have := hn.2.2.1
              rw [List.singleton_append, List.nodup_cons] at this
              exact this.1 c
        refine ⟨rfl, T.hash.set a (i + 1), List.length_set, ?_, ?_, ?_⟩
        · have hk : (kds T.l)[i]? = some (some en.key) := by rw [HT.out, HD.out]; rfl
          have := hH.lay hk (d := j) Hsl.out.symm Hj.out
          rw [Ha.out] at this
          exact this
        · obtain ⟨n', hp'⟩ := hT.head
          have e : (.int .i32 ((i : Int) + 1) : Value) = .int .i32 (((i + 1 : Nat) : Nat) : Int) := rfl
          rw [e]
          refine ⟨⟨n', ?_⟩, row_kept hT.l hcg ?_, ?_, row_kept hT.array hcg ?_, hT.apart⟩
          · rw [hcg.block p (Array.getElem?_eq_some_iff.1 hp').1 (hap p (List.mem_cons_self ..))]; exact hp'
          · intro x hx; exact hap x (List.mem_cons_of_mem _ (List.mem_append_left _ hx))
          · have := s1
            rw [i32s_set] at this
            show World.ownsRow _ _ _ _ _ (T.hash.set a (i + 1)).length _
            rw [List.length_set]
            exact this
          · intro x hx; exact hap x (List.mem_cons_of_mem _ (List.mem_append_right _ hx))
        · exact (Chg.of_below hb).trans hcg (fun x hx _ => hx)
      have Hfin := Lib.hid hfin
      clear hfin
      go_wp2_with fail
      go_end0
      exact Hfin.out
    · have hway : a ≠ s := fun c => by have h1 := Hs.out; have h2 := Hs0.out; rw [← c] at h2; omega
      have Hn : Hid (bits .and .u64 ((a : Int) + 1) ((T.hash.length : Int) - 1) = (((HV en.key + (j + 1)) % T.hash.length : Nat) : Int)) := by
        show bits .and .u64 ((a : Int) + 1) ((T.hash.length : Int) - 1) = _
        rw [mask_is _ (by omega) (by omega) Hr.out hR, ← next_at, Ha.out]
        rfl
      have Hm : Hid (way T.hash.length s ((HV en.key + (j + 1)) % T.hash.length) < way T.hash.length s a) := by
        show way T.hash.length s ((HV en.key + (j + 1)) % T.hash.length) < way T.hash.length s a
        rw [← next_at, Ha.out]
        exact way_lt hs hal hway
      have Hg : Hid (∀ e, e < j + 1 → slot T.hash (HV en.key) e ≠ 0) := by
        intro e he
        rcases Nat.lt_or_eq_of_le (Nat.lt_succ_iff.1 he) with c | c
        · exact Hj.out e c
        · subst c
          rw [← Hsl.out]
          omega
      have hb0 : ((v : Int) == 0) = false := by rw [beq_eq_false_iff_ne]; omega
      have hb1 : ((v : Int) != 0) = true := by rw [bne_iff_ne]; omega
      go_wp2_with fail
      go_roundw
      case rel => 
        rw [Hn.out]
        exact ⟨⟨j + 1, rfl, Hg.out⟩, hb⟩
      case measure => 
        rw [Hn.out]
        exact Hm.out
end Go.Proofs.Ytlihonbmopeemaa.Hp
end
section
namespace Go.Proofs.Ytlihonbmopeemaa.Hp
open Go Go.RowKit Go.Proofs.Ytlihonbmopeemaa.HpLaw Go.Proofs.Ytlihonbmopeemaa.Ans Go.Proofs.Ytlihonbmopeemaa.Num Go.Proofs.Ytlihonbmopeemaa.DigLaw Go.Proofs.Ytlihonbmopeemaa.Fl Go.Proofs.Ytlihonbmopeemaa.Dig Go.Proofs.Ytlihonbmopeemaa.Float

def E3 : ByteArray := ⟨#[]⟩
/-- the whole number j as a key -/
def numKey (j : Nat) : Val := ⟨3, ((fromI (j : Int) : Nat) : Int), E3, 0⟩
theorem fromI_lt (n : Int) : fromI n < Dig.W := (word_facts (decide (n < 0)) (rung_le_inf n.natAbs 0)).2.2
theorem numKey_inj {a b : Nat} (ha : a ≤ 9007199254740992) (hb : b ≤ 9007199254740992) (h : numKey a = numKey b) : a = b := by
  have h1 : ((fromI (a : Int) : Nat) : Int) = ((fromI (b : Int) : Nat) : Int) := congrArg Val.n h
  have h2 : fromI (a : Int) = fromI (b : Int) := by omega
  have e1 := toI_fromI (n := (a : Int)) (by omega)
  have e2 := toI_fromI (n := (b : Int)) (by omega)
  rw [h2, e2] at e1
  have := congrArg Prod.fst e1
  simp only at this
  omega
/-- what a key is like -/
structure KeyOK (x : Val) : Prop where
  num : ∃ a : Nat, x.n = a ∧ a < Dig.W
  text : x.s.size ≤ maxLen
  plain : x.k = 3 → x.s = E3 ∧ x.o = 0
theorem key_num {x : Val} (h : KeyOK x) (hk : x.k = 3) {a : Nat} (ha : x.n = a) (haW : a < Dig.W) (ht : (toI a).2 = true) (h1 : 1 ≤ (toI a).1) : x = numKey (toI a).1.toNat := by
  have h0 : rg a ≠ 0 := by
    intro c
    obtain ⟨f, hv, _⟩ := toI_back ht
    have hz : Vi a = 0 := by
      unfold Vi
      rw [c, show V 0 = 0 from rfl]
      unfold sn
      split <;> rfl
    rw [hz] at hv
    have hU : (0 : Int) < (U : Int) := by have := U_pos; omega
    have := Int.mul_pos (show (0 : Int) < (toI a).1 by omega) hU
    omega
  have e := back_same haW ht h0
  obtain ⟨k, n, s, o⟩ := x
  obtain ⟨e1, e2⟩ := h.plain hk
  simp only at hk ha e1 e2
  subst hk; subst ha; subst e1; subst e2
  unfold numKey
  rw [Int.toNat_of_nonneg (by omega), e]
def IndexIs (T : Tbl) (x : Val) (r : Int) : Prop := (r = -1 ∧ ∀ j : Nat, j < T.array.length → x ≠ numKey (j + 1)) ∨ ∃ j : Nat, r = j ∧ j < T.array.length ∧ x = numKey (j + 1)
def IndexP (W : World) (T : Tbl) (x : Val) (e : Ending) (w' : World) : Prop := ∃ r : Int, e = .returned (.int .i64 r) ∧ IndexIs T x r ∧ Below W.heap.size W w'
theorem index_no {T : Tbl} {x : Val} (hL : T.array.length ≤ 67108864) {a : Nat} (ha : x.n = a) (h : x.k ≠ 3 ∨ (toI a).2 = false ∨ (toI a).1 < 1 ∨ (T.array.length : Int) < (toI a).1) : IndexIs T x (-1) := by
  refine .inl ⟨rfl, fun j hj e => ?_⟩
  have h3 : x.k = 3 := by rw [e]; rfl
  have hn : a = fromI ((j + 1 : Nat) : Int) := by
    have : x.n = ((fromI ((j + 1 : Nat) : Int) : Nat) : Int) := by rw [e]; rfl
    omega
  have ht := toI_fromI (n := ((j + 1 : Nat) : Int)) (by omega)
  rw [← hn] at ht
  rw [ht] at h
  rcases h with h | h | h | h
  · exact h h3
  · cases h
  · simp only at h; omega
  · simp only at h; omega
set_option maxHeartbeats 1000000 in
theorem index_walk (p : Nat) (T : Tbl) (lv hv av : Value) (x : Val) (hx : KeyOK x) (W : World) (h : TblAt W p T lv hv av) (hL : T.array.length ≤ 67108864) :
    Calls Try.prog 50 #[.pointer (some ⟨p, 0, none⟩), x.v] W (IndexP W T x) := by
  obtain ⟨n, hp⟩ := h.head
  have hpb : p < W.heap.size := (Array.getElem?_eq_some_iff.1 hp).1
  obtain ⟨acap, aad, rfl⟩ : ∃ acap aad, av = .slice aad T.array.length acap := by
    rcases h.array.2 with ⟨rfl, h0⟩ | ⟨g, cap, cur, rfl, _⟩
    · exact ⟨0, none, by rw [h0]⟩
    · exact ⟨_, _, rfl⟩
  have p3 : W.cell? ⟨p, 3, none⟩ = some (.slice aad T.array.length acap) := by rw [cell_of hp]; rfl
  obtain ⟨a, hxa, haW⟩ := hx.num
  have hno := index_no hL hxa
  have hyes := key_num hx (a := a)
  clear hp h
  obtain ⟨xk, xn, xs, xo⟩ := x
  simp only at hxa
  subst hxa
  have Hno := Lib.hid hno
  have Hyes := Lib.hid hyes
  clear hno hyes hx
  unfold Val.v
  by_cases c0 : xk = 3
  · have Hc0 := Lib.hid c0
    clear c0
    have c1 : (xk != 3) = false := by rw [Hc0.out]; rfl
    have ha : ∀ b o, b < W.heap.size → ∀ O, (W.alloc O).cell? ⟨b, o, none⟩ = W.cell? ⟨b, o, none⟩ := fun b o hb O => World.cell?_of_block (Below.heap_alloc W O b hb)
    have hba : ∀ O, Below W.heap.size W (W.alloc O) := fun O => (Below.refl _ _).alloc (Nat.le_refl _) O
    go_enter Try.func50, Try.ntmps50
    go_wp2_with fail
    refine ((ans_ToInt a haW).at _).mono ?_
    rintro e w1 ⟨rfl, h1⟩
    have hb1 : Below W.heap.size W w1 := (hba _).trans (h1.mono (by simp))
    have hp1 : ∀ o, w1.cell? ⟨p, o, none⟩ = W.cell? ⟨p, o, none⟩ := fun o => hb1.cell hpb
    clear h1
    obtain ⟨r, hr⟩ : ∃ r, Hid (r = toI a) := ⟨_, rfl⟩
    have hr' := hr.out
    rw [← hr']
    clear hr'
    obtain ⟨m, is⟩ := r
    cases is
    · go_wp2_with fail
      go_ret
      exact ⟨-1, rfl, Hno.out (.inr (.inl (by rw [← hr.out]))), hb1⟩
    · by_cases d1 : m < 1
      · go_wp2_with fail
        go_ret
        exact ⟨-1, rfl, Hno.out (.inr (.inr (.inl (by rw [← hr.out]; exact d1)))), hb1⟩
      · by_cases d2 : (T.array.length : Int) < m
        · go_wp2_with fail
          go_ret
          exact ⟨-1, rfl, Hno.out (.inr (.inr (.inr (by rw [← hr.out]; exact d2)))), hb1⟩
        · go_wp2_with fail
          go_ret
          refine ⟨m - 1, rfl, .inr ⟨(m - 1).toNat, by omega, by omega, ?_⟩, hb1⟩
          have := Hyes.out Hc0.out (by trivial) haW (by rw [← hr.out]) (by rw [← hr.out]; show 1 ≤ m; omega)
          rw [← hr.out] at this
          rw [this]
          show numKey m.toNat = _
          congr 1
          omega
  · have c1 : (xk != 3) = true := by rw [bne_iff_ne]; exact c0
    have hba : ∀ O, Below W.heap.size W (W.alloc O) := fun O => (Below.refl _ _).alloc (Nat.le_refl _) O
    go_enter Try.func50, Try.ntmps50
    go_wp2_with fail
    go_ret
    exact ⟨-1, rfl, Hno.out (.inl c0), hba _⟩
end Go.Proofs.Ytlihonbmopeemaa.Hp
end
section
namespace Go.Proofs.Ytlihonbmopeemaa.Hp
open Go Go.RowKit Go.Proofs.Ytlihonbmopeemaa.HpLaw Go.Proofs.Ytlihonbmopeemaa.Ans

structure Tbl0 (T : Tbl) : Prop where
  once : Once (kds T.l)
  keys : ∀ e ∈ T.l, KeyOK e.key
  room : (T.l = [] ∧ T.hash = []) ∨ ((∃ r, T.hash.length = 2 ^ r) ∧ HashOK HV (kds T.l) T.l.length T.hash ∧ 2 * T.l.length ≤ T.hash.length)
  most : T.hash.length ≤ 67108864
structure TblOK (T : Tbl) : Prop extends Tbl0 T where
  arr : ArrOK numKey (kds T.l) T.array
  arrLe : T.array.length ≤ T.l.length
theorem Tbl0.len {T : Tbl} (h : Tbl0 T) : T.l.length ≤ 33554432 := by
  have := h.most
  rcases h.room with ⟨h1, _⟩ | ⟨_, _, h3⟩
  · rw [h1]; exact Nat.zero_le _
  · omega
theorem find_empty (p : Nat) (T : Tbl) (lv hv av : Value) (x : Val) (W : World) (h : TblAt W p T lv hv av) (hh : T.hash = []) (hl : T.l = []) :
    Calls Try.prog 51 #[.pointer (some ⟨p, 0, none⟩), x.v] W (FindP W T x) := by
  obtain ⟨n, hp⟩ := h.head
  have hpb : p < W.heap.size := (Array.getElem?_eq_some_iff.1 hp).1
  obtain ⟨hcap, had, rfl⟩ : ∃ hcap had, hv = .slice had 0 hcap := by
    rcases h.hash.2 with ⟨rfl, h0⟩ | ⟨g, cap, cur, rfl, _⟩
    · exact ⟨0, none, rfl⟩
    · exact ⟨cap, some ⟨g, 0, none⟩, by rw [hh]; rfl⟩
  have p2 : W.cell? ⟨p, 2, none⟩ = some (.slice had 0 hcap) := by rw [cell_of hp]; rfl
  have hm : ∀ i : Nat, (kds T.l)[i]? ≠ some (some x) := by
    intro i hi
    rw [hl] at hi
    cases hi
  have Hm := Lib.hid hm
  clear hp h hm hh hl
  have ha : ∀ b o, b < W.heap.size → ∀ O, (W.alloc O).cell? ⟨b, o, none⟩ = W.cell? ⟨b, o, none⟩ := fun b o hb O => World.cell?_of_block (Below.heap_alloc W O b hb)
  have hba : ∀ O, Below W.heap.size W (W.alloc O) := fun O => (Below.refl _ _).alloc (Nat.le_refl _) O
  unfold Val.v
  go_enter Try.func51, Try.ntmps51
  go_wp2_with fail
  go_step3
  go_wp2_with fail
  try rw [Exit.noGoto_ret]
  go_ret
  exact ⟨-1, rfl, .inl ⟨rfl, Hm.out⟩, hba _⟩
theorem find_any (p : Nat) (T : Tbl) (lv hv av : Value) (x : Val) (hx : x.s.size ≤ maxLen) (W : World) (h : TblAt W p T lv hv av) (ok : Tbl0 T) :
    Calls Try.prog 51 #[.pointer (some ⟨p, 0, none⟩), x.v] W (FindP W T x) := by
  have hlen := ok.len
  rcases ok.room with ⟨h1, h2⟩ | ⟨⟨r, hr⟩, hH, h3⟩
  · exact find_empty p T lv hv av x W h h2 h1
  · have hpos := hH.pos
    obtain ⟨s, hs, hs0⟩ := hH.free (by omega)
    exact find_walk p T lv hv av x hx W h hpos r hr ok.most (by omega) hH s hs hs0
set_option maxHeartbeats 1000000 in
theorem place_walk (p : Nat) (T : Tbl) (lv hv av : Value) (x : Val) (hx : KeyOK x) (W : World) (h : TblAt W p T lv hv av) (ok : TblOK T) :
    Calls Try.prog 26 #[.pointer (some ⟨p, 0, none⟩), x.v] W (FindP W T x) := by
  have hlen := ok.len
  have hal := ok.arrLe
  obtain ⟨n, hp⟩ := h.head
  have hpb : p < W.heap.size := (Array.getElem?_eq_some_iff.1 hp).1
  have ha : ∀ b o, b < W.heap.size → ∀ O, (W.alloc O).cell? ⟨b, o, none⟩ = W.cell? ⟨b, o, none⟩ := fun b o hb O => World.cell?_of_block (Below.heap_alloc W O b hb)
  have hba : ∀ O, Below W.heap.size W (W.alloc O) := fun O => (Below.refl _ _).alloc (Nat.le_refl _) O
  unfold Val.v
  go_enter Try.func26, Try.ntmps26
  go_wp2_with fail
  have h0 : TblAt (W.alloc (Obj.cells #[Value.int IntKind.i64 x.k, Value.int IntKind.u64 x.n, Value.string x.s, Value.int IntKind.i64 x.o] 34)) p T lv hv av := h.kept (B := []) (Chg.of_below (hba _)) (fun _ _ => List.not_mem_nil)
  refine (index_walk p T lv hv av x hx _ h0 (by omega)).mono ?_
  rintro e w1 ⟨r, rfl, hr, h1⟩
  have hb1 : Below W.heap.size W w1 := (hba _).trans (h1.mono (by simp))
  have hx1 : ∀ o, w1.cell? ⟨W.heap.size, o, none⟩ = x.cs[o]? := by
    intro o
    rw [h1.cell (by simp), cell_of (heap_alloc_new _ _)]; exact (List.getElem?_toArray ..)
  have t1 : TblAt w1 p T lv hv av := h.kept (B := []) (Chg.of_below hb1) (fun _ _ => List.not_mem_nil)
  have hb0 := hx1 0
  have hb2 := hx1 1
  have hb3 := hx1 2
  have hb4 := hx1 3
  simp only [Val.cs, List.getElem?_cons_zero, List.getElem?_cons_succ] at hb0 hb2 hb3 hb4
  clear hx1 h1 h0
  rcases hr with ⟨rfl, hr⟩ | ⟨j, rfl, hj, hr⟩
  · clear hr
    go_wp2_with fail
    refine (find_any p T lv hv av x hx.text _ t1 ok.toTbl0).mono ?_
    rintro e w2 ⟨r2, rfl, hr2, h2⟩
    go_wp2_with fail
    go_ret
    exact ⟨r2, rfl, hr2, hb1.trans (h2.mono hb1.size)⟩
  · rcases h.array.2 with ⟨_, h0⟩ | ⟨g, cap, cur, rfl, _, hg, hn, hm, _, _⟩
    · omega
    have hgb : g < W.heap.size := (Array.getElem?_eq_some_iff.1 hg).1
    have p3 : w1.cell? ⟨p, 3, none⟩ = some (.slice (some ⟨g, 0, none⟩) T.array.length cap) := by rw [hb1.cell hpb, cell_of hp]; rfl
    have hq : w1.cell? ⟨g, j, none⟩ = some (.int .i32 ((T.array[j] : Nat) : Int)) := by
      refine row_cell t1.array ?_
      unfold i32s
      rw [List.getElem?_map, List.getElem?_eq_getElem hj]; rfl
    have hk := ok.arr.has j T.array[j] (List.getElem?_eq_getElem hj)
    rw [← hr] at hk
    have hil : T.array[j] < T.l.length := by rw [← kds_len]; exact (List.getElem?_eq_some_iff.1 hk).1
    have Hk := Lib.hid hk
    clear hk hr hp hg
    unfold maxLen at hm
    generalize T.array[j] = i at *
    go_wp2_with fail
    go_ret
    exact ⟨i, rfl, .inr ⟨i, rfl, Hk.out⟩, hb1⟩
end Go.Proofs.Ytlihonbmopeemaa.Hp
end
section
namespace Go.Proofs.Ytlihonbmopeemaa.Hp
open Go Go.RowKit

section
variable {P : Program} (w : World)
theorem run_append_foot (t ty e : TypeId) (i : TypeInfo) (z : Value) (size bytes : Nat) (ht : P.underlying t = some (.slice e)) (hi : P.info? e = some i) (hz : i.zero = some z)
    (hsize : i.size = size) (hby : i.bytes = bytes) (hzs : z.cells.size = size) (hsz : 0 < size)
    (v : Value) (n : Nat) (xs : List Value) (hown : w.ownsRow 0 e size v n xs)
    (a : Addr) (m c : Nat) (news : List Value) (hl : news.length = m * size) (hnews : ∀ j u, news[j]? = some u → w.cell? (a.add j) = some u) (h1 : ∀ u ∈ news, u.oneCell' = true)
    (h63 : n + m ≤ maxLen) (hbytes : (n + m) * bytes ≤ 140737488355328) :
    ∃ v' w', (Builtin.append_ #[t, t] ty #[v, .slice (some a) m c]).run P w = .ok v' w' ∧ w'.ownsRow 0 e size v' (n + m) (xs ++ news) ∧ Chg (own v) w w' ∧ ∀ x ∈ own v', x ∈ own v ∨ w.heap.size ≤ x := by
  obtain ⟨v', w', hr, h2, h3, _⟩ := run_append_own (P := P) w 0 t ty e i z size bytes ht hi hz hsize hby hzs hsz v n xs hown a m c news hl hnews h1 h63 hbytes (Nat.zero_le _)
  refine ⟨v', w', hr, h2, Chg.of_grown h3, ?_⟩
  have hsmall : n + m ≤ 9223372036854775807 := by simp only [maxLen] at h63; omega
  rcases hown.2 with ⟨rfl, rfl⟩ | ⟨g, cap, cur, rfl, hbg, hg, hnc, hcm, hcs, htake⟩
  · have hx : xs = [] := List.eq_nil_of_length_eq_zero (by simpa using hown.1)
    subst hx
    obtain ⟨v2, w2, hr2, k2, _, _⟩ := run_append_own (P := P) w w.heap.size t ty e i z size bytes ht hi hz hsize hby hzs hsz _ 0 [] (World.ownsRow_nil w w.heap.size e size) a m c news hl hnews h1 h63 hbytes (Nat.le_refl _)
    rw [hr] at hr2
    cases hr2
    intro x hx
    exact .inr (k2.lt x (Option.mem_toList.1 hx)).1
  · subst hsize
    by_cases hroom : n + m ≤ cap
    · have hfit : n * i.size + news.length ≤ cur.size := by rw [hl, hcs, ← Nat.add_mul]; exact Nat.mul_le_mul_right _ hroom
      have hr2 := run_append_room (P := P) w t ty e i ht hi g n cap cur hg a m c news hl hnews h1 hroom hfit
      rw [hr] at hr2
      cases hr2
      intro x hx
      exact .inl hx
    · have holds : ∀ j u, xs[j]? = some u → w.cell? ((⟨g, 0, none⟩ : Addr).add j) = some u := hown.cells (g := g) rfl
      have hr2 := run_append_grow (P := P) w t ty e i z ht hi hz ⟨g, 0, none⟩ n cap xs hown.1 holds a m c news hl hnews (by omega) (by omega) (growslice_fits (by omega) (by rw [hby]; exact hbytes))
      rw [hr] at hr2
      cases hr2
      intro x hx
      have : x = w.heap.size := List.mem_singleton.1 hx
      exact .inr (by omega)
theorem wpList_append_foot {ops : Array Oper} {rest : List Oper} {o : Oper} {a : Go.Act} {Q : Exit → Go.Act → World → Prop} (hgd : o.guard = none) (s x : Operand) (t : TypeId)
    (ho : o.op = .call { callee := .builtin .append, args := #[s, x], argTypes := #[t, t] })
    (e : TypeId) (i : TypeInfo) (z : Value) (size bytes : Nat) (ht : P.underlying t = some (.slice e)) (hi : P.info? e = some i) (hz : i.zero = some z)
    (hsize : i.size = size) (hby : i.bytes = bytes) (hzs : z.cells.size = size) (hsz : 0 < size)
    (v : Value) (n : Nat) (xs : List Value) (hs : a.eval s = v) (hown : w.ownsRow 0 e size v n xs)
    (ad : Addr) (m c : Nat) (news : List Value) (hx : a.eval x = .slice (some ad) m c) (hl : news.length = m * size) (hnews : ∀ j u, news[j]? = some u → w.cell? (ad.add j) = some u) (h1 : ∀ u ∈ news, u.oneCell' = true)
    (h63 : n + m ≤ maxLen) (hbytes : (n + m) * bytes ≤ 140737488355328)
    (h : ∀ v' w', w'.ownsRow 0 e size v' (n + m) (xs ++ news) → Chg (own v) w w' → (∀ x ∈ own v', x ∈ own v ∨ w.heap.size ≤ x) → wpList P ops Q rest (a.put o.dst v') w') : wpList P ops Q (o :: rest) a w := by
  refine wpList_plain hgd fun K hK => ?_
  obtain ⟨v', w', hr, h2, h3, h4⟩ := run_append_foot (P := P) w t o.type e i z size bytes ht hi hz hsize hby hzs hsz v n xs hown ad m c news hl hnews h1 h63 hbytes
  unfold Oper.wp execOp
  simp only [ho, resolve, invoke, builtin, Sem.run_bind, Sem.run_pure, Result.andThen_ok, List.map_toArray, List.map_cons, List.map_nil, hs, hx, hr]
  exact hK _ _ (h v' w' h2 h3 h4)
end
end Go.Proofs.Ytlihonbmopeemaa.Hp
end
section
namespace Go.Proofs.Ytlihonbmopeemaa.Hp
open Go Go.RowKit Go.Proofs.Ytlihonbmopeemaa.HpLaw Go.Proofs.Ytlihonbmopeemaa.Ans Go.Proofs.Ytlihonbmopeemaa.Num Go.Proofs.Ytlihonbmopeemaa.DigLaw Go.Proofs.Ytlihonbmopeemaa.Fl Go.Proofs.Ytlihonbmopeemaa.Dig Go.Proofs.Ytlihonbmopeemaa.Float

theorem num_any (a : Nat) (W : World) : Calls Try.prog 79 #[.int .u64 a] W fun e w' => e = .returned (Val.v ⟨3, (canonW a : Nat), E3, 0⟩) ∧ Below W.heap.size W w' := by
  go_enter Try.func79, Try.ntmps79
  go_wp2_with (go_at_call 72; refine (Canon_any _ _).mono ?_; rintro e w' ⟨rfl, rfl⟩)
  exact bodyPost_ret (v := .agg #[.int .i64 3, .int .u64 ((canonW a : Nat) : Int), .string E3, .int .i64 0]) (by simp [results, Try.results79, go_sem, E3]) rfl ⟨rfl, (Below.refl _ _).alloc (Nat.le_refl _) _⟩
theorem numKey_canon (j : Nat) : (⟨3, ((canonW (fromI (j : Int)) : Nat) : Int), E3, 0⟩ : Val) = numKey j := by
  rw [canon_num (fromI_ok _)]; rfl
theorem chg_set (w : World) (b o : Nat) (v : Value) : Chg [b] w (w.setCell ⟨b, o, none⟩ v) :=
  ⟨rfl, rfl, rfl, by simp [World.setCell], fun k _ hk => setCell_off (fun e => hk (List.mem_singleton.2 e)) o v⟩
/-- the array part is another one -/
theorem TblAt.set3 {w w4 : World} {p : Nat} {T : Tbl} {lv hv av v' : Value} {array' : List Nat} (h : TblAt w p T lv hv av) (hc : Chg (own av) w w4) (hr : w4.ownsRow 0 21 1 v' array'.length (i32s array')) (hn : ∀ x ∈ own v', x ∈ own av ∨ w.heap.size ≤ x) :
    TblAt (w4.setCell ⟨p, 3, none⟩ v') p ⟨T.l, T.hash, array'⟩ lv hv v' ∧ Chg (p :: own av) w (w4.setCell ⟨p, 3, none⟩ v') := by
  have hlt := h.lt
  obtain ⟨⟨n, hp⟩, h1, h2, h3, hap⟩ := h
  have hpb : p < w.heap.size := (Array.getElem?_eq_some_iff.1 hp).1
  rw [List.nodup_cons, List.nodup_append] at hap
  obtain ⟨a1, a2, a3, a4⟩ := hap
  rw [List.nodup_append] at a3
  obtain ⟨b1, b2, b3⟩ := a3
  have hpav : p ∉ own av := fun e => a1 (List.mem_append_right _ (List.mem_append_right _ e))
  have hp4 : w4.heap[p]? = some (.cells #[lv, .int .i64 n, hv, av] 72 (0, 0)) := (hc.block p hpb hpav).trans hp
  have c1 := row_kept h1 hc (fun x hx e => a4 x hx x (List.mem_append_right _ e) rfl)
  have c2 := row_kept h2 hc (fun x hx e => b3 x hx x e rfl)
  have hs := chg_set w4 p 3 v'
  have hpv : p ∉ own v' := fun e => by
    rcases hn p e with c | c
    · exact hpav c
    · omega
  refine ⟨⟨⟨n, ?_⟩, row_kept c1 hs (fun x hx e => ?_), row_kept c2 hs (fun x hx e => ?_), row_kept hr hs (fun x hx e => ?_), ?_⟩, hc.mono (fun x hx _ => List.mem_cons_of_mem _ hx) |>.trans hs (fun x hx _ => ?_)⟩
  · rw [setCell_at hp4]; rfl
  · rw [List.mem_singleton.1 e] at hx; exact a1 (List.mem_append_left _ hx)
  · rw [List.mem_singleton.1 e] at hx; exact a1 (List.mem_append_right _ (List.mem_append_left _ hx))
  · rw [List.mem_singleton.1 e] at hx; exact hpv hx
  · rw [List.nodup_cons, List.nodup_append, List.nodup_append]
    have hsub : ∀ x y, x ∈ own lv ++ own hv → y ∈ own v' → x ≠ y := by
      intro x y hx hy e
      subst e
      rcases hn x hy with c | c
      · rcases List.mem_append.1 hx with d | d
        · exact a4 x d x (List.mem_append_right _ c) rfl
        · exact b3 x d x c rfl
      · have : x < w.heap.size := by
          rcases List.mem_append.1 hx with d | d
          · exact hlt x (List.mem_cons_of_mem _ (List.mem_append_left _ d))
          · exact hlt x (List.mem_cons_of_mem _ (List.mem_append_right _ (List.mem_append_left _ d)))
        omega
    refine ⟨fun e => ?_, a2, ⟨b1, ?_, fun x hx y hy => hsub x y (List.mem_append_right _ hx) hy⟩, fun x hx y hy => ?_⟩
    · rcases List.mem_append.1 e with d | d
      · exact a1 (List.mem_append_left _ d)
      · rcases List.mem_append.1 d with d | d
        · exact a1 (List.mem_append_right _ (List.mem_append_left _ d))
        · exact hpv d
    · unfold own
      cases v'.ownBlock <;> simp
    · rcases List.mem_append.1 hy with d | d
      · exact a4 x hx y (List.mem_append_left _ d)
      · exact hsub x y (List.mem_append_left _ hx) d
  · rw [List.mem_singleton.1 hx]; exact List.mem_cons_self ..
def ReachQ (W : World) (p : Nat) (T : Tbl) (lv hv av : Value) (wr : World) (array : List Nat) (av' : Value) : Prop :=
  TblAt wr p ⟨T.l, T.hash, array⟩ lv hv av' ∧ ArrHas numKey (kds T.l) array ∧ array.length ≤ T.l.length ∧ Chg (p :: own av) W wr ∧ ∀ x ∈ own av', x ∈ own av ∨ W.heap.size ≤ x
def ReachR (W : World) (p : Nat) (T : Tbl) (lv hv av : Value) (wr : World) : Prop := ∃ array av', ReachQ W p T lv hv av wr array av'
def ReachP (W : World) (p : Nat) (T : Tbl) (lv hv av : Value) (e : Ending) (w' : World) : Prop :=
  e = .returned (.tuple #[]) ∧ ∃ array av', ReachQ W p T lv hv av w' array av' ∧ ArrOK numKey (kds T.l) array
def arrLen (p : Nat) (w : World) : Nat := match w.cell? ⟨p, 3, none⟩ with
  | some (.slice _ n _) => n
  | _ => 0
set_option maxHeartbeats 1000000 in
set_option maxRecDepth 100000 in
theorem reach_walk (p : Nat) (T : Tbl) (lv hv av : Value) (W : World) (h : TblAt W p T lv hv av) (ok : Tbl0 T) (ha : ArrHas numKey (kds T.l) T.array) (hle : T.array.length ≤ T.l.length) :
    Calls Try.prog 55 #[.pointer (some ⟨p, 0, none⟩)] W (ReachP W p T lv hv av) := by
  have hlen := ok.len
  have h0 : ReachR W p T lv hv av W := ⟨T.array, av, h, ha, hle, Chg.refl _ _, fun x hx => .inl hx⟩
  clear h ha hle
  go_enter Try.func55, Try.ntmps55
  go_wp2_with fail
  go_loopw [2] (fun _ wr => ReachR W p T lv hv av wr) (fun _ wr => T.l.length - arrLen p wr)
  case atStart => exact h0
  case round =>
    obtain ⟨array, av', hat, hhas, hle, hchg, hnew⟩ := hrel
    obtain ⟨n, hp⟩ := hat.head
    have hpb : p < wr.heap.size := (Array.getElem?_eq_some_iff.1 hp).1
    obtain ⟨acap, aad, rfl⟩ : ∃ acap aad, av' = .slice aad array.length acap := by
      rcases hat.array.2 with ⟨rfl, h0⟩ | ⟨g, cap, cur, rfl, _⟩
      · exact ⟨0, none, by rw [h0]⟩
      · exact ⟨_, _, rfl⟩
    have p3 : wr.cell? ⟨p, 3, none⟩ = some (.slice aad array.length acap) := by rw [cell_of hp]; rfl
    go_wp2_with fail
    refine ((ans_FromInt ((array.length : Int) + 1)).at _).mono ?_
    rintro e w1 ⟨rfl, h1⟩
    go_wp2_with fail
    refine (num_any _ _).mono ?_
    rintro e w2 ⟨rfl, h2⟩
    rw [show ((array.length : Int) + 1) = ((array.length + 1 : Nat) : Int) from rfl, numKey_canon]
    have t2 : TblAt w2 p ⟨T.l, T.hash, array⟩ lv hv (.slice aad array.length acap) := hat.kept (B := []) (Chg.of_below (h1.trans (h2.mono h1.size))) (fun _ _ => List.not_mem_nil)
    have ok' : Tbl0 ⟨T.l, T.hash, array⟩ := ⟨ok.once, ok.keys, ok.room, ok.most⟩
    have hb2 : Below wr.heap.size wr w2 := h1.trans (h2.mono h1.size)
    clear h1 h2
    go_wp2_with fail
    refine (find_any p _ lv hv _ (numKey (array.length + 1)) (by show (0 : Nat) ≤ maxLen; exact Nat.zero_le _) _ t2 ok').mono ?_
    rintro e w3 ⟨r, rfl, hr, h3⟩
    have hb3 : Below wr.heap.size wr w3 := hb2.trans (h3.mono hb2.size)
    clear h3 hb2
    rcases hr with ⟨rfl, hr⟩ | ⟨i, rfl, hr⟩
    · have Hr := Lib.hid hr
      clear hr
      go_wp2_with fail
      go_end0
      refine ⟨rfl, array, _, ⟨hat.kept (B := []) (Chg.of_below hb3) (fun _ _ => List.not_mem_nil), hhas, hle, hchg.trans (Chg.of_below (B := []) hb3) (fun _ h => absurd h List.not_mem_nil), hnew⟩, ⟨hhas.has, Hr.out⟩⟩
    · have hil : i < T.l.length := by rw [← kds_len]; exact (List.getElem?_eq_some_iff.1 hr).1
      have Hk := Lib.hid hr
      clear hr
      have t3 : TblAt w3 p ⟨T.l, T.hash, array⟩ lv hv (.slice aad array.length acap) := hat.kept (B := []) (Chg.of_below hb3) (fun _ _ => List.not_mem_nil)
      have p33 : w3.cell? ⟨p, 3, none⟩ = some (.slice aad array.length acap) := by rw [hb3.cell hpb]; exact p3
      have hpb3 : p < w3.heap.size := Nat.lt_of_lt_of_le hpb hb3.size
      have hcl : ∀ b o, b < w3.heap.size → ∀ O, (w3.alloc O).cell? ⟨b, o, none⟩ = w3.cell? ⟨b, o, none⟩ := fun b o hb O => World.cell?_of_block (Below.heap_alloc w3 O b hb)
      have hrow : ∀ O, (w3.alloc O).ownsRow 0 21 1 (.slice aad array.length acap) array.length (i32s array) := fun O => t3.array.alloc O
      obtain ⟨ti, hi0, hi1, hi2, hi3⟩ := info_parts (show (Try.prog.info? 21).map (fun i => (i.zero, i.size, i.bytes)) = some (some (.int .i32 0), 1, 4) from by kernel_rfl)
      go_wp2_with (at_builtin; go_loud (refine wpList_append_foot _ rfl (.tmp 19) (.tmp 22) 70 rfl 21 ti (.int .i32 0) 1 4 Try.underlying70 hi0 hi1 hi2 hi3 rfl (by decide) _ _ _ rfl (hrow _) _ _ _ [.int .i32 (i : Int)] rfl rfl ?_ ?_ ?_ ?_ ?_))
      · intro j u hj
        cases j with
        | zero => 
          obtain rfl := Option.some.inj hj
          exact (cell_of (heap_alloc_new w3 _) 0).trans rfl
        | succ j => cases hj
      · intro u hu
        rw [List.mem_singleton] at hu
        subst hu; rfl
      · unfold maxLen; omega
      · omega
      intro v' w4 g1 g2 g3
      have ta := t3.kept (B := []) (Chg.of_below ((Below.refl _ _).alloc (Nat.le_refl _) (Obj.cells #[Value.int IntKind.i32 (i : Int)] 21))) (fun _ _ => List.not_mem_nil)
      have g1' : w4.ownsRow 0 21 1 v' (array ++ [i]).length (i32s (array ++ [i])) := by
        rw [List.length_append]
        unfold i32s
        rw [List.map_append]
        exact g1
      obtain ⟨t5, hch⟩ := ta.set3 g2 g1' (fun x hx => by rw [show (w3.alloc (Obj.cells #[Value.int IntKind.i32 (i : Int)] 21)).heap.size = w3.heap.size + 1 by simp]; exact g3 x hx)
      have hhas' : ArrHas numKey (kds T.l) (array ++ [i]) := ⟨fun j k hj => by
        rcases Nat.lt_or_ge j array.length with c | c
        · rw [List.getElem?_append_left c] at hj; exact hhas.has j k hj
        · rw [List.getElem?_append_right c] at hj
          have hz : j - array.length = 0 := by
            rcases Nat.eq_zero_or_pos (j - array.length) with d | d
            · exact d
            · rw [List.getElem?_eq_none (by simp; omega)] at hj; cases hj
          rw [hz] at hj
          obtain rfl := Option.some.inj hj
          rw [show j = array.length by omega]
          exact Hk.out⟩
      have hle' : (array ++ [i]).length ≤ T.l.length := by
        have := hhas'.le (fun a b ha hb e => by
          have hl : (array ++ [i]).length = array.length + 1 := by simp
          exact numKey_inj (by omega) (by omega) e)
        rwa [kds_len] at this
      have hl : (array ++ [i]).length = array.length + 1 := by simp
      have hchg' : Chg (p :: own av) W (w4.setCell ⟨p, 3, none⟩ v') := by
        refine (hchg.trans (Chg.of_below (B := []) (hb3.trans (((Below.refl _ _).alloc (Nat.le_refl _) _).mono hb3.size))) (fun _ h => absurd h List.not_mem_nil)).trans hch (fun x hx hlt => ?_)
        rcases List.mem_cons.1 hx with c | c
        · rw [c]; exact List.mem_cons_self ..
        · rcases hnew x c with d | d
          · exact List.mem_cons_of_mem _ d
          · omega
      have hnew' : ∀ x ∈ own v', x ∈ own av ∨ W.heap.size ≤ x := fun x hx => by
        rcases g3 x hx with c | c
        · exact hnew x c
        · have h1 := hchg.size
          have h2 := hb3.size
          exact .inr (by omega)
      have hR : ReachR W p T lv hv av (w4.setCell ⟨p, 3, none⟩ v') := ⟨array ++ [i], v', t5, hhas', hle', hchg', hnew'⟩
      have hM : T.l.length - arrLen p (w4.setCell ⟨p, 3, none⟩ v') < T.l.length - arrLen p wr := by
        have e1 : arrLen p wr = array.length := by unfold arrLen; rw [p3]
        have e2 : arrLen p (w4.setCell ⟨p, 3, none⟩ v') = array.length + 1 := by
          obtain ⟨n5, hp5⟩ := t5.head
          unfold arrLen
          rw [cell_of hp5]
          rcases g1'.2 with ⟨_, h0⟩ | ⟨g, cap, cur, hv', _⟩
          · omega
          · show (match some v' with | some (.slice _ n _) => n | _ => 0) = _
            rw [hv']
            exact hl
        omega
      have hfz : w4.frozen? ⟨p, 3, none⟩ = false := by
        obtain ⟨na, hpa⟩ := ta.head
        have hb := g2.block p (Array.getElem?_eq_some_iff.1 hpa).1 (fun e => by
          have := ta.apart
          rw [List.nodup_cons] at this
          exact this.1 (List.mem_append_right _ (List.mem_append_right _ e)))
        exact frozen_of (hb.trans hpa) 3
      have hc4 : w4.cell? ⟨p, 3, none⟩ = some (.slice aad array.length acap) := by
        obtain ⟨na, hpa⟩ := ta.head
        have hb := g2.block p (Array.getElem?_eq_some_iff.1 hpa).1 (fun e => by
          have := ta.apart
          rw [List.nodup_cons] at this
          exact this.1 (List.mem_append_right _ (List.mem_append_right _ e)))
        rw [cell_of (hb.trans hpa)]; rfl
      have HR := Lib.hid hR
      have HM := Lib.hid hM
      obtain ⟨vad, vn, vcap, rfl⟩ : ∃ vad vn vcap, v' = .slice vad vn vcap := by
        rcases g1'.2 with ⟨h, _⟩ | ⟨g, cap, cur, h, _⟩
        · exact ⟨_, _, _, h⟩
        · exact ⟨_, _, _, h⟩
      clear hR hM t5 hch hhas' hle' hl hchg' hnew' g1 g1' g2 g3 ta hrow hcl p33 hi0 hi1 hi2 hi3
      go_wp2_with fail
      exact ⟨HR.out, HM.out⟩
end Go.Proofs.Ytlihonbmopeemaa.Hp
end
section
namespace Go.Proofs.Ytlihonbmopeemaa.Hp
open Go Go.RowKit Go.Proofs.Ytlihonbmopeemaa.HpLaw Go.Proofs.Ytlihonbmopeemaa.Ans

def kill (l : List Ent) (i : Nat) : List Ent := l.modify i fun e => { e with dead := true }
theorem kds_kill (l : List Ent) (i j : Nat) : (kds (kill l i))[j]? = if i = j then (kds l)[j]?.map (fun _ => none) else (kds l)[j]? := by
  unfold kds kill
  rw [List.getElem?_map, List.getElem?_modify, List.getElem?_map]
  by_cases h : i = j
  · rw [if_pos h]
    cases l[j]? with
    | none => simp
    | some e => simp [h]
  · rw [if_neg h]
    cases l[j]? with
    | none => simp
    | some e => simp [h]
theorem kds_kill_some {l : List Ent} {i j : Nat} {k : Val} (h : (kds (kill l i))[j]? = some (some k)) : i ≠ j ∧ (kds l)[j]? = some (some k) := by
  rw [kds_kill] at h
  by_cases c : i = j
  · rw [if_pos c] at h
    cases hk : (kds l)[j]? with
    | none => rw [hk] at h; cases h
    | some e => rw [hk] at h; cases h
  · rw [if_neg c] at h; exact ⟨c, h⟩
theorem kill_len (l : List Ent) (i : Nat) : (kill l i).length = l.length := List.length_modify ..
theorem Tbl0.kill {T : Tbl} (h : Tbl0 T) (i : Nat) (array : List Nat) : Tbl0 ⟨kill T.l i, T.hash, array⟩ := by
  refine ⟨fun a b k ha hb => h.once a b k (kds_kill_some ha).2 (kds_kill_some hb).2, fun e he => ?_, ?_, h.most⟩
  · obtain ⟨j, hj⟩ := List.getElem?_of_mem he
    unfold Hp.kill at hj
    rw [List.getElem?_modify] at hj
    cases hl : T.l[j]? with
    | none => rw [hl] at hj; simp at hj
    | some e' =>
      rw [hl] at hj
      have hm := h.keys e' (List.mem_of_getElem? hl)
      by_cases c : i = j
      · simp [c] at hj; rw [← hj]; exact ⟨hm.num, hm.text, hm.plain⟩
      · simp [c] at hj; rw [← hj]; exact hm
  · rcases h.room with ⟨h1, h2⟩ | ⟨h1, h2, h3⟩
    · left; refine ⟨?_, h2⟩; show Hp.kill T.l i = []; exact List.eq_nil_of_length_eq_zero (by rw [kill_len, h1]; rfl)
    · right
      refine ⟨h1, ?_, ?_⟩
      · show HashOK HV _ (Hp.kill T.l i).length _
        rw [kill_len]
        exact h2.dead fun j k hk => (kds_kill_some hk).2
      · show 2 * (Hp.kill T.l i).length ≤ _
        rw [kill_len]; exact h3
/-- the array part behind a drop -/
theorem drop_arr {T : Tbl} (ok : TblOK T) {i : Nat} {x : Val} (hi : (kds T.l)[i]? = some (some x)) {r : Int} (hr : IndexIs T x r) :
    ArrOK numKey (kds (kill T.l i)) (if 0 ≤ r then T.array.take r.toNat else T.array) := by
  have hlen := ok.len
  have hale := ok.arrLe
  rcases hr with ⟨rfl, hn⟩ | ⟨j, rfl, hj, hx⟩
  · rw [if_neg (by decide)]
    refine ⟨fun a b hab => ?_, fun b hb => ok.arr.max b (kds_kill_some hb).2⟩
    have h1 := ok.arr.has a b hab
    have hal : a < T.array.length := (List.getElem?_eq_some_iff.1 hab).1
    rw [kds_kill, if_neg, h1]
    intro e
    subst e
    rw [hi] at h1
    exact hn a hal (Option.some.inj (Option.some.inj h1))
  · rw [if_pos (by omega), Int.toNat_natCast]
    refine ⟨fun a b hab => ?_, fun b hb => ?_⟩
    · rw [List.getElem?_take] at hab
      split at hab
      · rename_i haj
        have h1 := ok.arr.has a b hab
        rw [kds_kill, if_neg, h1]
        intro e
        subst e
        rw [hi, hx] at h1
        have := numKey_inj (by omega) (by omega) (Option.some.inj (Option.some.inj h1))
        omega
      · cases hab
    · rw [List.length_take, Nat.min_eq_left (by omega), ← hx] at hb
      obtain ⟨h1, h2⟩ := kds_kill_some hb
      exact h1 (ok.once _ _ _ hi h2)
theorem entCells_kill : ∀ (l : List Ent) (i : Nat), i < l.length → entCells (kill l i) = (entCells l).set (i * 9 + 8) (.bool true)
  | [], i, h => absurd h (Nat.not_lt_zero _)
  | a :: l, 0, _ => rfl
  | a :: l, i + 1, h => by
    have e1 : entCells (kill (a :: l) (i + 1)) = a.cs ++ entCells (kill l i) := List.flatMap_cons ..
    have e2 : entCells (a :: l) = a.cs ++ entCells l := List.flatMap_cons ..
    rw [e1, e2, entCells_kill l i (by simpa using h), List.set_append_right _ _ (by rw [ent_len]; omega), ent_len]
    congr 2
    omega
theorem row_cut {w : World} {e : TypeId} {size : Nat} {ad : Option Addr} {n cap k : Nat} {xs : List Value} (h : w.ownsRow 0 e size (.slice ad n cap) n xs) (hk : k ≤ n) (h0 : 0 < n) : w.ownsRow 0 e size (.slice ad k cap) k (xs.take (k * size)) := by
  rcases h.2 with ⟨_, h1⟩ | ⟨g, c, cur, he, hb, hg, hn, hm, hs, ht⟩
  · omega
  · cases he
    have hle : k * size ≤ n * size := Nat.mul_le_mul_right _ hk
    refine ⟨by rw [List.length_take, h.1]; omega, .inr ⟨g, cap, cur, rfl, hb, hg, by omega, hm, hs, ?_⟩⟩
    rw [← ht, List.take_take, Nat.min_eq_left hle]
theorem foot_split {p : Nat} {lv hv av : Value} (h : (p :: (own lv ++ (own hv ++ own av))).Nodup) :
    (∀ x ∈ own lv, x ≠ p ∧ x ∉ own hv ∧ x ∉ own av) ∧ (∀ x ∈ own hv, x ≠ p ∧ x ∉ own lv ∧ x ∉ own av) ∧ (∀ x ∈ own av, x ≠ p ∧ x ∉ own lv ∧ x ∉ own hv) := by
  rw [List.nodup_cons, List.nodup_append] at h
  obtain ⟨a1, a2, a3, a4⟩ := h
  rw [List.nodup_append] at a3
  obtain ⟨b1, b2, b3⟩ := a3
  refine ⟨fun x hx => ⟨fun e => a1 (e ▸ List.mem_append_left _ hx), fun e => a4 x hx x (List.mem_append_left _ e) rfl, fun e => a4 x hx x (List.mem_append_right _ e) rfl⟩,
    fun x hx => ⟨fun e => a1 (e ▸ List.mem_append_right _ (List.mem_append_left _ hx)), fun e => a4 x e x (List.mem_append_left _ hx) rfl, fun e => b3 x hx x e rfl⟩,
    fun x hx => ⟨fun e => a1 (e ▸ List.mem_append_right _ (List.mem_append_right _ hx)), fun e => a4 x e x (List.mem_append_right _ hx) rfl, fun e => b3 x e x hx rfl⟩⟩
theorem TblAt.setDead {w : World} {p : Nat} {T : Tbl} {lg cap : Nat} {hv av : Value} {i : Nat} (h : TblAt w p T (.slice (some ⟨lg, 0, none⟩) T.l.length cap) hv av) (hi : i < T.l.length) :
    TblAt (w.setCell ⟨lg, i * 9 + 8, none⟩ (.bool true)) p ⟨kill T.l i, T.hash, T.array⟩ (.slice (some ⟨lg, 0, none⟩) T.l.length cap) hv av ∧ Chg [lg] w (w.setCell ⟨lg, i * 9 + 8, none⟩ (.bool true)) := by
  have hs := chg_set w lg (i * 9 + 8) (.bool true)
  obtain ⟨s1, s2, s3⟩ := foot_split h.apart
  have hlg : lg ∈ own (Value.slice (some ⟨lg, 0, none⟩) T.l.length cap) := List.mem_singleton.2 rfl
  obtain ⟨n, hp⟩ := h.head
  refine ⟨⟨⟨n, ?_⟩, ?_, row_kept h.hash hs (fun x hx e => ?_), row_kept h.array hs (fun x hx e => ?_), h.apart⟩, hs⟩
  · rw [hs.block p (Array.getElem?_eq_some_iff.1 hp).1 (fun e => (s1 lg hlg).1 (List.mem_singleton.1 e).symm)]; exact hp
  · show World.ownsRow _ _ _ _ _ (kill T.l i).length (entCells (kill T.l i))
    rw [kill_len, entCells_kill _ _ hi]
    exact (h.l.stored _ _).1
  · rw [List.mem_singleton.1 e] at hx; exact (s1 lg hlg).2.1 hx
  · rw [List.mem_singleton.1 e] at hx; exact (s1 lg hlg).2.2 hx
theorem TblAt.setLive {w : World} {p : Nat} {T : Tbl} {lv hv av : Value} (h : TblAt w p T lv hv av) (m : Int) : TblAt (w.setCell ⟨p, 1, none⟩ (.int .i64 m)) p T lv hv av ∧ Chg [p] w (w.setCell ⟨p, 1, none⟩ (.int .i64 m)) := by
  have hs := chg_set w p 1 (.int .i64 m)
  obtain ⟨s1, s2, s3⟩ := foot_split h.apart
  obtain ⟨n, hp⟩ := h.head
  refine ⟨⟨⟨m, ?_⟩, row_kept h.l hs (fun x hx e => (s1 x hx).1 (List.mem_singleton.1 e)), row_kept h.hash hs (fun x hx e => (s2 x hx).1 (List.mem_singleton.1 e)), row_kept h.array hs (fun x hx e => (s3 x hx).1 (List.mem_singleton.1 e)), h.apart⟩, hs⟩
  rw [setCell_at hp]; rfl
def DropP (W : World) (p : Nat) (T : Tbl) (lv hv av : Value) (i : Nat) (e : Ending) (w' : World) : Prop :=
  e = .returned (.tuple #[]) ∧ ∃ array av', TblAt w' p ⟨kill T.l i, T.hash, array⟩ lv hv av' ∧ TblOK ⟨kill T.l i, T.hash, array⟩ ∧ own av' = own av ∧ Chg (p :: own lv) W w'
set_option maxHeartbeats 1000000 in
theorem drop_walk (p : Nat) (T : Tbl) (lv hv av : Value) (i : Nat) (W : World) (h : TblAt W p T lv hv av) (ok : TblOK T) (hi : i < T.l.length) (hd : T.l[i].dead = false) :
    Calls Try.prog 28 #[.pointer (some ⟨p, 0, none⟩), .int .i64 i] W (DropP W p T lv hv av i) := by
  have hlen := ok.len
  obtain ⟨n, hp⟩ := h.head
  rcases h.l.2 with ⟨_, hl0⟩ | ⟨lg, lcap, lcur, rfl, _, hlg, hln, hlm, _, _⟩
  · omega
  have hpb : p < W.heap.size := (Array.getElem?_eq_some_iff.1 hp).1
  have hlb : lg < W.heap.size := (Array.getElem?_eq_some_iff.1 hlg).1
  have p0 : W.cell? ⟨p, 0, none⟩ = some (.slice (some ⟨lg, 0, none⟩) T.l.length lcap) := by rw [cell_of hp]; rfl
  have q0 : W.cell? ⟨lg, i * 9, none⟩ = some (.int .i64 T.l[i].key.k) := row_cell h.l (entCells_at T.l i 0 (by omega) hi)
  have q1 : W.cell? ⟨lg, i * 9 + 1, none⟩ = some (.int .u64 T.l[i].key.n) := row_cell h.l (entCells_at T.l i 1 (by omega) hi)
  have q2 : W.cell? ⟨lg, i * 9 + 2, none⟩ = some (.string T.l[i].key.s) := row_cell h.l (entCells_at T.l i 2 (by omega) hi)
  have q3 : W.cell? ⟨lg, i * 9 + 3, none⟩ = some (.int .i64 T.l[i].key.o) := row_cell h.l (entCells_at T.l i 3 (by omega) hi)
  have hk : (kds T.l)[i]? = some (some T.l[i].key) := by rw [kds_at hi, hd]; rfl
  have hkey := ok.keys T.l[i] (List.getElem_mem ..)
  have q8 : W.cell? ⟨lg, i * 9 + 8, none⟩ = some (.bool T.l[i].dead) := row_cell h.l (entCells_at T.l i 8 (by omega) hi)
  have Hk := Lib.hid hk
  clear hk hd hp hlg
  unfold maxLen at hlm
  generalize T.l[i] = en at *
  go_enter Try.func28, Try.ntmps28
  go_wp2_with fail
  refine (index_walk p T _ hv av en.key hkey _ h (by have := ok.arrLe; omega)).mono ?_
  rintro e w1 ⟨r, rfl, hr, h1⟩
  have t1 := h.kept (B := []) (Chg.of_below h1) (fun _ _ => List.not_mem_nil)
  have harr := drop_arr ok Hk.out hr
  obtain ⟨n1, hp1⟩ := t1.head
  have pp0 : w1.cell? ⟨p, 0, none⟩ = some (.slice (some ⟨lg, 0, none⟩) T.l.length lcap) := by rw [cell_of hp1]; rfl
  have pp1 : w1.cell? ⟨p, 1, none⟩ = some (.int .i64 n1) := by rw [cell_of hp1]; rfl
  have pp3 : w1.cell? ⟨p, 3, none⟩ = some av := by rw [cell_of hp1]; rfl
  have pf : ∀ o, w1.frozen? ⟨p, o, none⟩ = false := fun o => frozen_of hp1 o
  have qq8 : w1.cell? ⟨lg, i * 9 + 8, none⟩ = some (.bool en.dead) := by rw [h1.cell hlb]; exact q8
  have hlp : lg ≠ p := ((foot_split h.apart).1 lg (List.mem_singleton.2 rfl)).1
  have lf : ∀ o, w1.frozen? ⟨lg, o, none⟩ = false := fun o => t1.l.frozenAt o
  rcases hr with ⟨rfl, _⟩ | ⟨j, rfl, hj, _⟩
  · rw [if_neg (by decide)] at harr
    have Harr := Lib.hid harr
    clear harr
    go_wp2_with fail
    go_end0
    obtain ⟨d1, d2⟩ := t1.setDead hi
    obtain ⟨d3, d4⟩ := d1.setLive (wrap64 (n1 - 1))
    refine ⟨rfl, T.array, av, d3, ⟨ok.toTbl0.kill i T.array, Harr.out, ?_⟩, rfl, ?_⟩
    · show T.array.length ≤ (kill T.l i).length
      rw [kill_len]; exact ok.arrLe
    · refine ((Chg.of_below (B := p :: own (Value.slice (some ⟨lg, 0, none⟩) T.l.length lcap)) h1).trans d2 (fun x hx _ => ?_)).trans d4 (fun x hx _ => ?_)
      · rw [List.mem_singleton.1 hx]; exact List.mem_cons_of_mem _ (List.mem_singleton.2 rfl)
      · rw [List.mem_singleton.1 hx]; exact List.mem_cons_self ..
  · rw [if_pos (by omega), Int.toNat_natCast] at harr
    have Harr := Lib.hid harr
    clear harr
    rcases h.array.2 with ⟨_, h0⟩ | ⟨g, cap, cur, rfl, _, _, hcn, hcm, _, _⟩
    · omega
    unfold maxLen at hcm
    have hlen2 : (T.array.take j).length = j := by rw [List.length_take]; omega
    have hrow : w1.ownsRow 0 21 1 (.slice (some ⟨g, 0, none⟩) j cap) (T.array.take j).length (i32s (T.array.take j)) := by
      have := row_cut t1.array (Nat.le_of_lt hj) (by omega)
      rw [hlen2]
      unfold i32s at *
      rw [List.map_take]
      rw [Nat.mul_one] at this
      exact this
    obtain ⟨c1, c2⟩ := t1.set3 (Chg.refl _ w1) hrow (fun x hx => .inl hx)
    obtain ⟨d1, d2⟩ := TblAt.setDead c1 hi
    obtain ⟨d3, d4⟩ := d1.setLive (wrap64 (n1 - 1))
    have hfin : DropP W p T (.slice (some ⟨lg, 0, none⟩) T.l.length lcap) hv (.slice (some ⟨g, 0, none⟩) T.array.length cap) i (.returned (.tuple #[])) (((w1.setCell ⟨p, 3, none⟩ (.slice (some ⟨g, 0, none⟩) j cap)).setCell ⟨lg, i * 9 + 8, none⟩ (.bool true)).setCell ⟨p, 1, none⟩ (.int .i64 (wrap64 (n1 - 1)))) := by
      refine ⟨rfl, T.array.take j, _, d3, ⟨ok.toTbl0.kill i (T.array.take j), Harr.out, ?_⟩, rfl, ?_⟩
      · show (T.array.take j).length ≤ (kill T.l i).length
        rw [kill_len, hlen2]
        have := ok.arrLe
        omega
      · refine (((Chg.of_below (B := p :: own (Value.slice (some ⟨lg, 0, none⟩) T.l.length lcap)) h1).trans (chg_set w1 p 3 _) (fun x hx _ => ?_)).trans d2 (fun x hx _ => ?_)).trans d4 (fun x hx _ => ?_)
        · rw [List.mem_singleton.1 hx]; exact List.mem_cons_self ..
        · rw [List.mem_singleton.1 hx]; exact List.mem_cons_of_mem _ (List.mem_singleton.2 rfl)
        · rw [List.mem_singleton.1 hx]; exact List.mem_cons_self ..
    have Hfin := Lib.hid hfin
    clear hfin c1 c2 d1 d2 d3 d4 hrow hlen2
    go_wp2_with fail
    go_end0
    exact Hfin.out
end Go.Proofs.Ytlihonbmopeemaa.Hp
end
section
namespace Go.Proofs.Ytlihonbmopeemaa.Hp
open Go Go.RowKit Go.Proofs.Ytlihonbmopeemaa.HpLaw Go.Proofs.Ytlihonbmopeemaa.Ans

def Ent.v (e : Ent) : Value := .agg #[.int .i64 e.key.k, .int .u64 e.key.n, .string e.key.s, .int .i64 e.key.o, .int .i64 e.val.k, .int .u64 e.val.n, .string e.val.s, .int .i64 e.val.o, .bool e.dead]
theorem renew1_any (e : Ent) (W : World) : Calls Try.prog 76 #[e.v] W fun x w' => x = .returned (.bool e.dead) ∧ Below W.heap.size W w' := by
  unfold Ent.v
  go_enter Try.func76, Try.ntmps76
  go_wp2_with fail
  go_ret
  exact ⟨rfl, (Below.refl _ _).alloc (Nat.le_refl _) _⟩
/-- all cells of the i-th entry, as a load meets them -/
theorem ent_cell {w : World} {g n cap : Nat} {l : List Ent} (h : w.ownsRow 0 82 9 (.slice (some ⟨g, 0, none⟩) n cap) n (entCells l)) {i : Nat} (hi : i < l.length) (j : Nat) (hj : j < 9) : w.cell? ⟨g, i * 9 + j, none⟩ = (l[i]).cs[j]? := by
  have he := entCells_at l i j hj hi
  rw [List.getElem?_eq_getElem (l := (l[i]).cs) (by rw [ent_len]; exact hj)] at he ⊢
  exact row_cell h he
def IdxP (W : World) (l : List Ent) (x : Ending) (w' : World) : Prop :=
  Below W.heap.size W w' ∧ ((x = .returned (.int .i64 (-1)) ∧ ∀ e ∈ l, e.dead = false) ∨ ∃ (i : Nat) (hi : i < l.length), x = .returned (.int .i64 i) ∧ (l[i]).dead = true ∧ ∀ j (hj : j < i), (l[j]'(Nat.lt_trans hj hi)).dead = false)
def IdxR (W : World) (l : List Ent) (k : Nat) (w' : World) : Prop := Below W.heap.size W w' ∧ ∀ j (hj : j < l.length), j < k → (l[j]).dead = false
theorem index_func (v : Value) (l : List Ent) (hl : l.length ≤ 67108864) (W : World) (h : W.ownsRow 0 82 9 v l.length (entCells l)) :
    Calls Try.prog 92 #[v, .func (.func 76) #[] #[]] W (IdxP W l) := by
  have h0 : IdxR W l 0 W := ⟨Below.refl _ _, fun j _ h => absurd h (Nat.not_lt_zero _)⟩
  obtain ⟨ad, cap, rfl⟩ : ∃ ad cap, v = .slice ad l.length cap := by
    rcases h.2 with ⟨rfl, h0⟩ | ⟨g, cap, cur, rfl, _⟩
    · exact ⟨none, 0, by rw [h0]⟩
    · exact ⟨_, _, rfl⟩
  go_enter Try.func92, Try.ntmps92
  go_wp2_with fail
  go_loopw [5, 8] (fun _ i wr => ∃ k : Nat, k ≤ l.length ∧ i = .int .i64 k ∧ IdxR W l k wr) (fun _ i _ => l.length - (intOf i).toNat)
  case atStart => exact ⟨0, Nat.zero_le _, rfl, h0⟩
  case round =>
    obtain ⟨k, hk, rfl, hb, hd⟩ := hrel
    have Hd := Lib.hid hd
    clear hd h0
    by_cases hlt : k < l.length
    · obtain ⟨g, rfl⟩ : ∃ g, ad = some ⟨g, 0, none⟩ := by
        rcases h.2 with ⟨_, h0⟩ | ⟨g, cap, cur, he, _⟩
        · omega
        · cases he; exact ⟨g, rfl⟩
      have hgb : g < W.heap.size := (h.lt g rfl).2
      have hg1 : ∀ o, wr.cell? ⟨g, o, none⟩ = W.cell? ⟨g, o, none⟩ := fun o => hb.cell hgb
      have q0 : W.cell? ⟨g, k * 9, none⟩ = some (.int .i64 l[k].key.k) := ent_cell h hlt 0 (by decide)
      have q1 : W.cell? ⟨g, k * 9 + 1, none⟩ = some (.int .u64 l[k].key.n) := ent_cell h hlt 1 (by decide)
      have q2 : W.cell? ⟨g, k * 9 + 2, none⟩ = some (.string l[k].key.s) := ent_cell h hlt 2 (by decide)
      have q3 : W.cell? ⟨g, k * 9 + 3, none⟩ = some (.int .i64 l[k].key.o) := ent_cell h hlt 3 (by decide)
      have q4 : W.cell? ⟨g, k * 9 + 4, none⟩ = some (.int .i64 l[k].val.k) := ent_cell h hlt 4 (by decide)
      have q5 : W.cell? ⟨g, k * 9 + 5, none⟩ = some (.int .u64 l[k].val.n) := ent_cell h hlt 5 (by decide)
      have q6 : W.cell? ⟨g, k * 9 + 6, none⟩ = some (.string l[k].val.s) := ent_cell h hlt 6 (by decide)
      have q7 : W.cell? ⟨g, k * 9 + 7, none⟩ = some (.int .i64 l[k].val.o) := ent_cell h hlt 7 (by decide)
      have q8 : W.cell? ⟨g, k * 9 + 8, none⟩ = some (.bool l[k].dead) := ent_cell h hlt 8 (by decide)
      obtain ⟨en, He⟩ : ∃ en, Hid (l[k] = en) := ⟨l[k], Lib.hid rfl⟩
      rw [He.out] at q0 q1 q2 q3 q4 q5 q6 q7 q8
      go_wp2_with fail
      refine (renew1_any en _).mono ?_
      rintro e w1 ⟨rfl, h1⟩
      cases hdd : en.dead
      · go_wp2_with fail
        go_roundw
        case rel => exact ⟨k + 1, by omega, by go_num, hb.trans (h1.mono hb.size), fun j hj hjk => by
          rcases Nat.lt_or_eq_of_le (Nat.lt_succ_iff.1 hjk) with c | c
          · exact Hd.out j hj c
          · subst c; rw [He.out]; exact hdd⟩
        case measure => simp [intOf]; omega
      · go_wp2_with fail
        go_ret
        refine ⟨hb.trans (h1.mono hb.size), .inr ⟨k, hlt, rfl, ?_, fun j hj => Hd.out j _ hj⟩⟩
        rw [He.out]; exact hdd
    · obtain rfl : k = l.length := by omega
      go_wp2_with fail
      go_ret
      refine ⟨hb, .inl ⟨rfl, fun e he => ?_⟩⟩
      obtain ⟨j, hj, rfl⟩ := List.getElem_of_mem he
      exact Hd.out j hj hj
end Go.Proofs.Ytlihonbmopeemaa.Hp
end
section
namespace Go.Proofs.Ytlihonbmopeemaa.Hp
open Go Go.RowKit Go.Proofs.Ytlihonbmopeemaa.HpLaw Go.Proofs.Ytlihonbmopeemaa.Ans

/-- cells written one behind the other -/
def putL : List Value → Nat → List Value → List Value
  | xs, _, [] => xs
  | xs, o, v :: r => putL (xs.set o v) (o + 1) r
theorem putL_append (p : List Value) : ∀ (vs xs : List Value) (o : Nat), putL (p ++ xs) (p.length + o) vs = p ++ putL xs o vs
  | [], _, _ => rfl
  | v :: r, xs, o => by
    unfold putL
    rw [List.set_append_right _ _ (Nat.le_add_right ..), Nat.add_sub_cancel_left, Nat.add_assoc, putL_append p r]
theorem putL_take : ∀ (vs xs : List Value) (o k : Nat), k ≤ o → (putL xs o vs).take k = xs.take k
  | [], _, _, _, _ => rfl
  | v :: r, xs, o, k, h => by
    unfold putL
    rw [putL_take r _ _ _ (by omega), List.take_set_of_le h]
theorem entCells_put : ∀ (l : List Ent) (i : Nat) (e : Ent), i < l.length → putL (entCells l) (i * 9) e.cs = entCells (l.set i e)
  | [], i, _, h => absurd h (Nat.not_lt_zero _)
  | a :: l, 0, e, _ => by
    show putL (a.cs ++ entCells l) 0 e.cs = e.cs ++ entCells l
    rfl
  | a :: l, i + 1, e, h => by
    have e1 : entCells (a :: l) = a.cs ++ entCells l := List.flatMap_cons ..
    have e2 : entCells (a :: l.set i e) = a.cs ++ entCells (l.set i e) := List.flatMap_cons ..
    rw [List.set_cons_succ, e1, e2, ← entCells_put l i e (by simpa using h), show (i + 1) * 9 = a.cs.length + i * 9 by rw [ent_len]; omega, putL_append]
theorem row_put {e : TypeId} {size g n cap : Nat} : ∀ (vs : List Value) {w : World} {xs : List Value} (o : Nat), w.ownsRow 0 e size (.slice (some ⟨g, 0, none⟩) n cap) n xs →
    (w.setCells g o vs).ownsRow 0 e size (.slice (some ⟨g, 0, none⟩) n cap) n (putL xs o vs) ∧ Chg [g] w (w.setCells g o vs)
  | [], w, xs, o, h => ⟨h, Chg.refl _ _⟩
  | v :: r, w, xs, o, h => by
    obtain ⟨h1, h2⟩ := h.stored o v
    obtain ⟨h3, h4⟩ := row_put r (o + 1) h1
    exact ⟨h3, (Chg.of_grown h2).trans h4 (fun x hx _ => hx)⟩
theorem ent_nine {w : World} {g n cap : Nat} {l : List Ent} (h : w.ownsRow 0 82 9 (.slice (some ⟨g, 0, none⟩) n cap) n (entCells l)) {i : Nat} (hi : i < l.length) {en : Ent} (he : l[i] = en) :
    w.cell? ⟨g, i * 9, none⟩ = some (.int .i64 en.key.k) ∧ w.cell? ⟨g, i * 9 + 1, none⟩ = some (.int .u64 en.key.n) ∧ w.cell? ⟨g, i * 9 + 2, none⟩ = some (.string en.key.s) ∧ w.cell? ⟨g, i * 9 + 3, none⟩ = some (.int .i64 en.key.o) ∧
    w.cell? ⟨g, i * 9 + 4, none⟩ = some (.int .i64 en.val.k) ∧ w.cell? ⟨g, i * 9 + 5, none⟩ = some (.int .u64 en.val.n) ∧ w.cell? ⟨g, i * 9 + 6, none⟩ = some (.string en.val.s) ∧ w.cell? ⟨g, i * 9 + 7, none⟩ = some (.int .i64 en.val.o) ∧
    w.cell? ⟨g, i * 9 + 8, none⟩ = some (.bool en.dead) := by
  subst he
  exact ⟨ent_cell h hi 0 (by decide), ent_cell h hi 1 (by decide), ent_cell h hi 2 (by decide), ent_cell h hi 3 (by decide), ent_cell h hi 4 (by decide), ent_cell h hi 5 (by decide), ent_cell h hi 6 (by decide), ent_cell h hi 7 (by decide), ent_cell h hi 8 (by decide)⟩
/-- clear of a slice's end -/
theorem run_clear_row {P : Program} (w : World) (t ty : TypeId) (e : TypeId) (i : TypeInfo) (z : Value) (size : Nat) (ht : P.underlying t = some (.slice e)) (hi : P.info? e = some i) (hz : i.zero = some z) (h1 : z.cells.all (·.oneCell') = true) (hzs : z.cells.size = size)
    (g n cap k c off : Nat) (xs : List Value) (hoff : off = k * size) (hown : w.ownsRow 0 e size (.slice (some ⟨g, 0, none⟩) n cap) n xs) (hk : k < n) :
    ∃ w', (Builtin.clear_ #[t] ty #[.slice (some ⟨g, off, none⟩) (n - k) c]).run P w = .ok (.tuple #[]) w' ∧ w'.ownsRow 0 e size (.slice (some ⟨g, 0, none⟩) k cap) k (xs.take (k * size)) ∧ Chg [g] w w' := by
  have hlen : (Builtin.zeroCells z.cells (n - k)).toList.length = (n - k) * size := by
    simp [Builtin.zeroCells, hzs]
  have hone : ∀ v ∈ (Builtin.zeroCells z.cells (n - k)).toList, v.oneCell' = true := by
    intro v hv
    simp only [Builtin.zeroCells, Array.toList_map, Array.toList_range, List.mem_map, List.mem_range] at hv
    obtain ⟨q, hq, rfl⟩ := hv
    have hpos : 0 < z.cells.size := by
      rcases Nat.eq_zero_or_pos z.cells.size with c | c
      · rw [c, Nat.mul_zero] at hq; omega
      · exact c
    have hm := Nat.mod_lt q hpos
    rw [getElem!_pos z.cells _ hm]
    rw [Array.all_eq_true] at h1
    exact h1 _ hm
  subst hoff
  have hcell : ∀ j, j < (n - k) * size → (w.cell? ⟨g, k * size + 0 + j, none⟩).isSome = true := by
    intro j hj
    rcases hown.2 with ⟨_, h0⟩ | ⟨g', cap', cur, he, _, hg, hnc, _, hcs, _⟩
    · omega
    · cases he
      have h3 : (n - k) * size = n * size - k * size := Nat.sub_mul ..
      have h4 : n * size ≤ cap * size := Nat.mul_le_mul_right _ hnc
      have h5 : k * size + 0 + j < cur.size := by omega
      rw [cell_of hg, Array.getElem?_eq_getElem h5]; rfl
  have hst := run_storeCells_cells (P := P) g (k * size) (Builtin.zeroCells z.cells (n - k)).toList 0 w (by rw [hlen]; exact hcell) (fun j _ => hown.frozenAt _) hone
  have hrun : (Builtin.clear_ #[t] ty #[.slice (some ⟨g, k * size, none⟩) (n - k) c]).run P w = .ok (.tuple #[]) (w.setCells g (k * size) (Builtin.zeroCells z.cells (n - k)).toList) := by
    obtain ⟨m, hm⟩ : ∃ m, n - k = m + 1 := ⟨n - k - 1, by omega⟩
    have hv : ∀ w, (zeroValue e).run P w = .ok z w := fun w => by
      unfold zeroValue typeInfo
      simp [hi, hz]
    rw [hm] at hst ⊢
    simp only [Nat.add_zero] at hst
    simp [Builtin.clear_, run_underlying ht, hv, hst]
  obtain ⟨r1, r2⟩ := row_put (Builtin.zeroCells z.cells (n - k)).toList (k * size) hown
  have r3 := row_cut r1 (Nat.le_of_lt hk) (by omega)
  rw [putL_take _ _ _ _ (Nat.le_refl _)] at r3
  exact ⟨_, hrun, r3, r2⟩
def liveL (l : List Ent) : List Ent := l.filter fun e => !e.dead
structure DelR (W : World) (l : List Ent) (v : Value) (g : Nat) (i j : Nat) (wr : World) (l' : List Ent) : Prop where
  len : l'.length = l.length
  head : l'.take i = liveL (l.take j)
  tail : l'.drop j = l.drop j
  lt : i < j
  row : wr.ownsRow 0 82 9 v l.length (entCells l')
  chg : Chg [g] W wr
theorem entCells_take (l : List Ent) (k : Nat) : (entCells l).take (k * 9) = entCells (l.take k) := by
  induction l generalizing k with
  | nil => simp [entCells]
  | cons a l ih =>
    cases k with
    | zero => simp [entCells]
    | succ k =>
      have e1 : entCells (a :: l) = a.cs ++ entCells l := List.flatMap_cons ..
      have e2 : entCells (a :: l.take k) = a.cs ++ entCells (l.take k) := List.flatMap_cons ..
      rw [List.take_succ_cons, e1, e2, ← ih k, List.take_append, ent_len, List.take_of_length_le (by rw [ent_len]; omega), show (k + 1) * 9 - 9 = k * 9 by omega]
theorem drop_at {l l' : List Ent} {b : Nat} (h : l'.drop b = l.drop b) (hb : b < l.length) (hb' : b < l'.length) : l'[b] = l[b] := by
  have h1 : (l'.drop b)[0]? = (l.drop b)[0]? := by rw [h]
  rw [List.getElem?_drop, List.getElem?_drop, Nat.add_zero, List.getElem?_eq_getElem hb, List.getElem?_eq_getElem hb'] at h1
  exact Option.some.inj h1
theorem live_snoc (l : List Ent) (e : Ent) : liveL (l ++ [e]) = if e.dead then liveL l else liveL l ++ [e] := by
  unfold liveL
  rw [List.filter_append]
  cases h : e.dead <;> simp [h]
theorem DelR.skip {W : World} {l : List Ent} {v : Value} {g i j : Nat} {wr w' : World} {l' : List Ent} (h : DelR W l v g i j wr l') (hj : j < l.length) (hd : (l'[j]'(by rw [h.len]; exact hj)).dead = true) (hb : Below wr.heap.size wr w') : DelR W l v g i (j + 1) w' l' := by
  refine ⟨h.len, ?_, ?_, Nat.lt_succ_of_lt h.lt, row_kept h.row (B := []) (Chg.of_below hb) (fun _ _ => List.not_mem_nil), h.chg.trans (Chg.of_below (B := []) hb) (fun _ hx => absurd hx List.not_mem_nil)⟩
  · rw [List.take_succ_eq_append_getElem hj, live_snoc, ← drop_at h.tail hj (by rw [h.len]; exact hj), if_pos hd]; exact h.head
  · rw [← List.drop_drop, ← List.drop_drop, h.tail]
theorem DelR.keep {W : World} {l : List Ent} {g n cap i j : Nat} {wr w2 : World} {l' : List Ent} (h : DelR W l (.slice (some ⟨g, 0, none⟩) n cap) g i j wr l') (hn : n = l.length) (hj : j < l.length) {en : Ent} (he : (l'[j]'(by rw [h.len]; exact hj)) = en) (hd : en.dead = false) (hb : Below wr.heap.size wr w2) :
    DelR W l (.slice (some ⟨g, 0, none⟩) n cap) g (i + 1) (j + 1) (w2.setCells g (i * 9) en.cs) (l'.set i en) := by
  subst hn
  have hlen := h.len
  have hlt := h.lt
  have row2 := row_kept h.row (B := []) (Chg.of_below hb) (fun _ _ => List.not_mem_nil)
  obtain ⟨r1, r2⟩ := row_put en.cs (i * 9) row2
  rw [entCells_put _ _ _ (by omega)] at r1
  refine ⟨by rw [List.length_set]; exact hlen, ?_, ?_, by omega, r1, (h.chg.trans (Chg.of_below (B := []) hb) (fun _ hx => absurd hx List.not_mem_nil)).trans r2 (fun x hx _ => hx)⟩
  · rw [List.take_succ_eq_append_getElem hj, live_snoc, ← drop_at h.tail hj (by omega), he, hd, if_neg (by decide), ← h.head, List.take_succ_eq_append_getElem (by rw [List.length_set]; omega), List.take_set_of_le (Nat.le_refl _), List.getElem_set_self]
  · rw [List.drop_set_of_lt (by omega), ← List.drop_drop, ← List.drop_drop, h.tail]
theorem setCells_nine (w : World) (g i : Nat) (e : Ent) : w.setCells g (i * 9) e.cs = ((((((((w.setCell ⟨g, i * 9, none⟩ (.int .i64 e.key.k)).setCell ⟨g, i * 9 + 1, none⟩ (.int .u64 e.key.n)).setCell ⟨g, i * 9 + 2, none⟩ (.string e.key.s)).setCell ⟨g, i * 9 + 3, none⟩ (.int .i64 e.key.o)).setCell ⟨g, i * 9 + 4, none⟩ (.int .i64 e.val.k)).setCell ⟨g, i * 9 + 5, none⟩ (.int .u64 e.val.n)).setCell ⟨g, i * 9 + 6, none⟩ (.string e.val.s)).setCell ⟨g, i * 9 + 7, none⟩ (.int .i64 e.val.o)).setCell ⟨g, i * 9 + 8, none⟩ (.bool e.dead) := rfl
def DelP (W : World) (l : List Ent) (v : Value) (x : Ending) (w' : World) : Prop :=
  ∃ v', x = .returned v' ∧ own v' = own v ∧ w'.ownsRow 0 82 9 v' (liveL l).length (entCells (liveL l)) ∧ Chg (own v) W w'
set_option maxHeartbeats 1000000 in
set_option maxRecDepth 100000 in
theorem delete_func (v : Value) (l : List Ent) (hl : l.length ≤ 67108864) (W : World) (h : W.ownsRow 0 82 9 v l.length (entCells l)) :
    Calls Try.prog 75 #[v, .func (.func 76) #[] #[]] W (DelP W l v) := by
  obtain ⟨ad, cap, rfl⟩ : ∃ ad cap, v = .slice ad l.length cap := by
    rcases h.2 with ⟨rfl, h0⟩ | ⟨g, cap, cur, rfl, _⟩
    · exact ⟨none, 0, by rw [h0]⟩
    · exact ⟨_, _, rfl⟩
  go_enter Try.func75, Try.ntmps75
  go_wp2_with fail
  refine (index_func _ l hl _ h).mono ?_
  rintro e w1 ⟨hb1, hr⟩
  rcases hr with ⟨rfl, hr⟩ | ⟨i, hi, rfl, hd, hr⟩
  · have Hr := Lib.hid hr
    clear hr
    go_wp2_with fail
    go_ret
    have e : liveL l = l := by
      unfold liveL
      rw [List.filter_eq_self]
      intro a ha
      rw [Hr.out a ha]; rfl
    refine ⟨_, rfl, rfl, ?_, Chg.of_below hb1⟩
    rw [e]
    exact row_kept h (B := []) (Chg.of_below hb1) (fun _ _ => List.not_mem_nil)
  · obtain ⟨g, rfl⟩ : ∃ g, ad = some ⟨g, 0, none⟩ := by
      rcases h.2 with ⟨_, h0⟩ | ⟨g, cap, cur, he, _⟩
      · omega
      · cases he; exact ⟨g, rfl⟩
    have hR0 : DelR W l (.slice (some ⟨g, 0, none⟩) l.length cap) g i (i + 1) w1 l := by
      refine ⟨rfl, ?_, rfl, Nat.lt_succ_self _, row_kept h (B := []) (Chg.of_below hb1) (fun _ _ => List.not_mem_nil), Chg.of_below hb1⟩
      rw [List.take_succ_eq_append_getElem hi, live_snoc, if_pos hd]
      unfold liveL
      symm
      rw [List.filter_eq_self]
      intro x hx
      obtain ⟨q, hq, rfl⟩ := List.getElem_of_mem hx
      rw [List.length_take] at hq
      rw [List.getElem_take, hr q (by omega)]
      rfl
    have Hne : ((i : Int) == -1) = false := by rw [beq_eq_false_iff_ne]; omega
    clear hr hd
    go_wp2_with fail
    go_loopw [5, 6] (fun i j wr => ∃ (a b : Nat) (l' : List Ent), b ≤ l.length ∧ i = .int .i64 a ∧ j = .int .i64 b ∧ DelR W l (.slice (some ⟨g, 0, none⟩) l.length cap) g a b wr l') (fun _ j _ => l.length - (intOf j).toNat)
    case atStart => exact ⟨i, i + 1, l, hi, rfl, rfl, hR0⟩
    case round =>
      obtain ⟨a, b, l', hbl, rfl, rfl, hR⟩ := hrel
      clear hR0 hb1
      by_cases hlt : b < l.length
      · have hlen := hR.len
        have hab := hR.lt
        have row := hR.row
        obtain ⟨en, He⟩ : ∃ en, Hid (l'[b] = en) := ⟨l'[b], Lib.hid rfl⟩
        obtain ⟨q0, q1, q2, q3, q4, q5, q6, q7, q8⟩ := ent_nine row (by omega) He.out
        go_wp2_with fail
        refine (renew1_any en _).mono ?_
        rintro e w2 ⟨rfl, h2⟩
        have hgb : g < wr.heap.size := (row.lt g rfl).2
        have hb2 : Below wr.heap.size wr w2 := ((Below.refl _ _).alloc (Nat.le_refl _) _).trans (h2.mono (by simp))
        have hg2 : ∀ o, w2.cell? ⟨g, o, none⟩ = wr.cell? ⟨g, o, none⟩ := fun o => hb2.cell hgb
        have hf2 : ∀ o, w2.frozen? ⟨g, o, none⟩ = false := fun o => (hb2.frozen hgb).trans (row.frozenAt o)
        have hx2 : ∀ o, w2.cell? ⟨wr.heap.size, o, none⟩ = en.cs[o]? := by
          intro o
          rw [h2.cell (by simp), cell_of (heap_alloc_new _ _)]; exact (List.getElem?_toArray ..)
        have x0 := hx2 0
        have x1 := hx2 1
        have x2 := hx2 2
        have x3 := hx2 3
        have x4 := hx2 4
        have x5 := hx2 5
        have x6 := hx2 6
        have x7 := hx2 7
        have x8 := hx2 8
        simp only [Ent.cs, Val.cs, List.cons_append, List.nil_append, List.getElem?_cons_zero, List.getElem?_cons_succ] at x0 x1 x2 x3 x4 x5 x6 x7 x8
        have row2 : w2.ownsRow 0 82 9 (.slice (some ⟨g, 0, none⟩) l.length cap) l.length (entCells l') := row_kept row (B := []) (Chg.of_below hb2) (fun _ _ => List.not_mem_nil)
        obtain ⟨r0, r1, r2, r3, r4, r5, r6, r7, r8⟩ := ent_nine row (i := a) (by omega) rfl
        clear hx2 h2
        cases hdd : en.dead
        · have hR2 := hR.keep rfl hlt He.out hdd hb2
          rw [setCells_nine, hdd] at hR2
          have HR2 := Lib.hid hR2
          clear hR2
          go_wp2_with fail
          exact ⟨⟨a + 1, b + 1, _, by omega, by go_num, by go_num, HR2.out⟩, by simp [intOf]; omega⟩
        · have hR2 := hR.skip hlt (by rw [He.out]; exact hdd) hb2
          have HR2 := Lib.hid hR2
          clear hR2
          go_wp2_with fail
          exact ⟨⟨a, b + 1, _, by omega, by go_num, by go_num, HR2.out⟩, by simp [intOf]; omega⟩
      · obtain rfl : b = l.length := by omega
        have hlen := hR.len
        have hab := hR.lt
        have row := hR.row
        obtain ⟨ti, hi0, hi1, hi2, hi3⟩ := info_parts (show (Try.prog.info? 82).map (fun i => (i.zero, i.size, i.bytes)) = some (some (.agg #[.int .i64 0, .int .u64 0, .string ByteArray.empty, .int .i64 0, .int .i64 0, .int .u64 0, .string ByteArray.empty, .int .i64 0, .bool false]), 9, 88) from by kernel_rfl)
        have Hcap : (l.length : Int) ≤ cap := by
          rcases row.2 with ⟨_, h0⟩ | ⟨g', cap', cur, he, _, hg, hnc, _, hcs, _⟩
          · omega
          · cases he; omega
        have Hcap2 : (cap : Int) ≤ 9223372036854775807 := by
          rcases row.2 with ⟨_, h0⟩ | ⟨g', cap', cur, he, _, hg, hnc, hcm, hcs, _⟩
          · omega
          · cases he; unfold maxLen at hcm; omega
        have hhead := hR.head
        rw [List.take_of_length_le (Nat.le_refl _)] at hhead
        have hla : (liveL l).length = a := by rw [← hhead, List.length_take]; omega
        have hcells : (entCells l').take (a * 9) = entCells (liveL l) := by rw [← hhead, entCells_take]
        have HF : Hid (∀ w', w'.ownsRow 0 82 9 (.slice (some ⟨g, 0, none⟩) a cap) a ((entCells l').take (a * 9)) → Chg [g] wr w' → DelP W l (.slice (some ⟨g, 0, none⟩) l.length cap) (.returned (.slice (some ⟨g, 0, none⟩) a cap)) w') := by
          intro w' h1 h2
          refine ⟨_, rfl, rfl, ?_, hR.chg.trans h2 (fun x hx _ => hx)⟩
          rw [hcells] at h1
          rw [hla]
          exact h1
        clear hcells hla hhead hlen
        obtain ⟨w', hrun, h1, h2⟩ := run_clear_row (P := Try.prog) wr 69 0 82 ti _ 9 Try.underlying69 hi0 hi1 (by kernel_rfl) rfl g l.length cap a (cap - a) (a * 9) _ rfl row (by omega)
        have HF' := Lib.hid (HF.out _ h1 h2)
        clear h1 h2 HF hi0 hi1 hi2 hi3
        go_wp2_with fail
        go_ret
        exact HF'.out
end Go.Proofs.Ytlihonbmopeemaa.Hp
end
section
namespace Go.Proofs.Ytlihonbmopeemaa.Hp
open Go Go.RowKit Go.Proofs.Ytlihonbmopeemaa.HpLaw Go.Proofs.Ytlihonbmopeemaa.Ans

theorem own_nodup (v : Value) : (own v).Nodup := by
  unfold own
  cases v.ownBlock <;> simp
theorem foot_nodup {p : Nat} {lv hv av : Value} (h1 : ∀ x ∈ own lv, x ≠ p ∧ x ∉ own hv ∧ x ∉ own av) (h2 : ∀ x ∈ own hv, x ≠ p ∧ x ∉ own av) (h3 : ∀ x ∈ own av, x ≠ p) : (p :: (own lv ++ (own hv ++ own av))).Nodup := by
  rw [List.nodup_cons, List.nodup_append, List.nodup_append]
  refine ⟨fun e => ?_, own_nodup _, ⟨own_nodup _, own_nodup _, fun x hx y hy e => (h2 x hx).2 (e ▸ hy)⟩, fun x hx y hy e => ?_⟩
  · rcases List.mem_append.1 e with c | c
    · exact (h1 p c).1 rfl
    · rcases List.mem_append.1 c with c | c
      · exact (h2 p c).1 rfl
      · exact h3 p c rfl
  · subst e
    rcases List.mem_append.1 hy with c | c
    · exact (h1 x hx).2.1 c
    · exact (h1 x hx).2.2 c
theorem TblAt.own_lt {w : World} {p : Nat} {T : Tbl} {lv hv av : Value} (h : TblAt w p T lv hv av) : p < w.heap.size ∧ (∀ x ∈ own lv, x < w.heap.size) ∧ (∀ x ∈ own hv, x < w.heap.size) ∧ (∀ x ∈ own av, x < w.heap.size) := by
  have hlt := h.lt
  exact ⟨hlt p (List.mem_cons_self ..), fun x hx => hlt x (List.mem_cons_of_mem _ (List.mem_append_left _ hx)), fun x hx => hlt x (List.mem_cons_of_mem _ (List.mem_append_right _ (List.mem_append_left _ hx))), fun x hx => hlt x (List.mem_cons_of_mem _ (List.mem_append_right _ (List.mem_append_right _ hx)))⟩
/-- the entries are others -/
theorem TblAt.set0 {w w4 : World} {p : Nat} {T : Tbl} {lv hv av v' : Value} {l' : List Ent} (h : TblAt w p T lv hv av) (hc : Chg (own lv) w w4) (hr : w4.ownsRow 0 82 9 v' l'.length (entCells l')) (hn : ∀ x ∈ own v', x ∈ own lv ∨ w.heap.size ≤ x) :
    TblAt (w4.setCell ⟨p, 0, none⟩ v') p ⟨l', T.hash, T.array⟩ v' hv av ∧ Chg (p :: own lv) w (w4.setCell ⟨p, 0, none⟩ v') := by
  obtain ⟨o1, o2, o3, o4⟩ := h.own_lt
  obtain ⟨s1, s2, s3⟩ := foot_split h.apart
  obtain ⟨⟨n, hp⟩, h1, h2, h3, hap⟩ := h
  have hplv : p ∉ own lv := fun e => (s1 p e).1 rfl
  have hp4 : w4.heap[p]? = some (.cells #[lv, .int .i64 n, hv, av] 72 (0, 0)) := (hc.block p o1 hplv).trans hp
  have c2 := row_kept h2 hc (fun x hx => (s2 x hx).2.1)
  have c3 := row_kept h3 hc (fun x hx => (s3 x hx).2.1)
  have hs := chg_set w4 p 0 v'
  have hv' : ∀ x ∈ own v', x ≠ p ∧ x ∉ own hv ∧ x ∉ own av := fun x hx => by
    rcases hn x hx with c | c
    · exact s1 x c
    · exact ⟨by omega, fun e => by have := o3 x e; omega, fun e => by have := o4 x e; omega⟩
  refine ⟨⟨⟨n, ?_⟩, row_kept hr hs (fun x hx e => (hv' x hx).1 (List.mem_singleton.1 e)), row_kept c2 hs (fun x hx e => (s2 x hx).1 (List.mem_singleton.1 e)), row_kept c3 hs (fun x hx e => (s3 x hx).1 (List.mem_singleton.1 e)), foot_nodup hv' (fun x hx => ⟨(s2 x hx).1, (s2 x hx).2.2⟩) (fun x hx => (s3 x hx).1)⟩,
    (hc.mono (fun x hx _ => List.mem_cons_of_mem _ hx)).trans hs (fun x hx _ => by rw [List.mem_singleton.1 hx]; exact List.mem_cons_self ..)⟩
  rw [setCell_at hp4]; rfl
/-- the hash part is another one -/
theorem TblAt.set2 {w w4 : World} {p : Nat} {T : Tbl} {lv hv av v' : Value} {hash' : List Nat} (h : TblAt w p T lv hv av) (hc : Chg (own hv) w w4) (hr : w4.ownsRow 0 21 1 v' hash'.length (i32s hash')) (hn : ∀ x ∈ own v', x ∈ own hv ∨ w.heap.size ≤ x) :
    TblAt (w4.setCell ⟨p, 2, none⟩ v') p ⟨T.l, hash', T.array⟩ lv v' av ∧ Chg (p :: own hv) w (w4.setCell ⟨p, 2, none⟩ v') := by
  obtain ⟨o1, o2, o3, o4⟩ := h.own_lt
  obtain ⟨s1, s2, s3⟩ := foot_split h.apart
  obtain ⟨⟨n, hp⟩, h1, h2, h3, hap⟩ := h
  have hphv : p ∉ own hv := fun e => (s2 p e).1 rfl
  have hp4 : w4.heap[p]? = some (.cells #[lv, .int .i64 n, hv, av] 72 (0, 0)) := (hc.block p o1 hphv).trans hp
  have c1 := row_kept h1 hc (fun x hx => (s1 x hx).2.1)
  have c3 := row_kept h3 hc (fun x hx => (s3 x hx).2.2)
  have hs := chg_set w4 p 2 v'
  have hv' : ∀ x ∈ own v', x ≠ p ∧ x ∉ own lv ∧ x ∉ own av := fun x hx => by
    rcases hn x hx with c | c
    · exact s2 x c
    · exact ⟨by omega, fun e => by have := o2 x e; omega, fun e => by have := o4 x e; omega⟩
  refine ⟨⟨⟨n, ?_⟩, row_kept c1 hs (fun x hx e => (s1 x hx).1 (List.mem_singleton.1 e)), row_kept hr hs (fun x hx e => (hv' x hx).1 (List.mem_singleton.1 e)), row_kept c3 hs (fun x hx e => (s3 x hx).1 (List.mem_singleton.1 e)), foot_nodup (fun x hx => ⟨(s1 x hx).1, fun e => (hv' x e).2.1 hx, (s1 x hx).2.2⟩) (fun x hx => ⟨(hv' x hx).1, (hv' x hx).2.2⟩) (fun x hx => (s3 x hx).1)⟩,
    (hc.mono (fun x hx _ => List.mem_cons_of_mem _ hx)).trans hs (fun x hx _ => by rw [List.mem_singleton.1 hx]; exact List.mem_cons_self ..)⟩
  rw [setCell_at hp4]; rfl
theorem made_i32 (n : Nat) : (madeCells #[Value.int .i32 0] n).toList = i32s (List.replicate n 0) := by
  unfold madeCells i32s
  apply List.ext_getElem
  · simp
  · intro i h1 h2
    simp [Nat.mod_one]
theorem live_dead {l : List Ent} {i : Nat} (hi : i < (liveL l).length) : ((liveL l)[i]).dead = false := by
  have h1 : ∀ e ∈ liveL l, e.dead = false := fun e he => by
    have := (List.mem_filter.1 he).2
    simpa using this
  exact h1 _ (List.getElem_mem hi)
theorem kds_live (l : List Ent) : kds (liveL l) = (kds l).filter (·.isSome) := by
  unfold kds liveL
  induction l with
  | nil => rfl
  | cons a l ih =>
    cases h : a.dead
    · simp [h, ih]
    · simp [h, ih]
theorem once_iff (kd : List (Option Val)) : Once kd ↔ kd.Pairwise (fun a b => ∀ k, a = some k → b ≠ some k) := by
  rw [List.pairwise_iff_getElem]
  constructor
  · intro h i j hi hj hij k ha hb
    have := h i j k (by rw [List.getElem?_eq_getElem hi, ha]) (by rw [List.getElem?_eq_getElem hj, hb])
    omega
  · intro h i j k hi hj
    obtain ⟨hi', ei⟩ := List.getElem?_eq_some_iff.1 hi
    obtain ⟨hj', ej⟩ := List.getElem?_eq_some_iff.1 hj
    rcases Nat.lt_trichotomy i j with c | c | c
    · exact absurd ej (h i j hi' hj' c k ei)
    · exact c
    · exact absurd ei (h j i hj' hi' c k ej)
/-- what is left of a list without repeats is without repeats -/
theorem once_sub {kd kd' : List (Option Val)} (h : kd'.Sublist kd) (ho : Once kd) : Once kd' := (once_iff _).2 (((once_iff _).1 ho).sublist h)
theorem once_live {l : List Ent} (ho : Once (kds l)) : Once (kds (liveL l)) := by rw [kds_live]; exact once_sub List.filter_sublist ho
def RenewP (W : World) (p : Nat) (T : Tbl) (lv hv av : Value) (e : Ending) (w' : World) : Prop :=
  e = .returned (.tuple #[]) ∧ ∃ hash array lv' hv' av', TblAt w' p ⟨liveL T.l, hash, array⟩ lv' hv' av' ∧ TblOK ⟨liveL T.l, hash, array⟩ ∧ 4 * ((liveL T.l).length + 1) ≤ hash.length ∧ Chg (foot p lv hv av) W w' ∧
    (∀ x ∈ foot p lv' hv' av', x ∈ foot p lv hv av ∨ W.heap.size ≤ x)
structure RenR (W : World) (p : Nat) (T : Tbl) (lv hv av v' hv' : Value) (R k : Nat) (wr : World) (hash : List Nat) : Prop where
  at_ : TblAt wr p ⟨liveL T.l, hash, []⟩ v' hv' (.slice none 0 0)
  len : hash.length = R
  ok : HashOK HV (kds (liveL T.l)) k hash
  chg : Chg (foot p lv hv av) W wr
  new : ∀ x ∈ own hv', W.heap.size ≤ x
set_option maxHeartbeats 1000000 in
set_option maxRecDepth 100000 in
theorem renew_walk (p : Nat) (T : Tbl) (lv hv av : Value) (W : World) (h : TblAt W p T lv hv av) (ok : TblOK T) (hm : (liveL T.l).length ≤ 4194304) :
    Calls Try.prog 52 #[.pointer (some ⟨p, 0, none⟩)] W (RenewP W p T lv hv av) := by
  have hlen := ok.len
  obtain ⟨n, hp⟩ := h.head
  have hpb : p < W.heap.size := (Array.getElem?_eq_some_iff.1 hp).1
  have p0 : W.cell? ⟨p, 0, none⟩ = some lv := by rw [cell_of hp]; rfl
  clear hp
  go_enter Try.func52, Try.ntmps52
  go_wp2_with fail
  refine (delete_func _ T.l (by omega) _ h.l).mono ?_
  rintro e w1 ⟨v', rfl, hv1, hrow, hc1⟩
  obtain ⟨ha1, hb1⟩ := h.set0 hc1 hrow (fun x hx => .inl (hv1 ▸ hx))
  obtain ⟨s1, s2, s3⟩ := foot_split h.apart
  have hblk : w1.heap[p]? = W.heap[p]? := hc1.block p hpb (fun e => (s1 p e).1 rfl)
  have q0 : w1.cell? ⟨p, 0, none⟩ = some lv := by rw [World.cell?_of_block (w := W) hblk]; exact p0
  have qf : w1.frozen? ⟨p, 0, none⟩ = false := by
    obtain ⟨n, hp⟩ := h.head
    exact frozen_of (hblk.trans hp) 0
  obtain ⟨vad, vcap, rfl⟩ : ∃ ad cap, v' = .slice ad (liveL T.l).length cap := by
    rcases hrow.2 with ⟨h1, h0⟩ | ⟨g, cap, cur, h1, _⟩
    · exact ⟨none, 0, by rw [h0]; exact h1⟩
    · exact ⟨_, _, h1⟩
  obtain ⟨w2, hw2⟩ : ∃ w2, Hid (w2 = w1.setCell ⟨p, 0, none⟩ (.slice vad (liveL T.l).length vcap)) := ⟨_, Lib.hid rfl⟩
  rw [← hw2.out] at ha1 hb1
  obtain ⟨n2, hp2⟩ := ha1.head
  have hpb2 : p < w2.heap.size := (Array.getElem?_eq_some_iff.1 hp2).1
  have r0 : w2.cell? ⟨p, 0, none⟩ = some (.slice vad (liveL T.l).length vcap) := by rw [cell_of hp2]; rfl
  have r2 : w2.cell? ⟨p, 2, none⟩ = some hv := by rw [cell_of hp2]; rfl
  have r3 : w2.cell? ⟨p, 3, none⟩ = some av := by rw [cell_of hp2]; rfl
  have rf : ∀ o, w2.frozen? ⟨p, o, none⟩ = false := fun o => frozen_of hp2 o
  clear hp2 hblk
  go_wp2_with fail
  rw [← hw2.out]
  clear q0 qf p0 hw2 hrow hc1
  go_loop [2] (fun room => ∃ R r : Nat, room = .int .i64 R ∧ Hid (R = 2 ^ r) ∧ 1 ≤ R ∧ R ≤ 8 * ((liveL T.l).length + 1)) (fun room => 4 * ((liveL T.l).length + 1) - (intOf room).toNat)
  case atStart => exact ⟨8, 3, rfl, Lib.hid rfl, by omega, by omega⟩
  case round =>
    obtain ⟨R, r, rfl, hRr, hR1, hR2⟩ := hrel
    by_cases hlt : R < 4 * ((liveL T.l).length + 1)
    · go_wp2_with fail
      go_round
      case rel => exact ⟨R * 2, r + 1, by go_num, Lib.hid (by rw [hRr.out, Nat.pow_succ]), by omega, by omega⟩
      case measure => simp [intOf]; omega
    · obtain ⟨ti, hi0, hi1, hi2, hi3⟩ := info_parts (show (Try.prog.info? 21).map (fun i => (i.zero, i.size, i.bytes)) = some (some (.int .i32 0), 1, 4) from by kernel_rfl)
      go_wp2_with (at_make; go_loud (refine wpList_make_full _ rfl (.tmp 25) (.tmp 25) 70 rfl 0 21 ti (.int .i32 0) 1 Try.underlying70 hi0 hi1 hi2 .i64 .i64 R R R rfl rfl rfl rfl (by rw [hi3]; omega) (by unfold maxLen; omega) (Nat.zero_le _) ?_))
      intro w3 hrow hgr
      have hc3 : Chg [] w2 w3 := Chg.of_grown hgr
      have t3 := ha1.kept hc3 (fun _ _ => List.not_mem_nil)
      rw [made_i32] at hrow
      have hrow' : w3.ownsRow 0 21 1 (.slice (some ⟨w2.heap.size, 0, none⟩) R R) (List.replicate R 0).length (i32s (List.replicate R 0)) := by rw [List.length_replicate]; exact hrow
      obtain ⟨t4, c4⟩ := ha1.set2 (hc3.mono (fun x hx => absurd hx List.not_mem_nil)) hrow' (fun x hx => .inr (Nat.le_of_eq (List.mem_singleton.1 hx).symm))
      obtain ⟨t5, c5⟩ := TblAt.set3 t4 (Chg.refl _ _) (World.ownsRow_nil _ 0 _ _) (array' := []) (fun x hx => absurd hx List.not_mem_nil)
      have f3 : ∀ o, w3.cell? ⟨p, o, none⟩ = w2.cell? ⟨p, o, none⟩ := fun o => World.cell?_of_block (w := w2) (hc3.block p hpb2 List.not_mem_nil)
      have g3 : ∀ o, w3.frozen? ⟨p, o, none⟩ = false := fun o => (World.frozen?_of_block (w := w2) (hc3.block p hpb2 List.not_mem_nil)).trans (rf o)
      have hchg : Chg (foot p lv hv av) W ((w3.setCell ⟨p, 2, none⟩ (.slice (some ⟨w2.heap.size, 0, none⟩) R R)).setCell ⟨p, 3, none⟩ (.slice none 0 0)) := by
        have m1 : ∀ x, x ∈ own lv → x ∈ foot p lv hv av := fun x hx => List.mem_cons_of_mem _ (List.mem_append_left _ hx)
        have m2 : ∀ x, x ∈ own hv → x ∈ foot p lv hv av := fun x hx => List.mem_cons_of_mem _ (List.mem_append_right _ (List.mem_append_left _ hx))
        have hv2 := hb1.size
        refine ((hb1.mono (B' := foot p lv hv av) (fun x hx _ => ?_)).trans c4 (fun x hx _ => ?_)).trans c5 (fun x hx hlt => ?_)
        · rcases List.mem_cons.1 hx with c | c
          · rw [c]; exact List.mem_cons_self ..
          · exact m1 x c
        · rcases List.mem_cons.1 hx with c | c
          · rw [c]; exact List.mem_cons_self ..
          · exact m2 x c
        · rcases List.mem_cons.1 hx with c | c
          · rw [c]; exact List.mem_cons_self ..
          · exact List.mem_cons_of_mem _ (List.mem_append_right _ (List.mem_append_right _ c))
      have hpos : 0 < R := by omega
      have hR0 : RenR W p T lv hv av (.slice vad (liveL T.l).length vcap) (.slice (some ⟨w2.heap.size, 0, none⟩) R R) R 0 ((w3.setCell ⟨p, 2, none⟩ (.slice (some ⟨w2.heap.size, 0, none⟩) R R)).setCell ⟨p, 3, none⟩ (.slice none 0 0)) (List.replicate R 0) :=
        ⟨t5, List.length_replicate, HashOK.fresh _ _ hpos, hchg, fun x hx => by rw [List.mem_singleton.1 hx]; exact hb1.size⟩
      have Hold : Hid (∀ x ∈ own (Value.slice vad (liveL T.l).length vcap), x ∈ own lv) := fun x hx => hv1 ▸ hx
      clear t3 t4 c4 t5 c5 hrow hrow' hchg hv1 hi0 hi1 hi2 hi3 hc3 ha1 hb1 s1 s2 s3
      go_wp2_with fail
      clear r0 r2 r3 rf f3 g3
      obtain ⟨w5, Hw5⟩ : ∃ w5, Hid (w5 = (w3.setCell ⟨p, 2, none⟩ (.slice (some ⟨w2.heap.size, 0, none⟩) R R)).setCell ⟨p, 3, none⟩ (.slice none 0 0)) := ⟨_, Lib.hid rfl⟩
      obtain ⟨hv', Hhv⟩ : ∃ hv', Hid (hv' = Value.slice (some ⟨w2.heap.size, 0, none⟩) R R) := ⟨_, Lib.hid rfl⟩
      rw [← Hw5.out] at hR0 ⊢
      rw [← Hhv.out] at hR0
      clear Hw5 hgr
      go_loopw [3, 36] (fun _ i wr => ∃ (k : Nat) (hash : List Nat), k ≤ (liveL T.l).length ∧ i = .int .i64 k ∧ RenR W p T lv hv av (.slice vad (liveL T.l).length vcap) hv' R k wr hash) (fun _ i _ => (liveL T.l).length - (intOf i).toNat)
      case atStart => exact ⟨0, _, Nat.zero_le _, rfl, hR0⟩
      case round =>
        obtain ⟨k, hash, hk, rfl, hr⟩ := hrel
        clear hR0
        have hat := hr.at_
        have hln := hr.len
        have hok := hr.ok
        by_cases hk1 : k < (liveL T.l).length
        · go_wp2_with fail
          refine (lay_walk p _ _ _ _ k wr hat (by show 0 < hash.length; omega) r (by show hash.length = _; rw [hln]; exact hRr.out) (by show hash.length ≤ _; omega) (by show (liveL T.l).length ≤ _; omega) hk1 hok (by show k < hash.length; omega) ?_ (live_dead hk1)).mono ?_
          · exact (ok.keys _ (List.mem_filter.1 (List.getElem_mem hk1)).1).text
          · rintro e w6 ⟨rfl, hash', hl', hok', hat', hch'⟩
            go_wp2_with fail
            go_roundw
            case rel => exact ⟨k + 1, hash', by omega, by go_num, ⟨hat', hl'.trans hln, hok', hr.chg.trans hch' (fun x hx hlt => by have := hr.new x hx; omega), hr.new⟩⟩
            case measure => simp [intOf]; omega
        · obtain rfl : k = (liveL T.l).length := by omega
          go_wp2_with fail
          have ok0 : Tbl0 ⟨liveL T.l, hash, []⟩ := ⟨once_live ok.once, fun e he => ok.keys e (List.mem_filter.1 he).1, .inr ⟨⟨r, hln.trans hRr.out⟩, hok, by show 2 * (liveL T.l).length ≤ hash.length; omega⟩, by show hash.length ≤ _; omega⟩
          refine (reach_walk p _ _ _ _ wr hat ok0 ⟨fun j i h => by cases h⟩ (Nat.zero_le _)).mono ?_
          rintro e w6 ⟨rfl, array, av', ⟨hat6, _, hle6, hch6, hnew6⟩, hao⟩
          go_wp2_with fail
          go_end0
          refine ⟨rfl, hash, array, _, _, _, hat6, ⟨⟨ok0.once, ok0.keys, ok0.room, ok0.most⟩, hao, hle6⟩, by omega, hr.chg.trans hch6 (fun x hx hlt => ?_), fun x hx => ?_⟩
          · rcases List.mem_cons.1 hx with c | c
            · rw [c]; exact List.mem_cons_self ..
            · exact absurd c List.not_mem_nil
          · rcases List.mem_cons.1 hx with c | c
            · rw [c]; exact .inl (List.mem_cons_self ..)
            · rcases List.mem_append.1 c with c | c
              · exact .inl (List.mem_cons_of_mem _ (List.mem_append_left _ (Hold.out x c)))
              · rcases List.mem_append.1 c with c | c
                · exact .inr (hr.new x c)
                · rcases hnew6 x c with d | d
                  · exact absurd d List.not_mem_nil
                  · exact .inr (Nat.le_trans hr.chg.size d)
end Go.Proofs.Ytlihonbmopeemaa.Hp
end
section
namespace Go.Proofs.Ytlihonbmopeemaa.Hp
open Go Go.RowKit Go.Proofs.Ytlihonbmopeemaa.HpLaw Go.Proofs.Ytlihonbmopeemaa.Ans Go.Proofs.Ytlihonbmopeemaa.Num Go.Proofs.Ytlihonbmopeemaa.DigLaw Go.Proofs.Ytlihonbmopeemaa.Fl Go.Proofs.Ytlihonbmopeemaa.Dig Go.Proofs.Ytlihonbmopeemaa.Float

theorem step_append_foot {P : Program} {w : World} {ops : Array Oper} {o : Oper} {a : Go.Act} {K : Go.Act → World → Prop} {Q : Exit → Go.Act → World → Prop} {E : Prop} (hgd : o.guard = none) (s x : Operand) (t : TypeId)
    (ho : o.op = .call { callee := .builtin .append, args := #[s, x], argTypes := #[t, t] })
    (e : TypeId) (i : TypeInfo) (z : Value) (size bytes : Nat) (ht : P.underlying t = some (.slice e)) (hi : P.info? e = some i) (hz : i.zero = some z)
    (hsize : i.size = size) (hby : i.bytes = bytes) (hzs : z.cells.size = size) (hsz : 0 < size)
    (v : Value) (n : Nat) (xs : List Value) (hs : a.eval s = v) (hown : w.ownsRow 0 e size v n xs)
    (ad : Addr) (m c : Nat) (news : List Value) (hx : a.eval x = .slice (some ad) m c) (hl : news.length = m * size) (hnews : ∀ j u, news[j]? = some u → w.cell? (ad.add j) = some u) (h1 : ∀ u ∈ news, u.oneCell' = true)
    (hm : 0 < m) (h63 : n + m ≤ maxLen) (hbytes : (n + m) * bytes ≤ 140737488355328)
    (h : ∀ g cap w', w'.ownsRow 0 e size (.slice (some ⟨g, 0, none⟩) (n + m) cap) (n + m) (xs ++ news) → Chg (own v) w w' → (∀ y ∈ own (.slice (some ⟨g, 0, none⟩) (n + m) cap), y ∈ own v ∨ w.heap.size ≤ y) → K (a.put o.dst (.slice (some ⟨g, 0, none⟩) (n + m) cap)) w') :
    if Region.wanted o (yielded ops a.tmps) = true then Oper.wp P o a w K Q else E := by
  have hw : Region.wanted o (yielded ops a.tmps) = true := by simp [Region.wanted, hgd]
  rw [if_pos hw]
  obtain ⟨v', w', hr, h2, h3, h4⟩ := run_append_foot (P := P) w t o.type e i z size bytes ht hi hz hsize hby hzs hsz v n xs hown ad m c news hl hnews h1 h63 hbytes
  obtain ⟨g, cap, rfl, _, _⟩ := h2.form (by omega)
  unfold Oper.wp execOp
  simp only [ho, resolve, invoke, builtin, Sem.run_bind, Sem.run_pure, Result.andThen_ok, List.map_toArray, List.map_cons, List.map_nil, hs, hx, hr]
  exact h g cap w' h2 h3 h4
theorem live_app (l : List Ent) (e : Ent) (h : e.dead = false) : liveL (l ++ [e]) = liveL l ++ [e] := by rw [live_snoc, h, if_neg (by decide)]
theorem entCells_snoc (l : List Ent) (e : Ent) : entCells (l ++ [e]) = entCells l ++ e.cs := by unfold entCells; rw [List.flatMap_append]; simp
theorem kds_snoc (l : List Ent) (e : Ent) (h : e.dead = false) : kds (l ++ [e]) = kds l ++ [some e.key] := by unfold kds; rw [List.map_append]; simp [h]
theorem kds_mem {l : List Ent} {k : Val} : (∃ i : Nat, (kds l)[i]? = some (some k)) ↔ ∃ e ∈ liveL l, e.key = k := by
  constructor
  · rintro ⟨i, hi⟩
    have hil : i < l.length := by rw [← kds_len]; exact (List.getElem?_eq_some_iff.1 hi).1
    rw [kds_at hil] at hi
    cases hd : l[i].dead
    · rw [hd] at hi
      exact ⟨l[i], List.mem_filter.2 ⟨List.getElem_mem hil, by rw [hd]; rfl⟩, Option.some.inj (Option.some.inj hi)⟩
    · rw [hd] at hi; cases hi
  · rintro ⟨e, he, rfl⟩
    obtain ⟨h1, h2⟩ := List.mem_filter.1 he
    obtain ⟨i, hi, rfl⟩ := List.getElem_of_mem h1
    refine ⟨i, ?_⟩
    rw [kds_at hi]
    have : l[i].dead = false := by simpa using h2
    rw [this]; rfl
theorem add_ok {T : Tbl} (ok : TblOK T) {k v : Val} (hk : KeyOK k) (hno : ∀ i : Nat, (kds T.l)[i]? ≠ some (some k)) {hash : List Nat} (hl : hash.length = T.hash.length) (hr : 2 * (T.l.length + 1) ≤ T.hash.length)
    (hH : HashOK HV (kds (T.l ++ [⟨k, v, false⟩])) (T.l.length + 1) hash) : Tbl0 ⟨T.l ++ [⟨k, v, false⟩], hash, T.array⟩ := by
  have hlen : (T.l ++ [(⟨k, v, false⟩ : Ent)]).length = T.l.length + 1 := by simp
  refine ⟨?_, fun e he => ?_, .inr ⟨?_, ?_, ?_⟩, ?_⟩
  · show Once (kds (T.l ++ [⟨k, v, false⟩]))
    rw [kds_snoc _ _ rfl, once_iff, List.pairwise_append]
    refine ⟨(once_iff _).1 ok.once, List.pairwise_singleton _ _, fun a ha b hb j hj => ?_⟩
    intro e
    rw [List.mem_singleton.1 hb] at e
    obtain ⟨i, hi⟩ := List.getElem?_of_mem ha
    have e' : k = j := Option.some.inj e
    exact hno i (by rw [hi, hj, e'])
  · rcases List.mem_append.1 he with c | c
    · exact ok.keys e c
    · rw [List.mem_singleton.1 c]; exact hk
  · rcases ok.room with ⟨_, h2⟩ | ⟨h1, _, _⟩
    · rw [h2] at hr; simp at hr
    · show ∃ r, hash.length = 2 ^ r
      rw [hl]; exact h1
  · show HashOK HV (kds (T.l ++ [⟨k, v, false⟩])) (T.l ++ [(⟨k, v, false⟩ : Ent)]).length hash
    rw [hlen]; exact hH
  · show 2 * (T.l ++ [(⟨k, v, false⟩ : Ent)]).length ≤ hash.length
    rw [hlen, hl]; exact hr
  · show hash.length ≤ _
    rw [hl]; exact ok.most
theorem add_arr {T : Tbl} (ok : TblOK T) {k v : Val} : ArrHas numKey (kds (T.l ++ [⟨k, v, false⟩])) T.array := ⟨fun j i h => by
  have h1 := ok.arr.has j i h
  rw [kds_snoc _ _ rfl, List.getElem?_append_left (List.getElem?_eq_some_iff.1 h1).1]
  exact h1⟩
theorem add_max {T : Tbl} (ok : TblOK T) {k v : Val} (h : k ≠ numKey (T.array.length + 1)) : ArrOK numKey (kds (T.l ++ [⟨k, v, false⟩])) T.array := ⟨(add_arr ok).has, fun i hi => by
  rw [kds_snoc _ _ rfl] at hi
  rcases Nat.lt_or_ge i (kds T.l).length with c | c
  · rw [List.getElem?_append_left c] at hi; exact ok.arr.max i hi
  · rw [List.getElem?_append_right c] at hi
    cases hz : i - (kds T.l).length with
    | zero => rw [hz] at hi; exact h (Option.some.inj (Option.some.inj hi))
    | succ q => rw [hz] at hi; cases hi⟩
theorem num_told {k : Val} {m : Nat} (hm : m ≤ 67108864) (e : k = numKey m) {a : Nat} (ha : k.n = a) : k.k = 3 ∧ toI a = ((m : Int), true) := by
  subst e
  have h1 : ((fromI (m : Int) : Nat) : Int) = (a : Int) := ha
  have h2 : fromI (m : Int) = a := by omega
  exact ⟨rfl, by rw [← h2]; exact toI_fromI (by omega)⟩
def AddP (W : World) (p : Nat) (T : Tbl) (lv hv av : Value) (k v : Val) (e : Ending) (w' : World) : Prop :=
  e = .returned (.tuple #[]) ∧ ∃ T' lv' hv' av', TblAt w' p T' lv' hv' av' ∧ TblOK T' ∧ liveL T'.l = liveL T.l ++ [⟨k, v, false⟩] ∧ Chg (foot p lv hv av) W w' ∧ (∀ x ∈ foot p lv' hv' av', x ∈ foot p lv hv av ∨ W.heap.size ≤ x)
def boxes (W : World) (k v : Val) : World := (W.alloc (Obj.cells #[.int .i64 k.k, .int .u64 k.n, .string k.s, .int .i64 k.o] 34)).alloc (Obj.cells #[.int .i64 v.k, .int .u64 v.n, .string v.s, .int .i64 v.o] 34)
theorem boxes_eq (W : World) (k v : Val) : (W.alloc (Obj.cells #[.int .i64 k.k, .int .u64 k.n, .string k.s, .int .i64 k.o] 34)).alloc (Obj.cells #[.int .i64 v.k, .int .u64 v.n, .string v.s, .int .i64 v.o] 34) = boxes W k v := rfl
theorem boxes_below (W : World) (k v : Val) : Below W.heap.size W (boxes W k v) := ((Below.refl _ _).alloc (Nat.le_refl _) _).alloc (by simp) _
theorem boxes_size (W : World) (k v : Val) : (boxes W k v).heap.size = W.heap.size + 2 := by unfold boxes; simp
theorem boxes_key (W : World) (k v : Val) : (boxes W k v).heap[W.heap.size]? = some (.cells #[.int .i64 k.k, .int .u64 k.n, .string k.s, .int .i64 k.o] 34 (0, 0)) :=
  (Below.heap_alloc _ _ _ (by simp)).trans (heap_alloc_new _ _)
theorem boxes_val (W : World) (k v : Val) : (boxes W k v).heap[W.heap.size + 1]? = some (.cells #[.int .i64 v.k, .int .u64 v.n, .string v.s, .int .i64 v.o] 34 (0, 0)) := by
  have h := heap_alloc_new (W.alloc (Obj.cells #[.int .i64 k.k, .int .u64 k.n, .string k.s, .int .i64 k.o] 34)) (Obj.cells #[.int .i64 v.k, .int .u64 v.n, .string v.s, .int .i64 v.o] 34)
  simp only [show (W.alloc (Obj.cells #[.int .i64 k.k, .int .u64 k.n, .string k.s, .int .i64 k.o] 34)).heap.size = W.heap.size + 1 by simp] at h
  exact h
/-- a table with room for one more, after the test -/
structure Roomy (W : World) (p : Nat) (T0 : Tbl) (lv0 hv0 av0 : Value) (k v : Val) (w : World) (T : Tbl) (lv hv av : Value) : Prop where
  at_ : TblAt w p T lv hv av
  ok : TblOK T
  room : 2 * (T.l.length + 1) ≤ T.hash.length
  live : liveL T.l = liveL T0.l
  chg : Chg (foot p lv0 hv0 av0) W w
  foot_ : ∀ x ∈ foot p lv hv av, x ∈ foot p lv0 hv0 av0 ∨ W.heap.size + 2 ≤ x
  size : W.heap.size + 2 ≤ w.heap.size
  key : w.heap[W.heap.size]? = some (.cells #[.int .i64 k.k, .int .u64 k.n, .string k.s, .int .i64 k.o] 34 (0, 0))
  val : w.heap[W.heap.size + 1]? = some (.cells #[.int .i64 v.k, .int .u64 v.n, .string v.s, .int .i64 v.o] 34 (0, 0))
/-- the entry has come behind the others, but is not laid -/
structure Added (W : World) (p : Nat) (T0 : Tbl) (lv0 hv0 av0 : Value) (k v : Val) (w : World) (T : Tbl) (lv hv av : Value) : Prop where
  at_ : TblAt w p ⟨T.l ++ [⟨k, v, false⟩], T.hash, T.array⟩ lv hv av
  ok : TblOK T
  room : 2 * (T.l.length + 1) ≤ T.hash.length
  live : liveL T.l = liveL T0.l
  chg : Chg (foot p lv0 hv0 av0) W w
  foot_ : ∀ x ∈ foot p lv hv av, x ∈ foot p lv0 hv0 av0 ∨ W.heap.size + 2 ≤ x
  size : W.heap.size + 2 ≤ w.heap.size
  key : w.heap[W.heap.size]? = some (.cells #[.int .i64 k.k, .int .u64 k.n, .string k.s, .int .i64 k.o] 34 (0, 0))
theorem Roomy.added {W : World} {p : Nat} {T0 : Tbl} {lv0 hv0 av0 : Value} {k v : Val} {w w1 : World} {T : Tbl} {lv hv av v' : Value} {O : Obj} (h : Roomy W p T0 lv0 hv0 av0 k v w T lv hv av) (h0 : ∀ x ∈ foot p lv0 hv0 av0, x < W.heap.size)
    (hc : Chg (own lv) (w.alloc O).drew w1) (hr : w1.ownsRow 0 82 9 v' (T.l.length + 1) (entCells T.l ++ Ent.cs ⟨k, v, false⟩)) (hn : ∀ y ∈ own v', y ∈ own lv ∨ (w.alloc O).drew.heap.size ≤ y) :
    Added W p T0 lv0 hv0 av0 k v (w1.setCell ⟨p, 0, none⟩ v') T v' hv av := by
  have hb : Below w.heap.size w (w.alloc O).drew := ((Below.refl _ _).alloc (Nat.le_refl _) _).drew
  have hsz : (w.alloc O).drew.heap.size = w.heap.size + 1 := by simp
  have hat := h.at_.kept (B := []) (Chg.of_below hb) (fun _ _ => List.not_mem_nil)
  have hr' : w1.ownsRow 0 82 9 v' (T.l ++ [(⟨k, v, false⟩ : Ent)]).length (entCells (T.l ++ [⟨k, v, false⟩])) := by
    rw [entCells_snoc, List.length_append]; exact hr
  obtain ⟨t, c⟩ := hat.set0 hc hr' hn
  obtain ⟨s1, s2, s3⟩ := foot_split h.at_.apart
  have hrs := h.size
  have hout : ∀ x, x ∈ p :: own lv → x ∈ foot p lv0 hv0 av0 ∨ W.heap.size + 2 ≤ x := fun x hx => by
    rcases List.mem_cons.1 hx with d | d
    · rw [d]; exact .inl (List.mem_cons_self ..)
    · exact h.foot_ x (List.mem_cons_of_mem _ (List.mem_append_left _ d))
  refine ⟨t, h.ok, h.room, h.live, (h.chg.trans (Chg.of_below (B := []) hb) (fun _ hx => absurd hx List.not_mem_nil)).trans c (fun x hx hlt => ?_), fun x hx => ?_, ?_, ?_⟩
  · rcases hout x hx with d | d
    · exact d
    · omega
  · rcases List.mem_cons.1 hx with d | d
    · rw [d]; exact .inl (List.mem_cons_self ..)
    · rcases List.mem_append.1 d with d | d
      · rcases hn x d with e | e
        · exact h.foot_ x (List.mem_cons_of_mem _ (List.mem_append_left _ e))
        · exact .inr (by omega)
      · exact h.foot_ x (List.mem_cons_of_mem _ (List.mem_append_right _ d))
  · have := c.size; omega
  · rw [c.block _ (by omega) (fun e => by
      rcases hout _ e with d | d
      · have := h0 _ d; omega
      · omega)]
    exact (Below.heap_alloc w O _ (by omega)).trans h.key
set_option maxHeartbeats 1000000 in
set_option maxRecDepth 100000 in
theorem add_walk (p : Nat) (T : Tbl) (lv hv av : Value) (k v : Val) (W : World) (h : TblAt W p T lv hv av) (ok : TblOK T) (hm : (liveL T.l).length ≤ 4194303) (hk : KeyOK k) (hno : ∀ i : Nat, (kds T.l)[i]? ≠ some (some k)) :
    Calls Try.prog 30 #[.pointer (some ⟨p, 0, none⟩), k.v, v.v] W (AddP W p T lv hv av k v) := by
  have hlen := ok.len
  obtain ⟨n, hp⟩ := h.head
  have hpb : p < W.heap.size := (Array.getElem?_eq_some_iff.1 hp).1
  have p0 : W.cell? ⟨p, 0, none⟩ = some lv := by rw [cell_of hp]; rfl
  have p2 : W.cell? ⟨p, 2, none⟩ = some hv := by rw [cell_of hp]; rfl
  obtain ⟨ad, cap, rfl⟩ : ∃ ad cap, lv = .slice ad T.l.length cap := by
    rcases h.l.2 with ⟨h1, h0⟩ | ⟨g, cap, cur, h1, _⟩
    · exact ⟨none, 0, by rw [h0]; exact h1⟩
    · exact ⟨_, _, h1⟩
  obtain ⟨had, hcap, rfl⟩ : ∃ ad cap, hv = .slice ad T.hash.length cap := by
    rcases h.hash.2 with ⟨h1, h0⟩ | ⟨g, cap, cur, h1, _⟩
    · exact ⟨none, 0, by rw [h0]; exact h1⟩
    · exact ⟨_, _, h1⟩
  have hmost := ok.most
  have h0 : ∀ w' : World, w' = (W.alloc (Obj.cells #[.int .i64 k.k, .int .u64 k.n, .string k.s, .int .i64 k.o] 34)).alloc (Obj.cells #[.int .i64 v.k, .int .u64 v.n, .string v.s, .int .i64 v.o] 34) → True := fun _ _ => trivial
  have Hno := Lib.hid hno
  clear hp hno h0
  unfold Val.v
  have hcl : ∀ b o, b < W.heap.size → ∀ O O', ((W.alloc O).alloc O').cell? ⟨b, o, none⟩ = W.cell? ⟨b, o, none⟩ := fun b o hb O O' => World.cell?_of_block ((Below.heap_alloc (W.alloc O) O' b (by simp; omega)).trans (Below.heap_alloc W O b hb))
  have Hrest : Hid (¬ T.hash.length < 2 * (T.l.length + 1) → ∀ nq, Roomy W p T (.slice ad T.l.length cap) (.slice had T.hash.length hcap) av k v ((boxes W k v).drewN nq) T (.slice ad T.l.length cap) (.slice had T.hash.length hcap) av) := by
    intro hc nq
    have hb : Below W.heap.size W ((boxes W k v).drewN nq) := Below.drewN (boxes_below W k v) nq
    exact ⟨h.kept (B := []) (Chg.of_below hb) (fun _ _ => List.not_mem_nil), ok, by omega, rfl, Chg.of_below hb, fun x hx => .inl hx, Nat.le_of_eq (boxes_size W k v).symm, boxes_key W k v, boxes_val W k v⟩
  have Hren : Hid (∀ nq w' T' lv' hv' av', T'.l = liveL T.l → TblAt w' p T' lv' hv' av' → TblOK T' → 4 * ((liveL T.l).length + 1) ≤ T'.hash.length → Chg (foot p (.slice ad T.l.length cap) (.slice had T.hash.length hcap) av) ((boxes W k v).drewN nq) w' → (∀ x ∈ foot p lv' hv' av', x ∈ foot p (.slice ad T.l.length cap) (.slice had T.hash.length hcap) av ∨ ((boxes W k v).drewN nq).heap.size ≤ x) →
      Roomy W p T (.slice ad T.l.length cap) (.slice had T.hash.length hcap) av k v w' T' lv' hv' av') := by
    intro nq w' T' lv' hv' av' e1 e2 e3 e4 e5 e6
    have hb : Below W.heap.size W ((boxes W k v).drewN nq) := Below.drewN (boxes_below W k v) nq
    have hsz : ((boxes W k v).drewN nq).heap.size = W.heap.size + 2 := boxes_size W k v
    have hlt := h.lt
    have hk : ∀ b, W.heap.size ≤ b → b < W.heap.size + 2 → w'.heap[b]? = (boxes W k v).heap[b]? := fun b hb1 hb2 => e5.block b (by omega) (fun e => by have := hlt b e; omega)
    refine ⟨e2, e3, by rw [e1]; omega, ?_, (Chg.of_below (B := foot p (.slice ad T.l.length cap) (.slice had T.hash.length hcap) av) hb).trans e5 (fun x hx _ => hx), fun x hx => by rw [hsz] at e6; exact e6 x hx, by have := e5.size; omega, (hk _ (Nat.le_refl _) (by omega)).trans (boxes_key W k v), (hk _ (by omega) (by omega)).trans (boxes_val W k v)⟩
    rw [e1]
    unfold liveL
    rw [List.filter_filter]
    simp
  go_enter Try.func30, Try.ntmps30
  go_wp2_with fail
  go_quiet (fail)
  go_upto_if 20 with (fail)
  rename Nat => nq
  rw [boxes_eq]
  go_cut [] (fun wX => ∃ T' lv' hv' av', Roomy W p T (.slice ad T.l.length cap) (.slice had T.hash.length hcap) av k v wX T' lv' hv' av')
  case first =>
    by_cases c : T.hash.length < 2 * (T.l.length + 1)
    · go_wp2_with fail
      refine (renew_walk p T _ _ _ _ (h.kept (B := []) (Chg.of_below (Below.drewN (boxes_below W k v) nq)) (fun _ _ => List.not_mem_nil)) ok (by omega)).mono ?_
      rintro e wX ⟨rfl, hash', array', lv', hv', av', r1, r2, r3, r4, r5⟩
      have hR := Lib.hid (Hren.out nq wX _ _ _ _ rfl r1 r2 r3 r4 r5)
      clear r1 r2 r3 r4 r5 Hren Hrest
      go_wp2_with fail
      go_meet
      exact ⟨_, _, _, _, hR.out⟩
    · have hR := Lib.hid (Hrest.out c nq)
      clear Hren Hrest
      go_wp2_with fail
      go_meet
      exact ⟨_, _, _, _, hR.out⟩
  case rest =>
    obtain ⟨T', lv', hv', av', hR⟩ := hcut
    clear Hren Hrest p0 p2
    go_upto_region 3 with fail
    have Hlt := Lib.hid h.lt
    have Hbox : Hid (W.heap.size + 2 ≤ wc.heap.size) := hR.size
    go_cut [] (fun wX => ∃ T' lv' hv' av', Added W p T (.slice ad T.l.length cap) (.slice had T.hash.length hcap) av k v wX T' lv' hv' av')
    case first =>
      have HR := Lib.hid hR
      obtain ⟨rat, rok, rroom, rlive, rchg, rfoot, rsize, rkey, rval⟩ := hR
      have rlen := rok.len
      obtain ⟨n3, hp3⟩ := rat.head
      have hpX : p < wc.heap.size := (Array.getElem?_eq_some_iff.1 hp3).1
      obtain ⟨lad, lcap, rfl⟩ : ∃ ad cap, lv' = .slice ad T'.l.length cap := by
        rcases rat.l.2 with ⟨h1, h0⟩ | ⟨g, cap, cur, h1, _⟩
        · exact ⟨none, 0, by rw [h0]; exact h1⟩
        · exact ⟨_, _, h1⟩
      have c0 : wc.cell? ⟨p, 0, none⟩ = some (.slice lad T'.l.length lcap) := by rw [cell_of hp3]; rfl
      have k0 : wc.cell? ⟨W.heap.size, 0, none⟩ = some (.int .i64 k.k) := by rw [cell_of rkey]; rfl
      have k1 : wc.cell? ⟨W.heap.size, 1, none⟩ = some (.int .u64 k.n) := by rw [cell_of rkey]; rfl
      have k2 : wc.cell? ⟨W.heap.size, 2, none⟩ = some (.string k.s) := by rw [cell_of rkey]; rfl
      have k3 : wc.cell? ⟨W.heap.size, 3, none⟩ = some (.int .i64 k.o) := by rw [cell_of rkey]; rfl
      have v0 : wc.cell? ⟨W.heap.size + 1, 0, none⟩ = some (.int .i64 v.k) := by rw [cell_of rval]; rfl
      have v1 : wc.cell? ⟨W.heap.size + 1, 1, none⟩ = some (.int .u64 v.n) := by rw [cell_of rval]; rfl
      have v2 : wc.cell? ⟨W.heap.size + 1, 2, none⟩ = some (.string v.s) := by rw [cell_of rval]; rfl
      have v3 : wc.cell? ⟨W.heap.size + 1, 3, none⟩ = some (.int .i64 v.o) := by rw [cell_of rval]; rfl
      have pf : wc.frozen? ⟨p, 0, none⟩ = false := frozen_of hp3 0
      obtain ⟨ti, hi0, hi1, hi2, hi3⟩ := info_parts (show (Try.prog.info? 82).map (fun i => (i.zero, i.size, i.bytes)) = some (some (.agg #[.int .i64 0, .int .u64 0, .string ByteArray.empty, .int .i64 0, .int .i64 0, .int .u64 0, .string ByteArray.empty, .int .i64 0, .bool false]), 9, 88) from by kernel_rfl)
      have row : ∀ O, (wc.alloc O).drew.ownsRow 0 82 9 (.slice lad T'.l.length lcap) T'.l.length (entCells T'.l) := fun O => (rat.l.alloc O).drew
      have far : ∀ O w1, Chg (own (.slice lad T'.l.length lcap)) (wc.alloc O).drew w1 → ∀ b, b = p ∨ b = W.heap.size ∨ b = W.heap.size + 1 → w1.heap[b]? = wc.heap[b]? := by
        intro O w1 hc b hb
        obtain ⟨s1, s2, s3⟩ := foot_split rat.apart
        have hbX : b < wc.heap.size := by omega
        have hlt := h.lt
        refine (hc.block b (by simp; omega) (fun e => ?_)).trans (Below.heap_alloc wc O b hbX)
        rcases hb with rfl | rfl | rfl
        · exact (s1 _ e).1 rfl
        · rcases rfoot _ (List.mem_cons_of_mem _ (List.mem_append_left _ e)) with d | d
          · have := hlt _ d; omega
          · omega
        · rcases rfoot _ (List.mem_cons_of_mem _ (List.mem_append_left _ e)) with d | d
          · have := hlt _ d; omega
          · omega
      have hS : ∀ O w1, Chg (own (.slice lad T'.l.length lcap)) (wc.alloc O).drew w1 → w1.cell? ⟨p, 0, none⟩ = some (.slice lad T'.l.length lcap) ∧ w1.cell? ⟨W.heap.size, 0, none⟩ = some (.int .i64 k.k) ∧ w1.cell? ⟨W.heap.size, 1, none⟩ = some (.int .u64 k.n) ∧ w1.cell? ⟨W.heap.size, 2, none⟩ = some (.string k.s) ∧ w1.cell? ⟨W.heap.size, 3, none⟩ = some (.int .i64 k.o) ∧
          w1.cell? ⟨W.heap.size + 1, 0, none⟩ = some (.int .i64 v.k) ∧ w1.cell? ⟨W.heap.size + 1, 1, none⟩ = some (.int .u64 v.n) ∧ w1.cell? ⟨W.heap.size + 1, 2, none⟩ = some (.string v.s) ∧ w1.cell? ⟨W.heap.size + 1, 3, none⟩ = some (.int .i64 v.o) := by
        intro O w1 hc
        have f := far O w1 hc
        have f0 : ∀ b o, b = p ∨ b = W.heap.size ∨ b = W.heap.size + 1 → w1.cell? ⟨b, o, none⟩ = wc.cell? ⟨b, o, none⟩ := fun b o hb => World.cell?_of_block (w := wc) (f b hb)
        refine ⟨(f0 _ _ (.inl rfl)).trans c0, (f0 _ _ (.inr (.inl rfl))).trans k0, (f0 _ _ (.inr (.inl rfl))).trans k1, (f0 _ _ (.inr (.inl rfl))).trans k2, (f0 _ _ (.inr (.inl rfl))).trans k3, (f0 _ _ (.inr (.inr rfl))).trans v0, (f0 _ _ (.inr (.inr rfl))).trans v1, (f0 _ _ (.inr (.inr rfl))).trans v2, (f0 _ _ (.inr (.inr rfl))).trans v3⟩
      have hF : ∀ O w1, Chg (own (.slice lad T'.l.length lcap)) (wc.alloc O).drew w1 → w1.frozen? ⟨p, 0, none⟩ = false := fun O w1 hc => (World.frozen?_of_block (w := wc) (far O w1 hc p (.inl rfl))).trans pf
      have HS := Lib.hid hS
      have HF := Lib.hid hF
      have Hrow := Lib.hid row
      clear hp3 rkey rval far hS hF row
      go_region_law
        ((refine step_append_foot (by rfl) _ _ _ (by rfl) 82 ti _ 9 88 Try.underlying69 hi0 hi1 hi2 hi3 rfl (by omega) _ T'.l.length (entCells T'.l) (by rfl) (Hrow.out _)
              ⟨wc.heap.size, 0, none⟩ 1 1 (Ent.cs ⟨k, v, false⟩) (by rfl) (by rfl) (World.news_of_block (cs := (Ent.cs ⟨k, v, false⟩).toArray) (t := 82) (fr := (0, 0)) (heap_alloc_new wc _)) (by simp [Ent.cs, Val.cs, Value.oneCell'])
              (by omega) (by unfold maxLen; omega) (by omega) ?_; intro g gcap w1 hrow1 hchg1 hnew1; have pf1 := HF.out _ _ hchg1; have pc1 := (HS.out _ _ hchg1).1; have hchg1 := Lib.hid hchg1; have hrow1 := Lib.hid hrow1; have hnew1 := Lib.hid hnew1))
      all_goals
        have HA := Lib.hid (HR.out.added Hlt.out hchg1.out hrow1.out hnew1.out)
        clear HR HS HF Hrow hchg1 hrow1 hnew1
        go_wp2_with fail
        go_meet
        exact ⟨_, _, _, _, HA.out⟩
    case rest =>
      obtain ⟨T5, lv5, hv5, av5, hA⟩ := hcut
      clear hR Hbox lv' hv' av' T'
      have HA := Lib.hid hA
      obtain ⟨aat, aok, aroom, alive, achg, afoot, asize, akey⟩ := hA
      obtain ⟨n6, hp6⟩ := aat.head
      have hp6b : p < wc.heap.size := (Array.getElem?_eq_some_iff.1 hp6).1
      have hl6 : (T5.l ++ [(⟨k, v, false⟩ : Ent)]).length = T5.l.length + 1 := by simp
      obtain ⟨lad, lcap, rfl⟩ : ∃ ad cap, lv5 = .slice ad (T5.l.length + 1) cap := by
        rcases aat.l.2 with ⟨h1, h0⟩ | ⟨g, cap, cur, h1, _⟩
        · exact absurd h0 (by show ¬ (T5.l ++ [(⟨k, v, false⟩ : Ent)]).length = 0; omega)
        · exact ⟨_, _, h1.trans (by show Value.slice _ (T5.l ++ [(⟨k, v, false⟩ : Ent)]).length _ = _; rw [hl6])⟩
      have c0 : wc.cell? ⟨p, 0, none⟩ = some (.slice lad (T5.l.length + 1) lcap) := by rw [cell_of hp6]; rfl
      have c1 : wc.cell? ⟨p, 1, none⟩ = some (.int .i64 n6) := by rw [cell_of hp6]; rfl
      have cf : ∀ o, wc.frozen? ⟨p, o, none⟩ = false := fun o => frozen_of hp6 o
      have rlen := aok.len
      obtain ⟨t7, c7⟩ := aat.setLive (wrap64 (n6 + 1))
      obtain ⟨w7, Hw7⟩ : ∃ w7, Hid (w7 = wc.setCell ⟨p, 1, none⟩ (.int .i64 (wrap64 (n6 + 1)))) := ⟨_, Lib.hid rfl⟩
      rw [← Hw7.out] at t7 c7
      have d0 : w7.cell? ⟨p, 0, none⟩ = some (.slice lad (T5.l.length + 1) lcap) := by
        obtain ⟨n7, hp7⟩ := t7.head
        rw [cell_of hp7]; rfl
      clear hp6 aat achg
      go_upto_region 5 with fail
      rw [← Hw7.out]
      go_wp2_with fail
      have hd : ((T5.l ++ [(⟨k, v, false⟩ : Ent)])[T5.l.length]'(by omega)) = ⟨k, v, false⟩ := by rw [List.getElem_append_right (Nat.le_refl _)]; simp
      have hH5 : HashOK HV (kds (T5.l ++ [⟨k, v, false⟩])) T5.l.length T5.hash := by
        rcases aok.room with ⟨_, h2⟩ | ⟨_, h1, _⟩
        · rw [h2] at aroom; simp at aroom
        · refine h1.more fun i hi => ?_
          rw [kds_snoc _ _ rfl, List.getElem?_append_left (by rw [kds_len]; exact hi)]
      obtain ⟨r, hr⟩ : ∃ r, T5.hash.length = 2 ^ r := by
        rcases aok.room with ⟨_, h2⟩ | ⟨h1, _, _⟩
        · rw [h2] at aroom; simp at aroom
        · exact h1
      have amost := aok.most
      refine (lay_walk p _ _ _ _ T5.l.length w7 t7 (by show 0 < T5.hash.length; omega) r hr amost (by show (T5.l ++ [(⟨k, v, false⟩ : Ent)]).length ≤ _; omega) (by show _ < (T5.l ++ [(⟨k, v, false⟩ : Ent)]).length; omega) hH5 (by show T5.l.length < T5.hash.length; omega) (by show ((T5.l ++ [(⟨k, v, false⟩ : Ent)])[T5.l.length]'(by omega)).key.s.size ≤ _; rw [hd]; exact hk.text) (by show ((T5.l ++ [(⟨k, v, false⟩ : Ent)])[T5.l.length]'(by omega)).dead = _; rw [hd])).mono ?_
      rintro e w8 ⟨rfl, hash8, hl8, hok8, t8, c8⟩
      have hno5 : ∀ i : Nat, (kds T5.l)[i]? ≠ some (some k) := fun i hi => by
        have h1 := kds_mem.1 ⟨i, hi⟩
        rw [alive] at h1
        obtain ⟨i', hi'⟩ := kds_mem.2 h1
        exact Hno.out i' hi'
      have hok0 := add_ok (v := v) aok hk hno5 hl8 aroom hok8
      have hkey8 : w8.heap[W.heap.size]? = some (.cells #[.int .i64 k.k, .int .u64 k.n, .string k.s, .int .i64 k.o] 34 (0, 0)) := by
        rw [c8.block _ (by have := c7.size; omega) (fun e => by
          rcases afoot _ (List.mem_cons_of_mem _ (List.mem_append_right _ (List.mem_append_left _ e))) with d | d
          · have := Hlt.out _ d; omega
          · omega), c7.block _ (by omega) (fun e => by rw [List.mem_singleton] at e; omega)]
        exact akey
      have k0 : w8.cell? ⟨W.heap.size, 0, none⟩ = some (.int .i64 k.k) := by rw [cell_of hkey8]; rfl
      have k1 : w8.cell? ⟨W.heap.size, 1, none⟩ = some (.int .u64 k.n) := by rw [cell_of hkey8]; rfl
      obtain ⟨n8, hp8⟩ := t8.head
      have hp8b : p < w8.heap.size := (Array.getElem?_eq_some_iff.1 hp8).1
      obtain ⟨aad, acap, rfl⟩ : ∃ ad cap, av5 = .slice ad T5.array.length cap := by
        rcases t8.array.2 with ⟨h1, h0⟩ | ⟨g, cap, cur, h1, _⟩
        · exact ⟨none, 0, by rw [show T5.array.length = 0 from h0]; exact h1⟩
        · exact ⟨_, _, h1⟩
      have a3 : w8.cell? ⟨p, 3, none⟩ = some (.slice aad T5.array.length acap) := by rw [cell_of hp8]; rfl
      have harr := add_arr (v := v) (k := k) aok
      have hmax := add_max (v := v) (k := k) aok
      obtain ⟨a, hka, haW⟩ := hk.num
      have htold : ∀ m : Nat, m ≤ 67108864 → k = numKey m → k.k = 3 ∧ toI a = ((m : Int), true) := fun m hm e => num_told hm e hka
      have hchg8 : Chg (foot p (.slice ad T.l.length cap) (.slice had T.hash.length hcap) av) W w8 := by
        refine (HA.out.chg.trans c7 (fun x hx _ => ?_)).trans c8 (fun x hx hlt => ?_)
        · rw [List.mem_singleton.1 hx]; exact List.mem_cons_self ..
        · rcases afoot _ (List.mem_cons_of_mem _ (List.mem_append_right _ (List.mem_append_left _ hx))) with d | d
          · exact d
          · omega
      have harrle := aok.arrLe
      have HK0 := Lib.hid hok0
      have HARR := Lib.hid harr
      have HMAX := Lib.hid hmax
      have HTOLD := Lib.hid htold
      have HCHG := Lib.hid hchg8
      have HT8 := Lib.hid t8
      have hFin : Hid (∀ array av' w', TblAt w' p ⟨T5.l ++ [⟨k, v, false⟩], hash8, array⟩ (.slice lad (T5.l.length + 1) lcap) hv5 av' → ArrOK numKey (kds (T5.l ++ [⟨k, v, false⟩])) array → array.length ≤ T5.l.length + 1 → Chg (foot p (.slice ad T.l.length cap) (.slice had T.hash.length hcap) av) W w' → (∀ x ∈ own av', x ∈ own (.slice aad T5.array.length acap) ∨ W.heap.size ≤ x) →
          AddP W p T (.slice ad T.l.length cap) (.slice had T.hash.length hcap) av k v (.returned (.tuple #[])) w') := by
        intro array av' w' e1 e2 e3 e4 e5
        refine ⟨rfl, _, _, _, _, e1, ⟨⟨hok0.once, hok0.keys, hok0.room, hok0.most⟩, e2, by show array.length ≤ (T5.l ++ [(⟨k, v, false⟩ : Ent)]).length; omega⟩, ?_, e4, fun x hx => ?_⟩
        · show liveL (T5.l ++ [⟨k, v, false⟩]) = _
          rw [live_app _ _ rfl, alive]
        · have f0 : ∀ x, x ∈ foot p (Value.slice lad (T5.l.length + 1) lcap) hv5 (.slice aad T5.array.length acap) → x ∈ foot p (.slice ad T.l.length cap) (.slice had T.hash.length hcap) av ∨ W.heap.size ≤ x := fun x hx => by
            rcases afoot x hx with d | d
            · exact .inl d
            · exact .inr (by omega)
          rcases List.mem_cons.1 hx with d | d
          · exact f0 x (by rw [d]; exact List.mem_cons_self ..)
          · rcases List.mem_append.1 d with d | d
            · exact f0 x (List.mem_cons_of_mem _ (List.mem_append_left _ d))
            · rcases List.mem_append.1 d with d | d
              · exact f0 x (List.mem_cons_of_mem _ (List.mem_append_right _ (List.mem_append_left _ d)))
              · rcases e5 x d with e | e
                · exact f0 x (List.mem_cons_of_mem _ (List.mem_append_right _ (List.mem_append_right _ e)))
                · exact .inr e
      have Hav : Hid (∀ x ∈ own (.slice aad T5.array.length acap), x < W.heap.size → x ∈ foot p (.slice ad T.l.length cap) (.slice had T.hash.length hcap) av) := fun x hx hlt => by
        rcases afoot x (List.mem_cons_of_mem _ (List.mem_append_right _ (List.mem_append_right _ hx))) with d | d
        · exact d
        · omega
      clear hok0 harr hmax htold hchg8 t8 c8 hkey8 hp8 t7 c7 hH5 hd hr hok8 hl8 HA afoot akey alive hno5 d0 c0 c1 cf
      go_wp2_with fail
      refine ((ans_ToInt a haW).at _).mono ?_
      rintro e w9 ⟨rfl, h9⟩
      have hb9 : W.heap.size < w8.heap.size := by have := HCHG.out.size; have h2 := World.block_lt_of_cell? w8 _ k0; exact h2
      have k0' : w9.cell? ⟨W.heap.size, 0, none⟩ = some (.int .i64 k.k) := by rw [h9.cell hb9]; exact k0
      have a3' : w9.cell? ⟨p, 3, none⟩ = some (.slice aad T5.array.length acap) := by rw [h9.cell hp8b]; exact a3
      have t9 := HT8.out.kept (B := []) (Chg.of_below h9) (fun _ _ => List.not_mem_nil)
      have c9 : Chg (foot p (.slice ad T.l.length cap) (.slice had T.hash.length hcap) av) W w9 := HCHG.out.trans (Chg.of_below (B := []) h9) (fun _ h => absurd h List.not_mem_nil)
      have T9 := Lib.hid t9
      have C9 := Lib.hid c9
      obtain ⟨rr, hrr⟩ : ∃ r, Hid (r = toI a) := ⟨_, Lib.hid rfl⟩
      have hr' := hrr.out
      rw [← hr']
      clear hr' t9 c9 k0 k1 a3 HT8 HCHG h9 hka
      obtain ⟨m, is⟩ := rr
      by_cases cond : k.k = 3 ∧ is = true ∧ m = (T5.array.length : Int) + 1
      · obtain ⟨e1, rfl, rfl⟩ := cond
        have e1' : (k.k == 3) = true := by rw [e1]; rfl
        clear e1
        go_wp2_with fail
        refine (reach_walk p _ _ _ _ w9 T9.out HK0.out HARR.out (by show T5.array.length ≤ (T5.l ++ [(⟨k, v, false⟩ : Ent)]).length; omega)).mono ?_
        rintro e w10 ⟨rfl, array, av', ⟨g1, g2, g3, g4, g5⟩, g6⟩
        have HG := Lib.hid (hFin.out array av' w10 g1 g6 (by rw [← hl6]; exact g3) (C9.out.trans g4 (fun x hx hlt => by
          rcases List.mem_cons.1 hx with d | d
          · rw [d]; exact List.mem_cons_self ..
          · exact Hav.out x d hlt)) (fun x hx => by
            rcases g5 x hx with d | d
            · exact .inl d
            · exact .inr (Nat.le_trans C9.out.size d)))
        clear g1 g2 g3 g4 g5 g6
        go_wp2_with fail
        go_end0
        exact HG.out
      · have hne : k ≠ numKey (T5.array.length + 1) := fun e => by
          obtain ⟨h1, h2⟩ := HTOLD.out _ (by omega) e
          rw [← hrr.out] at h2
          exact cond ⟨h1, congrArg Prod.snd h2, congrArg Prod.fst h2⟩
        have HG := Lib.hid (hFin.out T5.array _ w9 T9.out (HMAX.out hne) (by omega) C9.out (fun x hx => .inl hx))
        have Hc := Lib.hid cond
        clear hFin HMAX HTOLD hne cond
        cases is
        · go_wp2_with fail
          all_goals (go_end0; exact HG.out)
        · by_cases d1 : k.k = 3
          · have e1' : (k.k == 3) = true := by rw [d1]; rfl
            have e2' : (m == (T5.array.length : Int) + 1) = false := by
              rw [beq_eq_false_iff_ne]
              exact fun e => Hc.out ⟨d1, rfl, e⟩
            clear d1
            go_wp2_with fail
            go_end0
            exact HG.out
          · have e1' : (k.k == 3) = false := by rw [beq_eq_false_iff_ne]; exact d1
            clear d1
            go_wp2_with fail
            go_end0
            exact HG.out
end Go.Proofs.Ytlihonbmopeemaa.Hp
end
