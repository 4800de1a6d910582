/- Texts on HeapB, joined. No conditions but those that each theorem states. -/
import Derived.Test.YtlihonbmopeemaaBdFloats
import Derived.Test.YtlihonbmopeemaaBdHeapA
section
namespace Go.Proofs.Ytlihonbmopeemaa.HpK
open Go Go.RowKit Go.Proofs.Ytlihonbmopeemaa.Ref Go.Proofs.YtlihonbmopeemaaW.PrintWords Go.Proofs.Ytlihonbmopeemaa.Ans
open Go.Proofs.Ytlihonbmopeemaa.Num Go.Proofs.Ytlihonbmopeemaa.DigLaw Go.Proofs.Ytlihonbmopeemaa.Fl Go.Proofs.Ytlihonbmopeemaa.Dig Go.Proofs.Ytlihonbmopeemaa.Float
open Ieee (double Datum)
attribute [local go_sem] frombits_run

theorem Vi_nought : Vi 0 = 0 ∧ rg 0 = 0 := by
  have h : rg 0 = 0 ∧ sg 0 = false := by decide
  refine ⟨?_, h.1⟩
  unfold Vi; rw [h.1, h.2, V_small (by decide)]; rfl
theorem Vi_nil {a : Nat} : Vi a = 0 ↔ rg a = 0 := by
  have h0 : V 0 = 0 := V_small (by decide)
  constructor
  · intro h
    have : V (rg a) = 0 := by unfold Vi sn at h; split at h <;> omega
    exact V_inj (this.trans h0.symm)
  · intro h; unfold Vi sn; rw [h, h0]; split <;> rfl
theorem eq_nought (a : Nat) : (FloatKind.f64.format.order a 0 == some .eq) = decide (rg a = 0) := by
  show (double.order a 0 == some .eq) = _
  by_cases h : INF < rg a
  · rw [order_nan (.inl h), decide_eq_false (by omega)]; rfl
  · rw [order_eq (by omega) (by rw [Vi_nought.2]; exact Nat.zero_le _), Vi_nought.1]
    by_cases z : rg a = 0
    · rw [cmp_eq (Vi_nil.2 z), decide_eq_true z]; rfl
    · rw [decide_eq_false z]
      rcases Int.lt_trichotomy (Vi a) 0 with l | l | l
      · rw [cmp_lt l]; rfl
      · exact absurd (Vi_nil.1 l) z
      · rw [cmp_gt l]; rfl
theorem sub_self_some {a : Nat} (h : rg a < INF) : floatBits .sub .f64 a a = some 0 := by
  show double.sub a a = some 0
  have e : double.sub a a = double.add a (flipW a) := by unfold Ieee.Format.sub Ieee.Format.add; rw [read_flip]
  obtain ⟨h1, h2, _⟩ := flip_facts a
  rw [e, add_fin h (by rw [h2]; exact h), h1]
  have e2 : Vi a + Vi (flipW a) = 0 := by
    unfold Vi; rw [h1, h2]; unfold sn
    cases sg a
    · rw [if_neg (by simp), if_pos (by rfl)]; omega
    · rw [if_pos rfl, if_neg (by simp)]; omega
  have e3 : (sg a && !sg a) = false := by cases sg a <;> rfl
  rw [e2, e3]
  unfold wordI
  rw [if_pos rfl, show Int.natAbs 0 = 0 from rfl, rung_zero]; rfl
theorem sub_self_none {a : Nat} (h : rg a = INF) : floatBits .sub .f64 a a = none := by
  show double.sub a a = none
  unfold Ieee.Format.sub
  rw [read_inf h]
  cases sg a <;> rfl
theorem drawn_ne (a b : Nat) (w : World) : (FloatKind.f64.format.order (drawnNaN a b w) 0 != some .eq) = true := by
  have h : INF < rg (drawnNaN a b w) := by
    rcases Nat.lt_or_ge INF (rg (drawnNaN a b w)) with h | h
    · exact h
    · have h1 := cut_isNaN a b (w.tape w.drawn (Question.nanBits .f64 a b))
      have h2 := canon_num h
      have h3 : rg Float.NANW ≤ INF := by rw [← h1]; unfold drawnNaN at h2 h; rw [h2]; exact h
      exact absurd h3 (by rw [show Float.NANW = Dig.NANW from rfl, nanw_facts.1, cINF]; decide)
  show (double.order (drawnNaN a b w) 0 != some .eq) = true
  rw [order_nan (.inl h)]; rfl
theorem isnan_run (a : Nat) : (FloatKind.f64.format.order a a != some .eq) = decide (INF < rg a) := isNaN_eq a

theorem ans_kind (a : Nat) (ha : a < W) : Ans 73 #[.int .u64 a] (.int .i64 (kindN a)) := by
  intro w
  have n1 := isnan_run a
  have z1 := eq_nought a
  have fe := field_exp a ha
  have hI := cINF
  rcases kind_facts a with ⟨hk, h⟩ | ⟨hk, h⟩ | ⟨hk, h⟩ | ⟨hk, h⟩ | ⟨hk, h⟩
  · rw [hk]
    rw [decide_eq_true h] at n1
    clear z1 fe h ha hk hI
    go_enter Try.func73, Try.ntmps73
    go_wp2
    go_ret
    exact ⟨rfl, Below.refl _ _⟩
  · rw [hk]
    rw [decide_eq_false (by omega)] at n1
    rw [decide_eq_false (by omega)] at z1
    have hs : ∀ w : World, (binOp .sub 109 (.float .f64 a) (.float .f64 a)).run Try.prog w = .ok (.float .f64 (drawnNaN a a w)) w.drew := fun w => arith_none .sub 109 a a (.inr (.inl rfl)) (sub_self_none h) w
    have d1 := drawn_ne a a w
    clear fe h ha hk hI
    go_enter Try.func73, Try.ntmps73
    go_wp2
    go_ret
    exact ⟨rfl, (Below.refl _ _).drew⟩
  · rw [hk]
    rw [decide_eq_false (by omega)] at n1
    rw [decide_eq_true h] at z1
    clear fe h ha hk hI
    go_enter Try.func73, Try.ntmps73
    go_wp2
    go_ret
    exact ⟨rfl, Below.refl _ _⟩
  · rw [hk]
    rw [decide_eq_false (by omega)] at n1
    rw [decide_eq_false (by omega)] at z1
    have hs : ∀ w : World, (binOp .sub 109 (.float .f64 a) (.float .f64 a)).run Try.prog w = .ok (.float .f64 0) w := fun w => run_float_arith w .sub 109 .f64 a a 0 (sub_self_some (by omega))
    have z2 : (FloatKind.f64.format.order 0 0 != some .eq) = false := by decide +kernel
    have e0 : rg a / 4503599627370496 = 0 := Nat.div_eq_of_lt h.2
    rw [e0] at fe
    clear e0 h ha hk hI
    go_enter Try.func73, Try.ntmps73
    go_wp2
    go_ret
    exact ⟨rfl, Below.refl _ _⟩
  · rw [hk]
    rw [decide_eq_false (by omega)] at n1
    rw [decide_eq_false (by omega)] at z1
    have hs : ∀ w : World, (binOp .sub 109 (.float .f64 a) (.float .f64 a)).run Try.prog w = .ok (.float .f64 0) w := fun w => run_float_arith w .sub 109 .f64 a a 0 (sub_self_some h.2)
    have z2 : (FloatKind.f64.format.order 0 0 != some .eq) = false := by decide +kernel
    have e0 : 1 ≤ rg a / 4503599627370496 := by omega
    generalize rg a / 4503599627370496 = q at *
    have e1 : (((q : Nat) : Int) == 0) = false := beq_eq_false_iff_ne.2 (by omega)
    clear e0 h ha hk hI
    go_enter Try.func73, Try.ntmps73
    go_wp2
    go_ret
    exact ⟨rfl, Below.refl _ _⟩
theorem ans_Kind (a : Nat) (ha : a < W) : Ans 49 #[.int .u64 a] (.int .i64 (kindN a)) := by
  intro w
  have k := ans_kind a ha
  go_enter Try.func49, Try.ntmps49
  go_wp2_with fail
  refine (k.at _).mono ?_; rintro e w1 ⟨rfl, hb1⟩
  go_wp2_with fail
  go_ret
  exact ⟨rfl, hb1⟩
end Go.Proofs.Ytlihonbmopeemaa.HpK
end
section
namespace Go.Proofs.Ytlihonbmopeemaa.Hp
open Go Go.RowKit Go.Proofs.Ytlihonbmopeemaa.HpLaw Go.Proofs.Ytlihonbmopeemaa.Ans Go.Proofs.Ytlihonbmopeemaa.Num Go.Proofs.Ytlihonbmopeemaa.DigLaw Go.Proofs.Ytlihonbmopeemaa.Fl Go.Proofs.Ytlihonbmopeemaa.Dig Go.Proofs.Ytlihonbmopeemaa.Float

structure VOK (x : Val) : Prop where
  num : ∃ a : Nat, x.n = a ∧ a < Dig.W
  text : x.s.size ≤ maxLen
def nilV : Val := ⟨0, 0, E3, 0⟩
def normV (x : Val) : Val :=
  if x.k = 1 ∨ x.k = 2 then ⟨x.k, 0, E3, 0⟩ else if x.k = 3 then ⟨3, ((canonW x.n.toNat : Nat) : Int), E3, 0⟩ else if x.k = 4 then ⟨4, 0, x.s, 0⟩ else if 5 ≤ x.k ∧ x.k ≤ 8 then ⟨x.k, 0, E3, x.o⟩ else nilV
def NormP (W : World) (x : Val) (e : Ending) (w' : World) : Prop := e = .returned (normV x).v ∧ Below W.heap.size W w'
theorem normal_1 (n : Int) (s : ByteArray) (o : Int) (W : World) : Calls Try.prog 48 #[.agg #[.int .i64 1, .int .u64 n, .string s, .int .i64 o]] W (NormP W ⟨1, n, s, o⟩) := by
  have hn : normV ⟨1, n, s, o⟩ = ⟨1, 0, E3, 0⟩ := rfl
  have HN := Lib.hid hn
  clear hn
  go_enter Try.func48, Try.ntmps48
  go_wp2_with fail
  exact bodyPost_ret (v := .agg #[.int .i64 1, .int .u64 0, .string E3, .int .i64 0]) (by simp [results, Try.results48, go_sem, E3]) rfl ⟨by rw [HN.out]; rfl, ((Below.refl _ _).alloc (Nat.le_refl _) _).alloc (by simp) _⟩
theorem normal_2 (n : Int) (s : ByteArray) (o : Int) (W : World) : Calls Try.prog 48 #[.agg #[.int .i64 2, .int .u64 n, .string s, .int .i64 o]] W (NormP W ⟨2, n, s, o⟩) := by
  have hn : normV ⟨2, n, s, o⟩ = ⟨2, 0, E3, 0⟩ := rfl
  have HN := Lib.hid hn
  clear hn
  go_enter Try.func48, Try.ntmps48
  go_wp2_with fail
  exact bodyPost_ret (v := .agg #[.int .i64 2, .int .u64 0, .string E3, .int .i64 0]) (by simp [results, Try.results48, go_sem, E3]) rfl ⟨by rw [HN.out]; rfl, ((Below.refl _ _).alloc (Nat.le_refl _) _).alloc (by simp) _⟩
theorem normal_4 (n : Int) (s : ByteArray) (o : Int) (W : World) : Calls Try.prog 48 #[.agg #[.int .i64 4, .int .u64 n, .string s, .int .i64 o]] W (NormP W ⟨4, n, s, o⟩) := by
  have hn : normV ⟨4, n, s, o⟩ = ⟨4, 0, s, 0⟩ := rfl
  have HN := Lib.hid hn
  clear hn
  go_enter Try.func48, Try.ntmps48
  go_wp2_with fail
  exact bodyPost_ret (v := .agg #[.int .i64 4, .int .u64 0, .string s, .int .i64 0]) (by simp [results, Try.results48, go_sem]) rfl ⟨by rw [HN.out]; rfl, ((Below.refl _ _).alloc (Nat.le_refl _) _).alloc (by simp) _⟩
theorem normal_5 (n : Int) (s : ByteArray) (o : Int) (W : World) : Calls Try.prog 48 #[.agg #[.int .i64 5, .int .u64 n, .string s, .int .i64 o]] W (NormP W ⟨5, n, s, o⟩) := by
  have hn : normV ⟨5, n, s, o⟩ = ⟨5, 0, E3, o⟩ := rfl
  have HN := Lib.hid hn
  clear hn
  go_enter Try.func48, Try.ntmps48
  go_wp2_with fail
  exact bodyPost_ret (v := .agg #[.int .i64 5, .int .u64 0, .string E3, .int .i64 o]) (by simp [results, Try.results48, go_sem, E3]) rfl ⟨by rw [HN.out]; rfl, ((Below.refl _ _).alloc (Nat.le_refl _) _).alloc (by simp) _⟩
theorem normal_6 (n : Int) (s : ByteArray) (o : Int) (W : World) : Calls Try.prog 48 #[.agg #[.int .i64 6, .int .u64 n, .string s, .int .i64 o]] W (NormP W ⟨6, n, s, o⟩) := by
  have hn : normV ⟨6, n, s, o⟩ = ⟨6, 0, E3, o⟩ := rfl
  have HN := Lib.hid hn
  clear hn
  go_enter Try.func48, Try.ntmps48
  go_wp2_with fail
  exact bodyPost_ret (v := .agg #[.int .i64 6, .int .u64 0, .string E3, .int .i64 o]) (by simp [results, Try.results48, go_sem, E3]) rfl ⟨by rw [HN.out]; rfl, ((Below.refl _ _).alloc (Nat.le_refl _) _).alloc (by simp) _⟩
theorem normal_7 (n : Int) (s : ByteArray) (o : Int) (W : World) : Calls Try.prog 48 #[.agg #[.int .i64 7, .int .u64 n, .string s, .int .i64 o]] W (NormP W ⟨7, n, s, o⟩) := by
  have hn : normV ⟨7, n, s, o⟩ = ⟨7, 0, E3, o⟩ := rfl
  have HN := Lib.hid hn
  clear hn
  go_enter Try.func48, Try.ntmps48
  go_wp2_with fail
  exact bodyPost_ret (v := .agg #[.int .i64 7, .int .u64 0, .string E3, .int .i64 o]) (by simp [results, Try.results48, go_sem, E3]) rfl ⟨by rw [HN.out]; rfl, ((Below.refl _ _).alloc (Nat.le_refl _) _).alloc (by simp) _⟩
theorem normal_8 (n : Int) (s : ByteArray) (o : Int) (W : World) : Calls Try.prog 48 #[.agg #[.int .i64 8, .int .u64 n, .string s, .int .i64 o]] W (NormP W ⟨8, n, s, o⟩) := by
  have hn : normV ⟨8, n, s, o⟩ = ⟨8, 0, E3, o⟩ := rfl
  have HN := Lib.hid hn
  clear hn
  go_enter Try.func48, Try.ntmps48
  go_wp2_with fail
  exact bodyPost_ret (v := .agg #[.int .i64 8, .int .u64 0, .string E3, .int .i64 o]) (by simp [results, Try.results48, go_sem, E3]) rfl ⟨by rw [HN.out]; rfl, ((Below.refl _ _).alloc (Nat.le_refl _) _).alloc (by simp) _⟩
theorem normal_3 (a : Nat) (s : ByteArray) (o : Int) (W : World) : Calls Try.prog 48 #[.agg #[.int .i64 3, .int .u64 a, .string s, .int .i64 o]] W (NormP W ⟨3, a, s, o⟩) := by
  have hn : normV ⟨3, a, s, o⟩ = ⟨3, ((canonW a : Nat) : Int), E3, 0⟩ := rfl
  have HN := Lib.hid hn
  clear hn
  go_enter Try.func48, Try.ntmps48
  go_wp2_with fail
  go_region_with ((go_at_call 72; refine (Canon_any _ _).mono ?_; rintro e w' ⟨rfl, rfl⟩))
  all_goals
    go_wp2_with fail
    exact bodyPost_ret (v := .agg #[.int .i64 3, .int .u64 ((canonW a : Nat) : Int), .string E3, .int .i64 0]) (by simp [results, Try.results48, go_sem, E3]) rfl ⟨by rw [HN.out]; rfl, (((Below.refl _ _).alloc (Nat.le_refl _) _).alloc (by simp) _).drew⟩
theorem normal_0 (k n : Int) (s : ByteArray) (o : Int) (h : k < 1 ∨ 8 < k) (W : World) : Calls Try.prog 48 #[.agg #[.int .i64 k, .int .u64 n, .string s, .int .i64 o]] W (NormP W ⟨k, n, s, o⟩) := by
  have hn : normV ⟨k, n, s, o⟩ = nilV := by
    unfold normV
    simp only
    rw [if_neg (by omega), if_neg (by omega), if_neg (by omega), if_neg (by omega)]
  have HN := Lib.hid hn
  have e1 : (k == 1) = false := by rw [beq_eq_false_iff_ne]; omega
  have e2 : (k == 2) = false := by rw [beq_eq_false_iff_ne]; omega
  have e3 : (k == 3) = false := by rw [beq_eq_false_iff_ne]; omega
  have e4 : (k == 4) = false := by rw [beq_eq_false_iff_ne]; omega
  have e5 : (k == 5) = false := by rw [beq_eq_false_iff_ne]; omega
  have e6 : (k == 6) = false := by rw [beq_eq_false_iff_ne]; omega
  have e7 : (k == 7) = false := by rw [beq_eq_false_iff_ne]; omega
  have e8 : (k == 8) = false := by rw [beq_eq_false_iff_ne]; omega
  clear hn h
  go_enter Try.func48, Try.ntmps48
  go_wp2_with fail
  exact bodyPost_ret (v := .agg #[.int .i64 0, .int .u64 0, .string E3, .int .i64 0]) (by simp [results, Try.results48, go_sem, E3]) rfl ⟨by rw [HN.out]; rfl, ((Below.refl _ _).alloc (Nat.le_refl _) _).alloc (by simp) _⟩
theorem normal_walk (x : Val) (hx : VOK x) (W : World) : Calls Try.prog 48 #[x.v] W (NormP W x) := by
  obtain ⟨a, ha, haW⟩ := hx.num
  obtain ⟨k, n, s, o⟩ := x
  by_cases h : k < 1 ∨ 8 < k
  · exact normal_0 k n s o h W
  · obtain rfl | rfl | rfl | rfl | rfl | rfl | rfl | rfl : k = 1 ∨ k = 2 ∨ k = 3 ∨ k = 4 ∨ k = 5 ∨ k = 6 ∨ k = 7 ∨ k = 8 := by omega
    · exact normal_1 n s o W
    · exact normal_2 n s o W
    · subst ha; exact normal_3 a s o W
    · exact normal_4 n s o W
    · exact normal_5 n s o W
    · exact normal_6 n s o W
    · exact normal_7 n s o W
    · exact normal_8 n s o W
end Go.Proofs.Ytlihonbmopeemaa.Hp
end
section
namespace Go.Proofs.Ytlihonbmopeemaa.Hp
open Go Go.RowKit Go.Proofs.Ytlihonbmopeemaa.HpLaw Go.Proofs.Ytlihonbmopeemaa.Ans Go.Proofs.Ytlihonbmopeemaa.Num Go.Proofs.Ytlihonbmopeemaa.DigLaw Go.Proofs.Ytlihonbmopeemaa.Fl Go.Proofs.Ytlihonbmopeemaa.Dig Go.Proofs.Ytlihonbmopeemaa.Float

theorem bcell {W w1 : World} (hb : Below W.heap.size W w1) : (∀ b o, b < W.heap.size → w1.cell? ⟨b, o, none⟩ = W.cell? ⟨b, o, none⟩) ∧ (∀ b o, b < W.heap.size → w1.frozen? ⟨b, o, none⟩ = W.frozen? ⟨b, o, none⟩) :=
  ⟨fun b o h => hb.cell (p := ⟨b, o, none⟩) h, fun b o h => hb.frozen (p := ⟨b, o, none⟩) h⟩
/-- a value, written out -/
theorem Val.out (y : Val) : y.v = .agg #[.int .i64 y.k, .int .u64 y.n, .string y.s, .int .i64 y.o] := rfl
/-- a value stored into a block of four cells -/
def put4 (w : World) (b : Nat) (y : Val) : World := (((w.setCell ⟨b, 0, none⟩ (.int .i64 y.k)).setCell ⟨b, 1, none⟩ (.int .u64 y.n)).setCell ⟨b, 2, none⟩ (.string y.s)).setCell ⟨b, 3, none⟩ (.int .i64 y.o)
theorem put4_eq (w : World) (b : Nat) (y : Val) : (((w.setCell ⟨b, 0, none⟩ (.int .i64 y.k)).setCell ⟨b, 1, none⟩ (.int .u64 y.n)).setCell ⟨b, 2, none⟩ (.string y.s)).setCell ⟨b, 3, none⟩ (.int .i64 y.o) = put4 w b y := rfl
theorem put4_nil (w : World) (b : Nat) : (((w.setCell ⟨b, 0, none⟩ (.int .i64 0)).setCell ⟨b, 1, none⟩ (.int .u64 0)).setCell ⟨b, 2, none⟩ (.string ⟨#[]⟩)).setCell ⟨b, 3, none⟩ (.int .i64 0) = put4 w b nilV := rfl
theorem put4_mk (w : World) (b : Nat) (k n : Int) (s : ByteArray) (o : Int) : (((w.setCell ⟨b, 0, none⟩ (.int .i64 k)).setCell ⟨b, 1, none⟩ (.int .u64 n)).setCell ⟨b, 2, none⟩ (.string s)).setCell ⟨b, 3, none⟩ (.int .i64 o) = put4 w b ⟨k, n, s, o⟩ := rfl
theorem put4_block {w : World} {b : Nat} {c0 c1 c2 c3 : Value} {e : TypeId} (h : w.heap[b]? = some (.cells #[c0, c1, c2, c3] e (0, 0))) (y : Val) :
    (put4 w b y).heap[b]? = some (.cells #[.int .i64 y.k, .int .u64 y.n, .string y.s, .int .i64 y.o] e (0, 0)) := by
  unfold put4
  have h1 := setCell_at h 0 (.int .i64 y.k)
  have h2 := setCell_at h1 1 (.int .u64 y.n)
  have h3 := setCell_at h2 2 (.string y.s)
  have h4 := setCell_at h3 3 (.int .i64 y.o)
  exact h4
theorem put4_chg (w : World) (b : Nat) (y : Val) : Chg [b] w (put4 w b y) :=
  (((chg_set w b 0 _).trans (chg_set _ b 1 _) (fun _ h _ => h)).trans (chg_set _ b 2 _) (fun _ h _ => h)).trans (chg_set _ b 3 _) (fun _ h _ => h)
theorem put4_below {B : Nat} {W w : World} (h : Below B W w) {b : Nat} (hb : B ≤ b) (y : Val) : Below B W (put4 w b y) :=
  (((h.setCell (p := ⟨b, 0, none⟩) hb _).setCell (p := ⟨b, 1, none⟩) hb _).setCell (p := ⟨b, 2, none⟩) hb _).setCell (p := ⟨b, 3, none⟩) hb _
theorem cells4 {w : World} {b : Nat} {y : Val} {e : TypeId} {fz : Nat × Nat} (h : w.heap[b]? = some (.cells #[.int .i64 y.k, .int .u64 y.n, .string y.s, .int .i64 y.o] e fz)) :
    w.cell? ⟨b, 0, none⟩ = some (.int .i64 y.k) ∧ w.cell? ⟨b, 1, none⟩ = some (.int .u64 y.n) ∧ w.cell? ⟨b, 2, none⟩ = some (.string y.s) ∧ w.cell? ⟨b, 3, none⟩ = some (.int .i64 y.o) := by
  refine ⟨?_, ?_, ?_, ?_⟩ <;> (rw [cell_of h]; rfl)
theorem Normal_walk (x : Val) (hx : VOK x) (W : World) : Calls Try.prog 27 #[x.v] W (NormP W x) := by
  have hn := fun W => normal_walk x hx W
  unfold Val.v at *
  go_enter Try.func27, Try.ntmps27
  go_wp2_with fail
  refine (hn _).mono ?_
  rintro e w1 ⟨rfl, h1⟩
  have g1 : Below (boxes W x nilV).heap.size (boxes W x nilV) w1 := h1
  have hblk : w1.heap[W.heap.size + 1]? = some (.cells #[.int .i64 nilV.k, .int .u64 nilV.n, .string nilV.s, .int .i64 nilV.o] 34 (0, 0)) := (g1.block _ (by rw [boxes_size]; omega)).trans (boxes_val W x nilV)
  obtain ⟨q0, q1, q2, q3⟩ := cells4 hblk
  have qf : ∀ o, w1.frozen? ⟨W.heap.size + 1, o, none⟩ = false := fun o => frozen_of hblk o
  obtain ⟨y, Hy⟩ : ∃ y, Hid (y = normV x) := ⟨_, Lib.hid rfl⟩
  have hb2 : Below W.heap.size W (put4 w1 (W.heap.size + 1) y) := put4_below ((boxes_below W x nilV).trans (g1.mono (by rw [boxes_size]; omega))) (by omega) y
  obtain ⟨r0, r1, r2, r3⟩ := cells4 (put4_block hblk y)
  rw [← Hy.out, Val.out]
  clear h1 g1 hblk
  go_wp2_with fail
  rw [put4_eq]
  exact bodyPost_ret (v := y.v) (by simp [results, Try.results27, go_sem, Val.out, r0, r1, r2, r3]) rfl ⟨by rw [Hy.out], hb2⟩
/-- two values in boxes of the call's own -/
structure Two (W : World) (y z : Val) (w : World) : Prop where
  below : Below W.heap.size W w
  fst : w.heap[W.heap.size]? = some (.cells #[.int .i64 y.k, .int .u64 y.n, .string y.s, .int .i64 y.o] 34 (0, 0))
  snd : w.heap[W.heap.size + 1]? = some (.cells #[.int .i64 z.k, .int .u64 z.n, .string z.s, .int .i64 z.o] 34 (0, 0))
theorem Two.start (W : World) (y z : Val) : Two W y z (boxes W y z) := ⟨boxes_below W y z, boxes_key W y z, boxes_val W y z⟩
theorem Two.size {W : World} {y z : Val} {w : World} (h : Two W y z w) : W.heap.size + 2 ≤ w.heap.size := by
  have := (Array.getElem?_eq_some_iff.1 h.snd).1
  omega
theorem Two.step {W : World} {y z : Val} {w w' : World} (h : Two W y z w) (hb : Below w.heap.size w w') : Two W y z w' := by
  have := h.size
  exact ⟨h.below.trans (hb.mono (by omega)), (hb.block _ (by omega)).trans h.fst, (hb.block _ (by omega)).trans h.snd⟩
theorem Two.put0 {W : World} {y z : Val} {w : World} (h : Two W y z w) (x : Val) : Two W x z (put4 w W.heap.size x) :=
  ⟨put4_below h.below (Nat.le_refl _) x, put4_block h.fst x, ((put4_chg w W.heap.size x).block _ (by have := h.size; omega) (by rw [List.mem_singleton]; omega)).trans h.snd⟩
theorem Two.put1 {W : World} {y z : Val} {w : World} (h : Two W y z w) (x : Val) : Two W y x (put4 w (W.heap.size + 1) x) :=
  ⟨put4_below h.below (Nat.le_succ _) x, ((put4_chg w (W.heap.size + 1) x).block _ (by have := h.size; omega) (by rw [List.mem_singleton]; omega)).trans h.fst, put4_block h.snd x⟩
theorem Two.facts {W : World} {y z : Val} {w : World} (h : Two W y z w) :
    w.cell? ⟨W.heap.size, 0, none⟩ = some (.int .i64 y.k) ∧ w.cell? ⟨W.heap.size, 1, none⟩ = some (.int .u64 y.n) ∧ w.cell? ⟨W.heap.size, 2, none⟩ = some (.string y.s) ∧ w.cell? ⟨W.heap.size, 3, none⟩ = some (.int .i64 y.o) ∧
    w.cell? ⟨W.heap.size + 1, 0, none⟩ = some (.int .i64 z.k) ∧ w.cell? ⟨W.heap.size + 1, 1, none⟩ = some (.int .u64 z.n) ∧ w.cell? ⟨W.heap.size + 1, 2, none⟩ = some (.string z.s) ∧ w.cell? ⟨W.heap.size + 1, 3, none⟩ = some (.int .i64 z.o) ∧
    (∀ o, w.frozen? ⟨W.heap.size, o, none⟩ = false) ∧ (∀ o, w.frozen? ⟨W.heap.size + 1, o, none⟩ = false) := by
  obtain ⟨a1, a2, a3, a4⟩ := cells4 h.fst
  obtain ⟨b1, b2, b3, b4⟩ := cells4 h.snd
  exact ⟨a1, a2, a3, a4, b1, b2, b3, b4, fun o => frozen_of h.fst o, fun o => frozen_of h.snd o⟩
def keyY (v : Val) : Option Val :=
  if v.k = 0 ∨ (v.k = 3 ∧ kindN v.n.toNat = 4) then none else if v.k = 3 ∧ kindN v.n.toNat = 0 then some ⟨v.k, 0, v.s, v.o⟩ else some v
def keyV (x : Val) : Option Val := keyY (normV x)
def keyR (r : Option Val) : Value := .tuple #[(r.getD nilV).v, .bool r.isSome]
def KeyP (W : World) (x : Val) (e : Ending) (w' : World) : Prop := e = .returned (keyR (keyV x)) ∧ Below W.heap.size W w'
theorem canonW_lt {a : Nat} (h : a < Dig.W) : canonW a < Dig.W := by
  unfold canonW
  split
  · decide
  · exact h
theorem normV_ok {x : Val} (h : VOK x) : VOK (normV x) := by
  obtain ⟨a, ha, haW⟩ := h.num
  unfold normV
  have z : ∃ a : Nat, (0 : Int) = a ∧ a < Dig.W := ⟨0, rfl, by decide⟩
  have e : E3.size ≤ maxLen := by show (0 : Nat) ≤ maxLen; exact Nat.zero_le _
  split
  · exact ⟨z, e⟩
  · split
    · exact ⟨⟨canonW x.n.toNat, rfl, canonW_lt (by rw [ha]; exact haW)⟩, e⟩
    · split
      · exact ⟨z, h.text⟩
      · split
        · exact ⟨z, e⟩
        · exact ⟨z, e⟩
set_option maxHeartbeats 1000000 in
theorem Key_walk (x : Val) (hx : VOK x) (W : World) : Calls Try.prog 25 #[x.v] W (KeyP W x) := by
  have hn := fun W => normal_walk x hx W
  have hy := normV_ok hx
  unfold Val.v at *
  go_enter Try.func25, Try.ntmps25
  go_wp2_with fail
  refine (hn _).mono ?_
  rintro e w1 ⟨rfl, h1⟩
  have t1 : Two W x nilV w1 := (Two.start W x nilV).step h1
  obtain ⟨y, Hy⟩ : ∃ y, Hid (y = normV x) := ⟨_, Lib.hid rfl⟩
  rw [← Hy.out] at hy
  have T2 := Lib.hid (t1.put0 y)
  obtain ⟨p0, p1, p2, p3, q0, q1, q2, q3, pf, qf⟩ := t1.facts
  rw [← Hy.out, Val.out]
  clear h1 t1 hn
  obtain ⟨w2, Hw2⟩ : ∃ w2, Hid (w2 = put4 w1 W.heap.size y) := ⟨_, Lib.hid rfl⟩
  rw [← Hw2.out] at T2
  go_upto_region 2 with fail
  rw [put4_eq, ← Hw2.out]
  clear p0 p1 p2 p3 q0 q1 q2 q3 pf qf
  obtain ⟨p0, p1, p2, p3, q0, q1, q2, q3, pf, qf⟩ := T2.out.facts
  obtain ⟨a, ha, haW⟩ := hy.num
  by_cases k0 : y.k = 0
  · have HK : Hid (keyV x = none) := by
      show keyV x = none
      unfold keyV keyY
      rw [← Hy.out, if_pos (.inl k0)]
    have e0 : (y.k == 0) = true := by rw [k0]; rfl
    clear k0
    have T3 := T2.out.put1 nilV
    obtain ⟨r0, r1, r2, r3, s0, s1, s2, s3, _, _⟩ := T3.facts
    go_wp2_with fail
    rw [put4_nil]
    exact bodyPost_ret (v := keyR none) (by simp [results, Try.results25, go_sem, keyR, Val.out, s0, s1, s2, s3]) rfl ⟨by rw [HK.out], T3.below⟩
  · have e0 : (y.k == 0) = false := by rw [beq_eq_false_iff_ne]; exact k0
    have e0' : ¬ y.k = 0 := k0
    clear k0
    by_cases k3 : y.k = 3
    · have e3 : (y.k == 3) = true := by rw [k3]; rfl
      have kd : y.n.toNat = a := by rw [ha]; rfl
      have HA := Lib.hid ha
      have HD := Lib.hid kd
      have H3 := Lib.hid k3
      have H0 := Lib.hid e0'
      have na : w2.cell? ⟨W.heap.size, 1, none⟩ = some (.int .u64 (a : Int)) := by rw [p1, ha]
      clear k3 kd ha e0' p1
      go_wp2_with fail
      refine ((HpK.ans_Kind a haW).at _).mono ?_
      rintro e w3 ⟨rfl, h3⟩
      have T3 := Lib.hid (T2.out.step h3)
      obtain ⟨r0, r1, r2, r3, s0, s1, s2, s3, rf, sf⟩ := T3.out.facts
      have hks := kind_vals a
      by_cases k4 : kindN a = 4
      · have HK : Hid (keyV x = none) := by
          show keyV x = none
          unfold keyV keyY
          rw [← Hy.out, if_pos (.inr ⟨H3.out, by rw [HD.out]; exact k4⟩)]
        rw [k4]
        have T4 := T3.out.put1 nilV
        obtain ⟨u0, u1, u2, u3, v0, v1, v2, v3, _, _⟩ := T4.facts
        clear h3 na p0 p2 p3 q0 q1 q2 q3 pf qf r1 k4 hks
        go_wp2_with fail
        rw [put4_nil]
        exact bodyPost_ret (v := keyR none) (by simp [results, Try.results25, go_sem, keyR, Val.out, v0, v1, v2, v3]) rfl ⟨by rw [HK.out], T4.below⟩
      · have e4 : (((kindN a : Nat) : Int) == 4) = false := by rw [beq_eq_false_iff_ne]; omega
        have ra : w3.cell? ⟨W.heap.size, 1, none⟩ = some (.int .u64 (a : Int)) := by rw [r1, HA.out]
        have H4 := Lib.hid k4
        clear h3 na p0 p2 p3 q0 q1 q2 q3 pf qf r1 k4
        go_wp2_with fail
        refine ((HpK.ans_Kind a haW).at _).mono ?_
        rintro e w4 ⟨rfl, h4⟩
        have T4 := Lib.hid (T3.out.step h4)
        obtain ⟨u0, u1, u2, u3, v0, v1, v2, v3, uf, vf⟩ := T4.out.facts
        by_cases kz : kindN a = 0
        · have HK : Hid (keyV x = some ⟨y.k, 0, y.s, y.o⟩) := by
            show keyV x = _
            unfold keyV keyY
            rw [← Hy.out, if_neg (fun c => c.elim H0.out (fun c => H4.out (by rw [← HD.out]; exact c.2))), if_pos ⟨H3.out, by rw [HD.out]; exact kz⟩]
          rw [kz]
          have hst : w4.setCell ⟨W.heap.size, 1, none⟩ (.int .u64 0) = w4.setCell ⟨W.heap.size, 1, none⟩ (.int .u64 0) := rfl
          have T5 : Two W ⟨y.k, 0, y.s, y.o⟩ nilV (w4.setCell ⟨W.heap.size, 1, none⟩ (.int .u64 0)) := by
            refine ⟨T4.out.below.setCell (Nat.le_refl _) _, (setCell_at T4.out.fst 1 _).trans rfl, ?_⟩
            rw [setCell_off (by omega)]
            exact T4.out.snd
          have T6 := T5.put1 ⟨y.k, 0, y.s, y.o⟩
          obtain ⟨x0, x1, x2, x3, y0, y1, y2, y3, _, _⟩ := T6.facts
          clear h4 r0 r2 r3 s0 s1 s2 s3 rf sf ra kz e4 hks hst T5
          go_wp2_with fail
          rw [put4_mk]
          exact bodyPost_ret (v := keyR (some ⟨y.k, 0, y.s, y.o⟩)) (by simp [results, Try.results25, go_sem, keyR, Val.out, y0, y1, y2, y3]) rfl ⟨by rw [HK.out], T6.below⟩
        · have ez : (((kindN a : Nat) : Int) == 0) = false := by rw [beq_eq_false_iff_ne]; omega
          have HK : Hid (keyV x = some y) := by
            show keyV x = some y
            unfold keyV keyY
            rw [← Hy.out, if_neg (fun c => c.elim H0.out (fun c => H4.out (by rw [← HD.out]; exact c.2))), if_neg (fun c => kz (by rw [← HD.out]; exact c.2))]
          have T6 := T4.out.put1 y
          obtain ⟨x0, x1, x2, x3, y0, y1, y2, y3, _, _⟩ := T6.facts
          clear h4 r0 r2 r3 s0 s1 s2 s3 rf sf ra kz e4 hks
          go_wp2_with fail
          rw [put4_eq]
          exact bodyPost_ret (v := keyR (some y)) (by simp [results, Try.results25, go_sem, keyR, Val.out, y0, y1, y2, y3]) rfl ⟨by rw [HK.out], T6.below⟩
    · have e3 : (y.k == 3) = false := by rw [beq_eq_false_iff_ne]; exact k3
      have HK : Hid (keyV x = some y) := by
        show keyV x = some y
        unfold keyV keyY
        rw [← Hy.out, if_neg (fun c => c.elim e0' (fun c => k3 c.1)), if_neg (fun c => k3 c.1)]
      clear k3 e0' ha
      have T3 := T2.out.put1 y
      obtain ⟨r0, r1, r2, r3, s0, s1, s2, s3, _, _⟩ := T3.facts
      go_wp2_with fail
      rw [put4_eq]
      exact bodyPost_ret (v := keyR (some y)) (by simp [results, Try.results25, go_sem, keyR, Val.out, s0, s1, s2, s3]) rfl ⟨by rw [HK.out], T3.below⟩
end Go.Proofs.Ytlihonbmopeemaa.Hp
end
section
namespace Go.Proofs.Ytlihonbmopeemaa.Hp
open Go Go.RowKit Go.Proofs.Ytlihonbmopeemaa.HpLaw Go.Proofs.Ytlihonbmopeemaa.Ans Go.Proofs.Ytlihonbmopeemaa.Num Go.Proofs.Ytlihonbmopeemaa.DigLaw Go.Proofs.Ytlihonbmopeemaa.Fl Go.Proofs.Ytlihonbmopeemaa.Dig Go.Proofs.Ytlihonbmopeemaa.Float

/-- an object -/
structure AObj where
  kind : Int
  tab : Option Tbl
  mt : Val
  a : Int
  b : Int
  slots : List Val
/-- where an object's parts lie -/
structure OLoc where
  p : Nat
  lv : Value
  hv : Value
  av : Value
  sv : Value
abbrev Obj2 := AObj × OLoc
def tptr (x : Obj2) : Value := .pointer (if x.1.tab.isSome then some ⟨x.2.p, 0, none⟩ else none)
def oCells (x : Obj2) : List Value := [.int .i64 x.1.kind, tptr x, .int .i64 x.1.mt.k, .int .u64 x.1.mt.n, .string x.1.mt.s, .int .i64 x.1.mt.o, .int .i64 x.1.a, .int .i64 x.1.b, x.2.sv]
def objCells (os : List Obj2) : List Value := os.flatMap oCells
def valCells (l : List Val) : List Value := l.flatMap Val.cs
def tft (x : Obj2) : List Nat := if x.1.tab.isSome then foot x.2.p x.2.lv x.2.hv x.2.av else []
def ft (x : Obj2) : List Nat := tft x ++ own x.2.sv
structure ObjAt (w : World) (x : Obj2) : Prop where
  tab : ∀ T, x.1.tab = some T → TblAt w x.2.p T x.2.lv x.2.hv x.2.av ∧ TblOK T
  slots : w.ownsRow 0 34 4 x.2.sv x.1.slots.length (valCells x.1.slots)
  apart : ∀ b ∈ tft x, b ∉ own x.2.sv
  kind : x.1.tab.isSome = true ↔ x.1.kind = 5
  plain : x.1.kind = 5 → x.1.slots = []
def hfoot (hp : Nat) (v : Value) (os : List Obj2) : List Nat := hp :: (own v ++ os.flatMap ft)
structure HeapAt (w : World) (hp : Nat) (os : List Obj2) (v : Value) (used limit : Int) : Prop where
  head : w.heap[hp]? = some (.cells #[v, .int .i64 used, .int .i64 limit] 66 (0, 0))
  row : w.ownsRow 0 74 9 v os.length (objCells os)
  objs : ∀ (i : Nat) (x : Obj2), os[i]? = some x → ObjAt w x
  hpv : hp ∉ own v
  sepH : ∀ (i : Nat) (x : Obj2), os[i]? = some x → ∀ b ∈ ft x, b ≠ hp ∧ b ∉ own v
  sep : ∀ (i j : Nat) (x y : Obj2), os[i]? = some x → os[j]? = some y → i ≠ j → ∀ b ∈ ft x, b ∉ ft y
theorem oCells_len (x : Obj2) : (oCells x).length = 9 := rfl
theorem objCells_at (l : List Obj2) (i j : Nat) (hj : j < 9) (hi : i < l.length) : (objCells l)[i * 9 + j]? = (oCells l[i])[j]? := by
  induction l generalizing i with
  | nil => exact absurd hi (Nat.not_lt_zero _)
  | cons a l ih =>
    have e : objCells (a :: l) = oCells a ++ objCells l := List.flatMap_cons ..
    rw [e]
    cases i with
    | zero => rw [Nat.zero_mul, Nat.zero_add, List.getElem?_append_left (by rw [oCells_len]; exact hj)]; rfl
    | succ i =>
      rw [List.getElem?_append_right (by rw [oCells_len]; omega), oCells_len, show (i + 1) * 9 + j - 9 = i * 9 + j by omega, ih i (by simpa using hi)]
      rfl
theorem objCells_set (l : List Obj2) (i : Nat) (x y : Obj2) (hx : l[i]? = some x) (h : oCells y = oCells x) : objCells (l.set i y) = objCells l := by
  induction l generalizing i with
  | nil => rfl
  | cons a l ih =>
    cases i with
    | zero =>
      obtain rfl : a = x := Option.some.inj hx
      show oCells y ++ objCells l = oCells a ++ objCells l
      rw [h]
    | succ i =>
      show oCells a ++ objCells (l.set i y) = oCells a ++ objCells l
      rw [ih i hx]
theorem HeapAt.obj_lt {w : World} {hp : Nat} {os : List Obj2} {v : Value} {used limit : Int} (h : HeapAt w hp os v used limit) {i : Nat} {x : Obj2} (hx : os[i]? = some x) : ∀ b ∈ ft x, b < w.heap.size := by
  intro b hb
  have ho := h.objs i x hx
  rcases List.mem_append.1 hb with c | c
  · unfold tft at c
    cases ht : x.1.tab with
    | none => rw [ht] at c; cases c
    | some T =>
      rw [ht] at c
      exact (ho.tab T ht).1.lt b c
  · exact (ho.slots.lt b (Option.mem_toList.1 c)).2
theorem HeapAt.lt {w : World} {hp : Nat} {os : List Obj2} {v : Value} {used limit : Int} (h : HeapAt w hp os v used limit) : ∀ b ∈ hfoot hp v os, b < w.heap.size := by
  intro b hb
  rcases List.mem_cons.1 hb with c | c
  · rw [c]; exact (Array.getElem?_eq_some_iff.1 h.head).1
  · rcases List.mem_append.1 c with c | c
    · exact (h.row.lt b (Option.mem_toList.1 c)).2
    · obtain ⟨x, hx, hb⟩ := List.mem_flatMap.1 c
      obtain ⟨i, hi⟩ := List.getElem?_of_mem hx
      exact h.obj_lt hi b hb
theorem hfoot_hp (hp : Nat) (v : Value) (os : List Obj2) : hp ∈ hfoot hp v os := List.mem_cons_self ..
theorem hfoot_v {hp : Nat} {v : Value} {os : List Obj2} {b : Nat} (h : b ∈ own v) : b ∈ hfoot hp v os := List.mem_cons_of_mem _ (List.mem_append_left _ h)
theorem hfoot_o {hp : Nat} {v : Value} {os : List Obj2} {b i : Nat} {x : Obj2} (hx : os[i]? = some x) (h : b ∈ ft x) : b ∈ hfoot hp v os := List.mem_cons_of_mem _ (List.mem_append_right _ (List.mem_flatMap.2 ⟨x, List.mem_of_getElem? hx, h⟩))
theorem ObjAt.kept {w w' : World} {x : Obj2} {B : List Nat} (h : ObjAt w x) (hc : Chg B w w') (hn : ∀ b ∈ ft x, b ∉ B) : ObjAt w' x := by
  refine ⟨fun T hT => ⟨(h.tab T hT).1.kept hc (fun b hb => hn b (List.mem_append_left _ ?_)), (h.tab T hT).2⟩, row_kept h.slots hc (fun b hb => hn b (List.mem_append_right _ hb)), h.apart, h.kind, h.plain⟩
  unfold tft
  rw [hT]
  exact hb
theorem HeapAt.kept {w w' : World} {hp : Nat} {os : List Obj2} {v : Value} {used limit : Int} {B : List Nat} (h : HeapAt w hp os v used limit) (hc : Chg B w w') (hn : ∀ b ∈ hfoot hp v os, b ∉ B) : HeapAt w' hp os v used limit :=
  ⟨(hc.block hp (Array.getElem?_eq_some_iff.1 h.head).1 (hn hp (hfoot_hp ..))).trans h.head, row_kept h.row hc (fun b hb => hn b (hfoot_v hb)), fun i x hx => (h.objs i x hx).kept hc (fun b hb => hn b (hfoot_o hx hb)), h.hpv, h.sepH, h.sep⟩
/-- the count turns -/
theorem HeapAt.setUsed {w : World} {hp : Nat} {os : List Obj2} {v : Value} {used limit : Int} (h : HeapAt w hp os v used limit) (m : Int) :
    HeapAt (w.setCell ⟨hp, 1, none⟩ (.int .i64 m)) hp os v m limit ∧ Chg [hp] w (w.setCell ⟨hp, 1, none⟩ (.int .i64 m)) := by
  have hs := chg_set w hp 1 (.int .i64 m)
  refine ⟨⟨(setCell_at h.head 1 _).trans rfl, row_kept h.row hs (fun b hb c => h.hpv (by rw [List.mem_singleton.1 c] at hb; exact hb)), fun i x hx => (h.objs i x hx).kept hs (fun b hb c => (h.sepH i x hx b hb).1 (List.mem_singleton.1 c)), h.hpv, h.sepH, h.sep⟩, hs⟩
/-- one object's parts turn, and its cells don't -/
theorem HeapAt.turn {w w' : World} {hp : Nat} {os : List Obj2} {v : Value} {used limit : Int} (h : HeapAt w hp os v used limit) {i : Nat} {x y : Obj2} (hx : os[i]? = some x) (hcells : oCells y = oCells x)
    {B : List Nat} (hc : Chg B w w') (hB : ∀ b ∈ B, b ∈ ft x) (hy : ObjAt w' y) (hn : ∀ b ∈ ft y, b ∈ ft x ∨ w.heap.size ≤ b) :
    HeapAt w' hp (os.set i y) v used limit ∧ (∀ b ∈ hfoot hp v (os.set i y), b ∈ hfoot hp v os ∨ w.heap.size ≤ b) := by
  have hil : i < os.length := (List.getElem?_eq_some_iff.1 hx).1
  have hlt := h.lt
  have hsepB : ∀ b ∈ B, b ≠ hp ∧ b ∉ own v := fun b hb => h.sepH i x hx b (hB b hb)
  have hget : ∀ j z, (os.set i y)[j]? = some z → (j = i ∧ z = y) ∨ (j ≠ i ∧ os[j]? = some z) := by
    intro j z hz
    rw [List.getElem?_set] at hz
    by_cases c : i = j
    · rw [if_pos c, if_pos (c ▸ hil)] at hz
      exact .inl ⟨c.symm, (Option.some.inj hz).symm⟩
    · rw [if_neg c] at hz; exact .inr ⟨fun e => c e.symm, hz⟩
  refine ⟨⟨?_, ?_, ?_, h.hpv, ?_, ?_⟩, ?_⟩
  · rw [hc.block hp (hlt hp (hfoot_hp ..)) (fun e => (hsepB hp e).1 rfl)]; exact h.head
  · rw [List.length_set, objCells_set os i x y hx hcells]
    exact row_kept h.row hc (fun b hb e => (hsepB b e).2 hb)
  · intro j z hz
    rcases hget j z hz with ⟨_, rfl⟩ | ⟨hj, hz'⟩
    · exact hy
    · exact (h.objs j z hz').kept hc (fun b hb e => h.sep j i z x hz' hx hj b hb (hB b e))
  · intro j z hz b hb
    rcases hget j z hz with ⟨_, rfl⟩ | ⟨hj, hz'⟩
    · rcases hn b hb with c | c
      · exact h.sepH i x hx b c
      · exact ⟨fun e => by have := hlt hp (hfoot_hp ..); omega, fun e => by have := hlt b (hfoot_v e); omega⟩
    · exact h.sepH j z hz' b hb
  · intro j k z u hz hu hjk b hb hbu
    rcases hget j z hz with ⟨rfl, rfl⟩ | ⟨hj, hz'⟩
    · rcases hget k u hu with ⟨rfl, rfl⟩ | ⟨hk, hu'⟩
      · exact hjk rfl
      · rcases hn b hb with c | c
        · exact h.sep j k x u hx hu' hjk b c hbu
        · have := h.obj_lt hu' b hbu; omega
    · rcases hget k u hu with ⟨rfl, rfl⟩ | ⟨hk, hu'⟩
      · rcases hn b hbu with c | c
        · exact h.sep j k z x hz' hx hjk b hb c
        · have := h.obj_lt hz' b hb; omega
      · exact h.sep j k z u hz' hu' hjk b hb hbu
  · intro b hb
    rcases List.mem_cons.1 hb with c | c
    · rw [c]; exact .inl (hfoot_hp ..)
    · rcases List.mem_append.1 c with c | c
      · exact .inl (hfoot_v c)
      · obtain ⟨z, hz, hbz⟩ := List.mem_flatMap.1 c
        obtain ⟨j, hj⟩ := List.getElem?_of_mem hz
        rcases hget j z hj with ⟨_, rfl⟩ | ⟨_, hz'⟩
        · rcases hn b hbz with d | d
          · exact .inl (hfoot_o hx d)
          · exact .inr d
        · exact .inl (hfoot_o hz' hbz)
/-- an object's table turns -/
theorem HeapAt.turnTab {w w' : World} {hp : Nat} {os : List Obj2} {v : Value} {used limit : Int} (h : HeapAt w hp os v used limit) {i : Nat} {o : AObj} {l : OLoc} (hx : os[i]? = some (o, l)) {T T' : Tbl} (hT : o.tab = some T) {lv hv av : Value}
    {B : List Nat} (hc : Chg B w w') (hB : ∀ b ∈ B, b ∈ foot l.p l.lv l.hv l.av) (hat : TblAt w' l.p T' lv hv av) (ok : TblOK T') (hn : ∀ b ∈ foot l.p lv hv av, b ∈ foot l.p l.lv l.hv l.av ∨ w.heap.size ≤ b) :
    HeapAt w' hp (os.set i ({ o with tab := some T' }, { l with lv := lv, hv := hv, av := av })) v used limit ∧ (∀ b ∈ hfoot hp v (os.set i ({ o with tab := some T' }, { l with lv := lv, hv := hv, av := av })), b ∈ hfoot hp v os ∨ w.heap.size ≤ b) := by
  have ho := h.objs i _ hx
  have htft : tft (o, l) = foot l.p l.lv l.hv l.av := by unfold tft; rw [show (o, l).1.tab = some T from hT]; rfl
  have hB' : ∀ b ∈ B, b ∈ ft (o, l) := fun b hb => List.mem_append_left _ (by rw [htft]; exact hB b hb)
  have hsv : ∀ b ∈ own l.sv, b ∉ B := fun b hb e => ho.apart b (by rw [htft]; exact hB b e) hb
  refine h.turn hx ?_ hc hB' ⟨?_, ?_, ?_, ?_, ho.plain⟩ ?_
  · show oCells _ = oCells (o, l)
    unfold oCells tptr
    rw [show (o, l).1.tab = some T from hT]
    rfl
  · intro T2 h2
    obtain rfl := Option.some.inj h2
    exact ⟨hat, ok⟩
  · exact row_kept ho.slots hc hsv
  · intro b hb
    rcases hn b hb with c | c
    · exact ho.apart b (by rw [htft]; exact c)
    · intro e
      have := (ho.slots.lt b (Option.mem_toList.1 e)).2
      omega
  · exact ⟨fun _ => ho.kind.1 (by rw [show (o, l).1.tab = some T from hT]; rfl), fun _ => rfl⟩
  · intro b hb
    rcases List.mem_append.1 hb with c | c
    · rcases hn b c with d | d
      · exact .inl (List.mem_append_left _ (by rw [htft]; exact d))
      · exact .inr d
    · exact .inl (List.mem_append_right _ c)
end Go.Proofs.Ytlihonbmopeemaa.Hp
end
section
namespace Go.Proofs.Ytlihonbmopeemaa.Hp
open Go Go.RowKit Go.Proofs.Ytlihonbmopeemaa.HpLaw Go.Proofs.Ytlihonbmopeemaa.Ans Go.Proofs.Ytlihonbmopeemaa.Num Go.Proofs.Ytlihonbmopeemaa.DigLaw Go.Proofs.Ytlihonbmopeemaa.Fl Go.Proofs.Ytlihonbmopeemaa.Dig Go.Proofs.Ytlihonbmopeemaa.Float

def vb (v : Value) : Nat := v.ownBlock.getD 0
theorem row_form {w : World} {e : TypeId} {size : Nat} {v : Value} {n : Nat} {xs : List Value} (h : w.ownsRow 0 e size v n xs) : ∃ ad cap, v = .slice ad n cap ∧ n ≤ cap ∧ cap ≤ 9223372036854775807 ∧ (0 < n → ad = some ⟨vb v, 0, none⟩) := by
  rcases h.2 with ⟨rfl, rfl⟩ | ⟨g, cap, cur, rfl, _, _, h1, h2, _, _⟩
  · exact ⟨none, 0, rfl, Nat.le_refl _, by omega, fun h => absurd h (Nat.lt_irrefl _)⟩
  · unfold maxLen at h2
    exact ⟨_, cap, rfl, h1, by omega, fun _ => rfl⟩
theorem HeapAt.hp_cells {w : World} {hp : Nat} {os : List Obj2} {v : Value} {used limit : Int} (h : HeapAt w hp os v used limit) :
    w.cell? ⟨hp, 0, none⟩ = some v ∧ w.cell? ⟨hp, 1, none⟩ = some (.int .i64 used) ∧ w.cell? ⟨hp, 2, none⟩ = some (.int .i64 limit) ∧ ∀ o, w.frozen? ⟨hp, o, none⟩ = false := by
  refine ⟨?_, ?_, ?_, fun o => frozen_of h.head o⟩ <;> (rw [cell_of h.head]; rfl)
/-- an object's cells -/
theorem HeapAt.cells {w : World} {hp : Nat} {os : List Obj2} {v : Value} {used limit : Int} (h : HeapAt w hp os v used limit) {i : Nat} {x : Obj2} (hx : os[i]? = some x) (j : Nat) (hj : j < 9) : w.cell? ⟨vb v, i * 9 + j, none⟩ = (oCells x)[j]? := by
  obtain ⟨hil, he⟩ := List.getElem?_eq_some_iff.1 hx
  obtain ⟨ad, cap, hv, h1, h2, h3⟩ := row_form h.row
  rw [h3 (by omega)] at hv
  have hr := h.row
  rw [hv] at hr
  have hc := objCells_at os i j hj hil
  rw [he] at hc
  have hjx : j < (oCells x).length := hj
  rw [List.getElem?_eq_getElem hjx] at hc ⊢
  exact row_cell hr hc
theorem at_yes {hp : Nat} {os : List Obj2} {v : Value} {used limit : Int} {i : Nat} {x : Obj2} (hx : os[i]? = some x) (W : World) (h : HeapAt W hp os v used limit) :
    Calls Try.prog 34 #[.pointer (some ⟨hp, 0, none⟩), .int .i64 ((i : Int) + 1)] W fun e w' => e = .returned (.pointer (some ⟨vb v, i * 9, none⟩)) ∧ W = w' := by
  have hil := (List.getElem?_eq_some_iff.1 hx).1
  obtain ⟨ad, cap, hv, h1, h2, h3⟩ := row_form h.row
  rw [h3 (by omega)] at hv
  obtain ⟨c0, c1, c2, cf⟩ := h.hp_cells
  have hvb : v = v := rfl
  rw [hv] at c0
  obtain ⟨g, Hg⟩ : ∃ g, Hid (g = vb v) := ⟨_, Lib.hid rfl⟩
  rw [← Hg.out] at c0 ⊢
  clear h c1 c2 cf hv hvb h3 hx
  go_enter Try.func34, Try.ntmps34
  go_wp2_with fail
  go_ret
  exact ⟨rfl, rfl⟩
theorem at_no {hp : Nat} {os : List Obj2} {v : Value} {used limit : Int} {o : Int} (ho : o < 1 ∨ (os.length : Int) < o) (W : World) (h : HeapAt W hp os v used limit) :
    Calls Try.prog 34 #[.pointer (some ⟨hp, 0, none⟩), .int .i64 o] W fun e w' => e = .returned (.pointer none) ∧ W = w' := by
  obtain ⟨ad, cap, hv, h1, h2, h3⟩ := row_form h.row
  obtain ⟨c0, c1, c2, cf⟩ := h.hp_cells
  rw [hv] at c0
  clear h c1 c2 cf hv h3
  by_cases h0 : o < 1
  · clear ho
    go_enter Try.func34, Try.ntmps34
    go_wp2_with fail
    go_ret
    exact ⟨rfl, rfl⟩
  · have h4 : (os.length : Int) < o := by omega
    clear ho
    go_enter Try.func34, Try.ntmps34
    go_wp2_with fail
    go_ret
    exact ⟨rfl, rfl⟩
theorem table_yes {hp : Nat} {os : List Obj2} {v : Value} {used limit : Int} {i : Nat} {x : Obj2} (hx : os[i]? = some x) (W : World) (h : HeapAt W hp os v used limit) :
    Calls Try.prog 24 #[.pointer (some ⟨hp, 0, none⟩), .int .i64 ((i : Int) + 1)] W fun e w' => e = .returned (tptr x) ∧ W = w' := by
  have a1 := at_yes hx W h
  have q1 : W.cell? ⟨vb v, i * 9 + 1, none⟩ = some (tptr x) := h.cells hx 1 (by decide)
  obtain ⟨t, Ht⟩ : ∃ t, Hid (t = tptr x) := ⟨_, Lib.hid rfl⟩
  rw [← Ht.out] at q1 ⊢
  clear h hx
  go_enter Try.func24, Try.ntmps24
  go_wp2_with fail
  refine a1.mono ?_
  rintro e w1 ⟨rfl, rfl⟩
  go_wp2_with fail
  go_ret
  exact ⟨rfl, rfl⟩
theorem table_no {hp : Nat} {os : List Obj2} {v : Value} {used limit : Int} {o : Int} (ho : o < 1 ∨ (os.length : Int) < o) (W : World) (h : HeapAt W hp os v used limit) :
    Calls Try.prog 24 #[.pointer (some ⟨hp, 0, none⟩), .int .i64 o] W fun e w' => e = .returned (.pointer none) ∧ W = w' := by
  have a1 := at_no ho W h
  clear h ho
  go_enter Try.func24, Try.ntmps24
  go_wp2_with fail
  refine a1.mono ?_
  rintro e w1 ⟨rfl, rfl⟩
  go_wp2_with fail
  go_ret
  exact ⟨rfl, rfl⟩
theorem used_walk {hp : Nat} {os : List Obj2} {v : Value} {used limit : Int} (W : World) (h : HeapAt W hp os v used limit) :
    Calls Try.prog 18 #[.pointer (some ⟨hp, 0, none⟩)] W fun e w' => e = .returned (.int .i64 used) ∧ W = w' := by
  obtain ⟨c0, c1, c2, cf⟩ := h.hp_cells
  clear h
  go_enter Try.func18, Try.ntmps18
  go_wp2_with fail
  go_ret
  exact ⟨rfl, rfl⟩
theorem len_walk {hp : Nat} {os : List Obj2} {v : Value} {used limit : Int} (W : World) (h : HeapAt W hp os v used limit) :
    Calls Try.prog 70 #[.pointer (some ⟨hp, 0, none⟩)] W fun e w' => e = .returned (.int .i64 os.length) ∧ W = w' := by
  obtain ⟨c0, c1, c2, cf⟩ := h.hp_cells
  obtain ⟨ad, cap, hv, h1, h2, h3⟩ := row_form h.row
  rw [hv] at c0
  clear h hv h3
  go_enter Try.func70, Try.ntmps70
  go_wp2_with fail
  go_ret
  exact ⟨rfl, rfl⟩
theorem room_walk {hp : Nat} {os : List Obj2} {v : Value} {used limit n : Int} (hu : 0 ≤ used) (hul : used ≤ limit) (hl : limit ≤ 1048576) (W : World) (h : HeapAt W hp os v used limit) :
    Calls Try.prog 29 #[.pointer (some ⟨hp, 0, none⟩), .int .i64 n] W fun e w' => e = .returned (.bool (decide (n ≤ limit - used))) ∧ ∃ m, w' = W.drewN m := by
  obtain ⟨c0, c1, c2, cf⟩ := h.hp_cells
  clear h
  go_enter Try.func29, Try.ntmps29
  go_wp2_with fail
  go_quiet (fail)
  go_wp2_with fail
  go_ret
  exact ⟨rfl, _, rfl⟩
theorem new_yes (limit : Int) (h0 : 0 ≤ limit) (h1 : limit ≤ 1048576) (W : World) :
    Calls Try.prog 7 #[.int .i64 limit] W fun e w' => e = .returned (.tuple #[.pointer (some ⟨W.heap.size, 0, none⟩), .int .i64 0]) ∧ HeapAt w' W.heap.size [] (.slice none 0 0) 0 limit ∧ Below W.heap.size W w' := by
  have hh : HeapAt (W.alloc (Obj.cells #[.slice none 0 0, .int .i64 0, .int .i64 limit] 66)) W.heap.size [] (.slice none 0 0) 0 limit :=
    ⟨heap_alloc_new _ _, World.ownsRow_nil _ _ _ _, (fun i x hx => by cases hx), List.not_mem_nil, (fun i x hx => by cases hx), (fun i j x y hx => by cases hx)⟩
  have HH := Lib.hid hh
  clear hh
  go_enter Try.func7, Try.ntmps7
  go_wp2_with fail
  go_ret2
  exact ⟨rfl, HH.out, (Below.refl _ _).alloc (Nat.le_refl _) _⟩
end Go.Proofs.Ytlihonbmopeemaa.Hp
end
section
namespace Go.Proofs.Ytlihonbmopeemaa.Hp
open Go Go.RowKit Go.Proofs.Ytlihonbmopeemaa.HpLaw Go.Proofs.Ytlihonbmopeemaa.Ans Go.Proofs.Ytlihonbmopeemaa.Num Go.Proofs.Ytlihonbmopeemaa.DigLaw Go.Proofs.Ytlihonbmopeemaa.Fl Go.Proofs.Ytlihonbmopeemaa.Dig Go.Proofs.Ytlihonbmopeemaa.Float

theorem objCells_snoc (l : List Obj2) (x : Obj2) : objCells (l ++ [x]) = objCells l ++ oCells x := by unfold objCells; rw [List.flatMap_append]; simp
/-- the list of objects is another one, with one more -/
theorem HeapAt.push {w w3 w4 : World} {hp : Nat} {os : List Obj2} {v v' : Value} {used limit : Int} {x : Obj2} (h : HeapAt w hp os v used limit) (hb : Below w.heap.size w w3) (hc : Chg (own v) w3 w4)
    (hr : w4.ownsRow 0 74 9 v' (os.length + 1) (objCells os ++ oCells x)) (hn : ∀ b ∈ own v', b ∈ own v ∨ w3.heap.size ≤ b) (hx : ObjAt w x) (hxl : ∀ b ∈ ft x, b < w.heap.size) (hxs : ∀ b ∈ ft x, b ∉ hfoot hp v os) :
    HeapAt (w4.setCell ⟨hp, 0, none⟩ v') hp (os ++ [x]) v' used limit ∧ Chg (hp :: own v) w (w4.setCell ⟨hp, 0, none⟩ v') ∧ (∀ b ∈ hfoot hp v' (os ++ [x]), b ∈ hfoot hp v os ∨ b ∈ ft x ∨ w.heap.size ≤ b) := by
  have hlt := h.lt
  have hsz := hb.size
  have h3 := h.kept (B := []) (Chg.of_below hb) (fun _ _ => List.not_mem_nil)
  have x3 := hx.kept (B := []) (Chg.of_below hb) (fun _ _ => List.not_mem_nil)
  have hs := chg_set w4 hp 0 v'
  have hpl : hp < w3.heap.size := (Array.getElem?_eq_some_iff.1 h3.head).1
  have hp4 : w4.heap[hp]? = _ := (hc.block hp hpl h.hpv).trans h3.head
  have hv' : ∀ b ∈ own v', b ≠ hp ∧ (b ∈ own v ∨ w.heap.size ≤ b) := fun b hb' => by
    rcases hn b hb' with c | c
    · exact ⟨fun e => h.hpv (e ▸ c), .inl c⟩
    · exact ⟨by omega, .inr (by omega)⟩
  have hget : ∀ (j : Nat) (z : Obj2), (os ++ [x])[j]? = some z → os[j]? = some z ∨ (j = os.length ∧ z = x) := by
    intro j z hz
    rcases Nat.lt_or_ge j os.length with c | c
    · rw [List.getElem?_append_left c] at hz; exact .inl hz
    · rw [List.getElem?_append_right c] at hz
      cases hq : j - os.length with
      | zero => rw [hq] at hz; exact .inr ⟨by omega, (Option.some.inj hz).symm⟩
      | succ q => rw [hq] at hz; cases hz
  have hft : ∀ (j : Nat) (z : Obj2), (os ++ [x])[j]? = some z → ∀ b ∈ ft z, b < w.heap.size ∧ b ≠ hp ∧ b ∉ own v := by
    intro j z hz b hb'
    rcases hget j z hz with c | ⟨_, rfl⟩
    · exact ⟨hlt b (hfoot_o c hb'), h.sepH j z c b hb'⟩
    · exact ⟨hxl b hb', fun e => hxs b hb' (e ▸ hfoot_hp ..), fun e => hxs b hb' (hfoot_v e)⟩
  refine ⟨⟨(setCell_at hp4 0 v').trans rfl, ?_, ?_, fun e => (hv' hp e).1 rfl, ?_, ?_⟩, ?_, ?_⟩
  · rw [objCells_snoc, List.length_append]
    exact row_kept hr hs (fun b hb' e => (hv' b hb').1 (List.mem_singleton.1 e))
  · intro j z hz
    have hz3 : ObjAt w3 z := by
      rcases hget j z hz with c | ⟨_, rfl⟩
      · exact h3.objs j z c
      · exact x3
    exact (hz3.kept hc (fun b hb' => (hft j z hz b hb').2.2)).kept hs (fun b hb' e => (hft j z hz b hb').2.1 (List.mem_singleton.1 e))
  · intro j z hz b hb'
    obtain ⟨f1, f2, f3⟩ := hft j z hz b hb'
    refine ⟨f2, fun e => ?_⟩
    rcases (hv' b e).2 with c | c
    · exact f3 c
    · omega
  · intro j k z u hz hu hjk b hbz hbu
    rcases hget j z hz with c | ⟨rfl, rfl⟩
    · rcases hget k u hu with d | ⟨rfl, rfl⟩
      · exact h.sep j k z u c d hjk b hbz hbu
      · exact hxs b hbu (hfoot_o c hbz)
    · rcases hget k u hu with d | ⟨rfl, rfl⟩
      · exact hxs b hbz (hfoot_o d hbu)
      · exact hjk rfl
  · refine ((Chg.of_below (B := hp :: own v) hb).trans hc (fun b hb' _ => List.mem_cons_of_mem _ hb')).trans hs (fun b hb' _ => ?_)
    rw [List.mem_singleton.1 hb']; exact List.mem_cons_self ..
  · intro b hb'
    rcases List.mem_cons.1 hb' with c | c
    · rw [c]; exact .inl (hfoot_hp ..)
    · rcases List.mem_append.1 c with c | c
      · rcases (hv' b c).2 with d | d
        · exact .inl (hfoot_v d)
        · exact .inr (.inr d)
      · obtain ⟨z, hz, hbz⟩ := List.mem_flatMap.1 c
        obtain ⟨j, hj⟩ := List.getElem?_of_mem hz
        rcases hget j z hj with d | ⟨_, rfl⟩
        · exact .inl (hfoot_o d hbz)
        · exact .inr (.inl hbz)
def oV (x : Obj2) : Value := .agg #[.int .i64 x.1.kind, tptr x, .int .i64 x.1.mt.k, .int .u64 x.1.mt.n, .string x.1.mt.s, .int .i64 x.1.mt.o, .int .i64 x.1.a, .int .i64 x.1.b, x.2.sv]
def PutQ (W : World) (hp : Nat) (os : List Obj2) (v : Value) (used limit : Int) (x : Obj2) (cells : Int) (w' : World) : Prop :=
  ∃ v', HeapAt w' hp (os ++ [x]) v' (used + cells) limit ∧ Chg (hp :: own v) W w' ∧ (∀ b ∈ hfoot hp v' (os ++ [x]), b ∈ hfoot hp v os ∨ b ∈ ft x ∨ W.heap.size ≤ b)
def PutP (W : World) (hp : Nat) (os : List Obj2) (v : Value) (used limit : Int) (x : Obj2) (cells : Int) (e : Ending) (w' : World) : Prop :=
  e = .returned (.tuple #[.int .i64 ((os.length : Int) + 1), .int .i64 0]) ∧ PutQ W hp os v used limit x cells w'
theorem put_no {hp : Nat} {os : List Obj2} {v : Value} {used limit : Int} {x : Obj2} {cells : Int} (hu : 0 ≤ used) (hul : used ≤ limit) (hl : limit ≤ 1048576) (hc : limit - used < cells) (W : World) (h : HeapAt W hp os v used limit) :
    Calls Try.prog 23 #[.pointer (some ⟨hp, 0, none⟩), oV x, .int .i64 cells] W fun e w' => e = .returned (.tuple #[.int .i64 0, .int .i64 2]) ∧ Below W.heap.size W w' := by
  have hd : decide (cells ≤ limit - used) = false := by simpa using hc
  have hr := fun (w : World) (hw : HeapAt w hp os v used limit) => room_walk (n := cells) hu hul hl w hw
  rw [hd] at hr
  have hba : ∀ O, Below W.heap.size W (W.alloc O) := fun O => (Below.refl _ _).alloc (Nat.le_refl _) O
  unfold oV
  obtain ⟨t, Ht⟩ : ∃ t, Hid (t = tptr x) := ⟨_, Lib.hid rfl⟩
  rw [← Ht.out]
  clear hc hd
  go_enter Try.func23, Try.ntmps23
  go_wp2_with fail
  refine (hr _ (h.kept (B := []) (Chg.of_below (hba _)) (fun _ _ => List.not_mem_nil))).mono ?_
  rintro e w1 ⟨rfl, m, rfl⟩
  go_wp2_with fail
  go_ret2
  exact ⟨rfl, Below.drewN (hba _) _⟩
set_option maxHeartbeats 1000000 in
set_option maxRecDepth 100000 in
theorem put_yes {hp : Nat} {os : List Obj2} {v : Value} {used limit : Int} {x : Obj2} {cells : Int} (hu : 0 ≤ used) (hul : used ≤ limit) (hl : limit ≤ 1048576) (hc0 : 0 ≤ cells) (hc : cells ≤ limit - used) (hlen : os.length ≤ 1048576) (W : World) (h : HeapAt W hp os v used limit)
    (hx : ObjAt W x) (hxl : ∀ b ∈ ft x, b < W.heap.size) (hxs : ∀ b ∈ ft x, b ∉ hfoot hp v os) :
    Calls Try.prog 23 #[.pointer (some ⟨hp, 0, none⟩), oV x, .int .i64 cells] W (PutP W hp os v used limit x cells) := by
  have hd : decide (cells ≤ limit - used) = true := by simpa using hc
  have hr := fun (w : World) (hw : HeapAt w hp os v used limit) => room_walk (n := cells) hu hul hl w hw
  rw [hd] at hr
  have hba : ∀ O, Below W.heap.size W (W.alloc O) := fun O => (Below.refl _ _).alloc (Nat.le_refl _) O
  have hpl : hp < W.heap.size := h.lt hp (hfoot_hp ..)
  obtain ⟨t, Ht⟩ : ∃ t, Hid (t = tptr x) := ⟨_, Lib.hid rfl⟩
  have hboxD : Hid (∀ m, ((W.alloc (Obj.cells #[.int .i64 x.1.kind, t, .int .i64 x.1.mt.k, .int .u64 x.1.mt.n, .string x.1.mt.s, .int .i64 x.1.mt.o, .int .i64 x.1.a, .int .i64 x.1.b, x.2.sv] 74)).drewN m).heap[W.heap.size]? = some (Obj.cells #[.int .i64 x.1.kind, t, .int .i64 x.1.mt.k, .int .u64 x.1.mt.n, .string x.1.mt.s, .int .i64 x.1.mt.o, .int .i64 x.1.a, .int .i64 x.1.b, x.2.sv] 74 (0, 0))) := fun m => heap_alloc_new W _
  unfold oV
  rw [← Ht.out]
  have hcb : used + cells ≤ 1048576 := by omega
  clear hc hd
  go_enter Try.func23, Try.ntmps23
  go_wp2_with fail
  refine (hr _ (h.kept (B := []) (Chg.of_below (hba _)) (fun _ _ => List.not_mem_nil))).mono ?_
  rintro e w1 ⟨rfl, m, rfl⟩
  have hb1 : Below W.heap.size W ((W.alloc (Obj.cells #[.int .i64 x.1.kind, t, .int .i64 x.1.mt.k, .int .u64 x.1.mt.n, .string x.1.mt.s, .int .i64 x.1.mt.o, .int .i64 x.1.a, .int .i64 x.1.b, x.2.sv] 74)).drewN m) := Below.drewN (hba _) m
  have hsz1 : W.heap.size < ((W.alloc (Obj.cells #[.int .i64 x.1.kind, t, .int .i64 x.1.mt.k, .int .u64 x.1.mt.n, .string x.1.mt.s, .int .i64 x.1.mt.o, .int .i64 x.1.a, .int .i64 x.1.b, x.2.sv] 74)).drewN m).heap.size := (Array.getElem?_eq_some_iff.1 (hboxD.out m)).1
  have hbox := hboxD.out m
  generalize (W.alloc (Obj.cells #[.int .i64 x.1.kind, t, .int .i64 x.1.mt.k, .int .u64 x.1.mt.n, .string x.1.mt.s, .int .i64 x.1.mt.o, .int .i64 x.1.a, .int .i64 x.1.b, x.2.sv] 74)).drewN m = w1 at hb1 hbox hsz1 ⊢
  have h1 := h.kept (B := []) (Chg.of_below hb1) (fun _ _ => List.not_mem_nil)
  obtain ⟨c0, c1, c2, cf⟩ := h1.hp_cells
  obtain ⟨h2, hch2⟩ := h1.setUsed (used + cells)
  go_upto_region 4 with fail
  have hbx : (w1.setCell ⟨hp, 1, none⟩ (.int .i64 (used + cells))).heap[W.heap.size]? = some (Obj.cells #[.int .i64 x.1.kind, t, .int .i64 x.1.mt.k, .int .u64 x.1.mt.n, .string x.1.mt.s, .int .i64 x.1.mt.o, .int .i64 x.1.a, .int .i64 x.1.b, x.2.sv] 74 (0, 0)) := by
    rw [setCell_off (by omega)]; exact hbox
  have hsz2 : W.heap.size < (w1.setCell ⟨hp, 1, none⟩ (.int .i64 (used + cells))).heap.size := (Array.getElem?_eq_some_iff.1 hbx).1
  generalize w1.setCell ⟨hp, 1, none⟩ (.int .i64 (used + cells)) = w2 at h2 hch2 hbx hsz2 ⊢
  have hw2 : Chg [hp] W w2 := (Chg.of_below hb1).trans hch2 (fun b hb _ => hb)
  clear c0 c1 c2 cf hbox h1 hch2 hb1 hr hba hboxD
  have H := Lib.hid h
  have HX := Lib.hid hx
  have HXL := Lib.hid hxl
  have HXS := Lib.hid hxs
  have HW2 := Lib.hid hw2
  have Hlt2 : Hid (∀ b ∈ own v, b < W.heap.size ∧ b ≠ hp) := fun b hb => ⟨h.lt b (hfoot_v hb), fun e => h.hpv (e ▸ hb)⟩
  clear h hx hxl hxs hw2
  go_cut [] (fun wX => PutQ W hp os v used limit x cells wX)
  case first =>
    have H2 := Lib.hid h2
    obtain ⟨c0, c1, c2, cf⟩ := h2.hp_cells
    obtain ⟨ad, cap, hv, e1, e2, e3⟩ := row_form h2.row
    have hrw := h2.row
    rw [hv] at hrw c0
    have HV := Lib.hid hv
    have d0 : w2.cell? ⟨W.heap.size, 0, none⟩ = some (.int .i64 x.1.kind) := by rw [cell_of hbx]; rfl
    have d1 : w2.cell? ⟨W.heap.size, 1, none⟩ = some t := by rw [cell_of hbx]; rfl
    have d2 : w2.cell? ⟨W.heap.size, 2, none⟩ = some (.int .i64 x.1.mt.k) := by rw [cell_of hbx]; rfl
    have d3 : w2.cell? ⟨W.heap.size, 3, none⟩ = some (.int .u64 x.1.mt.n) := by rw [cell_of hbx]; rfl
    have d4 : w2.cell? ⟨W.heap.size, 4, none⟩ = some (.string x.1.mt.s) := by rw [cell_of hbx]; rfl
    have d5 : w2.cell? ⟨W.heap.size, 5, none⟩ = some (.int .i64 x.1.mt.o) := by rw [cell_of hbx]; rfl
    have d6 : w2.cell? ⟨W.heap.size, 6, none⟩ = some (.int .i64 x.1.a) := by rw [cell_of hbx]; rfl
    have d7 : w2.cell? ⟨W.heap.size, 7, none⟩ = some (.int .i64 x.1.b) := by rw [cell_of hbx]; rfl
    have d8 : w2.cell? ⟨W.heap.size, 8, none⟩ = some x.2.sv := by rw [cell_of hbx]; rfl
    have f0 : w2.frozen? ⟨hp, 0, none⟩ = false := cf 0
    have hp2 : hp < w2.heap.size := by omega
    obtain ⟨ti, hi0, hi1, hi2, hi3⟩ := info_parts (show (Try.prog.info? 74).map (fun i => (i.zero, i.size, i.bytes)) = some (some (.agg #[.int .i64 0, .pointer none, .int .i64 0, .int .u64 0, .string ByteArray.empty, .int .i64 0, .int .i64 0, .int .i64 0, .slice none 0 0]), 9, 96) from by kernel_rfl)
    have row : ∀ O, (w2.alloc O).drew.ownsRow 0 74 9 (.slice ad os.length cap) os.length (objCells os) := fun O => (hrw.alloc O).drew
    have far : ∀ O w4, Chg (own (.slice ad os.length cap)) (w2.alloc O).drew w4 → w4.cell? ⟨hp, 0, none⟩ = some (.slice ad os.length cap) ∧ w4.frozen? ⟨hp, 0, none⟩ = false := by
      intro O w4 hc
      have hq : w4.heap[hp]? = w2.heap[hp]? := (hc.block hp (by simp; omega) (fun e => (Hlt2.out hp (by rw [HV.out]; exact e)).2 rfl)).trans (Below.heap_alloc w2 O hp hp2)
      exact ⟨(World.cell?_of_block (w := w2) (a := ⟨hp, 0, none⟩) hq).trans c0, (World.frozen?_of_block (w := w2) (a := ⟨hp, 0, none⟩) hq).trans f0⟩
    have Hrow := Lib.hid row
    have HF := Lib.hid far
    have hone : t.oneCell' = true := by rw [Ht.out]; rfl
    have hone2 : x.2.sv.oneCell' = true := by
      obtain ⟨a, c, e, _⟩ := row_form HX.out.slots
      rw [e]; rfl
    have hnews : Hid (∀ O, O = Obj.cells #[.int .i64 x.1.kind, t, .int .i64 x.1.mt.k, .int .u64 x.1.mt.n, .string x.1.mt.s, .int .i64 x.1.mt.o, .int .i64 x.1.a, .int .i64 x.1.b, x.2.sv] 74 → ∀ (j : Nat) (u : Value), ([.int .i64 x.1.kind, t, .int .i64 x.1.mt.k, .int .u64 x.1.mt.n, .string x.1.mt.s, .int .i64 x.1.mt.o, .int .i64 x.1.a, .int .i64 x.1.b, x.2.sv] : List Value)[j]? = some u → ((w2.alloc O).drew).cell? ((⟨w2.heap.size, 0, none⟩ : Addr).add j) = some u) := by
      rintro O rfl
      exact World.news_of_block (cs := #[.int .i64 x.1.kind, t, .int .i64 x.1.mt.k, .int .u64 x.1.mt.n, .string x.1.mt.s, .int .i64 x.1.mt.o, .int .i64 x.1.a, .int .i64 x.1.b, x.2.sv]) (t := 74) (fr := (0, 0)) (heap_alloc_new w2 _)
    have Hone : Hid (∀ u ∈ ([.int .i64 x.1.kind, t, .int .i64 x.1.mt.k, .int .u64 x.1.mt.n, .string x.1.mt.s, .int .i64 x.1.mt.o, .int .i64 x.1.a, .int .i64 x.1.b, x.2.sv] : List Value), u.oneCell' = true) := by
      intro u hu
      simp only [List.mem_cons, List.not_mem_nil, or_false] at hu
      rcases hu with rfl | rfl | rfl | rfl | rfl | rfl | rfl | rfl | rfl
      all_goals first | rfl | exact hone | exact hone2
    have hfin : Hid (∀ O w4 v4, Chg (own (.slice ad os.length cap)) (w2.alloc O).drew w4 → w4.ownsRow 0 74 9 v4 (os.length + 1) (objCells os ++ [.int .i64 x.1.kind, t, .int .i64 x.1.mt.k, .int .u64 x.1.mt.n, .string x.1.mt.s, .int .i64 x.1.mt.o, .int .i64 x.1.a, .int .i64 x.1.b, x.2.sv]) → (∀ y ∈ own v4, y ∈ own (.slice ad os.length cap) ∨ (w2.alloc O).drew.heap.size ≤ y) → PutQ W hp os v used limit x cells (w4.setCell ⟨hp, 0, none⟩ v4)) := by
      intro O w4 v4 g1 g2 g3
      rw [← HV.out] at g1 g3
      have hoc : ([.int .i64 x.1.kind, t, .int .i64 x.1.mt.k, .int .u64 x.1.mt.n, .string x.1.mt.s, .int .i64 x.1.mt.o, .int .i64 x.1.a, .int .i64 x.1.b, x.2.sv] : List Value) = oCells x := by rw [Ht.out]; rfl
      rw [hoc] at g2
      have hsz := HW2.out.size
      obtain ⟨k1, k2, k3⟩ := H2.out.push (((Below.refl _ _).alloc (Nat.le_refl _) O).drew) g1 g2 g3 (HX.out.kept HW2.out (fun b hb e => HXS.out b hb (by rw [List.mem_singleton.1 e]; exact hfoot_hp ..))) (fun b hb => by have := HXL.out b hb; omega) HXS.out
      refine ⟨v4, k1, HW2.out.mono (fun b hb _ => by rw [List.mem_singleton.1 hb]; exact List.mem_cons_self ..) |>.trans k2 (fun b hb _ => hb), fun b hb => ?_⟩
      rcases k3 b hb with c | c | c
      · exact .inl c
      · exact .inr (.inl c)
      · exact .inr (.inr (by omega))
    clear hone hone2 hbx hv row far h2 hrw e3 cf f0 c1 c2
    go_region_law
      ((refine step_append_foot (by rfl) _ _ _ (by rfl) 74 ti _ 9 96 Try.underlying64 hi0 hi1 hi2 hi3 rfl (by omega) _ os.length (objCells os) (by rfl) (Hrow.out _)
            ⟨w2.heap.size, 0, none⟩ 1 1 [.int .i64 x.1.kind, t, .int .i64 x.1.mt.k, .int .u64 x.1.mt.n, .string x.1.mt.s, .int .i64 x.1.mt.o, .int .i64 x.1.a, .int .i64 x.1.b, x.2.sv] (by rfl) (by rfl) (hnews.out _ rfl) Hone.out
            (by omega) (by unfold maxLen; omega) (by omega) ?_; intro g gcap w4 hrow4 hchg4 hnew4; have pf4 := (HF.out _ _ hchg4).2; have pc4 := (HF.out _ _ hchg4).1; have hchg4 := Lib.hid hchg4; have hrow4 := Lib.hid hrow4; have hnew4 := Lib.hid hnew4))
    all_goals
      have HA := Lib.hid (hfin.out _ _ _ hchg4.out hrow4.out hnew4.out)
      clear hfin HF Hrow hchg4 hrow4 hnew4 H2 HX HXL HXS HW2 hnews Hone
      go_wp2_with fail
      go_meet
      exact HA.out
  case rest =>
    obtain ⟨v', k1, k2, k3⟩ := hcut
    clear h2
    obtain ⟨c0, c1, c2, cf⟩ := k1.hp_cells
    obtain ⟨ad, cap, hv, e1, e2, e3⟩ := row_form k1.row
    have hl1 : (os ++ [x]).length = os.length + 1 := by simp
    rw [hv, hl1] at c0
    have K := Lib.hid (show PutQ W hp os v used limit x cells wc from ⟨v', k1, k2, k3⟩)
    clear k1 k2 k3 c1 c2 cf hv e1 e2 e3 hl1
    go_wp2_with fail
    go_ret2
    exact ⟨rfl, K.out⟩
end Go.Proofs.Ytlihonbmopeemaa.Hp
end
section
namespace Go.Proofs.Ytlihonbmopeemaa.Hp
open Go Go.RowKit Go.Proofs.Ytlihonbmopeemaa.HpLaw Go.Proofs.Ytlihonbmopeemaa.Ans Go.Proofs.Ytlihonbmopeemaa.Num Go.Proofs.Ytlihonbmopeemaa.DigLaw Go.Proofs.Ytlihonbmopeemaa.Fl Go.Proofs.Ytlihonbmopeemaa.Dig Go.Proofs.Ytlihonbmopeemaa.Float

structure Ob where
  kind : Int
  kv : List (Val × Val)
  mt : Val
  a : Int
  b : Int
  slots : List Val
def kvs (l : List Ent) : List (Val × Val) := (liveL l).map fun e => (e.key, e.val)
def tkv (t : Option Tbl) : List (Val × Val) := match t with
  | some T => kvs T.l
  | none => []
def AObj.ob (o : AObj) : Ob := ⟨o.kind, tkv o.tab, o.mt, o.a, o.b, o.slots⟩
def obs (os : List Obj2) : List Ob := os.map fun x => x.1.ob
def Ob.cells (o : Ob) : Nat := 1 + o.kv.length + o.slots.length
def usedOf (s : List Ob) : Nat := (s.map Ob.cells).sum
def HeapIs (w : World) (hp : Nat) (s : List Ob) (limit : Int) (F : List Nat) : Prop :=
  ∃ os v, HeapAt w hp os v ((usedOf s : Nat) : Int) limit ∧ obs os = s ∧ F = hfoot hp v os ∧ ((usedOf s : Nat) : Int) ≤ limit ∧ limit ≤ 1048576
def HStep (W : World) (hp : Nat) (limit : Int) (F : List Nat) (s' : List Ob) (w' : World) : Prop :=
  ∃ F', HeapIs w' hp s' limit F' ∧ Chg F W w' ∧ ∀ b ∈ F', b ∈ F ∨ W.heap.size ≤ b
theorem usedOf_append (s t : List Ob) : usedOf (s ++ t) = usedOf s + usedOf t := by unfold usedOf; rw [List.map_append, List.sum_append]
theorem usedOf_one (o : Ob) : usedOf [o] = o.cells := by unfold usedOf; simp
theorem usedOf_len : ∀ s : List Ob, s.length ≤ usedOf s
  | [] => Nat.le_refl _
  | a :: s => by
    have h := usedOf_len s
    have e : usedOf (a :: s) = a.cells + usedOf s := by unfold usedOf; rw [List.map_cons, List.sum_cons]
    have c : 1 ≤ a.cells := by unfold Ob.cells; omega
    rw [e, List.length_cons]; omega
theorem usedOf_set : ∀ (s : List Ob) (i : Nat) (o o' : Ob), s[i]? = some o → usedOf (s.set i o') + o.cells = usedOf s + o'.cells
  | [], i, o, o', h => by cases h
  | a :: s, 0, o, o', h => by
    obtain rfl : a = o := Option.some.inj h
    show usedOf (o' :: s) + _ = usedOf (a :: s) + _
    unfold usedOf
    rw [List.map_cons, List.sum_cons, List.map_cons, List.sum_cons]; omega
  | a :: s, i + 1, o, o', h => by
    have ih := usedOf_set s i o o' h
    show usedOf (a :: s.set i o') + _ = usedOf (a :: s) + _
    have e : ∀ t, usedOf (a :: t) = a.cells + usedOf t := fun t => by unfold usedOf; rw [List.map_cons, List.sum_cons]
    rw [e, e]; omega
theorem usedOf_mem : ∀ (s : List Ob) (i : Nat) (o : Ob), s[i]? = some o → o.cells ≤ usedOf s
  | [], i, o, h => by cases h
  | a :: s, 0, o, h => by
    obtain rfl : a = o := Option.some.inj h
    unfold usedOf; rw [List.map_cons, List.sum_cons]; omega
  | a :: s, i + 1, o, h => by
    have ih := usedOf_mem s i o h
    have e : usedOf (a :: s) = a.cells + usedOf s := by unfold usedOf; rw [List.map_cons, List.sum_cons]
    omega
theorem obs_len (os : List Obj2) : (obs os).length = os.length := List.length_map ..
theorem obs_at (os : List Obj2) (i : Nat) : (obs os)[i]? = os[i]?.map fun x => x.1.ob := List.getElem?_map ..
theorem obs_set (os : List Obj2) (i : Nat) (y : Obj2) : obs (os.set i y) = (obs os).set i y.1.ob := by unfold obs; rw [List.map_set]
/-- the object with a number -/
def obAt (s : List Ob) (o : Int) : Option Ob := if 1 ≤ o then s[o.toNat - 1]? else none
theorem obAt_some {s : List Ob} {o : Int} {x : Ob} (h : obAt s o = some x) : ∃ i : Nat, o = (i : Int) + 1 ∧ s[i]? = some x := by
  unfold obAt at h
  split at h
  · exact ⟨o.toNat - 1, by omega, h⟩
  · cases h
theorem obAt_none {s : List Ob} {o : Int} (h : obAt s o = none) : o < 1 ∨ (s.length : Int) < o := by
  unfold obAt at h
  split at h
  · have := List.getElem?_eq_none_iff.1 h
    omega
  · omega
theorem obAt_succ (s : List Ob) (i : Nat) : obAt s ((i : Int) + 1) = s[i]? := by
  unfold obAt
  rw [if_pos (by omega), show ((i : Int) + 1).toNat - 1 = i by omega]
/-- the value that a key has -/
def lookKV : List (Val × Val) → Val → Option Val
  | [], _ => none
  | x :: r, k => if sameV x.1 k then some x.2 else lookKV r k
def eraseKV (l : List (Val × Val)) (k : Val) : List (Val × Val) := l.filter fun x => !sameV x.1 k
def putKV (l : List (Val × Val)) (k v : Val) : List (Val × Val) := l.map fun x => if sameV x.1 k then (x.1, v) else x
theorem sameV_false {a b : Val} (h : a ≠ b) : sameV a b = false := by
  cases h1 : sameV a b
  · rfl
  · exact absurd ((sameV_iff a b).1 h1) h
theorem sameV_self (a : Val) : sameV a a = true := (sameV_iff a a).2 rfl
/-- where a living entry lies among the living ones -/
theorem live_cut {l : List Ent} {i : Nat} {k : Val} (h : (kds l)[i]? = some (some k)) (ho : Once (kds l)) : ∃ (hi : i < l.length) (p q : List Ent), liveL l = p ++ l[i] :: q ∧ l[i].key = k ∧ l[i].dead = false ∧ (∀ e ∈ p, e.key ≠ k) ∧ (∀ e ∈ q, e.key ≠ k) ∧
    liveL (kill l i) = p ++ q ∧ ∀ v, liveL (l.set i { l[i] with val := v }) = p ++ { l[i] with val := v } :: q := by
  have hi : i < l.length := by rw [← kds_len]; exact (List.getElem?_eq_some_iff.1 h).1
  have hk := h
  rw [kds_at hi] at hk
  have hd : l[i].dead = false := by
    cases hd : l[i].dead
    · rfl
    · rw [hd] at hk; cases hk
  rw [hd] at hk
  have hkey : l[i].key = k := Option.some.inj (Option.some.inj hk)
  have hl : l = l.take i ++ l[i] :: l.drop (i + 1) := by rw [List.getElem_cons_drop hi, List.take_append_drop]
  have hlen : (l.take i).length = i := by rw [List.length_take]; omega
  have other : ∀ j e, l[j]? = some e → e.dead = false → e.key = k → j = i := by
    intro j e hj he hke
    have hj' : j < l.length := (List.getElem?_eq_some_iff.1 hj).1
    have h1 : (kds l)[j]? = some (some k) := by
      rw [kds_at hj', (List.getElem?_eq_some_iff.1 hj).2, he, hke]; rfl
    exact ho j i k h1 h
  refine ⟨hi, liveL (l.take i), liveL (l.drop (i + 1)), ?_, hkey, hd, ?_, ?_, ?_, ?_⟩
  · conv => lhs; rw [hl]
    unfold liveL
    rw [List.filter_append, List.filter_cons, hd]; rfl
  · intro e he hke
    obtain ⟨h1, h2⟩ := List.mem_filter.1 he
    obtain ⟨j, hj⟩ := List.getElem?_of_mem h1
    rw [List.getElem?_take] at hj
    split at hj
    · have := other j e hj (by simpa using h2) hke
      omega
    · cases hj
  · intro e he hke
    obtain ⟨h1, h2⟩ := List.mem_filter.1 he
    obtain ⟨j, hj⟩ := List.getElem?_of_mem h1
    rw [List.getElem?_drop] at hj
    have := other _ e hj (by simpa using h2) hke
    omega
  · have e1 : kill l i = l.take i ++ { l[i] with dead := true } :: l.drop (i + 1) := by
      unfold kill
      rw [List.modify_eq_take_cons_drop hi]
    rw [e1]
    unfold liveL
    rw [List.filter_append, List.filter_cons]; rfl
  · intro v
    rw [List.set_eq_take_append_cons_drop, if_pos hi]
    unfold liveL
    rw [List.filter_append, List.filter_cons]
    have : (!({ l[i] with val := v } : Ent).dead) = true := by show (!l[i].dead) = true; rw [hd]; rfl
    rw [this]; rfl
theorem look_append (p q : List (Val × Val)) (k : Val) (h : ∀ x ∈ p, x.1 ≠ k) : lookKV (p ++ q) k = lookKV q k := by
  induction p with
  | nil => rfl
  | cons a p ih =>
    show (if sameV a.1 k then some a.2 else lookKV (p ++ q) k) = _
    rw [sameV_false (h a (List.mem_cons_self ..)), ih (fun x hx => h x (List.mem_cons_of_mem _ hx))]; rfl
theorem look_hit (k v : Val) (q : List (Val × Val)) : lookKV ((k, v) :: q) k = some v := by
  show (if sameV k k then some v else _) = _
  rw [sameV_self]; rfl
theorem look_none {l : List (Val × Val)} {k : Val} (h : ∀ x ∈ l, x.1 ≠ k) : lookKV l k = none := by
  have := look_append l [] k h
  rw [List.append_nil] at this
  exact this
theorem erase_append (p q : List (Val × Val)) (k : Val) : eraseKV (p ++ q) k = eraseKV p k ++ eraseKV q k := List.filter_append ..
theorem erase_none {l : List (Val × Val)} {k : Val} (h : ∀ x ∈ l, x.1 ≠ k) : eraseKV l k = l := by
  unfold eraseKV
  rw [List.filter_eq_self]
  intro x hx
  rw [sameV_false (h x hx)]; rfl
theorem erase_hit (k v : Val) (q : List (Val × Val)) : eraseKV ((k, v) :: q) k = eraseKV q k := by
  unfold eraseKV
  rw [List.filter_cons, sameV_self]; rfl
theorem put_append (p q : List (Val × Val)) (k v : Val) : putKV (p ++ q) k v = putKV p k v ++ putKV q k v := List.map_append ..
theorem put_none {l : List (Val × Val)} {k v : Val} (h : ∀ x ∈ l, x.1 ≠ k) : putKV l k v = l := by
  unfold putKV
  conv => rhs; rw [← List.map_id l]
  refine List.map_congr_left fun x hx => ?_
  rw [sameV_false (h x hx)]; rfl
theorem put_hit (k v u : Val) (q : List (Val × Val)) : putKV ((k, u) :: q) k v = (k, v) :: putKV q k v := by
  unfold putKV
  rw [List.map_cons, sameV_self]; rfl
theorem kvs_keys {l : List Ent} {k : Val} (h : ∀ i : Nat, (kds l)[i]? ≠ some (some k)) : ∀ x ∈ kvs l, x.1 ≠ k := by
  intro x hx e
  obtain ⟨en, he, rfl⟩ := List.mem_map.1 hx
  obtain ⟨i, hi⟩ := kds_mem.2 ⟨en, he, e⟩
  exact h i hi
/-- a living key in the table, told plainly -/
theorem kvs_cut {l : List Ent} {i : Nat} {k : Val} (h : (kds l)[i]? = some (some k)) (ho : Once (kds l)) : ∃ (hi : i < l.length), l[i].key = k ∧ l[i].dead = false ∧ lookKV (kvs l) k = some l[i].val ∧
    kvs (kill l i) = eraseKV (kvs l) k ∧ (kvs (kill l i)).length + 1 = (kvs l).length ∧ ∀ v, kvs (l.set i { l[i] with val := v }) = putKV (kvs l) k v ∧ (kvs (l.set i { l[i] with val := v })).length = (kvs l).length := by
  obtain ⟨hi, p, q, h1, h2, h3, h4, h5, h6, h7⟩ := live_cut h ho
  have hp : ∀ x ∈ p.map (fun e : Ent => (e.key, e.val)), x.1 ≠ k := by
    intro x hx
    obtain ⟨e, he, rfl⟩ := List.mem_map.1 hx
    exact h4 e he
  have hq : ∀ x ∈ q.map (fun e : Ent => (e.key, e.val)), x.1 ≠ k := by
    intro x hx
    obtain ⟨e, he, rfl⟩ := List.mem_map.1 hx
    exact h5 e he
  have e1 : kvs l = p.map (fun e : Ent => (e.key, e.val)) ++ (k, l[i].val) :: q.map (fun e : Ent => (e.key, e.val)) := by
    unfold kvs
    rw [h1, List.map_append, List.map_cons, h2]
  have e2 : kvs (kill l i) = p.map (fun e : Ent => (e.key, e.val)) ++ q.map (fun e : Ent => (e.key, e.val)) := by
    unfold kvs
    rw [h6, List.map_append]
  have e3 : ∀ v, kvs (l.set i { l[i] with val := v }) = p.map (fun e : Ent => (e.key, e.val)) ++ (k, v) :: q.map (fun e : Ent => (e.key, e.val)) := by
    intro v
    unfold kvs
    rw [h7 v, List.map_append, List.map_cons, h2]
  refine ⟨hi, h2, h3, ?_, ?_, ?_, fun v => ⟨?_, ?_⟩⟩
  · rw [e1, look_append _ _ _ hp, look_hit]
  · rw [e1, e2, erase_append, erase_none hp, erase_hit, erase_none hq]
  · rw [e1, e2, List.length_append, List.length_append, List.length_cons]; omega
  · rw [e1, e3, put_append, put_none hp, put_hit, put_none hq]
  · rw [e1, e3, List.length_append, List.length_append, List.length_cons, List.length_cons]
theorem kvs_add (l : List Ent) (k v : Val) : ((liveL l ++ [(⟨k, v, false⟩ : Ent)]).map fun e => (e.key, e.val)) = kvs l ++ [(k, v)] := by
  unfold kvs
  rw [List.map_append]; rfl
def emptyT : Tbl := ⟨[], [], []⟩
theorem emptyT_ok : TblOK emptyT :=
  ⟨⟨(fun i j k h => by cases h), (fun e he => by cases he), .inl ⟨rfl, rfl⟩, Nat.zero_le _⟩, ⟨(fun j i h => by cases h), (fun i h => by cases h)⟩, Nat.le_refl _⟩
end Go.Proofs.Ytlihonbmopeemaa.Hp
end
section
namespace Go.Proofs.Ytlihonbmopeemaa.Hp
open Go Go.RowKit Go.Proofs.Ytlihonbmopeemaa.HpLaw Go.Proofs.Ytlihonbmopeemaa.Ans Go.Proofs.Ytlihonbmopeemaa.Num Go.Proofs.Ytlihonbmopeemaa.DigLaw Go.Proofs.Ytlihonbmopeemaa.Fl Go.Proofs.Ytlihonbmopeemaa.Dig Go.Proofs.Ytlihonbmopeemaa.Float

theorem HStep.of_below {W w' : World} {hp : Nat} {limit : Int} {F : List Nat} {s : List Ob} (h : HeapIs W hp s limit F) (hb : Below W.heap.size W w') : HStep W hp limit F s w' := by
  obtain ⟨os, v, h1, h2, h3, h4, h5⟩ := h
  exact ⟨F, ⟨os, v, h1.kept (B := []) (Chg.of_below hb) (fun _ _ => List.not_mem_nil), h2, h3, h4, h5⟩, Chg.of_below hb, fun b hb => .inl hb⟩
theorem HeapIs.kept {w w' : World} {hp : Nat} {limit : Int} {F B : List Nat} {s : List Ob} (h : HeapIs w hp s limit F) (hc : Chg B w w') (hn : ∀ b ∈ F, b ∉ B) : HeapIs w' hp s limit F := by
  obtain ⟨os, v, h1, h2, h3, h4, h5⟩ := h
  exact ⟨os, v, h1.kept hc (by rw [← h3]; exact hn), h2, h3, h4, h5⟩
theorem HeapIs.lt {w : World} {hp : Nat} {limit : Int} {F : List Nat} {s : List Ob} (h : HeapIs w hp s limit F) : ∀ b ∈ F, b < w.heap.size := by
  obtain ⟨os, v, h1, h2, h3, h4, h5⟩ := h
  rw [h3]; exact h1.lt
theorem HStep.then {W w1 w' : World} {hp : Nat} {limit : Int} {F : List Nat} {s' : List Ob} (h : HStep W hp limit F s' w1) (hb : Below w1.heap.size w1 w') : HStep W hp limit F s' w' := by
  obtain ⟨F', h1, h2, h3⟩ := h
  exact ⟨F', h1.kept (B := []) (Chg.of_below hb) (fun _ _ => List.not_mem_nil), h2.trans (Chg.of_below (B := []) hb) (fun _ h => absurd h List.not_mem_nil), h3⟩
def tabOb : Ob := ⟨5, [], nilV, 0, 0, []⟩
/-- what Table answers, and what there is behind it -/
def tableR (s : List Ob) (limit : Int) : Int × Int × List Ob := if ((usedOf s : Nat) : Int) + 1 ≤ limit then ((s.length : Int) + 1, 0, s ++ [tabOb]) else (0, 2, s)
set_option maxHeartbeats 1000000 in
theorem table_walk {hp : Nat} {s : List Ob} {limit : Int} {F : List Nat} (W : World) (h : HeapIs W hp s limit F) :
    Calls Try.prog 8 #[.pointer (some ⟨hp, 0, none⟩)] W fun e w' => e = .returned (.tuple #[.int .i64 (tableR s limit).1, .int .i64 (tableR s limit).2.1]) ∧ HStep W hp limit F (tableR s limit).2.2 w' := by
  have h0 := h
  obtain ⟨os, v, h1, h2, h3, h4, h5⟩ := h
  have hb1 : Below W.heap.size W (W.alloc (Obj.cells #[.slice none 0 0, .int .i64 0, .slice none 0 0, .slice none 0 0] 72)) := (Below.refl _ _).alloc (Nat.le_refl _) _
  have hd1 : (W.alloc (Obj.cells #[.slice none 0 0, .int .i64 0, .slice none 0 0, .slice none 0 0] 72)).heap[W.heap.size]? = some (Obj.cells #[.slice none 0 0, .int .i64 0, .slice none 0 0, .slice none 0 0] 72 (0, 0)) := heap_alloc_new _ _
  have hsz1 : (W.alloc (Obj.cells #[.slice none 0 0, .int .i64 0, .slice none 0 0, .slice none 0 0] 72)).heap.size = W.heap.size + 1 := by simp
  have hlen : os.length ≤ 1048576 := by
    have e1 := usedOf_len s
    rw [← h2, obs_len] at e1
    rw [h2] at e1
    omega
  obtain ⟨x, Hx⟩ : ∃ x : Obj2, Hid (x = (⟨5, some emptyT, nilV, 0, 0, []⟩, ⟨W.heap.size, .slice none 0 0, .slice none 0 0, .slice none 0 0, .slice none 0 0⟩)) := ⟨_, Lib.hid rfl⟩
  have hv : oV x = .agg #[.int .i64 5, .pointer (some ⟨W.heap.size, 0, none⟩), .int .i64 0, .int .u64 0, .string ⟨#[]⟩, .int .i64 0, .int .i64 0, .int .i64 0, .slice none 0 0] := by rw [Hx.out]; rfl
  have hft : ft x = [W.heap.size] := by rw [Hx.out]; rfl
  have hob : x.1.ob = tabOb := by rw [Hx.out]; rfl
  have Hat : Hid (∀ w1 : World, w1.heap[W.heap.size]? = some (Obj.cells #[.slice none 0 0, .int .i64 0, .slice none 0 0, .slice none 0 0] 72 (0, 0)) → ObjAt w1 x) := by
    intro w1 hw1
    rw [Hx.out]
    refine ⟨fun T hT => ?_, World.ownsRow_nil _ _ _ _, (fun b _ hb => by cases hb), ⟨fun _ => rfl, fun _ => rfl⟩, fun _ => rfl⟩
    obtain rfl := Option.some.inj hT
    exact ⟨⟨⟨0, hw1⟩, World.ownsRow_nil _ _ _ _, World.ownsRow_nil _ _ _ _, World.ownsRow_nil _ _ _ _, by simp [own, Value.ownBlock]⟩, emptyT_ok⟩
  have H0 := Lib.hid h0
  have H1 := Lib.hid h1
  have H2 := Lib.hid h2
  have H3 := Lib.hid h3
  have Hft := Lib.hid hft
  have Hob := Lib.hid hob
  have hlt := Lib.hid h1.lt
  have hul : (0 : Int) ≤ ((usedOf s : Nat) : Int) := Int.natCast_nonneg _
  clear h0 h1 h2 h3 hft hob
  obtain ⟨u, hu⟩ : ∃ u : Int, Hid (u = ((usedOf s : Nat) : Int)) := ⟨_, Lib.hid rfl⟩
  rw [← hu.out] at hul h4
  by_cases c : u + 1 ≤ limit
  · have HR : Hid (tableR s limit = ((s.length : Int) + 1, 0, s ++ [tabOb])) := by
      show tableR s limit = _
      unfold tableR
      rw [← hu.out, if_pos c]
    go_enter Try.func8, Try.ntmps8
    go_wp2_with fail
    rw [← hv]
    refine (put_yes (v := v) hul h4 h5 (by decide) (by omega) hlen _ (by rw [hu.out]; exact H1.out.kept (B := []) (Chg.of_below hb1) (fun _ _ => List.not_mem_nil)) (Hat.out _ hd1) (by rw [Hft.out]; intro b hb; rw [List.mem_singleton.1 hb, hsz1]; omega) (by rw [Hft.out]; intro b hb e; rw [List.mem_singleton.1 hb] at e; have := hlt.out _ e; omega)).mono ?_
    rintro e w1 ⟨rfl, v', k1, k2, k3⟩
    have HF : Hid (HStep W hp limit F (s ++ [tabOb]) w1) := by
      have hs : obs (os ++ [x]) = s ++ [tabOb] := by
        unfold obs
        rw [List.map_append, List.map_cons, List.map_nil, Hob.out]
        exact congrArg (· ++ [tabOb]) H2.out
      have hus : ((usedOf (s ++ [tabOb]) : Nat) : Int) = u + 1 := by
        rw [usedOf_append, usedOf_one, hu.out]
        show ((usedOf s + 1 : Nat) : Int) = _
        omega
      refine ⟨hfoot hp v' (os ++ [x]), ⟨_, v', ?_, hs, rfl, by omega, h5⟩, (Chg.of_below (B := F) hb1).trans k2 (fun b hb _ => ?_), fun b hb => ?_⟩
      · rw [hus]; exact k1
      · rw [H3.out]
        rcases List.mem_cons.1 hb with d | d
        · rw [d]; exact hfoot_hp ..
        · exact hfoot_v d
      · rw [H3.out]
        rcases k3 b hb with d | d | d
        · exact .inl d
        · rw [Hft.out] at d; rw [List.mem_singleton.1 d]; exact .inr (Nat.le_refl _)
        · exact .inr (by omega)
    have hl : (os.length : Int) = (s.length : Int) := by rw [← H2.out, obs_len]
    rw [hl]
    clear k1 k2 k3 hl
    go_wp2_with fail
    go_ret2
    rw [HR.out]
    exact ⟨rfl, HF.out⟩
  · have HR : Hid (tableR s limit = (0, 2, s)) := by
      show tableR s limit = _
      unfold tableR
      rw [← hu.out, if_neg c]
    go_enter Try.func8, Try.ntmps8
    go_wp2_with fail
    rw [← hv]
    refine (put_no (v := v) hul h4 h5 (by omega) _ (by rw [hu.out]; exact H1.out.kept (B := []) (Chg.of_below hb1) (fun _ _ => List.not_mem_nil))).mono ?_
    rintro e w1 ⟨rfl, k1⟩
    go_wp2_with fail
    go_ret2
    rw [HR.out]
    exact ⟨rfl, HStep.of_below H0.out (hb1.trans (k1.mono (by omega)))⟩
end Go.Proofs.Ytlihonbmopeemaa.Hp
end
section
namespace Go.Proofs.Ytlihonbmopeemaa.Hp
open Go Go.RowKit Go.Proofs.Ytlihonbmopeemaa.HpLaw Go.Proofs.Ytlihonbmopeemaa.Ans Go.Proofs.Ytlihonbmopeemaa.Num Go.Proofs.Ytlihonbmopeemaa.DigLaw Go.Proofs.Ytlihonbmopeemaa.Fl Go.Proofs.Ytlihonbmopeemaa.Dig Go.Proofs.Ytlihonbmopeemaa.Float

/-- there is no such table -/
def TabNo (s : List Ob) (o : Int) : Prop := obAt s o = none ∨ ∃ ob, obAt s o = some ob ∧ ob.kind ≠ 5 ∧ ob.kv = []
/-- there is one, and it lies there -/
structure TabYes (W : World) (hp : Nat) (s : List Ob) (limit : Int) (F : List Nat) (o : Int) (os : List Obj2) (v : Value) (i : Nat) (ob : AObj) (l : OLoc) (T : Tbl) : Prop where
  heap : HeapAt W hp os v ((usedOf s : Nat) : Int) limit
  abs : obs os = s
  foot_ : F = hfoot hp v os
  used : ((usedOf s : Nat) : Int) ≤ limit
  lim : limit ≤ 1048576
  num : o = (i : Int) + 1
  here : os[i]? = some (ob, l)
  tab : ob.tab = some T
  at_ : TblAt W l.p T l.lv l.hv l.av
  ok : TblOK T
  kind : ob.kind = 5
  call : ∀ w, Below W.heap.size W w → Calls Try.prog 24 #[.pointer (some ⟨hp, 0, none⟩), .int .i64 o] w fun e w' => e = .returned (.pointer (some ⟨l.p, 0, none⟩)) ∧ w = w'
theorem tab_cases {W : World} {hp : Nat} {s : List Ob} {limit : Int} {F : List Nat} (h : HeapIs W hp s limit F) (o : Int) :
    (TabNo s o ∧ ∀ w, Below W.heap.size W w → Calls Try.prog 24 #[.pointer (some ⟨hp, 0, none⟩), .int .i64 o] w fun e w' => e = .returned (.pointer none) ∧ w = w') ∨
    ∃ os v i ob l T, TabYes W hp s limit F o os v i ob l T := by
  obtain ⟨os, v, h1, h2, h3, h4, h5⟩ := h
  have hk : ∀ w, Below W.heap.size W w → HeapAt w hp os v ((usedOf s : Nat) : Int) limit := fun w hb => h1.kept (B := []) (Chg.of_below hb) (fun _ _ => List.not_mem_nil)
  cases ho : obAt s o with
  | none =>
    have hn := obAt_none ho
    rw [← h2, obs_len] at hn
    exact .inl ⟨.inl ho, fun w hb => table_no hn w (hk w hb)⟩
  | some ob =>
    obtain ⟨i, rfl, hi⟩ := obAt_some ho
    rw [← h2, obs_at] at hi
    cases hx : os[i]? with
    | none => rw [hx] at hi; cases hi
    | some x =>
      rw [hx] at hi
      obtain rfl : x.1.ob = ob := Option.some.inj hi
      have hobj := h1.objs i x hx
      cases ht : x.1.tab with
      | none =>
        left
        refine ⟨.inr ⟨_, ho, fun e => ?_, ?_⟩, fun w hb => ?_⟩
        · have := hobj.kind.2 e
          rw [ht] at this; cases this
        · show tkv x.1.tab = []
          rw [ht]; rfl
        · have := table_yes hx w (hk w hb)
          unfold tptr at this
          rw [ht] at this
          exact this
      | some T =>
        right
        refine ⟨os, v, i, x.1, x.2, T, h1, h2, h3, h4, h5, rfl, hx, ht, (hobj.tab T ht).1, (hobj.tab T ht).2, hobj.kind.1 (by rw [ht]; rfl), fun w hb => ?_⟩
        have := table_yes hx w (hk w hb)
        unfold tptr at this
        rw [ht] at this
        exact this
theorem TabYes.obAt {W : World} {hp : Nat} {s : List Ob} {limit : Int} {F : List Nat} {o : Int} {os : List Obj2} {v : Value} {i : Nat} {ob : AObj} {l : OLoc} {T : Tbl} (h : TabYes W hp s limit F o os v i ob l T) :
    Hp.obAt s o = some ob.ob ∧ ob.ob.kv = kvs T.l ∧ ob.ob.kind = 5 ∧ s[i]? = some ob.ob := by
  have hs : s[i]? = some ob.ob := by rw [← h.abs, obs_at, h.here]; rfl
  refine ⟨by rw [h.num, obAt_succ, hs], ?_, h.kind, hs⟩
  show tkv ob.tab = _
  rw [h.tab]; rfl
def getS (s : List Ob) (o : Int) (k : Val) : Val := match obAt s o, keyV k with
  | some ob, some k' => (lookKV ob.kv k').getD nilV
  | _, _ => nilV
theorem getS_no {s : List Ob} {o : Int} (h : TabNo s o) (k : Val) : getS s o k = nilV := by
  unfold getS
  rcases h with h | ⟨ob, h, _, h2⟩
  · rw [h]
  · rw [h]
    cases keyV k with
    | none => rfl
    | some k' => simp only; rw [h2]; rfl
theorem getS_nokey {s : List Ob} {o : Int} {k : Val} (h : keyV k = none) : getS s o k = nilV := by
  unfold getS
  rw [h]
  cases obAt s o <;> rfl
theorem find_look {T : Tbl} {k : Val} {r : Int} (h : FindIs T k r) (ho : Once (kds T.l)) : (r = -1 ∧ lookKV (kvs T.l) k = none) ∨ ∃ (i : Nat) (hi : i < T.l.length), r = i ∧ (kds T.l)[i]? = some (some k) ∧ lookKV (kvs T.l) k = some (T.l[i]).val := by
  rcases h with ⟨rfl, h⟩ | ⟨i, rfl, h⟩
  · exact .inl ⟨rfl, look_none (kvs_keys h)⟩
  · obtain ⟨hi, _, _, h4, _⟩ := kvs_cut h ho
    exact .inr ⟨i, hi, rfl, h, h4⟩
theorem keyY_ok {y z : Val} (hy : VOK y) (h3 : y.k = 3 → y.s = E3 ∧ y.o = 0) (h : keyY y = some z) : KeyOK z := by
  unfold keyY at h
  split at h
  · cases h
  · split at h
    · obtain rfl := Option.some.inj h
      exact ⟨⟨0, rfl, by decide⟩, hy.text, h3⟩
    · obtain rfl := Option.some.inj h
      exact ⟨hy.num, hy.text, h3⟩
theorem keyV_ok {x z : Val} (hx : VOK x) (h : keyV x = some z) : KeyOK z := by
  refine keyY_ok (normV_ok hx) (fun h3 => ?_) h
  unfold normV at h3 ⊢
  split
  · rename_i c; rw [if_pos c] at h3; simp only at h3; omega
  · rename_i c
    rw [if_neg c] at h3
    split
    · exact ⟨rfl, rfl⟩
    · rename_i c2
      rw [if_neg c2] at h3
      split
      · rename_i c3; rw [if_pos c3] at h3; simp only at h3; omega
      · rename_i c3
        rw [if_neg c3] at h3
        split
        · rename_i c4; rw [if_pos c4] at h3; simp only at h3; omega
        · rename_i c4; rw [if_neg c4] at h3; exact absurd h3 (by decide)
def ValP (W : World) (x : Val) (e : Ending) (w' : World) : Prop := e = .returned x.v ∧ Below W.heap.size W w'
set_option maxHeartbeats 1000000 in
theorem get_walk {hp : Nat} {s : List Ob} {limit : Int} {F : List Nat} (o : Int) (k : Val) (hk : VOK k) (W : World) (h : HeapIs W hp s limit F) :
    Calls Try.prog 33 #[.pointer (some ⟨hp, 0, none⟩), .int .i64 o, k.v] W (ValP W (getS s o k)) := by
  have hK := fun w => Key_walk k hk w
  have t0 := Two.start W k nilV
  have HT0 := Lib.hid t0
  clear t0
  unfold Val.v at hK ⊢
  rcases tab_cases h o with ⟨hno, hcall⟩ | ⟨os, v, i, ob, l, T, hyes⟩
  · have HG : Hid (getS s o k = nilV) := getS_no hno k
    have HC := Lib.hid hcall
    clear hcall hno h
    go_enter Try.func33, Try.ntmps33
    go_wp2_with fail
    refine (HC.out _ HT0.out.below).mono ?_
    rintro e w1 ⟨rfl, rfl⟩
    obtain ⟨a0, a1, a2, a3, _, _, _, _, _, _⟩ := HT0.out.facts
    go_wp2_with fail
    refine (hK _).mono ?_
    rintro e w2 ⟨rfl, h2⟩
    have T2 := Lib.hid (HT0.out.step h2)
    obtain ⟨p0, p1, p2, p3, q0, q1, q2, q3, pf, qf⟩ := T2.out.facts
    obtain ⟨y, Hy⟩ : ∃ y, Hid (y = (keyV k).getD nilV) := ⟨_, Lib.hid rfl⟩
    obtain ⟨ok, Hok⟩ : ∃ ok, Hid (ok = (keyV k).isSome) := ⟨_, Lib.hid rfl⟩
    unfold keyR
    rw [← Hy.out, ← Hok.out, Val.out]
    have T4 := Lib.hid ((T2.out.put0 y).put1 nilV)
    obtain ⟨r0, r1, r2, r3, s0, s1, s2, s3, _, _⟩ := T4.out.facts
    clear h2 hK a0 a1 a2 a3
    go_wp2_with fail
    rw [put4_eq, put4_nil]
    exact bodyPost_ret (v := nilV.v) (by simp [results, Try.results33, go_sem, Val.out, s0, s1, s2, s3]) rfl ⟨by rw [HG.out], T4.out.below⟩
  · have HC := Lib.hid hyes.call
    have HY := Lib.hid hyes
    clear hyes h
    go_enter Try.func33, Try.ntmps33
    go_wp2_with fail
    refine (HC.out _ HT0.out.below).mono ?_
    rintro e w1 ⟨rfl, rfl⟩
    obtain ⟨a0, a1, a2, a3, _, _, _, _, _, _⟩ := HT0.out.facts
    go_wp2_with fail
    refine (hK _).mono ?_
    rintro e w2 ⟨rfl, h2⟩
    have T2 := Lib.hid (HT0.out.step h2)
    obtain ⟨p0, p1, p2, p3, q0, q1, q2, q3, pf, qf⟩ := T2.out.facts
    clear h2 hK a0 a1 a2 a3
    unfold keyR
    cases hkv : keyV k with
    | none =>
      have HG : Hid (getS s o k = nilV) := getS_nokey hkv
      have T4 := Lib.hid ((T2.out.put0 nilV).put1 nilV)
      obtain ⟨r0, r1, r2, r3, s0, s1, s2, s3, _, _⟩ := T4.out.facts
      rw [show (Option.none : Option Val).getD nilV = nilV from rfl, Val.out, show (Option.none : Option Val).isSome = false from rfl]
      clear hkv
      go_wp2_with fail
      rw [put4_nil, put4_eq]
      exact bodyPost_ret (v := nilV.v) (by simp [results, Try.results33, go_sem, Val.out, s0, s1, s2, s3]) rfl ⟨by rw [HG.out], T4.out.below⟩
    | some y =>
      have hky := keyV_ok hk hkv
      have T3 := Lib.hid (T2.out.put0 y)
      obtain ⟨r0, r1, r2, r3, s0, s1, s2, s3, rf, sf⟩ := T3.out.facts
      have hat3 := HY.out.at_.kept (B := []) (Chg.of_below T3.out.below) (fun _ _ => List.not_mem_nil)
      have HKV := Lib.hid hkv
      rw [show (Option.some y).getD nilV = y from rfl, Val.out, show (Option.some y).isSome = true from rfl]
      clear hkv
      obtain ⟨w3, Hw3⟩ : ∃ w3, Hid (w3 = put4 w2 W.heap.size y) := ⟨_, Lib.hid rfl⟩
      rw [← Hw3.out] at T3 r0 r1 r2 r3 s0 s1 s2 s3 rf sf hat3
      go_upto_region 5 with fail
      rw [put4_eq, ← Hw3.out]
      clear p0 p1 p2 p3 q0 q1 q2 q3 pf qf
      go_wp2_with fail
      refine (place_walk l.p T _ _ _ y hky w3 hat3 HY.out.ok).mono ?_
      rintro e w4 ⟨r, rfl, hr, h4⟩
      have T4 := Lib.hid (T3.out.step h4)
      have hat4 := hat3.kept (B := []) (Chg.of_below h4) (fun _ _ => List.not_mem_nil)
      have hG : ∀ z, lookKV (kvs T.l) y = z → getS s o k = z.getD nilV := by
        intro z hz
        unfold getS
        obtain ⟨e1, e2, _, _⟩ := HY.out.obAt
        rw [e1, HKV.out]
        simp only
        rw [e2, hz]
      have HG := Lib.hid hG
      have hfl := find_look hr HY.out.ok.once
      obtain ⟨n4, hp4⟩ := hat4.head
      have u0 : w4.cell? ⟨l.p, 0, none⟩ = some l.lv := by rw [cell_of hp4]; rfl
      obtain ⟨f0, f1, f2, f3, f4, f5, f6, f7, ff, gf⟩ := T4.out.facts
      clear h4 hat3 r0 r1 r2 r3 s0 s1 s2 s3 rf sf hG hr hp4
      rcases hfl with ⟨rfl, hl⟩ | ⟨j, hj, rfl, _, hl⟩
      · have HV := Lib.hid (HG.out _ hl)
        have T5 := Lib.hid (T4.out.put1 nilV)
        obtain ⟨_, _, _, _, v0, v1, v2, v3, _, _⟩ := T5.out.facts
        clear hl hat4 HG
        go_wp2_with fail
        rw [put4_nil]
        exact bodyPost_ret (v := nilV.v) (by simp [results, Try.results33, go_sem, Val.out, v0, v1, v2, v3]) rfl ⟨by rw [HV.out]; rfl, T5.out.below⟩
      · have HV := Lib.hid (HG.out _ hl)
        have hlen := HY.out.ok.len
        have hrow := hat4.l
        obtain ⟨ad, cap, hlv, c1, c2, c3⟩ := row_form hrow
        rw [c3 (by omega)] at hlv
        rw [hlv] at hrow u0
        obtain ⟨en, He⟩ : ∃ en, Hid (T.l[j] = en) := ⟨_, Lib.hid rfl⟩
        obtain ⟨z0, z1, z2, z3, z4, z5, z6, z7, z8⟩ := ent_nine hrow hj He.out
        rw [He.out] at HV
        have T5 := Lib.hid (T4.out.put1 en.val)
        obtain ⟨_, _, _, _, v0, v1, v2, v3, _, _⟩ := T5.out.facts
        clear hl hat4 HG hrow hlv c3
        go_wp2_with fail
        rw [put4_eq]
        exact bodyPost_ret (v := en.val.v) (by simp [results, Try.results33, go_sem, Val.out, v0, v1, v2, v3]) rfl ⟨by rw [HV.out]; rfl, T5.out.below⟩
theorem Get_walk {hp : Nat} {s : List Ob} {limit : Int} {F : List Nat} (o : Int) (k : Val) (hk : VOK k) (W : World) (h : HeapIs W hp s limit F) :
    Calls Try.prog 14 #[.pointer (some ⟨hp, 0, none⟩), .int .i64 o, k.v] W (ValP W (getS s o k)) := by
  have t0 := Two.start W k nilV
  have hg := get_walk o k hk (boxes W k nilV) (h.kept (B := []) (Chg.of_below t0.below) (fun _ _ => List.not_mem_nil))
  have HT0 := Lib.hid t0
  clear t0 h
  unfold Val.v at hg ⊢
  go_enter Try.func14, Try.ntmps14
  go_wp2_with fail
  refine hg.mono ?_
  rintro e w1 ⟨rfl, h1⟩
  have T1 := Lib.hid (HT0.out.step h1)
  obtain ⟨p0, p1, p2, p3, q0, q1, q2, q3, pf, qf⟩ := T1.out.facts
  obtain ⟨y, Hy⟩ : ∃ y, Hid (y = getS s o k) := ⟨_, Lib.hid rfl⟩
  rw [← Hy.out, Val.out]
  have T2 := Lib.hid (T1.out.put1 y)
  obtain ⟨_, _, _, _, s0, s1, s2, s3, _, _⟩ := T2.out.facts
  clear h1 hg
  go_wp2_with fail
  rw [put4_eq]
  exact bodyPost_ret (v := y.v) (by simp [results, Try.results14, go_sem, Val.out, s0, s1, s2, s3]) rfl ⟨by rw [Hy.out], T2.out.below⟩
/-- how far the keys 1, 2, 3, .. go -/
def SizeIs (s : List Ob) (o : Int) (n : Nat) : Prop := match obAt s o with
  | some ob => (∀ j : Nat, j < n → ∃ v, lookKV ob.kv (numKey (j + 1)) = some v) ∧ lookKV ob.kv (numKey (n + 1)) = none ∧ n ≤ 33554432
  | none => n = 0
theorem size_walk {hp : Nat} {s : List Ob} {limit : Int} {F : List Nat} (o : Int) (W : World) (h : HeapIs W hp s limit F) :
    Calls Try.prog 12 #[.pointer (some ⟨hp, 0, none⟩), .int .i64 o] W fun e w' => ∃ n : Nat, e = .returned (.int .i64 n) ∧ SizeIs s o n ∧ W = w' := by
  rcases tab_cases h o with ⟨hno, hcall⟩ | ⟨os, v, i, ob, l, T, hyes⟩
  · have HC := Lib.hid hcall
    have HS : Hid (SizeIs s o 0) := by
      show SizeIs s o 0
      unfold SizeIs
      rcases hno with hno | ⟨ob, hno, _, h2⟩
      · rw [hno]
      · rw [hno]
        simp only
        rw [h2]
        exact ⟨fun j hj => absurd hj (Nat.not_lt_zero _), rfl, Nat.zero_le _⟩
    clear hcall hno h
    go_enter Try.func12, Try.ntmps12
    go_wp2_with fail
    refine (HC.out _ (Below.refl _ _)).mono ?_
    rintro e w1 ⟨rfl, rfl⟩
    go_wp2_with fail
    go_ret
    exact ⟨0, rfl, HS.out, rfl⟩
  · have HC := Lib.hid hyes.call
    have HS : Hid (SizeIs s o T.array.length) := by
      show SizeIs s o T.array.length
      unfold SizeIs
      obtain ⟨e1, e2, _, _⟩ := hyes.obAt
      rw [e1]
      simp only
      rw [e2]
      refine ⟨fun j hj => ?_, look_none (kvs_keys hyes.ok.arr.max), ?_⟩
      · have h1 := hyes.ok.arr.has j _ (List.getElem?_eq_getElem hj)
        obtain ⟨_, _, _, h4, _⟩ := kvs_cut h1 hyes.ok.once
        exact ⟨_, h4⟩
      · have := hyes.ok.arrLe
        have := hyes.ok.len
        omega
    have hle : T.array.length ≤ 33554432 := by
      have := hyes.ok.arrLe
      have := hyes.ok.len
      omega
    obtain ⟨n4, hp4⟩ := hyes.at_.head
    obtain ⟨ad, cap, hav, c1, c2, c3⟩ := row_form hyes.at_.array
    have u3 : W.cell? ⟨l.p, 3, none⟩ = some (.slice ad T.array.length cap) := by rw [cell_of hp4, ← hav]; rfl
    clear hyes h hp4 hav c3
    go_enter Try.func12, Try.ntmps12
    go_wp2_with fail
    refine (HC.out _ (Below.refl _ _)).mono ?_
    rintro e w1 ⟨rfl, rfl⟩
    go_wp2_with fail
    go_ret
    exact ⟨_, rfl, HS.out, rfl⟩
end Go.Proofs.Ytlihonbmopeemaa.Hp
end
section
namespace Go.Proofs.Ytlihonbmopeemaa.Hp
open Go Go.RowKit Go.Proofs.Ytlihonbmopeemaa.HpLaw Go.Proofs.Ytlihonbmopeemaa.Ans Go.Proofs.Ytlihonbmopeemaa.Num Go.Proofs.Ytlihonbmopeemaa.DigLaw Go.Proofs.Ytlihonbmopeemaa.Fl Go.Proofs.Ytlihonbmopeemaa.Dig Go.Proofs.Ytlihonbmopeemaa.Float

def setKV (ob : Ob) (l : List (Val × Val)) : Ob := { ob with kv := l }
def setS (s : List Ob) (limit : Int) (o : Int) (k v : Val) : Int × List Ob := match obAt s o with
  | none => (5, s)
  | some ob => if ob.kind = 5 then
      match keyV k with
      | none => (1, s)
      | some k' => if (normV v).k = 0 then (0, s.set (o.toNat - 1) (setKV ob (eraseKV ob.kv k'))) else
          match lookKV ob.kv k' with
          | some _ => (0, s.set (o.toNat - 1) (setKV ob (putKV ob.kv k' (normV v))))
          | none => if ((usedOf s : Nat) : Int) + 1 ≤ limit then (0, s.set (o.toNat - 1) (setKV ob (ob.kv ++ [(k', normV v)]))) else (2, s)
    else (5, s)
theorem setS_no {s : List Ob} {limit o : Int} {k v : Val} (h : TabNo s o) : setS s limit o k v = (5, s) := by
  unfold setS
  rcases h with h | ⟨ob, h, h1, _⟩
  · rw [h]
  · rw [h]; simp only; rw [if_neg h1]
section
variable {W : World} {hp : Nat} {s : List Ob} {limit : Int} {F : List Nat} {o : Int} {os : List Obj2} {v : Value} {i : Nat} {ob : AObj} {l : OLoc} {T : Tbl}
theorem TabYes.set_ (h : TabYes W hp s limit F o os v i ob l T) (k x : Val) : setS s limit o k x = match keyV k with
      | none => (1, s)
      | some k' => if (normV x).k = 0 then (0, s.set i (setKV ob.ob (eraseKV (kvs T.l) k'))) else
          match lookKV (kvs T.l) k' with
          | some _ => (0, s.set i (setKV ob.ob (putKV (kvs T.l) k' (normV x))))
          | none => if ((usedOf s : Nat) : Int) + 1 ≤ limit then (0, s.set i (setKV ob.ob (kvs T.l ++ [(k', normV x)]))) else (2, s) := by
  obtain ⟨e1, e2, e3, _⟩ := h.obAt
  unfold setS
  rw [e1]
  simp only
  rw [if_pos e3, e2, show o.toNat - 1 = i by have := h.num; omega]
theorem TabYes.finish (h : TabYes W hp s limit F o os v i ob l T) {w6 w7 : World} (hb : Below W.heap.size W w6) {T' : Tbl} {lv hv av : Value} {B : List Nat} (hc : Chg B w6 w7) (hB : ∀ b ∈ B, b ∈ foot l.p l.lv l.hv l.av) (hat : TblAt w7 l.p T' lv hv av) (ok : TblOK T')
    (hn : ∀ b ∈ foot l.p lv hv av, b ∈ foot l.p l.lv l.hv l.av ∨ w6.heap.size ≤ b) {kv' : List (Val × Val)} (hkv : kvs T'.l = kv') :
    HeapAt w7 hp (os.set i ({ ob with tab := some T' }, { l with lv := lv, hv := hv, av := av })) v ((usedOf s : Nat) : Int) limit ∧
    ∀ (w8 : World) (u : Int), HeapAt w8 hp (os.set i ({ ob with tab := some T' }, { l with lv := lv, hv := hv, av := av })) v u limit → Chg [hp] w7 w8 → u + ((kvs T.l).length : Nat) = ((usedOf s : Nat) : Int) + (kv'.length : Nat) → u ≤ limit → HStep W hp limit F (s.set i (setKV ob.ob kv')) w8 := by
  have h6 := h.heap.kept (B := []) (Chg.of_below hb) (fun _ _ => List.not_mem_nil)
  obtain ⟨k1, k2⟩ := h6.turnTab h.here h.tab hc hB hat ok hn
  refine ⟨k1, fun w8 u hw8 hc8 hu hul => ?_⟩
  obtain ⟨_, e2, e3, e4⟩ := h.obAt
  have hob : ({ ob with tab := some T' } : AObj).ob = setKV ob.ob kv' := by
    unfold AObj.ob setKV tkv
    rw [← hkv]
  have hs : obs (os.set i ({ ob with tab := some T' }, { l with lv := lv, hv := hv, av := av })) = s.set i (setKV ob.ob kv') := by
    rw [obs_set, h.abs]
    exact congrArg _ hob
  have hus : ((usedOf (s.set i (setKV ob.ob kv')) : Nat) : Int) = u := by
    have h1 := usedOf_set s i ob.ob (setKV ob.ob kv') e4
    have h2 : (setKV ob.ob kv').cells = 1 + kv'.length + ob.ob.slots.length := rfl
    have h3 : ob.ob.cells = 1 + (kvs T.l).length + ob.ob.slots.length := by
      show 1 + ob.ob.kv.length + _ = _
      rw [e2]
    omega
  have hsz := hb.size
  refine ⟨_, ⟨_, v, ?_, hs, rfl, by omega, h.lim⟩, ?_, fun b hb' => ?_⟩
  · rw [hus]; exact hw8
  · refine ((Chg.of_below (B := F) hb).trans hc (fun b hb' _ => ?_)).trans hc8 (fun b hb' _ => ?_)
    · rw [h.foot_]
      refine hfoot_o h.here (List.mem_append_left _ ?_)
      unfold tft
      rw [show (ob, l).1.tab = some T from h.tab]
      exact hB b hb'
    · rw [h.foot_, List.mem_singleton.1 hb']; exact hfoot_hp ..
  · rcases k2 b hb' with c | c
    · rw [h.foot_]; exact .inl c
    · exact .inr (by omega)
end
/-- an entry's value turns -/
theorem entCells_val : ∀ (l : List Ent) (i : Nat) (z : Val) (hi : i < l.length), putL (entCells l) (i * 9 + 4) z.cs = entCells (l.set i { l[i] with val := z })
  | [], i, z, h => absurd h (Nat.not_lt_zero _)
  | a :: l, 0, z, _ => by
    show putL (a.cs ++ entCells l) 4 z.cs = _ ++ entCells l
    rfl
  | a :: l, i + 1, z, h => by
    have e1 : entCells (a :: l) = a.cs ++ entCells l := List.flatMap_cons ..
    have e2 : entCells (a :: l.set i { l[i]'(by simpa using h) with val := z }) = a.cs ++ entCells (l.set i { l[i]'(by simpa using h) with val := z }) := List.flatMap_cons ..
    rw [List.set_cons_succ, e1]
    refine Eq.trans ?_ e2.symm
    rw [← entCells_val l i z (by simpa using h), show (i + 1) * 9 + 4 = a.cs.length + (i * 9 + 4) by rw [ent_len]; omega, putL_append]
theorem kds_val (l : List Ent) (i : Nat) (z : Val) (hi : i < l.length) : kds (l.set i { l[i] with val := z }) = kds l := by
  unfold kds
  rw [List.map_set]
  apply List.ext_getElem?
  intro j
  rw [List.getElem?_set]
  split
  · rename_i e
    subst e
    split
    · rw [List.getElem?_map, List.getElem?_eq_getElem hi]; rfl
    · rename_i c; rw [List.length_map] at c; exact absurd hi c
  · rfl
theorem TblOK.val {T : Tbl} (h : TblOK T) {i : Nat} (z : Val) (hi : i < T.l.length) : TblOK ⟨T.l.set i { T.l[i] with val := z }, T.hash, T.array⟩ := by
  have hk := kds_val T.l i z hi
  refine ⟨⟨by show Once (kds (T.l.set i _)); rw [hk]; exact h.once, fun e he => ?_, ?_, h.most⟩, ?_, ?_⟩
  · obtain ⟨j, hj⟩ := List.getElem?_of_mem he
    have hj' : (T.l.set i { T.l[i] with val := z })[j]? = some e := hj
    rw [List.getElem?_set] at hj'
    by_cases c : i = j
    · rw [if_pos c, if_pos (c ▸ hi)] at hj'
      have hm := h.keys T.l[i] (List.getElem_mem hi)
      have e' := Option.some.inj hj'
      rw [← e']
      exact ⟨hm.num, hm.text, hm.plain⟩
    · rw [if_neg c] at hj'
      exact h.keys e (List.mem_of_getElem? hj')
  · rcases h.room with ⟨h1, h2⟩ | ⟨h1, h2, h3⟩
    · rw [h1] at hi; exact absurd hi (Nat.not_lt_zero _)
    · refine .inr ⟨h1, ?_, ?_⟩
      · show HashOK HV (kds (T.l.set i _)) (T.l.set i _).length _
        rw [hk, List.length_set]; exact h2
      · show 2 * (T.l.set i _).length ≤ _
        rw [List.length_set]; exact h3
  · show ArrOK numKey (kds (T.l.set i _)) _
    rw [hk]; exact h.arr
  · show _ ≤ (T.l.set i _).length
    rw [List.length_set]; exact h.arrLe
theorem TblAt.setVal {w : World} {p : Nat} {T : Tbl} {lg cap : Nat} {hv av : Value} {i : Nat} (h : TblAt w p T (.slice (some ⟨lg, 0, none⟩) T.l.length cap) hv av) (hi : i < T.l.length) (z : Val) :
    TblAt (w.setCells lg (i * 9 + 4) z.cs) p ⟨T.l.set i { T.l[i] with val := z }, T.hash, T.array⟩ (.slice (some ⟨lg, 0, none⟩) T.l.length cap) hv av ∧ Chg [lg] w (w.setCells lg (i * 9 + 4) z.cs) := by
  obtain ⟨r1, hs⟩ := row_put z.cs (i * 9 + 4) h.l
  rw [entCells_val T.l i z hi] at r1
  obtain ⟨s1, s2, s3⟩ := foot_split h.apart
  have hlg : lg ∈ own (Value.slice (some ⟨lg, 0, none⟩) T.l.length cap) := List.mem_singleton.2 rfl
  obtain ⟨n, hp⟩ := h.head
  refine ⟨⟨⟨n, ?_⟩, ?_, row_kept h.hash hs (fun x hx e => ?_), row_kept h.array hs (fun x hx e => ?_), h.apart⟩, hs⟩
  · rw [hs.block p (Array.getElem?_eq_some_iff.1 hp).1 (fun e => (s1 lg hlg).1 (List.mem_singleton.1 e).symm)]; exact hp
  · show World.ownsRow _ _ _ _ _ (T.l.set i _).length _
    rw [List.length_set]; exact r1
  · rw [List.mem_singleton.1 e] at hx; exact (s1 lg hlg).2.1 hx
  · rw [List.mem_singleton.1 e] at hx; exact (s1 lg hlg).2.2 hx
end Go.Proofs.Ytlihonbmopeemaa.Hp
end
section
namespace Go.Proofs.Ytlihonbmopeemaa.Hp
open Go Go.RowKit Go.Proofs.Ytlihonbmopeemaa.HpLaw Go.Proofs.Ytlihonbmopeemaa.Ans Go.Proofs.Ytlihonbmopeemaa.Num Go.Proofs.Ytlihonbmopeemaa.DigLaw Go.Proofs.Ytlihonbmopeemaa.Fl Go.Proofs.Ytlihonbmopeemaa.Dig Go.Proofs.Ytlihonbmopeemaa.Float

theorem look_none_iff {l : List (Val × Val)} {k : Val} (h : lookKV l k = none) : ∀ x ∈ l, x.1 ≠ k := by
  induction l with
  | nil => intro x hx; cases hx
  | cons a l ih =>
    have h' : (if sameV a.1 k then some a.2 else lookKV l k) = none := h
    cases hs : sameV a.1 k
    · rw [hs] at h'
      intro x hx
      rcases List.mem_cons.1 hx with c | c
      · rw [c]; intro e; rw [(sameV_iff a.1 k).2 e] at hs; cases hs
      · exact ih h' x c
    · rw [hs] at h'; cases h'
theorem set_same (s : List Ob) (i : Nat) (o : Ob) (h : s[i]? = some o) : s.set i o = s := by
  apply List.ext_getElem?
  intro j
  rw [List.getElem?_set]
  by_cases c : i = j
  · rw [if_pos c, if_pos (List.getElem?_eq_some_iff.1 h).1, ← c, h]
  · rw [if_neg c]
def SetP (W : World) (hp : Nat) (s : List Ob) (limit : Int) (F : List Nat) (o : Int) (k x : Val) (e : Ending) (w' : World) : Prop :=
  e = .returned (.int .i64 (setS s limit o k x).1) ∧ HStep W hp limit F (setS s limit o k x).2 w'
set_option maxHeartbeats 1000000 in
set_option maxRecDepth 100000 in
theorem set_walk {hp : Nat} {s : List Ob} {limit : Int} {F : List Nat} (o : Int) (k x : Val) (hk : VOK k) (hx : VOK x) (W : World) (h : HeapIs W hp s limit F) :
    Calls Try.prog 9 #[.pointer (some ⟨hp, 0, none⟩), .int .i64 o, k.v, x.v] W (SetP W hp s limit F o k x) := by
  have hK := fun w => Key_walk k hk w
  have hN := fun w => Normal_walk x hx w
  have t0 := Two.start W k x
  have HT0 := Lib.hid t0
  clear t0
  unfold Val.v at hK hN ⊢
  rcases tab_cases h o with ⟨hno, hcall⟩ | ⟨os, v, i, ob, l, T, hyes⟩
  · have HG : Hid (SetP W hp s limit F o k x (.returned (.int .i64 5)) (boxes W k x)) := by
      unfold SetP
      rw [setS_no hno]
      exact ⟨rfl, HStep.of_below h HT0.out.below⟩
    have HC := Lib.hid hcall
    clear hcall hno h
    go_enter Try.func9, Try.ntmps9
    go_wp2_with fail
    refine (HC.out _ HT0.out.below).mono ?_
    rintro e w1 ⟨rfl, rfl⟩
    go_wp2_with fail
    go_ret
    exact HG.out
  · have HC := Lib.hid hyes.call
    have HY := Lib.hid hyes
    clear hyes
    have HI := Lib.hid h
    clear h
    go_enter Try.func9, Try.ntmps9
    go_wp2_with fail
    refine (HC.out _ HT0.out.below).mono ?_
    rintro e w1 ⟨rfl, rfl⟩
    obtain ⟨a0, a1, a2, a3, _, _, _, _, _, _⟩ := HT0.out.facts
    go_wp2_with fail
    refine (hK _).mono ?_
    rintro e w2 ⟨rfl, h2⟩
    have T2 := Lib.hid (HT0.out.step h2)
    obtain ⟨p0, p1, p2, p3, q0, q1, q2, q3, pf, qf⟩ := T2.out.facts
    clear h2 hK a0 a1 a2 a3
    unfold keyR
    cases hkv : keyV k with
    | none =>
      have HG : Hid (∀ w, Below W.heap.size W w → SetP W hp s limit F o k x (.returned (.int .i64 1)) w) := by
        intro w hw
        unfold SetP
        rw [HY.out.set_ k x, hkv]
        exact ⟨rfl, HStep.of_below HI.out hw⟩
      have T4 := Lib.hid (T2.out.put0 nilV)
      rw [show (Option.none : Option Val).getD nilV = nilV from rfl, Val.out, show (Option.none : Option Val).isSome = false from rfl]
      clear hkv
      go_wp2_with fail
      go_ret
      rw [put4_eq]
      exact HG.out _ T4.out.below
    | some y =>
      have hky := keyV_ok hk hkv
      have T3 := Lib.hid (T2.out.put0 y)
      obtain ⟨r0, r1, r2, r3, s0, s1, s2, s3, rf, sf⟩ := T3.out.facts
      have hat3 := HY.out.at_.kept (B := []) (Chg.of_below T3.out.below) (fun _ _ => List.not_mem_nil)
      have hset := HY.out.set_ k x
      rw [hkv] at hset
      have HSET := Lib.hid hset
      rw [show (Option.some y).getD nilV = y from rfl, Val.out, show (Option.some y).isSome = true from rfl]
      clear hkv hset
      obtain ⟨w3, Hw3⟩ : ∃ w3, Hid (w3 = put4 w2 W.heap.size y) := ⟨_, Lib.hid rfl⟩
      rw [← Hw3.out] at T3 r0 r1 r2 r3 s0 s1 s2 s3 rf sf hat3
      go_upto_region 7 with fail
      rw [put4_eq, ← Hw3.out]
      clear p0 p1 p2 p3 q0 q1 q2 q3 pf qf
      go_wp2_with fail
      refine (place_walk l.p T _ _ _ y hky w3 hat3 HY.out.ok).mono ?_
      rintro e w4 ⟨r, rfl, hr, h4⟩
      have T4 := Lib.hid (T3.out.step h4)
      obtain ⟨f0, f1, f2, f3, f4, f5, f6, f7, ff, gf⟩ := T4.out.facts
      clear h4 r0 r1 r2 r3 s0 s1 s2 s3 rf sf hat3
      go_wp2_with fail
      refine (hN _).mono ?_
      rintro e w5 ⟨rfl, h5⟩
      have T5 := Lib.hid (T4.out.step h5)
      obtain ⟨p0, p1, p2, p3, q0, q1, q2, q3, pf, qf⟩ := T5.out.facts
      obtain ⟨z, Hz⟩ : ∃ z, Hid (z = normV x) := ⟨_, Lib.hid rfl⟩
      rw [← Hz.out] at HSET ⊢
      rw [Val.out]
      have T6 := Lib.hid (T5.out.put1 z)
      obtain ⟨w6, Hw6⟩ : ∃ w6, Hid (w6 = put4 w5 (W.heap.size + 1) z) := ⟨_, Lib.hid rfl⟩
      rw [← Hw6.out] at T6
      clear h5 hN f0 f1 f2 f3 f4 f5 f6 f7 ff gf
      go_upto_region 11 with fail
      rw [put4_eq, ← Hw6.out]
      clear p0 p1 p2 p3 q0 q1 q2 q3 pf qf
      obtain ⟨p0, p1, p2, p3, q0, q1, q2, q3, pf, qf⟩ := T6.out.facts
      have hat6 := HY.out.at_.kept (B := []) (Chg.of_below T6.out.below) (fun _ _ => List.not_mem_nil)
      have hfl := find_look hr HY.out.ok.once
      clear hr
      obtain ⟨u, hu⟩ : ∃ u : Int, Hid (u = ((usedOf s : Nat) : Int)) := ⟨_, Lib.hid rfl⟩
      have hul : u ≤ limit := by rw [hu.out]; exact HY.out.used
      have hu0 : 0 ≤ u := by rw [hu.out]; exact Int.natCast_nonneg _
      have hlim := HY.out.lim
      have hheap6 := HY.out.heap.kept (B := []) (Chg.of_below T6.out.below) (fun _ _ => List.not_mem_nil)
      rw [← hu.out] at hheap6
      obtain ⟨g0, g1, g2, gfz⟩ := hheap6.hp_cells
      have HH6 := Lib.hid hheap6
      have HA6 := Lib.hid hat6
      clear hheap6
      by_cases hz : z.k = 0
      · have e0 : (z.k == 0) = true := by rw [hz]; rfl
        rcases hfl with ⟨rfl, hl⟩ | ⟨j, hj, rfl, hkj, hl⟩
        · have HG : Hid (SetP W hp s limit F o k x (.returned (.int .i64 0)) w6) := by
            unfold SetP
            rw [HSET.out]
            try simp only
            rw [if_pos hz, erase_none (look_none_iff hl)]
            have e4 := HY.out.obAt
            have e5 : setKV ob.ob (kvs T.l) = ob.ob := by unfold setKV; rw [← e4.2.1]
            rw [e5, set_same _ _ _ e4.2.2.2]
            exact ⟨rfl, HStep.of_below HI.out T6.out.below⟩
          clear hl hz hat6
          go_wp2_with fail
          go_ret
          exact HG.out
        · obtain ⟨_, _, hdd, _, hk1, hk2, _⟩ := kvs_cut hkj HY.out.ok.once
          have HE : Hid (setS s limit o k x = (0, s.set i (setKV ob.ob (kvs (kill T.l j))))) := by
            show setS s limit o k x = _
            rw [HSET.out]
            try simp only
            rw [if_pos hz, hk1]
          have HK2 := Lib.hid hk2
          clear hl hz hk1 hk2 hkj
          go_wp2_with fail
          refine (drop_walk l.p T _ _ _ j w6 hat6 HY.out.ok hj hdd).mono ?_
          rintro e w7 ⟨rfl, array, av', d1, d2, d3, d4⟩
          have hfin := HY.out.finish T6.out.below d4 (fun b hb => by
            rcases List.mem_cons.1 hb with c | c
            · rw [c]; exact List.mem_cons_self ..
            · exact List.mem_cons_of_mem _ (List.mem_append_left _ c)) d1 d2 (fun b hb => .inl (by
            unfold foot at hb ⊢
            rw [d3] at hb
            exact hb)) rfl
          obtain ⟨m1, m2⟩ := hfin
          rw [← hu.out] at m1
          obtain ⟨m3, m4⟩ := m1.setUsed (u - 1)
          have hfinal : Hid (SetP W hp s limit F o k x (.returned (.int .i64 0)) (w7.setCell ⟨hp, 1, none⟩ (.int .i64 (u - 1)))) := by
            unfold SetP
            rw [HE.out]
            refine ⟨rfl, m2 _ (u - 1) m3 m4 ?_ (by omega)⟩
            have := HK2.out
            have := hu.out
            show u - 1 + ((kvs T.l).length : Nat) = _ + ((kvs (kill T.l j)).length : Nat)
            omega
          obtain ⟨n0, n1, n2, nf⟩ := m1.hp_cells
          clear d1 d2 d3 d4 m1 m2 m3 m4 hat6
          go_wp2_with fail
          go_ret
          exact hfinal.out
      · have e0 : (z.k == 0) = false := by rw [beq_eq_false_iff_ne]; exact hz
        rcases hfl with ⟨rfl, hl⟩ | ⟨j, hj, rfl, hkj, hl⟩
        · -- a new key
          have hroom := fun w (hw : HeapAt w hp os v u limit) => room_walk (n := 1) hu0 hul hlim w hw
          by_cases hrm : u + 1 ≤ limit
          · have hd : decide ((1 : Int) ≤ limit - u) = true := by rw [decide_eq_true_eq]; omega
            have HE : Hid (setS s limit o k x = (0, s.set i (setKV ob.ob (kvs T.l ++ [(y, z)])))) := by
              show setS s limit o k x = _
              rw [HSET.out]
              try simp only
              rw [if_neg hz, hl]
              try simp only
              rw [← hu.out, if_pos hrm]
            have Hno : Hid (∀ q : Nat, (kds T.l)[q]? ≠ some (some y)) := by
              intro q hq
              obtain ⟨_, _, _, h4, _⟩ := kvs_cut hq HY.out.ok.once
              rw [hl] at h4; cases h4
            rw [hd] at hroom
            clear hl hz hd
            go_wp2_with fail
            refine (hroom _ HH6.out).mono ?_
            rintro e w7 ⟨rfl, m, rfl⟩
            have hb7 : Below w6.heap.size w6 (w6.drewN m) := Below.drewN (Below.refl _ _) m
            have T7 := Lib.hid (T6.out.step hb7)
            generalize w6.drewN m = w7 at hb7 T7 ⊢
            obtain ⟨b0, b1, b2, b3, b4, b5, b6, b7, bf, cf⟩ := T7.out.facts
            have hat7 := HY.out.at_.kept (B := []) (Chg.of_below T7.out.below) (fun _ _ => List.not_mem_nil)
            clear p0 p1 p2 p3 q0 q1 q2 q3 pf qf g0 g1 g2 gfz hb7 hroom hat6
            go_wp2_with fail
            have hlen4 : (liveL T.l).length ≤ 4194303 := by
              have e4 := HY.out.obAt
              have e5 := usedOf_mem s i _ e4.2.2.2
              have e6 : ob.ob.cells = 1 + ob.ob.kv.length + ob.ob.slots.length := rfl
              rw [e4.2.1] at e6
              have e7 : (kvs T.l).length = (liveL T.l).length := List.length_map ..
              have := hu.out
              omega
            refine (add_walk l.p T _ _ _ y z w7 hat7 HY.out.ok hlen4 hky Hno.out).mono ?_
            rintro e w8 ⟨rfl, T', lv', hv', av', d1, d2, d3, d4, d5⟩
            have hkv' : kvs T'.l = kvs T.l ++ [(y, z)] := by
              show ((liveL T'.l).map fun e => (e.key, e.val)) = _
              rw [d3, kvs_add]
            obtain ⟨m1, m2⟩ := HY.out.finish T7.out.below d4 (fun b hb => hb) d1 d2 d5 hkv'
            rw [← hu.out] at m1
            obtain ⟨m3, m4⟩ := m1.setUsed (u + 1)
            have hfinal : Hid (SetP W hp s limit F o k x (.returned (.int .i64 0)) (w8.setCell ⟨hp, 1, none⟩ (.int .i64 (u + 1)))) := by
              unfold SetP
              rw [HE.out]
              refine ⟨rfl, m2 _ (u + 1) m3 m4 ?_ (by omega)⟩
              have := hu.out
              show u + 1 + ((kvs T.l).length : Nat) = _ + ((kvs T.l ++ [(y, z)]).length : Nat)
              rw [List.length_append, List.length_singleton]
              omega
            obtain ⟨n0, n1, n2, nf⟩ := m1.hp_cells
            clear d1 d2 d3 d4 d5 m1 m2 m3 m4 hkv' hat7 b0 b1 b2 b3 b4 b5 b6 b7 bf cf
            go_wp2_with fail
            go_ret
            exact hfinal.out
          · have hd : decide ((1 : Int) ≤ limit - u) = false := by rw [decide_eq_false_iff_not]; omega
            have HE : Hid (setS s limit o k x = (2, s)) := by
              show setS s limit o k x = _
              rw [HSET.out]
              try simp only
              rw [if_neg hz, hl]
              try simp only
              rw [← hu.out, if_neg hrm]
            rw [hd] at hroom
            clear hl hz hd
            go_wp2_with fail
            refine (hroom _ HH6.out).mono ?_
            rintro e w7 ⟨rfl, m, rfl⟩
            have HG : Hid (SetP W hp s limit F o k x (.returned (.int .i64 2)) (w6.drewN m)) := by
              unfold SetP
              rw [HE.out]
              exact ⟨rfl, HStep.of_below HI.out (Below.drewN T6.out.below m)⟩
            clear hroom hat6
            go_wp2_with fail
            go_ret
            exact HG.out
        · -- the key's value turns
          obtain ⟨_, _, hdd, _, _, _, hk3⟩ := kvs_cut hkj HY.out.ok.once
          obtain ⟨hk4, hk5⟩ := hk3 z
          have HE : Hid (setS s limit o k x = (0, s.set i (setKV ob.ob (kvs (T.l.set j { T.l[j] with val := z }))))) := by
            show setS s limit o k x = _
            rw [HSET.out]
            try simp only
            rw [if_neg hz, hl]
            try simp only
            rw [hk4]
          have hlen := HY.out.ok.len
          obtain ⟨ad, cap, hlv, c1, c2, c3⟩ := row_form hat6.l
          rw [c3 (by omega)] at hlv
          obtain ⟨n6, hp6⟩ := hat6.head
          have u0 : w6.cell? ⟨l.p, 0, none⟩ = some (.slice (some ⟨vb l.lv, 0, none⟩) T.l.length cap) := by rw [cell_of hp6, ← hlv]; rfl
          clear hl hz hkj hk3 hdd
          have hrow := hat6.l
          rw [hlv] at hrow
          obtain ⟨z0, z1, z2, z3, z4, z5, z6, z7, z8⟩ := ent_nine hrow hj rfl
          have zf : ∀ q, w6.frozen? ⟨vb l.lv, q, none⟩ = false := fun q => hrow.frozenAt q
          have hat6' := hat6
          rw [hlv] at hat6'
          obtain ⟨d1, d4⟩ := hat6'.setVal hj z
          have hown : ∀ b ∈ [vb l.lv], b ∈ own l.lv := fun b hb => by
            rw [hlv]; exact hb
          obtain ⟨m1, m2⟩ := HY.out.finish T6.out.below d4 (fun b hb => List.mem_cons_of_mem _ (List.mem_append_left _ (hown b hb))) d1 (HY.out.ok.val z hj) (fun b hb => .inl (by
            rw [← hlv] at hb; exact hb)) rfl
          have hfinal : Hid (∀ m, SetP W hp s limit F o k x (.returned (.int .i64 0)) ((w6.setCells (vb l.lv) (j * 9 + 4) z.cs).drewN m)) := by
            intro m
            unfold SetP
            rw [HE.out]
            refine ⟨rfl, ?_⟩
            refine (m2 _ _ m1 (Chg.refl _ _) ?_ HY.out.used).then (Below.drewN (Below.refl _ _) m)
            rw [hk5]
          have hj0 : (0 : Int) ≤ (j : Int) := Int.natCast_nonneg _
          have hj1 : (j : Int) < (T.l.length : Int) := by omega
          clear hat6 hat6' hrow hlv c3 d1 d4 hown m1 m2 hk4 hk5 hp6 HE HA6 HH6 g0 g1 g2 gfz z0 z1 z2 z3 z8
          go_upto_region 16 with fail
          go_region_law (fail)
          all_goals
            go_wp2_with fail
            go_ret
            exact hfinal.out 1
end Go.Proofs.Ytlihonbmopeemaa.Hp
end
section
namespace Go.Proofs.Ytlihonbmopeemaa.Hp
open Go Go.RowKit Go.Proofs.Ytlihonbmopeemaa.HpLaw Go.Proofs.Ytlihonbmopeemaa.Ans Go.Proofs.Ytlihonbmopeemaa.Num Go.Proofs.Ytlihonbmopeemaa.DigLaw Go.Proofs.Ytlihonbmopeemaa.Fl Go.Proofs.Ytlihonbmopeemaa.Dig Go.Proofs.Ytlihonbmopeemaa.Float Go.Proofs.Ytlihonbmopeemaa.Ref Go.Proofs.YtlihonbmopeemaaW.PrintWords Go.Proofs.YtlihonbmopeemaaW.PrintLast Go.Proofs.YtlihonbmopeemaaW.PrintMore

def numV (n : Int) : Val := ⟨3, ((fromI n : Nat) : Int), E3, 0⟩
theorem numV_key (j : Nat) : numV (j : Int) = numKey j := rfl
theorem numV_ok (n : Int) : VOK (numV n) := ⟨⟨fromI n, rfl, fromI_lt n⟩, by show (0 : Nat) ≤ maxLen; exact Nat.zero_le _⟩
theorem numV_norm (n : Int) : normV (numV n) = numV n := by
  have h : canonW ((fromI n : Nat) : Int).toNat = fromI n := by rw [Int.toNat_natCast]; exact canon_num (fromI_ok _)
  show (if (3 : Int) = 1 ∨ (3 : Int) = 2 then _ else if (3 : Int) = 3 then (⟨3, ((canonW ((fromI n : Nat) : Int).toNat : Nat) : Int), E3, 0⟩ : Val) else _) = _
  rw [if_neg (by decide), if_pos rfl, h]; rfl
theorem rg_fromI {n : Int} (h : n.natAbs ≤ 9007199254740992) (h0 : rg (fromI n) = 0) : n = 0 := by
  have e := toI_fromI h
  obtain ⟨_, hv, _⟩ := toI_back (a := fromI n) (by rw [e])
  rw [e] at hv
  have hz : Vi (fromI n) = 0 := by
    unfold Vi
    rw [h0, show V 0 = 0 from rfl]
    unfold sn
    split <;> rfl
  rw [hz] at hv
  have hU : (0 : Int) < (U : Int) := by have := U_pos; omega
  rcases Int.lt_trichotomy n 0 with c | c | c
  · have := Int.mul_neg_of_neg_of_pos c hU
    simp only at hv
    omega
  · exact c
  · have := Int.mul_pos c hU
    simp only at hv
    omega
theorem fromI_zero : fromI 0 = 0 := by
  unfold fromI
  rw [show Int.natAbs 0 = 0 from rfl, rung_zero]; rfl
theorem numV_keyV {n : Int} (h : n.natAbs ≤ 9007199254740992) : keyV (numV n) = some (numV n) := by
  unfold keyV keyY
  rw [numV_norm]
  have e : (numV n).n.toNat = fromI n := Int.toNat_natCast _
  rw [e]
  have h4 : kindN (fromI n) ≠ 4 := fun c => by
    have := (nan_kind _).1 c
    have := fromI_ok n
    omega
  rw [if_neg (fun c => c.elim (fun c => by have c' : (3 : Int) = 0 := c; omega) (fun c => h4 c.2))]
  by_cases z : kindN (fromI n) = 0
  · have hn := rg_fromI h ((zero_kind _).1 z)
    subst hn
    rw [if_pos ⟨rfl, z⟩]
    have : (numV 0).n = 0 := by show ((fromI 0 : Nat) : Int) = 0; rw [fromI_zero]; rfl
    show some (⟨3, 0, E3, 0⟩ : Val) = some (numV 0)
    unfold numV
    rw [fromI_zero]; rfl
  · rw [if_neg (fun c => z c.2)]
theorem numV_inj {a b : Int} (ha : a.natAbs ≤ 9007199254740992) (hb : b.natAbs ≤ 9007199254740992) (h : numV a = numV b) : a = b := by
  have h1 : ((fromI a : Nat) : Int) = ((fromI b : Nat) : Int) := congrArg Val.n h
  have h2 : fromI a = fromI b := by omega
  have e1 := toI_fromI ha
  have e2 := toI_fromI hb
  rw [h2, e2] at e1
  exact (congrArg Prod.fst e1).symm
theorem ans_refCanon (a : Nat) (ha : a < Dig.W) : Ans 56 #[.int .u64 a] (.int .u64 (canonW a)) := fun w => by
  have e : (if kindN a = 4 then Dig.NANW else a) = canonW a := by
    by_cases c : kindN a = 4
    · rw [if_pos c, canon_nan ((nan_kind a).1 c)]; rfl
    · rw [if_neg c, canon_num (Nat.le_of_not_lt (fun h => c ((nan_kind a).2 h)))]
  obtain ⟨k, hk⟩ := Ev.rounds (canon_is a ha)
  rw [e] at hk
  exact (minstrelref01_Canon.calls k _ _ w hk).mono fun e w' ⟨h1, h2⟩ => ⟨h1, h2.below⟩
/-- one value in a box of the call's own -/
structure One (W : World) (y : Val) (w : World) : Prop where
  below : Below W.heap.size W w
  fst : w.heap[W.heap.size]? = some (.cells #[.int .i64 y.k, .int .u64 y.n, .string y.s, .int .i64 y.o] 34 (0, 0))
theorem One.start (W : World) (y : Val) : One W y (W.alloc (Obj.cells #[.int .i64 y.k, .int .u64 y.n, .string y.s, .int .i64 y.o] 34)) := ⟨(Below.refl _ _).alloc (Nat.le_refl _) _, heap_alloc_new _ _⟩
theorem One.size {W : World} {y : Val} {w : World} (h : One W y w) : W.heap.size + 1 ≤ w.heap.size := (Array.getElem?_eq_some_iff.1 h.fst).1
theorem One.step {W : World} {y : Val} {w w' : World} (h : One W y w) (hb : Below w.heap.size w w') : One W y w' := by
  have := h.size
  exact ⟨h.below.trans (hb.mono (by omega)), (hb.block _ (by omega)).trans h.fst⟩
theorem One.put {W : World} {y : Val} {w : World} (h : One W y w) (x : Val) : One W x (put4 w W.heap.size x) := ⟨put4_below h.below (Nat.le_refl _) x, put4_block h.fst x⟩
theorem One.facts {W : World} {y : Val} {w : World} (h : One W y w) :
    w.cell? ⟨W.heap.size, 0, none⟩ = some (.int .i64 y.k) ∧ w.cell? ⟨W.heap.size, 1, none⟩ = some (.int .u64 y.n) ∧ w.cell? ⟨W.heap.size, 2, none⟩ = some (.string y.s) ∧ w.cell? ⟨W.heap.size, 3, none⟩ = some (.int .i64 y.o) ∧
    (∀ o, w.frozen? ⟨W.heap.size, o, none⟩ = false) := by
  obtain ⟨a1, a2, a3, a4⟩ := cells4 h.fst
  exact ⟨a1, a2, a3, a4, fun o => frozen_of h.fst o⟩
theorem refNum_any (a : Nat) (ha : a < Dig.W) (W : World) : Calls Try.prog 31 #[.int .u64 a] W (ValP W ⟨3, ((canonW a : Nat) : Int), E3, 0⟩) := by
  have t0 := Lib.hid (One.start W nilV)
  go_enter Try.func31, Try.ntmps31
  go_wp2_with fail
  refine ((ans_refCanon a ha).at _).mono ?_
  rintro e w1 ⟨rfl, h1⟩
  have T1 := Lib.hid (t0.out.step h1)
  obtain ⟨q0, q1, q2, q3, qf⟩ := T1.out.facts
  have T2 := Lib.hid (T1.out.put ⟨3, ((canonW a : Nat) : Int), ⟨#[]⟩, 0⟩)
  obtain ⟨s0, s1, s2, s3, _⟩ := T2.out.facts
  clear h1
  go_wp2_with fail
  rw [put4_mk]
  exact bodyPost_ret (v := Val.v ⟨3, ((canonW a : Nat) : Int), E3, 0⟩) (by simp [results, Try.results31, go_sem, Val.out, s0, s1, s2, s3, E3]) rfl ⟨rfl, T2.out.below⟩
theorem Number_any (n : Int) (h0 : -9223372036854775808 ≤ n) (h1 : n < 9223372036854775808) (W : World) : Calls Try.prog 10 #[.int .i64 n] W (ValP W (numV n)) := by
  have t0 := Lib.hid (One.start W nilV)
  go_enter Try.func10, Try.ntmps10
  go_wp2_with fail
  refine ((ans_refFromInt n h0 h1).at _).mono ?_
  rintro e w1 ⟨rfl, h1⟩
  have T1 := Lib.hid (t0.out.step h1)
  clear h1
  go_wp2_with fail
  refine (refNum_any _ (fromI_lt n) _).mono ?_
  rintro e w2 ⟨rfl, h2⟩
  rw [show canonW (fromI n) = fromI n from canon_num (fromI_ok n), show (⟨3, ((fromI n : Nat) : Int), E3, 0⟩ : Val) = numV n from rfl]
  obtain ⟨y, Hy⟩ : ∃ y, Hid (y = numV n) := ⟨_, Lib.hid rfl⟩
  rw [← Hy.out, Val.out]
  have T2 := Lib.hid (T1.out.step h2)
  obtain ⟨q0, q1, q2, q3, qf⟩ := T2.out.facts
  have T3 := Lib.hid (T2.out.put y)
  obtain ⟨s0, s1, s2, s3, _⟩ := T3.out.facts
  clear h2
  go_wp2_with fail
  rw [put4_eq]
  exact bodyPost_ret (v := y.v) (by simp [results, Try.results10, go_sem, Val.out, s0, s1, s2, s3]) rfl ⟨by rw [Hy.out], T3.out.below⟩
end Go.Proofs.Ytlihonbmopeemaa.Hp
end
section
namespace Go.Proofs.Ytlihonbmopeemaa.Hp
open Go Go.RowKit Go.Proofs.Ytlihonbmopeemaa.HpLaw Go.Proofs.Ytlihonbmopeemaa.Ans Go.Proofs.Ytlihonbmopeemaa.Num Go.Proofs.Ytlihonbmopeemaa.DigLaw Go.Proofs.Ytlihonbmopeemaa.Fl Go.Proofs.Ytlihonbmopeemaa.Dig Go.Proofs.Ytlihonbmopeemaa.Float
attribute [local go_sem high] eqV

theorem heap_new {W w : World} {limit : Int} (h0 : 0 ≤ limit) (h1 : limit ≤ 1048576) (h : HeapAt w W.heap.size [] (.slice none 0 0) 0 limit) : HeapIs w W.heap.size [] limit [W.heap.size] :=
  ⟨[], .slice none 0 0, h, rfl, rfl, h0, h1⟩
theorem used_is {W : World} {hp : Nat} {s : List Ob} {limit : Int} {F : List Nat} (h : HeapIs W hp s limit F) : Calls Try.prog 18 #[.pointer (some ⟨hp, 0, none⟩)] W fun e w' => e = .returned (.int .i64 ((usedOf s : Nat) : Int)) ∧ W = w' := by
  obtain ⟨os, v, h1, h2, h3, h4, h5⟩ := h
  exact used_walk W h1
/-- what a step leaves, for the next -/
theorem HStep.next {W w : World} {hp : Nat} {limit : Int} {F : List Nat} {s : List Ob} (h : HStep W hp limit F s w) {N : Nat} (hN : N ≤ W.heap.size) (hF : ∀ b ∈ F, N ≤ b) : ∃ F', HeapIs w hp s limit F' ∧ Below N W w ∧ (∀ b ∈ F', N ≤ b) := by
  obtain ⟨F', h1, h2, h3⟩ := h
  refine ⟨F', h1, h2.below_of hN hF, fun b hb => ?_⟩
  rcases h3 b hb with c | c
  · exact hF b c
  · omega
def T1 : Ob := ⟨5, [(numV 1, numV 5)], nilV, 0, 0, []⟩
theorem numV_ne {a b : Int} (ha : a.natAbs ≤ 9007199254740992) (hb : b.natAbs ≤ 9007199254740992) (h : a ≠ b) : numV a ≠ numV b := fun e => h (numV_inj ha hb e)
theorem lives_facts : tableR [] 10 = (1, 0, [tabOb]) ∧ setS [tabOb] 10 1 (numV 1) (numV 5) = (0, [T1]) ∧ getS [T1] 1 (numV 1) = numV 5 ∧ usedOf [T1] = 2 ∧ ∀ n, SizeIs [T1] 1 n → n = 1 := by
  have k1 := numV_keyV (n := 1) (by decide)
  refine ⟨rfl, ?_, ?_, rfl, ?_⟩
  · unfold setS
    rw [show obAt [tabOb] 1 = some tabOb from rfl, k1, numV_norm]
    simp only
    rw [if_pos (show tabOb.kind = 5 from rfl), if_neg (show ¬ (numV 5).k = 0 by show ¬ (3 : Int) = 0; omega)]
    rfl
  · unfold getS
    rw [show obAt [T1] 1 = some T1 from rfl, k1]
    show (lookKV [(numV 1, numV 5)] (numV 1)).getD nilV = numV 5
    rw [look_hit]; rfl
  · intro n hn
    unfold SizeIs at hn
    rw [show obAt [T1] 1 = some T1 from rfl] at hn
    simp only at hn
    obtain ⟨h1, h2, h3⟩ := hn
    have hk : ∀ m : Int, m.natAbs ≤ 9007199254740992 → m ≠ 1 → lookKV T1.kv (numV m) = none := by
      intro m hm hne
      refine look_none fun x hx => ?_
      have : x = (numV 1, numV 5) := List.mem_singleton.1 hx
      rw [this]
      exact numV_ne (by decide) hm (fun e => hne e.symm)
    have hy : lookKV T1.kv (numV 1) = some (numV 5) := look_hit _ _ _
    rcases Nat.lt_trichotomy n 1 with c | c | c
    · have : n = 0 := by omega
      subst this
      have h2' : lookKV T1.kv (numV 1) = none := h2
      rw [hy] at h2'; cases h2'
    · exact c
    · obtain ⟨v, hv⟩ := h1 1 c
      have e : numKey (1 + 1) = numV 2 := rfl
      rw [e, hk 2 (by decide) (by decide)] at hv
      cases hv
def LivesP (W : World) (e : Ending) (w' : World) : Prop := e = .returned (.bool true) ∧ Below W.heap.size W w'
set_option maxHeartbeats 1000000 in
theorem lives_any (W : World) : Calls Try.prog 13 #[] W (LivesP W) := by
  obtain ⟨f1, f2, f3, f4, f5⟩ := lives_facts
  have F1 := Lib.hid f1
  have F2 := Lib.hid f2
  have F3 := Lib.hid f3
  have F4 := Lib.hid f4
  have F5 := Lib.hid f5
  clear f1 f2 f3 f4 f5
  go_enter Try.func13, Try.ntmps13
  go_wp2_with fail
  refine (new_yes 10 (by decide) (by decide) W).mono ?_
  rintro e w1 ⟨rfl, h1, b1⟩
  have H1 := Lib.hid (heap_new (by decide) (by decide) h1)
  have hb1 : ∀ b ∈ [W.heap.size], W.heap.size ≤ b := fun b hb => by rw [List.mem_singleton.1 hb]; exact Nat.le_refl _
  have HB1 := Lib.hid hb1
  clear h1 hb1
  go_wp2_with fail
  refine (table_walk w1 H1.out).mono ?_
  rintro e w2 ⟨rfl, h2⟩
  rw [F1.out] at h2 ⊢
  obtain ⟨F', h2, b2, hF2⟩ := h2.next b1.size HB1.out
  have H2 := Lib.hid h2
  have HF2 := Lib.hid hF2
  have B2 := Lib.hid (b1.trans b2)
  clear h2 hF2 b1 b2
  go_wp2_with fail
  refine (Number_any 1 (by decide) (by decide) w2).mono ?_
  rintro e w3 ⟨rfl, b3⟩
  have H3 := Lib.hid (H2.out.kept (B := []) (Chg.of_below b3) (fun _ _ => List.not_mem_nil))
  have B3 := Lib.hid (B2.out.trans (b3.mono B2.out.size))
  clear b3
  go_wp2_with fail
  refine (Number_any 5 (by decide) (by decide) w3).mono ?_
  rintro e w4 ⟨rfl, b4⟩
  have H4 := Lib.hid (H3.out.kept (B := []) (Chg.of_below b4) (fun _ _ => List.not_mem_nil))
  have B4 := Lib.hid (B3.out.trans (b4.mono B3.out.size))
  clear b4
  go_wp2_with fail
  refine (set_walk 1 (numV 1) (numV 5) (numV_ok 1) (numV_ok 5) w4 H4.out).mono ?_
  rintro e w5 ⟨rfl, h5⟩
  rw [F2.out] at h5 ⊢
  obtain ⟨F5', h5, b5, hF5⟩ := h5.next B4.out.size HF2.out
  have H5 := Lib.hid h5
  have B5 := Lib.hid (B4.out.trans b5)
  clear h5 hF5 b5
  go_wp2_with fail
  refine (Number_any 1 (by decide) (by decide) w5).mono ?_
  rintro e w6 ⟨rfl, b6⟩
  have H6 := Lib.hid (H5.out.kept (B := []) (Chg.of_below b6) (fun _ _ => List.not_mem_nil))
  have B6 := Lib.hid (B5.out.trans (b6.mono B5.out.size))
  clear b6
  go_wp2_with fail
  refine (Get_walk 1 (numV 1) (numV_ok 1) w6 H6.out).mono ?_
  rintro e w7 ⟨rfl, b7⟩
  have H7 := Lib.hid (H6.out.kept (B := []) (Chg.of_below b7) (fun _ _ => List.not_mem_nil))
  have B7 := Lib.hid (B6.out.trans (b7.mono B6.out.size))
  clear b7
  rw [F3.out]
  obtain ⟨y, Hy⟩ : ∃ y, Hid (y = numV 5) := ⟨_, Lib.hid rfl⟩
  rw [← Hy.out, Val.out]
  go_wp2_with fail
  refine (Number_any 5 (by decide) (by decide) w7).mono ?_
  rintro e w8 ⟨rfl, b8⟩
  have H8 := Lib.hid (H7.out.kept (B := []) (Chg.of_below b8) (fun _ _ => List.not_mem_nil))
  have B8 := Lib.hid (B7.out.trans (b8.mono B7.out.size))
  clear b8
  rw [← Hy.out, Val.out]
  have hs : sameV ⟨y.k, y.n, y.s, y.o⟩ ⟨y.k, y.n, y.s, y.o⟩ = true := sameV_self y
  go_wp2_with fail
  refine (size_walk 1 w8 H8.out).mono ?_
  rintro e w9 ⟨n, rfl, hn, rfl⟩
  obtain rfl := F5.out n hn
  go_wp2_with fail
  refine (used_is H8.out).mono ?_
  rintro e w9 ⟨rfl, rfl⟩
  rw [F4.out]
  go_wp2_with fail
  go_ret
  exact ⟨rfl, B8.out⟩
end Go.Proofs.Ytlihonbmopeemaa.Hp
end
