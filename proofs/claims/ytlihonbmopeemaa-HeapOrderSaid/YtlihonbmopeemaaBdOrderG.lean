/- Texts on OrderG, joined. No conditions but those that each theorem states. -/
import Derived.Test.YtlihonbmopeemaaBdAsksG
import Derived.Test.YtlihonbmopeemaaBdObjG
import Derived.Test.YtlihonbmopeemaaBdSideD
import Derived.Test.YtlihonbmopeemaaBdHeapC
import Derived.Deep.CutBlock
section
namespace Go.Proofs.Ytlihonbmopeemaa.Hp
open Go Go.RowKit Go.Proofs.Ytlihonbmopeemaa.HpLaw Go.Proofs.Ytlihonbmopeemaa.Ans Go.Proofs.Ytlihonbmopeemaa.Num Go.Proofs.Ytlihonbmopeemaa.DigLaw Go.Proofs.Ytlihonbmopeemaa.Fl Go.Proofs.Ytlihonbmopeemaa.Dig Go.Proofs.Ytlihonbmopeemaa.Float
attribute [local go_sem ↓] Go.wp_at_zero Go.wp_at_succ
set_option linter.unusedSimpArgs false

theorem Joint.below {N hp d : Nat} {s : List Ob} {limit : Int} {W w : World} (h : Joint N hp d s limit W) (hb : Below W.heap.size W w) : Joint N hp d s limit w := by
  obtain ⟨F, G, h1, h2, h3, h4, h5⟩ := h
  exact ⟨F, G, h1.kept (B := []) (Chg.of_below hb) (fun _ _ => List.not_mem_nil), h2.below hb, h3, h4, h5⟩
theorem joint_made {W w1 : World} {L : Int} (h0 : 0 ≤ L) (h1 : L ≤ 1048576) (h : HeapIs w1 W.heap.size [] L [W.heap.size]) (hb : Below W.heap.size W w1) : Joint W.heap.size W.heap.size w1.heap.size [] L (w1.alloc (Obj.cells #[.slice none 0 0, .int .i64 L] 49)) := by
  have hbl : Below w1.heap.size w1 (w1.alloc (Obj.cells #[.slice none 0 0, .int .i64 L] 49)) := (Below.refl _ _).alloc (Nat.le_refl _) _
  have hs := hb.size
  have hlt := h.lt W.heap.size (List.mem_singleton.2 rfl)
  refine ⟨[W.heap.size], rfoot w1.heap.size (.slice none 0 0) [], h.kept (B := []) (Chg.of_below hbl) (fun _ _ => List.not_mem_nil),
    ⟨[], .slice none 0 0, ⟨heap_alloc_new _ _, World.ownsRow_nil _ _ _ _, (fun x hx => by cases hx), List.not_mem_nil, (fun x hx => by cases hx)⟩, rfl, rfl, h0, h1⟩, fun b hb' e => ?_, fun b hb' => by rw [List.mem_singleton.1 hb']; exact Nat.le_refl _, fun b hb' => ?_⟩
  · rw [List.mem_singleton.1 hb'] at e
    rcases rfoot_cases e with c | c | ⟨x, hx, _⟩
    · omega
    · cases c
    · cases hx
  · rcases rfoot_cases hb' with c | c | ⟨x, hx, _⟩
    · rw [c]; exact hs
    · cases c
    · cases hx
/-- what the calls leave: both heaps, that hold the same -/
def GoesP (W : World) (e : Ending) (w' : World) : Prop := ∃ hp d s, e = .returned (.tuple #[.pointer (some ⟨hp, 0, none⟩), .pointer (some ⟨d, 0, none⟩), .bool true]) ∧ Joint W.heap.size hp d s 1000 w' ∧ Below W.heap.size W w' ∧ NormS s
set_option maxHeartbeats 4000000 in
set_option maxRecDepth 100000 in
theorem goes_walk (a1 : Option Addr) (len1 cap1 : Nat) (W : World) (h1 : ActsAt W a1 len1 cap1) :
    Calls Try.prog 20 #[.int .i64 1000, .slice a1 len1 cap1] W (GoesP W) := by
  have H1 := Lib.hid h1
  have hm1 := h1.most
  have hl1 := h1.le
  clear h1
  go_enter Try.func20, Try.ntmps20
  go_wp2_with fail
  have hL0 : (0 : Int) ≤ 1000 := by decide
  have hL1 : (1000 : Int) ≤ 1048576 := by decide
  refine (new_yes 1000 hL0 hL1 W).mono ?_
  rintro e w1 ⟨rfl, k1, b1⟩
  have HJ := Lib.hid (joint_made hL0 hL1 (heap_new hL0 hL1 k1) b1)
  have HB : Hid (Below W.heap.size W (w1.alloc (Obj.cells #[.slice none 0 0, .int .i64 1000] 49))) := b1.trans (((Below.refl _ _).alloc (Nat.le_refl _) _).mono b1.size)
  obtain ⟨hp, Hp⟩ : ∃ hp, Hid (hp = W.heap.size) := ⟨_, Lib.hid rfl⟩
  obtain ⟨d, Hd⟩ : ∃ d, Hid (d = w1.heap.size) := ⟨_, Lib.hid rfl⟩
  have HJ2 : Hid (Joint W.heap.size hp d [] 1000 (w1.alloc (Obj.cells #[.slice none 0 0, .int .i64 1000] 49))) := by
    show Joint _ _ _ _ _ _
    rw [Hp.out, Hd.out]
    exact HJ.out
  rw [← Hp.out]
  clear k1 b1 HJ
  go_wp2_with fail
  rw [← Hd.out]
  go_loopw [10] (fun i wr => ∃ (k : Nat) (s : List Ob), k ≤ 400 ∧ k ≤ len1 ∧ i = .int .i64 k ∧ Joint W.heap.size hp d s 1000 wr ∧ Below W.heap.size W wr ∧ PlainS s ∧ NormS s) (fun i _ => len1 - (intOf i).toNat)
  case atStart => exact ⟨0, [], by omega, by omega, rfl, HJ2.out, HB.out, PlainS.nil, NormS.nil⟩
  case round =>
    obtain ⟨k, s, hk2, hkl, rfl, hJ, hB, hPl, hNm⟩ := hrel
    clear HJ2 HB
    have HJ := Lib.hid hJ
    have HB := Lib.hid hB
    have HPl := Lib.hid hPl
    have HNm := Lib.hid hNm
    clear hJ hB hPl hNm
    by_cases hlt : k < len1 ∧ k < 400
    · obtain ⟨ha, hb⟩ := hlt
      obtain ⟨x, y, rfl, ok, ov, hc⟩ := H1.out.cell k ha
      have HQ : Hid (∀ w', Below W.heap.size W w' → w'.cell? (x.add (k * 13)) = some (.int .i64 y.kind) ∧ w'.cell? ⟨(x.add (k * 13)).block, (x.add (k * 13)).off + 1, none⟩ = some (.int .i64 y.o) ∧ w'.cell? ⟨(x.add (k * 13)).block, (x.add (k * 13)).off + 2, none⟩ = some (.int .i64 y.a) ∧ w'.cell? ⟨(x.add (k * 13)).block, (x.add (k * 13)).off + 3, none⟩ = some (.int .i64 y.b) ∧
          w'.cell? ⟨(x.add (k * 13)).block, (x.add (k * 13)).off + 4, none⟩ = some (.int .i64 y.n) ∧ w'.cell? ⟨(x.add (k * 13)).block, (x.add (k * 13)).off + 5, none⟩ = some (.int .i64 y.k.k) ∧ w'.cell? ⟨(x.add (k * 13)).block, (x.add (k * 13)).off + 6, none⟩ = some (.int .u64 y.k.n) ∧ w'.cell? ⟨(x.add (k * 13)).block, (x.add (k * 13)).off + 7, none⟩ = some (.string y.k.s) ∧
          w'.cell? ⟨(x.add (k * 13)).block, (x.add (k * 13)).off + 8, none⟩ = some (.int .i64 y.k.o) ∧ w'.cell? ⟨(x.add (k * 13)).block, (x.add (k * 13)).off + 9, none⟩ = some (.int .i64 y.v.k) ∧ w'.cell? ⟨(x.add (k * 13)).block, (x.add (k * 13)).off + 10, none⟩ = some (.int .u64 y.v.n) ∧ w'.cell? ⟨(x.add (k * 13)).block, (x.add (k * 13)).off + 11, none⟩ = some (.string y.v.s) ∧
          w'.cell? ⟨(x.add (k * 13)).block, (x.add (k * 13)).off + 12, none⟩ = some (.int .i64 y.v.o)) := by
        intro w' hb'
        have hw : ∀ (j : Nat) u, y.cs[j]? = some u → w'.cell? ((x.add (k * 13)).add j) = some u := by
          intro j u hj
          have h := hc j u hj
          rw [hb'.cell (p := (x.add (k * 13)).add j) (World.block_lt_of_cell? W _ h)]; exact h
        exact ⟨hw 0 _ rfl, hw 1 _ rfl, hw 2 _ rfl, hw 3 _ rfl, hw 4 _ rfl, hw 5 _ rfl, hw 6 _ rfl, hw 7 _ rfl, hw 8 _ rfl, hw 9 _ rfl, hw 10 _ rfl, hw 11 _ rfl, hw 12 _ rfl⟩
      obtain ⟨q0, q1, q2, q3, q4, q5, q6, q7, q8, q9, q10, q11, q12⟩ := HQ.out wr HB.out
      clear hc
      have hka : (0 : Int) ≤ (k : Int) := Int.natCast_nonneg _
      have hkb : (k : Int) < (len1 : Int) := by omega
      go_upto_region 10 with fail
      have hD := does_walk y ok ov wr HJ.out
      unfold ActV.val ActV.cs at hD
      obtain ⟨t, Ht⟩ : ∃ t, Hid (t = actS s 1000 y) := ⟨_, Lib.hid rfl⟩
      rw [← Ht.out] at hD
      have HPl2 : Hid (PlainS t) := by
        show PlainS t
        rw [Ht.out]; exact actS_plain y HPl.out
      have HNm2 : Hid (NormS t) := by
        show NormS t
        rw [Ht.out]; exact actS_norm y HNm.out
      go_wp2_with fail
      refine hD.mono ?_
      rintro e w2 ⟨rfl, hJ2, hB2⟩
      have HB2 := Lib.hid (HB.out.trans hB2)
      have HJ2 := Lib.hid hJ2
      have hA := asks_walk y ok w2 hJ2 HPl2.out
      unfold ActV.val ActV.cs at hA
      clear hD hB2 hJ2 q0 q1 q2 q3 q4 q5 q6 q7 q8 q9 q10 q11 q12 HJ HB
      obtain ⟨q0, q1, q2, q3, q4, q5, q6, q7, q8, q9, q10, q11, q12⟩ := HQ.out w2 HB2.out
      go_wp2_with fail
      refine hA.mono ?_
      rintro e w3 ⟨rfl, hJ3, hB3⟩
      have HB3 := Lib.hid (HB2.out.trans hB3)
      have HJ3 := Lib.hid hJ3
      clear hA hJ3 hB3 q0 q1 q2 q3 q4 q5 q6 q7 q8 q9 q10 q11 q12
      go_wp2_with fail
      go_roundw
      case rel => exact ⟨k + 1, t, by omega, by omega, by go_num, HJ3.out, HB3.out, HPl2.out, HNm2.out⟩
      case measure => simp [intOf]; omega
    · have hstop : k = len1 ∨ k = 400 := by omega
      by_cases hk0 : k < len1
      all_goals
        go_wp2_with fail
        go_loopw [11] (fun i wr => ∃ (m : Nat), i = .int .i64 m ∧ m ≤ s.length + 2 ∧ Joint W.heap.size hp d s 1000 wr ∧ Below W.heap.size W wr) (fun i _ => s.length + 2 - (intOf i).toNat)
      case atStart => exact ⟨0, rfl, by omega, HJ.out, HB.out⟩
      case atStart => exact ⟨0, rfl, by omega, HJ.out, HB.out⟩
      all_goals
        obtain ⟨m, rfl, hm, hJ, hB⟩ := hrel
        clear HJ HB
        have HJ := Lib.hid hJ
        have HBR := Lib.hid hB
        clear hJ hB
        obtain ⟨F, G, h1, h2, -, -, -⟩ := HJ.out
        obtain ⟨ad, cap, c0, hsl⟩ := h2.len
        have HI := Lib.hid h2
        have hOb := object_walk (m : Int) wr h1
        have hwl : IntKind.i64.wrap ((s.length : Int) + 1) = (s.length : Int) + 1 := by rw [IntKind.wrap_i64]; omega
        have hwm : IntKind.i64.wrap ((m : Int) + 1) = (m : Int) + 1 := by rw [IntKind.wrap_i64]; omega
        clear h1 h2
        by_cases hlt : m ≤ s.length + 1
        · have hlt2 : (m : Int) ≤ (s.length : Int) + 1 := by omega
          go_wp2_with fail
          refine hOb.mono ?_
          rintro e w5 ⟨b5, hans⟩
          have HB5 := Lib.hid b5
          clear b5 hOb c0 hwl
          rcases hans with ⟨ho, rfl⟩ | ⟨ob, loc, ho, rfl, hr⟩
          · have HIS : Hid (∀ w, Below w5.heap.size w5 w → Calls Try.prog 46 #[.pointer (some ⟨d, 0, none⟩), .int .i64 (m : Int)] w (BlP w false)) := fun w hb => by
              have := is_walk (m : Int) w (HI.out.below (bthen HB5.out hb))
              rw [ho] at this
              exact this
            clear ho
            unfold rV zeroO nilV
            go_upto_region 16 with fail
            obtain ⟨w6, Hw6⟩ : ∃ w6, Hid (w6 = w5.alloc (.cells #[.int .i64 0, .slice none 0 0, .slice none 0 0, .int .i64 0, .int .u64 0, .string E3, .int .i64 0, .int .i64 0, .int .i64 0, .slice none 0 0] 60)) := ⟨_, Lib.hid rfl⟩
            rw [← Hw6.out]
            have B56 : Hid (Below w5.heap.size w5 w6) := by
              show Below _ _ _
              rw [Hw6.out]; exact (Below.refl _ _).alloc (Nat.le_refl _) _
            obtain ⟨bx, Hbx⟩ : ∃ bx, Hid (bx = w5.heap.size) := ⟨_, Lib.hid rfl⟩
            rw [← Hbx.out]
            refine with_act ?_
            intro a0 HA0
            have e9 : a0.eval (.tmp 9) = .pointer (some ⟨d, 0, none⟩) := by rw [HA0.out]; rfl
            have e11 : a0.eval (.tmp 11) = .int .i64 (m : Int) := by rw [HA0.out]; rfl
            have e12 : a0.eval (.tmp 12) = .pointer (some ⟨bx, 0, none⟩) := by rw [HA0.out]; rfl
            have e13 : a0.eval (.tmp 13) = .bool false := by rw [HA0.out]; rfl
            have hsz : a0.tmps.size = 107 := by rw [HA0.out]; rfl
            have HB := Lib.hid (Below.drew (Below.refl w6.heap.size w6))
            refine wp_region_T 20 (fun w' => Below w6.heap.size w6 w') (by kernel_rfl) (by kernel_rfl) HB.out ?_
            refine runT_takeW 0 84 (.bool false) rfl (by kernel_rfl) (fun _ _ _ h => h) ?_ ?_; rotate_left
            refine runT_takeW 1 85 (.pointer (some ⟨d, 0, none⟩)) rfl (by kernel_rfl) (fun _ _ _ h => h) ?_ ?_; rotate_left
            refine runT_takeW 2 86 (.int .i64 (m : Int)) rfl (by kernel_rfl) (fun _ _ _ h => h) ?_ ?_; rotate_left
            refine runT_one 3 (by kernel_rfl) (by decide) (fun o ho => ?_)
            simp only [List.getElem?_toArray, List.getElem?_cons_succ, List.getElem?_cons_zero, Option.some.injEq] at ho
            subst ho
            refine ⟨?_, fun K hK => ?_⟩; rotate_left
            refine step_call _ Try.func46 (by kernel_rfl) rfl rfl (#[.pointer (some ⟨d, 0, none⟩), .int .i64 (m : Int)]) ?_ ?_; rotate_left
            refine (HIS.out _ (bthen B56.out HB.out)).mono ?_
            rintro e w8 ⟨rfl, b8⟩
            have HB := Lib.hid (bthen HB.out b8)
            clear b8
            refine ⟨_, rfl, hK _ _ HB.out ?_⟩
            refine runT_takeW 4 88 (.bool false) rfl (by kernel_rfl) (fun _ _ _ h => h) ?_ ?_; rotate_left
            refine runT_takeW 5 89 (.bool false) rfl (by kernel_rfl) (fun _ _ _ h => h) ?_ ?_; rotate_left
            refine runT_takeW 6 90 (.bool false) rfl (by kernel_rfl) (fun _ _ _ h => h) ?_ ?_; rotate_left
            refine runT_takeW 7 91 (.bool false) rfl (by kernel_rfl) (fun _ _ _ h => h) ?_ ?_; rotate_left
            refine runT_skip 8 92 rfl (by kernel_rfl) (fun _ _ _ h => h) ?_ ?_; rotate_left
            refine runT_skip 9 93 rfl (by kernel_rfl) (fun _ _ _ h => h) ?_ ?_; rotate_left
            refine runT_skip 10 94 rfl (by kernel_rfl) (fun _ _ _ h => h) ?_ ?_; rotate_left
            refine runT_skip 11 95 rfl (by kernel_rfl) (fun _ _ _ h => h) ?_ ?_; rotate_left
            refine runT_skip 12 96 rfl (by kernel_rfl) (fun _ _ _ h => h) ?_ ?_; rotate_left
            refine runT_skip 13 97 rfl (by kernel_rfl) (fun _ _ _ h => h) ?_ ?_; rotate_left
            refine runT_skip 14 98 rfl (by kernel_rfl) (fun _ _ _ h => h) ?_ ?_; rotate_left
            refine runT_skip 15 99 rfl (by kernel_rfl) (fun _ _ _ h => h) ?_ ?_; rotate_left
            refine runT_skip 16 100 rfl (by kernel_rfl) (fun _ _ _ h => h) ?_ ?_; rotate_left
            refine runT_skip 17 101 rfl (by kernel_rfl) (fun _ _ _ h => h) ?_ ?_; rotate_left
            refine runT_skip 18 102 rfl (by kernel_rfl) (fun _ _ _ h => h) ?_ ?_; rotate_left
            refine runT_takeW 19 103 (.bool false) rfl (by kernel_rfl) (fun _ _ _ h => h) ?_ ?_; rotate_left
            refine runT_done [_] rfl (by kernel_rfl) ?_
            · rw [HA0.out]
              have HE := Lib.hid (bthen HB5.out (bthen B56.out HB.out))
              clear HA0 e9 e11 e12 e13 hsz HIS
              go_wp2_with fail
              go_roundw
              case rel => exact ⟨m + 1, by go_num, by omega, HJ.out.below HE.out, bthen HBR.out HE.out⟩
              case measure => simp [intOf]; omega
            all_goals first
              | (intro w oi hw ho; simp only [List.getElem?_toArray, List.getElem?_cons_succ, List.getElem?_cons_zero, Option.some.injEq] at ho; subst ho; refine ⟨by (first | exact (wanted_of (c := true) rfl rfl (by simp only [put_size, hsz, Nat.reduceLT]) (by repeat (first | (with_reducible exact eval_put_eq _ (by simp only [put_size, hsz, Nat.reduceLT])) | (with_reducible exact e9) | (with_reducible exact e11) | (with_reducible exact e12) | (with_reducible exact e13) | (with_reducible refine (eval_put_ne _ (by decide)).trans ?_)))).trans rfl | exact (wanted_of (c := false) rfl rfl (by simp only [put_size, hsz, Nat.reduceLT]) (by repeat (first | (with_reducible exact eval_put_eq _ (by simp only [put_size, hsz, Nat.reduceLT])) | (with_reducible exact e9) | (with_reducible exact e11) | (with_reducible exact e12) | (with_reducible exact e13) | (with_reducible refine (eval_put_ne _ (by decide)).trans ?_)))).trans rfl | rfl), ?_⟩; skip; unfold execOp; simp only [eval_put_ne, eval_put_eq, put_size, hsz, ne_eq, Nat.reduceEqDiff, not_false_eq_true, reduceCtorEq, Nat.reduceLT, e9, e11, e12, e13]; go_simp)
              | (intro oi ho; simp only [List.getElem?_toArray, List.getElem?_cons_succ, List.getElem?_cons_zero, Option.some.injEq] at ho; subst ho; (first | exact (wanted_of (c := true) rfl rfl (by simp only [put_size, hsz, Nat.reduceLT]) (by repeat (first | (with_reducible exact eval_put_eq _ (by simp only [put_size, hsz, Nat.reduceLT])) | (with_reducible exact e9) | (with_reducible exact e11) | (with_reducible exact e12) | (with_reducible exact e13) | (with_reducible refine (eval_put_ne _ (by decide)).trans ?_)))).trans rfl | exact (wanted_of (c := false) rfl rfl (by simp only [put_size, hsz, Nat.reduceLT]) (by repeat (first | (with_reducible exact eval_put_eq _ (by simp only [put_size, hsz, Nat.reduceLT])) | (with_reducible exact e9) | (with_reducible exact e11) | (with_reducible exact e12) | (with_reducible exact e13) | (with_reducible refine (eval_put_ne _ (by decide)).trans ?_)))).trans rfl | rfl))
              | (simp only [List.map_toArray, List.map_cons, List.map_nil, eval_put_ne, eval_put_eq, put_size, hsz, ne_eq, Nat.reduceEqDiff, not_false_eq_true, reduceCtorEq, Nat.reduceLT, e9, e11, e12, e13]; done)
              | (first | exact (wanted_of (c := true) rfl rfl (by simp only [put_size, hsz, Nat.reduceLT]) (by repeat (first | (with_reducible exact eval_put_eq _ (by simp only [put_size, hsz, Nat.reduceLT])) | (with_reducible exact e9) | (with_reducible exact e11) | (with_reducible exact e12) | (with_reducible exact e13) | (with_reducible refine (eval_put_ne _ (by decide)).trans ?_)))).trans rfl | exact (wanted_of (c := false) rfl rfl (by simp only [put_size, hsz, Nat.reduceLT]) (by repeat (first | (with_reducible exact eval_put_eq _ (by simp only [put_size, hsz, Nat.reduceLT])) | (with_reducible exact e9) | (with_reducible exact e11) | (with_reducible exact e12) | (with_reducible exact e13) | (with_reducible refine (eval_put_ne _ (by decide)).trans ?_)))).trans rfl | rfl)
          · obtain ⟨lk, lv, ls⟩ := loc
            obtain ⟨ka, kc, va, vc, sa, sc, ekv, evv, esv, -⟩ := hr.forms
            have q1 : lk = .slice ka ob.kv.length kc := ekv
            have q2 : lv = .slice va ob.kv.length vc := evv
            have q3 : ls = .slice sa ob.slots.length sc := esv
            clear ekv evv esv
            subst q1 q2 q3
            obtain ⟨l, v, i, x, g1, g2, g3, hmi, hx, hxo, hs, hil, hlen, hu, hlim⟩ := (HI.out.below HB5.out).at_ ho
            have HIS : Hid (∀ w, Below w5.heap.size w5 w → Calls Try.prog 46 #[.pointer (some ⟨d, 0, none⟩), .int .i64 (m : Int)] w (BlP w true)) := fun w hb => by
              have := is_walk (m : Int) w (HI.out.below (bthen HB5.out hb))
              rw [ho] at this
              exact this
            have hlens : ob.kv.length ≤ 1048576 ∧ ob.slots.length ≤ 1048576 := by
              have e1 := used_take s i ob hs
              have e2 := used_take_le s (i + 1)
              omega
            obtain ⟨lr, rfl⟩ : ∃ lr, x = (ob, lr) := ⟨x.2, by rw [← hxo]⟩
            have G1 := Lib.hid g1
            have HX := Lib.hid hx
            have HR := Lib.hid hr
            have HSA : Hid (∀ w, Below w5.heap.size w5 w → Calls Try.prog 47 #[rV (ob, ⟨.slice ka ob.kv.length kc, .slice va ob.kv.length vc, .slice sa ob.slots.length sc⟩), rV (ob, lr)] w (BlP w true)) := fun w hb =>
              same_walk ob ⟨.slice ka ob.kv.length kc, .slice va ob.kv.length vc, .slice sa ob.slots.length sc⟩ lr hlens.1 hlens.2 w (HR.out.kept (B := []) (Chg.of_below hb) (fun _ _ => List.not_mem_nil)) (((G1.out.objs _ (List.mem_of_getElem? HX.out))).kept (B := []) (Chg.of_below hb) (fun _ _ => List.not_mem_nil))
            obtain ⟨ad, cap, hv, -, -, had⟩ := row_form g1.row
            have HV := Lib.hid (hv.trans (by rw [had (by omega)]))
            have hwi : IntKind.i64.wrap ((m : Int) - 1) = (i : Int) := by rw [IntKind.wrap_i64]; omega
            have hi0' : (0 : Int) ≤ (i : Int) := Int.natCast_nonneg _
            have hi1' : (i : Int) < (l.length : Int) := by omega
            obtain ⟨gv, Hgv⟩ : ∃ g, Hid (g = vb v) := ⟨_, Lib.hid rfl⟩
            clear g1 g2 g3 hx hxo hs hil hlen hu hlim hv had hr ho hlens hmi
            unfold rV at HSA ⊢
            go_upto_region 16 with fail
            obtain ⟨w6, Hw6⟩ : ∃ w6, Hid (w6 = w5.alloc (.cells #[.int .i64 ob.kind, (.slice ka ob.kv.length kc), (.slice va ob.kv.length vc), .int .i64 ob.mt.k, .int .u64 ob.mt.n, .string ob.mt.s, .int .i64 ob.mt.o, .int .i64 ob.a, .int .i64 ob.b, (.slice sa ob.slots.length sc)] 60)) := ⟨_, Lib.hid rfl⟩
            rw [← Hw6.out]
            have B56 : Hid (Below w5.heap.size w5 w6) := by
              show Below _ _ _
              rw [Hw6.out]; exact (Below.refl _ _).alloc (Nat.le_refl _) _
            have HX6 : Hid (w6.heap[w5.heap.size]? = some (.cells (rCells (ob, ⟨.slice ka ob.kv.length kc, .slice va ob.kv.length vc, .slice sa ob.slots.length sc⟩)).toArray 60 (0, 0))) := by
              show _ = _
              rw [Hw6.out]; exact heap_alloc_new _ _
            obtain ⟨bx, Hbx⟩ : ∃ bx, Hid (bx = w5.heap.size) := ⟨_, Lib.hid rfl⟩
            rw [← Hbx.out] at HX6 ⊢
            have HCELL : Hid (∀ w', Below w6.heap.size w6 w' → w'.cell? ⟨d, 0, none⟩ = some (.slice (some ⟨gv, 0, none⟩) l.length cap) ∧ w'.cell? ⟨gv, i * 10, none⟩ = some (.int .i64 ob.kind) ∧ w'.cell? ⟨gv, i * 10 + 1, none⟩ = some lr.kv ∧ w'.cell? ⟨gv, i * 10 + 2, none⟩ = some lr.vv ∧
                w'.cell? ⟨gv, i * 10 + 3, none⟩ = some (.int .i64 ob.mt.k) ∧ w'.cell? ⟨gv, i * 10 + 4, none⟩ = some (.int .u64 ob.mt.n) ∧ w'.cell? ⟨gv, i * 10 + 5, none⟩ = some (.string ob.mt.s) ∧ w'.cell? ⟨gv, i * 10 + 6, none⟩ = some (.int .i64 ob.mt.o) ∧ w'.cell? ⟨gv, i * 10 + 7, none⟩ = some (.int .i64 ob.a) ∧ w'.cell? ⟨gv, i * 10 + 8, none⟩ = some (.int .i64 ob.b) ∧ w'.cell? ⟨gv, i * 10 + 9, none⟩ = some lr.sv ∧
                w'.cell? ⟨bx, 0, none⟩ = some (.int .i64 ob.kind) ∧ w'.cell? ⟨bx, 1, none⟩ = some (.slice ka ob.kv.length kc) ∧ w'.cell? ⟨bx, 2, none⟩ = some (.slice va ob.kv.length vc) ∧ w'.cell? ⟨bx, 3, none⟩ = some (.int .i64 ob.mt.k) ∧ w'.cell? ⟨bx, 4, none⟩ = some (.int .u64 ob.mt.n) ∧ w'.cell? ⟨bx, 5, none⟩ = some (.string ob.mt.s) ∧ w'.cell? ⟨bx, 6, none⟩ = some (.int .i64 ob.mt.o) ∧ w'.cell? ⟨bx, 7, none⟩ = some (.int .i64 ob.a) ∧ w'.cell? ⟨bx, 8, none⟩ = some (.int .i64 ob.b) ∧ w'.cell? ⟨bx, 9, none⟩ = some (.slice sa ob.slots.length sc)) := by
              intro w' hb
              have hR := G1.out.kept (B := []) (Chg.of_below (bthen B56.out hb)) (fun _ _ => List.not_mem_nil)
              obtain ⟨c0, -, -⟩ := hR.d_cells
              obtain ⟨n0, n1, n2, n3, n4, n5, n6, n7, n8, n9⟩ := hR.ob_cells HX.out
              obtain ⟨t0, t1, t2, t3, t4, t5, t6, t7, t8, t9, -, -⟩ := box_cells ((hb.block bx (Array.getElem?_eq_some_iff.1 HX6.out).1).trans HX6.out)
              rw [← Hgv.out] at n0 n1 n2 n3 n4 n5 n6 n7 n8 n9
              rw [HV.out, ← Hgv.out] at c0
              exact ⟨c0, n0, n1, n2, n3, n4, n5, n6, n7, n8, n9, t0, t1, t2, t3, t4, t5, t6, t7, t8, t9⟩
            refine with_act ?_
            intro a0 HA0
            have e9 : a0.eval (.tmp 9) = .pointer (some ⟨d, 0, none⟩) := by rw [HA0.out]; rfl
            have e11 : a0.eval (.tmp 11) = .int .i64 (m : Int) := by rw [HA0.out]; rfl
            have e12 : a0.eval (.tmp 12) = .pointer (some ⟨bx, 0, none⟩) := by rw [HA0.out]; rfl
            have e13 : a0.eval (.tmp 13) = .bool true := by rw [HA0.out]; rfl
            have hsz : a0.tmps.size = 107 := by rw [HA0.out]; rfl
            have HB := Lib.hid (Below.drew (Below.refl w6.heap.size w6))
            refine wp_region_T 20 (fun w' => Below w6.heap.size w6 w') (by kernel_rfl) (by kernel_rfl) HB.out ?_
            refine runT_takeW 0 84 (.bool true) rfl (by kernel_rfl) (fun _ _ _ h => h) ?_ ?_; rotate_left
            refine runT_takeW 1 85 (.pointer (some ⟨d, 0, none⟩)) rfl (by kernel_rfl) (fun _ _ _ h => h) ?_ ?_; rotate_left
            refine runT_takeW 2 86 (.int .i64 (m : Int)) rfl (by kernel_rfl) (fun _ _ _ h => h) ?_ ?_; rotate_left
            refine runT_one 3 (by kernel_rfl) (by decide) (fun o ho => ?_)
            simp only [List.getElem?_toArray, List.getElem?_cons_succ, List.getElem?_cons_zero, Option.some.injEq] at ho
            subst ho
            refine ⟨?_, fun K hK => ?_⟩; rotate_left
            refine step_call _ Try.func46 (by kernel_rfl) rfl rfl (#[.pointer (some ⟨d, 0, none⟩), .int .i64 (m : Int)]) ?_ ?_; rotate_left
            refine (HIS.out _ (bthen B56.out HB.out)).mono ?_
            rintro e w8 ⟨rfl, b8⟩
            have HB := Lib.hid (bthen HB.out b8)
            clear b8
            refine ⟨_, rfl, hK _ _ HB.out ?_⟩
            refine runT_takeW 4 88 (.bool false) rfl (by kernel_rfl) (fun _ _ _ h => h) ?_ ?_; rotate_left
            refine runT_takeW 5 89 (.bool false) rfl (by kernel_rfl) (fun _ _ _ h => h) ?_ ?_; rotate_left
            refine runT_takeW 6 90 (.bool true) rfl (by kernel_rfl) (fun _ _ _ h => h) ?_ ?_; rotate_left
            refine runT_takeW 7 91 (.bool true) rfl (by kernel_rfl) (fun _ _ _ h => h) ?_ ?_; rotate_left
            refine runT_takeW 8 92 (.agg #[.int .i64 ob.kind, .slice ka ob.kv.length kc, .slice va ob.kv.length vc, .int .i64 ob.mt.k, .int .u64 ob.mt.n, .string ob.mt.s, .int .i64 ob.mt.o, .int .i64 ob.a, .int .i64 ob.b, .slice sa ob.slots.length sc]) rfl (by kernel_rfl) (fun _ _ _ h => h) ?_ ?_; rotate_left
            refine runT_takeW 9 93 (.pointer (some ⟨d, 0, none⟩)) rfl (by kernel_rfl) (fun _ _ _ h => h) ?_ ?_; rotate_left
            refine runT_takeW 10 94 (.pointer (some ⟨d, 0, none⟩)) rfl (by kernel_rfl) (fun _ _ _ h => h) ?_ ?_; rotate_left
            refine runT_takeW 11 95 (.pointer (some ⟨d, 0, none⟩)) rfl (by kernel_rfl) (fun _ _ _ h => h) ?_ ?_; rotate_left
            refine runT_takeW 12 96 (.slice (some ⟨gv, 0, none⟩) l.length cap) rfl (by kernel_rfl) (fun _ _ _ h => h) ?_ ?_; rotate_left
            refine runT_takeW 13 97 (.int .i64 (m : Int)) rfl (by kernel_rfl) (fun _ _ _ h => h) ?_ ?_; rotate_left
            refine runT_takeW 14 98 (.int .i64 (i : Int)) rfl (by kernel_rfl) (fun _ _ _ h => h) ?_ ?_; rotate_left
            refine runT_takeW 15 99 (.pointer (some ⟨gv, i * 10, none⟩)) rfl (by kernel_rfl) (fun _ _ _ h => h) ?_ ?_; rotate_left
            refine runT_takeW 16 100 (.agg #[.int .i64 ob.kind, lr.kv, lr.vv, .int .i64 ob.mt.k, .int .u64 ob.mt.n, .string ob.mt.s, .int .i64 ob.mt.o, .int .i64 ob.a, .int .i64 ob.b, lr.sv]) rfl (by kernel_rfl) (fun _ _ _ h => h) ?_ ?_; rotate_left
            refine runT_one 17 (by kernel_rfl) (by decide) (fun o ho => ?_)
            simp only [List.getElem?_toArray, List.getElem?_cons_succ, List.getElem?_cons_zero, Option.some.injEq] at ho
            subst ho
            refine ⟨?_, fun K hK => ?_⟩; rotate_left
            refine step_call _ Try.func47 (by kernel_rfl) rfl rfl (#[.agg #[.int .i64 ob.kind, .slice ka ob.kv.length kc, .slice va ob.kv.length vc, .int .i64 ob.mt.k, .int .u64 ob.mt.n, .string ob.mt.s, .int .i64 ob.mt.o, .int .i64 ob.a, .int .i64 ob.b, .slice sa ob.slots.length sc], .agg #[.int .i64 ob.kind, lr.kv, lr.vv, .int .i64 ob.mt.k, .int .u64 ob.mt.n, .string ob.mt.s, .int .i64 ob.mt.o, .int .i64 ob.a, .int .i64 ob.b, lr.sv]]) ?_ ?_; rotate_left
            refine (HSA.out _ (bthen B56.out HB.out)).mono ?_
            rintro e w9 ⟨rfl, b9⟩
            have HB := Lib.hid (bthen HB.out b9)
            clear b9
            refine ⟨_, rfl, hK _ _ HB.out ?_⟩
            refine runT_takeW 18 102 (.bool false) rfl (by kernel_rfl) (fun _ _ _ h => h) ?_ ?_; rotate_left
            refine runT_takeW 19 103 (.bool false) rfl (by kernel_rfl) (fun _ _ _ h => h) ?_ ?_; rotate_left
            refine runT_done [_] rfl (by kernel_rfl) ?_
            · rw [HA0.out]
              have HE := Lib.hid (bthen HB5.out (bthen B56.out HB.out))
              clear HA0 e9 e11 e12 e13 hsz HIS
              go_wp2_with fail
              go_roundw
              case rel => exact ⟨m + 1, by go_num, by omega, HJ.out.below HE.out, bthen HBR.out HE.out⟩
              case measure => simp [intOf]; omega
            all_goals first
              | (intro w oi hw ho; simp only [List.getElem?_toArray, List.getElem?_cons_succ, List.getElem?_cons_zero, Option.some.injEq] at ho; subst ho; refine ⟨by (first | exact (wanted_of (c := true) rfl rfl (by simp only [put_size, hsz, Nat.reduceLT]) (by repeat (first | (with_reducible exact eval_put_eq _ (by simp only [put_size, hsz, Nat.reduceLT])) | (with_reducible exact e9) | (with_reducible exact e11) | (with_reducible exact e12) | (with_reducible exact e13) | (with_reducible refine (eval_put_ne _ (by decide)).trans ?_)))).trans rfl | exact (wanted_of (c := false) rfl rfl (by simp only [put_size, hsz, Nat.reduceLT]) (by repeat (first | (with_reducible exact eval_put_eq _ (by simp only [put_size, hsz, Nat.reduceLT])) | (with_reducible exact e9) | (with_reducible exact e11) | (with_reducible exact e12) | (with_reducible exact e13) | (with_reducible refine (eval_put_ne _ (by decide)).trans ?_)))).trans rfl | rfl), ?_⟩; obtain ⟨c0, n0, n1, n2, n3, n4, n5, n6, n7, n8, n9, t0, t1, t2, t3, t4, t5, t6, t7, t8, t9⟩ := HCELL.out _ hw; unfold execOp; simp only [eval_put_ne, eval_put_eq, put_size, hsz, ne_eq, Nat.reduceEqDiff, not_false_eq_true, reduceCtorEq, Nat.reduceLT, e9, e11, e12, e13]; go_simp)
              | (simp only [List.map_toArray, List.map_cons, List.map_nil, eval_put_ne, eval_put_eq, put_size, hsz, ne_eq, Nat.reduceEqDiff, not_false_eq_true, reduceCtorEq, Nat.reduceLT, e9, e11, e12, e13]; done)
              | (first | exact (wanted_of (c := true) rfl rfl (by simp only [put_size, hsz, Nat.reduceLT]) (by repeat (first | (with_reducible exact eval_put_eq _ (by simp only [put_size, hsz, Nat.reduceLT])) | (with_reducible exact e9) | (with_reducible exact e11) | (with_reducible exact e12) | (with_reducible exact e13) | (with_reducible refine (eval_put_ne _ (by decide)).trans ?_)))).trans rfl | exact (wanted_of (c := false) rfl rfl (by simp only [put_size, hsz, Nat.reduceLT]) (by repeat (first | (with_reducible exact eval_put_eq _ (by simp only [put_size, hsz, Nat.reduceLT])) | (with_reducible exact e9) | (with_reducible exact e11) | (with_reducible exact e12) | (with_reducible exact e13) | (with_reducible refine (eval_put_ne _ (by decide)).trans ?_)))).trans rfl | rfl)
        · have hlt2 : ¬ ((m : Int) ≤ (s.length : Int) + 1) := by omega
          go_wp2_with fail
          exact bodyPost_ret (v := .tuple #[.pointer (some ⟨hp, 0, none⟩), .pointer (some ⟨d, 0, none⟩), .bool true]) (by simp [results, Try.results20, go_sem]) rfl ⟨hp, d, s, rfl, HJ.out, HBR.out, HNm.out⟩
end Go.Proofs.Ytlihonbmopeemaa.Hp
end
section
namespace Go.Proofs.Ytlihonbmopeemaa.Hp
open Go Go.RowKit Go.Proofs.Ytlihonbmopeemaa.HpLaw Go.Proofs.Ytlihonbmopeemaa.Ans Go.Proofs.Ytlihonbmopeemaa.Num Go.Proofs.Ytlihonbmopeemaa.DigLaw Go.Proofs.Ytlihonbmopeemaa.Fl Go.Proofs.Ytlihonbmopeemaa.Dig Go.Proofs.Ytlihonbmopeemaa.Float
attribute [local go_sem ↓] Go.wp_at_zero Go.wp_at_succ
set_option linter.unusedSimpArgs false
attribute [local go_sem high] eqV

/-- the keys that are kept are values that the program may be handed -/
theorem HeapIs.keys_ok {W : World} {hp : Nat} {s : List Ob} {limit : Int} {F : List Nat} (h : HeapIs W hp s limit F) : ∀ ob ∈ s, ∀ y ∈ ob.kv, VOK y.1 := by
  obtain ⟨os, v, h1, h2, h3, h4, h5⟩ := h
  intro ob hob
  rw [← h2] at hob
  obtain ⟨x, hx, rfl⟩ := List.mem_map.1 hob
  obtain ⟨i, hi, rfl⟩ := List.mem_iff_getElem.1 hx
  have ho := h1.objs i _ (List.getElem?_eq_getElem hi)
  show ∀ y ∈ tkv (os[i]).1.tab, VOK y.1
  cases ht : (os[i]).1.tab with
  | none => exact fun y hy => by cases hy
  | some T =>
    intro y hy
    obtain ⟨e, he, rfl⟩ := List.mem_map.1 hy
    have hk := (ho.tab T ht).2.keys e (List.mem_filter.1 he).1
    exact ⟨hk.num, hk.text⟩
theorem nilV_ok : VOK nilV := ⟨⟨0, rfl, by decide⟩, by show (0 : Nat) ≤ maxLen; exact Nat.zero_le _⟩
theorem keyAt_next (kv : List (Val × Val)) (n : Nat) : keyAt kv (n + 1) = (nextAt kv n).1 := by
  unfold nextAt
  show ((kv[n]?).map Prod.fst).getD nilV = _
  cases kv[n]? with
  | none => rfl
  | some x => rfl
theorem keyAt_ok {kv : List (Val × Val)} (h : ∀ y ∈ kv, VOK y.1) (n : Nat) : VOK (keyAt kv n) := by
  cases n with
  | zero => exact nilV_ok
  | succ n =>
    show VOK (((kv[n]?).map Prod.fst).getD nilV)
    cases hx : kv[n]? with
    | none => exact nilV_ok
    | some x => exact h x (List.mem_of_getElem? hx)
theorem nextAt_zero (kv : List (Val × Val)) (n : Nat) : (nextAt kv n).2.2 = 0 := by
  unfold nextAt
  cases kv[n]? with
  | none => rfl
  | some x => rfl
set_option maxHeartbeats 8000000 in
set_option maxRecDepth 100000 in
theorem order_walk (a1 : Option Addr) (len1 cap1 : Nat) (W : World) (h1 : ActsAt W a1 len1 cap1) :
    Calls Try.prog 6 #[.slice a1 len1 cap1] W fun e w' => e = .returned (.bool true) ∧ Below W.heap.size W w' := by
  have hG := goes_walk a1 len1 cap1 W h1
  clear h1
  go_enter Try.func6, Try.ntmps6
  go_wp2_with fail
  refine hG.mono ?_
  rintro e w1 ⟨hp, d, s, rfl, hJ, hB, hN⟩
  have HJ1 := Lib.hid hJ
  have HB1 := Lib.hid hB
  have HN := Lib.hid hN
  clear hG hJ hB hN
  go_wp2_with fail
  go_loopw [6] (fun i wr => ∃ m : Nat, i = .int .i64 m ∧ 1 ≤ m ∧ m ≤ s.length + 1 ∧ Joint W.heap.size hp d s 1000 wr ∧ Below W.heap.size W wr) (fun i _ => s.length + 1 - (intOf i).toNat)
  case atStart => exact ⟨1, rfl, by omega, by omega, HJ1.out, HB1.out⟩
  case round =>
    obtain ⟨m, rfl, hm1, hm2, hJ, hB⟩ := hrel
    clear HJ1 HB1
    have HJ := Lib.hid hJ
    have HB := Lib.hid hB
    clear hJ hB
    obtain ⟨F, G, h1, h2, -, -, -⟩ := HJ.out
    obtain ⟨ad, cap, c0, hsl⟩ := h2.len
    have HI := Lib.hid h2
    have HH := Lib.hid h1
    have hT := hasT_walk (m : Int) wr h2
    have hwm : IntKind.i64.wrap ((m : Int) + 1) = (m : Int) + 1 := by rw [IntKind.wrap_i64]; omega
    clear h1 h2
    by_cases hlt : m ≤ s.length
    · have hlt2 : (m : Int) ≤ (s.length : Int) := by omega
      go_wp2_with fail
      refine hT.mono ?_
      rintro e w3 ⟨rfl, b3⟩
      have HB3 := Lib.hid b3
      clear b3 hT c0
      cases ht : isTab s (m : Int) with
      | false =>
        have HJ3 := Lib.hid (HJ.out.below HB3.out)
        have HBW3 := Lib.hid (bthen HB.out HB3.out)
        clear ht
        go_wp2_with fail
        go_roundw
        case rel => exact ⟨m + 1, by go_num, by omega, by omega, HJ3.out, HBW3.out⟩
        case measure => simp [intOf]; omega
      | true =>
        obtain ⟨ob, hob, hk5⟩ : ∃ ob, obAt s (m : Int) = some ob ∧ ob.kind = 5 := by
          unfold isTab at ht
          cases hob : obAt s (m : Int) with
          | none => rw [hob] at ht; cases ht
          | some ob => rw [hob] at ht; exact ⟨ob, rfl, of_decide_eq_true ht⟩
        have hmem : ob ∈ s := by
          obtain ⟨i, _, hi⟩ := obAt_some hob
          exact List.mem_of_getElem? hi
        have hnd := HH.out.nodup ob hmem
        have hko := HH.out.keys_ok ob hmem
        have HCH : Hid (∀ n : Nat, n ≤ ob.kv.length → nextS s (m : Int) (keyAt ob.kv n) = nextAt ob.kv n) := fun n hn => next_chain hob hk5 HN.out hnd n hn
        have HGC : Hid (∀ (n : Nat) x, ob.kv[n]? = some x → getS s (m : Int) x.1 = x.2) := fun n x hx => get_chain hob HN.out hnd hx
        have HKO := Lib.hid hko
        obtain ⟨l, v, i, x, g1, g2, g3, hmi, hx, hxo, hs, hil, hlen, hu, hlim⟩ := (HI.out.below HB3.out).at_ hob
        have hkvl : ob.kv.length ≤ 1048575 := by
          have e1 := used_take s i ob hs
          have e2 := used_take_le s (i + 1)
          omega
        obtain ⟨ka, kc, va, vc, sa, sc, ekv, evv, esv, -⟩ := (g1.objs x (List.mem_of_getElem? hx)).forms
        have HK := Lib.hid (g1.objs x (List.mem_of_getElem? hx))
        obtain ⟨c0, -, -⟩ := g1.d_cells
        obtain ⟨n0, n1, n2, n3, n4, n5, n6, n7, n8, n9⟩ := g1.ob_cells hx
        obtain ⟨ad, cap, hv, -, -, had⟩ := row_form g1.row
        rw [hv, had (by omega)] at c0
        rw [ekv] at n1
        rw [evv] at n2
        rw [esv] at n9
        rw [hxo] at n0 n1 n2 n3 n4 n5 n6 n7 n8 n9
        have HXO := Lib.hid hxo
        have HEK := Lib.hid ekv
        have HEV := Lib.hid evv
        obtain ⟨gv0, Hgv0⟩ : ∃ g, Hid (g = vb v) := ⟨_, Lib.hid rfl⟩
        rw [← Hgv0.out] at c0 n0 n1 n2 n3 n4 n5 n6 n7 n8 n9
        rw [hxo] at ekv evv esv
        obtain ⟨kn, Hkn⟩ : ∃ kn, Hid (kn = ob.kv.length) := ⟨_, Lib.hid rfl⟩
        have hwi : IntKind.i64.wrap ((m : Int) - 1) = (i : Int) := by rw [IntKind.wrap_i64]; omega
        have hi0' : (0 : Int) ≤ (i : Int) := Int.natCast_nonneg _
        have hi1' : (i : Int) < (l.length : Int) := by omega
        rw [← Hkn.out] at n1 n2
        have hkn : kn ≤ 1048575 := by rw [Hkn.out]; exact hkvl
        have HBW3 := Lib.hid (bthen HB.out HB3.out)
        have HJ0 := HJ
        clear HJ
        clear g1 g2 g3 hx hxo hs hu hlim hv had ekv evv esv hnd hko hkvl hob hmem hk5 ht hlen hil hmi
        go_upto_region 9 with fail
        obtain ⟨w4, Hw4⟩ : ∃ w4, Hid (w4 = w3.alloc (.cells #[.int .i64 ob.kind, .slice ka kn kc, .slice va kn vc, .int .i64 ob.mt.k, .int .u64 ob.mt.n, .string ob.mt.s, .int .i64 ob.mt.o, .int .i64 ob.a, .int .i64 ob.b, .slice sa ob.slots.length sc] 60)) := ⟨_, Lib.hid rfl⟩
        rw [← Hw4.out]
        have B34 : Hid (Below w3.heap.size w3 w4) := by
          show Below _ _ _
          rw [Hw4.out]; exact (Below.refl _ _).alloc (Nat.le_refl _) _
        have hs4 : w4.heap.size = w3.heap.size + 1 := by rw [Hw4.out]; simp
        have HXB : Hid (w4.heap[w3.heap.size]? = some (.cells #[.int .i64 ob.kind, .slice ka kn kc, .slice va kn vc, .int .i64 ob.mt.k, .int .u64 ob.mt.n, .string ob.mt.s, .int .i64 ob.mt.o, .int .i64 ob.a, .int .i64 ob.b, .slice sa ob.slots.length sc] 60 (0, 0))) := by
          show _ = _
          rw [Hw4.out]; exact heap_alloc_new _ _
        have T0 : Hid (Bx w4 [nilV] (w4.alloc (.cells #[.int .i64 0, .int .u64 0, .string ⟨#[]⟩, .int .i64 0] 34))) := (Bx.nil w4).snoc rfl nilV
        obtain ⟨bx, Hbx⟩ : ∃ bx, Hid (bx = w3.heap.size) := ⟨_, Lib.hid rfl⟩
        try rw [← hs4]
        rw [← Hbx.out] at HXB ⊢
        have HCX : Hid (∀ w', Below w4.heap.size w4 w' → w'.cell? ⟨bx, 1, none⟩ = some (.slice ka kn kc) ∧ w'.cell? ⟨bx, 2, none⟩ = some (.slice va kn vc)) := by
          intro w' hb
          have h := (hb.block bx (Array.getElem?_eq_some_iff.1 HXB.out).1).trans HXB.out
          exact ⟨cell_of h 1, cell_of h 2⟩
        clear c0 n0 n1 n2 n3 n4 n5 n6 n7 n8 n9 hs4
        go_wp2_with fail
        go_loopw [9] (fun i wr => ∃ n : Nat, i = .int .i64 n ∧ n ≤ kn + 1 ∧ Bx w4 [keyAt ob.kv n] wr) (fun i _ => kn + 1 - (intOf i).toNat)
        case atStart => exact ⟨0, rfl, by omega, T0.out⟩
        case round =>
          obtain ⟨n, rfl, hn, hT⟩ := hrel
          have TT := Lib.hid hT
          clear hT T0
          obtain ⟨x1, x2⟩ := HCX.out wr TT.out.below
          have HB3r := Lib.hid (bthen B34.out TT.out.below)
          have hwn : IntKind.i64.wrap ((n : Int) + 1) = (n : Int) + 1 := by rw [IntKind.wrap_i64]; omega
          by_cases hlt : n ≤ kn
          · have hlt3 : (n : Int) ≤ (kn : Int) := by omega
            obtain ⟨uk, uv, hnx⟩ : ∃ uk uv, nextAt ob.kv n = (uk, uv, 0) := ⟨(nextAt ob.kv n).1, (nextAt ob.kv n).2.1, by rw [← nextAt_zero ob.kv n]⟩
            have HKN : Hid (keyAt ob.kv (n + 1) = uk) := by
              show _ = _
              rw [keyAt_next, hnx]
            have hvk := keyAt_ok HKO.out n
            have HNX := next_walk (m : Int) (keyAt ob.kv n) hvk wr (HH.out.kept (B := []) (Chg.of_below (bthen HB3.out HB3r.out)) (fun _ _ => List.not_mem_nil))
            rw [HCH.out n (by rw [← Hkn.out]; exact hlt), hnx] at HNX
            have HNA := Lib.hid hnx
            obtain ⟨key, Hkey⟩ : ∃ key, Hid (key = keyAt ob.kv n) := ⟨_, Lib.hid rfl⟩
            rw [← Hkey.out] at TT HNX
            obtain ⟨k0, k1, k2, k3, kf⟩ := TT.out.cell 0 rfl w4.heap.size rfl
            unfold Val.v at HNX
            clear hvk hnx
            go_wp2_with fail
            refine HNX.mono ?_
            rintro e w6 ⟨rfl, b6⟩
            have B6 := Lib.hid b6
            clear HNX b6 k0 k1 k2 k3 kf x1 x2
            simp only [Val.v]
            go_upto_region 13 with fail
            obtain ⟨w7, Hw7⟩ : ∃ w7, Hid (w7 = (w6.alloc (.cells #[.int .i64 uk.k, .int .u64 uk.n, .string uk.s, .int .i64 uk.o] 34)).alloc (.cells #[.int .i64 uv.k, .int .u64 uv.n, .string uv.s, .int .i64 uv.o] 34)) := ⟨_, Lib.hid rfl⟩
            rw [← Hw7.out]
            have X7 : Hid (Bx w6 [uk, uv] w7) := by
              show Bx _ _ _
              rw [Hw7.out]
              exact ((Bx.nil w6).snoc rfl uk).snoc (by simp) uv
            obtain ⟨bk, Hbk⟩ : ∃ b, Hid (b = w6.heap.size) := ⟨_, Lib.hid rfl⟩
            obtain ⟨bv, Hbv⟩ : ∃ b, Hid (b = w6.heap.size + 1) := ⟨_, Lib.hid rfl⟩
            try rw [← Hbv.out]
            rw [← Hbk.out]
            have HB37 : Hid (Below w3.heap.size w3 w7) := bthen HB3r.out (bthen B6.out X7.out.below)
            have HB47 : Hid (Below w4.heap.size w4 w7) := bthen TT.out.below (bthen B6.out X7.out.below)
            have HEND : Hid (∀ w8, Below w7.heap.size w7 w8 → Bx w4 [key] w8 ∧ Bx w6 [uk, uv] w8) := fun w8 hb => ⟨TT.out.step (bthen B6.out (bthen X7.out.below hb)), X7.out.step hb⟩
            by_cases hmore : n < kn
            · obtain ⟨y, hy⟩ : ∃ y, ob.kv[n]? = some y := ⟨_, List.getElem?_eq_getElem (by rw [← Hkn.out]; exact hmore)⟩
              have hyu : y = (uk, uv) := by
                have h := HNA.out
                unfold nextAt at h
                rw [hy] at h
                have h1 := (Prod.mk.inj h).1
                have h2 := (Prod.mk.inj (Prod.mk.inj h).2).1
                rw [← h1, ← h2]
              subst hyu
              have HGET : Hid (∀ w, Below w7.heap.size w7 w → Calls Try.prog 14 #[.pointer (some ⟨hp, 0, none⟩), .int .i64 (m : Int), uk.v] w (ValP w uv)) := fun w hb => by
                have h := Get_walk (m : Int) uk (HKO.out _ (List.mem_of_getElem? hy)) w (HH.out.kept (B := []) (Chg.of_below (bthen HB3.out (bthen HB37.out hb))) (fun _ _ => List.not_mem_nil))
                rw [HGC.out n _ hy] at h
                exact h
              unfold Val.v at HGET
              obtain ⟨gk, gv, hka, hva, HGK⟩ : ∃ gk gv, ka = some ⟨gk, 0, none⟩ ∧ va = some ⟨gv, 0, none⟩ ∧ Hid (∀ w', Below w3.heap.size w3 w' → w'.cell? ⟨gk, n * 4, none⟩ = some (.int .i64 uk.k) ∧ w'.cell? ⟨gk, n * 4 + 1, none⟩ = some (.int .u64 uk.n) ∧ w'.cell? ⟨gk, n * 4 + 2, none⟩ = some (.string uk.s) ∧ w'.cell? ⟨gk, n * 4 + 3, none⟩ = some (.int .i64 uk.o) ∧
                  w'.cell? ⟨gv, n * 4, none⟩ = some (.int .i64 uv.k) ∧ w'.cell? ⟨gv, n * 4 + 1, none⟩ = some (.int .u64 uv.n) ∧ w'.cell? ⟨gv, n * 4 + 2, none⟩ = some (.string uv.s) ∧ w'.cell? ⟨gv, n * 4 + 3, none⟩ = some (.int .i64 uv.o)) := by
                have hnk : n < (keysOf x.1).length := by rw [keysOf_len, HXO.out, ← Hkn.out]; exact hmore
                have hnv : n < (valsOf x.1).length := by rw [valsOf_len, HXO.out, ← Hkn.out]; exact hmore
                have ek : (keysOf x.1)[n] = uk := by
                  have e : (keysOf x.1)[n]? = some uk := by unfold keysOf; rw [List.getElem?_map, HXO.out, hy]; rfl
                  exact Option.some.inj ((List.getElem?_eq_getElem hnk).symm.trans e)
                have ev : (valsOf x.1)[n] = uv := by
                  have e : (valsOf x.1)[n]? = some uv := by unfold valsOf; rw [List.getElem?_map, HXO.out, hy]; rfl
                  exact Option.some.inj ((List.getElem?_eq_getElem hnv).symm.trans e)
                obtain ⟨-, -, -, -, ck1, hk1⟩ := HK.out.keys.cell hnk
                obtain ⟨-, -, -, -, cv1, hv1⟩ := HK.out.vals.cell hnv
                refine ⟨vb x.2.kv, vb x.2.vv, (Value.slice.inj (HEK.out.symm.trans hk1)).1, (Value.slice.inj (HEV.out.symm.trans hv1)).1, Lib.hid fun w' hb => ?_⟩
                have hK := HK.out.kept (B := []) (Chg.of_below hb) (fun _ _ => List.not_mem_nil)
                obtain ⟨a0, a1, a2, a3, -⟩ := hK.keys.cell hnk
                obtain ⟨b0, b1, b2, b3, -⟩ := hK.vals.cell hnv
                rw [ek] at a0 a1 a2 a3
                rw [ev] at b0 b1 b2 b3
                exact ⟨a0, a1, a2, a3, b0, b1, b2, b3⟩
              subst hka hva
              have HCELL : Hid (∀ w', Below w7.heap.size w7 w' → w'.cell? ⟨bx, 1, none⟩ = some (.slice (some ⟨gk, 0, none⟩) kn kc) ∧ w'.cell? ⟨bx, 2, none⟩ = some (.slice (some ⟨gv, 0, none⟩) kn vc) ∧ w'.cell? ⟨bk, 0, none⟩ = some (.int .i64 uk.k) ∧ w'.cell? ⟨bk, 1, none⟩ = some (.int .u64 uk.n) ∧ w'.cell? ⟨bk, 2, none⟩ = some (.string uk.s) ∧ w'.cell? ⟨bk, 3, none⟩ = some (.int .i64 uk.o) ∧ w'.cell? ⟨bv, 0, none⟩ = some (.int .i64 uv.k) ∧ w'.cell? ⟨bv, 1, none⟩ = some (.int .u64 uv.n) ∧ w'.cell? ⟨bv, 2, none⟩ = some (.string uv.s) ∧ w'.cell? ⟨bv, 3, none⟩ = some (.int .i64 uv.o) ∧ w'.cell? ⟨gk, n * 4, none⟩ = some (.int .i64 uk.k) ∧ w'.cell? ⟨gk, n * 4 + 1, none⟩ = some (.int .u64 uk.n) ∧ w'.cell? ⟨gk, n * 4 + 2, none⟩ = some (.string uk.s) ∧ w'.cell? ⟨gk, n * 4 + 3, none⟩ = some (.int .i64 uk.o) ∧ w'.cell? ⟨gv, n * 4, none⟩ = some (.int .i64 uv.k) ∧ w'.cell? ⟨gv, n * 4 + 1, none⟩ = some (.int .u64 uv.n) ∧ w'.cell? ⟨gv, n * 4 + 2, none⟩ = some (.string uv.s) ∧ w'.cell? ⟨gv, n * 4 + 3, none⟩ = some (.int .i64 uv.o)) := by
                intro w' hb
                obtain ⟨t1, t2⟩ := HCX.out w' (bthen HB47.out hb)
                obtain ⟨p0, p1, p2, p3, -⟩ := (HEND.out w' hb).2.cell 0 rfl bk Hbk.out
                obtain ⟨q0, q1, q2, q3, -⟩ := (HEND.out w' hb).2.cell 1 rfl bv Hbv.out
                exact ⟨t1, t2, p0, p1, p2, p3, q0, q1, q2, q3, HGK.out w' (bthen HB37.out hb)⟩
              have hs1 : sameV ⟨uk.k, uk.n, uk.s, uk.o⟩ ⟨uk.k, uk.n, uk.s, uk.o⟩ = true := sameV_self _
              have hs2 : sameV ⟨uv.k, uv.n, uv.s, uv.o⟩ ⟨uv.k, uv.n, uv.s, uv.o⟩ = true := sameV_self _
              have hq0 : (0 : Int) ≤ (n : Int) := Int.natCast_nonneg _
              have hq1 : (n : Int) < (kn : Int) := by omega
              have hq2 : ¬ ((n : Int) = (kn : Int)) := by omega
              refine with_act ?_
              intro a0 HA0
              have e3 : a0.eval (.tmp 3) = .pointer (some ⟨hp, 0, none⟩) := by rw [HA0.out]; rfl
              have e6 : a0.eval (.tmp 6) = .int .i64 (m : Int) := by rw [HA0.out]; rfl
              have e7 : a0.eval (.tmp 7) = .pointer (some ⟨bx, 0, none⟩) := by rw [HA0.out]; rfl
              have e9 : a0.eval (.tmp 9) = .int .i64 (n : Int) := by rw [HA0.out]; rfl
              have e10 : a0.eval (.tmp 10) = .pointer (some ⟨bk, 0, none⟩) := by rw [HA0.out]; rfl
              have e11 : a0.eval (.tmp 11) = .pointer (some ⟨bv, 0, none⟩) := by rw [HA0.out]; rfl
              have e12 : a0.eval (.tmp 12) = .int .i64 0 := by rw [HA0.out]; rfl
              have hsz : a0.tmps.size = 107 := by rw [HA0.out]; rfl
              have HB := Lib.hid (Below.drew (Below.refl w7.heap.size w7))
              refine wp_region_T 46 (fun w' => Below w7.heap.size w7 w') (by kernel_rfl) (by kernel_rfl) HB.out ?_
              refine runT_takeW 0 58 (.int .i64 0) rfl (by kernel_rfl) (fun _ _ _ h => h) ?_ ?_; rotate_left
              refine runT_takeW 1 59 (.bool false) rfl (by kernel_rfl) (fun _ _ _ h => h) ?_ ?_; rotate_left
              refine runT_takeW 2 60 (.bool false) rfl (by kernel_rfl) (fun _ _ _ h => h) ?_ ?_; rotate_left
              refine runT_takeW 3 61 (.int .i64 (n : Int)) rfl (by kernel_rfl) (fun _ _ _ h => h) ?_ ?_; rotate_left
              refine runT_takeW 4 62 (.pointer (some ⟨bx, 1, none⟩)) rfl (by kernel_rfl) (fun _ _ _ h => h) ?_ ?_; rotate_left
              refine runT_takeW 5 63 (.slice (some ⟨gk, 0, none⟩) kn kc) rfl (by kernel_rfl) (fun _ _ _ h => h) ?_ ?_; rotate_left
              refine runT_takeW 6 64 (.int .i64 (kn : Int)) rfl (by kernel_rfl) (fun _ _ _ h => h) ?_ ?_; rotate_left
              refine runT_takeW 7 65 (.bool false) rfl (by kernel_rfl) (fun _ _ _ h => h) ?_ ?_; rotate_left
              refine runT_takeW 8 66 (.bool false) rfl (by kernel_rfl) (fun _ _ _ h => h) ?_ ?_; rotate_left
              refine runT_skip 9 67 rfl (by kernel_rfl) (fun _ _ _ h => h) ?_ ?_; rotate_left
              refine runT_skip 10 68 rfl (by kernel_rfl) (fun _ _ _ h => h) ?_ ?_; rotate_left
              refine runT_skip 11 69 rfl (by kernel_rfl) (fun _ _ _ h => h) ?_ ?_; rotate_left
              refine runT_takeW 12 70 (.bool false) rfl (by kernel_rfl) (fun _ _ _ h => h) ?_ ?_; rotate_left
              refine runT_takeW 13 71 (.bool false) rfl (by kernel_rfl) (fun _ _ _ h => h) ?_ ?_; rotate_left
              refine runT_takeW 14 72 (.bool false) rfl (by kernel_rfl) (fun _ _ _ h => h) ?_ ?_; rotate_left
              refine runT_takeW 15 73 (.int .i64 (n : Int)) rfl (by kernel_rfl) (fun _ _ _ h => h) ?_ ?_; rotate_left
              refine runT_takeW 16 74 (.pointer (some ⟨bx, 1, none⟩)) rfl (by kernel_rfl) (fun _ _ _ h => h) ?_ ?_; rotate_left
              refine runT_takeW 17 75 (.slice (some ⟨gk, 0, none⟩) kn kc) rfl (by kernel_rfl) (fun _ _ _ h => h) ?_ ?_; rotate_left
              refine runT_takeW 18 76 (.int .i64 (kn : Int)) rfl (by kernel_rfl) (fun _ _ _ h => h) ?_ ?_; rotate_left
              refine runT_takeW 19 77 (.bool true) rfl (by kernel_rfl) (fun _ _ _ h => h) ?_ ?_; rotate_left
              refine runT_takeW 20 78 (.bool true) rfl (by kernel_rfl) (fun _ _ _ h => h) ?_ ?_; rotate_left
              refine runT_takeW 21 79 (.agg #[.int .i64 uk.k, .int .u64 uk.n, .string uk.s, .int .i64 uk.o]) rfl (by kernel_rfl) (fun _ _ _ h => h) ?_ ?_; rotate_left
              refine runT_takeW 22 80 (.pointer (some ⟨bx, 1, none⟩)) rfl (by kernel_rfl) (fun _ _ _ h => h) ?_ ?_; rotate_left
              refine runT_takeW 23 81 (.slice (some ⟨gk, 0, none⟩) kn kc) rfl (by kernel_rfl) (fun _ _ _ h => h) ?_ ?_; rotate_left
              refine runT_takeW 24 82 (.int .i64 (n : Int)) rfl (by kernel_rfl) (fun _ _ _ h => h) ?_ ?_; rotate_left
              refine runT_takeW 25 83 (.pointer (some ⟨gk, n * 4, none⟩)) rfl (by kernel_rfl) (fun _ _ _ h => h) ?_ ?_; rotate_left
              refine runT_takeW 26 84 (.agg #[.int .i64 uk.k, .int .u64 uk.n, .string uk.s, .int .i64 uk.o]) rfl (by kernel_rfl) (fun _ _ _ h => h) ?_ ?_; rotate_left
              refine runT_takeW 27 85 (.bool false) rfl (by kernel_rfl) (fun _ _ _ h => h) ?_ ?_; rotate_left
              refine runT_takeW 28 86 (.bool false) rfl (by kernel_rfl) (fun _ _ _ h => h) ?_ ?_; rotate_left
              refine runT_takeW 29 87 (.agg #[.int .i64 uv.k, .int .u64 uv.n, .string uv.s, .int .i64 uv.o]) rfl (by kernel_rfl) (fun _ _ _ h => h) ?_ ?_; rotate_left
              refine runT_takeW 30 88 (.pointer (some ⟨bx, 2, none⟩)) rfl (by kernel_rfl) (fun _ _ _ h => h) ?_ ?_; rotate_left
              refine runT_takeW 31 89 (.slice (some ⟨gv, 0, none⟩) kn vc) rfl (by kernel_rfl) (fun _ _ _ h => h) ?_ ?_; rotate_left
              refine runT_takeW 32 90 (.int .i64 (n : Int)) rfl (by kernel_rfl) (fun _ _ _ h => h) ?_ ?_; rotate_left
              refine runT_takeW 33 91 (.pointer (some ⟨gv, n * 4, none⟩)) rfl (by kernel_rfl) (fun _ _ _ h => h) ?_ ?_; rotate_left
              refine runT_takeW 34 92 (.agg #[.int .i64 uv.k, .int .u64 uv.n, .string uv.s, .int .i64 uv.o]) rfl (by kernel_rfl) (fun _ _ _ h => h) ?_ ?_; rotate_left
              refine runT_takeW 35 93 (.bool false) rfl (by kernel_rfl) (fun _ _ _ h => h) ?_ ?_; rotate_left
              refine runT_takeW 36 94 (.bool false) rfl (by kernel_rfl) (fun _ _ _ h => h) ?_ ?_; rotate_left
              refine runT_takeW 37 95 (.bool false) rfl (by kernel_rfl) (fun _ _ _ h => h) ?_ ?_; rotate_left
              refine runT_takeW 38 96 (.pointer (some ⟨hp, 0, none⟩)) rfl (by kernel_rfl) (fun _ _ _ h => h) ?_ ?_; rotate_left
              refine runT_takeW 39 97 (.int .i64 (m : Int)) rfl (by kernel_rfl) (fun _ _ _ h => h) ?_ ?_; rotate_left
              refine runT_takeW 40 98 (.agg #[.int .i64 uk.k, .int .u64 uk.n, .string uk.s, .int .i64 uk.o]) rfl (by kernel_rfl) (fun _ _ _ h => h) ?_ ?_; rotate_left
              refine runT_takeW 42 100 (.agg #[.int .i64 uv.k, .int .u64 uv.n, .string uv.s, .int .i64 uv.o]) rfl (by kernel_rfl) (fun _ _ _ h => h) ?_ ?_; rotate_left
              refine runT_one 41 (by kernel_rfl) (by decide) (fun o ho => ?_)
              simp only [List.getElem?_toArray, List.getElem?_cons_succ, List.getElem?_cons_zero, Option.some.injEq] at ho
              subst ho
              refine ⟨?_, fun K hK => ?_⟩; rotate_left
              refine step_call _ Try.func14 (by kernel_rfl) rfl rfl (#[.pointer (some ⟨hp, 0, none⟩), .int .i64 (m : Int), .agg #[.int .i64 uk.k, .int .u64 uk.n, .string uk.s, .int .i64 uk.o]]) ?_ ?_; rotate_left
              refine (HGET.out _ HB.out).mono ?_
              rintro e w8 ⟨rfl, b8⟩
              have HB := Lib.hid (bthen HB.out b8)
              clear b8
              refine ⟨.agg #[.int .i64 uv.k, .int .u64 uv.n, .string uv.s, .int .i64 uv.o], rfl, hK _ _ HB.out ?_⟩
              refine runT_takeW 43 101 (.bool false) rfl (by kernel_rfl) (fun _ _ _ h => h) ?_ ?_; rotate_left
              refine runT_takeW 44 102 (.bool false) rfl (by kernel_rfl) (fun _ _ _ h => h) ?_ ?_; rotate_left
              refine runT_takeW 45 103 (.bool false) rfl (by kernel_rfl) (fun _ _ _ h => h) ?_ ?_; rotate_left
              refine runT_done [_] rfl (by kernel_rfl) ?_
              · rw [HA0.out]
                obtain ⟨T8, X8⟩ := HEND.out _ HB.out
                obtain ⟨p0, p1, p2, p3, -⟩ := X8.cell 0 rfl bk Hbk.out
                obtain ⟨z0, z1, z2, z3, zf⟩ := T8.cell 0 rfl w4.heap.size rfl
                have U8 := Lib.hid (T8.put 0 (by simp) uk)
                clear HA0 e3 e6 e7 e9 e10 e11 e12 hsz HCELL T8 X8 hq1 hq2 hs1
                go_wp2_with fail
                go_roundw
                case rel => exact ⟨n + 1, by go_num, by omega, by rw [HKN.out]; exact U8.out⟩
                case measure => simp [intOf]; omega
              all_goals first
                | (intro w oi hw ho; simp only [List.getElem?_toArray, List.getElem?_cons_succ, List.getElem?_cons_zero, Option.some.injEq] at ho; subst ho; refine ⟨by (first | exact (wanted_of (c := true) rfl rfl (by simp only [put_size, hsz, Nat.reduceLT]) (by repeat (first | (with_reducible exact eval_put_eq _ (by simp only [put_size, hsz, Nat.reduceLT])) | (with_reducible exact e3) | (with_reducible exact e6) | (with_reducible exact e7) | (with_reducible exact e9) | (with_reducible exact e10) | (with_reducible exact e11) | (with_reducible exact e12) | (with_reducible refine (eval_put_ne _ (by decide)).trans ?_)))).trans rfl | exact (wanted_of (c := false) rfl rfl (by simp only [put_size, hsz, Nat.reduceLT]) (by repeat (first | (with_reducible exact eval_put_eq _ (by simp only [put_size, hsz, Nat.reduceLT])) | (with_reducible exact e3) | (with_reducible exact e6) | (with_reducible exact e7) | (with_reducible exact e9) | (with_reducible exact e10) | (with_reducible exact e11) | (with_reducible exact e12) | (with_reducible refine (eval_put_ne _ (by decide)).trans ?_)))).trans rfl | rfl), ?_⟩; obtain ⟨t1, t2, u0, u1, u2, u3, v0, v1, v2, v3, g0, g1, g2, g3, h0, h1, h2, h3⟩ := HCELL.out _ hw; unfold execOp; simp only [eval_put_ne, eval_put_eq, put_size, hsz, ne_eq, Nat.reduceEqDiff, not_false_eq_true, reduceCtorEq, Nat.reduceLT, e3, e6, e7, e9, e10, e11, e12]; go_simp)
                | (intro oi ho; simp only [List.getElem?_toArray, List.getElem?_cons_succ, List.getElem?_cons_zero, Option.some.injEq] at ho; subst ho; (first | exact (wanted_of (c := true) rfl rfl (by simp only [put_size, hsz, Nat.reduceLT]) (by repeat (first | (with_reducible exact eval_put_eq _ (by simp only [put_size, hsz, Nat.reduceLT])) | (with_reducible exact e3) | (with_reducible exact e6) | (with_reducible exact e7) | (with_reducible exact e9) | (with_reducible exact e10) | (with_reducible exact e11) | (with_reducible exact e12) | (with_reducible refine (eval_put_ne _ (by decide)).trans ?_)))).trans rfl | exact (wanted_of (c := false) rfl rfl (by simp only [put_size, hsz, Nat.reduceLT]) (by repeat (first | (with_reducible exact eval_put_eq _ (by simp only [put_size, hsz, Nat.reduceLT])) | (with_reducible exact e3) | (with_reducible exact e6) | (with_reducible exact e7) | (with_reducible exact e9) | (with_reducible exact e10) | (with_reducible exact e11) | (with_reducible exact e12) | (with_reducible refine (eval_put_ne _ (by decide)).trans ?_)))).trans rfl | rfl))
                | (simp only [List.map_toArray, List.map_cons, List.map_nil, eval_put_ne, eval_put_eq, put_size, hsz, ne_eq, Nat.reduceEqDiff, not_false_eq_true, reduceCtorEq, Nat.reduceLT, e3, e6, e7, e9, e10, e11, e12]; done)
                | (first | exact (wanted_of (c := true) rfl rfl (by simp only [put_size, hsz, Nat.reduceLT]) (by repeat (first | (with_reducible exact eval_put_eq _ (by simp only [put_size, hsz, Nat.reduceLT])) | (with_reducible exact e3) | (with_reducible exact e6) | (with_reducible exact e7) | (with_reducible exact e9) | (with_reducible exact e10) | (with_reducible exact e11) | (with_reducible exact e12) | (with_reducible refine (eval_put_ne _ (by decide)).trans ?_)))).trans rfl | exact (wanted_of (c := false) rfl rfl (by simp only [put_size, hsz, Nat.reduceLT]) (by repeat (first | (with_reducible exact eval_put_eq _ (by simp only [put_size, hsz, Nat.reduceLT])) | (with_reducible exact e3) | (with_reducible exact e6) | (with_reducible exact e7) | (with_reducible exact e9) | (with_reducible exact e10) | (with_reducible exact e11) | (with_reducible exact e12) | (with_reducible refine (eval_put_ne _ (by decide)).trans ?_)))).trans rfl | rfl)
            · have hne : n = kn := by omega
              have hnl : uk = nilV ∧ uv = nilV := by
                have h := HNA.out
                unfold nextAt at h
                rw [List.getElem?_eq_none (by rw [← Hkn.out]; omega)] at h
                exact ⟨(Prod.mk.inj h).1.symm, (Prod.mk.inj (Prod.mk.inj h).2).1.symm⟩
              have hs1 : sameV ⟨uk.k, uk.n, uk.s, uk.o⟩ ⟨0, 0, ⟨#[]⟩, 0⟩ = true := by
                rw [hnl.1]; exact sameV_self nilV
              have HCELL : Hid (∀ w', Below w7.heap.size w7 w' → w'.cell? ⟨bx, 1, none⟩ = some (.slice ka kn kc) ∧ w'.cell? ⟨bx, 2, none⟩ = some (.slice va kn vc) ∧ w'.cell? ⟨bk, 0, none⟩ = some (.int .i64 uk.k) ∧ w'.cell? ⟨bk, 1, none⟩ = some (.int .u64 uk.n) ∧ w'.cell? ⟨bk, 2, none⟩ = some (.string uk.s) ∧ w'.cell? ⟨bk, 3, none⟩ = some (.int .i64 uk.o) ∧ w'.cell? ⟨bv, 0, none⟩ = some (.int .i64 uv.k) ∧ w'.cell? ⟨bv, 1, none⟩ = some (.int .u64 uv.n) ∧ w'.cell? ⟨bv, 2, none⟩ = some (.string uv.s) ∧ w'.cell? ⟨bv, 3, none⟩ = some (.int .i64 uv.o)) := by
                intro w' hb
                obtain ⟨t1, t2⟩ := HCX.out w' (bthen HB47.out hb)
                obtain ⟨p0, p1, p2, p3, -⟩ := (HEND.out w' hb).2.cell 0 rfl bk Hbk.out
                obtain ⟨q0, q1, q2, q3, -⟩ := (HEND.out w' hb).2.cell 1 rfl bv Hbv.out
                exact ⟨t1, t2, p0, p1, p2, p3, q0, q1, q2, q3⟩
              have hq1 : ¬ ((n : Int) < (kn : Int)) := by omega
              have hq2 : (n : Int) = (kn : Int) := by omega
              clear hnl hne
              refine with_act ?_
              intro a0 HA0
              have e3 : a0.eval (.tmp 3) = .pointer (some ⟨hp, 0, none⟩) := by rw [HA0.out]; rfl
              have e6 : a0.eval (.tmp 6) = .int .i64 (m : Int) := by rw [HA0.out]; rfl
              have e7 : a0.eval (.tmp 7) = .pointer (some ⟨bx, 0, none⟩) := by rw [HA0.out]; rfl
              have e9 : a0.eval (.tmp 9) = .int .i64 (n : Int) := by rw [HA0.out]; rfl
              have e10 : a0.eval (.tmp 10) = .pointer (some ⟨bk, 0, none⟩) := by rw [HA0.out]; rfl
              have e11 : a0.eval (.tmp 11) = .pointer (some ⟨bv, 0, none⟩) := by rw [HA0.out]; rfl
              have e12 : a0.eval (.tmp 12) = .int .i64 0 := by rw [HA0.out]; rfl
              have hsz : a0.tmps.size = 107 := by rw [HA0.out]; rfl
              have HB := Lib.hid (Below.drew (Below.refl w7.heap.size w7))
              refine wp_region_T 46 (fun w' => Below w7.heap.size w7 w') (by kernel_rfl) (by kernel_rfl) HB.out ?_
              refine runT_takeW 0 58 (.int .i64 0) rfl (by kernel_rfl) (fun _ _ _ h => h) ?_ ?_; rotate_left
              refine runT_takeW 1 59 (.bool false) rfl (by kernel_rfl) (fun _ _ _ h => h) ?_ ?_; rotate_left
              refine runT_takeW 2 60 (.bool false) rfl (by kernel_rfl) (fun _ _ _ h => h) ?_ ?_; rotate_left
              refine runT_takeW 3 61 (.int .i64 (n : Int)) rfl (by kernel_rfl) (fun _ _ _ h => h) ?_ ?_; rotate_left
              refine runT_takeW 4 62 (.pointer (some ⟨bx, 1, none⟩)) rfl (by kernel_rfl) (fun _ _ _ h => h) ?_ ?_; rotate_left
              refine runT_takeW 5 63 (.slice ka kn kc) rfl (by kernel_rfl) (fun _ _ _ h => h) ?_ ?_; rotate_left
              refine runT_takeW 6 64 (.int .i64 (kn : Int)) rfl (by kernel_rfl) (fun _ _ _ h => h) ?_ ?_; rotate_left
              refine runT_takeW 7 65 (.bool true) rfl (by kernel_rfl) (fun _ _ _ h => h) ?_ ?_; rotate_left
              refine runT_takeW 8 66 (.bool true) rfl (by kernel_rfl) (fun _ _ _ h => h) ?_ ?_; rotate_left
              refine runT_takeW 9 67 (.agg #[.int .i64 uk.k, .int .u64 uk.n, .string uk.s, .int .i64 uk.o]) rfl (by kernel_rfl) (fun _ _ _ h => h) ?_ ?_; rotate_left
              refine runT_takeW 10 68 (.agg #[.int .i64 0, .int .u64 0, .string ⟨#[]⟩, .int .i64 0]) rfl (by kernel_rfl) (fun _ _ _ h => h) ?_ ?_; rotate_left
              refine runT_takeW 11 69 (.bool false) rfl (by kernel_rfl) (fun _ _ _ h => h) ?_ ?_; rotate_left
              refine runT_takeW 12 70 (.bool false) rfl (by kernel_rfl) (fun _ _ _ h => h) ?_ ?_; rotate_left
              refine runT_takeW 13 71 (.bool false) rfl (by kernel_rfl) (fun _ _ _ h => h) ?_ ?_; rotate_left
              refine runT_takeW 14 72 (.bool false) rfl (by kernel_rfl) (fun _ _ _ h => h) ?_ ?_; rotate_left
              refine runT_takeW 15 73 (.int .i64 (n : Int)) rfl (by kernel_rfl) (fun _ _ _ h => h) ?_ ?_; rotate_left
              refine runT_takeW 16 74 (.pointer (some ⟨bx, 1, none⟩)) rfl (by kernel_rfl) (fun _ _ _ h => h) ?_ ?_; rotate_left
              refine runT_takeW 17 75 (.slice ka kn kc) rfl (by kernel_rfl) (fun _ _ _ h => h) ?_ ?_; rotate_left
              refine runT_takeW 18 76 (.int .i64 (kn : Int)) rfl (by kernel_rfl) (fun _ _ _ h => h) ?_ ?_; rotate_left
              refine runT_takeW 19 77 (.bool false) rfl (by kernel_rfl) (fun _ _ _ h => h) ?_ ?_; rotate_left
              refine runT_takeW 20 78 (.bool false) rfl (by kernel_rfl) (fun _ _ _ h => h) ?_ ?_; rotate_left
              refine runT_skip 21 79 rfl (by kernel_rfl) (fun _ _ _ h => h) ?_ ?_; rotate_left
              refine runT_skip 22 80 rfl (by kernel_rfl) (fun _ _ _ h => h) ?_ ?_; rotate_left
              refine runT_skip 23 81 rfl (by kernel_rfl) (fun _ _ _ h => h) ?_ ?_; rotate_left
              refine runT_skip 24 82 rfl (by kernel_rfl) (fun _ _ _ h => h) ?_ ?_; rotate_left
              refine runT_skip 25 83 rfl (by kernel_rfl) (fun _ _ _ h => h) ?_ ?_; rotate_left
              refine runT_skip 26 84 rfl (by kernel_rfl) (fun _ _ _ h => h) ?_ ?_; rotate_left
              refine runT_skip 27 85 rfl (by kernel_rfl) (fun _ _ _ h => h) ?_ ?_; rotate_left
              refine runT_skip 28 86 rfl (by kernel_rfl) (fun _ _ _ h => h) ?_ ?_; rotate_left
              refine runT_skipU 29 87 28 86 false rfl (by kernel_rfl) (fun _ _ _ h => h) rfl rfl (by simp only [put_size, hsz, Nat.reduceLT]) ?_ ?_; rotate_left
              refine runT_skipU 30 88 28 86 false rfl (by kernel_rfl) (fun _ _ _ h => h) rfl rfl (by simp only [put_size, hsz, Nat.reduceLT]) ?_ ?_; rotate_left
              refine runT_skipU 31 89 28 86 false rfl (by kernel_rfl) (fun _ _ _ h => h) rfl rfl (by simp only [put_size, hsz, Nat.reduceLT]) ?_ ?_; rotate_left
              refine runT_skipU 32 90 28 86 false rfl (by kernel_rfl) (fun _ _ _ h => h) rfl rfl (by simp only [put_size, hsz, Nat.reduceLT]) ?_ ?_; rotate_left
              refine runT_skipU 33 91 28 86 false rfl (by kernel_rfl) (fun _ _ _ h => h) rfl rfl (by simp only [put_size, hsz, Nat.reduceLT]) ?_ ?_; rotate_left
              refine runT_skipU 34 92 28 86 false rfl (by kernel_rfl) (fun _ _ _ h => h) rfl rfl (by simp only [put_size, hsz, Nat.reduceLT]) ?_ ?_; rotate_left
              refine runT_skipU 35 93 28 86 false rfl (by kernel_rfl) (fun _ _ _ h => h) rfl rfl (by simp only [put_size, hsz, Nat.reduceLT]) ?_ ?_; rotate_left
              refine runT_skip 36 94 rfl (by kernel_rfl) (fun _ _ _ h => h) ?_ ?_; rotate_left
              refine runT_skip 37 95 rfl (by kernel_rfl) (fun _ _ _ h => h) ?_ ?_; rotate_left
              refine runT_skipU 38 96 37 95 false rfl (by kernel_rfl) (fun _ _ _ h => h) rfl rfl (by simp only [put_size, hsz, Nat.reduceLT]) ?_ ?_; rotate_left
              refine runT_skipU 39 97 37 95 false rfl (by kernel_rfl) (fun _ _ _ h => h) rfl rfl (by simp only [put_size, hsz, Nat.reduceLT]) ?_ ?_; rotate_left
              refine runT_skipU 40 98 37 95 false rfl (by kernel_rfl) (fun _ _ _ h => h) rfl rfl (by simp only [put_size, hsz, Nat.reduceLT]) ?_ ?_; rotate_left
              refine runT_skipU 41 99 37 95 false rfl (by kernel_rfl) (fun _ _ _ h => h) rfl rfl (by simp only [put_size, hsz, Nat.reduceLT]) ?_ ?_; rotate_left
              refine runT_skipU 42 100 37 95 false rfl (by kernel_rfl) (fun _ _ _ h => h) rfl rfl (by simp only [put_size, hsz, Nat.reduceLT]) ?_ ?_; rotate_left
              refine runT_skipU 43 101 37 95 false rfl (by kernel_rfl) (fun _ _ _ h => h) rfl rfl (by simp only [put_size, hsz, Nat.reduceLT]) ?_ ?_; rotate_left
              refine runT_skip 44 102 rfl (by kernel_rfl) (fun _ _ _ h => h) ?_ ?_; rotate_left
              refine runT_takeW 45 103 (.bool false) rfl (by kernel_rfl) (fun _ _ _ h => h) ?_ ?_; rotate_left
              refine runT_done [_] rfl (by kernel_rfl) ?_
              · rw [HA0.out]
                obtain ⟨wz, Hwz⟩ : ∃ wz, Hid (wz = w7.drew) := ⟨_, Lib.hid rfl⟩
                rw [← Hwz.out] at HB ⊢
                obtain ⟨T8, X8⟩ := HEND.out _ HB.out
                obtain ⟨p0, p1, p2, p3, -⟩ := X8.cell 0 rfl bk Hbk.out
                obtain ⟨z0, z1, z2, z3, zf⟩ := T8.cell 0 rfl w4.heap.size rfl
                have U8 := Lib.hid (T8.put 0 (by simp) uk)
                clear HA0 e3 e6 e7 e9 e10 e11 e12 hsz HCELL T8 X8 hq1 hq2 hs1
                go_wp2_with fail
                go_roundw
                case rel => exact ⟨n + 1, by go_num, by omega, by rw [HKN.out]; exact U8.out⟩
                case measure => simp [intOf]; omega
              all_goals first
                | (intro w oi hw ho; simp only [List.getElem?_toArray, List.getElem?_cons_succ, List.getElem?_cons_zero, Option.some.injEq] at ho; subst ho; refine ⟨by (first | exact (wanted_of (c := true) rfl rfl (by simp only [put_size, hsz, Nat.reduceLT]) (by repeat (first | (with_reducible exact eval_put_eq _ (by simp only [put_size, hsz, Nat.reduceLT])) | (with_reducible exact e3) | (with_reducible exact e6) | (with_reducible exact e7) | (with_reducible exact e9) | (with_reducible exact e10) | (with_reducible exact e11) | (with_reducible exact e12) | (with_reducible refine (eval_put_ne _ (by decide)).trans ?_)))).trans rfl | exact (wanted_of (c := false) rfl rfl (by simp only [put_size, hsz, Nat.reduceLT]) (by repeat (first | (with_reducible exact eval_put_eq _ (by simp only [put_size, hsz, Nat.reduceLT])) | (with_reducible exact e3) | (with_reducible exact e6) | (with_reducible exact e7) | (with_reducible exact e9) | (with_reducible exact e10) | (with_reducible exact e11) | (with_reducible exact e12) | (with_reducible refine (eval_put_ne _ (by decide)).trans ?_)))).trans rfl | rfl), ?_⟩; obtain ⟨t1, t2, u0, u1, u2, u3, v0, v1, v2, v3⟩ := HCELL.out _ hw; unfold execOp; simp only [eval_put_ne, eval_put_eq, put_size, hsz, ne_eq, Nat.reduceEqDiff, not_false_eq_true, reduceCtorEq, Nat.reduceLT, e3, e6, e7, e9, e10, e11, e12]; go_simp)
                | (intro oi ho; simp only [List.getElem?_toArray, List.getElem?_cons_succ, List.getElem?_cons_zero, Option.some.injEq] at ho; subst ho; (first | exact (wanted_of (c := true) rfl rfl (by simp only [put_size, hsz, Nat.reduceLT]) (by repeat (first | (with_reducible exact eval_put_eq _ (by simp only [put_size, hsz, Nat.reduceLT])) | (with_reducible exact e3) | (with_reducible exact e6) | (with_reducible exact e7) | (with_reducible exact e9) | (with_reducible exact e10) | (with_reducible exact e11) | (with_reducible exact e12) | (with_reducible refine (eval_put_ne _ (by decide)).trans ?_)))).trans rfl | exact (wanted_of (c := false) rfl rfl (by simp only [put_size, hsz, Nat.reduceLT]) (by repeat (first | (with_reducible exact eval_put_eq _ (by simp only [put_size, hsz, Nat.reduceLT])) | (with_reducible exact e3) | (with_reducible exact e6) | (with_reducible exact e7) | (with_reducible exact e9) | (with_reducible exact e10) | (with_reducible exact e11) | (with_reducible exact e12) | (with_reducible refine (eval_put_ne _ (by decide)).trans ?_)))).trans rfl | rfl))
                | ((repeat (first | (with_reducible exact eval_put_eq _ (by simp only [put_size, hsz, Nat.reduceLT])) | (with_reducible exact e3) | (with_reducible exact e6) | (with_reducible exact e7) | (with_reducible exact e9) | (with_reducible exact e10) | (with_reducible exact e11) | (with_reducible exact e12) | (with_reducible refine (eval_put_ne _ (by decide)).trans ?_))); done)
          · have hne : n = kn + 1 := by omega
            have hlt3 : ¬ ((n : Int) ≤ (kn : Int)) := by omega
            have HJr := Lib.hid (HJ0.out.below (bthen HB3.out HB3r.out))
            have HBr := Lib.hid (bthen HBW3.out HB3r.out)
            go_wp2_with fail
            go_roundw
            case rel => exact ⟨m + 1, by go_num, by omega, by omega, HJr.out, HBr.out⟩
            case measure => simp [intOf]; omega
    · have hme : m = s.length + 1 := by omega
      have hlt2 : ¬ ((m : Int) ≤ (s.length : Int)) := by omega
      go_wp2_with fail
      refine (lives_any wr).mono ?_
      rintro e w9 ⟨rfl, b9⟩
      have B9 := Lib.hid (bthen HB.out b9)
      clear b9
      go_wp2_with fail
      go_ret
      exact ⟨rfl, B9.out⟩
end Go.Proofs.Ytlihonbmopeemaa.Hp
namespace Go.Proofs.Ytlihonbmopeemaa.Ans
open Go Go.RowKit Go.Proofs.Ytlihonbmopeemaa.Hp
theorem row_HeapOrder (a0 : Option Addr) (len0 cap0 : Nat) (W : World) (w0 : ActsAt W a0 len0 cap0) :
    Calls Try.prog 6 #[.slice a0 len0 cap0] W fun e w' => e = .returned (.bool true) ∧ Below W.heap.size W w' := order_walk a0 len0 cap0 W w0
end Go.Proofs.Ytlihonbmopeemaa.Ans
end
