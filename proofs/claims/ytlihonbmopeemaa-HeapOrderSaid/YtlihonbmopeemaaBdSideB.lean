/- Texts on SideB, joined. No conditions but those that each theorem states. -/
import Derived.Test.YtlihonbmopeemaaBdSideA
section
namespace Go.Proofs.Ytlihonbmopeemaa.Hp
open Go Go.RowKit Go.Proofs.Ytlihonbmopeemaa.HpLaw Go.Proofs.Ytlihonbmopeemaa.Ans Go.Proofs.Ytlihonbmopeemaa.Num Go.Proofs.Ytlihonbmopeemaa.DigLaw Go.Proofs.Ytlihonbmopeemaa.Fl Go.Proofs.Ytlihonbmopeemaa.Dig Go.Proofs.Ytlihonbmopeemaa.Float
attribute [local go_sem ↓] Go.wp_at_zero Go.wp_at_succ

theorem new_of {W c w4 : World} {v : Value} {n : Nat} (h : Below W.heap.size W c) (_ : Below c.heap.size c w4) (h3 : ∀ x ∈ gown v n, c.heap.size ≤ x) : ∀ x ∈ gown v n, W.heap.size ≤ x := fun x hx => Nat.le_trans h.size (h3 x hx)
theorem new_of2 {W c : World} {v v' : Value} {n : Nat} (h : Below W.heap.size W c) (hg : ∀ x ∈ gown v n, W.heap.size ≤ x) (k3 : ∀ x ∈ own v', x ∈ gown v n ∨ c.heap.size ≤ x) : ∀ x ∈ own v', W.heap.size ≤ x := fun x hx => (k3 x hx).elim (hg x) (Nat.le_trans h.size)
theorem heap_alloc_at (w : World) (o : Obj) (k : Nat) : (w.alloc o).heap[k]? = if k = w.heap.size then some o else w.heap[k]? := by
  unfold World.alloc
  rw [Array.getElem?_push]
theorem heap_hit {w : World} {o : Obj} {k : Nat} (h : k = w.heap.size) : (w.alloc o).heap[k]? = some o := by rw [heap_alloc_at, if_pos h]
theorem heap_miss {w : World} {o : Obj} {k : Nat} (h : k ≠ w.heap.size) : (w.alloc o).heap[k]? = w.heap[k]? := by rw [heap_alloc_at, if_neg h]
theorem drew_heap (w : World) : w.drew.heap = w.heap := rfl
theorem row_caps {w : World} {e : TypeId} {size : Nat} {ad : Option Addr} {n n' cap : Nat} {xs : List Value} (h : w.ownsRow 0 e size (.slice ad n' cap) n xs) : n ≤ cap ∧ cap ≤ 9223372036854775807 := by
  obtain ⟨ad', cap', hf, q1, q2, _⟩ := row_form h
  have e3 := ((Value.slice.injEq ..).mp hf).2.2
  rw [e3]; exact ⟨q1, q2⟩
def madeX (kind a b : Int) (m : Nat) (bl : Nat) : RObj := (newOb kind a b m, ⟨.slice none 0 0, .slice none 0 0, .slice (some ⟨bl, 0, none⟩) m m⟩)
theorem madeX_at {w : World} {kind a b : Int} {m bl : Nat} (hm : m ≤ 255) (h : w.heap[bl]? = some (.cells (madeCells zeroV (m * 4)) 34 (0, 0))) : RObjAt w (madeX kind a b m bl) := by
  refine ⟨⟨⟨none, 0, rfl, Nat.zero_le _, by omega⟩, fun h => absurd rfl h⟩, ⟨⟨none, 0, rfl, Nat.zero_le _, by omega⟩, fun h => absurd rfl h⟩, RowR.of_owns ?_⟩
  show w.ownsRow 0 34 4 (.slice (some ⟨bl, 0, none⟩) m m) (List.replicate m nilV).length (valCells (List.replicate m nilV))
  rw [List.length_replicate, ← made_vals]
  have hs : (madeCells zeroV (m * 4)).size = m * 4 := by unfold madeCells; simp
  exact ⟨by simpa using hs, .inr ⟨bl, m, _, rfl, Nat.zero_le _, h, Nat.le_refl _, by unfold maxLen; omega, hs, List.take_of_length_le (by rw [Array.length_toList, hs]; exact Nat.le_refl _)⟩⟩
set_option maxHeartbeats 2000000 in
set_option maxRecDepth 100000 in
theorem rmake_walk {d : Nat} {s : List Ob} {limit : Int} {G : List Nat} (kind a b n : Int) (W : World) (h : RefIs W d s limit G) :
    Calls Try.prog 39 #[.pointer (some ⟨d, 0, none⟩), .int .i64 kind, .int .i64 a, .int .i64 b, .int .i64 n] W (MakeR W d limit G (makeS s limit kind a b n)) := by
  by_cases hbad : badMake kind n
  · have HG : Hid (MakeR W d limit G (makeS s limit kind a b n) (.returned (.tuple #[.int .i64 0, .int .i64 1])) W) := by
      show MakeR _ _ _ _ _ _ _
      unfold MakeR makeS
      rw [if_pos hbad]
      exact ⟨rfl, RStep.of_below h (Below.refl _ _)⟩
    clear h
    unfold badMake at hbad
    by_cases c6 : kind = 6 ∨ kind = 7 ∨ kind = 9
    · have hn : n < 0 ∨ 255 < n := by omega
      by_cases n0 : n < 0
      · clear hbad hn
        rcases c6 with rfl | rfl | rfl
        all_goals
          go_enter Try.func39, Try.ntmps39
          go_wp2_with fail
          go_ret2
          exact HG.out
      · have n1 : 255 < n := by omega
        clear hbad hn
        rcases c6 with rfl | rfl | rfl
        all_goals
          go_enter Try.func39, Try.ntmps39
          go_wp2_with fail
          go_ret2
          exact HG.out
    · have k6 : (kind != 6) = true := by rw [bne_iff_ne]; omega
      have k7 : (kind != 7) = true := by rw [bne_iff_ne]; omega
      have k9 : (kind != 9) = true := by rw [bne_iff_ne]; omega
      clear hbad c6
      go_enter Try.func39, Try.ntmps39
      go_wp2_with fail
      go_ret2
      exact HG.out
  · have hok := hbad
    unfold badMake at hok
    have hS : makeS s limit kind a b n = if ((usedOf s : Nat) : Int) + (1 + n) ≤ limit then ((s.length : Int) + 1, 0, s ++ [newOb kind a b n.toNat]) else (0, 2, s) := by unfold makeS; rw [if_neg hbad]
    obtain ⟨m, rfl⟩ := Int.eq_ofNat_of_zero_le (show 0 ≤ n by omega)
    have hm : m ≤ 255 := by omega
    have hkind : kind = 6 ∨ kind = 7 ∨ kind = 9 := by omega
    rw [Int.toNat_natCast] at hS
    have HS := Lib.hid hS
    have HK := Lib.hid hkind
    have HI := Lib.hid h
    obtain ⟨l, v, h1, h2, h3, h4, h5⟩ := h
    have H1 := Lib.hid h1
    have hlen : l.length ≤ 1048576 := by
      have := usedOf_len s
      rw [← h2, robs_len] at this
      rw [h2] at this
      omega
    obtain ⟨u, Hu⟩ : ∃ u, Hid (u = usedOf s) := ⟨_, Lib.hid rfl⟩
    have hu4 := h4
    rw [← Hu.out] at hu4
    have f1 : ∀ w', Below W.heap.size W w' → w'.cell? ⟨d, 1, none⟩ = some (.int .i64 limit) := fun w' hb => (H1.out.kept (B := []) (Chg.of_below hb) (fun _ _ => List.not_mem_nil)).d_cells.2.1
    have HNo : Hid (limit < (u : Int) + 1 + (m : Int) → ∀ w, Below W.heap.size W w → MakeR W d limit G (makeS s limit kind a b (m : Int)) (.returned (.tuple #[.int .i64 0, .int .i64 2])) w) := by
      intro hn w hb
      unfold MakeR
      rw [HS.out, ← Hu.out, if_neg (by omega)]
      exact ⟨rfl, RStep.of_below HI.out hb⟩
    have HYes : Hid ((u : Int) + 1 + (m : Int) ≤ limit → ∀ v' w6 bl, W.heap.size ≤ bl → w6.heap[bl]? = some (.cells (madeCells zeroV (m * 4)) 34 (0, 0)) → Below W.heap.size W w6 → w6.ownsRow 0 60 10 v' (l.length + 1) (rrow l ++ rCells (madeX kind a b m bl)) → (∀ b ∈ own v', W.heap.size ≤ b) →
        MakeR W d limit G (makeS s limit kind a b (m : Int)) (.returned (.tuple #[.int .i64 ((l.length : Int) + 1), .int .i64 0])) (w6.setCell ⟨d, 0, none⟩ v') ∧ (w6.setCell ⟨d, 0, none⟩ v').cell? ⟨d, 0, none⟩ = some v') := by
      intro hy v' w6 bl hbl hblk hb hr hv
      unfold MakeR
      rw [HS.out, ← Hu.out, if_pos (by omega), ← robs_len l, h2]
      obtain ⟨k1, k2⟩ := H1.out.pushed (x := madeX kind a b m bl) h2 h3 h5 hb hr hv (madeX_at hm hblk) (fun b hb' => by
        rcases List.mem_append.1 hb' with c | c
        · cases c
        · rcases List.mem_append.1 c with c | c
          · cases c
          · rw [List.mem_singleton.1 (rown_mem c).2]; exact hbl) (by
        rw [usedOf_append, usedOf_one]
        have e : (madeX kind a b m bl).1.cells = 1 + 0 + m := by
          show 1 + 0 + (List.replicate m nilV).length = _
          rw [List.length_replicate]
        rw [e, ← Hu.out]
        omega)
      exact ⟨⟨rfl, k1⟩, k2⟩
    have hw1 : IntKind.i64.wrap ((u : Int) + 1) = (u : Int) + 1 := by rw [IntKind.wrap_i64]; omega
    have hw2 : IntKind.i64.wrap ((u : Int) + 1 + (m : Int)) = (u : Int) + 1 + (m : Int) := by rw [IntKind.wrap_i64]; omega
    clear h1 h2 h3 h4 hok hbad hS
    go_enter Try.func39, Try.ntmps39
    go_upto_region 1 with fail
    go_cut [29] (fun t wx => t = .bool false ∧ wx = W)
    case first =>
      clear HNo HYes
      rcases hkind with rfl | rfl | rfl
      all_goals
        go_wp2_with fail
        go_meet
        refine ⟨?_, rfl⟩
        rw [decide_eq_false (by omega), decide_eq_false (by omega)]; rfl
    case rest =>
      obtain ⟨rfl, rfl⟩ := hcut
      obtain ⟨W, rfl⟩ : ∃ w2, w2 = wc := ⟨_, rfl⟩
      go_upto_region 3 with fail
      go_cut [39] (fun t wx => t = .bool (decide (limit < (u : Int) + 1 + (m : Int))) ∧ Below W.heap.size W wx)
      case first =>
        go_region_held3 (fun w' => Below W.heap.size W w')
          (first | (with_reducible assumption) | (repeat (first | (with_reducible exact Below.refl _ _) | (with_reducible assumption) | (with_reducible refine Below.drew ?_) | (with_reducible refine Below.alloc ?_ ?_ _) | (with_reducible refine Below.setCell ?_ ?_ _) | omega | (simp <;> omega))))
          ((go_at_call 19; refine (rused_walk _ (HI.out.below (by (first | (with_reducible assumption) | (repeat (first | (with_reducible exact Below.refl _ _) | (with_reducible assumption) | (with_reducible refine Below.drew ?_) | (with_reducible refine Below.alloc ?_ ?_ _) | (with_reducible refine Below.setCell ?_ ?_ _) | omega | (simp <;> omega))))))).mono ?_; rintro e w6 ⟨rfl, b6⟩; rw [← Hu.out]; have s6 := bthen (w := W) (by (first | (with_reducible assumption) | (repeat (first | (with_reducible exact Below.refl _ _) | (with_reducible assumption) | (with_reducible refine Below.drew ?_) | (with_reducible refine Below.alloc ?_ ?_ _) | (with_reducible refine Below.setCell ?_ ?_ _) | omega | (simp <;> omega))))) b6; clear b6))
        all_goals
          go_wp2_with fail
          go_meet
          exact ⟨rfl, by (first | (with_reducible assumption) | (repeat (first | (with_reducible exact Below.refl _ _) | (with_reducible assumption) | (with_reducible refine Below.drew ?_) | (with_reducible refine Below.alloc ?_ ?_ _) | (with_reducible refine Below.setCell ?_ ?_ _) | omega | (simp <;> omega))))⟩
      case rest =>
        obtain ⟨rfl, hb⟩ := hcut
        obtain ⟨w2, rfl⟩ : ∃ w2, w2 = wc := ⟨_, rfl⟩
        by_cases hy : limit < (u : Int) + 1 + (m : Int)
        · have HA := Lib.hid (HNo.out hy w2 hb)
          rw [decide_eq_true hy]
          clear HNo HYes hy f1
          go_wp2_with fail
          go_ret2
          exact HA.out
        · have HA := Lib.hid (HYes.out (by omega))
          rw [decide_eq_false hy]
          clear HNo HYes hy
          obtain ⟨ti, hi0, hi1, hi2, hi3⟩ := info_parts (show (Try.prog.info? 60).map (fun i => (i.zero, i.size, i.bytes)) = some (some (.agg #[.int .i64 0, .slice none 0 0, .slice none 0 0, .int .i64 0, .int .u64 0, .string ByteArray.empty, .int .i64 0, .int .i64 0, .int .i64 0, .slice none 0 0]), 10, 136) from by kernel_rfl)
          obtain ⟨tj, hj0, hj1, hj2, hj3⟩ := info_parts (show (Try.prog.info? 34).map (fun i => (i.zero, i.size, i.bytes)) = some (some (.agg #[.int .i64 0, .int .u64 0, .string ByteArray.empty, .int .i64 0]), 4, 40) from by kernel_rfl)
          have hmk : ∀ w, (Instr.makeSlice 58 (.int .i64 (m : Int)) (.int .i64 (m : Int))).run Try.prog w = .ok (.slice (some ⟨w.heap.size, 0, none⟩) m m) (w.alloc (.cells (madeCells zeroV (m * 4)) 34)) := by
            intro w
            have hr := run_make (P := Try.prog) w 58 34 tj _ Try.underlying58 hj0 hj1 .i64 .i64 (m : Int) (m : Int) (by omega) (Int.le_refl _) (by rw [hj3]; omega) (by omega)
            rw [Int.toNat_natCast, hj2] at hr
            exact hr
          obtain ⟨mc, Hmc⟩ : ∃ mc, Hid (mc = madeCells zeroV (m * 4)) := ⟨_, Lib.hid rfl⟩
          rw [← Hmc.out] at hmk HA
          clear hj0 hj1 hj2 hj3 tj
          have f0 : ∀ w', Below W.heap.size W w' → w'.cell? ⟨d, 0, none⟩ = some v := fun w' hb => (H1.out.kept (B := []) (Chg.of_below hb) (fun _ _ => List.not_mem_nil)).d_cells.1
          have ff : ∀ w', Below W.heap.size W w' → w'.frozen? ⟨d, 0, none⟩ = false := fun w' hb => (H1.out.kept (B := []) (Chg.of_below hb) (fun _ _ => List.not_mem_nil)).d_cells.2.2 0
          have HROW : Hid (∀ w', Below W.heap.size W w' → w'.ownsRow 0 60 10 v l.length (rrow l)) := fun w' hb => (H1.out.kept (B := []) (Chg.of_below hb) (fun _ _ => List.not_mem_nil)).row
          have HF : Hid (∃ ao cap, v = .slice ao l.length cap) := by
            obtain ⟨ad, cap, hv, _⟩ := row_form H1.out.row
            exact ⟨ad, cap, hv⟩
          have hx0 : l.length = 0 → rrow l = [] := fun e => by rw [List.eq_nil_of_length_eq_zero e]; rfl
          have HX0 := Lib.hid hx0
          have hsz := hb.size
          have c0 := f0 w2 hb
          have cf := ff w2 hb
          have hdl : d < w2.heap.size := Nat.lt_of_lt_of_le (H1.out.lt d (rfoot_d ..)) hsz
          have F0 := Lib.hid f0
          have FF := Lib.hid ff
          have hd1 : d < w2.heap.size + 1 := by omega
          have hd2 : d < w2.heap.size + 1 + 1 := by omega
          have hd3 : d < w2.heap.size + 1 + 1 + 1 := by omega
          have hd2' : d < w2.heap.size + 2 := by omega
          have hd3' : d < w2.heap.size + 3 := by omega
          clear hx0 f0 ff f1
          go_upto_region 5 with fail
          go_cut [] (fun wx => MakeR W d limit G (makeS s limit kind a b (m : Int)) (.returned (.tuple #[.int .i64 ((l.length : Int) + 1), .int .i64 0])) wx ∧ ∃ ad cap, wx.cell? ⟨d, 0, none⟩ = some (.slice ad (l.length + 1) cap) ∧ l.length + 1 ≤ cap ∧ cap ≤ 9223372036854775807)
          case first =>
            go_region_law
              (first
                | (refine step_copy_row (by rfl) (.tmp 41) (.tmp 45) _ (by rfl) 60 ti _ 10 136 Try.underlying47 hi0 hi1 hi2 hi3 rfl (by omega) _ (by rfl) v (by rfl) l.length (rrow l) HF.out (fun _ => HROW.out _ (by (first | (with_reducible assumption) | (repeat (first | (with_reducible exact Below.refl _ _) | (with_reducible assumption) | (with_reducible refine Below.drew ?_) | (with_reducible refine Below.alloc ?_ ?_ _) | (with_reducible refine Below.setCell ?_ ?_ _) | omega | (simp <;> omega)))))) HX0.out (by unfold maxLen; omega) (by omega) ?_; intro ad cap w4 g1 g2 g3; have S4 := bthen (w := W) (by (first | (with_reducible assumption) | (repeat (first | (with_reducible exact Below.refl _ _) | (with_reducible assumption) | (with_reducible refine Below.drew ?_) | (with_reducible refine Below.alloc ?_ ?_ _) | (with_reducible refine Below.setCell ?_ ?_ _) | omega | (simp <;> omega))))) g2; obtain ⟨hc4, hf4⟩ := bcell g2; have z4 := g2.size; have K4 := Lib.hid g2.block; have G1 := Lib.hid g1; have G3 := Lib.hid g3; have G4 := Lib.hid (new_of (W := W) (by (first | (with_reducible assumption) | (repeat (first | (with_reducible exact Below.refl _ _) | (with_reducible assumption) | (with_reducible refine Below.drew ?_) | (with_reducible refine Below.alloc ?_ ?_ _) | (with_reducible refine Below.setCell ?_ ?_ _) | omega | (simp <;> omega))))) g2 g3); (try simp at z4); clear g1 g2 g3)
                | (refine step_more_agg (by rfl) (.tmp 46) (.tmp 53) _ (by rfl) 60 ti _ 10 136 Try.underlying47 hi0 hi1 hi2 hi3 rfl (by omega) _ l.length (rrow l) (by rfl) (G1.out.kept (B := []) (Chg.of_below (by (first | (with_reducible assumption) | (repeat (first | (with_reducible exact Below.refl _ _) | (with_reducible assumption) | (with_reducible refine Below.drew ?_) | (with_reducible refine Below.alloc ?_ ?_ _) | (with_reducible refine Below.setCell ?_ ?_ _) | omega | (simp <;> omega)))))) (fun _ _ => List.not_mem_nil)) (.tmp 52) _ 1 1 _ (by rfl) (by rfl) (by rfl) (by intro j u hj; rcases j with _ | _ | _ | _ | _ | _ | _ | _ | _ | _ | j <;> (first | (simp at hj; done) | (obtain rfl := Option.some.inj hj; go_simp; done) | (simp only [List.getElem?_cons_zero, List.getElem?_cons_succ, Option.some.injEq] at hj; subst hj; go_simp; done))) (by intro u hu; simp only [List.mem_cons, List.not_mem_nil, or_false] at hu; rcases hu with rfl | rfl | rfl | rfl | rfl | rfl | rfl | rfl | rfl | rfl <;> rfl) (by omega) (by unfold maxLen; omega) (by omega) ?_; intro g gcap w6 k1 k2 k3; have K1 := Lib.hid k1; have K2 := Lib.hid k2; have K3 := Lib.hid k3; have S6 : Hid (Below W.heap.size W w6) := gown_below (by (first | (with_reducible assumption) | (repeat (first | (with_reducible exact Below.refl _ _) | (with_reducible assumption) | (with_reducible refine Below.drew ?_) | (with_reducible refine Below.alloc ?_ ?_ _) | (with_reducible refine Below.setCell ?_ ?_ _) | omega | (simp <;> omega))))) (G1.out.kept (B := []) (Chg.of_below (by (first | (with_reducible assumption) | (repeat (first | (with_reducible exact Below.refl _ _) | (with_reducible assumption) | (with_reducible refine Below.drew ?_) | (with_reducible refine Below.alloc ?_ ?_ _) | (with_reducible refine Below.setCell ?_ ?_ _) | omega | (simp <;> omega)))))) (fun _ _ => List.not_mem_nil)) G4.out k2; have q0 := F0.out w6 S6.out; have qf := FF.out w6 S6.out; clear k1 k2 k3))
            all_goals
              obtain ⟨r1, r2⟩ := row_caps K1.out
              obtain ⟨z1, z2⟩ := HA.out _ w6 _ (by omega) ((K2.out.block _ (by first | omega | (simp <;> omega)) (fun e => by have g1 := G3.out _ e; have g2 := G1.out.lt _ e; (try simp at g1); omega)).trans (by
                repeat (first | rfl | (refine (heap_miss ?_).trans ?_; focus (first | omega | (simp <;> omega))) | (refine (heap_hit ?_).trans ?_; focus (first | rfl | omega | (simp <;> omega))) | rw [drew_heap] | (refine (K4.out _ ?_).trans ?_; focus (first | omega | (simp <;> omega)))))) S6.out K1.out (new_of2 (by (first | (with_reducible assumption) | (repeat (first | (with_reducible exact Below.refl _ _) | (with_reducible assumption) | (with_reducible refine Below.drew ?_) | (with_reducible refine Below.alloc ?_ ?_ _) | (with_reducible refine Below.setCell ?_ ?_ _) | omega | (simp <;> omega))))) G4.out K3.out)
              clear HA K1 K2 K3 K4 G1 G3 G4 S6 q0 qf hc4 hf4
              go_wp2_with fail
              go_meet
              exact ⟨z1, _, _, z2, r1, r2⟩
          case rest =>
            obtain ⟨z1, adz, capz, z2, z3, z4⟩ := hcut
            have HA := Lib.hid z1
            clear z1 F0 FF HROW HF HX0 c0 cf
            go_wp2_with fail
            go_ret2
            exact HA.out
end Go.Proofs.Ytlihonbmopeemaa.Hp
end
section
namespace Go.Proofs.Ytlihonbmopeemaa.Hp
open Go Go.RowKit Go.Proofs.Ytlihonbmopeemaa.HpLaw Go.Proofs.Ytlihonbmopeemaa.Ans Go.Proofs.Ytlihonbmopeemaa.Num Go.Proofs.Ytlihonbmopeemaa.DigLaw Go.Proofs.Ytlihonbmopeemaa.Fl Go.Proofs.Ytlihonbmopeemaa.Dig Go.Proofs.Ytlihonbmopeemaa.Float
attribute [local go_sem ↓] Go.wp_at_zero Go.wp_at_succ

/-- an object in a box is laid over the one in the copied row -/
theorem RefAt.swap {W w2 w5 : World} {d : Nat} {l : List RObj} {v v' : Value} {limit : Int} {s : List Ob} {G : List Nat} (_h : RefAt W d l v limit) (hs : robs l = s) (hG : G = rfoot d v l) (hl : limit ≤ 1048576) (hb2 : Below W.heap.size W w2) (hc : RCopied W d l v' limit w5) (hk : Chg [d] w2 w5) (hvb : w2.heap.size ≤ vb v')
    {i : Nat} {x y : RObj} (hx : l[i]? = some x) (hy : RObjAt w2 y) (hyG : ∀ b ∈ rft y, b ∈ rft x ∨ W.heap.size ≤ b) (hu : ((usedOf (s.set i y.1) : Nat) : Int) ≤ limit) :
    RStep W d limit G (s.set i y.1) (w5.setCells (vb v') (i * 10) (rCells y)) := by
  have hz := hb2.size
  refine hc.put hs hG hl hx (j := 0) (vs := rCells y) (Nat.le_refl _) rfl (hy.kept hk (fun b hb e => ?_)) (fun b hb => ?_) hu
  · rw [List.mem_singleton.1 e] at hb
    rcases hyG _ hb with c | c
    · exact hc.at_.dsep x (List.mem_of_getElem? hx) c
    · have := hc.old; omega
  · rcases hyG b hb with c | c
    · exact .inl c
    · exact .inr ⟨c, fun e => by have := hy.lt b hb; omega⟩
theorem setCells_ten (w : World) (g o : Nat) (y : RObj) : w.setCells g o (rCells y) = (((((((((w.setCell ⟨g, o, none⟩ (.int .i64 y.1.kind)).setCell ⟨g, o + 1, none⟩ y.2.kv).setCell ⟨g, o + 2, none⟩ y.2.vv).setCell ⟨g, o + 3, none⟩ (.int .i64 y.1.mt.k)).setCell ⟨g, o + 4, none⟩ (.int .u64 y.1.mt.n)).setCell ⟨g, o + 5, none⟩ (.string y.1.mt.s)).setCell ⟨g, o + 6, none⟩ (.int .i64 y.1.mt.o)).setCell ⟨g, o + 7, none⟩ (.int .i64 y.1.a)).setCell ⟨g, o + 8, none⟩ (.int .i64 y.1.b)).setCell ⟨g, o + 9, none⟩ y.2.sv := rfl
theorem RStep.drew {W w : World} {d : Nat} {s : List Ob} {limit : Int} {G : List Nat} (h : RStep W d limit G s w) : RStep W d limit G s w.drew := by
  obtain ⟨G', h1, h2, h3⟩ := h
  exact ⟨G', h1.below (Below.drew (Below.refl _ _)), h2.trans (Chg.of_below (B := []) (Below.drew (Below.refl _ _))) (fun _ hb _ => absurd hb List.not_mem_nil), h3⟩
theorem AnsR.drew {W w : World} {d : Nat} {limit : Int} {G : List Nat} {r : Int × List Ob} {e : Ending} (h : AnsR W d limit G r e w) : AnsR W d limit G r e w.drew := ⟨h.1, h.2.drew⟩
/-- an object in a box -/
structure OBox (W : World) (b : Nat) (y : RObj) (w : World) : Prop where
  below : Below W.heap.size W w
  new : W.heap.size ≤ b
  at_ : w.heap[b]? = some (.cells (rCells y).toArray 60 (0, 0))
theorem box_cells {b : Nat} {y : RObj} {w : World} (h : w.heap[b]? = some (.cells (rCells y).toArray 60 (0, 0))) :
    w.cell? ⟨b, 0, none⟩ = some (.int .i64 y.1.kind) ∧ w.cell? ⟨b, 1, none⟩ = some y.2.kv ∧ w.cell? ⟨b, 2, none⟩ = some y.2.vv ∧ w.cell? ⟨b, 3, none⟩ = some (.int .i64 y.1.mt.k) ∧ w.cell? ⟨b, 4, none⟩ = some (.int .u64 y.1.mt.n) ∧
    w.cell? ⟨b, 5, none⟩ = some (.string y.1.mt.s) ∧ w.cell? ⟨b, 6, none⟩ = some (.int .i64 y.1.mt.o) ∧ w.cell? ⟨b, 7, none⟩ = some (.int .i64 y.1.a) ∧ w.cell? ⟨b, 8, none⟩ = some (.int .i64 y.1.b) ∧ w.cell? ⟨b, 9, none⟩ = some y.2.sv ∧ (∀ o, w.frozen? ⟨b, o, none⟩ = false) ∧ b < w.heap.size :=
  ⟨cell_of h 0, cell_of h 1, cell_of h 2, cell_of h 3, cell_of h 4, cell_of h 5, cell_of h 6, cell_of h 7, cell_of h 8, cell_of h 9, fun o => frozen_of h o, (Array.getElem?_eq_some_iff.1 h).1⟩
theorem OBox.cell {W : World} {b : Nat} {y : RObj} {w : World} (h : OBox W b y w) :
    w.cell? ⟨b, 0, none⟩ = some (.int .i64 y.1.kind) ∧ w.cell? ⟨b, 1, none⟩ = some y.2.kv ∧ w.cell? ⟨b, 2, none⟩ = some y.2.vv ∧ w.cell? ⟨b, 3, none⟩ = some (.int .i64 y.1.mt.k) ∧ w.cell? ⟨b, 4, none⟩ = some (.int .u64 y.1.mt.n) ∧
    w.cell? ⟨b, 5, none⟩ = some (.string y.1.mt.s) ∧ w.cell? ⟨b, 6, none⟩ = some (.int .i64 y.1.mt.o) ∧ w.cell? ⟨b, 7, none⟩ = some (.int .i64 y.1.a) ∧ w.cell? ⟨b, 8, none⟩ = some (.int .i64 y.1.b) ∧ w.cell? ⟨b, 9, none⟩ = some y.2.sv ∧ (∀ o, w.frozen? ⟨b, o, none⟩ = false) ∧ b < w.heap.size := box_cells h.at_
theorem OBox.step {W : World} {b : Nat} {y : RObj} {w w' : World} (h : OBox W b y w) (hb : Below w.heap.size w w') : OBox W b y w' :=
  ⟨h.below.trans (hb.mono h.below.size), h.new, (hb.block b h.cell.2.2.2.2.2.2.2.2.2.2.2).trans h.at_⟩
theorem box_new (w : World) (y : RObj) : OBox w w.heap.size y (w.alloc (.cells (rCells y).toArray 60)) :=
  ⟨(Below.refl _ _).alloc (Nat.le_refl _) _, Nat.le_refl _, heap_alloc_new _ _⟩
theorem OBox.put9 {W : World} {b : Nat} {y : RObj} {w : World} (h : OBox W b y w) (v' : Value) : OBox W b (y.1, ⟨y.2.kv, y.2.vv, v'⟩) (w.setCell ⟨b, 9, none⟩ v') :=
  ⟨Below.setCell h.below h.new _, h.new, (setCell_at h.at_ 9 v').trans rfl⟩
theorem GRow.addr {e : TypeId} {size : Nat} {w : World} {ad : Addr} {n cap : Nat} {xs : List Value} (h : GRow e size w (.slice (some ad) n cap) n xs) (hn : 0 < n) : ∃ g, ad = ⟨g, 0, none⟩ ∧ n ≤ cap ∧ cap ≤ 9223372036854775807 := by
  obtain ⟨ad', cap', hf, q1, q2, q3⟩ := row_form (h.own_ hn)
  have q4 := q3 hn
  generalize vb (Value.slice (some ad) n cap) = g at q4
  rw [q4] at hf
  have e := (Value.slice.injEq ..).mp hf
  obtain rfl := Option.some.inj e.1
  obtain rfl := e.2.2
  exact ⟨_, rfl, q1, q2⟩
theorem Below.put4c {a : Nat} {W w : World} (h : Below a W w) {g : Nat} (hg : a ≤ g) (o : Nat) (y : Val) : Below a W (w.setCells g o y.cs) := by
  rw [setCells_four]
  exact Below.setCell (Below.setCell (Below.setCell (Below.setCell h hg _) hg _) hg _) hg _
theorem OBox.put4c {W : World} {b : Nat} {y : RObj} {w : World} (h : OBox W b y w) {g : Nat} (hg : W.heap.size ≤ g) (hne : g ≠ b) (o : Nat) (z : Val) (hc : Chg [g] w (w.setCells g o z.cs)) : OBox W b y (w.setCells g o z.cs) :=
  ⟨Below.put4c h.below hg o z, h.new, (hc.block b h.cell.2.2.2.2.2.2.2.2.2.2.2 (fun e => hne (List.mem_singleton.1 e).symm)).trans h.at_⟩
set_option maxHeartbeats 2000000 in
set_option maxRecDepth 100000 in
theorem rsetSlot_walk {d : Nat} {s : List Ob} {limit : Int} {G : List Nat} (o q : Int) (v0 : Val) (hv0 : VOK v0) (W : World) (h : RefIs W d s limit G) :
    Calls Try.prog 41 #[.pointer (some ⟨d, 0, none⟩), .int .i64 o, .int .i64 q, v0.v] W (AnsR W d limit G (setSlotS s o q v0)) := by
  have hN := fun w => rnormal_walk v0 hv0 w
  have t0 := Lib.hid (One.start W v0)
  have HI := Lib.hid h
  have HS0 : Hid (∀ w, Below W.heap.size W w → Calls Try.prog 63 #[.pointer (some ⟨d, 0, none⟩), .int .i64 o, .int .i64 q] w (BlP w (hasS s o q))) := fun w hb => has_walk o q w (HI.out.below hb)
  clear h
  unfold Val.v at hN ⊢
  cases ho : hasS s o q with
  | false =>
    have HG : Hid (∀ w, Below W.heap.size W w → AnsR W d limit G (setSlotS s o q v0) (.returned (.int .i64 5)) w) := by
      intro w hb
      unfold AnsR setSlotS
      unfold hasS at ho
      cases hob : obAt s o with
      | none => exact ⟨rfl, RStep.of_below HI.out hb⟩
      | some ob =>
        rw [hob] at ho
        simp only at ho ⊢
        rw [if_neg (of_decide_eq_false ho)]
        exact ⟨rfl, RStep.of_below HI.out hb⟩
    rw [ho] at HS0
    clear ho
    go_enter Try.func41, Try.ntmps41
    go_wp2_with fail
    refine (HS0.out _ t0.out.below).mono ?_
    rintro e w1 ⟨rfl, b1⟩
    have T1 := Lib.hid (t0.out.step b1)
    clear b1 hN
    go_wp2_with fail
    go_ret
    exact HG.out _ T1.out.below
  | true =>
    obtain ⟨ob, hob, hq0, hq1⟩ : ∃ ob, obAt s o = some ob ∧ 0 ≤ q ∧ q < (ob.slots.length : Int) := by
      unfold hasS at ho
      cases hob : obAt s o with
      | none => rw [hob] at ho; cases ho
      | some ob => rw [hob] at ho; exact ⟨ob, rfl, of_decide_eq_true ho⟩
    obtain ⟨j, rfl⟩ := Int.eq_ofNat_of_zero_le hq0
    rw [ho] at HS0
    obtain ⟨l, v, i, x, h1, h2, h3, rfl, hx, rfl, hs, hil, hlen, hu, hlim⟩ := HI.out.at_ hob
    have hS : setSlotS s ((i : Int) + 1) (j : Int) v0 = (0, s.set i (setSl x.1 (x.1.slots.set j (slotV v0)))) := by
      unfold setSlotS
      rw [hob]
      simp only
      rw [if_pos ⟨hq0, hq1⟩, show ((i : Int) + 1).toNat - 1 = i by omega, Int.toNat_natCast]
    have hus : usedOf (s.set i (setSl x.1 (x.1.slots.set j (slotV v0)))) = usedOf s := by
      have e1 := usedOf_set s i x.1 (setSl x.1 (x.1.slots.set j (slotV v0))) hs
      have e2 : (setSl x.1 (x.1.slots.set j (slotV v0))).cells = x.1.cells := by
        show 1 + x.1.kv.length + (x.1.slots.set j (slotV v0)).length = 1 + x.1.kv.length + x.1.slots.length
        rw [List.length_set]
      omega
    have hj : j < x.1.slots.length := by omega
    have hsl : x.1.slots.length ≤ 1048576 := by
      have e1 := used_take s i x.1 hs
      have e2 := used_take_le s (i + 1)
      omega
    have HYes : Hid (∀ w2 sv', Below W.heap.size W w2 → RowR w2 sv' (x.1.slots.set j (slotV v0)) → (∀ b ∈ rown sv' (x.1.slots.set j (slotV v0)), W.heap.size ≤ b) → ∀ v' w5, RCopied W d l v' limit w5 → Chg [d] w2 w5 → w2.heap.size ≤ vb v' →
        AnsR W d limit G (setSlotS s ((i : Int) + 1) (j : Int) v0) (.returned (.int .i64 0)) (w5.setCells (vb v') (i * 10) (rCells (setSl x.1 (x.1.slots.set j (slotV v0)), ⟨x.2.kv, x.2.vv, sv'⟩)))) := by
      intro w2 sv' hb2 hr hn v' w5 hc hk hvb
      unfold AnsR
      rw [hS]
      have hox := (h1.kept (B := []) (Chg.of_below hb2) (fun _ _ => List.not_mem_nil)).objs x (List.mem_of_getElem? hx)
      refine ⟨rfl, h1.swap h2 h3 hlim hb2 hc hk hvb hx (y := (setSl x.1 (x.1.slots.set j (slotV v0)), ⟨x.2.kv, x.2.vv, sv'⟩)) ⟨hox.keys, hox.vals, hr⟩ (fun b hb => ?_) (by rw [hus]; exact hu)⟩
      rcases List.mem_append.1 hb with c | c
      · exact .inl (List.mem_append_left _ c)
      · rcases List.mem_append.1 c with c | c
        · exact .inl (List.mem_append_right _ (List.mem_append_left _ c))
        · exact .inr (hn b c)
    have H1 := Lib.hid h1
    have HX := Lib.hid hx
    obtain ⟨y, Hy⟩ : ∃ y, Hid (y = slotV v0) := ⟨_, Lib.hid rfl⟩
    rw [← Hy.out] at HYes
    clear h1 h2 h3 hs hob hx hu hlim hS hus ho
    go_enter Try.func41, Try.ntmps41
    go_wp2_with fail
    refine (HS0.out _ t0.out.below).mono ?_
    rintro e w1 ⟨rfl, b1⟩
    have T1 := Lib.hid (t0.out.step b1)
    obtain ⟨q0, q1, q2, q3, qf⟩ := T1.out.facts
    clear b1
    go_upto_if 17 with fail
    go_cut [] (fun wx => One W y wx)
    case first =>
      by_cases h9 : v0.k = 9
      · have e9 : (v0.k != 9) = false := by rw [h9]; rfl
        have HV : Hid (y = v0) := by
          show y = v0
          rw [Hy.out]
          unfold slotV
          rw [if_pos h9]
        clear h9 hN
        go_wp2_with fail
        go_meet
        rw [HV.out]
        exact T1.out
      · have e9 : (v0.k != 9) = true := by rw [bne_iff_ne]; exact h9
        have HV : Hid (y = normV v0) := by
          show y = normV v0
          rw [Hy.out]
          unfold slotV
          rw [if_neg h9]
        clear h9
        go_wp2_with fail
        refine (hN _).mono ?_
        rintro e w2 ⟨rfl, b2⟩
        have T2 := Lib.hid (T1.out.step b2)
        obtain ⟨s0, s1, s2, s3, sf⟩ := T2.out.facts
        rw [← HV.out, Val.out]
        have T3 := Lib.hid (T2.out.put y)
        clear b2
        go_wp2_with fail
        go_meet
        rw [put4_eq]
        exact T3.out
    case rest =>
      clear T1 q0 q1 q2 q3 qf hN t0 HS0
      have T2 := Lib.hid hcut
      clear hcut
      obtain ⟨w2, rfl⟩ : ∃ w2, w2 = wc := ⟨_, rfl⟩
      have hR := H1.out.kept (B := []) (Chg.of_below T2.out.below) (fun _ _ => List.not_mem_nil)
      obtain ⟨c0, c1, cf⟩ := hR.d_cells
      obtain ⟨n0, n1, n2, n3, n4, n5, n6, n7, n8, n9⟩ := hR.ob_cells HX.out
      obtain ⟨ad, cap, hv, _, _, had⟩ := row_form hR.row
      rw [hv, had (by omega)] at c0
      have hwr : IntKind.i64.wrap ((i : Nat) : Int) = (i : Int) := by rw [IntKind.wrap_i64]; omega
      have hi0' : (0 : Int) ≤ (i : Int) := Int.natCast_nonneg _
      have hi1' : (i : Int) < (l.length : Int) := by omega
      obtain ⟨ka, kc, va, vc, sa, sc, ekv, evv, esv, _⟩ := (hR.objs x (List.mem_of_getElem? HX.out)).forms
      rw [ekv] at n1
      rw [evv] at n2
      rw [esv] at n9
      clear hR hv had
      go_upto_region 6 with fail
      obtain ⟨w3, Hw3⟩ : ∃ w3, Hid (w3 = w2.alloc (.cells #[.int .i64 x.1.kind, .slice ka x.1.kv.length kc, .slice va x.1.kv.length vc, .int .i64 x.1.mt.k, .int .u64 x.1.mt.n, .string x.1.mt.s, .int .i64 x.1.mt.o, .int .i64 x.1.a, .int .i64 x.1.b, .slice sa x.1.slots.length sc] 60)) := ⟨_, Lib.hid rfl⟩
      rw [← Hw3.out]
      have O3 : Hid (OBox w2 w2.heap.size x w3) := by
        show OBox _ _ _ _
        rw [Hw3.out]
        have e := box_new w2 x
        unfold rCells at e
        rw [ekv, evv, esv] at e
        exact e
      clear n0 n1 n2 n3 n4 n5 n6 n7 n8 n9 c0 c1 cf Hw3
      obtain ⟨_, _, _, _, _, _, _, _, _, o9, of, olt⟩ := O3.out.cell
      rw [esv] at o9
      have hne : x.1.slots ≠ [] := fun e => by rw [e] at hj; exact absurd hj (Nat.not_lt_zero _)
      have HSV : Hid (∀ w, Below W.heap.size W w → w.ownsRow 0 34 4 (.slice sa x.1.slots.length sc) x.1.slots.length (valCells x.1.slots)) := by
        intro w hb
        rw [← esv]
        exact ((H1.out.kept (B := []) (Chg.of_below hb) (fun _ _ => List.not_mem_nil)).objs x (List.mem_of_getElem? HX.out)).slots.own_ hne
      have HB3 := Lib.hid (bthen T2.out.below O3.out.below)
      obtain ⟨tj, hj0, hj1, hj2, hj3⟩ := info_parts (show (Try.prog.info? 34).map (fun i => (i.zero, i.size, i.bytes)) = some (some (.agg #[.int .i64 0, .int .u64 0, .string ByteArray.empty, .int .i64 0]), 4, 40) from by kernel_rfl)
      have HF : Hid (∃ ao cap, Value.slice sa x.1.slots.length sc = .slice ao x.1.slots.length cap) := ⟨_, _, rfl⟩
      have HBL : Hid (∀ O, Below w3.heap.size w3 (w3.alloc O)) := fun O => (Below.refl _ _).alloc (Nat.le_refl _) O
      have HN := Lib.hid hne
      have HE := Lib.hid (And.intro ekv (And.intro evv esv))
      clear hne ekv evv esv
      go_wp2_with (at_builtin; go_loud (refine wpList_copy_row _ rfl (.tmp 28) (.tmp 30) 58 rfl 34 tj _ 4 40 Try.underlying58 hj0 hj1 hj2 hj3 rfl (by decide) _ rfl _ rfl x.1.slots.length (valCells x.1.slots) HF.out (fun _ => HSV.out _ (bthen HB3.out (HBL.out _))) (fun e => absurd e (by omega)) (by unfold maxLen; omega) (by omega) ?_))
      intro ad' cap' w4 g1 g2 g3
      obtain ⟨g, rfl, q1, q2⟩ := g1.addr (by omega)
      have B4 : Hid (Below w3.heap.size w3 w4) := (HBL.out _).trans (g2.mono (by simp))
      have O4 := Lib.hid (O3.out.step B4.out)
      have G4 := Lib.hid (g1.own_ (by omega))
      have hgn : w3.heap.size ≤ g := by have := g3 g (gown_of (by omega) (List.mem_singleton.2 rfl)); (try simp at this); omega
      have hb23 : w2.heap.size < w3.heap.size := olt
      clear g1 g2 g3 o9 of olt
      obtain ⟨_, _, _, _, _, _, _, _, _, o9, of, olt⟩ := O4.out.cell
      rw [HE.out.2.2] at o9
      go_upto_region 7 with fail
      obtain ⟨w5, Hw5⟩ : ∃ w5, Hid (w5 = w4.setCell ⟨w2.heap.size, 9, none⟩ (.slice (some ⟨g, 0, none⟩) x.1.slots.length cap')) := ⟨_, Lib.hid rfl⟩
      rw [← Hw5.out]
      have O5 : Hid (OBox w2 w2.heap.size (x.1, ⟨x.2.kv, x.2.vv, .slice (some ⟨g, 0, none⟩) x.1.slots.length cap'⟩) w5) := by
        show OBox _ _ _ _
        rw [Hw5.out]
        exact O4.out.put9 _
      have G5 : Hid (w5.ownsRow 0 34 4 (.slice (some ⟨g, 0, none⟩) x.1.slots.length cap') x.1.slots.length (valCells x.1.slots)) := by
        show World.ownsRow _ _ _ _ _ _ _
        rw [Hw5.out]
        exact row_kept G4.out (chg_set w4 w2.heap.size 9 _) (fun b hb e => by rw [List.mem_singleton.1 e] at hb; have : w2.heap.size = g := List.mem_singleton.1 hb; omega)
      clear o9 of olt O4 G4
      obtain ⟨_, _, _, _, _, _, _, _, _, o9, of, olt⟩ := O5.out.cell
      have T5 := Lib.hid (T2.out.step O5.out.below)
      obtain ⟨t0, t1, t2, t3, tf⟩ := T5.out.facts
      obtain ⟨z0, z1, z2, z3⟩ := val_cells G5.out hj
      have zf : ∀ q, w5.frozen? ⟨g, q, none⟩ = false := fun q => G5.out.frozenAt q
      rw [show vb (.slice (some ⟨g, 0, none⟩) x.1.slots.length cap') = g from rfl] at z0 z1 z2 z3
      go_upto_region 8 with fail
      rw [← setCells_four]
      have hg2 : w2.heap.size ≤ g := by omega
      have hg3 : g ≠ w2.heap.size := by omega
      obtain ⟨w6, Hw6⟩ : ∃ w6, Hid (w6 = w5.setCells g (j * 4) y.cs) := ⟨_, Lib.hid rfl⟩
      rw [← Hw6.out]
      have hput := row_put y.cs (j * 4) G5.out
      rw [← Hw6.out, valCells_put _ _ _ hj] at hput
      have O6 : Hid (OBox w2 w2.heap.size (x.1, ⟨x.2.kv, x.2.vv, .slice (some ⟨g, 0, none⟩) x.1.slots.length cap'⟩) w6) := by
        show OBox _ _ _ _
        have e := O5.out.put4c hg2 hg3 (j * 4) y (by rw [← Hw6.out]; exact hput.2)
        rw [← Hw6.out] at e
        exact e
      have R6 : Hid (RowR w6 (.slice (some ⟨g, 0, none⟩) x.1.slots.length cap') (x.1.slots.set j y)) := by
        show RowR _ _ _
        exact RowR.of_owns (by rw [List.length_set]; exact hput.1)
      have R6n : Hid (∀ b ∈ rown (.slice (some ⟨g, 0, none⟩) x.1.slots.length cap') (x.1.slots.set j y), W.heap.size ≤ b) := fun b hb => by
        have e : b = g := List.mem_singleton.1 (rown_mem hb).2
        have := T2.out.below.size
        omega
      have HB6 := Lib.hid (bthen T2.out.below O6.out.below)
      have HA := Lib.hid (HYes.out w6 _ HB6.out R6.out R6n.out)
      clear z0 z1 z2 z3 zf t0 t1 t2 t3 tf o9 of olt hput G5 O5 T5 HYes R6 R6n Hw6 Hw5 HSV HBL HF HB3 B4 O3 hg2 hg3
      have hR := H1.out.kept (B := []) (Chg.of_below HB6.out) (fun _ _ => List.not_mem_nil)
      obtain ⟨c0, c1, cf⟩ := hR.d_cells
      have hdl : d < w6.heap.size := hR.lt d (rfoot_d ..)
      have hdW : d < W.heap.size := H1.out.lt d (rfoot_d ..)
      have HROW : Hid (∀ O, (w6.alloc O).ownsRow 0 60 10 v l.length (rrow l)) := fun O => hR.row.alloc O
      have HF : Hid (∃ ao cap, v = .slice ao l.length cap) := by
        obtain ⟨ad, cap, hv, _⟩ := row_form hR.row
        exact ⟨ad, cap, hv⟩
      have HBL : Hid (∀ O, Below w6.heap.size w6 (w6.alloc O)) := fun O => (Below.refl _ _).alloc (Nat.le_refl _) O
      clear hR
      obtain ⟨ti, ti0, ti1, ti2, ti3⟩ := info_parts (show (Try.prog.info? 60).map (fun i => (i.zero, i.size, i.bytes)) = some (some (.agg #[.int .i64 0, .slice none 0 0, .slice none 0 0, .int .i64 0, .int .u64 0, .string ByteArray.empty, .int .i64 0, .int .i64 0, .int .i64 0, .slice none 0 0]), 10, 136) from by kernel_rfl)
      go_wp2_with (at_builtin; go_loud (refine wpList_copy_row _ rfl (.tmp 39) (.tmp 43) 47 rfl 60 ti _ 10 136 Try.underlying47 ti0 ti1 ti2 ti3 rfl (by decide) _ rfl _ rfl l.length (rrow l) HF.out (fun _ => HROW.out _) (fun e => absurd e (by omega)) (by unfold maxLen; omega) (by omega) ?_))
      intro ad7 cap7 w7 g1 g2 g3
      obtain ⟨g7, rfl, hC, m0, mf, r1, r2, hgn7⟩ := H1.out.copy_facts HB6.out (HBL.out _) g1 (by simp) g2 g3 (by omega)
      have HC := Lib.hid hC
      have b7 : Below w6.heap.size w6 w7 := by
        have := HBL.out (Obj.cells #[] 60)
        exact this.trans (g2.mono (by first | omega | (simp <;> omega)))
      have O7 := Lib.hid (O6.out.step b7)
      have B7 := Lib.hid b7
      have hold := O6.out.cell.2.2.2.2.2.2.2.2.2.2.2
      clear g1 g2 g3 HROW HF c0 c1 cf hC b7
      go_upto_region 9 with fail
      obtain ⟨w8, Hw8⟩ : ∃ w8, Hid (w8 = w7.setCell ⟨d, 0, none⟩ (.slice (some ⟨g7, 0, none⟩) l.length cap7)) := ⟨_, Lib.hid rfl⟩
      rw [← Hw8.out] at HC ⊢
      have K8 : Hid (Chg [d] w6 w8) := by
        show Chg _ _ _
        rw [Hw8.out]
        exact (Chg.of_below (B := [d]) B7.out).trans (chg_set w7 d 0 _) (fun b hb' _ => hb')
      have A8 : w8.heap[w2.heap.size]? = some (.cells (rCells (x.1, ⟨x.2.kv, x.2.vv, .slice (some ⟨g, 0, none⟩) x.1.slots.length cap'⟩)).toArray 60 (0, 0)) := by
        rw [Hw8.out, setCell_off (by have := T2.out.size; omega)]
        exact O7.out.at_
      obtain ⟨o0, o1, o2, o3, o4, o5, o6, o7, o8, o9, of, olt⟩ := box_cells A8
      rw [HE.out.1] at o1
      rw [HE.out.2.1] at o2
      obtain ⟨m0', m1', mf'⟩ := HC.out.at_.d_cells
      obtain ⟨n0, n1, n2, n3, n4, n5, n6, n7, n8, n9⟩ := HC.out.at_.ob_cells HX.out
      have nf := HC.out.at_.free_at (by omega)
      rw [show vb (.slice (some ⟨g7, 0, none⟩) l.length cap7) = g7 from rfl] at n0 n1 n2 n3 n4 n5 n6 n7 n8 n9 nf
      clear m0 mf A8
      have HZ : Hid (AnsR W d limit G (setSlotS s ((i : Int) + 1) (j : Int) v0) (.returned (.int .i64 0)) ((((((((((w8.setCell ⟨g7, i * 10, none⟩ (.int .i64 x.1.kind)).setCell ⟨g7, i * 10 + 1, none⟩ (.slice ka x.1.kv.length kc)).setCell ⟨g7, i * 10 + 2, none⟩ (.slice va x.1.kv.length vc)).setCell ⟨g7, i * 10 + 3, none⟩ (.int .i64 x.1.mt.k)).setCell ⟨g7, i * 10 + 4, none⟩ (.int .u64 x.1.mt.n)).setCell ⟨g7, i * 10 + 5, none⟩ (.string x.1.mt.s)).setCell ⟨g7, i * 10 + 6, none⟩ (.int .i64 x.1.mt.o)).setCell ⟨g7, i * 10 + 7, none⟩ (.int .i64 x.1.a)).setCell ⟨g7, i * 10 + 8, none⟩ (.int .i64 x.1.b)).setCell ⟨g7, i * 10 + 9, none⟩ (.slice (some ⟨g, 0, none⟩) x.1.slots.length cap')).drew) := by
        have hz := (HA.out _ _ HC.out K8.out hgn7).drew
        rw [setCells_ten] at hz
        simp only [HE.out.1, HE.out.2.1] at hz
        exact hz
      go_region_law (fail)
      all_goals
        go_wp2_with fail
        go_ret
        exact HZ.out
end Go.Proofs.Ytlihonbmopeemaa.Hp
end
