/- Texts on ObjG, joined. No conditions but those that each theorem states. -/
import Derived.Test.YtlihonbmopeemaaBdAskG
import Derived.Deep.RegionHeld3
section
namespace Go.Proofs.Ytlihonbmopeemaa.Hp
open Go Go.RowKit Go.Proofs.Ytlihonbmopeemaa.HpLaw Go.Proofs.Ytlihonbmopeemaa.Ans Go.Proofs.Ytlihonbmopeemaa.Num Go.Proofs.Ytlihonbmopeemaa.DigLaw Go.Proofs.Ytlihonbmopeemaa.Fl Go.Proofs.Ytlihonbmopeemaa.Dig Go.Proofs.Ytlihonbmopeemaa.Float
set_option linter.unusedSimpArgs false

theorem canonW_again (a : Nat) : canonW (canonW a) = canonW a := by
  unfold canonW
  by_cases h : isNaN a
  · rw [if_pos h]; split <;> rfl
  · rw [if_neg h, if_neg h]
theorem canonW_zero : canonW 0 = 0 := by
  unfold canonW
  rw [if_neg (by decide)]
theorem kindN_zero : kindN 0 = 0 := by
  unfold kindN
  have e : rg 0 = 0 := by unfold rg; decide
  rw [e, if_neg (by rw [cINF]; decide), if_neg (by rw [cINF]; decide), if_pos rfl]
theorem normV_again (x : Val) : normV (normV x) = normV x := by
  by_cases h1 : x.k = 1 ∨ x.k = 2
  · have e : normV x = ⟨x.k, 0, E3, 0⟩ := by unfold normV; rw [if_pos h1]
    rw [e]; unfold normV; rw [if_pos h1]
  · by_cases h2 : x.k = 3
    · have e : normV x = ⟨3, ((canonW x.n.toNat : Nat) : Int), E3, 0⟩ := by unfold normV; rw [if_neg h1, if_pos h2]
      rw [e]; unfold normV; rw [if_neg (by show ¬ ((3 : Int) = 1 ∨ (3 : Int) = 2); decide), if_pos rfl]
      show (⟨3, ((canonW ((canonW x.n.toNat : Nat) : Int).toNat : Nat) : Int), E3, 0⟩ : Val) = _
      rw [Int.toNat_natCast, canonW_again]
    · by_cases h3 : x.k = 4
      · have e : normV x = ⟨4, 0, x.s, 0⟩ := by unfold normV; rw [if_neg h1, if_neg h2, if_pos h3]
        rw [e]; rfl
      · by_cases h4 : 5 ≤ x.k ∧ x.k ≤ 8
        · have e : normV x = ⟨x.k, 0, E3, x.o⟩ := by unfold normV; rw [if_neg h1, if_neg h2, if_neg h3, if_pos h4]
          rw [e]; unfold normV; rw [if_neg h1, if_neg h2, if_neg h3, if_pos h4]
        · have e : normV x = nilV := by unfold normV; rw [if_neg h1, if_neg h2, if_neg h3, if_neg h4]
          rw [e]; rfl
theorem normV_three {x : Val} (h : (normV x).k = 3) : (normV x).s = E3 ∧ (normV x).o = 0 := by
  by_cases h1 : x.k = 1 ∨ x.k = 2
  · have e : normV x = ⟨x.k, 0, E3, 0⟩ := by unfold normV; rw [if_pos h1]
    rw [e]; exact ⟨rfl, rfl⟩
  · by_cases h2 : x.k = 3
    · have e : normV x = ⟨3, ((canonW x.n.toNat : Nat) : Int), E3, 0⟩ := by unfold normV; rw [if_neg h1, if_pos h2]
      rw [e]; exact ⟨rfl, rfl⟩
    · by_cases h3 : x.k = 4
      · have e : normV x = ⟨4, 0, x.s, 0⟩ := by unfold normV; rw [if_neg h1, if_neg h2, if_pos h3]
        rw [e] at h; exact absurd h (by show ¬ ((4 : Int) = 3); decide)
      · by_cases h4 : 5 ≤ x.k ∧ x.k ≤ 8
        · have e : normV x = ⟨x.k, 0, E3, x.o⟩ := by unfold normV; rw [if_neg h1, if_neg h2, if_neg h3, if_pos h4]
          rw [e] at h; exact absurd h h2
        · have e : normV x = nilV := by unfold normV; rw [if_neg h1, if_neg h2, if_neg h3, if_neg h4]
          rw [e] at h; exact absurd h (by decide)
/-- a key that is kept tells itself -/
theorem keyV_again {x z : Val} (h : keyV x = some z) : (normV z).k ≠ 0 ∧ keyV z = some z := by
  unfold keyV keyY at h
  have ha := normV_again x
  have h3 := @normV_three x
  obtain ⟨y, hy⟩ : ∃ y, normV x = y := ⟨_, rfl⟩
  rw [hy] at h ha h3
  by_cases c : y.k = 0 ∨ (y.k = 3 ∧ kindN y.n.toNat = 4)
  · rw [if_pos c] at h; cases h
  · rw [if_neg c] at h
    by_cases c2 : y.k = 3 ∧ kindN y.n.toNat = 0
    · rw [if_pos c2] at h
      obtain ⟨e1, e2⟩ := h3 c2.1
      rw [c2.1, e1, e2] at h
      obtain rfl := Option.some.inj h
      have e : normV (⟨3, 0, E3, 0⟩ : Val) = ⟨3, 0, E3, 0⟩ := by
        unfold normV
        rw [if_neg (by show ¬ ((3 : Int) = 1 ∨ (3 : Int) = 2); decide), if_pos rfl]
        show (⟨3, ((canonW 0 : Nat) : Int), E3, 0⟩ : Val) = _
        rw [canonW_zero]; rfl
      refine ⟨by rw [e]; show ¬ ((3 : Int) = 0); decide, ?_⟩
      unfold keyV keyY
      rw [e, if_neg, if_pos]
      · exact ⟨rfl, kindN_zero⟩
      · rintro (d | d)
        · exact absurd d (by show ¬ ((3 : Int) = 0); decide)
        · have := d.2
          have e0 : kindN (0 : Int).toNat = 0 := kindN_zero
          rw [e0] at this
          exact absurd this (by decide)
    · rw [if_neg c2] at h
      obtain rfl := Option.some.inj h
      refine ⟨by rw [ha]; exact fun e => c (.inl e), ?_⟩
      unfold keyV keyY
      rw [ha, if_neg c, if_neg c2]
/-- the keys that are kept are normal ones -/
def NormS (s : List Ob) : Prop := ∀ ob ∈ s, ∀ x ∈ ob.kv, (normV x.1).k ≠ 0 ∧ keyV x.1 = some x.1
theorem NormS.nil : NormS [] := fun ob h => by cases h
theorem NormS.snoc {s : List Ob} (h : NormS s) {x : Ob} (hx : ∀ y ∈ x.kv, (normV y.1).k ≠ 0 ∧ keyV y.1 = some y.1) : NormS (s ++ [x]) := by
  intro ob hob
  rcases List.mem_append.1 hob with c | c
  · exact h ob c
  · rw [List.mem_singleton.1 c]; exact hx
theorem NormS.set {s : List Ob} (h : NormS s) (i : Nat) {x : Ob} (hx : ∀ y ∈ x.kv, (normV y.1).k ≠ 0 ∧ keyV y.1 = some y.1) : NormS (s.set i x) := by
  intro ob hob
  rcases List.mem_or_eq_of_mem_set hob with c | rfl
  · exact h ob c
  · exact hx
theorem NormS.at_ {s : List Ob} (h : NormS s) {o : Int} {ob : Ob} (ho : obAt s o = some ob) : ∀ y ∈ ob.kv, (normV y.1).k ≠ 0 ∧ keyV y.1 = some y.1 := by
  obtain ⟨i, _, hi⟩ := obAt_some ho
  exact h ob (List.mem_of_getElem? hi)
theorem actS_norm {s : List Ob} {limit : Int} (x : ActV) (h : NormS s) : NormS (actS s limit x) := by
  unfold actS
  split
  · unfold tableR
    split
    · exact h.snoc fun y hy => by cases hy
    · exact h
  · split
    · unfold setS
      cases ho : obAt s x.o with
      | none => exact h
      | some ob =>
        simp only
        split
        · cases hk : keyV x.k with
          | none => exact h
          | some k' =>
            have hk' := keyV_again hk
            simp only
            split
            · exact h.set _ fun y hy => h.at_ ho y (List.mem_filter.1 hy).1
            · cases hl : lookKV ob.kv k' with
              | some u =>
                refine h.set _ fun y hy => ?_
                obtain ⟨z, hz, rfl⟩ := List.mem_map.1 hy
                split
                · exact h.at_ ho z hz
                · exact h.at_ ho z hz
              | none =>
                simp only
                split
                · refine h.set _ fun y hy => ?_
                  rcases List.mem_append.1 hy with c | c
                  · exact h.at_ ho y c
                  · rw [List.mem_singleton.1 c]; exact hk'
                · exact h
        · exact h
    · split
      · unfold setMetaS
        cases ho : obAt s x.o with
        | none => exact h
        | some ob =>
          simp only
          split
          · split
            · exact h.set _ (show ∀ y ∈ ob.kv, _ from h.at_ ho)
            · exact h
          · exact h
      · split
        · unfold makeS
          split
          · exact h
          · split
            · exact h.snoc fun y hy => by cases hy
            · exact h
        · split
          · unfold setSlotS
            cases ho : obAt s x.o with
            | none => exact h
            | some ob =>
              simp only
              split
              · exact h.set _ (show ∀ y ∈ ob.kv, _ from h.at_ ho)
              · exact h
          · split
            · unfold markS
              cases ho : obAt s x.o with
              | none => exact h
              | some ob =>
                simp only
                split
                · exact h
                · exact h.set _ (show ∀ y ∈ ob.kv, _ from h.at_ ho)
            · exact h
/-- the key that lies ahead of number i -/
def keyAt (kv : List (Val × Val)) : Nat → Val
  | 0 => nilV
  | i + 1 => ((kv[i]?).map Prod.fst).getD nilV
theorem keyAt_succ {kv : List (Val × Val)} {i : Nat} {x : Val × Val} (h : kv[i]? = some x) : keyAt kv (i + 1) = x.1 := by
  show ((kv[i]?).map Prod.fst).getD nilV = x.1
  rw [h]; rfl
theorem placeL_nodup {l : List Val} (hn : l.Nodup) {i : Nat} {k : Val} (hi : l[i]? = some k) : placeL l k = some i := by
  refine placeL_some.2 ⟨hi, fun j hj e => ?_⟩
  obtain ⟨a1, a2⟩ := List.getElem?_eq_some_iff.1 hi
  obtain ⟨b1, b2⟩ := List.getElem?_eq_some_iff.1 e
  have hne := List.pairwise_iff_getElem.1 (List.nodup_iff_pairwise_ne.1 hn) j i b1 a1 hj
  rw [a2, b2] at hne
  exact hne rfl
theorem next_chain {s : List Ob} {o : Int} {ob : Ob} (ho : obAt s o = some ob) (h5 : ob.kind = 5) (hn : NormS s) (hd : (keysOf ob).Nodup) (i : Nat) (hi : i ≤ ob.kv.length) : nextS s o (keyAt ob.kv i) = nextAt ob.kv i := by
  unfold nextS
  rw [ho]
  simp only
  rw [if_pos h5]
  cases i with
  | zero => rfl
  | succ i =>
    obtain ⟨x, hx⟩ : ∃ x, ob.kv[i]? = some x := ⟨_, List.getElem?_eq_getElem hi⟩
    rw [keyAt_succ hx]
    obtain ⟨h1, h2⟩ := hn.at_ ho x (List.mem_of_getElem? hx)
    have hp : placeL (keysOf ob) x.1 = some i := placeL_nodup hd (by unfold keysOf; rw [List.getElem?_map, hx]; rfl)
    rw [if_neg h1, h2]
    simp only
    rw [hp]
theorem look_at : ∀ {kv : List (Val × Val)}, (kv.map Prod.fst).Nodup → ∀ {i : Nat} {x : Val × Val}, kv[i]? = some x → lookKV kv x.1 = some x.2 := by
  intro kv hd i x hx
  have hp : placeL (kv.map Prod.fst) x.1 = some i := placeL_nodup hd (by rw [List.getElem?_map, hx]; rfl)
  obtain ⟨v, h1, h2⟩ := look_place hp
  rw [List.getElem?_map, hx] at h2
  rw [h1]; exact congrArg some (Option.some.inj h2).symm
theorem get_chain {s : List Ob} {o : Int} {ob : Ob} (ho : obAt s o = some ob) (hn : NormS s) (hd : (keysOf ob).Nodup) {i : Nat} {x : Val × Val} (hx : ob.kv[i]? = some x) : getS s o x.1 = x.2 := by
  obtain ⟨h1, h2⟩ := hn.at_ ho x (List.mem_of_getElem? hx)
  unfold getS
  rw [ho, h2]
  simp only
  rw [look_at hd hx]
  rfl
end Go.Proofs.Ytlihonbmopeemaa.Hp
end
section
namespace Go.Proofs.Ytlihonbmopeemaa.Hp
open Go Go.RowKit Go.Proofs.Ytlihonbmopeemaa.HpLaw Go.Proofs.Ytlihonbmopeemaa.Ans Go.Proofs.Ytlihonbmopeemaa.Num Go.Proofs.Ytlihonbmopeemaa.DigLaw Go.Proofs.Ytlihonbmopeemaa.Fl Go.Proofs.Ytlihonbmopeemaa.Dig Go.Proofs.Ytlihonbmopeemaa.Float
set_option linter.unusedSimpArgs false
attribute [local go_sem ↓] Go.wp_at_zero Go.wp_at_succ

theorem list10 : ∀ (c : List Value), c.length = 10 → ∃ c0 c1 c2 c3 c4 c5 c6 c7 c8 c9, c = [c0, c1, c2, c3, c4, c5, c6, c7, c8, c9]
  | [c0, c1, c2, c3, c4, c5, c6, c7, c8, c9], _ => ⟨c0, c1, c2, c3, c4, c5, c6, c7, c8, c9, rfl⟩
theorem box10 {w : World} {b : Nat} {c : Array Value} (h : w.heap[b]? = some (.cells c 60 (0, 0))) (hc : c.size = 10) (a0 a1 a2 a3 a4 a5 a6 a7 a8 a9 : Value) :
    ((((((((((w.setCell ⟨b, 0, none⟩ a0).setCell ⟨b, 1, none⟩ a1).setCell ⟨b, 2, none⟩ a2).setCell ⟨b, 3, none⟩ a3).setCell ⟨b, 4, none⟩ a4).setCell ⟨b, 5, none⟩ a5).setCell ⟨b, 6, none⟩ a6).setCell ⟨b, 7, none⟩ a7).setCell ⟨b, 8, none⟩ a8).setCell ⟨b, 9, none⟩ a9).heap[b]? = some (.cells #[a0, a1, a2, a3, a4, a5, a6, a7, a8, a9] 60 (0, 0)) ∧ Chg [b] w ((((((((((w.setCell ⟨b, 0, none⟩ a0).setCell ⟨b, 1, none⟩ a1).setCell ⟨b, 2, none⟩ a2).setCell ⟨b, 3, none⟩ a3).setCell ⟨b, 4, none⟩ a4).setCell ⟨b, 5, none⟩ a5).setCell ⟨b, 6, none⟩ a6).setCell ⟨b, 7, none⟩ a7).setCell ⟨b, 8, none⟩ a8).setCell ⟨b, 9, none⟩ a9) ∧ ∀ (N : Nat) (V : World), N ≤ b → Below N V w → Below N V ((((((((((w.setCell ⟨b, 0, none⟩ a0).setCell ⟨b, 1, none⟩ a1).setCell ⟨b, 2, none⟩ a2).setCell ⟨b, 3, none⟩ a3).setCell ⟨b, 4, none⟩ a4).setCell ⟨b, 5, none⟩ a5).setCell ⟨b, 6, none⟩ a6).setCell ⟨b, 7, none⟩ a7).setCell ⟨b, 8, none⟩ a8).setCell ⟨b, 9, none⟩ a9) := by
  obtain ⟨c0, c1, c2, c3, c4, c5, c6, c7, c8, c9, hl⟩ := list10 c.toList (by simpa using hc)
  have hc' : c = #[c0, c1, c2, c3, c4, c5, c6, c7, c8, c9] := by rw [← Array.toArray_toList (xs := c), hl]
  subst hc'
  have h0 : (w.setCell ⟨b, 0, none⟩ a0).heap[b]? = some (.cells #[a0, c1, c2, c3, c4, c5, c6, c7, c8, c9] 60 (0, 0)) := (setCell_at h 0 a0).trans rfl
  have h1 : ((w.setCell ⟨b, 0, none⟩ a0).setCell ⟨b, 1, none⟩ a1).heap[b]? = some (.cells #[a0, a1, c2, c3, c4, c5, c6, c7, c8, c9] 60 (0, 0)) := (setCell_at h0 1 a1).trans rfl
  have h2 : (((w.setCell ⟨b, 0, none⟩ a0).setCell ⟨b, 1, none⟩ a1).setCell ⟨b, 2, none⟩ a2).heap[b]? = some (.cells #[a0, a1, a2, c3, c4, c5, c6, c7, c8, c9] 60 (0, 0)) := (setCell_at h1 2 a2).trans rfl
  have h3 : ((((w.setCell ⟨b, 0, none⟩ a0).setCell ⟨b, 1, none⟩ a1).setCell ⟨b, 2, none⟩ a2).setCell ⟨b, 3, none⟩ a3).heap[b]? = some (.cells #[a0, a1, a2, a3, c4, c5, c6, c7, c8, c9] 60 (0, 0)) := (setCell_at h2 3 a3).trans rfl
  have h4 : (((((w.setCell ⟨b, 0, none⟩ a0).setCell ⟨b, 1, none⟩ a1).setCell ⟨b, 2, none⟩ a2).setCell ⟨b, 3, none⟩ a3).setCell ⟨b, 4, none⟩ a4).heap[b]? = some (.cells #[a0, a1, a2, a3, a4, c5, c6, c7, c8, c9] 60 (0, 0)) := (setCell_at h3 4 a4).trans rfl
  have h5 : ((((((w.setCell ⟨b, 0, none⟩ a0).setCell ⟨b, 1, none⟩ a1).setCell ⟨b, 2, none⟩ a2).setCell ⟨b, 3, none⟩ a3).setCell ⟨b, 4, none⟩ a4).setCell ⟨b, 5, none⟩ a5).heap[b]? = some (.cells #[a0, a1, a2, a3, a4, a5, c6, c7, c8, c9] 60 (0, 0)) := (setCell_at h4 5 a5).trans rfl
  have h6 : (((((((w.setCell ⟨b, 0, none⟩ a0).setCell ⟨b, 1, none⟩ a1).setCell ⟨b, 2, none⟩ a2).setCell ⟨b, 3, none⟩ a3).setCell ⟨b, 4, none⟩ a4).setCell ⟨b, 5, none⟩ a5).setCell ⟨b, 6, none⟩ a6).heap[b]? = some (.cells #[a0, a1, a2, a3, a4, a5, a6, c7, c8, c9] 60 (0, 0)) := (setCell_at h5 6 a6).trans rfl
  have h7 : ((((((((w.setCell ⟨b, 0, none⟩ a0).setCell ⟨b, 1, none⟩ a1).setCell ⟨b, 2, none⟩ a2).setCell ⟨b, 3, none⟩ a3).setCell ⟨b, 4, none⟩ a4).setCell ⟨b, 5, none⟩ a5).setCell ⟨b, 6, none⟩ a6).setCell ⟨b, 7, none⟩ a7).heap[b]? = some (.cells #[a0, a1, a2, a3, a4, a5, a6, a7, c8, c9] 60 (0, 0)) := (setCell_at h6 7 a7).trans rfl
  have h8 : (((((((((w.setCell ⟨b, 0, none⟩ a0).setCell ⟨b, 1, none⟩ a1).setCell ⟨b, 2, none⟩ a2).setCell ⟨b, 3, none⟩ a3).setCell ⟨b, 4, none⟩ a4).setCell ⟨b, 5, none⟩ a5).setCell ⟨b, 6, none⟩ a6).setCell ⟨b, 7, none⟩ a7).setCell ⟨b, 8, none⟩ a8).heap[b]? = some (.cells #[a0, a1, a2, a3, a4, a5, a6, a7, a8, c9] 60 (0, 0)) := (setCell_at h7 8 a8).trans rfl
  have h9 : ((((((((((w.setCell ⟨b, 0, none⟩ a0).setCell ⟨b, 1, none⟩ a1).setCell ⟨b, 2, none⟩ a2).setCell ⟨b, 3, none⟩ a3).setCell ⟨b, 4, none⟩ a4).setCell ⟨b, 5, none⟩ a5).setCell ⟨b, 6, none⟩ a6).setCell ⟨b, 7, none⟩ a7).setCell ⟨b, 8, none⟩ a8).setCell ⟨b, 9, none⟩ a9).heap[b]? = some (.cells #[a0, a1, a2, a3, a4, a5, a6, a7, a8, a9] 60 (0, 0)) := (setCell_at h8 9 a9).trans rfl
  refine ⟨h9, ?_, fun N V hN hb => ?_⟩
  · exact ((((((((((Chg.refl [b] w).trans (chg_set _ b 0 a0) (fun x hx _ => hx)).trans (chg_set _ b 1 a1) (fun x hx _ => hx)).trans (chg_set _ b 2 a2) (fun x hx _ => hx)).trans (chg_set _ b 3 a3) (fun x hx _ => hx)).trans (chg_set _ b 4 a4) (fun x hx _ => hx)).trans (chg_set _ b 5 a5) (fun x hx _ => hx)).trans (chg_set _ b 6 a6) (fun x hx _ => hx)).trans (chg_set _ b 7 a7) (fun x hx _ => hx)).trans (chg_set _ b 8 a8) (fun x hx _ => hx)).trans (chg_set _ b 9 a9) (fun x hx _ => hx)
  · exact (Below.setCell (Below.setCell (Below.setCell (Below.setCell (Below.setCell (Below.setCell (Below.setCell (Below.setCell (Below.setCell (Below.setCell hb hN _) hN _) hN _) hN _) hN _) hN _) hN _) hN _) hN _) hN _)
def zeroO : RObj := (⟨0, [], nilV, 0, 0, []⟩, ⟨.slice none 0 0, .slice none 0 0, .slice none 0 0⟩)
/-- what Object answers: nothing, or the object with rows of its own -/
def ObjectP (W : World) (s : List Ob) (o : Int) (e : Ending) (w' : World) : Prop :=
  Below W.heap.size W w' ∧ ((obAt s o = none ∧ e = .returned (.tuple #[rV zeroO, .bool false])) ∨ ∃ ob loc, obAt s o = some ob ∧ e = .returned (.tuple #[rV (ob, loc), .bool true]) ∧ RObjAt w' (ob, loc))
set_option maxHeartbeats 1000000 in
set_option maxRecDepth 100000 in
theorem object_walk {hp : Nat} {s : List Ob} {limit : Int} {F : List Nat} (o : Int) (W : World) (h : HeapIs W hp s limit F) :
    Calls Try.prog 45 #[.pointer (some ⟨hp, 0, none⟩), .int .i64 o] W (ObjectP W s o) := by
  have HI := Lib.hid h
  rcases ob_cases h o with ⟨ho, hat⟩ | ⟨os, v, q, x, h1, h2, h3, h4, h5, rfl, hx, ho, hs, hat⟩
  · have HC := Lib.hid hat
    have HO := Lib.hid ho
    clear h ho hat
    go_enter Try.func45, Try.ntmps45
    have HBL : Hid (∀ O, Below W.heap.size W (W.alloc O)) := fun O => (Below.refl _ _).alloc (Nat.le_refl _) O
    go_wp2_with fail
    refine (HC.out _ (HBL.out _)).mono ?_
    rintro e w1 ⟨rfl, rfl⟩
    go_wp2_with fail
    exact bodyPost_ret (v := .tuple #[.agg #[.int .i64 0, .slice none 0 0, .slice none 0 0, .int .i64 0, .int .u64 0, .string ⟨#[]⟩, .int .i64 0, .int .i64 0, .int .i64 0, .slice none 0 0], .bool false]) (by simp [results, Try.results45, go_sem]) rfl ⟨HBL.out _, .inl ⟨HO.out, rfl⟩⟩
  · have HC := Lib.hid hat
    clear hat
    go_enter Try.func45, Try.ntmps45
    have HBL : Hid (∀ O, Below W.heap.size W (W.alloc O)) := fun O => (Below.refl _ _).alloc (Nat.le_refl _) O
    go_wp2_with fail
    refine (HC.out _ (HBL.out _)).mono ?_
    rintro e w1 ⟨rfl, rfl⟩
    go_upto_region 4 with fail
    obtain ⟨w1, Hw1⟩ : ∃ w1, Hid (w1 = W.alloc (.cells #[.int .i64 0, .slice none 0 0, .slice none 0 0, .int .i64 0, .int .u64 0, .string ⟨#[]⟩, .int .i64 0, .int .i64 0, .int .i64 0, .slice none 0 0] 60)) := ⟨_, Lib.hid rfl⟩
    rw [← Hw1.out]
    have HB1 : Hid (Below W.heap.size W w1) := by
      show Below _ _ _
      rw [Hw1.out]; exact HBL.out _
    have HZ : Hid (w1.heap[W.heap.size]? = some (.cells #[.int .i64 0, .slice none 0 0, .slice none 0 0, .int .i64 0, .int .u64 0, .string ⟨#[]⟩, .int .i64 0, .int .i64 0, .int .i64 0, .slice none 0 0] 60 (0, 0))) := by
      show _ = _
      rw [Hw1.out]; exact heap_alloc_new _ _
    have hsl : x.1.slots.length ≤ 1048576 := by
      have e1 := used_take s q x.1.ob hs
      have e2 := used_take_le s (q + 1)
      have e3 : x.1.ob.slots = x.1.slots := rfl
      rw [e3] at e1
      omega
    have H1 := Lib.hid h1
    have HX := Lib.hid hx
    have HO := Lib.hid ho
    have hobW := h1.objs q x hx
    obtain ⟨sad, scap, hsv, -, -, -⟩ := row_form hobW.slots
    have HSV := Lib.hid hsv
    have HCE : Hid (∀ w', Below w1.heap.size w1 w' → w'.cell? ⟨vb v, q * 9, none⟩ = some (.int .i64 x.1.kind) ∧ w'.cell? ⟨vb v, q * 9 + 2, none⟩ = some (.int .i64 x.1.mt.k) ∧ w'.cell? ⟨vb v, q * 9 + 3, none⟩ = some (.int .u64 x.1.mt.n) ∧ w'.cell? ⟨vb v, q * 9 + 4, none⟩ = some (.string x.1.mt.s) ∧ w'.cell? ⟨vb v, q * 9 + 5, none⟩ = some (.int .i64 x.1.mt.o) ∧
        w'.cell? ⟨vb v, q * 9 + 6, none⟩ = some (.int .i64 x.1.a) ∧ w'.cell? ⟨vb v, q * 9 + 7, none⟩ = some (.int .i64 x.1.b) ∧ w'.cell? ⟨vb v, q * 9 + 8, none⟩ = some (.slice sad x.1.slots.length scap)) := by
      intro w' hb
      have hR := H1.out.kept (B := []) (Chg.of_below (bthen HB1.out hb)) (fun _ _ => List.not_mem_nil)
      rw [← HSV.out]
      exact ⟨hR.cells HX.out 0 (by decide), hR.cells HX.out 2 (by decide), hR.cells HX.out 3 (by decide), hR.cells HX.out 4 (by decide), hR.cells HX.out 5 (by decide), hR.cells HX.out 6 (by decide), hR.cells HX.out 7 (by decide), hR.cells HX.out 8 (by decide)⟩
    have HCL : Hid (∀ w', Below w1.heap.size w1 w' → Calls Try.prog 71 #[.slice sad x.1.slots.length scap] w' (CloneP w' x.1.slots)) := by
      intro w' hb
      have hR := (H1.out.kept (B := []) (Chg.of_below (bthen HB1.out hb)) (fun _ _ => List.not_mem_nil)).objs q x HX.out
      rw [← HSV.out]
      exact clone_walk x.2.sv x.1.slots hsl w' (RowR.of_owns hR.slots)
    clear h h1 h2 h3 h4 h5 hx ho hs hobW hsv HC HBL Hw1
    go_cut [7] (fun t wx => ∃ bx sv', t = .pointer (some ⟨bx, 0, none⟩) ∧ OBox w1 bx (x.1.ob, ⟨.slice none 0 0, .slice none 0 0, sv'⟩) wx ∧ RowR wx sv' x.1.slots ∧ ∀ b ∈ rown sv' x.1.slots, w1.heap.size ≤ b ∧ b ≠ bx)
    case first =>
      go_region_held3 (fun w' => Below w1.heap.size w1 w' ∧ w'.cell? ⟨vb v, q * 9, none⟩ = some (.int .i64 x.1.kind) ∧ w'.cell? ⟨vb v, q * 9 + 2, none⟩ = some (.int .i64 x.1.mt.k) ∧ w'.cell? ⟨vb v, q * 9 + 3, none⟩ = some (.int .u64 x.1.mt.n) ∧ w'.cell? ⟨vb v, q * 9 + 4, none⟩ = some (.string x.1.mt.s) ∧ w'.cell? ⟨vb v, q * 9 + 5, none⟩ = some (.int .i64 x.1.mt.o) ∧
          w'.cell? ⟨vb v, q * 9 + 6, none⟩ = some (.int .i64 x.1.a) ∧ w'.cell? ⟨vb v, q * 9 + 7, none⟩ = some (.int .i64 x.1.b) ∧ w'.cell? ⟨vb v, q * 9 + 8, none⟩ = some (.slice sad x.1.slots.length scap))
        ((refine (fun h => ⟨h, HCE.out _ h⟩) ?_; (first | (with_reducible assumption) | (repeat (first | (with_reducible exact Below.refl _ _) | (with_reducible assumption) | (with_reducible refine Below.drew ?_) | (with_reducible refine Below.alloc ?_ ?_ _) | (with_reducible refine Below.setCell ?_ ?_ _) | omega | (simp <;> omega))))))
        ((go_at_call 71; refine (HCL.out _ (by (first | (with_reducible assumption) | (repeat (first | (with_reducible exact Below.refl _ _) | (with_reducible assumption) | (with_reducible refine Below.drew ?_) | (with_reducible refine Below.alloc ?_ ?_ _) | (with_reducible refine Below.setCell ?_ ?_ _) | omega | (simp <;> omega)))))).mono ?_; rintro e w6 ⟨sv', rfl, hr6, b6, hn6⟩; have s6 := bthen (w := w1) (by (first | (with_reducible assumption) | (repeat (first | (with_reducible exact Below.refl _ _) | (with_reducible assumption) | (with_reducible refine Below.drew ?_) | (with_reducible refine Below.alloc ?_ ?_ _) | (with_reducible refine Below.setCell ?_ ?_ _) | omega | (simp <;> omega))))) b6; obtain ⟨sa6, sc6, rfl, -, -⟩ := hr6.form; have HR6 := Lib.hid hr6; have HN6 := Lib.hid hn6; obtain ⟨hc6, hf6⟩ := bcell b6; have z6 := b6.size; have z7 := s6.size; have K6 := Lib.hid b6; clear b6 hr6 hn6))
      all_goals
        go_wp2_with fail
        go_meet
        first
          | (refine ⟨_, .slice sa6 x.1.slots.length sc6, rfl, ⟨?_, z7, ?_⟩, ?_, ?_⟩
             · exact s6.trans (((Below.refl _ _).alloc (Nat.le_refl _) _).mono z7)
             · exact heap_alloc_new _ _
             · exact HR6.out.kept (B := []) (Chg.of_below ((Below.refl _ _).alloc (Nat.le_refl _) _)) (fun _ _ => List.not_mem_nil)
             · exact fun b hb => ⟨HN6.out b hb, by have := HR6.out.lt b hb; omega⟩)
          | (have hblk := (K6.out.block w1.heap.size (by simp)).trans (heap_alloc_new _ _)
             obtain ⟨e1, e2, e3⟩ := box10 hblk rfl (.int .i64 x.1.kind) (.slice none 0 0) (.slice none 0 0) (.int .i64 x.1.mt.k) (.int .u64 x.1.mt.n) (.string x.1.mt.s) (.int .i64 x.1.mt.o) (.int .i64 x.1.a) (.int .i64 x.1.b) (.slice sa6 x.1.slots.length sc6)
             refine ⟨_, .slice sa6 x.1.slots.length sc6, rfl, ⟨e3 _ _ (Nat.le_refl _) s6, Nat.le_refl _, e1⟩, HR6.out.kept e2 (fun b hb e => ?_), fun b hb => ?_⟩
             · have := HN6.out b hb
               have := List.mem_singleton.1 e
               simp at *
               omega
             · have := HN6.out b hb
               simp at this
               exact ⟨by omega, by omega⟩)
    case rest =>
      obtain ⟨bx, sv', rfl, hO, hr, hn⟩ := hcut
      have OO := Lib.hid hO
      have HR := Lib.hid hr
      have HN := Lib.hid hn
      clear hO hr hn
      obtain ⟨w2, rfl⟩ : ∃ w2, w2 = wc := ⟨_, rfl⟩
      have hc1 := ((H1.out.kept (B := []) (Chg.of_below (bthen HB1.out OO.out.below)) (fun _ _ => List.not_mem_nil)).cells HX.out 1 (by decide))
      simp only [oCells, List.getElem?_cons_zero, List.getElem?_cons_succ] at hc1
      obtain ⟨sa6, sc6, rfl, -, -⟩ := HR.out.form
      cases ht : x.1.tab with
      | none =>
        have htp : tptr x = .pointer none := by unfold tptr; rw [ht]; rfl
        have hkv : x.1.ob.kv = [] := by
          show tkv x.1.tab = []
          rw [ht]; rfl
        rw [htp] at hc1
        have hzl : W.heap.size < w1.heap.size := (Array.getElem?_eq_some_iff.1 HZ.out).1
        have hz2 := (OO.out.below.block _ hzl).trans HZ.out
        obtain ⟨e1, e2, e3⟩ := box10 hz2 rfl (.int .i64 x.1.ob.kind) (.slice none 0 0) (.slice none 0 0) (.int .i64 x.1.ob.mt.k) (.int .u64 x.1.ob.mt.n) (.string x.1.ob.mt.s) (.int .i64 x.1.ob.mt.o) (.int .i64 x.1.ob.a) (.int .i64 x.1.ob.b) (.slice sa6 x.1.slots.length sc6)
        obtain ⟨n0, n1, n2, n3, n4, n5, n6, n7, n8, n9, nf, nl⟩ := OO.out.cell
        obtain ⟨z0, z1, z2, z3, z4, z5, z6, z7, z8, z9, zf, zl⟩ := box_cells (y := (⟨0, [], nilV, 0, 0, []⟩, ⟨.slice none 0 0, .slice none 0 0, .slice none 0 0⟩)) hz2
        obtain ⟨r0, r1, r2, r3, r4, r5, r6, r7, r8, r9, -, -⟩ := box_cells (y := (x.1.ob, ⟨.slice none 0 0, .slice none 0 0, .slice sa6 x.1.slots.length sc6⟩)) e1
        have HG : Hid (∀ w', Chg [W.heap.size] w2 w' → Below W.heap.size W w' → ObjectP W s ((q : Int) + 1) (.returned (.tuple #[rV (x.1.ob, ⟨.slice none 0 0, .slice none 0 0, .slice sa6 x.1.slots.length sc6⟩), .bool true])) w') := by
          intro w' hc hb
          have hn0 : ∀ v : Value, v = .slice none 0 0 → ∀ l : List Val, l = [] → RowR w' v l := fun v hv l hl => by
            subst hv hl
            exact ⟨⟨none, 0, rfl, Nat.le_refl _, by omega⟩, fun c => absurd rfl c⟩
          refine ⟨hb, .inr ⟨_, _, HO.out, rfl, ⟨hn0 _ rfl _ (by unfold keysOf; rw [hkv]; rfl), hn0 _ rfl _ (by unfold valsOf; rw [hkv]; rfl), HR.out.kept hc (fun b hb' e => ?_)⟩⟩⟩
          have := (HN.out b hb').1
          have := List.mem_singleton.1 e
          omega
        have HC2 := Lib.hid e2
        have HB2 := Lib.hid (e3 W.heap.size W (Nat.le_refl _) (bthen HB1.out OO.out.below))
        clear e1 e2 e3 hz2 ht htp hkv
        go_wp2_with fail
        exact bodyPost_ret (v := .tuple #[rV (x.1.ob, ⟨.slice none 0 0, .slice none 0 0, .slice sa6 x.1.slots.length sc6⟩), .bool true]) (by simp [results, Try.results45, go_sem, rV, r0, r1, r2, r3, r4, r5, r6, r7, r8, r9]) rfl (HG.out _ HC2.out HB2.out)
      | some T =>
        have htp : tptr x = .pointer (some ⟨x.2.p, 0, none⟩) := by unfold tptr; rw [ht]; rfl
        have hkv : x.1.ob.kv = kvs T.l := by
          show tkv x.1.tab = _
          rw [ht]; rfl
        rw [htp] at hc1
        have HKV := Lib.hid hkv
        obtain ⟨hTA, hTO⟩ := (H1.out.objs q x HX.out).tab T ht
        have hTl : T.l.length ≤ 33554432 := hTO.len
        obtain ⟨nn, hhd⟩ := hTA.head
        obtain ⟨lad, lcap, hlv, hl1, hl2, hl3⟩ := row_form hTA.l
        have HBW : Hid (Below W.heap.size W w2) := bthen HB1.out OO.out.below
        have hpl : x.2.p < W.heap.size := (Array.getElem?_eq_some_iff.1 hhd).1
        have hp0 : w2.cell? ⟨x.2.p, 0, none⟩ = some (.slice lad T.l.length lcap) := by
          rw [cell_of ((HBW.out.block _ hpl).trans hhd), ← hlv]; rfl
        have HTR : Hid (∀ w', Below W.heap.size W w' → w'.ownsRow 0 82 9 (.slice lad T.l.length lcap) T.l.length (entCells T.l)) := by
          intro w' hb
          rw [← hlv]
          exact row_kept hTA.l (B := []) (Chg.of_below hb) (fun _ _ => List.not_mem_nil)
        have HLA := Lib.hid hl3
        have hbx2 : bx < w2.heap.size := OO.out.cell.2.2.2.2.2.2.2.2.2.2.2
        have hzl : W.heap.size < w1.heap.size := (Array.getElem?_eq_some_iff.1 HZ.out).1
        have hbxW : W.heap.size < bx := Nat.lt_of_lt_of_le hzl OO.out.new
        have R0 := Lib.hid (Rows2.start (V := w2) (ob := x.1.ob) (sv := .slice sa6 x.1.slots.length sc6) hbx2 OO.out.at_)
        have HZ2 := Lib.hid ((OO.out.below.block _ hzl).trans HZ.out)
        obtain ⟨tp, Htp⟩ : ∃ tp, Hid (tp = x.2.p) := ⟨_, Lib.hid rfl⟩
        rw [← Htp.out] at hc1 hp0
        clear htp hkv hTA hTO hhd hlv hl1 hl2 hl3 hpl ht
        go_wp2_with fail
        go_loopw [51] (fun i wr => ∃ (j : Nat) (kv vv : Value), i = .int .i64 j ∧ j ≤ T.l.length ∧ Rows2 w2 bx x.1.ob (.slice sa6 x.1.slots.length sc6) kv vv kv ((kvs (T.l.take j)).map Prod.fst) vv ((kvs (T.l.take j)).map Prod.snd) wr) (fun i _ => T.l.length - (intOf i).toNat)
        case atStart => exact ⟨0, _, _, rfl, Nat.zero_le _, R0.out⟩
        case round =>
          obtain ⟨j, kv, vv, rfl, hj, hR⟩ := hrel
          have RR := Lib.hid hR
          have HBR : Hid (Below W.heap.size W wr) := HBW.out.trans (hR.chg.below_of HBW.out.size (fun b hb => by rw [List.mem_singleton.1 hb]; omega))
          clear hR hc1 hp0
          by_cases hlt : j < T.l.length
          · have hsd := HLA.out (by omega)
            subst hsd
            obtain ⟨en, Hen⟩ : ∃ en, Hid (T.l[j] = en) := ⟨_, Lib.hid rfl⟩
            obtain ⟨x0, x1, x2, x3, y0, y1, y2, y3, yd⟩ := ent_nine (HTR.out wr HBR.out) hlt Hen.out
            obtain ⟨lg, Hlg⟩ : ∃ g, Hid (g = vb x.2.lv) := ⟨_, Lib.hid rfl⟩
            rw [← Hlg.out] at x0 x1 x2 x3 y0 y1 y2 y3 yd ⊢
            have hq0 : (0 : Int) ≤ (j : Int) := Int.natCast_nonneg _
            have hq1 : (j : Int) < (T.l.length : Int) := by omega
            have hwq : IntKind.i64.wrap ((j : Int) + 1) = (j : Int) + 1 := by rw [IntKind.wrap_i64]; omega
            have HLT := Lib.hid hlt
            cases hd : en.dead with
            | true =>
              rw [hd] at yd
              have HKS : Hid (kvs (T.l.take (j + 1)) = kvs (T.l.take j)) := by
                show _ = _
                rw [← List.take_append_getElem HLT.out, kvs_append, Hen.out, kvs_cons, hd]
                exact List.append_nil _
              have R7 : Hid (∀ O, Rows2 w2 bx x.1.ob (.slice sa6 x.1.slots.length sc6) kv vv kv ((kvs (T.l.take j)).map Prod.fst) vv ((kvs (T.l.take j)).map Prod.snd) (wr.alloc O)) := fun O => RR.out.step ((Below.refl _ _).alloc (Nat.le_refl _) O)
              clear hd
              go_wp2_with fail
              go_roundw
              case rel => exact ⟨j + 1, kv, vv, by go_num, by omega, by rw [HKS.out]; exact R7.out _⟩
              case measure => simp [intOf]; omega
            | false =>
              rw [hd] at yd
              obtain ⟨uk, Huk⟩ : ∃ u, Hid (u = en.key) := ⟨_, Lib.hid rfl⟩
              obtain ⟨uv, Huv⟩ : ∃ u, Hid (u = en.val) := ⟨_, Lib.hid rfl⟩
              have HKS : Hid (kvs (T.l.take (j + 1)) = kvs (T.l.take j) ++ [(uk, uv)]) := by
                show _ = _
                rw [← List.take_append_getElem HLT.out, kvs_append, Hen.out, kvs_cons, hd, Huk.out, Huv.out]
                rfl
              have hklen : ((kvs (T.l.take j)).map Prod.fst).length ≤ 33554432 := by
                rw [List.length_map, kvs_len]
                exact Nat.le_trans (List.length_filter_le _ _) (by rw [List.length_take]; omega)
              have hvlen : ((kvs (T.l.take j)).map Prod.snd).length ≤ 33554432 := by
                rw [List.length_map, kvs_len]
                exact Nat.le_trans (List.length_filter_le _ _) (by rw [List.length_take]; omega)
              rw [← Huk.out] at x0 x1 x2 x3
              rw [← Huv.out] at y0 y1 y2 y3
              clear hd
              go_upto_region 10 with fail
              obtain ⟨w8, Hw8⟩ : ∃ w8, Hid (w8 = wr.alloc (.cells #[.int .i64 uk.k, .int .u64 uk.n, .string uk.s, .int .i64 uk.o, .int .i64 uv.k, .int .u64 uv.n, .string uv.s, .int .i64 uv.o, .bool false] 82)) := ⟨_, Lib.hid rfl⟩
              rw [← Hw8.out]
              obtain ⟨ks, Hks⟩ : ∃ ks, Hid (ks = (kvs (T.l.take j)).map Prod.fst) := ⟨_, Lib.hid rfl⟩
              obtain ⟨vs, Hvs⟩ : ∃ vs, Hid (vs = (kvs (T.l.take j)).map Prod.snd) := ⟨_, Lib.hid rfl⟩
              have HKF : Hid ((kvs (T.l.take (j + 1))).map Prod.fst = ks ++ [uk] ∧ (kvs (T.l.take (j + 1))).map Prod.snd = vs ++ [uv]) := by
                show _ ∧ _
                rw [HKS.out, List.map_append, List.map_append, Hks.out, Hvs.out]
                exact ⟨rfl, rfl⟩
              rw [← Hks.out, ← Hvs.out] at RR
              rw [← Hks.out] at hklen
              rw [← Hvs.out] at hvlen
              have SB : Hid (RowsE w2 bx x.1.ob (.slice sa6 x.1.slots.length sc6) kv vv kv ks vv vs wr.heap.size ⟨uk, uv, false⟩ w8) := by
                show RowsE _ _ _ _ _ _ _ _ _ _ _ _ _
                rw [Hw8.out]
                exact RowsE.start RR.out ((Below.refl _ _).alloc (Nat.le_refl _) _) (Nat.le_refl _) (heap_alloc_new _ _)
              obtain ⟨be, Hbe⟩ : ∃ be, Hid (be = wr.heap.size) := ⟨_, Lib.hid rfl⟩
              rw [← Hbe.out] at SB ⊢
              obtain ⟨tj, hj0, hj1, hj2, hj3⟩ := info_parts (show (Try.prog.info? 34).map (fun i => (i.zero, i.size, i.bytes)) = some (some (.agg #[.int .i64 0, .int .u64 0, .string ByteArray.empty, .int .i64 0]), 4, 40) from by kernel_rfl)
              clear x0 x1 x2 x3 y0 y1 y2 y3 yd
              refine with_act ?_
              intro a0 HA0
              have e7 : a0.eval (.tmp 7) = .pointer (some ⟨bx, 0, none⟩) := by rw [HA0.out]; rfl
              have e9 : a0.eval (.tmp 9) = .pointer (some ⟨be, 0, none⟩) := by rw [HA0.out]; rfl
              have hsz : a0.tmps.size = 74 := by rw [HA0.out]; rfl
              have SB := Lib.hid (SB.out.step (Below.drew (Below.refl _ _)))
              refine wp_region_T 13 (ReadsE bx kv vv be ⟨uk, uv, false⟩) (by kernel_rfl) (by kernel_rfl) SB.out.reads ?_
              refine runT_take 0 58 (.pointer (some ⟨bx, 1, none⟩)) rfl (by kernel_rfl) (fun _ _ _ h => h) (fun w oi hw ho => ?_) ?_
              · obtain ⟨⟨m1, m2⟩, x0, x1, x2, x3, y0, y1, y2, y3⟩ := hw
                simp only [List.getElem?_toArray, List.getElem?_cons_succ, List.getElem?_cons_zero, Option.some.injEq] at ho
                subst ho
                refine ⟨rfl, ?_⟩
                unfold execOp
                simp only [eval_put_ne, eval_put_eq, put_size, hsz, ne_eq, Nat.reduceEqDiff, not_false_eq_true, reduceCtorEq, Nat.reduceLT, e7, e9]
                go_simp
              refine runT_take 1 59 (kv) rfl (by kernel_rfl) (fun _ _ _ h => h) (fun w oi hw ho => ?_) ?_
              · obtain ⟨⟨m1, m2⟩, x0, x1, x2, x3, y0, y1, y2, y3⟩ := hw
                simp only [List.getElem?_toArray, List.getElem?_cons_succ, List.getElem?_cons_zero, Option.some.injEq] at ho
                subst ho
                refine ⟨rfl, ?_⟩
                unfold execOp
                simp only [eval_put_ne, eval_put_eq, put_size, hsz, ne_eq, Nat.reduceEqDiff, not_false_eq_true, reduceCtorEq, Nat.reduceLT, e7, e9]
                go_simp
              refine runT_take 2 60 (.pointer (some ⟨be, 0, none⟩)) rfl (by kernel_rfl) (fun _ _ _ h => h) (fun w oi hw ho => ?_) ?_
              · obtain ⟨⟨m1, m2⟩, x0, x1, x2, x3, y0, y1, y2, y3⟩ := hw
                simp only [List.getElem?_toArray, List.getElem?_cons_succ, List.getElem?_cons_zero, Option.some.injEq] at ho
                subst ho
                refine ⟨rfl, ?_⟩
                unfold execOp
                simp only [eval_put_ne, eval_put_eq, put_size, hsz, ne_eq, Nat.reduceEqDiff, not_false_eq_true, reduceCtorEq, Nat.reduceLT, e7, e9]
                go_simp
              refine runT_take 3 61 (.agg #[.int .i64 uk.k, .int .u64 uk.n, .string uk.s, .int .i64 uk.o]) rfl (by kernel_rfl) (fun _ _ _ h => h) (fun w oi hw ho => ?_) ?_
              · obtain ⟨⟨m1, m2⟩, x0, x1, x2, x3, y0, y1, y2, y3⟩ := hw
                simp only [List.getElem?_toArray, List.getElem?_cons_succ, List.getElem?_cons_zero, Option.some.injEq] at ho
                subst ho
                refine ⟨rfl, ?_⟩
                unfold execOp
                simp only [eval_put_ne, eval_put_eq, put_size, hsz, ne_eq, Nat.reduceEqDiff, not_false_eq_true, reduceCtorEq, Nat.reduceLT, e7, e9]
                go_simp
              refine runT_take 6 64 (.pointer (some ⟨bx, 2, none⟩)) rfl (by kernel_rfl) (fun _ _ _ h => h) (fun w oi hw ho => ?_) ?_
              · obtain ⟨⟨m1, m2⟩, x0, x1, x2, x3, y0, y1, y2, y3⟩ := hw
                simp only [List.getElem?_toArray, List.getElem?_cons_succ, List.getElem?_cons_zero, Option.some.injEq] at ho
                subst ho
                refine ⟨rfl, ?_⟩
                unfold execOp
                simp only [eval_put_ne, eval_put_eq, put_size, hsz, ne_eq, Nat.reduceEqDiff, not_false_eq_true, reduceCtorEq, Nat.reduceLT, e7, e9]
                go_simp
              refine runT_take 7 65 (vv) rfl (by kernel_rfl) (fun _ _ _ h => h) (fun w oi hw ho => ?_) ?_
              · obtain ⟨⟨m1, m2⟩, x0, x1, x2, x3, y0, y1, y2, y3⟩ := hw
                simp only [List.getElem?_toArray, List.getElem?_cons_succ, List.getElem?_cons_zero, Option.some.injEq] at ho
                subst ho
                refine ⟨rfl, ?_⟩
                unfold execOp
                simp only [eval_put_ne, eval_put_eq, put_size, hsz, ne_eq, Nat.reduceEqDiff, not_false_eq_true, reduceCtorEq, Nat.reduceLT, e7, e9]
                go_simp
              refine runT_take 8 66 (.pointer (some ⟨be, 4, none⟩)) rfl (by kernel_rfl) (fun _ _ _ h => h) (fun w oi hw ho => ?_) ?_
              · obtain ⟨⟨m1, m2⟩, x0, x1, x2, x3, y0, y1, y2, y3⟩ := hw
                simp only [List.getElem?_toArray, List.getElem?_cons_succ, List.getElem?_cons_zero, Option.some.injEq] at ho
                subst ho
                refine ⟨rfl, ?_⟩
                unfold execOp
                simp only [eval_put_ne, eval_put_eq, put_size, hsz, ne_eq, Nat.reduceEqDiff, not_false_eq_true, reduceCtorEq, Nat.reduceLT, e7, e9]
                go_simp
              refine runT_take 9 67 (.agg #[.int .i64 uv.k, .int .u64 uv.n, .string uv.s, .int .i64 uv.o]) rfl (by kernel_rfl) (fun _ _ _ h => h) (fun w oi hw ho => ?_) ?_
              · obtain ⟨⟨m1, m2⟩, x0, x1, x2, x3, y0, y1, y2, y3⟩ := hw
                simp only [List.getElem?_toArray, List.getElem?_cons_succ, List.getElem?_cons_zero, Option.some.injEq] at ho
                subst ho
                refine ⟨rfl, ?_⟩
                unfold execOp
                simp only [eval_put_ne, eval_put_eq, put_size, hsz, ne_eq, Nat.reduceEqDiff, not_false_eq_true, reduceCtorEq, Nat.reduceLT, e7, e9]
                go_simp
              refine runT_all [4, 10] (by kernel_rfl) (by kernel_rfl) ?_
              intro i hi o ho K hK
              simp only [List.mem_cons, List.not_mem_nil, or_false] at hi
              rcases hi with rfl | rfl
              · simp only [List.getElem?_toArray, List.getElem?_cons_succ, List.getElem?_cons_zero, Option.some.injEq] at ho
                subst ho
                refine step_slice1 rfl 58 34 (.tmp 61) rfl Try.underlying58 tj hj0 hj1 hj2 uk.k uk.n uk.o uk.s (by (repeat (first | (with_reducible exact eval_put_eq _ (by simp only [put_size, hsz, Nat.reduceLT])) | (with_reducible exact e7) | (with_reducible exact e9) | (with_reducible refine (eval_put_ne _ (by decide)).trans ?_)))) ?_
                obtain ⟨hSB, hN, hX4, hY4⟩ := SB.out.lay uk
                have N4 := Lib.hid hN
                have SB := Lib.hid hSB
                clear hSB hN
                refine hK _ _ SB.out.reads ?_
                refine runT_all [5, 10] (by kernel_rfl) (by kernel_rfl) ?_
                intro i hi o ho K hK
                simp only [List.mem_cons, List.not_mem_nil, or_false] at hi
                rcases hi with rfl | rfl
                · simp only [List.getElem?_toArray, List.getElem?_cons_succ, List.getElem?_cons_zero, Option.some.injEq] at ho
                  subst ho
                  refine step_append_foot rfl (.tmp 59) (.tmp 62) _ rfl 34 tj _ 4 40 Try.underlying58 hj0 hj1 hj2 hj3 rfl (by decide) kv ks.length (valCells ks) (by (repeat (first | (with_reducible exact eval_put_eq _ (by simp only [put_size, hsz, Nat.reduceLT])) | (with_reducible exact e7) | (with_reducible exact e9) | (with_reducible refine (eval_put_ne _ (by decide)).trans ?_)))) SB.out.r.keys _ 1 1 uk.cs (by (repeat (first | (with_reducible exact eval_put_eq _ (by simp only [put_size, hsz, Nat.reduceLT])) | (with_reducible exact e7) | (with_reducible exact e9) | (with_reducible refine (eval_put_ne _ (by decide)).trans ?_)))) rfl (box4_news N4.out) (cs_flat _) (by omega) (by unfold maxLen; omega) (by omega) ?_
                  intro g5 cap5 w5r k1 k2 k3
                  have SB := Lib.hid (SB.out.keys_more k1 k2 k3)
                  clear k1 k2 k3
                  refine hK _ _ SB.out.reads ?_
                  refine runT_take 12 70 (.pointer (some ⟨bx, 1, none⟩)) rfl (by kernel_rfl) (fun _ _ _ h => h) (fun w oi hw ho => ?_) ?_
                  · obtain ⟨⟨m1, m2⟩, x0, x1, x2, x3, y0, y1, y2, y3⟩ := hw
                    simp only [List.getElem?_toArray, List.getElem?_cons_succ, List.getElem?_cons_zero, Option.some.injEq] at ho
                    subst ho
                    refine ⟨rfl, ?_⟩
                    unfold execOp
                    simp only [eval_put_ne, eval_put_eq, put_size, hsz, ne_eq, Nat.reduceEqDiff, not_false_eq_true, reduceCtorEq, Nat.reduceLT, e7, e9]
                    go_simp
                  refine runT_all [10] (by kernel_rfl) (by kernel_rfl) ?_
                  intro i hi o ho K hK
                  simp only [List.mem_cons, List.not_mem_nil, or_false] at hi
                  subst hi
                  simp only [List.getElem?_toArray, List.getElem?_cons_succ, List.getElem?_cons_zero, Option.some.injEq] at ho
                  subst ho
                  refine step_slice1 rfl 58 34 (.tmp 67) rfl Try.underlying58 tj hj0 hj1 hj2 uv.k uv.n uv.o uv.s (by (repeat (first | (with_reducible exact eval_put_eq _ (by simp only [put_size, hsz, Nat.reduceLT])) | (with_reducible exact e7) | (with_reducible exact e9) | (with_reducible refine (eval_put_ne _ (by decide)).trans ?_)))) ?_
                  obtain ⟨hSB, hN, hX10, hY10⟩ := SB.out.lay uv
                  have N4 := Lib.hid ((((Below.refl _ _).alloc (Nat.le_refl _) (Obj.cells #[.int .i64 uv.k, .int .u64 uv.n, .string uv.s, .int .i64 uv.o] 34)).block _ (Array.getElem?_eq_some_iff.1 N4.out).1).trans N4.out)
                  have N10 := Lib.hid hN
                  have SB := Lib.hid hSB
                  clear hSB hN
                  refine hK _ _ SB.out.reads ?_
                  refine runT_all [11] (by kernel_rfl) (by kernel_rfl) ?_
                  intro i hi o ho K hK
                  simp only [List.mem_cons, List.not_mem_nil, or_false] at hi
                  subst hi
                  simp only [List.getElem?_toArray, List.getElem?_cons_succ, List.getElem?_cons_zero, Option.some.injEq] at ho
                  subst ho
                  refine step_append_foot rfl (.tmp 65) (.tmp 68) _ rfl 34 tj _ 4 40 Try.underlying58 hj0 hj1 hj2 hj3 rfl (by decide) vv vs.length (valCells vs) (by (repeat (first | (with_reducible exact eval_put_eq _ (by simp only [put_size, hsz, Nat.reduceLT])) | (with_reducible exact e7) | (with_reducible exact e9) | (with_reducible refine (eval_put_ne _ (by decide)).trans ?_)))) SB.out.r.vals _ 1 1 uv.cs (by (repeat (first | (with_reducible exact eval_put_eq _ (by simp only [put_size, hsz, Nat.reduceLT])) | (with_reducible exact e7) | (with_reducible exact e9) | (with_reducible refine (eval_put_ne _ (by decide)).trans ?_)))) rfl (box4_news N10.out) (cs_flat _) (by omega) (by unfold maxLen; omega) (by omega) ?_
                  intro g11 cap11 w11r k1 k2 k3
                  have SB := Lib.hid (SB.out.vals_more k1 k2 k3)
                  clear k1 k2 k3
                  refine hK _ _ SB.out.reads ?_
                  refine runT_done [_, _, _] rfl (by kernel_rfl) ?_
                  rw [HA0.out]
                  obtain ⟨m1, m2, mf, ml⟩ := SB.out.r.cells
                  have R9 := Lib.hid SB.out.r.store
                  clear HA0 e7 e9 hsz
                  go_wp2_with fail
                  go_roundw
                  case rel => exact ⟨j + 1, _, _, by go_num, by omega, by rw [HKF.out.1, HKF.out.2]; exact R9.out⟩
                  case measure => simp [intOf]; omega
                · simp only [List.getElem?_toArray, List.getElem?_cons_succ, List.getElem?_cons_zero, Option.some.injEq] at ho
                  subst ho
                  refine step_slice1 rfl 58 34 (.tmp 67) rfl Try.underlying58 tj hj0 hj1 hj2 uv.k uv.n uv.o uv.s (by (repeat (first | (with_reducible exact eval_put_eq _ (by simp only [put_size, hsz, Nat.reduceLT])) | (with_reducible exact e7) | (with_reducible exact e9) | (with_reducible refine (eval_put_ne _ (by decide)).trans ?_)))) ?_
                  obtain ⟨hSB, hN, hX10, hY10⟩ := SB.out.lay uv
                  have N4 := Lib.hid ((((Below.refl _ _).alloc (Nat.le_refl _) (Obj.cells #[.int .i64 uv.k, .int .u64 uv.n, .string uv.s, .int .i64 uv.o] 34)).block _ (Array.getElem?_eq_some_iff.1 N4.out).1).trans N4.out)
                  have N10 := Lib.hid hN
                  have SB := Lib.hid hSB
                  clear hSB hN
                  refine hK _ _ SB.out.reads ?_
                  refine runT_all [5] (by kernel_rfl) (by kernel_rfl) ?_
                  intro i hi o ho K hK
                  simp only [List.mem_cons, List.not_mem_nil, or_false] at hi
                  subst hi
                  simp only [List.getElem?_toArray, List.getElem?_cons_succ, List.getElem?_cons_zero, Option.some.injEq] at ho
                  subst ho
                  refine step_append_foot rfl (.tmp 59) (.tmp 62) _ rfl 34 tj _ 4 40 Try.underlying58 hj0 hj1 hj2 hj3 rfl (by decide) kv ks.length (valCells ks) (by (repeat (first | (with_reducible exact eval_put_eq _ (by simp only [put_size, hsz, Nat.reduceLT])) | (with_reducible exact e7) | (with_reducible exact e9) | (with_reducible refine (eval_put_ne _ (by decide)).trans ?_)))) SB.out.r.keys _ 1 1 uk.cs (by (repeat (first | (with_reducible exact eval_put_eq _ (by simp only [put_size, hsz, Nat.reduceLT])) | (with_reducible exact e7) | (with_reducible exact e9) | (with_reducible refine (eval_put_ne _ (by decide)).trans ?_)))) rfl (box4_news N4.out) (cs_flat _) (by omega) (by unfold maxLen; omega) (by omega) ?_
                  intro g5 cap5 w5r k1 k2 k3
                  have N10 := Lib.hid ((k2.block _ (Array.getElem?_eq_some_iff.1 N10.out).1 hX10).trans N10.out)
                  have SB := Lib.hid (SB.out.keys_more k1 k2 k3)
                  clear k1 k2 k3
                  refine hK _ _ SB.out.reads ?_
                  refine runT_take 12 70 (.pointer (some ⟨bx, 1, none⟩)) rfl (by kernel_rfl) (fun _ _ _ h => h) (fun w oi hw ho => ?_) ?_
                  · obtain ⟨⟨m1, m2⟩, x0, x1, x2, x3, y0, y1, y2, y3⟩ := hw
                    simp only [List.getElem?_toArray, List.getElem?_cons_succ, List.getElem?_cons_zero, Option.some.injEq] at ho
                    subst ho
                    refine ⟨rfl, ?_⟩
                    unfold execOp
                    simp only [eval_put_ne, eval_put_eq, put_size, hsz, ne_eq, Nat.reduceEqDiff, not_false_eq_true, reduceCtorEq, Nat.reduceLT, e7, e9]
                    go_simp
                  refine runT_all [11] (by kernel_rfl) (by kernel_rfl) ?_
                  intro i hi o ho K hK
                  simp only [List.mem_cons, List.not_mem_nil, or_false] at hi
                  subst hi
                  simp only [List.getElem?_toArray, List.getElem?_cons_succ, List.getElem?_cons_zero, Option.some.injEq] at ho
                  subst ho
                  refine step_append_foot rfl (.tmp 65) (.tmp 68) _ rfl 34 tj _ 4 40 Try.underlying58 hj0 hj1 hj2 hj3 rfl (by decide) vv vs.length (valCells vs) (by (repeat (first | (with_reducible exact eval_put_eq _ (by simp only [put_size, hsz, Nat.reduceLT])) | (with_reducible exact e7) | (with_reducible exact e9) | (with_reducible refine (eval_put_ne _ (by decide)).trans ?_)))) SB.out.r.vals _ 1 1 uv.cs (by (repeat (first | (with_reducible exact eval_put_eq _ (by simp only [put_size, hsz, Nat.reduceLT])) | (with_reducible exact e7) | (with_reducible exact e9) | (with_reducible refine (eval_put_ne _ (by decide)).trans ?_)))) rfl (box4_news N10.out) (cs_flat _) (by omega) (by unfold maxLen; omega) (by omega) ?_
                  intro g11 cap11 w11r k1 k2 k3
                  have SB := Lib.hid (SB.out.vals_more k1 k2 k3)
                  clear k1 k2 k3
                  refine hK _ _ SB.out.reads ?_
                  refine runT_done [_, _, _] rfl (by kernel_rfl) ?_
                  rw [HA0.out]
                  obtain ⟨m1, m2, mf, ml⟩ := SB.out.r.cells
                  have R9 := Lib.hid SB.out.r.store
                  clear HA0 e7 e9 hsz
                  go_wp2_with fail
                  go_roundw
                  case rel => exact ⟨j + 1, _, _, by go_num, by omega, by rw [HKF.out.1, HKF.out.2]; exact R9.out⟩
                  case measure => simp [intOf]; omega
              · simp only [List.getElem?_toArray, List.getElem?_cons_succ, List.getElem?_cons_zero, Option.some.injEq] at ho
                subst ho
                refine step_slice1 rfl 58 34 (.tmp 67) rfl Try.underlying58 tj hj0 hj1 hj2 uv.k uv.n uv.o uv.s (by (repeat (first | (with_reducible exact eval_put_eq _ (by simp only [put_size, hsz, Nat.reduceLT])) | (with_reducible exact e7) | (with_reducible exact e9) | (with_reducible refine (eval_put_ne _ (by decide)).trans ?_)))) ?_
                obtain ⟨hSB, hN, hX10, hY10⟩ := SB.out.lay uv
                have N10 := Lib.hid hN
                have SB := Lib.hid hSB
                clear hSB hN
                refine hK _ _ SB.out.reads ?_
                refine runT_all [4] (by kernel_rfl) (by kernel_rfl) ?_
                intro i hi o ho K hK
                simp only [List.mem_cons, List.not_mem_nil, or_false] at hi
                subst hi
                simp only [List.getElem?_toArray, List.getElem?_cons_succ, List.getElem?_cons_zero, Option.some.injEq] at ho
                subst ho
                refine step_slice1 rfl 58 34 (.tmp 61) rfl Try.underlying58 tj hj0 hj1 hj2 uk.k uk.n uk.o uk.s (by (repeat (first | (with_reducible exact eval_put_eq _ (by simp only [put_size, hsz, Nat.reduceLT])) | (with_reducible exact e7) | (with_reducible exact e9) | (with_reducible refine (eval_put_ne _ (by decide)).trans ?_)))) ?_
                obtain ⟨hSB, hN, hX4, hY4⟩ := SB.out.lay uk
                have N10 := Lib.hid ((((Below.refl _ _).alloc (Nat.le_refl _) (Obj.cells #[.int .i64 uk.k, .int .u64 uk.n, .string uk.s, .int .i64 uk.o] 34)).block _ (Array.getElem?_eq_some_iff.1 N10.out).1).trans N10.out)
                have N4 := Lib.hid hN
                have SB := Lib.hid hSB
                clear hSB hN
                refine hK _ _ SB.out.reads ?_
                refine runT_all [5] (by kernel_rfl) (by kernel_rfl) ?_
                intro i hi o ho K hK
                simp only [List.mem_cons, List.not_mem_nil, or_false] at hi
                subst hi
                simp only [List.getElem?_toArray, List.getElem?_cons_succ, List.getElem?_cons_zero, Option.some.injEq] at ho
                subst ho
                refine step_append_foot rfl (.tmp 59) (.tmp 62) _ rfl 34 tj _ 4 40 Try.underlying58 hj0 hj1 hj2 hj3 rfl (by decide) kv ks.length (valCells ks) (by (repeat (first | (with_reducible exact eval_put_eq _ (by simp only [put_size, hsz, Nat.reduceLT])) | (with_reducible exact e7) | (with_reducible exact e9) | (with_reducible refine (eval_put_ne _ (by decide)).trans ?_)))) SB.out.r.keys _ 1 1 uk.cs (by (repeat (first | (with_reducible exact eval_put_eq _ (by simp only [put_size, hsz, Nat.reduceLT])) | (with_reducible exact e7) | (with_reducible exact e9) | (with_reducible refine (eval_put_ne _ (by decide)).trans ?_)))) rfl (box4_news N4.out) (cs_flat _) (by omega) (by unfold maxLen; omega) (by omega) ?_
                intro g5 cap5 w5r k1 k2 k3
                have N10 := Lib.hid ((k2.block _ (Array.getElem?_eq_some_iff.1 N10.out).1 hX10).trans N10.out)
                have SB := Lib.hid (SB.out.keys_more k1 k2 k3)
                clear k1 k2 k3
                refine hK _ _ SB.out.reads ?_
                refine runT_take 12 70 (.pointer (some ⟨bx, 1, none⟩)) rfl (by kernel_rfl) (fun _ _ _ h => h) (fun w oi hw ho => ?_) ?_
                · obtain ⟨⟨m1, m2⟩, x0, x1, x2, x3, y0, y1, y2, y3⟩ := hw
                  simp only [List.getElem?_toArray, List.getElem?_cons_succ, List.getElem?_cons_zero, Option.some.injEq] at ho
                  subst ho
                  refine ⟨rfl, ?_⟩
                  unfold execOp
                  simp only [eval_put_ne, eval_put_eq, put_size, hsz, ne_eq, Nat.reduceEqDiff, not_false_eq_true, reduceCtorEq, Nat.reduceLT, e7, e9]
                  go_simp
                refine runT_all [11] (by kernel_rfl) (by kernel_rfl) ?_
                intro i hi o ho K hK
                simp only [List.mem_cons, List.not_mem_nil, or_false] at hi
                subst hi
                simp only [List.getElem?_toArray, List.getElem?_cons_succ, List.getElem?_cons_zero, Option.some.injEq] at ho
                subst ho
                refine step_append_foot rfl (.tmp 65) (.tmp 68) _ rfl 34 tj _ 4 40 Try.underlying58 hj0 hj1 hj2 hj3 rfl (by decide) vv vs.length (valCells vs) (by (repeat (first | (with_reducible exact eval_put_eq _ (by simp only [put_size, hsz, Nat.reduceLT])) | (with_reducible exact e7) | (with_reducible exact e9) | (with_reducible refine (eval_put_ne _ (by decide)).trans ?_)))) SB.out.r.vals _ 1 1 uv.cs (by (repeat (first | (with_reducible exact eval_put_eq _ (by simp only [put_size, hsz, Nat.reduceLT])) | (with_reducible exact e7) | (with_reducible exact e9) | (with_reducible refine (eval_put_ne _ (by decide)).trans ?_)))) rfl (box4_news N10.out) (cs_flat _) (by omega) (by unfold maxLen; omega) (by omega) ?_
                intro g11 cap11 w11r k1 k2 k3
                have SB := Lib.hid (SB.out.vals_more k1 k2 k3)
                clear k1 k2 k3
                refine hK _ _ SB.out.reads ?_
                refine runT_done [_, _, _] rfl (by kernel_rfl) ?_
                rw [HA0.out]
                obtain ⟨m1, m2, mf, ml⟩ := SB.out.r.cells
                have R9 := Lib.hid SB.out.r.store
                clear HA0 e7 e9 hsz
                go_wp2_with fail
                go_roundw
                case rel => exact ⟨j + 1, _, _, by go_num, by omega, by rw [HKF.out.1, HKF.out.2]; exact R9.out⟩
                case measure => simp [intOf]; omega
          · have hje : j = T.l.length := by omega
            subst hje
            have hq2 : ¬ ((T.l.length : Int) < (T.l.length : Int)) := by omega
            obtain ⟨ak, ck, rfl, -⟩ := row_form RR.out.keys
            obtain ⟨av, cv, rfl, -⟩ := row_form RR.out.vals
            obtain ⟨nk, Hnk⟩ : ∃ n, Hid (n = ((kvs (T.l.take T.l.length)).map Prod.fst).length) := ⟨_, Lib.hid rfl⟩
            obtain ⟨nv, Hnv⟩ : ∃ n, Hid (n = ((kvs (T.l.take T.l.length)).map Prod.snd).length) := ⟨_, Lib.hid rfl⟩
            rw [← Hnk.out, ← Hnv.out] at RR
            have hbr := RR.out.box
            have hz2 : wr.heap[W.heap.size]? = _ := (RR.out.chg.block _ (Nat.lt_of_lt_of_le hzl OO.out.below.size) (fun e => by have := List.mem_singleton.1 e; omega)).trans HZ2.out
            obtain ⟨e1, e2, e3⟩ := box10 hz2 rfl (.int .i64 x.1.ob.kind) (.slice ak nk ck) (.slice av nv cv) (.int .i64 x.1.ob.mt.k) (.int .u64 x.1.ob.mt.n) (.string x.1.ob.mt.s) (.int .i64 x.1.ob.mt.o) (.int .i64 x.1.ob.a) (.int .i64 x.1.ob.b) (.slice sa6 x.1.slots.length sc6)
            obtain ⟨n0, n1, n2, n3, n4, n5, n6, n7, n8, n9, nf, nl⟩ := box_cells hbr
            obtain ⟨z0, z1, z2, z3, z4, z5, z6, z7, z8, z9, zf, zl⟩ := box_cells (y := (⟨0, [], nilV, 0, 0, []⟩, ⟨.slice none 0 0, .slice none 0 0, .slice none 0 0⟩)) hz2
            obtain ⟨r0, r1, r2, r3, r4, r5, r6, r7, r8, r9, -, -⟩ := box_cells (y := (x.1.ob, ⟨.slice ak nk ck, .slice av nv cv, .slice sa6 x.1.slots.length sc6⟩)) e1
            have hkl := List.take_length (l := T.l)
            have HG : Hid (∀ w', Chg [W.heap.size] wr w' → Below W.heap.size W w' → ObjectP W s ((q : Int) + 1) (.returned (.tuple #[rV (x.1.ob, ⟨.slice ak nk ck, .slice av nv cv, .slice sa6 x.1.slots.length sc6⟩), .bool true])) w') := by
              intro w' hc hb
              have hk1 := RR.out.keys
              have hv1 := RR.out.vals
              rw [hkl] at hk1 hv1
              have hc2 : Chg [bx, W.heap.size] w2 w' := (RR.out.chg.mono (fun x hx _ => by rw [List.mem_singleton.1 hx]; simp)).trans hc (fun x hx _ => by rw [List.mem_singleton.1 hx]; simp)
              refine ⟨hb, .inr ⟨_, _, HO.out, rfl, ⟨?_, ?_, HR.out.kept hc2 (fun b hb' e => ?_)⟩⟩⟩
              · have e0 : keysOf x.1.ob = (kvs T.l).map Prod.fst := by unfold keysOf; rw [HKV.out]
                show RowR w' (.slice ak nk ck) (keysOf x.1.ob)
                rw [e0]
                exact RowR.of_owns (row_kept hk1 hc (fun b hb' e => by have := (RR.out.kn b hb').1; have := List.mem_singleton.1 e; have := OO.out.below.size; omega))
              · have e0 : valsOf x.1.ob = (kvs T.l).map Prod.snd := by unfold valsOf; rw [HKV.out]
                show RowR w' (.slice av nv cv) (valsOf x.1.ob)
                rw [e0]
                exact RowR.of_owns (row_kept hv1 hc (fun b hb' e => by have := RR.out.vn b hb'; have := List.mem_singleton.1 e; have := OO.out.below.size; omega))
              · have := HN.out b hb'
                simp at e
                omega
            have HC2 := Lib.hid e2
            have HB2 := Lib.hid (e3 W.heap.size W (Nat.le_refl _) HBR.out)
            clear e1 e2 e3 hz2 hbr
            go_wp2_with fail
            exact bodyPost_ret (v := .tuple #[rV (x.1.ob, ⟨.slice ak nk ck, .slice av nv cv, .slice sa6 x.1.slots.length sc6⟩), .bool true]) (by simp [results, Try.results45, go_sem, rV, r0, r1, r2, r3, r4, r5, r6, r7, r8, r9]) rfl (HG.out _ HC2.out HB2.out)
end Go.Proofs.Ytlihonbmopeemaa.Hp
end
