/- Texts on Digits, joined. No conditions but those that each theorem states. -/
import Derived.Test.YtlihonbmopeemaaBdNamed
import Derived.Test.YtlihonbmopeemaaBdPlain
section
namespace Go.Proofs.Ytlihonbmopeemaa.Dig
open Go.RowKit Go.Proofs.Ytlihonbmopeemaa.Ref Go.Proofs.YtlihonbmopeemaaW.PrintWords Go.Proofs.YtlihonbmopeemaaW.PrintLast Go.Proofs.YtlihonbmopeemaaW.PrintMore
open Go.Proofs.Ytlihonbmopeemaa.Num Go.Proofs.Ytlihonbmopeemaa.DigLaw

theorem rd_nat (l : List Int) (i : Nat) : rd l (i : Int) = l.getD i 0 := by unfold rd; rw [Int.toNat_natCast]
theorem rd_dg {l : List Int} (h : Dg l) (i : Nat) : rd l (i : Int) = ((dg l i : Nat) : Int) := by rw [rd_nat, dg_int h]

theorem at_is {l : List Int} (h : Dg l) (i : Nat) : minstrelref01_at.f l (i : Int) = some ((dg l i : Nat) : Int) := by
  unfold minstrelref01_at.f
  by_cases c : (i : Int) < (l.length : Int)
  · rw [if_pos c, if_pos (by omega), rd_dg h]
  · rw [if_neg c, dg_out (by omega)]; rfl

/-! ### Trim -/
theorem take_of_zeros {l : List Int} : ∀ (i : Nat), i ≤ l.length → (∀ j, i ≤ j → dg l j = 0) → val (l.take i) = val l := by
  intro i hi hz
  rw [val_take_drop l i hi]
  have : val (l.drop i) = 0 := by
    have key : ∀ n, vt (l.drop i) n = 0 := by
      intro n
      induction n with
      | zero => rfl
      | succ n ih =>
        have e : dg (l.drop i) n = dg l (i + n) := by unfold dg; rw [List.getD_eq_getElem?_getD, List.getD_eq_getElem?_getD, List.getElem?_drop]
        rw [vt, ih, e, hz (i + n) (by omega)]; simp
    rw [← vt_val _ _ (Nat.le_refl _)]; exact key _
  rw [this]; simp
theorem trim_loop {l : List Int} (h : Dg l) (hl : l.length < 1000000) : ∀ (i : Nat), i ≤ l.length → (∀ j, i ≤ j → dg l j = 0) → Ev (fun k => minstrelref01_Trim.l0 k l (i : Int)) (dig (val l)) := by
  have stop : ∀ (i : Nat), i ≤ l.length → (∀ j, i ≤ j → dg l j = 0) → (i = 0 ∨ dg l (i - 1) ≠ 0) → l.take i = dig (val l) := by
    intro i hi hz hc
    rw [← take_of_zeros i hi hz]
    apply dig_of (Dg_take h i)
    rcases hc with rfl | hc
    · left; rfl
    · by_cases i0 : i = 0
      · subst i0; left; rfl
      · right
        rw [List.length_take, Nat.min_eq_left hi]
        unfold dg at hc ⊢
        rw [List.getD_eq_getElem?_getD, List.getElem?_take_of_lt (by omega)]
        rw [List.getD_eq_getElem?_getD] at hc; exact hc
  have fin : ∀ (i : Nat), i ≤ l.length → ((some (([] : List Int) : List Int)).bind fun y106 => (if 0 ≤ (i : Int) then (if (i : Int) ≤ (l.length : Int) then (if y106.length + (l.take ((i : Int) : Int).toNat).length < 17592186044416 then (some (y106 ++ (l.take ((i : Int) : Int).toNat))) else (none)) else (none)) else (none))) = some (l.take i) := by
    intro i hi
    simp only [Option.bind_some, Int.toNat_natCast, List.length_nil, List.nil_append]
    rw [if_pos (by omega), if_pos (by omega), if_pos (by rw [List.length_take]; omega)]
  intro i
  induction i with
  | zero =>
    intro hi hz
    refine Ev.step (f := fun _ => some (dig (val l))) (fun k => ?_) (Ev.now _)
    rw [minstrelref01_Trim.l0, if_neg (by omega), ← stop 0 hi hz (.inl rfl)]
    exact fin 0 hi
  | succ i ih =>
    intro hi hz
    have e : wrap64 (((i + 1 : Nat) : Int) - 1) = (i : Int) := by rw [i64in (by omega) (by omega)]; omega
    by_cases c : dg l i = 0
    · refine Ev.step (f := fun k => minstrelref01_Trim.l0 k l (i : Int)) (fun k => ?_) (ih (by omega) (fun j hj => by
        by_cases e : j = i
        · rw [e]; exact c
        · exact hz j (by omega)))
      rw [minstrelref01_Trim.l0, if_pos (by omega), e, if_pos (by omega), if_pos (by omega), if_pos (by rw [rd_dg h, c]; rfl)]
    · refine Ev.step (f := fun _ => some (dig (val l))) (fun k => ?_) (Ev.now _)
      rw [minstrelref01_Trim.l0, if_pos (by omega), e, if_pos (by omega), if_pos (by omega), if_neg (by rw [rd_dg h]; omega), ← stop (i + 1) hi hz (.inr (by simpa using c))]
      exact fin (i + 1) hi
theorem trim_is {l : List Int} (h : Dg l) (hl : l.length < 1000000) : Ev (fun k => minstrelref01_Trim.f k l) (dig (val l)) :=
  trim_loop h hl l.length (Nat.le_refl _) (fun _ hj => dg_out hj)

end Go.Proofs.Ytlihonbmopeemaa.Dig
end
section
namespace Go.Proofs.Ytlihonbmopeemaa.Dig
open Go.RowKit Go.Proofs.Ytlihonbmopeemaa.Ref Go.Proofs.YtlihonbmopeemaaW.PrintWords Go.Proofs.YtlihonbmopeemaaW.PrintLast Go.Proofs.YtlihonbmopeemaaW.PrintMore
open Go.Proofs.Ytlihonbmopeemaa.Num Go.Proofs.Ytlihonbmopeemaa.DigLaw

theorem shl_nat (x m : Nat) (hm : m < 64) (h : x * 2 ^ m < 18446744073709551616) : shl .u64 (x : Int) (m : Int) = ((x * 2 ^ m : Nat) : Int) := by
  unfold shl
  rw [Int.toNat_natCast, Nat.min_eq_left (by simp [IntKind.bits]; omega), show ((2 : Int) ^ m) = ((2 ^ m : Nat) : Int) from by simp, ← Int.natCast_mul]
  exact u64of _ h
theorem mask16 (x : Nat) (h : x < 18446744073709551616) : Go.bits .and .u64 (x : Int) 65535 = ((x % B : Nat) : Int) := by
  have := mask_nat x 16 h (by decide)
  rw [show ((2 ^ 16 - 1 : Nat) : Int) = 65535 from by decide] at this
  rw [this]; rfl

/-! ### Product -/
theorem mul_bound {x y : Nat} (hx : x < 65536) (hy : y < 65536) : x * y ≤ 4294836225 := Nat.le_trans (Nat.mul_le_mul (Nat.le_of_lt_succ hx) (Nat.le_of_lt_succ hy)) (by decide)
theorem prod_x (o p q c : Nat) (ho : o < B) (hp : p < B) (hq : q < B) (hc : c < B) :
    IntKind.u64.wrap (IntKind.u64.wrap (((o : Nat) : Int) + IntKind.u64.wrap (((p : Nat) : Int) * ((q : Nat) : Int))) + (c : Int)) = ((o + p * q + c : Nat) : Int) := by
  have hb := mul_bound hp hq
  unfold B at *
  rw [← Int.natCast_mul, u64in (n := ((p * q : Nat) : Int)) (by omega) (by omega), u64in (n := ((o : Nat) : Int) + ((p * q : Nat) : Int)) (by omega) (by omega), u64in (by omega) (by omega)]; omega
theorem add_core {p q X o g c S v A C : Nat} (h2 : p + q = X) (h4 : X = o + g + c) (hset : S + o = v + p) (hv : v + c = A + C) : S + q = A + (C + g) := by omega
theorem zs_set {out : List Int} {n p : Nat} (hz : ∀ j, n ≤ j → dg out j = 0) (h : p < n) (d : Int) : ∀ j, n ≤ j → dg (out.set p d) j = 0 := fun j hj => by
  rw [dg_set_ne _ _ _ _ (by omega)]; exact hz j hj
theorem q_of (X : Nat) : ((X : Nat) : Int) / 65536 = ((X / B : Nat) : Int) := by unfold B; omega
theorem qB_of {X : Nat} (h : X < 4294967296) : X / B < B := by unfold B; omega
theorem X_of {o p q c : Nat} (ro : o < B) (rp : p < B) (rq : q < B) (rc : c < B) : o + p * q + c < 4294967296 := by
  have := mul_bound rp rq
  unfold B at ro rc; omega
theorem prod_step {a b out : List Int} {i k c d : Nat} (ho : Dg out) (j q X : Nat) (h1 : d + B * q = X) (hik : j < out.length) (hX : X = dg out j + dg a i * dg b k + c) (hv : val out + B ^ j * c = vt a i * val b + B ^ i * (dg a i * vt b k)) (hj : j = i + k := by rfl) :
    val (out.set j (d : Int)) + B ^ (i + (k + 1)) * q = vt a i * val b + B ^ i * (dg a i * vt b (k + 1)) := by
  have hset := val_set ho j (d : Int) hik
  rw [Int.toNat_natCast] at hset
  have h2 := congrArg (B ^ j * ·) h1
  simp only [Nat.mul_add] at h2
  have h4 : B ^ j * X = B ^ j * dg out j + B ^ j * (dg a i * dg b k) + B ^ j * c := by rw [hX, Nat.mul_add, Nat.mul_add]
  have h3 : B ^ i * (dg a i * (B ^ k * dg b k)) = B ^ j * (dg a i * dg b k) := by
    rw [hj, Nat.pow_add, Nat.mul_assoc]; congr 1; rw [← Nat.mul_assoc, ← Nat.mul_assoc, Nat.mul_comm (dg a i)]
  have h5 : B ^ (i + (k + 1)) * q = B ^ j * (B * q) := by rw [hj, ← Nat.add_assoc, Bp_succ, Nat.mul_comm B, Nat.mul_assoc]
  rw [h5, vt, Nat.mul_add, Nat.mul_add, h3]
  exact add_core h2 h4 hset hv
theorem prod_fin {a b out : List Int} {i c : Nat} (ho : Dg out) (hib : i + b.length < out.length) (hz : dg out (i + b.length) = 0) (hv : val out + B ^ (i + b.length) * c = vt a i * val b + B ^ i * (dg a i * vt b b.length)) :
    val (out.set (i + b.length) (c : Int)) = vt a (i + 1) * val b := by
  have hset := val_set ho (i + b.length) (c : Int) hib
  rw [hz, Int.toNat_natCast, Nat.mul_zero, Nat.add_zero] at hset
  rw [vt_val b _ (Nat.le_refl _)] at hv
  rw [hset, hv, vt, Nat.add_mul, Nat.mul_assoc]
theorem prod_inner {a b : List Int} (ha : Dg a) (hb : Dg b) (la : a.length < 400000) (lb : b.length < 400000) (i : Nat) (hi : i < a.length)
    (R : List Int → Prop) (res : List Int) (hR : ∀ out, R out → Ev (fun k => minstrelref01_Product.l0 k a b out ((i + 1 : Nat) : Int)) res)
    (hfin : ∀ out, Dg out → out.length = a.length + b.length → (∀ j, i + 1 + b.length ≤ j → dg out j = 0) → val out = vt a (i + 1) * val b → R out) (d : Nat) :
    ∀ (k c : Nat) (out : List Int), b.length - k = d → k ≤ b.length → c < B → Dg out → out.length = a.length + b.length → (∀ j, i + b.length ≤ j → dg out j = 0) →
      val out + B ^ (i + k) * c = vt a i * val b + B ^ i * (dg a i * vt b k) →
      Ev (fun n => minstrelref01_Product.l1 n a b out (i : Int) (c : Int) (k : Int)) res := by
  induction d with
  | zero =>
    intro k c out hd hk hc ho hlen hz hv
    have Hv := Aside0.mk hv
    clear hv
    have hk' : k = b.length := by omega
    subst hk'
    have e : wrap64 ((i : Int) + (b.length : Int)) = ((i + b.length : Nat) : Int) := i64of _ (by omega) (by omega)
    have hib : i + b.length < out.length := by omega
    have hib2 : ((i + b.length : Nat) : Int) < (out.length : Int) := by omega
    have hc2 : (c : Int) < 65536 := by unfold B at hc; omega
    have hls : (out.set (i + b.length) (c : Int)).length = a.length + b.length := by rw [List.length_set]; exact hlen
    have hzs : ∀ j, i + 1 + b.length ≤ j → dg (out.set (i + b.length) (c : Int)) j = 0 := fun j hj => by
      rw [dg_set_ne _ _ _ _ (by omega)]; exact hz j (by omega)
    have hval := prod_fin ho hib (hz _ (Nat.le_refl _)) Hv.out
    have hr := hfin (out.set (i + b.length) (c : Int)) (Dg_set ho _ (Int.natCast_nonneg _) hc2) hls hzs hval
    clear hval Hv
    refine Ev.step (f := fun n => minstrelref01_Product.l0 n a b (out.set (i + b.length) (c : Int)) ((i + 1 : Nat) : Int)) (fun n => ?_) (hR _ hr)
    rw [minstrelref01_Product.l1, if_neg (Int.lt_irrefl _), e, if_pos (Int.natCast_nonneg _), if_pos hib2, Int.toNat_natCast, i64of (n := (i : Int) + 1) (i + 1) rfl (by omega)]
  | succ d ih =>
    intro k c out hd hk hc ho hlen hz hv
    have Hv := Aside0.mk hv
    clear hv
    have e : wrap64 ((i : Int) + (k : Int)) = ((i + k : Nat) : Int) := i64of _ (by omega) (by omega)
    have hk1 : b.length - (k + 1) = d := by omega
    have hk2 : k + 1 ≤ b.length := by omega
    have hik3 : i + k < i + b.length := by omega
    have hik : i + k < out.length := by omega
    have hik2 : ((i + k : Nat) : Int) < (out.length : Int) := by omega
    have hkb : (k : Int) < (b.length : Int) := by omega
    have hia : (i : Int) < (a.length : Int) := by omega
    have ek : wrap64 ((k : Int) + 1) = ((k + 1 : Nat) : Int) := i64of _ rfl (by omega)
    have ro := dg_lt ho (i + k)
    have ra := dg_lt ha i
    have rb := dg_lt hb k
    have hx := prod_x (dg out (i + k)) (dg a i) (dg b k) c ro ra rb hc
    obtain ⟨X, hX⟩ : ∃ X, X = dg out (i + k) + dg a i * dg b k + c := ⟨_, rfl⟩
    have hX2 : X < 4294967296 := by rw [hX]; exact X_of ro ra rb hc
    rw [← hX] at hx
    have hq := q_of X
    have hmod : X % B < 65536 := Nat.mod_lt _ B_pos
    have hXB : X / B < B := qB_of hX2
    have hDs : Dg (out.set (i + k) ((X % B : Nat) : Int)) := Dg_set ho _ (Int.natCast_nonneg _) (Int.ofNat_lt.2 hmod)
    have hXw : X < 18446744073709551616 := Nat.lt_trans hX2 (by decide)
    have hls : (out.set (i + k) ((X % B : Nat) : Int)).length = a.length + b.length := by rw [List.length_set]; exact hlen
    have hzs : ∀ j, i + b.length ≤ j → dg (out.set (i + k) ((X % B : Nat) : Int)) j = 0 := zs_set hz hik3 _
    have hval := prod_step (d := (X % B : Nat)) ho (i + k) (X / B) X (Nat.mod_add_div X B) hik hX Hv.out
    have hstep := ih (k + 1) (X / B) (out.set (i + k) ((X % B : Nat) : Int)) hk1 hk2 hXB hDs hls hzs hval
    clear hval hX Hv
    refine Ev.step (f := fun n => minstrelref01_Product.l1 n a b (out.set (i + k) ((X % B : Nat) : Int)) (i : Int) ((X / B : Nat) : Int) ((k + 1 : Nat) : Int)) (fun n => ?_) hstep
    rw [minstrelref01_Product.l1, if_pos hkb, e, if_pos (Int.natCast_nonneg _), if_pos hik2, if_pos (Int.natCast_nonneg _), if_pos hia, if_pos (Int.natCast_nonneg _), Int.toNat_natCast, rd_dg ho, rd_dg ha, rd_dg hb, hx, mask16 _ hXw, hq, ek]
theorem prod_loop {a b : List Int} (ha : Dg a) (hb : Dg b) (la : a.length < 400000) (lb : b.length < 400000) (d : Nat) :
    ∀ (i : Nat) (out : List Int), a.length - i = d → i ≤ a.length → Dg out → out.length = a.length + b.length → (∀ j, i + b.length ≤ j → dg out j = 0) → val out = vt a i * val b →
      Ev (fun n => minstrelref01_Product.l0 n a b out (i : Int)) (dig (val a * val b)) := by
  induction d with
  | zero =>
    intro i out hd hi ho hlen hz hv
    have hi' : i = a.length := by omega
    rw [vt_val a i (by omega)] at hv
    have ht := trim_is ho (by omega)
    rw [hv] at ht
    refine Ev.step (f := fun k => (minstrelref01_Trim.f k out).bind fun t => some t) (fun k => ?_) (Ev.bind ht (Ev.now _))
    rw [minstrelref01_Product.l0, if_neg (by omega)]
  | succ d ih =>
    intro i out hd hi ho hlen hz hv
    have hin := prod_inner ha hb la lb i (by omega) (fun out => Dg out ∧ out.length = a.length + b.length ∧ (∀ j, i + 1 + b.length ≤ j → dg out j = 0) ∧ val out = vt a (i + 1) * val b) (dig (val a * val b))
      (fun out h => ih (i + 1) out (by omega) (by omega) h.1 h.2.1 h.2.2.1 h.2.2.2) (fun out h1 h2 h3 h4 => ⟨h1, h2, h3, h4⟩) b.length 0 0 out (by omega) (Nat.zero_le _) B_pos ho hlen hz (by simp [vt, hv])
    refine Ev.step (f := fun n => minstrelref01_Product.l1 n a b out (i : Int) 0 0) (fun n => ?_) hin
    rw [minstrelref01_Product.l0, if_pos (by omega)]
theorem dg_zeros (n j : Nat) : dg (List.replicate n 0) j = 0 := by
  unfold dg; rw [List.getD_eq_getElem?_getD, List.getElem?_replicate]; split <;> rfl
theorem product_is {a b : List Int} (ha : Dg a) (hb : Dg b) (la : a.length < 400000) (lb : b.length < 400000) : Ev (fun k => minstrelref01_Product.f k a b) (dig (val a * val b)) := by
  have e : wrap64 ((a.length : Int) + (b.length : Int)) = ((a.length + b.length : Nat) : Int) := by rw [i64in (by omega) (by omega)]; omega
  refine Ev.congr (f := fun k => minstrelref01_Product.l0 k a b (List.replicate (a.length + b.length) 0) 0) (fun k => ?_) (prod_loop ha hb la lb a.length 0 _ (by omega) (Nat.zero_le _) (Dg_zeros _) (by simp) (fun j _ => dg_zeros _ j) (by simp [vt, val_zeros]))
  unfold minstrelref01_Product.f
  rw [e, if_pos (by omega), Int.toNat_natCast, if_pos (by omega)]

/-! ### Up -/
theorem up_is {a : List Int} (ha : Dg a) (la : a.length < 100000) (n : Nat) (hn : n < 100000) : Ev (fun k => minstrelref01_Up.f k a (n : Int)) (dig (val a * 2 ^ n)) := by
  have e1 : wrap64 (Int.tdiv (n : Int) 16) = ((n / 16 : Nat) : Int) := by rw [Int.tdiv_eq_ediv_of_nonneg (by omega), i64in (by omega) (by omega)]; omega
  have e2 : IntKind.u64.wrap (Int.tmod (n : Int) 16) = ((n % 16 : Nat) : Int) := by rw [Int.tmod_eq_emod_of_nonneg (by omega), u64in (by omega) (by omega)]; omega
  have hm : n % 16 < 16 := Nat.mod_lt _ (by decide)
  have hp : 2 ^ (n % 16) < 65536 := Nat.lt_of_lt_of_le (Nat.pow_lt_pow_right (by decide) hm) (by decide)
  have e3 : shl .u64 1 ((n % 16 : Nat) : Int) = ((2 ^ (n % 16) : Nat) : Int) := by
    have := shl_nat 1 (n % 16) (by omega) (by omega)
    rw [Nat.one_mul] at this; exact this
  have hd : Dg (List.replicate (n / 16) 0 ++ a) := Dg_append.2 ⟨Dg_zeros _, ha⟩
  have hone : Dg [((2 ^ (n % 16) : Nat) : Int)] := Dg_nat hp
  have hv : val (List.replicate (n / 16) 0 ++ a) * val [((2 ^ (n % 16) : Nat) : Int)] = val a * 2 ^ n := by
    rw [val_append, val_zeros, val_one, Int.toNat_natCast, List.length_replicate, Nat.zero_add, Bp_two, Nat.mul_comm (2 ^ (16 * (n / 16))), Nat.mul_assoc, ← Nat.pow_add, show 16 * (n / 16) + n % 16 = n by omega]
  have hpr := product_is hd hone (by simp; omega) (by simp)
  rw [hv] at hpr
  have hdl : (dig (val a * 2 ^ n)).length < 1000000 := by
    have h1 := val_lt_two ha
    have h2 : val a * 2 ^ n < 2 ^ (16 * (a.length + n)) := by
      calc val a * 2 ^ n < 2 ^ (16 * a.length) * 2 ^ n := Nat.mul_lt_mul_of_pos_right h1 (Nat.two_pow_pos _)
        _ = 2 ^ (16 * a.length + n) := by rw [Nat.pow_add]
        _ ≤ _ := Nat.pow_le_pow_right (by decide) (by omega)
    have := dig_length' h2; omega
  have ht := trim_is (dig_Dg (val a * 2 ^ n)) hdl
  rw [dig_val] at ht
  refine Ev.congr (f := fun k => (minstrelref01_Product.f k (List.replicate (n / 16) 0 ++ a) [((2 ^ (n % 16) : Nat) : Int)]).bind fun t => ((minstrelref01_Trim.f k t).bind fun t2 => some t2)) (fun k => ?_) (Ev.bind hpr (Ev.bind ht (Ev.now _)))
  unfold minstrelref01_Up.f
  rw [e1, if_pos (by omega), Int.toNat_natCast, if_pos (by omega)]
  simp only [Option.bind_some]
  rw [if_pos (by simp; omega), e2, if_pos (by omega), e3]

/-! ### Bit, Len -/
theorem bit_is {a : List Int} (ha : Dg a) (i : Nat) (hi : i < 100000000) : minstrelref01_Bit.f a (i : Int) = some ((val a / 2 ^ i % 2 : Nat) : Int) := by
  have e1 : wrap64 (Int.tdiv (i : Int) 16) = ((i / 16 : Nat) : Int) := by rw [Int.tdiv_eq_ediv_of_nonneg (by omega), i64in (by omega) (by omega)]; omega
  have e2 : IntKind.u64.wrap (Int.tmod (i : Int) 16) = ((i % 16 : Nat) : Int) := by rw [Int.tmod_eq_emod_of_nonneg (by omega), u64in (by omega) (by omega)]; omega
  have hm : i % 16 < 16 := Nat.mod_lt _ (by decide)
  unfold minstrelref01_Bit.f
  rw [e1, at_is ha]; simp only [Option.bind_some]
  rw [e2, if_pos (by omega)]
  have hd := dg_lt ha (i / 16)
  have e3 : shr .u64 ((dg a (i / 16) : Nat) : Int) ((i % 16 : Nat) : Int) = ((dg a (i / 16) / 2 ^ (i % 16) : Nat) : Int) := by
    unfold shr
    rw [Int.toNat_natCast, Nat.min_eq_left (by simp [IntKind.bits]; omega), Int.natCast_ediv]; simp
  have hlt : dg a (i / 16) / 2 ^ (i % 16) < 18446744073709551616 := by
    have := Nat.div_le_self (dg a (i / 16)) (2 ^ (i % 16)); unfold B at hd; omega
  rw [e3]
  have hmask := mask_nat (dg a (i / 16) / 2 ^ (i % 16)) 1 hlt (by decide)
  rw [show ((2 ^ 1 - 1 : Nat) : Int) = 1 from by decide] at hmask
  rw [hmask, dg_eq ha, Bp_two, B_eq]
  congr 2
  have : val a / 2 ^ (16 * (i / 16)) % 2 ^ 16 / 2 ^ (i % 16) % 2 ^ 1 = val a / 2 ^ (16 * (i / 16)) / 2 ^ (i % 16) % 2 := by
    have h16 : 2 ^ 16 = 2 ^ (i % 16) * 2 ^ (16 - i % 16) := by rw [← Nat.pow_add]; congr 1; omega
    rw [h16, Nat.mod_mul_right_div_self, Nat.pow_one]
    have : 2 ^ (16 - i % 16) = 2 * 2 ^ (15 - i % 16) := by rw [← Nat.pow_succ']; congr 1; omega
    rw [this, Nat.mod_mul_right_mod]
  rw [this, Nat.div_div_eq_div_mul, ← Nat.pow_add, show 16 * (i / 16) + i % 16 = i by omega]
theorem len_loop {a : List Int} (ha : Dg a) : ∀ (i : Nat), i < 100000000 → val a < 2 ^ i → Ev (fun k => minstrelref01_Len.l0 k a (i : Int)) ((blen (val a) : Nat) : Int) := by
  intro i
  induction i with
  | zero =>
    intro _ h
    have h0 : val a = 0 := by simp at h; omega
    refine Ev.step (f := fun _ => some ((blen (val a) : Nat) : Int)) (fun k => ?_) (Ev.now _)
    rw [minstrelref01_Len.l0, if_neg (by omega), h0]; rfl
  | succ i ih =>
    intro hi h
    have e : wrap64 (((i + 1 : Nat) : Int) - 1) = (i : Int) := by rw [i64in (by omega) (by omega)]; omega
    by_cases c : val a < 2 ^ i
    · have hb : val a / 2 ^ i % 2 = 0 := by rw [Nat.div_eq_of_lt c]
      refine Ev.step (f := fun k => minstrelref01_Len.l0 k a (i : Int)) (fun k => ?_) (ih (by omega) c)
      rw [minstrelref01_Len.l0, if_pos (by omega), e, bit_is ha i (by omega), hb]; rfl
    · have hb : val a / 2 ^ i = 1 := by
        have h1 : val a / 2 ^ i < 2 := by rw [Nat.div_lt_iff_lt_mul (Nat.two_pow_pos _), ← Nat.pow_succ']; exact h
        have h2 : 1 ≤ val a / 2 ^ i := by rw [Nat.le_div_iff_mul_le (Nat.two_pow_pos _), Nat.one_mul]; omega
        omega
      have hl : blen (val a) = i + 1 := by
        have h1 := blen_le h
        have h0 : val a ≠ 0 := by intro e; rw [e] at c; exact c (Nat.two_pow_pos _)
        have h2 := blen_lt (val a)
        have h3 : 2 ^ i < 2 ^ blen (val a) := Nat.lt_of_le_of_lt (by omega) h2
        have := (Nat.pow_lt_pow_iff_right (by decide : 1 < 2)).1 h3
        omega
      refine Ev.step (f := fun _ => some ((blen (val a) : Nat) : Int)) (fun k => ?_) (Ev.now _)
      rw [minstrelref01_Len.l0, if_pos (by omega), e, bit_is ha i (by omega), hb, hl]; rfl
theorem len_is {a : List Int} (ha : Dg a) (la : a.length < 1000000) : Ev (fun k => minstrelref01_Len.f k a) ((blen (val a) : Nat) : Int) := by
  refine Ev.congr (f := fun k => minstrelref01_Len.l0 k a ((16 * a.length : Nat) : Int)) (fun k => ?_) (len_loop ha _ (by omega) (val_lt_two ha))
  unfold minstrelref01_Len.f
  rw [i64in (by omega) (by omega)]; rfl
end Go.Proofs.Ytlihonbmopeemaa.Dig
end
section
namespace Go.Proofs.Ytlihonbmopeemaa.Dig
open Go.RowKit Go.Proofs.Ytlihonbmopeemaa.Ref Go.Proofs.YtlihonbmopeemaaW.PrintWords Go.Proofs.YtlihonbmopeemaaW.PrintLast Go.Proofs.YtlihonbmopeemaaW.PrintMore
open Go.Proofs.Ytlihonbmopeemaa.Num Go.Proofs.Ytlihonbmopeemaa.DigLaw

theorem or_add (x y m : Nat) (hx : x < 2 ^ m) (h1 : x < 18446744073709551616) (h2 : y * 2 ^ m < 18446744073709551616) : Go.bits .or .u64 (x : Int) ((y * 2 ^ m : Nat) : Int) = ((x + y * 2 ^ m : Nat) : Int) := by
  rw [or_nat _ _ h1 h2, Nat.or_comm, Nat.mul_comm y, ← Nat.two_pow_add_eq_or_of_lt hx, Nat.add_comm]
theorem mod_succ_two (v i : Nat) : v % 2 ^ (i + 1) = v % 2 ^ i + 2 ^ i * (v / 2 ^ i % 2) := by rw [Nat.pow_succ, Nat.mod_mul]

/-! ### Down -/
theorem down_digit {a : List Int} (ha : Dg a) (lost : Bool) (out : List Int) (lo : out.length < 1000000) (i : Nat) (hi : i < 50000000) (res : List Int × Bool)
    (hr : Ev (fun k => minstrelref01_Down.l1 k a lost (out ++ [((val a / 2 ^ i % B : Nat) : Int)]) ((i + 16 : Nat) : Int)) res) (d : Nat) : ∀ (m : Nat), 16 - m = d → m ≤ 16 →
    Ev (fun k => minstrelref01_Down.l2 k a lost out (i : Int) ((val a / 2 ^ i % 2 ^ m : Nat) : Int) (m : Int)) res := by
  induction d with
  | zero =>
    intro m hd hm
    obtain rfl : m = 16 := by omega
    refine Ev.step (f := fun k => minstrelref01_Down.l1 k a lost (out ++ [((val a / 2 ^ i % B : Nat) : Int)]) ((i + 16 : Nat) : Int)) (fun k => ?_) hr
    rw [minstrelref01_Down.l2, if_neg (by omega), if_pos (by omega), i64in (by omega) (by omega)]; rfl
  | succ d ih =>
    intro m hd hm
    have e : wrap64 ((i : Int) + (m : Int)) = ((i + m : Nat) : Int) := by rw [i64in (by omega) (by omega)]; omega
    have e2 : IntKind.u64.wrap (m : Int) = (m : Int) := u64in (by omega) (by omega)
    have hb : val a / 2 ^ (i + m) % 2 < 2 := Nat.mod_lt _ (by decide)
    have hp : 2 ^ m ≤ 32768 := Nat.le_trans (Nat.pow_le_pow_right (by decide) (by omega : m ≤ 15)) (by decide)
    have hx : val a / 2 ^ i % 2 ^ m < 2 ^ m := Nat.mod_lt _ (Nat.two_pow_pos _)
    have hs : (val a / 2 ^ (i + m) % 2) * 2 ^ m ≤ 1 * 32768 := Nat.mul_le_mul (by omega) hp
    have hv : val a / 2 ^ i % 2 ^ m + (val a / 2 ^ (i + m) % 2) * 2 ^ m = val a / 2 ^ i % 2 ^ (m + 1) := by
      rw [mod_succ_two, Nat.div_div_eq_div_mul, ← Nat.pow_add, Nat.mul_comm]
    refine Ev.step (f := fun k => minstrelref01_Down.l2 k a lost out (i : Int) ((val a / 2 ^ i % 2 ^ (m + 1) : Nat) : Int) ((m + 1 : Nat) : Int)) (fun k => ?_) (ih (m + 1) (by omega) (by omega))
    rw [minstrelref01_Down.l2, if_pos (by omega), e, bit_is ha _ (by omega)]; simp only [Option.bind_some]
    rw [e2, if_pos (by omega), shl_nat _ _ (by omega) (by omega), or_add _ _ _ hx (by omega) (by omega), hv, i64in (by omega) (by omega)]; rfl
theorem down_out {a : List Int} (ha : Dg a) (la : a.length < 900000) (lost : Bool) (n : Nat) (hn : n < 1000000) (d : Nat) : ∀ (out : List Int), 16 * a.length ≤ n + 16 * out.length + 16 * d → n + 16 * out.length < 16 * a.length + n + 17 → Dg out → val out = val a / 2 ^ n % 2 ^ (16 * out.length) →
    Ev (fun k => minstrelref01_Down.l1 k a lost out ((n + 16 * out.length : Nat) : Int)) (dig (val a / 2 ^ n), lost) := by
  have fin : ∀ (out : List Int), ¬ n + 16 * out.length < 16 * a.length → n + 16 * out.length < 16 * a.length + n + 17 → Dg out → val out = val a / 2 ^ n % 2 ^ (16 * out.length) →
    Ev (fun k => minstrelref01_Down.l1 k a lost out ((n + 16 * out.length : Nat) : Int)) (dig (val a / 2 ^ n), lost) := by
    intro out hge hlt ho hv
    have hval : val out = val a / 2 ^ n := by
      rw [hv]; apply Nat.mod_eq_of_lt
      rw [Nat.div_lt_iff_lt_mul (Nat.two_pow_pos _), ← Nat.pow_add]
      exact Nat.lt_of_lt_of_le (val_lt_two ha) (Nat.pow_le_pow_right (by decide) (by omega))
    have ht := trim_is ho (by omega)
    rw [hval] at ht
    refine Ev.step (f := fun k => (minstrelref01_Trim.f k out).bind fun t => some (t, lost)) (fun k => ?_) (Ev.bind ht (Ev.now _))
    rw [minstrelref01_Down.l1, if_neg (by rw [i64in (by omega) (by omega)]; omega)]
  induction d with
  | zero =>
    intro out hd hlt ho hv
    exact fin out (by omega) hlt ho hv
  | succ d ih =>
    intro out hd hlt ho hv
    by_cases c : n + 16 * out.length < 16 * a.length
    · have hm : val a / 2 ^ (n + 16 * out.length) % B < B := Nat.mod_lt _ B_pos
      have hl : (out ++ [((val a / 2 ^ (n + 16 * out.length) % B : Nat) : Int)]).length = out.length + 1 := by simp
      have hrec := ih (out ++ [((val a / 2 ^ (n + 16 * out.length) % B : Nat) : Int)]) (by rw [hl]; omega) (by rw [hl]; omega) (Dg_append.2 ⟨ho, Dg_one (by omega) (by unfold B at hm ⊢; omega)⟩) (by
        rw [hl, val_append, val_one, Int.toNat_natCast, hv, Bp_two, show 16 * (out.length + 1) = 16 * out.length + 16 by omega, Nat.pow_add 2 (16 * out.length) 16, Nat.mod_mul, Nat.div_div_eq_div_mul, ← Nat.pow_add, B_eq])
      rw [hl, show n + 16 * (out.length + 1) = (n + 16 * out.length) + 16 by omega] at hrec
      have hin := down_digit ha lost out (by omega) (n + 16 * out.length) (by omega) _ hrec 16 0 (by omega) (by omega)
      refine Ev.step (f := fun k => minstrelref01_Down.l2 k a lost out ((n + 16 * out.length : Nat) : Int) 0 0) (fun k => ?_) ?_
      · rw [minstrelref01_Down.l1, if_pos (by rw [i64in (by omega) (by omega)]; omega)]
      · rw [Nat.pow_zero, Nat.mod_one] at hin; exact hin
    · exact fin out c hlt ho hv
theorem down_lost {a : List Int} (ha : Dg a) (la : a.length < 900000) (n : Nat) (hn : n < 1000000) (d : Nat) : ∀ (i : Nat), n - i = d → i ≤ n →
    Ev (fun k => minstrelref01_Down.l0 k a (n : Int) (decide (val a % 2 ^ i ≠ 0)) (i : Int)) (dig (val a / 2 ^ n), decide (val a % 2 ^ n ≠ 0)) := by
  have out := fun lost => down_out ha la lost n hn a.length [] (by simp only [List.length_nil]; omega) (by simp only [List.length_nil]; omega) Dg_nil (by simp [val, Nat.mod_one])
  have fin : ∀ (lost : Bool), lost = decide (val a % 2 ^ n ≠ 0) → Ev (fun k => minstrelref01_Down.j1 k a (n : Int) lost) (dig (val a / 2 ^ n), decide (val a % 2 ^ n ≠ 0)) := by
    intro lost hl
    rw [← hl]
    exact Ev.step (f := fun k => minstrelref01_Down.l1 k a lost [] (n : Int)) (fun k => rfl) (out lost)
  induction d with
  | zero =>
    intro i hd hi
    obtain rfl : i = n := by omega
    refine Ev.step (f := fun k => minstrelref01_Down.j1 k a (i : Int) (decide (val a % 2 ^ i ≠ 0))) (fun k => ?_) (fin _ rfl)
    rw [minstrelref01_Down.l0, if_neg (by omega)]
  | succ d ih =>
    intro i hd hi
    have ew : wrap64 (16 * (a.length : Int)) = ((16 * a.length : Nat) : Int) := by rw [i64in (by omega) (by omega)]; omega
    have ei : wrap64 ((i : Int) + 1) = ((i + 1 : Nat) : Int) := by rw [i64in (by omega) (by omega)]; rfl
    by_cases c : i < 16 * a.length
    · have hrec := ih (i + 1) (by omega) (by omega)
      have hb : val a / 2 ^ i % 2 < 2 := Nat.mod_lt _ (by decide)
      have hms := mod_succ_two (val a) i
      by_cases z : val a % 2 ^ i = 0
      · refine Ev.step (f := fun k => minstrelref01_Down.l0 k a (n : Int) (decide (val a % 2 ^ (i + 1) ≠ 0)) ((i + 1 : Nat) : Int)) (fun k => ?_) hrec
        have hf : decide (val a % 2 ^ i ≠ 0) = false := by rw [decide_eq_false_iff_not]; simp [z]
        rw [minstrelref01_Down.l0, if_pos (by omega), ew, if_pos (by omega), hf, if_neg (by simp), bit_is ha i (by omega)]
        simp only [Option.bind_some]
        rw [ei]
        have hbit : (((val a / 2 ^ i % 2 : Nat) : Int) == 1) = decide (val a % 2 ^ (i + 1) ≠ 0) := by
          rw [hms, z, Nat.zero_add]
          have hp := Nat.two_pow_pos i
          by_cases b1 : val a / 2 ^ i % 2 = 1
          · rw [b1]
            have : decide (2 ^ i * 1 ≠ 0) = true := by rw [decide_eq_true_iff]; omega
            rw [this]; rfl
          · have b0 : val a / 2 ^ i % 2 = 0 := by omega
            rw [b0]; rfl
        rw [hbit]
      · refine Ev.step (f := fun k => minstrelref01_Down.l0 k a (n : Int) (decide (val a % 2 ^ (i + 1) ≠ 0)) ((i + 1 : Nat) : Int)) (fun k => ?_) hrec
        have hf : decide (val a % 2 ^ i ≠ 0) = true := by rw [decide_eq_true_iff]; exact z
        have hf2 : decide (val a % 2 ^ (i + 1) ≠ 0) = true := by rw [decide_eq_true_iff, hms]; omega
        rw [minstrelref01_Down.l0, if_pos (by omega), ew, if_pos (by omega), hf, if_pos rfl, ei, hf2]
    · refine Ev.step (f := fun k => minstrelref01_Down.j1 k a (n : Int) (decide (val a % 2 ^ i ≠ 0))) (fun k => ?_) (fin _ ?_)
      · rw [minstrelref01_Down.l0, if_pos (by omega), ew, if_neg (by omega)]
      · have h1 : ∀ j, 16 * a.length ≤ j → val a % 2 ^ j = val a := fun j hj => Nat.mod_eq_of_lt (Nat.lt_of_lt_of_le (val_lt_two ha) (Nat.pow_le_pow_right (by decide) hj))
        rw [h1 i (by omega), h1 n (by omega)]
theorem down_is {a : List Int} (ha : Dg a) (la : a.length < 900000) (n : Nat) (hn : n < 1000000) : Ev (fun k => minstrelref01_Down.f k a (n : Int)) (dig (val a / 2 ^ n), decide (val a % 2 ^ n ≠ 0)) := by
  have := down_lost ha la n hn n 0 (by omega) (by omega)
  have hf : decide (val a % 2 ^ 0 ≠ 0) = false := by rw [decide_eq_false_iff_not]; simp [Nat.mod_one]
  rw [hf] at this; exact this

/-! ### Small, Digits -/
theorem small_is {a : List Int} (ha : Dg a) (h : val a < 18446744073709551616) : minstrelref01_Small.f a = some ((val a : Nat) : Int) := by
  have h4 : vt a 4 = val a := by rw [vt_mod ha]; exact Nat.mod_eq_of_lt (Nat.lt_of_lt_of_le h (by decide))
  have r0 := dg_lt ha 0
  have r1 := dg_lt ha 1
  have r2 := dg_lt ha 2
  have r3 := dg_lt ha 3
  simp only [vt, Nat.pow_zero, Nat.one_mul, Nat.zero_add] at h4
  unfold B at r0 r1 r2 r3
  have e1 : B ^ 1 = 65536 := by decide
  have e2 : B ^ 2 = 4294967296 := by decide
  have e3 : B ^ 3 = 281474976710656 := by decide
  rw [e1, e2, e3] at h4
  have a0 := at_is ha 0
  have a1 := at_is ha 1
  have a2 := at_is ha 2
  have a3 := at_is ha 3
  simp only [Int.natCast_zero] at a0
  rw [show ((1 : Nat) : Int) = 1 from rfl] at a1
  rw [show ((2 : Nat) : Int) = 2 from rfl] at a2
  rw [show ((3 : Nat) : Int) = 3 from rfl] at a3
  unfold minstrelref01_Small.f
  rw [a0, a1, a2, a3]; simp only [Option.bind_some]
  have w1 : IntKind.u64.wrap (((dg a 1 : Nat) : Int) * 65536) = ((dg a 1 * 2 ^ 16 : Nat) : Int) := by rw [u64in (by omega) (by omega)]; omega
  have w2 : IntKind.u64.wrap (((dg a 2 : Nat) : Int) * 4294967296) = ((dg a 2 * 2 ^ 32 : Nat) : Int) := by rw [u64in (by omega) (by omega)]; omega
  have w3 : IntKind.u64.wrap (((dg a 3 : Nat) : Int) * 281474976710656) = ((dg a 3 * 2 ^ 48 : Nat) : Int) := by rw [u64in (by omega) (by omega)]; omega
  rw [w1, w2, w3, or_add _ _ _ (by omega) (by omega) (by omega), or_add _ _ _ (by omega) (by omega) (by omega), or_add _ _ _ (by omega) (by omega) (by omega)]
  congr 2; omega
theorem digits_is (n : Nat) (h : n < 18446744073709551616) : ∃ l, minstrelref01_Digits.f (n : Int) = some l ∧ Dg l ∧ val l = n ∧ l.length = 4 := by
  unfold minstrelref01_Digits.f
  have e1 : (n : Int) / 65536 = ((n / 65536 : Nat) : Int) := by omega
  have e2 : (n : Int) / 4294967296 = ((n / 4294967296 : Nat) : Int) := by omega
  have e3 : (n : Int) / 281474976710656 = ((n / 281474976710656 : Nat) : Int) := by omega
  rw [e1, e2, e3, mask16 _ h, mask16 _ (by omega), mask16 _ (by omega)]
  refine ⟨_, rfl, ?_, ?_, rfl⟩
  · unfold B
    exact Dg_cons.2 ⟨⟨by omega, by omega⟩, Dg_cons.2 ⟨⟨by omega, by omega⟩, Dg_cons.2 ⟨⟨by omega, by omega⟩, Dg_one (by omega) (by omega)⟩⟩⟩
  · simp only [val, Int.toNat_natCast]; unfold B; omega
end Go.Proofs.Ytlihonbmopeemaa.Dig
end
section
namespace Go.Proofs.Ytlihonbmopeemaa.Dig
open Go.RowKit Go.Proofs.Ytlihonbmopeemaa.Ref Go.Proofs.YtlihonbmopeemaaW.PrintWords Go.Proofs.YtlihonbmopeemaaW.PrintLast Go.Proofs.YtlihonbmopeemaaW.PrintMore
open Go.Proofs.Ytlihonbmopeemaa.Num Go.Proofs.Ytlihonbmopeemaa.DigLaw Go.Proofs.Ytlihonbmopeemaa.Fl

def S63 : Nat := 9223372036854775808
def sgn (neg : Bool) : Nat := if neg then S63 else 0
theorem word_eq (neg : Bool) (r : Nat) : Ieee.double.word neg r = sgn neg + r := by
  cases neg
  · rw [word_false]; unfold sgn; simp
  · rw [word_true]; rfl
theorem INF_lt : INF < S63 := by unfold INF S63; decide
theorem sign_is (neg : Bool) : minstrelref01_Sign.f neg = some ((sgn neg : Nat) : Int) := by
  unfold minstrelref01_Sign.f sgn; cases neg <;> rfl
theorem or_sgn (neg : Bool) (r : Nat) (h : r < S63) : Go.bits .or .u64 ((sgn neg : Nat) : Int) (r : Int) = ((sgn neg + r : Nat) : Int) := by
  unfold S63 at h
  unfold sgn S63
  cases neg
  · rw [if_neg (by simp), or_nat 0 r (by omega) (by omega), Nat.zero_or, Nat.zero_add]
  · rw [if_pos rfl, or_nat _ r (by omega) (by omega)]
    have := Nat.two_pow_add_eq_or_of_lt (i := 63) (b := r) (by omega) 1
    rw [Nat.mul_one] at this
    rw [show (9223372036854775808 : Nat) = 2 ^ 63 from by decide, ← this]
theorem infinite_is (neg : Bool) : minstrelref01_Infinite.f neg = some ((sgn neg + INF : Nat) : Int) := by
  unfold minstrelref01_Infinite.f
  rw [sign_is]; simp only [Option.bind_some]
  rw [show (9218868437227405312 : Int) = ((INF : Nat) : Int) from by unfold INF; decide, or_sgn neg INF INF_lt]
/-! ### Round, from behind -/
theorem j5_is (neg : Bool) (e : Int) (q : Nat) (hq : q < 9007199254740992) (h0 : -1074 ≤ e) (h1 : e ≤ 100000) :
    Ev (fun k => minstrelref01_Round.j5 k neg e (q : Int)) ((sgn neg + (if 971 < e then INF else if q < 4503599627370496 then q else (e + 1075).toNat * 4503599627370496 + (q - 4503599627370496)) : Nat) : Int) := by
  refine Ev.step (f := fun _ => some ((sgn neg + (if 971 < e then INF else if q < 4503599627370496 then q else (e + 1075).toNat * 4503599627370496 + (q - 4503599627370496)) : Nat) : Int)) (fun k => ?_) (Ev.now _)
  rw [minstrelref01_Round.j5, sign_is, infinite_is]; simp only [Option.bind_some]
  by_cases c1 : 971 < e
  · have c1g : e > 971 := c1
    rw [if_pos c1g, if_pos c1]
  · have c1g : ¬ e > 971 := c1
    rw [if_neg c1g, if_neg c1]
    by_cases c2 : q < 4503599627370496
    · have c2i : (q : Int) < 4503599627370496 := by omega
      rw [if_pos c2i, if_pos c2, or_sgn neg q (by unfold S63; omega)]
    · have c2i : ¬ (q : Int) < 4503599627370496 := by omega
      rw [if_neg c2i, if_neg c2]
      obtain ⟨n, hn, hn2⟩ : ∃ n : Nat, e + 1075 = (n : Int) ∧ n ≤ 2046 := ⟨(e + 1075).toNat, by omega, by omega⟩
      rw [i64of n hn (by omega), u64of n (by omega), show (e + 1075).toNat = n by omega]
      have e1 : IntKind.u64.wrap ((n : Int) * 4503599627370496) = ((n * 4503599627370496 : Nat) : Int) := by rw [show (n : Int) * 4503599627370496 = ((n * 4503599627370496 : Nat) : Int) from by omega]; exact u64of _ (by omega)
      have e2 : IntKind.u64.wrap ((q : Int) - 4503599627370496) = ((q - 4503599627370496 : Nat) : Int) := by rw [show (q : Int) - 4503599627370496 = ((q - 4503599627370496 : Nat) : Int) from by omega]; exact u64of _ (by omega)
      rw [e1, e2, or_sgn neg _ (by unfold S63; omega)]
      generalize hd : q - 4503599627370496 = d
      have hd2 : d < 4503599627370496 := by omega
      have key : (sgn neg + n * 4503599627370496) ||| d = sgn neg + n * 4503599627370496 + d := by
        have hs : sgn neg + n * 4503599627370496 = 2 ^ 52 * ((if neg then 2048 else 0) + n) := by
          unfold sgn S63
          rw [show (2 : Nat) ^ 52 = 4503599627370496 from by decide]
          cases neg
          · rw [if_neg (by simp), if_neg (by simp)]; omega
          · rw [if_pos rfl, if_pos rfl]; omega
        rw [hs]; exact (Nat.two_pow_add_eq_or_of_lt (i := 52) (by omega) _).symm
      have hsg : sgn neg ≤ 9223372036854775808 := by unfold sgn S63; split <;> omega
      rw [or_nat _ _ (by omega) (by omega), key, Nat.add_assoc]
theorem j4_is (neg : Bool) (e : Int) (q : Nat) (hq : q ≤ 2 ^ 53) (h0 : -1074 ≤ e) (h1 : e ≤ 90000) : Ev (fun k => minstrelref01_Round.j4 k neg e (q : Int)) ((sgn neg + wordOf q e : Nat) : Int) := by
  have c1 : (2 : Nat) ^ 53 = 9007199254740992 := by decide
  have c2 : (2 : Nat) ^ 52 = 4503599627370496 := by decide
  unfold wordOf
  rw [c1, c2] at *
  dsimp only
  by_cases c : q = 9007199254740992
  · rw [if_pos c, if_pos c]
    have := j5_is neg (e + 1) 4503599627370496 (by decide) (by omega) (by omega)
    refine Ev.step (f := fun k => minstrelref01_Round.j5 k neg (e + 1) ((4503599627370496 : Nat) : Int)) (fun k => ?_) this
    rw [minstrelref01_Round.j4, if_pos (by omega), i64in (by omega) (by omega)]; rfl
  · rw [if_neg c, if_neg c]
    refine Ev.step (f := fun k => minstrelref01_Round.j5 k neg e (q : Int)) (fun k => ?_) (j5_is neg e q (by omega) h0 (by omega))
    rw [minstrelref01_Round.j4, if_neg (by omega)]
theorem j3_is (neg : Bool) (e : Int) (q : Nat) (u : Bool) (hq : q + u.toNat ≤ 2 ^ 53) (h0 : -1074 ≤ e) (h1 : e ≤ 90000) : Ev (fun k => minstrelref01_Round.j3 k neg e (q : Int) u) ((sgn neg + wordOf (q + u.toNat) e : Nat) : Int) := by
  have c1 : (2 : Nat) ^ 53 = 9007199254740992 := by decide
  cases u
  · refine Ev.step (f := fun k => minstrelref01_Round.j4 k neg e (q : Int)) (fun k => ?_) (j4_is neg e q hq h0 h1)
    rw [minstrelref01_Round.j3, if_neg (by simp)]
  · have hq' : q + 1 ≤ 2 ^ 53 := hq
    refine Ev.step (f := fun k => minstrelref01_Round.j4 k neg e ((q + 1 : Nat) : Int)) (fun k => ?_) (j4_is neg e (q + 1) hq h0 h1)
    rw [minstrelref01_Round.j3, if_pos rfl, show (q : Int) + 1 = ((q + 1 : Nat) : Int) from rfl, u64of _ (by omega)]
theorem j2_is (neg : Bool) (e : Int) (x : Nat) (lost : Bool) (hx : kept x lost ≤ 2 ^ 53) (h0 : -1074 ≤ e) (h1 : e ≤ 90000) : Ev (fun k => minstrelref01_Round.j2 k neg e (dig x) lost) ((sgn neg + wordOf (kept x lost) e : Nat) : Int) := by
  have c1 : (2 : Nat) ^ 53 = 9007199254740992 := by decide
  have hb : x < 18446744073709551616 := by unfold kept at hx; rw [c1] at hx; omega
  have hs := small_is (dig_Dg x) (by rw [dig_val]; exact hb)
  rw [dig_val] at hs
  have hm := mask_nat x 2 hb (by decide)
  rw [show ((2 ^ 2 - 1 : Nat) : Int) = 3 from by decide, show (2 : Nat) ^ 2 = 4 from by decide] at hm
  have hd : (x : Int) / 4 = ((x / 4 : Nat) : Int) := by omega
  have ho : (Int.tmod ((x / 4 : Nat) : Int) 2 == 1) = (x / 4 % 2 == 1) := by
    rw [Int.tmod_eq_emod_of_nonneg (Int.natCast_nonneg _)]
    by_cases c : x / 4 % 2 = 1
    · rw [beq_iff_eq.mpr c, beq_iff_eq.mpr (by omega)]
    · rw [beq_eq_false_iff_ne.mpr c, beq_eq_false_iff_ne.mpr (by omega)]
  refine Ev.step (f := fun k => minstrelref01_Round.j3 k neg e ((x / 4 : Nat) : Int) (upOf x lost)) (fun k => ?_) (j3_is neg e (x / 4) (upOf x lost) hx h0 h1)
  rw [minstrelref01_Round.j2, hs]; simp only [Option.bind_some]
  rw [hm, hd, ho]
  unfold upOf
  by_cases a : 2 < x % 4
  · rw [if_pos (by omega), decide_eq_true a, Bool.true_or]
  · rw [if_neg (by omega), decide_eq_false a, Bool.false_or]
    by_cases b : x % 4 = 2
    · rw [if_pos (by omega), beq_iff_eq.mpr b, Bool.true_and]
      cases lost
      · rw [if_neg (by simp), Bool.false_or]
      · rw [if_pos rfl, Bool.true_or]
    · rw [if_neg (by omega), beq_eq_false_iff_ne.mpr b, Bool.false_and]
end Go.Proofs.Ytlihonbmopeemaa.Dig
end
section
namespace Go.Proofs.Ytlihonbmopeemaa.Dig
open Go.RowKit Go.Proofs.Ytlihonbmopeemaa.Ref Go.Proofs.YtlihonbmopeemaaW.PrintWords Go.Proofs.YtlihonbmopeemaaW.PrintLast Go.Proofs.YtlihonbmopeemaaW.PrintMore
open Go.Proofs.Ytlihonbmopeemaa.Num Go.Proofs.Ytlihonbmopeemaa.DigLaw Go.Proofs.Ytlihonbmopeemaa.Fl

theorem round_word {M : Nat} {p : Int} (hM : M ≠ 0) {q : Nat} {e : Int} (he : lastOf M p = e) (hq : q = cutE (M * 2 ^ (p - e).toNat) (e - p).toNat) : wordOf q e = rung M p ∧ q ≤ 2 ^ 53 := by
  obtain ⟨h1, h2⟩ := kept_facts M p hM
  have h3 := (lastOf_ge M p).2.1
  rw [he] at h1 h2 h3
  obtain ⟨h4, h5⟩ := kept_gen _ _ _ h1 h2
  rw [rung_def M p hM, he, hq]
  exact ⟨wordOf_eq _ e h3 h4 h5, h4⟩

theorem last_of {v m : Nat} (hv : v ≠ 0) (hm : m ≤ 1) (exp drop : Int) (hd : drop = max ((blen v : Nat) - 53 : Int) (-1074 - exp)) : lastOf (2 * v + m) (exp - 1) = exp + drop := by
  have h1 : blen v = v.log2 + 1 := by unfold blen; rw [if_neg hv]
  unfold lastOf
  rw [log2_twice hv hm, hd, h1]; omega

theorem j1_is (neg : Bool) (exp : Int) {l : List Int} (hl : Dg l) (ll : l.length < 90000) (more : Bool) (drop : Int) (hv : val l ≠ 0) (hd : drop = max ((blen (val l) : Nat) - 53 : Int) (-1074 - exp)) (hm : more = true → 3 ≤ drop)
    (he0 : -80000 ≤ exp) (he1 : exp ≤ 80000) (hd1 : exp + drop ≤ 80000) :
    Ev (fun k => minstrelref01_Round.j1 k neg exp l more drop) ((sgn neg + rung (2 * val l + more.toNat) (exp - 1) : Nat) : Int) := by
  have hm1 : more.toNat ≤ 1 := by cases more <;> decide
  have hlast := last_of (m := more.toNat) hv hm1 exp drop hd
  have hM : 2 * val l + more.toNat ≠ 0 := by omega
  have hbl : blen (val l) ≤ 16 * l.length := blen_le (val_lt_two hl)
  have hdge : -1074 - exp ≤ drop := by omega
  have hdle : drop ≤ 1500000 := by omega
  have hdlow : -53 ≤ drop := by omega
  by_cases c : 2 ≤ drop
  · -- bits fall out
    obtain ⟨E, hE⟩ : ∃ E : Nat, drop = (E : Int) + 2 := ⟨(drop - 2).toNat, by omega⟩
    have hk := kept_drop (val l) more.toNat E hm1
    have e1 : (exp - 1 - (exp + drop)).toNat = 0 := by omega
    have e2 : (exp + drop - (exp - 1)).toNat = E + 3 := by omega
    obtain ⟨hw, hle⟩ := round_word hM hlast (q := kept (val l / 2 ^ E) (decide (more.toNat = 1) || decide (val l % 2 ^ E ≠ 0))) (by rw [e1, e2, Nat.pow_zero, Nat.mul_one, hk])
    have hj := j2_is neg (exp + drop) (val l / 2 ^ E) _ hle (by omega) (by omega)
    rw [hw] at hj
    have hdn := down_is hl (by omega) E (by omega)
    have ee : wrap64 (exp + drop) = exp + drop := i64in (by omega) (by omega)
    have e3 : wrap64 (drop - 2) = (E : Int) := i64of E (by omega) (by omega)
    refine Ev.step (f := fun k => (minstrelref01_Down.f k l (E : Int)).bind fun bt => (if more = true then (minstrelref01_Round.j2 k neg (exp + drop) bt.1 true) else (minstrelref01_Round.j2 k neg (exp + drop) bt.1 bt.2))) (fun k => ?_) (Ev.bind hdn ?_)
    · rw [minstrelref01_Round.j1, if_pos (show drop ≥ 2 from c), e3, ee]
    · cases more
      · exact hj
      · exact hj
  · have hmore : more = false := by
      cases more
      · rfl
      · have := hm rfl; omega
    subst hmore
    obtain ⟨U, hU⟩ : ∃ U : Nat, 2 - drop = (U : Int) + 1 := ⟨(1 - drop).toNat, by omega⟩
    have hu := up_is hl (by omega) (U + 1) (by omega)
    have hk : kept (val l * 2 ^ (U + 1)) false = cutE ((2 * val l + false.toNat) * 2 ^ (exp - 1 - (exp + drop)).toNat) (exp + drop - (exp - 1)).toNat := by
      rw [show 2 * val l + false.toNat = 2 * val l from rfl]
      match U, hU with
      | 0, hU =>
        rw [show (exp - 1 - (exp + drop)).toNat = 0 by omega, show (exp + drop - (exp - 1)).toNat = 2 by omega, Nat.pow_zero, Nat.mul_one, Nat.zero_add, Nat.pow_one]
        exact kept_one _
      | 1, hU =>
        rw [show (exp - 1 - (exp + drop)).toNat = 0 by omega, show (exp + drop - (exp - 1)).toNat = 1 by omega, Nat.pow_zero, Nat.mul_one, cutE_one, show (2 : Nat) ^ (1 + 1) = 4 from by decide]
        exact kept_four _
      | j + 2, hU =>
        rw [show (exp - 1 - (exp + drop)).toNat = j by omega, show (exp + drop - (exp - 1)).toNat = 0 by omega, cutE_zero, show val l * 2 ^ (j + 2 + 1) = (2 * val l * 2 ^ j) * 4 from by
          rw [Nat.pow_succ, Nat.pow_succ, Nat.pow_succ]
          generalize 2 ^ j = g
          rw [Nat.mul_comm 2 (val l), Nat.mul_assoc, Nat.mul_assoc, Nat.mul_assoc, Nat.mul_assoc]
          congr 1
          omega]
        exact kept_four _
    obtain ⟨hw, hle⟩ := round_word hM hlast (q := kept (val l * 2 ^ (U + 1)) false) hk
    have hj := j2_is neg (exp + drop) (val l * 2 ^ (U + 1)) false hle (by omega) (by omega)
    rw [hw] at hj
    have ee : wrap64 (exp + drop) = exp + drop := i64in (by omega) (by omega)
    have e3 : wrap64 (2 - drop) = ((U + 1 : Nat) : Int) := i64of (U + 1) (by omega) (by omega)
    refine Ev.step (f := fun k => (minstrelref01_Up.f k l ((U + 1 : Nat) : Int)).bind fun t => minstrelref01_Round.j2 k neg (exp + drop) t false) (fun k => ?_) (Ev.bind hu hj)
    rw [minstrelref01_Round.j1, if_neg (show ¬ drop ≥ 2 from c), e3, ee]

/-- THE NEAREST DOUBLE. -/
theorem round_is (neg : Bool) (exp : Int) {l : List Int} (hl : Dg l) (ll : l.length < 4000) (more : Bool) (he0 : -10000 ≤ exp) (he1 : exp ≤ 10000) (hm : more = true → 56 ≤ blen (val l)) :
    Ev (fun k => minstrelref01_Round.f k neg exp l more) ((Ieee.double.nearest neg (2 * val l + more.toNat) (exp - 1) : Nat) : Int) := by
  rw [nearest_eq, word_eq]
  have hm1 : more.toNat ≤ 1 := by cases more <;> decide
  have hbl : blen (val l) ≤ 16 * l.length := blen_le (val_lt_two hl)
  have hlen := len_is hl (by omega)
  have hvlt := blen_lt (val l)
  by_cases hv : val l = 0
  · -- nothing
    have hb : blen (val l) = 0 := by rw [hv]; rfl
    have hmore : more = false := by
      cases more
      · rfl
      · have := hm rfl; omega
    subst hmore
    rw [hv] at hlen ⊢
    rw [show (2 * 0 + false.toNat) = 0 from rfl, rung_zero]
    rw [show blen 0 = 0 from rfl] at hlen
    refine Ev.bind hlen (Ev.congr (f := fun k => minstrelref01_Round.j0 k neg exp l false 0 true) (fun k => ?_) (Ev.step (f := fun _ => some ((sgn neg + 0 : Nat) : Int)) (fun k => ?_) (Ev.now _)))
    · rw [if_pos (show ((0 : Nat) : Int) = 0 from rfl), if_neg (by simp)]; rfl
    · rw [minstrelref01_Round.j0, if_pos rfl, sign_is]; rfl
  · have hbpos : 0 < blen (val l) := by unfold blen; rw [if_neg hv]; omega
    have hvge := blen_ge hv
    have hsum : wrap64 (((blen (val l) : Nat) : Int) + exp) = ((blen (val l) : Nat) : Int) + exp := i64in (by omega) (by omega)
    have hd53 : wrap64 (((blen (val l) : Nat) : Int) - 53) = ((blen (val l) : Nat) : Int) - 53 := i64in (by omega) (by omega)
    have hdl : wrap64 (-1074 - exp) = -1074 - exp := i64in (by omega) (by omega)
    refine Ev.bind hlen (Ev.congr (f := fun k => minstrelref01_Round.j0 k neg exp l more ((blen (val l) : Nat) : Int) (decide (((blen (val l) : Nat) : Int) + exp < -1100))) (fun k => ?_) ?_)
    · rw [if_neg (by omega), hsum]
    · by_cases c1 : ((blen (val l) : Nat) : Int) + exp < -1100
      · have hr := rung_low (2 * val l + more.toNat) (exp - 1) (blen (val l) + 1) (by rw [Nat.pow_succ]; omega) (by omega)
        rw [hr]
        refine Ev.step (f := fun _ => some ((sgn neg + 0 : Nat) : Int)) (fun k => ?_) (Ev.now _)
        rw [minstrelref01_Round.j0, decide_eq_true c1, if_pos rfl, sign_is]; rfl
      · by_cases c2 : ((blen (val l) : Nat) : Int) + exp > 1100
        · have hpw : 2 ^ blen (val l) = 2 * 2 ^ (blen (val l) - 1) := by rw [← Nat.pow_succ']; congr 1; omega
          have hr := rung_high (2 * val l + more.toNat) (exp - 1) (blen (val l)) (by rw [hpw]; omega) (by omega)
          rw [hr]
          refine Ev.step (f := fun _ => some ((sgn neg + INF : Nat) : Int)) (fun k => ?_) (Ev.now _)
          rw [minstrelref01_Round.j0, decide_eq_false c1, if_neg (by simp), hsum, if_pos c2, infinite_is]; rfl
        · by_cases c3 : -1074 - exp > ((blen (val l) : Nat) : Int) - 53
          · have hj := j1_is neg exp hl (by omega) more (-1074 - exp) hv (by omega) (fun h => by have := hm h; omega) (by omega) (by omega) (by omega)
            refine Ev.step (f := fun k => minstrelref01_Round.j1 k neg exp l more (-1074 - exp)) (fun k => ?_) hj
            rw [minstrelref01_Round.j0, decide_eq_false c1, if_neg (by simp), hsum, if_neg c2, hdl, hd53, if_pos c3]
          · have hj := j1_is neg exp hl (by omega) more (((blen (val l) : Nat) : Int) - 53) hv (by omega) (fun h => by have := hm h; omega) (by omega) (by omega) (by omega)
            refine Ev.step (f := fun k => minstrelref01_Round.j1 k neg exp l more (((blen (val l) : Nat) : Int) - 53)) (fun k => ?_) hj
            rw [minstrelref01_Round.j0, decide_eq_false c1, if_neg (by simp), hsum, if_neg c2, hdl, hd53, if_neg c3]
end Go.Proofs.Ytlihonbmopeemaa.Dig
end
