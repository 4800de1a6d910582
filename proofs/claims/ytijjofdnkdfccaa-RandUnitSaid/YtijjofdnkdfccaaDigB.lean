/- What the document's digit functions (minstrelref01) compute, second part: products, shifts, bits, lengths, quotients. Conditions: the lists are digits, and not too long. -/
import Derived.Test.YtijjofdnkdfccaaDig
namespace Go.Proofs.Ytijjofdnkdfccaa.Dig
open Go.RowKit Go.Proofs.Ytijjofdnkdfccaa.Ref Go.Proofs.YtijjofdnkdfccaaW.PrintWords Go.Proofs.YtijjofdnkdfccaaW.PrintLast Go.Proofs.YtijjofdnkdfccaaW.PrintMore
open Go.Proofs.Ytijjofdnkdfccaa.Num Go.Proofs.Ytijjofdnkdfccaa.DigLaw

theorem shl_nat (x m : Nat) (hm : m < 64) (h : x * 2 ^ m < 18446744073709551616) : shl .u64 (x : Int) (m : Int) = ((x * 2 ^ m : Nat) : Int) := by
  unfold shl
  rw [Int.toNat_natCast, Nat.min_eq_left (by simp [IntKind.bits]; omega), show ((2 : Int) ^ m) = ((2 ^ m : Nat) : Int) from by simp, ← Int.natCast_mul]
  exact u64of _ h
theorem mask16 (x : Nat) (h : x < 18446744073709551616) : Go.bits .and .u64 (x : Int) 65535 = ((x % B : Nat) : Int) := by
  have := mask_nat x 16 h (by decide)
  rw [show ((2 ^ 16 - 1 : Nat) : Int) = 65535 from by decide] at this
  rw [this]; rfl

/-! ### Product -/
theorem mul_bound {x y : Nat} (hx : x < 65536) (hy : y < 65536) : x * y ≤ 4294836225 := Nat.le_trans (Nat.mul_le_mul (Nat.le_of_lt_succ hx) (Nat.le_of_lt_succ hy)) (by decide)
theorem prod_x (o p q c : Nat) (ho : o < B) (hp : p < B) (hq : q < B) (hc : c < B) :
    IntKind.u64.wrap (IntKind.u64.wrap (((o : Nat) : Int) + IntKind.u64.wrap (((p : Nat) : Int) * ((q : Nat) : Int))) + (c : Int)) = ((o + p * q + c : Nat) : Int) := by
  have hb := mul_bound hp hq
  unfold B at *
  rw [← Int.natCast_mul, u64in (n := ((p * q : Nat) : Int)) (by omega) (by omega), u64in (n := ((o : Nat) : Int) + ((p * q : Nat) : Int)) (by omega) (by omega), u64in (by omega) (by omega)]; omega
theorem add_core {p q X o g c S v A C : Nat} (h2 : p + q = X) (h4 : X = o + g + c) (hset : S + o = v + p) (hv : v + c = A + C) : S + q = A + (C + g) := by omega
theorem zs_set {out : List Int} {n p : Nat} (hz : ∀ j, n ≤ j → dg out j = 0) (h : p < n) (d : Int) : ∀ j, n ≤ j → dg (out.set p d) j = 0 := fun j hj => by
  rw [dg_set_ne _ _ _ _ (by omega)]; exact hz j hj
theorem q_of (X : Nat) : ((X : Nat) : Int) / 65536 = ((X / B : Nat) : Int) := by unfold B; omega
theorem qB_of {X : Nat} (h : X < 4294967296) : X / B < B := by unfold B; omega
theorem X_of {o p q c : Nat} (ro : o < B) (rp : p < B) (rq : q < B) (rc : c < B) : o + p * q + c < 4294967296 := by
  have := mul_bound rp rq
  unfold B at ro rc; omega
theorem prod_step {a b out : List Int} {i k c d : Nat} (ho : Dg out) (j q X : Nat) (h1 : d + B * q = X) (hik : j < out.length) (hX : X = dg out j + dg a i * dg b k + c) (hv : val out + B ^ j * c = vt a i * val b + B ^ i * (dg a i * vt b k)) (hj : j = i + k := by rfl) :
    val (out.set j (d : Int)) + B ^ (i + (k + 1)) * q = vt a i * val b + B ^ i * (dg a i * vt b (k + 1)) := by
  have hset := val_set ho j (d : Int) hik
  rw [Int.toNat_natCast] at hset
  have h2 := congrArg (B ^ j * ·) h1
  simp only [Nat.mul_add] at h2
  have h4 : B ^ j * X = B ^ j * dg out j + B ^ j * (dg a i * dg b k) + B ^ j * c := by rw [hX, Nat.mul_add, Nat.mul_add]
  have h3 : B ^ i * (dg a i * (B ^ k * dg b k)) = B ^ j * (dg a i * dg b k) := by
    rw [hj, Nat.pow_add, Nat.mul_assoc]; congr 1; rw [← Nat.mul_assoc, ← Nat.mul_assoc, Nat.mul_comm (dg a i)]
  have h5 : B ^ (i + (k + 1)) * q = B ^ j * (B * q) := by rw [hj, ← Nat.add_assoc, Bp_succ, Nat.mul_comm B, Nat.mul_assoc]
  rw [h5, vt, Nat.mul_add, Nat.mul_add, h3]
  exact add_core h2 h4 hset hv
theorem prod_fin {a b out : List Int} {i c : Nat} (ho : Dg out) (hib : i + b.length < out.length) (hz : dg out (i + b.length) = 0) (hv : val out + B ^ (i + b.length) * c = vt a i * val b + B ^ i * (dg a i * vt b b.length)) :
    val (out.set (i + b.length) (c : Int)) = vt a (i + 1) * val b := by
  have hset := val_set ho (i + b.length) (c : Int) hib
  rw [hz, Int.toNat_natCast, Nat.mul_zero, Nat.add_zero] at hset
  rw [vt_val b _ (Nat.le_refl _)] at hv
  rw [hset, hv, vt, Nat.add_mul, Nat.mul_assoc]
theorem prod_inner {a b : List Int} (ha : Dg a) (hb : Dg b) (la : a.length < 400000) (lb : b.length < 400000) (i : Nat) (hi : i < a.length)
    (R : List Int → Prop) (res : List Int) (hR : ∀ out, R out → Ev (fun k => minstrelref01_Product.l0 k a b out ((i + 1 : Nat) : Int)) res)
    (hfin : ∀ out, Dg out → out.length = a.length + b.length → (∀ j, i + 1 + b.length ≤ j → dg out j = 0) → val out = vt a (i + 1) * val b → R out) (d : Nat) :
    ∀ (k c : Nat) (out : List Int), b.length - k = d → k ≤ b.length → c < B → Dg out → out.length = a.length + b.length → (∀ j, i + b.length ≤ j → dg out j = 0) →
      val out + B ^ (i + k) * c = vt a i * val b + B ^ i * (dg a i * vt b k) →
      Ev (fun n => minstrelref01_Product.l1 n a b out (i : Int) (c : Int) (k : Int)) res := by
  induction d with
  | zero =>
    intro k c out hd hk hc ho hlen hz hv
    have Hv := Aside0.mk hv
    clear hv
    have hk' : k = b.length := by omega
    subst hk'
    have e : wrap64 ((i : Int) + (b.length : Int)) = ((i + b.length : Nat) : Int) := i64of _ (by omega) (by omega)
    have hib : i + b.length < out.length := by omega
    have hib2 : ((i + b.length : Nat) : Int) < (out.length : Int) := by omega
    have hc2 : (c : Int) < 65536 := by unfold B at hc; omega
    have hls : (out.set (i + b.length) (c : Int)).length = a.length + b.length := by rw [List.length_set]; exact hlen
    have hzs : ∀ j, i + 1 + b.length ≤ j → dg (out.set (i + b.length) (c : Int)) j = 0 := fun j hj => by
      rw [dg_set_ne _ _ _ _ (by omega)]; exact hz j (by omega)
    have hval := prod_fin ho hib (hz _ (Nat.le_refl _)) Hv.out
    have hr := hfin (out.set (i + b.length) (c : Int)) (Dg_set ho _ (Int.natCast_nonneg _) hc2) hls hzs hval
    clear hval Hv
    refine Ev.step (f := fun n => minstrelref01_Product.l0 n a b (out.set (i + b.length) (c : Int)) ((i + 1 : Nat) : Int)) (fun n => ?_) (hR _ hr)
    rw [minstrelref01_Product.l1, if_neg (Int.lt_irrefl _), e, if_pos (Int.natCast_nonneg _), if_pos hib2, Int.toNat_natCast, i64of (n := (i : Int) + 1) (i + 1) rfl (by omega)]
  | succ d ih =>
    intro k c out hd hk hc ho hlen hz hv
    have Hv := Aside0.mk hv
    clear hv
    have e : wrap64 ((i : Int) + (k : Int)) = ((i + k : Nat) : Int) := i64of _ (by omega) (by omega)
    have hk1 : b.length - (k + 1) = d := by omega
    have hk2 : k + 1 ≤ b.length := by omega
    have hik3 : i + k < i + b.length := by omega
    have hik : i + k < out.length := by omega
    have hik2 : ((i + k : Nat) : Int) < (out.length : Int) := by omega
    have hkb : (k : Int) < (b.length : Int) := by omega
    have hia : (i : Int) < (a.length : Int) := by omega
    have ek : wrap64 ((k : Int) + 1) = ((k + 1 : Nat) : Int) := i64of _ rfl (by omega)
    have ro := dg_lt ho (i + k)
    have ra := dg_lt ha i
    have rb := dg_lt hb k
    have hx := prod_x (dg out (i + k)) (dg a i) (dg b k) c ro ra rb hc
    obtain ⟨X, hX⟩ : ∃ X, X = dg out (i + k) + dg a i * dg b k + c := ⟨_, rfl⟩
    have hX2 : X < 4294967296 := by rw [hX]; exact X_of ro ra rb hc
    rw [← hX] at hx
    have hq := q_of X
    have hmod : X % B < 65536 := Nat.mod_lt _ B_pos
    have hXB : X / B < B := qB_of hX2
    have hDs : Dg (out.set (i + k) ((X % B : Nat) : Int)) := Dg_set ho _ (Int.natCast_nonneg _) (Int.ofNat_lt.2 hmod)
    have hXw : X < 18446744073709551616 := Nat.lt_trans hX2 (by decide)
    have hls : (out.set (i + k) ((X % B : Nat) : Int)).length = a.length + b.length := by rw [List.length_set]; exact hlen
    have hzs : ∀ j, i + b.length ≤ j → dg (out.set (i + k) ((X % B : Nat) : Int)) j = 0 := zs_set hz hik3 _
    have hval := prod_step (d := (X % B : Nat)) ho (i + k) (X / B) X (Nat.mod_add_div X B) hik hX Hv.out
    have hstep := ih (k + 1) (X / B) (out.set (i + k) ((X % B : Nat) : Int)) hk1 hk2 hXB hDs hls hzs hval
    clear hval hX Hv
    refine Ev.step (f := fun n => minstrelref01_Product.l1 n a b (out.set (i + k) ((X % B : Nat) : Int)) (i : Int) ((X / B : Nat) : Int) ((k + 1 : Nat) : Int)) (fun n => ?_) hstep
    rw [minstrelref01_Product.l1, if_pos hkb, e, if_pos (Int.natCast_nonneg _), if_pos hik2, if_pos (Int.natCast_nonneg _), if_pos hia, if_pos (Int.natCast_nonneg _), Int.toNat_natCast, rd_dg ho, rd_dg ha, rd_dg hb, hx, mask16 _ hXw, hq, ek]
theorem prod_loop {a b : List Int} (ha : Dg a) (hb : Dg b) (la : a.length < 400000) (lb : b.length < 400000) (d : Nat) :
    ∀ (i : Nat) (out : List Int), a.length - i = d → i ≤ a.length → Dg out → out.length = a.length + b.length → (∀ j, i + b.length ≤ j → dg out j = 0) → val out = vt a i * val b →
      Ev (fun n => minstrelref01_Product.l0 n a b out (i : Int)) (dig (val a * val b)) := by
  induction d with
  | zero =>
    intro i out hd hi ho hlen hz hv
    have hi' : i = a.length := by omega
    rw [vt_val a i (by omega)] at hv
    have ht := trim_is ho (by omega)
    rw [hv] at ht
    refine Ev.step (f := fun k => (minstrelref01_Trim.f k out).bind fun t => some t) (fun k => ?_) (Ev.bind ht (Ev.now _))
    rw [minstrelref01_Product.l0, if_neg (by omega)]
  | succ d ih =>
    intro i out hd hi ho hlen hz hv
    have hin := prod_inner ha hb la lb i (by omega) (fun out => Dg out ∧ out.length = a.length + b.length ∧ (∀ j, i + 1 + b.length ≤ j → dg out j = 0) ∧ val out = vt a (i + 1) * val b) (dig (val a * val b))
      (fun out h => ih (i + 1) out (by omega) (by omega) h.1 h.2.1 h.2.2.1 h.2.2.2) (fun out h1 h2 h3 h4 => ⟨h1, h2, h3, h4⟩) b.length 0 0 out (by omega) (Nat.zero_le _) B_pos ho hlen hz (by simp [vt, hv])
    refine Ev.step (f := fun n => minstrelref01_Product.l1 n a b out (i : Int) 0 0) (fun n => ?_) hin
    rw [minstrelref01_Product.l0, if_pos (by omega)]
theorem dg_zeros (n j : Nat) : dg (List.replicate n 0) j = 0 := by
  unfold dg; rw [List.getD_eq_getElem?_getD, List.getElem?_replicate]; split <;> rfl
theorem product_is {a b : List Int} (ha : Dg a) (hb : Dg b) (la : a.length < 400000) (lb : b.length < 400000) : Ev (fun k => minstrelref01_Product.f k a b) (dig (val a * val b)) := by
  have e : wrap64 ((a.length : Int) + (b.length : Int)) = ((a.length + b.length : Nat) : Int) := by rw [i64in (by omega) (by omega)]; omega
  refine Ev.congr (f := fun k => minstrelref01_Product.l0 k a b (List.replicate (a.length + b.length) 0) 0) (fun k => ?_) (prod_loop ha hb la lb a.length 0 _ (by omega) (Nat.zero_le _) (Dg_zeros _) (by simp) (fun j _ => dg_zeros _ j) (by simp [vt, val_zeros]))
  unfold minstrelref01_Product.f
  rw [e, if_pos (by omega), Int.toNat_natCast, if_pos (by omega)]

/-! ### Up -/
theorem up_is {a : List Int} (ha : Dg a) (la : a.length < 100000) (n : Nat) (hn : n < 100000) : Ev (fun k => minstrelref01_Up.f k a (n : Int)) (dig (val a * 2 ^ n)) := by
  have e1 : wrap64 (Int.tdiv (n : Int) 16) = ((n / 16 : Nat) : Int) := by rw [Int.tdiv_eq_ediv_of_nonneg (by omega), i64in (by omega) (by omega)]; omega
  have e2 : IntKind.u64.wrap (Int.tmod (n : Int) 16) = ((n % 16 : Nat) : Int) := by rw [Int.tmod_eq_emod_of_nonneg (by omega), u64in (by omega) (by omega)]; omega
  have hm : n % 16 < 16 := Nat.mod_lt _ (by decide)
  have hp : 2 ^ (n % 16) < 65536 := Nat.lt_of_lt_of_le (Nat.pow_lt_pow_right (by decide) hm) (by decide)
  have e3 : shl .u64 1 ((n % 16 : Nat) : Int) = ((2 ^ (n % 16) : Nat) : Int) := by
    have := shl_nat 1 (n % 16) (by omega) (by omega)
    rw [Nat.one_mul] at this; exact this
  have hd : Dg (List.replicate (n / 16) 0 ++ a) := Dg_append.2 ⟨Dg_zeros _, ha⟩
  have hone : Dg [((2 ^ (n % 16) : Nat) : Int)] := Dg_nat hp
  have hv : val (List.replicate (n / 16) 0 ++ a) * val [((2 ^ (n % 16) : Nat) : Int)] = val a * 2 ^ n := by
    rw [val_append, val_zeros, val_one, Int.toNat_natCast, List.length_replicate, Nat.zero_add, Bp_two, Nat.mul_comm (2 ^ (16 * (n / 16))), Nat.mul_assoc, ← Nat.pow_add, show 16 * (n / 16) + n % 16 = n by omega]
  have hpr := product_is hd hone (by simp; omega) (by simp)
  rw [hv] at hpr
  have hdl : (dig (val a * 2 ^ n)).length < 1000000 := by
    have h1 := val_lt_two ha
    have h2 : val a * 2 ^ n < 2 ^ (16 * (a.length + n)) := by
      calc val a * 2 ^ n < 2 ^ (16 * a.length) * 2 ^ n := Nat.mul_lt_mul_of_pos_right h1 (Nat.two_pow_pos _)
        _ = 2 ^ (16 * a.length + n) := by rw [Nat.pow_add]
        _ ≤ _ := Nat.pow_le_pow_right (by decide) (by omega)
    have := dig_length' h2; omega
  have ht := trim_is (dig_Dg (val a * 2 ^ n)) hdl
  rw [dig_val] at ht
  refine Ev.congr (f := fun k => (minstrelref01_Product.f k (List.replicate (n / 16) 0 ++ a) [((2 ^ (n % 16) : Nat) : Int)]).bind fun t => ((minstrelref01_Trim.f k t).bind fun t2 => some t2)) (fun k => ?_) (Ev.bind hpr (Ev.bind ht (Ev.now _)))
  unfold minstrelref01_Up.f
  rw [e1, if_pos (by omega), Int.toNat_natCast, if_pos (by omega)]
  simp only [Option.bind_some]
  rw [if_pos (by simp; omega), e2, if_pos (by omega), e3]

/-! ### Bit, Len -/
theorem bit_is {a : List Int} (ha : Dg a) (i : Nat) (hi : i < 100000000) : minstrelref01_Bit.f a (i : Int) = some ((val a / 2 ^ i % 2 : Nat) : Int) := by
  have e1 : wrap64 (Int.tdiv (i : Int) 16) = ((i / 16 : Nat) : Int) := by rw [Int.tdiv_eq_ediv_of_nonneg (by omega), i64in (by omega) (by omega)]; omega
  have e2 : IntKind.u64.wrap (Int.tmod (i : Int) 16) = ((i % 16 : Nat) : Int) := by rw [Int.tmod_eq_emod_of_nonneg (by omega), u64in (by omega) (by omega)]; omega
  have hm : i % 16 < 16 := Nat.mod_lt _ (by decide)
  unfold minstrelref01_Bit.f
  rw [e1, at_is ha]; simp only [Option.bind_some]
  rw [e2, if_pos (by omega)]
  have hd := dg_lt ha (i / 16)
  have e3 : shr .u64 ((dg a (i / 16) : Nat) : Int) ((i % 16 : Nat) : Int) = ((dg a (i / 16) / 2 ^ (i % 16) : Nat) : Int) := by
    unfold shr
    rw [Int.toNat_natCast, Nat.min_eq_left (by simp [IntKind.bits]; omega), Int.natCast_ediv]; simp
  have hlt : dg a (i / 16) / 2 ^ (i % 16) < 18446744073709551616 := by
    have := Nat.div_le_self (dg a (i / 16)) (2 ^ (i % 16)); unfold B at hd; omega
  rw [e3]
  have hmask := mask_nat (dg a (i / 16) / 2 ^ (i % 16)) 1 hlt (by decide)
  rw [show ((2 ^ 1 - 1 : Nat) : Int) = 1 from by decide] at hmask
  rw [hmask, dg_eq ha, Bp_two, B_eq]
  congr 2
  have : val a / 2 ^ (16 * (i / 16)) % 2 ^ 16 / 2 ^ (i % 16) % 2 ^ 1 = val a / 2 ^ (16 * (i / 16)) / 2 ^ (i % 16) % 2 := by
    have h16 : 2 ^ 16 = 2 ^ (i % 16) * 2 ^ (16 - i % 16) := by rw [← Nat.pow_add]; congr 1; omega
    rw [h16, Nat.mod_mul_right_div_self, Nat.pow_one]
    have : 2 ^ (16 - i % 16) = 2 * 2 ^ (15 - i % 16) := by rw [← Nat.pow_succ']; congr 1; omega
    rw [this, Nat.mod_mul_right_mod]
  rw [this, Nat.div_div_eq_div_mul, ← Nat.pow_add, show 16 * (i / 16) + i % 16 = i by omega]
theorem len_loop {a : List Int} (ha : Dg a) : ∀ (i : Nat), i < 100000000 → val a < 2 ^ i → Ev (fun k => minstrelref01_Len.l0 k a (i : Int)) ((blen (val a) : Nat) : Int) := by
  intro i
  induction i with
  | zero =>
    intro _ h
    have h0 : val a = 0 := by simp at h; omega
    refine Ev.step (f := fun _ => some ((blen (val a) : Nat) : Int)) (fun k => ?_) (Ev.now _)
    rw [minstrelref01_Len.l0, if_neg (by omega), h0]; rfl
  | succ i ih =>
    intro hi h
    have e : wrap64 (((i + 1 : Nat) : Int) - 1) = (i : Int) := by rw [i64in (by omega) (by omega)]; omega
    by_cases c : val a < 2 ^ i
    · have hb : val a / 2 ^ i % 2 = 0 := by rw [Nat.div_eq_of_lt c]
      refine Ev.step (f := fun k => minstrelref01_Len.l0 k a (i : Int)) (fun k => ?_) (ih (by omega) c)
      rw [minstrelref01_Len.l0, if_pos (by omega), e, bit_is ha i (by omega), hb]; rfl
    · have hb : val a / 2 ^ i = 1 := by
        have h1 : val a / 2 ^ i < 2 := by rw [Nat.div_lt_iff_lt_mul (Nat.two_pow_pos _), ← Nat.pow_succ']; exact h
        have h2 : 1 ≤ val a / 2 ^ i := by rw [Nat.le_div_iff_mul_le (Nat.two_pow_pos _), Nat.one_mul]; omega
        omega
      have hl : blen (val a) = i + 1 := by
        have h1 := blen_le h
        have h0 : val a ≠ 0 := by intro e; rw [e] at c; exact c (Nat.two_pow_pos _)
        have h2 := blen_lt (val a)
        have h3 : 2 ^ i < 2 ^ blen (val a) := Nat.lt_of_le_of_lt (by omega) h2
        have := (Nat.pow_lt_pow_iff_right (by decide : 1 < 2)).1 h3
        omega
      refine Ev.step (f := fun _ => some ((blen (val a) : Nat) : Int)) (fun k => ?_) (Ev.now _)
      rw [minstrelref01_Len.l0, if_pos (by omega), e, bit_is ha i (by omega), hb, hl]; rfl
theorem len_is {a : List Int} (ha : Dg a) (la : a.length < 1000000) : Ev (fun k => minstrelref01_Len.f k a) ((blen (val a) : Nat) : Int) := by
  refine Ev.congr (f := fun k => minstrelref01_Len.l0 k a ((16 * a.length : Nat) : Int)) (fun k => ?_) (len_loop ha _ (by omega) (val_lt_two ha))
  unfold minstrelref01_Len.f
  rw [i64in (by omega) (by omega)]; rfl
end Go.Proofs.Ytijjofdnkdfccaa.Dig
