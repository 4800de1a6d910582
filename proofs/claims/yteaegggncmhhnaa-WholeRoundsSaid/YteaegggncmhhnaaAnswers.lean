/- Answers: a call that comes back with a value and leaves all elder memory as it was; the reference's Kind, Parts, Less, Nan, Neg. Condition: words have 64 bits. -/
import Derived.Test.YteaegggncmhhnaaFloats
import Derived.Test.YteaegggncmhhnaaRefs
namespace Go.Proofs.Yteaegggncmhhnaa.Ans
open Go Go.RowKit Go.Proofs.Yteaegggncmhhnaa.Ref Go.Proofs.YteaegggncmhhnaaW.PrintWords Go.Proofs.YteaegggncmhhnaaW.PrintLast Go.Proofs.YteaegggncmhhnaaW.PrintMore
open Go.Proofs.Yteaegggncmhhnaa.Num Go.Proofs.Yteaegggncmhhnaa.DigLaw Go.Proofs.Yteaegggncmhhnaa.Fl Go.Proofs.Yteaegggncmhhnaa.Dig Go.Proofs.Yteaegggncmhhnaa.Float
open Ieee (double Datum)

def Ans (f : FuncId) (args : Array Value) (v : Value) : Prop := ∀ w, Calls Try.prog f args w fun e w' => e = .returned v ∧ Below w.heap.size w w'
theorem Ans.at {f : FuncId} {args : Array Value} {v : Value} (h : Ans f args v) (w : World) : Calls Try.prog f args w fun e w' => e = .returned v ∧ Below w.heap.size w w' := h w
theorem bthen {w w1 w2 : World} (h1 : Below w.heap.size w w1) (h2 : Below w1.heap.size w1 w2) : Below w.heap.size w w2 := below_then h1 h1.size h2

theorem nanw_eq : Float.NANW = Dig.NANW := rfl
theorem wordI_ok (z : Bool) (T : Int) : rg (wordI z T) ≤ INF := by
  unfold wordI
  rw [word_eq]
  have h1 := rung_le_inf T.natAbs (-1074)
  have h2 := INF_lt
  rw [(sg_word _ _ (by unfold S63 at h2; omega)).2.1]; exact h1
theorem word_ok (s : Bool) {r : Nat} (h : r ≤ INF) : rg (double.word s r) ≤ INF := by
  rw [word_eq]
  have h2 := INF_lt
  rw [(sg_word _ _ (by unfold S63 at h2; omega)).2.1]; exact h
theorem ans_refKind (a : Nat) (ha : a < W) : Ans 25 #[.int .u64 a] (.int .i64 (kindN a)) := fun w => let ⟨k, hk⟩ := Ev.rounds (kind_is a ha); (minstrelref01_Kind.calls k _ _ w hk).mono fun _ _ ⟨h, hd⟩ => ⟨h, hd.below⟩
theorem ans_refParts (a : Nat) (ha : a < W) : Ans 51 #[.int .u64 a] (.tuple #[.bool (sg a), .int .i64 (expN a), .int .u64 (fracN a)]) := fun w => let ⟨k, hk⟩ := Ev.rounds (parts_is a ha); (minstrelref01_Parts.calls k _ _ _ _ w hk).mono fun _ _ ⟨h, hd⟩ => ⟨h, hd.below⟩
theorem ans_refLess (a b : Nat) (ha : a < W) (hb : b < W) : Ans 26 #[.int .u64 a, .int .u64 b] (.bool (lessB a b)) := fun w => let ⟨k, hk⟩ := Ev.rounds (less_is a b ha hb); (minstrelref01_Less.calls k _ _ _ w hk).mono fun _ _ ⟨h, hd⟩ => ⟨h, hd.below⟩
theorem ans_refNan : Ans 75 #[] (.int .u64 9221120237041090560) := fun w => (minstrelref01_Nan.calls _ w nan_is).mono fun _ _ ⟨h, hd⟩ => ⟨h, hd.below⟩
theorem ans_refSign (a : Nat) (ha : a < W) : Ans 36 #[.int .u64 a] (.bool (sg a)) := fun w => (minstrelref01_Neg.calls _ _ w (neg_is a ha)).mono fun _ _ ⟨h, hd⟩ => ⟨h, hd.below⟩
end Go.Proofs.Yteaegggncmhhnaa.Ans

/- Answers of the reference's Equal. Condition: words have 64 bits. -/
namespace Go.Proofs.Yteaegggncmhhnaa.Ans
open Go Go.RowKit Go.Proofs.Yteaegggncmhhnaa.Ref Go.Proofs.YteaegggncmhhnaaW.PrintWords Go.Proofs.YteaegggncmhhnaaW.PrintLast Go.Proofs.YteaegggncmhhnaaW.PrintMore
open Go.Proofs.Yteaegggncmhhnaa.Num Go.Proofs.Yteaegggncmhhnaa.DigLaw Go.Proofs.Yteaegggncmhhnaa.Fl Go.Proofs.Yteaegggncmhhnaa.Dig Go.Proofs.Yteaegggncmhhnaa.Float
open Ieee (double Datum)

theorem ans_refEqual (a b : Nat) (ha : a < W) (hb : b < W) : Ans 16 #[.int .u64 a, .int .u64 b] (.bool (eqB a b)) := fun w => let ⟨k, hk⟩ := Ev.rounds (equal_is a b ha hb); (minstrelref01_Equal.calls k _ _ _ w hk).mono fun _ _ ⟨h, hd⟩ => ⟨h, hd.below⟩
end Go.Proofs.Yteaegggncmhhnaa.Ans

/- What the program's functions of the layer 4 (whole) do on floats. No conditions but that the arguments are words of 64 bits. -/
namespace Go.Proofs.Yteaegggncmhhnaa.Ans
open Go Go.RowKit Go.Proofs.Yteaegggncmhhnaa.Ref Go.Proofs.YteaegggncmhhnaaW.PrintWords Go.Proofs.YteaegggncmhhnaaW.PrintLast Go.Proofs.YteaegggncmhhnaaW.PrintMore
open Go.Proofs.Yteaegggncmhhnaa.Num Go.Proofs.Yteaegggncmhhnaa.DigLaw Go.Proofs.Yteaegggncmhhnaa.Fl Go.Proofs.Yteaegggncmhhnaa.Dig Go.Proofs.Yteaegggncmhhnaa.Float
open Ieee (double Datum Toward)

attribute [local go_sem] frombits_run bits_run
theorem ans_of (a : Nat) : Ans 32 #[.int .u64 a] (.float .f64 a) := by
  intro w
  go_enter Try.func32, Try.ntmps32
  go_wp2
  go_ret
  exact ⟨rfl, Below.refl _ _⟩
theorem ans_told (a : Nat) : Ans 28 #[.float .f64 a] (.int .u64 (canonW a)) := by
  intro w
  go_enter Try.func28, Try.ntmps28
  go_wp2_with (go_at_call 44; refine (Canon_any _ _).mono ?_; rintro e w' ⟨rfl, rfl⟩)
  go_ret
  exact ⟨rfl, Below.refl _ _⟩
/-- what an instruction makes of a word -/
def trW (way : Toward) (a : Nat) : Nat := double.write ((double.read a).integral way)
theorem toIntegral_eq (name : String) (way : Toward) (x : Nat) : Extern.MathFloor.toIntegral name way #[.float .f64 x] =
    match FloatKind.f64.decode x with
    | .nan s t =>
      if FloatKind.f64.format.quiet t = t then pure (.float .f64 x) else do
      let kept ← choose (.extern "math.Floor,Ceil,Trunc,RoundToEven.signallingNaN kept" 2)
      pure (.float .f64 (if kept == 1 then x else FloatKind.f64.encode (.nan s (FloatKind.f64.format.quiet t))))
    | d => pure (.float .f64 (FloatKind.f64.encode (d.integral way))) := rfl
theorem toInt_num (name : String) (way : Toward) {a : Nat} (h : rg a ≤ INF) : Extern.MathFloor.toIntegral name way #[.float .f64 a] = pure (.float .f64 (trW way a)) := by
  rw [toIntegral_eq]
  unfold trW
  rcases Nat.lt_or_ge (rg a) INF with f | f
  · obtain ⟨m, p, e, _⟩ := read_fin f
    have e' : FloatKind.f64.decode a = .number (sg a) m p := e
    rw [e, e']; rfl
  · have e := read_inf (a := a) (by omega)
    have e' : FloatKind.f64.decode a = .infinity (sg a) := e
    rw [e, e']; rfl
theorem quiet_nan (s : Bool) (f : Nat) (hf : f < 2 ^ 52) : INF < rg (double.write (.nan s (double.quiet f))) := by
  have h51 : 2 ^ 51 ≤ double.quiet f := by
    show 2 ^ 51 ≤ f ||| 2 ^ 51
    exact Nat.right_le_or
  have hlt : double.quiet f < 2 ^ 52 := by
    show f ||| 2 ^ 51 < 2 ^ 52
    exact Nat.or_lt_two_pow hf (by decide)
  have e : double.write (.nan s (double.quiet f)) = sgn s + (INF + double.quiet f) := by
    show double.word s (double.infRung + double.quiet f % double.binade) = _
    rw [infRung_eq, binade_eq, Nat.mod_eq_of_lt hlt, word_eq]
  rw [e]
  have hI := cINF
  rw [c52] at hlt
  have h51' : (2 : Nat) ^ 51 = 2251799813685248 := by decide
  rw [h51'] at h51
  rw [(sg_word s (INF + double.quiet f) (by omega)).2.1]
  omega
theorem ask_run (q : Question) (hf : q.forced = false) (k : Nat → Value) (w : World) : (do let x ← choose q; pure (k x) : Sem Value).run Try.prog w = .ok (k (q.cut (w.tape w.drawn q))) w.drew := by
  simp [hf]
def enc (d : Datum) : Nat := FloatKind.f64.encode d
theorem enc_eq (d : Datum) : enc d = double.write d := rfl
def qt (f : Nat) : Nat := FloatKind.f64.format.quiet f
theorem qt_eq (f : Nat) : qt f = double.quiet f := rfl
def askQ : Question := .extern "math.Floor,Ceil,Trunc,RoundToEven.signallingNaN kept" 2
theorem toIntegral_nan (name : String) (way : Toward) (x : Nat) (s : Bool) (t : Nat) (h : FloatKind.f64.decode x = .nan s t) : Extern.MathFloor.toIntegral name way #[.float .f64 x] =
    (if qt t = t then pure (.float .f64 x) else (do let kept ← choose askQ; pure (.float .f64 (if kept == 1 then x else enc (.nan s (qt t)))) : Sem Value)) := by
  rw [toIntegral_eq, h]; rfl
theorem toInt_nan (name : String) (way : Toward) {a : Nat} (h : INF < rg a) (w : World) : ∃ r, INF < rg r ∧ ((Extern.MathFloor.toIntegral name way #[.float .f64 a]).run Try.prog w = .ok (.float .f64 r) w ∨ (Extern.MathFloor.toIntegral name way #[.float .f64 a]).run Try.prog w = .ok (.float .f64 r) w.drew) := by
  have e := read_nan h
  rw [toIntegral_nan name way a (sg a) (rg a - INF) e]
  clear e
  by_cases c : qt (rg a - INF) = rg a - INF
  · rw [if_pos c]
    exact ⟨a, h, Or.inl rfl⟩
  · rw [if_neg c]
    have hI := cINF
    have hr := rg_lt a
    have hq := quiet_nan (sg a) (rg a - INF) (by rw [c52]; omega)
    rw [← qt_eq, ← enc_eq] at hq
    generalize enc (.nan (sg a) (qt (rg a - INF))) = z at *
    have hx : ∀ b : Bool, INF < rg (if b = true then a else z) := by
      intro b
      cases b
      · rw [if_neg (by simp)]; exact hq
      · rw [if_pos rfl]; exact h
    refine ⟨_, hx (askQ.cut (w.tape w.drawn askQ) == 1), Or.inr ?_⟩
    exact ask_run askQ rfl (fun kept => .float .f64 (if kept == 1 then a else z)) w
theorem archTrunc_run (n : Nat) (w : World) (h : rg n ≤ INF) : (callFunc 56 #[.float .f64 n]).run Try.prog w = .ok (.value (.float .f64 (trW .zero n))) w := by
  rw [run_callFunc_extern (fn := Try.f56) (e := Extern.MathFloor.toIntegral "math.archTrunc" .zero) Try.func56 (by kernel_rfl) (by kernel_rfl) (by kernel_rfl) (by kernel_rfl), toInt_num _ _ h]
  rfl
theorem archTrunc_nan (n : Nat) (w : World) (h : INF < rg n) : ∃ r, INF < rg r ∧ ((callFunc 56 #[.float .f64 n]).run Try.prog w = .ok (.value (.float .f64 r)) w ∨ (callFunc 56 #[.float .f64 n]).run Try.prog w = .ok (.value (.float .f64 r)) w.drew) := by
  obtain ⟨r, hr, hh⟩ := toInt_nan "math.archTrunc" .zero h w
  refine ⟨r, hr, ?_⟩
  rw [run_callFunc_extern (fn := Try.f56) (e := Extern.MathFloor.toIntegral "math.archTrunc" .zero) Try.func56 (by kernel_rfl) (by kernel_rfl) (by kernel_rfl) (by kernel_rfl)]
  rcases hh with hh | hh
  · rw [hh]; exact Or.inl rfl
  · rw [hh]; exact Or.inr rfl
/-- the library's function around it -/
theorem mathTrunc_num (a : Nat) (h : rg a ≤ INF) : Ans 38 #[.float .f64 a] (.float .f64 (trW .zero a)) := by
  intro w
  have r := fun w => archTrunc_run a w h
  clear h
  generalize trW .zero a = t at *
  go_enter Try.func38, Try.ntmps38
  go_wp2
  go_ret
  exact ⟨rfl, Below.refl _ _⟩
theorem mathTrunc_nan (a : Nat) (h : INF < rg a) (w : World) : ∃ r, INF < rg r ∧ Calls Try.prog 38 #[.float .f64 a] w fun e w' => e = .returned (.float .f64 r) ∧ Below w.heap.size w w' := by
  obtain ⟨r, hr, hh⟩ := archTrunc_nan a w h
  refine ⟨r, hr, ?_⟩
  clear h hr
  rcases hh with hh | hh
  · go_enter Try.func38, Try.ntmps38
    go_wp2
    go_ret
    exact ⟨rfl, Below.refl _ _⟩
  · go_enter Try.func38, Try.ntmps38
    go_wp2
    go_ret
    exact ⟨rfl, (Below.refl _ _).drew⟩
theorem archFloor_run (n : Nat) (w : World) (h : rg n ≤ INF) : (callFunc 58 #[.float .f64 n]).run Try.prog w = .ok (.value (.float .f64 (trW .down n))) w := by
  rw [run_callFunc_extern (fn := Try.f58) (e := Extern.MathFloor.toIntegral "math.archFloor" .down) Try.func58 (by kernel_rfl) (by kernel_rfl) (by kernel_rfl) (by kernel_rfl), toInt_num _ _ h]
  rfl
theorem archFloor_nan (n : Nat) (w : World) (h : INF < rg n) : ∃ r, INF < rg r ∧ ((callFunc 58 #[.float .f64 n]).run Try.prog w = .ok (.value (.float .f64 r)) w ∨ (callFunc 58 #[.float .f64 n]).run Try.prog w = .ok (.value (.float .f64 r)) w.drew) := by
  obtain ⟨r, hr, hh⟩ := toInt_nan "math.archFloor" .down h w
  refine ⟨r, hr, ?_⟩
  rw [run_callFunc_extern (fn := Try.f58) (e := Extern.MathFloor.toIntegral "math.archFloor" .down) Try.func58 (by kernel_rfl) (by kernel_rfl) (by kernel_rfl) (by kernel_rfl)]
  rcases hh with hh | hh
  · rw [hh]; exact Or.inl rfl
  · rw [hh]; exact Or.inr rfl
/-- the library's function around it -/
theorem mathFloor_num (a : Nat) (h : rg a ≤ INF) : Ans 39 #[.float .f64 a] (.float .f64 (trW .down a)) := by
  intro w
  have r := fun w => archFloor_run a w h
  clear h
  generalize trW .down a = t at *
  go_enter Try.func39, Try.ntmps39
  go_wp2
  go_ret
  exact ⟨rfl, Below.refl _ _⟩
theorem mathFloor_nan (a : Nat) (h : INF < rg a) (w : World) : ∃ r, INF < rg r ∧ Calls Try.prog 39 #[.float .f64 a] w fun e w' => e = .returned (.float .f64 r) ∧ Below w.heap.size w w' := by
  obtain ⟨r, hr, hh⟩ := archFloor_nan a w h
  refine ⟨r, hr, ?_⟩
  clear h hr
  rcases hh with hh | hh
  · go_enter Try.func39, Try.ntmps39
    go_wp2
    go_ret
    exact ⟨rfl, Below.refl _ _⟩
  · go_enter Try.func39, Try.ntmps39
    go_wp2
    go_ret
    exact ⟨rfl, (Below.refl _ _).drew⟩
theorem archCeil_run (n : Nat) (w : World) (h : rg n ≤ INF) : (callFunc 60 #[.float .f64 n]).run Try.prog w = .ok (.value (.float .f64 (trW .up n))) w := by
  rw [run_callFunc_extern (fn := Try.f60) (e := Extern.MathFloor.toIntegral "math.archCeil" .up) Try.func60 (by kernel_rfl) (by kernel_rfl) (by kernel_rfl) (by kernel_rfl), toInt_num _ _ h]
  rfl
theorem archCeil_nan (n : Nat) (w : World) (h : INF < rg n) : ∃ r, INF < rg r ∧ ((callFunc 60 #[.float .f64 n]).run Try.prog w = .ok (.value (.float .f64 r)) w ∨ (callFunc 60 #[.float .f64 n]).run Try.prog w = .ok (.value (.float .f64 r)) w.drew) := by
  obtain ⟨r, hr, hh⟩ := toInt_nan "math.archCeil" .up h w
  refine ⟨r, hr, ?_⟩
  rw [run_callFunc_extern (fn := Try.f60) (e := Extern.MathFloor.toIntegral "math.archCeil" .up) Try.func60 (by kernel_rfl) (by kernel_rfl) (by kernel_rfl) (by kernel_rfl)]
  rcases hh with hh | hh
  · rw [hh]; exact Or.inl rfl
  · rw [hh]; exact Or.inr rfl
/-- the library's function around it -/
theorem mathCeil_num (a : Nat) (h : rg a ≤ INF) : Ans 40 #[.float .f64 a] (.float .f64 (trW .up a)) := by
  intro w
  have r := fun w => archCeil_run a w h
  clear h
  generalize trW .up a = t at *
  go_enter Try.func40, Try.ntmps40
  go_wp2
  go_ret
  exact ⟨rfl, Below.refl _ _⟩
theorem mathCeil_nan (a : Nat) (h : INF < rg a) (w : World) : ∃ r, INF < rg r ∧ Calls Try.prog 40 #[.float .f64 a] w fun e w' => e = .returned (.float .f64 r) ∧ Below w.heap.size w w' := by
  obtain ⟨r, hr, hh⟩ := archCeil_nan a w h
  refine ⟨r, hr, ?_⟩
  clear h hr
  rcases hh with hh | hh
  · go_enter Try.func40, Try.ntmps40
    go_wp2
    go_ret
    exact ⟨rfl, Below.refl _ _⟩
  · go_enter Try.func40, Try.ntmps40
    go_wp2
    go_ret
    exact ⟨rfl, (Below.refl _ _).drew⟩
theorem near_run (n : Nat) (w : World) (h : rg n ≤ INF) : (callFunc 41 #[.float .f64 n]).run Try.prog w = .ok (.value (.float .f64 (trW .even n))) w := by
  rw [run_callFunc_extern (fn := Try.f41) (e := Extern.MathFloor.toIntegral "math.RoundToEven" .even) Try.func41 (by kernel_rfl) (by kernel_rfl) (by kernel_rfl) (by kernel_rfl), toInt_num _ _ h]
  rfl
theorem near_nan (n : Nat) (w : World) (h : INF < rg n) : ∃ r, INF < rg r ∧ ((callFunc 41 #[.float .f64 n]).run Try.prog w = .ok (.value (.float .f64 r)) w ∨ (callFunc 41 #[.float .f64 n]).run Try.prog w = .ok (.value (.float .f64 r)) w.drew) := by
  obtain ⟨r, hr, hh⟩ := toInt_nan "math.RoundToEven" .even h w
  refine ⟨r, hr, ?_⟩
  rw [run_callFunc_extern (fn := Try.f41) (e := Extern.MathFloor.toIntegral "math.RoundToEven" .even) Try.func41 (by kernel_rfl) (by kernel_rfl) (by kernel_rfl) (by kernel_rfl)]
  rcases hh with hh | hh
  · rw [hh]; exact Or.inl rfl
  · rw [hh]; exact Or.inr rfl
theorem trW_num (way : Toward) {a : Nat} (ha : a < W) (h : rg a ≤ INF) : trW way a = intW way a ∧ rg (trW way a) ≤ INF := by
  rcases Nat.lt_or_ge (rg a) INF with f | f
  · have e : trW way a = intW way a := integral_fin way f
    rw [e]
    exact ⟨rfl, Nat.le_of_lt (intW_facts way f).2.1⟩
  · have hi : rg a = INF := by omega
    have e : trW way a = a := by
      unfold trW
      rw [read_inf hi]
      show double.word (sg a) double.infRung = a
      rw [infRung_eq]
      obtain ⟨w1, w2, w3⟩ := word_facts (sg a) (Nat.le_refl INF)
      exact word_ext w3 ha w1 (w2.trans hi.symm)
    rw [e, intW_inf way hi]
    exact ⟨rfl, h⟩
theorem ans_Trunc (a : Nat) (ha : a < W) : Ans 17 #[.int .u64 a] (.int .u64 (intW .zero a)) := by
  intro w
  have o := ans_of a
  rcases Nat.lt_or_ge INF (rg a) with h | h
  · rw [intW_nan _ h]
    have m := fun w => mathTrunc_nan a h w
    clear h ha
    generalize (a : Int) = x at *
    go_enter Try.func17, Try.ntmps17
    go_wp2_with fail
    refine (o.at _).mono ?_; rintro e w1 ⟨rfl, hb1⟩
    go_wp2_with fail
    obtain ⟨r, hr, hc⟩ := m w1
    have t := ans_told r
    rw [canon_nan hr] at t
    clear hr
    refine hc.mono ?_; rintro e w2 ⟨rfl, hb2⟩
    go_wp2_with fail
    refine (t.at _).mono ?_; rintro e w3 ⟨rfl, hb3⟩
    go_wp2_with fail
    go_ret
    exact ⟨rfl, bthen hb1 (bthen hb2 hb3)⟩
  · obtain ⟨e1, e2⟩ := trW_num .zero ha h
    have m := mathTrunc_num a h
    have t := ans_told (trW .zero a)
    rw [canon_num e2] at t
    rw [e1] at m t
    clear e1 e2 h ha
    generalize (a : Int) = x at *
    go_enter Try.func17, Try.ntmps17
    go_wp2_with fail
    refine (o.at _).mono ?_; rintro e w1 ⟨rfl, hb1⟩
    go_wp2_with fail
    refine (m.at _).mono ?_; rintro e w2 ⟨rfl, hb2⟩
    go_wp2_with fail
    refine (t.at _).mono ?_; rintro e w3 ⟨rfl, hb3⟩
    go_wp2_with fail
    go_ret
    exact ⟨rfl, bthen hb1 (bthen hb2 hb3)⟩
theorem ans_Floor (a : Nat) (ha : a < W) : Ans 18 #[.int .u64 a] (.int .u64 (intW .down a)) := by
  intro w
  have o := ans_of a
  rcases Nat.lt_or_ge INF (rg a) with h | h
  · rw [intW_nan _ h]
    have m := fun w => mathFloor_nan a h w
    clear h ha
    generalize (a : Int) = x at *
    go_enter Try.func18, Try.ntmps18
    go_wp2_with fail
    refine (o.at _).mono ?_; rintro e w1 ⟨rfl, hb1⟩
    go_wp2_with fail
    obtain ⟨r, hr, hc⟩ := m w1
    have t := ans_told r
    rw [canon_nan hr] at t
    clear hr
    refine hc.mono ?_; rintro e w2 ⟨rfl, hb2⟩
    go_wp2_with fail
    refine (t.at _).mono ?_; rintro e w3 ⟨rfl, hb3⟩
    go_wp2_with fail
    go_ret
    exact ⟨rfl, bthen hb1 (bthen hb2 hb3)⟩
  · obtain ⟨e1, e2⟩ := trW_num .down ha h
    have m := mathFloor_num a h
    have t := ans_told (trW .down a)
    rw [canon_num e2] at t
    rw [e1] at m t
    clear e1 e2 h ha
    generalize (a : Int) = x at *
    go_enter Try.func18, Try.ntmps18
    go_wp2_with fail
    refine (o.at _).mono ?_; rintro e w1 ⟨rfl, hb1⟩
    go_wp2_with fail
    refine (m.at _).mono ?_; rintro e w2 ⟨rfl, hb2⟩
    go_wp2_with fail
    refine (t.at _).mono ?_; rintro e w3 ⟨rfl, hb3⟩
    go_wp2_with fail
    go_ret
    exact ⟨rfl, bthen hb1 (bthen hb2 hb3)⟩
theorem ans_Ceil (a : Nat) (ha : a < W) : Ans 19 #[.int .u64 a] (.int .u64 (intW .up a)) := by
  intro w
  have o := ans_of a
  rcases Nat.lt_or_ge INF (rg a) with h | h
  · rw [intW_nan _ h]
    have m := fun w => mathCeil_nan a h w
    clear h ha
    generalize (a : Int) = x at *
    go_enter Try.func19, Try.ntmps19
    go_wp2_with fail
    refine (o.at _).mono ?_; rintro e w1 ⟨rfl, hb1⟩
    go_wp2_with fail
    obtain ⟨r, hr, hc⟩ := m w1
    have t := ans_told r
    rw [canon_nan hr] at t
    clear hr
    refine hc.mono ?_; rintro e w2 ⟨rfl, hb2⟩
    go_wp2_with fail
    refine (t.at _).mono ?_; rintro e w3 ⟨rfl, hb3⟩
    go_wp2_with fail
    go_ret
    exact ⟨rfl, bthen hb1 (bthen hb2 hb3)⟩
  · obtain ⟨e1, e2⟩ := trW_num .up ha h
    have m := mathCeil_num a h
    have t := ans_told (trW .up a)
    rw [canon_num e2] at t
    rw [e1] at m t
    clear e1 e2 h ha
    generalize (a : Int) = x at *
    go_enter Try.func19, Try.ntmps19
    go_wp2_with fail
    refine (o.at _).mono ?_; rintro e w1 ⟨rfl, hb1⟩
    go_wp2_with fail
    refine (m.at _).mono ?_; rintro e w2 ⟨rfl, hb2⟩
    go_wp2_with fail
    refine (t.at _).mono ?_; rintro e w3 ⟨rfl, hb3⟩
    go_wp2_with fail
    go_ret
    exact ⟨rfl, bthen hb1 (bthen hb2 hb3)⟩
end Go.Proofs.Yteaegggncmhhnaa.Ans

/- What the program's Near, Is, ToInt, FromInt (layer 4) answer. Condition: the arguments are words of 64 bits. -/
namespace Go.Proofs.Yteaegggncmhhnaa.Ans
open Go Go.RowKit Go.Proofs.Yteaegggncmhhnaa.Ref Go.Proofs.YteaegggncmhhnaaW.PrintWords Go.Proofs.YteaegggncmhhnaaW.PrintLast Go.Proofs.YteaegggncmhhnaaW.PrintMore
open Go.Proofs.Yteaegggncmhhnaa.Num Go.Proofs.Yteaegggncmhhnaa.DigLaw Go.Proofs.Yteaegggncmhhnaa.Fl Go.Proofs.Yteaegggncmhhnaa.Dig Go.Proofs.Yteaegggncmhhnaa.Float
open Ieee (double Datum Toward)

attribute [local go_sem] frombits_run bits_run
theorem ans_Near (a : Nat) (ha : a < W) : Ans 20 #[.int .u64 a] (.int .u64 (intW .even a)) := by
  intro w
  have o := ans_of a
  rcases Nat.lt_or_ge INF (rg a) with h | h
  · rw [intW_nan _ h]
    have m := fun w => near_nan a w h
    clear h ha
    go_enter Try.func20, Try.ntmps20
    go_wp2_with fail
    refine (o.at _).mono ?_; rintro e w1 ⟨rfl, hb1⟩
    obtain ⟨r, hr, hc⟩ := m w1
    have t := ans_told r
    rw [canon_nan hr] at t
    clear hr m o
    rcases hc with hc | hc
    · go_wp2_with fail
      refine (t.at _).mono ?_; rintro e w3 ⟨rfl, hb3⟩
      go_wp2_with fail
      go_ret
      exact ⟨rfl, bthen hb1 hb3⟩
    · go_wp2_with fail
      refine (t.at _).mono ?_; rintro e w3 ⟨rfl, hb3⟩
      go_wp2_with fail
      go_ret
      exact ⟨rfl, bthen (bthen hb1 (Below.refl _ _).drew) hb3⟩
  · obtain ⟨e1, e2⟩ := trW_num .even ha h
    have m := fun w => near_run a w h
    have t := ans_told (trW .even a)
    rw [canon_num e2] at t
    rw [e1] at t
    simp only [e1] at m
    clear e1 e2 h ha
    go_enter Try.func20, Try.ntmps20
    go_wp2_with fail
    refine (o.at _).mono ?_; rintro e w1 ⟨rfl, hb1⟩
    go_wp2_with fail
    refine (t.at _).mono ?_; rintro e w3 ⟨rfl, hb3⟩
    go_wp2_with fail
    go_ret
    exact ⟨rfl, bthen hb1 hb3⟩

/-! ### is -/
theorem cut_rg (a b t : Nat) : INF < rg ((Question.nanBits .f64 a b).cut t) := by
  obtain ⟨s, f, hf, e⟩ := cut_nan a b t
  rw [e]
  have hI := cINF
  rw [c52] at hf
  have h2 := sg_word s (INF + 1 + f) (by omega)
  have e2 : (if s then 2 ^ 63 else 0) + INF + 1 + f = sgn s + (INF + 1 + f) := by
    unfold sgn S63; rw [c63]; cases s
    · rw [if_neg (by simp)]; omega
    · rw [if_pos rfl]; omega
  rw [e2, h2.2.1]; omega
theorem sub_self {a : Nat} (h : rg a < INF) : floatBits .sub .f64 a a = some 0 := by
  obtain ⟨m, p, e, _⟩ := read_fin h
  show double.sub a a = some 0
  unfold Ieee.Format.sub
  rw [e]
  simp only [Datum.opposite, Datum.sum, Option.map_some, Int.min_self, Int.sub_self]
  have t : Ieee.signed (sg a) m (0 : Int).toNat + Ieee.signed (!sg a) m (0 : Int).toNat = 0 := by
    rw [signed_eq, signed_eq]; unfold sn; cases sg a <;> simp <;> omega
  rw [t, if_pos rfl]
  rw [write_number, show (0 : Int).natAbs = 0 from rfl, rung_zero]
  cases sg a <;> rfl
theorem sub_self_none {a : Nat} (h : INF ≤ rg a) : floatBits .sub .f64 a a = none := by
  show double.sub a a = none
  unfold Ieee.Format.sub
  rcases Nat.lt_or_ge INF (rg a) with f | f
  · rw [read_nan f]; rfl
  · rw [read_inf (by omega)]
    simp only [Datum.opposite, Datum.sum]
    cases sg a <;> rfl
theorem some_cmp (x y : Int) : ((some (compare x y) : Option Ordering) == some .eq) = decide (x = y) := by
  by_cases h : x = y
  · rw [cmp_eq h, decide_eq_true h]; rfl
  · rw [decide_eq_false h]
    rcases Int.lt_or_lt_of_ne h with l | l
    · rw [cmp_lt l]; rfl
    · rw [cmp_gt l]; rfl
theorem eq_run {a b : Nat} (ha : rg a ≤ INF) (hb : rg b ≤ INF) : (FloatKind.f64.format.order a b == some .eq) = decide (Vi a = Vi b) := by
  show (double.order a b == some .eq) = _
  rw [order_eq ha hb, some_cmp]
theorem eq_run_nan {a b : Nat} (h : INF < rg a ∨ INF < rg b) : (FloatKind.f64.format.order a b == some .eq) = false := by
  show (double.order a b == some .eq) = _
  rw [order_nan h]; rfl
theorem sn_inj (s : Bool) (m n : Nat) : sn s m = sn s n ↔ m = n := by
  unfold sn; cases s
  · rw [if_neg (by simp), if_neg (by simp)]; omega
  · rw [if_pos rfl, if_pos rfl]; omega
theorem zero_div {v : Nat} : v / U * U = v ↔ v % U = 0 := by
  have := Nat.div_add_mod v U
  rw [Nat.mul_comm] at this
  omega
theorem is_eq {a : Nat} (h : rg a < INF) : decide (Vi (intW .zero a) = Vi a) = isW a := by
  obtain ⟨f1, f2, f3, f4⟩ := intW_facts .zero h
  unfold isW
  apply decide_eq_decide.2
  unfold Vi
  rw [f1, f3, sn_inj]
  have e : wholeN .zero a = V (rg a) / U := by unfold wholeN cutQ moreB; rfl
  rw [e, zero_div]
  exact ⟨fun x => ⟨h, x⟩, fun x => x.2⟩
theorem ans_is (a : Nat) (ha : a < W) : Ans 31 #[.float .f64 a] (.bool (isW a)) := by
  intro w
  have h0 : (FloatKind.f64.format.order 0 0 == some .eq) = true := rfl
  rcases Nat.lt_or_ge (rg a) INF with f | f
  · have hm : ∀ w : World, (binOp .sub 37 (.float .f64 a) (.float .f64 a)).run Try.prog w = .ok (.float .f64 0) w := fun w => run_float_arith w .sub 37 .f64 a a 0 (sub_self f)
    obtain ⟨e1, e2⟩ := trW_num .zero ha (Nat.le_of_lt f)
    have m := mathTrunc_num a (Nat.le_of_lt f)
    have h1 := eq_run e2 (Nat.le_of_lt f)
    rw [e1] at m h1
    rw [is_eq f] at h1
    clear e1 e2 f ha
    generalize isW a = b at *
    generalize intW .zero a = t at *
    go_enter Try.func31, Try.ntmps31
    go_wp2_with fail
    refine (m.at _).mono ?_; rintro e w1 ⟨rfl, hb1⟩
    go_wp2_with fail
    go_ret
    exact ⟨rfl, hb1⟩
  · have e : isW a = false := decide_eq_false (fun h => by omega)
    have hn := sub_self_none f
    have hd := eq_run_nan (b := 0) (Or.inl (cut_rg a a (w.tape w.drawn (Question.nanBits .f64 a a))))
    have hm : (binOp .sub 37 (.float .f64 a) (.float .f64 a)).run Try.prog w = .ok (.float .f64 _) w.drew := arith_none .sub 37 a a (.inr (.inl rfl)) hn w
    rw [e]
    clear e hn f ha
    generalize (Question.nanBits .f64 a a).cut (w.tape w.drawn (Question.nanBits .f64 a a)) = r at *
    go_enter Try.func31, Try.ntmps31
    go_wp2_with fail
    go_ret
    exact ⟨rfl, (Below.refl _ _).drew⟩

/-! ### Is, FromInt, ToInt -/
theorem ans_Is (a : Nat) (ha : a < W) : Ans 10 #[.int .u64 a] (.bool (isW a)) := by
  intro w
  have o := ans_of a
  have m := ans_is a ha
  clear ha
  generalize isW a = b at *
  go_enter Try.func10, Try.ntmps10
  go_wp2_with fail
  refine (o.at _).mono ?_; rintro e w1 ⟨rfl, hb1⟩
  go_wp2_with fail
  refine (m.at _).mono ?_; rintro e w2 ⟨rfl, hb2⟩
  go_wp2_with fail
  go_ret
  exact ⟨rfl, bthen hb1 hb2⟩
theorem fromI_ok (n : Int) : rg (fromI n) ≤ INF := word_ok _ (rung_le_inf _ _)
theorem of_int (n : Int) : floatOfInt .f64 n = fromI n := by
  show double.write (.number (decide (n < 0)) n.natAbs 0) = _
  rw [write_number]; rfl
theorem ans_FromInt (n : Int) : Ans 8 #[.int .i64 n] (.int .u64 (fromI n)) := by
  intro w
  have t := ans_told (fromI n)
  rw [canon_num (fromI_ok n)] at t
  rw [← of_int] at t ⊢
  go_enter Try.func8, Try.ntmps8
  go_wp2_with fail
  refine (t.at _).mono ?_; rintro e w1 ⟨rfl, hb1⟩
  go_wp2_with fail
  go_ret
  exact ⟨rfl, hb1⟩
def CLO : Nat := 14114281232179134464
def CHI : Nat := 4890909195324358656
def E85 : Nat := 1085
theorem hi_facts : rg CHI = 1086 * 2 ^ 52 ∧ sg CHI = false ∧ rg CHI ≤ INF ∧ rg CLO = 1086 * 2 ^ 52 ∧ sg CLO = true ∧ rg CLO ≤ INF := by decide +kernel
theorem V_hi : V (1086 * 2 ^ 52) = 9223372036854775808 * U := by
  have h := V_binade E85 (2 ^ 52) (by decide) (Or.inr (Nat.le_refl _))
  rw [show E85 * 2 ^ 52 + 2 ^ 52 = 1086 * 2 ^ 52 from by decide] at h
  rw [h, ← c63]
  unfold U
  rw [← Nat.pow_add, ← Nat.pow_add]
  congr 1
theorem some_lt (x y : Int) : ((some (compare x y) : Option Ordering) == some .lt) = decide (x < y) := by
  rcases Int.lt_trichotomy x y with l | l | l
  · rw [cmp_lt l, decide_eq_true l]; rfl
  · rw [cmp_eq l, decide_eq_false (by omega)]; rfl
  · rw [cmp_gt l, decide_eq_false (by omega)]; rfl
theorem some_gt (x y : Int) : ((some (compare x y) : Option Ordering) == some .gt) = decide (y < x) := by
  rcases Int.lt_trichotomy x y with l | l | l
  · rw [cmp_lt l, decide_eq_false (by omega)]; rfl
  · rw [cmp_eq l, decide_eq_false (by omega)]; rfl
  · rw [cmp_gt l, decide_eq_true l]; rfl
theorem isW_facts {a : Nat} (h : isW a = true) : rg a < INF ∧ V (rg a) = V (rg a) / U * U := by
  have hz := of_decide_eq_true (show decide (rg a < INF ∧ V (rg a) % U = 0) = true from h)
  exact ⟨hz.1, (zero_div.2 hz.2).symm⟩
theorem lo_iff (s : Bool) (q c u : Nat) (hu : 0 < u) : sn s (q * u) < sn true (c * u) ↔ s = true ∧ c < q := by
  have h1 : c * u < q * u ↔ c < q := Nat.mul_lt_mul_right hu
  unfold sn
  cases s
  · rw [if_neg (by simp), if_pos rfl]
    constructor
    · intro h; omega
    · intro h; cases h.1
  · rw [if_pos rfl, if_pos rfl, ← h1]
    constructor
    · intro h; exact ⟨rfl, by omega⟩
    · intro h; omega
theorem hi_iff (s : Bool) (q c u : Nat) (hu : 0 < u) (hc : 0 < c) : (sn false (c * u) < sn s (q * u) ∨ sn s (q * u) = sn false (c * u)) ↔ s = false ∧ c ≤ q := by
  have h1 : c * u ≤ q * u ↔ c ≤ q := Nat.mul_le_mul_right_iff hu
  have h2 : 0 < c * u := Nat.mul_pos hc hu
  unfold sn
  cases s
  · rw [if_neg (by simp), if_neg (by simp), ← h1]
    constructor
    · intro h; exact ⟨rfl, by omega⟩
    · intro h; omega
  · rw [if_pos rfl, if_neg (by simp)]
    constructor
    · intro h; omega
    · intro h; cases h.1
theorem toInt_val {a : Nat} (h : rg a < INF) (hf : fitN (sg a) (V (rg a) / U) = true) : floatToIntVal .f64 a .i64 = some (sn (sg a) (V (rg a) / U)) := by
  obtain ⟨m, p, e, hp, hv⟩ := read_fin h
  have e' : FloatKind.f64.decode a = .number (sg a) m p := e
  have t : (FloatKind.f64.decode a).toInt .zero = some (sn (sg a) (V (rg a) / U)) := by
    rw [e']
    simp only [Datum.toInt, Datum.integral, Nat.shiftLeft_eq]
    rw [cut_fin .zero hp hv, signed_eq, Nat.pow_zero, Nat.mul_one]
    unfold wholeN cutQ moreB; rfl
  unfold floatToIntVal
  rw [t]
  dsimp only
  rw [if_pos]
  generalize V (rg a) / U = q at *
  generalize sg a = s at *
  show (-9223372036854775808 : Int) ≤ sn s q ∧ sn s q ≤ 9223372036854775807
  unfold fitN at hf
  unfold sn
  cases s
  · rw [if_neg (by simp)] at hf ⊢
    have := of_decide_eq_true hf
    omega
  · rw [if_pos rfl] at hf ⊢
    have := of_decide_eq_true hf
    omega
theorem ans_ToInt (a : Nat) (ha : a < W) : Ans 11 #[.int .u64 a] (.tuple #[.int .i64 (toI a).1, .bool (toI a).2]) := by
  intro w
  have o := ans_of a
  have m := ans_is a ha
  by_cases z : isW a = true
  · obtain ⟨fa, hv⟩ := isW_facts z
    obtain ⟨k1, k2, k3, k4, k5, k6⟩ := hi_facts
    rw [z] at m
    have g1 : (FloatKind.f64.format.order a CLO == some .lt) = decide (sg a = true ∧ 9223372036854775808 < V (rg a) / U) := by
      show (double.order a CLO == some .lt) = _
      rw [order_eq (Nat.le_of_lt fa) k6, some_lt]
      apply decide_eq_decide.2
      unfold Vi
      rw [k5, k4, V_hi, hv, Nat.mul_div_cancel _ U_pos]
      exact lo_iff _ _ _ _ U_pos
    have g2 : (FloatKind.f64.format.order a CHI == some .gt || FloatKind.f64.format.order a CHI == some .eq) = decide (sg a = false ∧ 9223372036854775808 ≤ V (rg a) / U) := by
      show (double.order a CHI == some .gt || double.order a CHI == some .eq) = _
      rw [order_eq (Nat.le_of_lt fa) k3, some_gt, some_cmp, ← Bool.decide_or]
      apply decide_eq_decide.2
      unfold Vi
      rw [k2, k1, V_hi, hv, Nat.mul_div_cancel _ U_pos]
      exact hi_iff _ _ _ _ U_pos (by decide)
    have fit : fitN (sg a) (V (rg a) / U) = (!decide (sg a = true ∧ 9223372036854775808 < V (rg a) / U) && !decide (sg a = false ∧ 9223372036854775808 ≤ V (rg a) / U)) := by
      unfold fitN
      generalize V (rg a) / U = q
      cases sg a
      · rw [if_neg (by simp), decide_eq_false (p := _ ∧ _) (fun h => by cases h.1)]
        by_cases c : 9223372036854775808 ≤ q
        · rw [decide_eq_false (by omega), decide_eq_true ⟨rfl, c⟩]; rfl
        · rw [decide_eq_true (by omega), decide_eq_false (p := _ ∧ _) (fun h => c h.2)]; rfl
      · rw [if_pos rfl, decide_eq_false (p := true = false ∧ _) (fun h => by cases h.1)]
        by_cases c : 9223372036854775808 < q
        · rw [decide_eq_false (by omega), decide_eq_true ⟨rfl, c⟩]; rfl
        · rw [decide_eq_true (by omega), decide_eq_false (p := _ ∧ _) (fun h => c h.2)]; rfl
    have tv := toInt_val fa
    have ti : toI a = if fitN (sg a) (V (rg a) / U) = true then (sn (sg a) (V (rg a) / U), true) else (0, false) := by unfold toI; rw [z, Bool.true_and]
    rw [ti]
    rw [show CLO = 14114281232179134464 from rfl] at g1
    rw [show CHI = 4890909195324358656 from rfl] at g2
    rw [fit] at tv ⊢
    generalize decide (sg a = true ∧ 9223372036854775808 < V (rg a) / U) = b1 at *
    generalize decide (sg a = false ∧ 9223372036854775808 ≤ V (rg a) / U) = b2 at *
    generalize sn (sg a) (V (rg a) / U) = r at *
    clear fit ti hv fa k1 k2 k3 k4 k5 k6 z ha
    cases b1
    · cases b2
      · have hc : ∀ w : World, (convert 37 2 (.float .f64 a)).run Try.prog w = .ok (.int .i64 r) w := fun w => run_convert_float_int (P := Try.prog) w 37 2 .f64 .i64 a r (by kernel_rfl) (by kernel_rfl) (tv rfl)
        rw [if_pos (by rfl)]
        clear tv
        go_enter Try.func11, Try.ntmps11
        go_wp2_with fail
        refine (o.at _).mono ?_; rintro e w1 ⟨rfl, hb1⟩
        go_wp2_with fail
        refine (m.at _).mono ?_; rintro e w2 ⟨rfl, hb2⟩
        go_wp2_with fail
        go_ret2
        exact ⟨rfl, bthen hb1 hb2⟩
      · rw [if_neg (by simp)]
        clear tv
        go_enter Try.func11, Try.ntmps11
        go_wp2_with fail
        refine (o.at _).mono ?_; rintro e w1 ⟨rfl, hb1⟩
        go_wp2_with fail
        refine (m.at _).mono ?_; rintro e w2 ⟨rfl, hb2⟩
        go_wp2_with fail
        go_ret2
        exact ⟨rfl, bthen hb1 hb2⟩
    · rw [if_neg (by simp)]
      clear tv g2
      go_enter Try.func11, Try.ntmps11
      go_wp2_with fail
      refine (o.at _).mono ?_; rintro e w1 ⟨rfl, hb1⟩
      go_wp2_with fail
      refine (m.at _).mono ?_; rintro e w2 ⟨rfl, hb2⟩
      go_wp2_with fail
      go_ret2
      exact ⟨rfl, bthen hb1 hb2⟩
  · have z' : isW a = false := Bool.eq_false_iff.2 z
    have ti : toI a = (0, false) := by unfold toI; rw [z']; rfl
    rw [ti]
    rw [z'] at m
    clear z z' ti ha
    go_enter Try.func11, Try.ntmps11
    go_wp2_with fail
    refine (o.at _).mono ?_; rintro e w1 ⟨rfl, hb1⟩
    go_wp2_with fail
    refine (m.at _).mono ?_; rintro e w2 ⟨rfl, hb2⟩
    go_wp2_with fail
    go_ret2
    exact ⟨rfl, bthen hb1 hb2⟩
end Go.Proofs.Yteaegggncmhhnaa.Ans

/- Answers of the layer 4's reference, and the plain law of its statements. Condition: the arguments are words of 64 bits. -/
namespace Go.Proofs.Yteaegggncmhhnaa.Ans
open Go Go.RowKit Go.Proofs.Yteaegggncmhhnaa.Ref Go.Proofs.YteaegggncmhhnaaW.PrintWords Go.Proofs.YteaegggncmhhnaaW.PrintLast Go.Proofs.YteaegggncmhhnaaW.PrintMore
open Go.Proofs.Yteaegggncmhhnaa.Num Go.Proofs.Yteaegggncmhhnaa.DigLaw Go.Proofs.Yteaegggncmhhnaa.Fl Go.Proofs.Yteaegggncmhhnaa.Dig Go.Proofs.Yteaegggncmhhnaa.Float
open Ieee (double Datum Toward)

theorem ans_refFromInt (n : Int) (h0 : -9223372036854775808 ≤ n) (h1 : n < 9223372036854775808) : Ans 9 #[.int .i64 n] (.int .u64 (fromI n)) := fun w =>
  let ⟨k, hk⟩ := Ev.rounds (refFromInt_is n h0 h1); minstrelref04_FromInt.calls k _ _ w hk
theorem ans_refIs (a : Nat) (ha : a < W) : Ans 15 #[.int .u64 a] (.bool (isW a)) := fun w =>
  let ⟨k, hk⟩ := Ev.rounds (refIs_is a ha); minstrelref04_Is.calls k _ _ w hk
theorem ans_refToInt (a : Nat) (ha : a < W) : Ans 14 #[.int .u64 a] (.tuple #[.int .i64 (toI a).1, .bool (toI a).2]) := fun w =>
  let ⟨k, hk⟩ := Ev.rounds (refToInt_is a ha); minstrelref04_ToInt.calls k _ _ _ w hk
theorem ans_refSize (n : Int) (h0 : -9223372036854775808 ≤ n) (h1 : n < 9223372036854775808) : Ans 12 #[.int .i64 n] (.int .u64 (n.natAbs : Nat)) := fun w =>
  (minstrelref04_Size.calls _ _ w (size_is n h0 h1)).mono fun _ _ ⟨h, hd⟩ => ⟨h, hd.below⟩
theorem refTrunc_is (a : Nat) (ha : a < W) : Ev (fun k => minstrelref04_Trunc.f k (a : Int)) ((intW .zero a : Nat) : Int) :=
  Ev.bind (refRound_is a 0 ha) (Ev.now _)
theorem refFloor_is (a : Nat) (ha : a < W) : Ev (fun k => minstrelref04_Floor.f k (a : Int)) ((intW .down a : Nat) : Int) :=
  Ev.bind (refRound_is a 1 ha) (Ev.now _)
theorem refCeil_is (a : Nat) (ha : a < W) : Ev (fun k => minstrelref04_Ceil.f k (a : Int)) ((intW .up a : Nat) : Int) :=
  Ev.bind (refRound_is a 2 ha) (Ev.now _)
theorem refNear_is (a : Nat) (ha : a < W) : Ev (fun k => minstrelref04_Near.f k (a : Int)) ((intW .even a : Nat) : Int) :=
  Ev.bind (refRound_is a 3 ha) (Ev.now _)
theorem ans_refTrunc (a : Nat) (ha : a < W) : Ans 21 #[.int .u64 a] (.int .u64 (intW .zero a)) := fun w =>
  let ⟨k, hk⟩ := Ev.rounds (refTrunc_is a ha); minstrelref04_Trunc.calls k _ _ w hk
theorem ans_refFloor (a : Nat) (ha : a < W) : Ans 22 #[.int .u64 a] (.int .u64 (intW .down a)) := fun w =>
  let ⟨k, hk⟩ := Ev.rounds (refFloor_is a ha); minstrelref04_Floor.calls k _ _ w hk
theorem ans_refCeil (a : Nat) (ha : a < W) : Ans 23 #[.int .u64 a] (.int .u64 (intW .up a)) := fun w =>
  let ⟨k, hk⟩ := Ev.rounds (refCeil_is a ha); minstrelref04_Ceil.calls k _ _ w hk
theorem ans_refNear (a : Nat) (ha : a < W) : Ans 24 #[.int .u64 a] (.int .u64 (intW .even a)) := fun w =>
  let ⟨k, hk⟩ := Ev.rounds (refNear_is a ha); minstrelref04_Near.calls k _ _ w hk

def THREE : Nat := 4613937818241073152
theorem lives_facts : THREE < W ∧ toI THREE = (3, true) ∧ fromI (-2) = 13835058055282163712 := by
  refine ⟨by decide, ?_, by decide +kernel⟩
  have h : rg THREE < INF ∧ sg THREE = false ∧ fracN THREE = 3 * 2 ^ 51 ∧ expN THREE = -51 := by decide +kernel
  obtain ⟨h1, h2, h3, h4⟩ := h
  have hv := frac_V THREE h1
  rw [h3, h4] at hv
  have e : V (rg THREE) = 3 * U := by
    rw [← hv, Nat.mul_assoc, ← Nat.pow_add, show U = 2 ^ E74 from rfl, show 51 + ((-51 : Int) + 1074).toNat = E74 from by unfold E74; decide]
  have e1 : V (rg THREE) / U = 3 := by rw [e, Nat.mul_div_cancel _ U_pos]
  have e2 : isW THREE = true := decide_eq_true ⟨h1, by rw [e, Nat.mul_mod_left]⟩
  unfold toI
  rw [e1, e2, h2]; rfl
theorem ans_lives : Ans 13 #[] (.bool true) := by
  intro w
  obtain ⟨l1, l2, l3⟩ := lives_facts
  have p := ans_ToInt THREE l1
  have q := ans_FromInt (-2)
  rw [l2, show ((THREE : Nat) : Int) = 4613937818241073152 from rfl] at p
  rw [l3] at q
  dsimp only at p
  clear l1 l2 l3
  have q' : Ans 8 #[.int .i64 (-2)] (.int .u64 13835058055282163712) := q
  clear q
  go_enter Try.func13, Try.ntmps13
  go_wp2_with fail
  refine (p.at _).mono ?_; rintro e w1 ⟨rfl, hb1⟩
  go_wp2_with fail
  refine (q'.at _).mono ?_; rintro e w2 ⟨rfl, hb2⟩
  go_wp2_with fail
  go_ret
  exact ⟨rfl, bthen hb1 hb2⟩

/-! ### plain: numbers of whole numbers -/
theorem small_exact {n : Nat} (h : n ≤ 9223372036854775808) : rung n 0 < INF ∧ V (rung n 0) % U = 0 := by
  have c53 : (2 : Nat) ^ 53 = 9007199254740992 := by decide
  rcases Nat.lt_or_ge n 9007199254740993 with c | c
  · have := whole_V' n (by rw [c53]; omega)
    rw [this.2, Nat.mul_mod_left]; exact ⟨this.1, rfl⟩
  · have hi : rung n 0 < INF := by
      have h1 := rung_mono_at (q := 0) h
      have e : (9223372036854775808 : Nat) * 2 ^ E74 = 2 ^ 52 * 2 ^ (E74 + 11) := by
        rw [← c63, ← Nat.pow_add, ← Nat.pow_add]; congr 1
      have h2 := rung_exact (2 ^ 52) (E74 + 11) (by decide) (by unfold E74; decide)
      rw [← e, ← rung_zero_at] at h2
      omega
    have lo := whole_V' (2 ^ 53) (Nat.le_refl _)
    have h3 := V_mono (rung_mono_at (m := 2 ^ 53) (n := n) (q := 0) (by rw [c53]; omega))
    rw [lo.2] at h3
    refine ⟨hi, ?_⟩
    rcases unit_cases hi with d | d
    · exact d
    · omega
theorem fromI_facts {n : Int} (h0 : -9223372036854775808 ≤ n) (h1 : n < 9223372036854775808) : fromI n < W ∧ sg (fromI n) = decide (n < 0) ∧ rg (fromI n) = rung n.natAbs 0 ∧ isW (fromI n) = true := by
  obtain ⟨e1, e2⟩ := small_exact (n := n.natAbs) (by omega)
  obtain ⟨g1, g2, g3⟩ := word_facts (decide (n < 0)) (rung_le_inf n.natAbs 0)
  unfold fromI
  refine ⟨g3, g1, g2, ?_⟩
  unfold isW
  rw [g2]; exact decide_eq_true ⟨e1, e2⟩
theorem sn_nat (n : Int) : sn (decide (n < 0)) n.natAbs = n := by
  unfold sn
  by_cases h : n < 0
  · rw [decide_eq_true h, if_pos rfl]; omega
  · rw [decide_eq_false h, if_neg (by simp)]; omega
theorem toI_fromI {n : Int} (h : n.natAbs ≤ 9007199254740992) : toI (fromI n) = (n, true) := by
  have c53 : (2 : Nat) ^ 53 = 9007199254740992 := by decide
  obtain ⟨_, f2, f3, f4⟩ := fromI_facts (n := n) (by omega) (by omega)
  have v := whole_V' n.natAbs (by rw [c53]; exact h)
  unfold toI
  rw [f4, f2, f3, v.2, Nat.mul_div_cancel _ U_pos, Bool.true_and, if_pos]
  · rw [sn_nat]
  · unfold fitN
    by_cases c : n < 0
    · rw [decide_eq_true c, if_pos rfl, decide_eq_true (by omega)]
    · rw [decide_eq_false c, if_neg (by simp), decide_eq_true (by omega)]
/-- what ToInt tells is the word's number -/
theorem toI_back {a : Nat} (h : (toI a).2 = true) : rg a < INF ∧ Vi a = (toI a).1 * (U : Int) ∧ -9223372036854775808 ≤ (toI a).1 ∧ (toI a).1 < 9223372036854775808 := by
  unfold toI at h ⊢
  by_cases c : (isW a && fitN (sg a) (V (rg a) / U)) = true
  · rw [if_pos c] at h ⊢
    rw [Bool.and_eq_true] at c
    obtain ⟨f, hv⟩ := isW_facts c.1
    refine ⟨f, ?_, ?_⟩
    · show Vi a = sn (sg a) (V (rg a) / U) * (U : Int)
      rw [← sn_mul, ← hv]; rfl
    · show -9223372036854775808 ≤ sn (sg a) (V (rg a) / U) ∧ sn (sg a) (V (rg a) / U) < 9223372036854775808
      have hf := c.2
      generalize V (rg a) / U = q at *
      unfold fitN at hf
      unfold sn
      cases hs : sg a
      · rw [hs, if_neg (by simp)] at hf
        have := of_decide_eq_true hf
        rw [if_neg (by simp)]; omega
      · rw [hs, if_pos rfl] at hf
        have := of_decide_eq_true hf
        rw [if_pos rfl]; omega
  · rw [if_neg c] at h; cases h
theorem Vi_from {n : Int} {a : Nat} (h : rg a < INF) (hv : Vi a = n * (U : Int)) : rung n.natAbs 0 = rg a := by
  have e : V (rg a) = n.natAbs * U := by
    have h1 : (Vi a).natAbs = V (rg a) := by unfold Vi; exact sn_abs _ _
    rw [← h1, hv, Int.natAbs_mul, Int.natAbs_natCast]
  rw [rung_zero_at]
  show rung (n.natAbs * U) (-1074) = rg a
  rw [← e, rung_V _ (Nat.le_of_lt h)]
theorem Vi_fromI {n : Int} {a : Nat} (h : rg a < INF) (hv : Vi a = n * (U : Int)) : Vi (fromI n) = Vi a := by
  have e := Vi_from h hv
  obtain ⟨g1, g2, g3⟩ := word_facts (decide (n < 0)) (rung_le_inf n.natAbs 0)
  have e2 : V (rg a) = n.natAbs * U := by
    have h1 : (Vi a).natAbs = V (rg a) := by unfold Vi; exact sn_abs _ _
    rw [← h1, hv, Int.natAbs_mul, Int.natAbs_natCast]
  rw [hv]
  unfold fromI Vi
  rw [g1, g2, e, e2, sn_mul, sn_nat]
theorem back_eq {a : Nat} (h : (toI a).2 = true) : eqB (fromI (toI a).1) a = true := by
  obtain ⟨f, hv, _⟩ := toI_back h
  unfold eqB
  rw [decide_eq_true_iff]
  exact ⟨fromI_ok _, Nat.le_of_lt f, Vi_fromI f hv⟩
theorem back_same {a : Nat} (ha : a < W) (h : (toI a).2 = true) (h0 : rg a ≠ 0) : fromI (toI a).1 = a := by
  obtain ⟨f, hv, _⟩ := toI_back h
  have e := Vi_from f hv
  generalize (toI a).1 = n at *
  obtain ⟨g1, g2, g3⟩ := word_facts (decide (n < 0)) (rung_le_inf n.natAbs 0)
  refine word_ext g3 ha (g1.trans ?_) (g2.trans e)
  have hp := V_pos h0
  have hU := U_pos
  have hUi : (0 : Int) < (U : Int) := by omega
  unfold Vi sn at hv
  cases hs : sg a
  · rw [hs, if_neg (by simp)] at hv
    apply decide_eq_false
    intro hn
    have := Int.mul_neg_of_neg_of_pos hn hUi
    omega
  · rw [hs, if_pos rfl] at hv
    apply decide_eq_true
    apply Int.lt_of_not_ge
    intro hn
    have := Int.mul_nonneg hn (Int.le_of_lt hUi)
    omega
end Go.Proofs.Yteaegggncmhhnaa.Ans

/- The plain law of the whole numbers about a number: where they lie, how far apart, that they stay what they are, and that they turn no order about. Condition: the arguments are words of 64 bits. -/
namespace Go.Proofs.Yteaegggncmhhnaa.Ans
open Go Go.RowKit Go.Proofs.Yteaegggncmhhnaa.Ref Go.Proofs.YteaegggncmhhnaaW.PrintWords Go.Proofs.YteaegggncmhhnaaW.PrintLast Go.Proofs.YteaegggncmhhnaaW.PrintMore
open Go.Proofs.Yteaegggncmhhnaa.Num Go.Proofs.Yteaegggncmhhnaa.DigLaw Go.Proofs.Yteaegggncmhhnaa.Fl Go.Proofs.Yteaegggncmhhnaa.Dig Go.Proofs.Yteaegggncmhhnaa.Float
open Ieee (double Datum Toward)

/-! ### the difference -/
theorem wNeg_is (a : Nat) (ha : a < W) : Ev (fun k => minstrelref02_Neg.f k (a : Int)) ((negW a : Nat) : Int) := by
  obtain ⟨K, hk⟩ := kind_is a ha
  refine ⟨K, fun k hle => ?_⟩
  have h : minstrelref01_Kind.f k (a : Int) = some ((kindN a : Nat) : Int) := hk k hle
  show minstrelref02_Neg.f k (a : Int) = some ((negW a : Nat) : Int)
  unfold minstrelref02_Neg.f negW
  rw [h, Option.bind_some, nan_is, Option.bind_some, flip_xor a ha]
  by_cases c : kindN a = 4
  · rw [if_pos c, if_pos (by omega)]; rfl
  · rw [if_neg c, if_neg (by omega)]
theorem ans_refApart (a b : Nat) (ha : a < W) (hb : b < W) : Ans 27 #[.int .u64 a, .int .u64 b] (.int .u64 (addW a (negW b))) := by
  intro w
  obtain ⟨K1, h1⟩ := wNeg_is b hb
  obtain ⟨K2, h2⟩ := refAdd_is a (negW b) ha (neg_lt b)
  refine minstrelref04_Apart.calls (max K1 K2) _ _ _ w ?_
  have e1 : minstrelref02_Neg.f (max K1 K2) (b : Int) = some ((negW b : Nat) : Int) := h1 _ (by omega)
  have e2 : minstrelref02_Add.f (max K1 K2) (a : Int) ((negW b : Nat) : Int) = some ((addW a (negW b) : Nat) : Int) := h2 _ (by omega)
  unfold minstrelref04_Apart.f minstrelref02_Sub.f
  rw [e1, Option.bind_some, e2, Option.bind_some, Option.bind_some]

/-! ### where they lie -/
theorem Vi_intW (way : Toward) {a : Nat} (f : rg a < INF) : Vi (intW way a) = sn (sg a) (wholeN way a * U) := by
  obtain ⟨h1, h2, h3, h4⟩ := intW_facts way f
  unfold Vi; rw [h1, h3]
theorem intW_lt (way : Toward) {a : Nat} (ha : a < W) : intW way a < W := by
  rcases Nat.lt_trichotomy (rg a) INF with h | h | h
  · exact (intW_facts way h).2.2.2
  · rw [intW_inf way h]; exact ha
  · rw [intW_nan way h]; exact nanw_facts.2.2.1
theorem whole_same (way : Toward) {a : Nat} (h : V (rg a) % U = 0) : wholeN way a = V (rg a) / U := by
  have e : V (rg a) = V (rg a) / U * U := (zero_div.2 h).symm
  unfold wholeN
  rw [e, cut_whole _ _ _ _ U_pos, Nat.mul_div_cancel _ U_pos]
theorem intW_same (v w : Toward) {a : Nat} (f : rg a < INF) (h : V (rg a) % U = 0) : intW v a = intW w a := by
  rw [intW_fin v f, intW_fin w f, whole_same v h, whole_same w h]
theorem Vi_self (way : Toward) {a : Nat} (f : rg a < INF) (h : V (rg a) % U = 0) : Vi (intW way a) = Vi a := by
  rw [Vi_intW way f, whole_same way h, zero_div.2 h]; rfl
theorem unit_split (v : Nat) : v = v / U * U + v % U := by
  have := Nat.div_add_mod v U
  rw [Nat.mul_comm] at this; exact this.symm
theorem down_le {a : Nat} (f : rg a < INF) : Vi (intW .down a) ≤ Vi a := by
  have hs := unit_split (V (rg a))
  have hr := Nat.mod_lt (V (rg a)) U_pos
  rw [Vi_intW .down f]
  unfold Vi wholeN cutQ moreB
  dsimp only
  generalize V (rg a) / U = q at *
  generalize V (rg a) % U = r at *
  rw [hs]
  cases sg a
  · rw [sn_f, sn_f]; show (((q + 0) * U : Nat) : Int) ≤ _; rw [Nat.add_zero]; omega
  · rw [sn_t, sn_t]
    by_cases z : r = 0
    · rw [decide_eq_false (by omega)]; show -(((q + 0) * U : Nat) : Int) ≤ _; rw [Nat.add_zero]; omega
    · rw [decide_eq_true z]; show -(((q + 1) * U : Nat) : Int) ≤ _; rw [Nat.add_mul, Nat.one_mul]; omega
theorem up_ge {a : Nat} (f : rg a < INF) : Vi a ≤ Vi (intW .up a) := by
  have hs := unit_split (V (rg a))
  have hr := Nat.mod_lt (V (rg a)) U_pos
  rw [Vi_intW .up f]
  unfold Vi wholeN cutQ moreB
  dsimp only
  generalize V (rg a) / U = q at *
  generalize V (rg a) % U = r at *
  rw [hs]
  cases sg a
  · rw [sn_f, sn_f]
    by_cases z : r = 0
    · rw [decide_eq_false (by omega)]; show _ ≤ (((q + 0) * U : Nat) : Int); rw [Nat.add_zero]; omega
    · rw [decide_eq_true z]; show _ ≤ (((q + 1) * U : Nat) : Int); rw [Nat.add_mul, Nat.one_mul]; omega
  · rw [sn_t, sn_t]; show _ ≤ -(((q + 0) * U : Nat) : Int); rw [Nat.add_zero]; omega
theorem zero_down {a : Nat} (h : sg a = false) : intW .down a = intW .zero a := by
  unfold intW wholeN cutQ moreB; rw [h]; rfl
theorem zero_up {a : Nat} (h : sg a = true) : intW .up a = intW .zero a := by
  unfold intW wholeN cutQ moreB; rw [h]; rfl
/-- how far the two about a number lie apart that is not whole itself -/
theorem apart_one {a : Nat} (f : rg a < INF) (h : V (rg a) % U ≠ 0) : Vi (intW .up a) = Vi (intW .down a) + (U : Int) := by
  rw [Vi_intW .up f, Vi_intW .down f]
  unfold wholeN cutQ moreB
  dsimp only
  rw [decide_eq_true h]
  generalize V (rg a) / U = q
  cases sg a
  · rw [sn_f, sn_f]; show (((q + 1) * U : Nat) : Int) = (((q + 0) * U : Nat) : Int) + _; rw [Nat.add_mul, Nat.add_zero]; omega
  · rw [sn_t, sn_t]; show -(((q + 0) * U : Nat) : Int) = -(((q + 1) * U : Nat) : Int) + _; rw [Nat.add_zero, Nat.add_mul q 1 U, Nat.one_mul]; omega
/-- the nearest is one of the two -/
theorem near_one {a : Nat} (f : rg a < INF) : Vi (intW .even a) = Vi (intW .down a) ∨ Vi (intW .even a) = Vi (intW .up a) := by
  by_cases h : V (rg a) % U = 0
  · left; rw [Vi_self .even f h, Vi_self .down f h]
  · rw [Vi_intW .up f, Vi_intW .down f, Vi_intW .even f]
    have e : wholeN .even a = V (rg a) / U ∨ wholeN .even a = V (rg a) / U + 1 := by
      unfold wholeN cutQ
      cases moreB .even (sg a) (V (rg a) / U) (V (rg a) % U) U
      · left; rfl
      · right; rfl
    unfold wholeN cutQ moreB at *
    dsimp only at *
    rw [decide_eq_true h]
    cases hs : sg a
    · rcases e with e | e
      · left; rw [e]; rfl
      · right; rw [e]; rfl
    · rcases e with e | e
      · right; rw [e]; rfl
      · left; rw [e]; rfl
def ONE : Nat := 4607182418800017408
def E22 : Nat := 1022
theorem one_facts : rg ONE = 1023 * 2 ^ 52 ∧ ONE = rg ONE ∧ rg ONE < INF := by decide +kernel
theorem V_one : V (rg ONE) = U := by
  rw [one_facts.1]
  have := V_binade E22 (2 ^ 52) (by decide) (Or.inr (Nat.le_refl _))
  rw [show E22 * 2 ^ 52 + 2 ^ 52 = 1023 * 2 ^ 52 from by decide] at this
  rw [this, ← Nat.pow_add, show U = 2 ^ E74 from rfl, show 52 + E22 = E74 from by unfold E22 E74; decide]
theorem apart_is {a : Nat} (f : rg a < INF) (h : V (rg a) % U ≠ 0) : addW (intW .up a) (negW (intW .down a)) = ONE := by
  obtain ⟨_, u2, _, _⟩ := intW_facts .up f
  obtain ⟨_, d2, _, _⟩ := intW_facts .down f
  have e := apart_one f h
  rw [neg_num (Nat.le_of_lt d2)]
  obtain ⟨p1, p2, _⟩ := flip_facts (intW .down a)
  have v3 : Vi (flipW (intW .down a)) = -Vi (intW .down a) := by
    unfold Vi; rw [p1, p2]; cases sg (intW .down a)
    · rfl
    · show sn false _ = - -(V (rg (intW .down a)) : Int); rw [Int.neg_neg]; rfl
  unfold addW
  rw [add_fin u2 (by rw [p2]; exact d2), v3, e, Option.getD_some, show Vi (intW .down a) + (U : Int) + -Vi (intW .down a) = (U : Int) by omega]
  unfold wordI
  have hU := U_pos
  rw [if_neg (by omega), decide_eq_false (by omega), word_false, Int.natAbs_natCast, ← V_one, rung_V _ (Nat.le_of_lt one_facts.2.2)]
  exact one_facts.2.1.symm
theorem less_no {a b : Nat} (h : Vi b ≤ Vi a) : lessB a b = false := by
  unfold lessB; rw [decide_eq_false_iff_not]; intro x; omega
theorem eqB_vi {a b : Nat} (ha : rg a ≤ INF) (hb : rg b ≤ INF) : eqB a b = decide (Vi a = Vi b) := by
  unfold eqB; exact decide_eq_decide.2 ⟨fun h => h.2.2, fun h => ⟨ha, hb, h⟩⟩

/-! ### they stay what they are -/
theorem whole_twice (v w : Toward) (a : Nat) : intW v (intW w a) = intW w a := by
  rcases Nat.lt_trichotomy (rg a) INF with h | h | h
  · obtain ⟨h1, h2, h3, h4⟩ := intW_facts w h
    have z : V (rg (intW w a)) % U = 0 := by rw [h3, Nat.mul_mod_left]
    have e : wholeN v (intW w a) = wholeN w a := by rw [whole_same v z, h3, Nat.mul_div_cancel _ U_pos]
    rw [intW_fin v h2, e, h1]
    exact (intW_fin w h).symm
  · rw [intW_inf w h, intW_inf v h]
  · rw [intW_nan w h, intW_nan v nanw_nan]
theorem is_whole (w : Toward) (a : Nat) : isW (intW w a) = decide (kindN (intW w a) < 3) := by
  rcases Nat.lt_or_ge (rg a) INF with h | h
  · obtain ⟨h1, h2, h3, h4⟩ := intW_facts w h
    unfold isW
    rw [decide_eq_true ⟨h2, by rw [h3, Nat.mul_mod_left]⟩, decide_eq_true ((fin_kind _).2 h2)]
  · have h2 : ¬ rg (intW w a) < INF := by
      rcases Nat.lt_or_ge INF (rg a) with c | c
      · rw [intW_nan w c]; have := nanw_nan; omega
      · rw [intW_inf w (by omega)]; omega
    unfold isW
    rw [decide_eq_false (fun x => h2 x.1), decide_eq_false (fun x => h2 ((fin_kind _).1 x))]

/-! ### they turn no order about -/
theorem more_mono (way : Toward) (s : Bool) (q : Nat) {r t g : Nat} (h : r ≤ t) : (moreB way s q r g).toNat ≤ (moreB way s q t g).toNat := by
  have key : moreB way s q r g = true → moreB way s q t g = true := by
    unfold moreB
    cases way
    · dsimp only
      intro h1
      have h2 := of_decide_eq_true h1
      apply decide_eq_true
      rcases h2 with h2 | h2
      · left; omega
      · rcases Nat.lt_or_ge g (2 * t) with c | c
        · left; exact c
        · right; exact ⟨by omega, h2.2⟩
    · dsimp only
      rw [Bool.and_eq_true, Bool.and_eq_true]
      intro h1
      have h2 := of_decide_eq_true h1.2
      exact ⟨h1.1, decide_eq_true (by omega)⟩
    · dsimp only
      rw [Bool.and_eq_true, Bool.and_eq_true]
      intro h1
      have h2 := of_decide_eq_true h1.2
      exact ⟨h1.1, decide_eq_true (by omega)⟩
    · intro h1; cases h1
  cases h1 : moreB way s q r g
  · exact Nat.zero_le _
  · rw [key h1]; exact Nat.le_refl _
theorem cut_mono (way : Toward) (s : Bool) {m n : Nat} (h : m ≤ n) : cutQ way s m U ≤ cutQ way s n U := by
  have hq := Nat.div_le_div_right (c := U) h
  rcases Nat.lt_or_ge (m / U) (n / U) with c | c
  · unfold cutQ
    have := Bool.toNat_le (moreB way s (m / U) (m % U) U)
    omega
  · have e : m / U = n / U := Nat.le_antisymm hq c
    have h1 := unit_split m
    have h2 := unit_split n
    unfold cutQ
    rw [e] at h1 ⊢
    have := more_mono way s (n / U) (r := m % U) (t := n % U) (g := U) (by omega)
    omega
theorem intW_num (way : Toward) {a : Nat} (h : rg a ≤ INF) : rg (intW way a) ≤ INF := by
  rcases Nat.lt_or_ge (rg a) INF with f | f
  · exact Nat.le_of_lt (intW_facts way f).2.1
  · rw [intW_inf way (by omega)]; exact h
theorem sn_bounds (s : Bool) {v m : Nat} (h : v ≤ m) : -(m : Int) ≤ sn s v ∧ sn s v ≤ (m : Int) := by
  cases s
  · rw [sn_f]; omega
  · rw [sn_t]; omega
theorem whole_rises (way : Toward) {a b : Nat} (ha : rg a ≤ INF) (hb : rg b ≤ INF) (h : Vi a < Vi b) : Vi (intW way a) ≤ Vi (intW way b) := by
  have key : ∀ {c : Nat}, rg c ≤ INF → -(V INF : Int) ≤ Vi (intW way c) ∧ Vi (intW way c) ≤ (V INF : Int) := by
    intro c hc
    exact sn_bounds _ (V_mono (intW_num way hc))
  rcases Nat.lt_or_ge (rg a) INF with fa | fa
  · rcases Nat.lt_or_ge (rg b) INF with fb | fb
    · rw [Vi_intW way fa, Vi_intW way fb]
      unfold Vi at h
      unfold wholeN
      cases sa : sg a
      · cases sb : sg b
        · rw [sa, sb, sn_f, sn_f] at h
          rw [sn_f, sn_f]
          have := Nat.mul_le_mul_right U (cut_mono way false (m := V (rg a)) (n := V (rg b)) (by omega))
          omega
        · rw [sa, sb, sn_f, sn_t] at h; omega
      · cases sb : sg b
        · rw [sn_t, sn_f]; omega
        · rw [sa, sb, sn_t, sn_t] at h
          rw [sn_t, sn_t]
          have := Nat.mul_le_mul_right U (cut_mono way true (m := V (rg b)) (n := V (rg a)) (by omega))
          omega
    · have eb : rg b = INF := by omega
      rw [intW_inf way eb]
      have k := key ha
      have hx := sn_bounds (sg a) (Nat.le_of_lt (V_lt_inf fa))
      unfold Vi at h
      unfold Vi at *
      have eV : V (rg b) = V INF := congrArg V eb
      cases sb : sg b
      · rw [sn_f, eV]; exact k.2
      · rw [sb, sn_t] at h; omega
  · have ea : rg a = INF := by omega
    rw [intW_inf way ea]
    have k := key hb
    have hx := sn_bounds (sg b) (V_mono hb)
    unfold Vi at h
    unfold Vi at *
    have eV : V (rg a) = V INF := congrArg V ea
    cases sa : sg a
    · rw [sa, sn_f] at h; omega
    · rw [sn_t, eV]; exact k.1
end Go.Proofs.Yteaegggncmhhnaa.Ans
