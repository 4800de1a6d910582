/- Plain law: the kinds of words, and products where an operand is no finite number. -/
import Derived.Test.YtijjofdnkdfccaaRefA
namespace Go.Proofs.Ytijjofdnkdfccaa.Dig
open Go.RowKit Go.Proofs.Ytijjofdnkdfccaa.Ref Go.Proofs.YtijjofdnkdfccaaW.PrintWords Go.Proofs.YtijjofdnkdfccaaW.PrintLast Go.Proofs.YtijjofdnkdfccaaW.PrintMore
open Go.Proofs.Ytijjofdnkdfccaa.Num Go.Proofs.Ytijjofdnkdfccaa.DigLaw Go.Proofs.Ytijjofdnkdfccaa.Fl
open Ieee (double)

def NANW : Nat := 9221120237041090560
def mulW (a b : Nat) : Nat := (double.mul a b).getD NANW
def addW (a b : Nat) : Nat := (double.add a b).getD NANW

theorem kind_vals (a : Nat) : kindN a = 0 ∨ kindN a = 1 ∨ kindN a = 2 ∨ kindN a = 3 ∨ kindN a = 4 := by
  rcases kind_facts a with ⟨hk, _⟩ | ⟨hk, _⟩ | ⟨hk, _⟩ | ⟨hk, _⟩ | ⟨hk, _⟩ <;> rw [hk] <;> decide
theorem nan_kind (a : Nat) : kindN a = 4 ↔ INF < rg a := by
  rcases kind_facts a with ⟨hk, h⟩ | ⟨hk, h⟩ | ⟨hk, h⟩ | ⟨hk, h⟩ | ⟨hk, h⟩ <;> rw [hk]
  · exact ⟨fun _ => h, fun _ => rfl⟩
  · exact ⟨fun e => by omega, fun e => by omega⟩
  · exact ⟨fun e => by omega, fun e => by omega⟩
  · have := cINF; exact ⟨fun e => by omega, fun e => by omega⟩
  · exact ⟨fun e => by omega, fun e => by omega⟩
theorem inf_kind (a : Nat) : kindN a = 3 ↔ rg a = INF := by
  rcases kind_facts a with ⟨hk, h⟩ | ⟨hk, h⟩ | ⟨hk, h⟩ | ⟨hk, h⟩ | ⟨hk, h⟩ <;> rw [hk]
  · exact ⟨fun e => by omega, fun e => by omega⟩
  · exact ⟨fun _ => h, fun _ => rfl⟩
  · have := cINF; exact ⟨fun e => by omega, fun e => by omega⟩
  · have := cINF; exact ⟨fun e => by omega, fun e => by omega⟩
  · exact ⟨fun e => by omega, fun e => by omega⟩
theorem zero_kind (a : Nat) : kindN a = 0 ↔ rg a = 0 := by
  have hI := cINF
  rcases kind_facts a with ⟨hk, h⟩ | ⟨hk, h⟩ | ⟨hk, h⟩ | ⟨hk, h⟩ | ⟨hk, h⟩ <;> rw [hk]
  · exact ⟨fun e => by omega, fun e => by omega⟩
  · exact ⟨fun e => by omega, fun e => by omega⟩
  · exact ⟨fun _ => h, fun _ => rfl⟩
  · exact ⟨fun e => by omega, fun e => by omega⟩
  · exact ⟨fun e => by omega, fun e => by omega⟩
theorem fin_kind (a : Nat) : kindN a < 3 ↔ rg a < INF := by
  have hI := cINF
  rcases kind_facts a with ⟨hk, h⟩ | ⟨hk, h⟩ | ⟨hk, h⟩ | ⟨hk, h⟩ | ⟨hk, h⟩ <;> rw [hk]
  · exact ⟨fun e => by omega, fun e => by omega⟩
  · exact ⟨fun e => by omega, fun e => by omega⟩
  · exact ⟨fun e => by omega, fun e => by omega⟩
  · exact ⟨fun e => by omega, fun e => by omega⟩
  · exact ⟨fun e => by omega, fun e => by omega⟩
theorem xor_bne (s t : Bool) : (s != t) = (s ^^ t) := by cases s <;> cases t <;> rfl

/-! ### Mul -/
theorem mul_nan {a b : Nat} (h : INF < rg a ∨ INF < rg b) : double.mul a b = none := by
  unfold Ieee.Format.mul
  rcases h with h | h
  · rw [read_nan h]; rfl
  · rw [read_nan h]; cases double.read a <;> rfl
theorem read_zero {a : Nat} (h : rg a = 0) : double.read a = .number (sg a) 0 (-1074) := by
  rw [read_eq, h, if_pos (by decide)]
theorem mul_zi {a b : Nat} (ha : rg a = 0) (hb : rg b = INF) : double.mul a b = none := by
  unfold Ieee.Format.mul; rw [read_zero ha, read_inf hb]; rfl
theorem mul_iz {a b : Nat} (ha : rg a = INF) (hb : rg b = 0) : double.mul a b = none := by
  unfold Ieee.Format.mul; rw [read_inf ha, read_zero hb]; rfl
theorem mag_pos {a m : Nat} {p : Int} (h : rg a ≠ 0) (hv : m * 2 ^ (p + 1074).toNat = V (rg a)) : m ≠ 0 := by
  intro e; rw [e, Nat.zero_mul] at hv
  have h1 := V_strict (a := 0) (b := rg a) (by omega)
  omega
theorem mul_ii {a b : Nat} (ha : rg a = INF) (hb : rg b = INF) : double.mul a b = some (double.word (sg a ^^ sg b) INF) := by
  unfold Ieee.Format.mul; rw [read_inf ha, read_inf hb, ← infRung_eq]; rfl
theorem mul_if {a b : Nat} (ha : rg a = INF) (hb : rg b < INF) (h0 : rg b ≠ 0) : double.mul a b = some (double.word (sg a ^^ sg b) INF) := by
  obtain ⟨m, p, e, _, hv⟩ := read_fin hb
  unfold Ieee.Format.mul
  rw [read_inf ha, e, ← infRung_eq]
  simp only [Ieee.Datum.product, if_neg (mag_pos h0 hv)]; rfl
theorem mul_fi {a b : Nat} (hb : rg b = INF) (ha : rg a < INF) (h0 : rg a ≠ 0) : double.mul a b = some (double.word (sg a ^^ sg b) INF) := by
  obtain ⟨m, p, e, _, hv⟩ := read_fin ha
  unfold Ieee.Format.mul
  rw [read_inf hb, e, ← infRung_eq]
  simp only [Ieee.Datum.product, if_neg (mag_pos h0 hv)]
  rw [Bool.xor_comm]; rfl

end Go.Proofs.Ytijjofdnkdfccaa.Dig
