/- Plain law of layer 16: the mixing of a state loses nothing (each step has an inverse), and the state before the one that is 0 tells 0. No conditions but the ranges. -/
import Derived.Test.YtijjofdnkdfccaaNum
namespace Go.Proofs.Ytijjofdnkdfccaa.RandLaw
open Go Go.RowKit Go.Proofs.Ytijjofdnkdfccaa.Num

def xs (n x : Nat) : Nat := x ^^^ (x / 2 ^ n)
def M : Nat := 18446744073709551616
theorem M_eq : M = 2 ^ 64 := by decide

theorem xs_lt (n x : Nat) (h : x < M) : xs n x < M := by
  rw [M_eq] at *
  exact Nat.xor_lt_two_pow h (Nat.lt_of_le_of_lt (Nat.div_le_self _ _) h)

theorem xs_back (n x : Nat) (h : x < M) (hn : 64 ≤ 3 * n) : xs n x ^^^ (xs n x / 2 ^ n) ^^^ (xs n x / 2 ^ (2 * n)) = x := by
  apply Nat.eq_of_testBit_eq
  intro i
  simp only [xs, ← Nat.shiftRight_eq_div_pow, Nat.testBit_xor, Nat.testBit_shiftRight]
  have h3 : x.testBit (n + (2 * n + i)) = false := by
    apply Nat.testBit_lt_two_pow
    rw [M_eq] at h
    exact Nat.lt_of_lt_of_le h (Nat.pow_le_pow_right (by decide) (by omega))
  have e1 : n + (n + i) = 2 * n + i := by omega
  rw [h3, e1]
  cases x.testBit i <;> cases x.testBit (n + i) <;> cases x.testBit (2 * n + i) <;> rfl

theorem xs_inj (n x y : Nat) (hx : x < M) (hy : y < M) (hn : 64 ≤ 3 * n) (h : xs n x = xs n y) : x = y := by
  rw [← xs_back n x hx hn, ← xs_back n y hy hn, h]

theorem mul_inj (c d x y : Nat) (hx : x < M) (hy : y < M) (hc : c * d % M = 1) (h : x * c % M = y * c % M) : x = y := by
  have key : ∀ z : Nat, z < M → (z * c % M) * d % M = z := by
    intro z hz
    rw [Nat.mul_mod, Nat.mod_mod, ← Nat.mul_mod, Nat.mul_assoc, Nat.mul_mod, hc, Nat.mul_one, Nat.mod_mod, Nat.mod_eq_of_lt hz]
  rw [← key x hx, ← key y hy, h]

def mixed (s : Nat) : Nat :=
  xs 31 (xs 27 (xs 30 s * 13787848793156543929 % M) * 10723151780598845931 % M)

theorem mod_M (z : Nat) : z % M < M := Nat.mod_lt _ (by decide)

theorem mixed_lt (s : Nat) : mixed s < M := xs_lt _ _ (mod_M _)

theorem mixed_inj (s t : Nat) (hs : s < M) (ht : t < M) (h : mixed s = mixed t) : s = t := by
  have h1 := xs_inj 31 _ _ (mod_M _) (mod_M _) (by omega) h
  have h2 := mul_inj 10723151780598845931 3573116690164977347 _ _ (xs_lt _ _ (mod_M _)) (xs_lt _ _ (mod_M _)) (by decide +kernel) h1
  have h3 := xs_inj 27 _ _ (mod_M _) (mod_M _) (by omega) h2
  have h4 := mul_inj 13787848793156543929 10871156337175269513 _ _ (xs_lt _ _ hs) (xs_lt _ _ ht) (by decide +kernel) h3
  exact xs_inj 30 _ _ hs ht (by omega) h4

def stp (s : Nat) : Nat := (s + 11400714819323198485) % M
theorem stp_lt (s : Nat) : stp s < M := mod_M _
theorem stp_inj (s t : Nat) (hs : s < M) (ht : t < M) (h : stp s = stp t) : s = t := by
  unfold stp M at *; omega

theorem mixed_zero : mixed 0 = 0 := by decide +kernel

/-- what Go's text computes -/
theorem xs_go (n p a : Nat) (ha : a < M) (hp : 2 ^ n = p) : bits .xor .u64 (a : Int) ((a : Int) / ((p : Nat) : Int)) = ((xs n a : Nat) : Int) := by
  subst hp
  rw [show ((a : Int) / ((2 ^ n : Nat) : Int)) = ((a / 2 ^ n : Nat) : Int) from by rw [Int.natCast_ediv]]
  exact xor_nat _ _ ha (Nat.lt_of_le_of_lt (Nat.div_le_self _ _) ha)

theorem mul_go (a c : Nat) : IntKind.u64.wrap ((a : Int) * ((c : Nat) : Int)) = ((a * c % M : Nat) : Int) := by
  rw [← Int.natCast_mul, u64nat]; rfl

theorem stp_go (s : Nat) : IntKind.u64.wrap ((s : Int) + 11400714819323198485) = ((stp s : Nat) : Int) := by
  rw [show (s : Int) + 11400714819323198485 = ((s + 11400714819323198485 : Nat) : Int) from by omega, u64nat]; rfl

theorem mixed_go (a : Nat) (ha : a < M) :
    bits .xor .u64 (IntKind.u64.wrap ((bits .xor .u64 (IntKind.u64.wrap ((bits .xor .u64 (a : Int) ((a : Int) / 1073741824)) * 13787848793156543929)) ((IntKind.u64.wrap ((bits .xor .u64 (a : Int) ((a : Int) / 1073741824)) * 13787848793156543929)) / 134217728)) * 10723151780598845931)) ((IntKind.u64.wrap ((bits .xor .u64 (IntKind.u64.wrap ((bits .xor .u64 (a : Int) ((a : Int) / 1073741824)) * 13787848793156543929)) ((IntKind.u64.wrap ((bits .xor .u64 (a : Int) ((a : Int) / 1073741824)) * 13787848793156543929)) / 134217728)) * 10723151780598845931)) / 2147483648) = ((mixed a : Nat) : Int) := by
  rw [show (1073741824 : Int) = ((1073741824 : Nat) : Int) from rfl, show (134217728 : Int) = ((134217728 : Nat) : Int) from rfl, show (2147483648 : Int) = ((2147483648 : Nat) : Int) from rfl, show (13787848793156543929 : Int) = ((13787848793156543929 : Nat) : Int) from rfl, show (10723151780598845931 : Int) = ((10723151780598845931 : Nat) : Int) from rfl]
  rw [xs_go 30 _ a ha (by decide), mul_go, xs_go 27 _ _ (mod_M _) (by decide), mul_go, xs_go 31 _ _ (mod_M _) (by decide)]
  rfl

/-- after k more rounds the state is 0: each state comes to 0 -/
theorem reach (s : Nat) (hs : s < M) : ∃ k : Nat, (s + (k + 1) * 11400714819323198485) % M = 0 := by
  -- the step has an inverse modulo M
  refine ⟨((M - s) * 17428512612931826493) % M + (M - 1), ?_⟩
  have e : ((M - s) * 17428512612931826493 % M + (M - 1) + 1) = ((M - s) * 17428512612931826493 % M + M) := by unfold M; omega
  rw [e, Nat.add_mul, ← Nat.add_assoc, Nat.add_mul_mod_self_left, Nat.add_mod, Nat.mul_mod, Nat.mod_mod, ← Nat.mul_mod, Nat.mul_assoc, Nat.mul_mod, show (17428512612931826493 * 11400714819323198485) % M = 1 from by decide +kernel, Nat.mul_one, Nat.mod_mod, ← Nat.add_mod]
  rw [show s + (M - s) = M from by unfold M at *; omega]; decide
end Go.Proofs.Ytijjofdnkdfccaa.RandLaw
