/-
  No cell of these rows narrows 'for every input' (looked for: loops, veiled, ifaces, maps, wideKeys, modest, calm, conditions, laid).
  DERIVED. THE GIVEN ROWS OF THIS SEAT. 5 by the template 'for every input the law returns true; each argument reads behind the call as it read before'; 0 by the template 'total and deterministic' (their statements: YtijjofdnkdfccaaTotals.lean).
  GIVEN WITH THE SEED: the statements are not yours to turn. If you find one false, say at which input.
  Laid BY PROGRAM, IN A SANDBOX (cutbox-rows.mjs): the forced cells as the released guide's own fill.sh prints them over the translation fdef8b3a0e3205cc… (all of the seat's roots in one cut). By AI agents, Wed Nov 11 2026. No macro, syntax, notation, axiom, sorry.
-/
import Derived.Test.YtijjofdnkdfccaaChecked
import GoSem.Claim
import GoSem.ClaimJoined
import GoSem.ClaimMapViews
import Derived.JoinedTies
import Derived.KernelRfl
namespace Go.Proofs.Ytijjofdnkdfccaa
/- THE CELL 'sum', in the pinned program and in every row, IS THE sha256 OF THE DUMP (.gsa) THAT YtijjofdnkdfccaaProg.lean LOADS. Nothing in Lean hashes anything: it is a label: what it is worth is what the hold of that sum in a sandbox is worth. -/
noncomputable def Try.pinned : Pinned := { name := "ytijjofdnkdfccaa", sum := "fdef8b3a0e3205cc29f8064b81ddef6e49abbc44c44c91dc5222884049345bbb", checked := Try.checked }
namespace Rows
def none {H : Type} : Left H := { results := [], args := [] }

/-- 'minstrellaw16.RandNext': WHATEVER THE INPUT: true; the input reads as it did. -/
def randNextSpec : ChangeSpec := { name := "randNext", fn := fun _ => fun
  | [d1, d2] => { results := [.lit (.bool true)], args := [d1, d2] }
  | _ => none }
def randNextRow : OpenClaim := { program := "ytijjofdnkdfccaa", sum := "fdef8b3a0e3205cc29f8064b81ddef6e49abbc44c44c91dc5222884049345bbb", func := "minstrel/minstrellaw16.RandNext", spec := "randNext", apart := false }
def RandNextSaid : Prop := randNextRow.holds Try.pinned (OpenSpec.ofChange randNextSpec)

/-- ITS FALSE NEIGHBOUR: 'it returns false'. Refute it at one input. -/
def randNextWrong : ChangeSpec := { name := "randNext", fn := fun _ => fun
  | [d1, d2] => { results := [.lit (.bool false)], args := [d1, d2] }
  | _ => none }
def RandNextWrongFalsely : Prop := randNextRow.holds Try.pinned (OpenSpec.ofChange randNextWrong)

/-- 'minstrellaw16.RandUnit': WHATEVER THE INPUT: true; the input reads as it did. -/
def randUnitSpec : ChangeSpec := { name := "randUnit", fn := fun _ => fun
  | [d] => { results := [.lit (.bool true)], args := [d] }
  | _ => none }
def randUnitRow : OpenClaim := { program := "ytijjofdnkdfccaa", sum := "fdef8b3a0e3205cc29f8064b81ddef6e49abbc44c44c91dc5222884049345bbb", func := "minstrel/minstrellaw16.RandUnit", spec := "randUnit", inPlace := ["math.Float64bits"], apart := false }
def RandUnitSaid : Prop := randUnitRow.holds Try.pinned (OpenSpec.ofChange randUnitSpec)

/-- ITS FALSE NEIGHBOUR: 'it returns false'. Refute it at one input. -/
def randUnitWrong : ChangeSpec := { name := "randUnit", fn := fun _ => fun
  | [d] => { results := [.lit (.bool false)], args := [d] }
  | _ => none }
def RandUnitWrongFalsely : Prop := randUnitRow.holds Try.pinned (OpenSpec.ofChange randUnitWrong)

/-- 'minstrellaw16.RandSeeds': WHATEVER THE INPUT: true; the input reads as it did. -/
def randSeedsSpec : ChangeSpec := { name := "randSeeds", fn := fun _ => fun
  | [d] => { results := [.lit (.bool true)], args := [d] }
  | _ => none }
def randSeedsRow : OpenClaim := { program := "ytijjofdnkdfccaa", sum := "fdef8b3a0e3205cc29f8064b81ddef6e49abbc44c44c91dc5222884049345bbb", func := "minstrel/minstrellaw16.RandSeeds", spec := "randSeeds", apart := false }
def RandSeedsSaid : Prop := randSeedsRow.holds Try.pinned (OpenSpec.ofChange randSeedsSpec)

/-- ITS FALSE NEIGHBOUR: 'it returns false'. Refute it at one input. -/
def randSeedsWrong : ChangeSpec := { name := "randSeeds", fn := fun _ => fun
  | [d] => { results := [.lit (.bool false)], args := [d] }
  | _ => none }
def RandSeedsWrongFalsely : Prop := randSeedsRow.holds Try.pinned (OpenSpec.ofChange randSeedsWrong)

/-- 'minstrellaw16.RandBelow': WHATEVER THE INPUT: true; the input reads as it did. -/
def randBelowSpec : ChangeSpec := { name := "randBelow", fn := fun _ => fun
  | [d1, d2] => { results := [.lit (.bool true)], args := [d1, d2] }
  | _ => none }
def randBelowRow : OpenClaim := { program := "ytijjofdnkdfccaa", sum := "fdef8b3a0e3205cc29f8064b81ddef6e49abbc44c44c91dc5222884049345bbb", func := "minstrel/minstrellaw16.RandBelow", spec := "randBelow", apart := false }
def RandBelowSaid : Prop := randBelowRow.holds Try.pinned (OpenSpec.ofChange randBelowSpec)

/-- ITS FALSE NEIGHBOUR: 'it returns false'. Refute it at one input. -/
def randBelowWrong : ChangeSpec := { name := "randBelow", fn := fun _ => fun
  | [d1, d2] => { results := [.lit (.bool false)], args := [d1, d2] }
  | _ => none }
def RandBelowWrongFalsely : Prop := randBelowRow.holds Try.pinned (OpenSpec.ofChange randBelowWrong)

/-- 'minstrellaw16.RandPowers': WHATEVER THE INPUT: true; the input reads as it did. -/
def randPowersSpec : ChangeSpec := { name := "randPowers", fn := fun _ => fun
  | [d1, d2] => { results := [.lit (.bool true)], args := [d1, d2] }
  | _ => none }
def randPowersRow : OpenClaim := { program := "ytijjofdnkdfccaa", sum := "fdef8b3a0e3205cc29f8064b81ddef6e49abbc44c44c91dc5222884049345bbb", func := "minstrel/minstrellaw16.RandPowers", spec := "randPowers", apart := false }
def RandPowersSaid : Prop := randPowersRow.holds Try.pinned (OpenSpec.ofChange randPowersSpec)

/-- ITS FALSE NEIGHBOUR: 'it returns false'. Refute it at one input. -/
def randPowersWrong : ChangeSpec := { name := "randPowers", fn := fun _ => fun
  | [d1, d2] => { results := [.lit (.bool false)], args := [d1, d2] }
  | _ => none }
def RandPowersWrongFalsely : Prop := randPowersRow.holds Try.pinned (OpenSpec.ofChange randPowersWrong)

/- THE SECOND FORM. 'bulk': how many values and letters a reading holds, each counted each time it is reached (what is shared counts as often as it is met; a slice's spare places count too). A statement '..UptoSaid' is the law's where the arguments, and the package variables that the reading takes, are together of bulk at most 1048576: NARROWER than '..Said'. Prove '..Said' where nothing that the law and all that it calls make is longer than what came in: it says more and counts as full. Else prove '..UptoSaid'. A law counts once. -/
mutual
def uptoBulk {H : Type} : DataW H → Nat
  | .lit (.string bytes) => bytes.length + 1
  | .lit _ => 1
  | .nil => 1
  | .ptr d => uptoBulk d + 1
  | .slice elems spare => uptoBulkAll elems + uptoBulkAll spare + 1
  | .agg parts => uptoBulkAll parts + 1
  | .iface _ d => uptoBulk d + 1
  | .map entries => uptoBulkEntries entries + 1
  | .held _ => 1
def uptoBulkAll {H : Type} : List (DataW H) → Nat
  | [] => 0
  | d :: r => uptoBulk d + uptoBulkAll r
def uptoBulkEntries {H : Type} : List (Lit × DataW H) → Nat
  | [] => 0
  | x :: r => uptoBulkEntry x + uptoBulkEntries r
def uptoBulkEntry {H : Type} : Lit × DataW H → Nat
  | (.string bytes, d) => bytes.length + uptoBulk d + 1
  | (_, d) => uptoBulk d + 1
 end
def uptoSmall : (H : Type) → List (DataW H) → Bool := fun _ ds => decide (uptoBulkAll ds ≤ 1048576)
def OpenSpec.upto (s : _root_.Go.ChangeSpec) : _root_.Go.OpenSpec := { _root_.Go.OpenSpec.ofChange s with cond := some uptoSmall }

/-- 'minstrellaw16.RandNext', WHERE WHAT IT READS IS OF BULK AT MOST 1048576: true; the input reads as it did. -/
def randNextUptoRow : OpenClaim := { program := "ytijjofdnkdfccaa", sum := "fdef8b3a0e3205cc29f8064b81ddef6e49abbc44c44c91dc5222884049345bbb", func := "minstrel/minstrellaw16.RandNext", spec := "randNext", apart := false, narrowed := true }
def RandNextUptoSaid : Prop := randNextUptoRow.holds Try.pinned (OpenSpec.upto randNextSpec)

/-- 'minstrellaw16.RandUnit', WHERE WHAT IT READS IS OF BULK AT MOST 1048576: true; the input reads as it did. -/
def randUnitUptoRow : OpenClaim := { program := "ytijjofdnkdfccaa", sum := "fdef8b3a0e3205cc29f8064b81ddef6e49abbc44c44c91dc5222884049345bbb", func := "minstrel/minstrellaw16.RandUnit", spec := "randUnit", inPlace := ["math.Float64bits"], apart := false, narrowed := true }
def RandUnitUptoSaid : Prop := randUnitUptoRow.holds Try.pinned (OpenSpec.upto randUnitSpec)

/-- 'minstrellaw16.RandSeeds', WHERE WHAT IT READS IS OF BULK AT MOST 1048576: true; the input reads as it did. -/
def randSeedsUptoRow : OpenClaim := { program := "ytijjofdnkdfccaa", sum := "fdef8b3a0e3205cc29f8064b81ddef6e49abbc44c44c91dc5222884049345bbb", func := "minstrel/minstrellaw16.RandSeeds", spec := "randSeeds", apart := false, narrowed := true }
def RandSeedsUptoSaid : Prop := randSeedsUptoRow.holds Try.pinned (OpenSpec.upto randSeedsSpec)

/-- 'minstrellaw16.RandBelow', WHERE WHAT IT READS IS OF BULK AT MOST 1048576: true; the input reads as it did. -/
def randBelowUptoRow : OpenClaim := { program := "ytijjofdnkdfccaa", sum := "fdef8b3a0e3205cc29f8064b81ddef6e49abbc44c44c91dc5222884049345bbb", func := "minstrel/minstrellaw16.RandBelow", spec := "randBelow", apart := false, narrowed := true }
def RandBelowUptoSaid : Prop := randBelowUptoRow.holds Try.pinned (OpenSpec.upto randBelowSpec)

/-- 'minstrellaw16.RandPowers', WHERE WHAT IT READS IS OF BULK AT MOST 1048576: true; the input reads as it did. -/
def randPowersUptoRow : OpenClaim := { program := "ytijjofdnkdfccaa", sum := "fdef8b3a0e3205cc29f8064b81ddef6e49abbc44c44c91dc5222884049345bbb", func := "minstrel/minstrellaw16.RandPowers", spec := "randPowers", apart := false, narrowed := true }
def RandPowersUptoSaid : Prop := randPowersUptoRow.holds Try.pinned (OpenSpec.upto randPowersSpec)

end Rows
end Go.Proofs.Ytijjofdnkdfccaa
