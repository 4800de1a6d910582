/-
  No cell of these rows narrows 'for every input' (looked for: loops, veiled, ifaces, maps, wideKeys, modest, calm, conditions, laid).
  DERIVED. THE GIVEN ROWS OF THIS SEAT. 5 by the template 'for every input the law returns true; each argument reads behind the call as it read before'; 0 by the template 'total and deterministic' (their statements: YteaegggncmhhnaaTotals.lean).
  GIVEN WITH THE SEED: the statements are not yours to turn. If you find one false, say at which input.
  Laid BY PROGRAM, IN A SANDBOX (cutbox-rows.mjs): the forced cells as the released guide's own fill.sh prints them over the translation 620900c0739acc85… (all of the seat's roots in one cut). By AI agents, Wed Nov 11 2026. No macro, syntax, notation, axiom, sorry.
-/
import Derived.Test.YteaegggncmhhnaaChecked
import GoSem.Claim
import GoSem.ClaimJoined
import GoSem.ClaimMapViews
import Derived.JoinedTies
import Derived.KernelRfl
namespace Go.Proofs.Yteaegggncmhhnaa
/- THE CELL 'sum', in the pinned program and in every row, IS THE sha256 OF THE DUMP (.gsa) THAT YteaegggncmhhnaaProg.lean LOADS. Nothing in Lean hashes anything: it is a label: what it is worth is what the hold of that sum in a sandbox is worth. -/
noncomputable def Try.pinned : Pinned := { name := "yteaegggncmhhnaa", sum := "620900c0739acc8597651d200459d47f039070d8865111b3f3e29b946a8420ee", checked := Try.checked }
namespace Rows
def none {H : Type} : Left H := { results := [], args := [] }

/-- 'minstrellaw04.WholeInts': WHATEVER THE INPUT: true; the input reads as it did. -/
def wholeIntsSpec : ChangeSpec := { name := "wholeInts", fn := fun _ => fun
  | [d] => { results := [.lit (.bool true)], args := [d] }
  | _ => none }
def wholeIntsRow : OpenClaim := { program := "yteaegggncmhhnaa", sum := "620900c0739acc8597651d200459d47f039070d8865111b3f3e29b946a8420ee", func := "minstrel/minstrellaw04.WholeInts", spec := "wholeInts", inPlace := ["math.Float64bits", "math.Float64frombits", "math.archTrunc"], apart := false }
def WholeIntsSaid : Prop := wholeIntsRow.holds Try.pinned (OpenSpec.ofChange wholeIntsSpec)

/-- ITS FALSE NEIGHBOUR: 'it returns false'. Refute it at one input. -/
def wholeIntsWrong : ChangeSpec := { name := "wholeInts", fn := fun _ => fun
  | [d] => { results := [.lit (.bool false)], args := [d] }
  | _ => none }
def WholeIntsWrongFalsely : Prop := wholeIntsRow.holds Try.pinned (OpenSpec.ofChange wholeIntsWrong)

/-- 'minstrellaw04.WholeNumbers': WHATEVER THE INPUT: true; the input reads as it did. -/
def wholeNumbersSpec : ChangeSpec := { name := "wholeNumbers", fn := fun _ => fun
  | [d] => { results := [.lit (.bool true)], args := [d] }
  | _ => none }
def wholeNumbersRow : OpenClaim := { program := "yteaegggncmhhnaa", sum := "620900c0739acc8597651d200459d47f039070d8865111b3f3e29b946a8420ee", func := "minstrel/minstrellaw04.WholeNumbers", spec := "wholeNumbers", inPlace := ["math.Float64frombits", "math.archTrunc", "math.Float64bits"], apart := false }
def WholeNumbersSaid : Prop := wholeNumbersRow.holds Try.pinned (OpenSpec.ofChange wholeNumbersSpec)

/-- ITS FALSE NEIGHBOUR: 'it returns false'. Refute it at one input. -/
def wholeNumbersWrong : ChangeSpec := { name := "wholeNumbers", fn := fun _ => fun
  | [d] => { results := [.lit (.bool false)], args := [d] }
  | _ => none }
def WholeNumbersWrongFalsely : Prop := wholeNumbersRow.holds Try.pinned (OpenSpec.ofChange wholeNumbersWrong)

/-- 'minstrellaw04.WholeRounds': WHATEVER THE INPUT: true; the input reads as it did. -/
def wholeRoundsSpec : ChangeSpec := { name := "wholeRounds", fn := fun _ => fun
  | [d] => { results := [.lit (.bool true)], args := [d] }
  | _ => none }
def wholeRoundsRow : OpenClaim := { program := "yteaegggncmhhnaa", sum := "620900c0739acc8597651d200459d47f039070d8865111b3f3e29b946a8420ee", func := "minstrel/minstrellaw04.WholeRounds", spec := "wholeRounds", inPlace := ["math.Float64frombits", "math.archTrunc", "math.Float64bits", "math.archFloor", "math.archCeil", "math.RoundToEven"], apart := false }
def WholeRoundsSaid : Prop := wholeRoundsRow.holds Try.pinned (OpenSpec.ofChange wholeRoundsSpec)

/-- ITS FALSE NEIGHBOUR: 'it returns false'. Refute it at one input. -/
def wholeRoundsWrong : ChangeSpec := { name := "wholeRounds", fn := fun _ => fun
  | [d] => { results := [.lit (.bool false)], args := [d] }
  | _ => none }
def WholeRoundsWrongFalsely : Prop := wholeRoundsRow.holds Try.pinned (OpenSpec.ofChange wholeRoundsWrong)

/-- 'minstrellaw04.WholeRises': WHATEVER THE INPUT: true; the input reads as it did. -/
def wholeRisesSpec : ChangeSpec := { name := "wholeRises", fn := fun _ => fun
  | [d1, d2] => { results := [.lit (.bool true)], args := [d1, d2] }
  | _ => none }
def wholeRisesRow : OpenClaim := { program := "yteaegggncmhhnaa", sum := "620900c0739acc8597651d200459d47f039070d8865111b3f3e29b946a8420ee", func := "minstrel/minstrellaw04.WholeRises", spec := "wholeRises", inPlace := ["math.Float64frombits", "math.archTrunc", "math.Float64bits", "math.archFloor", "math.archCeil", "math.RoundToEven"], apart := false }
def WholeRisesSaid : Prop := wholeRisesRow.holds Try.pinned (OpenSpec.ofChange wholeRisesSpec)

/-- ITS FALSE NEIGHBOUR: 'it returns false'. Refute it at one input. -/
def wholeRisesWrong : ChangeSpec := { name := "wholeRises", fn := fun _ => fun
  | [d1, d2] => { results := [.lit (.bool false)], args := [d1, d2] }
  | _ => none }
def WholeRisesWrongFalsely : Prop := wholeRisesRow.holds Try.pinned (OpenSpec.ofChange wholeRisesWrong)

/-- 'minstrellaw04.WholeTwice': WHATEVER THE INPUT: true; the input reads as it did. -/
def wholeTwiceSpec : ChangeSpec := { name := "wholeTwice", fn := fun _ => fun
  | [d] => { results := [.lit (.bool true)], args := [d] }
  | _ => none }
def wholeTwiceRow : OpenClaim := { program := "yteaegggncmhhnaa", sum := "620900c0739acc8597651d200459d47f039070d8865111b3f3e29b946a8420ee", func := "minstrel/minstrellaw04.WholeTwice", spec := "wholeTwice", inPlace := ["math.Float64frombits", "math.archTrunc", "math.Float64bits", "math.archFloor", "math.archCeil", "math.RoundToEven"], apart := false }
def WholeTwiceSaid : Prop := wholeTwiceRow.holds Try.pinned (OpenSpec.ofChange wholeTwiceSpec)

/-- ITS FALSE NEIGHBOUR: 'it returns false'. Refute it at one input. -/
def wholeTwiceWrong : ChangeSpec := { name := "wholeTwice", fn := fun _ => fun
  | [d] => { results := [.lit (.bool false)], args := [d] }
  | _ => none }
def WholeTwiceWrongFalsely : Prop := wholeTwiceRow.holds Try.pinned (OpenSpec.ofChange wholeTwiceWrong)

/- THE SECOND FORM. 'bulk': how many values and letters a reading holds, each counted each time it is reached (what is shared counts as often as it is met; a slice's spare places count too). A statement '..UptoSaid' is the law's where the arguments, and the package variables that the reading takes, are together of bulk at most 1048576: NARROWER than '..Said'. Prove '..Said' where nothing that the law and all that it calls make is longer than what came in: it says more and counts as full. Else prove '..UptoSaid'. A law counts once. -/
mutual
def uptoBulk {H : Type} : DataW H → Nat
  | .lit (.string bytes) => bytes.length + 1
  | .lit _ => 1
  | .nil => 1
  | .ptr d => uptoBulk d + 1
  | .slice elems spare => uptoBulkAll elems + uptoBulkAll spare + 1
  | .agg parts => uptoBulkAll parts + 1
  | .iface _ d => uptoBulk d + 1
  | .map entries => uptoBulkEntries entries + 1
  | .held _ => 1
def uptoBulkAll {H : Type} : List (DataW H) → Nat
  | [] => 0
  | d :: r => uptoBulk d + uptoBulkAll r
def uptoBulkEntries {H : Type} : List (Lit × DataW H) → Nat
  | [] => 0
  | x :: r => uptoBulkEntry x + uptoBulkEntries r
def uptoBulkEntry {H : Type} : Lit × DataW H → Nat
  | (.string bytes, d) => bytes.length + uptoBulk d + 1
  | (_, d) => uptoBulk d + 1
 end
def uptoSmall : (H : Type) → List (DataW H) → Bool := fun _ ds => decide (uptoBulkAll ds ≤ 1048576)
def OpenSpec.upto (s : _root_.Go.ChangeSpec) : _root_.Go.OpenSpec := { _root_.Go.OpenSpec.ofChange s with cond := some uptoSmall }

/-- 'minstrellaw04.WholeInts', WHERE WHAT IT READS IS OF BULK AT MOST 1048576: true; the input reads as it did. -/
def wholeIntsUptoRow : OpenClaim := { program := "yteaegggncmhhnaa", sum := "620900c0739acc8597651d200459d47f039070d8865111b3f3e29b946a8420ee", func := "minstrel/minstrellaw04.WholeInts", spec := "wholeInts", inPlace := ["math.Float64bits", "math.Float64frombits", "math.archTrunc"], apart := false, narrowed := true }
def WholeIntsUptoSaid : Prop := wholeIntsUptoRow.holds Try.pinned (OpenSpec.upto wholeIntsSpec)

/-- 'minstrellaw04.WholeNumbers', WHERE WHAT IT READS IS OF BULK AT MOST 1048576: true; the input reads as it did. -/
def wholeNumbersUptoRow : OpenClaim := { program := "yteaegggncmhhnaa", sum := "620900c0739acc8597651d200459d47f039070d8865111b3f3e29b946a8420ee", func := "minstrel/minstrellaw04.WholeNumbers", spec := "wholeNumbers", inPlace := ["math.Float64frombits", "math.archTrunc", "math.Float64bits"], apart := false, narrowed := true }
def WholeNumbersUptoSaid : Prop := wholeNumbersUptoRow.holds Try.pinned (OpenSpec.upto wholeNumbersSpec)

/-- 'minstrellaw04.WholeRounds', WHERE WHAT IT READS IS OF BULK AT MOST 1048576: true; the input reads as it did. -/
def wholeRoundsUptoRow : OpenClaim := { program := "yteaegggncmhhnaa", sum := "620900c0739acc8597651d200459d47f039070d8865111b3f3e29b946a8420ee", func := "minstrel/minstrellaw04.WholeRounds", spec := "wholeRounds", inPlace := ["math.Float64frombits", "math.archTrunc", "math.Float64bits", "math.archFloor", "math.archCeil", "math.RoundToEven"], apart := false, narrowed := true }
def WholeRoundsUptoSaid : Prop := wholeRoundsUptoRow.holds Try.pinned (OpenSpec.upto wholeRoundsSpec)

/-- 'minstrellaw04.WholeRises', WHERE WHAT IT READS IS OF BULK AT MOST 1048576: true; the input reads as it did. -/
def wholeRisesUptoRow : OpenClaim := { program := "yteaegggncmhhnaa", sum := "620900c0739acc8597651d200459d47f039070d8865111b3f3e29b946a8420ee", func := "minstrel/minstrellaw04.WholeRises", spec := "wholeRises", inPlace := ["math.Float64frombits", "math.archTrunc", "math.Float64bits", "math.archFloor", "math.archCeil", "math.RoundToEven"], apart := false, narrowed := true }
def WholeRisesUptoSaid : Prop := wholeRisesUptoRow.holds Try.pinned (OpenSpec.upto wholeRisesSpec)

/-- 'minstrellaw04.WholeTwice', WHERE WHAT IT READS IS OF BULK AT MOST 1048576: true; the input reads as it did. -/
def wholeTwiceUptoRow : OpenClaim := { program := "yteaegggncmhhnaa", sum := "620900c0739acc8597651d200459d47f039070d8865111b3f3e29b946a8420ee", func := "minstrel/minstrellaw04.WholeTwice", spec := "wholeTwice", inPlace := ["math.Float64frombits", "math.archTrunc", "math.Float64bits", "math.archFloor", "math.archCeil", "math.RoundToEven"], apart := false, narrowed := true }
def WholeTwiceUptoSaid : Prop := wholeTwiceUptoRow.holds Try.pinned (OpenSpec.upto wholeTwiceSpec)

end Rows
end Go.Proofs.Yteaegggncmhhnaa
