/-
  No cell of these rows narrows 'for every input' (looked for: loops, veiled, ifaces, maps, wideKeys, modest, calm, conditions, laid).
  DERIVED. THE GIVEN ROWS OF THIS SEAT. 7 by the template 'for every input the law returns true; each argument reads behind the call as it read before'; 0 by the template 'total and deterministic' (their statements: YtknpffoglcogeaaTotals.lean).
  GIVEN WITH THE SEED: the statements are not yours to turn. If you find one false, say at which input.
  Laid BY PROGRAM, IN A SANDBOX (cutbox-rows.mjs): the forced cells as the released guide's own fill.sh prints them over the translation d1b02f5d7ff46760… (all of the seat's roots in one cut). By AI agents, Wed Nov 11 2026. No macro, syntax, notation, axiom, sorry.
-/
import Derived.Test.YtknpffoglcogeaaChecked
import GoSem.Claim
import GoSem.ClaimJoined
import GoSem.ClaimMapViews
import Derived.JoinedTies
import Derived.KernelRfl
namespace Go.Proofs.Ytknpffoglcogeaa
/- THE CELL 'sum', in the pinned program and in every row, IS THE sha256 OF THE DUMP (.gsa) THAT YtknpffoglcogeaaProg.lean LOADS. Nothing in Lean hashes anything: it is a label: what it is worth is what the hold of that sum in a sandbox is worth. -/
noncomputable def Try.pinned : Pinned := { name := "ytknpffoglcogeaa", sum := "d1b02f5d7ff4676040d31c3bc984a0a3581724bba03353bc87df44622574cb5c", checked := Try.checked }
namespace Rows
def none {H : Type} : Left H := { results := [], args := [] }

/-- 'minstrellaw02.SumMultiplies': WHATEVER THE INPUT: true; the input reads as it did. -/
def sumMultipliesSpec : ChangeSpec := { name := "sumMultiplies", fn := fun _ => fun
  | [d1, d2] => { results := [.lit (.bool true)], args := [d1, d2] }
  | _ => none }
def sumMultipliesRow : OpenClaim := { program := "ytknpffoglcogeaa", sum := "d1b02f5d7ff4676040d31c3bc984a0a3581724bba03353bc87df44622574cb5c", func := "minstrel/minstrellaw02.SumMultiplies", spec := "sumMultiplies", inPlace := ["math.Float64frombits", "math.Float64bits"], apart := false }
def SumMultipliesSaid : Prop := sumMultipliesRow.holds Try.pinned (OpenSpec.ofChange sumMultipliesSpec)

/-- ITS FALSE NEIGHBOUR: 'it returns false'. Refute it at one input. -/
def sumMultipliesWrong : ChangeSpec := { name := "sumMultiplies", fn := fun _ => fun
  | [d1, d2] => { results := [.lit (.bool false)], args := [d1, d2] }
  | _ => none }
def SumMultipliesWrongFalsely : Prop := sumMultipliesRow.holds Try.pinned (OpenSpec.ofChange sumMultipliesWrong)

/-- 'minstrellaw02.SumScales': WHATEVER THE INPUT: true; the input reads as it did. -/
def sumScalesSpec : ChangeSpec := { name := "sumScales", fn := fun _ => fun
  | [d1, d2] => { results := [.lit (.bool true)], args := [d1, d2] }
  | _ => none }
def sumScalesRow : OpenClaim := { program := "ytknpffoglcogeaa", sum := "d1b02f5d7ff4676040d31c3bc984a0a3581724bba03353bc87df44622574cb5c", func := "minstrel/minstrellaw02.SumScales", spec := "sumScales", inPlace := ["math.Float64frombits", "math.Float64bits"], apart := false }
def SumScalesSaid : Prop := sumScalesRow.holds Try.pinned (OpenSpec.ofChange sumScalesSpec)

/-- ITS FALSE NEIGHBOUR: 'it returns false'. Refute it at one input. -/
def sumScalesWrong : ChangeSpec := { name := "sumScales", fn := fun _ => fun
  | [d1, d2] => { results := [.lit (.bool false)], args := [d1, d2] }
  | _ => none }
def SumScalesWrongFalsely : Prop := sumScalesRow.holds Try.pinned (OpenSpec.ofChange sumScalesWrong)

/-- 'minstrellaw02.SumRises': WHATEVER THE INPUT: true; the input reads as it did. -/
def sumRisesSpec : ChangeSpec := { name := "sumRises", fn := fun _ => fun
  | [d1, d2, d3] => { results := [.lit (.bool true)], args := [d1, d2, d3] }
  | _ => none }
def sumRisesRow : OpenClaim := { program := "ytknpffoglcogeaa", sum := "d1b02f5d7ff4676040d31c3bc984a0a3581724bba03353bc87df44622574cb5c", func := "minstrel/minstrellaw02.SumRises", spec := "sumRises", inPlace := ["math.Float64frombits", "math.Float64bits"], apart := false }
def SumRisesSaid : Prop := sumRisesRow.holds Try.pinned (OpenSpec.ofChange sumRisesSpec)

/-- ITS FALSE NEIGHBOUR: 'it returns false'. Refute it at one input. -/
def sumRisesWrong : ChangeSpec := { name := "sumRises", fn := fun _ => fun
  | [d1, d2, d3] => { results := [.lit (.bool false)], args := [d1, d2, d3] }
  | _ => none }
def SumRisesWrongFalsely : Prop := sumRisesRow.holds Try.pinned (OpenSpec.ofChange sumRisesWrong)

/-- 'minstrellaw02.SumAdds': WHATEVER THE INPUT: true; the input reads as it did. -/
def sumAddsSpec : ChangeSpec := { name := "sumAdds", fn := fun _ => fun
  | [d1, d2] => { results := [.lit (.bool true)], args := [d1, d2] }
  | _ => none }
def sumAddsRow : OpenClaim := { program := "ytknpffoglcogeaa", sum := "d1b02f5d7ff4676040d31c3bc984a0a3581724bba03353bc87df44622574cb5c", func := "minstrel/minstrellaw02.SumAdds", spec := "sumAdds", inPlace := ["math.Float64frombits", "math.Float64bits"], apart := false }
def SumAddsSaid : Prop := sumAddsRow.holds Try.pinned (OpenSpec.ofChange sumAddsSpec)

/-- ITS FALSE NEIGHBOUR: 'it returns false'. Refute it at one input. -/
def sumAddsWrong : ChangeSpec := { name := "sumAdds", fn := fun _ => fun
  | [d1, d2] => { results := [.lit (.bool false)], args := [d1, d2] }
  | _ => none }
def SumAddsWrongFalsely : Prop := sumAddsRow.holds Try.pinned (OpenSpec.ofChange sumAddsWrong)

/-- 'minstrellaw02.SumExact': WHATEVER THE INPUT: true; the input reads as it did. -/
def sumExactSpec : ChangeSpec := { name := "sumExact", fn := fun _ => fun
  | [d1, d2] => { results := [.lit (.bool true)], args := [d1, d2] }
  | _ => none }
def sumExactRow : OpenClaim := { program := "ytknpffoglcogeaa", sum := "d1b02f5d7ff4676040d31c3bc984a0a3581724bba03353bc87df44622574cb5c", func := "minstrel/minstrellaw02.SumExact", spec := "sumExact", inPlace := ["math.Float64frombits", "math.Float64bits"], apart := false }
def SumExactSaid : Prop := sumExactRow.holds Try.pinned (OpenSpec.ofChange sumExactSpec)

/-- ITS FALSE NEIGHBOUR: 'it returns false'. Refute it at one input. -/
def sumExactWrong : ChangeSpec := { name := "sumExact", fn := fun _ => fun
  | [d1, d2] => { results := [.lit (.bool false)], args := [d1, d2] }
  | _ => none }
def SumExactWrongFalsely : Prop := sumExactRow.holds Try.pinned (OpenSpec.ofChange sumExactWrong)

/-- 'minstrellaw02.SumLoses': WHATEVER THE INPUT: true; the input reads as it did. -/
def sumLosesSpec : ChangeSpec := { name := "sumLoses", fn := fun _ => fun
  | [d1, d2] => { results := [.lit (.bool true)], args := [d1, d2] }
  | _ => none }
def sumLosesRow : OpenClaim := { program := "ytknpffoglcogeaa", sum := "d1b02f5d7ff4676040d31c3bc984a0a3581724bba03353bc87df44622574cb5c", func := "minstrel/minstrellaw02.SumLoses", spec := "sumLoses", inPlace := ["math.Float64frombits", "math.Float64bits"], apart := false }
def SumLosesSaid : Prop := sumLosesRow.holds Try.pinned (OpenSpec.ofChange sumLosesSpec)

/-- ITS FALSE NEIGHBOUR: 'it returns false'. Refute it at one input. -/
def sumLosesWrong : ChangeSpec := { name := "sumLoses", fn := fun _ => fun
  | [d1, d2] => { results := [.lit (.bool false)], args := [d1, d2] }
  | _ => none }
def SumLosesWrongFalsely : Prop := sumLosesRow.holds Try.pinned (OpenSpec.ofChange sumLosesWrong)

/-- 'minstrellaw02.SumNothing': WHATEVER THE INPUT: true; the input reads as it did. -/
def sumNothingSpec : ChangeSpec := { name := "sumNothing", fn := fun _ => fun
  | [d] => { results := [.lit (.bool true)], args := [d] }
  | _ => none }
def sumNothingRow : OpenClaim := { program := "ytknpffoglcogeaa", sum := "d1b02f5d7ff4676040d31c3bc984a0a3581724bba03353bc87df44622574cb5c", func := "minstrel/minstrellaw02.SumNothing", spec := "sumNothing", inPlace := ["math.Float64frombits", "math.Float64bits"], apart := false }
def SumNothingSaid : Prop := sumNothingRow.holds Try.pinned (OpenSpec.ofChange sumNothingSpec)

/-- ITS FALSE NEIGHBOUR: 'it returns false'. Refute it at one input. -/
def sumNothingWrong : ChangeSpec := { name := "sumNothing", fn := fun _ => fun
  | [d] => { results := [.lit (.bool false)], args := [d] }
  | _ => none }
def SumNothingWrongFalsely : Prop := sumNothingRow.holds Try.pinned (OpenSpec.ofChange sumNothingWrong)

/- THE SECOND FORM. 'bulk': how many values and letters a reading holds, each counted each time it is reached (what is shared counts as often as it is met; a slice's spare places count too). A statement '..UptoSaid' is the law's where the arguments, and the package variables that the reading takes, are together of bulk at most 1048576: NARROWER than '..Said'. Prove '..Said' where nothing that the law and all that it calls make is longer than what came in: it says more and counts as full. Else prove '..UptoSaid'. A law counts once. -/
mutual
def uptoBulk {H : Type} : DataW H → Nat
  | .lit (.string bytes) => bytes.length + 1
  | .lit _ => 1
  | .nil => 1
  | .ptr d => uptoBulk d + 1
  | .slice elems spare => uptoBulkAll elems + uptoBulkAll spare + 1
  | .agg parts => uptoBulkAll parts + 1
  | .iface _ d => uptoBulk d + 1
  | .map entries => uptoBulkEntries entries + 1
  | .held _ => 1
def uptoBulkAll {H : Type} : List (DataW H) → Nat
  | [] => 0
  | d :: r => uptoBulk d + uptoBulkAll r
def uptoBulkEntries {H : Type} : List (Lit × DataW H) → Nat
  | [] => 0
  | x :: r => uptoBulkEntry x + uptoBulkEntries r
def uptoBulkEntry {H : Type} : Lit × DataW H → Nat
  | (.string bytes, d) => bytes.length + uptoBulk d + 1
  | (_, d) => uptoBulk d + 1
 end
def uptoSmall : (H : Type) → List (DataW H) → Bool := fun _ ds => decide (uptoBulkAll ds ≤ 1048576)
def OpenSpec.upto (s : _root_.Go.ChangeSpec) : _root_.Go.OpenSpec := { _root_.Go.OpenSpec.ofChange s with cond := some uptoSmall }

/-- 'minstrellaw02.SumMultiplies', WHERE WHAT IT READS IS OF BULK AT MOST 1048576: true; the input reads as it did. -/
def sumMultipliesUptoRow : OpenClaim := { program := "ytknpffoglcogeaa", sum := "d1b02f5d7ff4676040d31c3bc984a0a3581724bba03353bc87df44622574cb5c", func := "minstrel/minstrellaw02.SumMultiplies", spec := "sumMultiplies", inPlace := ["math.Float64frombits", "math.Float64bits"], apart := false, narrowed := true }
def SumMultipliesUptoSaid : Prop := sumMultipliesUptoRow.holds Try.pinned (OpenSpec.upto sumMultipliesSpec)

/-- 'minstrellaw02.SumScales', WHERE WHAT IT READS IS OF BULK AT MOST 1048576: true; the input reads as it did. -/
def sumScalesUptoRow : OpenClaim := { program := "ytknpffoglcogeaa", sum := "d1b02f5d7ff4676040d31c3bc984a0a3581724bba03353bc87df44622574cb5c", func := "minstrel/minstrellaw02.SumScales", spec := "sumScales", inPlace := ["math.Float64frombits", "math.Float64bits"], apart := false, narrowed := true }
def SumScalesUptoSaid : Prop := sumScalesUptoRow.holds Try.pinned (OpenSpec.upto sumScalesSpec)

/-- 'minstrellaw02.SumRises', WHERE WHAT IT READS IS OF BULK AT MOST 1048576: true; the input reads as it did. -/
def sumRisesUptoRow : OpenClaim := { program := "ytknpffoglcogeaa", sum := "d1b02f5d7ff4676040d31c3bc984a0a3581724bba03353bc87df44622574cb5c", func := "minstrel/minstrellaw02.SumRises", spec := "sumRises", inPlace := ["math.Float64frombits", "math.Float64bits"], apart := false, narrowed := true }
def SumRisesUptoSaid : Prop := sumRisesUptoRow.holds Try.pinned (OpenSpec.upto sumRisesSpec)

/-- 'minstrellaw02.SumAdds', WHERE WHAT IT READS IS OF BULK AT MOST 1048576: true; the input reads as it did. -/
def sumAddsUptoRow : OpenClaim := { program := "ytknpffoglcogeaa", sum := "d1b02f5d7ff4676040d31c3bc984a0a3581724bba03353bc87df44622574cb5c", func := "minstrel/minstrellaw02.SumAdds", spec := "sumAdds", inPlace := ["math.Float64frombits", "math.Float64bits"], apart := false, narrowed := true }
def SumAddsUptoSaid : Prop := sumAddsUptoRow.holds Try.pinned (OpenSpec.upto sumAddsSpec)

/-- 'minstrellaw02.SumExact', WHERE WHAT IT READS IS OF BULK AT MOST 1048576: true; the input reads as it did. -/
def sumExactUptoRow : OpenClaim := { program := "ytknpffoglcogeaa", sum := "d1b02f5d7ff4676040d31c3bc984a0a3581724bba03353bc87df44622574cb5c", func := "minstrel/minstrellaw02.SumExact", spec := "sumExact", inPlace := ["math.Float64frombits", "math.Float64bits"], apart := false, narrowed := true }
def SumExactUptoSaid : Prop := sumExactUptoRow.holds Try.pinned (OpenSpec.upto sumExactSpec)

/-- 'minstrellaw02.SumLoses', WHERE WHAT IT READS IS OF BULK AT MOST 1048576: true; the input reads as it did. -/
def sumLosesUptoRow : OpenClaim := { program := "ytknpffoglcogeaa", sum := "d1b02f5d7ff4676040d31c3bc984a0a3581724bba03353bc87df44622574cb5c", func := "minstrel/minstrellaw02.SumLoses", spec := "sumLoses", inPlace := ["math.Float64frombits", "math.Float64bits"], apart := false, narrowed := true }
def SumLosesUptoSaid : Prop := sumLosesUptoRow.holds Try.pinned (OpenSpec.upto sumLosesSpec)

/-- 'minstrellaw02.SumNothing', WHERE WHAT IT READS IS OF BULK AT MOST 1048576: true; the input reads as it did. -/
def sumNothingUptoRow : OpenClaim := { program := "ytknpffoglcogeaa", sum := "d1b02f5d7ff4676040d31c3bc984a0a3581724bba03353bc87df44622574cb5c", func := "minstrel/minstrellaw02.SumNothing", spec := "sumNothing", inPlace := ["math.Float64frombits", "math.Float64bits"], apart := false, narrowed := true }
def SumNothingUptoSaid : Prop := sumNothingUptoRow.holds Try.pinned (OpenSpec.upto sumNothingSpec)

end Rows
end Go.Proofs.Ytknpffoglcogeaa
