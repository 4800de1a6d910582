/-
  No cell of these rows narrows 'for every input' (looked for: loops, veiled, ifaces, maps, wideKeys, modest, calm, conditions, laid).
  DERIVED. THE GIVEN ROWS OF THIS SEAT. 8 by the template 'for every input the law returns true; each argument reads behind the call as it read before'; 0 by the template 'total and deterministic' (their statements: YtonbbjgcnfipeaaTotals.lean).
  GIVEN WITH THE SEED: the statements are not yours to turn. If you find one false, say at which input.
  Laid BY PROGRAM, IN A SANDBOX (cutbox-rows.mjs): the forced cells as the released guide's own fill.sh prints them over the translation dea0af2be0ee02e9… (all of the seat's roots in one cut). By AI agents, Wed Nov 11 2026. No macro, syntax, notation, axiom, sorry.
-/
import Derived.Test.YtonbbjgcnfipeaaChecked
import GoSem.Claim
import GoSem.ClaimJoined
import GoSem.ClaimMapViews
import Derived.JoinedTies
import Derived.KernelRfl
namespace Go.Proofs.Ytonbbjgcnfipeaa
/- THE CELL 'sum', in the pinned program and in every row, IS THE sha256 OF THE DUMP (.gsa) THAT YtonbbjgcnfipeaaProg.lean LOADS. Nothing in Lean hashes anything: it is a label: what it is worth is what the hold of that sum in a sandbox is worth. -/
noncomputable def Try.pinned : Pinned := { name := "ytonbbjgcnfipeaa", sum := "dea0af2be0ee02e9a1d6753453fde1249362865425eee0d391d451c45bfa0ff0", checked := Try.checked }
namespace Rows
def none {H : Type} : Left H := { results := [], args := [] }

/-- 'minstrellaw01.FloMakes': WHATEVER THE INPUT: true; the input reads as it did. -/
def floMakesSpec : ChangeSpec := { name := "floMakes", fn := fun _ => fun
  | [d1, d2, d3] => { results := [.lit (.bool true)], args := [d1, d2, d3] }
  | _ => none }
def floMakesRow : OpenClaim := { program := "ytonbbjgcnfipeaa", sum := "dea0af2be0ee02e9a1d6753453fde1249362865425eee0d391d451c45bfa0ff0", func := "minstrel/minstrellaw01.FloMakes", spec := "floMakes", inPlace := ["math.Float64frombits"], apart := false }
def FloMakesSaid : Prop := floMakesRow.holds Try.pinned (OpenSpec.ofChange floMakesSpec)

/-- ITS FALSE NEIGHBOUR: 'it returns false'. Refute it at one input. -/
def floMakesWrong : ChangeSpec := { name := "floMakes", fn := fun _ => fun
  | [d1, d2, d3] => { results := [.lit (.bool false)], args := [d1, d2, d3] }
  | _ => none }
def FloMakesWrongFalsely : Prop := floMakesRow.holds Try.pinned (OpenSpec.ofChange floMakesWrong)

/-- 'minstrellaw01.FloDoubles': WHATEVER THE INPUT: true; the input reads as it did. -/
def floDoublesSpec : ChangeSpec := { name := "floDoubles", fn := fun _ => fun
  | [d1, d2, d3] => { results := [.lit (.bool true)], args := [d1, d2, d3] }
  | _ => none }
def floDoublesRow : OpenClaim := { program := "ytonbbjgcnfipeaa", sum := "dea0af2be0ee02e9a1d6753453fde1249362865425eee0d391d451c45bfa0ff0", func := "minstrel/minstrellaw01.FloDoubles", spec := "floDoubles", inPlace := ["math.Float64frombits"], apart := false }
def FloDoublesSaid : Prop := floDoublesRow.holds Try.pinned (OpenSpec.ofChange floDoublesSpec)

/-- ITS FALSE NEIGHBOUR: 'it returns false'. Refute it at one input. -/
def floDoublesWrong : ChangeSpec := { name := "floDoubles", fn := fun _ => fun
  | [d1, d2, d3] => { results := [.lit (.bool false)], args := [d1, d2, d3] }
  | _ => none }
def FloDoublesWrongFalsely : Prop := floDoublesRow.holds Try.pinned (OpenSpec.ofChange floDoublesWrong)

/-- 'minstrellaw01.FloNear': WHATEVER THE INPUT: true; the input reads as it did. -/
def floNearSpec : ChangeSpec := { name := "floNear", fn := fun _ => fun
  | [d1, d2] => { results := [.lit (.bool true)], args := [d1, d2] }
  | _ => none }
def floNearRow : OpenClaim := { program := "ytonbbjgcnfipeaa", sum := "dea0af2be0ee02e9a1d6753453fde1249362865425eee0d391d451c45bfa0ff0", func := "minstrel/minstrellaw01.FloNear", spec := "floNear", inPlace := ["math.Float64frombits"], apart := false }
def FloNearSaid : Prop := floNearRow.holds Try.pinned (OpenSpec.ofChange floNearSpec)

/-- ITS FALSE NEIGHBOUR: 'it returns false'. Refute it at one input. -/
def floNearWrong : ChangeSpec := { name := "floNear", fn := fun _ => fun
  | [d1, d2] => { results := [.lit (.bool false)], args := [d1, d2] }
  | _ => none }
def FloNearWrongFalsely : Prop := floNearRow.holds Try.pinned (OpenSpec.ofChange floNearWrong)

/-- 'minstrellaw01.FloSigns': WHATEVER THE INPUT: true; the input reads as it did. -/
def floSignsSpec : ChangeSpec := { name := "floSigns", fn := fun _ => fun
  | [d] => { results := [.lit (.bool true)], args := [d] }
  | _ => none }
def floSignsRow : OpenClaim := { program := "ytonbbjgcnfipeaa", sum := "dea0af2be0ee02e9a1d6753453fde1249362865425eee0d391d451c45bfa0ff0", func := "minstrel/minstrellaw01.FloSigns", spec := "floSigns", inPlace := ["math.Float64frombits"], apart := false }
def FloSignsSaid : Prop := floSignsRow.holds Try.pinned (OpenSpec.ofChange floSignsSpec)

/-- ITS FALSE NEIGHBOUR: 'it returns false'. Refute it at one input. -/
def floSignsWrong : ChangeSpec := { name := "floSigns", fn := fun _ => fun
  | [d] => { results := [.lit (.bool false)], args := [d] }
  | _ => none }
def FloSignsWrongFalsely : Prop := floSignsRow.holds Try.pinned (OpenSpec.ofChange floSignsWrong)

/-- 'minstrellaw01.FloBefore': WHATEVER THE INPUT: true; the input reads as it did. -/
def floBeforeSpec : ChangeSpec := { name := "floBefore", fn := fun _ => fun
  | [d1, d2, d3] => { results := [.lit (.bool true)], args := [d1, d2, d3] }
  | _ => none }
def floBeforeRow : OpenClaim := { program := "ytonbbjgcnfipeaa", sum := "dea0af2be0ee02e9a1d6753453fde1249362865425eee0d391d451c45bfa0ff0", func := "minstrel/minstrellaw01.FloBefore", spec := "floBefore", inPlace := ["math.Float64frombits"], apart := false }
def FloBeforeSaid : Prop := floBeforeRow.holds Try.pinned (OpenSpec.ofChange floBeforeSpec)

/-- ITS FALSE NEIGHBOUR: 'it returns false'. Refute it at one input. -/
def floBeforeWrong : ChangeSpec := { name := "floBefore", fn := fun _ => fun
  | [d1, d2, d3] => { results := [.lit (.bool false)], args := [d1, d2, d3] }
  | _ => none }
def FloBeforeWrongFalsely : Prop := floBeforeRow.holds Try.pinned (OpenSpec.ofChange floBeforeWrong)

/-- 'minstrellaw01.FloRises': WHATEVER THE INPUT: true; the input reads as it did. -/
def floRisesSpec : ChangeSpec := { name := "floRises", fn := fun _ => fun
  | [d1, d2, d3] => { results := [.lit (.bool true)], args := [d1, d2, d3] }
  | _ => none }
def floRisesRow : OpenClaim := { program := "ytonbbjgcnfipeaa", sum := "dea0af2be0ee02e9a1d6753453fde1249362865425eee0d391d451c45bfa0ff0", func := "minstrel/minstrellaw01.FloRises", spec := "floRises", inPlace := ["math.Float64frombits"], apart := false }
def FloRisesSaid : Prop := floRisesRow.holds Try.pinned (OpenSpec.ofChange floRisesSpec)

/-- ITS FALSE NEIGHBOUR: 'it returns false'. Refute it at one input. -/
def floRisesWrong : ChangeSpec := { name := "floRises", fn := fun _ => fun
  | [d1, d2, d3] => { results := [.lit (.bool false)], args := [d1, d2, d3] }
  | _ => none }
def FloRisesWrongFalsely : Prop := floRisesRow.holds Try.pinned (OpenSpec.ofChange floRisesWrong)

/-- 'minstrellaw01.FloKinds': WHATEVER THE INPUT: true; the input reads as it did. -/
def floKindsSpec : ChangeSpec := { name := "floKinds", fn := fun _ => fun
  | [d] => { results := [.lit (.bool true)], args := [d] }
  | _ => none }
def floKindsRow : OpenClaim := { program := "ytonbbjgcnfipeaa", sum := "dea0af2be0ee02e9a1d6753453fde1249362865425eee0d391d451c45bfa0ff0", func := "minstrel/minstrellaw01.FloKinds", spec := "floKinds", inPlace := ["math.Float64frombits"], apart := false }
def FloKindsSaid : Prop := floKindsRow.holds Try.pinned (OpenSpec.ofChange floKindsSpec)

/-- ITS FALSE NEIGHBOUR: 'it returns false'. Refute it at one input. -/
def floKindsWrong : ChangeSpec := { name := "floKinds", fn := fun _ => fun
  | [d] => { results := [.lit (.bool false)], args := [d] }
  | _ => none }
def FloKindsWrongFalsely : Prop := floKindsRow.holds Try.pinned (OpenSpec.ofChange floKindsWrong)

/-- 'minstrellaw01.FloOrders': WHATEVER THE INPUT: true; the input reads as it did. -/
def floOrdersSpec : ChangeSpec := { name := "floOrders", fn := fun _ => fun
  | [d1, d2] => { results := [.lit (.bool true)], args := [d1, d2] }
  | _ => none }
def floOrdersRow : OpenClaim := { program := "ytonbbjgcnfipeaa", sum := "dea0af2be0ee02e9a1d6753453fde1249362865425eee0d391d451c45bfa0ff0", func := "minstrel/minstrellaw01.FloOrders", spec := "floOrders", inPlace := ["math.Float64frombits"], apart := false }
def FloOrdersSaid : Prop := floOrdersRow.holds Try.pinned (OpenSpec.ofChange floOrdersSpec)

/-- ITS FALSE NEIGHBOUR: 'it returns false'. Refute it at one input. -/
def floOrdersWrong : ChangeSpec := { name := "floOrders", fn := fun _ => fun
  | [d1, d2] => { results := [.lit (.bool false)], args := [d1, d2] }
  | _ => none }
def FloOrdersWrongFalsely : Prop := floOrdersRow.holds Try.pinned (OpenSpec.ofChange floOrdersWrong)

/- THE SECOND FORM. 'bulk': how many values and letters a reading holds, each counted each time it is reached (what is shared counts as often as it is met; a slice's spare places count too). A statement '..UptoSaid' is the law's where the arguments, and the package variables that the reading takes, are together of bulk at most 1048576: NARROWER than '..Said'. Prove '..Said' where nothing that the law and all that it calls make is longer than what came in: it says more and counts as full. Else prove '..UptoSaid'. A law counts once. -/
mutual
def uptoBulk {H : Type} : DataW H → Nat
  | .lit (.string bytes) => bytes.length + 1
  | .lit _ => 1
  | .nil => 1
  | .ptr d => uptoBulk d + 1
  | .slice elems spare => uptoBulkAll elems + uptoBulkAll spare + 1
  | .agg parts => uptoBulkAll parts + 1
  | .iface _ d => uptoBulk d + 1
  | .map entries => uptoBulkEntries entries + 1
  | .held _ => 1
def uptoBulkAll {H : Type} : List (DataW H) → Nat
  | [] => 0
  | d :: r => uptoBulk d + uptoBulkAll r
def uptoBulkEntries {H : Type} : List (Lit × DataW H) → Nat
  | [] => 0
  | x :: r => uptoBulkEntry x + uptoBulkEntries r
def uptoBulkEntry {H : Type} : Lit × DataW H → Nat
  | (.string bytes, d) => bytes.length + uptoBulk d + 1
  | (_, d) => uptoBulk d + 1
 end
def uptoSmall : (H : Type) → List (DataW H) → Bool := fun _ ds => decide (uptoBulkAll ds ≤ 1048576)
def OpenSpec.upto (s : _root_.Go.ChangeSpec) : _root_.Go.OpenSpec := { _root_.Go.OpenSpec.ofChange s with cond := some uptoSmall }

/-- 'minstrellaw01.FloMakes', WHERE WHAT IT READS IS OF BULK AT MOST 1048576: true; the input reads as it did. -/
def floMakesUptoRow : OpenClaim := { program := "ytonbbjgcnfipeaa", sum := "dea0af2be0ee02e9a1d6753453fde1249362865425eee0d391d451c45bfa0ff0", func := "minstrel/minstrellaw01.FloMakes", spec := "floMakes", inPlace := ["math.Float64frombits"], apart := false, narrowed := true }
def FloMakesUptoSaid : Prop := floMakesUptoRow.holds Try.pinned (OpenSpec.upto floMakesSpec)

/-- 'minstrellaw01.FloDoubles', WHERE WHAT IT READS IS OF BULK AT MOST 1048576: true; the input reads as it did. -/
def floDoublesUptoRow : OpenClaim := { program := "ytonbbjgcnfipeaa", sum := "dea0af2be0ee02e9a1d6753453fde1249362865425eee0d391d451c45bfa0ff0", func := "minstrel/minstrellaw01.FloDoubles", spec := "floDoubles", inPlace := ["math.Float64frombits"], apart := false, narrowed := true }
def FloDoublesUptoSaid : Prop := floDoublesUptoRow.holds Try.pinned (OpenSpec.upto floDoublesSpec)

/-- 'minstrellaw01.FloNear', WHERE WHAT IT READS IS OF BULK AT MOST 1048576: true; the input reads as it did. -/
def floNearUptoRow : OpenClaim := { program := "ytonbbjgcnfipeaa", sum := "dea0af2be0ee02e9a1d6753453fde1249362865425eee0d391d451c45bfa0ff0", func := "minstrel/minstrellaw01.FloNear", spec := "floNear", inPlace := ["math.Float64frombits"], apart := false, narrowed := true }
def FloNearUptoSaid : Prop := floNearUptoRow.holds Try.pinned (OpenSpec.upto floNearSpec)

/-- 'minstrellaw01.FloSigns', WHERE WHAT IT READS IS OF BULK AT MOST 1048576: true; the input reads as it did. -/
def floSignsUptoRow : OpenClaim := { program := "ytonbbjgcnfipeaa", sum := "dea0af2be0ee02e9a1d6753453fde1249362865425eee0d391d451c45bfa0ff0", func := "minstrel/minstrellaw01.FloSigns", spec := "floSigns", inPlace := ["math.Float64frombits"], apart := false, narrowed := true }
def FloSignsUptoSaid : Prop := floSignsUptoRow.holds Try.pinned (OpenSpec.upto floSignsSpec)

/-- 'minstrellaw01.FloBefore', WHERE WHAT IT READS IS OF BULK AT MOST 1048576: true; the input reads as it did. -/
def floBeforeUptoRow : OpenClaim := { program := "ytonbbjgcnfipeaa", sum := "dea0af2be0ee02e9a1d6753453fde1249362865425eee0d391d451c45bfa0ff0", func := "minstrel/minstrellaw01.FloBefore", spec := "floBefore", inPlace := ["math.Float64frombits"], apart := false, narrowed := true }
def FloBeforeUptoSaid : Prop := floBeforeUptoRow.holds Try.pinned (OpenSpec.upto floBeforeSpec)

/-- 'minstrellaw01.FloRises', WHERE WHAT IT READS IS OF BULK AT MOST 1048576: true; the input reads as it did. -/
def floRisesUptoRow : OpenClaim := { program := "ytonbbjgcnfipeaa", sum := "dea0af2be0ee02e9a1d6753453fde1249362865425eee0d391d451c45bfa0ff0", func := "minstrel/minstrellaw01.FloRises", spec := "floRises", inPlace := ["math.Float64frombits"], apart := false, narrowed := true }
def FloRisesUptoSaid : Prop := floRisesUptoRow.holds Try.pinned (OpenSpec.upto floRisesSpec)

/-- 'minstrellaw01.FloKinds', WHERE WHAT IT READS IS OF BULK AT MOST 1048576: true; the input reads as it did. -/
def floKindsUptoRow : OpenClaim := { program := "ytonbbjgcnfipeaa", sum := "dea0af2be0ee02e9a1d6753453fde1249362865425eee0d391d451c45bfa0ff0", func := "minstrel/minstrellaw01.FloKinds", spec := "floKinds", inPlace := ["math.Float64frombits"], apart := false, narrowed := true }
def FloKindsUptoSaid : Prop := floKindsUptoRow.holds Try.pinned (OpenSpec.upto floKindsSpec)

/-- 'minstrellaw01.FloOrders', WHERE WHAT IT READS IS OF BULK AT MOST 1048576: true; the input reads as it did. -/
def floOrdersUptoRow : OpenClaim := { program := "ytonbbjgcnfipeaa", sum := "dea0af2be0ee02e9a1d6753453fde1249362865425eee0d391d451c45bfa0ff0", func := "minstrel/minstrellaw01.FloOrders", spec := "floOrders", inPlace := ["math.Float64frombits"], apart := false, narrowed := true }
def FloOrdersUptoSaid : Prop := floOrdersUptoRow.holds Try.pinned (OpenSpec.upto floOrdersSpec)

end Rows
end Go.Proofs.Ytonbbjgcnfipeaa
