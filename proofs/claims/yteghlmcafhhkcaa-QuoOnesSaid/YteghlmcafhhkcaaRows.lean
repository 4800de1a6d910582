/-
  No cell of these rows narrows 'for every input' (looked for: loops, veiled, ifaces, maps, wideKeys, modest, calm, conditions, laid).
  DERIVED. THE GIVEN ROWS OF THIS SEAT. 6 by the template 'for every input the law returns true; each argument reads behind the call as it read before'; 0 by the template 'total and deterministic' (their statements: YteghlmcafhhkcaaTotals.lean).
  GIVEN WITH THE SEED: the statements are not yours to turn. If you find one false, say at which input.
  Laid BY PROGRAM, IN A SANDBOX (cutbox-rows.mjs): the forced cells as the released guide's own fill.sh prints them over the translation cab0463e620c5154… (all of the seat's roots in one cut). By AI agents, Wed Nov 11 2026. No macro, syntax, notation, axiom, sorry.
-/
import Derived.Test.YteghlmcafhhkcaaChecked
import GoSem.Claim
import GoSem.ClaimJoined
import GoSem.ClaimMapViews
import Derived.JoinedTies
import Derived.KernelRfl
namespace Go.Proofs.Yteghlmcafhhkcaa
/- THE CELL 'sum', in the pinned program and in every row, IS THE sha256 OF THE DUMP (.gsa) THAT YteghlmcafhhkcaaProg.lean LOADS. Nothing in Lean hashes anything: it is a label: what it is worth is what the hold of that sum in a sandbox is worth. -/
noncomputable def Try.pinned : Pinned := { name := "yteghlmcafhhkcaa", sum := "cab0463e620c515464bd43d9405f5e00a1a36f56645523d36bff95341e3a42f8", checked := Try.checked }
namespace Rows
def none {H : Type} : Left H := { results := [], args := [] }

/-- 'minstrellaw03.QuoDivides': WHATEVER THE INPUT: true; the input reads as it did. -/
def quoDividesSpec : ChangeSpec := { name := "quoDivides", fn := fun _ => fun
  | [d1, d2] => { results := [.lit (.bool true)], args := [d1, d2] }
  | _ => none }
def quoDividesRow : OpenClaim := { program := "yteghlmcafhhkcaa", sum := "cab0463e620c515464bd43d9405f5e00a1a36f56645523d36bff95341e3a42f8", func := "minstrel/minstrellaw03.QuoDivides", spec := "quoDivides", inPlace := ["math.Float64frombits", "math.Float64bits", "math.sqrt"], apart := false }
def QuoDividesSaid : Prop := quoDividesRow.holds Try.pinned (OpenSpec.ofChange quoDividesSpec)

/-- ITS FALSE NEIGHBOUR: 'it returns false'. Refute it at one input. -/
def quoDividesWrong : ChangeSpec := { name := "quoDivides", fn := fun _ => fun
  | [d1, d2] => { results := [.lit (.bool false)], args := [d1, d2] }
  | _ => none }
def QuoDividesWrongFalsely : Prop := quoDividesRow.holds Try.pinned (OpenSpec.ofChange quoDividesWrong)

/-- 'minstrellaw03.QuoRoots': WHATEVER THE INPUT: true; the input reads as it did. -/
def quoRootsSpec : ChangeSpec := { name := "quoRoots", fn := fun _ => fun
  | [d1, d2] => { results := [.lit (.bool true)], args := [d1, d2] }
  | _ => none }
def quoRootsRow : OpenClaim := { program := "yteghlmcafhhkcaa", sum := "cab0463e620c515464bd43d9405f5e00a1a36f56645523d36bff95341e3a42f8", func := "minstrel/minstrellaw03.QuoRoots", spec := "quoRoots", inPlace := ["math.Float64frombits", "math.sqrt", "math.Float64bits"], apart := false }
def QuoRootsSaid : Prop := quoRootsRow.holds Try.pinned (OpenSpec.ofChange quoRootsSpec)

/-- ITS FALSE NEIGHBOUR: 'it returns false'. Refute it at one input. -/
def quoRootsWrong : ChangeSpec := { name := "quoRoots", fn := fun _ => fun
  | [d1, d2] => { results := [.lit (.bool false)], args := [d1, d2] }
  | _ => none }
def QuoRootsWrongFalsely : Prop := quoRootsRow.holds Try.pinned (OpenSpec.ofChange quoRootsWrong)

/-- 'minstrellaw03.QuoBack': WHATEVER THE INPUT: true; the input reads as it did. -/
def quoBackSpec : ChangeSpec := { name := "quoBack", fn := fun _ => fun
  | [d1, d2] => { results := [.lit (.bool true)], args := [d1, d2] }
  | _ => none }
def quoBackRow : OpenClaim := { program := "yteghlmcafhhkcaa", sum := "cab0463e620c515464bd43d9405f5e00a1a36f56645523d36bff95341e3a42f8", func := "minstrel/minstrellaw03.QuoBack", spec := "quoBack", inPlace := ["math.Float64frombits", "math.sqrt", "math.Float64bits"], apart := false }
def QuoBackSaid : Prop := quoBackRow.holds Try.pinned (OpenSpec.ofChange quoBackSpec)

/-- ITS FALSE NEIGHBOUR: 'it returns false'. Refute it at one input. -/
def quoBackWrong : ChangeSpec := { name := "quoBack", fn := fun _ => fun
  | [d1, d2] => { results := [.lit (.bool false)], args := [d1, d2] }
  | _ => none }
def QuoBackWrongFalsely : Prop := quoBackRow.holds Try.pinned (OpenSpec.ofChange quoBackWrong)

/-- 'minstrellaw03.QuoTwice': WHATEVER THE INPUT: true; the input reads as it did. -/
def quoTwiceSpec : ChangeSpec := { name := "quoTwice", fn := fun _ => fun
  | [d1, d2] => { results := [.lit (.bool true)], args := [d1, d2] }
  | _ => none }
def quoTwiceRow : OpenClaim := { program := "yteghlmcafhhkcaa", sum := "cab0463e620c515464bd43d9405f5e00a1a36f56645523d36bff95341e3a42f8", func := "minstrel/minstrellaw03.QuoTwice", spec := "quoTwice", inPlace := ["math.Float64frombits", "math.Float64bits", "math.sqrt"], apart := false }
def QuoTwiceSaid : Prop := quoTwiceRow.holds Try.pinned (OpenSpec.ofChange quoTwiceSpec)

/-- ITS FALSE NEIGHBOUR: 'it returns false'. Refute it at one input. -/
def quoTwiceWrong : ChangeSpec := { name := "quoTwice", fn := fun _ => fun
  | [d1, d2] => { results := [.lit (.bool false)], args := [d1, d2] }
  | _ => none }
def QuoTwiceWrongFalsely : Prop := quoTwiceRow.holds Try.pinned (OpenSpec.ofChange quoTwiceWrong)

/-- 'minstrellaw03.QuoRests': WHATEVER THE INPUT: true; the input reads as it did. -/
def quoRestsSpec : ChangeSpec := { name := "quoRests", fn := fun _ => fun
  | [d1, d2] => { results := [.lit (.bool true)], args := [d1, d2] }
  | _ => none }
def quoRestsRow : OpenClaim := { program := "yteghlmcafhhkcaa", sum := "cab0463e620c515464bd43d9405f5e00a1a36f56645523d36bff95341e3a42f8", func := "minstrel/minstrellaw03.QuoRests", spec := "quoRests", inPlace := ["math.Float64frombits", "math.Float64bits", "math.sqrt"], apart := false }
def QuoRestsSaid : Prop := quoRestsRow.holds Try.pinned (OpenSpec.ofChange quoRestsSpec)

/-- ITS FALSE NEIGHBOUR: 'it returns false'. Refute it at one input. -/
def quoRestsWrong : ChangeSpec := { name := "quoRests", fn := fun _ => fun
  | [d1, d2] => { results := [.lit (.bool false)], args := [d1, d2] }
  | _ => none }
def QuoRestsWrongFalsely : Prop := quoRestsRow.holds Try.pinned (OpenSpec.ofChange quoRestsWrong)

/-- 'minstrellaw03.QuoOnes': WHATEVER THE INPUT: true; the input reads as it did. -/
def quoOnesSpec : ChangeSpec := { name := "quoOnes", fn := fun _ => fun
  | [d1, d2] => { results := [.lit (.bool true)], args := [d1, d2] }
  | _ => none }
def quoOnesRow : OpenClaim := { program := "yteghlmcafhhkcaa", sum := "cab0463e620c515464bd43d9405f5e00a1a36f56645523d36bff95341e3a42f8", func := "minstrel/minstrellaw03.QuoOnes", spec := "quoOnes", inPlace := ["math.Float64frombits", "math.Float64bits", "math.sqrt"], apart := false }
def QuoOnesSaid : Prop := quoOnesRow.holds Try.pinned (OpenSpec.ofChange quoOnesSpec)

/-- ITS FALSE NEIGHBOUR: 'it returns false'. Refute it at one input. -/
def quoOnesWrong : ChangeSpec := { name := "quoOnes", fn := fun _ => fun
  | [d1, d2] => { results := [.lit (.bool false)], args := [d1, d2] }
  | _ => none }
def QuoOnesWrongFalsely : Prop := quoOnesRow.holds Try.pinned (OpenSpec.ofChange quoOnesWrong)

/- THE SECOND FORM. 'bulk': how many values and letters a reading holds, each counted each time it is reached (what is shared counts as often as it is met; a slice's spare places count too). A statement '..UptoSaid' is the law's where the arguments, and the package variables that the reading takes, are together of bulk at most 1048576: NARROWER than '..Said'. Prove '..Said' where nothing that the law and all that it calls make is longer than what came in: it says more and counts as full. Else prove '..UptoSaid'. A law counts once. -/
mutual
def uptoBulk {H : Type} : DataW H → Nat
  | .lit (.string bytes) => bytes.length + 1
  | .lit _ => 1
  | .nil => 1
  | .ptr d => uptoBulk d + 1
  | .slice elems spare => uptoBulkAll elems + uptoBulkAll spare + 1
  | .agg parts => uptoBulkAll parts + 1
  | .iface _ d => uptoBulk d + 1
  | .map entries => uptoBulkEntries entries + 1
  | .held _ => 1
def uptoBulkAll {H : Type} : List (DataW H) → Nat
  | [] => 0
  | d :: r => uptoBulk d + uptoBulkAll r
def uptoBulkEntries {H : Type} : List (Lit × DataW H) → Nat
  | [] => 0
  | x :: r => uptoBulkEntry x + uptoBulkEntries r
def uptoBulkEntry {H : Type} : Lit × DataW H → Nat
  | (.string bytes, d) => bytes.length + uptoBulk d + 1
  | (_, d) => uptoBulk d + 1
 end
def uptoSmall : (H : Type) → List (DataW H) → Bool := fun _ ds => decide (uptoBulkAll ds ≤ 1048576)
def OpenSpec.upto (s : _root_.Go.ChangeSpec) : _root_.Go.OpenSpec := { _root_.Go.OpenSpec.ofChange s with cond := some uptoSmall }

/-- 'minstrellaw03.QuoDivides', WHERE WHAT IT READS IS OF BULK AT MOST 1048576: true; the input reads as it did. -/
def quoDividesUptoRow : OpenClaim := { program := "yteghlmcafhhkcaa", sum := "cab0463e620c515464bd43d9405f5e00a1a36f56645523d36bff95341e3a42f8", func := "minstrel/minstrellaw03.QuoDivides", spec := "quoDivides", inPlace := ["math.Float64frombits", "math.Float64bits", "math.sqrt"], apart := false, narrowed := true }
def QuoDividesUptoSaid : Prop := quoDividesUptoRow.holds Try.pinned (OpenSpec.upto quoDividesSpec)

/-- 'minstrellaw03.QuoRoots', WHERE WHAT IT READS IS OF BULK AT MOST 1048576: true; the input reads as it did. -/
def quoRootsUptoRow : OpenClaim := { program := "yteghlmcafhhkcaa", sum := "cab0463e620c515464bd43d9405f5e00a1a36f56645523d36bff95341e3a42f8", func := "minstrel/minstrellaw03.QuoRoots", spec := "quoRoots", inPlace := ["math.Float64frombits", "math.sqrt", "math.Float64bits"], apart := false, narrowed := true }
def QuoRootsUptoSaid : Prop := quoRootsUptoRow.holds Try.pinned (OpenSpec.upto quoRootsSpec)

/-- 'minstrellaw03.QuoBack', WHERE WHAT IT READS IS OF BULK AT MOST 1048576: true; the input reads as it did. -/
def quoBackUptoRow : OpenClaim := { program := "yteghlmcafhhkcaa", sum := "cab0463e620c515464bd43d9405f5e00a1a36f56645523d36bff95341e3a42f8", func := "minstrel/minstrellaw03.QuoBack", spec := "quoBack", inPlace := ["math.Float64frombits", "math.sqrt", "math.Float64bits"], apart := false, narrowed := true }
def QuoBackUptoSaid : Prop := quoBackUptoRow.holds Try.pinned (OpenSpec.upto quoBackSpec)

/-- 'minstrellaw03.QuoTwice', WHERE WHAT IT READS IS OF BULK AT MOST 1048576: true; the input reads as it did. -/
def quoTwiceUptoRow : OpenClaim := { program := "yteghlmcafhhkcaa", sum := "cab0463e620c515464bd43d9405f5e00a1a36f56645523d36bff95341e3a42f8", func := "minstrel/minstrellaw03.QuoTwice", spec := "quoTwice", inPlace := ["math.Float64frombits", "math.Float64bits", "math.sqrt"], apart := false, narrowed := true }
def QuoTwiceUptoSaid : Prop := quoTwiceUptoRow.holds Try.pinned (OpenSpec.upto quoTwiceSpec)

/-- 'minstrellaw03.QuoRests', WHERE WHAT IT READS IS OF BULK AT MOST 1048576: true; the input reads as it did. -/
def quoRestsUptoRow : OpenClaim := { program := "yteghlmcafhhkcaa", sum := "cab0463e620c515464bd43d9405f5e00a1a36f56645523d36bff95341e3a42f8", func := "minstrel/minstrellaw03.QuoRests", spec := "quoRests", inPlace := ["math.Float64frombits", "math.Float64bits", "math.sqrt"], apart := false, narrowed := true }
def QuoRestsUptoSaid : Prop := quoRestsUptoRow.holds Try.pinned (OpenSpec.upto quoRestsSpec)

/-- 'minstrellaw03.QuoOnes', WHERE WHAT IT READS IS OF BULK AT MOST 1048576: true; the input reads as it did. -/
def quoOnesUptoRow : OpenClaim := { program := "yteghlmcafhhkcaa", sum := "cab0463e620c515464bd43d9405f5e00a1a36f56645523d36bff95341e3a42f8", func := "minstrel/minstrellaw03.QuoOnes", spec := "quoOnes", inPlace := ["math.Float64frombits", "math.Float64bits", "math.sqrt"], apart := false, narrowed := true }
def QuoOnesUptoSaid : Prop := quoOnesUptoRow.holds Try.pinned (OpenSpec.upto quoOnesSpec)

end Rows
end Go.Proofs.Yteghlmcafhhkcaa
