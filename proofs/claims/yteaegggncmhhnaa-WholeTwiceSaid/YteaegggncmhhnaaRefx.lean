-- (head)
import Derived.Test.YteaegggncmhhnaaRefx0
import Derived.Test.YteaegggncmhhnaaRefx1
import Derived.Test.YteaegggncmhhnaaRefx2
import Derived.Test.YteaegggncmhhnaaRefx3
import Derived.Test.YteaegggncmhhnaaRefx4
import Derived.Test.YteaegggncmhhnaaRefx5
import Derived.Test.YteaegggncmhhnaaRefx6
import Derived.Test.YteaegggncmhhnaaRefx7
namespace Go.Proofs.Yteaegggncmhhnaa.Ref
open Go.RowKit Go.Proofs.YteaegggncmhhnaaW.PrintWords Go.Proofs.YteaegggncmhhnaaW.PrintLast Go.Proofs.YteaegggncmhhnaaW.PrintMore
attribute [local go_sem] max2_int min2_int max_two min_two max_three min_three max_four min_four   -- for this text's walks alone
set_option linter.unusedVariables false
set_option linter.unusedSimpArgs false

end Go.Proofs.Yteaegggncmhhnaa.Ref
