-- (head)
import Derived.Test.YtonbbjgcnfipeaaRefx0
import Derived.Test.YtonbbjgcnfipeaaRefx1
import Derived.Test.YtonbbjgcnfipeaaRefx2
import Derived.Test.YtonbbjgcnfipeaaRefx3
import Derived.Test.YtonbbjgcnfipeaaRefx4
import Derived.Test.YtonbbjgcnfipeaaRefx5
import Derived.Test.YtonbbjgcnfipeaaRefx6
namespace Go.Proofs.Ytonbbjgcnfipeaa.Ref
open Go.RowKit Go.Proofs.YtonbbjgcnfipeaaW.PrintWords Go.Proofs.YtonbbjgcnfipeaaW.PrintLast Go.Proofs.YtonbbjgcnfipeaaW.PrintMore
attribute [local go_sem] max2_int min2_int max_two min_two max_three min_three max_four min_four   -- for this text's walks alone
set_option linter.unusedVariables false
set_option linter.unusedSimpArgs false

end Go.Proofs.Ytonbbjgcnfipeaa.Ref
