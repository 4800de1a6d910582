-- (head)
import Derived.Test.YtlihonbmopeemaaRefx0
import Derived.Test.YtlihonbmopeemaaRefx1
import Derived.Test.YtlihonbmopeemaaRefx2
import Derived.Test.YtlihonbmopeemaaRefx3
import Derived.Test.YtlihonbmopeemaaRefx4
import Derived.Test.YtlihonbmopeemaaRefx5
import Derived.Test.YtlihonbmopeemaaRefx6
namespace Go.Proofs.Ytlihonbmopeemaa.Ref
open Go.RowKit Go.Proofs.YtlihonbmopeemaaW.PrintWords Go.Proofs.YtlihonbmopeemaaW.PrintLast Go.Proofs.YtlihonbmopeemaaW.PrintMore
attribute [local go_sem] max2_int min2_int max_two min_two max_three min_three max_four min_four   -- for this text's walks alone
set_option linter.unusedVariables false
set_option linter.unusedSimpArgs false

end Go.Proofs.Ytlihonbmopeemaa.Ref
