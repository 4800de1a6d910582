-- (head)
import Derived.Test.YtknpffoglcogeaaRefx0
import Derived.Test.YtknpffoglcogeaaRefx1
import Derived.Test.YtknpffoglcogeaaRefx2
import Derived.Test.YtknpffoglcogeaaRefx3
import Derived.Test.YtknpffoglcogeaaRefx4
import Derived.Test.YtknpffoglcogeaaRefx5
import Derived.Test.YtknpffoglcogeaaRefx6
namespace Go.Proofs.Ytknpffoglcogeaa.Ref
open Go.RowKit Go.Proofs.YtknpffoglcogeaaW.PrintWords Go.Proofs.YtknpffoglcogeaaW.PrintLast Go.Proofs.YtknpffoglcogeaaW.PrintMore
attribute [local go_sem] max2_int min2_int max_two min_two max_three min_three max_four min_four   -- for this text's walks alone
set_option linter.unusedVariables false
set_option linter.unusedSimpArgs false

end Go.Proofs.Ytknpffoglcogeaa.Ref
