-- (head)
import Derived.Test.YtijjofdnkdfccaaRefx0
import Derived.Test.YtijjofdnkdfccaaRefx1
import Derived.Test.YtijjofdnkdfccaaRefx2
import Derived.Test.YtijjofdnkdfccaaRefx3
import Derived.Test.YtijjofdnkdfccaaRefx4
import Derived.Test.YtijjofdnkdfccaaRefx5
namespace Go.Proofs.Ytijjofdnkdfccaa.Ref
open Go.RowKit Go.Proofs.YtijjofdnkdfccaaW.PrintWords Go.Proofs.YtijjofdnkdfccaaW.PrintLast Go.Proofs.YtijjofdnkdfccaaW.PrintMore
attribute [local go_sem] max2_int min2_int max_two min_two max_three min_three max_four min_four   -- for this text's walks alone
set_option linter.unusedVariables false
set_option linter.unusedSimpArgs false

end Go.Proofs.Ytijjofdnkdfccaa.Ref
