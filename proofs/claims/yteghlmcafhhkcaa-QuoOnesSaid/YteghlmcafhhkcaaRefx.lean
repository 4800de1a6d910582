-- (head)
import Derived.Test.YteghlmcafhhkcaaRefx0
import Derived.Test.YteghlmcafhhkcaaRefx1
import Derived.Test.YteghlmcafhhkcaaRefx2
import Derived.Test.YteghlmcafhhkcaaRefx3
import Derived.Test.YteghlmcafhhkcaaRefx4
import Derived.Test.YteghlmcafhhkcaaRefx5
import Derived.Test.YteghlmcafhhkcaaRefx6
import Derived.Test.YteghlmcafhhkcaaRefx7
import Derived.Test.YteghlmcafhhkcaaRefx8
namespace Go.Proofs.Yteghlmcafhhkcaa.Ref
open Go.RowKit Go.Proofs.YteghlmcafhhkcaaW.PrintWords Go.Proofs.YteghlmcafhhkcaaW.PrintLast Go.Proofs.YteghlmcafhhkcaaW.PrintMore
attribute [local go_sem] max2_int min2_int max_two min_two max_three min_three max_four min_four   -- for this text's walks alone
set_option linter.unusedVariables false
set_option linter.unusedSimpArgs false

end Go.Proofs.Yteghlmcafhhkcaa.Ref
