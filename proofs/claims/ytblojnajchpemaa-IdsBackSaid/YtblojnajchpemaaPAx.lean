/- The steps of the machine for these functions, written out by this session's program wip/printmore.py; Lean checks every line. -/
import Derived.Test.YtblojnajchpemaaPAx0
import Derived.Test.YtblojnajchpemaaPAx1
import Derived.Test.YtblojnajchpemaaPAx2
import Derived.Test.YtblojnajchpemaaPAx3
import Derived.Test.YtblojnajchpemaaPAx4
import Derived.Test.YtblojnajchpemaaPAx5
import Derived.Test.YtblojnajchpemaaPAx6
import Derived.Test.YtblojnajchpemaaPAx7
import Derived.Test.YtblojnajchpemaaPAx8
namespace Go.Proofs.Ytblojnajchpemaa.PA
open Go.RowKit Go.Proofs.YtblojnajchpemaaW.PrintWords Go.Proofs.YtblojnajchpemaaW.PrintLast Go.Proofs.YtblojnajchpemaaW.PrintMore
attribute [local go_sem] max2_int min2_int max_two min_two max_three min_three max_four min_four   -- for this text's walks alone
set_option linter.unusedVariables false
set_option linter.unusedSimpArgs false

end Go.Proofs.Ytblojnajchpemaa.PA
