/- The example that each law of chapter 4 holds beside. -/
import Derived.Test.YtlbogmpfjkendaaFlowW
import Derived.Test.YtlbogmpfjkendaaFrame
import Derived.Test.YtlbogmpfjkendaaPairEq
namespace Go.Proofs.Ytlbogmpfjkendaa
open Go Go.RowKit


end Go.Proofs.Ytlbogmpfjkendaa
