/- The chapter's examples: the walk has shown them. No condition. -/
import Derived.Test.YtidojlacnamabaaPNamx1
namespace Go.Proofs.Ytidojlacnamabaa.Pure
open Go.RowKit Go.Proofs.Ytidojlacnamabaa Go.Proofs.Ytidojlacnamabaa.PNam
theorem MemNames : bytebarnlaw13_MemNames.Pure := rfl
end Go.Proofs.Ytidojlacnamabaa.Pure
