/- The chapter's examples: the walk has shown them. No condition. -/
import Derived.Test.YthnnikhkmpafjaaPNamx1
namespace Go.Proofs.Ythnnikhkmpafjaa.Pure
open Go.RowKit Go.Proofs.Ythnnikhkmpafjaa Go.Proofs.Ythnnikhkmpafjaa.PNam
theorem CrcNames : bytebarnlaw03_CrcNames.Pure := rfl
end Go.Proofs.Ythnnikhkmpafjaa.Pure
