/- Walks of package block: Check. -/
import Derived.Test.YtobcfocbglkicaaBlkG
set_option linter.unusedVariables false
set_option maxRecDepth 100000
namespace Go.Proofs.Ytobcfocbglkicaa
open Go.RowKit

end Go.Proofs.Ytobcfocbglkicaa
