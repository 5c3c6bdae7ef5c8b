/- A cell behind several stores into one other block. -/
import Derived.Test.YtcgpbmafkgbbdaaDoorWWords
set_option linter.unusedVariables false
namespace Go.Proofs.YtcgpbmafkgbbdaaDoorW.PrintWords
open Go.RowKit
end Go.Proofs.YtcgpbmafkgbbdaaDoorW.PrintWords
