/- Chapter 2: the walk of Int (package wide). -/
import Derived.Test.YtalbaopfdejooaaWideK
namespace Go.Proofs.Ytalbaopfdejooaa.WideL
open Go.RowKit Base WideA WideB WideE WideF
set_option linter.unusedVariables false
set_option linter.unusedSimpArgs false

end Go.Proofs.Ytalbaopfdejooaa.WideL
