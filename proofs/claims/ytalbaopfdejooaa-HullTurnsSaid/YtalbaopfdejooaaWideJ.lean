/- Chapter 2: the walks of Of, Int (package wide). -/
import Derived.Test.YtalbaopfdejooaaWideI
namespace Go.Proofs.Ytalbaopfdejooaa.WideJ
open Go.RowKit Base WideA WideB WideE WideG WideH
set_option linter.unusedVariables false
set_option linter.unusedSimpArgs false

end Go.Proofs.Ytalbaopfdejooaa.WideJ
