/- Chapter 2: the walks of Of, Int (package wide). -/
import Derived.Test.YtpngeaklfjofiaaWideI
namespace Go.Proofs.Ytpngeaklfjofiaa.WideJ
open Go.RowKit Base WideA WideB WideE WideG WideH
set_option linter.unusedVariables false
set_option linter.unusedSimpArgs false

end Go.Proofs.Ytpngeaklfjofiaa.WideJ
