/- Chapter 7: the walks of the closures of first and behind, of seek, First, Behind. -/
import Derived.Test.YtokgeegbeagblaaSortF
namespace Go.Proofs.Ytokgeegbeagblaa.SortG
open Go.RowKit Base SortA SortB SortC SortD SortE Quiet
set_option linter.unusedVariables false
set_option linter.unusedSimpArgs false

/-- Less, as a value -/
def lessV : Value := .func (.func 14) #[] #[]

end Go.Proofs.Ytokgeegbeagblaa.SortG
