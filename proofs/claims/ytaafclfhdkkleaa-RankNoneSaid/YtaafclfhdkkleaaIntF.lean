/- Chapter 7: the walk of the reference's Sort. -/
import Derived.Test.YtaafclfhdkkleaaIntE
namespace Go.Proofs.Ytaafclfhdkkleaa.IntF
open Go.RowKit Base SortA IntB IntC IntD IntE
set_option linter.unusedVariables false
set_option linter.unusedSimpArgs false

end Go.Proofs.Ytaafclfhdkkleaa.IntF
