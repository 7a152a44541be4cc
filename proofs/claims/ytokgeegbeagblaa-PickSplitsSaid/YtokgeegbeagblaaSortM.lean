/- Chapter 7: the walks of lives and of the law SortedPlaces. -/
import Derived.Test.YtokgeegbeagblaaSortL
namespace Go.Proofs.Ytokgeegbeagblaa.SortM
open Go.RowKit Base SortA SortB SortC SortD SortE SortF SortG SortH SortI SortJ SortK SortL Quiet
set_option linter.unusedVariables false
set_option linter.unusedSimpArgs false

end Go.Proofs.Ytokgeegbeagblaa.SortM
