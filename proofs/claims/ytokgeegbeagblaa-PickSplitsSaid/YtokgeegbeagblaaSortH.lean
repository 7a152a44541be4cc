/- Chapter 7: the walks of First, Behind, has, Has. -/
import Derived.Test.YtokgeegbeagblaaSortG
namespace Go.Proofs.Ytokgeegbeagblaa.SortH
open Go.RowKit Base SortA SortB SortC SortD SortE SortG Quiet
set_option linter.unusedVariables false
set_option linter.unusedSimpArgs false

theorem new' {w : World} {g : Nat} {t : TypeId} {cs : Array Value} (h : g = w.heap.size) : Bk (w.alloc (.cells cs t)) g t cs := by
  subst h
  exact Bk.new w t cs

end Go.Proofs.Ytokgeegbeagblaa.SortH
