/- Chapter 7: the walk of Put. -/
import Derived.Test.YtaafclfhdkkleaaIntD
namespace Go.Proofs.Ytaafclfhdkkleaa.IntE
open Go.RowKit Base SortA IntB IntC IntD
set_option linter.unusedVariables false
set_option linter.unusedSimpArgs false

/-- what Go's l[k:] is -/
theorem tail_sl {w : World} {g o cap : Nat} {l : List Pr} (k : Nat) (hc : l.length ≤ cap) (hk : k ≤ l.length) (ha : g < w.heap.size) (hr : Row w g o l) : Sl w (.slice (if cap = k then some ⟨g, o, none⟩ else some ⟨g, o + k, none⟩) (l.length - k) (cap - k)) (l.drop k) := by
  have hld : (l.drop k).length = l.length - k := by rw [List.length_drop]
  split
  · have : l.drop k = [] := List.drop_eq_nil_of_le (by omega)
    exact Or.inr ⟨g, o, cap - k, by rw [hld], by omega, ha, by rw [this]; exact fun i p h => by simp at h⟩
  · exact Or.inr ⟨g, o + k, cap - k, by rw [hld], by omega, ha, hr.drop k⟩
theorem head_sl {w : World} {g o cap : Nat} {l : List Pr} (k : Nat) (hc : l.length ≤ cap) (hk : k ≤ l.length) (ha : g < w.heap.size) (hr : Row w g o l) : Sl w (.slice (some ⟨g, o, none⟩) k cap) (l.take k) := by
  have hlt : (l.take k).length = k := by rw [List.length_take]; omega
  exact Or.inr ⟨g, o, cap, by rw [hlt], by omega, ha, hr.take k⟩

end Go.Proofs.Ytaafclfhdkkleaa.IntE
