/- Chapter 7: the walks of few, Below, UpTo. -/
import Derived.Test.YtaafclfhdkkleaaIntB
namespace Go.Proofs.Ytaafclfhdkkleaa.IntC
open Go.RowKit Base SortA IntB
set_option linter.unusedVariables false
set_option linter.unusedSimpArgs false

theorem Sl.come {w : World} {v : Value} {l : List Pr} (h : Sl w v l) : Come w v l := by
  rcases h with h | ⟨g, o, cap, rfl, hc, ha, hr⟩
  · exact Or.inl h
  · exact Or.inr ⟨_, cap, rfl, hc, hr.flat⟩

theorem below_step {l : List Pr} {j : Nat} {p : Pr} (h : l[j]? = some p) (n : Int) : below (l.take (j + 1)) n = below (l.take j) n + if p.1 < n then 1 else 0 := by
  obtain ⟨hk, rfl⟩ := List.getElem?_eq_some_iff.1 h
  unfold below
  rw [List.take_succ_eq_append_getElem hk, List.countP_append]
  simp [List.countP_cons]

theorem upto_step {l : List Pr} {j : Nat} {p : Pr} (h : l[j]? = some p) (n : Int) : upto (l.take (j + 1)) n = upto (l.take j) n + if p.1 ≤ n then 1 else 0 := by
  obtain ⟨hk, rfl⟩ := List.getElem?_eq_some_iff.1 h
  unfold upto
  rw [List.take_succ_eq_append_getElem hk, List.countP_append]
  simp [List.countP_cons]

end Go.Proofs.Ytaafclfhdkkleaa.IntC
