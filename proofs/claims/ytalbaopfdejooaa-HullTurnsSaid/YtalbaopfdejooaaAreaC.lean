/- Chapter 3: the two calls of a round of Area. -/
import Derived.Test.YtalbaopfdejooaaAreaB
import Derived.Test.YtalbaopfdejooaaKernC
namespace Go.Proofs.Ytalbaopfdejooaa.AreaC
open Go.RowKit Base Slices RowsA KernA KernB AreaA AreaB
set_option linter.unusedVariables false
set_option linter.unusedSimpArgs false

/-- the two calls of a round -/
theorem cross_pq {p q : Pn} (hp : lie p = true) (hq : lie q = true) (w : World) : Calls Try.prog 69 #[.int .i64 p.2.1, .int .i64 q.2.2, .int .i64 q.2.1, .int .i64 p.2.2] w fun e w' => e = .returned (.agg (wcs (tr p q))) ∧ Fr Nil w w' := by
  obtain ⟨⟨a, b⟩, c, d⟩ := lie_bd hp
  obtain ⟨⟨a', b'⟩, c', d'⟩ := lie_bd hq
  exact KernC.cross_any p.2.1 q.2.2 q.2.1 p.2.2 (by omega) (by omega) (by omega) (by omega) w
theorem rcross_pq {p q : Pn} (hp : lie p = true) (hq : lie q = true) (w : World) : Calls Try.prog 27 #[.int .i64 p.2.1, .int .i64 q.2.2, .int .i64 q.2.1, .int .i64 p.2.2] w fun e w' => e = .returned (.agg (WideB.dcells (tr p q))) ∧ Fr Nil w w' := by
  obtain ⟨⟨a, b⟩, c, d⟩ := lie_bd hp
  obtain ⟨⟨a', b'⟩, c', d'⟩ := lie_bd hq
  exact KernC.rcross_any p.2.1 q.2.2 q.2.1 p.2.2 (by omega) (by omega) (by omega) (by omega) w
theorem add_wide {m n : Int} (hm : -193428131138340667952988160 ≤ m ∧ m ≤ 193428131138340667952988160) (hn : -193428131138340667952988160 ≤ n ∧ n ≤ 193428131138340667952988160) (w : World) :
    Calls Try.prog 66 #[.agg (wcs m), .agg (wcs n)] w fun e w' => e = .returned (.tuple #[.agg (wcs (m + n)), .bool true]) ∧ Fr Nil w w' := by
  refine (WideH.add_any (m / 18446744073709551616) (m % 18446744073709551616) (n / 18446744073709551616) (n % 18446744073709551616) (by omega) (by omega) (by omega) (by omega) w).mono ?_
  rintro e w' ⟨rfl, hf⟩
  rw [show m / 18446744073709551616 * 18446744073709551616 + m % 18446744073709551616 + (n / 18446744073709551616 * 18446744073709551616 + n % 18446744073709551616) = m + n by omega, KernC.told_in (by omega)]
  exact ⟨rfl, hf⟩
end Go.Proofs.Ytalbaopfdejooaa.AreaC
