/- Chapter 2: the walks of Of, Int (package wide). -/
import Derived.Test.YtaeigighenponaaWideI
namespace Go.Proofs.Ytaeigighenponaa.WideJ
open Go.RowKit Base WideA WideB WideE WideG WideH
set_option linter.unusedVariables false
set_option linter.unusedSimpArgs false

set_option maxHeartbeats 2000000 in
theorem Of_any (a : Int) (w : World) (h0 : -9223372036854775808 ≤ a) (h1 : a ≤ 9223372036854775807) :
    Calls Try.prog 12 #[.int .i64 a] w fun e w' => e = .returned (.agg #[.int .i64 (a / 18446744073709551616), .int .u64 (a % 18446744073709551616)]) ∧ Fr Nil w w' := by
  rcases Int.lt_or_le a 0 with hn | hn
  · go_enter Try.func12, Try.ntmps12
    go_wp2_with fail
    refine bodyPost_ret (v := .agg #[.int .i64 (a / 18446744073709551616), .int .u64 (a % 18446744073709551616)]) ?_ rfl ⟨rfl, by (repeat' (with_reducible first | refine Fr.setCell ?_ (fun hlt => absurd hlt (by dsimp only; omega)) _ | refine Fr.alloc ?_ _ | refine Fr.drewN ?_ _ | refine Fr.drew ?_ | exact Fr.refl _ _))⟩
    rw [show a / 18446744073709551616 = a / 9223372036854775808 by omega, show a % 18446744073709551616 = IntKind.u64.wrap a from (wrap_u a).symm]
    simp [results, Try.results12, go_sem]
  · go_enter Try.func12, Try.ntmps12
    go_wp2_with fail
    refine bodyPost_ret (v := .agg #[.int .i64 (a / 18446744073709551616), .int .u64 (a % 18446744073709551616)]) ?_ rfl ⟨rfl, by (repeat' (with_reducible first | refine Fr.setCell ?_ (fun hlt => absurd hlt (by dsimp only; omega)) _ | refine Fr.alloc ?_ _ | refine Fr.drewN ?_ _ | refine Fr.drew ?_ | exact Fr.refl _ _))⟩
    rw [show a / 18446744073709551616 = a / 9223372036854775808 by omega, show a % 18446744073709551616 = a by omega]
    simp [results, Try.results12, go_sem]
end Go.Proofs.Ytaeigighenponaa.WideJ
