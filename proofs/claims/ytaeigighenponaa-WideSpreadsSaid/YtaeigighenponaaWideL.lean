/- Chapter 2: the walk of Int (package wide). -/
import Derived.Test.YtaeigighenponaaWideK
namespace Go.Proofs.Ytaeigighenponaa.WideL
open Go.RowKit Base WideA WideB WideE WideF
set_option linter.unusedVariables false
set_option linter.unusedSimpArgs false

set_option maxHeartbeats 1000000 in
theorem Int_any (ah al : Int) (w : World) (h1 : -9223372036854775808 ≤ ah ∧ ah ≤ 9223372036854775807) (h2 : 0 ≤ al ∧ al ≤ 18446744073709551615) :
    Calls Try.prog 18 #[.agg #[.int .i64 ah, .int .u64 al]] w fun e w' => e = .returned (if ah = wrap64 al / 9223372036854775808 then .tuple #[.int .i64 (wrap64 al), .bool true] else .tuple #[.int .i64 0, .bool false]) ∧ Fr Nil w w' := by
  by_cases h : ah = wrap64 al / 9223372036854775808
  · rw [if_pos h]
    go_enter Try.func18, Try.ntmps18
    go_wp2_with fail
    all_goals first
      | (exfalso; omega)
      | exact bodyPost_ret (v := .tuple #[.int .i64 _, .bool _]) (by simp [results, Try.results18, go_sem]) rfl ⟨rfl, by (repeat' (with_reducible first | refine Fr.setCell ?_ (fun hlt => absurd hlt (by dsimp only; omega)) _ | refine Fr.alloc ?_ _ | refine Fr.drewN ?_ _ | refine Fr.drew ?_ | exact Fr.refl _ _))⟩
  · rw [if_neg h]
    go_enter Try.func18, Try.ntmps18
    go_wp2_with fail
    all_goals first
      | (exfalso; omega)
      | exact bodyPost_ret (v := .tuple #[.int .i64 _, .bool _]) (by simp [results, Try.results18, go_sem]) rfl ⟨rfl, by (repeat' (with_reducible first | refine Fr.setCell ?_ (fun hlt => absurd hlt (by dsimp only; omega)) _ | refine Fr.alloc ?_ _ | refine Fr.drewN ?_ _ | refine Fr.drew ?_ | exact Fr.refl _ _))⟩
end Go.Proofs.Ytaeigighenponaa.WideL
