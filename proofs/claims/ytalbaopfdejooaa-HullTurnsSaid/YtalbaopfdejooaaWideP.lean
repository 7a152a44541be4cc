/- Chapter 2: the walks of Cmp, Sign (package wide). -/
import Derived.Test.YtalbaopfdejooaaWideO
namespace Go.Proofs.Ytalbaopfdejooaa.WideP
open Go.RowKit Base WideA WideB WideF WideO
set_option linter.unusedVariables false
set_option linter.unusedSimpArgs false

theorem or_cmp (ah al bh bl : Int) (h2 : 0 ≤ al ∧ al ≤ 18446744073709551615) (h4 : 0 ≤ bl ∧ bl ≤ 18446744073709551615) : orI (cmpI ah bh) (cmpI al bl) = cmpI (ah * 18446744073709551616 + al) (bh * 18446744073709551616 + bl) := by
  unfold orI cmpI
  repeat' split
  all_goals omega

theorem compare_any (ah al bh bl : Int) (h1 : -9223372036854775808 ≤ ah ∧ ah ≤ 9223372036854775807) (h2 : 0 ≤ al ∧ al ≤ 18446744073709551615) (h3 : -9223372036854775808 ≤ bh ∧ bh ≤ 9223372036854775807) (h4 : 0 ≤ bl ∧ bl ≤ 18446744073709551615) (w : World) :
    Calls Try.prog 65 #[.agg #[.int .i64 ah, .int .u64 al], .agg #[.int .i64 bh, .int .u64 bl]] w fun e w' => e = .returned (.int .i64 (cmpI (ah * 18446744073709551616 + al) (bh * 18446744073709551616 + bl))) ∧ Fr Nil w w' := by
  rw [← or_cmp ah al bh bl h2 h4]
  exact compare_in ah al bh bl h1 h2 h3 h4 w

set_option maxHeartbeats 1000000 in
theorem Cmp_any (ah al bh bl : Int) (h1 : -9223372036854775808 ≤ ah ∧ ah ≤ 9223372036854775807) (h2 : 0 ≤ al ∧ al ≤ 18446744073709551615) (h3 : -9223372036854775808 ≤ bh ∧ bh ≤ 9223372036854775807) (h4 : 0 ≤ bl ∧ bl ≤ 18446744073709551615) (w : World) :
    Calls Try.prog 41 #[.agg #[.int .i64 ah, .int .u64 al], .agg #[.int .i64 bh, .int .u64 bl]] w fun e w' => e = .returned (.int .i64 (cmpI (ah * 18446744073709551616 + al) (bh * 18446744073709551616 + bl))) ∧ Fr Nil w w' := by
  go_enter Try.func41, Try.ntmps41
  go_wp2_with fail
  refine (compare_any _ _ _ _ h1 h2 h3 h4 _).mono ?_
  rintro e w' ⟨rfl, hf⟩
  go_wp2_with fail
  refine bodyPost_ret (v := .int .i64 _) (by simp [results, Try.results41, go_sem]) rfl ⟨rfl, ?_⟩
  exact Fr.trans (by (repeat' (with_reducible first | refine Fr.setCell ?_ (fun hlt => absurd hlt (by dsimp only; omega)) _ | refine Fr.alloc ?_ _ | refine Fr.drewN ?_ _ | refine Fr.drew ?_ | exact Fr.refl _ _))) hf

set_option maxHeartbeats 1000000 in
theorem Sign_any (ah al : Int) (h1 : -9223372036854775808 ≤ ah ∧ ah ≤ 9223372036854775807) (h2 : 0 ≤ al ∧ al ≤ 18446744073709551615) (w : World) :
    Calls Try.prog 73 #[.agg #[.int .i64 ah, .int .u64 al]] w fun e w' => e = .returned (.int .i64 (cmpI (ah * 18446744073709551616 + al) 0)) ∧ Fr Nil w w' := by
  go_enter Try.func73, Try.ntmps73
  go_wp2_with fail
  refine (compare_any _ _ 0 0 h1 h2 (by omega) (by omega) _).mono ?_
  rintro e w' ⟨rfl, hf⟩
  go_wp2_with fail
  refine bodyPost_ret (v := .int .i64 (cmpI (ah * 18446744073709551616 + al) 0)) (by simp [results, Try.results73, go_sem]) rfl ⟨rfl, ?_⟩
  · exact Fr.trans (by (repeat' (with_reducible first | refine Fr.setCell ?_ (fun hlt => absurd hlt (by dsimp only; omega)) _ | refine Fr.alloc ?_ _ | refine Fr.drewN ?_ _ | refine Fr.drew ?_ | exact Fr.refl _ _))) hf
end Go.Proofs.Ytalbaopfdejooaa.WideP
