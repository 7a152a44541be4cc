/- Chapter 2: the walks of cmp.Compare at int64, uint64. -/
import Derived.Test.YtalbaopfdejooaaWideJ
namespace Go.Proofs.Ytalbaopfdejooaa.WideK
open Go.RowKit Base WideA WideB WideE WideF
set_option linter.unusedVariables false
set_option linter.unusedSimpArgs false

theorem nan_i64 (a : Int) (w : World) : Calls Try.prog 82 #[.int .i64 a] w fun e w' => e = .returned (.bool false) ∧ w' = w := by
  go_enter Try.func82, Try.ntmps82
  go_wp2_with fail
  exact bodyPost_ret (v := .bool false) (by simp [results, Try.results82, go_sem]) rfl ⟨rfl, rfl⟩

set_option maxHeartbeats 1000000 in
theorem cmp_i64 (a b : Int) (w : World) (ha : -9223372036854775808 ≤ a ∧ a ≤ 9223372036854775807) (hb : -9223372036854775808 ≤ b ∧ b ≤ 9223372036854775807) : Calls Try.prog 75 #[.int .i64 a, .int .i64 b] w fun e w' => e = .returned (.int .i64 (cmpI a b)) ∧ w' = w := by
  have key : ∀ r : Int, (a < b ∧ r = -1) ∨ (b < a ∧ r = 1) ∨ (a = b ∧ r = 0) → Calls Try.prog 75 #[.int .i64 a, .int .i64 b] w fun e w' => e = .returned (.int .i64 r) ∧ w' = w := by
    rintro r (⟨h, rfl⟩ | ⟨h, rfl⟩ | ⟨rfl, rfl⟩)
    all_goals
      go_enter Try.func75, Try.ntmps75
      go_wp2_with fail
      refine (nan_i64 _ _).mono ?_
      rintro e w' ⟨rfl, rfl⟩
      go_wp2_with fail
      refine (nan_i64 _ _).mono ?_
      rintro e w' ⟨rfl, rfl⟩
      go_wp2_with fail
      exact bodyPost_ret (v := .int .i64 _) (by simp [results, Try.results75, go_sem]) rfl ⟨rfl, rfl⟩
  refine key _ ?_
  unfold cmpI
  split
  · omega
  · split <;> omega

theorem nan_u64 (a : Int) (w : World) : Calls Try.prog 83 #[.int .u64 a] w fun e w' => e = .returned (.bool false) ∧ w' = w := by
  go_enter Try.func83, Try.ntmps83
  go_wp2_with fail
  exact bodyPost_ret (v := .bool false) (by simp [results, Try.results83, go_sem]) rfl ⟨rfl, rfl⟩

set_option maxHeartbeats 1000000 in
theorem cmp_u64 (a b : Int) (w : World) (ha : 0 ≤ a ∧ a ≤ 18446744073709551615) (hb : 0 ≤ b ∧ b ≤ 18446744073709551615) : Calls Try.prog 76 #[.int .u64 a, .int .u64 b] w fun e w' => e = .returned (.int .i64 (cmpI a b)) ∧ w' = w := by
  have key : ∀ r : Int, (a < b ∧ r = -1) ∨ (b < a ∧ r = 1) ∨ (a = b ∧ r = 0) → Calls Try.prog 76 #[.int .u64 a, .int .u64 b] w fun e w' => e = .returned (.int .i64 r) ∧ w' = w := by
    rintro r (⟨h, rfl⟩ | ⟨h, rfl⟩ | ⟨rfl, rfl⟩)
    all_goals
      go_enter Try.func76, Try.ntmps76
      go_wp2_with fail
      refine (nan_u64 _ _).mono ?_
      rintro e w' ⟨rfl, rfl⟩
      go_wp2_with fail
      refine (nan_u64 _ _).mono ?_
      rintro e w' ⟨rfl, rfl⟩
      go_wp2_with fail
      exact bodyPost_ret (v := .int .i64 _) (by simp [results, Try.results76, go_sem]) rfl ⟨rfl, rfl⟩
  refine key _ ?_
  unfold cmpI
  split
  · omega
  · split <;> omega
end Go.Proofs.Ytalbaopfdejooaa.WideK
