/- Chapter 2: the walk of the reference's Wide. -/
import Derived.Test.YtalbaopfdejooaaWideD
namespace Go.Proofs.Ytalbaopfdejooaa.WideE
open Go.RowKit Base WideA WideB WideC WideD
set_option linter.unusedVariables false
set_option linter.unusedSimpArgs false

theorem dg_four (n : Int) (i : Nat) : dg n (4 + i) = dg (n / pw 4) i := by
  unfold dg
  rw [pw_add, Int.ediv_ediv_of_nonneg (Int.le_of_lt (pw_pos 4))]

theorem hi_four (n : Int) : ((dg n 7 * 65536 + dg n 6) * 65536 + dg n 5) * 65536 + dg n 4 = n / 18446744073709551616 % 18446744073709551616 := by
  have h := low_four (n / pw 4)
  rw [← dg_four, ← dg_four, ← dg_four, ← dg_four, pw4] at h
  exact h

theorem lo_four (n : Int) : ((dg n 3 * 65536 + dg n 2) * 65536 + dg n 1) * 65536 + dg n 0 = n % 18446744073709551616 := by
  have h := low_four n
  rw [pw4] at h
  exact h

set_option maxHeartbeats 4000000 in
/-- the walk, told by the highest digits -/
theorem wide_in (n H : Int) (w : World) (hc : (dg n 8 = 0 ∧ dg n 7 < 32768) ∨ (dg n 8 = 65535 ∧ 32768 ≤ dg n 7)) (hH : wrap64 (n / 18446744073709551616 % 18446744073709551616) = H) :
    Calls Try.prog 28 #[.agg (dcells n)] w fun e w' => e = .returned (.tuple #[.agg #[.int .i64 H, .int .u64 (n % 18446744073709551616)], .bool true]) ∧ Fr Nil w w' := by
  have hh := Lib.hid (hi_four n)
  have hl := Lib.hid (lo_four n)
  have hHH := Lib.hid hH
  clear hH
  have b0 := dg_bd n 0
  have b1 := dg_bd n 1
  have b2 := dg_bd n 2
  have b3 := dg_bd n 3
  have b4 := dg_bd n 4
  have b5 := dg_bd n 5
  have b6 := dg_bd n 6
  have b7 := dg_bd n 7
  unfold dcells
  generalize dg n 0 = d0 at *
  generalize dg n 1 = d1 at *
  generalize dg n 2 = d2 at *
  generalize dg n 3 = d3 at *
  generalize dg n 4 = d4 at *
  generalize dg n 5 = d5 at *
  generalize dg n 6 = d6 at *
  generalize dg n 7 = d7 at *
  generalize dg n 8 = d8 at *
  go_enter Try.func28, Try.ntmps28
  go_wp2_with fail
  refine wp_loop_rounds 5 ?_
  rw [rounds_succ]
  go_wp2_with fail
  go_quiet (fail)
  go_wp2_with fail
  rw [rounds_succ]
  go_wp2_with fail
  go_quiet (fail)
  go_wp2_with fail
  rw [rounds_succ]
  go_wp2_with fail
  go_quiet (fail)
  go_wp2_with fail
  rw [rounds_succ]
  go_wp2_with fail
  go_quiet (fail)
  go_wp2_with fail
  rw [rounds_succ]
  go_wp2_with fail
  all_goals
    have e1 := hh.out
    have e2 := hl.out
    have e3 := hHH.out
    refine bodyPost_ret (v := .tuple #[.agg #[.int .i64 H, .int .u64 (n % 18446744073709551616)], .bool true]) ?_ rfl ⟨rfl, ?_⟩
    · rw [← e2, ← e3, ← e1]
      simp [results, Try.results28, go_sem]
      try (unfold wrap64; omega)
    · (repeat' (with_reducible first | refine Fr.setCell ?_ (fun hlt => absurd hlt (by dsimp only; omega)) _ | refine Fr.alloc ?_ _ | refine Fr.drewN ?_ _ | refine Fr.drew ?_ | exact Fr.refl _ _))

set_option maxHeartbeats 4000000 in
theorem wide_out (n : Int) (w : World) (hc : (dg n 8 = 0 ∧ 32768 ≤ dg n 7) ∨ (dg n 8 = 65535 ∧ dg n 7 < 32768)) :
    Calls Try.prog 28 #[.agg (dcells n)] w fun e w' => e = .returned (.tuple #[.agg #[.int .i64 0, .int .u64 0], .bool false]) ∧ Fr Nil w w' := by
  have b0 := dg_bd n 0
  have b1 := dg_bd n 1
  have b2 := dg_bd n 2
  have b3 := dg_bd n 3
  have b4 := dg_bd n 4
  have b5 := dg_bd n 5
  have b6 := dg_bd n 6
  have b7 := dg_bd n 7
  unfold dcells
  generalize dg n 0 = d0 at *
  generalize dg n 1 = d1 at *
  generalize dg n 2 = d2 at *
  generalize dg n 3 = d3 at *
  generalize dg n 4 = d4 at *
  generalize dg n 5 = d5 at *
  generalize dg n 6 = d6 at *
  generalize dg n 7 = d7 at *
  generalize dg n 8 = d8 at *
  go_enter Try.func28, Try.ntmps28
  go_wp2_with fail
  refine wp_loop_rounds 5 ?_
  rw [rounds_succ]
  go_wp2_with fail
  go_quiet (fail)
  go_wp2_with fail
  rw [rounds_succ]
  go_wp2_with fail
  go_quiet (fail)
  go_wp2_with fail
  rw [rounds_succ]
  go_wp2_with fail
  go_quiet (fail)
  go_wp2_with fail
  rw [rounds_succ]
  go_wp2_with fail
  go_quiet (fail)
  go_wp2_with fail
  rw [rounds_succ]
  go_wp2_with fail
  all_goals
    refine bodyPost_ret (v := .tuple #[.agg #[.int .i64 0, .int .u64 0], .bool false]) ?_ rfl ⟨rfl, ?_⟩
    · simp [results, Try.results28, go_sem]
    · (repeat' (with_reducible first | refine Fr.setCell ?_ (fun hlt => absurd hlt (by dsimp only; omega)) _ | refine Fr.alloc ?_ _ | refine Fr.drewN ?_ _ | refine Fr.drew ?_ | exact Fr.refl _ _))

/-- what Wide answers on the digits of n -/
def told (n : Int) : Value :=
  if -170141183460469231731687303715884105728 ≤ n ∧ n < 170141183460469231731687303715884105728 then .tuple #[.agg #[.int .i64 (n / 18446744073709551616), .int .u64 (n % 18446744073709551616)], .bool true] else .tuple #[.agg #[.int .i64 0, .int .u64 0], .bool false]

theorem wide_any (n : Int) (w : World) (h0 : -340282366920938463463374607431768211456 ≤ n) (h1 : n < 340282366920938463463374607431768211456) :
    Calls Try.prog 28 #[.agg (dcells n)] w fun e w' => e = .returned (told n) ∧ Fr Nil w w' := by
  have h8 := dg8 n (by rw [pw8]; omega) (by rw [pw8]; omega)
  have h7 : dg n 7 = n / 5192296858534827628530496329220096 % 65536 := by simp only [dg, pw]; omega
  unfold told
  split
  · refine wide_in n _ w ?_ ?_
    · split at h8 <;> omega
    · unfold wrap64; omega
  · refine wide_out n w ?_
    split at h8 <;> omega
end Go.Proofs.Ytalbaopfdejooaa.WideE
