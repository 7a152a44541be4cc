/- Chapter 2: the walks of Add, Neg. -/
import Derived.Test.YtalbaopfdejooaaWideC
namespace Go.Proofs.Ytalbaopfdejooaa.WideD
open Go.RowKit Base WideA WideB WideC
set_option linter.unusedVariables false
set_option linter.unusedSimpArgs false

set_option maxHeartbeats 4000000 in
theorem add_any (m n : Int) (w : World) :
    Calls Try.prog 26 #[.agg (dcells m), .agg (dcells n)] w fun e w' => e = .returned (.agg (dcells (m + n))) ∧ Fr Nil w w' := by
  unfold dcells
  go_enter Try.func26, Try.ntmps26
  go_wp2_with fail
  refine wp_loop_rounds 10 ?_
  have b1 := dg_bd m 0
  have b2 := dg_bd n 0
  have b3 := car_bd m n 0
  rw [rounds_succ]
  go_wp2_with fail
  try go_quiet (fail)
  try go_wp2_with fail
  rw [(step0 m n).1, (step0 m n).2]
  clear b1 b2 b3
  have b1 := dg_bd m 1
  have b2 := dg_bd n 1
  have b3 := car_bd m n 1
  rw [rounds_succ]
  go_wp2_with fail
  try go_quiet (fail)
  try go_wp2_with fail
  rw [(car_step m n 1).1, (car_step m n 1).2]
  clear b1 b2 b3
  have b1 := dg_bd m 2
  have b2 := dg_bd n 2
  have b3 := car_bd m n 2
  rw [rounds_succ]
  go_wp2_with fail
  try go_quiet (fail)
  try go_wp2_with fail
  rw [(car_step m n 2).1, (car_step m n 2).2]
  clear b1 b2 b3
  have b1 := dg_bd m 3
  have b2 := dg_bd n 3
  have b3 := car_bd m n 3
  rw [rounds_succ]
  go_wp2_with fail
  try go_quiet (fail)
  try go_wp2_with fail
  rw [(car_step m n 3).1, (car_step m n 3).2]
  clear b1 b2 b3
  have b1 := dg_bd m 4
  have b2 := dg_bd n 4
  have b3 := car_bd m n 4
  rw [rounds_succ]
  go_wp2_with fail
  try go_quiet (fail)
  try go_wp2_with fail
  rw [(car_step m n 4).1, (car_step m n 4).2]
  clear b1 b2 b3
  have b1 := dg_bd m 5
  have b2 := dg_bd n 5
  have b3 := car_bd m n 5
  rw [rounds_succ]
  go_wp2_with fail
  try go_quiet (fail)
  try go_wp2_with fail
  rw [(car_step m n 5).1, (car_step m n 5).2]
  clear b1 b2 b3
  have b1 := dg_bd m 6
  have b2 := dg_bd n 6
  have b3 := car_bd m n 6
  rw [rounds_succ]
  go_wp2_with fail
  try go_quiet (fail)
  try go_wp2_with fail
  rw [(car_step m n 6).1, (car_step m n 6).2]
  clear b1 b2 b3
  have b1 := dg_bd m 7
  have b2 := dg_bd n 7
  have b3 := car_bd m n 7
  rw [rounds_succ]
  go_wp2_with fail
  try go_quiet (fail)
  try go_wp2_with fail
  rw [(car_step m n 7).1, (car_step m n 7).2]
  clear b1 b2 b3
  have b1 := dg_bd m 8
  have b2 := dg_bd n 8
  have b3 := car_bd m n 8
  rw [rounds_succ]
  go_wp2_with fail
  try go_quiet (fail)
  try go_wp2_with fail
  rw [(car_step m n 8).1, (car_step m n 8).2]
  clear b1 b2 b3
  rw [rounds_succ]
  go_wp2_with fail
  refine bodyPost_ret (v := .agg (dcells (m + n))) ?_ rfl ⟨rfl, ?_⟩
  · unfold dcells
    simp [results, Try.results26, go_sem]
  · (repeat' (with_reducible first | refine Fr.setCell ?_ (fun hlt => absurd hlt (by dsimp only; omega)) _ | refine Fr.alloc ?_ _ | refine Fr.drewN ?_ _ | refine Fr.drew ?_ | exact Fr.refl _ _))

theorem dcells_one : dcells 1 = #[.int .u64 1, .int .u64 0, .int .u64 0, .int .u64 0, .int .u64 0, .int .u64 0, .int .u64 0, .int .u64 0, .int .u64 0] := by
  unfold dcells
  simp [dg_one]

theorem add_one (m : Int) (w : World) :
    Calls Try.prog 26 #[.agg (dcells (-m - 1)), .agg #[.int .u64 1, .int .u64 0, .int .u64 0, .int .u64 0, .int .u64 0, .int .u64 0, .int .u64 0, .int .u64 0, .int .u64 0]] w fun e w' => e = .returned (.agg (dcells (-m))) ∧ Fr Nil w w' := by
  have h := add_any (-m - 1) 1 w
  rw [dcells_one, show -m - 1 + 1 = -m by omega] at h
  exact h

set_option maxHeartbeats 4000000 in
theorem neg_any (m : Int) (w : World) :
    Calls Try.prog 47 #[.agg (dcells m)] w fun e w' => e = .returned (.agg (dcells (-m))) ∧ Fr Nil w w' := by
  unfold dcells
  go_enter Try.func47, Try.ntmps47
  go_wp2_with fail
  refine wp_loop_rounds 10 ?_
  have b1 := dg_bd m 0
  rw [rounds_succ]
  go_wp2_with fail
  rw [dg_not m 0]
  clear b1
  have b1 := dg_bd m 1
  rw [rounds_succ]
  go_wp2_with fail
  rw [dg_not m 1]
  clear b1
  have b1 := dg_bd m 2
  rw [rounds_succ]
  go_wp2_with fail
  rw [dg_not m 2]
  clear b1
  have b1 := dg_bd m 3
  rw [rounds_succ]
  go_wp2_with fail
  rw [dg_not m 3]
  clear b1
  have b1 := dg_bd m 4
  rw [rounds_succ]
  go_wp2_with fail
  rw [dg_not m 4]
  clear b1
  have b1 := dg_bd m 5
  rw [rounds_succ]
  go_wp2_with fail
  rw [dg_not m 5]
  clear b1
  have b1 := dg_bd m 6
  rw [rounds_succ]
  go_wp2_with fail
  rw [dg_not m 6]
  clear b1
  have b1 := dg_bd m 7
  rw [rounds_succ]
  go_wp2_with fail
  rw [dg_not m 7]
  clear b1
  have b1 := dg_bd m 8
  rw [rounds_succ]
  go_wp2_with fail
  rw [dg_not m 8]
  clear b1
  rw [rounds_succ]
  go_wp2_with fail
  refine Calls.mono (add_one m _) ?_
  rintro e w' ⟨rfl, hf⟩
  have hl : w.heap.size < w'.heap.size := by have := hf.size; simp at this; omega
  have hl2 : w.heap.size + 1 < w'.heap.size := by have := hf.size; simp at this; omega
  have hB : Bk w' (w.heap.size + 1) 41 #[.int .u64 0, .int .u64 0, .int .u64 0, .int .u64 0, .int .u64 0, .int .u64 0, .int .u64 0, .int .u64 0, .int .u64 0] := Bk.fr (S := Nil) (by (repeat' (first | ((with_reducible refine new' ?_); simp; done) | with_reducible refine Bk.alloc ?_ _ | with_reducible refine Bk.far ?_ (by dsimp only; omega) _ | with_reducible refine Bk.drewN ?_ _ | with_reducible refine Bk.drew ?_))) hf (fun s => s)
  obtain ⟨k0, k1, k2, k3, k4, k5, k6, k7, k8, f0, f1, f2, f3, f4, f5, f6, f7, f8⟩ := c9 hB
  unfold dcells
  go_wp2_with fail
  refine bodyPost_ret (v := .agg (dcells (-m))) ?_ rfl ⟨rfl, ?_⟩
  · unfold dcells
    simp [results, Try.results47, go_sem, k0, k1, k2, k3, k4, k5, k6, k7, k8]
  · have hh : Fr Nil w w' := Fr.trans (by (repeat' (with_reducible first | refine Fr.setCell ?_ (fun hlt => absurd hlt (by dsimp only; omega)) _ | refine Fr.alloc ?_ _ | refine Fr.drewN ?_ _ | refine Fr.drew ?_ | exact Fr.refl _ _))) hf
    (repeat' (with_reducible first | exact hh | refine Fr.setCell ?_ (fun hlt => absurd hlt (by dsimp only; omega)) _ | refine Fr.alloc ?_ _ | refine Fr.drewN ?_ _ | refine Fr.drew ?_))
end Go.Proofs.Ytalbaopfdejooaa.WideD
