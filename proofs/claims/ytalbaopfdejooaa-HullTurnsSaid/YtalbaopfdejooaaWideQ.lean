/- Chapter 2: the walk of Mul (package wide). -/
import Derived.Test.YtalbaopfdejooaaWideP
namespace Go.Proofs.Ytalbaopfdejooaa.WideQ
open Go.RowKit Base WideA WideB WideF WideM
set_option linter.unusedVariables false
set_option linter.unusedSimpArgs false

theorem mul64i (x y : Int) (hx0 : 0 ≤ x) (hx : x < 18446744073709551616) (hy0 : 0 ≤ y) (hy : y < 18446744073709551616) (w : World) :
    Calls Try.prog 78 #[.int .u64 x, .int .u64 y] w fun e w' => e = .returned (.tuple #[.int .u64 (x * y / 18446744073709551616), .int .u64 (x * y % 18446744073709551616)]) ∧ w' = w := by
  obtain ⟨x, rfl⟩ := Int.eq_ofNat_of_zero_le hx0
  obtain ⟨y, rfl⟩ := Int.eq_ofNat_of_zero_le hy0
  have h := mul64 x y (by omega) (by omega) w
  simpa using h

set_option maxHeartbeats 2000000 in
theorem Mul_any (a b : Int) (h1 : -9223372036854775808 ≤ a ∧ a ≤ 9223372036854775807) (h2 : -9223372036854775808 ≤ b ∧ b ≤ 9223372036854775807) (w : World) :
    Calls Try.prog 67 #[.int .i64 a, .int .i64 b] w fun e w' => e = .returned (.agg #[.int .i64 (a * b / 18446744073709551616), .int .u64 (a * b % 18446744073709551616)]) ∧ Fr Nil w w' := by
  obtain ⟨ua, hua⟩ : ∃ u, IntKind.u64.wrap a = u := ⟨_, rfl⟩
  obtain ⟨ub, hub⟩ : ∃ u, IntKind.u64.wrap b = u := ⟨_, rfl⟩
  have ea := Lib.hid ((IntKind.wrap_u64 a).symm.trans hua)
  have eb := Lib.hid ((IntKind.wrap_u64 b).symm.trans hub)
  have a0 : 0 ≤ ua ∧ ua ≤ 18446744073709551615 := by have := ea.out; omega
  have b0 : 0 ≤ ub ∧ ub ≤ 18446744073709551615 := by have := eb.out; omega
  have hm := fun v => mul64i ua ub a0.1 (by omega) b0.1 (by omega) v
  obtain ⟨P, hP⟩ : ∃ P, ua * ub / 18446744073709551616 = P := ⟨_, rfl⟩
  obtain ⟨Q, hQ⟩ : ∃ Q, ua * ub % 18446744073709551616 = Q := ⟨_, rfl⟩
  rw [hP, hQ] at hm
  have HP := Lib.hid hP
  have HQ := Lib.hid hQ
  clear hP hQ
  by_cases sa : a < 0 <;> by_cases sb : b < 0
  all_goals
    go_enter Try.func67, Try.ntmps67
    go_wp2_with fail
    refine (hm _).mono ?_
    rintro e w' ⟨rfl, rfl⟩
    go_wp2_with fail
    have hb : (a * b).natAbs ≤ 9223372036854775808 * 9223372036854775808 := by rw [Int.natAbs_mul]; exact Nat.mul_le_mul (by omega) (by omega)
    have e1 := ea.out
    have e2 := eb.out
    have e3 := HP.out
    have e4 := HQ.out
    refine bodyPost_ret (v := .agg #[.int .i64 (a * b / 18446744073709551616), .int .u64 (a * b % 18446744073709551616)]) ?_ rfl ⟨rfl, by (repeat' (with_reducible first | refine Fr.setCell ?_ (fun hlt => absurd hlt (by dsimp only; omega)) _ | refine Fr.alloc ?_ _ | refine Fr.drewN ?_ _ | refine Fr.drew ?_ | exact Fr.refl _ _))⟩
    simp [results, Try.results67, go_sem]
    first
      | (have ha : a = ua - 18446744073709551616 := by omega
         have hb' : b = ub - 18446744073709551616 := by omega
         have e : a * b = ua * ub - 18446744073709551616 * ua - 18446744073709551616 * ub + 340282366920938463463374607431768211456 := by
           rw [ha, hb', Int.sub_mul, Int.mul_sub, Int.mul_sub]; omega
         generalize a * b = Z at *
         generalize ua * ub = X at *
         simp only [IntKind.wrap_u64] at *
         unfold wrap64
         omega)
      | (have ha : a = ua - 18446744073709551616 := by omega
         have hb' : b = ub := by omega
         have e : a * b = ua * ub - 18446744073709551616 * ub := by
           rw [ha, hb', Int.sub_mul]
         generalize a * b = Z at *
         generalize ua * ub = X at *
         simp only [IntKind.wrap_u64] at *
         unfold wrap64
         omega)
      | (have ha : a = ua := by omega
         have hb' : b = ub - 18446744073709551616 := by omega
         have e : a * b = ua * ub - 18446744073709551616 * ua := by
           rw [ha, hb', Int.mul_sub]; omega
         generalize a * b = Z at *
         generalize ua * ub = X at *
         simp only [IntKind.wrap_u64] at *
         unfold wrap64
         omega)
      | (have ha : a = ua := by omega
         have hb' : b = ub := by omega
         have e : a * b = ua * ub := by rw [ha, hb']
         generalize a * b = Z at *
         generalize ua * ub = X at *
         simp only [IntKind.wrap_u64] at *
         unfold wrap64
         omega)
end Go.Proofs.Ytalbaopfdejooaa.WideQ
