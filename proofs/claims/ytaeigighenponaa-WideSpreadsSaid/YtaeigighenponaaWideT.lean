/- Chapter 2: the walk of the law WideProducts. -/
import Derived.Test.YtaeigighenponaaWideS
import Derived.Test.YtaeigighenponaaWideR
namespace Go.Proofs.Ytaeigighenponaa.WideT
open Go.RowKit Base WideA WideB WideE WideF Quiet
set_option linter.unusedVariables false
set_option linter.unusedSimpArgs false

theorem told_in {n : Int} (h : -170141183460469231731687303715884105728 ≤ n ∧ n < 170141183460469231731687303715884105728) : told n = .tuple #[.agg #[.int .i64 (n / 18446744073709551616), .int .u64 (n % 18446744073709551616)], .bool true] := if_pos h

theorem mul_bd {a b : Int} (h1 : -9223372036854775808 ≤ a ∧ a ≤ 9223372036854775807) (h2 : -9223372036854775808 ≤ b ∧ b ≤ 9223372036854775807) : -85070591730234615865843651857942052864 ≤ a * b ∧ a * b ≤ 85070591730234615865843651857942052864 := by
  have hb : (a * b).natAbs ≤ 9223372036854775808 * 9223372036854775808 := by rw [Int.natAbs_mul]; exact Nat.mul_le_mul (by omega) (by omega)
  omega

set_option maxHeartbeats 4000000 in
theorem products_any (a b : Int) (w : World) (h1 : -9223372036854775808 ≤ a ∧ a ≤ 9223372036854775807) (h2 : -9223372036854775808 ≤ b ∧ b ≤ 9223372036854775807) :
    Calls Try.prog 3 #[.int .i64 a, .int .i64 b] w fun e w' => e = .returned (.bool true) ∧ Fr Nil w w' := by
  have hm := mul_bd h1 h2
  have kA := fun W => WideC.long_any a W h1.1 h1.2
  have kB := fun W => WideC.long_any b W h2.1 h2.2
  have kP := fun W => WideR.mul_any a b W
  have kM := fun W => WideQ.Mul_any a b h1 h2 W
  have kO := fun W => WideJ.Of_any a W h1.1 h1.2
  have kW := fun W => wide_any (a * b) W (by omega) (by omega)
  have kX := fun W => wide_any a W (by omega) (by omega)
  rw [told_in (by omega)] at kW kX
  generalize a * b / 18446744073709551616 = ph at *
  generalize a * b % 18446744073709551616 = pl at *
  generalize a / 18446744073709551616 = qh at *
  generalize a % 18446744073709551616 = ql at *
  have A := Lib.hid kA
  have B := Lib.hid kB
  have P := Lib.hid kP
  have M := Lib.hid kM
  have O := Lib.hid kO
  have V := Lib.hid kW
  have X := Lib.hid kX
  clear kA kB kP kM kO kW kX hm h1 h2
  generalize dcells (a * b) = dp at *
  generalize dcells a = da at *
  generalize dcells b = db at *
  go_enter Try.func3, Try.ntmps3
  go_wp2_with fail
  refine (A.out _).mono ?_
  rintro e w1 ⟨rfl, hf1⟩
  go_wp2_with fail
  refine (B.out _).mono ?_
  rintro e w2 ⟨rfl, hf2⟩
  go_wp2_with fail
  refine (P.out _).mono ?_
  rintro e w3 ⟨rfl, hf3⟩
  go_wp2_with fail
  refine (V.out _).mono ?_
  rintro e w4 ⟨rfl, hf4⟩
  have g4 := ((hf1.trans hf2).trans hf3).trans hf4
  clear hf1 hf2 hf3 hf4
  go_wp2_with fail
  refine (A.out _).mono ?_
  rintro e w5 ⟨rfl, hf5⟩
  have hB : Bk w5 w4.heap.size 24 #[.int .i64 ph, .int .u64 pl] := (Bk.new w4 _ _).fr hf5 id
  have g5 := (g4.alloc _).trans hf5
  clear hf5 g4
  go_wp2_with fail
  refine (X.out _).mono ?_
  rintro e w6 ⟨rfl, hf6⟩
  have hB1 := (hB.fr hf6 id).alloc (.cells #[.int .i64 qh, .int .u64 ql] 24)
  have hB2 := Bk.new w6 24 #[.int .i64 qh, .int .u64 ql]
  have g6 := (g5.trans hf6).alloc (.cells #[.int .i64 qh, .int .u64 ql] 24)
  clear g5 hf6 hB
  go_wp2_with fail
  generalize (w6.alloc (.cells #[.int .i64 qh, .int .u64 ql] 24)) = W0 at hB1 hB2 g6 ⊢
  obtain ⟨q1, q2⟩ := quiet_c2 (S := Nil) hB1 id
  obtain ⟨q3, q4⟩ := quiet_c2 (S := Nil) hB2 id
  refine wp_region_quiet_fr Nil (by kernel_rfl) (by kernel_rfl) ?_
  repeat (go_big_quiet_step (first
    | (go_at_call 11; with_reducible exact quiet_call (M.out _))
    | (go_at_call 12; with_reducible exact quiet_call (O.out _))
    | (go_at_call 13; with_reducible exact quiet_call (WideS.lives_any _))))
  refine wpQuiet_nil ?_
  intro _ hw'
  obtain ⟨⟨wq, hfq⟩, hw''⟩ := hw'
  subst hw''
  go_wp2_with fail
  exact bodyPost_ret (v := .bool true) (by simp [results, Try.results3, go_sem]) rfl ⟨rfl, g6.trans hfq⟩
end Go.Proofs.Ytaeigighenponaa.WideT
