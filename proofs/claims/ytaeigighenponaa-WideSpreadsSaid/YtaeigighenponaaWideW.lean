/- Chapter 2: the walk of the law WideSpreads. -/
import Derived.Test.YtaeigighenponaaWideT
namespace Go.Proofs.Ytaeigighenponaa.WideW
open Go.RowKit Base WideA WideB WideE WideF WideT Quiet
set_option linter.unusedVariables false
set_option linter.unusedSimpArgs false

theorem cmpI_add (a b c : Int) : cmpI (a + c) (b + c) = cmpI a b := by
  unfold cmpI
  repeat' split
  all_goals omega

set_option maxHeartbeats 8000000 in
theorem spreads_any (a b c : Int) (w : World) (h1 : -9223372036854775808 ≤ a ∧ a ≤ 9223372036854775807) (h2 : -9223372036854775808 ≤ b ∧ b ≤ 9223372036854775807) (h3 : -9223372036854775808 ≤ c ∧ c ≤ 9223372036854775807) :
    Calls Try.prog 6 #[.int .i64 a, .int .i64 b, .int .i64 c] w fun e w' => e = .returned (.bool true) ∧ Fr Nil w w' := by
  by_cases hr : -2305843009213693952 ≤ a ∧ a ≤ 2305843009213693952 ∧ -2305843009213693952 ≤ b ∧ b ≤ 2305843009213693952
  · have m1 := mul_bd h1 h3
    have m2 := mul_bd h2 h3
    have m3 := mul_bd (a := a + b) (b := c) (by omega) h3
    have kA := fun W => WideQ.Mul_any a c h1 h3 W
    have kB := fun W => WideQ.Mul_any b c h2 h3 W
    have kC := fun W => WideQ.Mul_any (a + b) c (by omega) h3 W
    have kS := fun W => WideH.add_any (a * c / 18446744073709551616) (a * c % 18446744073709551616) (b * c / 18446744073709551616) (b * c % 18446744073709551616) (by omega) (by omega) (by omega) (by omega) W
    have kO := fun W => WideJ.Of_any a W h1.1 h1.2
    have kP := fun W => WideJ.Of_any b W h2.1 h2.2
    have kQ := fun W => WideJ.Of_any c W h3.1 h3.2
    have kX := fun W => WideH.add_any (a / 18446744073709551616) (a % 18446744073709551616) (c / 18446744073709551616) (c % 18446744073709551616) (by omega) (by omega) (by omega) (by omega) W
    have kY := fun W => WideH.add_any (b / 18446744073709551616) (b % 18446744073709551616) (c / 18446744073709551616) (c % 18446744073709551616) (by omega) (by omega) (by omega) (by omega) W
    have kU := fun W => WideP.Cmp_any ((a + c) / 18446744073709551616) ((a + c) % 18446744073709551616) ((b + c) / 18446744073709551616) ((b + c) % 18446744073709551616) (by omega) (by omega) (by omega) (by omega) W
    have kV := fun W => WideP.Cmp_any (a / 18446744073709551616) (a % 18446744073709551616) (b / 18446744073709551616) (b % 18446744073709551616) (by omega) (by omega) (by omega) (by omega) W
    have e0 : ∀ n : Int, n / 18446744073709551616 * 18446744073709551616 + n % 18446744073709551616 = n := fun n => by omega
    simp only [e0] at kS kX kY kU kV
    rw [cmpI_add] at kU
    rw [← Int.add_mul, told_in (by omega)] at kS
    rw [told_in (by omega)] at kX kY
    generalize cmpI a b = cm at *
    generalize a * c / 18446744073709551616 = ach at *
    generalize a * c % 18446744073709551616 = acl at *
    generalize b * c / 18446744073709551616 = bch at *
    generalize b * c % 18446744073709551616 = bcl at *
    generalize (a + b) * c / 18446744073709551616 = sh at *
    generalize (a + b) * c % 18446744073709551616 = sl at *
    generalize (a + c) / 18446744073709551616 = xh at *
    generalize (a + c) % 18446744073709551616 = xl at *
    generalize (b + c) / 18446744073709551616 = yh at *
    generalize (b + c) % 18446744073709551616 = yl at *
    generalize a / 18446744073709551616 = ah at *
    generalize a % 18446744073709551616 = al at *
    generalize b / 18446744073709551616 = bh at *
    generalize b % 18446744073709551616 = bl at *
    generalize c / 18446744073709551616 = ch at *
    generalize c % 18446744073709551616 = cl at *
    have A := Lib.hid kA
    have B := Lib.hid kB
    have C := Lib.hid kC
    have S := Lib.hid kS
    have O := Lib.hid kO
    have P := Lib.hid kP
    have Q := Lib.hid kQ
    have X := Lib.hid kX
    have Y := Lib.hid kY
    have U := Lib.hid kU
    have V := Lib.hid kV
    clear kA kB kC kS kO kP kQ kX kY kU kV m1 m2 m3 e0 h1 h2 h3
    go_enter Try.func6, Try.ntmps6
    go_wp2_with fail
    refine (A.out _).mono ?_
    rintro e w1 ⟨rfl, hf1⟩
    go_wp2_with fail
    refine (B.out _).mono ?_
    rintro e w2 ⟨rfl, hf2⟩
    go_wp2_with fail
    refine (S.out _).mono ?_
    rintro e w3 ⟨rfl, hf3⟩
    have g3 := ((hf1.trans hf2).trans hf3).alloc (.cells #[.int .i64 sh, .int .u64 sl] 24)
    have hS3 := Bk.new w3 24 #[.int .i64 sh, .int .u64 sl]
    clear hf1 hf2 hf3
    go_wp2_with fail
    refine (O.out _).mono ?_
    rintro e w4 ⟨rfl, hf4⟩
    go_wp2_with fail
    refine (Q.out _).mono ?_
    rintro e w5 ⟨rfl, hf5⟩
    go_wp2_with fail
    refine (X.out _).mono ?_
    rintro e w6 ⟨rfl, hf6⟩
    have hh6 := (hf4.trans hf5).trans hf6
    have g6 := (g3.trans hh6).alloc (.cells #[.int .i64 xh, .int .u64 xl] 24)
    have hS6 := (hS3.fr hh6 id).alloc (.cells #[.int .i64 xh, .int .u64 xl] 24)
    have hX6 := Bk.new w6 24 #[.int .i64 xh, .int .u64 xl]
    clear hf4 hf5 hf6 hh6 g3 hS3
    go_wp2_with fail
    refine (P.out _).mono ?_
    rintro e w7 ⟨rfl, hf7⟩
    go_wp2_with fail
    refine (Q.out _).mono ?_
    rintro e w8 ⟨rfl, hf8⟩
    go_wp2_with fail
    refine (Y.out _).mono ?_
    rintro e w9 ⟨rfl, hf9⟩
    have hh9 := (hf7.trans hf8).trans hf9
    have g9 := (g6.trans hh9).alloc (.cells #[.int .i64 yh, .int .u64 yl] 24)
    have hS9 := (hS6.fr hh9 id).alloc (.cells #[.int .i64 yh, .int .u64 yl] 24)
    have hX9 := (hX6.fr hh9 id).alloc (.cells #[.int .i64 yh, .int .u64 yl] 24)
    have hY9 := Bk.new w9 24 #[.int .i64 yh, .int .u64 yl]
    clear hf7 hf8 hf9 hh9 g6 hS6 hX6
    go_wp2_with fail
    generalize (w9.alloc (.cells #[.int .i64 yh, .int .u64 yl] 24)) = W0 at hS9 hX9 hY9 g9 ⊢
    obtain ⟨q1, q2⟩ := quiet_c2 (S := Nil) hS9 id
    obtain ⟨q3, q4⟩ := quiet_c2 (S := Nil) hX9 id
    obtain ⟨q5, q6⟩ := quiet_c2 (S := Nil) hY9 id
    refine wp_region_quiet_fr Nil (by kernel_rfl) (by kernel_rfl) ?_
    repeat (go_big_quiet_step (first
      | (go_at_call 11; with_reducible exact quiet_call (C.out _))
      | (go_at_call 14; with_reducible exact quiet_call (U.out _))
      | (go_at_call 14; with_reducible exact quiet_call (V.out _))
      | (go_at_call 12; with_reducible exact quiet_call (O.out _))
      | (go_at_call 12; with_reducible exact quiet_call (P.out _))
      | (go_at_call 13; with_reducible exact quiet_call (WideS.lives_any _))))
    refine wpQuiet_nil ?_
    intro _ hw'
    obtain ⟨⟨wq, hfq⟩, hw''⟩ := hw'
    subst hw''
    go_wp2_with fail
    exact bodyPost_ret (v := .bool true) (by simp [results, Try.results6, go_sem]) rfl ⟨rfl, g9.trans hfq⟩
  · have hc : a < -2305843009213693952 ∨ (¬ a < -2305843009213693952 ∧ 2305843009213693952 < a) ∨ (¬ a < -2305843009213693952 ∧ ¬ 2305843009213693952 < a ∧ b < -2305843009213693952) ∨ (¬ a < -2305843009213693952 ∧ ¬ 2305843009213693952 < a ∧ ¬ b < -2305843009213693952 ∧ 2305843009213693952 < b) := by omega
    clear hr
    rcases hc with h | ⟨h, h'⟩ | ⟨h, h', h''⟩ | ⟨h, h', h'', h'''⟩
    all_goals
      go_enter Try.func6, Try.ntmps6
      go_wp2_with fail
      all_goals first
        | (exfalso; omega)
        | (refine (WideS.lives_any _).mono ?_
           rintro e w1 ⟨rfl, hf1⟩
           go_wp2_with fail
           exact bodyPost_ret (v := .bool true) (by simp [results, Try.results6, go_sem]) rfl ⟨rfl, by (repeat' (with_reducible first | exact hf1 | refine Fr.setCell ?_ (fun hlt => absurd hlt (by dsimp only; omega)) _ | refine Fr.alloc ?_ _ | refine Fr.drewN ?_ _ | refine Fr.drew ?_))⟩)
end Go.Proofs.Ytaeigighenponaa.WideW
