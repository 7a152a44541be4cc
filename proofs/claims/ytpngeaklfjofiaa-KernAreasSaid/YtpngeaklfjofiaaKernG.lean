/- Chapter 3: the walks of the orders and of what is good; and of the law KernOrders. -/
import Derived.Test.YtpngeaklfjofiaaKernE
import Derived.Deep.RegionHeld3
namespace Go.Proofs.Ytpngeaklfjofiaa.KernG
open Go.RowKit KernE Base WideA WideB WideE WideF WideO KernA KernB KernC KernD Quiet
set_option linter.unusedVariables false
set_option linter.unusedSimpArgs false

set_option maxHeartbeats 8000000 in
theorem three_any (a b c x y z : Int) (w : World) : Calls Try.prog 18 #[.agg #[.int .i64 a, .int .i64 b, .int .i64 c], .agg #[.int .i64 x, .int .i64 y, .int .i64 z]] w fun e w' => e = .returned (.int .i64 (lex3 a b c x y z)) ∧ Fr Nil w w' := by
  rcases lex_paths a b c x y z with ⟨h, e⟩ | ⟨h, e⟩ | ⟨rfl, h, e⟩ | ⟨rfl, h, e⟩ | ⟨rfl, rfl, h, e⟩ | ⟨rfl, rfl, h, e⟩ | ⟨rfl, rfl, rfl, e⟩
  all_goals
    rw [e]
    clear e
    go_enter Try.func18, Try.ntmps18
    go_wp2_with fail
    refine wp_loop_rounds 4 ?_
    repeat (rw [rounds_succ]; go_wp2_with fail; go_quiet (fail); go_wp2_with fail; try (go_quiet (fail); go_wp2_with fail))
    try (rw [rounds_succ]; go_wp2_with fail)
    exact bodyPost_ret (v := .int .i64 _) (by simp [results, Try.results18, go_sem] <;> omega) rfl ⟨rfl, by (repeat' (with_reducible first | refine Fr.setCell ?_ (fun hlt => absurd hlt (by dsimp only; omega)) _ | refine Fr.alloc ?_ _ | refine Fr.drewN ?_ _ | refine Fr.drew ?_ | exact Fr.refl _ _))⟩

set_option maxHeartbeats 1000000 in
theorem Good_any (i x y : Int) (w : World) : Calls Try.prog 13 #[.agg #[.int .i64 i, .int .i64 x, .int .i64 y]] w fun e w' => e = .returned (.bool (inI i && lieB x y)) ∧ Fr Nil w w' := by
  have k0 := fun W => id_any i W
  have k1 := fun W => lies_any i x y W
  generalize inI i = b0 at *
  generalize lieB x y = b1 at *
  have K0 := Lib.hid k0
  have K1 := Lib.hid k1
  clear k0 k1
  cases b0 <;> cases b1
  all_goals
    go_enter Try.func13, Try.ntmps13
    go_wp2_with fail
    refine (K0.out _).mono ?_
    rintro e w0 ⟨rfl, rfl⟩
    go_wp2_with fail
    first
      | exact bodyPost_ret (v := .bool _) (by simp [results, Try.results13, go_sem] <;> omega) rfl ⟨rfl, by (repeat' (with_reducible first | refine Fr.setCell ?_ (fun hlt => absurd hlt (by dsimp only; omega)) _ | refine Fr.alloc ?_ _ | refine Fr.drewN ?_ _ | refine Fr.drew ?_ | exact Fr.refl _ _))⟩
      | (refine (K1.out _).mono ?_
         rintro e w1 ⟨rfl, hf1⟩
         have g1 := Fr.trans (a := w) (by (repeat' (with_reducible first | refine Fr.setCell ?_ (fun hlt => absurd hlt (by dsimp only; omega)) _ | refine Fr.alloc ?_ _ | refine Fr.drewN ?_ _ | refine Fr.drew ?_ | exact Fr.refl _ _))) hf1
         clear hf1
         go_wp2_with fail
         exact bodyPost_ret (v := .bool _) (by simp [results, Try.results13, go_sem] <;> omega) rfl ⟨rfl, by (repeat' (with_reducible first | exact g1 | refine Fr.setCell ?_ (fun hlt => absurd hlt (by dsimp only; omega)) _ | refine Fr.alloc ?_ _ | refine Fr.drewN ?_ _ | refine Fr.drew ?_))⟩)

set_option maxHeartbeats 1000000 in
theorem rGood_any (i x y : Int) (w : World) : Calls Try.prog 14 #[.agg #[.int .i64 i, .int .i64 x, .int .i64 y]] w fun e w' => e = .returned (.bool (inI i && lieB x y)) ∧ Fr Nil w w' := by
  have k0 := fun W => rid_any i W
  have k1 := fun W => rlies_any i x y W
  generalize inI i = b0 at *
  generalize lieB x y = b1 at *
  have K0 := Lib.hid k0
  have K1 := Lib.hid k1
  clear k0 k1
  cases b0 <;> cases b1
  all_goals
    go_enter Try.func14, Try.ntmps14
    go_wp2_with fail
    refine (K0.out _).mono ?_
    rintro e w0 ⟨rfl, rfl⟩
    go_wp2_with fail
    first
      | exact bodyPost_ret (v := .bool _) (by simp [results, Try.results14, go_sem] <;> omega) rfl ⟨rfl, by (repeat' (with_reducible first | refine Fr.setCell ?_ (fun hlt => absurd hlt (by dsimp only; omega)) _ | refine Fr.alloc ?_ _ | refine Fr.drewN ?_ _ | refine Fr.drew ?_ | exact Fr.refl _ _))⟩
      | (refine (K1.out _).mono ?_
         rintro e w1 ⟨rfl, hf1⟩
         have g1 := Fr.trans (a := w) (by (repeat' (with_reducible first | refine Fr.setCell ?_ (fun hlt => absurd hlt (by dsimp only; omega)) _ | refine Fr.alloc ?_ _ | refine Fr.drewN ?_ _ | refine Fr.drew ?_ | exact Fr.refl _ _))) hf1
         clear hf1
         go_wp2_with fail
         exact bodyPost_ret (v := .bool _) (by simp [results, Try.results14, go_sem] <;> omega) rfl ⟨rfl, by (repeat' (with_reducible first | exact g1 | refine Fr.setCell ?_ (fun hlt => absurd hlt (by dsimp only; omega)) _ | refine Fr.alloc ?_ _ | refine Fr.drewN ?_ _ | refine Fr.drew ?_))⟩)

set_option maxHeartbeats 1000000 in
theorem Fair_any (i x y : Int) (w : World) : Calls Try.prog 15 #[.agg #[.int .i64 i, .int .i64 x, .int .i64 y]] w fun e w' => e = .returned (.bool (fairB i x y)) ∧ Fr Nil w w' := by
  unfold fairB
  have k0 := fun W => id_any i W
  have k1 := fun W => good_any x W
  have k2 := fun W => good_any y W
  generalize inI i = b0 at *
  generalize inC x = b1 at *
  generalize inC y = b2 at *
  have K0 := Lib.hid k0
  have K1 := Lib.hid k1
  have K2 := Lib.hid k2
  clear k0 k1 k2
  rcases Int.lt_or_le y x with hlt | hle
  · rw [decide_eq_false (show ¬ x ≤ y by omega)]
    cases b0 <;>  cases b1 <;> cases b2
    all_goals
      go_enter Try.func15, Try.ntmps15
      go_wp2_with fail
      refine (K0.out _).mono ?_
      rintro e w0 ⟨rfl, rfl⟩
      go_wp2_with fail
      first
        | exact bodyPost_ret (v := .bool _) (by simp [results, Try.results15, go_sem] <;> omega) rfl ⟨rfl, by (repeat' (with_reducible first | refine Fr.setCell ?_ (fun hlt => absurd hlt (by dsimp only; omega)) _ | refine Fr.alloc ?_ _ | refine Fr.drewN ?_ _ | refine Fr.drew ?_ | exact Fr.refl _ _))⟩
        | (refine (K1.out _).mono ?_
           rintro e w1 ⟨rfl, rfl⟩
           go_wp2_with fail
           first
             | exact bodyPost_ret (v := .bool _) (by simp [results, Try.results15, go_sem] <;> omega) rfl ⟨rfl, by (repeat' (with_reducible first | refine Fr.setCell ?_ (fun hlt => absurd hlt (by dsimp only; omega)) _ | refine Fr.alloc ?_ _ | refine Fr.drewN ?_ _ | refine Fr.drew ?_ | exact Fr.refl _ _))⟩
             | (refine (K2.out _).mono ?_
                rintro e w2 ⟨rfl, rfl⟩
                go_wp2_with fail
                exact bodyPost_ret (v := .bool _) (by simp [results, Try.results15, go_sem] <;> omega) rfl ⟨rfl, by (repeat' (with_reducible first | refine Fr.setCell ?_ (fun hlt => absurd hlt (by dsimp only; omega)) _ | refine Fr.alloc ?_ _ | refine Fr.drewN ?_ _ | refine Fr.drew ?_ | exact Fr.refl _ _))⟩))
  · rw [decide_eq_true hle]
    cases b0 <;>  cases b1 <;> cases b2
    all_goals
      go_enter Try.func15, Try.ntmps15
      go_wp2_with fail
      refine (K0.out _).mono ?_
      rintro e w0 ⟨rfl, rfl⟩
      go_wp2_with fail
      first
        | exact bodyPost_ret (v := .bool _) (by simp [results, Try.results15, go_sem] <;> omega) rfl ⟨rfl, by (repeat' (with_reducible first | refine Fr.setCell ?_ (fun hlt => absurd hlt (by dsimp only; omega)) _ | refine Fr.alloc ?_ _ | refine Fr.drewN ?_ _ | refine Fr.drew ?_ | exact Fr.refl _ _))⟩
        | (refine (K1.out _).mono ?_
           rintro e w1 ⟨rfl, rfl⟩
           go_wp2_with fail
           first
             | exact bodyPost_ret (v := .bool _) (by simp [results, Try.results15, go_sem] <;> omega) rfl ⟨rfl, by (repeat' (with_reducible first | refine Fr.setCell ?_ (fun hlt => absurd hlt (by dsimp only; omega)) _ | refine Fr.alloc ?_ _ | refine Fr.drewN ?_ _ | refine Fr.drew ?_ | exact Fr.refl _ _))⟩
             | (refine (K2.out _).mono ?_
                rintro e w2 ⟨rfl, rfl⟩
                go_wp2_with fail
                exact bodyPost_ret (v := .bool _) (by simp [results, Try.results15, go_sem] <;> omega) rfl ⟨rfl, by (repeat' (with_reducible first | refine Fr.setCell ?_ (fun hlt => absurd hlt (by dsimp only; omega)) _ | refine Fr.alloc ?_ _ | refine Fr.drewN ?_ _ | refine Fr.drew ?_ | exact Fr.refl _ _))⟩))

set_option maxHeartbeats 1000000 in
theorem rFair_any (i x y : Int) (w : World) : Calls Try.prog 16 #[.agg #[.int .i64 i, .int .i64 x, .int .i64 y]] w fun e w' => e = .returned (.bool (fairB i x y)) ∧ Fr Nil w w' := by
  unfold fairB
  have k0 := fun W => rid_any i W
  have k1 := fun W => coord_any x W
  have k2 := fun W => coord_any y W
  generalize inI i = b0 at *
  generalize inC x = b1 at *
  generalize inC y = b2 at *
  have K0 := Lib.hid k0
  have K1 := Lib.hid k1
  have K2 := Lib.hid k2
  clear k0 k1 k2
  rcases Int.lt_or_le y x with hlt | hle
  · rw [decide_eq_false (show ¬ x ≤ y by omega)]
    cases b0 <;>  cases b1 <;> cases b2
    all_goals
      go_enter Try.func16, Try.ntmps16
      go_wp2_with fail
      refine (K0.out _).mono ?_
      rintro e w0 ⟨rfl, rfl⟩
      go_wp2_with fail
      first
        | exact bodyPost_ret (v := .bool _) (by simp [results, Try.results16, go_sem] <;> omega) rfl ⟨rfl, by (repeat' (with_reducible first | refine Fr.setCell ?_ (fun hlt => absurd hlt (by dsimp only; omega)) _ | refine Fr.alloc ?_ _ | refine Fr.drewN ?_ _ | refine Fr.drew ?_ | exact Fr.refl _ _))⟩
        | (refine (K1.out _).mono ?_
           rintro e w1 ⟨rfl, rfl⟩
           go_wp2_with fail
           first
             | exact bodyPost_ret (v := .bool _) (by simp [results, Try.results16, go_sem] <;> omega) rfl ⟨rfl, by (repeat' (with_reducible first | refine Fr.setCell ?_ (fun hlt => absurd hlt (by dsimp only; omega)) _ | refine Fr.alloc ?_ _ | refine Fr.drewN ?_ _ | refine Fr.drew ?_ | exact Fr.refl _ _))⟩
             | (refine (K2.out _).mono ?_
                rintro e w2 ⟨rfl, rfl⟩
                go_wp2_with fail
                exact bodyPost_ret (v := .bool _) (by simp [results, Try.results16, go_sem] <;> omega) rfl ⟨rfl, by (repeat' (with_reducible first | refine Fr.setCell ?_ (fun hlt => absurd hlt (by dsimp only; omega)) _ | refine Fr.alloc ?_ _ | refine Fr.drewN ?_ _ | refine Fr.drew ?_ | exact Fr.refl _ _))⟩))
  · rw [decide_eq_true hle]
    cases b0 <;>  cases b1 <;> cases b2
    all_goals
      go_enter Try.func16, Try.ntmps16
      go_wp2_with fail
      refine (K0.out _).mono ?_
      rintro e w0 ⟨rfl, rfl⟩
      go_wp2_with fail
      first
        | exact bodyPost_ret (v := .bool _) (by simp [results, Try.results16, go_sem] <;> omega) rfl ⟨rfl, by (repeat' (with_reducible first | refine Fr.setCell ?_ (fun hlt => absurd hlt (by dsimp only; omega)) _ | refine Fr.alloc ?_ _ | refine Fr.drewN ?_ _ | refine Fr.drew ?_ | exact Fr.refl _ _))⟩
        | (refine (K1.out _).mono ?_
           rintro e w1 ⟨rfl, rfl⟩
           go_wp2_with fail
           first
             | exact bodyPost_ret (v := .bool _) (by simp [results, Try.results16, go_sem] <;> omega) rfl ⟨rfl, by (repeat' (with_reducible first | refine Fr.setCell ?_ (fun hlt => absurd hlt (by dsimp only; omega)) _ | refine Fr.alloc ?_ _ | refine Fr.drewN ?_ _ | refine Fr.drew ?_ | exact Fr.refl _ _))⟩
             | (refine (K2.out _).mono ?_
                rintro e w2 ⟨rfl, rfl⟩
                go_wp2_with fail
                exact bodyPost_ret (v := .bool _) (by simp [results, Try.results16, go_sem] <;> omega) rfl ⟨rfl, by (repeat' (with_reducible first | refine Fr.setCell ?_ (fun hlt => absurd hlt (by dsimp only; omega)) _ | refine Fr.alloc ?_ _ | refine Fr.drewN ?_ _ | refine Fr.drew ?_ | exact Fr.refl _ _))⟩))

set_option maxHeartbeats 1000000 in
theorem lives_any (w : World) : Calls Try.prog 11 #[] w fun e w' => e = .returned (.bool true) ∧ Fr Nil w w' := by
  have kT := fun W => Turn_any 0 0 0 0 1099511627776 0 0 0 1 W
  rw [show tz 0 0 1099511627776 0 0 1 = 1 by decide] at kT
  have kG := fun W => Good_any 1 0 0 W
  rw [show (inI 1 && lieB 0 0) = true by decide] at kG
  have T := Lib.hid kT
  have G := Lib.hid kG
  clear kT kG
  go_enter Try.func11, Try.ntmps11
  go_wp2_with fail
  refine (T.out _).mono ?_
  rintro e w1 ⟨rfl, hf1⟩
  go_wp2_with fail
  refine (G.out _).mono ?_
  rintro e w2 ⟨rfl, hf2⟩
  have g2 := hf1.trans hf2
  clear hf1 hf2
  go_wp2_with fail
  exact bodyPost_ret (v := .bool true) (by simp [results, Try.results11, go_sem] <;> omega) rfl ⟨rfl, by (repeat' (with_reducible first | exact g2 | refine Fr.setCell ?_ (fun hlt => absurd hlt (by dsimp only; omega)) _ | refine Fr.alloc ?_ _ | refine Fr.drewN ?_ _ | refine Fr.drew ?_))⟩

end Go.Proofs.Ytpngeaklfjofiaa.KernG
