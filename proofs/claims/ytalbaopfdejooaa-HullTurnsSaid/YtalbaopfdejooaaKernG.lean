/- Chapter 3: the walks of the orders and of what is good; and of the law KernOrders. -/
import Derived.Test.YtalbaopfdejooaaKernE
import Derived.Deep.RegionHeld3
namespace Go.Proofs.Ytalbaopfdejooaa.KernG
open Go.RowKit KernE Base WideA WideB WideE WideF WideO KernA KernB KernC KernD Quiet
set_option linter.unusedVariables false
set_option linter.unusedSimpArgs false

set_option maxHeartbeats 8000000 in
theorem three_any (a b c x y z : Int) (w : World) : Calls Try.prog 22 #[.agg #[.int .i64 a, .int .i64 b, .int .i64 c], .agg #[.int .i64 x, .int .i64 y, .int .i64 z]] w fun e w' => e = .returned (.int .i64 (lex3 a b c x y z)) ∧ Fr Nil w w' := by
  rcases lex_paths a b c x y z with ⟨h, e⟩ | ⟨h, e⟩ | ⟨rfl, h, e⟩ | ⟨rfl, h, e⟩ | ⟨rfl, rfl, h, e⟩ | ⟨rfl, rfl, h, e⟩ | ⟨rfl, rfl, rfl, e⟩
  all_goals
    rw [e]
    clear e
    go_enter Try.func22, Try.ntmps22
    go_wp2_with fail
    refine wp_loop_rounds 4 ?_
    repeat (rw [rounds_succ]; go_wp2_with fail; go_quiet (fail); go_wp2_with fail; try (go_quiet (fail); go_wp2_with fail))
    try (rw [rounds_succ]; go_wp2_with fail)
    exact bodyPost_ret (v := .int .i64 _) (by simp [results, Try.results22, go_sem] <;> omega) rfl ⟨rfl, by (repeat' (with_reducible first | refine Fr.setCell ?_ (fun hlt => absurd hlt (by dsimp only; omega)) _ | refine Fr.alloc ?_ _ | refine Fr.drewN ?_ _ | refine Fr.drew ?_ | exact Fr.refl _ _))⟩

set_option maxHeartbeats 1000000 in
theorem Good_any (i x y : Int) (w : World) : Calls Try.prog 61 #[.agg #[.int .i64 i, .int .i64 x, .int .i64 y]] w fun e w' => e = .returned (.bool (inI i && lieB x y)) ∧ Fr Nil w w' := by
  have k0 := fun W => id_any i W
  have k1 := fun W => lies_any i x y W
  generalize inI i = b0 at *
  generalize lieB x y = b1 at *
  have K0 := Lib.hid k0
  have K1 := Lib.hid k1
  clear k0 k1
  cases b0 <;> cases b1
  all_goals
    go_enter Try.func61, Try.ntmps61
    go_wp2_with fail
    refine (K0.out _).mono ?_
    rintro e w0 ⟨rfl, rfl⟩
    go_wp2_with fail
    first
      | exact bodyPost_ret (v := .bool _) (by simp [results, Try.results61, go_sem] <;> omega) rfl ⟨rfl, by (repeat' (with_reducible first | refine Fr.setCell ?_ (fun hlt => absurd hlt (by dsimp only; omega)) _ | refine Fr.alloc ?_ _ | refine Fr.drewN ?_ _ | refine Fr.drew ?_ | exact Fr.refl _ _))⟩
      | (refine (K1.out _).mono ?_
         rintro e w1 ⟨rfl, hf1⟩
         have g1 := Fr.trans (a := w) (by (repeat' (with_reducible first | refine Fr.setCell ?_ (fun hlt => absurd hlt (by dsimp only; omega)) _ | refine Fr.alloc ?_ _ | refine Fr.drewN ?_ _ | refine Fr.drew ?_ | exact Fr.refl _ _))) hf1
         clear hf1
         go_wp2_with fail
         exact bodyPost_ret (v := .bool _) (by simp [results, Try.results61, go_sem] <;> omega) rfl ⟨rfl, by (repeat' (with_reducible first | exact g1 | refine Fr.setCell ?_ (fun hlt => absurd hlt (by dsimp only; omega)) _ | refine Fr.alloc ?_ _ | refine Fr.drewN ?_ _ | refine Fr.drew ?_))⟩)

set_option maxHeartbeats 1000000 in
theorem rGood_any (i x y : Int) (w : World) : Calls Try.prog 17 #[.agg #[.int .i64 i, .int .i64 x, .int .i64 y]] w fun e w' => e = .returned (.bool (inI i && lieB x y)) ∧ Fr Nil w w' := by
  have k0 := fun W => rid_any i W
  have k1 := fun W => rlies_any i x y W
  generalize inI i = b0 at *
  generalize lieB x y = b1 at *
  have K0 := Lib.hid k0
  have K1 := Lib.hid k1
  clear k0 k1
  cases b0 <;> cases b1
  all_goals
    go_enter Try.func17, Try.ntmps17
    go_wp2_with fail
    refine (K0.out _).mono ?_
    rintro e w0 ⟨rfl, rfl⟩
    go_wp2_with fail
    first
      | exact bodyPost_ret (v := .bool _) (by simp [results, Try.results17, go_sem] <;> omega) rfl ⟨rfl, by (repeat' (with_reducible first | refine Fr.setCell ?_ (fun hlt => absurd hlt (by dsimp only; omega)) _ | refine Fr.alloc ?_ _ | refine Fr.drewN ?_ _ | refine Fr.drew ?_ | exact Fr.refl _ _))⟩
      | (refine (K1.out _).mono ?_
         rintro e w1 ⟨rfl, hf1⟩
         have g1 := Fr.trans (a := w) (by (repeat' (with_reducible first | refine Fr.setCell ?_ (fun hlt => absurd hlt (by dsimp only; omega)) _ | refine Fr.alloc ?_ _ | refine Fr.drewN ?_ _ | refine Fr.drew ?_ | exact Fr.refl _ _))) hf1
         clear hf1
         go_wp2_with fail
         exact bodyPost_ret (v := .bool _) (by simp [results, Try.results17, go_sem] <;> omega) rfl ⟨rfl, by (repeat' (with_reducible first | exact g1 | refine Fr.setCell ?_ (fun hlt => absurd hlt (by dsimp only; omega)) _ | refine Fr.alloc ?_ _ | refine Fr.drewN ?_ _ | refine Fr.drew ?_))⟩)

end Go.Proofs.Ytalbaopfdejooaa.KernG
