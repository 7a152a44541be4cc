/- Chapter 3: good points, fair intervals. -/
import Derived.Test.YtalbaopfdejooaaKernA
import Derived.Test.YtalbaopfdejooaaQuiet
namespace Go.Proofs.Ytalbaopfdejooaa.KernB
open Go.RowKit Base WideA WideB WideE WideF KernA Quiet
set_option linter.unusedVariables false
set_option linter.unusedSimpArgs false

theorem good_any (x : Int) (w : World) : Calls Try.prog 40 #[.int .i64 x] w fun e w' => e = .returned (.bool (inC x)) ∧ w' = w := by
  have key : ∀ b : Bool, ((b = true ∧ -1099511627776 ≤ x ∧ x ≤ 1099511627776) ∨ (b = false ∧ x < -1099511627776) ∨ (b = false ∧ -1099511627776 ≤ x ∧ 1099511627776 < x)) → Calls Try.prog 40 #[.int .i64 x] w fun e w' => e = .returned (.bool b) ∧ w' = w := by
    rintro b (⟨rfl, h, h'⟩ | ⟨rfl, h⟩ | ⟨rfl, h, h'⟩)
    all_goals
      go_enter Try.func40, Try.ntmps40
      go_wp2_with fail
      exact bodyPost_ret (v := .bool _) (by simp [results, Try.results40, go_sem] <;> omega) rfl ⟨rfl, rfl⟩
  refine key _ ?_
  cases hb : inC x
  · have := inC_not.1 hb
    simp
    omega
  · have := inC_iff.1 hb
    simp
    omega

theorem coord_any (x : Int) (w : World) : Calls Try.prog 19 #[.int .i64 x] w fun e w' => e = .returned (.bool (inC x)) ∧ w' = w := by
  have key : ∀ b : Bool, ((b = true ∧ -1099511627776 ≤ x ∧ x ≤ 1099511627776) ∨ (b = false ∧ x < -1099511627776) ∨ (b = false ∧ -1099511627776 ≤ x ∧ 1099511627776 < x)) → Calls Try.prog 19 #[.int .i64 x] w fun e w' => e = .returned (.bool b) ∧ w' = w := by
    rintro b (⟨rfl, h, h'⟩ | ⟨rfl, h⟩ | ⟨rfl, h, h'⟩)
    all_goals
      go_enter Try.func19, Try.ntmps19
      go_wp2_with fail
      exact bodyPost_ret (v := .bool _) (by simp [results, Try.results19, go_sem] <;> omega) rfl ⟨rfl, rfl⟩
  refine key _ ?_
  cases hb : inC x
  · have := inC_not.1 hb
    simp
    omega
  · have := inC_iff.1 hb
    simp
    omega

theorem id_any (x : Int) (w : World) : Calls Try.prog 72 #[.int .i64 x] w fun e w' => e = .returned (.bool (inI x)) ∧ w' = w := by
  have key : ∀ b : Bool, ((b = true ∧ 1 ≤ x ∧ x ≤ 2147483647) ∨ (b = false ∧ x < 1) ∨ (b = false ∧ 1 ≤ x ∧ 2147483647 < x)) → Calls Try.prog 72 #[.int .i64 x] w fun e w' => e = .returned (.bool b) ∧ w' = w := by
    rintro b (⟨rfl, h, h'⟩ | ⟨rfl, h⟩ | ⟨rfl, h, h'⟩)
    all_goals
      go_enter Try.func72, Try.ntmps72
      go_wp2_with fail
      exact bodyPost_ret (v := .bool _) (by simp [results, Try.results72, go_sem] <;> omega) rfl ⟨rfl, rfl⟩
  refine key _ ?_
  cases hb : inI x
  · have := inI_not.1 hb
    simp
    omega
  · have := inI_iff.1 hb
    simp
    omega

theorem rid_any (x : Int) (w : World) : Calls Try.prog 38 #[.int .i64 x] w fun e w' => e = .returned (.bool (inI x)) ∧ w' = w := by
  have key : ∀ b : Bool, ((b = true ∧ 1 ≤ x ∧ x ≤ 2147483647) ∨ (b = false ∧ x < 1) ∨ (b = false ∧ 1 ≤ x ∧ 2147483647 < x)) → Calls Try.prog 38 #[.int .i64 x] w fun e w' => e = .returned (.bool b) ∧ w' = w := by
    rintro b (⟨rfl, h, h'⟩ | ⟨rfl, h⟩ | ⟨rfl, h, h'⟩)
    all_goals
      go_enter Try.func38, Try.ntmps38
      go_wp2_with fail
      exact bodyPost_ret (v := .bool _) (by simp [results, Try.results38, go_sem] <;> omega) rfl ⟨rfl, rfl⟩
  refine key _ ?_
  cases hb : inI x
  · have := inI_not.1 hb
    simp
    omega
  · have := inI_iff.1 hb
    simp
    omega

set_option maxHeartbeats 1000000 in
theorem lies_any (i x y : Int) (w : World) : Calls Try.prog 62 #[.agg #[.int .i64 i, .int .i64 x, .int .i64 y]] w fun e w' => e = .returned (.bool (lieB x y)) ∧ Fr Nil w w' := by
  unfold lieB
  have k0 := fun W => good_any x W
  have k1 := fun W => good_any y W
  generalize inC x = b0 at *
  generalize inC y = b1 at *
  have K0 := Lib.hid k0
  have K1 := Lib.hid k1
  clear k0 k1
  cases b0 <;> cases b1
  all_goals
    go_enter Try.func62, Try.ntmps62
    go_wp2_with fail
    refine (K0.out _).mono ?_
    rintro e w0 ⟨rfl, rfl⟩
    go_wp2_with fail
    first
      | exact bodyPost_ret (v := .bool _) (by simp [results, Try.results62, go_sem] <;> omega) rfl ⟨rfl, by (repeat' (with_reducible first | refine Fr.setCell ?_ (fun hlt => absurd hlt (by dsimp only; omega)) _ | refine Fr.alloc ?_ _ | refine Fr.drewN ?_ _ | refine Fr.drew ?_ | exact Fr.refl _ _))⟩
      | (refine (K1.out _).mono ?_
         rintro e w1 ⟨rfl, rfl⟩
         go_wp2_with fail
         exact bodyPost_ret (v := .bool _) (by simp [results, Try.results62, go_sem] <;> omega) rfl ⟨rfl, by (repeat' (with_reducible first | refine Fr.setCell ?_ (fun hlt => absurd hlt (by dsimp only; omega)) _ | refine Fr.alloc ?_ _ | refine Fr.drewN ?_ _ | refine Fr.drew ?_ | exact Fr.refl _ _))⟩)

set_option maxHeartbeats 1000000 in
theorem rlies_any (i x y : Int) (w : World) : Calls Try.prog 39 #[.agg #[.int .i64 i, .int .i64 x, .int .i64 y]] w fun e w' => e = .returned (.bool (lieB x y)) ∧ Fr Nil w w' := by
  unfold lieB
  have k0 := fun W => coord_any x W
  have k1 := fun W => coord_any y W
  generalize inC x = b0 at *
  generalize inC y = b1 at *
  have K0 := Lib.hid k0
  have K1 := Lib.hid k1
  clear k0 k1
  cases b0 <;> cases b1
  all_goals
    go_enter Try.func39, Try.ntmps39
    go_wp2_with fail
    refine (K0.out _).mono ?_
    rintro e w0 ⟨rfl, rfl⟩
    go_wp2_with fail
    first
      | exact bodyPost_ret (v := .bool _) (by simp [results, Try.results39, go_sem] <;> omega) rfl ⟨rfl, by (repeat' (with_reducible first | refine Fr.setCell ?_ (fun hlt => absurd hlt (by dsimp only; omega)) _ | refine Fr.alloc ?_ _ | refine Fr.drewN ?_ _ | refine Fr.drew ?_ | exact Fr.refl _ _))⟩
      | (refine (K1.out _).mono ?_
         rintro e w1 ⟨rfl, rfl⟩
         go_wp2_with fail
         exact bodyPost_ret (v := .bool _) (by simp [results, Try.results39, go_sem] <;> omega) rfl ⟨rfl, by (repeat' (with_reducible first | refine Fr.setCell ?_ (fun hlt => absurd hlt (by dsimp only; omega)) _ | refine Fr.alloc ?_ _ | refine Fr.drewN ?_ _ | refine Fr.drew ?_ | exact Fr.refl _ _))⟩)

end Go.Proofs.Ytalbaopfdejooaa.KernB
