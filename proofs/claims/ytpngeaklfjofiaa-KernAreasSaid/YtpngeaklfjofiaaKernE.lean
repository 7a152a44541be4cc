/- Chapter 3: the walks of the orders and of what is good; and of the law KernOrders. -/
import Derived.Test.YtpngeaklfjofiaaKernD
import Derived.Deep.RegionHeld3
namespace Go.Proofs.Ytpngeaklfjofiaa.KernE
open Go.RowKit Base WideA WideB WideE WideF WideO KernA KernB KernC KernD Quiet
set_option linter.unusedVariables false
set_option linter.unusedSimpArgs false

/-- which of two threes comes first -/
def lex3 (a b c x y z : Int) : Int := orI (cmpI a x) (orI (cmpI b y) (cmpI c z))
/-- a fair interval -/
def fairB (i l h : Int) : Bool := inI i && inC l && inC h && decide (l ≤ h)

theorem lex_paths (a b c x y z : Int) : (a < x ∧ lex3 a b c x y z = -1) ∨ (x < a ∧ lex3 a b c x y z = 1) ∨ (a = x ∧ b < y ∧ lex3 a b c x y z = -1) ∨ (a = x ∧ y < b ∧ lex3 a b c x y z = 1) ∨
    (a = x ∧ b = y ∧ c < z ∧ lex3 a b c x y z = -1) ∨ (a = x ∧ b = y ∧ z < c ∧ lex3 a b c x y z = 1) ∨ (a = x ∧ b = y ∧ c = z ∧ lex3 a b c x y z = 0) := by
  unfold lex3 orI cmpI
  repeat' split
  all_goals omega

set_option maxHeartbeats 4000000 in
theorem less_p (i x y j u v : Int) (w : World) (b : Bool) (h : (b = true ∧ x < u) ∨ (b = false ∧ u < x) ∨ (b = true ∧ x = u ∧ y < v) ∨ (b = false ∧ x = u ∧ v < y) ∨ (b = true ∧ x = u ∧ y = v ∧ i < j) ∨ (b = false ∧ x = u ∧ y = v ∧ j < i)) :
    Calls Try.prog 50 #[.agg #[.int .i64 i, .int .i64 x, .int .i64 y], .agg #[.int .i64 j, .int .i64 u, .int .i64 v]] w fun e w' => e = .returned (.bool b) ∧ Fr Nil w w' := by
  rcases h with ⟨rfl, h⟩ | ⟨rfl, h⟩ | ⟨rfl, rfl, h⟩ | ⟨rfl, rfl, h⟩ | ⟨rfl, rfl, rfl, h⟩ | ⟨rfl, rfl, rfl, h⟩
  all_goals
    have hne := Int.ne_of_lt h
    have hne' := Int.ne_of_gt h
    go_enter Try.func50, Try.ntmps50
    go_wp2_with fail
    exact bodyPost_ret (v := .bool _) (by simp [results, Try.results50, go_sem] <;> omega) rfl ⟨rfl, by (repeat' (with_reducible first | refine Fr.setCell ?_ (fun hlt => absurd hlt (by dsimp only; omega)) _ | refine Fr.alloc ?_ _ | refine Fr.drewN ?_ _ | refine Fr.drew ?_ | exact Fr.refl _ _))⟩

set_option maxHeartbeats 4000000 in
theorem by_p (i x y j u v : Int) (w : World) :
    Calls Try.prog 49 #[.agg #[.int .i64 i, .int .i64 x, .int .i64 y], .agg #[.int .i64 j, .int .i64 u, .int .i64 v], .func (.func 50) #[] #[]] w fun e w' => e = .returned (.int .i64 (lex3 x y i u v j)) ∧ Fr Nil w w' := by
  rcases lex_paths x y i u v j with ⟨h, e⟩ | ⟨h, e⟩ | ⟨rfl, h, e⟩ | ⟨rfl, h, e⟩ | ⟨rfl, rfl, h, e⟩ | ⟨rfl, rfl, h, e⟩ | ⟨rfl, rfl, rfl, e⟩
  · rw [e]
    have hne := Int.ne_of_lt h
    have hne' := Int.ne_of_gt h
    have HL := Lib.hid (fun W => less_p i x y j u v W true (by simp; omega))
    clear e
    go_enter Try.func49, Try.ntmps49
    go_wp2_with fail
    refine (HL.out _).mono ?_
    rintro e w1 ⟨rfl, hf1⟩
    have g1 : Fr Nil w w1 := Fr.trans (by (repeat' (with_reducible first | refine Fr.setCell ?_ (fun hlt => absurd hlt (by dsimp only; omega)) _ | refine Fr.alloc ?_ _ | refine Fr.drewN ?_ _ | refine Fr.drew ?_ | exact Fr.refl _ _))) hf1
    clear hf1
    go_wp2_with fail
    exact bodyPost_ret (v := .int .i64 _) (by simp [results, Try.results49, go_sem] <;> omega) rfl ⟨rfl, by (repeat' (with_reducible first | exact g1 | refine Fr.setCell ?_ (fun hlt => absurd hlt (by dsimp only; omega)) _ | refine Fr.alloc ?_ _ | refine Fr.drewN ?_ _ | refine Fr.drew ?_))⟩
  · rw [e]
    have hne := Int.ne_of_lt h
    have hne' := Int.ne_of_gt h
    have HL := Lib.hid (fun W => less_p i x y j u v W false (by simp; omega))
    clear e
    go_enter Try.func49, Try.ntmps49
    go_wp2_with fail
    refine (HL.out _).mono ?_
    rintro e w1 ⟨rfl, hf1⟩
    have g1 : Fr Nil w w1 := Fr.trans (by (repeat' (with_reducible first | refine Fr.setCell ?_ (fun hlt => absurd hlt (by dsimp only; omega)) _ | refine Fr.alloc ?_ _ | refine Fr.drewN ?_ _ | refine Fr.drew ?_ | exact Fr.refl _ _))) hf1
    clear hf1
    go_wp2_with fail
    exact bodyPost_ret (v := .int .i64 _) (by simp [results, Try.results49, go_sem] <;> omega) rfl ⟨rfl, by (repeat' (with_reducible first | exact g1 | refine Fr.setCell ?_ (fun hlt => absurd hlt (by dsimp only; omega)) _ | refine Fr.alloc ?_ _ | refine Fr.drewN ?_ _ | refine Fr.drew ?_))⟩
  · rw [e]
    have hne := Int.ne_of_lt h
    have hne' := Int.ne_of_gt h
    have HL := Lib.hid (fun W => less_p i x y j x v W true (by simp; omega))
    clear e
    go_enter Try.func49, Try.ntmps49
    go_wp2_with fail
    refine (HL.out _).mono ?_
    rintro e w1 ⟨rfl, hf1⟩
    have g1 : Fr Nil w w1 := Fr.trans (by (repeat' (with_reducible first | refine Fr.setCell ?_ (fun hlt => absurd hlt (by dsimp only; omega)) _ | refine Fr.alloc ?_ _ | refine Fr.drewN ?_ _ | refine Fr.drew ?_ | exact Fr.refl _ _))) hf1
    clear hf1
    go_wp2_with fail
    exact bodyPost_ret (v := .int .i64 _) (by simp [results, Try.results49, go_sem] <;> omega) rfl ⟨rfl, by (repeat' (with_reducible first | exact g1 | refine Fr.setCell ?_ (fun hlt => absurd hlt (by dsimp only; omega)) _ | refine Fr.alloc ?_ _ | refine Fr.drewN ?_ _ | refine Fr.drew ?_))⟩
  · rw [e]
    have hne := Int.ne_of_lt h
    have hne' := Int.ne_of_gt h
    have HL := Lib.hid (fun W => less_p i x y j x v W false (by simp; omega))
    clear e
    go_enter Try.func49, Try.ntmps49
    go_wp2_with fail
    refine (HL.out _).mono ?_
    rintro e w1 ⟨rfl, hf1⟩
    have g1 : Fr Nil w w1 := Fr.trans (by (repeat' (with_reducible first | refine Fr.setCell ?_ (fun hlt => absurd hlt (by dsimp only; omega)) _ | refine Fr.alloc ?_ _ | refine Fr.drewN ?_ _ | refine Fr.drew ?_ | exact Fr.refl _ _))) hf1
    clear hf1
    go_wp2_with fail
    exact bodyPost_ret (v := .int .i64 _) (by simp [results, Try.results49, go_sem] <;> omega) rfl ⟨rfl, by (repeat' (with_reducible first | exact g1 | refine Fr.setCell ?_ (fun hlt => absurd hlt (by dsimp only; omega)) _ | refine Fr.alloc ?_ _ | refine Fr.drewN ?_ _ | refine Fr.drew ?_))⟩
  · rw [e]
    have hne := Int.ne_of_lt h
    have hne' := Int.ne_of_gt h
    have HL := Lib.hid (fun W => less_p i x y j x y W true (by simp; omega))
    clear e
    go_enter Try.func49, Try.ntmps49
    go_wp2_with fail
    refine (HL.out _).mono ?_
    rintro e w1 ⟨rfl, hf1⟩
    have g1 : Fr Nil w w1 := Fr.trans (by (repeat' (with_reducible first | refine Fr.setCell ?_ (fun hlt => absurd hlt (by dsimp only; omega)) _ | refine Fr.alloc ?_ _ | refine Fr.drewN ?_ _ | refine Fr.drew ?_ | exact Fr.refl _ _))) hf1
    clear hf1
    go_wp2_with fail
    exact bodyPost_ret (v := .int .i64 _) (by simp [results, Try.results49, go_sem] <;> omega) rfl ⟨rfl, by (repeat' (with_reducible first | exact g1 | refine Fr.setCell ?_ (fun hlt => absurd hlt (by dsimp only; omega)) _ | refine Fr.alloc ?_ _ | refine Fr.drewN ?_ _ | refine Fr.drew ?_))⟩
  · rw [e]
    have hne := Int.ne_of_lt h
    have hne' := Int.ne_of_gt h
    have HL := Lib.hid (fun W => less_p i x y j x y W false (by simp; omega))
    clear e
    go_enter Try.func49, Try.ntmps49
    go_wp2_with fail
    refine (HL.out _).mono ?_
    rintro e w1 ⟨rfl, hf1⟩
    have g1 : Fr Nil w w1 := Fr.trans (by (repeat' (with_reducible first | refine Fr.setCell ?_ (fun hlt => absurd hlt (by dsimp only; omega)) _ | refine Fr.alloc ?_ _ | refine Fr.drewN ?_ _ | refine Fr.drew ?_ | exact Fr.refl _ _))) hf1
    clear hf1
    go_wp2_with fail
    exact bodyPost_ret (v := .int .i64 _) (by simp [results, Try.results49, go_sem] <;> omega) rfl ⟨rfl, by (repeat' (with_reducible first | exact g1 | refine Fr.setCell ?_ (fun hlt => absurd hlt (by dsimp only; omega)) _ | refine Fr.alloc ?_ _ | refine Fr.drewN ?_ _ | refine Fr.drew ?_))⟩
  · rw [e]
    clear e
    go_enter Try.func49, Try.ntmps49
    go_wp2_with fail
    exact bodyPost_ret (v := .int .i64 _) (by simp [results, Try.results49, go_sem] <;> omega) rfl ⟨rfl, by (repeat' (with_reducible first | refine Fr.setCell ?_ (fun hlt => absurd hlt (by dsimp only; omega)) _ | refine Fr.alloc ?_ _ | refine Fr.drewN ?_ _ | refine Fr.drew ?_ | exact Fr.refl _ _))⟩

set_option maxHeartbeats 4000000 in
theorem less_s (i x y j u v : Int) (w : World) (b : Bool) (h : (b = true ∧ x < u) ∨ (b = false ∧ u < x) ∨ (b = true ∧ x = u ∧ y < v) ∨ (b = false ∧ x = u ∧ v < y) ∨ (b = true ∧ x = u ∧ y = v ∧ i < j) ∨ (b = false ∧ x = u ∧ y = v ∧ j < i)) :
    Calls Try.prog 38 #[.agg #[.int .i64 i, .int .i64 x, .int .i64 y], .agg #[.int .i64 j, .int .i64 u, .int .i64 v]] w fun e w' => e = .returned (.bool b) ∧ Fr Nil w w' := by
  rcases h with ⟨rfl, h⟩ | ⟨rfl, h⟩ | ⟨rfl, rfl, h⟩ | ⟨rfl, rfl, h⟩ | ⟨rfl, rfl, rfl, h⟩ | ⟨rfl, rfl, rfl, h⟩
  all_goals
    have hne := Int.ne_of_lt h
    have hne' := Int.ne_of_gt h
    go_enter Try.func38, Try.ntmps38
    go_wp2_with fail
    exact bodyPost_ret (v := .bool _) (by simp [results, Try.results38, go_sem] <;> omega) rfl ⟨rfl, by (repeat' (with_reducible first | refine Fr.setCell ?_ (fun hlt => absurd hlt (by dsimp only; omega)) _ | refine Fr.alloc ?_ _ | refine Fr.drewN ?_ _ | refine Fr.drew ?_ | exact Fr.refl _ _))⟩

set_option maxHeartbeats 4000000 in
theorem by_s (i x y j u v : Int) (w : World) :
    Calls Try.prog 37 #[.agg #[.int .i64 i, .int .i64 x, .int .i64 y], .agg #[.int .i64 j, .int .i64 u, .int .i64 v], .func (.func 38) #[] #[]] w fun e w' => e = .returned (.int .i64 (lex3 x y i u v j)) ∧ Fr Nil w w' := by
  rcases lex_paths x y i u v j with ⟨h, e⟩ | ⟨h, e⟩ | ⟨rfl, h, e⟩ | ⟨rfl, h, e⟩ | ⟨rfl, rfl, h, e⟩ | ⟨rfl, rfl, h, e⟩ | ⟨rfl, rfl, rfl, e⟩
  · rw [e]
    have hne := Int.ne_of_lt h
    have hne' := Int.ne_of_gt h
    have HL := Lib.hid (fun W => less_s i x y j u v W true (by simp; omega))
    clear e
    go_enter Try.func37, Try.ntmps37
    go_wp2_with fail
    refine (HL.out _).mono ?_
    rintro e w1 ⟨rfl, hf1⟩
    have g1 : Fr Nil w w1 := Fr.trans (by (repeat' (with_reducible first | refine Fr.setCell ?_ (fun hlt => absurd hlt (by dsimp only; omega)) _ | refine Fr.alloc ?_ _ | refine Fr.drewN ?_ _ | refine Fr.drew ?_ | exact Fr.refl _ _))) hf1
    clear hf1
    go_wp2_with fail
    exact bodyPost_ret (v := .int .i64 _) (by simp [results, Try.results37, go_sem] <;> omega) rfl ⟨rfl, by (repeat' (with_reducible first | exact g1 | refine Fr.setCell ?_ (fun hlt => absurd hlt (by dsimp only; omega)) _ | refine Fr.alloc ?_ _ | refine Fr.drewN ?_ _ | refine Fr.drew ?_))⟩
  · rw [e]
    have hne := Int.ne_of_lt h
    have hne' := Int.ne_of_gt h
    have HL := Lib.hid (fun W => less_s i x y j u v W false (by simp; omega))
    clear e
    go_enter Try.func37, Try.ntmps37
    go_wp2_with fail
    refine (HL.out _).mono ?_
    rintro e w1 ⟨rfl, hf1⟩
    have g1 : Fr Nil w w1 := Fr.trans (by (repeat' (with_reducible first | refine Fr.setCell ?_ (fun hlt => absurd hlt (by dsimp only; omega)) _ | refine Fr.alloc ?_ _ | refine Fr.drewN ?_ _ | refine Fr.drew ?_ | exact Fr.refl _ _))) hf1
    clear hf1
    go_wp2_with fail
    exact bodyPost_ret (v := .int .i64 _) (by simp [results, Try.results37, go_sem] <;> omega) rfl ⟨rfl, by (repeat' (with_reducible first | exact g1 | refine Fr.setCell ?_ (fun hlt => absurd hlt (by dsimp only; omega)) _ | refine Fr.alloc ?_ _ | refine Fr.drewN ?_ _ | refine Fr.drew ?_))⟩
  · rw [e]
    have hne := Int.ne_of_lt h
    have hne' := Int.ne_of_gt h
    have HL := Lib.hid (fun W => less_s i x y j x v W true (by simp; omega))
    clear e
    go_enter Try.func37, Try.ntmps37
    go_wp2_with fail
    refine (HL.out _).mono ?_
    rintro e w1 ⟨rfl, hf1⟩
    have g1 : Fr Nil w w1 := Fr.trans (by (repeat' (with_reducible first | refine Fr.setCell ?_ (fun hlt => absurd hlt (by dsimp only; omega)) _ | refine Fr.alloc ?_ _ | refine Fr.drewN ?_ _ | refine Fr.drew ?_ | exact Fr.refl _ _))) hf1
    clear hf1
    go_wp2_with fail
    exact bodyPost_ret (v := .int .i64 _) (by simp [results, Try.results37, go_sem] <;> omega) rfl ⟨rfl, by (repeat' (with_reducible first | exact g1 | refine Fr.setCell ?_ (fun hlt => absurd hlt (by dsimp only; omega)) _ | refine Fr.alloc ?_ _ | refine Fr.drewN ?_ _ | refine Fr.drew ?_))⟩
  · rw [e]
    have hne := Int.ne_of_lt h
    have hne' := Int.ne_of_gt h
    have HL := Lib.hid (fun W => less_s i x y j x v W false (by simp; omega))
    clear e
    go_enter Try.func37, Try.ntmps37
    go_wp2_with fail
    refine (HL.out _).mono ?_
    rintro e w1 ⟨rfl, hf1⟩
    have g1 : Fr Nil w w1 := Fr.trans (by (repeat' (with_reducible first | refine Fr.setCell ?_ (fun hlt => absurd hlt (by dsimp only; omega)) _ | refine Fr.alloc ?_ _ | refine Fr.drewN ?_ _ | refine Fr.drew ?_ | exact Fr.refl _ _))) hf1
    clear hf1
    go_wp2_with fail
    exact bodyPost_ret (v := .int .i64 _) (by simp [results, Try.results37, go_sem] <;> omega) rfl ⟨rfl, by (repeat' (with_reducible first | exact g1 | refine Fr.setCell ?_ (fun hlt => absurd hlt (by dsimp only; omega)) _ | refine Fr.alloc ?_ _ | refine Fr.drewN ?_ _ | refine Fr.drew ?_))⟩
  · rw [e]
    have hne := Int.ne_of_lt h
    have hne' := Int.ne_of_gt h
    have HL := Lib.hid (fun W => less_s i x y j x y W true (by simp; omega))
    clear e
    go_enter Try.func37, Try.ntmps37
    go_wp2_with fail
    refine (HL.out _).mono ?_
    rintro e w1 ⟨rfl, hf1⟩
    have g1 : Fr Nil w w1 := Fr.trans (by (repeat' (with_reducible first | refine Fr.setCell ?_ (fun hlt => absurd hlt (by dsimp only; omega)) _ | refine Fr.alloc ?_ _ | refine Fr.drewN ?_ _ | refine Fr.drew ?_ | exact Fr.refl _ _))) hf1
    clear hf1
    go_wp2_with fail
    exact bodyPost_ret (v := .int .i64 _) (by simp [results, Try.results37, go_sem] <;> omega) rfl ⟨rfl, by (repeat' (with_reducible first | exact g1 | refine Fr.setCell ?_ (fun hlt => absurd hlt (by dsimp only; omega)) _ | refine Fr.alloc ?_ _ | refine Fr.drewN ?_ _ | refine Fr.drew ?_))⟩
  · rw [e]
    have hne := Int.ne_of_lt h
    have hne' := Int.ne_of_gt h
    have HL := Lib.hid (fun W => less_s i x y j x y W false (by simp; omega))
    clear e
    go_enter Try.func37, Try.ntmps37
    go_wp2_with fail
    refine (HL.out _).mono ?_
    rintro e w1 ⟨rfl, hf1⟩
    have g1 : Fr Nil w w1 := Fr.trans (by (repeat' (with_reducible first | refine Fr.setCell ?_ (fun hlt => absurd hlt (by dsimp only; omega)) _ | refine Fr.alloc ?_ _ | refine Fr.drewN ?_ _ | refine Fr.drew ?_ | exact Fr.refl _ _))) hf1
    clear hf1
    go_wp2_with fail
    exact bodyPost_ret (v := .int .i64 _) (by simp [results, Try.results37, go_sem] <;> omega) rfl ⟨rfl, by (repeat' (with_reducible first | exact g1 | refine Fr.setCell ?_ (fun hlt => absurd hlt (by dsimp only; omega)) _ | refine Fr.alloc ?_ _ | refine Fr.drewN ?_ _ | refine Fr.drew ?_))⟩
  · rw [e]
    clear e
    go_enter Try.func37, Try.ntmps37
    go_wp2_with fail
    exact bodyPost_ret (v := .int .i64 _) (by simp [results, Try.results37, go_sem] <;> omega) rfl ⟨rfl, by (repeat' (with_reducible first | refine Fr.setCell ?_ (fun hlt => absurd hlt (by dsimp only; omega)) _ | refine Fr.alloc ?_ _ | refine Fr.drewN ?_ _ | refine Fr.drew ?_ | exact Fr.refl _ _))⟩

set_option maxHeartbeats 1000000 in
theorem compare_any (i x y j u v : Int) (w : World) : Calls Try.prog 35 #[.agg #[.int .i64 i, .int .i64 x, .int .i64 y], .agg #[.int .i64 j, .int .i64 u, .int .i64 v]] w fun e w' => e = .returned (.int .i64 (lex3 x y i u v j)) ∧ Fr Nil w w' := by
  have kT := fun W => by_p i x y j u v W
  generalize lex3 x y i u v j = z at *
  have K := Lib.hid kT
  clear kT
  go_enter Try.func35, Try.ntmps35
  go_wp2_with fail
  refine (K.out _).mono ?_
  rintro e w1 ⟨rfl, hf1⟩
  have g1 : Fr Nil w w1 := Fr.trans (by (repeat' (with_reducible first | refine Fr.setCell ?_ (fun hlt => absurd hlt (by dsimp only; omega)) _ | refine Fr.alloc ?_ _ | refine Fr.drewN ?_ _ | refine Fr.drew ?_ | exact Fr.refl _ _))) hf1
  clear hf1
  go_wp2_with fail
  exact bodyPost_ret (v := .int .i64 z) (by simp [results, Try.results35, go_sem] <;> omega) rfl ⟨rfl, by (repeat' (with_reducible first | exact g1 | refine Fr.setCell ?_ (fun hlt => absurd hlt (by dsimp only; omega)) _ | refine Fr.alloc ?_ _ | refine Fr.drewN ?_ _ | refine Fr.drew ?_))⟩

set_option maxHeartbeats 1000000 in
theorem Cmp_any (i x y j u v : Int) (w : World) : Calls Try.prog 17 #[.agg #[.int .i64 i, .int .i64 x, .int .i64 y], .agg #[.int .i64 j, .int .i64 u, .int .i64 v]] w fun e w' => e = .returned (.int .i64 (lex3 x y i u v j)) ∧ Fr Nil w w' := by
  have kT := fun W => compare_any i x y j u v W
  generalize lex3 x y i u v j = z at *
  have K := Lib.hid kT
  clear kT
  go_enter Try.func17, Try.ntmps17
  go_wp2_with fail
  refine (K.out _).mono ?_
  rintro e w1 ⟨rfl, hf1⟩
  have g1 : Fr Nil w w1 := Fr.trans (by (repeat' (with_reducible first | refine Fr.setCell ?_ (fun hlt => absurd hlt (by dsimp only; omega)) _ | refine Fr.alloc ?_ _ | refine Fr.drewN ?_ _ | refine Fr.drew ?_ | exact Fr.refl _ _))) hf1
  clear hf1
  go_wp2_with fail
  exact bodyPost_ret (v := .int .i64 z) (by simp [results, Try.results17, go_sem] <;> omega) rfl ⟨rfl, by (repeat' (with_reducible first | exact g1 | refine Fr.setCell ?_ (fun hlt => absurd hlt (by dsimp only; omega)) _ | refine Fr.alloc ?_ _ | refine Fr.drewN ?_ _ | refine Fr.drew ?_))⟩

set_option maxHeartbeats 1000000 in
theorem Order_any (i x y j u v : Int) (w : World) : Calls Try.prog 20 #[.agg #[.int .i64 i, .int .i64 x, .int .i64 y], .agg #[.int .i64 j, .int .i64 u, .int .i64 v]] w fun e w' => e = .returned (.int .i64 (lex3 x y i u v j)) ∧ Fr Nil w w' := by
  have kT := fun W => by_s i x y j u v W
  generalize lex3 x y i u v j = z at *
  have K := Lib.hid kT
  clear kT
  go_enter Try.func20, Try.ntmps20
  go_wp2_with fail
  refine (K.out _).mono ?_
  rintro e w1 ⟨rfl, hf1⟩
  have g1 : Fr Nil w w1 := Fr.trans (by (repeat' (with_reducible first | refine Fr.setCell ?_ (fun hlt => absurd hlt (by dsimp only; omega)) _ | refine Fr.alloc ?_ _ | refine Fr.drewN ?_ _ | refine Fr.drew ?_ | exact Fr.refl _ _))) hf1
  clear hf1
  go_wp2_with fail
  exact bodyPost_ret (v := .int .i64 z) (by simp [results, Try.results20, go_sem] <;> omega) rfl ⟨rfl, by (repeat' (with_reducible first | exact g1 | refine Fr.setCell ?_ (fun hlt => absurd hlt (by dsimp only; omega)) _ | refine Fr.alloc ?_ _ | refine Fr.drewN ?_ _ | refine Fr.drew ?_))⟩

theorem turned_any (i x y : Int) (w : World) : Calls Try.prog 36 #[.agg #[.int .i64 i, .int .i64 x, .int .i64 y]] w fun e w' => e = .returned (.agg #[.int .i64 i, .int .i64 y, .int .i64 x]) ∧ Fr Nil w w' := by
  go_enter Try.func36, Try.ntmps36
  go_wp2_with fail
  exact bodyPost_ret (v := .agg #[.int .i64 i, .int .i64 y, .int .i64 x]) (by simp [results, Try.results36, go_sem] <;> omega) rfl ⟨rfl, by (repeat' (with_reducible first | refine Fr.setCell ?_ (fun hlt => absurd hlt (by dsimp only; omega)) _ | refine Fr.alloc ?_ _ | refine Fr.drewN ?_ _ | refine Fr.drew ?_ | exact Fr.refl _ _))⟩

theorem quiet_c3 {S : Nat → Prop} {w : World} {g : Nat} {t : TypeId} {x y z : Value} (h : Bk w g t #[x, y, z]) (hg : ¬ S g) : (∀ p : FrW S w, p.val.cell? ⟨g, 0, none⟩ = some x) ∧ (∀ p : FrW S w, p.val.cell? ⟨g, 1, none⟩ = some y) ∧ (∀ p : FrW S w, p.val.cell? ⟨g, 2, none⟩ = some z) :=
  ⟨fun p => (h.fr p.fr hg).cell 0, fun p => (h.fr p.fr hg).cell 1, fun p => (h.fr p.fr hg).cell 2⟩

set_option maxHeartbeats 4000000 in
theorem Up_any (i x y j u v : Int) (w : World) : Calls Try.prog 19 #[.agg #[.int .i64 i, .int .i64 x, .int .i64 y], .agg #[.int .i64 j, .int .i64 u, .int .i64 v]] w fun e w' => e = .returned (.int .i64 (lex3 y x i v u j)) ∧ Fr Nil w w' := by
  have kT := fun W => compare_any i y x j v u W
  have kA := fun W => turned_any i x y W
  have kB := fun W => turned_any j u v W
  generalize lex3 y x i v u j = z at *
  have K := Lib.hid kT
  have A := Lib.hid kA
  have B := Lib.hid kB
  clear kT kA kB
  go_enter Try.func19, Try.ntmps19
  go_wp2_with fail
  have hB1 : Bk ((w.alloc (.cells #[.int .i64 i, .int .i64 x, .int .i64 y] 23)).alloc (.cells #[.int .i64 j, .int .i64 u, .int .i64 v] 23)) w.heap.size 23 #[.int .i64 i, .int .i64 x, .int .i64 y] := by (repeat' (first | ((with_reducible refine new' ?_); simp; done) | with_reducible refine Bk.alloc ?_ _ | with_reducible refine Bk.far ?_ (by dsimp only; omega) _ | with_reducible refine Bk.drewN ?_ _ | with_reducible refine Bk.drew ?_))
  have hB2 : Bk ((w.alloc (.cells #[.int .i64 i, .int .i64 x, .int .i64 y] 23)).alloc (.cells #[.int .i64 j, .int .i64 u, .int .i64 v] 23)) (w.heap.size + 1) 23 #[.int .i64 j, .int .i64 u, .int .i64 v] := by (repeat' (first | ((with_reducible refine new' ?_); simp; done) | with_reducible refine Bk.alloc ?_ _ | with_reducible refine Bk.far ?_ (by dsimp only; omega) _ | with_reducible refine Bk.drewN ?_ _ | with_reducible refine Bk.drew ?_))
  have hf0 : Fr Nil w ((w.alloc (.cells #[.int .i64 i, .int .i64 x, .int .i64 y] 23)).alloc (.cells #[.int .i64 j, .int .i64 u, .int .i64 v] 23)) := by (repeat' (with_reducible first | refine Fr.setCell ?_ (fun hlt => absurd hlt (by dsimp only; omega)) _ | refine Fr.alloc ?_ _ | refine Fr.drewN ?_ _ | refine Fr.drew ?_ | exact Fr.refl _ _))
  generalize ((w.alloc (.cells #[.int .i64 i, .int .i64 x, .int .i64 y] 23)).alloc (.cells #[.int .i64 j, .int .i64 u, .int .i64 v] 23)) = W0 at hB1 hB2 hf0 ⊢
  obtain ⟨q1, q2, q3⟩ := quiet_c3 (S := Nil) hB1 id
  obtain ⟨r1, r2, r3⟩ := quiet_c3 (S := Nil) hB2 id
  refine wp_region_quiet_fr Nil (by kernel_rfl) (by kernel_rfl) ?_
  repeat (go_big_quiet_step (first
    | (go_at_call 36; first | with_reducible exact quiet_call (A.out _) | with_reducible exact quiet_call (B.out _))
    | (go_at_call 35; with_reducible exact quiet_call (K.out _))))
  refine wpQuiet_nil ?_
  intro _ hw'
  obtain ⟨⟨wq, hfq⟩, hw''⟩ := hw'
  subst hw''
  go_wp2_with fail
  exact bodyPost_ret (v := .int .i64 z) (by simp [results, Try.results19, go_sem]) rfl ⟨rfl, hf0.trans hfq⟩

theorem nan_int (a : Int) (w : World) : Calls Try.prog 51 #[.int .i64 a] w fun e w' => e = .returned (.bool false) ∧ w' = w := by
  go_enter Try.func51, Try.ntmps51
  go_wp2_with fail
  exact bodyPost_ret (v := .bool false) (by simp [results, Try.results51, go_sem] <;> omega) rfl ⟨rfl, rfl⟩

set_option maxHeartbeats 1000000 in
theorem cmp_int (a b : Int) (w : World) : Calls Try.prog 40 #[.int .i64 a, .int .i64 b] w fun e w' => e = .returned (.int .i64 (cmpI a b)) ∧ w' = w := by
  have key : ∀ r : Int, (a < b ∧ r = -1) ∨ (b < a ∧ r = 1) ∨ (a = b ∧ r = 0) → Calls Try.prog 40 #[.int .i64 a, .int .i64 b] w fun e w' => e = .returned (.int .i64 r) ∧ w' = w := by
    rintro r (⟨h, rfl⟩ | ⟨h, rfl⟩ | ⟨rfl, rfl⟩)
    all_goals
      go_enter Try.func40, Try.ntmps40
      go_wp2_with fail
      refine (nan_int _ _).mono ?_
      rintro e w' ⟨rfl, rfl⟩
      go_wp2_with fail
      refine (nan_int _ _).mono ?_
      rintro e w' ⟨rfl, rfl⟩
      go_wp2_with fail
      exact bodyPost_ret (v := .int .i64 _) (by simp [results, Try.results40, go_sem] <;> omega) rfl ⟨rfl, rfl⟩
  refine key _ ?_
  unfold cmpI
  split
  · omega
  · split <;> omega

set_option maxHeartbeats 4000000 in
theorem or3_any (g : Nat) (t : TypeId) (a b c : Int) (w : World) (h : Bk w g t #[.int .i64 a, .int .i64 b, .int .i64 c]) :
    Calls Try.prog 39 #[.slice (some ⟨g, 0, none⟩) 3 3] w fun e w' => e = .returned (.int .i64 (orI a (orI b c))) ∧ w' = w := by
  obtain ⟨k0, k1, k2, f0, f1, f2⟩ := h.c3
  have key : ∀ r : Int, (a ≠ 0 ∧ r = a) ∨ (a = 0 ∧ b ≠ 0 ∧ r = b) ∨ (a = 0 ∧ b = 0 ∧ r = c) →
      Calls Try.prog 39 #[.slice (some ⟨g, 0, none⟩) 3 3] w fun e w' => e = .returned (.int .i64 r) ∧ w' = w := by
    rintro r (⟨h1, rfl⟩ | ⟨rfl, h1, rfl⟩ | ⟨rfl, rfl, rfl⟩)
    · go_enter Try.func39, Try.ntmps39
      go_wp2_with fail
      refine wp_loop_rounds 4 ?_
      rw [rounds_succ]
      go_wp2_with fail
      exact bodyPost_ret (v := .int .i64 _) (by simp [results, Try.results39, go_sem] <;> omega) rfl ⟨rfl, rfl⟩
    · go_enter Try.func39, Try.ntmps39
      go_wp2_with fail
      refine wp_loop_rounds 4 ?_
      rw [rounds_succ]
      go_wp2_with fail
      rw [rounds_succ]
      go_wp2_with fail
      exact bodyPost_ret (v := .int .i64 _) (by simp [results, Try.results39, go_sem] <;> omega) rfl ⟨rfl, rfl⟩
    · by_cases hc : r = 0
      · subst hc
        go_enter Try.func39, Try.ntmps39
        go_wp2_with fail
        refine wp_loop_rounds 4 ?_
        rw [rounds_succ]
        go_wp2_with fail
        rw [rounds_succ]
        go_wp2_with fail
        rw [rounds_succ]
        go_wp2_with fail
        rw [rounds_succ]
        go_wp2_with fail
        exact bodyPost_ret (v := .int .i64 _) (by simp [results, Try.results39, go_sem] <;> omega) rfl ⟨rfl, rfl⟩
      · go_enter Try.func39, Try.ntmps39
        go_wp2_with fail
        refine wp_loop_rounds 4 ?_
        rw [rounds_succ]
        go_wp2_with fail
        rw [rounds_succ]
        go_wp2_with fail
        rw [rounds_succ]
        go_wp2_with fail
        exact bodyPost_ret (v := .int .i64 _) (by simp [results, Try.results39, go_sem] <;> omega) rfl ⟨rfl, rfl⟩
  refine key _ ?_
  unfold orI
  repeat' split
  all_goals omega

set_option maxHeartbeats 8000000 in
theorem Ends_any (i x y j u v : Int) (w : World) : Calls Try.prog 21 #[.agg #[.int .i64 i, .int .i64 x, .int .i64 y], .agg #[.int .i64 j, .int .i64 u, .int .i64 v]] w fun e w' => e = .returned (.int .i64 (lex3 y x i v u j)) ∧ Fr Nil w w' := by
  unfold lex3
  go_enter Try.func21, Try.ntmps21
  go_wp2_with fail
  go_region_held3 (fun w' => w'.cell? ⟨w.heap.size, 0, none⟩ = some (.int .i64 i) ∧ w'.cell? ⟨w.heap.size, 1, none⟩ = some (.int .i64 x) ∧ w'.cell? ⟨w.heap.size, 2, none⟩ = some (.int .i64 y) ∧ w'.cell? ⟨w.heap.size + 1, 0, none⟩ = some (.int .i64 j) ∧ w'.cell? ⟨w.heap.size + 1, 1, none⟩ = some (.int .i64 u) ∧ w'.cell? ⟨w.heap.size + 1, 2, none⟩ = some (.int .i64 v)) (first | (go_keep; done))
    (first | (go_at_call 40; refine (cmp_int _ _ _).mono ?_; rintro e w' ⟨rfl, rfl⟩) | (go_at_call 39; refine (or3_any _ 3 _ _ _ _ (by (repeat' (first | ((with_reducible refine new' ?_); simp; done) | with_reducible refine Bk.alloc ?_ _ | with_reducible refine Bk.far ?_ (by dsimp only; omega) _ | with_reducible refine Bk.drewN ?_ _ | with_reducible refine Bk.drew ?_)))).mono ?_; rintro e w' ⟨rfl, rfl⟩))
  go_wp2_with fail
  exact bodyPost_ret (v := .int .i64 (orI (cmpI y v) (orI (cmpI x u) (cmpI i j)))) (by simp [results, Try.results21, go_sem] <;> omega) rfl ⟨rfl, by (repeat' (with_reducible first | refine Fr.setCell ?_ (fun hlt => absurd hlt (by dsimp only; omega)) _ | refine Fr.alloc ?_ _ | refine Fr.drewN ?_ _ | refine Fr.drew ?_ | exact Fr.refl _ _))⟩

end Go.Proofs.Ytpngeaklfjofiaa.KernE
