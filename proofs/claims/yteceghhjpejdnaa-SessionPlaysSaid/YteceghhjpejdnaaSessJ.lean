/- Chapter 32: which phase follows which: the walk of Next. -/
import Derived.Test.YteceghhjpejdnaaSessI
namespace Go.Proofs.Yteceghhjpejdnaa.SessJ
open Go.RowKit Base
set_option linter.unusedVariables false
set_option linter.unusedSimpArgs false

/-- the phases that can come behind a phase -/
def nxt (p : Int) : List Int := if p = 0 then [1, 2, 4] else if p = 1 then [0, 1, 2, 4] else if p = 2 then [3, 4] else if p = 3 then [0, 4] else []
theorem nxt_out {p : Int} (h : p < 0 ∨ 4 < p) : nxt p = [] := by
  unfold nxt
  rw [if_neg (by omega), if_neg (by omega), if_neg (by omega), if_neg (by omega)]
theorem nxt_in {p q : Int} (h : q < 0 ∨ 4 < q) : q ∉ nxt p := by
  unfold nxt
  repeat' split
  all_goals (simp; try omega)
section
variable (w : World)
theorem next_lt (p q : Int) (n0 : ¬ 0 ≤ p) : Calls Try.prog 13 #[.int .i64 p, .int .i64 q] w fun e w' => e = .returned (.bool false) ∧ Fr Nil w w' := by
  go_enter Try.func13, Try.ntmps13
  go_wp2_with fail
  go_ret
  exact ⟨rfl, by repeat first | exact Fr.refl _ _ | apply Fr.alloc⟩
theorem next_gt (p q : Int) (n0 : 0 ≤ p) (n1 : ¬ p ≤ 4) : Calls Try.prog 13 #[.int .i64 p, .int .i64 q] w fun e w' => e = .returned (.bool false) ∧ Fr Nil w w' := by
  go_enter Try.func13, Try.ntmps13
  go_wp2_with fail
  go_ret
  exact ⟨rfl, by repeat first | exact Fr.refl _ _ | apply Fr.alloc⟩
theorem next_qlt (p q : Int) (n0 : 0 ≤ p) (n1 : p ≤ 4) (n2 : ¬ 0 ≤ q) : Calls Try.prog 13 #[.int .i64 p, .int .i64 q] w fun e w' => e = .returned (.bool false) ∧ Fr Nil w w' := by
  go_enter Try.func13, Try.ntmps13
  go_wp2_with fail
  go_ret
  exact ⟨rfl, by repeat first | exact Fr.refl _ _ | apply Fr.alloc⟩
theorem next_qgt (p q : Int) (n0 : 0 ≤ p) (n1 : p ≤ 4) (n2 : 0 ≤ q) (n3 : ¬ q ≤ 4) : Calls Try.prog 13 #[.int .i64 p, .int .i64 q] w fun e w' => e = .returned (.bool false) ∧ Fr Nil w w' := by
  go_enter Try.func13, Try.ntmps13
  go_wp2_with fail
  go_ret
  exact ⟨rfl, by repeat first | exact Fr.refl _ _ | apply Fr.alloc⟩
theorem next_00  : Calls Try.prog 13 #[.int .i64 0, .int .i64 0] w fun e w' => e = .returned (.bool false) ∧ Fr Nil w w' := by
  go_enter Try.func13, Try.ntmps13
  go_wp2_with fail
  go_ret
  exact ⟨rfl, by repeat first | exact Fr.refl _ _ | apply Fr.alloc⟩
theorem next_01  : Calls Try.prog 13 #[.int .i64 0, .int .i64 1] w fun e w' => e = .returned (.bool true) ∧ Fr Nil w w' := by
  go_enter Try.func13, Try.ntmps13
  go_wp2_with fail
  go_ret
  exact ⟨rfl, by repeat first | exact Fr.refl _ _ | apply Fr.alloc⟩
theorem next_02  : Calls Try.prog 13 #[.int .i64 0, .int .i64 2] w fun e w' => e = .returned (.bool true) ∧ Fr Nil w w' := by
  go_enter Try.func13, Try.ntmps13
  go_wp2_with fail
  go_ret
  exact ⟨rfl, by repeat first | exact Fr.refl _ _ | apply Fr.alloc⟩
theorem next_03  : Calls Try.prog 13 #[.int .i64 0, .int .i64 3] w fun e w' => e = .returned (.bool false) ∧ Fr Nil w w' := by
  go_enter Try.func13, Try.ntmps13
  go_wp2_with fail
  go_ret
  exact ⟨rfl, by repeat first | exact Fr.refl _ _ | apply Fr.alloc⟩
theorem next_04  : Calls Try.prog 13 #[.int .i64 0, .int .i64 4] w fun e w' => e = .returned (.bool true) ∧ Fr Nil w w' := by
  go_enter Try.func13, Try.ntmps13
  go_wp2_with fail
  go_ret
  exact ⟨rfl, by repeat first | exact Fr.refl _ _ | apply Fr.alloc⟩
theorem next_10  : Calls Try.prog 13 #[.int .i64 1, .int .i64 0] w fun e w' => e = .returned (.bool true) ∧ Fr Nil w w' := by
  go_enter Try.func13, Try.ntmps13
  go_wp2_with fail
  go_ret
  exact ⟨rfl, by repeat first | exact Fr.refl _ _ | apply Fr.alloc⟩
theorem next_11  : Calls Try.prog 13 #[.int .i64 1, .int .i64 1] w fun e w' => e = .returned (.bool true) ∧ Fr Nil w w' := by
  go_enter Try.func13, Try.ntmps13
  go_wp2_with fail
  go_ret
  exact ⟨rfl, by repeat first | exact Fr.refl _ _ | apply Fr.alloc⟩
theorem next_12  : Calls Try.prog 13 #[.int .i64 1, .int .i64 2] w fun e w' => e = .returned (.bool true) ∧ Fr Nil w w' := by
  go_enter Try.func13, Try.ntmps13
  go_wp2_with fail
  go_ret
  exact ⟨rfl, by repeat first | exact Fr.refl _ _ | apply Fr.alloc⟩
theorem next_13  : Calls Try.prog 13 #[.int .i64 1, .int .i64 3] w fun e w' => e = .returned (.bool false) ∧ Fr Nil w w' := by
  go_enter Try.func13, Try.ntmps13
  go_wp2_with fail
  go_ret
  exact ⟨rfl, by repeat first | exact Fr.refl _ _ | apply Fr.alloc⟩
theorem next_14  : Calls Try.prog 13 #[.int .i64 1, .int .i64 4] w fun e w' => e = .returned (.bool true) ∧ Fr Nil w w' := by
  go_enter Try.func13, Try.ntmps13
  go_wp2_with fail
  go_ret
  exact ⟨rfl, by repeat first | exact Fr.refl _ _ | apply Fr.alloc⟩
theorem next_20  : Calls Try.prog 13 #[.int .i64 2, .int .i64 0] w fun e w' => e = .returned (.bool false) ∧ Fr Nil w w' := by
  go_enter Try.func13, Try.ntmps13
  go_wp2_with fail
  go_ret
  exact ⟨rfl, by repeat first | exact Fr.refl _ _ | apply Fr.alloc⟩
theorem next_21  : Calls Try.prog 13 #[.int .i64 2, .int .i64 1] w fun e w' => e = .returned (.bool false) ∧ Fr Nil w w' := by
  go_enter Try.func13, Try.ntmps13
  go_wp2_with fail
  go_ret
  exact ⟨rfl, by repeat first | exact Fr.refl _ _ | apply Fr.alloc⟩
theorem next_22  : Calls Try.prog 13 #[.int .i64 2, .int .i64 2] w fun e w' => e = .returned (.bool false) ∧ Fr Nil w w' := by
  go_enter Try.func13, Try.ntmps13
  go_wp2_with fail
  go_ret
  exact ⟨rfl, by repeat first | exact Fr.refl _ _ | apply Fr.alloc⟩
theorem next_23  : Calls Try.prog 13 #[.int .i64 2, .int .i64 3] w fun e w' => e = .returned (.bool true) ∧ Fr Nil w w' := by
  go_enter Try.func13, Try.ntmps13
  go_wp2_with fail
  go_ret
  exact ⟨rfl, by repeat first | exact Fr.refl _ _ | apply Fr.alloc⟩
theorem next_24  : Calls Try.prog 13 #[.int .i64 2, .int .i64 4] w fun e w' => e = .returned (.bool true) ∧ Fr Nil w w' := by
  go_enter Try.func13, Try.ntmps13
  go_wp2_with fail
  go_ret
  exact ⟨rfl, by repeat first | exact Fr.refl _ _ | apply Fr.alloc⟩
theorem next_30  : Calls Try.prog 13 #[.int .i64 3, .int .i64 0] w fun e w' => e = .returned (.bool true) ∧ Fr Nil w w' := by
  go_enter Try.func13, Try.ntmps13
  go_wp2_with fail
  go_ret
  exact ⟨rfl, by repeat first | exact Fr.refl _ _ | apply Fr.alloc⟩
theorem next_31  : Calls Try.prog 13 #[.int .i64 3, .int .i64 1] w fun e w' => e = .returned (.bool false) ∧ Fr Nil w w' := by
  go_enter Try.func13, Try.ntmps13
  go_wp2_with fail
  go_ret
  exact ⟨rfl, by repeat first | exact Fr.refl _ _ | apply Fr.alloc⟩
theorem next_32  : Calls Try.prog 13 #[.int .i64 3, .int .i64 2] w fun e w' => e = .returned (.bool false) ∧ Fr Nil w w' := by
  go_enter Try.func13, Try.ntmps13
  go_wp2_with fail
  go_ret
  exact ⟨rfl, by repeat first | exact Fr.refl _ _ | apply Fr.alloc⟩
theorem next_33  : Calls Try.prog 13 #[.int .i64 3, .int .i64 3] w fun e w' => e = .returned (.bool false) ∧ Fr Nil w w' := by
  go_enter Try.func13, Try.ntmps13
  go_wp2_with fail
  go_ret
  exact ⟨rfl, by repeat first | exact Fr.refl _ _ | apply Fr.alloc⟩
theorem next_34  : Calls Try.prog 13 #[.int .i64 3, .int .i64 4] w fun e w' => e = .returned (.bool true) ∧ Fr Nil w w' := by
  go_enter Try.func13, Try.ntmps13
  go_wp2_with fail
  go_ret
  exact ⟨rfl, by repeat first | exact Fr.refl _ _ | apply Fr.alloc⟩
theorem next_40  : Calls Try.prog 13 #[.int .i64 4, .int .i64 0] w fun e w' => e = .returned (.bool false) ∧ Fr Nil w w' := by
  go_enter Try.func13, Try.ntmps13
  go_wp2_with fail
  go_ret
  exact ⟨rfl, by repeat first | exact Fr.refl _ _ | apply Fr.alloc⟩
theorem next_41  : Calls Try.prog 13 #[.int .i64 4, .int .i64 1] w fun e w' => e = .returned (.bool false) ∧ Fr Nil w w' := by
  go_enter Try.func13, Try.ntmps13
  go_wp2_with fail
  go_ret
  exact ⟨rfl, by repeat first | exact Fr.refl _ _ | apply Fr.alloc⟩
theorem next_42  : Calls Try.prog 13 #[.int .i64 4, .int .i64 2] w fun e w' => e = .returned (.bool false) ∧ Fr Nil w w' := by
  go_enter Try.func13, Try.ntmps13
  go_wp2_with fail
  go_ret
  exact ⟨rfl, by repeat first | exact Fr.refl _ _ | apply Fr.alloc⟩
theorem next_43  : Calls Try.prog 13 #[.int .i64 4, .int .i64 3] w fun e w' => e = .returned (.bool false) ∧ Fr Nil w w' := by
  go_enter Try.func13, Try.ntmps13
  go_wp2_with fail
  go_ret
  exact ⟨rfl, by repeat first | exact Fr.refl _ _ | apply Fr.alloc⟩
theorem next_44  : Calls Try.prog 13 #[.int .i64 4, .int .i64 4] w fun e w' => e = .returned (.bool false) ∧ Fr Nil w w' := by
  go_enter Try.func13, Try.ntmps13
  go_wp2_with fail
  go_ret
  exact ⟨rfl, by repeat first | exact Fr.refl _ _ | apply Fr.alloc⟩
theorem Next_any (p q : Int) : Calls Try.prog 13 #[.int .i64 p, .int .i64 q] w fun e w' => e = .returned (.bool (decide (q ∈ nxt p))) ∧ Fr Nil w w' := by
  by_cases n0 : 0 ≤ p
  · by_cases n1 : p ≤ 4
    · by_cases n2 : 0 ≤ q
      · by_cases n3 : q ≤ 4
        · have hp : p = 0 ∨ p = 1 ∨ p = 2 ∨ p = 3 ∨ p = 4 := by omega
          have hq : q = 0 ∨ q = 1 ∨ q = 2 ∨ q = 3 ∨ q = 4 := by omega
          rcases hp with rfl | rfl | rfl | rfl | rfl <;> rcases hq with rfl | rfl | rfl | rfl | rfl
          · exact next_00 w
          · exact next_01 w
          · exact next_02 w
          · exact next_03 w
          · exact next_04 w
          · exact next_10 w
          · exact next_11 w
          · exact next_12 w
          · exact next_13 w
          · exact next_14 w
          · exact next_20 w
          · exact next_21 w
          · exact next_22 w
          · exact next_23 w
          · exact next_24 w
          · exact next_30 w
          · exact next_31 w
          · exact next_32 w
          · exact next_33 w
          · exact next_34 w
          · exact next_40 w
          · exact next_41 w
          · exact next_42 w
          · exact next_43 w
          · exact next_44 w
        · rw [decide_eq_false (nxt_in (Or.inr (by omega)))]; exact next_qgt w p q n0 n1 n2 n3
      · rw [decide_eq_false (nxt_in (Or.inl (by omega)))]; exact next_qlt w p q n0 n1 n2
    · rw [decide_eq_false (by rw [nxt_out (Or.inr (by omega))]; simp)]; exact next_gt w p q n0 n1
  · rw [decide_eq_false (by rw [nxt_out (Or.inl (by omega))]; simp)]; exact next_lt w p q n0
end
end Go.Proofs.Yteceghhjpejdnaa.SessJ
