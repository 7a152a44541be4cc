/- Chapter 3: the plain law: which way one turns, and what lies between, as functions of coordinates. -/
import Derived.Test.YtalbaopfdejooaaWideP
namespace Go.Proofs.Ytalbaopfdejooaa.KernA
open Go.RowKit Base WideF
set_option linter.unusedVariables false
set_option linter.unusedSimpArgs false

/-- a coordinate -/
def inC (x : Int) : Bool := decide (-1099511627776 ≤ x ∧ x ≤ 1099511627776)
/-- an id -/
def inI (x : Int) : Bool := decide (1 ≤ x ∧ x ≤ 2147483647)
/-- a point's place -/
def lieB (x y : Int) : Bool := inC x && inC y
/-- twice the area -/
def crz (ax ay bx bv cx cy : Int) : Int := (bx - ax) * (cy - ay) - (bv - ay) * (cx - ax)
/-- which way one turns -/
def tz (ax ay bx bv cx cy : Int) : Int := if (lieB ax ay && lieB bx bv && lieB cx cy) = true then cmpI (crz ax ay bx bv cx cy) 0 else 0
/-- between two, of one coordinate -/
def btw (n a b : Int) : Bool := decide ((a ≤ n ∧ n ≤ b) ∨ (b ≤ n ∧ n ≤ a))
/-- on the piece -/
def bz (ax ay bx bv cx cy : Int) : Bool := (lieB ax ay && lieB bx bv && lieB cx cy) && decide (tz ax ay bx bv cx cy = 0) && (btw cx ax bx && btw cy ay bv)

theorem inC_iff {x : Int} : inC x = true ↔ (-1099511627776 ≤ x ∧ x ≤ 1099511627776) := by simp [inC]
theorem inC_not {x : Int} : inC x = false ↔ ¬ (-1099511627776 ≤ x ∧ x ≤ 1099511627776) := by simp [inC]
theorem inI_iff {x : Int} : inI x = true ↔ (1 ≤ x ∧ x ≤ 2147483647) := by simp [inI]
theorem inI_not {x : Int} : inI x = false ↔ ¬ (1 ≤ x ∧ x ≤ 2147483647) := by simp [inI]
theorem lieB_iff {x y : Int} : lieB x y = true ↔ (-1099511627776 ≤ x ∧ x ≤ 1099511627776) ∧ -1099511627776 ≤ y ∧ y ≤ 1099511627776 := by simp [lieB, inC]

theorem tz_bd (ax ay bx bv cx cy : Int) : -1 ≤ tz ax ay bx bv cx cy ∧ tz ax ay bx bv cx cy ≤ 1 := by
  unfold tz cmpI
  repeat' split
  all_goals omega

theorem crz_rot (ax ay bx bv cx cy : Int) : crz bx bv cx cy ax ay = crz ax ay bx bv cx cy := by unfold crz; grind
theorem crz_neg (ax ay bx bv cx cy : Int) : crz ax ay cx cy bx bv = -crz ax ay bx bv cx cy := by unfold crz; grind
theorem crz_swap (ax ay bx bv cx cy : Int) : crz bx bv ax ay cx cy = -crz ax ay bx bv cx cy := by unfold crz; grind
theorem crz_a (ax ay bx bv : Int) : crz ax ay bx bv ax ay = 0 := by unfold crz; grind
theorem crz_b (ax ay bx bv : Int) : crz ax ay bx bv bx bv = 0 := by unfold crz; grind

theorem tz_rot (ax ay bx bv cx cy : Int) : tz bx bv cx cy ax ay = tz ax ay bx bv cx cy := by
  unfold tz
  rw [crz_rot]
  cases lieB ax ay <;> cases lieB bx bv <;> cases lieB cx cy <;> rfl
theorem cmpI_op (n : Int) : cmpI (-n) 0 = -cmpI n 0 := by
  unfold cmpI
  repeat' split
  all_goals omega
theorem tz_neg (ax ay bx bv cx cy : Int) : tz ax ay cx cy bx bv = -tz ax ay bx bv cx cy := by
  unfold tz
  rw [crz_neg, cmpI_op]
  cases lieB ax ay <;> cases lieB bx bv <;> cases lieB cx cy <;> rfl
theorem tz_swap (ax ay bx bv cx cy : Int) : tz bx bv ax ay cx cy = -tz ax ay bx bv cx cy := by
  unfold tz
  rw [crz_swap, cmpI_op]
  cases lieB ax ay <;> cases lieB bx bv <;> cases lieB cx cy <;> rfl
theorem btw_swap (n a b : Int) : btw n b a = btw n a b := by
  unfold btw
  exact decide_eq_decide.2 Or.comm
theorem bz_swap (ax ay bx bv cx cy : Int) : bz bx bv ax ay cx cy = bz ax ay bx bv cx cy := by
  unfold bz
  rw [tz_swap, btw_swap, btw_swap cy, decide_eq_decide.2 (show -tz ax ay bx bv cx cy = 0 ↔ tz ax ay bx bv cx cy = 0 by omega), Bool.and_comm (lieB bx bv)]
theorem btw_a (a b : Int) : btw a a b = true := by unfold btw; simp; omega
theorem btw_b (a b : Int) : btw b a b = true := by unfold btw; simp; omega
theorem tz_a (ax ay bx bv : Int) : tz ax ay bx bv ax ay = 0 := by
  unfold tz
  rw [crz_a]
  split <;> rfl
theorem tz_b (ax ay bx bv : Int) : tz ax ay bx bv bx bv = 0 := by
  unfold tz
  rw [crz_b]
  split <;> rfl
theorem bz_a {ax ay bx bv : Int} (h : lieB ax ay = true) (h' : lieB bx bv = true) : bz ax ay bx bv ax ay = true := by
  unfold bz
  rw [tz_a, btw_a, btw_a, h, h']; rfl
theorem bz_b {ax ay bx bv : Int} (h : lieB ax ay = true) (h' : lieB bx bv = true) : bz ax ay bx bv bx bv = true := by
  unfold bz
  rw [tz_b, btw_b, btw_b, h, h']; rfl
theorem bz_tz {ax ay bx bv cx cy : Int} (h : bz ax ay bx bv cx cy = true) : tz ax ay bx bv cx cy = 0 := by
  unfold bz at h
  simp only [Bool.and_eq_true, decide_eq_true_eq] at h
  exact h.1.2
theorem bz_at {ax ay cx cy : Int} (h : bz ax ay ax ay cx cy = true) : cx = ax ∧ cy = ay := by
  unfold bz btw at h
  simp only [Bool.and_eq_true, decide_eq_true_eq] at h
  omega
theorem bz_not {ax ay bx bv cx cy : Int} (h : (lieB ax ay && lieB bx bv && lieB cx cy) = false) : bz ax ay bx bv cx cy = false := by
  unfold bz
  rw [h]; rfl

/-- products of coordinates' differences -/
theorem mul_bd {a b : Int} (h1 : -2199023255552 ≤ a ∧ a ≤ 2199023255552) (h2 : -2199023255552 ≤ b ∧ b ≤ 2199023255552) : -4835703278458516698824704 ≤ a * b ∧ a * b ≤ 4835703278458516698824704 := by
  have hb : (a * b).natAbs ≤ 2199023255552 * 2199023255552 := by rw [Int.natAbs_mul]; exact Nat.mul_le_mul (by omega) (by omega)
  omega
end Go.Proofs.Ytalbaopfdejooaa.KernA
