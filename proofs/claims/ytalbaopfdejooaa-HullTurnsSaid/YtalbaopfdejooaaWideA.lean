/- Chapter 2, plain numbers: the digits of an integer to the base 65536, and what sums, negatives and products do to them. -/
import Derived.Test.YtalbaopfdejooaaBase
namespace Go.Proofs.Ytalbaopfdejooaa.WideA

/-- 65536 to the power i -/
def pw : Nat → Int
  | 0 => 1
  | n + 1 => pw n * 65536

theorem pw_pos (i : Nat) : 0 < pw i := by
  induction i with
  | zero => decide
  | succ n ih => unfold pw; omega

theorem pw_add (i k : Nat) : pw (i + k) = pw i * pw k := by
  induction k with
  | zero => simp [pw]
  | succ n ih =>
    show pw (i + n) * 65536 = pw i * (pw n * 65536)
    rw [ih, Int.mul_assoc]

/-- the i-th digit of n -/
def dg (n : Int) (i : Nat) : Int := n / pw i % 65536

theorem dg_bd (n : Int) (i : Nat) : 0 ≤ dg n i ∧ dg n i ≤ 65535 := by unfold dg; omega

theorem div_succ (n : Int) (i : Nat) : n / pw (i + 1) = n / pw i / 65536 := by
  show n / (pw i * 65536) = _
  rw [Int.ediv_ediv_of_nonneg (Int.le_of_lt (pw_pos i))]

/-- what is carried into place k of a sum -/
def car (m n : Int) (k : Nat) : Int := (m + n) / pw k - m / pw k - n / pw k

theorem car_zero (m n : Int) : car m n 0 = 0 := by simp [car, pw]; omega

theorem car_step (m n : Int) (k : Nat) : (dg m k + dg n k + car m n k) % 65536 = dg (m + n) k ∧ (dg m k + dg n k + car m n k) / 65536 = car m n (k + 1) := by
  unfold car dg
  rw [div_succ, div_succ, div_succ]
  omega

theorem car_bd (m n : Int) (k : Nat) : 0 ≤ car m n k ∧ car m n k ≤ 1 := by
  induction k with
  | zero => rw [car_zero]; omega
  | succ k ih =>
    have h := (car_step m n k).2
    have h1 := dg_bd m k
    have h2 := dg_bd n k
    omega

theorem div_not (m p : Int) (hp : 0 < p) : (-m - 1) / p = -(m / p) - 1 := by
  have h1 := Int.emod_add_mul_ediv m p
  have h2 := Int.emod_nonneg m (Int.ne_of_gt hp)
  have h3 := Int.emod_lt_of_pos m hp
  rw [Int.ediv_eq_iff_of_pos hp]
  constructor
  · rw [show (-(m / p) - 1) * p = -(p * (m / p)) - p by rw [Int.sub_mul, Int.neg_mul, Int.one_mul, Int.mul_comm]]
    omega
  · rw [show (-(m / p) - 1) * p = -(p * (m / p)) - p by rw [Int.sub_mul, Int.neg_mul, Int.one_mul, Int.mul_comm]]
    omega

theorem dg_not (m : Int) (i : Nat) : 65535 - dg m i = dg (-m - 1) i := by
  unfold dg
  rw [div_not m _ (pw_pos i)]
  omega

theorem dg_one (i : Nat) : dg 1 i = if i = 0 then 1 else 0 := by
  cases i with
  | zero => simp [dg, pw]
  | succ i =>
    have hp := pw_pos i
    have : (1 : Int) / pw (i + 1) = 0 := by
      apply Int.ediv_eq_zero_of_lt (by omega)
      show (1 : Int) < pw i * 65536
      omega
    simp [dg, this]

theorem dg_zero (i : Nat) : dg 0 i = 0 := by simp [dg]

/-- P behind the first i digits of m have been taken, P' behind the next one -/
def part (m n : Int) (i : Nat) : Int := m % pw i * n

theorem mod_succ (m : Int) (i : Nat) : m % pw (i + 1) = m % pw i + dg m i * pw i := by
  have h1 := Int.emod_add_mul_ediv m (pw (i + 1))
  have h2 := Int.emod_add_mul_ediv m (pw i)
  have h3 := Int.emod_add_mul_ediv (m / pw i) 65536
  rw [div_succ] at h1
  have e : pw (i + 1) * (m / pw i / 65536) = pw i * (65536 * (m / pw i / 65536)) := by
    show pw i * 65536 * _ = _
    rw [Int.mul_assoc]
  have h4 : pw i * (m / pw i) = pw i * (m / pw i % 65536) + pw i * (65536 * (m / pw i / 65536)) := by
    rw [← Int.mul_add, h3]
  unfold dg
  rw [Int.mul_comm (m / pw i % 65536)]
  omega

theorem part_zero (m n : Int) : part m n 0 = 0 := by simp [part, pw]

theorem part_succ (m n : Int) (i : Nat) : part m n (i + 1) = part m n i + dg m i * n * pw i := by
  unfold part
  rw [mod_succ, Int.add_mul]
  congr 1
  rw [Int.mul_assoc, Int.mul_comm (pw i) n, ← Int.mul_assoc]

/-- what is carried into place i + k of the i-th row of a product -/
def mcar (P a n : Int) (i k : Nat) : Int := (P + a * n * pw i) / pw (i + k) - P / pw (i + k) - a * (n / pw k)

theorem mcar_zero (P a n : Int) (i : Nat) : mcar P a n i 0 = 0 := by
  unfold mcar
  rw [Nat.add_zero, Int.add_mul_ediv_right _ _ (Int.ne_of_gt (pw_pos i))]
  simp [pw]
  omega

theorem mcar_step (P a n : Int) (i k : Nat) : (dg P (i + k) + a * dg n k + mcar P a n i k) % 65536 = dg (P + a * n * pw i) (i + k) ∧ (dg P (i + k) + a * dg n k + mcar P a n i k) / 65536 = mcar P a n i (k + 1) := by
  unfold mcar dg
  rw [← Nat.add_assoc, div_succ, div_succ, div_succ n k]
  generalize (P + a * n * pw i) / pw (i + k) = X
  generalize P / pw (i + k) = Y
  generalize n / pw k = Z
  have h : a * Z = a * (Z / 65536) * 65536 + a * (Z % 65536) := by
    rw [Int.mul_assoc, ← Int.mul_add]
    congr 1
    omega
  rw [h]
  generalize a * (Z / 65536) = U
  generalize a * (Z % 65536) = V
  omega

theorem mcar_bd (P a n : Int) (i k : Nat) (h0 : 0 ≤ a) (h1 : a ≤ 65535) : 0 ≤ mcar P a n i k ∧ mcar P a n i k ≤ 65535 := by
  induction k with
  | zero => rw [mcar_zero]; omega
  | succ k ih =>
    have h := (mcar_step P a n i k).2
    have hP := dg_bd P (i + k)
    have hn := dg_bd n k
    have l1 : 0 ≤ a * dg n k := Int.mul_nonneg h0 hn.1
    have l2 : a * dg n k ≤ 65535 * 65535 := Int.mul_le_mul h1 hn.2 hn.1 (by omega)
    omega

theorem dg_low (P X : Int) (i j : Nat) (h : j < i) : dg (P + X * pw i) j = dg P j := by
  obtain ⟨d, rfl⟩ : ∃ d, i = j + 1 + d := ⟨i - (j + 1), by omega⟩
  unfold dg
  have e : X * pw (j + 1 + d) = X * pw d * 65536 * pw j := by
    rw [pw_add, show pw (j + 1) = pw j * 65536 from rfl]
    rw [Int.mul_assoc X (pw d), Int.mul_assoc X, Int.mul_comm (pw j * 65536) (pw d), Int.mul_comm (pw j) 65536, Int.mul_assoc]
  rw [e, Int.add_mul_ediv_right _ _ (Int.ne_of_gt (pw_pos j)), Int.add_mul_emod_self_right]

theorem dg_part (m n : Int) (j : Nat) (h : j < 9) : dg (part m n 9) j = dg (m * n) j := by
  have h1 := Int.emod_add_mul_ediv m (pw 9)
  have e : m * n = part m n 9 + m / pw 9 * n * pw 9 := by
    unfold part
    rw [Int.mul_assoc, Int.mul_comm n, ← Int.mul_assoc, ← Int.add_mul]
    congr 1
    rw [Int.mul_comm (m / pw 9)]
    omega
  rw [e, dg_low _ _ _ _ h]

/-- a number of nine digits that is none too great is told by them -/
theorem div_eight (n : Int) (h0 : -(pw 8) ≤ n) (h1 : n < pw 8) : n / pw 8 = if n < 0 then -1 else 0 := by
  split
  · rw [Int.ediv_eq_iff_of_pos (pw_pos 8)]
    omega
  · exact Int.ediv_eq_zero_of_lt (by omega) h1

theorem pw8 : pw 8 = 340282366920938463463374607431768211456 := by decide
theorem pw4 : pw 4 = 18446744073709551616 := by decide

theorem dg8 (n : Int) (h0 : -(pw 8) ≤ n) (h1 : n < pw 8) : dg n 8 = if n < 0 then 65535 else 0 := by
  unfold dg
  rw [div_eight n h0 h1]
  split <;> rfl

/-- the lower half's four digits -/
theorem low_four (n : Int) : ((dg n 3 * 65536 + dg n 2) * 65536 + dg n 1) * 65536 + dg n 0 = n % pw 4 := by
  have e0 : n % pw 1 = dg n 0 := by have := mod_succ n 0; simp [pw] at this; simp [pw, dg]; 
  have e1 := mod_succ n 1
  have e2 := mod_succ n 2
  have e3 := mod_succ n 3
  simp only [pw] at *
  omega
end Go.Proofs.Ytalbaopfdejooaa.WideA
