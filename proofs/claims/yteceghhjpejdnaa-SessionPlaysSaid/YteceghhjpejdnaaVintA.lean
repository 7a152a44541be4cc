/- Numbers as bytes, seven bits a byte, the low ones first: the plain law. -/
import Derived.Test.YteceghhjpejdnaaBase
namespace Go.Proofs.Yteceghhjpejdnaa.VintA
set_option linter.unusedVariables false
set_option linter.unusedSimpArgs false

/-- a number without a sign -/
def fold (n : Int) : Nat := if 0 ≤ n then 2 * n.toNat else 2 * (-(n + 1)).toNat + 1
def unfold_ (z : Nat) : Int := if z % 2 = 0 then (z / 2 : Nat) else -((z / 2 : Nat) : Int) - 1
theorem unfold_fold (n : Int) : unfold_ (fold n) = n := by
  unfold unfold_ fold
  split <;> split <;> omega
theorem fold_unfold (z : Nat) : fold (unfold_ z) = z := by
  unfold unfold_ fold
  split <;> split <;> omega
theorem fold_inj {a b : Int} (h : fold a = fold b) : a = b := by rw [← unfold_fold a, h, unfold_fold]
theorem fold_lt {n : Int} (h0 : -9223372036854775808 ≤ n) (h1 : n ≤ 9223372036854775807) : fold n < 18446744073709551616 := by
  unfold fold
  split <;> omega

/-- its bytes -/
def vint (z : Nat) : List Int := if h : z < 128 then [(z : Int)] else ((z % 128 + 128 : Nat) : Int) :: vint (z / 128)
termination_by z
decreasing_by omega
theorem vint_low {z : Nat} (h : z < 128) : vint z = [(z : Int)] := by rw [vint, dif_pos h]
theorem vint_high {z : Nat} (h : ¬ z < 128) : vint z = ((z % 128 + 128 : Nat) : Int) :: vint (z / 128) := by rw [vint, dif_neg h]
theorem vint_ne (z : Nat) : vint z ≠ [] := by
  by_cases h : z < 128
  · rw [vint_low h]; simp
  · rw [vint_high h]; simp
theorem vint_byte (z : Nat) : ∀ b ∈ vint z, 0 ≤ b ∧ b ≤ 255 := by
  induction z using Nat.strongRecOn with
  | _ z ih =>
    by_cases h : z < 128
    · rw [vint_low h]; intro b hb; simp at hb; omega
    · rw [vint_high h]
      intro b hb
      rcases List.mem_cons.1 hb with rfl | hb
      · omega
      · exact ih _ (by omega) b hb
/-- no number's bytes begin another's -/
theorem vint_pre : ∀ (z z' : Nat) (r r' : List Int), vint z ++ r = vint z' ++ r' → z = z' ∧ r = r' := by
  intro z
  induction z using Nat.strongRecOn with
  | _ z ih =>
    intro z' r r' h
    by_cases h1 : z < 128
    · by_cases h2 : z' < 128
      · rw [vint_low h1, vint_low h2] at h
        simp at h
        exact ⟨by omega, h.2⟩
      · rw [vint_low h1, vint_high h2] at h
        simp at h
        omega
    · by_cases h2 : z' < 128
      · rw [vint_high h1, vint_low h2] at h
        simp at h
        omega
      · rw [vint_high h1, vint_high h2] at h
        simp only [List.cons_append, List.cons.injEq] at h
        obtain ⟨h3, h4⟩ := h
        obtain ⟨h5, h6⟩ := ih (z / 128) (by omega) _ _ _ h4
        exact ⟨by omega, h6⟩
theorem vint_inj {z z' : Nat} (h : vint z = vint z') : z = z' := (vint_pre z z' [] [] (by rw [h])).1
theorem vint_len_pos (z : Nat) : 0 < (vint z).length := List.length_pos_iff.2 (vint_ne z)
theorem vint_len : ∀ (k z : Nat), z < 128 ^ (k + 1) → (vint z).length ≤ k + 1
  | 0, z, h => by rw [vint_low (by simpa using h)]; simp
  | k + 1, z, h => by
    by_cases h1 : z < 128
    · rw [vint_low h1]; simp
    · rw [vint_high h1, List.length_cons]
      have := vint_len k (z / 128) (Nat.div_lt_of_lt_mul (by rw [Nat.mul_comm, ← Nat.pow_succ]; exact h))
      omega
theorem vint_len10 {z : Nat} (h : z < 18446744073709551616) : (vint z).length ≤ 10 := vint_len 9 z (Nat.lt_of_lt_of_le h (by decide))

/-- a byte of seven bits and the mark 'more' -/
theorem or_more (z : Nat) : (z % 256) ||| 128 = z % 128 + 128 := by
  have h : ∀ x < 256, x ||| 128 = x % 128 + 128 := by decide +kernel
  rw [h _ (Nat.mod_lt _ (by decide))]
  omega
end Go.Proofs.Yteceghhjpejdnaa.VintA
