/- Numbers as bytes: which number any bytes begin with: the plain law. -/
import Derived.Test.YteceghhjpejdnaaVintA
namespace Go.Proofs.Yteceghhjpejdnaa.VintC
open VintA
set_option linter.unusedVariables false
set_option linter.unusedSimpArgs false

/-- the number of some bytes -/
def val : List Int → Nat
  | [] => 0
  | b :: l => b.toNat % 128 + 128 * val l
theorem val_vint (z : Nat) : val (vint z) = z := by
  induction z using Nat.strongRecOn with
  | _ z ih =>
    by_cases h : z < 128
    · rw [vint_low h]; simp [val]; omega
    · rw [vint_high h, val, ih _ (by omega)]
      omega
theorem val_snoc : ∀ (l : List Int) (b : Int), val (l ++ [b]) = val l + 128 ^ l.length * (b.toNat % 128)
  | [], b => by simp [val]
  | a :: l, b => by
    rw [List.cons_append, val, val, val_snoc l b, List.length_cons, Nat.pow_succ, Nat.mul_add, ← Nat.mul_assoc, Nat.mul_comm 128 (128 ^ l.length)]
    omega
theorem val_lt : ∀ (l : List Int), val l < 128 ^ l.length
  | [] => by simp [val]
  | a :: l => by
    have := val_lt l
    rw [val, List.length_cons, Nat.pow_succ]
    omega
/-- all bytes but the last say 'more' -/
theorem vint_shape (z : Nat) : ∃ pre y, vint z = pre ++ [y] ∧ (∀ x ∈ pre, 128 ≤ x) ∧ y < 128 := by
  induction z using Nat.strongRecOn with
  | _ z ih =>
    by_cases h : z < 128
    · exact ⟨[], z, vint_low h, by simp, by omega⟩
    · obtain ⟨pre, y, h1, h2, h3⟩ := ih (z / 128) (by omega)
      refine ⟨((z % 128 + 128 : Nat) : Int) :: pre, y, by rw [vint_high h, h1]; rfl, fun x hx => ?_, h3⟩
      rcases List.mem_cons.1 hx with rfl | hx
      · omega
      · exact h2 x hx
/-- bytes begin with a number -/
def Begins (b : List Int) (z : Nat) : Prop := z < 18446744073709551616 ∧ ∃ r, b = vint z ++ r
theorem Begins.unique {b : List Int} {z z' : Nat} (h : Begins b z) (h' : Begins b z') : z = z' := by
  obtain ⟨_, r, e⟩ := h
  obtain ⟨_, r', e'⟩ := h'
  exact (vint_pre z z' r r' (e.symm.trans e')).1
/-- where the first byte stands that does not say 'more' -/
theorem Begins.at {b : List Int} {z : Nat} (h : Begins b z) : ∃ k y, (vint z).length = k + 1 ∧ k < 10 ∧ b[k]? = some y ∧ y < 128 ∧ b.take (k + 1) = vint z ∧ ∀ x ∈ b.take k, 128 ≤ x := by
  obtain ⟨h1, r, e⟩ := h
  obtain ⟨pre, y, h2, h3, h4⟩ := vint_shape z
  have hl := vint_len10 h1
  have hlen : (vint z).length = pre.length + 1 := by rw [h2]; simp
  refine ⟨pre.length, y, hlen, by omega, ?_, h4, ?_, ?_⟩
  · rw [e, h2]; simp
  · rw [e, ← hlen, List.take_left]
  · rw [e, h2, List.append_assoc, List.take_left]
    exact h3
theorem none_of {b : List Int} {i : Nat} (hi : i = b.length ∨ i = 10) (hb : ∀ x ∈ b.take i, 128 ≤ x) (z : Nat) : ¬ Begins b z := by
  intro h
  obtain ⟨k, y, _, hk, hy, hlt, _, _⟩ := h.at
  have hkl := (List.getElem?_eq_some_iff.1 hy).1
  have hm : y ∈ b.take i := by
    rw [List.mem_iff_getElem?]
    refine ⟨k, ?_⟩
    rw [List.getElem?_take, if_pos (by omega)]
    exact hy
  have := hb y hm
  omega
theorem at_of {b : List Int} {i : Nat} {y : Int} (hi : b[i]? = some y) (hy : y < 128) (hb : ∀ x ∈ b.take i, 128 ≤ x) {z : Nat} (h : Begins b z) : b.take (i + 1) = vint z := by
  obtain ⟨k, y', h1, hk, hy', hlt, h2, h3⟩ := h.at
  have hkl := (List.getElem?_eq_some_iff.1 hy').1
  have hil := (List.getElem?_eq_some_iff.1 hi).1
  rcases Nat.lt_trichotomy i k with hik | hik | hik
  · have hm : y ∈ b.take k := by
      rw [List.mem_iff_getElem?]
      exact ⟨i, by rw [List.getElem?_take, if_pos hik]; exact hi⟩
    have := h3 y hm
    omega
  · subst hik; exact h2
  · have hm : y' ∈ b.take i := by
      rw [List.mem_iff_getElem?]
      exact ⟨k, by rw [List.getElem?_take, if_pos hik]; exact hy'⟩
    have := hb y' hm
    omega
/-- what the check tells: the number reckoned is the one that the bytes begin with, or there is none -/
theorem check_yes {b : List Int} {i Z : Nat} (hZ : Z < 18446744073709551616) (h : vint Z = b.take (i + 1)) : Begins b Z := ⟨hZ, b.drop (i + 1), by rw [h, List.take_append_drop]⟩
theorem check_no {b : List Int} {i : Nat} {y : Int} (hi : b[i]? = some y) (hy : y < 128) (hb : ∀ x ∈ b.take i, 128 ≤ x) (h : vint (val (b.take (i + 1)) % 18446744073709551616) ≠ b.take (i + 1)) (z : Nat) : ¬ Begins b z := by
  intro hz
  have h1 := at_of hi hy hb hz
  rw [h1, val_vint, Nat.mod_eq_of_lt hz.1] at h
  exact h rfl
theorem val_step {b : List Int} {i : Nat} {y : Int} (hi : b[i]? = some y) : val (b.take (i + 1)) = val (b.take i) + 128 ^ i * (y.toNat % 128) := by
  obtain ⟨h, rfl⟩ := List.getElem?_eq_some_iff.1 hi
  rw [List.take_succ_eq_append_getElem h, val_snoc, List.length_take, Nat.min_eq_left (by omega)]
theorem val_take_lt {b : List Int} {i : Nat} (hi : i ≤ b.length) : val (b.take i) < 128 ^ i := by
  have := val_lt (b.take i)
  rwa [List.length_take, Nat.min_eq_left hi] at this
end Go.Proofs.Yteceghhjpejdnaa.VintC
