/- Chapter 41: what inner tells: a place lies between others. -/
import Derived.Test.YtalbaopfdejooaaHullP
namespace Go.Proofs.Ytalbaopfdejooaa.HullQ
open Go.RowKit Base Slices RowsA KernA KernE AreaA HullD HullE HullF HullG HullH HullI HullJ HullM HullN HullO HullP
open HullA (lt at_ D)
open HullB (Inner Bt Wi)
set_option linter.unusedVariables false
set_option linter.unusedSimpArgs false

theorem tD_zero {a b c : Pn} (ha : lie a = true) (hb : lie b = true) (hc : lie c = true) : tD a b c = 0 ↔ D a b c = 0 := by
  have h1 := tD_pos ha hb hc
  have h2 := tD_neg ha hb hc
  omega
theorem bz_eq {a b p : Pn} (ha : lie a = true) (hb : lie b = true) (hp : lie p = true) : bzB a b p = true ↔ D a b p = 0 ∧ ((a.2.1 ≤ p.2.1 ∧ p.2.1 ≤ b.2.1) ∨ (b.2.1 ≤ p.2.1 ∧ p.2.1 ≤ a.2.1)) ∧ ((a.2.2 ≤ p.2.2 ∧ p.2.2 ≤ b.2.2) ∨ (b.2.2 ≤ p.2.2 ∧ p.2.2 ≤ a.2.2)) := by
  have hz := tD_zero ha hb hp
  unfold bzB bz btw
  unfold tD at hz
  unfold lie at ha hb hp
  rw [ha, hb, hp]
  simp only [Bool.and_self, Bool.true_and, Bool.and_eq_true, decide_eq_true_eq]
  rw [hz]
theorem bt_of {a b p : Pn} (hba : lt b a) (na : ¬ at_ a p) (nb : ¬ at_ b p) (h : D a b p = 0) (hx : (a.2.1 ≤ p.2.1 ∧ p.2.1 ≤ b.2.1) ∨ (b.2.1 ≤ p.2.1 ∧ p.2.1 ≤ a.2.1)) (hy : (a.2.2 ≤ p.2.2 ∧ p.2.2 ≤ b.2.2) ∨ (b.2.2 ≤ p.2.2 ∧ p.2.2 ≤ a.2.2)) : Bt b a p := by
  have h0 : D b p a = 0 := by rw [HullA.D_rot]; exact h
  unfold lt at hba
  unfold at_ at na nb
  have hx' : b.2.1 ≤ p.2.1 ∧ p.2.1 ≤ a.2.1 := by omega
  refine ⟨?_, ?_, h0⟩
  · unfold lt
    rcases Int.lt_or_eq_of_le hx'.1 with k | k
    · exact Or.inl k
    · refine Or.inr ⟨k, ?_⟩
      rcases hba with k2 | ⟨k2, k3⟩
      · exfalso
        have e : (a.2.1 - b.2.1) * (p.2.2 - b.2.2) = 0 := by
          have : D b p a = -((a.2.1 - b.2.1) * (p.2.2 - b.2.2)) := by unfold D crz; rw [← k]; grind
          omega
        rcases Int.mul_eq_zero.1 e with e | e <;> omega
      · omega
  · unfold lt
    rcases Int.lt_or_eq_of_le hx'.2 with k | k
    · exact Or.inl k
    · refine Or.inr ⟨k, ?_⟩
      rcases hba with k2 | ⟨k2, k3⟩
      · exfalso
        have e : (a.2.1 - b.2.1) * (a.2.2 - p.2.2) = 0 := by
          have : D b p a = ((a.2.1 - b.2.1) * (a.2.2 - p.2.2)) := by unfold D crz; rw [k]; grind
          omega
        rcases Int.mul_eq_zero.1 e with e | e <;> omega
      · omega
theorem of_bt {a b p : Pn} (h : Bt b a p) : lt b a ∧ ¬ at_ a p ∧ ¬ at_ b p ∧ D a b p = 0 ∧ ((a.2.1 ≤ p.2.1 ∧ p.2.1 ≤ b.2.1) ∨ (b.2.1 ≤ p.2.1 ∧ p.2.1 ≤ a.2.1)) ∧ ((a.2.2 ≤ p.2.2 ∧ p.2.2 ≤ b.2.2) ∨ (b.2.2 ≤ p.2.2 ∧ p.2.2 ≤ a.2.2)) := by
  obtain ⟨h1, h2, h3⟩ := h
  have h0 : D a b p = 0 := by rw [← HullA.D_rot]; exact h3
  refine ⟨HullA.lt_trans h1 h2, fun k => HullA.at_not (HullA.at_symm k) h2, fun k => HullA.at_not k h1, h0, ?_, ?_⟩
  · unfold lt at h1 h2; omega
  · have hx : b.2.1 ≤ p.2.1 ∧ p.2.1 ≤ a.2.1 := by unfold lt at h1 h2; omega
    by_cases hv : b.2.1 = a.2.1
    · unfold lt at h1 h2; omega
    · have hd : 0 < a.2.1 - b.2.1 := by omega
      have e1 : (a.2.1 - b.2.1) * (p.2.2 - b.2.2) = (p.2.1 - b.2.1) * (a.2.2 - b.2.2) := by
        have : D b p a = (p.2.1 - b.2.1) * (a.2.2 - b.2.2) - (a.2.1 - b.2.1) * (p.2.2 - b.2.2) := by unfold D crz; grind
        omega
      have e2 : (a.2.1 - b.2.1) * (a.2.2 - p.2.2) = (a.2.1 - p.2.1) * (a.2.2 - b.2.2) := by
        have : (a.2.1 - b.2.1) * (a.2.2 - p.2.2) = (a.2.1 - b.2.1) * (a.2.2 - b.2.2) - (a.2.1 - b.2.1) * (p.2.2 - b.2.2) := by grind
        rw [this, e1]; grind
      rcases Int.le_total b.2.2 a.2.2 with k | k
      · have f1 := HullA.nn_of hd (by rw [e1]; exact Int.mul_nonneg (by omega) (by omega))
        have f2 := HullA.nn_of hd (by rw [e2]; exact Int.mul_nonneg (by omega) (by omega))
        omega
      · have f1 := HullA.nn_of (b := b.2.2 - p.2.2) hd (by
          have : (a.2.1 - b.2.1) * (b.2.2 - p.2.2) = (p.2.1 - b.2.1) * (b.2.2 - a.2.2) := by
            have h4 : (a.2.1 - b.2.1) * (b.2.2 - p.2.2) = -((a.2.1 - b.2.1) * (p.2.2 - b.2.2)) := by grind
            rw [h4, e1]; grind
          rw [this]; exact Int.mul_nonneg (by omega) (by omega))
        have f2 := HullA.nn_of (b := p.2.2 - a.2.2) hd (by
          have : (a.2.1 - b.2.1) * (p.2.2 - a.2.2) = (a.2.1 - p.2.1) * (b.2.2 - a.2.2) := by
            have h4 : (a.2.1 - b.2.1) * (p.2.2 - a.2.2) = -((a.2.1 - b.2.1) * (a.2.2 - p.2.2)) := by grind
            rw [h4, e2]; grind
          rw [this]; exact Int.mul_nonneg (by omega) (by omega))
        omega
theorem sgn {z t m : Int} (hz : z = -1 ∨ z = 0 ∨ z = 1) (zp : 0 < z ↔ 0 < m) (zn : z < 0 ↔ m < 0) (ht : t = 1 ∨ t = -1) : (0 ≤ z * t ↔ (t = 1 → 0 ≤ m) ∧ (t = -1 → m ≤ 0)) := by
  rcases ht with rfl | rfl <;> rcases hz with rfl | rfl | rfl <;> simp at * <;> omega
theorem wi_iff {a b c p : Pn} (ha : lie a = true) (hb : lie b = true) (hc : lie c = true) (hp : lie p = true) : wiB a b c p = true ↔ Wi c b a p := by
  have s1 : D c b a = - D a b c := HullB.D_turn a b c
  have s2 : D c b p = - D b c p := HullA.D_swap b c p
  have s3 : D b a p = - D a b p := HullA.D_swap a b p
  have s4 : D a c p = - D c a p := HullA.D_swap c a p
  unfold wiB Wi
  rw [decide_eq_true_iff, s1, s2, s3, s4]
  have t0p := tD_pos ha hb hc
  have t0n := tD_neg ha hb hc
  have t1p := tD_pos ha hb hp
  have t1n := tD_neg ha hb hp
  have t2p := tD_pos hb hc hp
  have t2n := tD_neg hb hc hp
  have t3p := tD_pos hc ha hp
  have t3n := tD_neg hc ha hp
  have r1 := tD_3 a b p
  have r2 := tD_3 b c p
  have r3 := tD_3 c a p
  rcases tD_3 a b c with e | e | e
  · rw [sgn r1 t1p t1n (Or.inr e), sgn r2 t2p t2n (Or.inr e), sgn r3 t3p t3n (Or.inr e)]
    omega
  · rw [e] at t0p t0n ⊢
    omega
  · rw [sgn r1 t1p t1n (Or.inl e), sgn r2 t2p t2n (Or.inl e), sgn r3 t3p t3n (Or.inl e)]
    omega
theorem idx_lt {P : List Pn} (hs : HullA.Ord P) {i k : Nat} {a b : Pn} (ha : P[i]? = some a) (hb : P[k]? = some b) (h : k < i) : lt b a := by
  obtain ⟨h1, rfl⟩ := List.getElem?_eq_some_iff.1 ha
  obtain ⟨h2, rfl⟩ := List.getElem?_eq_some_iff.1 hb
  exact List.pairwise_iff_getElem.1 hs k i h2 h1 h
theorem lt_idx {P : List Pn} (hs : HullA.Ord P) {i k : Nat} {a b : Pn} (ha : P[i]? = some a) (hb : P[k]? = some b) (h : lt b a) : k < i := by
  rcases Nat.lt_trichotomy k i with h' | h' | h'
  · exact h'
  · subst h'; rw [ha] at hb; cases hb; exact (HullA.lt_irr h).elim
  · exact (HullA.lt_asym h (idx_lt hs hb ha h')).elim
theorem hits_iff {P : List Pn} (hs : HullA.Ord P) (hl : ∀ x ∈ P, lie x = true) {p : Pn} (hp : lie p = true) : hits P p ↔ Inner P p := by
  constructor
  · rintro ⟨i, k, hki, a, b, ha, hb, na, nb, h⟩
    have la := hl a (List.mem_of_getElem? ha)
    have lb := hl b (List.mem_of_getElem? hb)
    have hba := idx_lt hs ha hb hki
    rcases h with h | ⟨j, c, hjk, hc, nc, h⟩
    · obtain ⟨h1, h2, h3⟩ := (bz_eq la lb hp).1 h
      exact Or.inl ⟨b, List.mem_of_getElem? hb, a, List.mem_of_getElem? ha, bt_of hba na nb h1 h2 h3⟩
    · have lc := hl c (List.mem_of_getElem? hc)
      exact Or.inr ⟨c, List.mem_of_getElem? hc, b, List.mem_of_getElem? hb, a, List.mem_of_getElem? ha, idx_lt hs hb hc hjk, hba, nc, nb, na, (wi_iff la lb lc hp).1 h⟩
  · rintro (⟨b, hb, a, ha, h⟩ | ⟨c, hc, b, hb, a, ha, hcb, hba, nc, nb, na, h⟩)
    · obtain ⟨i, hi⟩ := List.mem_iff_getElem?.1 ha
      obtain ⟨k, hk⟩ := List.mem_iff_getElem?.1 hb
      obtain ⟨h1, na, nb, h2⟩ := of_bt h
      exact ⟨i, k, lt_idx hs hi hk h1, a, b, hi, hk, na, nb, Or.inl ((bz_eq (hl a ha) (hl b hb) hp).2 h2)⟩
    · obtain ⟨i, hi⟩ := List.mem_iff_getElem?.1 ha
      obtain ⟨k, hk⟩ := List.mem_iff_getElem?.1 hb
      obtain ⟨j, hj⟩ := List.mem_iff_getElem?.1 hc
      exact ⟨i, k, lt_idx hs hi hk hba, a, b, hi, hk, na, nb, Or.inr ⟨j, c, lt_idx hs hk hj hcb, hj, nc, (wi_iff (hl a ha) (hl b hb) (hl c hc) hp).2 h⟩⟩
end Go.Proofs.Ytalbaopfdejooaa.HullQ
