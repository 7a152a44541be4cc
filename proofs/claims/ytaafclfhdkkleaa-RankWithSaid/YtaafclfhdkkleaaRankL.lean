/- Chapter 9: the plain law of cells, lives, and how a list of ints comes in. -/
import Derived.Test.YtaafclfhdkkleaaRankK
namespace Go.Proofs.Ytaafclfhdkkleaa.RankL
open Go.RowKit Base SortA IntB IntC IntD IntE IntG IntH IntI IntJ IntK IntL IntQ RankA RankB RankC RankD RankE RankF RankG RankH RankI RankJ RankK Quiet
set_option linter.unusedVariables false
set_option linter.unusedSimpArgs false

theorem upto_ris : ∀ {l : List Pr}, Ris l → ∀ n : Int, upto l n = below l n + if has l n then 1 else 0
  | [], _, n => rfl
  | x :: l, h, n => by
    obtain ⟨h1, h2⟩ := List.pairwise_cons.1 h
    have ih := upto_ris h2 n
    unfold upto below at ih ⊢
    rw [List.countP_cons, List.countP_cons, has_cons]
    by_cases hlt : x.1 < n
    · have e1 : decide (x.1 < n) = true := decide_eq_true hlt
      have e2 : decide (x.1 ≤ n) = true := decide_eq_true (by omega)
      have e3 : decide (x.1 = n) = false := decide_eq_false (by omega)
      simp only [e1, e2, e3, Bool.false_or, if_true]
      omega
    · by_cases he : x.1 = n
      · have e1 : decide (x.1 < n) = false := decide_eq_false hlt
        have e2 : decide (x.1 ≤ n) = true := decide_eq_true (by omega)
        have e3 : decide (x.1 = n) = true := decide_eq_true he
        have hn : has l n = false := has_not fun z hz => by have := h1 z hz; omega
        rw [hn] at ih
        simp only [e1, e2, e3, Bool.true_or, if_true, hn] at ih ⊢
        simp at ih ⊢
        omega
      · have e1 : decide (x.1 < n) = false := decide_eq_false hlt
        have e2 : decide (x.1 ≤ n) = false := decide_eq_false (by omega)
        have e3 : decide (x.1 = n) = false := decide_eq_false he
        simp only [e1, e2, e3, Bool.false_or]
        simpa using ih

theorem below_mono (l : List Pr) {a b : Int} (h : a ≤ b) : below l a ≤ below l b := List.countP_mono_left (by intro x _ hx; have := of_decide_eq_true hx; exact decide_eq_true (by omega))
theorem upto_below (l : List Pr) {a b : Int} (h : a < b) : upto l a ≤ below l b := List.countP_mono_left (by intro x _ hx; have := of_decide_eq_true hx; exact decide_eq_true (by omega))
theorem cell_lo {l : List Pr} (ho : Srt l) {x v : Int} (hx : has l x = true) : cellOf l x ≤ cellOf l v ↔ x ≤ v := by
  rw [has_iff ho, decide_eq_true_iff] at hx
  unfold cellOf
  rw [if_pos hx]
  by_cases h : x ≤ v
  · refine ⟨fun _ => h, fun _ => ?_⟩
    by_cases he : x = v
    · subst he; rw [if_pos hx]; omega
    · have := upto_below l (show x < v by omega)
      split <;> omega
  · refine ⟨fun hh => ?_, fun hh => absurd hh h⟩
    have h1 := below_mono l (show v ≤ x by omega)
    have h2 := upto_below l (show v < x by omega)
    split at hh <;> omega
theorem cell_hi {l : List Pr} (ho : Srt l) {y v : Int} (hy : has l y = true) : cellOf l v ≤ cellOf l y ↔ v ≤ y := by
  rw [has_iff ho, decide_eq_true_iff] at hy
  unfold cellOf
  rw [if_pos hy]
  by_cases h : v ≤ y
  · refine ⟨fun _ => h, fun _ => ?_⟩
    by_cases he : v = y
    · subst he; rw [if_pos hy]; omega
    · have h1 := upto_below l (show v < y by omega)
      have h2 := below_mono l (show v ≤ y by omega)
      split <;> omega
  · refine ⟨fun hh => ?_, fun hh => absurd hh h⟩
    have := upto_below l (show y < v by omega)
    split at hh <;> omega

theorem three_sl (w : World) (a b c : Int) : Sl (w.alloc (.cells #[.int .i64 a, .int .i64 b, .int .i64 c] 3)) (.slice (some ⟨w.heap.size, 0, none⟩) 3 3) [(a, 0), (b, 0), (c, 0)] := by
  have hB := Bk.new w 3 #[.int .i64 a, .int .i64 b, .int .i64 c]
  refine Or.inr ⟨w.heap.size, 0, 3, rfl, by simp, by simp, fun i q h => ?_⟩
  rw [Nat.zero_add]
  match i, h with
  | 0, h => simp at h; subst h; exact ⟨hB.cell 0, trivial⟩
  | 1, h => simp at h; subst h; exact ⟨hB.cell 1, trivial⟩
  | 2, h => simp at h; subst h; exact ⟨hB.cell 2, trivial⟩
  | n + 3, h => simp at h

theorem lives_true (w : World) : Calls Try.prog 13 #[] w fun e w' => e = .returned (.bool true) ∧ Fr Nil w w' := by
  have K1 := Lib.hid (New_any _ _ _ (by decide) (three_sl w 5 1 5))
  have hS : uq (isort [((5 : Int), (0 : Int)), (1, 0), (5, 0)]) = [(1, 0), (5, 0)] := by decide +kernel
  rw [hS] at K1
  have hO : Srt [((1 : Int), (0 : Int)), (5, 0)] := (show Ris [((1 : Int), (0 : Int)), (5, 0)] by unfold Ris; simp).srt
  have KL := Lib.hid (fun W r (h : Rk W r [(1, 0), (5, 0)]) => Len_any _ r W h)
  have KC := Lib.hid (fun W r p (h : Rk W r [(1, 0), (5, 0)]) => Cell_any _ p r W (by decide) hO h)
  have K1' := Lib.hid (fun W r (h : Rk W r [(1, 0), (5, 0)]) => KC.out W r (1, 0) h)
  have K3' := Lib.hid (fun W r (h : Rk W r [(1, 0), (5, 0)]) => KC.out W r (3, 0) h)
  have K9' := Lib.hid (fun W r (h : Rk W r [(1, 0), (5, 0)]) => KC.out W r (9, 0) h)
  have e1 : cellOf [((1 : Int), (0 : Int)), (5, 0)] ((1, 0) : Pr).1 = 1 := by decide +kernel
  have e3 : cellOf [((1 : Int), (0 : Int)), (5, 0)] ((3, 0) : Pr).1 = 2 := by decide +kernel
  have e9 : cellOf [((1 : Int), (0 : Int)), (5, 0)] ((9, 0) : Pr).1 = 4 := by decide +kernel
  have e2 : (([((1 : Int), (0 : Int)), (5, 0)].length : Nat) : Int) = 2 := rfl
  rw [e1] at K1'
  rw [e3] at K3'
  rw [e9] at K9'
  rw [e2] at KL
  dsimp only at K1' K3' K9'
  clear e1 e3 e9 e2 hS hO KC
  go_enter Try.func13, Try.ntmps13
  go_wp2_with fail
  refine K1.out.mono ?_
  rintro e w1 ⟨r, rfl, hf1, hr1, hn1⟩
  have HF1 := Lib.hid (((Fr.refl Nil w).alloc _).trans hf1)
  have HR1 := Lib.hid hr1
  clear hf1 hr1 hn1
  go_wp2_with fail
  refine (KL.out _ _ HR1.out).mono ?_
  rintro e w2 ⟨rfl, hf2⟩
  have HF2 := Lib.hid hf2
  clear hf2
  go_wp2_with fail
  refine (K1'.out _ _ (HR1.out.fr HF2.out)).mono ?_
  rintro e w3 ⟨rfl, hf3⟩
  have HF3 := Lib.hid (HF2.out.trans hf3)
  clear hf3
  go_wp2_with fail
  refine (K3'.out _ _ (HR1.out.fr HF3.out)).mono ?_
  rintro e w4 ⟨rfl, hf4⟩
  have HF4 := Lib.hid (HF3.out.trans hf4)
  clear hf4
  go_wp2_with fail
  refine (K9'.out _ _ (HR1.out.fr HF4.out)).mono ?_
  rintro e w5 ⟨rfl, hf5⟩
  have HF5 := Lib.hid (HF4.out.trans hf5)
  clear hf5
  go_wp2_with fail
  go_ret
  exact ⟨rfl, HF1.out.trans HF5.out⟩

/-- ints, as elements of a slice -/
def EP : Slices.El Pr := { ty := 3, sl := 22, size := 1, bytes := 8, cells := pc }
theorem EP_ok : EP.Ok Try.prog := by
  obtain ⟨i0, hi, hz0, hz1, hz2⟩ := info_parts Try.info_int
  exact ⟨Try.underlying22, ⟨i0, _, hi, hz0, hz1, hz2, rfl⟩, by decide, by decide, fun _ => rfl, fun a u hu => by simp [EP, pc] at hu; subst hu; rfl⟩
theorem open_l {H : Type} {enc : TypeId × Value → H} {w : World} {base : Nat} {v : Value} {d : DataW H} {p : List MemPlace} (hv : Value.okWide Try.prog w .any base 22 v) (h : DataW.Trod enc Try.prog w 0 (fun _ => true) true 22 v d p) :
    ∃ l : List Pr, Come w v l ∧ l.length ≤ maxLen ∧ Zs l := by
  obtain ⟨l, h1, h2, h3⟩ := Slices.open_come (E := EP) EP_ok 3 (ks := [.i .i64]) (by kernel_rfl) (by kernel_rfl) (fun vs => match vs with | [.int .i64 n] => (n, 0) | _ => (0, 0)) (by
    intro vs hvs
    obtain ⟨v, vs', rfl, ⟨n, rfl, _⟩, hn⟩ := Leaf.Leafs.cons hvs
    obtain rfl : vs' = [] := hn
    rfl) hv h
  refine ⟨l, h1, h2, fun x hx => ?_⟩
  obtain ⟨vs, hvs, rfl⟩ := h3 x hx
  obtain ⟨v, vs', rfl, ⟨n, rfl, _⟩, hn⟩ := Leaf.Leafs.cons hvs
  obtain rfl : vs' = [] := hn
  rfl
theorem Zs.take {l : List Pr} (h : Zs l) (k : Nat) : Zs (l.take k) := fun x hx => h x (List.mem_of_mem_take hx)
theorem refOf_len' (l : List Pr) : (refOf l).length ≤ l.length := by have h := refOf_len l l.length (Nat.le_refl _); rwa [List.take_length] at h
end Go.Proofs.Ytaafclfhdkkleaa.RankL
