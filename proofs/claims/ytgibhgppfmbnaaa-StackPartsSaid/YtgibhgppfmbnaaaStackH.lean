/- Chapter 10: the plain law of a walk down a tree of numbers: the steps, and that a stack of 200 is never full. -/
import Derived.Test.YtgibhgppfmbnaaaStackG
namespace Go.Proofs.Ytgibhgppfmbnaaa.StackH
open Go.RowKit
set_option linter.unusedVariables false
set_option linter.unusedSimpArgs false

/-- what a number tells when it is visited -/
def kids (n : Int) : List Int := if 2 ≤ n ∧ n ≤ 1000 then [n / 2, n - n / 2] else []
def ind (t n : Int) : Nat := if t < n then 1 else 0
/-- how deep the tree of a number is -/
def dep (n : Int) : Nat := if n < 2 ∨ 1000 < n then 0 else ind 1 n + ind 2 n + ind 4 n + ind 8 n + ind 16 n + ind 32 n + ind 64 n + ind 128 n + ind 256 n + ind 512 n
/-- one step: what was visited, what is left -/
def st (s : List Int × List Int) : List Int × List Int := match s.2.getLast? with
  | none => s
  | some x => (s.1 ++ [x], s.2.dropLast ++ (kids x).reverse)
def it : Nat → List Int × List Int → List Int × List Int
  | 0, s => s
  | n + 1, s => it n (st s)

theorem ind_le (t n : Int) : ind t n ≤ 1 := by
  unfold ind
  split <;> omega
theorem ind_mono {t u m n : Int} (h : t < m → u < n) : ind t m ≤ ind u n := by
  unfold ind
  split
  · rw [if_pos (h (by assumption))]; omega
  · omega
theorem dep_le (n : Int) : dep n ≤ 10 := by
  unfold dep
  split
  · omega
  · have h0 := ind_le 1 n
    have h1 := ind_le 2 n
    have h2 := ind_le 4 n
    have h3 := ind_le 8 n
    have h4 := ind_le 16 n
    have h5 := ind_le 32 n
    have h6 := ind_le 64 n
    have h7 := ind_le 128 n
    have h8 := ind_le 256 n
    have h9 := ind_le 512 n
    omega
theorem dep_key {m n : Int} (h : 2 ≤ n ∧ n ≤ 1000) (h2 : 2 * m ≤ n + 1) (h3 : m < n) : dep m + 1 ≤ dep n := by
  have e1 : ind 1 n = 1 := by unfold ind; rw [if_pos (by omega)]
  have hn : dep n = ind 1 n + ind 2 n + ind 4 n + ind 8 n + ind 16 n + ind 32 n + ind 64 n + ind 128 n + ind 256 n + ind 512 n := by unfold dep; rw [if_neg (by omega)]
  have hm : dep m ≤ ind 1 m + ind 2 m + ind 4 m + ind 8 m + ind 16 m + ind 32 m + ind 64 m + ind 128 m + ind 256 m + ind 512 m := by
    unfold dep
    split
    · omega
    · exact Nat.le_refl _
  have g0 : ind 1 m ≤ ind 2 n := ind_mono (by omega)
  have g1 : ind 2 m ≤ ind 4 n := ind_mono (by omega)
  have g2 : ind 4 m ≤ ind 8 n := ind_mono (by omega)
  have g3 : ind 8 m ≤ ind 16 n := ind_mono (by omega)
  have g4 : ind 16 m ≤ ind 32 n := ind_mono (by omega)
  have g5 : ind 32 m ≤ ind 64 n := ind_mono (by omega)
  have g6 : ind 64 m ≤ ind 128 n := ind_mono (by omega)
  have g7 : ind 128 m ≤ ind 256 n := ind_mono (by omega)
  have g8 : ind 256 m ≤ ind 512 n := ind_mono (by omega)
  have g9 : ind 512 m = 0 := by unfold ind; rw [if_neg (by omega)]
  omega
theorem dep_half (n : Int) (h : 2 ≤ n ∧ n ≤ 1000) : dep (n / 2) + 1 ≤ dep n ∧ dep (n - n / 2) + 1 ≤ dep n :=
  ⟨dep_key h (by omega) (by omega), dep_key h (by omega) (by omega)⟩

/-- no element lies so high that its tree could fill the stack -/
def Low (l : List Int) : Prop := ∀ (i : Nat) (x : Int), l[i]? = some x → i + dep x ≤ 29
theorem Low.len {l : List Int} (h : Low l) : l.length ≤ 30 := by
  rcases Nat.lt_or_ge 30 l.length with hl | hl
  · have := h 30 l[30] (List.getElem?_eq_getElem hl)
    omega
  · exact hl
theorem Low.of_len {l : List Int} (h : l.length ≤ 20) : Low l := fun i x hx => by
  have := (List.getElem?_eq_some_iff.1 hx).1
  have := dep_le x
  omega
theorem Low.step {l : List Int} {x : Int} (h : Low (l ++ [x])) : Low (l ++ (kids x).reverse) := by
  have hx := h l.length x (by simp)
  intro i y hy
  rcases Nat.lt_or_ge i l.length with hi | hi
  · rw [List.getElem?_append_left hi] at hy
    exact h i y (by rw [List.getElem?_append_left hi]; exact hy)
  · rw [List.getElem?_append_right hi] at hy
    unfold kids at hy
    split at hy
    · rename_i hk
      have hd := dep_half x hk
      obtain ⟨j, hj⟩ : ∃ j, i - l.length = j := ⟨_, rfl⟩
      rw [hj] at hy
      match j, hy with
      | 0, hy => simp at hy; subst hy; omega
      | 1, hy => simp at hy; subst hy; omega
      | j + 2, hy => simp at hy
    · simp at hy
theorem st_snoc (a l : List Int) (x : Int) : st (a, l ++ [x]) = (a ++ [x], l ++ (kids x).reverse) := by simp [st]
theorem st_nil (a : List Int) : st (a, []) = (a, []) := by simp [st]
theorem it_nil (n : Nat) (a : List Int) : it n (a, []) = (a, []) := by
  induction n with
  | zero => rfl
  | succ n ih => rw [it, st_nil, ih]
theorem it_add (a b : Nat) (s : List Int × List Int) : it (a + b) s = it b (it a s) := by
  induction a generalizing s with
  | zero => rw [Nat.zero_add]; rfl
  | succ a ih => rw [Nat.succ_add, it, it, ih]
theorem it_succ (n : Nat) (s : List Int × List Int) : it (n + 1) s = st (it n s) := by
  rw [it_add]; rfl
theorem Low.it {n : Nat} {a l : List Int} (h : Low l) : Low (StackH.it n (a, l)).2 := by
  induction n generalizing a l with
  | zero => exact h
  | succ n ih =>
    rw [StackH.it]
    rcases StackG.snoc_cases l with rfl | ⟨l0, x, rfl⟩
    · rw [st_nil]; exact ih h
    · rw [st_snoc]; exact ih h.step
/-- what is visited grows by one a step, while something is left -/
theorem it_len (n : Nat) (a l : List Int) : a.length ≤ (it n (a, l)).1.length ∧ (it n (a, l)).1.length ≤ a.length + n := by
  induction n generalizing a l with
  | zero => exact ⟨Nat.le_refl _, Nat.le_refl _⟩
  | succ n ih =>
    rw [it]
    rcases StackG.snoc_cases l with rfl | ⟨l0, x, rfl⟩
    · rw [st_nil]
      have := ih a []
      omega
    · rw [st_snoc]
      have := ih (a ++ [x]) (l0 ++ (kids x).reverse)
      rw [List.length_append, List.length_singleton] at this
      omega
/-- less than so many steps: then nothing is left -/
theorem it_done {n : Nat} {a l : List Int} (h : (it n (a, l)).1.length < a.length + n) : (it n (a, l)).2 = [] := by
  induction n generalizing a l with
  | zero => simp [it] at h
  | succ n ih =>
    rw [it] at h ⊢
    rcases StackG.snoc_cases l with rfl | ⟨l0, x, rfl⟩
    · rw [st_nil, it_nil]
    · rw [st_snoc] at h ⊢
      exact ih (by rw [List.length_append, List.length_singleton]; omega)
end Go.Proofs.Ytgibhgppfmbnaaa.StackH
