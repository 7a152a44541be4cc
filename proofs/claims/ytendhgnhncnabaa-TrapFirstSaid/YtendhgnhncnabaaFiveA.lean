/- Chapter 5: plain words: a step, what it throws, what a list of steps comes to; and how steps lie in memory. -/
import Derived.Test.YtendhgnhncnabaaTrapDErr
namespace Go.Proofs.Ytendhgnhncnabaa.FiveA
open Go.RowKit TrapA TrapB Base

structure St where
  k : Int
  wh : Int
  c : Int
  at_ : Int
  many : Int

def St.cells (s : St) : List Value := [.int .i64 s.k, .int .i64 s.wh, .int .i64 s.c, .int .i64 s.at_, .int .i64 s.many]
def flat (l : List St) : List Value := l.flatMap St.cells

/-- what a step throws -/
def thrown (s : St) : Option (Int × Int) :=
  if s.k = 1 ∧ s.c ≠ 0 then some (s.wh, s.c) else if s.k = 2 then some (0, 1) else if s.k = 3 ∧ (s.at_ < 0 ∨ s.many ≤ s.at_) then some (0, 1) else none

/-- what a list of steps throws first, and how many are done ahead of it -/
def scan : List St → Option (Int × Int) × Nat
  | [] => (none, 0)
  | s :: r => match thrown s with
    | some f => (some f, 0)
    | none => ((scan r).1, (scan r).2 + 1)

theorem scan_le (l : List St) : (scan l).2 ≤ l.length := by
  induction l with
  | nil => simp [scan]
  | cons s r ih => unfold scan; split <;> simp; omega

theorem scan_none {l : List St} (h : (scan l).1 = none) : (scan l).2 = l.length ∧ ∀ s ∈ l, thrown s = none := by
  induction l with
  | nil => simp [scan]
  | cons s r ih =>
    unfold scan at h ⊢
    split at h
    · cases h
    · rename_i ht
      have := ih h
      refine ⟨by simp [this.1], ?_⟩
      intro x hx
      rcases List.mem_cons.1 hx with rfl | hx
      · exact ht
      · exact this.2 x hx

theorem scan_some {l : List St} {f : Int × Int} (h : (scan l).1 = some f) : ∃ s, l[(scan l).2]? = some s ∧ thrown s = some f ∧ ∀ i x, i < (scan l).2 → l[i]? = some x → thrown x = none := by
  induction l with
  | nil => simp [scan] at h
  | cons s r ih =>
    unfold scan at h ⊢
    split at h
    · rename_i g hg
      refine ⟨s, rfl, by rw [hg]; exact h, fun i x hi => absurd hi (by simp)⟩
    · rename_i ht
      obtain ⟨x, hx, hf, hall⟩ := ih h
      refine ⟨x, by simpa using hx, hf, ?_⟩
      intro i y hi hy
      cases i with
      | zero => simp at hy; rw [← hy]; exact ht
      | succ i => exact hall i y (by simpa using hi) (by simpa using hy)

theorem scan_stop {l : List St} {k : Nat} {s : St} {f : Int × Int} (hs : l[k]? = some s) (hf : thrown s = some f) (hb : ∀ i x, i < k → l[i]? = some x → thrown x = none) : scan l = (some f, k) := by
  induction l generalizing k with
  | nil => simp at hs
  | cons y r ih =>
    cases k with
    | zero =>
      simp at hs
      subst hs
      unfold scan
      rw [hf]
    | succ k =>
      have h0 := hb 0 y (by omega) (by simp)
      have := ih (k := k) (by simpa using hs) (fun i x hi hx => hb (i + 1) x (by omega) (by simpa using hx))
      unfold scan
      rw [h0, this]

theorem scan_done {l : List St} (hb : ∀ i x, i < l.length → l[i]? = some x → thrown x = none) : scan l = (none, l.length) := by
  induction l with
  | nil => rfl
  | cons y r ih =>
    have h0 := hb 0 y (by simp) (by simp)
    have := ih (fun i x hi hx => hb (i + 1) x (by simp; omega) (by simpa using hx))
    unfold scan
    rw [h0, this]
    simp

theorem flat_len (l : List St) : (flat l).length = l.length * 5 := by
  induction l with
  | nil => rfl
  | cons s r ih => simp [flat, St.cells] at ih ⊢; omega

theorem flat_snoc (l : List St) (s : St) : flat (l ++ [s]) = flat l ++ s.cells := by simp [flat]

theorem flat_at {l : List St} {i : Nat} {s : St} (h : l[i]? = some s) (j : Nat) (hj : j < 5) : (flat l)[i * 5 + j]? = s.cells[j]? := by
  induction l generalizing i with
  | nil => simp at h
  | cons x r ih =>
    cases i with
    | zero =>
      simp at h
      subst h
      simp only [flat, List.flatMap_cons]
      rw [List.getElem?_append_left (by simp [St.cells]; omega)]
      simp
    | succ i =>
      have h' : r[i]? = some s := by simpa using h
      have := ih h'
      simp only [flat, List.flatMap_cons] at this ⊢
      rw [List.getElem?_append_right (by simp [St.cells]; omega)]
      rw [← this]
      congr 1
      simp [St.cells]; omega

/-- a step with its number of elements cut, as the law cuts it -/
def trim (s : St) : St := if s.many < 0 ∨ 50 < s.many then { s with many := 3 } else s
def fewL (l : List St) : List St := (l.take 20).map trim
end Go.Proofs.Ytendhgnhncnabaa.FiveA
