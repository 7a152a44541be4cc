/- Chapter 29: the walk of Encode. -/
import Derived.Test.YteceghhjpejdnaaCodecA
namespace Go.Proofs.Yteceghhjpejdnaa.CodecB
open Go.RowKit Base Slices VintA VintB VintC VintD CodecA Quiet
set_option linter.unusedVariables false
set_option linter.unusedSimpArgs false

def qi (r : Rq) : List Int := [r.k, r.ck, r.p0, r.p1, r.p2, r.s0, r.s1, r.s2, r.qk, r.x1, r.x2, r.y1, r.y2, r.v1, r.v2, r.v3, r.x, r.h]
def num (r : Rq) (o : Nat) : Int := (qi r).getD o 0
def Long (r : Rq) : Prop := ∀ n ∈ qi r, -9223372036854775808 ≤ n ∧ n ≤ 9223372036854775807
def kb (r : Rq) : Int := if r.k = 2 then 16 + r.qk else r.ck
def body (r : Rq) (l : List Nat) : List Int := l.flatMap fun o => vint (fold (num r o))
def encB (r : Rq) : List Int := kb r :: body r (offs r)

theorem qi_cell (r : Rq) {o : Nat} (h : o < 18) : (qc r)[o]? = some (.int .i64 (num r o)) := by
  have h : o = 0 ∨ o = 1 ∨ o = 2 ∨ o = 3 ∨ o = 4 ∨ o = 5 ∨ o = 6 ∨ o = 7 ∨ o = 8 ∨ o = 9 ∨ o = 10 ∨ o = 11 ∨ o = 12 ∨ o = 13 ∨ o = 14 ∨ o = 15 ∨ o = 16 ∨ o = 17 := by omega
  rcases h with rfl | rfl | rfl | rfl | rfl | rfl | rfl | rfl | rfl | rfl | rfl | rfl | rfl | rfl | rfl | rfl | rfl | rfl <;> rfl
theorem num_long {r : Rq} (h : Long r) (o : Nat) : -9223372036854775808 ≤ num r o ∧ num r o ≤ 9223372036854775807 := by
  unfold num
  rw [List.getD_eq_getElem?_getD]
  cases he : (qi r)[o]? with
  | none => simp
  | some x => exact h x (List.mem_of_getElem? he)
theorem offs_lt (r : Rq) : ∀ o ∈ offs r, o < 18 := by
  intro o ho
  unfold offs at ho
  repeat' split at ho
  all_goals (simp at ho; omega)
theorem offs_len (r : Rq) : 1 ≤ (offs r).length ∧ (offs r).length ≤ 4 := by
  unfold offs
  repeat' split
  all_goals decide
theorem body_len {r : Rq} (h : Long r) (l : List Nat) : (body r l).length ≤ 10 * l.length := by
  induction l with
  | nil => simp [body]
  | cons o l ih =>
    have := vint_len10 (fold_lt (num_long h o).1 (num_long h o).2)
    unfold body at ih ⊢
    rw [List.flatMap_cons, List.length_append, List.length_cons]
    omega
theorem body_snoc (r : Rq) (l : List Nat) (o : Nat) : body r (l ++ [o]) = body r l ++ vint (fold (num r o)) := by simp [body]
theorem ptrs_at {g : Nat} {l : List Nat} {i o : Nat} (h : l[i]? = some o) : (ptrs g l)[i]? = some (.pointer (some ⟨g, o, none⟩)) := by
  simp [ptrs, h]

section
variable (w : World)
end
end Go.Proofs.Yteceghhjpejdnaa.CodecB
