/- Chapter 29: what bytes decode to; the walk of decoded. -/
import Derived.Test.YteceghhjpejdnaaCodecC
import Derived.Test.YteceghhjpejdnaaVintD
namespace Go.Proofs.Yteceghhjpejdnaa.CodecD
open Go.RowKit Base Big Slices VintA VintB VintC VintD CodecA TrapA TrapB CodecC Quiet
set_option linter.unusedVariables false
set_option linter.unusedSimpArgs false

open Classical in
/-- the number that bytes begin with -/
noncomputable def next (b : List Int) : Option Nat := if h : ∃ z, Begins b z then some h.choose else none
theorem next_some {b : List Int} {z : Nat} (h : Begins b z) : next b = some z := by
  have hx : ∃ z, Begins b z := ⟨z, h⟩
  unfold next
  rw [dif_pos hx, hx.choose_spec.unique h]
theorem next_none {b : List Int} (h : ∀ z, ¬ Begins b z) : next b = none := by
  unfold next
  rw [dif_neg fun ⟨z, hz⟩ => h z hz]
theorem next_of {b : List Int} {z : Nat} (h : next b = some z) : Begins b z := by
  unfold next at h
  split at h
  · rename_i hx
    cases h
    exact hx.choose_spec
  · cases h
theorem next_len {b : List Int} {z : Nat} (h : next b = some z) : (vint z).length ≤ b.length := by
  obtain ⟨_, r, e⟩ := next_of h
  rw [e, List.length_append]
  omega

/-- the rest of a request is read -/
noncomputable def rd (r : Rq) : List Nat → List Int → Except (Int × Int) Rq
  | [], t => if t = [] then .ok r else .error (2, 8)
  | o :: os, t => match next t with
    | none => .error (1, 8)
    | some z => rd (setN r o (unfold_ z)) os (t.drop (vint z).length)
open Classical in
/-- what bytes decode to -/
noncomputable def dec : List Int → Except (Int × Int) Rq
  | [] => .error (0, 1)
  | c :: t => if GoodQ (kq c) then rd (kq c) (offs (kq c)) t else .error (0, 8)
def Ans (R : Except (Int × Int) Rq) (e : Ending) : Prop := match R with
  | .ok r => e = .returned (qv r)
  | .error (x, c) => e = .panicked [fault x c]
theorem rd_none {r : Rq} {o : Nat} {os : List Nat} {t : List Int} (h : next t = none) : rd r (o :: os) t = .error (1, 8) := by simp only [rd, h]
theorem rd_some {r : Rq} {o : Nat} {os : List Nat} {t : List Int} {z : Nat} (h : next t = some z) : rd r (o :: os) t = rd (setN r o (unfold_ z)) os (t.drop (vint z).length) := by simp only [rd, h]
theorem ptrs_at {g : Nat} {l : List Nat} {i o : Nat} (h : l[i]? = some o) : (ptrs g l)[i]? = some (.pointer (some ⟨g, o, none⟩)) := by
  simp [ptrs, h]
theorem offs_lt (r : Rq) : ∀ o ∈ offs r, o < 18 := by
  intro o ho
  unfold offs at ho
  repeat' split at ho
  all_goals (simp at ho; omega)
theorem offs_len (r : Rq) : 1 ≤ (offs r).length ∧ (offs r).length ≤ 4 := by
  unfold offs
  repeat' split
  all_goals decide
theorem cell_int (r : Rq) {o : Nat} (h : o < 18) : ∃ n, (qc r)[o]? = some (.int .i64 n) := by
  have h : o = 0 ∨ o = 1 ∨ o = 2 ∨ o = 3 ∨ o = 4 ∨ o = 5 ∨ o = 6 ∨ o = 7 ∨ o = 8 ∨ o = 9 ∨ o = 10 ∨ o = 11 ∨ o = 12 ∨ o = 13 ∨ o = 14 ∨ o = 15 ∨ o = 16 ∨ o = 17 := by omega
  rcases h with rfl | rfl | rfl | rfl | rfl | rfl | rfl | rfl | rfl | rfl | rfl | rfl | rfl | rfl | rfl | rfl | rfl | rfl <;> exact ⟨_, rfl⟩

section
variable (w : World)
end
end Go.Proofs.Yteceghhjpejdnaa.CodecD
