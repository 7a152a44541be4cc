/- Chapter 30: what a reader reads of bytes: the plain law. -/
import Derived.Test.YtfkjonpbopoiaaaReplyD
import Derived.Test.YtfkjonpbopoiaaaVintC
namespace Go.Proofs.Ytfkjonpbopoiaaa.ReplyH
open VintA VintC ReplyA ReplyD
set_option linter.unusedVariables false
set_option linter.unusedSimpArgs false

open Classical in
/-- the number that bytes begin with -/
noncomputable def next (b : List Int) : Option Nat := if h : ∃ z, Begins b z then some h.choose else none
theorem next_some {b : List Int} {z : Nat} (h : Begins b z) : next b = some z := by
  have hx : ∃ z, Begins b z := ⟨z, h⟩
  unfold next
  rw [dif_pos hx, hx.choose_spec.unique h]
theorem next_none {b : List Int} (h : ∀ z, ¬ Begins b z) : next b = none := by
  unfold next
  rw [dif_neg fun ⟨z, hz⟩ => h z hz]
theorem next_of {b : List Int} {z : Nat} (h : next b = some z) : Begins b z := by
  unfold next at h
  split at h
  · rename_i hx
    cases h
    exact hx.choose_spec
  · cases h
theorem next_len {b : List Int} {z : Nat} (h : next b = some z) : (vint z).length ≤ b.length := by
  obtain ⟨_, r, e⟩ := next_of h
  rw [e, List.length_append]
  omega
def clamp (n : Int) : Int := min (max n (-2147483647)) 2147483647
theorem clamp_le (n : Int) : -2147483647 ≤ clamp n ∧ clamp n ≤ 2147483647 := by unfold clamp; omega

/-- the ids that are read of bytes -/
noncomputable def ids (last : Int) (b : List Int) : Option (List Int) :=
  if hb : b = [] then some [] else
  match hn : next b with
  | none => none
  | some z => (ids (last + clamp (unfold_ z)) (b.drop (vint z).length)).map fun l => (last + clamp (unfold_ z)) :: l
termination_by b.length
decreasing_by
  have h1 := vint_len_pos z
  have h2 : 0 < b.length := List.length_pos_iff.2 hb
  rw [List.length_drop]
  omega
theorem ids_nil (last : Int) : ids last [] = some [] := by rw [ids]; simp
theorem ids_none {last : Int} {b : List Int} (hb : b ≠ []) (h : next b = none) : ids last b = none := by
  rw [ids, dif_neg hb]
  split
  · rfl
  · rename_i z hz; rw [h] at hz; cases hz
theorem ids_some {last : Int} {b : List Int} {z : Nat} (hb : b ≠ []) (h : next b = some z) : ids last b = (ids (last + clamp (unfold_ z)) (b.drop (vint z).length)).map fun l => (last + clamp (unfold_ z)) :: l := by
  rw [ids, dif_neg hb]
  split
  · rename_i hz; rw [h] at hz; cases hz
  · rename_i z' hz; rw [h] at hz; cases hz; rfl

/-- the reply that is read of bytes -/
noncomputable def parse : List Int → Option Rp
  | [] => none
  | [c] => some ⟨c, false, false, 0, []⟩
  | c :: t :: b => if t = 2 then (match next b with | none => none | some z => (ids 0 (b.drop (vint z).length)).map fun l => ⟨c, true, true, unfold_ z, l⟩)
      else if t = 1 then (match next b with | none => none | some z => some ⟨c, true, false, unfold_ z, []⟩) else some ⟨c, false, false, 0, []⟩

theorem ids_deltas : ∀ (l : List Int) (last : Int), Small last → (∀ x ∈ l, Small x ∧ 1 ≤ x) → ids last (deltas last l) = some l
  | [], last, _, _ => by rw [deltas]; exact ids_nil _
  | x :: l, last, h, hl => by
    have hx := hl x (by simp)
    have hz : fold (x - last) < 18446744073709551616 := fold_lt (by unfold Small at *; omega) (by unfold Small at *; omega)
    have hn : next (deltas last (x :: l)) = some (fold (x - last)) := next_some ⟨hz, deltas x l, rfl⟩
    have hne : deltas last (x :: l) ≠ [] := by
      rw [deltas]
      intro he
      exact vint_ne _ (List.append_eq_nil_iff.1 he).1
    have hc : last + clamp (unfold_ (fold (x - last))) = x := by
      rw [unfold_fold]
      unfold clamp
      unfold Small at *
      omega
    rw [ids_some hne hn, hc]
    have e : (deltas last (x :: l)).drop (vint (fold (x - last))).length = deltas x l := by rw [deltas, List.drop_left]
    rw [e, ids_deltas l x hx.1 (fun y hy => hl y (by simp [hy]))]
    rfl

/-- a good reply is read of its bytes -/
theorem parse_enc {r : Rp} (hg : GoodR r) : parse (encR r) = some r := by
  have hids : ∀ x ∈ r.ids, Small x ∧ 1 ≤ x := fun x hx => by
    have := hg.2.2.2.2.2.2.2.2.2.2 x hx
    unfold Odd at this
    unfold Small
    omega
  obtain ⟨c, a, l, n, L⟩ := r
  obtain ⟨h1, h2, h3, h4, h5, h6, h7, h8, h9, _⟩ := hg
  dsimp only at *
  have hz : fold n < 18446744073709551616 := fold_lt (by omega) (by omega)
  unfold encR mid
  dsimp only
  cases l with
  | true =>
    obtain rfl : a = true := h3 rfl
    have hn : next (vint (fold n) ++ deltas 0 L) = some (fold n) := next_some ⟨hz, _, rfl⟩
    simp only [if_true, List.cons_append, parse, hn, List.drop_left, ids_deltas L 0 (by unfold Small; omega) hids, Option.map_some, unfold_fold]
  | false =>
    obtain rfl : L = [] := h8 rfl
    cases a with
    | true =>
      have hn : next (vint (fold n) ++ []) = some (fold n) := next_some ⟨hz, _, rfl⟩
      simp [parse, deltas] at hn ⊢
      rw [hn]
      simp [unfold_fold]
    | false =>
      obtain rfl : n = 0 := h7 rfl
      simp [parse, deltas]

theorem ids_len : ∀ (k : Nat) (last : Int) (b l : List Int), b.length ≤ k → ids last b = some l → l.length ≤ b.length
  | k, last, b, l, hk, h => by
    by_cases hb : b = []
    · subst hb
      rw [ids_nil] at h
      cases h
      simp
    · cases hn : next b with
      | none => rw [ids_none hb hn] at h; cases h
      | some z =>
        rw [ids_some hb hn] at h
        have h1 := vint_len_pos z
        have h2 : 0 < b.length := List.length_pos_iff.2 hb
        cases hi : ids (last + clamp (unfold_ z)) (b.drop (vint z).length) with
        | none => rw [hi] at h; cases h
        | some m =>
          rw [hi] at h
          simp at h
          subst h
          have h3 : (b.drop (vint z).length).length < b.length := by rw [List.length_drop]; omega
          cases k with
          | zero => omega
          | succ k =>
            have := ids_len k _ _ m (by omega) hi
            rw [List.length_cons]
            omega
theorem parse_len {b : List Int} {r : Rp} (h : parse b = some r) : r.ids.length ≤ b.length := by
  match b, h with
  | [c], h => cases h; simp
  | c :: t :: b, h =>
    simp only [parse] at h
    split at h
    · split at h
      · cases h
      · rename_i z hz
        cases hi : ids 0 (b.drop (vint z).length) with
        | none => rw [hi] at h; cases h
        | some m =>
          rw [hi] at h
          simp at h
          subst h
          have := ids_len _ _ _ m (Nat.le_refl _) hi
          rw [List.length_drop] at this
          simp
          omega
    · split at h
      · split at h
        · cases h
        · cases h; simp
      · cases h; simp
end Go.Proofs.Ytfkjonpbopoiaaa.ReplyH
