/- Chapter 9, the plain law: the unlike ones of a list in order are what the reference builds. -/
import Derived.Test.YtaafclfhdkkleaaRankH
namespace Go.Proofs.Ytaafclfhdkkleaa.RankI
open SortA IntQ RankG RankH
set_option linter.unusedVariables false
set_option linter.unusedSimpArgs false

def Ris (l : List Pr) : Prop := l.Pairwise fun a b => a.1 < b.1
def Zs (l : List Pr) : Prop := ∀ x ∈ l, x.2 = 0
theorem Ris.srt {l : List Pr} (h : Ris l) : Srt l := h.imp fun h => Int.le_of_lt h
theorem has_nil (n : Int) : has [] n = false := rfl
theorem has_cons (x : Pr) (l : List Pr) (n : Int) : has (x :: l) n = (decide (x.1 = n) || has l n) := rfl
theorem has_append (a b : List Pr) (n : Int) : has (a ++ b) n = (has a n || has b n) := by unfold has; exact List.any_append
theorem has_mem {l : List Pr} {n : Int} : has l n = true ↔ ∃ x ∈ l, x.1 = n := by unfold has; simp
theorem has_not {l : List Pr} {n : Int} (h : ∀ x ∈ l, x.1 ≠ n) : has l n = false := by
  cases hb : has l n with
  | false => rfl
  | true => obtain ⟨x, hx, he⟩ := has_mem.1 hb; exact absurd he (h x hx)

theorem ris_ext : ∀ {a b : List Pr}, Ris a → Ris b → (∀ n, has a n = has b n) → Zs a → Zs b → a = b
  | [], [], _, _, _, _, _ => rfl
  | [], y :: b, _, _, h, _, _ => by have := h y.1; rw [has_nil, has_cons] at this; simp at this
  | x :: a, [], _, _, h, _, _ => by have := h x.1; rw [has_nil, has_cons] at this; simp at this
  | x :: a, y :: b, ha, hb, h, za, zb => by
    obtain ⟨a1, a2⟩ := List.pairwise_cons.1 ha
    obtain ⟨b1, b2⟩ := List.pairwise_cons.1 hb
    have e : x.1 = y.1 := by
      have h1 := h x.1
      have h2 := h y.1
      rw [has_cons, has_cons, decide_eq_true rfl, Bool.true_or] at h1
      rw [has_cons, has_cons, decide_eq_true (rfl : y.1 = y.1), Bool.true_or] at h2
      have h1 := h1.symm
      simp only [Bool.or_eq_true, decide_eq_true_eq] at h1 h2
      rcases h1 with h1 | h1
      · exact h1.symm
      rcases h2 with h2 | h2
      · exact h2
      obtain ⟨u, hu, eu⟩ := has_mem.1 h1
      obtain ⟨v, hv, ev⟩ := has_mem.1 h2
      have := b1 u hu
      have := a1 v hv
      omega
    have e2 : x.2 = y.2 := by rw [za x (by simp), zb y (by simp)]
    obtain rfl : x = y := Prod.ext e e2
    rw [ris_ext a2 b2 (fun n => ?_) (fun z hz => za z (by simp [hz])) (fun z hz => zb z (by simp [hz]))]
    by_cases hn : x.1 = n
    · rw [has_not (l := a) fun z hz he => by have := a1 z hz; omega, has_not (l := b) fun z hz he => by have := b1 z hz; omega]
    · have := h n
      rw [has_cons, has_cons, decide_eq_false hn, Bool.false_or, Bool.false_or] at this
      exact this

theorem foldl_uq : ∀ (l out : List Pr), Srt l → Ris out → (∀ x ∈ out, ∀ y ∈ l, x.1 ≤ y.1) → Ris (l.foldl ustep out) ∧ (∀ n, has (l.foldl ustep out) n = (has out n || has l n)) ∧ (Zs out → Zs l → Zs (l.foldl ustep out))
  | [], out, _, ho, _ => ⟨ho, fun n => by simp [has_nil], fun h _ => h⟩
  | v :: l, out, hl, ho, hle => by
    obtain ⟨l1, l2⟩ := List.pairwise_cons.1 hl
    rw [List.foldl_cons]
    have key : Ris (ustep out v) ∧ (∀ n, has (ustep out v) n = (has out n || decide (v.1 = n))) ∧ (∀ x ∈ ustep out v, x ∈ out ∨ x = v) := by
      unfold ustep
      cases hg : out.getLast? with
      | none =>
        have : out = [] := List.getLast?_eq_none_iff.1 hg
        subst this
        exact ⟨List.pairwise_singleton _ _, fun n => by simp [has_cons, has_nil], fun x hx => by simp at hx; exact Or.inr hx⟩
      | some z =>
        have hz : z ∈ out := List.mem_of_getLast? hg
        have hzv := hle z hz v (by simp)
        dsimp only
        split
        · rename_i hlt
          refine ⟨?_, fun n => by rw [has_append, has_cons, has_nil, Bool.or_false], fun x hx => by simpa using hx⟩
          refine List.pairwise_append.2 ⟨ho, List.pairwise_singleton _ _, fun x hx y hy => ?_⟩
          obtain rfl : y = v := by simpa using hy
          have hxz : x.1 ≤ z.1 := by
            obtain ⟨pre, rfl⟩ := List.getLast?_eq_some_iff.1 hg
            rcases List.mem_append.1 hx with h | h
            · exact Int.le_of_lt ((List.pairwise_append.1 ho).2.2 x h z (by simp))
            · obtain rfl : x = z := by simpa using h
              exact Int.le_refl _
          omega
        · refine ⟨ho, fun n => ?_, fun x hx => Or.inl hx⟩
          by_cases hn : v.1 = n
          · rw [has_mem.2 ⟨z, hz, by omega⟩, Bool.true_or]
          · rw [decide_eq_false hn, Bool.or_false]
    obtain ⟨k1, k2, k3⟩ := key
    obtain ⟨i1, i2, i3⟩ := foldl_uq l (ustep out v) l2 k1 (fun x hx y hy => by
      rcases k3 x hx with h | rfl
      · exact hle x h y (by simp [hy])
      · exact l1 y hy)
    refine ⟨i1, fun n => by rw [i2, k2, has_cons, Bool.or_assoc], fun zo zl => i3 (fun x hx => ?_) fun x hx => zl x (by simp [hx])⟩
    rcases k3 x hx with h | rfl
    · exact zo x h
    · exact zl _ (by simp)

theorem uq_ris {l : List Pr} (h : Srt l) : Ris (uq l) := (foldl_uq l [] h List.Pairwise.nil (fun _ h => by simp at h)).1
theorem uq_has {l : List Pr} (h : Srt l) (n : Int) : has (uq l) n = has l n := by
  have := (foldl_uq l [] h List.Pairwise.nil (fun _ h => by simp at h)).2.1 n
  rwa [has_nil, Bool.false_or] at this
theorem uq_zs {l : List Pr} (h : Srt l) (hz : Zs l) : Zs (uq l) := (foldl_uq l [] h List.Pairwise.nil (fun _ h => by simp at h)).2.2 (fun _ h => by simp at h) hz

/-- one step of the reference -/
def rstep (s : List Pr) (x : Pr) : List Pr := if has s x.1 then s else s.take (below s x.1) ++ [x] ++ s.drop (below s x.1)
def refOf (l : List Pr) : List Pr := l.foldl rstep []
theorem refOf_step {l : List Pr} {k : Nat} {v : Pr} (h : l[k]? = some v) : refOf (l.take (k + 1)) = rstep (refOf (l.take k)) v := by
  obtain ⟨hk, rfl⟩ := List.getElem?_eq_some_iff.1 h
  unfold refOf
  rw [List.take_succ_eq_append_getElem hk, List.foldl_append]
  rfl
theorem rstep_len (s : List Pr) (x : Pr) : (rstep s x).length ≤ s.length + 1 := by
  unfold rstep
  split
  · omega
  · simp
    have := below_le s x.1
    omega
theorem refOf_len (l : List Pr) : ∀ k, k ≤ l.length → (refOf (l.take k)).length ≤ k := by
  intro k
  induction k with
  | zero => intro _; simp [refOf]
  | succ k ih =>
    intro hk
    have h : l[k]? = some (l[k]'(by omega)) := List.getElem?_eq_getElem _
    rw [refOf_step h]
    have := rstep_len (refOf (l.take k)) (l[k]'(by omega))
    have := ih (by omega)
    omega
theorem rstep_all (s : List Pr) (x : Pr) (hs : Ris s) : Ris (rstep s x) ∧ (∀ n, has (rstep s x) n = (has s n || decide (x.1 = n))) ∧ (∀ y ∈ rstep s x, y ∈ s ∨ y = x) := by
  unfold rstep
  split
  · rename_i h
    refine ⟨hs, fun n => ?_, fun y hy => Or.inl hy⟩
    by_cases hn : x.1 = n
    · subst hn; rw [h, Bool.true_or]
    · rw [decide_eq_false hn, Bool.or_false]
  · rename_i h
    obtain ⟨b1, b2⟩ := hs.srt.below x.1
    have e : s.take (below s x.1) ++ s.drop (below s x.1) = s := List.take_append_drop _ _
    have hs' := hs
    rw [← e] at hs'
    obtain ⟨p1, p2, p3⟩ := List.pairwise_append.1 hs'
    refine ⟨?_, fun n => ?_, fun y hy => ?_⟩
    · rw [List.append_assoc]
      refine List.pairwise_append.2 ⟨p1, List.pairwise_append.2 ⟨List.pairwise_singleton _ _, p2, fun a ha b hb => ?_⟩, fun a ha b hb => ?_⟩
      · obtain rfl : a = x := by simpa using ha
        have h1 := b2 b hb
        have h2 : b.1 ≠ a.1 := fun he => h (has_mem.2 ⟨b, List.mem_of_mem_drop hb, he⟩)
        omega
      · rcases List.mem_append.1 hb with hb | hb
        · obtain rfl : b = x := by simpa using hb
          exact b1 a ha
        · exact p3 a ha b hb
    · conv => rhs; rw [← e]
      rw [has_append, has_append, has_append, has_cons, has_nil, Bool.or_false, Bool.or_assoc, Bool.or_assoc, Bool.or_comm (decide _)]
    · rcases List.mem_append.1 hy with hy | hy
      · rcases List.mem_append.1 hy with hy | hy
        · exact Or.inl (List.mem_of_mem_take hy)
        · exact Or.inr (by simpa using hy)
      · exact Or.inl (List.mem_of_mem_drop hy)
theorem foldl_ref : ∀ (l out : List Pr), Ris out → Ris (l.foldl rstep out) ∧ (∀ n, has (l.foldl rstep out) n = (has out n || has l n)) ∧ (Zs out → Zs l → Zs (l.foldl rstep out))
  | [], out, ho => ⟨ho, fun n => by simp [has_nil], fun h _ => h⟩
  | v :: l, out, ho => by
    rw [List.foldl_cons]
    obtain ⟨k1, k2, k3⟩ := rstep_all out v ho
    obtain ⟨i1, i2, i3⟩ := foldl_ref l (rstep out v) k1
    refine ⟨i1, fun n => by rw [i2, k2, has_cons, Bool.or_assoc], fun zo zl => i3 (fun x hx => ?_) fun x hx => zl x (by simp [hx])⟩
    rcases k3 x hx with h | rfl
    · exact zo x h
    · exact zl _ (by simp)
theorem ref_ris (l : List Pr) : Ris (refOf l) := (foldl_ref l [] List.Pairwise.nil).1
theorem ref_has (l : List Pr) (n : Int) : has (refOf l) n = has l n := by
  have := (foldl_ref l [] List.Pairwise.nil).2.1 n
  rwa [has_nil, Bool.false_or] at this
theorem ref_zs {l : List Pr} (hz : Zs l) : Zs (refOf l) := (foldl_ref l [] List.Pairwise.nil).2.2 (fun _ h => by simp at h) hz

theorem has_at (l : List Pr) (n : Int) : has l n = decide (at_ n l ≠ []) := by
  rw [Bool.eq_iff_iff, has_mem, decide_eq_true_iff]
  unfold at_
  rw [Ne, List.filter_eq_nil_iff]
  simp
theorem isort_has (l : List Pr) (n : Int) : has (isort l) n = has l n := by rw [has_at, has_at, (isort_stab l).2 n]
theorem isort_zs {l : List Pr} (hz : Zs l) : Zs (isort l) := fun x hx => by
  have h : x ∈ at_ x.1 (isort l) := List.mem_filter.2 ⟨hx, by simp⟩
  rw [(isort_stab l).2] at h
  exact hz x (List.mem_filter.1 h).1
theorem mrg_has {a b : List Pr} (ha : Srt a) (n : Int) : has (mrg a b) n = (has a n || has b n) := by
  rw [has_at, mrg_at a b ha, ← at_append, ← has_at, has_append]
theorem mrg_zs {a b : List Pr} (ha : Zs a) (hb : Zs b) : Zs (mrg a b) := fun x hx => by
  rcases mrg_mem a b x hx with h | h
  · exact ha x h
  · exact hb x h

/-- numbers, each once, rising -/
theorem of_ref {l : List Pr} (hz : Zs l) : uq (isort l) = refOf l :=
  ris_ext (uq_ris (isort_srt l)) (ref_ris l) (fun n => by rw [uq_has (isort_srt l), isort_has, ref_has]) (uq_zs (isort_srt l) (isort_zs hz)) (ref_zs hz)
theorem with_ref {l m : List Pr} (hl : Zs l) (hm : Zs m) : uq (mrg (refOf l) (refOf m)) = refOf (l ++ m) := by
  have h1 : Srt (mrg (refOf l) (refOf m)) := mrg_srt _ _ (ref_ris l).srt (ref_ris m).srt
  refine ris_ext (uq_ris h1) (ref_ris _) (fun n => ?_) (uq_zs h1 (mrg_zs (ref_zs hl) (ref_zs hm))) (ref_zs fun x hx => ?_)
  · rw [uq_has h1, mrg_has (ref_ris l).srt, ref_has, ref_has, ref_has, has_append]
  · rcases List.mem_append.1 hx with h | h
    · exact hl x h
    · exact hm x h
end Go.Proofs.Ytaafclfhdkkleaa.RankI
