/- Chapter 7, plain lists of pairs: order by the first number, places, stable sorting, merging. -/
import Derived.Test.YtokgeegbeagblaaBase
namespace Go.Proofs.Ytokgeegbeagblaa.SortA

abbrev Pr := Int × Int
def Srt (l : List Pr) : Prop := l.Pairwise fun a b => a.1 ≤ b.1
def below (l : List Pr) (n : Int) : Nat := l.countP fun p => decide (p.1 < n)
def upto (l : List Pr) (n : Int) : Nat := l.countP fun p => decide (p.1 ≤ n)
def ins (l : List Pr) (p : Pr) : List Pr := l.take (upto l p.1) ++ p :: l.drop (upto l p.1)
def isort (l : List Pr) : List Pr := l.foldl ins []

theorem below_le (l : List Pr) (n : Int) : below l n ≤ l.length := List.countP_le_length
theorem upto_le (l : List Pr) (n : Int) : upto l n ≤ l.length := List.countP_le_length
theorem below_upto (l : List Pr) (n : Int) : below l n ≤ upto l n := List.countP_mono_left (by intro x _; simp; omega)

theorem count_split {q : Pr → Bool} {l : List Pr} (h : l.Pairwise fun a b => q b = true → q a = true) : (∀ x ∈ l.take (l.countP q), q x = true) ∧ ∀ x ∈ l.drop (l.countP q), q x = false := by
  induction l with
  | nil => simp
  | cons x r ih =>
    rw [List.pairwise_cons] at h
    by_cases hx : q x = true
    · rw [List.countP_cons_of_pos hx]
      have := ih h.2
      refine ⟨?_, by simpa using this.2⟩
      intro y hy
      rw [List.take_succ_cons] at hy
      rcases List.mem_cons.1 hy with rfl | hy
      · exact hx
      · exact this.1 y hy
    · have h0 : r.countP q = 0 := List.countP_eq_zero.2 fun y hy hq => hx (h.1 y hy hq)
      rw [List.countP_cons_of_neg hx, h0]
      refine ⟨by simp, ?_⟩
      intro y hy
      rcases List.mem_cons.1 (by simpa using hy) with rfl | hy
      · simpa using hx
      · have : ¬ q y = true := fun hq => hx (h.1 y hy hq)
        simpa using this

theorem count_of_split {q : Pr → Bool} {l : List Pr} {r : Nat} (hr : r ≤ l.length) (h1 : ∀ (i : Nat) x, i < r → l[i]? = some x → q x = true) (h2 : ∀ (i : Nat) x, r ≤ i → l[i]? = some x → q x = false) : l.countP q = r := by
  have e : l.countP q = (l.take r).countP q + (l.drop r).countP q := by rw [← List.countP_append, List.take_append_drop]
  have e1 : (l.take r).countP q = r := by
    have : (l.take r).countP q = (l.take r).length := List.countP_eq_length.2 fun x hx => by
      obtain ⟨i, hi⟩ := List.mem_iff_getElem?.1 hx
      rw [List.getElem?_take] at hi
      split at hi
      · exact h1 i x (by assumption) hi
      · cases hi
    rw [this, List.length_take]; omega
  have e2 : (l.drop r).countP q = 0 := List.countP_eq_zero.2 fun x hx => by
    obtain ⟨i, hi⟩ := List.mem_iff_getElem?.1 hx
    rw [List.getElem?_drop] at hi
    simpa using h2 (r + i) x (by omega) hi
  omega

theorem Srt.upto {l : List Pr} (h : Srt l) (n : Int) : (∀ x ∈ l.take (upto l n), x.1 ≤ n) ∧ ∀ x ∈ l.drop (SortA.upto l n), n < x.1 := by
  have := count_split (q := fun p => decide (p.1 ≤ n)) (l := l) (h.imp fun hab hb => by simp at hb ⊢; omega)
  exact ⟨fun x hx => by simpa using this.1 x hx, fun x hx => by simpa using this.2 x hx⟩

theorem Srt.below {l : List Pr} (h : Srt l) (n : Int) : (∀ x ∈ l.take (below l n), x.1 < n) ∧ ∀ x ∈ l.drop (SortA.below l n), n ≤ x.1 := by
  have := count_split (q := fun p => decide (p.1 < n)) (l := l) (h.imp fun hab hb => by simp at hb ⊢; omega)
  exact ⟨fun x hx => by simpa using this.1 x hx, fun x hx => by simpa using this.2 x hx⟩

/-- the elements of one number -/
def at_ (n : Int) (l : List Pr) : List Pr := l.filter fun p => decide (p.1 = n)
theorem at_append (n : Int) (a b : List Pr) : at_ n (a ++ b) = at_ n a ++ at_ n b := List.filter_append _ _
theorem at_none {n : Int} {l : List Pr} (h : ∀ x ∈ l, x.1 ≠ n) : at_ n l = [] := List.filter_eq_nil_iff.2 fun x hx => by simpa using h x hx
theorem at_cons (n : Int) (x : Pr) (l : List Pr) : at_ n (x :: l) = if x.1 = n then x :: at_ n l else at_ n l := by
  unfold at_; rw [List.filter_cons]; simp

/-- in order, alike ones as they stood -/
def Stab (l s : List Pr) : Prop := Srt s ∧ ∀ n, at_ n s = at_ n l

theorem same_of {s t : List Pr} (hs : Srt s) (ht : Srt t) (h : ∀ n, at_ n s = at_ n t) : s = t := by
  induction s generalizing t with
  | nil =>
    cases t with
    | nil => rfl
    | cons y t => have := h y.1; rw [at_cons, if_pos rfl] at this; cases this
  | cons x s ih =>
    cases t with
    | nil => have := h x.1; rw [at_cons, if_pos rfl] at this; cases this
    | cons y t =>
      have hs' := List.pairwise_cons.1 hs
      have ht' := List.pairwise_cons.1 ht
      have h1 : y.1 ≤ x.1 := by
        have hm : x ∈ at_ x.1 (y :: t) := by rw [← h x.1, at_cons, if_pos rfl]; exact List.mem_cons_self
        rcases List.mem_cons.1 (List.mem_filter.1 hm).1 with rfl | hm
        · exact Int.le_refl _
        · exact ht'.1 x hm
      have h2 : x.1 ≤ y.1 := by
        have hm : y ∈ at_ y.1 (x :: s) := by rw [h y.1, at_cons, if_pos rfl]; exact List.mem_cons_self
        rcases List.mem_cons.1 (List.mem_filter.1 hm).1 with rfl | hm
        · exact Int.le_refl _
        · exact hs'.1 y hm
      have e : x.1 = y.1 := by omega
      have h3 := h x.1
      rw [at_cons, if_pos rfl, at_cons, if_pos e.symm] at h3
      obtain ⟨rfl, h4⟩ := List.cons.inj h3
      congr 1
      refine ih hs'.2 ht'.2 fun n => ?_
      by_cases hn : x.1 = n
      · rw [← hn]; exact h4
      · have := h n
        rw [at_cons, if_neg hn, at_cons, if_neg hn] at this
        exact this

theorem Stab.unique {l s t : List Pr} (hs : Stab l s) (ht : Stab l t) : s = t := same_of hs.1 ht.1 fun n => (hs.2 n).trans (ht.2 n).symm

theorem take_mem {l : List Pr} {k : Nat} {x : Pr} (h : x ∈ l.take k) : x ∈ l := List.mem_of_mem_take h

theorem ins_srt {l : List Pr} (h : Srt l) (p : Pr) : Srt (ins l p) := by
  have hu := h.upto p.1
  have h' : Srt (l.take (upto l p.1) ++ l.drop (upto l p.1)) := by rw [List.take_append_drop]; exact h
  unfold ins
  have hp := List.pairwise_append.1 h'
  refine List.pairwise_append.2 ⟨hp.1, List.pairwise_cons.2 ⟨fun x hx => Int.le_of_lt (hu.2 x hx), hp.2.1⟩, fun a ha b hb => ?_⟩
  rcases List.mem_cons.1 hb with rfl | hb
  · exact hu.1 a ha
  · exact hp.2.2 a ha b hb

theorem ins_at {l : List Pr} (h : Srt l) (p : Pr) (n : Int) : at_ n (ins l p) = at_ n l ++ at_ n [p] := by
  have hu := h.upto p.1
  have e : at_ n l = at_ n (l.take (upto l p.1)) ++ at_ n (l.drop (upto l p.1)) := by rw [← at_append, List.take_append_drop]
  unfold ins
  rw [at_append, e, show p :: l.drop (upto l p.1) = [p] ++ l.drop (upto l p.1) from rfl, at_append]
  by_cases hn : p.1 = n
  · have : at_ n (l.drop (upto l p.1)) = [] := at_none fun x hx => by have := hu.2 x hx; omega
    rw [this]; simp
  · have : at_ n [p] = [] := at_none fun x hx => by simp at hx; rw [hx]; exact hn
    rw [this]; simp

theorem ins_len (l : List Pr) (p : Pr) : (ins l p).length = l.length + 1 := by
  have := upto_le l p.1
  simp [ins]; omega

theorem foldl_stab (l : List Pr) : ∀ (l0 s : List Pr), Stab l0 s → Stab (l0 ++ l) (l.foldl ins s) := by
  induction l with
  | nil => intro l0 s h; simpa using h
  | cons x r ih =>
    intro l0 s h
    have := ih (l0 ++ [x]) (ins s x) ⟨ins_srt h.1 x, fun n => by rw [ins_at h.1, at_append, h.2]⟩
    simpa using this

theorem isort_stab (l : List Pr) : Stab l (isort l) := by
  have := foldl_stab l [] [] ⟨List.Pairwise.nil, fun n => rfl⟩
  rw [List.nil_append] at this
  exact this

theorem isort_srt (l : List Pr) : Srt (isort l) := (isort_stab l).1

theorem foldl_len (l s : List Pr) : (l.foldl ins s).length = s.length + l.length := by
  induction l generalizing s with
  | nil => simp
  | cons x r ih => rw [List.foldl_cons, ih, ins_len]; simp; omega
theorem isort_len (l : List Pr) : (isort l).length = l.length := by unfold isort; rw [foldl_len]; simp

theorem isort_step {l : List Pr} {k : Nat} {x : Pr} (h : l[k]? = some x) : isort (l.take (k + 1)) = ins (isort (l.take k)) x := by
  obtain ⟨hk, rfl⟩ := List.getElem?_eq_some_iff.1 h
  unfold isort
  rw [List.take_succ_eq_append_getElem hk, List.foldl_append]
  rfl

def mrg : List Pr → List Pr → List Pr
  | [], b => b
  | x :: a, [] => x :: a
  | x :: a, y :: b => if y.1 < x.1 then y :: mrg (x :: a) b else x :: mrg a (y :: b)
termination_by a b => a.length + b.length

theorem mrg_nil (a : List Pr) : mrg a [] = a := by cases a <;> simp [mrg]

theorem mrg_mem (a b : List Pr) : ∀ x, x ∈ mrg a b → x ∈ a ∨ x ∈ b := by
  fun_induction mrg a b with
  | case1 b => intro x h; exact Or.inr h
  | case2 x a => intro z h; exact Or.inl h
  | case3 x a y b h ih =>
    intro z hz
    rcases List.mem_cons.1 hz with rfl | hz
    · exact Or.inr List.mem_cons_self
    · rcases ih z hz with h | h
      · exact Or.inl h
      · exact Or.inr (List.mem_cons_of_mem _ h)
  | case4 x a y b h ih =>
    intro z hz
    rcases List.mem_cons.1 hz with rfl | hz
    · exact Or.inl List.mem_cons_self
    · rcases ih z hz with h | h
      · exact Or.inl (List.mem_cons_of_mem _ h)
      · exact Or.inr h

theorem mrg_srt (a b : List Pr) (ha : Srt a) (hb : Srt b) : Srt (mrg a b) := by
  fun_induction mrg a b with
  | case1 b => exact hb
  | case2 x a => exact ha
  | case3 x a y b h ih =>
    have hb' := List.pairwise_cons.1 hb
    have ha' := List.pairwise_cons.1 ha
    refine List.pairwise_cons.2 ⟨fun z hz => ?_, ih ha hb'.2⟩
    rcases mrg_mem _ _ z hz with hz | hz
    · rcases List.mem_cons.1 hz with rfl | hz
      · omega
      · have := ha'.1 z hz; omega
    · exact hb'.1 z hz
  | case4 x a y b h ih =>
    have hb' := List.pairwise_cons.1 hb
    have ha' := List.pairwise_cons.1 ha
    refine List.pairwise_cons.2 ⟨fun z hz => ?_, ih ha'.2 hb⟩
    rcases mrg_mem _ _ z hz with hz | hz
    · exact ha'.1 z hz
    · rcases List.mem_cons.1 hz with rfl | hz
      · omega
      · have := hb'.1 z hz; omega

theorem mrg_at (a b : List Pr) (ha : Srt a) (n : Int) : at_ n (mrg a b) = at_ n a ++ at_ n b := by
  fun_induction mrg a b with
  | case1 b => rfl
  | case2 x a => rw [show at_ n [] = [] from rfl, List.append_nil]
  | case3 x a y b h ih =>
    have ha' := List.pairwise_cons.1 ha
    rw [at_cons, ih ha, at_cons n y b]
    by_cases hn : y.1 = n
    · have : at_ n (x :: a) = [] := at_none fun z hz => by
        rcases List.mem_cons.1 hz with rfl | hz
        · omega
        · have := ha'.1 z hz; omega
      simp [hn, this]
    · simp [hn]
  | case4 x a y b h ih =>
    rw [at_cons, ih (List.pairwise_cons.1 ha).2, at_cons n x a]
    split <;> simp

theorem mrg_stab {a b s t : List Pr} (hs : Stab a s) (ht : Stab b t) : Stab (a ++ b) (mrg s t) :=
  ⟨mrg_srt s t hs.1 ht.1, fun n => by rw [mrg_at s t hs.1, hs.2, ht.2, at_append]⟩

theorem mrg_isort (a b : List Pr) : mrg (isort a) (isort b) = isort (a ++ b) := (mrg_stab (isort_stab a) (isort_stab b)).unique (isort_stab _)

theorem mrg_len (a b : List Pr) : (mrg a b).length = a.length + b.length := by
  fun_induction mrg a b with
  | case1 b => simp
  | case2 x a => simp
  | case3 x a y b h ih => rw [List.length_cons, ih]; simp; omega
  | case4 x a y b h ih => rw [List.length_cons, ih]; simp; omega

/-- where an element that goes down stops, the list is what it is put into -/
theorem ins_of {pre : List Pr} {x : Pr} {k : Nat} (hs : Srt pre) (hk : k ≤ pre.length) (h1 : ∀ (i : Nat) y, k ≤ i → pre[i]? = some y → x.1 < y.1) (h2 : k = 0 ∨ ∃ y, pre[k - 1]? = some y ∧ y.1 ≤ x.1) : pre.take k ++ x :: pre.drop k = ins pre x := by
  have : upto pre x.1 = k := by
    refine count_of_split hk (fun i y hi hy => ?_) fun i y hi hy => by simpa using h1 i y hi hy
    rcases h2 with rfl | ⟨z, hz, hzx⟩
    · omega
    · have : y.1 ≤ z.1 := by
        rcases Nat.lt_or_ge i (k - 1) with h | h
        · obtain ⟨h3, e3⟩ := List.getElem?_eq_some_iff.1 hy
          obtain ⟨h4, e4⟩ := List.getElem?_eq_some_iff.1 hz
          have := List.pairwise_iff_getElem.1 hs i (k - 1) h3 h4 h
          rw [e3, e4] at this
          exact this
        · have : i = k - 1 := by omega
          rw [this, hz] at hy
          cases hy
          exact Int.le_refl _
      simp; omega
  unfold ins
  rw [this]

theorem place {q : Pr → Bool} {l : List Pr} (h : l.Pairwise fun a b => q b = true → q a = true) {k : Nat} {x : Pr} (hx : l[k]? = some x) : (q x = true ↔ k < l.countP q) := by
  have hs := count_split h
  constructor
  · intro hq
    rcases Nat.lt_or_ge k (l.countP q) with h1 | h1
    · exact h1
    · have : x ∈ l.drop (l.countP q) := List.mem_iff_getElem?.2 ⟨k - l.countP q, by rw [List.getElem?_drop, show l.countP q + (k - l.countP q) = k by omega]; exact hx⟩
      rw [hs.2 x this] at hq; cases hq
  · intro hk
    exact hs.1 x (List.mem_iff_getElem?.2 ⟨k, by rw [List.getElem?_take, if_pos hk]; exact hx⟩)
end Go.Proofs.Ytokgeegbeagblaa.SortA
