/- Chapter 8, plain lists: the middle of middles, and how much it parts off. -/
import Derived.Test.YtokgeegbeagblaaGenG
namespace Go.Proofs.Ytokgeegbeagblaa.GenH
open SortA PickA PickC GenA GenD GenF GenG
set_option linter.unusedVariables false

theorem ins_perm (l : List Pr) (p : Pr) : (ins l p).Perm (p :: l) := by
  unfold ins
  have h := List.perm_middle (l₁ := l.take (upto l p.1)) (l₂ := l.drop (upto l p.1)) (a := p)
  rw [List.take_append_drop] at h
  exact h
theorem foldl_perm (l : List Pr) : ∀ s : List Pr, (l.foldl ins s).Perm (s ++ l) := by
  induction l with
  | nil => intro s; simp
  | cons a l ih =>
    intro s
    refine (ih (ins s a)).trans ?_
    refine ((ins_perm s a).append_right l).trans ?_
    exact (List.perm_middle (l₁ := s) (l₂ := l) (a := a)).symm
theorem isort_perm (l : List Pr) : (isort l).Perm l := by
  have := foldl_perm l []
  simpa [isort] using this

theorem srt_le {s : List Pr} (h : Srt s) {i j : Nat} {x y : Pr} (hx : s[i]? = some x) (hy : s[j]? = some y) (hij : i ≤ j) : x.1 ≤ y.1 := by
  obtain ⟨h1, rfl⟩ := List.getElem?_eq_some_iff.1 hx
  obtain ⟨h2, rfl⟩ := List.getElem?_eq_some_iff.1 hy
  rcases Nat.lt_or_eq_of_le hij with h' | rfl
  · exact List.pairwise_iff_getElem.1 h i j h1 h2 h'
  · exact Int.le_refl _
/-- how many are not ahead of the one at k, and how many not behind it -/
theorem ge_count {l : List Pr} {k : Nat} {y : Pr} (hy : (isort l)[k]? = some y) : l.length - k ≤ l.countP fun x => decide (y.1 ≤ x.1) := by
  rw [← (isort_perm l).countP_eq, ← isort_len l]
  have e : (isort l).countP (fun x => decide (y.1 ≤ x.1)) = ((isort l).take k).countP (fun x => decide (y.1 ≤ x.1)) + ((isort l).drop k).countP (fun x => decide (y.1 ≤ x.1)) := by
    rw [← List.countP_append, List.take_append_drop]
  have h2 : ((isort l).drop k).countP (fun x => decide (y.1 ≤ x.1)) = ((isort l).drop k).length := List.countP_eq_length.2 fun x hx => by
    obtain ⟨i, hi⟩ := List.mem_iff_getElem?.1 hx
    rw [List.getElem?_drop] at hi
    exact decide_eq_true (srt_le (isort_srt l) hy hi (by omega))
  rw [e, h2, List.length_drop]
  omega
theorem le_count {l : List Pr} {k : Nat} {y : Pr} (hy : (isort l)[k]? = some y) : k + 1 ≤ l.countP fun x => decide (x.1 ≤ y.1) := by
  rw [← (isort_perm l).countP_eq]
  have hk := (List.getElem?_eq_some_iff.1 hy).1
  have e : (isort l).countP (fun x => decide (x.1 ≤ y.1)) = ((isort l).take (k + 1)).countP (fun x => decide (x.1 ≤ y.1)) + ((isort l).drop (k + 1)).countP (fun x => decide (x.1 ≤ y.1)) := by
    rw [← List.countP_append, List.take_append_drop]
  have h2 : ((isort l).take (k + 1)).countP (fun x => decide (x.1 ≤ y.1)) = ((isort l).take (k + 1)).length := List.countP_eq_length.2 fun x hx => by
    obtain ⟨i, hi⟩ := List.mem_iff_getElem?.1 hx
    rw [List.getElem?_take] at hi
    split at hi
    · exact decide_eq_true (srt_le (isort_srt l) hi hy (by omega))
    · cases hi
  rw [e, h2, List.length_take]
  omega

/-- a list is its chunks -/
theorem chn_flat : ∀ (l : List Pr) (m : Nat), l.take (5 * m) = (List.range m).flatMap (chn l)
  | l, 0 => by simp
  | l, m + 1 => by
    rw [List.range_succ, List.flatMap_append, ← chn_flat l m]
    simp only [List.flatMap_cons, List.flatMap_nil, List.append_nil, chn]
    rw [show 5 * (m + 1) = 5 * m + 5 by omega, List.take_add]
theorem chn_all (l : List Pr) : l = (List.range (nch l.length)).flatMap (chn l) := by
  rw [← chn_flat, List.take_of_length_le (by unfold nch; omega)]
theorem count_chn (p : Pr → Bool) (l : List Pr) : l.countP p = ((List.range (nch l.length)).map fun j => (chn l j).countP p).sum := by
  conv => lhs; rw [chn_all l]
  rw [List.countP_flatMap]
  rfl
theorem mem_chn {l : List Pr} {j : Nat} {x : Pr} (h : x ∈ chn l j) : x ∈ l := List.mem_of_mem_drop (List.mem_of_mem_take h)
theorem md_mem {l : List Pr} {j : Nat} (h : j < nch l.length) : md l j ∈ l := mem_chn ((isort_perm _).mem_iff.1 (List.mem_of_getElem? (md_some h)))
theorem mids_len (l : List Pr) : (mids l).length = nch l.length := by simp [mids]
theorem mids_mem {l : List Pr} {x : Pr} (h : x ∈ mids l) : x ∈ l := by
  unfold mids at h
  obtain ⟨j, hj, rfl⟩ := List.mem_map.1 h
  exact md_mem (List.mem_range.1 hj)
theorem full {P : Nat → Bool} {f : Nat → Nat} : ∀ m : Nat, (∀ j, j < m → P j = true → 3 ≤ f j) → 3 * (List.range m).countP P ≤ ((List.range m).map f).sum
  | 0, _ => by simp
  | m + 1, h => by
    have ih := full m fun j hj => h j (by omega)
    rw [List.range_succ, List.countP_append, List.map_append, List.sum_append]
    simp only [List.countP_singleton, List.map_cons, List.map_nil, List.sum_cons, List.sum_nil]
    split
    · next hp => have := h m (by omega) hp; omega
    · omega
theorem weigh {P : Nat → Bool} {f : Nat → Nat} {m : Nat} (h1 : ∀ j, j < m → P j = true → 1 ≤ f j) (h3 : ∀ j, j + 1 < m → P j = true → 3 ≤ f j) : 3 * (List.range m).countP P ≤ ((List.range m).map f).sum + 2 := by
  cases m with
  | zero => simp
  | succ m =>
    have ih := full (P := P) (f := f) m fun j hj => h3 j (by omega)
    rw [List.range_succ, List.countP_append, List.map_append, List.sum_append]
    simp only [List.countP_singleton, List.map_cons, List.map_nil, List.sum_cons, List.sum_nil]
    split
    · next hp => have := h1 m (by omega) hp; omega
    · omega

/-- of n elements no more lie on either side of the middle of middles -/
def rs (n : Nat) : Nat := n + 2 - 3 * ((nch n + 1) / 2)
theorem chn_full {l : List Pr} {j : Nat} (h : j + 1 < nch l.length) : (chn l j).length = 5 := by rw [chn_len]; unfold nch at h; omega
theorem chn_ge {l : List Pr} {j : Nat} {n : Int} (hj : j < nch l.length) (hn : n ≤ (md l j).1) : (chn l j).length - (chn l j).length / 2 ≤ (chn l j).countP fun x => decide (n ≤ x.1) :=
  Nat.le_trans (ge_count (md_some hj)) (List.countP_mono_left fun x _ h => decide_eq_true (Int.le_trans hn (of_decide_eq_true h)))
theorem chn_le {l : List Pr} {j : Nat} {n : Int} (hj : j < nch l.length) (hn : (md l j).1 ≤ n) : (chn l j).length / 2 + 1 ≤ (chn l j).countP fun x => decide (x.1 ≤ n) :=
  Nat.le_trans (le_count (md_some hj)) (List.countP_mono_left fun x _ h => decide_eq_true (Int.le_trans (of_decide_eq_true h) hn))
theorem len_ge (n : Int) (l : List Pr) : (lo n l).length + l.countP (fun x => decide (n ≤ x.1)) = l.length := by
  unfold lo
  rw [← List.countP_eq_length_filter, List.length_eq_countP_add_countP (fun x : Pr => decide (x.1 < n)) (l := l)]
  congr 1
  exact List.countP_congr fun x _ => by simp
theorem len_le (n : Int) (l : List Pr) : (hi n l).length + l.countP (fun x => decide (x.1 ≤ n)) = l.length := by
  unfold hi
  rw [← List.countP_eq_length_filter, List.length_eq_countP_add_countP (fun x : Pr => decide (n < x.1)) (l := l)]
  congr 1
  exact List.countP_congr fun x _ => by simp
theorem lo_small {l : List Pr} {y : Pr} (hy : (isort (mids l))[nch l.length / 2]? = some y) : (lo y.1 l).length ≤ rs l.length := by
  have h1 := ge_count hy
  rw [mids_len] at h1
  have h2 : (mids l).countP (fun x => decide (y.1 ≤ x.1)) = (List.range (nch l.length)).countP (fun j => decide (y.1 ≤ (md l j).1)) := by
    unfold mids; rw [List.countP_map]; rfl
  have h3 := weigh (P := fun j => decide (y.1 ≤ (md l j).1)) (f := fun j => (chn l j).countP fun x => decide (y.1 ≤ x.1)) (m := nch l.length)
    (fun j hj hp => by have h := chn_ge hj (of_decide_eq_true hp); have := chn_pos hj; omega)
    (fun j hj hp => by have h := chn_ge (by omega : j < nch l.length) (of_decide_eq_true hp); rw [chn_full hj] at h; omega)
  rw [← count_chn] at h3
  have h4 := len_ge y.1 l
  rw [h2] at h1
  unfold rs
  omega
theorem hi_small {l : List Pr} {y : Pr} (hy : (isort (mids l))[nch l.length / 2]? = some y) : (hi y.1 l).length ≤ rs l.length := by
  have h1 := le_count hy
  have h2 : (mids l).countP (fun x => decide (x.1 ≤ y.1)) = (List.range (nch l.length)).countP (fun j => decide ((md l j).1 ≤ y.1)) := by
    unfold mids; rw [List.countP_map]; rfl
  have h3 := weigh (P := fun j => decide ((md l j).1 ≤ y.1)) (f := fun j => (chn l j).countP fun x => decide (x.1 ≤ y.1)) (m := nch l.length)
    (fun j hj hp => by have h := chn_le hj (of_decide_eq_true hp); omega)
    (fun j hj hp => by have h := chn_le (by omega : j < nch l.length) (of_decide_eq_true hp); rw [chn_full hj] at h; omega)
  rw [← count_chn] at h3
  have h4 := len_le y.1 l
  rw [h2] at h1
  unfold rs
  omega

theorem sc_ten {n : Nat} (h : n ≤ 10) : sc n ≤ 45 := by
  by_cases h8 : n ≤ 8
  · rw [sc_small h8]
    exact Nat.le_trans (tri_le h8) (by decide)
  · rw [sc_big h8 rfl, sc_small (by omega), sc_small (by omega)]
    have h1 := tri_le (show n / 2 ≤ 5 by omega)
    have h2 := tri_le (show n - n / 2 ≤ 5 by omega)
    have e5 : tri 5 = 10 := rfl
    omega
/-- how often nth compares at most -/
def nb (n : Nat) : Nat := if n ≤ 10 then 45 else 40 * n - 200
theorem nb_small {n : Nat} (h : n ≤ 10) : nb n = 45 := if_pos h
theorem nb_mono {a b : Nat} (h : a ≤ b) : nb a ≤ nb b := by unfold nb; split <;> split <;> omega
theorem rs_lt {n : Nat} (h : 10 < n) : rs n + 4 ≤ n := by unfold rs nch; omega
theorem nb_step {n a : Nat} (h : 10 < n) (ha : a ≤ rs n) : 10 * nch n + nb (nch n) + 2 * n + nb a ≤ nb n := by
  refine Nat.le_trans (Nat.add_le_add_left (nb_mono ha) _) ?_
  unfold nb rs nch
  split <;> split <;> split <;> omega

/-- the one at k of a list is that of its part -/
theorem at_lo {n : Int} {l : List Pr} {k : Nat} (h : k < (lo n l).length) : (isort l)[k]? = (isort (lo n l))[k]? := by
  rw [sort_cut n l, List.append_assoc, List.getElem?_append_left (by rw [isort_len]; exact h)]
theorem at_hi {n : Int} {l : List Pr} {k : Nat} (h : (lo n l).length + (mi n l).length ≤ k) : (isort l)[k]? = (isort (hi n l))[k - (lo n l).length - (mi n l).length]? := by
  rw [sort_cut n l, List.append_assoc, List.getElem?_append_right (by rw [isort_len]; omega), isort_len, List.getElem?_append_right (by omega)]
theorem at_mi {n : Int} {l : List Pr} {k : Nat} {y : Pr} (h1 : (lo n l).length ≤ k) (h2 : k < (lo n l).length + (mi n l).length) (hy : (isort l)[k]? = some y) : y.1 = n := by
  rw [sort_cut n l, List.append_assoc, List.getElem?_append_right (by rw [isort_len]; omega), isort_len, List.getElem?_append_left (by omega)] at hy
  have h := List.mem_of_getElem? hy
  have := (List.mem_filter.1 h).2
  simpa using this
theorem cut_lens (n : Int) (l : List Pr) : (lo n l).length + (mi n l).length + (hi n l).length = l.length := by
  have h := congrArg List.length (sort_cut n l)
  rw [isort_len, List.length_append, List.length_append, isort_len, isort_len] at h
  omega
end Go.Proofs.Ytokgeegbeagblaa.GenH
