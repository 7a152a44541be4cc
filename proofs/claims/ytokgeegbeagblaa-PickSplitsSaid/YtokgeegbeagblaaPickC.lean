/- Chapter 8: what stands in the middle, plainly; the walks of nth (of few elements), pick, Nth, Median, Steps. -/
import Derived.Test.YtokgeegbeagblaaPickB
namespace Go.Proofs.Ytokgeegbeagblaa.PickC
open Go.RowKit Base SortA SortB SortC SortD SortE SortG SortI SortK SortL PickA PickB
set_option linter.unusedVariables false
set_option linter.unusedSimpArgs false

theorem at_cut (n m : Int) (l : List Pr) : at_ m (lo n l) ++ at_ m (mi n l) ++ at_ m (hi n l) = at_ m l := by
  unfold at_ lo mi hi
  rw [List.filter_filter, List.filter_filter, List.filter_filter]
  rcases (by omega : m < n ∨ m = n ∨ n < m) with h | h | h
  · rw [List.filter_eq_nil_iff.2 (fun x _ => by simp; omega : ∀ x ∈ l, ¬ (decide (x.1 = m) && decide (x.1 = n)) = true), List.filter_eq_nil_iff.2 (fun x _ => by simp; omega : ∀ x ∈ l, ¬ (decide (x.1 = m) && decide (n < x.1)) = true), List.append_nil, List.append_nil]
    refine List.filter_congr fun x _ => ?_
    by_cases hx : x.1 = m
    · simp [hx, h]
    · simp [hx]
  · subst h
    rw [List.filter_eq_nil_iff.2 (fun x _ => by simp; omega : ∀ x ∈ l, ¬ (decide (x.1 = m) && decide (x.1 < m)) = true), List.filter_eq_nil_iff.2 (fun x _ => by simp; omega : ∀ x ∈ l, ¬ (decide (x.1 = m) && decide (m < x.1)) = true), List.append_nil, List.nil_append]
    exact List.filter_congr fun x _ => by simp
  · rw [List.filter_eq_nil_iff.2 (fun x _ => by simp; omega : ∀ x ∈ l, ¬ (decide (x.1 = m) && decide (x.1 = n)) = true), List.filter_eq_nil_iff.2 (fun x _ => by simp; omega : ∀ x ∈ l, ¬ (decide (x.1 = m) && decide (x.1 < n)) = true), List.append_nil, List.nil_append]
    refine List.filter_congr fun x _ => ?_
    by_cases hx : x.1 = m
    · simp [hx, h]
    · simp [hx]

/-- a list in order is its three parts in order -/
theorem sort_cut (n : Int) (l : List Pr) : isort l = isort (lo n l) ++ mi n l ++ isort (hi n l) := by
  have e1 := isort_stab (lo n l)
  have e3 := isort_stab (hi n l)
  have m1 : ∀ x ∈ isort (lo n l), x.1 < n := fun x hx => by
    have h : x ∈ at_ x.1 (isort (lo n l)) := List.mem_filter.2 ⟨hx, by simp⟩
    rw [e1.2] at h
    have h := (List.mem_filter.1 h).1
    simpa using (List.mem_filter.1 h).2
  have m3 : ∀ x ∈ isort (hi n l), n < x.1 := fun x hx => by
    have h : x ∈ at_ x.1 (isort (hi n l)) := List.mem_filter.2 ⟨hx, by simp⟩
    rw [e3.2] at h
    have h := (List.mem_filter.1 h).1
    simpa using (List.mem_filter.1 h).2
  have m2 : ∀ x ∈ mi n l, x.1 = n := fun x hx => by simpa using (List.mem_filter.1 hx).2
  refine (isort_stab l).unique ⟨?_, fun m => ?_⟩
  · refine List.pairwise_append.2 ⟨List.pairwise_append.2 ⟨e1.1, ?_, fun a ha b hb => ?_⟩, e3.1, fun a ha b hb => ?_⟩
    · exact List.pairwise_iff_getElem.2 fun i j hi hj _ => by rw [m2 _ (List.getElem_mem hi), m2 _ (List.getElem_mem hj)]; exact Int.le_refl _
    · have := m1 a ha; have := m2 b hb; omega
    · have h3 := m3 b hb
      rcases List.mem_append.1 ha with ha | ha
      · have := m1 a ha; omega
      · have := m2 a ha; omega
  · rw [at_append, at_append, e1.2, e3.2, at_cut]
theorem cut_at {n : Int} {l : List Pr} {k : Nat} {x : Pr} (h : (isort l)[k]? = some x) (hx : x.1 = n) : (lo n l).length ≤ k ∧ (mi n l)[k - (lo n l).length]? = some x := by
  have e1 := isort_stab (lo n l)
  have e3 := isort_stab (hi n l)
  rw [sort_cut n l] at h
  rcases Nat.lt_or_ge k (lo n l).length with hk | hk
  · rw [List.append_assoc, List.getElem?_append_left (by rw [isort_len]; exact hk)] at h
    have hm := List.mem_of_getElem? h
    have h1 : x ∈ at_ x.1 (isort (lo n l)) := List.mem_filter.2 ⟨hm, by simp⟩
    rw [e1.2] at h1
    have h1 := (List.mem_filter.1 (List.mem_filter.1 h1).1).2
    simp at h1
    omega
  · rw [List.append_assoc, List.getElem?_append_right (by rw [isort_len]; exact hk), isort_len] at h
    rcases Nat.lt_or_ge (k - (lo n l).length) (mi n l).length with hj | hj
    · rw [List.getElem?_append_left hj] at h
      exact ⟨hk, h⟩
    · rw [List.getElem?_append_right hj] at h
      have hm := List.mem_of_getElem? h
      have h1 : x ∈ at_ x.1 (isort (hi n l)) := List.mem_filter.2 ⟨hm, by simp⟩
      rw [e3.2] at h1
      have h1 := (List.mem_filter.1 (List.mem_filter.1 h1).1).2
      simp at h1
      omega

set_option maxRecDepth 100000 in
theorem nth_small (l : List Pr) (k : Nat) (v : Value) (w : World) (hl : l.length ≤ 10) (hk : k < l.length) (hv : Sl w v l) :
    Calls Try.prog 26 #[v, .int .i64 k, lessV] w fun e w' => ∃ x, e = .returned (.agg #[.int .i64 x.1, .int .i64 x.2]) ∧ (isort l)[k]? = some x ∧ Fr Nil w w' := by
  have K := Lib.hid (sort_any l v _ (by omega) (Sl.alloc hv (.cells #[.int .i64 0, .int .i64 0] 28)))
  have HB := Lib.hid (Bk.new w 28 #[.int .i64 0, .int .i64 0])
  obtain ⟨A, c, rfl⟩ := Sl.shape hv
  obtain ⟨x, hx⟩ : ∃ x, (isort l)[k]? = some x := ⟨(isort l)[k]'(by rw [isort_len]; exact hk), List.getElem?_eq_getElem _⟩
  have hl' : (l.length : Int) ≤ 10 := by omega
  have hk' : (k : Int) < l.length := by omega
  have HX := Lib.hid hx
  have HL := Lib.hid (isort_len l)
  generalize isort l = s at *
  clear hv hx hl
  unfold lessV at *
  go_enter Try.func26, Try.ntmps26
  go_wp2_with fail
  refine wp_loop_rounds 1 ?_
  rw [rounds_succ]
  go_wp2_with fail
  refine K.out.mono ?_
  rintro e w1 ⟨u, rfl, hf1, hs1⟩
  have hb := HB.out.fr hf1 id
  obtain ⟨b0, b1, b2, b3⟩ := hb.c2
  rcases hs1 with ⟨rfl, h0⟩ | ⟨g, o, cap, rfl, hc, ha, hr⟩
  · have := HX.out; rw [h0] at this; simp at this
  obtain ⟨c0, c1⟩ := hr k x HX.out
  have hsl : (k : Int) < s.length := by have := HL.out; omega
  have hne : w.heap.size < w1.heap.size := hb.lt
  clear hr hc
  go_wp2_with fail
  have q0 := (hb.put 0 (.int .i64 x.1)).cell 0
  have q1 := ((hb.put 0 (.int .i64 x.1)).put 1 (.int .i64 x.2)).cell 1
  simp at q0 q1
  exact bodyPost_ret (v := .agg #[.int .i64 x.1, .int .i64 x.2]) (by simp [results, Try.results26, go_sem, q0, q1]) rfl ⟨x, rfl, HX.out, ((((Fr.refl Nil w).alloc _).trans hf1).setCell (fun h => absurd h (Nat.lt_irrefl _)) _).setCell (fun h => absurd h (Nat.lt_irrefl _)) _⟩

theorem wrap_small {j : Nat} (h : j ≤ 1000) : wrap64 (j : Int) = j := by unfold wrap64; omega
/-- what nth answers: an element alike to the one that stands there -/
def NthOk (l : List Pr) (k : Nat) (v : Value) : Prop := ∀ W, Sl W v l → Calls Try.prog 26 #[v, .int .i64 k, lessV] W fun e w' => ∃ x y : Pr, e = .returned (.agg #[.int .i64 x.1, .int .i64 x.2]) ∧ (isort l)[k]? = some y ∧ y.1 = x.1 ∧ Fr Nil W w'

theorem nth_ok (l : List Pr) (k : Nat) (v : Value) (hl : l.length ≤ 10) (hk : k < l.length) : NthOk l k v := fun W h => (nth_small l k v W hl hk h).mono fun e w' ⟨x, h1, h2, h3⟩ => ⟨x, x, h1, h2, rfl, h3⟩

set_option maxRecDepth 100000 in
theorem pick_of (l : List Pr) (k : Nat) (v : Value) (w : World) (hl : l.length ≤ 1000) (hk : k < l.length) (hv : Sl w v l) (hn : NthOk l k v) :
    Calls Try.prog 21 #[v, .int .i64 k, lessV] w fun e w' => ∃ x, e = .returned (.tuple #[.agg #[.int .i64 x.1, .int .i64 x.2], .bool true]) ∧ (isort l)[k]? = some x ∧ Fr Nil w w' := by
  have HS := Lib.hid hv
  have HB := Lib.hid (Bk.new w 28 #[.int .i64 0, .int .i64 0])
  have HN := Lib.hid hn
  unfold NthOk at HN
  have KP := Lib.hid (fun p W h => parts_any l p v W hl h)
  have HLEN := Lib.hid hl
  have HC := Lib.hid (fun x n (h : (isort l)[k]? = some x) (hx : x.1 = n) => cut_at h hx)
  obtain ⟨A, c, rfl⟩ := Sl.shape hv
  have hk' : (k : Int) < l.length := by omega
  have hk0 : (0 : Int) ≤ k := by omega
  generalize isort l = s at *
  clear hv hn hl
  unfold lessV at *
  go_enter Try.func21, Try.ntmps21
  go_wp2_with fail
  refine (HN.out _ (Sl.alloc HS.out _)).mono ?_
  rintro e w1 ⟨x, y, rfl, hy, hxy, hf1⟩
  obtain ⟨hlo, hmi⟩ := HC.out y x.1 hy hxy
  have hb := HB.out.fr hf1 id
  have F1 := Lib.hid (((Fr.refl Nil w).alloc _).trans hf1)
  have HB1 := Lib.hid hb
  obtain ⟨x0, x1, _, _⟩ := (Bk.new w1 28 #[.int .i64 x.1, .int .i64 x.2]).c2
  clear hf1 hb
  go_wp2_with fail
  refine (KP.out x _ (Sl.alloc (Sl.fr HS.out F1.out) _)).mono ?_
  rintro e w2 ⟨a, b, cc, rfl, hf2, h3⟩
  have F2 := Lib.hid ((F1.out.alloc (.cells #[.int .i64 x.1, .int .i64 x.2] 28)).trans hf2)
  have hb2 := (HB1.out.alloc (.cells #[.int .i64 x.1, .int .i64 x.2] 28)).fr hf2 id
  obtain ⟨b0, b1, b2, b3⟩ := hb2.c2
  obtain ⟨Aa, ca, rfl⟩ := Sl.shape h3.1.sl
  have hm := h3.2.1.sl
  rcases hm with ⟨rfl, h0⟩ | ⟨g, o, cap, rfl, hc, ha, hr⟩
  · rw [h0] at hmi; simp at hmi
  obtain ⟨c0, c1⟩ := hr _ y hmi
  have hjl := (List.getElem?_eq_some_iff.1 hmi).1
  have HY := Lib.hid hy
  obtain ⟨j, hj⟩ : ∃ j, k - (lo x.1 l).length = j := ⟨_, rfl⟩
  rw [hj] at hjl c0 c1
  have hje : (k : Int) - (lo x.1 l).length = j := by omega
  have hjl' : (j : Int) < (mi x.1 l).length := by omega
  have hw : wrap64 (j : Int) = j := by
    have h1 : (mi x.1 l).length ≤ l.length := List.length_filter_le _ _
    have h2 := HLEN.out
    exact wrap_small (by omega)
  have hj0 : (0 : Int) ≤ j := Int.natCast_nonneg j
  have HF := Lib.hid F2.out
  clear hr hc h3 hy hmi hf2 hj hjl hlo hxy
  go_wp2_with fail
  have q0 := (hb2.put 0 (.int .i64 y.1)).cell 0
  have q1 := ((hb2.put 0 (.int .i64 y.1)).put 1 (.int .i64 y.2)).cell 1
  simp at q0 q1
  exact bodyPost_ret (v := .tuple #[.agg #[.int .i64 y.1, .int .i64 y.2], .bool true]) (by simp [results, Try.results21, go_sem, q0, q1]) rfl ⟨y, rfl, HY.out, (HF.out.setCell (fun h => absurd h (Nat.lt_irrefl _)) _).setCell (fun h => absurd h (Nat.lt_irrefl _)) _⟩

set_option maxRecDepth 100000 in
theorem Nth_of (l : List Pr) (k : Nat) (v : Value) (w : World) (hl : l.length ≤ 1000) (hk : k < l.length) (hv : Sl w v l) (hn : NthOk l k v) :
    Calls Try.prog 8 #[v, .int .i64 k, lessV] w fun e w' => ∃ x, e = .returned (.tuple #[.agg #[.int .i64 x.1, .int .i64 x.2], .bool true]) ∧ (isort l)[k]? = some x ∧ Fr Nil w w' := by
  have K := Lib.hid (pick_of l k v _ hl hk (Sl.alloc hv (.cells #[.int .i64 0, .int .i64 0] 28)) hn)
  have HB := Lib.hid (Bk.new w 28 #[.int .i64 0, .int .i64 0])
  obtain ⟨A, c, rfl⟩ := Sl.shape hv
  generalize isort l = s at *
  clear hv hn hl
  unfold lessV at *
  go_enter Try.func8, Try.ntmps8
  go_wp2_with fail
  refine K.out.mono ?_
  rintro e w1 ⟨x, rfl, hx, hf1⟩
  have hb := HB.out.fr hf1 id
  obtain ⟨b0, b1, b2, b3⟩ := hb.c2
  go_wp2_with fail
  have q0 := (hb.put 0 (.int .i64 x.1)).cell 0
  have q1 := ((hb.put 0 (.int .i64 x.1)).put 1 (.int .i64 x.2)).cell 1
  simp at q0 q1
  exact bodyPost_ret (v := .tuple #[.agg #[.int .i64 x.1, .int .i64 x.2], .bool true]) (by simp [results, Try.results8, go_sem, q0, q1]) rfl ⟨x, rfl, hx, ((((Fr.refl Nil w).alloc _).trans hf1).setCell (fun h => absurd h (Nat.lt_irrefl _)) _).setCell (fun h => absurd h (Nat.lt_irrefl _)) _⟩

theorem steps_one (w : World) : Calls Try.prog 10 #[.int .i64 1] w fun e w' => e = .returned (.int .i64 250) ∧ Fr Nil w w' := by
  go_enter Try.func10, Try.ntmps10
  go_wp2
  go_ret
  exact ⟨rfl, by (repeat' (with_reducible first | refine Fr.setCell ?_ (fun hlt => absurd hlt (by dsimp only; omega)) _ | refine Fr.alloc ?_ _ | refine Fr.drewN ?_ _ | refine Fr.drew ?_ | exact Fr.refl _ _))⟩

set_option maxRecDepth 100000 in
set_option maxHeartbeats 4000000 in
theorem lives_any (w : World) : Calls Try.prog 12 #[] w fun e w' => e = .returned (.bool true) ∧ Fr Nil w w' := by
  have hi : isort [(5, 0), (1, 0), (4, 0)] = [(1, 0), (4, 0), (5, 0)] := by decide
  have hv : Sl (w.alloc (.cells #[.int .i64 5, .int .i64 0, .int .i64 1, .int .i64 0, .int .i64 4, .int .i64 0] 28)) (.slice (some ⟨w.heap.size, 0, none⟩) 3 3) [(5, 0), (1, 0), (4, 0)] := by
    have hB := Bk.new w 28 #[.int .i64 5, .int .i64 0, .int .i64 1, .int .i64 0, .int .i64 4, .int .i64 0]
    refine Or.inr ⟨w.heap.size, 0, 3, rfl, by simp, hB.lt, fun i p hp => ?_⟩
    have hi : i = 0 ∨ i = 1 ∨ i = 2 := by have := (List.getElem?_eq_some_iff.1 hp).1; simp at this; omega
    rcases hi with rfl | rfl | rfl
    · cases hp; exact ⟨hB.cell 0, hB.cell 1⟩
    · cases hp; exact ⟨hB.cell 2, hB.cell 3⟩
    · cases hp; exact ⟨hB.cell 4, hB.cell 5⟩
  have K := Lib.hid (Nth_of _ 1 _ _ (by simp) (by simp) hv (nth_ok _ 1 _ (by simp) (by simp)))
  have F0 := Lib.hid ((Fr.refl Nil w).alloc (.cells #[.int .i64 5, .int .i64 0, .int .i64 1, .int .i64 0, .int .i64 4, .int .i64 0] 28))
  have K2 := Lib.hid (fun W => steps_one W)
  rw [hi] at K
  clear hv hi
  unfold lessV at *
  go_enter Try.func12, Try.ntmps12
  go_wp2_with fail
  refine K.out.mono ?_
  rintro e w1 ⟨x, rfl, hx, hf1⟩
  simp at hx
  subst hx
  obtain ⟨x0, x1, _, _⟩ := (Bk.new w1 28 #[.int .i64 4, .int .i64 0]).c2
  go_wp2_with fail
  refine (K2.out _).mono ?_
  rintro e w2 ⟨rfl, hf2⟩
  go_wp2_with fail
  exact bodyPost_ret (v := .bool true) (by simp [results, Try.results12, go_sem]) rfl ⟨rfl, ((F0.out.trans hf1).alloc _).trans hf2⟩
end Go.Proofs.Ytokgeegbeagblaa.PickC
