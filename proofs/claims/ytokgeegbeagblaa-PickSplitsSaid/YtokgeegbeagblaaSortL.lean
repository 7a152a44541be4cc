/- Chapter 7: the walks of sort, Sort, Merge. -/
import Derived.Test.YtokgeegbeagblaaSortK
namespace Go.Proofs.Ytokgeegbeagblaa.SortL
open Go.RowKit Base SortA SortB SortC SortD SortE SortG SortI SortJ SortK Quiet
set_option linter.unusedVariables false
set_option linter.unusedSimpArgs false

theorem by_any (l : List Pr) (v : Value) (w : World) (hl : l.length ≤ 1000) (hv : Sl w v l) :
    Calls Try.prog 30 #[v, lessV] w fun e w' => ∃ u, e = .returned u ∧ Fr Nil w w' ∧ Sl w' u (isort l) := by
  rcases hv with ⟨rfl, rfl⟩ | ⟨g, o, cap, rfl, h⟩
  · exact (by_none w).mono fun e w' ⟨he, hf⟩ => ⟨_, he, hf, Or.inl ⟨rfl, rfl⟩⟩
  · exact by_some l g o cap w hl (Or.inr ⟨g, o, cap, rfl, h⟩)

set_option maxRecDepth 100000 in
set_option maxHeartbeats 4000000 in
theorem sort_n (n : Nat) : ∀ (l : List Pr) (v : Value) (w : World), l.length ≤ n → l.length ≤ 500 → Sl w v l →
    Calls Try.prog 28 #[v, lessV] w fun e w' => ∃ u, e = .returned u ∧ Fr Nil w w' ∧ Sl w' u (isort l) := by
  induction n using Nat.strongRecOn with
  | ind n ih =>
    intro l v w hn hl hv
    by_cases h8 : l.length ≤ 8
    · have K := Lib.hid (by_any l v w (by omega) hv)
      have h8' : (l.length : Int) ≤ 8 := by omega
      obtain ⟨A, c, rfl⟩ := Sl.shape hv
      clear hv ih hn hl h8
      unfold lessV at *
      go_enter Try.func28, Try.ntmps28
      go_wp2_with fail
      refine K.out.mono ?_
      rintro e w1 ⟨u, rfl, hf1, hs1⟩
      go_wp2_with fail
      go_ret
      exact ⟨u, rfl, hf1, hs1⟩
    · rcases hv with ⟨rfl, rfl⟩ | ⟨g, o, cap, rfl, hc, ha, hr⟩
      · simp at h8
      obtain ⟨m, hm⟩ : ∃ m, l.length / 2 = m := ⟨_, rfl⟩
      have hme : (l.length : Int) / 2 = m := by omega
      have hmt : (l.length : Int).tdiv 2 = m := by rw [Int.tdiv_eq_ediv_of_nonneg (by omega)]; exact hme
      have hml : m ≤ l.length := by omega
      have lt1 : (l.take m).length = m := by rw [List.length_take]; omega
      have lt2 : (l.drop m).length = l.length - m := by rw [List.length_drop]
      have KT := Lib.hid (head_sl m hc hml ha hr)
      have KD := Lib.hid (show Sl w (.slice (some ⟨g, o + m * 2, none⟩) (l.length - m) (cap - m)) (l.drop m) from Or.inr ⟨g, o + m * 2, cap - m, by rw [lt2], by omega, ha, hr.drop m⟩)
      have IT := Lib.hid (fun W y h => ih m (by omega) (l.take m) y W (by omega) (by omega) h)
      have ID := Lib.hid (fun W y h => ih (l.length - m) (by omega) (l.drop m) y W (by omega) (by omega) h)
      have IM := Lib.hid (fun W u1 u2 h1 h2 => merge_any (isort (l.take m)) (isort (l.drop m)) u1 u2 W (by rw [isort_len]; omega) (by rw [isort_len]; omega) h1 h2)
      have b1 : (m : Int) ≤ l.length := by omega
      have b2 : (m : Int) ≤ cap := by omega
      have b3 : (0 : Int) ≤ m := by omega
      have b4 : ¬ (l.length : Int) ≤ 8 := by omega
      have b5 : (l.length : Int) ≤ cap := by omega
      have hw : wrap64 (m : Int) = m := by unfold wrap64; omega
      have HM := Lib.hid hm
      clear ih hn hl h8 hr ha hc hm hml lt1 lt2
      unfold lessV at *
      go_enter Try.func28, Try.ntmps28
      go_wp2_with fail
      go_region_held3 (fun w' => w.heap.size ≤ w'.heap.size) (first | (exact Nat.le_refl _) | (go_keep; done) | (exact z))
        (first | (go_at_call 31; refine (IM.out _ _ _ (Sl.fr hs1 hf2) hs2).mono ?_; rintro e w3 ⟨v3, rfl, hf3, hs3, _⟩; have F3 : Fr Nil w w3 := Fr.trans F2 hf3; have z := F3.size) | (go_at_call 28; with_reducible refine (IT.out _ _ (Sl.fr KT.out (by (repeat' (with_reducible first | refine Fr.setCell ?_ (fun hlt => absurd hlt (by dsimp only; omega)) _ | refine Fr.alloc ?_ _ | refine Fr.drewN ?_ _ | refine Fr.drew ?_ | exact Fr.refl _ _))))).mono ?_; rintro e w1 ⟨v1, rfl, hf1, hs1⟩; have F1 : Fr Nil w w1 := Fr.trans (by (repeat' (with_reducible first | refine Fr.setCell ?_ (fun hlt => absurd hlt (by dsimp only; omega)) _ | refine Fr.alloc ?_ _ | refine Fr.drewN ?_ _ | refine Fr.drew ?_ | exact Fr.refl _ _))) hf1; have z := F1.size) | (go_at_call 28; with_reducible refine (ID.out _ _ (Sl.fr KD.out (by first | exact F1 | exact F1.drew))).mono ?_; rintro e w2 ⟨v2, rfl, hf2, hs2⟩; have F2 : Fr Nil w w2 := Fr.trans F1 hf2; have z := F2.size))
      all_goals go_wp2_with fail
      all_goals
        go_ret
        exact ⟨_, rfl, F3, by have h := hs3.sl; rw [mrg_isort, List.take_append_drop] at h; exact h⟩

theorem sort_any (l : List Pr) (v : Value) (w : World) (hl : l.length ≤ 500) (hv : Sl w v l) :
    Calls Try.prog 25 #[v, lessV] w fun e w' => ∃ u, e = .returned u ∧ Fr Nil w w' ∧ Sl w' u (isort l) := by
  have K := Lib.hid (sort_n l.length l v w (Nat.le_refl _) hl hv)
  obtain ⟨A, c, rfl⟩ := Sl.shape hv
  clear hv
  unfold lessV at *
  go_enter Try.func25, Try.ntmps25
  go_wp2_with fail
  refine K.out.mono ?_
  rintro e w1 ⟨u, rfl, hf1, hs1⟩
  go_wp2_with fail
  go_ret
  exact ⟨u, rfl, hf1, hs1⟩

end Go.Proofs.Ytokgeegbeagblaa.SortL
