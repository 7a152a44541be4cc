/- Chapter 7: the walks of few, Below, UpTo. -/
import Derived.Test.YthkklhephacpeaaSortB
namespace Go.Proofs.Ythkklhephacpeaa.SortC
open Go.RowKit Base SortA SortB
set_option linter.unusedVariables false
set_option linter.unusedSimpArgs false

theorem few_none (w : World) : Calls Try.prog 7 #[.slice none 0 0] w fun e w' => ∃ u, e = .returned u ∧ Fr Nil w w' ∧ w'.ownsRow w.heap.size 24 2 u 0 [] ∧ u ≠ .slice none 0 0 := by
  obtain ⟨i0, hi, hz0, hz1, hz2⟩ := info_parts Try.info_pair
  go_enter Try.func7, Try.ntmps7
  go_wp2_with (at_builtin; refine wpList_append_own_none rfl (.tmp 8) (.tmp 9) 22 rfl w.heap.size 24 i0 2 Try.underlying22 hi _ 0 [] rfl (World.ownsRow_made _ _ _ (Nat.le_refl _) (Nat.zero_le _) rfl) rfl ?_)
  go_ret
  exact ⟨_, rfl, (Fr.refl _ _).alloc _, World.ownsRow_made _ _ _ (Nat.le_refl _) (Nat.zero_le _) rfl, by simp⟩

theorem few_any (l : List Pr) (v : Value) (w : World) (hl : l.length ≤ maxLen) (hv : Come w v l) :
    Calls Try.prog 7 #[v] w fun e w' => ∃ u, e = .returned u ∧ Fr Nil w w' ∧ w'.ownsRow w.heap.size 24 2 u (l.take 60).length (flat (l.take 60)) ∧ u ≠ .slice none 0 0 := by
  rcases hv with ⟨rfl, rfl⟩ | ⟨a, cap, rfl, hc, hr⟩
  · exact few_none w
  · exact few_some l a cap w hl hc hr

theorem Sl.come {w : World} {v : Value} {l : List Pr} (h : Sl w v l) : Come w v l := by
  rcases h with h | ⟨g, o, cap, rfl, hc, ha, hr⟩
  · exact Or.inl h
  · exact Or.inr ⟨_, cap, rfl, hc, hr.flat⟩

/-- few, of a list that is short -/
theorem few_sl (l : List Pr) (v : Value) (w : World) (hl : l.length ≤ 60) (hv : Sl w v l) :
    Calls Try.prog 7 #[v] w fun e w' => ∃ u, e = .returned u ∧ Fr Nil w w' ∧ Sl w' u l := by
  have h := few_any l v w (by unfold maxLen; omega) (Sl.come hv)
  rw [List.take_of_length_le hl] at h
  exact h.mono fun e w' ⟨u, he, hf, ho, _⟩ => ⟨u, he, hf, Sl.of_own ho rfl⟩

theorem below_step {l : List Pr} {j : Nat} {p : Pr} (h : l[j]? = some p) (n : Int) : below (l.take (j + 1)) n = below (l.take j) n + if p.1 < n then 1 else 0 := by
  obtain ⟨hk, rfl⟩ := List.getElem?_eq_some_iff.1 h
  unfold below
  rw [List.take_succ_eq_append_getElem hk, List.countP_append]
  simp [List.countP_cons]

theorem below_any (l : List Pr) (n : Int) (v : Value) (w : World) (hl : l.length ≤ 1000000) (hv : Sl w v l) :
    Calls Try.prog 8 #[v, .int .i64 n] w fun e w' => e = .returned (.int .i64 (below l n)) ∧ Fr Nil w w' := by
  rcases hv with ⟨rfl, rfl⟩ | ⟨g, o, cap, rfl, hc, ha, hr⟩
  · go_enter Try.func8, Try.ntmps8
    go_wp2_with fail
    refine wp_loop_rounds 1 ?_
    rw [rounds_succ]
    go_wp2
    go_ret
    exact ⟨rfl, by (repeat' (with_reducible first | refine Fr.setCell ?_ (fun hlt => absurd hlt (by dsimp only; omega)) _ | refine Fr.alloc ?_ _ | refine Fr.drewN ?_ _ | refine Fr.drew ?_ | exact Fr.refl _ _))⟩
  · go_enter Try.func8, Try.ntmps8
    go_wp2_with fail
    go_loop [5, 6] (fun k i => ∃ j : Nat, j ≤ l.length ∧ i = .int .i64 j ∧ k = .int .i64 (below (l.take j) n)) (fun _ i => l.length - (intOf i).toNat)
    case atStart => exact ⟨0, by omega, rfl, rfl⟩
    case round =>
      obtain ⟨j, hj, rfl, rfl⟩ := hrel
      have hle : below (l.take j) n ≤ j := Nat.le_trans (below_le _ _) (by rw [List.length_take]; omega)
      by_cases hlt : j < l.length
      · obtain ⟨p, hp⟩ : ∃ p, l[j]? = some p := ⟨l[j], List.getElem?_eq_getElem hlt⟩
        obtain ⟨c0, c1⟩ := hr j p hp
        have hs := below_step hp n
        by_cases hq : p.1 < n
        · rw [if_pos hq] at hs
          have HS := Lib.hid hs
          clear hs
          generalize below (l.take j) n = c at *
          go_wp2
          go_round
          case rel => exact ⟨j + 1, by omega, by go_num, by rw [HS.out]; go_num⟩
          case measure => simp [intOf]; omega
        · rw [if_neg hq] at hs
          have HS := Lib.hid hs
          clear hs
          generalize below (l.take j) n = c at *
          go_wp2
          go_round
          case rel => exact ⟨j + 1, by omega, by go_num, by rw [HS.out]; go_num⟩
          case measure => simp [intOf]; omega
      · obtain rfl : j = l.length := by omega
        go_wp2
        go_ret
        exact ⟨rfl, by (repeat' (with_reducible first | refine Fr.setCell ?_ (fun hlt => absurd hlt (by dsimp only; omega)) _ | refine Fr.alloc ?_ _ | refine Fr.drewN ?_ _ | refine Fr.drew ?_ | exact Fr.refl _ _))⟩

theorem upto_step {l : List Pr} {j : Nat} {p : Pr} (h : l[j]? = some p) (n : Int) : upto (l.take (j + 1)) n = upto (l.take j) n + if p.1 ≤ n then 1 else 0 := by
  obtain ⟨hk, rfl⟩ := List.getElem?_eq_some_iff.1 h
  unfold upto
  rw [List.take_succ_eq_append_getElem hk, List.countP_append]
  simp [List.countP_cons]

theorem upto_any (l : List Pr) (n : Int) (v : Value) (w : World) (hl : l.length ≤ 1000000) (hv : Sl w v l) :
    Calls Try.prog 9 #[v, .int .i64 n] w fun e w' => e = .returned (.int .i64 (upto l n)) ∧ Fr Nil w w' := by
  rcases hv with ⟨rfl, rfl⟩ | ⟨g, o, cap, rfl, hc, ha, hr⟩
  · go_enter Try.func9, Try.ntmps9
    go_wp2_with fail
    refine wp_loop_rounds 1 ?_
    rw [rounds_succ]
    go_wp2
    go_ret
    exact ⟨rfl, by (repeat' (with_reducible first | refine Fr.setCell ?_ (fun hlt => absurd hlt (by dsimp only; omega)) _ | refine Fr.alloc ?_ _ | refine Fr.drewN ?_ _ | refine Fr.drew ?_ | exact Fr.refl _ _))⟩
  · go_enter Try.func9, Try.ntmps9
    go_wp2_with fail
    go_loop [5, 6] (fun k i => ∃ j : Nat, j ≤ l.length ∧ i = .int .i64 j ∧ k = .int .i64 (upto (l.take j) n)) (fun _ i => l.length - (intOf i).toNat)
    case atStart => exact ⟨0, by omega, rfl, rfl⟩
    case round =>
      obtain ⟨j, hj, rfl, rfl⟩ := hrel
      have hle : upto (l.take j) n ≤ j := Nat.le_trans (upto_le _ _) (by rw [List.length_take]; omega)
      by_cases hlt : j < l.length
      · obtain ⟨p, hp⟩ : ∃ p, l[j]? = some p := ⟨l[j], List.getElem?_eq_getElem hlt⟩
        obtain ⟨c0, c1⟩ := hr j p hp
        have hs := upto_step hp n
        by_cases hq : p.1 ≤ n
        · rw [if_pos hq] at hs
          have HS := Lib.hid hs
          clear hs
          generalize upto (l.take j) n = c at *
          go_wp2
          go_round
          case rel => exact ⟨j + 1, by omega, by go_num, by rw [HS.out]; go_num⟩
          case measure => simp [intOf]; omega
        · rw [if_neg hq] at hs
          have HS := Lib.hid hs
          clear hs
          generalize upto (l.take j) n = c at *
          go_wp2
          go_round
          case rel => exact ⟨j + 1, by omega, by go_num, by rw [HS.out]; go_num⟩
          case measure => simp [intOf]; omega
      · obtain rfl : j = l.length := by omega
        go_wp2
        go_ret
        exact ⟨rfl, by (repeat' (with_reducible first | refine Fr.setCell ?_ (fun hlt => absurd hlt (by dsimp only; omega)) _ | refine Fr.alloc ?_ _ | refine Fr.drewN ?_ _ | refine Fr.drew ?_ | exact Fr.refl _ _))⟩
end Go.Proofs.Ythkklhephacpeaa.SortC
