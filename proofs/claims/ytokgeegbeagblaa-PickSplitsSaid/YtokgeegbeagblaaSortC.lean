/- Chapter 7: the walks of few, Below, UpTo. -/
import Derived.Test.YtokgeegbeagblaaSortB
namespace Go.Proofs.Ytokgeegbeagblaa.SortC
open Go.RowKit Base SortA SortB
set_option linter.unusedVariables false
set_option linter.unusedSimpArgs false

theorem Sl.come {w : World} {v : Value} {l : List Pr} (h : Sl w v l) : Come w v l := by
  rcases h with h | ⟨g, o, cap, rfl, hc, ha, hr⟩
  · exact Or.inl h
  · exact Or.inr ⟨_, cap, rfl, hc, hr.flat⟩

theorem below_step {l : List Pr} {j : Nat} {p : Pr} (h : l[j]? = some p) (n : Int) : below (l.take (j + 1)) n = below (l.take j) n + if p.1 < n then 1 else 0 := by
  obtain ⟨hk, rfl⟩ := List.getElem?_eq_some_iff.1 h
  unfold below
  rw [List.take_succ_eq_append_getElem hk, List.countP_append]
  simp [List.countP_cons]

theorem upto_step {l : List Pr} {j : Nat} {p : Pr} (h : l[j]? = some p) (n : Int) : upto (l.take (j + 1)) n = upto (l.take j) n + if p.1 ≤ n then 1 else 0 := by
  obtain ⟨hk, rfl⟩ := List.getElem?_eq_some_iff.1 h
  unfold upto
  rw [List.take_succ_eq_append_getElem hk, List.countP_append]
  simp [List.countP_cons]

theorem upto_any (l : List Pr) (n : Int) (v : Value) (w : World) (hl : l.length ≤ 1000000) (hv : Sl w v l) :
    Calls Try.prog 27 #[v, .int .i64 n] w fun e w' => e = .returned (.int .i64 (upto l n)) ∧ Fr Nil w w' := by
  rcases hv with ⟨rfl, rfl⟩ | ⟨g, o, cap, rfl, hc, ha, hr⟩
  · go_enter Try.func27, Try.ntmps27
    go_wp2_with fail
    refine wp_loop_rounds 1 ?_
    rw [rounds_succ]
    go_wp2
    go_ret
    exact ⟨rfl, by (repeat' (with_reducible first | refine Fr.setCell ?_ (fun hlt => absurd hlt (by dsimp only; omega)) _ | refine Fr.alloc ?_ _ | refine Fr.drewN ?_ _ | refine Fr.drew ?_ | exact Fr.refl _ _))⟩
  · go_enter Try.func27, Try.ntmps27
    go_wp2_with fail
    go_loop [5, 6] (fun k i => ∃ j : Nat, j ≤ l.length ∧ i = .int .i64 j ∧ k = .int .i64 (upto (l.take j) n)) (fun _ i => l.length - (intOf i).toNat)
    case atStart => exact ⟨0, by omega, rfl, rfl⟩
    case round =>
      obtain ⟨j, hj, rfl, rfl⟩ := hrel
      have hle : upto (l.take j) n ≤ j := Nat.le_trans (upto_le _ _) (by rw [List.length_take]; omega)
      by_cases hlt : j < l.length
      · obtain ⟨p, hp⟩ : ∃ p, l[j]? = some p := ⟨l[j], List.getElem?_eq_getElem hlt⟩
        obtain ⟨c0, c1⟩ := hr j p hp
        have hs := upto_step hp n
        by_cases hq : p.1 ≤ n
        · rw [if_pos hq] at hs
          have HS := Lib.hid hs
          clear hs
          generalize upto (l.take j) n = c at *
          go_wp2
          go_round
          case rel => exact ⟨j + 1, by omega, by go_num, by rw [HS.out]; go_num⟩
          case measure => simp [intOf]; omega
        · rw [if_neg hq] at hs
          have HS := Lib.hid hs
          clear hs
          generalize upto (l.take j) n = c at *
          go_wp2
          go_round
          case rel => exact ⟨j + 1, by omega, by go_num, by rw [HS.out]; go_num⟩
          case measure => simp [intOf]; omega
      · obtain rfl : j = l.length := by omega
        go_wp2
        go_ret
        exact ⟨rfl, by (repeat' (with_reducible first | refine Fr.setCell ?_ (fun hlt => absurd hlt (by dsimp only; omega)) _ | refine Fr.alloc ?_ _ | refine Fr.drewN ?_ _ | refine Fr.drew ?_ | exact Fr.refl _ _))⟩
end Go.Proofs.Ytokgeegbeagblaa.SortC
