/- Chapter 9: the walks of the reference's Low, Same. -/
import Derived.Test.YtaafclfhdkkleaaRankE
namespace Go.Proofs.Ytaafclfhdkkleaa.RankF
open Go.RowKit Base SortA IntB IntC IntD IntE IntG IntH IntI IntJ IntK IntL IntQ RankA Quiet
set_option linter.unusedVariables false
set_option linter.unusedSimpArgs false

theorem Low_ref (l : List Pr) (n : Int) (v : Value) (w : World) (hl : l.length ≤ 1000000) (hv : Sl w v l) :
    Calls Try.prog 21 #[v, .int .i64 n] w fun e w' => e = .returned (.int .i64 (below l n)) ∧ Fr Nil w w' := by
  rcases hv with ⟨rfl, rfl⟩ | ⟨g, o, cap, rfl, hc, ha, hr⟩
  · go_enter Try.func21, Try.ntmps21
    go_wp2_with fail
    refine wp_loop_rounds 1 ?_
    rw [rounds_succ]
    go_wp2
    go_ret
    exact ⟨rfl, by (repeat' (with_reducible first | refine Fr.setCell ?_ (fun hlt => absurd hlt (by dsimp only; omega)) _ | refine Fr.alloc ?_ _ | refine Fr.drewN ?_ _ | refine Fr.drew ?_ | exact Fr.refl _ _))⟩
  · go_enter Try.func21, Try.ntmps21
    go_wp2_with fail
    go_loop [5, 6] (fun k i => ∃ j : Nat, j ≤ l.length ∧ i = .int .i64 j ∧ k = .int .i64 (below (l.take j) n)) (fun _ i => l.length - (intOf i).toNat)
    case atStart => exact ⟨0, by omega, rfl, rfl⟩
    case round =>
      obtain ⟨j, hj, rfl, rfl⟩ := hrel
      have hle : below (l.take j) n ≤ j := Nat.le_trans (below_le _ _) (by rw [List.length_take]; omega)
      by_cases hlt : j < l.length
      · obtain ⟨p, hp⟩ : ∃ p, l[j]? = some p := ⟨l[j], List.getElem?_eq_getElem hlt⟩
        obtain ⟨c0, _⟩ := hr j p hp
        have hs := below_step hp n
        by_cases hq : p.1 < n
        · rw [if_pos hq] at hs
          have HS := Lib.hid hs
          clear hs
          generalize below (l.take j) n = c at *
          go_wp2
          go_round
          case rel => exact ⟨j + 1, by omega, by go_num, by rw [HS.out]; go_num⟩
          case measure => simp [intOf]; omega
        · rw [if_neg hq] at hs
          have HS := Lib.hid hs
          clear hs
          generalize below (l.take j) n = c at *
          go_wp2
          go_round
          case rel => exact ⟨j + 1, by omega, by go_num, by rw [HS.out]; go_num⟩
          case measure => simp [intOf]; omega
      · obtain rfl : j = l.length := by omega
        go_wp2
        go_ret
        exact ⟨rfl, by (repeat' (with_reducible first | refine Fr.setCell ?_ (fun hlt => absurd hlt (by dsimp only; omega)) _ | refine Fr.alloc ?_ _ | refine Fr.drewN ?_ _ | refine Fr.drew ?_ | exact Fr.refl _ _))⟩


theorem same_any (l : List Pr) (va vb : Value) (w : World) (hl : l.length ≤ 100000) (hva : Sl w va l) (hvb : Sl w vb l) :
    Calls Try.prog 16 #[va, vb] w fun e w' => e = .returned (.bool true) ∧ Fr Nil w w' := by
  by_cases hne : l = []
  · subst hne
    obtain ⟨A, c, rfl⟩ := Sl.shape hva
    obtain ⟨B, d, rfl⟩ := Sl.shape hvb
    simp only [List.length_nil]
    clear hva hvb
    go_enter Try.func16, Try.ntmps16
    go_wp2_with fail
    refine wp_loop_rounds 1 ?_
    rw [rounds_succ]
    go_wp2
    go_ret
    exact ⟨rfl, by (repeat' (with_reducible first | refine Fr.setCell ?_ (fun hlt => absurd hlt (by dsimp only; omega)) _ | refine Fr.alloc ?_ _ | refine Fr.drewN ?_ _ | refine Fr.drew ?_ | exact Fr.refl _ _))⟩
  · rcases hva with ⟨_, h⟩ | ⟨g, o, cap, rfl, hc, ha, hr⟩
    · exact absurd h hne
    rcases hvb with ⟨_, h⟩ | ⟨g', o', cap', rfl, hc', ha', hr'⟩
    · exact absurd h hne
    clear hne
    go_enter Try.func16, Try.ntmps16
    go_wp2_with fail
    go_loopw [5] (fun i wr => ∃ k : Nat, k ≤ l.length ∧ i = .int .i64 k ∧ Fr Nil w wr) (fun i _ => l.length - (intOf i).toNat)
    case atStart => exact ⟨0, by omega, rfl, by (repeat' (with_reducible first | refine Fr.setCell ?_ (fun hlt => absurd hlt (by dsimp only; omega)) _ | refine Fr.alloc ?_ _ | refine Fr.drewN ?_ _ | refine Fr.drew ?_ | exact Fr.refl _ _))⟩
    case round =>
      obtain ⟨k, hk, rfl, hf⟩ := hrel
      by_cases hlt : k < l.length
      · obtain ⟨p, hp⟩ : ∃ p, l[k]? = some p := ⟨l[k], List.getElem?_eq_getElem hlt⟩
        obtain ⟨c0, c1⟩ := (hr.fr hf ha id) k p hp
        obtain ⟨d0, d1⟩ := (hr'.fr hf ha' id) k p hp
        have hk0 : (0 : Int) ≤ k := by omega
        have hk1 : (k : Int) < l.length := by omega
        have HF := Lib.hid hf
        clear hf hp
        go_wp2_with fail
        go_quiet (fail)
        go_wp2_with fail
        go_roundw
        case rel => exact ⟨k + 1, by omega, by go_num, HF.out.drewN _⟩
        case measure => simp [intOf]; omega
      · obtain rfl : k = l.length := by omega
        have HF := Lib.hid hf
        clear hf
        go_wp2_with fail
        go_ret
        exact ⟨rfl, HF.out⟩


end Go.Proofs.Ytaafclfhdkkleaa.RankF
