/- Chapter 9: the walks of Rank, cell, Cell. -/
import Derived.Test.YtaafclfhdkkleaaRankC
namespace Go.Proofs.Ytaafclfhdkkleaa.RankD
open Go.RowKit Base SortA IntB IntC IntD IntE IntG IntH IntI IntJ IntK IntL IntQ RankA RankB RankC Quiet
set_option linter.unusedVariables false
set_option linter.unusedSimpArgs false

theorem Rank_any (l : List Pr) (p : Pr) (v : Value) (w : World) (hl : l.length ≤ 100000) (ho : Srt l) (hv : Rk w v l) :
    Calls Try.prog 19 #[v, .int .i64 p.1] w fun e w' => e = .returned (.tuple #[.int .i64 (if below l p.1 < upto l p.1 then below l p.1 else 0), .bool (decide (below l p.1 < upto l p.1))]) ∧ Fr Nil w w' := by
  have K := Lib.hid (rank_any l p v w hl ho hv)
  clear hv ho hl
  generalize below l p.1 = n at *
  generalize upto l p.1 = m at *
  by_cases h : n < m
  · simp only [decide_eq_true h, if_pos h] at K ⊢
    clear h
    go_enter Try.func19, Try.ntmps19
    go_wp2_with fail
    refine K.out.mono ?_
    rintro e w1 ⟨rfl, hf1⟩
    go_wp2_with fail
    exact bodyPost_ret (v := .tuple #[.int .i64 n, .bool true]) (by simp [results, Try.results19, go_sem]) rfl ⟨rfl, hf1⟩
  · simp only [decide_eq_false h, if_neg h] at K ⊢
    clear h
    go_enter Try.func19, Try.ntmps19
    go_wp2_with fail
    refine K.out.mono ?_
    rintro e w1 ⟨rfl, hf1⟩
    go_wp2_with fail
    exact bodyPost_ret (v := .tuple #[.int .i64 0, .bool false]) (by simp [results, Try.results19, go_sem]) rfl ⟨rfl, hf1⟩

/-- a number's cell -/
def cellOf (l : List Pr) (n : Int) : Int := if below l n < upto l n then 2 * (below l n : Int) + 1 else 2 * (below l n : Int)

theorem cell_any (l : List Pr) (p : Pr) (v : Value) (w : World) (hl : l.length ≤ 100000) (ho : Srt l) (hv : Rk w v l) :
    Calls Try.prog 26 #[v, .int .i64 p.1] w fun e w' => e = .returned (.int .i64 (cellOf l p.1)) ∧ Fr Nil w w' := by
  have K := Lib.hid (rank_any l p v w hl ho hv)
  have hb := below_le l p.1
  unfold cellOf
  clear hv ho
  generalize below l p.1 = n at *
  generalize upto l p.1 = m at *
  have hn1 : (n : Int) ≤ 100000 := by omega
  have hn0 : (0 : Int) ≤ n := Int.natCast_nonneg n
  by_cases h : n < m
  · simp only [decide_eq_true h, if_pos h] at K ⊢
    have hw : wrap64 (2 * (n : Int) + 1) = 2 * (n : Int) + 1 := by unfold wrap64; omega
    have hw2 : wrap64 (2 * (n : Int)) = 2 * (n : Int) := by clear hw; unfold wrap64; omega
    clear h hb hl
    go_enter Try.func26, Try.ntmps26
    go_wp2_with fail
    refine K.out.mono ?_
    rintro e w1 ⟨rfl, hf1⟩
    go_wp2_with fail
    exact bodyPost_ret (v := .int .i64 (2 * (n : Int) + 1)) (by simp [results, Try.results26, go_sem]) rfl ⟨rfl, hf1⟩
  · simp only [decide_eq_false h, if_neg h] at K ⊢
    have hw2 : wrap64 (2 * (n : Int)) = 2 * (n : Int) := by unfold wrap64; omega
    clear h hb hl
    go_enter Try.func26, Try.ntmps26
    go_wp2_with fail
    refine K.out.mono ?_
    rintro e w1 ⟨rfl, hf1⟩
    go_wp2_with fail
    exact bodyPost_ret (v := .int .i64 (2 * (n : Int))) (by simp [results, Try.results26, go_sem]) rfl ⟨rfl, hf1⟩

theorem Cell_any (l : List Pr) (p : Pr) (v : Value) (w : World) (hl : l.length ≤ 100000) (ho : Srt l) (hv : Rk w v l) :
    Calls Try.prog 11 #[v, .int .i64 p.1] w fun e w' => e = .returned (.int .i64 (cellOf l p.1)) ∧ Fr Nil w w' := by
  have K := Lib.hid (cell_any l p v w hl ho hv)
  clear hv
  generalize cellOf l p.1 = n at *
  go_enter Try.func11, Try.ntmps11
  go_wp2_with fail
  refine K.out.mono ?_
  rintro e w1 ⟨rfl, hf1⟩
  go_wp2_with fail
  go_ret
  exact ⟨rfl, hf1⟩
end Go.Proofs.Ytaafclfhdkkleaa.RankD
