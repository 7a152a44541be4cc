/- Chapter 9: the walk of ref.Cell. -/
import Derived.Test.YtaafclfhdkkleaaRankG
namespace Go.Proofs.Ytaafclfhdkkleaa.RankH
open Go.RowKit Base SortA IntB IntC IntD IntE IntG IntH IntI IntJ IntK IntL IntQ RankA RankD RankF RankG Quiet
set_option linter.unusedVariables false
set_option linter.unusedSimpArgs false

theorem has_iff {l : List Pr} (ho : Srt l) (n : Int) : has l n = decide (below l n < upto l n) := by
  have hbu := below_upto l n
  have hul := upto_le l n
  by_cases h : below l n < upto l n
  · have hy : l[below l n]? = some (l[below l n]'(by omega)) := List.getElem?_eq_getElem _
    rw [decide_eq_true h]
    exact has_of hy ((RankC.there ho hy).2 h)
  · rw [decide_eq_false h]
    unfold has
    rw [List.any_eq_false]
    intro p hp hpn
    have hpn := of_decide_eq_true hpn
    have e : l = l.take (below l n) ++ l.drop (below l n) := (List.take_append_drop _ l).symm
    rw [e] at hp
    rcases List.mem_append.1 hp with hp | hp
    · have := (ho.below n).1 p hp; omega
    · have hbe : below l n = upto l n := by omega
      rw [hbe] at hp
      have := (ho.upto n).2 p hp; omega

theorem Cell_ref (l : List Pr) (p : Pr) (v : Value) (w : World) (hl : l.length ≤ 100000) (ho : Srt l) (hv : Sl w v l) :
    Calls Try.prog 12 #[v, .int .i64 p.1] w fun e w' => e = .returned (.int .i64 (cellOf l p.1)) ∧ Fr Nil w w' := by
  have K1 := Lib.hid (Has_ref l p.1 v w (by omega) hv)
  have K2 := Lib.hid (fun W (h : Fr Nil w W) => Low_ref l p.1 v W (by omega) (hv.fr h))
  rw [has_iff ho] at K1
  have hb := below_le l p.1
  unfold cellOf
  clear hv ho
  generalize below l p.1 = n at *
  generalize upto l p.1 = m at *
  have hn1 : (n : Int) ≤ 100000 := by omega
  have hn0 : (0 : Int) ≤ n := Int.natCast_nonneg n
  by_cases h : n < m
  · simp only [decide_eq_true h, if_pos h] at K1 ⊢
    have hw : wrap64 (2 * (n : Int) + 1) = 2 * (n : Int) + 1 := by unfold wrap64; omega
    have hw2 : wrap64 (2 * (n : Int)) = 2 * (n : Int) := by clear hw; unfold wrap64; omega
    clear h hb hl
    go_enter Try.func12, Try.ntmps12
    go_wp2_with fail
    refine K1.out.mono ?_
    rintro e w1 ⟨rfl, hf1⟩
    go_wp2_with fail
    refine (K2.out _ hf1).mono ?_
    rintro e w2 ⟨rfl, hf2⟩
    go_wp2_with fail
    exact bodyPost_ret (v := .int .i64 (2 * (n : Int) + 1)) (by simp [results, Try.results12, go_sem]) rfl ⟨rfl, hf1.trans hf2⟩
  · simp only [decide_eq_false h, if_neg h] at K1 ⊢
    have hw2 : wrap64 (2 * (n : Int)) = 2 * (n : Int) := by unfold wrap64; omega
    clear h hb hl
    go_enter Try.func12, Try.ntmps12
    go_wp2_with fail
    refine K1.out.mono ?_
    rintro e w1 ⟨rfl, hf1⟩
    go_wp2_with fail
    refine (K2.out _ hf1).mono ?_
    rintro e w2 ⟨rfl, hf2⟩
    go_wp2_with fail
    exact bodyPost_ret (v := .int .i64 (2 * (n : Int))) (by simp [results, Try.results12, go_sem]) rfl ⟨rfl, hf1.trans hf2⟩
end Go.Proofs.Ytaafclfhdkkleaa.RankH
