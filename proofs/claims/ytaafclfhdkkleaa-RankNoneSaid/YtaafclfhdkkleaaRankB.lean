/- Chapter 9: the walks of Value. -/
import Derived.Test.YtaafclfhdkkleaaRankA
namespace Go.Proofs.Ytaafclfhdkkleaa.RankB
open Go.RowKit Base SortA IntB IntC IntD IntE IntG IntH IntI IntJ IntK IntL IntQ RankA Quiet
set_option linter.unusedVariables false
set_option linter.unusedSimpArgs false

theorem Value_ok (l : List Pr) (k : Nat) (x : Pr) (v : Value) (w : World) (hl : l.length ≤ 1000) (hx : l[k]? = some x) (hv : Rk w v l) :
    Calls Try.prog 20 #[v, .int .i64 k] w fun e w' => e = .returned (.tuple #[.int .i64 x.1, .bool true]) ∧ Fr Nil w w' := by
  have K := Lib.hid (all_any l v w hv)
  have hk := (List.getElem?_eq_some_iff.1 hx).1
  have hk' : (k : Int) < l.length := by omega
  have hk0 : (0 : Int) ≤ k := Int.natCast_nonneg k
  have HX := Lib.hid hx
  clear hv hx hk hl
  go_enter Try.func20, Try.ntmps20
  go_wp2_with fail
  refine K.out.mono ?_
  rintro e w1 ⟨u, rfl, hf1, hs1⟩
  rcases hs1 with ⟨_, h0⟩ | ⟨g, o, cap, rfl, hc, ha, hr⟩
  · have h := HX.out; rw [h0] at h; simp at h
  obtain ⟨c0, _⟩ := hr k x HX.out
  clear hr hc
  go_wp2_with fail
  exact bodyPost_ret (v := .tuple #[.int .i64 x.1, .bool true]) (by simp [results, Try.results20, go_sem]) rfl ⟨rfl, hf1⟩

theorem Value_bad (l : List Pr) (i : Int) (v : Value) (w : World) (hi : i < 0 ∨ (l.length : Int) ≤ i) (hv : Rk w v l) :
    Calls Try.prog 20 #[v, .int .i64 i] w fun e w' => e = .returned (.tuple #[.int .i64 0, .bool false]) ∧ Fr Nil w w' := by
  have K := Lib.hid (all_any l v w hv)
  clear hv
  have hcase : ¬ (0 ≤ i) ∨ ((0 ≤ i) ∧ ¬ i < (l.length : Int)) := by omega
  clear hi
  rcases hcase with h1 | ⟨h1, h2⟩
  all_goals
    go_enter Try.func20, Try.ntmps20
    go_wp2_with fail
    refine K.out.mono ?_
    rintro e w1 ⟨u, rfl, hf1, hs1⟩
    obtain ⟨A, c, rfl⟩ := Sl.shape hs1
    go_wp2_with fail
    exact bodyPost_ret (v := .tuple #[.int .i64 0, .bool false]) (by simp [results, Try.results20, go_sem]) rfl ⟨rfl, hf1⟩
end Go.Proofs.Ytaafclfhdkkleaa.RankB
