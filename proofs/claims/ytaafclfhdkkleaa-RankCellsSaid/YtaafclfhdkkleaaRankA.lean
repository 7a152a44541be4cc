/- Chapter 9: ranks in memory; the walks of of, New, all, Len, low, Low, High. -/
import Derived.Test.YtaafclfhdkkleaaIntQ
namespace Go.Proofs.Ytaafclfhdkkleaa.RankA
open Go.RowKit Base SortA IntB IntC IntD IntE IntG IntH IntI IntJ IntK IntL IntQ Quiet
set_option linter.unusedVariables false
set_option linter.unusedSimpArgs false

/-- ranks in memory, or none -/
def Rk (w : World) (v : Value) (l : List Pr) : Prop := (v = .pointer none ∧ l = []) ∨ ∃ g s, v = .pointer (some ⟨g, 0, none⟩) ∧ Bk w g 43 #[s] ∧ Sl w s l
theorem Rk.fr {w w' : World} {v : Value} {l : List Pr} (h : Rk w v l) (hf : Fr Nil w w') : Rk w' v l := by
  rcases h with h | ⟨g, s, rfl, hb, hs⟩
  · exact Or.inl h
  · exact Or.inr ⟨g, s, rfl, hb.fr hf id, hs.fr hf⟩

theorem of_any (l : List Pr) (v : Value) (w : World) (hl : l.length ≤ 500) (hv : Sl w v l) :
    Calls Try.prog 25 #[v] w fun e w' => ∃ u, e = .returned u ∧ Fr Nil w w' ∧ Sl w' u (uq (isort l)) := by
  have K1 := Lib.hid (sort_any l v w hl hv)
  have K2 := Lib.hid (fun W u h => unique_any (isort l) u W (by rw [isort_len]; omega) h)
  clear hv
  unfold lessV at *
  go_enter Try.func25, Try.ntmps25
  go_wp2_with fail
  refine K1.out.mono ?_
  rintro e w1 ⟨u, rfl, hf1, hs1⟩
  go_wp2_with fail
  refine (K2.out _ _ hs1).mono ?_
  rintro e w2 ⟨u2, rfl, hf2, hs2⟩
  go_wp2_with fail
  go_ret
  exact ⟨_, rfl, hf1.trans hf2, hs2⟩

theorem New_any (l : List Pr) (v : Value) (w : World) (hl : l.length ≤ 500) (hv : Sl w v l) :
    Calls Try.prog 8 #[v] w fun e w' => ∃ u, e = .returned u ∧ Fr Nil w w' ∧ Rk w' u (uq (isort l)) ∧ u ≠ .pointer none := by
  have K := Lib.hid (of_any l v w hl hv)
  clear hv
  go_enter Try.func8, Try.ntmps8
  go_wp2_with fail
  refine K.out.mono ?_
  rintro e w1 ⟨u, rfl, hf1, hs1⟩
  obtain ⟨A, c, rfl⟩ := Sl.shape hs1
  go_wp2_with fail
  go_ret
  exact ⟨_, rfl, hf1.alloc _, Or.inr ⟨_, _, rfl, Bk.new w1 _ _, Sl.alloc hs1 _⟩, by simp⟩

theorem all_any (l : List Pr) (v : Value) (w : World) (hv : Rk w v l) :
    Calls Try.prog 29 #[v] w fun e w' => ∃ u, e = .returned u ∧ Fr Nil w w' ∧ Sl w' u l := by
  rcases hv with ⟨rfl, rfl⟩ | ⟨g, s, rfl, hb, hs⟩
  · go_enter Try.func29, Try.ntmps29
    go_wp2_with fail
    go_ret
    exact ⟨_, rfl, Fr.refl _ _, Or.inl ⟨rfl, rfl⟩⟩
  · obtain ⟨b0, _⟩ := hb.c1
    obtain ⟨A, c, rfl⟩ := Sl.shape hs
    go_enter Try.func29, Try.ntmps29
    go_wp2_with fail
    go_ret
    exact ⟨_, rfl, Fr.refl _ _, hs⟩

theorem Len_any (l : List Pr) (v : Value) (w : World) (hv : Rk w v l) :
    Calls Try.prog 24 #[v] w fun e w' => e = .returned (.int .i64 l.length) ∧ Fr Nil w w' := by
  have K := Lib.hid (all_any l v w hv)
  clear hv
  go_enter Try.func24, Try.ntmps24
  go_wp2_with fail
  refine K.out.mono ?_
  rintro e w1 ⟨u, rfl, hf1, hs1⟩
  obtain ⟨A, c, rfl⟩ := Sl.shape hs1
  go_wp2_with fail
  go_ret
  exact ⟨rfl, hf1⟩

theorem low_any (l : List Pr) (p : Pr) (v : Value) (w : World) (hl : l.length ≤ 100000) (ho : Srt l) (hv : Rk w v l) :
    Calls Try.prog 32 #[v, .int .i64 p.1] w fun e w' => e = .returned (.int .i64 (below l p.1)) ∧ Fr Nil w w' := by
  have K := Lib.hid (all_any l v w hv)
  have K2 := Lib.hid (fun W u h => First_any l p u W hl ho h)
  clear hv
  unfold lessV at *
  go_enter Try.func32, Try.ntmps32
  go_wp2_with fail
  refine K.out.mono ?_
  rintro e w1 ⟨u, rfl, hf1, hs1⟩
  go_wp2_with fail
  refine (K2.out _ _ hs1).mono ?_
  rintro e w2 ⟨rfl, hf2⟩
  go_wp2_with fail
  go_ret
  exact ⟨rfl, hf1.trans hf2⟩

theorem Low_any (l : List Pr) (p : Pr) (v : Value) (w : World) (hl : l.length ≤ 100000) (ho : Srt l) (hv : Rk w v l) :
    Calls Try.prog 22 #[v, .int .i64 p.1] w fun e w' => e = .returned (.int .i64 (below l p.1)) ∧ Fr Nil w w' := by
  have K := Lib.hid (low_any l p v w hl ho hv)
  clear hv
  go_enter Try.func22, Try.ntmps22
  go_wp2_with fail
  refine K.out.mono ?_
  rintro e w1 ⟨rfl, hf1⟩
  go_wp2_with fail
  go_ret
  exact ⟨rfl, hf1⟩

theorem High_any (l : List Pr) (p : Pr) (v : Value) (w : World) (hl : l.length ≤ 100000) (ho : Srt l) (hv : Rk w v l) :
    Calls Try.prog 23 #[v, .int .i64 p.1] w fun e w' => e = .returned (.int .i64 (upto l p.1)) ∧ Fr Nil w w' := by
  have K := Lib.hid (all_any l v w hv)
  have K2 := Lib.hid (fun W u h => Behind_any l p u W hl ho h)
  clear hv
  unfold lessV at *
  go_enter Try.func23, Try.ntmps23
  go_wp2_with fail
  refine K.out.mono ?_
  rintro e w1 ⟨u, rfl, hf1, hs1⟩
  go_wp2_with fail
  refine (K2.out _ _ hs1).mono ?_
  rintro e w2 ⟨rfl, hf2⟩
  go_wp2_with fail
  go_ret
  exact ⟨rfl, hf1.trans hf2⟩
end Go.Proofs.Ytaafclfhdkkleaa.RankA
