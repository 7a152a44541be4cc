/- Chapter 9: the walks of With, ref.Has. -/
import Derived.Test.YtaafclfhdkkleaaRankF
namespace Go.Proofs.Ytaafclfhdkkleaa.RankG
open Go.RowKit Base SortA IntB IntC IntD IntE IntG IntH IntI IntJ IntK IntL IntQ RankA Quiet
set_option linter.unusedVariables false
set_option linter.unusedSimpArgs false

theorem With_any (l m : List Pr) (v u : Value) (w : World) (hl : l.length ≤ 400) (hm : m.length ≤ 400) (hv : Rk w v l) (hu : Sl w u m) :
    Calls Try.prog 15 #[v, u] w fun e w' => ∃ r, e = .returned r ∧ Fr Nil w w' ∧ Rk w' r (uq (mrg l (uq (isort m)))) ∧ r ≠ .pointer none := by
  have hq : (uq (isort m)).length ≤ 400 := by have h := uq_len (isort m) (isort m).length (Nat.le_refl _); rw [List.take_length, isort_len] at h; omega
  have K1 := Lib.hid (all_any l v w hv)
  have K2 := Lib.hid (fun W (h : Fr Nil w W) => of_any m u W (by omega) (hu.fr h))
  have K3 := Lib.hid (fun W a b h1 h2 => Merge_any l (uq (isort m)) a b W (by omega) (by omega) h1 h2)
  have K4 := Lib.hid (fun W a h => unique_any (mrg l (uq (isort m))) a W (by rw [mrg_len]; omega) h)
  clear hv hu hl hm hq
  unfold lessV at *
  go_enter Try.func15, Try.ntmps15
  go_wp2_with fail
  refine K1.out.mono ?_
  rintro e w1 ⟨a, rfl, hf1, hs1⟩
  go_wp2_with fail
  refine (K2.out _ hf1).mono ?_
  rintro e w2 ⟨b, rfl, hf2, hs2⟩
  go_wp2_with fail
  refine (K3.out _ _ _ (hs1.fr hf2) hs2).mono ?_
  rintro e w3 ⟨c, rfl, hf3, hs3⟩
  go_wp2_with fail
  refine (K4.out _ _ hs3).mono ?_
  rintro e w4 ⟨d, rfl, hf4, hs4⟩
  obtain ⟨A, c, rfl⟩ := Sl.shape hs4
  go_wp2_with fail
  go_ret
  exact ⟨_, rfl, (((hf1.trans hf2).trans hf3).trans hf4).alloc _, Or.inr ⟨_, _, rfl, Bk.new w4 _ _, Sl.alloc hs4 _⟩, by simp⟩

/-- does a list have the number -/
def has (l : List Pr) (n : Int) : Bool := l.any fun p => decide (p.1 = n)
theorem has_take {l : List Pr} {k : Nat} {p : Pr} (h : l[k]? = some p) (n : Int) : has (l.take (k + 1)) n = (has (l.take k) n || decide (p.1 = n)) := by
  obtain ⟨hk, rfl⟩ := List.getElem?_eq_some_iff.1 h
  unfold has
  rw [List.take_succ_eq_append_getElem hk, List.any_append]
  simp
theorem has_of {l : List Pr} {k : Nat} {p : Pr} (h : l[k]? = some p) {n : Int} (hp : p.1 = n) : has l n = true := by
  unfold has
  rw [List.any_eq_true]
  exact ⟨p, List.mem_of_getElem? h, decide_eq_true hp⟩

theorem Has_ref (l : List Pr) (n : Int) (v : Value) (w : World) (hl : l.length ≤ 1000000) (hv : Sl w v l) :
    Calls Try.prog 14 #[v, .int .i64 n] w fun e w' => e = .returned (.bool (has l n)) ∧ Fr Nil w w' := by
  rcases hv with ⟨rfl, rfl⟩ | ⟨g, o, cap, rfl, hc, ha, hr⟩
  · go_enter Try.func14, Try.ntmps14
    go_wp2_with fail
    refine wp_loop_rounds 1 ?_
    rw [rounds_succ]
    go_wp2
    go_ret
    exact ⟨rfl, by (repeat' (with_reducible first | refine Fr.setCell ?_ (fun hlt => absurd hlt (by dsimp only; omega)) _ | refine Fr.alloc ?_ _ | refine Fr.drewN ?_ _ | refine Fr.drew ?_ | exact Fr.refl _ _))⟩
  · go_enter Try.func14, Try.ntmps14
    go_wp2_with fail
    go_loop [5] (fun i => ∃ j : Nat, j ≤ l.length ∧ i = .int .i64 j ∧ has (l.take j) n = false) (fun i => l.length - (intOf i).toNat)
    case atStart => exact ⟨0, by omega, rfl, rfl⟩
    case round =>
      obtain ⟨j, hj, rfl, hf⟩ := hrel
      by_cases hlt : j < l.length
      · obtain ⟨p, hp⟩ : ∃ p, l[j]? = some p := ⟨l[j], List.getElem?_eq_getElem hlt⟩
        obtain ⟨c0, _⟩ := hr j p hp
        by_cases hq : p.1 = n
        · have HE := Lib.hid (has_of hp hq)
          clear hf hp
          go_wp2
          go_ret
          exact ⟨by rw [HE.out]; rfl, by (repeat' (with_reducible first | refine Fr.setCell ?_ (fun hlt => absurd hlt (by dsimp only; omega)) _ | refine Fr.alloc ?_ _ | refine Fr.drewN ?_ _ | refine Fr.drew ?_ | exact Fr.refl _ _))⟩
        · have HE := Lib.hid (show has (l.take (j + 1)) n = false by rw [has_take hp, hf, decide_eq_false hq]; rfl)
          clear hf hp
          go_wp2
          go_round
          case rel => exact ⟨j + 1, by omega, by go_num, HE.out⟩
          case measure => simp [intOf]; omega
      · obtain rfl : j = l.length := by omega
        rw [List.take_length] at hf
        have HE := Lib.hid hf
        clear hf
        go_wp2
        go_ret
        exact ⟨by rw [HE.out]; rfl, by (repeat' (with_reducible first | refine Fr.setCell ?_ (fun hlt => absurd hlt (by dsimp only; omega)) _ | refine Fr.alloc ?_ _ | refine Fr.drewN ?_ _ | refine Fr.drew ?_ | exact Fr.refl _ _))⟩
end Go.Proofs.Ytaafclfhdkkleaa.RankG
