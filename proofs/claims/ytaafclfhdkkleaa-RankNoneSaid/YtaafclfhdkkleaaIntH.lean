/- Chapter 7: the walks of First, Behind, has, Has. -/
import Derived.Test.YtaafclfhdkkleaaIntG
namespace Go.Proofs.Ytaafclfhdkkleaa.IntH
open Go.RowKit Base SortA IntB IntC IntD IntE IntG Quiet
set_option linter.unusedVariables false
set_option linter.unusedSimpArgs false

theorem new' {w : World} {g : Nat} {t : TypeId} {cs : Array Value} (h : g = w.heap.size) : Bk (w.alloc (.cells cs t)) g t cs := by
  subst h
  exact Bk.new w t cs

theorem first_any (l : List Pr) (v : Pr) (s : Value) (w : World) (hl : l.length ≤ 100000) (ho : Srt l) (hv : Sl w s l) :
    Calls Try.prog 40 #[s, .int .i64 v.1, lessV] w fun e w' => e = .returned (.int .i64 (below l v.1)) ∧ Fr Nil w w' := by
  have K := Lib.hid (fun W (h : Sl W s l) g1 g2 => first_seek l v s g1 g2 W hl ho h)
  have HV := Lib.hid hv
  clear hv
  unfold lessV
  go_enter Try.func40, Try.ntmps40
  go_wp2_with fail
  have hf0 : Fr Nil w ((w.alloc (.cells #[.int .i64 v.1] 3)).alloc (.cells #[lessV] 47)) := by (repeat' (with_reducible first | refine Fr.setCell ?_ (fun hlt => absurd hlt (by dsimp only; omega)) _ | refine Fr.alloc ?_ _ | refine Fr.drewN ?_ _ | refine Fr.drew ?_ | exact Fr.refl _ _))
  refine (K.out _ (HV.out.fr hf0) (w.heap.size + 1) w.heap.size (new' (by simp)) (by (repeat' (first | ((with_reducible refine new' ?_); simp; done) | with_reducible refine Bk.alloc ?_ _ | with_reducible refine Bk.far ?_ (by dsimp only; omega) _ | with_reducible refine Bk.drewN ?_ _ | with_reducible refine Bk.drew ?_)))).mono ?_
  rintro e w1 ⟨rfl, hf1⟩
  go_wp2_with fail
  go_ret
  exact ⟨rfl, hf0.trans hf1⟩

theorem First_any (l : List Pr) (v : Pr) (s : Value) (w : World) (hl : l.length ≤ 100000) (ho : Srt l) (hv : Sl w s l) :
    Calls Try.prog 37 #[s, .int .i64 v.1, lessV] w fun e w' => e = .returned (.int .i64 (below l v.1)) ∧ Fr Nil w w' := by
  have K := Lib.hid (fun W (h : Sl W s l) => first_any l v s W hl ho h)
  have HV := Lib.hid hv
  clear hv
  unfold lessV at *
  go_enter Try.func37, Try.ntmps37
  go_wp2_with fail
  have hf0 : Fr Nil w w := Fr.refl Nil w
  refine (K.out _ (HV.out.fr hf0)).mono ?_
  rintro e w1 ⟨rfl, hf1⟩
  go_wp2_with fail
  go_ret
  exact ⟨rfl, hf0.trans hf1⟩

theorem behind_any (l : List Pr) (v : Pr) (s : Value) (w : World) (hl : l.length ≤ 100000) (ho : Srt l) (hv : Sl w s l) :
    Calls Try.prog 38 #[s, .int .i64 v.1, lessV] w fun e w' => e = .returned (.int .i64 (upto l v.1)) ∧ Fr Nil w w' := by
  have K := Lib.hid (fun W (h : Sl W s l) g1 g2 => behind_seek l v s g1 g2 W hl ho h)
  have HV := Lib.hid hv
  clear hv
  unfold lessV
  go_enter Try.func38, Try.ntmps38
  go_wp2_with fail
  have hf0 : Fr Nil w ((w.alloc (.cells #[.int .i64 v.1] 3)).alloc (.cells #[lessV] 47)) := by (repeat' (with_reducible first | refine Fr.setCell ?_ (fun hlt => absurd hlt (by dsimp only; omega)) _ | refine Fr.alloc ?_ _ | refine Fr.drewN ?_ _ | refine Fr.drew ?_ | exact Fr.refl _ _))
  refine (K.out _ (HV.out.fr hf0) (w.heap.size + 1) w.heap.size (new' (by simp)) (by (repeat' (first | ((with_reducible refine new' ?_); simp; done) | with_reducible refine Bk.alloc ?_ _ | with_reducible refine Bk.far ?_ (by dsimp only; omega) _ | with_reducible refine Bk.drewN ?_ _ | with_reducible refine Bk.drew ?_)))).mono ?_
  rintro e w1 ⟨rfl, hf1⟩
  go_wp2_with fail
  go_ret
  exact ⟨rfl, hf0.trans hf1⟩

theorem Behind_any (l : List Pr) (v : Pr) (s : Value) (w : World) (hl : l.length ≤ 100000) (ho : Srt l) (hv : Sl w s l) :
    Calls Try.prog 33 #[s, .int .i64 v.1, lessV] w fun e w' => e = .returned (.int .i64 (upto l v.1)) ∧ Fr Nil w w' := by
  have K := Lib.hid (fun W (h : Sl W s l) => behind_any l v s W hl ho h)
  have HV := Lib.hid hv
  clear hv
  unfold lessV at *
  go_enter Try.func33, Try.ntmps33
  go_wp2_with fail
  have hf0 : Fr Nil w w := Fr.refl Nil w
  refine (K.out _ (HV.out.fr hf0)).mono ?_
  rintro e w1 ⟨rfl, hf1⟩
  go_wp2_with fail
  go_ret
  exact ⟨rfl, hf0.trans hf1⟩

end Go.Proofs.Ytaafclfhdkkleaa.IntH
