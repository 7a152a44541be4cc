/- Chapter 7: the walks of First, Behind, has, Has. -/
import Derived.Test.YthkklhephacpeaaSortG
namespace Go.Proofs.Ythkklhephacpeaa.SortH
open Go.RowKit Base SortA SortB SortC SortD SortE SortG Quiet
set_option linter.unusedVariables false
set_option linter.unusedSimpArgs false

theorem new' {w : World} {g : Nat} {t : TypeId} {cs : Array Value} (h : g = w.heap.size) : Bk (w.alloc (.cells cs t)) g t cs := by
  subst h
  exact Bk.new w t cs

theorem first_any (l : List Pr) (v : Pr) (s : Value) (w : World) (hl : l.length ≤ 100000) (ho : Srt l) (hv : Sl w s l) :
    Calls Try.prog 22 #[s, .agg #[.int .i64 v.1, .int .i64 v.2], lessV] w fun e w' => e = .returned (.int .i64 (below l v.1)) ∧ Fr Nil w w' := by
  have K := Lib.hid (fun W (h : Sl W s l) g1 g2 => first_seek l v s g1 g2 W hl ho h)
  have HV := Lib.hid hv
  clear hv
  unfold lessV
  go_enter Try.func22, Try.ntmps22
  go_wp2_with fail
  have hf0 : Fr Nil w ((w.alloc (.cells #[.int .i64 v.1, .int .i64 v.2] 24)).alloc (.cells #[lessV] 28)) := by (repeat' (with_reducible first | refine Fr.setCell ?_ (fun hlt => absurd hlt (by dsimp only; omega)) _ | refine Fr.alloc ?_ _ | refine Fr.drewN ?_ _ | refine Fr.drew ?_ | exact Fr.refl _ _))
  refine (K.out _ (HV.out.fr hf0) (w.heap.size + 1) w.heap.size (new' (by simp)) (by (repeat' (first | ((with_reducible refine new' ?_); simp; done) | with_reducible refine Bk.alloc ?_ _ | with_reducible refine Bk.far ?_ (by dsimp only; omega) _ | with_reducible refine Bk.drewN ?_ _ | with_reducible refine Bk.drew ?_)))).mono ?_
  rintro e w1 ⟨rfl, hf1⟩
  go_wp2_with fail
  go_ret
  exact ⟨rfl, hf0.trans hf1⟩

theorem First_any (l : List Pr) (v : Pr) (s : Value) (w : World) (hl : l.length ≤ 100000) (ho : Srt l) (hv : Sl w s l) :
    Calls Try.prog 10 #[s, .agg #[.int .i64 v.1, .int .i64 v.2], lessV] w fun e w' => e = .returned (.int .i64 (below l v.1)) ∧ Fr Nil w w' := by
  have K := Lib.hid (fun W (h : Sl W s l) => first_any l v s W hl ho h)
  have HV := Lib.hid hv
  clear hv
  unfold lessV at *
  go_enter Try.func10, Try.ntmps10
  go_wp2_with fail
  have hf0 : Fr Nil w (w.alloc (.cells #[.int .i64 v.1, .int .i64 v.2] 24)) := by (repeat' (with_reducible first | refine Fr.setCell ?_ (fun hlt => absurd hlt (by dsimp only; omega)) _ | refine Fr.alloc ?_ _ | refine Fr.drewN ?_ _ | refine Fr.drew ?_ | exact Fr.refl _ _))
  refine (K.out _ (HV.out.fr hf0)).mono ?_
  rintro e w1 ⟨rfl, hf1⟩
  go_wp2_with fail
  go_ret
  exact ⟨rfl, hf0.trans hf1⟩

theorem behind_any (l : List Pr) (v : Pr) (s : Value) (w : World) (hl : l.length ≤ 100000) (ho : Srt l) (hv : Sl w s l) :
    Calls Try.prog 23 #[s, .agg #[.int .i64 v.1, .int .i64 v.2], lessV] w fun e w' => e = .returned (.int .i64 (upto l v.1)) ∧ Fr Nil w w' := by
  have K := Lib.hid (fun W (h : Sl W s l) g1 g2 => behind_seek l v s g1 g2 W hl ho h)
  have HV := Lib.hid hv
  clear hv
  unfold lessV
  go_enter Try.func23, Try.ntmps23
  go_wp2_with fail
  have hf0 : Fr Nil w ((w.alloc (.cells #[.int .i64 v.1, .int .i64 v.2] 24)).alloc (.cells #[lessV] 28)) := by (repeat' (with_reducible first | refine Fr.setCell ?_ (fun hlt => absurd hlt (by dsimp only; omega)) _ | refine Fr.alloc ?_ _ | refine Fr.drewN ?_ _ | refine Fr.drew ?_ | exact Fr.refl _ _))
  refine (K.out _ (HV.out.fr hf0) (w.heap.size + 1) w.heap.size (new' (by simp)) (by (repeat' (first | ((with_reducible refine new' ?_); simp; done) | with_reducible refine Bk.alloc ?_ _ | with_reducible refine Bk.far ?_ (by dsimp only; omega) _ | with_reducible refine Bk.drewN ?_ _ | with_reducible refine Bk.drew ?_)))).mono ?_
  rintro e w1 ⟨rfl, hf1⟩
  go_wp2_with fail
  go_ret
  exact ⟨rfl, hf0.trans hf1⟩

theorem Behind_any (l : List Pr) (v : Pr) (s : Value) (w : World) (hl : l.length ≤ 100000) (ho : Srt l) (hv : Sl w s l) :
    Calls Try.prog 12 #[s, .agg #[.int .i64 v.1, .int .i64 v.2], lessV] w fun e w' => e = .returned (.int .i64 (upto l v.1)) ∧ Fr Nil w w' := by
  have K := Lib.hid (fun W (h : Sl W s l) => behind_any l v s W hl ho h)
  have HV := Lib.hid hv
  clear hv
  unfold lessV at *
  go_enter Try.func12, Try.ntmps12
  go_wp2_with fail
  have hf0 : Fr Nil w (w.alloc (.cells #[.int .i64 v.1, .int .i64 v.2] 24)) := by (repeat' (with_reducible first | refine Fr.setCell ?_ (fun hlt => absurd hlt (by dsimp only; omega)) _ | refine Fr.alloc ?_ _ | refine Fr.drewN ?_ _ | refine Fr.drew ?_ | exact Fr.refl _ _))
  refine (K.out _ (HV.out.fr hf0)).mono ?_
  rintro e w1 ⟨rfl, hf1⟩
  go_wp2_with fail
  go_ret
  exact ⟨rfl, hf0.trans hf1⟩

theorem has_any (l : List Pr) (v : Pr) (s : Value) (w : World) (hl : l.length ≤ 100000) (ho : Srt l) (hv : Sl w s l) :
    Calls Try.prog 24 #[s, .agg #[.int .i64 v.1, .int .i64 v.2], lessV] w fun e w' => e = .returned (.tuple #[.int .i64 (below l v.1), .bool (decide (below l v.1 < upto l v.1))]) ∧ Fr Nil w w' := by
  have K := Lib.hid (fun W (h : Sl W s l) => first_any l v s W hl ho h)
  have hle := below_le l v.1
  have hul := upto_le l v.1
  have hq := fun (k : Nat) (x : Pr) (hx : l[k]? = some x) => place (q := fun p => decide (p.1 ≤ v.1)) (l := l) (ho.imp fun hab hb => by simp at hb ⊢; omega) hx
  have hd : decide (below l v.1 < upto l v.1) = false ∨ decide (below l v.1 < upto l v.1) = true := by cases decide (below l v.1 < upto l v.1) <;> simp
  have HV := Lib.hid hv
  have hf0 : Fr Nil w (w.alloc (.cells #[.int .i64 v.1, .int .i64 v.2] 24)) := by (repeat' (with_reducible first | refine Fr.setCell ?_ (fun hlt => absurd hlt (by dsimp only; omega)) _ | refine Fr.alloc ?_ _ | refine Fr.drewN ?_ _ | refine Fr.drew ?_ | exact Fr.refl _ _))
  have K' := Lib.hid (K.out _ (HV.out.fr hf0))
  unfold lessV at *
  by_cases hlt : below l v.1 < l.length
  · obtain ⟨y, hy⟩ : ∃ y, l[below l v.1]? = some y := ⟨l[below l v.1], List.getElem?_eq_getElem hlt⟩
    have hyq := hq _ y hy
    have hyb : (!decide (v.1 < y.1)) = decide (below l v.1 < upto l v.1) := by
      have h2 : (y.1 ≤ v.1) ↔ below l v.1 < upto l v.1 := ⟨fun h => hyq.1 (decide_eq_true h), fun h => of_decide_eq_true (hyq.2 h)⟩
      by_cases h3 : y.1 ≤ v.1
      · rw [decide_eq_true (h2.1 h3), decide_eq_false (by omega)]; rfl
      · rw [decide_eq_false (fun h4 => h3 (h2.2 h4)), decide_eq_true (by omega)]; rfl
    rw [← hyb]
    rcases hv with ⟨rfl, rfl⟩ | ⟨g, o, cap, rfl, hc, ha, hr⟩
    · simp at hlt
    · have hrow := fun W (h : Fr Nil w W) => (hr.fr h ha id) _ y hy
      have HR := Lib.hid hrow
      have LS := Lib.hid (fun W => less_any v y W)
      clear hrow hr hyb hyq hy hd hq
      generalize below l v.1 = n at *
      generalize decide (v.1 < y.1) = b at *
      go_enter Try.func24, Try.ntmps24
      go_wp2_with fail
      refine K'.out.mono ?_
      rintro e w1 ⟨rfl, hf1⟩
      have hB : Bk w1 w.heap.size 24 #[.int .i64 v.1, .int .i64 v.2] := (Bk.new w _ _).fr hf1 id
      have HF := Lib.hid (hf0.trans hf1)
      clear hf1 hf0
      obtain ⟨q1, q2⟩ := quiet_c2 (S := Nil) hB id
      have q3 := fun (p : FrW Nil w1) => (HR.out p.val (HF.out.trans p.fr)).1
      have q4 := fun (p : FrW Nil w1) => (HR.out p.val (HF.out.trans p.fr)).2
      have hlt' : (n : Int) < l.length := by omega
      have hn0 : (0 : Int) ≤ n := by omega
      go_wp2_with fail
      refine wp_region_quiet_fr Nil (by kernel_rfl) (by kernel_rfl) ?_
      repeat (go_big_quiet_step (first
        | (go_at_call 11; with_reducible exact quiet_call (LS.out _))))
      refine wpQuiet_nil ?_
      intro _ hw'
      obtain ⟨⟨wq, hfq⟩, hw''⟩ := hw'
      subst hw''
      go_wp2_with fail
      exact bodyPost_ret (v := .tuple #[.int .i64 n, .bool (!b)]) (by simp [results, Try.results24, go_sem]) rfl ⟨rfl, HF.out.trans hfq⟩
  · have hn : below l v.1 = l.length := by omega
    have hf : decide (below l v.1 < upto l v.1) = false := decide_eq_false (by omega)
    rw [hf]
    rcases hv with ⟨rfl, rfl⟩ | ⟨g, o, cap, rfl, hc, ha, hr⟩
    all_goals
      have HN := Lib.hid hn
      clear hd hq hf hn
      generalize below _ v.1 = n at *
      go_enter Try.func24, Try.ntmps24
      go_wp2_with fail
      refine K'.out.mono ?_
      rintro e w1 ⟨rfl, hf1⟩
      have HF := Lib.hid (hf0.trans hf1)
      clear hf1 hf0
      have hnn := HN.out
      subst hnn
      go_wp2_with fail
      go_quiet (fail)
      go_wp2_with fail
      exact bodyPost_ret (v := .tuple #[.int .i64 _, .bool false]) (by simp [results, Try.results24, go_sem]) rfl ⟨rfl, HF.out.drewN _⟩

theorem Has_any (l : List Pr) (v : Pr) (s : Value) (w : World) (hl : l.length ≤ 100000) (ho : Srt l) (hv : Sl w s l) :
    Calls Try.prog 13 #[s, .agg #[.int .i64 v.1, .int .i64 v.2], lessV] w fun e w' => e = .returned (.bool (decide (below l v.1 < upto l v.1))) ∧ Fr Nil w w' := by
  have hf0 : Fr Nil w (w.alloc (.cells #[.int .i64 v.1, .int .i64 v.2] 24)) := by (repeat' (with_reducible first | refine Fr.setCell ?_ (fun hlt => absurd hlt (by dsimp only; omega)) _ | refine Fr.alloc ?_ _ | refine Fr.drewN ?_ _ | refine Fr.drew ?_ | exact Fr.refl _ _))
  have K := Lib.hid (has_any l v s _ hl ho (hv.fr hf0))
  clear hv
  unfold lessV at *
  generalize decide (below l v.1 < upto l v.1) = b at *
  generalize below l v.1 = n at *
  go_enter Try.func13, Try.ntmps13
  go_wp2_with fail
  refine K.out.mono ?_
  rintro e w1 ⟨rfl, hf1⟩
  go_wp2_with fail
  go_ret
  exact ⟨rfl, hf0.trans hf1⟩
end Go.Proofs.Ythkklhephacpeaa.SortH
