/- Chapter 9: the walk of rank. -/
import Derived.Test.YtaafclfhdkkleaaRankB
namespace Go.Proofs.Ytaafclfhdkkleaa.RankC
open Go.RowKit Base SortA IntB IntC IntD IntE IntG IntH IntI IntJ IntK IntL IntQ RankA RankB Quiet
set_option linter.unusedVariables false
set_option linter.unusedSimpArgs false

theorem all_ptr (g : Nat) (s : Value) (w : World) (hb : Bk w g 43 #[s]) :
    Calls Try.prog 29 #[.pointer (some ⟨g, 0, none⟩)] w fun e w' => e = .returned s ∧ Fr Nil w w' := by
  obtain ⟨b0, _⟩ := hb.c1
  go_enter Try.func29, Try.ntmps29
  go_wp2_with fail
  go_ret
  exact ⟨rfl, Fr.refl _ _⟩

/-- is the number there: what stands where it would stand is it -/
theorem there {l : List Pr} (ho : Srt l) {n : Int} {y : Pr} (hy : l[below l n]? = some y) : (y.1 = n) ↔ below l n < upto l n := by
  have hq := place (q := fun p => decide (p.1 ≤ n)) (l := l) (ho.imp fun hab hb => by simp at hb ⊢; omega) hy
  have hb := (ho.below n).2 y (List.mem_iff_getElem?.2 ⟨0, by rw [List.getElem?_drop]; simpa using hy⟩)
  have h2 : y.1 ≤ n ↔ below l n < upto l n := ⟨fun h => hq.1 (decide_eq_true h), fun h => of_decide_eq_true (hq.2 h)⟩
  rw [← h2]
  omega

set_option maxRecDepth 100000 in
theorem rank_in (l : List Pr) (p y : Pr) (g : Nat) (s : Value) (w : World) (hl : l.length ≤ 100000) (ho : Srt l) (hb : Bk w g 43 #[s]) (hs : Sl w s l) (hy : l[below l p.1]? = some y) :
    Calls Try.prog 31 #[.pointer (some ⟨g, 0, none⟩), .int .i64 p.1] w fun e w' => e = .returned (.tuple #[.int .i64 (below l p.1), .bool (y.1 == p.1)]) ∧ Fr Nil w w' := by
  have K := Lib.hid (low_any l p (.pointer (some ⟨g, 0, none⟩)) w hl ho (Or.inr ⟨g, s, rfl, hb, hs⟩))
  have KA := Lib.hid (fun W (h : Fr Nil w W) => all_ptr g s W (hb.fr h id))
  have hn := (List.getElem?_eq_some_iff.1 hy).1
  rcases hs with ⟨_, h0⟩ | ⟨g2, o, cap, rfl, hc, ha, hr⟩
  · rw [h0] at hy; simp at hy
  have HR := Lib.hid (fun W (h : Fr Nil w W) => ((hr.fr h ha id) _ y hy).1)
  have HB := Lib.hid (fun W (h : Fr Nil w W) => (hb.fr h id).c1.1)
  generalize below l p.1 = n at *
  have hn' : (n : Int) < l.length := by omega
  have hn0 : (0 : Int) ≤ n := Int.natCast_nonneg n
  clear hb hy hr hc ho hl hn
  go_enter Try.func31, Try.ntmps31
  go_wp2_with fail
  refine K.out.mono ?_
  rintro e w1 ⟨rfl, hf1⟩
  have HF := Lib.hid hf1
  have q1 := fun (p : FrW Nil w1) => HB.out p.val (HF.out.trans p.fr)
  have q3 := fun (p : FrW Nil w1) => HR.out p.val (HF.out.trans p.fr)
  clear hf1
  go_wp2_with fail
  refine wp_region_quiet_fr Nil (by kernel_rfl) (by kernel_rfl) ?_
  repeat (go_big_quiet_step (first
    | (go_at_call 29; with_reducible exact quiet_call (KA.out _ (HF.out.trans (by exact FrW.fr _))))))
  refine wpQuiet_nil ?_
  intro _ hw'
  obtain ⟨⟨wq, hfq⟩, hw''⟩ := hw'
  subst hw''
  go_wp2_with fail
  exact bodyPost_ret (v := .tuple #[.int .i64 n, .bool (y.1 == p.1)]) (by simp [results, Try.results31, go_sem]) rfl ⟨rfl, HF.out.trans hfq⟩

theorem all_nil (w : World) : Calls Try.prog 29 #[.pointer none] w fun e w' => e = .returned (.slice none 0 0) ∧ Fr Nil w w' := by
  go_enter Try.func29, Try.ntmps29
  go_wp2_with fail
  go_ret
  exact ⟨rfl, Fr.refl _ _⟩

set_option maxRecDepth 100000 in
theorem rank_out (l : List Pr) (p : Pr) (v : Value) (w : World) (hl : l.length ≤ 100000) (ho : Srt l) (hv : Rk w v l) (hn : below l p.1 = l.length) :
    Calls Try.prog 31 #[v, .int .i64 p.1] w fun e w' => e = .returned (.tuple #[.int .i64 l.length, .bool false]) ∧ Fr Nil w w' := by
  have K := Lib.hid (low_any l p v w hl ho hv)
  rw [hn] at K
  obtain ⟨A, c, KA⟩ : ∃ A c, ∀ W, Fr Nil w W → Calls Try.prog 29 #[v] W fun e w' => e = .returned (.slice A l.length c) ∧ Fr Nil W w' := by
    rcases hv with ⟨rfl, rfl⟩ | ⟨g, s, rfl, hb, hs⟩
    · exact ⟨none, 0, fun W _ => all_nil W⟩
    · obtain ⟨A, c, rfl⟩ := Sl.shape hs
      exact ⟨A, c, fun W h => all_ptr g _ W (hb.fr h id)⟩
  have KH := Lib.hid KA
  clear KA hn ho hv
  go_enter Try.func31, Try.ntmps31
  go_wp2_with fail
  refine K.out.mono ?_
  rintro e w1 ⟨rfl, hf1⟩
  have HF := Lib.hid hf1
  clear hf1
  go_wp2_with fail
  refine wp_region_quiet_fr Nil (by kernel_rfl) (by kernel_rfl) ?_
  repeat (go_big_quiet_step (first
    | (go_at_call 29; with_reducible exact quiet_call (KH.out _ (HF.out.trans (by exact FrW.fr _))))))
  refine wpQuiet_nil ?_
  intro _ hw'
  obtain ⟨⟨wq, hfq⟩, hw''⟩ := hw'
  subst hw''
  go_wp2_with fail
  exact bodyPost_ret (v := .tuple #[.int .i64 l.length, .bool false]) (by simp [results, Try.results31, go_sem]) rfl ⟨rfl, HF.out.trans hfq⟩

/-- is the number there, as rank tells it -/
theorem rank_any (l : List Pr) (p : Pr) (v : Value) (w : World) (hl : l.length ≤ 100000) (ho : Srt l) (hv : Rk w v l) :
    Calls Try.prog 31 #[v, .int .i64 p.1] w fun e w' => e = .returned (.tuple #[.int .i64 (below l p.1), .bool (decide (below l p.1 < upto l p.1))]) ∧ Fr Nil w w' := by
  have hbl := below_le l p.1
  have hul := upto_le l p.1
  by_cases hlt : below l p.1 < l.length
  · have hy : l[below l p.1]? = some l[below l p.1] := List.getElem?_eq_getElem hlt
    rcases hv with ⟨_, rfl⟩ | ⟨g, s, rfl, hb, hs⟩
    · simp at hlt
    have K := rank_in l p _ g s w hl ho hb hs hy
    have ht := there ho hy
    have e : (l[below l p.1].1 == p.1) = decide (below l p.1 < upto l p.1) := by
      by_cases h : l[below l p.1].1 = p.1
      · rw [decide_eq_true (ht.1 h)]; simp [h]
      · rw [decide_eq_false (fun h' => h (ht.2 h'))]; simp [h]
    rw [e] at K
    exact K
  · have hn : below l p.1 = l.length := by omega
    have K := rank_out l p v w hl ho hv hn
    rw [hn, decide_eq_false (by omega)]
    exact K
end Go.Proofs.Ytaafclfhdkkleaa.RankC
