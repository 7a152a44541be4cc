/- Chapter 8: the walk of the law PickNths. -/
import Derived.Test.YtokgeegbeagblaaGenK
import Derived.Test.YtokgeegbeagblaaSortO
namespace Go.Proofs.Ytokgeegbeagblaa.GenL
open Go.RowKit Base SortA SortB SortC SortD SortE SortF SortG SortI SortK PickA PickC GenA GenC GenD GenF GenH GenI GenJ GenK Quiet
set_option linter.unusedVariables false
set_option linter.unusedSimpArgs false

/-- what Nth and Median tell of a list, by the plain comparison -/
theorem Nth_yes (l : List Pr) (k : Nat) (v : Value) (w : World) (hl : l.length ≤ 120) (hk : k < l.length) (hv : Sl w v l) :
    Calls Try.prog 8 #[v, .int .i64 k, .func (.func 14) #[] #[]] w fun e w' => ∃ x : Pr, e = .returned (.tuple #[.agg #[.int .i64 x.1, .int .i64 x.2], .bool true]) ∧ (isort l)[k]? = some x ∧ Fr Nil w w' :=
  (Nth_ok plain 0 l k v 0 w (by omega) hk (by unfold nb; split <;> omega) (plain_slx hv) ⟨0, Nat.le_refl _, trivial⟩).mono fun e w' ⟨x, h1, h2, h3, _⟩ => ⟨x, h1, h2, h3⟩
theorem Median_yes (l : List Pr) (v : Value) (w : World) (hl : l.length ≤ 120) (hk : 0 < l.length) (hv : Sl w v l) :
    Calls Try.prog 15 #[v, .func (.func 14) #[] #[]] w fun e w' => ∃ x : Pr, e = .returned (.tuple #[.agg #[.int .i64 x.1, .int .i64 x.2], .bool true]) ∧ (isort l)[l.length / 2]? = some x ∧ Fr Nil w w' :=
  (Median_ok plain 0 l (l.length / 2) v 0 w (by omega) hk rfl (by unfold nb; split <;> omega) (plain_slx hv) ⟨0, Nat.le_refl _, trivial⟩).mono fun e w' ⟨x, h1, h2, h3, _⟩ => ⟨x, h1, h2, h3⟩
theorem Nth_not (l : List Pr) (k : Int) (v : Value) (w : World) (hk : k < 0 ∨ (l.length : Int) ≤ k) (hv : Sl w v l) :
    Calls Try.prog 8 #[v, .int .i64 k, .func (.func 14) #[] #[]] w fun e w' => e = .returned (.tuple #[.agg #[.int .i64 0, .int .i64 0], .bool false]) ∧ Fr Nil w w' := by
  obtain ⟨A, c, rfl⟩ := Sl.shape hv
  exact Nth_no (F := _) (first := #[]) w A _ c k hk
theorem Median_not (v : Value) (w : World) (hv : Sl w v []) :
    Calls Try.prog 15 #[v, .func (.func 14) #[] #[]] w fun e w' => e = .returned (.tuple #[.agg #[.int .i64 0, .int .i64 0], .bool false]) ∧ Fr Nil w w' := by
  obtain ⟨A, c, rfl⟩ := Sl.shape hv
  exact Median_no (F := _) (first := #[]) w A _ c rfl

set_option maxRecDepth 100000 in
set_option maxHeartbeats 4000000 in
theorem nths_nil (k : Int) (l : List Pr) (v : Value) (w : World) (hl : l.length ≤ maxLen) (hv : Come w v l) (h0 : l.take 120 = []) :
    Calls Try.prog 4 #[v, .int .i64 k] w fun e w' => e = .returned (.bool true) ∧ Fr Nil w w' := by
  have K1 := Lib.hid (few_any l v w hl hv)
  have PL := Lib.hid (fun W => lives_any W)
  rw [h0] at K1
  have KF := Lib.hid (fun W u h => few_sl [] u W (by simp) h)
  have KS := Lib.hid (fun W u h => sort_ref [] u W (by simp) h)
  have e0 : isort [] = [] := rfl
  simp only [e0] at KS
  clear e0 h0
  have KN := Lib.hid (fun W u h => Nth_not [] k u W (by simp; omega) h)
  have KM := Lib.hid (fun W u h => Median_not u W h)
  clear hv hl
  go_enter Try.func4, Try.ntmps4
  go_wp2_with fail
  refine K1.out.mono ?_
  rintro e w1 ⟨u1, rfl, hf1, ho1, hn1⟩
  have HS1 := Lib.hid ho1.sl
  have F1 := Lib.hid hf1
  clear hf1 ho1 hn1
  go_wp2_with fail
  refine (KS.out _ _ HS1.out).mono ?_
  rintro e w2 ⟨u2, rfl, hf2, hs2, hn2⟩
  have HS2 := Lib.hid hs2
  have F2 := Lib.hid (F1.out.trans hf2)
  have HS1b := Lib.hid (SortB.Sl.fr HS1.out hf2)
  obtain ⟨A2, c2, rfl⟩ := Sl.shape hs2
  clear hf2 hs2 hn2
  go_wp2_with fail
  refine (KF.out _ _ HS1b.out).mono ?_
  rintro e w3 ⟨u3, rfl, hf3, hs3⟩
  have HS3 := Lib.hid hs3
  have R3 := Lib.hid hf3
  have HS1c := Lib.hid (SortB.Sl.fr HS1b.out hf3)
  clear hf3 hs3
  go_wp2_with fail
  refine (KN.out _ _ HS3.out).mono ?_
  rintro e w4 ⟨rfl, hf4⟩
  have R4 := Lib.hid (R3.out.trans hf4)
  have HS1d := Lib.hid (SortD.Sl.alloc (SortB.Sl.fr HS1c.out hf4) (.cells #[.int .i64 0, .int .i64 0] 28))
  have F5 := Lib.hid ((Fr.refl Nil w4).alloc (.cells #[.int .i64 0, .int .i64 0] 28))
  have HBV := Lib.hid (Bk.new w4 28 #[.int .i64 0, .int .i64 0])
  clear hf4
  go_wp2_with fail
  refine (KF.out _ _ HS1d.out).mono ?_
  rintro e w5 ⟨u5, rfl, hf5, hs5⟩
  have HS5 := Lib.hid hs5
  have R5 := Lib.hid (F5.out.trans hf5)
  have HBV5 := Lib.hid (HBV.out.fr hf5 id)
  clear hf5 hs5
  go_wp2_with fail
  refine (KM.out _ _ HS5.out).mono ?_
  rintro e w6 ⟨rfl, hf6⟩
  have R7 := Lib.hid ((R5.out.trans hf6).alloc (.cells #[.int .i64 0, .int .i64 0] 28))
  have HBV7 := ((HBV5.out.fr hf6 id).alloc (.cells #[.int .i64 0, .int .i64 0] 28))
  have HBM7 := Bk.new w6 28 #[.int .i64 0, .int .i64 0]
  obtain ⟨a0, a1, _, _⟩ := HBV7.c2
  obtain ⟨b0, b1, _, _⟩ := HBM7.c2
  have F7 := Lib.hid ((F2.out.trans R4.out).trans R7.out)
  clear hf6
  go_wp2_with fail
  refine (PL.out _).mono ?_
  rintro e w8 ⟨rfl, hf8⟩
  go_wp2_with fail
  exact bodyPost_ret (v := .bool true) (by simp [results, Try.results4, go_sem]) rfl ⟨rfl, F7.out.trans hf8⟩

set_option maxRecDepth 100000 in
set_option maxHeartbeats 4000000 in
theorem nths_in (k : Nat) (l : List Pr) (v : Value) (w : World) (hl : l.length ≤ maxLen) (hv : Come w v l) (hk : k < (l.take 120).length) :
    Calls Try.prog 4 #[v, .int .i64 k] w fun e w' => e = .returned (.bool true) ∧ Fr Nil w w' := by
  have K1 := Lib.hid (few_any l v w hl hv)
  have PL := Lib.hid (fun W => lives_any W)
  have hlen : (l.take 120).length ≤ 120 := by rw [List.length_take]; omega
  generalize l.take 120 = L at *
  have h0 : 0 < L.length := by omega
  have KF := Lib.hid (fun W u h => few_sl L u W hlen h)
  have KS := Lib.hid (fun W u h => sort_ref L u W (by omega) h)
  have KN := Lib.hid (fun W u h => Nth_yes L k u W hlen hk h)
  have KM := Lib.hid (fun W u h => Median_yes L u W hlen h0 h)
  have HIL := Lib.hid (isort_len L)
  have n0 : (0 : Int) < L.length := by omega
  have n1 : (L.length : Int) ≤ 120 := by omega
  obtain ⟨q, hq⟩ : ∃ q, L.length / 2 = q := ⟨_, rfl⟩
  have n2 : (L.length : Int) / 2 = (q : Int) := by omega
  have n3 : (q : Int) < L.length := by omega
  have n4 : (0 : Int) ≤ (q : Int) := Int.natCast_nonneg _
  have n5 : wrap64 (q : Int) = q := PickC.wrap_small (by omega)
  have n6 : (L.length : Int).tdiv 2 = (q : Int) := by rw [Int.tdiv_eq_ediv_of_nonneg (by omega)]; exact n2
  have n7 : IntKind.i64.wrap (q : Int) = q := IntWalk.i64_in _ (by omega)
  rw [hq] at KM
  have m0 : (0 : Int) ≤ (k : Int) := Int.natCast_nonneg _
  have m1 : (k : Int) < L.length := by omega
  clear hlen hq h0
  clear hk
  clear hv hl
  go_enter Try.func4, Try.ntmps4
  go_wp2_with fail
  refine K1.out.mono ?_
  rintro e w1 ⟨u1, rfl, hf1, ho1, hn1⟩
  have HS1 := Lib.hid ho1.sl
  have F1 := Lib.hid hf1
  clear hf1 ho1 hn1
  go_wp2_with fail
  refine (KS.out _ _ HS1.out).mono ?_
  rintro e w2 ⟨u2, rfl, hf2, hs2, hn2⟩
  have HS2 := Lib.hid hs2
  have F2 := Lib.hid (F1.out.trans hf2)
  have HS1b := Lib.hid (SortB.Sl.fr HS1.out hf2)
  rcases hs2 with ⟨h, _⟩ | ⟨g, o, cap, rfl, hc, ha, hr⟩
  · exact absurd h hn2
  have HROW := Lib.hid hr
  have HGA := Lib.hid ha
  rw [HIL.out] at hc ⊢
  rw [HIL.out] at HS2
  have hcI : (L.length : Int) ≤ cap := by omega
  clear hr ha hc
  clear hf2  hn2
  go_wp2_with fail
  refine (KF.out _ _ HS1b.out).mono ?_
  rintro e w3 ⟨u3, rfl, hf3, hs3⟩
  have HS3 := Lib.hid hs3
  have R3 := Lib.hid hf3
  have HS1c := Lib.hid (SortB.Sl.fr HS1b.out hf3)
  clear hf3 hs3
  go_wp2_with fail
  refine (KN.out _ _ HS3.out).mono ?_
  rintro e w4 ⟨x, rfl, hx, hf4⟩
  have HX := Lib.hid hx
  clear hx
  have R4 := Lib.hid (R3.out.trans hf4)
  have HS1d := Lib.hid (SortD.Sl.alloc (SortB.Sl.fr HS1c.out hf4) (.cells #[.int .i64 x.1, .int .i64 x.2] 28))
  have F5 := Lib.hid ((Fr.refl Nil w4).alloc (.cells #[.int .i64 x.1, .int .i64 x.2] 28))
  have HBV := Lib.hid (Bk.new w4 28 #[.int .i64 x.1, .int .i64 x.2])
  clear hf4
  go_wp2_with fail
  refine (KF.out _ _ HS1d.out).mono ?_
  rintro e w5 ⟨u5, rfl, hf5, hs5⟩
  have HS5 := Lib.hid hs5
  have R5 := Lib.hid (F5.out.trans hf5)
  have HBV5 := Lib.hid (HBV.out.fr hf5 id)
  clear hf5 hs5
  go_wp2_with fail
  refine (KM.out _ _ HS5.out).mono ?_
  rintro e w6 ⟨y, rfl, hy, hf6⟩
  have HY := Lib.hid hy
  clear hy
  have R7 := Lib.hid ((R5.out.trans hf6).alloc (.cells #[.int .i64 y.1, .int .i64 y.2] 28))
  have HBV7 := ((HBV5.out.fr hf6 id).alloc (.cells #[.int .i64 y.1, .int .i64 y.2] 28))
  have HBM7 := Bk.new w6 28 #[.int .i64 y.1, .int .i64 y.2]
  obtain ⟨a0, a1, _, _⟩ := HBV7.c2
  obtain ⟨b0, b1, _, _⟩ := HBM7.c2
  have F7 := Lib.hid ((F2.out.trans R4.out).trans R7.out)
  clear hf6
  obtain ⟨c0, c1⟩ := HROW.out.fr (R4.out.trans R7.out) HGA.out id q y HY.out
  obtain ⟨d0, d1⟩ := HROW.out.fr (R4.out.trans R7.out) HGA.out id k x HX.out
  have HBV8 := Lib.hid HBV7
  go_wp2_with fail
  go_quiet (fail)
  have F8 := Lib.hid (F7.out.drewN nq)
  have hcs := fun (p : FrW Nil (World.drewN (w6.alloc (.cells #[.int .i64 y.1, .int .i64 y.2] 28)) nq)) => (show Bk (World.drewN (w6.alloc (.cells #[.int .i64 y.1, .int .i64 y.2] 28)) nq) _ _ _ from HBV8.out).fr p.fr id
  have q1 := fun (p : FrW Nil (World.drewN (w6.alloc (.cells #[.int .i64 y.1, .int .i64 y.2] 28)) nq)) => (hcs p).c2.1
  have q2 := fun (p : FrW Nil (World.drewN (w6.alloc (.cells #[.int .i64 y.1, .int .i64 y.2] 28)) nq)) => (hcs p).c2.2.1
  have q3 := fun (p : FrW Nil (World.drewN (w6.alloc (.cells #[.int .i64 y.1, .int .i64 y.2] 28)) nq)) => (HROW.out.fr (((R4.out.trans R7.out).drewN nq).trans p.fr) HGA.out id k x HX.out).1
  have q4 := fun (p : FrW Nil (World.drewN (w6.alloc (.cells #[.int .i64 y.1, .int .i64 y.2] 28)) nq)) => (HROW.out.fr (((R4.out.trans R7.out).drewN nq).trans p.fr) HGA.out id k x HX.out).2
  clear hcs a0 a1 b0 b1 c0 c1 d0 d1 HBV7 HBM7
  go_wp2_with fail
  refine wp_region_quiet_fr Nil (by kernel_rfl) (by kernel_rfl) ?_
  repeat (go_big_quiet_step (first
    | (go_at_call 12; with_reducible exact quiet_call (PL.out _))))
  refine wpQuiet_nil ?_
  intro w9 hw'
  obtain ⟨⟨wq, hfq⟩, hw''⟩ := hw'
  subst hw''
  go_wp2_with fail
  exact bodyPost_ret (v := .bool true) (by simp [results, Try.results4, go_sem]) rfl ⟨rfl, F8.out.trans hfq⟩

set_option maxRecDepth 100000 in
set_option maxHeartbeats 4000000 in
theorem nths_out (k : Int) (l : List Pr) (v : Value) (w : World) (hl : l.length ≤ maxLen) (hv : Come w v l) (h0 : 0 < (l.take 120).length) (hk : k < 0 ∨ ((l.take 120).length : Int) ≤ k) :
    Calls Try.prog 4 #[v, .int .i64 k] w fun e w' => e = .returned (.bool true) ∧ Fr Nil w w' := by
  have K1 := Lib.hid (few_any l v w hl hv)
  have PL := Lib.hid (fun W => lives_any W)
  have hlen : (l.take 120).length ≤ 120 := by rw [List.length_take]; omega
  generalize l.take 120 = L at *
  have KF := Lib.hid (fun W u h => few_sl L u W hlen h)
  have KS := Lib.hid (fun W u h => sort_ref L u W (by omega) h)
  have KN := Lib.hid (fun W u h => Nth_not L k u W hk h)
  have KM := Lib.hid (fun W u h => Median_yes L u W hlen h0 h)
  have HIL := Lib.hid (isort_len L)
  have n0 : (0 : Int) < L.length := by omega
  have n1 : (L.length : Int) ≤ 120 := by omega
  obtain ⟨q, hq⟩ : ∃ q, L.length / 2 = q := ⟨_, rfl⟩
  have n2 : (L.length : Int) / 2 = (q : Int) := by omega
  have n3 : (q : Int) < L.length := by omega
  have n4 : (0 : Int) ≤ (q : Int) := Int.natCast_nonneg _
  have n5 : wrap64 (q : Int) = q := PickC.wrap_small (by omega)
  have n6 : (L.length : Int).tdiv 2 = (q : Int) := by rw [Int.tdiv_eq_ediv_of_nonneg (by omega)]; exact n2
  have n7 : IntKind.i64.wrap (q : Int) = q := IntWalk.i64_in _ (by omega)
  rw [hq] at KM
  clear hlen hq h0
  clear hv hl
  go_enter Try.func4, Try.ntmps4
  go_wp2_with fail
  refine K1.out.mono ?_
  rintro e w1 ⟨u1, rfl, hf1, ho1, hn1⟩
  have HS1 := Lib.hid ho1.sl
  have F1 := Lib.hid hf1
  clear hf1 ho1 hn1
  go_wp2_with fail
  refine (KS.out _ _ HS1.out).mono ?_
  rintro e w2 ⟨u2, rfl, hf2, hs2, hn2⟩
  have HS2 := Lib.hid hs2
  have F2 := Lib.hid (F1.out.trans hf2)
  have HS1b := Lib.hid (SortB.Sl.fr HS1.out hf2)
  rcases hs2 with ⟨h, _⟩ | ⟨g, o, cap, rfl, hc, ha, hr⟩
  · exact absurd h hn2
  have HROW := Lib.hid hr
  have HGA := Lib.hid ha
  rw [HIL.out] at hc ⊢
  rw [HIL.out] at HS2
  have hcI : (L.length : Int) ≤ cap := by omega
  clear hr ha hc
  clear hf2  hn2
  go_wp2_with fail
  refine (KF.out _ _ HS1b.out).mono ?_
  rintro e w3 ⟨u3, rfl, hf3, hs3⟩
  have HS3 := Lib.hid hs3
  have R3 := Lib.hid hf3
  have HS1c := Lib.hid (SortB.Sl.fr HS1b.out hf3)
  clear hf3 hs3
  go_wp2_with fail
  refine (KN.out _ _ HS3.out).mono ?_
  rintro e w4 ⟨rfl, hf4⟩
  have R4 := Lib.hid (R3.out.trans hf4)
  have HS1d := Lib.hid (SortD.Sl.alloc (SortB.Sl.fr HS1c.out hf4) (.cells #[.int .i64 0, .int .i64 0] 28))
  have F5 := Lib.hid ((Fr.refl Nil w4).alloc (.cells #[.int .i64 0, .int .i64 0] 28))
  have HBV := Lib.hid (Bk.new w4 28 #[.int .i64 0, .int .i64 0])
  clear hf4
  go_wp2_with fail
  refine (KF.out _ _ HS1d.out).mono ?_
  rintro e w5 ⟨u5, rfl, hf5, hs5⟩
  have HS5 := Lib.hid hs5
  have R5 := Lib.hid (F5.out.trans hf5)
  have HBV5 := Lib.hid (HBV.out.fr hf5 id)
  clear hf5 hs5
  go_wp2_with fail
  refine (KM.out _ _ HS5.out).mono ?_
  rintro e w6 ⟨y, rfl, hy, hf6⟩
  have HY := Lib.hid hy
  clear hy
  have R7 := Lib.hid ((R5.out.trans hf6).alloc (.cells #[.int .i64 y.1, .int .i64 y.2] 28))
  have HBV7 := ((HBV5.out.fr hf6 id).alloc (.cells #[.int .i64 y.1, .int .i64 y.2] 28))
  have HBM7 := Bk.new w6 28 #[.int .i64 y.1, .int .i64 y.2]
  obtain ⟨a0, a1, _, _⟩ := HBV7.c2
  obtain ⟨b0, b1, _, _⟩ := HBM7.c2
  have F7 := Lib.hid ((F2.out.trans R4.out).trans R7.out)
  clear hf6
  obtain ⟨c0, c1⟩ := HROW.out.fr (R4.out.trans R7.out) HGA.out id q y HY.out
  rcases hk with hk | hk
  all_goals
    go_wp2_with fail
    go_quiet (fail)
    go_wp2_with fail
    refine (PL.out _).mono ?_
    rintro e w8 ⟨rfl, hf8⟩
    go_wp2_with fail
    exact bodyPost_ret (v := .bool true) (by simp [results, Try.results4, go_sem]) rfl ⟨rfl, (F7.out.drewN nq).trans hf8⟩

theorem nths_any (k : Int) (l : List Pr) (v : Value) (w : World) (hl : l.length ≤ maxLen) (hv : Come w v l) :
    Calls Try.prog 4 #[v, .int .i64 k] w fun e w' => e = .returned (.bool true) ∧ Fr Nil w w' := by
  by_cases h0 : l.take 120 = []
  · exact nths_nil k l v w hl hv h0
  · have h1 : 0 < (l.take 120).length := List.length_pos_iff.2 h0
    by_cases hk : 0 ≤ k ∧ k < ((l.take 120).length : Int)
    · obtain ⟨j, rfl⟩ := Int.eq_ofNat_of_zero_le hk.1
      exact nths_in j l v w hl hv (by omega)
    · exact nths_out k l v w hl hv h1 (by omega)
end Go.Proofs.Ytokgeegbeagblaa.GenL
