/- Chapter 8: the walk of the law PickSplits. -/
import Derived.Test.YtokgeegbeagblaaGenO
namespace Go.Proofs.Ytokgeegbeagblaa.GenP
open Go.RowKit Base SortA SortB SortC SortD SortE SortF SortG SortI SortK SortO PickA PickB PickC GenA GenC GenD GenF GenH GenI GenJ GenK GenL GenM GenO Quiet
set_option linter.unusedVariables false
set_option linter.unusedSimpArgs false

theorem Split_not (l : List Pr) (k : Int) (v : Value) (w : World) (hk : k < 0 ∨ (l.length : Int) ≤ k) (hv : Sl w v l) :
    Calls Try.prog 18 #[v, .int .i64 k, .func (.func 14) #[] #[]] w fun e w' => e = .returned (.tuple #[.slice none 0 0, .agg #[.int .i64 0, .int .i64 0], .slice none 0 0, .bool false]) ∧ Fr Nil w w' := by
  obtain ⟨A, c, rfl⟩ := Sl.shape hv
  exact Split_no w A _ c k hk

set_option maxRecDepth 100000 in
set_option maxHeartbeats 8000000 in
theorem splits_neg (k : Int) (l : List Pr) (v : Value) (w : World) (hl : l.length ≤ maxLen) (hv : Come w v l) (hk : k < 0) :
    Calls Try.prog 6 #[v, .int .i64 k] w fun e w' => e = .returned (.bool true) ∧ Fr Nil w w' := by
  have K1 := Lib.hid (few_any l v w hl hv)
  have PL := Lib.hid (fun W => lives_any W)
  have hlen : (l.take 120).length ≤ 120 := by rw [List.length_take]; omega
  generalize l.take 120 = L at *
  have KF := Lib.hid (fun W u h => few_sl L u W hlen h)
  have KS := Lib.hid (fun W u h => sort_ref L u W (by omega) h)
  have KN := Lib.hid (fun W u h => Split_not L k u W (Or.inl hk) h)
  have KM := Lib.hid (fun W u h => Least_any L k u W hlen h)
  have HIL := Lib.hid (isort_len L)
  have HLN := Lib.hid hlen
  have HLS := Lib.hid (show few_least L k = [] from by unfold few_least; rw [show k.toNat = 0 by omega]; rfl)
  clear hv hl hlen
  go_enter Try.func6, Try.ntmps6
  go_wp2_with fail
  refine K1.out.mono ?_
  rintro e w1 ⟨u1, rfl, hf1, ho1, hn1⟩
  have HS1 := Lib.hid ho1.sl
  have F1 := Lib.hid hf1
  clear hf1 ho1 hn1
  go_wp2_with fail
  refine (KS.out _ _ HS1.out).mono ?_
  rintro e w2 ⟨u2, rfl, hf2, hs2, hn2⟩
  have HS2 := Lib.hid hs2
  have F2 := Lib.hid (F1.out.trans hf2)
  have HS1b := Lib.hid (SortB.Sl.fr HS1.out hf2)
  rcases hs2 with ⟨h, _⟩ | ⟨g, o, cap, rfl, hc, ha, hr⟩
  · exact absurd h hn2
  have HROW := Lib.hid hr
  have HGA := Lib.hid ha
  have HCAP := Lib.hid hc
  rw [HIL.out] at hc ⊢
  rw [HIL.out] at HS2
  have hcI : (L.length : Int) ≤ cap := by omega
  clear hr ha hc hf2 hn2
  go_wp2_with fail
  refine (KF.out _ _ HS1b.out).mono ?_
  rintro e w3 ⟨u3, rfl, hf3, hs3⟩
  have HS3 := Lib.hid hs3
  have R3 := Lib.hid hf3
  have HS1c := Lib.hid (SortB.Sl.fr HS1b.out hf3)
  clear hf3 hs3
  go_wp2_with fail
  refine (KN.out _ _ HS3.out).mono ?_
  rintro e w4 ⟨rfl, hf4⟩
  have R4 := Lib.hid (R3.out.trans hf4)
  have HS1d := Lib.hid (SortD.Sl.alloc (SortB.Sl.fr HS1c.out hf4) (.cells #[.int .i64 0, .int .i64 0] 28))
  have F5 := Lib.hid ((Fr.refl Nil w4).alloc (.cells #[.int .i64 0, .int .i64 0] 28))
  have HBV := Lib.hid (Bk.new w4 28 #[.int .i64 0, .int .i64 0])
  clear hf4
  go_wp2_with fail
  refine (KF.out _ _ HS1d.out).mono ?_
  rintro e w5 ⟨u5, rfl, hf5, hs5⟩
  have HS5 := Lib.hid hs5
  have R5 := Lib.hid (F5.out.trans hf5)
  have HBV5 := Lib.hid (HBV.out.fr hf5 id)
  clear hf5 hs5
  go_wp2_with fail
  refine (KM.out _ _ HS5.out).mono ?_
  rintro e w6 ⟨u6, rfl, hf6, hs6⟩
  have R6 := Lib.hid (R5.out.trans hf6)
  have HBV6 := Lib.hid (HBV5.out.fr hf6 id)
  rw [HLS.out] at hs6
  have HS6 := Lib.hid hs6
  have F6 := Lib.hid ((F2.out.trans R4.out).trans R6.out)
  obtain ⟨A6, c6, rfl⟩ := Sl.shape hs6
  obtain ⟨a0, a1, _, _⟩ := HBV6.out.c2
  clear hs6 hf6
  go_wp2_with fail
  refine (PL.out _).mono ?_
  rintro e w8 ⟨rfl, hf8⟩
  go_wp2_with fail
  exact bodyPost_ret (v := .bool true) (by simp [results, Try.results6, go_sem]) rfl ⟨rfl, F6.out.trans hf8⟩

set_option maxRecDepth 100000 in
set_option maxHeartbeats 8000000 in
theorem splits_out (k : Int) (l : List Pr) (v : Value) (w : World) (hl : l.length ≤ maxLen) (hv : Come w v l) (hk : ((l.take 120).length : Int) ≤ k) :
    Calls Try.prog 6 #[v, .int .i64 k] w fun e w' => e = .returned (.bool true) ∧ Fr Nil w w' := by
  have K1 := Lib.hid (few_any l v w hl hv)
  have PL := Lib.hid (fun W => lives_any W)
  have hlen : (l.take 120).length ≤ 120 := by rw [List.length_take]; omega
  generalize l.take 120 = L at *
  have KF := Lib.hid (fun W u h => few_sl L u W hlen h)
  have KS := Lib.hid (fun W u h => sort_ref L u W (by omega) h)
  have KN := Lib.hid (fun W u h => Split_not L k u W (Or.inr hk) h)
  have KM := Lib.hid (fun W u h => Least_any L k u W hlen h)
  have HIL := Lib.hid (isort_len L)
  have HLN := Lib.hid hlen
  have HLS := Lib.hid (show few_least L k = isort L from List.take_of_length_le (by rw [isort_len]; omega))
  have KE := Lib.hid (fun W a b h1 h2 => same_any (isort L) a b W (by rw [isort_len]; omega) h1 h2)
  have hk0 : 0 ≤ k := by omega
  clear hv hl hlen
  go_enter Try.func6, Try.ntmps6
  go_wp2_with fail
  refine K1.out.mono ?_
  rintro e w1 ⟨u1, rfl, hf1, ho1, hn1⟩
  have HS1 := Lib.hid ho1.sl
  have F1 := Lib.hid hf1
  clear hf1 ho1 hn1
  go_wp2_with fail
  refine (KS.out _ _ HS1.out).mono ?_
  rintro e w2 ⟨u2, rfl, hf2, hs2, hn2⟩
  have HS2 := Lib.hid hs2
  have F2 := Lib.hid (F1.out.trans hf2)
  have HS1b := Lib.hid (SortB.Sl.fr HS1.out hf2)
  rcases hs2 with ⟨h, _⟩ | ⟨g, o, cap, rfl, hc, ha, hr⟩
  · exact absurd h hn2
  have HROW := Lib.hid hr
  have HGA := Lib.hid ha
  have HCAP := Lib.hid hc
  rw [HIL.out] at hc ⊢
  rw [HIL.out] at HS2
  have hcI : (L.length : Int) ≤ cap := by omega
  clear hr ha hc hf2 hn2
  go_wp2_with fail
  refine (KF.out _ _ HS1b.out).mono ?_
  rintro e w3 ⟨u3, rfl, hf3, hs3⟩
  have HS3 := Lib.hid hs3
  have R3 := Lib.hid hf3
  have HS1c := Lib.hid (SortB.Sl.fr HS1b.out hf3)
  clear hf3 hs3
  go_wp2_with fail
  refine (KN.out _ _ HS3.out).mono ?_
  rintro e w4 ⟨rfl, hf4⟩
  have R4 := Lib.hid (R3.out.trans hf4)
  have HS1d := Lib.hid (SortD.Sl.alloc (SortB.Sl.fr HS1c.out hf4) (.cells #[.int .i64 0, .int .i64 0] 28))
  have F5 := Lib.hid ((Fr.refl Nil w4).alloc (.cells #[.int .i64 0, .int .i64 0] 28))
  have HBV := Lib.hid (Bk.new w4 28 #[.int .i64 0, .int .i64 0])
  clear hf4
  go_wp2_with fail
  refine (KF.out _ _ HS1d.out).mono ?_
  rintro e w5 ⟨u5, rfl, hf5, hs5⟩
  have HS5 := Lib.hid hs5
  have R5 := Lib.hid (F5.out.trans hf5)
  have HBV5 := Lib.hid (HBV.out.fr hf5 id)
  clear hf5 hs5
  go_wp2_with fail
  refine (KM.out _ _ HS5.out).mono ?_
  rintro e w6 ⟨u6, rfl, hf6, hs6⟩
  have R6 := Lib.hid (R5.out.trans hf6)
  have HBV6 := Lib.hid (HBV5.out.fr hf6 id)
  rw [HLS.out] at hs6
  have HS6 := Lib.hid hs6
  have F6 := Lib.hid ((F2.out.trans R4.out).trans R6.out)
  obtain ⟨A6, c6, rfl⟩ := Sl.shape hs6
  obtain ⟨a0, a1, _, _⟩ := HBV6.out.c2
  clear hs6 hf6
  rw [HIL.out] at HS6 ⊢
  go_wp2_with fail
  refine (KE.out _ _ _ HS6.out (SortB.Sl.fr HS2.out (R4.out.trans R6.out))).mono ?_
  rintro e w7 ⟨rfl, hf7⟩
  have F7 := Lib.hid (F6.out.trans hf7)
  clear hf7
  go_wp2_with fail
  refine (PL.out _).mono ?_
  rintro e w8 ⟨rfl, hf8⟩
  go_wp2_with fail
  exact bodyPost_ret (v := .bool true) (by simp [results, Try.results6, go_sem]) rfl ⟨rfl, F7.out.trans hf8⟩

set_option maxRecDepth 100000 in
set_option maxHeartbeats 8000000 in
theorem splits_in (k : Nat) (l : List Pr) (v : Value) (w : World) (hl : l.length ≤ maxLen) (hv : Come w v l) (hk : k < (l.take 120).length) :
    Calls Try.prog 6 #[v, .int .i64 k] w fun e w' => e = .returned (.bool true) ∧ Fr Nil w w' := by
  have K1 := Lib.hid (few_any l v w hl hv)
  have PL := Lib.hid (fun W => lives_any W)
  have hlen : (l.take 120).length ≤ 120 := by rw [List.length_take]; omega
  generalize l.take 120 = L at *
  have KF := Lib.hid (fun W u h => few_sl L u W hlen h)
  have KS := Lib.hid (fun W u h => sort_ref L u W (by omega) h)
  have KN := Lib.hid (fun W u h => Split_yes L k u W hlen hk h)
  have KM := Lib.hid (fun W u h => Least_any L k u W hlen h)
  have HIL := Lib.hid (isort_len L)
  have HLN := Lib.hid hlen
  have HLS := Lib.hid (show few_least L (k : Int) = (isort L).take k from by unfold few_least; rw [show ((k : Int)).toNat = k by omega])
  have m0 : (0 : Int) ≤ (k : Int) := Int.natCast_nonneg _
  have m1 : (k : Int) < L.length := by omega
  have m2 : (k : Int) ≤ L.length := by omega
  have m3 : (k : Int) + 1 ≤ L.length := by omega
  have m4 : (0 : Int) ≤ (k : Int) + 1 := by omega
  have m5 : ((k : Int) + 1).toNat = k + 1 := by omega
  have M6 := Lib.hid (show IntKind.i64.wrap ((k : Int) + 1) = (k : Int) + 1 from IntWalk.i64_in _ (by omega))
  have HK := Lib.hid hk
  clear hk
  clear hv hl hlen
  go_enter Try.func6, Try.ntmps6
  go_wp2_with fail
  refine K1.out.mono ?_
  rintro e w1 ⟨u1, rfl, hf1, ho1, hn1⟩
  have HS1 := Lib.hid ho1.sl
  have F1 := Lib.hid hf1
  clear hf1 ho1 hn1
  go_wp2_with fail
  refine (KS.out _ _ HS1.out).mono ?_
  rintro e w2 ⟨u2, rfl, hf2, hs2, hn2⟩
  have HS2 := Lib.hid hs2
  have F2 := Lib.hid (F1.out.trans hf2)
  have HS1b := Lib.hid (SortB.Sl.fr HS1.out hf2)
  rcases hs2 with ⟨h, _⟩ | ⟨g, o, cap, rfl, hc, ha, hr⟩
  · exact absurd h hn2
  have HROW := Lib.hid hr
  have HGA := Lib.hid ha
  have HCAP := Lib.hid hc
  rw [HIL.out] at hc ⊢
  rw [HIL.out] at HS2
  have hcI : (L.length : Int) ≤ cap := by omega
  have m7 : (k : Int) ≤ cap := by omega
  have m8 : (k : Int) + 1 ≤ cap := by omega
  clear hr ha hc hf2 hn2
  go_wp2_with fail
  refine (KF.out _ _ HS1b.out).mono ?_
  rintro e w3 ⟨u3, rfl, hf3, hs3⟩
  have HS3 := Lib.hid hs3
  have R3 := Lib.hid hf3
  have HS1c := Lib.hid (SortB.Sl.fr HS1b.out hf3)
  clear hf3 hs3
  go_wp2_with fail
  refine (KN.out _ _ HS3.out).mono ?_
  rintro e w4 ⟨x, va, vc, rfl, hx, hva, hvc, hnew, hf4⟩
  have HX := Lib.hid hx
  have HVA := Lib.hid (SortD.Sl.alloc hva (.cells #[.int .i64 x.1, .int .i64 x.2] 28))
  have HVC := Lib.hid (SortD.Sl.alloc hvc (.cells #[.int .i64 x.1, .int .i64 x.2] 28))
  clear hx hva hvc hnew
  have R4 := Lib.hid (R3.out.trans hf4)
  have HS1d := Lib.hid (SortD.Sl.alloc (SortB.Sl.fr HS1c.out hf4) (.cells #[.int .i64 x.1, .int .i64 x.2] 28))
  have F5 := Lib.hid ((Fr.refl Nil w4).alloc (.cells #[.int .i64 x.1, .int .i64 x.2] 28))
  have HBV := Lib.hid (Bk.new w4 28 #[.int .i64 x.1, .int .i64 x.2])
  clear hf4
  go_wp2_with fail
  refine (KF.out _ _ HS1d.out).mono ?_
  rintro e w5 ⟨u5, rfl, hf5, hs5⟩
  have HS5 := Lib.hid hs5
  have R5 := Lib.hid (F5.out.trans hf5)
  have HBV5 := Lib.hid (HBV.out.fr hf5 id)
  have HVA5 := Lib.hid (SortB.Sl.fr HVA.out hf5)
  have HVC5 := Lib.hid (SortB.Sl.fr HVC.out hf5)
  clear hf5 hs5
  go_wp2_with fail
  refine (KM.out _ _ HS5.out).mono ?_
  rintro e w6 ⟨u6, rfl, hf6, hs6⟩
  have R6 := Lib.hid (R5.out.trans hf6)
  have HBV6 := Lib.hid (HBV5.out.fr hf6 id)
  rw [HLS.out] at hs6
  have HS6 := Lib.hid hs6
  have F6 := Lib.hid ((F2.out.trans R4.out).trans R6.out)
  obtain ⟨A6, c6, rfl⟩ := Sl.shape hs6
  have htk : ((isort L).take k).length = k := by rw [List.length_take, HIL.out]; have := HK.out; omega
  rw [htk] at HS6 ⊢
  have HVA6 := Lib.hid (SortB.Sl.fr HVA5.out hf6)
  have HVC6 := Lib.hid (SortB.Sl.fr HVC5.out hf6)
  have hrow6 := HROW.out.fr (R4.out.trans R6.out) HGA.out id
  have hga6 : g < w6.heap.size := Nat.lt_of_lt_of_le HGA.out (R4.out.trans R6.out).size
  have HHD := Lib.hid (head_sl k HCAP.out (by rw [HIL.out]; have := HK.out; omega) hga6 hrow6)
  have HTL := Lib.hid (tail_sl (k + 1) HCAP.out (by rw [HIL.out]; have := HK.out; omega) hga6 hrow6)
  rw [HIL.out] at HTL
  have hbl : (lo x.1 L ++ (mi x.1 L).take (k - (lo x.1 L).length)).length ≤ 200 := by rw [(perm_lo HX.out).length_eq, htk]; have := HK.out; have := HLN.out; omega
  have hbh : (hi x.1 L ++ (mi x.1 L).drop (k - (lo x.1 L).length + 1)).length ≤ 200 := by rw [(perm_hi HX.out).length_eq, List.length_drop, HIL.out]; have := HLN.out; omega
  have KB1 := Lib.hid (fun (p : FrW Nil w6) => bag_any _ _ va (.slice (some ⟨g, o, none⟩) k cap) p.val hbl (perm_lo HX.out) (SortB.Sl.fr HVA6.out p.fr) (SortB.Sl.fr HHD.out p.fr))
  have KB2 := Lib.hid (fun (p : FrW Nil w6) => bag_any _ _ vc (.slice (if cap = k + 1 then some ⟨g, o, none⟩ else some ⟨g, o + (k + 1) * 2, none⟩) (L.length - (k + 1)) (cap - (k + 1))) p.val hbh (perm_hi HX.out) (SortB.Sl.fr HVC6.out p.fr) (SortB.Sl.fr HTL.out p.fr))
  have KE := Lib.hid (fun (p : FrW Nil w6) => same_any ((isort L).take k) (.slice A6 k c6) (.slice (some ⟨g, o, none⟩) k cap) p.val (by rw [htk]; have := HK.out; have := HLN.out; omega) (SortB.Sl.fr HS6.out p.fr) (SortB.Sl.fr HHD.out p.fr))
  have q1 := fun (p : FrW Nil w6) => (HBV6.out.fr p.fr id).c2.1
  have q2 := fun (p : FrW Nil w6) => (HBV6.out.fr p.fr id).c2.2.1
  have q3 := fun (p : FrW Nil w6) => (hrow6.fr p.fr hga6 id k x HX.out).1
  have q4 := fun (p : FrW Nil w6) => (hrow6.fr p.fr hga6 id k x HX.out).2
  clear hs6 hf6 htk hrow6 hga6 hbl hbh
  go_wp2_with fail
  have m6 := M6.out
  refine wp_region_quiet_fr Nil (by kernel_rfl) (by kernel_rfl) ?_
  repeat (go_big_quiet_step (first
    | (go_at_call 20; with_reducible exact quiet_call (KB1.out _))
    | (go_at_call 20; with_reducible exact quiet_call (KB2.out _))
    | (go_at_call 17; with_reducible exact quiet_call (KE.out _))
    | (go_at_call 12; with_reducible exact quiet_call (PL.out _))))
  refine wpQuiet_nil ?_
  intro w9 hw'
  obtain ⟨⟨wq, hfq⟩, hw''⟩ := hw'
  subst hw''
  clear m6 q1 q2 q3 q4
  go_wp2_with fail
  all_goals exact bodyPost_ret (v := .bool true) (by simp [results, Try.results6, go_sem]) rfl ⟨rfl, F6.out.trans hfq⟩

theorem splits_any (k : Int) (l : List Pr) (v : Value) (w : World) (hl : l.length ≤ maxLen) (hv : Come w v l) :
    Calls Try.prog 6 #[v, .int .i64 k] w fun e w' => e = .returned (.bool true) ∧ Fr Nil w w' := by
  rcases Int.lt_or_le k 0 with h | h
  · exact splits_neg k l v w hl hv h
  · by_cases h2 : k < ((l.take 120).length : Int)
    · obtain ⟨j, rfl⟩ := Int.eq_ofNat_of_zero_le h
      exact splits_in j l v w hl hv (by omega)
    · exact splits_out k l v w hl hv (by omega)
end Go.Proofs.Ytokgeegbeagblaa.GenP
