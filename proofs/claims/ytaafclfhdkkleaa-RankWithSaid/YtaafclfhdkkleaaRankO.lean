/- Chapter 9: the walk of the law RankWith. -/
import Derived.Test.YtaafclfhdkkleaaRankL
namespace Go.Proofs.Ytaafclfhdkkleaa.RankO
open Go.RowKit Base SortA IntB IntC IntD IntE IntG IntH IntI IntJ IntK IntL IntQ RankA RankB RankC RankD RankE RankF RankG RankH RankI RankJ RankK Quiet RankL
set_option linter.unusedVariables false
set_option linter.unusedSimpArgs false

theorem hasAll_congr {a b m : List Pr} (h : ∀ n, has a n = has b n) : hasAll a m = hasAll b m := by unfold hasAll; exact congrArg (List.all m) (funext fun p => h p.1)
theorem hasAll_true {a m : List Pr} (h : ∀ p ∈ m, has a p.1 = true) : hasAll a m = true := by unfold hasAll; rw [List.all_eq_true]; exact h

set_option maxRecDepth 100000 in
set_option maxHeartbeats 4000000 in
theorem with_any (l m : List Pr) (v v' : Value) (w : World) (hv : Come w v l) (hm : l.length ≤ maxLen) (hz : Zs l) (hv' : Come w v' m) (hm' : m.length ≤ maxLen) (hz' : Zs m) :
    Calls Try.prog 4 #[v, v'] w fun e w' => e = .returned (.bool true) ∧ Fr Nil w w' := by
  have hL : (l.take 40).length ≤ 40 := by rw [List.length_take]; omega
  have hM : (m.take 40).length ≤ 40 := by rw [List.length_take]; omega
  have hzL : Zs (l.take 40) := RankL.Zs.take hz 40
  have hzM : Zs (m.take 40) := RankL.Zs.take hz' 40
  have K1 := Lib.hid (Few_any l 40 v w hv (by decide) hm)
  have K1' := Lib.hid (fun W (h : Fr Nil w W) => Few_any m 40 v' W (hv'.fr h) (by decide) hm')
  clear hv hm hz hv' hm' hz'
  generalize l.take 40 = L at *
  generalize m.take 40 = M at *
  have hS : (refOf L).length ≤ 40 := Nat.le_trans (refOf_len' L) hL
  have hT : (refOf (L ++ M)).length ≤ 80 := Nat.le_trans (refOf_len' _) (by simp; omega)
  have KF := Lib.hid (fun W u h => Few_sl L 40 u W h (by decide) hL)
  have KF' := Lib.hid (fun W u h => Few_sl M 40 u W h (by decide) hM)
  have KN := Lib.hid (fun W u h => New_any L u W (by omega) h)
  have KW := Lib.hid (fun W r u h h' => With_any (refOf L) M r u W (by omega) (by omega) h h')
  have KO := Lib.hid (fun W u h => Of_any L u W (by omega) h)
  have KO' := Lib.hid (fun W u h => Of_any (L ++ M) u W (by simp; omega) h)
  rw [of_ref hzL] at KN
  rw [of_ref hzM, with_ref hzL hzM] at KW
  have KH := Lib.hid (fun W u n h => Has_ref L n u W (by omega) h)
  have KA := Lib.hid (fun W r u h h' => Has_any (refOf L) M r u W (by omega) (by omega) (ref_ris L).srt h h')
  have KB := Lib.hid (fun W r u h h' => Has_any (refOf (L ++ M)) M r u W (by omega) (by omega) (ref_ris _).srt h h')
  have KC := Lib.hid (fun W r u h h' => Has_any (refOf (L ++ M)) L r u W (by omega) (by omega) (ref_ris _).srt h h')
  rw [hasAll_congr (ref_has L)] at KA
  rw [hasAll_true (fun p hp => by rw [ref_has, has_append, (has_mem (l := M)).2 ⟨p, hp, rfl⟩, Bool.or_true])] at KB
  rw [hasAll_true (fun p hp => by rw [ref_has, has_append, (has_mem (l := L)).2 ⟨p, hp, rfl⟩, Bool.true_or])] at KC
  have KV := Lib.hid (fun W r h => values_any (refOf L) r W (by omega) h)
  have KS := Lib.hid (fun W a b h h' => same_any (refOf L) a b W (by omega) h h')
  have KV' := Lib.hid (fun W r h => values_any (refOf (L ++ M)) r W (by omega) h)
  have KS' := Lib.hid (fun W a b h h' => same_any (refOf (L ++ M)) a b W (by omega) h h')
  have KU := Lib.hid (fun W => lives_true W)
  have HLM := Lib.hid (show L.length + M.length ≤ 100000 by omega)
  have HFull := Lib.hid (show hasAll L (M.take M.length) = hasAll L M by rw [List.take_length])
  generalize refOf (L ++ M) = T at *
  generalize refOf L = S at *
  have G := Lib.hid (Fr.refl Nil w)
  clear hS hT hzL hzM hL
  go_enter Try.func4, Try.ntmps4
  go_wp2_with fail
  refine (K1.out).mono ?_
  rintro e w1 ⟨u0, rfl, hf, ho, hn⟩
  have G := Lib.hid (G.out.trans hf)
  have U := Lib.hid (ho.sl)
  clear hf
  clear ho hn
  obtain ⟨A0, c0, rfl⟩ := Sl.shape U.out
  go_wp2_with fail
  refine (K1'.out _ G.out).mono ?_
  rintro e w2 ⟨u1, rfl, hf, ho, hn⟩
  have G := Lib.hid (G.out.trans hf)
  have U := Lib.hid (U.out.fr hf)
  have V := Lib.hid (ho.sl)
  clear hf
  clear ho hn
  obtain ⟨A1, c1, rfl⟩ := Sl.shape V.out
  go_wp2_with fail
  refine (KF.out _ _ U.out).mono ?_
  rintro e w3 ⟨u2, rfl, hf, ho, hn⟩
  have G := Lib.hid (G.out.trans hf)
  have U := Lib.hid (U.out.fr hf)
  have V := Lib.hid (V.out.fr hf)
  have X := Lib.hid (ho.sl)
  clear hf
  clear ho hn
  obtain ⟨A2, c2, rfl⟩ := Sl.shape X.out
  go_wp2_with fail
  refine (KN.out _ _ X.out).mono ?_
  rintro e w4 ⟨r, rfl, hf, hr, hn⟩
  have G := Lib.hid (G.out.trans hf)
  have U := Lib.hid (U.out.fr hf)
  have V := Lib.hid (V.out.fr hf)
  have X := Lib.hid (X.out.fr hf)
  have R := Lib.hid (hr)
  clear hf hr
  clear hn
  go_wp2_with fail
  refine (KF'.out _ _ V.out).mono ?_
  rintro e w5 ⟨u3, rfl, hf, ho, hn⟩
  have G := Lib.hid (G.out.trans hf)
  have U := Lib.hid (U.out.fr hf)
  have V := Lib.hid (V.out.fr hf)
  have R := Lib.hid (R.out.fr hf)
  have Y := Lib.hid (ho.sl)
  clear hf
  clear ho hn
  obtain ⟨A3, c3, rfl⟩ := Sl.shape Y.out
  go_wp2_with fail
  refine (KW.out _ _ _ R.out Y.out).mono ?_
  rintro e w6 ⟨rw, rfl, hf, hr, hn⟩
  have G := Lib.hid (G.out.trans hf)
  have U := Lib.hid (U.out.fr hf)
  have V := Lib.hid (V.out.fr hf)
  have R := Lib.hid (R.out.fr hf)
  have Y := Lib.hid (Y.out.fr hf)
  have Q := Lib.hid (hr)
  clear hf hr
  clear hn
  go_wp2_with fail
  go_loopw [7, 8] (fun x7 i wr => ∃ (k : Nat), k ≤ M.length ∧ i = .int .i64 k ∧ x7 = .bool (hasAll L (M.take k)) ∧ Fr Nil w6 wr) (fun _ i _ => M.length - (intOf i).toNat)
  case atStart => exact ⟨0, by omega, rfl, rfl, Fr.refl _ _⟩
  case round =>
    obtain ⟨k, hk, rfl, rfl, hf⟩ := hrel
    have G := Lib.hid (G.out.trans hf)
    have U := Lib.hid (U.out.fr hf)
    have V := Lib.hid (V.out.fr hf)
    have R := Lib.hid (R.out.fr hf)
    have Q := Lib.hid (Q.out.fr hf)
    have HF := Lib.hid hf
    by_cases hlt : k < M.length
    · obtain ⟨y, hy⟩ : ∃ y, M[k]? = some y := ⟨M[k], List.getElem?_eq_getElem hlt⟩
      have HE := Lib.hid (hasAll_step (l := L) hy)
      have hV := V.out
      rcases hV with ⟨_, h0⟩ | ⟨g, o, cap, hse, hc, ha, hrow⟩
      · rw [h0] at hlt; simp at hlt
      injection hse with hs1 hs2 hs3
      subst hs1
      subst hs3
      have c0 := (hrow k y hy).1
      have KHy := Lib.hid (KH.out _ _ y.1 U.out)
      have hk0 : (0 : Int) ≤ k := Int.natCast_nonneg k
      have hlt' : (k : Int) < M.length := by omega
      clear hrow hy hf hc ha hs2
      generalize hasAll L (M.take k) = a0 at *
      cases a0 with
      | false =>
        go_wp2_with fail
        go_roundw
        case rel => exact ⟨k + 1, by omega, by go_num, by rw [HE.out]; rfl, HF.out⟩
        case measure => simp [intOf]; omega
      | true =>
        go_wp2_with fail
        refine KHy.out.mono ?_
        rintro e w7 ⟨rfl, hf⟩
        have HF7 := Lib.hid (HF.out.trans hf)
        clear hf
        go_wp2_with fail
        go_roundw
        case rel => exact ⟨k + 1, by omega, by go_num, by rw [HE.out]; rfl, HF7.out⟩
        case measure => simp [intOf]; omega
    · obtain rfl : k = M.length := by omega
      rw [HFull.out]
      clear hf HFull
      generalize hasAll L M = a0 at *
      go_wp2_with fail
      refine (KV'.out _ _ Q.out).mono ?_
      rintro e w7 ⟨x, rfl, hf, hx⟩
      have G := Lib.hid (G.out.trans hf)
      have U := Lib.hid (U.out.fr hf)
      have V := Lib.hid (V.out.fr hf)
      have R := Lib.hid (R.out.fr hf)
      have Q := Lib.hid (Q.out.fr hf)
      have X := Lib.hid (hx)
      clear hf hx
      obtain ⟨A5, c5, rfl⟩ := Sl.shape X.out
      go_wp2_with fail
      have U7 := U
      have V7 := V
      have X7 := X
      have Q7 := Q
      have R7 := R
      have G7 := G
      refine (KF.out _ _ U.out).mono ?_
      rintro e w8 ⟨y, rfl, hf, ho, hn⟩
      have G := Lib.hid (G.out.trans hf)
      have U := Lib.hid (U.out.fr hf)
      have V := Lib.hid (V.out.fr hf)
      have R := Lib.hid (R.out.fr hf)
      have Q := Lib.hid (Q.out.fr hf)
      have X := Lib.hid (X.out.fr hf)
      have Y := Lib.hid (ho)
      have Y0 := Lib.hid (hf.size)
      have FY := Lib.hid (hf)
      clear hf ho
      clear hn
      obtain ⟨A6, c6, rfl⟩ := Sl.shape Y.out.sl
      go_wp2_with (at_builtin; refine wpList_app rfl (.tmp 38) (.tmp 39) rfl w7.heap.size _ _ L M rfl Y.out rfl V.out HLM.out Y0.out ?_; intro z wz hz1 hz2 hz3 hz4)
      have FZ := Lib.hid (Fr.then FY.out hz2 (fun i hi hlt => by have := (hz3 i hi).1; omega))
      have Z := Lib.hid hz1.sl
      clear hz1 hz2 hz3 hz4
      have U := Lib.hid (U7.out.fr FZ.out)
      have V := Lib.hid (V7.out.fr FZ.out)
      have X := Lib.hid (X7.out.fr FZ.out)
      have Q := Lib.hid (Q7.out.fr FZ.out)
      have R := Lib.hid (R7.out.fr FZ.out)
      have G := Lib.hid (G7.out.trans FZ.out)
      refine (KO'.out _ _ Z.out).mono ?_
      rintro e w9 ⟨t, rfl, hf, hs⟩
      have G := Lib.hid (G.out.trans hf)
      have U := Lib.hid (U.out.fr hf)
      have V := Lib.hid (V.out.fr hf)
      have R := Lib.hid (R.out.fr hf)
      have Q := Lib.hid (Q.out.fr hf)
      have X := Lib.hid (X.out.fr hf)
      have Z := Lib.hid (Z.out.fr hf)
      have T0 := Lib.hid (hs)
      clear hf hs
      go_wp2_with fail
      refine (KS'.out _ _ _ X.out T0.out).mono ?_
      rintro e w10 ⟨rfl, hf⟩
      have G := Lib.hid (G.out.trans hf)
      have U := Lib.hid (U.out.fr hf)
      have V := Lib.hid (V.out.fr hf)
      have R := Lib.hid (R.out.fr hf)
      have Q := Lib.hid (Q.out.fr hf)
      have X := Lib.hid (X.out.fr hf)
      have T0 := Lib.hid (T0.out.fr hf)
      clear hf
      go_wp2_with fail
      refine (KV.out _ _ R.out).mono ?_
      rintro e w11 ⟨t2, rfl, hf, hs⟩
      have G := Lib.hid (G.out.trans hf)
      have U := Lib.hid (U.out.fr hf)
      have V := Lib.hid (V.out.fr hf)
      have R := Lib.hid (R.out.fr hf)
      have Q := Lib.hid (Q.out.fr hf)
      have T0 := Lib.hid (hs)
      clear hf hs
      go_wp2_with fail
      refine (KO.out _ _ U.out).mono ?_
      rintro e w12 ⟨t3, rfl, hf, hs⟩
      have G := Lib.hid (G.out.trans hf)
      have U := Lib.hid (U.out.fr hf)
      have V := Lib.hid (V.out.fr hf)
      have R := Lib.hid (R.out.fr hf)
      have Q := Lib.hid (Q.out.fr hf)
      have T0 := Lib.hid (T0.out.fr hf)
      have T1 := Lib.hid (hs)
      clear hf hs
      go_wp2_with fail
      refine (KS.out _ _ _ T0.out T1.out).mono ?_
      rintro e w13 ⟨rfl, hf⟩
      have G := Lib.hid (G.out.trans hf)
      have U := Lib.hid (U.out.fr hf)
      have V := Lib.hid (V.out.fr hf)
      have R := Lib.hid (R.out.fr hf)
      have Q := Lib.hid (Q.out.fr hf)
      have T0 := Lib.hid (T0.out.fr hf)
      have T1 := Lib.hid (T1.out.fr hf)
      clear hf
      go_wp2_with fail
      refine (KF'.out _ _ V.out).mono ?_
      rintro e w14 ⟨y2, rfl, hf, ho, hn⟩
      have G := Lib.hid (G.out.trans hf)
      have U := Lib.hid (U.out.fr hf)
      have V := Lib.hid (V.out.fr hf)
      have R := Lib.hid (R.out.fr hf)
      have Q := Lib.hid (Q.out.fr hf)
      have Y := Lib.hid (ho.sl)
      clear hf
      clear ho hn
      obtain ⟨A8, c8, rfl⟩ := Sl.shape Y.out
      go_wp2_with fail
      refine (KA.out _ _ _ R.out Y.out).mono ?_
      rintro e w15 ⟨rfl, hf⟩
      have G := Lib.hid (G.out.trans hf)
      have U := Lib.hid (U.out.fr hf)
      have V := Lib.hid (V.out.fr hf)
      have R := Lib.hid (R.out.fr hf)
      have Q := Lib.hid (Q.out.fr hf)
      have Y := Lib.hid (Y.out.fr hf)
      clear hf
      go_wp2_with fail
      refine (KB.out _ _ _ Q.out V.out).mono ?_
      rintro e w16 ⟨rfl, hf⟩
      have G := Lib.hid (G.out.trans hf)
      have U := Lib.hid (U.out.fr hf)
      have V := Lib.hid (V.out.fr hf)
      have R := Lib.hid (R.out.fr hf)
      have Q := Lib.hid (Q.out.fr hf)
      clear hf
      go_wp2_with fail
      refine (KC.out _ _ _ Q.out U.out).mono ?_
      rintro e w17 ⟨rfl, hf⟩
      have G := Lib.hid (G.out.trans hf)
      have U := Lib.hid (U.out.fr hf)
      have V := Lib.hid (V.out.fr hf)
      have R := Lib.hid (R.out.fr hf)
      have Q := Lib.hid (Q.out.fr hf)
      clear hf
      go_wp2_with fail
      refine (KU.out _).mono ?_
      rintro e w18 ⟨rfl, hf⟩
      have G := Lib.hid (G.out.trans hf)
      have U := Lib.hid (U.out.fr hf)
      have V := Lib.hid (V.out.fr hf)
      have R := Lib.hid (R.out.fr hf)
      have Q := Lib.hid (Q.out.fr hf)
      clear hf
      go_wp2_with fail
      go_ret
      exact ⟨rfl, G.out⟩
end Go.Proofs.Ytaafclfhdkkleaa.RankO
