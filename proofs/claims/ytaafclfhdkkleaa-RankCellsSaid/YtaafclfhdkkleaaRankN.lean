/- Chapter 9: the walk of the law RankCells. -/
import Derived.Test.YtaafclfhdkkleaaRankL
namespace Go.Proofs.Ytaafclfhdkkleaa.RankN
open Go.RowKit Base SortA IntB IntC IntD IntE IntG IntH IntI IntJ IntK IntL IntQ RankA RankB RankC RankD RankE RankF RankG RankH RankI RankJ RankK Quiet RankL
set_option linter.unusedVariables false
set_option linter.unusedSimpArgs false

set_option maxRecDepth 100000 in
set_option maxHeartbeats 4000000 in
theorem cells_any (l : List Pr) (x y n : Int) (v : Value) (w : World) (hv : Come w v l) (hm : l.length ≤ maxLen) (hz : Zs l) :
    Calls Try.prog 3 #[v, .agg #[.int .i64 x, .int .i64 y], .int .i64 n] w fun e w' => e = .returned (.bool true) ∧ Fr Nil w w' := by
  have hv := hv.fr ((Fr.refl Nil w).alloc (.cells #[.int .i64 x, .int .i64 y] 23))
  have HB := Lib.hid (Bk.new w 23 #[.int .i64 x, .int .i64 y])
  have G := Lib.hid ((Fr.refl Nil w).alloc (.cells #[.int .i64 x, .int .i64 y] 23))
  have hL : (l.take 60).length ≤ 60 := by rw [List.length_take]; omega
  have hzL : Zs (l.take 60) := RankL.Zs.take hz 60
  have K1 := Lib.hid (Few_any l 60 v _ hv (by decide) hm)
  clear hv hm hz
  generalize l.take 60 = L at *
  have hS : (refOf L).length ≤ 60 := Nat.le_trans (refOf_len' L) hL
  have hE : uq (isort L) = refOf L := of_ref hzL
  have hR : Ris (refOf L) := ref_ris L
  have K2 := Lib.hid (fun W u h => Few_sl L 60 u W h (by decide) hL)
  have K3 := Lib.hid (fun W u h => New_any L u W (by omega) h)
  have K4 := Lib.hid (fun W u h => Of_any L u W (by omega) h)
  rw [hE] at K3
  generalize refOf L = S at *
  have KV := Lib.hid (fun W r h => values_any S r W (by omega) h)
  have KS := Lib.hid (fun W a b h h' => same_any S a b W (by omega) h h')
  have KCv := Lib.hid (fun W r h => Cell_any S (n, 0) r W (by omega) hR.srt h)
  have KCr := Lib.hid (fun W u h => Cell_ref S (n, 0) u W (by omega) hR.srt h)
  have KXr := Lib.hid (fun W u h => Cell_ref S (x, 0) u W (by omega) hR.srt h)
  have KYr := Lib.hid (fun W u h => Cell_ref S (y, 0) u W (by omega) hR.srt h)
  have KHx := Lib.hid (fun W u h => Has_ref S x u W (by omega) h)
  have KHy := Lib.hid (fun W u h => Has_ref S y u W (by omega) h)
  have KOk := Lib.hid (fun W r (hxy : x ≤ y) h => Cells_ok S (x, 0) (y, 0) r W (by omega) hR.srt h hxy)
  have KBad := Lib.hid (fun W r (hxy : y < x) => Cells_bad x y r W hxy)
  have KU := Lib.hid (fun W => lives_true W)
  have hlo := fun (h : has S x = true) => cell_lo (v := n) hR.srt h
  have hhi := fun (h : has S y = true) => cell_hi (v := n) hR.srt h
  dsimp only at KCv KCr KXr KYr KOk
  clear hE hzL hR hL
  generalize cellOf S n = cn at *
  generalize cellOf S x = cx at *
  generalize cellOf S y = cy at *
  generalize has S x = hx at *
  generalize has S y = hy at *
  have HLO := Lib.hid hlo
  have HHI := Lib.hid hhi
  clear hlo hhi
  go_enter Try.func3, Try.ntmps3
  go_wp2_with fail
  refine (K1.out).mono ?_
  rintro e w1 ⟨u0, rfl, hf, ho, hn⟩
  have G := Lib.hid (G.out.trans hf)
  have HB := Lib.hid (HB.out.fr hf id)
  have U := Lib.hid (ho.sl)
  clear hf
  clear ho hn
  obtain ⟨A0, c0, rfl⟩ := Sl.shape U.out
  go_wp2_with fail
  refine (K2.out _ _ U.out).mono ?_
  rintro e w2 ⟨u1, rfl, hf, ho, hn⟩
  have G := Lib.hid (G.out.trans hf)
  have HB := Lib.hid (HB.out.fr hf id)
  have U := Lib.hid (U.out.fr hf)
  have V := Lib.hid (ho.sl)
  clear hf
  clear ho hn
  obtain ⟨A1, c1, rfl⟩ := Sl.shape V.out
  go_wp2_with fail
  refine (K3.out _ _ V.out).mono ?_
  rintro e w3 ⟨r, rfl, hf, hr, hn⟩
  have G := Lib.hid (G.out.trans hf)
  have HB := Lib.hid (HB.out.fr hf id)
  have U := Lib.hid (U.out.fr hf)
  have V := Lib.hid (V.out.fr hf)
  have R := Lib.hid (hr)
  clear hf hr
  clear hn
  go_wp2_with fail
  refine (K4.out _ _ U.out).mono ?_
  rintro e w4 ⟨s, rfl, hf, hs⟩
  have G := Lib.hid (G.out.trans hf)
  have HB := Lib.hid (HB.out.fr hf id)
  have U := Lib.hid (U.out.fr hf)
  have R := Lib.hid (R.out.fr hf)
  have T := Lib.hid (hs)
  clear hf hs
  obtain ⟨A4, c4, rfl⟩ := Sl.shape T.out
  obtain ⟨b0, b1, _, _⟩ := HB.out.c2
  go_wp2_with fail
  by_cases hxy : x ≤ y
  · refine (KOk.out _ _ hxy R.out).mono ?_
    rintro e w5 ⟨rfl, hf⟩
    have G := Lib.hid (G.out.trans hf)
    have HB := Lib.hid (HB.out.fr hf id)
    have R := Lib.hid (R.out.fr hf)
    have T := Lib.hid (T.out.fr hf)
    clear hf
    obtain ⟨b0, b1, _, _⟩ := HB.out.c2
    go_wp2_with fail
    refine (KCv.out _ _ R.out).mono ?_
    rintro e w6 ⟨rfl, hf⟩
    have G := Lib.hid (G.out.trans hf)
    have HB := Lib.hid (HB.out.fr hf id)
    have R := Lib.hid (R.out.fr hf)
    have T := Lib.hid (T.out.fr hf)
    clear hf
    obtain ⟨b0, b1, _, _⟩ := HB.out.c2
    go_wp2_with fail
    refine (KCr.out _ _ T.out).mono ?_
    rintro e w7 ⟨rfl, hf⟩
    have G := Lib.hid (G.out.trans hf)
    have HB := Lib.hid (HB.out.fr hf id)
    have R := Lib.hid (R.out.fr hf)
    have T := Lib.hid (T.out.fr hf)
    clear hf
    obtain ⟨b0, b1, _, _⟩ := HB.out.c2
    go_wp2_with fail
    refine (KXr.out _ _ T.out).mono ?_
    rintro e w8 ⟨rfl, hf⟩
    have G := Lib.hid (G.out.trans hf)
    have HB := Lib.hid (HB.out.fr hf id)
    have R := Lib.hid (R.out.fr hf)
    have T := Lib.hid (T.out.fr hf)
    clear hf
    obtain ⟨b0, b1, _, _⟩ := HB.out.c2
    go_wp2_with fail
    refine (KYr.out _ _ T.out).mono ?_
    rintro e w9 ⟨rfl, hf⟩
    have G := Lib.hid (G.out.trans hf)
    have HB := Lib.hid (HB.out.fr hf id)
    have R := Lib.hid (R.out.fr hf)
    have T := Lib.hid (T.out.fr hf)
    clear hf
    obtain ⟨b0, b1, _, _⟩ := HB.out.c2
    go_wp2_with fail
    cases hx with
    | false =>
      refine (KHx.out _ _ T.out).mono ?_
      rintro e w10 ⟨rfl, hf⟩
      have G := Lib.hid (G.out.trans hf)
      have HB := Lib.hid (HB.out.fr hf id)
      have R := Lib.hid (R.out.fr hf)
      have T := Lib.hid (T.out.fr hf)
      clear hf
      obtain ⟨b0, b1, _, _⟩ := HB.out.c2
      go_wp2_with fail
      refine (KU.out _).mono ?_
      rintro e w11 ⟨rfl, hf⟩
      have G := Lib.hid (G.out.trans hf)
      have HB := Lib.hid (HB.out.fr hf id)
      have R := Lib.hid (R.out.fr hf)
      have T := Lib.hid (T.out.fr hf)
      clear hf
      go_wp2_with fail
      go_ret
      exact ⟨rfl, G.out⟩
    | true =>
      refine (KHx.out _ _ T.out).mono ?_
      rintro e w10 ⟨rfl, hf⟩
      have G := Lib.hid (G.out.trans hf)
      have HB := Lib.hid (HB.out.fr hf id)
      have R := Lib.hid (R.out.fr hf)
      have T := Lib.hid (T.out.fr hf)
      clear hf
      obtain ⟨b0, b1, _, _⟩ := HB.out.c2
      go_wp2_with fail
      cases hy with
      | false =>
        refine (KHy.out _ _ T.out).mono ?_
        rintro e w11 ⟨rfl, hf⟩
        have G := Lib.hid (G.out.trans hf)
        have HB := Lib.hid (HB.out.fr hf id)
        have R := Lib.hid (R.out.fr hf)
        have T := Lib.hid (T.out.fr hf)
        clear hf
        obtain ⟨b0, b1, _, _⟩ := HB.out.c2
        go_wp2_with fail
        refine (KU.out _).mono ?_
        rintro e w12 ⟨rfl, hf⟩
        have G := Lib.hid (G.out.trans hf)
        have HB := Lib.hid (HB.out.fr hf id)
        have R := Lib.hid (R.out.fr hf)
        have T := Lib.hid (T.out.fr hf)
        clear hf
        go_wp2_with fail
        go_ret
        exact ⟨rfl, G.out⟩
      | true =>
        refine (KHy.out _ _ T.out).mono ?_
        rintro e w11 ⟨rfl, hf⟩
        have G := Lib.hid (G.out.trans hf)
        have HB := Lib.hid (HB.out.fr hf id)
        have R := Lib.hid (R.out.fr hf)
        have T := Lib.hid (T.out.fr hf)
        clear hf
        obtain ⟨b0, b1, _, _⟩ := HB.out.c2
        go_wp2_with fail
        refine (KCv.out _ _ R.out).mono ?_
        rintro e w12 ⟨rfl, hf⟩
        have G := Lib.hid (G.out.trans hf)
        have HB := Lib.hid (HB.out.fr hf id)
        have R := Lib.hid (R.out.fr hf)
        have T := Lib.hid (T.out.fr hf)
        clear hf
        obtain ⟨b0, b1, _, _⟩ := HB.out.c2
        have hlo := HLO.out (by trivial)
        have hhi := HHI.out (by trivial)
        clear HLO HHI
        by_cases h1 : x ≤ n
        · go_wp2_with fail
          refine (KU.out _).mono ?_
          rintro e w13 ⟨rfl, hf⟩
          have G := Lib.hid (G.out.trans hf)
          have HB := Lib.hid (HB.out.fr hf id)
          have R := Lib.hid (R.out.fr hf)
          have T := Lib.hid (T.out.fr hf)
          clear hf
          go_wp2_with fail
          go_ret
          exact ⟨rfl, G.out⟩
        · go_wp2_with fail
          refine (KU.out _).mono ?_
          rintro e w13 ⟨rfl, hf⟩
          have G := Lib.hid (G.out.trans hf)
          have HB := Lib.hid (HB.out.fr hf id)
          have R := Lib.hid (R.out.fr hf)
          have T := Lib.hid (T.out.fr hf)
          clear hf
          go_wp2_with fail
          go_ret
          exact ⟨rfl, G.out⟩
  · have hxy : y < x := by omega
    refine (KBad.out _ r hxy).mono ?_
    rintro e w5 ⟨rfl, hf⟩
    have G := Lib.hid (G.out.trans hf)
    have HB := Lib.hid (HB.out.fr hf id)
    have R := Lib.hid (R.out.fr hf)
    have T := Lib.hid (T.out.fr hf)
    clear hf
    obtain ⟨b0, b1, _, _⟩ := HB.out.c2
    go_wp2_with fail
    refine (KCv.out _ _ R.out).mono ?_
    rintro e w6 ⟨rfl, hf⟩
    have G := Lib.hid (G.out.trans hf)
    have HB := Lib.hid (HB.out.fr hf id)
    have R := Lib.hid (R.out.fr hf)
    have T := Lib.hid (T.out.fr hf)
    clear hf
    obtain ⟨b0, b1, _, _⟩ := HB.out.c2
    go_wp2_with fail
    refine (KCr.out _ _ T.out).mono ?_
    rintro e w7 ⟨rfl, hf⟩
    have G := Lib.hid (G.out.trans hf)
    have HB := Lib.hid (HB.out.fr hf id)
    have R := Lib.hid (R.out.fr hf)
    have T := Lib.hid (T.out.fr hf)
    clear hf
    obtain ⟨b0, b1, _, _⟩ := HB.out.c2
    go_wp2_with fail
    refine (KU.out _).mono ?_
    rintro e w8 ⟨rfl, hf⟩
    have G := Lib.hid (G.out.trans hf)
    have HB := Lib.hid (HB.out.fr hf id)
    have R := Lib.hid (R.out.fr hf)
    have T := Lib.hid (T.out.fr hf)
    clear hf
    go_wp2_with fail
    go_ret
    exact ⟨rfl, G.out⟩
end Go.Proofs.Ytaafclfhdkkleaa.RankN
