/- Chapter 9: the walk of the law RankNone. -/
import Derived.Test.YtaafclfhdkkleaaRankL
namespace Go.Proofs.Ytaafclfhdkkleaa.RankP
open Go.RowKit Base SortA IntB IntC IntD IntE IntG IntH IntI IntJ IntK IntL IntQ RankA RankB RankC RankD RankE RankF RankG RankH RankI RankJ RankK Quiet RankL
set_option linter.unusedVariables false
set_option linter.unusedSimpArgs false

theorem one_in {w : World} {g : Nat} (n : Int) (hg : g = w.heap.size) : Sl (w.alloc (.cells #[.int .i64 n] 3)) (.slice (some ⟨g, 0, none⟩) 1 1) [(n, 0)] := one_sl' (n, 0) hg

set_option maxRecDepth 100000 in
set_option maxHeartbeats 4000000 in
theorem none_any (n : Int) (l : List Pr) (v : Value) (w : World) (hv : Come w v l) (hm : l.length ≤ maxLen) (hz : Zs l) :
    Calls Try.prog 6 #[.int .i64 n, v] w fun e w' => e = .returned (.bool true) ∧ Fr Nil w w' := by
  have hL : (l.take 20).length ≤ 20 := by rw [List.length_take]; omega
  have hzL : Zs (l.take 20) := RankL.Zs.take hz 20
  have K1 := Lib.hid (fun W (h : Fr Nil w W) => Few_any l 20 v W (hv.fr h) (by decide) hm)
  obtain ⟨A, c, rfl⟩ : ∃ A c, v = .slice A l.length c := by
    rcases hv with ⟨rfl, rfl⟩ | ⟨a, cap, rfl, _⟩
    · exact ⟨none, 0, rfl⟩
    · exact ⟨_, _, rfl⟩
  clear hv hm hz
  generalize l.take 20 = L at *
  have hS : (refOf L).length ≤ 20 := Nat.le_trans (refOf_len' L) hL
  have hN : ∀ W, Rk W (.pointer none) [] := fun W => Or.inl ⟨rfl, rfl⟩
  have hO : Srt [] := List.Pairwise.nil
  have KVal := Lib.hid (fun W => Value_bad [] n (.pointer none) W (by simp; omega) (hN W))
  have KRank := Lib.hid (fun W => Rank_any [] (n, 0) (.pointer none) W (by simp) hO (hN W))
  have KLen := Lib.hid (fun W => Len_any [] (.pointer none) W (hN W))
  have KLow := Lib.hid (fun W => Low_any [] (n, 0) (.pointer none) W (by simp) hO (hN W))
  have KHigh := Lib.hid (fun W => High_any [] (n, 0) (.pointer none) W (by simp) hO (hN W))
  have KCell := Lib.hid (fun W => Cell_any [] (n, 0) (.pointer none) W (by simp) hO (hN W))
  have KHas0 := Lib.hid (fun W => Has_any [] [] (.pointer none) (.slice none 0 0) W (by simp) (by simp) hO (hN W) (Or.inl ⟨rfl, rfl⟩))
  have KHas1 := Lib.hid (fun W u h => Has_any [] [(n, 0)] (.pointer none) u W (by simp) (by simp) hO (hN W) h)
  have e1 : below [] n = 0 := rfl
  have e2 : upto [] n = 0 := rfl
  have e3 : cellOf [] n = 0 := rfl
  have e4 : hasAll [] [] = true := rfl
  have e5 : hasAll [] [(n, 0)] = false := rfl
  have e6 : ((List.length ([] : List Pr) : Nat) : Int) = 0 := rfl
  simp only [e1, e2, e3, e4, e5, e6, Nat.lt_irrefl, if_false, decide_false, Int.natCast_zero, Int.ofNat_zero] at KRank KLen KLow KHigh KCell KHas0 KHas1
  have KW := Lib.hid (fun W u h => With_any (refOf []) L (.pointer none) u W (by simp [refOf]) (by omega) (hN W) h)
  rw [of_ref hzL, with_ref (by intro x hx; simp at hx) hzL, List.nil_append] at KW
  have KO := Lib.hid (fun W u h => Of_any L u W (by omega) h)
  have KV := Lib.hid (fun W r h => values_any (refOf L) r W (by omega) h)
  have KS := Lib.hid (fun W a b h h' => same_any (refOf L) a b W (by omega) h h')
  have KU := Lib.hid (fun W => lives_true W)
  generalize refOf L = S at *
  have G := Lib.hid (Fr.refl Nil w)
  clear hS hzL hL hN hO e1 e2 e3 e4 e5 e6
  go_enter Try.func6, Try.ntmps6
  go_wp2_with fail
  refine (KVal.out _).mono ?_
  rintro e w1 ⟨rfl, hf⟩
  have G := Lib.hid (G.out.trans hf)
  clear hf
  go_wp2_with fail
  refine (KRank.out _).mono ?_
  rintro e w2 ⟨rfl, hf⟩
  have G := Lib.hid (G.out.trans hf)
  clear hf
  go_wp2_with fail
  refine (KLen.out _).mono ?_
  rintro e w3 ⟨rfl, hf⟩
  have G := Lib.hid (G.out.trans hf)
  clear hf
  go_wp2_with fail
  refine (KLow.out _).mono ?_
  rintro e w4 ⟨rfl, hf⟩
  have G := Lib.hid (G.out.trans hf)
  clear hf
  go_wp2_with fail
  refine (KHigh.out _).mono ?_
  rintro e w5 ⟨rfl, hf⟩
  have G := Lib.hid (G.out.trans hf)
  clear hf
  go_wp2_with fail
  refine (KCell.out _).mono ?_
  rintro e w6 ⟨rfl, hf⟩
  have G := Lib.hid (G.out.trans hf)
  clear hf
  go_wp2_with fail
  refine (KHas0.out _).mono ?_
  rintro e w7 ⟨rfl, hf⟩
  have G := Lib.hid (G.out.trans hf)
  clear hf
  go_wp2_with fail
  refine (KHas1.out _ _ (one_in n rfl)).mono ?_
  rintro e w8 ⟨rfl, hf⟩
  have G := Lib.hid ((G.out.alloc _).trans hf)
  clear hf
  go_wp2_with fail
  refine (K1.out _ G.out).mono ?_
  rintro e w9 ⟨u0, rfl, hf, ho, hn⟩
  have G := Lib.hid (G.out.trans hf)
  have U := Lib.hid (ho.sl)
  clear hf
  clear ho hn
  obtain ⟨A0, c0, rfl⟩ := Sl.shape U.out
  go_wp2_with fail
  refine (KW.out _ _ U.out).mono ?_
  rintro e w10 ⟨rw, rfl, hf, hr, hn⟩
  have G := Lib.hid (G.out.trans hf)
  have U := Lib.hid (U.out.fr hf)
  have Q := Lib.hid (hr)
  clear hf hr
  clear hn
  go_wp2_with fail
  refine (KV.out _ _ Q.out).mono ?_
  rintro e w11 ⟨x, rfl, hf, hx⟩
  have G := Lib.hid (G.out.trans hf)
  have Q := Lib.hid (Q.out.fr hf)
  have X := Lib.hid (hx)
  clear hf hx
  obtain ⟨A5, c5, rfl⟩ := Sl.shape X.out
  go_wp2_with fail
  refine (K1.out _ G.out).mono ?_
  rintro e w12 ⟨u1, rfl, hf, ho, hn⟩
  have G := Lib.hid (G.out.trans hf)
  have X := Lib.hid (X.out.fr hf)
  have V := Lib.hid (ho.sl)
  clear hf
  clear ho hn
  obtain ⟨A1, c1, rfl⟩ := Sl.shape V.out
  go_wp2_with fail
  refine (KO.out _ _ V.out).mono ?_
  rintro e w13 ⟨t, rfl, hf, hs⟩
  have G := Lib.hid (G.out.trans hf)
  have X := Lib.hid (X.out.fr hf)
  have V := Lib.hid (V.out.fr hf)
  have T0 := Lib.hid (hs)
  clear hf hs
  go_wp2_with fail
  refine (KS.out _ _ _ X.out T0.out).mono ?_
  rintro e w14 ⟨rfl, hf⟩
  have G := Lib.hid (G.out.trans hf)
  have X := Lib.hid (X.out.fr hf)
  have T0 := Lib.hid (T0.out.fr hf)
  clear hf
  go_wp2_with fail
  refine (KU.out _).mono ?_
  rintro e w15 ⟨rfl, hf⟩
  have G := Lib.hid (G.out.trans hf)
  have X := Lib.hid (X.out.fr hf)
  have T0 := Lib.hid (T0.out.fr hf)
  clear hf
  go_wp2_with fail
  go_ret
  exact ⟨rfl, G.out⟩
end Go.Proofs.Ytaafclfhdkkleaa.RankP
