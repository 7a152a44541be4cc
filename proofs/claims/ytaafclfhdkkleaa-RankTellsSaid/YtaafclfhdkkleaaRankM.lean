/- Chapter 9: the walk of the law RankTells. -/
import Derived.Test.YtaafclfhdkkleaaRankL
namespace Go.Proofs.Ytaafclfhdkkleaa.RankM
open Go.RowKit Base SortA IntB IntC IntD IntE IntG IntH IntI IntJ IntK IntL IntQ RankA RankB RankC RankD RankE RankF RankG RankH RankI RankJ RankK Quiet RankL
set_option linter.unusedVariables false
set_option linter.unusedSimpArgs false

set_option maxRecDepth 100000 in
set_option maxHeartbeats 4000000 in
theorem tells_any (l : List Pr) (n : Int) (v : Value) (w : World) (hv : Come w v l) (hm : l.length ≤ maxLen) (hz : Zs l) :
    Calls Try.prog 5 #[v, .int .i64 n] w fun e w' => e = .returned (.bool true) ∧ Fr Nil w w' := by
  have hL : (l.take 60).length ≤ 60 := by rw [List.length_take]; omega
  have hzL : Zs (l.take 60) := RankL.Zs.take hz 60
  have K1 := Lib.hid (Few_any l 60 v w hv (by decide) hm)
  clear hv hm hz
  generalize l.take 60 = L at *
  have hS : (refOf L).length ≤ 60 := Nat.le_trans (refOf_len' L) hL
  have hE : uq (isort L) = refOf L := of_ref hzL
  have hR : Ris (refOf L) := ref_ris L
  have K2 := Lib.hid (fun W u h => Few_sl L 60 u W h (by decide) hL)
  have K3 := Lib.hid (fun W u h => New_any L u W (by omega) h)
  have K4 := Lib.hid (fun W u h => Of_any L u W (by omega) h)
  rw [hE] at K3
  generalize refOf L = S at *
  have KV := Lib.hid (fun W r h => values_any S r W (by omega) h)
  have KS := Lib.hid (fun W a b h h' => same_any S a b W (by omega) h h')
  have KR := Lib.hid (fun W r h => Rank_any S (n, 0) r W (by omega) hR.srt h)
  have KLo := Lib.hid (fun W r h => Low_any S (n, 0) r W (by omega) hR.srt h)
  have KHi := Lib.hid (fun W r h => High_any S (n, 0) r W (by omega) hR.srt h)
  have KLr := Lib.hid (fun W u h => Low_ref S n u W (by omega) h)
  have KHr := Lib.hid (fun W u h => Has_ref S n u W (by omega) h)
  have KOk := Lib.hid (fun W r k x (hx : S[k]? = some x) h => Value_ok S k x r W (by omega) hx h)
  have KBad := Lib.hid (fun W r (hi : n < 0 ∨ (S.length : Int) ≤ n) h => Value_bad S n r W hi h)
  have KU := Lib.hid (fun W => lives_true W)
  have hI := has_iff hR.srt n
  have hu := upto_ris hR n
  dsimp only at KR KLo KHi
  rw [← hI] at KR
  rw [hu] at KHi
  have KHt : has S n = true → Hid (∀ W r, Rk W r S → Calls Try.prog 23 #[r, .int .i64 n] W fun e w' => e = .returned (.int .i64 ((below S n : Int) + 1)) ∧ Fr Nil W w') := fun hh => Lib.hid (by have h := KHi.out; rw [hh] at h; simpa using h)
  have KHf : has S n = false → Hid (∀ W r, Rk W r S → Calls Try.prog 23 #[r, .int .i64 n] W fun e w' => e = .returned (.int .i64 (below S n : Int)) ∧ Fr Nil W w') := fun hh => Lib.hid (by have h := KHi.out; rw [hh] at h; simpa using h)
  clear KHi
  have hbl := below_le S n
  have hlt0 : (below S n < upto S n) ↔ has S n = true := by rw [hI]; simp
  simp only [hlt0] at KR
  clear hu hI hE hzL hR hL hlt0
  generalize below S n = b at *
  generalize has S n = has' at *
  generalize hb2 : (if has' = true then (b : Int) else 0) = b2 at KR
  have HB2 := Lib.hid hb2
  clear hb2
  have hb0 : (0 : Int) ≤ b := Int.natCast_nonneg b
  have hb1 : (b : Int) ≤ 60 := by omega
  have hw : wrap64 ((b : Int) + 1) = (b : Int) + 1 := by unfold wrap64; omega
  clear hbl
  go_enter Try.func5, Try.ntmps5
  go_wp2_with fail
  refine K1.out.mono ?_
  rintro e w1 ⟨u0, rfl, hf, ho, hn⟩
  have U := Lib.hid ho.sl
  have G1 := Lib.hid hf
  clear hf ho hn
  obtain ⟨A0, c0, rfl⟩ := Sl.shape U.out
  go_wp2_with fail
  refine (K2.out _ _ U.out).mono ?_
  rintro e w2 ⟨u1, rfl, hf, ho, hn⟩
  have V := Lib.hid ho.sl
  have U2 := Lib.hid (U.out.fr hf)
  have G2 := Lib.hid (G1.out.trans hf)
  clear hf ho hn
  obtain ⟨A1, c1, rfl⟩ := Sl.shape V.out
  go_wp2_with fail
  refine (K3.out _ _ V.out).mono ?_
  rintro e w3 ⟨r, rfl, hf, hr, hn⟩
  have R3 := Lib.hid hr
  have U3 := Lib.hid (U2.out.fr hf)
  have G3 := Lib.hid (G2.out.trans hf)
  clear hf hr hn
  go_wp2_with fail
  refine (K4.out _ _ U3.out).mono ?_
  rintro e w4 ⟨s, rfl, hf, hs⟩
  have S4 := Lib.hid hs
  have R4 := Lib.hid (R3.out.fr hf)
  have G4 := Lib.hid (G3.out.trans hf)
  clear hf hs
  go_wp2_with fail
  refine (KV.out _ _ R4.out).mono ?_
  rintro e w5 ⟨x, rfl, hf, hx⟩
  have X5 := Lib.hid hx
  have F5 := Lib.hid hf
  clear hf hx
  go_wp2_with fail
  refine (KS.out _ _ _ X5.out (S4.out.fr F5.out)).mono ?_
  rintro e w6 ⟨rfl, hf⟩
  have F6 := Lib.hid (F5.out.trans hf)
  clear hf
  go_wp2_with fail
  refine (KR.out _ _ (R4.out.fr F6.out)).mono ?_
  rintro e w7 ⟨rfl, hf⟩
  have F7 := Lib.hid (F6.out.trans hf)
  clear hf
  go_wp2_with fail
  by_cases hin : 0 ≤ n ∧ n < S.length
  · obtain ⟨hn0, hn1⟩ := hin
    obtain ⟨k, rfl⟩ := Int.eq_ofNat_of_zero_le hn0
    have hk : k < S.length := by omega
    obtain ⟨y, hy⟩ : ∃ y, S[k]? = some y := ⟨S[k], List.getElem?_eq_getElem hk⟩
    have hS4 := S4.out
    rcases hS4 with ⟨_, h0⟩ | ⟨g, o, cap, hse, hc, ha, hrow⟩
    · rw [h0] at hk; simp at hk
    subst hse
    have HC := Lib.hid (fun W (h : Fr Nil w4 W) => ((hrow.fr h ha id) k y hy).1)
    have KVy := Lib.hid (fun W r h => KOk.out W r k y hy h)
    clear hrow hy
    refine (KVy.out _ _ (R4.out.fr F7.out)).mono ?_
    rintro e w8 ⟨rfl, hf⟩
    have F8 := Lib.hid (F7.out.trans hf)
    clear hf
    go_wp2_with fail
    refine (KHr.out _ _ (S4.out.fr F8.out)).mono ?_
    rintro e w9 ⟨rfl, hf⟩
    have F9 := Lib.hid (F8.out.trans hf)
    clear hf
    have hcell := HC.out _ F9.out
    cases has' with
    | false =>
      obtain rfl : 0 = b2 := by simpa using HB2.out
      have KHi := KHf rfl
      clear KHf KHt
      go_wp2_with fail
      refine (KLr.out _ _ (S4.out.fr F9.out)).mono ?_
      rintro e w10 ⟨rfl, hf⟩
      have F10 := Lib.hid (F9.out.trans hf)
      clear hf
      go_wp2_with fail
      refine (KLo.out _ _ (R4.out.fr F10.out)).mono ?_
      rintro e w11 ⟨rfl, hf⟩
      have F11 := Lib.hid (F10.out.trans hf)
      clear hf
      go_wp2_with fail
      refine (KLr.out _ _ (S4.out.fr F11.out)).mono ?_
      rintro e w12 ⟨rfl, hf⟩
      have F12 := Lib.hid (F11.out.trans hf)
      clear hf
      go_wp2_with fail
      refine (KHi.out _ _ (R4.out.fr F12.out)).mono ?_
      rintro e w13 ⟨rfl, hf⟩
      have F13 := Lib.hid (F12.out.trans hf)
      clear hf
      go_wp2_with fail
      refine (KU.out _).mono ?_
      rintro e w14 ⟨rfl, hf⟩
      have F14 := Lib.hid (F13.out.trans hf)
      clear hf
      go_wp2_with fail
      go_ret
      exact ⟨rfl, G4.out.trans F14.out⟩
    | true =>
      obtain rfl : (b : Int) = b2 := by simpa using HB2.out
      have KHi := KHt rfl
      clear KHf KHt
      go_wp2_with fail
      refine (KLr.out _ _ (S4.out.fr F9.out)).mono ?_
      rintro e w10 ⟨rfl, hf⟩
      have F10 := Lib.hid (F9.out.trans hf)
      clear hf
      have hcell2 := HC.out _ F10.out
      go_wp2_with fail
      refine (KLr.out _ _ (S4.out.fr F10.out)).mono ?_
      rintro e w11 ⟨rfl, hf⟩
      have F11 := Lib.hid (F10.out.trans hf)
      clear hf
      go_wp2_with fail
      refine (KLo.out _ _ (R4.out.fr F11.out)).mono ?_
      rintro e w12 ⟨rfl, hf⟩
      have F12 := Lib.hid (F11.out.trans hf)
      clear hf
      go_wp2_with fail
      refine (KLr.out _ _ (S4.out.fr F12.out)).mono ?_
      rintro e w13 ⟨rfl, hf⟩
      have F13 := Lib.hid (F12.out.trans hf)
      clear hf
      go_wp2_with fail
      refine (KHi.out _ _ (R4.out.fr F13.out)).mono ?_
      rintro e w14 ⟨rfl, hf⟩
      have F14 := Lib.hid (F13.out.trans hf)
      clear hf
      go_wp2_with fail
      refine (KU.out _).mono ?_
      rintro e w15 ⟨rfl, hf⟩
      have F15 := Lib.hid (F14.out.trans hf)
      clear hf
      go_wp2_with fail
      go_ret
      exact ⟨rfl, G4.out.trans F15.out⟩
  · have KVb := Lib.hid (fun W r h => KBad.out W r (by omega) h)
    obtain ⟨A4, c4, rfl⟩ := Sl.shape S4.out
    refine (KVb.out _ _ (R4.out.fr F7.out)).mono ?_
    rintro e w8 ⟨rfl, hf⟩
    have F8 := Lib.hid (F7.out.trans hf)
    clear hf
    go_wp2_with fail
    refine (KHr.out _ _ (S4.out.fr F8.out)).mono ?_
    rintro e w9 ⟨rfl, hf⟩
    have F9 := Lib.hid (F8.out.trans hf)
    clear hf
    by_cases hn0 : 0 ≤ n
    · have hn1 : ¬ n < S.length := fun h => hin ⟨hn0, h⟩
      clear hin
      cases has' with
      | false =>
        obtain rfl : 0 = b2 := by simpa using HB2.out
        have KHi := KHf rfl
        clear KHf KHt
        go_wp2_with fail
        refine (KLr.out _ _ (S4.out.fr F9.out)).mono ?_
        rintro e w10 ⟨rfl, hf⟩
        have F10 := Lib.hid (F9.out.trans hf)
        clear hf
        go_wp2_with fail
        refine (KLo.out _ _ (R4.out.fr F10.out)).mono ?_
        rintro e w11 ⟨rfl, hf⟩
        have F11 := Lib.hid (F10.out.trans hf)
        clear hf
        go_wp2_with fail
        refine (KLr.out _ _ (S4.out.fr F11.out)).mono ?_
        rintro e w12 ⟨rfl, hf⟩
        have F12 := Lib.hid (F11.out.trans hf)
        clear hf
        go_wp2_with fail
        refine (KHi.out _ _ (R4.out.fr F12.out)).mono ?_
        rintro e w13 ⟨rfl, hf⟩
        have F13 := Lib.hid (F12.out.trans hf)
        clear hf
        go_wp2_with fail
        refine (KU.out _).mono ?_
        rintro e w14 ⟨rfl, hf⟩
        have F14 := Lib.hid (F13.out.trans hf)
        clear hf
        go_wp2_with fail
        go_ret
        exact ⟨rfl, G4.out.trans F14.out⟩
      | true =>
        obtain rfl : (b : Int) = b2 := by simpa using HB2.out
        have KHi := KHt rfl
        clear KHf KHt
        go_wp2_with fail
        refine (KLr.out _ _ (S4.out.fr F9.out)).mono ?_
        rintro e w10 ⟨rfl, hf⟩
        have F10 := Lib.hid (F9.out.trans hf)
        clear hf
        go_wp2_with fail
        refine (KLr.out _ _ (S4.out.fr F10.out)).mono ?_
        rintro e w11 ⟨rfl, hf⟩
        have F11 := Lib.hid (F10.out.trans hf)
        clear hf
        go_wp2_with fail
        refine (KLo.out _ _ (R4.out.fr F11.out)).mono ?_
        rintro e w12 ⟨rfl, hf⟩
        have F12 := Lib.hid (F11.out.trans hf)
        clear hf
        go_wp2_with fail
        refine (KLr.out _ _ (S4.out.fr F12.out)).mono ?_
        rintro e w13 ⟨rfl, hf⟩
        have F13 := Lib.hid (F12.out.trans hf)
        clear hf
        go_wp2_with fail
        refine (KHi.out _ _ (R4.out.fr F13.out)).mono ?_
        rintro e w14 ⟨rfl, hf⟩
        have F14 := Lib.hid (F13.out.trans hf)
        clear hf
        go_wp2_with fail
        refine (KU.out _).mono ?_
        rintro e w15 ⟨rfl, hf⟩
        have F15 := Lib.hid (F14.out.trans hf)
        clear hf
        go_wp2_with fail
        go_ret
        exact ⟨rfl, G4.out.trans F15.out⟩
    · clear hin
      cases has' with
      | false =>
        obtain rfl : 0 = b2 := by simpa using HB2.out
        have KHi := KHf rfl
        clear KHf KHt
        go_wp2_with fail
        refine (KLr.out _ _ (S4.out.fr F9.out)).mono ?_
        rintro e w10 ⟨rfl, hf⟩
        have F10 := Lib.hid (F9.out.trans hf)
        clear hf
        go_wp2_with fail
        refine (KLo.out _ _ (R4.out.fr F10.out)).mono ?_
        rintro e w11 ⟨rfl, hf⟩
        have F11 := Lib.hid (F10.out.trans hf)
        clear hf
        go_wp2_with fail
        refine (KLr.out _ _ (S4.out.fr F11.out)).mono ?_
        rintro e w12 ⟨rfl, hf⟩
        have F12 := Lib.hid (F11.out.trans hf)
        clear hf
        go_wp2_with fail
        refine (KHi.out _ _ (R4.out.fr F12.out)).mono ?_
        rintro e w13 ⟨rfl, hf⟩
        have F13 := Lib.hid (F12.out.trans hf)
        clear hf
        go_wp2_with fail
        refine (KU.out _).mono ?_
        rintro e w14 ⟨rfl, hf⟩
        have F14 := Lib.hid (F13.out.trans hf)
        clear hf
        go_wp2_with fail
        go_ret
        exact ⟨rfl, G4.out.trans F14.out⟩
      | true =>
        obtain rfl : (b : Int) = b2 := by simpa using HB2.out
        have KHi := KHt rfl
        clear KHf KHt
        go_wp2_with fail
        refine (KLr.out _ _ (S4.out.fr F9.out)).mono ?_
        rintro e w10 ⟨rfl, hf⟩
        have F10 := Lib.hid (F9.out.trans hf)
        clear hf
        go_wp2_with fail
        refine (KLr.out _ _ (S4.out.fr F10.out)).mono ?_
        rintro e w11 ⟨rfl, hf⟩
        have F11 := Lib.hid (F10.out.trans hf)
        clear hf
        go_wp2_with fail
        refine (KLo.out _ _ (R4.out.fr F11.out)).mono ?_
        rintro e w12 ⟨rfl, hf⟩
        have F12 := Lib.hid (F11.out.trans hf)
        clear hf
        go_wp2_with fail
        refine (KLr.out _ _ (S4.out.fr F12.out)).mono ?_
        rintro e w13 ⟨rfl, hf⟩
        have F13 := Lib.hid (F12.out.trans hf)
        clear hf
        go_wp2_with fail
        refine (KHi.out _ _ (R4.out.fr F13.out)).mono ?_
        rintro e w14 ⟨rfl, hf⟩
        have F14 := Lib.hid (F13.out.trans hf)
        clear hf
        go_wp2_with fail
        refine (KU.out _).mono ?_
        rintro e w15 ⟨rfl, hf⟩
        have F15 := Lib.hid (F14.out.trans hf)
        clear hf
        go_wp2_with fail
        go_ret
        exact ⟨rfl, G4.out.trans F15.out⟩
end Go.Proofs.Ytaafclfhdkkleaa.RankM
