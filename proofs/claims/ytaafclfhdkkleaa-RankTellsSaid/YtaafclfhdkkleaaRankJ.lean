/- Chapter 9: the walk of the reference's Of. -/
import Derived.Test.YtaafclfhdkkleaaRankI
namespace Go.Proofs.Ytaafclfhdkkleaa.RankJ
open Go.RowKit Base SortA IntB IntC IntD IntE IntG IntH IntI IntJ IntK IntL IntQ RankA RankF RankG RankI Quiet
set_option linter.unusedVariables false
set_option linter.unusedSimpArgs false

set_option maxRecDepth 100000 in
set_option maxHeartbeats 4000000 in
theorem Of_any (l : List Pr) (v : Value) (w : World) (hl : l.length ≤ 500) (hv : Sl w v l) :
    Calls Try.prog 9 #[v] w fun e w' => ∃ u, e = .returned u ∧ Fr Nil w w' ∧ Sl w' u (refOf l) := by
  have hw0 := w.heap.size
  rcases hv with ⟨rfl, rfl⟩ | ⟨g, o, cap, rfl, hc, ha, hr⟩
  · go_enter Try.func9, Try.ntmps9
    go_wp2_with fail
    refine wp_loop_rounds 1 ?_
    rw [rounds_succ]
    go_wp2
    go_ret
    exact ⟨_, rfl, (Fr.refl _ _).alloc _, (Own.made w w.heap.size (Nat.le_refl _)).sl⟩
  · go_enter Try.func9, Try.ntmps9
    go_wp2_with fail
    go_loopw [3, 4] (fun v i wr => ∃ j : Nat, j ≤ l.length ∧ i = .int .i64 j ∧ Sl wr v (refOf (l.take j)) ∧ v ≠ .slice none 0 0 ∧ Fr Nil w wr) (fun _ i _ => l.length - (intOf i).toNat)
    case atStart => exact ⟨0, by omega, rfl, (Own.made w w.heap.size (Nat.le_refl _)).sl, by simp, (Fr.refl _ _).alloc _⟩
    case round =>
      obtain ⟨j, hj, rfl, hs, hn, hf⟩ := hrel
      have HF := Lib.hid hf
      by_cases hlt : j < l.length
      · obtain ⟨p, hp⟩ : ∃ p, l[j]? = some p := ⟨l[j], List.getElem?_eq_getElem hlt⟩
        have HT := Lib.hid (refOf_step hp)
        have hlen : (refOf (l.take j)).length ≤ j := refOf_len l j hj
        have KH := Lib.hid (fun W (h : Fr Nil wr W) => Has_ref (refOf (l.take j)) p.1 u3 W (by omega) (hs.fr h))
        have KL := Lib.hid (fun W (h : Fr Nil wr W) => Low_ref (refOf (l.take j)) p.1 u3 W (by omega) (hs.fr h))
        have HR := Lib.hid (fun W (h : Fr Nil wr W) => (((hr.fr hf ha id).fr h (Nat.lt_of_lt_of_le ha hf.size) id) j p hp).1)
        have c0 := HR.out _ (Fr.refl _ _)
        have hlt' : (j : Int) < l.length := by omega
        have hj0 : (0 : Int) ≤ j := Int.natCast_nonneg j
        generalize hS : refOf (l.take j) = s at *
        rcases hs with ⟨rfl, _⟩ | ⟨g2, o2, cap2, rfl, hc2, ha2, hr2⟩
        · exact absurd rfl hn
        by_cases hh : has s p.1 = true
        · have hrs : rstep s p = s := by unfold rstep; rw [if_pos hh]
          rw [hh] at KH
          have HS := Lib.hid (show Sl wr (.slice (some ⟨g2, o2, none⟩) s.length cap2) s from Or.inr ⟨g2, o2, cap2, rfl, hc2, ha2, hr2⟩)
          have HE := Lib.hid (HT.out.trans hrs)
          clear hf hn hrs hh hr2 hr hp hS hlen HT hc ha hc2 ha2
          go_wp2_with fail
          refine (KH.out _ (Fr.refl _ _)).mono ?_
          rintro e w1 ⟨rfl, hf1⟩
          have HF1 := Lib.hid hf1
          clear hf1
          go_wp2_with fail
          go_roundw
          case rel => exact ⟨j + 1, by omega, by go_num, by rw [HE.out]; exact HS.out.fr HF1.out, by simp, HF.out.trans HF1.out⟩
          case measure => simp [intOf]; omega
        · have hh : has s p.1 = false := by simpa using hh
          obtain ⟨k, hk⟩ : ∃ k, below s p.1 = k := ⟨_, rfl⟩
          have hks : k ≤ s.length := by rw [← hk]; exact below_le s p.1
          have hrs : rstep s p = s.take k ++ [p] ++ s.drop k := by unfold rstep; rw [if_neg (by rw [hh]; simp), hk]
          rw [hh] at KH
          rw [hk] at KL
          have HT0 := Lib.hid (head_sl k hc2 hks ha2 hr2)
          have HD0 := Lib.hid (tail_sl k hc2 hks ha2 hr2)
          have HE := Lib.hid (HT.out.trans hrs)
          have hkc : (k : Int) ≤ cap2 := by omega
          have hks' : (k : Int) ≤ s.length := by omega
          have hk0 : (0 : Int) ≤ k := by omega
          have hlt0 : (s.take k).length = k := by rw [List.length_take]; omega
          have hld : (s.drop k).length = s.length - k := by rw [List.length_drop]
          have LL := Lib.hid (show (([] : List Pr).length + (s.take k).length ≤ 100000) ∧ (([] ++ s.take k).length + [p].length ≤ 100000) ∧ (([] ++ s.take k ++ [p]).length + (s.drop k).length ≤ 100000) by simp; omega)
          clear hf hn hrs hh hr2 hr hp hS hlen HT hc ha hc2 ha2 hk hks hlt0 hld
          go_wp2_with fail
          refine (KH.out _ (Fr.refl _ _)).mono ?_
          rintro e w1 ⟨rfl, hf1⟩
          have HF1 := Lib.hid hf1
          have c1 := HR.out _ hf1
          clear hf1
          go_wp2_with fail
          refine (KL.out _ HF1.out).mono ?_
          rintro e w2 ⟨rfl, hf2⟩
          have HF2 := Lib.hid (HF1.out.trans hf2)
          have c2 := HR.out _ HF2.out
          clear hf2
          have HT := Lib.hid (HT0.out.fr HF2.out)
          have HD := Lib.hid (Sl.fr HD0.out HF2.out)
          have O1 := Lib.hid (show Own (w2.alloc (.cells #[] 3)).drew w2.heap.size (.slice (some ⟨w2.heap.size, 0, none⟩) 0 0) [] from (Own.made' (Nat.le_refl _) rfl).drew)
          have R1 := Lib.hid (show Fr Nil w2 (w2.alloc (.cells #[] 3)).drew by (repeat' (with_reducible first | refine Fr.setCell ?_ (fun hlt => absurd hlt (by dsimp only; omega)) _ | refine Fr.alloc ?_ _ | refine Fr.drewN ?_ _ | refine Fr.drew ?_ | exact Fr.refl _ _)))
          have T1 := Lib.hid (Sl.fr HT.out R1.out)
          have B1 := Lib.hid (show w2.heap.size ≤ ((w2.alloc (.cells #[] 3)).drew).heap.size by simp <;> omega)
          have O2 := Lib.hid (show Own ((w2.alloc (.cells #[] 3)).alloc (.cells #[.int .i64 p.1] 3)).drew w2.heap.size (.slice (some ⟨w2.heap.size, 0, none⟩) 0 0) [] from ((Own.made' (Nat.le_refl _) rfl).alloc _).drew)
          have R2 := Lib.hid (show Fr Nil w2 ((w2.alloc (.cells #[] 3)).alloc (.cells #[.int .i64 p.1] 3)).drew by (repeat' (with_reducible first | refine Fr.setCell ?_ (fun hlt => absurd hlt (by dsimp only; omega)) _ | refine Fr.alloc ?_ _ | refine Fr.drewN ?_ _ | refine Fr.drew ?_ | exact Fr.refl _ _)))
          have T2 := Lib.hid (Sl.fr HT.out R2.out)
          have B2 := Lib.hid (show w2.heap.size ≤ (((w2.alloc (.cells #[] 3)).alloc (.cells #[.int .i64 p.1] 3)).drew).heap.size by simp <;> omega)
          have O3 := Lib.hid (show Own ((w2.alloc (.cells #[.int .i64 p.1] 3)).alloc (.cells #[] 3)).drew w2.heap.size (.slice (some ⟨w2.heap.size + 1, 0, none⟩) 0 0) [] from (Own.made' (by simp) (by simp)).drew)
          have R3 := Lib.hid (show Fr Nil w2 ((w2.alloc (.cells #[.int .i64 p.1] 3)).alloc (.cells #[] 3)).drew by (repeat' (with_reducible first | refine Fr.setCell ?_ (fun hlt => absurd hlt (by dsimp only; omega)) _ | refine Fr.alloc ?_ _ | refine Fr.drewN ?_ _ | refine Fr.drew ?_ | exact Fr.refl _ _)))
          have T3 := Lib.hid (Sl.fr HT.out R3.out)
          have B3 := Lib.hid (show w2.heap.size ≤ (((w2.alloc (.cells #[.int .i64 p.1] 3)).alloc (.cells #[] 3)).drew).heap.size by simp <;> omega)
          have S2 := Lib.hid (show Sl ((w2.alloc (.cells #[] 3)).alloc (.cells #[.int .i64 p.1] 3)).drew (.slice (some ⟨w2.heap.size + 1, 0, none⟩) 1 1) [p] from Sl.drew (one_sl' p (by simp)))
          have S3 := Lib.hid (show Sl ((w2.alloc (.cells #[.int .i64 p.1] 3)).alloc (.cells #[] 3)).drew (.slice (some ⟨w2.heap.size, 0, none⟩) 1 1) [p] from Sl.drew (Sl.alloc (one_sl' p rfl) _))
          go_wp2_with fail
          go_region_held3 (fun w' => w'.cell? ⟨g, o + j, none⟩ = some (.int .i64 p.1)) (first | (go_keep; done))
            (first | (rw [if_pos (by rfl)]; refine wp_app (.tmp 25) (.tmp 28) rfl w2.heap.size (.slice (some ⟨w2.heap.size, 0, none⟩) 0 0) (.slice (some ⟨g2, o2, none⟩) k cap2) [] (s.take k) rfl O1.out rfl T1.out LL.out.1 B1.out ?_; intro v14 w14 h14 f14 b14 n14; have F14 : Fr Nil w2 w14 := Fr.then (R1.out) f14 (fun i hi hlt => by have := (b14 i hi).1; omega); have y14 := HR.out _ (HF2.out.trans F14)) | (rw [if_pos (by rfl)]; refine wp_app (.tmp 25) (.tmp 28) rfl w2.heap.size (.slice (some ⟨w2.heap.size, 0, none⟩) 0 0) (.slice (some ⟨g2, o2, none⟩) k cap2) [] (s.take k) rfl O2.out rfl T2.out LL.out.1 B2.out ?_; intro v14 w14 h14 f14 b14 n14; have F14 : Fr Nil w2 w14 := Fr.then (R2.out) f14 (fun i hi hlt => by have := (b14 i hi).1; omega); have y14 := HR.out _ (HF2.out.trans F14); have s16 := Sl.frS S2.out f14 (fun g hg hh => by have h1 := Option.some.inj hg; have h2 := Option.some.inj hh; dsimp only at h1 h2; omega)) | (rw [if_pos (by rfl)]; refine wp_app (.tmp 25) (.tmp 28) rfl w2.heap.size (.slice (some ⟨w2.heap.size + 1, 0, none⟩) 0 0) (.slice (some ⟨g2, o2, none⟩) k cap2) [] (s.take k) rfl O3.out rfl T3.out LL.out.1 B3.out ?_; intro v14 w14 h14 f14 b14 n14; have F14 : Fr Nil w2 w14 := Fr.then (R3.out) f14 (fun i hi hlt => by have := (b14 i hi).1; omega); have y14 := HR.out _ (HF2.out.trans F14); have s16 := Sl.frS S3.out f14 (fun g hg hh => by have h1 := Option.some.inj hg; have h2 := Option.some.inj hh; dsimp only at h1 h2; omega)) | (rw [if_pos (by rfl)]; refine wp_app (.tmp 29) (.tmp 34) rfl w2.heap.size v14 _ ([] ++ s.take k) [p] rfl h14 rfl s16 LL.out.2.1 F14.size ?_; intro v17 w17 h17 f17 b17 n17; have F17 : Fr Nil w2 w17 := Fr.then (F14) f17 (fun i hi hlt => by have := (b17 i hi).1; omega); have y17 := HR.out _ (HF2.out.trans F17)) | (rw [if_pos (by rfl)]; refine wp_app (.tmp 29) (.tmp 34) rfl w2.heap.size v14 _ ([] ++ s.take k) [p] rfl (Own.alloc h14 _) rfl (one_sl' p rfl) LL.out.2.1 (F14.alloc _).size ?_; intro v17 w17 h17 f17 b17 n17; have F17 : Fr Nil w2 w17 := Fr.then (F14.alloc _) f17 (fun i hi hlt => by have := (b17 i hi).1; omega); have y17 := HR.out _ (HF2.out.trans F17)) | (rw [if_pos (by rfl)]; refine wp_app (.tmp 35) (.tmp 38) rfl w2.heap.size v17 _ ([] ++ s.take k ++ [p]) (s.drop k) rfl h17 rfl (Sl.fr HD.out F17) LL.out.2.2 F17.size ?_; intro v21 w21 h21 f21 b21 n21; have F21 : Fr Nil w2 w21 := Fr.then (F17) f21 (fun i hi hlt => by have := (b21 i hi).1; omega); have y21 := HR.out _ (HF2.out.trans F21)))
          all_goals
            go_wp2_with fail
            go_roundw
            case rel => exact ⟨j + 1, by omega, by go_num, by rw [HE.out]; have := h21.sl; simpa using this, (fun e => by have h1 := n14 (n17 (n21 e)); cases h1), HF.out.trans (HF2.out.trans F21)⟩
            case measure => simp [intOf]; omega
      · obtain rfl : j = l.length := by omega
        have HS := Lib.hid (show Sl wr u3 (refOf l) by rw [List.take_length] at hs; exact hs)
        clear hs hn hf
        go_wp2_with fail
        go_ret
        exact ⟨_, rfl, HF.out, HS.out⟩
end Go.Proofs.Ytaafclfhdkkleaa.RankJ
