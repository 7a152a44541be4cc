/- Chapter 8: the walk of the law PickParts. -/
import Derived.Test.YtokgeegbeagblaaPickC
namespace Go.Proofs.Ytokgeegbeagblaa.PickD
open Go.RowKit Base SortA SortB SortC SortD SortE SortG SortI SortK SortO PickA PickB PickC Quiet
set_option linter.unusedVariables false
set_option linter.unusedSimpArgs false

/-- three empty rows, made one behind the other -/
theorem Three.made (w : World) : Three w.heap.size (((w.alloc (.cells #[] 28)).alloc (.cells #[] 28)).alloc (.cells #[] 28)) (.slice (some ⟨w.heap.size, 0, none⟩) 0 0) (.slice (some ⟨w.heap.size + 1, 0, none⟩) 0 0) (.slice (some ⟨w.heap.size + 1 + 1, 0, none⟩) 0 0) [] [] [] := by
  refine ⟨((Own.made' (Nat.le_refl _) rfl).alloc _).alloc _, (Own.made' (by simp) (by simp)).alloc _, Own.made' (by simp <;> omega) (by simp), fun g hg => ?_, fun g hg => ?_⟩
  · simp [Value.ownBlock] at hg ⊢; omega
  · simp [Value.ownBlock] at hg ⊢; omega

set_option maxRecDepth 100000 in
set_option maxHeartbeats 8000000 in
theorem parts_law (l : List Pr) (p : Pr) (v : Value) (w : World) (hl : l.length ≤ maxLen) (hv : Come w v l) :
    Calls Try.prog 5 #[v, .agg #[.int .i64 p.1, .int .i64 p.2]] w fun e w' => e = .returned (.bool true) ∧ Fr Nil w w' := by
  have K1 := Lib.hid (few_any l v _ hl (hv.fr ((Fr.refl Nil w).alloc (.cells #[.int .i64 p.1, .int .i64 p.2] 28))))
  have hlen : (l.take 120).length ≤ 120 := by rw [List.length_take]; omega
  generalize l.take 120 = L at *
  have KF := Lib.hid (fun W u h => few_sl L u W hlen h)
  have KP := Lib.hid (fun W u h => Parts_any L p u W (by omega) h)
  have PL := Lib.hid (fun W => lives_any W)
  have n1 : (lo p.1 L).length ≤ L.length := List.length_filter_le _ _
  have n2 : (mi p.1 L).length ≤ L.length := List.length_filter_le _ _
  have n3 : (hi p.1 L).length ≤ L.length := List.length_filter_le _ _
  have E1 := Lib.hid (fun W a b h1 h2 => same_any (lo p.1 L) a b W (by omega) h1 h2)
  have E2 := Lib.hid (fun W a b h1 h2 => same_any (mi p.1 L) a b W (by omega) h1 h2)
  have E3 := Lib.hid (fun W a b h1 h2 => same_any (hi p.1 L) a b W (by omega) h1 h2)
  have LL := Lib.hid (fun (q : Pr → Bool) (k : Nat) => cut_len q L k)
  have HLN := Lib.hid hlen
  clear hv hl n1 n2 n3 hlen
  unfold lessV at *
  go_enter Try.func5, Try.ntmps5
  go_wp2_with fail
  refine K1.out.mono ?_
  rintro e w1 ⟨u1, rfl, hf1, ho1, hn1⟩
  have hs1 := ho1.sl
  rcases hs1 with ⟨h, _⟩ | ⟨g, o, cap, rfl, hc, ha, hr⟩
  · exact absurd h hn1
  have HS1 := Lib.hid (show Sl w1 (.slice (some ⟨g, o, none⟩) L.length cap) L from Or.inr ⟨g, o, cap, rfl, hc, ha, hr⟩)
  have HB := Lib.hid (show Bk w1 w.heap.size 28 #[.int .i64 p.1, .int .i64 p.2] from (Bk.new w _ _).fr hf1 id)
  have G1 := Lib.hid (((Fr.refl Nil w).alloc (.cells #[.int .i64 p.1, .int .i64 p.2] 28)).trans hf1)
  have R1 := Fr.refl Nil w1
  obtain ⟨b0, b1, _, _⟩ := HB.out.c2
  have HR := Lib.hid hr
  clear hf1 ho1 hn1 hc hr
  go_wp2_with fail
  go_region_held3 (fun w' => Fr Nil w1 w' ∧ w'.cell? ⟨w.heap.size, 0, none⟩ = some (.int .i64 p.1) ∧ w'.cell? ⟨w.heap.size, 1, none⟩ = some (.int .i64 p.2)) (first | (exact ⟨z, y0, y1⟩) | (exact ⟨R1.drew, b0, b1⟩) | (exact ⟨R1, b0, b1⟩))
    (first | (go_at_call 7; refine (KF.out _ _ (Sl.fr HS1.out (by first | exact R1.drew | (go_split_ands; assumption)))).mono ?_; rintro e wa ⟨ua, rfl, hfa, hsa⟩; have z : Fr Nil w1 wa := Fr.trans (by first | exact R1.drew | (go_split_ands; assumption)) hfa; obtain ⟨y0, y1, _, _⟩ := (HB.out.fr z id).c2) | (go_at_call 16; refine (KP.out _ _ hsa).mono ?_; rintro e wb ⟨va, vb, vc, rfl, hfb, ta, tb, tc⟩; have z : Fr Nil w1 wb := Fr.trans (by go_split_ands; assumption) hfb; obtain ⟨y0, y1, _, _⟩ := (HB.out.fr z id).c2))
  all_goals go_wp2_with fail
  have HZ := Lib.hid z
  have HT := Lib.hid (And.intro ta (And.intro tb tc))
  clear ta tb tc hfa hfb hsa
  go_loopw [8, 9, 10, 11] (fun a b c i wr => ∃ k : Nat, k ≤ L.length ∧ i = .int .i64 k ∧ Three wb.heap.size wr a b c (lo p.1 (L.take k)) (mi p.1 (L.take k)) (hi p.1 (L.take k)) ∧ Fr Nil wb wr) (fun _ _ _ i _ => L.length - (intOf i).toNat)
  case atStart => exact ⟨0, by omega, rfl, Three.made wb, by (repeat' (with_reducible first | refine Fr.setCell ?_ (fun hlt => absurd hlt (by dsimp only; omega)) _ | refine Fr.alloc ?_ _ | refine Fr.drewN ?_ _ | refine Fr.drew ?_ | exact Fr.refl _ _))⟩
  case round =>
    obtain ⟨k, hk, rfl, h3, hf⟩ := hrel
    by_cases hlt : k < L.length
    · obtain ⟨x, hx⟩ : ∃ x, L[k]? = some x := ⟨L[k], List.getElem?_eq_getElem hlt⟩
      obtain ⟨c0, c1⟩ := (HR.out.fr (HZ.out.trans hf) ha id) k x hx
      obtain ⟨d0, d1, _, _⟩ := (HB.out.fr (HZ.out.trans hf) id).c2
      have H3 := Lib.hid h3
      have HF := Lib.hid hf
      have HX := Lib.hid hx
      have hsz : wb.heap.size ≤ wr.heap.size := hf.size
      have l1 := LL.out (fun x => decide (x.1 < p.1)) k
      have l2 := LL.out (fun x => decide (x.1 = p.1)) k
      have l3 := LL.out (fun x => decide (p.1 < x.1)) k
      have l4 := HLN.out
      have L1 := Lib.hid (show (lo p.1 (L.take k)).length + [x].length ≤ 100000 by unfold lo; simp; omega)
      have L2 := Lib.hid (show (mi p.1 (L.take k)).length + [x].length ≤ 100000 by unfold mi; simp; omega)
      have L3 := Lib.hid (show (hi p.1 (L.take k)).length + [x].length ≤ 100000 by unfold hi; simp; omega)
      clear h3 hf hx l1 l2 l3 y0 y1 b0 b1 z
      rcases (by omega : x.1 < p.1 ∨ p.1 < x.1 ∨ (¬ x.1 < p.1 ∧ ¬ p.1 < x.1)) with hq | hq | ⟨hq, hq'⟩
      · have HE := Lib.hid (cut_low HX.out hq)
        go_wp2_with fail
        go_quiet (fail)
        go_wp2_with (at_builtin; refine wpList_appB rfl (.tmp 39) (.tmp 44) rfl wb.heap.size _ _ _ [x] rfl ((H3.out.fr (((Fr.refl Nil wr).drewN nq).alloc (.cells #[.int .i64 x.1, .int .i64 x.2] 28))).1) rfl (one_sl' x rfl) L1.out (by first | (simp; done) | (simp; omega)) ?_; intro v3 w7 h3 f3 b3 m3)
        have T1 := H3.out.fr (((Fr.refl Nil wr).drewN nq).alloc (.cells #[.int .i64 x.1, .int .i64 x.2] 28))
        have F7 := Fr.then ((HF.out.drewN nq).alloc (.cells #[.int .i64 x.1, .int .i64 x.2] 28)) f3 (fun i hi hlt => by have := (Own.lt T1.1 i hi).1; omega)
        go_roundw
        case rel => exact ⟨k + 1, by omega, by go_num, by rw [HE.out.1, HE.out.2.1, HE.out.2.2]; exact T1.one h3 f3 b3, F7⟩
        case measure => simp [intOf]; omega
      · have HE := Lib.hid (cut_high HX.out hq)
        have hq' : ¬ x.1 < p.1 := by omega
        go_wp2_with fail
        go_quiet (fail)
        obtain ⟨nq1, hnq1⟩ : ∃ n, n = nq := ⟨nq, rfl⟩
        subst hnq1
        go_wp2_with fail
        go_quiet (fail)
        go_wp2_with (at_builtin; refine wpList_appB rfl (.tmp 54) (.tmp 59) rfl wb.heap.size _ _ _ [x] rfl ((H3.out.fr (((Fr.refl Nil wr).drewN (nq1 + nq)).alloc (.cells #[.int .i64 x.1, .int .i64 x.2] 28))).2.2.1) rfl (one_sl' x rfl) L3.out (by first | (simp; done) | (simp; omega)) ?_; intro v3 w7 h3 f3 b3 m3)
        have T1 := H3.out.fr (((Fr.refl Nil wr).drewN (nq1 + nq)).alloc (.cells #[.int .i64 x.1, .int .i64 x.2] 28))
        have F7 := Fr.then ((HF.out.drewN (nq1 + nq)).alloc (.cells #[.int .i64 x.1, .int .i64 x.2] 28)) f3 (fun i hi hlt => by have := (Own.lt T1.2.2.1 i hi).1; omega)
        go_roundw
        case rel => exact ⟨k + 1, by omega, by go_num, by rw [HE.out.1, HE.out.2.1, HE.out.2.2]; exact T1.three h3 f3 b3, F7⟩
        case measure => simp [intOf]; omega
      · have HE := Lib.hid (cut_mid HX.out hq hq')
        go_wp2_with fail
        go_quiet (fail)
        obtain ⟨nq1, hnq1⟩ : ∃ n, n = nq := ⟨nq, rfl⟩
        subst hnq1
        go_wp2_with fail
        go_quiet (fail)
        go_wp2_with (at_builtin; refine wpList_appB rfl (.tmp 61) (.tmp 66) rfl wb.heap.size _ _ _ [x] rfl ((H3.out.fr (((Fr.refl Nil wr).drewN (nq1 + nq)).alloc (.cells #[.int .i64 x.1, .int .i64 x.2] 28))).2.1) rfl (one_sl' x rfl) L2.out (by first | (simp; done) | (simp; omega)) ?_; intro v3 w7 h3 f3 b3 m3)
        have T1 := H3.out.fr (((Fr.refl Nil wr).drewN (nq1 + nq)).alloc (.cells #[.int .i64 x.1, .int .i64 x.2] 28))
        have F7 := Fr.then ((HF.out.drewN (nq1 + nq)).alloc (.cells #[.int .i64 x.1, .int .i64 x.2] 28)) f3 (fun i hi hlt => by have := (Own.lt T1.2.1 i hi).1; omega)
        go_roundw
        case rel => exact ⟨k + 1, by omega, by go_num, by rw [HE.out.1, HE.out.2.1, HE.out.2.2]; exact T1.two h3 f3 b3, F7⟩
        case measure => simp [intOf]; omega
    · obtain rfl : k = L.length := by omega
      rw [List.take_length] at h3
      have T3 := Lib.hid h3
      have F3 := Lib.hid hf
      have F0 := Lib.hid ((G1.out.trans z).trans hf)
      clear h3 hf
      go_wp2_with fail
      refine (E1.out _ _ _ (Sl.fr HT.out.1 F3.out) T3.out.1.sl).mono ?_
      rintro e x7 ⟨rfl, g7⟩
      have G7 := Lib.hid g7
      clear g7
      go_wp2_with fail
      refine (E2.out _ _ _ (Sl.fr HT.out.2.1 (F3.out.trans G7.out)) (Sl.fr T3.out.2.1.sl G7.out)).mono ?_
      rintro e x8 ⟨rfl, g8⟩
      have G8 := Lib.hid (G7.out.trans g8)
      clear g8
      go_wp2_with fail
      refine (E3.out _ _ _ (Sl.fr HT.out.2.2 (F3.out.trans G8.out)) (Sl.fr T3.out.2.2.1.sl G8.out)).mono ?_
      rintro e x9 ⟨rfl, g9⟩
      have G9 := Lib.hid (G8.out.trans g9)
      clear g9
      go_wp2_with fail
      refine (PL.out _).mono ?_
      rintro e x10 ⟨rfl, g10⟩
      go_wp2_with fail
      exact bodyPost_ret (v := .bool true) (by simp [results, Try.results5, go_sem]) rfl ⟨rfl, F0.out.trans (G9.out.trans g10)⟩
end Go.Proofs.Ytokgeegbeagblaa.PickD
