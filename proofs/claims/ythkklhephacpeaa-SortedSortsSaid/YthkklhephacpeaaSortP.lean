/- Chapter 7: the walk of the law SortedSorts. -/
import Derived.Test.YthkklhephacpeaaSortO
namespace Go.Proofs.Ythkklhephacpeaa.SortP
open Go.RowKit Base SortA SortB SortC SortD SortE SortF SortG SortH SortI SortJ SortK SortL SortM SortO Quiet
set_option linter.unusedVariables false
set_option linter.unusedSimpArgs false

set_option maxRecDepth 100000 in
set_option maxHeartbeats 8000000 in
theorem sorts_some (l : List Pr) (x : Int) (v : Value) (w : World) (hl : l.length ≤ maxLen) (hx : 0 ≤ x ∧ x ≤ 255) (hv : Come w v l) (k : Nat) (hk : x % ((l.take 60).length : Int) = k) (hkl : k < (l.take 60).length) :
    Calls Try.prog 4 #[v, .int .u8 x] w fun e w' => e = .returned (.bool true) ∧ Fr Nil w w' := by
  have hlen : (l.take 60).length ≤ 60 := by rw [List.length_take]; omega
  have K1 := Lib.hid (few_any l v _ hl hv)
  generalize hL : l.take 60 = L at *
  clear hv hl
  obtain ⟨b, hb⟩ : ∃ b : Bool, b = true ↔ SortO.Good L := by
    by_cases h : SortO.Good L
    · exact ⟨true, by simp [h]⟩
    · exact ⟨false, by simp [h]⟩
  have lt1 : (L.take k).length = k := by rw [List.length_take]; omega
  have lt2 : (L.drop k).length = L.length - k := by rw [List.length_drop]
  have hmt : x.tmod (L.length : Int) = k := by rw [Int.tmod_eq_emod_of_nonneg hx.1]; exact hk
  have KF := Lib.hid (fun W u h => few_sl L u W (by (try simp only [isort_len, List.length_take, List.length_drop, List.length_nil]); omega) h)
  have KF1 := Lib.hid (fun W u h => few_sl (L.take k) u W (by (try simp only [isort_len, List.length_take, List.length_drop, List.length_nil]); omega) h)
  have KF2 := Lib.hid (fun W u h => few_sl (L.drop k) u W (by (try simp only [isort_len, List.length_take, List.length_drop, List.length_nil]); omega) h)
  have KFS := Lib.hid (fun W u h => few_sl (isort L) u W (by (try simp only [isort_len, List.length_take, List.length_drop, List.length_nil]); omega) h)
  have KS := Lib.hid (fun W u h => sort_any L u W (by (try simp only [isort_len, List.length_take, List.length_drop, List.length_nil]); omega) h)
  have KS1 := Lib.hid (fun W u h => sort_any (L.take k) u W (by (try simp only [isort_len, List.length_take, List.length_drop, List.length_nil]); omega) h)
  have KS2 := Lib.hid (fun W u h => sort_any (L.drop k) u W (by (try simp only [isort_len, List.length_take, List.length_drop, List.length_nil]); omega) h)
  have KR := Lib.hid (fun W u h => sort_ref L u W (by (try simp only [isort_len, List.length_take, List.length_drop, List.length_nil]); omega) h)
  have KM := Lib.hid (fun W u1 u2 h1 h2 => Merge_any (isort (L.take k)) (isort (L.drop k)) u1 u2 W (by (try simp only [isort_len, List.length_take, List.length_drop, List.length_nil]); omega) (by (try simp only [isort_len, List.length_take, List.length_drop, List.length_nil]); omega) h1 h2)
  have hmm : mrg (isort (L.take k)) (isort (L.drop k)) = isort L := by rw [mrg_isort, List.take_append_drop]
  rw [hmm] at KM
  have KE := Lib.hid (fun W u1 u2 h1 h2 => same_any (isort L) u1 u2 W (by (try simp only [isort_len, List.length_take, List.length_drop, List.length_nil]); omega) h1 h2)
  have KI := Lib.hid (fun W u h => is_any L b u W (by (try simp only [isort_len, List.length_take, List.length_drop, List.length_nil]); omega) hb h)
  have KJ := Lib.hid (fun W u h => is_ref L b u W (by (try simp only [isort_len, List.length_take, List.length_drop, List.length_nil]); omega) hb h)
  have KT := Lib.hid (fun W u h => is_any (isort L) true u W (by (try simp only [isort_len, List.length_take, List.length_drop, List.length_nil]); omega) (by simp [Srt.good (isort_srt _)]) h)
  have PL := Lib.hid (fun W => lives_any W)
  clear hb hmm hL
  unfold lessV at *
  go_enter Try.func4, Try.ntmps4
  go_wp2_with fail
  refine K1.out.mono ?_
  rintro e w1 ⟨u1, rfl, hf1, ho1, hn1⟩
  have hs1 := Sl.of_own ho1 rfl
  rcases hs1 with ⟨h, _⟩ | ⟨g, o, cap, rfl, hc, ha, hr⟩
  · exact absurd h hn1
  have HS := Lib.hid (show Sl w1 (.slice (some ⟨g, o, none⟩) L.length cap) L from Or.inr ⟨g, o, cap, rfl, hc, ha, hr⟩)
  have HT := Lib.hid (head_sl k hc (by omega) ha hr)
  have HD := Lib.hid (show Sl w1 (.slice (some ⟨g, o + k * 2, none⟩) (L.length - k) (cap - k)) (L.drop k) from Or.inr ⟨g, o + k * 2, cap - k, by rw [lt2], by omega, ha, hr.drop k⟩)
  have b1 : (k : Int) ≤ L.length := by omega
  have b2 : (k : Int) ≤ cap := by omega
  have b3 : (0 : Int) ≤ k := by omega
  have b4 : (0 : Int) < L.length := by omega
  have b5 : (L.length : Int) ≤ cap := by omega
  have b6 : ¬ cap = k := by omega
  have b7 : ¬ (L.length : Int) = 0 := by omega
  have b8 : wrap64 (k : Int) = k := by unfold wrap64; omega
  have b9 : wrap64 x = x := by unfold wrap64; omega
  have b10 : IntKind.i64.wrap x = x := by rw [IntKind.wrap_i64]; omega
  clear hc hr ho1 hn1 ha K1 lt1 lt2 hkl
  have F1 := hf1
  go_wp2_with fail
  refine (KF.out _ _ HS.out).mono ?_
  rintro e w2 ⟨u2, rfl, hf2, hs2⟩
  have HS2 := Lib.hid hs2
  have F2 := hf1.trans hf2
  clear hs2
  go_wp2_with fail
  refine (KS.out _ _ HS2.out).mono ?_
  rintro e w3 ⟨us, rfl, hf3, hs3⟩
  obtain ⟨As, cs, rfl⟩ := Sl.shape hs3
  rw [show (isort L).length = L.length from isort_len L] at hs3 ⊢
  have HSS := Lib.hid hs3
  have F3 := Lib.hid (F2.trans hf3)
  have F13 := Lib.hid (hf2.trans hf3)
  have R3 := Fr.refl Nil w3
  have s1 := Lib.hid True.intro
  have s2 := Lib.hid True.intro
  clear hs3 hf1 hf2 hf3 F1 F2
  go_wp2_with fail
  go_region_held3 (fun w' => Fr Nil w3 w') (first | (exact z) | (exact R3.drew))
    (first | (go_at_call 7; clear s1; with_reducible refine (KF1.out _ _ (Sl.fr HT.out (F13.out.trans (by assumption)))).mono ?_; rintro e wa ⟨ua, rfl, hfa, hsa⟩; have z : Fr Nil w3 wa := Fr.trans (by assumption) hfa) | (go_at_call 15; clear s2; with_reducible refine (KS1.out _ _ hsa).mono ?_; rintro e wb ⟨ub, rfl, hfb, hsb⟩; have z : Fr Nil w3 wb := Fr.trans (by assumption) hfb) | (go_at_call 7; with_reducible refine (KF2.out _ _ (Sl.fr HD.out (F13.out.trans (by assumption)))).mono ?_; rintro e wc ⟨uc, rfl, hfc, hsc⟩; have z : Fr Nil w3 wc := Fr.trans (by assumption) hfc) | (go_at_call 15; with_reducible refine (KS2.out _ _ hsc).mono ?_; rintro e wd ⟨ud, rfl, hfd, hsd⟩; have z : Fr Nil w3 wd := Fr.trans (by assumption) hfd) | (go_at_call 16; refine (KM.out _ _ _ (Sl.fr hsb (hfc.trans hfd)) hsd).mono ?_; rintro e we ⟨ue, rfl, hfe, hse⟩; have z : Fr Nil w3 we := Fr.trans (by assumption) hfe))
  all_goals
    have HM := Lib.hid hse
    have Z := Lib.hid z
    clear hse z hfa hfb hfc hfd hfe hsa hsb hsc hsd
    go_wp2_with fail
    with_reducible refine (KR.out _ _ (Sl.fr HS.out (F13.out.trans Z.out))).mono ?_
    rintro e w4 ⟨u4, rfl, hf4, hs4, _⟩
    have Z4 := Lib.hid (Z.out.trans hf4)
    have Y4 := Lib.hid hf4
    have H4 := Lib.hid hs4
    clear hs4 hf4
    go_wp2_with fail
    with_reducible refine (KE.out _ _ _ (Sl.fr HSS.out Z4.out) H4.out).mono ?_
    rintro e w5 ⟨rfl, hf5⟩
    have Z5 := Lib.hid (Z4.out.trans hf5)
    have Y5 := Lib.hid (Y4.out.trans hf5)
    clear hf5
    go_wp2_with fail
    with_reducible refine (KF.out _ _ (Sl.fr HS.out (F13.out.trans Z5.out))).mono ?_
    rintro e w6 ⟨u6, rfl, hf6, hs6⟩
    have Z6 := Lib.hid (Z5.out.trans hf6)
    have Y6 := Lib.hid (Y5.out.trans hf6)
    have H6 := Lib.hid hs6
    clear hs6 hf6
    go_wp2_with fail
    with_reducible refine (KI.out _ _ H6.out).mono ?_
    rintro e w7 ⟨rfl, hf7⟩
    have Z7 := Lib.hid (Z6.out.trans hf7)
    have Y7 := Lib.hid (Y6.out.trans hf7)
    clear hf7
    go_wp2_with fail
    with_reducible refine (KJ.out _ _ (Sl.fr HS.out (F13.out.trans Z7.out))).mono ?_
    rintro e w8 ⟨rfl, hf8⟩
    have Z8 := Lib.hid (Z7.out.trans hf8)
    have Y8 := Lib.hid (Y7.out.trans hf8)
    clear hf8
    go_wp2_with fail
    with_reducible refine (KFS.out _ _ (Sl.fr HSS.out Z8.out)).mono ?_
    rintro e w9 ⟨u9, rfl, hf9, hs9⟩
    have Z9 := Lib.hid (Z8.out.trans hf9)
    have Y9 := Lib.hid (Y8.out.trans hf9)
    have H9 := Lib.hid hs9
    clear hs9 hf9
    go_wp2_with fail
    with_reducible refine (KT.out _ _ H9.out).mono ?_
    rintro e w10 ⟨rfl, hf10⟩
    have Z10 := Lib.hid (Z9.out.trans hf10)
    have Y10 := Lib.hid (Y9.out.trans hf10)
    clear hf10
    go_wp2_with fail
    with_reducible refine (KE.out _ _ _ (Sl.fr HM.out Y10.out) (Sl.fr HSS.out Z10.out)).mono ?_
    rintro e w11 ⟨rfl, hf11⟩
    have Z11 := Lib.hid (Z10.out.trans hf11)
    clear hf11
    go_wp2_with fail
    with_reducible refine (PL.out _).mono ?_
    rintro e w12 ⟨rfl, hf12⟩
    have Z12 := Lib.hid (Z11.out.trans hf12)
    clear hf12
    go_wp2_with fail
    exact bodyPost_ret (v := .bool true) (by simp [results, Try.results4, go_sem]) rfl ⟨rfl, F3.out.trans Z12.out⟩

set_option maxRecDepth 100000 in
set_option maxHeartbeats 8000000 in
theorem sorts_none (l : List Pr) (x : Int) (v : Value) (w : World) (hl : l.length ≤ maxLen) (hx : 0 ≤ x ∧ x ≤ 255) (hv : Come w v l) (he : l.take 60 = []) :
    Calls Try.prog 4 #[v, .int .u8 x] w fun e w' => e = .returned (.bool true) ∧ Fr Nil w w' := by
  have hlen : (l.take 60).length ≤ 60 := by rw [List.length_take]; omega
  have K1 := Lib.hid (few_any l v _ hl hv)
  generalize hL : l.take 60 = L at *
  clear hv hl
  obtain ⟨b, hb⟩ : ∃ b : Bool, b = true ↔ SortO.Good L := by
    by_cases h : SortO.Good L
    · exact ⟨true, by simp [h]⟩
    · exact ⟨false, by simp [h]⟩
  subst he
  have KF := Lib.hid (fun W u h => few_sl ([] : List Pr) u W (by (try simp only [isort_len, List.length_take, List.length_drop, List.length_nil]); omega) h)
  have KF1 := Lib.hid (fun W u h => few_sl ([] : List Pr) u W (by (try simp only [isort_len, List.length_take, List.length_drop, List.length_nil]); omega) h)
  have KF2 := Lib.hid (fun W u h => few_sl ([] : List Pr) u W (by (try simp only [isort_len, List.length_take, List.length_drop, List.length_nil]); omega) h)
  have KFS := Lib.hid (fun W u h => few_sl (isort ([] : List Pr)) u W (by (try simp only [isort_len, List.length_take, List.length_drop, List.length_nil]); omega) h)
  have KS := Lib.hid (fun W u h => sort_any ([] : List Pr) u W (by (try simp only [isort_len, List.length_take, List.length_drop, List.length_nil]); omega) h)
  have KS1 := Lib.hid (fun W u h => sort_any ([] : List Pr) u W (by (try simp only [isort_len, List.length_take, List.length_drop, List.length_nil]); omega) h)
  have KS2 := Lib.hid (fun W u h => sort_any ([] : List Pr) u W (by (try simp only [isort_len, List.length_take, List.length_drop, List.length_nil]); omega) h)
  have KR := Lib.hid (fun W u h => sort_ref ([] : List Pr) u W (by (try simp only [isort_len, List.length_take, List.length_drop, List.length_nil]); omega) h)
  have KM := Lib.hid (fun W u1 u2 h1 h2 => Merge_any (isort ([] : List Pr)) (isort ([] : List Pr)) u1 u2 W (by (try simp only [isort_len, List.length_take, List.length_drop, List.length_nil]); omega) (by (try simp only [isort_len, List.length_take, List.length_drop, List.length_nil]); omega) h1 h2)
  have hmm : mrg (isort ([] : List Pr)) (isort ([] : List Pr)) = isort ([] : List Pr) := by rw [mrg_isort]; rfl
  rw [hmm] at KM
  have KE := Lib.hid (fun W u1 u2 h1 h2 => same_any (isort ([] : List Pr)) u1 u2 W (by (try simp only [isort_len, List.length_take, List.length_drop, List.length_nil]); omega) h1 h2)
  have KI := Lib.hid (fun W u h => is_any ([] : List Pr) b u W (by (try simp only [isort_len, List.length_take, List.length_drop, List.length_nil]); omega) hb h)
  have KJ := Lib.hid (fun W u h => is_ref ([] : List Pr) b u W (by (try simp only [isort_len, List.length_take, List.length_drop, List.length_nil]); omega) hb h)
  have KT := Lib.hid (fun W u h => is_any (isort ([] : List Pr)) true u W (by (try simp only [isort_len, List.length_take, List.length_drop, List.length_nil]); omega) (by simp [Srt.good (isort_srt _)]) h)
  have PL := Lib.hid (fun W => lives_any W)
  clear hb hmm hL
  unfold lessV at *
  go_enter Try.func4, Try.ntmps4
  go_wp2_with fail
  refine K1.out.mono ?_
  rintro e w1 ⟨u1, rfl, hf1, ho1, hn1⟩
  have hs1 := Sl.of_own ho1 rfl
  rcases hs1 with ⟨h, _⟩ | ⟨g, o, cap, rfl, hc, ha, hr⟩
  · exact absurd h hn1
  have HS := Lib.hid (show Sl w1 (.slice (some ⟨g, o, none⟩) 0 cap) [] from Or.inr ⟨g, o, cap, rfl, hc, ha, hr⟩)
  have HT := HS
  have HD := HS
  simp only [List.length_nil]
  clear hc hr ho1 hn1 ha K1
  have F1 := hf1
  go_wp2_with fail
  refine (KF.out _ _ HS.out).mono ?_
  rintro e w2 ⟨u2, rfl, hf2, hs2⟩
  have HS2 := Lib.hid hs2
  have F2 := hf1.trans hf2
  clear hs2
  go_wp2_with fail
  refine (KS.out _ _ HS2.out).mono ?_
  rintro e w3 ⟨us, rfl, hf3, hs3⟩
  obtain ⟨As, cs, rfl⟩ := Sl.shape hs3
  rw [show (isort ([] : List Pr)).length = 0 from rfl] at hs3 ⊢
  have HSS := Lib.hid hs3
  have F3 := Lib.hid (F2.trans hf3)
  have F13 := Lib.hid (hf2.trans hf3)
  have R3 := Fr.refl Nil w3
  have s1 := Lib.hid True.intro
  have s2 := Lib.hid True.intro
  clear hs3 hf1 hf2 hf3 F1 F2
  go_wp2_with fail
  go_region_held3 (fun w' => Fr Nil w3 w') (first | (exact z) | (exact R3.drew))
    (first | (go_at_call 7; clear s1; with_reducible refine (KF1.out _ _ (Sl.fr HT.out (F13.out.trans (by assumption)))).mono ?_; rintro e wa ⟨ua, rfl, hfa, hsa⟩; have z : Fr Nil w3 wa := Fr.trans (by assumption) hfa) | (go_at_call 15; clear s2; with_reducible refine (KS1.out _ _ hsa).mono ?_; rintro e wb ⟨ub, rfl, hfb, hsb⟩; have z : Fr Nil w3 wb := Fr.trans (by assumption) hfb) | (go_at_call 7; with_reducible refine (KF2.out _ _ (Sl.fr HD.out (F13.out.trans (by assumption)))).mono ?_; rintro e wc ⟨uc, rfl, hfc, hsc⟩; have z : Fr Nil w3 wc := Fr.trans (by assumption) hfc) | (go_at_call 15; with_reducible refine (KS2.out _ _ hsc).mono ?_; rintro e wd ⟨ud, rfl, hfd, hsd⟩; have z : Fr Nil w3 wd := Fr.trans (by assumption) hfd) | (go_at_call 16; refine (KM.out _ _ _ (Sl.fr hsb (hfc.trans hfd)) hsd).mono ?_; rintro e we ⟨ue, rfl, hfe, hse⟩; have z : Fr Nil w3 we := Fr.trans (by assumption) hfe))
  all_goals
    have HM := Lib.hid hse
    have Z := Lib.hid z
    clear hse z hfa hfb hfc hfd hfe hsa hsb hsc hsd
    go_wp2_with fail
    with_reducible refine (KR.out _ _ (Sl.fr HS.out (F13.out.trans Z.out))).mono ?_
    rintro e w4 ⟨u4, rfl, hf4, hs4, _⟩
    have Z4 := Lib.hid (Z.out.trans hf4)
    have Y4 := Lib.hid hf4
    have H4 := Lib.hid hs4
    clear hs4 hf4
    go_wp2_with fail
    with_reducible refine (KE.out _ _ _ (Sl.fr HSS.out Z4.out) H4.out).mono ?_
    rintro e w5 ⟨rfl, hf5⟩
    have Z5 := Lib.hid (Z4.out.trans hf5)
    have Y5 := Lib.hid (Y4.out.trans hf5)
    clear hf5
    go_wp2_with fail
    with_reducible refine (KF.out _ _ (Sl.fr HS.out (F13.out.trans Z5.out))).mono ?_
    rintro e w6 ⟨u6, rfl, hf6, hs6⟩
    have Z6 := Lib.hid (Z5.out.trans hf6)
    have Y6 := Lib.hid (Y5.out.trans hf6)
    have H6 := Lib.hid hs6
    clear hs6 hf6
    go_wp2_with fail
    with_reducible refine (KI.out _ _ H6.out).mono ?_
    rintro e w7 ⟨rfl, hf7⟩
    have Z7 := Lib.hid (Z6.out.trans hf7)
    have Y7 := Lib.hid (Y6.out.trans hf7)
    clear hf7
    go_wp2_with fail
    with_reducible refine (KJ.out _ _ (Sl.fr HS.out (F13.out.trans Z7.out))).mono ?_
    rintro e w8 ⟨rfl, hf8⟩
    have Z8 := Lib.hid (Z7.out.trans hf8)
    have Y8 := Lib.hid (Y7.out.trans hf8)
    clear hf8
    go_wp2_with fail
    with_reducible refine (KFS.out _ _ (Sl.fr HSS.out Z8.out)).mono ?_
    rintro e w9 ⟨u9, rfl, hf9, hs9⟩
    have Z9 := Lib.hid (Z8.out.trans hf9)
    have Y9 := Lib.hid (Y8.out.trans hf9)
    have H9 := Lib.hid hs9
    clear hs9 hf9
    go_wp2_with fail
    with_reducible refine (KT.out _ _ H9.out).mono ?_
    rintro e w10 ⟨rfl, hf10⟩
    have Z10 := Lib.hid (Z9.out.trans hf10)
    have Y10 := Lib.hid (Y9.out.trans hf10)
    clear hf10
    go_wp2_with fail
    with_reducible refine (KE.out _ _ _ (Sl.fr HM.out Y10.out) (Sl.fr HSS.out Z10.out)).mono ?_
    rintro e w11 ⟨rfl, hf11⟩
    have Z11 := Lib.hid (Z10.out.trans hf11)
    clear hf11
    go_wp2_with fail
    with_reducible refine (PL.out _).mono ?_
    rintro e w12 ⟨rfl, hf12⟩
    have Z12 := Lib.hid (Z11.out.trans hf12)
    clear hf12
    go_wp2_with fail
    exact bodyPost_ret (v := .bool true) (by simp [results, Try.results4, go_sem]) rfl ⟨rfl, F3.out.trans Z12.out⟩

theorem sorts_any (l : List Pr) (x : Int) (v : Value) (w : World) (hl : l.length ≤ maxLen) (hx : 0 ≤ x ∧ x ≤ 255) (hv : Come w v l) :
    Calls Try.prog 4 #[v, .int .u8 x] w fun e w' => e = .returned (.bool true) ∧ Fr Nil w w' := by
  by_cases he : l.take 60 = []
  · exact sorts_none l x v w hl hx hv he
  · have hpos : 0 < (l.take 60).length := List.length_pos_iff.2 he
    have h1 := Int.emod_nonneg x (b := ((l.take 60).length : Int)) (by omega)
    have h2 := Int.emod_lt_of_pos x (b := ((l.take 60).length : Int)) (by omega)
    exact sorts_some l x v w hl hx hv (x % ((l.take 60).length : Int)).toNat (by omega) (by omega)
end Go.Proofs.Ythkklhephacpeaa.SortP
