/- Chapter 7: the walks of lives and of the law SortedPlaces. -/
import Derived.Test.YthkklhephacpeaaSortL
namespace Go.Proofs.Ythkklhephacpeaa.SortM
open Go.RowKit Base SortA SortB SortC SortD SortE SortF SortG SortH SortI SortJ SortK SortL Quiet
set_option linter.unusedVariables false
set_option linter.unusedSimpArgs false

set_option maxRecDepth 100000 in
set_option maxHeartbeats 4000000 in
theorem lives_any (w : World) : Calls Try.prog 14 #[] w fun e w' => e = .returned (.bool true) ∧ Fr Nil w w' := by
  have hi : isort [(5, 0), (3, 0), (1, 0), (3, 0)] = [(1, 0), (3, 0), (3, 0), (5, 0)] := by decide
  have hv : Sl (w.alloc (.cells #[.int .i64 5, .int .i64 0, .int .i64 3, .int .i64 0, .int .i64 1, .int .i64 0, .int .i64 3, .int .i64 0] 24)) (.slice (some ⟨w.heap.size, 0, none⟩) 4 4) [(5, 0), (3, 0), (1, 0), (3, 0)] := by
    have hB := Bk.new w 24 #[.int .i64 5, .int .i64 0, .int .i64 3, .int .i64 0, .int .i64 1, .int .i64 0, .int .i64 3, .int .i64 0]
    refine Or.inr ⟨w.heap.size, 0, 4, rfl, by simp, hB.lt, fun i p hp => ?_⟩
    have hi : i = 0 ∨ i = 1 ∨ i = 2 ∨ i = 3 := by have := (List.getElem?_eq_some_iff.1 hp).1; simp at this; omega
    rcases hi with rfl | rfl | rfl | rfl
    · cases hp; exact ⟨hB.cell 0, hB.cell 1⟩
    · cases hp; exact ⟨hB.cell 2, hB.cell 3⟩
    · cases hp; exact ⟨hB.cell 4, hB.cell 5⟩
    · cases hp; exact ⟨hB.cell 6, hB.cell 7⟩
  have K := Lib.hid (sort_any _ _ _ (by simp) hv)
  have F0 := Lib.hid ((Fr.refl Nil w).alloc (.cells #[.int .i64 5, .int .i64 0, .int .i64 3, .int .i64 0, .int .i64 1, .int .i64 0, .int .i64 3, .int .i64 0] 24))
  have hs : Srt [(1, 0), (3, 0), (3, 0), (5, 0)] := by rw [← hi]; exact isort_srt _
  have K1 := Lib.hid (fun W u h => First_any [(1, 0), (3, 0), (3, 0), (5, 0)] (3, 0) u W (by simp) hs h)
  have K2 := Lib.hid (fun W u h => Behind_any [(1, 0), (3, 0), (3, 0), (5, 0)] (3, 0) u W (by simp) hs h)
  rw [hi] at K
  rw [show below [(1, 0), (3, 0), (3, 0), (5, 0)] (3, 0).1 = 1 by decide] at K1
  rw [show upto [(1, 0), (3, 0), (3, 0), (5, 0)] (3, 0).1 = 3 by decide] at K2
  clear hv hi hs
  unfold lessV at *
  go_enter Try.func14, Try.ntmps14
  go_wp2_with fail
  refine K.out.mono ?_
  rintro e w1 ⟨u, rfl, hf1, hs1⟩
  obtain ⟨A, c, rfl⟩ := Sl.shape hs1
  have HS := Lib.hid hs1
  clear hs1
  simp only [List.length_cons, List.length_nil] at HS ⊢
  go_wp2_with fail
  refine (K1.out _ _ HS.out).mono ?_
  rintro e w2 ⟨rfl, hf2⟩
  go_wp2_with fail
  refine (K2.out _ _ (Sl.fr HS.out hf2)).mono ?_
  rintro e w3 ⟨rfl, hf3⟩
  go_wp2_with fail
  exact bodyPost_ret (v := .bool true) (by simp [results, Try.results14, go_sem]) rfl ⟨rfl, ((F0.out.trans hf1).trans hf2).trans hf3⟩

set_option maxRecDepth 100000 in
set_option maxHeartbeats 8000000 in
theorem places_any (l : List Pr) (p : Pr) (v : Value) (w : World) (hl : l.length ≤ maxLen) (hv : Come w v l) :
    Calls Try.prog 3 #[v, .agg #[.int .i64 p.1, .int .i64 p.2]] w fun e w' => e = .returned (.bool true) ∧ Fr Nil w w' := by
  have hlen : (isort (l.take 60)).length ≤ 60 := by rw [isort_len, List.length_take]; omega
  have hsrt := isort_srt (l.take 60)
  have K1 := Lib.hid (few_any l v _ hl (hv.fr ((Fr.refl Nil w).alloc (.cells #[.int .i64 p.1, .int .i64 p.2] 24))))
  have K2 := Lib.hid (fun W u h => sort_ref (l.take 60) u W (by rw [List.length_take]; omega) h)
  generalize hL : isort (l.take 60) = L at *
  have KB := Lib.hid (fun W u h => below_any L p.1 u W (by omega) h)
  have KU := Lib.hid (fun W u h => upto_any L p.1 u W (by omega) h)
  have KF := Lib.hid (fun W u h => few_sl L u W hlen h)
  have P1 := Lib.hid (fun W u h => First_any L p u W (by omega) hsrt h)
  have P2 := Lib.hid (fun W u h => Behind_any L p u W (by omega) hsrt h)
  have P3 := Lib.hid (fun W u h => Has_any L p u W (by omega) hsrt h)
  have PL := Lib.hid (fun W => lives_any W)
  clear hL hsrt hlen hl hv
  unfold lessV at *
  generalize below L p.1 = nb at *
  generalize upto L p.1 = nu at *
  go_enter Try.func3, Try.ntmps3
  go_wp2_with fail
  refine K1.out.mono ?_
  rintro e w1 ⟨u1, rfl, hf1, ho1, hn1⟩
  have hs1 := Sl.of_own ho1 rfl
  have HS1 := Lib.hid hs1
  clear hs1 ho1 hn1
  go_wp2_with fail
  refine (K2.out _ _ HS1.out).mono ?_
  rintro e w2 ⟨u2, rfl, hf2, hs2, hn2⟩
  have hB : Bk w2 w.heap.size 24 #[.int .i64 p.1, .int .i64 p.2] := ((Bk.new w _ _).fr hf1 id).fr hf2 id
  have g2 := (((Fr.refl Nil w).alloc (.cells #[.int .i64 p.1, .int .i64 p.2] 24)).trans hf1).trans hf2
  obtain ⟨A, c, rfl⟩ := Sl.shape hs2
  have HS2 := Lib.hid hs2
  have G2 := Lib.hid g2
  obtain ⟨q1, q2⟩ := quiet_c2 (S := Nil) hB id
  have HB := Lib.hid hB
  clear hs2 hn2 g2 hf1 hf2 hB K1 K2 HS1
  go_wp2_with fail
  refine wp_region_quiet_fr Nil (by kernel_rfl) (by kernel_rfl) ?_
  repeat (go_big_quiet_step (first
    | (go_at_call 8; exact quiet_call (KB.out _ _ (Sl.fr HS2.out (by first | exact FrW.fr _))))
    | (go_at_call 9; exact quiet_call (KU.out _ _ (Sl.fr HS2.out (by first | exact FrW.fr _))))))
  refine wpQuiet_nil ?_
  intro w3 hw'
  obtain ⟨⟨wq, hfq⟩, hw''⟩ := hw'
  subst hw''
  have HS3 := Lib.hid (Sl.fr HS2.out hfq)
  have HB3 := Lib.hid (HB.out.fr hfq id)
  have G3 := Lib.hid (G2.out.trans hfq)
  have R3 := Fr.refl Nil w3
  obtain ⟨c0, c1, _, _⟩ := HB3.out.c2
  clear q1 q2 hfq HB HS2 G2
  go_wp2_with fail
  go_region_held3 (fun w' => Fr Nil w3 w' ∧ w'.cell? ⟨w.heap.size, 0, none⟩ = some (.int .i64 p.1) ∧ w'.cell? ⟨w.heap.size, 1, none⟩ = some (.int .i64 p.2)) (first | (exact ⟨z, y0, y1⟩) | (exact ⟨R3.drew, c0, c1⟩))
    (first | (go_at_call 7; refine (KF.out _ _ (Sl.fr HS3.out (by go_split_ands; assumption))).mono ?_; rintro e wa ⟨ua, rfl, hfa, hsa⟩; have z : Fr Nil w3 wa := Fr.trans (by go_split_ands; assumption) hfa; obtain ⟨y0, y1, _, _⟩ := (HB3.out.fr z id).c2) | (go_at_call 10; refine (P1.out _ _ hsa).mono ?_; rintro e wa ⟨rfl, hfa⟩; have z : Fr Nil w3 wa := Fr.trans (by go_split_ands; assumption) hfa; obtain ⟨y0, y1, _, _⟩ := (HB3.out.fr z id).c2) | (go_at_call 12; refine (P2.out _ _ hsa).mono ?_; rintro e wa ⟨rfl, hfa⟩; have z : Fr Nil w3 wa := Fr.trans (by go_split_ands; assumption) hfa; obtain ⟨y0, y1, _, _⟩ := (HB3.out.fr z id).c2) | (go_at_call 13; refine (P3.out _ _ hsa).mono ?_; rintro e wa ⟨rfl, hfa⟩; have z : Fr Nil w3 wa := Fr.trans (by go_split_ands; assumption) hfa; obtain ⟨y0, y1, _, _⟩ := (HB3.out.fr z id).c2) | (go_at_call 14; refine (PL.out _).mono ?_; rintro e wa ⟨rfl, hfa⟩; have z : Fr Nil w3 wa := Fr.trans (by go_split_ands; assumption) hfa; obtain ⟨y0, y1, _, _⟩ := (HB3.out.fr z id).c2))
  all_goals go_wp2_with fail
  all_goals exact bodyPost_ret (v := .bool true) (by simp [results, Try.results3, go_sem]) rfl ⟨rfl, G3.out.trans z⟩
end Go.Proofs.Ythkklhephacpeaa.SortM
