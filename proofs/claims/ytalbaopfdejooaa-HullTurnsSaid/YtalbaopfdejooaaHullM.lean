/- Chapter 41: the walk of the reference's Sort of points. -/
import Derived.Test.YtalbaopfdejooaaHullL
namespace Go.Proofs.Ytalbaopfdejooaa.HullM
open Go.RowKit Base Slices RowsA KernA KernE AreaA HullD HullE HullF HullG HullH HullI HullJ Quiet
set_option linter.unusedVariables false
set_option linter.unusedSimpArgs false

theorem lex_le (y x : Pn) : lex3 y.2.1 y.2.2 y.1 x.2.1 x.2.2 x.1 ≤ 0 ↔ Le y x := by
  rw [Le_iff]
  rcases KernE.lex_paths y.2.1 y.2.2 y.1 x.2.1 x.2.2 x.1 with ⟨h, e⟩ | ⟨h, e⟩ | ⟨e1, h, e⟩ | ⟨e1, h, e⟩ | ⟨e1, e2, h, e⟩ | ⟨e1, e2, h, e⟩ | ⟨e1, e2, e3, e⟩ <;> rw [e] <;> omega
theorem not_le {y x : Pn} (h : ¬ Le y x) : ltB x y = true := by
  unfold Le at h
  simpa using h
theorem ins_done {l : List Pn} {j k : Nat} {x : Pn} (hx : l[j]? = some x) (h1 : ∀ (n : Nat) y, n < k → (srt (l.take j))[n]? = some y → Le y x) (h2 : ∀ y, (srt (l.take j))[k]? = some y → ¬ Le y x) :
    (srt (l.take j)).take k ++ [x] ++ (srt (l.take j)).drop k = srt (l.take (j + 1)) := by
  rw [take_snoc hx]
  have hs := srt_srt (l.take j)
  generalize hS : srt (l.take j) = S at *
  have := Going.done (l := l) (j := j) (x := x) (A := S.take k) (B := S.drop k) (by rw [hS, List.take_append_drop])
    (fun y hy => by
      obtain ⟨n, hn, rfl⟩ := List.getElem_of_mem hy
      rw [List.length_take] at hn
      rw [List.getElem_take]
      exact h1 n _ (by omega) (List.getElem?_eq_getElem _))
    (fun y hy => by
      obtain ⟨n, hn, rfl⟩ := List.getElem_of_mem hy
      rw [List.length_drop] at hn
      rw [List.getElem_drop]
      have hk := h2 (S[k]'(by omega)) (List.getElem?_eq_getElem _)
      refine not_le (fun hle => hk ?_)
      rcases Nat.eq_zero_or_pos n with rfl | h0
      · simpa using hle
      · exact (List.pairwise_iff_getElem.1 hs k (k + n) (by omega) (by omega) (by omega)).trans hle)
  rw [← this]; simp

set_option maxRecDepth 100000 in
set_option maxHeartbeats 8000000 in
theorem rsort_any (l : List Pn) (v : Value) (w : World) (hl : l.length ≤ 500) (hv : Sl EPt w v l) :
    Calls Try.prog 56 #[v] w fun e w' => ∃ u, e = .returned u ∧ Fr Nil w w' ∧ Own EPt w' w.heap.size u (srt l) ∧ u ≠ .slice none 0 0 := by
  rcases hv with ⟨rfl, rfl⟩ | ⟨g, o, cap, rfl, hc, ha, hr⟩
  · go_enter Try.func56, Try.ntmps56
    go_wp2_with fail
    refine wp_loop_rounds 1 ?_
    rw [rounds_succ]
    go_wp2
    go_ret
    exact ⟨_, rfl, (Fr.refl _ _).alloc _, (Own.made (E := EPt) (Nat.le_refl w.heap.size) rfl), by simp⟩
  · have HR := Lib.hid hr
    go_enter Try.func56, Try.ntmps56
    go_wp2_with fail
    go_loopw [3, 4] (fun v i wr => ∃ j : Nat, j ≤ l.length ∧ i = .int .i64 j ∧ Own EPt wr w.heap.size v (srt (l.take j)) ∧ v ≠ .slice none 0 0 ∧ Fr Nil w wr) (fun _ i _ => l.length - (intOf i).toNat)
    case atStart => exact ⟨0, by omega, rfl, (Own.made (E := EPt) (Nat.le_refl w.heap.size) rfl), by simp, (Fr.refl _ _).alloc _⟩
    case round =>
      obtain ⟨j, hj, rfl, hs, hn, hf⟩ := hrel
      by_cases hlt : j < l.length
      · obtain ⟨x, hp⟩ : ∃ x, l[j]? = some x := ⟨l[j], List.getElem?_eq_getElem hlt⟩
        have HP := Lib.hid hp
        have hlen : (srt (l.take j)).length = j := by rw [srt_len, List.length_take]; omega
        rcases hs.sl EPt_ok with ⟨e, _⟩ | ⟨g2, o2, cap2, rfl, hc2, ha2, hr2⟩
        · exact absurd e hn
        have HD0 := Lib.hid (fun (k : Nat) => ins_done (k := k) hp)
        obtain ⟨S, hS⟩ : ∃ S, srt (l.take j) = S := ⟨_, rfl⟩
        rw [hS] at hlen hc2 hr2 HD0 ⊢
        have HR2 := Lib.hid hr2
        have HF0 := Lib.hid hf
        rw [hlen] at hc2 ⊢
        have HLEN := Lib.hid hlen
        obtain ⟨W0, rfl⟩ : ∃ W0, W0 = wr := ⟨_, rfl⟩
        clear hp hr2 hf hn hS hlen hs
        go_wp2_with fail
        go_loopw [5] (fun i wr => ∃ k : Nat, k ≤ j ∧ i = .int .i64 k ∧ (∀ (n : Nat) y, n < k → S[n]? = some y → Le y x) ∧ Fr Nil W0 wr) (fun i _ => j - (intOf i).toNat)
        case atStart => exact ⟨0, by omega, rfl, fun n y h => absurd h (by omega), Fr.refl _ _⟩
        case round =>
          obtain ⟨k, hk, rfl, hle, hf⟩ := hrel
          have HLE := Lib.hid hle
          have HF := Lib.hid hf
          obtain ⟨c0, c1, c2⟩ := pt_at (HR.out.fr (HF0.out.trans hf) ha id) HP.out
          have q4 := fun (p : FrW Nil wr) => (p.fr.cell (p := ⟨g, o + j * 3, none⟩) (by have := (HF0.out.trans hf).size; show g < _; omega) id).trans c0
          have q5 := fun (p : FrW Nil wr) => (p.fr.cell (p := ⟨g, o + j * 3 + 1, none⟩) (by have := (HF0.out.trans hf).size; show g < _; omega) id).trans c1
          have q6 := fun (p : FrW Nil wr) => (p.fr.cell (p := ⟨g, o + j * 3 + 2, none⟩) (by have := (HF0.out.trans hf).size; show g < _; omega) id).trans c2
          have hj0 : (0 : Int) ≤ j := by omega
          have hj1 : (j : Int) < l.length := by omega
          have hk0 : (0 : Int) ≤ k := by omega
          by_cases hkj : k < j
          · obtain ⟨y, hy⟩ : ∃ y, S[k]? = some y := ⟨S[k]'(by rw [HLEN.out]; exact hkj), List.getElem?_eq_getElem _⟩
            obtain ⟨d0, d1, d2⟩ := pt_at (HR2.out.fr hf ha2 id) hy
            have hsz2 := hf.size
            have q1 := fun (p : FrW Nil wr) => (p.fr.cell (p := ⟨g2, o2 + k * 3, none⟩) (by show g2 < _; omega) id).trans d0
            have q2 := fun (p : FrW Nil wr) => (p.fr.cell (p := ⟨g2, o2 + k * 3 + 1, none⟩) (by show g2 < _; omega) id).trans d1
            have q3 := fun (p : FrW Nil wr) => (p.fr.cell (p := ⟨g2, o2 + k * 3 + 2, none⟩) (by show g2 < _; omega) id).trans d2
            have HY := Lib.hid hy
            have KT := fun W => KernG.three_any y.2.1 y.2.2 y.1 x.2.1 x.2.2 x.1 W
            have hz := lex_le y x
            generalize lex3 y.2.1 y.2.2 y.1 x.2.1 x.2.2 x.1 = z at *
            have HZ := Lib.hid hz
            replace KT := Lib.hid KT
            have hk1 : (k : Int) < j := by omega
            clear hf hle hy hz
            go_wp2_with fail
            refine wp_region_quiet_fr Nil (by kernel_rfl) (by kernel_rfl) ?_
            repeat (go_big_quiet_step (first
              | (go_at_call 22; with_reducible exact quiet_call (KT.out _))))
            refine wpQuiet_nil ?_
            intro w2 hw'
            obtain ⟨⟨wq, hfq⟩, hw''⟩ := hw'
            subst hw''
            have HF2 := Lib.hid (HF.out.trans hfq)
            clear q1 q2 q3 q4 q5 q6 c0 c1 c2 d0 d1 d2 hfq KT HF
            by_cases hz0 : z ≤ 0
            · have HN := Lib.hid (HZ.out.1 hz0)
              go_wp2_with fail
              go_roundw
              case rel =>
                refine ⟨k + 1, by omega, by go_num, fun n t hn ht => ?_, HF2.out⟩
                rcases Nat.lt_or_ge n k with h | h
                · exact HLE.out n t h ht
                · obtain rfl : n = k := by omega
                  have e := HY.out
                  rw [ht] at e
                  obtain rfl := Option.some.inj e
                  exact HN.out
              case measure => simp [intOf]; omega
            · have HI := Lib.hid (HD0.out k (fun n y h => HLE.out n y h) (fun t ht => by
                have e := HY.out
                rw [ht] at e
                obtain rfl := Option.some.inj e
                exact fun h => hz0 (HZ.out.2 h)))
              have hkc : (k : Int) ≤ cap2 := by omega
              have hkl : (k : Int) ≤ j := by omega
              have HFW := Lib.hid (HF0.out.trans HF2.out)
              have hlS : (S.take k).length = k := by rw [List.length_take, HLEN.out]; omega
              have hlD : (S.drop k).length = j - k := by rw [List.length_drop, HLEN.out]
              have HT := Lib.hid (show Sl EPt w2 (.slice (some ⟨g2, o2, none⟩) k cap2) (S.take k) from (head_sl k (by rw [HLEN.out]; exact hc2) (by rw [HLEN.out]; omega) ha2 HR2.out).fr HF2.out)
              have HD := tail_sl k (by rw [HLEN.out]; exact hc2) (by rw [HLEN.out]; omega) ha2 HR2.out
              rw [HLEN.out] at HD
              replace HD := Lib.hid (HD.fr HF2.out)
              have LL := Lib.hid (show (([] : List Pn).length + (S.take k).length ≤ 1000000) ∧ (([] ++ S.take k).length + [x].length ≤ 1000000) ∧ (([] ++ S.take k ++ [x]).length + (S.drop k).length ≤ 1000000) by rw [hlD]; simp [hlS]; omega)
              obtain ⟨c0, c1, c2⟩ := pt_at (HR.out.fr HFW.out ha id) HP.out
              clear hlS hlD
              go_wp2_with fail
              have O1 := Lib.hid (show Own EPt ((w2.alloc (.cells #[] 34)).drew) w2.heap.size (.slice (some ⟨w2.heap.size, 0, none⟩) 0 0) [] from Own.fr (Own.made (E := EPt) (Nat.le_refl _) rfl) ((Fr.refl Nil _).drew) (fun _ _ h => h))
              have R1 := Lib.hid (show Fr Nil w2 ((w2.alloc (.cells #[] 34)).drew) by (repeat' (with_reducible first | refine Fr.setCell ?_ (fun hlt => absurd hlt (by dsimp only; omega)) _ | refine Fr.alloc ?_ _ | refine Fr.drewN ?_ _ | refine Fr.drew ?_ | exact Fr.refl _ _)))
              have T1 := Lib.hid (Sl.fr HT.out R1.out)
              have B1 := Lib.hid (show w2.heap.size ≤ ((w2.alloc (.cells #[] 34)).drew).heap.size by simp <;> omega)
              have O2 := Lib.hid (show Own EPt (((w2.alloc (.cells #[] 34)).alloc (.cells #[.int .i64 x.1, .int .i64 x.2.1, .int .i64 x.2.2] 34)).drew) w2.heap.size (.slice (some ⟨w2.heap.size, 0, none⟩) 0 0) [] from Own.fr ((Own.made (E := EPt) (Nat.le_refl _) rfl).alloc _) ((Fr.refl Nil _).drew) (fun _ _ h => h))
              have R2 := Lib.hid (show Fr Nil w2 (((w2.alloc (.cells #[] 34)).alloc (.cells #[.int .i64 x.1, .int .i64 x.2.1, .int .i64 x.2.2] 34)).drew) by (repeat' (with_reducible first | refine Fr.setCell ?_ (fun hlt => absurd hlt (by dsimp only; omega)) _ | refine Fr.alloc ?_ _ | refine Fr.drewN ?_ _ | refine Fr.drew ?_ | exact Fr.refl _ _)))
              have T2 := Lib.hid (Sl.fr HT.out R2.out)
              have B2 := Lib.hid (show w2.heap.size ≤ (((w2.alloc (.cells #[] 34)).alloc (.cells #[.int .i64 x.1, .int .i64 x.2.1, .int .i64 x.2.2] 34)).drew).heap.size by simp <;> omega)
              have O3 := Lib.hid (show Own EPt (((w2.alloc (.cells #[.int .i64 x.1, .int .i64 x.2.1, .int .i64 x.2.2] 34)).alloc (.cells #[] 34)).drew) w2.heap.size (.slice (some ⟨w2.heap.size + 1, 0, none⟩) 0 0) [] from Own.fr (Own.made (E := EPt) (by simp) (by simp)) ((Fr.refl Nil _).drew) (fun _ _ h => h))
              have R3 := Lib.hid (show Fr Nil w2 (((w2.alloc (.cells #[.int .i64 x.1, .int .i64 x.2.1, .int .i64 x.2.2] 34)).alloc (.cells #[] 34)).drew) by (repeat' (with_reducible first | refine Fr.setCell ?_ (fun hlt => absurd hlt (by dsimp only; omega)) _ | refine Fr.alloc ?_ _ | refine Fr.drewN ?_ _ | refine Fr.drew ?_ | exact Fr.refl _ _)))
              have T3 := Lib.hid (Sl.fr HT.out R3.out)
              have B3 := Lib.hid (show w2.heap.size ≤ (((w2.alloc (.cells #[.int .i64 x.1, .int .i64 x.2.1, .int .i64 x.2.2] 34)).alloc (.cells #[] 34)).drew).heap.size by simp <;> omega)
              have S2 := Lib.hid (show Sl EPt (((w2.alloc (.cells #[] 34)).alloc (.cells #[.int .i64 x.1, .int .i64 x.2.1, .int .i64 x.2.2] 34)).drew) (.slice (some ⟨w2.heap.size + 1, 0, none⟩) 1 1) [x] from Sl.fr (one_sl' x (by simp)) ((Fr.refl Nil _).drew))
              have S3 := Lib.hid (show Sl EPt (((w2.alloc (.cells #[.int .i64 x.1, .int .i64 x.2.1, .int .i64 x.2.2] 34)).alloc (.cells #[] 34)).drew) (.slice (some ⟨w2.heap.size, 0, none⟩) 1 1) [x] from Sl.fr (Sl.fr (one_sl' x rfl) ((Fr.refl Nil _).alloc _)) ((Fr.refl Nil _).drew))
              go_region_held3 (fun w' => w'.cell? ⟨g, o + j * 3, none⟩ = some (.int .i64 x.1) ∧ w'.cell? ⟨g, o + j * 3 + 1, none⟩ = some (.int .i64 x.2.1) ∧ w'.cell? ⟨g, o + j * 3 + 2, none⟩ = some (.int .i64 x.2.2)) (first | (go_keep; done))
                (first | (rw [if_pos (by rfl)]; refine Slices.wp_app EPt_ok (.tmp 55) (.tmp 58) 22 rfl rfl w2.heap.size (.slice (some ⟨w2.heap.size, 0, none⟩) 0 0) (.slice (some ⟨g2, o2, none⟩) k cap2) ([]) (S.take k) rfl O1.out rfl (T1.out).come LL.out.1 B1.out ?_; intro v14 w14 h14 f14 b14 n14; have F14 : Fr Nil w2 w14 := Fr.then (R1.out) f14 (fun i hi hlt => by have := ((O1.out).lt i hi).1; omega); obtain ⟨y14, z14, u14⟩ := pt_at (Row.fr HR.out (HFW.out.trans F14) ha id) HP.out) | (rw [if_pos (by rfl)]; refine Slices.wp_app EPt_ok (.tmp 55) (.tmp 58) 22 rfl rfl w2.heap.size (.slice (some ⟨w2.heap.size, 0, none⟩) 0 0) (.slice (some ⟨g2, o2, none⟩) k cap2) ([]) (S.take k) rfl O2.out rfl (T2.out).come LL.out.1 B2.out ?_; intro v14 w14 h14 f14 b14 n14; have F14 : Fr Nil w2 w14 := Fr.then (R2.out) f14 (fun i hi hlt => by have := ((O2.out).lt i hi).1; omega); obtain ⟨y14, z14, u14⟩ := pt_at (Row.fr HR.out (HFW.out.trans F14) ha id) HP.out; have s16 := Sl.frS S2.out f14 (fun g hg hh => by have h1 := Option.some.inj hg; have h2 := Option.some.inj hh; dsimp only at h1 h2; omega)) | (rw [if_pos (by rfl)]; refine Slices.wp_app EPt_ok (.tmp 55) (.tmp 58) 22 rfl rfl w2.heap.size (.slice (some ⟨w2.heap.size + 1, 0, none⟩) 0 0) (.slice (some ⟨g2, o2, none⟩) k cap2) ([]) (S.take k) rfl O3.out rfl (T3.out).come LL.out.1 B3.out ?_; intro v14 w14 h14 f14 b14 n14; have F14 : Fr Nil w2 w14 := Fr.then (R3.out) f14 (fun i hi hlt => by have := ((O3.out).lt i hi).1; omega); obtain ⟨y14, z14, u14⟩ := pt_at (Row.fr HR.out (HFW.out.trans F14) ha id) HP.out; have s16 := Sl.frS S3.out f14 (fun g hg hh => by have h1 := Option.some.inj hg; have h2 := Option.some.inj hh; dsimp only at h1 h2; omega)) | (rw [if_pos (by rfl)]; refine Slices.wp_app EPt_ok (.tmp 59) (.tmp 64) 22 rfl rfl w2.heap.size v14 _ ([] ++ S.take k) ([x]) rfl h14 rfl (s16).come LL.out.2.1 F14.size ?_; intro v17 w17 h17 f17 b17 n17; have F17 : Fr Nil w2 w17 := Fr.then (F14) f17 (fun i hi hlt => by have := ((h14).lt i hi).1; omega); obtain ⟨y17, z17, u17⟩ := pt_at (Row.fr HR.out (HFW.out.trans F17) ha id) HP.out) | (rw [if_pos (by rfl)]; refine Slices.wp_app EPt_ok (.tmp 59) (.tmp 64) 22 rfl rfl w2.heap.size v14 _ ([] ++ S.take k) ([x]) rfl (Own.alloc h14 _) rfl (one_sl' x rfl).come LL.out.2.1 (F14.alloc _).size ?_; intro v17 w17 h17 f17 b17 n17; have F17 : Fr Nil w2 w17 := Fr.then (F14.alloc _) f17 (fun i hi hlt => by have := ((h14).lt i hi).1; omega); obtain ⟨y17, z17, u17⟩ := pt_at (Row.fr HR.out (HFW.out.trans F17) ha id) HP.out) | (rw [if_pos (by rfl)]; refine Slices.wp_app EPt_ok (.tmp 65) (.tmp 68) 22 rfl rfl w2.heap.size v17 _ ([] ++ S.take k ++ [x]) (S.drop k) rfl h17 rfl (Sl.fr HD.out F17).come LL.out.2.2 F17.size ?_; intro v21 w21 h21 f21 b21 n21; have F21 : Fr Nil w2 w21 := Fr.then (F17) f21 (fun i hi hlt => by have := ((h17).lt i hi).1; omega); obtain ⟨y21, z21, u21⟩ := pt_at (Row.fr HR.out (HFW.out.trans F21) ha id) HP.out))
              all_goals go_wp2_with fail
              all_goals
                go_roundw
                case rel => exact ⟨j + 1, by omega, by go_num, by rw [← HI.out]; exact (by have h := Own.weaken (b' := w.heap.size) h21 HFW.out.size; simpa using h), (fun e => by have h1 := n14 (n17 (n21 e)); cases h1), HFW.out.trans F21⟩
                case measure => simp [intOf]; omega
          · have HI := Lib.hid (HD0.out k (fun n y h => HLE.out n y h) (fun t ht => by
              have h := (List.getElem?_eq_some_iff.1 ht).1
              rw [HLEN.out] at h; omega))
            clear hf hle
            go_wp2_with fail
            refine wp_region_quiet_fr Nil (by kernel_rfl) (by kernel_rfl) ?_
            iterate 5 (go_big_quiet_step (fail))
            try simp only [show decide (k < j) = false from decide_eq_false hkj]
            repeat (go_big_quiet_step (fail))
            refine wpQuiet_nil ?_
            intro w2 hw'
            obtain ⟨⟨wq, hfq⟩, hw''⟩ := hw'
            subst hw''
            have HF2 := Lib.hid (HF.out.trans hfq)
            clear q4 q5 q6 c0 c1 c2 hfq HF
            have hkc : (k : Int) ≤ cap2 := by omega
            have hkl : (k : Int) ≤ j := by omega
            have HFW := Lib.hid (HF0.out.trans HF2.out)
            have hlS : (S.take k).length = k := by rw [List.length_take, HLEN.out]; omega
            have hlD : (S.drop k).length = j - k := by rw [List.length_drop, HLEN.out]
            have HT := Lib.hid (show Sl EPt w2 (.slice (some ⟨g2, o2, none⟩) k cap2) (S.take k) from (head_sl k (by rw [HLEN.out]; exact hc2) (by rw [HLEN.out]; omega) ha2 HR2.out).fr HF2.out)
            have HD := tail_sl k (by rw [HLEN.out]; exact hc2) (by rw [HLEN.out]; omega) ha2 HR2.out
            rw [HLEN.out] at HD
            replace HD := Lib.hid (HD.fr HF2.out)
            have LL := Lib.hid (show (([] : List Pn).length + (S.take k).length ≤ 1000000) ∧ (([] ++ S.take k).length + [x].length ≤ 1000000) ∧ (([] ++ S.take k ++ [x]).length + (S.drop k).length ≤ 1000000) by rw [hlD]; simp [hlS]; omega)
            obtain ⟨c0, c1, c2⟩ := pt_at (HR.out.fr HFW.out ha id) HP.out
            clear hlS hlD
            go_wp2_with fail
            have O1 := Lib.hid (show Own EPt ((w2.alloc (.cells #[] 34)).drew) w2.heap.size (.slice (some ⟨w2.heap.size, 0, none⟩) 0 0) [] from Own.fr (Own.made (E := EPt) (Nat.le_refl _) rfl) ((Fr.refl Nil _).drew) (fun _ _ h => h))
            have R1 := Lib.hid (show Fr Nil w2 ((w2.alloc (.cells #[] 34)).drew) by (repeat' (with_reducible first | refine Fr.setCell ?_ (fun hlt => absurd hlt (by dsimp only; omega)) _ | refine Fr.alloc ?_ _ | refine Fr.drewN ?_ _ | refine Fr.drew ?_ | exact Fr.refl _ _)))
            have T1 := Lib.hid (Sl.fr HT.out R1.out)
            have B1 := Lib.hid (show w2.heap.size ≤ ((w2.alloc (.cells #[] 34)).drew).heap.size by simp <;> omega)
            have O2 := Lib.hid (show Own EPt (((w2.alloc (.cells #[] 34)).alloc (.cells #[.int .i64 x.1, .int .i64 x.2.1, .int .i64 x.2.2] 34)).drew) w2.heap.size (.slice (some ⟨w2.heap.size, 0, none⟩) 0 0) [] from Own.fr ((Own.made (E := EPt) (Nat.le_refl _) rfl).alloc _) ((Fr.refl Nil _).drew) (fun _ _ h => h))
            have R2 := Lib.hid (show Fr Nil w2 (((w2.alloc (.cells #[] 34)).alloc (.cells #[.int .i64 x.1, .int .i64 x.2.1, .int .i64 x.2.2] 34)).drew) by (repeat' (with_reducible first | refine Fr.setCell ?_ (fun hlt => absurd hlt (by dsimp only; omega)) _ | refine Fr.alloc ?_ _ | refine Fr.drewN ?_ _ | refine Fr.drew ?_ | exact Fr.refl _ _)))
            have T2 := Lib.hid (Sl.fr HT.out R2.out)
            have B2 := Lib.hid (show w2.heap.size ≤ (((w2.alloc (.cells #[] 34)).alloc (.cells #[.int .i64 x.1, .int .i64 x.2.1, .int .i64 x.2.2] 34)).drew).heap.size by simp <;> omega)
            have O3 := Lib.hid (show Own EPt (((w2.alloc (.cells #[.int .i64 x.1, .int .i64 x.2.1, .int .i64 x.2.2] 34)).alloc (.cells #[] 34)).drew) w2.heap.size (.slice (some ⟨w2.heap.size + 1, 0, none⟩) 0 0) [] from Own.fr (Own.made (E := EPt) (by simp) (by simp)) ((Fr.refl Nil _).drew) (fun _ _ h => h))
            have R3 := Lib.hid (show Fr Nil w2 (((w2.alloc (.cells #[.int .i64 x.1, .int .i64 x.2.1, .int .i64 x.2.2] 34)).alloc (.cells #[] 34)).drew) by (repeat' (with_reducible first | refine Fr.setCell ?_ (fun hlt => absurd hlt (by dsimp only; omega)) _ | refine Fr.alloc ?_ _ | refine Fr.drewN ?_ _ | refine Fr.drew ?_ | exact Fr.refl _ _)))
            have T3 := Lib.hid (Sl.fr HT.out R3.out)
            have B3 := Lib.hid (show w2.heap.size ≤ (((w2.alloc (.cells #[.int .i64 x.1, .int .i64 x.2.1, .int .i64 x.2.2] 34)).alloc (.cells #[] 34)).drew).heap.size by simp <;> omega)
            have S2 := Lib.hid (show Sl EPt (((w2.alloc (.cells #[] 34)).alloc (.cells #[.int .i64 x.1, .int .i64 x.2.1, .int .i64 x.2.2] 34)).drew) (.slice (some ⟨w2.heap.size + 1, 0, none⟩) 1 1) [x] from Sl.fr (one_sl' x (by simp)) ((Fr.refl Nil _).drew))
            have S3 := Lib.hid (show Sl EPt (((w2.alloc (.cells #[.int .i64 x.1, .int .i64 x.2.1, .int .i64 x.2.2] 34)).alloc (.cells #[] 34)).drew) (.slice (some ⟨w2.heap.size, 0, none⟩) 1 1) [x] from Sl.fr (Sl.fr (one_sl' x rfl) ((Fr.refl Nil _).alloc _)) ((Fr.refl Nil _).drew))
            go_region_held3 (fun w' => w'.cell? ⟨g, o + j * 3, none⟩ = some (.int .i64 x.1) ∧ w'.cell? ⟨g, o + j * 3 + 1, none⟩ = some (.int .i64 x.2.1) ∧ w'.cell? ⟨g, o + j * 3 + 2, none⟩ = some (.int .i64 x.2.2)) (first | (go_keep; done))
              (first | (rw [if_pos (by rfl)]; refine Slices.wp_app EPt_ok (.tmp 55) (.tmp 58) 22 rfl rfl w2.heap.size (.slice (some ⟨w2.heap.size, 0, none⟩) 0 0) (.slice (some ⟨g2, o2, none⟩) k cap2) ([]) (S.take k) rfl O1.out rfl (T1.out).come LL.out.1 B1.out ?_; intro v14 w14 h14 f14 b14 n14; have F14 : Fr Nil w2 w14 := Fr.then (R1.out) f14 (fun i hi hlt => by have := ((O1.out).lt i hi).1; omega); obtain ⟨y14, z14, u14⟩ := pt_at (Row.fr HR.out (HFW.out.trans F14) ha id) HP.out) | (rw [if_pos (by rfl)]; refine Slices.wp_app EPt_ok (.tmp 55) (.tmp 58) 22 rfl rfl w2.heap.size (.slice (some ⟨w2.heap.size, 0, none⟩) 0 0) (.slice (some ⟨g2, o2, none⟩) k cap2) ([]) (S.take k) rfl O2.out rfl (T2.out).come LL.out.1 B2.out ?_; intro v14 w14 h14 f14 b14 n14; have F14 : Fr Nil w2 w14 := Fr.then (R2.out) f14 (fun i hi hlt => by have := ((O2.out).lt i hi).1; omega); obtain ⟨y14, z14, u14⟩ := pt_at (Row.fr HR.out (HFW.out.trans F14) ha id) HP.out; have s16 := Sl.frS S2.out f14 (fun g hg hh => by have h1 := Option.some.inj hg; have h2 := Option.some.inj hh; dsimp only at h1 h2; omega)) | (rw [if_pos (by rfl)]; refine Slices.wp_app EPt_ok (.tmp 55) (.tmp 58) 22 rfl rfl w2.heap.size (.slice (some ⟨w2.heap.size + 1, 0, none⟩) 0 0) (.slice (some ⟨g2, o2, none⟩) k cap2) ([]) (S.take k) rfl O3.out rfl (T3.out).come LL.out.1 B3.out ?_; intro v14 w14 h14 f14 b14 n14; have F14 : Fr Nil w2 w14 := Fr.then (R3.out) f14 (fun i hi hlt => by have := ((O3.out).lt i hi).1; omega); obtain ⟨y14, z14, u14⟩ := pt_at (Row.fr HR.out (HFW.out.trans F14) ha id) HP.out; have s16 := Sl.frS S3.out f14 (fun g hg hh => by have h1 := Option.some.inj hg; have h2 := Option.some.inj hh; dsimp only at h1 h2; omega)) | (rw [if_pos (by rfl)]; refine Slices.wp_app EPt_ok (.tmp 59) (.tmp 64) 22 rfl rfl w2.heap.size v14 _ ([] ++ S.take k) ([x]) rfl h14 rfl (s16).come LL.out.2.1 F14.size ?_; intro v17 w17 h17 f17 b17 n17; have F17 : Fr Nil w2 w17 := Fr.then (F14) f17 (fun i hi hlt => by have := ((h14).lt i hi).1; omega); obtain ⟨y17, z17, u17⟩ := pt_at (Row.fr HR.out (HFW.out.trans F17) ha id) HP.out) | (rw [if_pos (by rfl)]; refine Slices.wp_app EPt_ok (.tmp 59) (.tmp 64) 22 rfl rfl w2.heap.size v14 _ ([] ++ S.take k) ([x]) rfl (Own.alloc h14 _) rfl (one_sl' x rfl).come LL.out.2.1 (F14.alloc _).size ?_; intro v17 w17 h17 f17 b17 n17; have F17 : Fr Nil w2 w17 := Fr.then (F14.alloc _) f17 (fun i hi hlt => by have := ((h14).lt i hi).1; omega); obtain ⟨y17, z17, u17⟩ := pt_at (Row.fr HR.out (HFW.out.trans F17) ha id) HP.out) | (rw [if_pos (by rfl)]; refine Slices.wp_app EPt_ok (.tmp 65) (.tmp 68) 22 rfl rfl w2.heap.size v17 _ ([] ++ S.take k ++ [x]) (S.drop k) rfl h17 rfl (Sl.fr HD.out F17).come LL.out.2.2 F17.size ?_; intro v21 w21 h21 f21 b21 n21; have F21 : Fr Nil w2 w21 := Fr.then (F17) f21 (fun i hi hlt => by have := ((h17).lt i hi).1; omega); obtain ⟨y21, z21, u21⟩ := pt_at (Row.fr HR.out (HFW.out.trans F21) ha id) HP.out))
            all_goals go_wp2_with fail
            all_goals
              go_roundw
              case rel => exact ⟨j + 1, by omega, by go_num, by rw [← HI.out]; exact (by have h := Own.weaken (b' := w.heap.size) h21 HFW.out.size; simpa using h), (fun e => by have h1 := n14 (n17 (n21 e)); cases h1), HFW.out.trans F21⟩
              case measure => simp [intOf]; omega
      · obtain rfl : j = l.length := by omega
        have HS := Lib.hid (show Own EPt wr w.heap.size u3 (srt l) by rw [List.take_length] at hs; exact hs)
        have HN := Lib.hid hn
        have HF := Lib.hid hf
        clear hs hn hf
        go_wp2_with fail
        go_ret
        exact ⟨_, rfl, HF.out, HS.out, HN.out⟩
end Go.Proofs.Ytalbaopfdejooaa.HullM
