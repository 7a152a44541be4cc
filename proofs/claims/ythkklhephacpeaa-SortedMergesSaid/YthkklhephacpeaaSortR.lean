/- Chapter 7: the walk of the law SortedMerges. -/
import Derived.Test.YthkklhephacpeaaSortQ
namespace Go.Proofs.Ythkklhephacpeaa.SortR
open Go.RowKit Base SortA SortB SortC SortD SortE SortF SortG SortH SortI SortJ SortK SortL SortM SortO SortQ Quiet
set_option linter.unusedVariables false
set_option linter.unusedSimpArgs false

theorem merge_sort {a b : List Pr} (ha : Srt a) (hb : Srt b) : isort (a ++ b) = mrg a b :=
  (isort_stab (a ++ b)).unique (mrg_stab ⟨ha, fun _ => rfl⟩ ⟨hb, fun _ => rfl⟩)

/-- the law's own test is the step's test -/
theorem uq_next {l : List Pr} (hs : Srt l) {k : Nat} {x y : Pr} (hx : l[k]? = some x) (hy : l[k + 1]? = some y) : uq (l.take (k + 1 + 1)) = if x.1 = y.1 then uq (l.take (k + 1)) else uq (l.take (k + 1)) ++ [y] := by
  obtain ⟨z, hz, hzx⟩ := uq_last hs k x hx
  have hxy := SortO.Srt.good hs k x y hx hy
  rw [uq_step hy]
  unfold ustep
  rw [hz]
  by_cases h : x.1 = y.1
  · rw [if_pos h]; simp only; rw [if_neg (by omega)]
  · rw [if_neg h]; simp only; rw [if_pos (by omega)]
theorem uq_first {l : List Pr} {y : Pr} (hy : l[0]? = some y) : uq (l.take (0 + 1)) = [y] := by
  rw [uq_step hy]; simp [uq, ustep]

set_option maxRecDepth 100000 in
set_option maxHeartbeats 8000000 in
theorem merges_any (l m : List Pr) (v u : Value) (w : World) (hl : l.length ≤ maxLen) (hm : m.length ≤ maxLen) (hv : Come w v l) (hu : Come w u m) :
    Calls Try.prog 5 #[v, u] w fun e w' => e = .returned (.bool true) ∧ Fr Nil w w' := by
  have lenA : (isort (l.take 60)).length ≤ 60 := by rw [isort_len, List.length_take]; omega
  have lenB : (isort (m.take 60)).length ≤ 60 := by rw [isort_len, List.length_take]; omega
  have sA := isort_srt (l.take 60)
  have sB := isort_srt (m.take 60)
  have K1 := Lib.hid (few_any l v _ hl hv)
  have K2 := Lib.hid (fun W h => sort_ref (l.take 60) h W (by rw [List.length_take]; omega))
  have K3 := Lib.hid (fun W (h : Fr Nil w W) => few_any m u W hm (hu.fr h))
  have K4 := Lib.hid (fun W h => sort_ref (m.take 60) h W (by rw [List.length_take]; omega))
  generalize isort (l.take 60) = A at *
  generalize isort (m.take 60) = B at *
  have KA := Lib.hid (fun W x h => few_sl A x W lenA h)
  have KB := Lib.hid (fun W x h => few_sl B x W lenB h)
  have KO := Lib.hid (fun W x (h : Sl W x A) => show Calls Try.prog 7 #[x] W fun e w' => ∃ u, e = .returned u ∧ Fr Nil W w' ∧ Own w' W.heap.size u A from by
    have h1 := few_any A x W (by unfold maxLen; omega) (Sl.come h)
    rw [List.take_of_length_le lenA] at h1
    exact h1.mono fun e w' ⟨u, he, hf, ho, _⟩ => ⟨u, he, hf, ho⟩)
  have KU := Lib.hid (fun W x h => unique_any A x W (by omega) h)
  have KM := Lib.hid (fun W x y h1 h2 => Merge_any A B x y W (by omega) (by omega) h1 h2)
  have KS := Lib.hid (fun W x h => sort_ref (A ++ B) x W (by simp; omega) h)
  rw [merge_sort sA sB] at KS
  have KE := Lib.hid (fun W x y h1 h2 => same_any (mrg A B) x y W (by rw [mrg_len]; omega) h1 h2)
  have hq : (uq A).length ≤ 60 := by have h := uq_len A A.length (Nat.le_refl _); rw [List.take_length] at h; omega
  have KQ := Lib.hid (fun W x y h1 h2 => same_any (uq A) x y W (by omega) h1 h2)
  have PL := Lib.hid (fun W => lives_any W)
  have SA := Lib.hid sA
  clear hv hu hl hm sA sB
  unfold lessV at *
  go_enter Try.func5, Try.ntmps5
  go_wp2_with fail
  refine K1.out.mono ?_
  rintro e w1 ⟨u1, rfl, hf1, ho1, hn1⟩
  have H1 := Lib.hid (Sl.of_own ho1 rfl)
  clear ho1 hn1
  go_wp2_with fail
  refine (K2.out _ _ H1.out).mono ?_
  rintro e w2 ⟨va, rfl, hf2, hs2, hn2⟩
  go_wp2_with fail
  refine (K3.out _ (hf1.trans hf2)).mono ?_
  rintro e w3 ⟨u3, rfl, hf3, ho3, hn3⟩
  have H3 := Lib.hid (Sl.of_own ho3 rfl)
  clear ho3 hn3
  go_wp2_with fail
  refine (K4.out _ _ H3.out).mono ?_
  rintro e w4 ⟨vb, rfl, hf4, hs4, hn4⟩
  have F4 := Lib.hid (((hf1.trans hf2).trans hf3).trans hf4)
  have hsa := hs2.fr (hf3.trans hf4)
  obtain ⟨ab, cb, rfl⟩ := Sl.shape hs4
  have HB := Lib.hid hs4
  rcases hsa with ⟨h, _⟩ | ⟨g, o, cap, rfl, hc, ha, hr⟩
  · exact absurd h hn2
  have HA := Lib.hid (show Sl w4 (.slice (some ⟨g, o, none⟩) A.length cap) A from Or.inr ⟨g, o, cap, rfl, hc, ha, hr⟩)
  clear hf1 hf2 hf3 hf4 hs2 hs4 hn2 hn4 K1 K2 K3 K4 H1 H3
  go_wp2_with fail
  refine (KA.out _ _ HA.out).mono ?_
  rintro e w5 ⟨u5, rfl, hf5, hs5⟩
  have H5 := Lib.hid hs5
  clear hs5
  go_wp2_with fail
  refine (KU.out _ _ H5.out).mono ?_
  rintro e w6 ⟨u6, rfl, hf6, hs6⟩
  have H6 := Lib.hid hs6
  have F6 := Lib.hid (hf5.trans hf6)
  clear hs6 hf5 hf6
  go_wp2_with fail
  have O6 := Own.made w6 w6.heap.size (Nat.le_refl _)
  go_loopw [6, 7] (fun xo i wr => ∃ k : Nat, k ≤ A.length ∧ i = .int .i64 k ∧ Own wr w6.heap.size xo (uq (A.take k)) ∧ Fr Nil w6 wr) (fun _ i _ => A.length - (intOf i).toNat)
  case atStart => exact ⟨0, by omega, rfl, O6, (Fr.refl _ _).alloc _⟩
  case round =>
    obtain ⟨k, hk, rfl, ho, hf⟩ := hrel
    have HO := Lib.hid ho
    have HF := Lib.hid hf
    have hsz : w6.heap.size ≤ wr.heap.size := hf.size
    have FA := F6.out.trans hf
    clear O6
    by_cases hlt : k < A.length
    · obtain ⟨y, hy⟩ : ∃ y, A[k]? = some y := ⟨A[k], List.getElem?_eq_getElem hlt⟩
      obtain ⟨c0, c1⟩ := (hr.fr FA ha id) k y hy
      have HQ := Lib.hid (uq_len A k hk)
      rcases Nat.eq_zero_or_pos k with rfl | hpos
      · have HE := Lib.hid (uq_first hy)
        have hnil : uq (A.take 0) = [] := by simp [uq]
        rw [hnil] at HO HQ
        have a0 : (0 : Int) < A.length := by omega
        clear hy ho hf FA hnil hq
        rw [Nat.zero_mul, Nat.add_zero] at c0 c1
        go_wp2_with fail
        go_quiet (fail)
        go_wp2_with (at_builtin; refine wpList_app rfl (.tmp 40) (.tmp 45) rfl w6.heap.size _ _ [] [y] rfl (Own.fr HO.out (S := Nil) (((Fr.refl Nil _).drewN nq).alloc _) (fun _ _ h => h)) rfl (one_sl' y rfl) (by have := HQ.out; first | (simp; done) | (simp; omega)) (by first | (simp; done) | (simp; omega)) ?_; intro v3 w7 h3 f3 b3 m3; have F3 : Fr Nil w6 w7 := Fr.then ((HF.out.drewN nq).alloc _) f3 (fun i hi hlt => by have := (b3 i hi).1; omega))
        go_roundw
        case rel => exact ⟨0 + 1, by omega, by go_num, by rw [HE.out]; exact h3, F3⟩
        case measure => simp [intOf]; omega
      · obtain ⟨k, rfl⟩ : ∃ k', k = k' + 1 := ⟨k - 1, by omega⟩
        obtain ⟨x, hx⟩ : ∃ x, A[k]? = some x := ⟨A[k], List.getElem?_eq_getElem (by omega)⟩
        obtain ⟨d0, d1⟩ := (hr.fr FA ha id) k x hx
        have HE := Lib.hid (uq_next SA.out hx hy)
        have a0 : ¬ ((k : Int) + 1 = 0) := by omega
        have a1 : (k : Int) + 1 < A.length := by omega
        have a2 : (k : Int) < A.length := by omega
        have a3 : (0 : Int) ≤ k := by omega
        have a4 : (0 : Int) ≤ (k : Int) + 1 := by omega
        generalize uq (A.take (k + 1)) = so at *
        have hgl : g < wr.heap.size := Nat.lt_of_lt_of_le ha FA.size
        have q1 := fun (p : FrW Nil wr) => (p.fr.cell (p := ⟨g, o + k * 2, none⟩) hgl id).trans d0
        have q2 := fun (p : FrW Nil wr) => (p.fr.cell (p := ⟨g, o + (k + 1) * 2, none⟩) hgl id).trans c0
        have q3 := fun (p : FrW Nil wr) => (p.fr.cell (p := ⟨g, o + (k + 1) * 2 + 1, none⟩) hgl id).trans c1
        clear hy hx ho hf FA hq a0
        go_wp2_with fail
        refine wp_region_quiet_fr Nil (by kernel_rfl) (by kernel_rfl) ?_
        iterate 2 (go_big_quiet_step (fail))
        simp only [show (((k : Int) + 1) == 0) = false from beq_eq_false_iff_ne.2 (by omega)]
        repeat (go_big_quiet_step (fail))
        refine wpQuiet_nil ?_
        intro w2 hw'
        obtain ⟨⟨wq, hfq⟩, hw''⟩ := hw'
        subst hw''
        have c0' := q2 ⟨w2, hfq⟩
        have c1' := q3 ⟨w2, hfq⟩
        dsimp only at c0' c1'
        have HO2 := Lib.hid (Own.fr HO.out hfq (fun _ _ h => h))
        have HF2 := Lib.hid (HF.out.trans hfq)
        have hsz2 : w6.heap.size ≤ w2.heap.size := HF2.out.size
        clear q1 q2 q3 hfq c0 c1 d0 d1 hgl
        by_cases hxy : x.1 = y.1
        · rw [if_pos hxy] at HE
          go_wp2_with fail
          go_roundw
          case rel => exact ⟨k + 1 + 1, by omega, by go_num, by rw [HE.out]; exact HO2.out, HF2.out⟩
          case measure => simp [intOf]; omega
        · rw [if_neg hxy] at HE
          go_wp2_with (at_builtin; refine wpList_app rfl (.tmp 40) (.tmp 45) rfl w6.heap.size _ _ so [y] rfl (HO2.out.alloc _) rfl (one_sl' y rfl) (by have := HQ.out; first | (simp; done) | (simp; omega)) (by first | (simp; done) | (simp; omega)) ?_; intro v3 w7 h3 f3 b3 m3; have F3 : Fr Nil w6 w7 := Fr.then (HF2.out.alloc _) f3 (fun i hi hlt => by have := (b3 i hi).1; omega))
          go_roundw
          case rel => exact ⟨k + 1 + 1, by omega, by go_num, by rw [HE.out]; exact h3, F3⟩
          case measure => simp [intOf]; omega
    · obtain rfl : k = A.length := by omega
      have HW := Lib.hid (show Sl wr _ (uq A) by have h := ho.sl; rw [List.take_length] at h; exact h)
      have FW := Lib.hid FA
      have F7 := Lib.hid (F4.out.trans FA)
      clear ho hf FA HO hc hr ha hq hsz
      go_wp2_with fail
      refine (KA.out _ _ (Sl.fr HA.out FW.out)).mono ?_
      rintro e x1 ⟨p1, rfl, g1, t1⟩
      have T1 := Lib.hid t1
      clear t1
      go_wp2_with fail
      refine (KB.out _ _ (Sl.fr HB.out (FW.out.trans g1))).mono ?_
      rintro e x2 ⟨p2, rfl, g2, t2⟩
      have T2 := Lib.hid t2
      have G2 := Lib.hid (g1.trans g2)
      have T1' := Lib.hid (Sl.fr T1.out g2)
      clear t2 g1 g2
      go_wp2_with fail
      refine (KM.out _ _ _ T1'.out T2.out).mono ?_
      rintro e x3 ⟨p3, rfl, g3, t3⟩
      have T3 := Lib.hid t3
      have G3 := Lib.hid (G2.out.trans g3)
      clear t3 g3
      go_wp2_with fail
      refine (KO.out _ _ (Sl.fr HA.out (FW.out.trans G3.out))).mono ?_
      rintro e x4 ⟨p4, rfl, g4, t4⟩
      have T4 := Lib.hid t4
      have G4 := Lib.hid (G3.out.trans g4)
      have X34 := Lib.hid g4
      have sz4 : x3.heap.size ≤ x4.heap.size := g4.size
      clear t4 g4
      go_wp2_with (at_builtin; refine wpList_app rfl (.tmp 53) (.tmp 54) rfl x3.heap.size _ _ A B rfl T4.out rfl (Sl.fr HB.out (FW.out.trans G4.out)) (by omega) sz4 ?_; intro p5 x5 t5 f5 b5 m5; have g5 : Fr Nil x3 x5 := Fr.then (show Fr Nil x3 x4 from X34.out) f5 (fun i hi hlt => by have := (b5 i hi).1; omega))
      refine (KS.out _ _ t5.sl).mono ?_
      rintro e x6 ⟨p6, rfl, g6, t6, _⟩
      have T6 := Lib.hid t6
      have T36 := Lib.hid (Sl.fr T3.out (g5.trans g6))
      have G6 := Lib.hid (G3.out.trans (g5.trans g6))
      clear t6 g6 g5 f5 t5 b5 m5
      go_wp2_with fail
      refine (KE.out _ _ _ T36.out T6.out).mono ?_
      rintro e x7 ⟨rfl, g7⟩
      have G7 := Lib.hid (G6.out.trans g7)
      clear g7
      go_wp2_with fail
      refine (KQ.out _ _ _ (Sl.fr H6.out (HF.out.trans G7.out)) (Sl.fr HW.out G7.out)).mono ?_
      rintro e x8 ⟨rfl, g8⟩
      have G8 := Lib.hid (G7.out.trans g8)
      clear g8
      go_wp2_with fail
      refine (PL.out _).mono ?_
      rintro e x9 ⟨rfl, g9⟩
      go_wp2_with fail
      exact bodyPost_ret (v := .bool true) (by simp [results, Try.results5, go_sem]) rfl ⟨rfl, F7.out.trans (G8.out.trans g9)⟩
end Go.Proofs.Ythkklhephacpeaa.SortR
