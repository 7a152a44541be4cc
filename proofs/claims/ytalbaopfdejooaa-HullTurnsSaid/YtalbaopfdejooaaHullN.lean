/- Chapter 41: the reference's at, places, within. -/
import Derived.Test.YtalbaopfdejooaaHullM
namespace Go.Proofs.Ytalbaopfdejooaa.HullN
open Go.RowKit Base Slices RowsA KernA KernE AreaA HullD HullE HullF HullG HullH HullI HullJ HullM Quiet
open HullA (lt at_ D)
set_option linter.unusedVariables false
set_option linter.unusedSimpArgs false

def atB (a b : Pn) : Bool := decide (a.2.1 = b.2.1 ∧ a.2.2 = b.2.2)
theorem atB_iff {a b : Pn} : atB a b = true ↔ at_ a b := decide_eq_true_iff
theorem atB_no {a b : Pn} : atB a b = false ↔ ¬ at_ a b := decide_eq_false_iff_not
set_option maxHeartbeats 4000000 in
theorem at_p (i x y j u v : Int) (w : World) (b : Bool) (h : (b = true ∧ x = u ∧ y = v) ∨ (b = false ∧ x ≠ u) ∨ (b = false ∧ x = u ∧ y ≠ v)) :
    Calls Try.prog 57 #[.agg #[.int .i64 i, .int .i64 x, .int .i64 y], .agg #[.int .i64 j, .int .i64 u, .int .i64 v]] w fun e w' => e = .returned (.bool b) ∧ Fr Nil w w' := by
  rcases h with ⟨rfl, rfl, rfl⟩ | ⟨rfl, h⟩ | ⟨rfl, rfl, h⟩
  all_goals
    go_enter Try.func57, Try.ntmps57
    go_wp2_with fail
    exact bodyPost_ret (v := .bool _) (by simp [results, Try.results57, go_sem] <;> omega) rfl ⟨rfl, by (repeat' (with_reducible first | refine Fr.setCell ?_ (fun hlt => absurd hlt (by dsimp only; omega)) _ | refine Fr.alloc ?_ _ | refine Fr.drewN ?_ _ | refine Fr.drew ?_ | exact Fr.refl _ _))⟩
theorem at_any (a b : Pn) (w : World) : Calls Try.prog 57 #[.agg #[.int .i64 a.1, .int .i64 a.2.1, .int .i64 a.2.2], .agg #[.int .i64 b.1, .int .i64 b.2.1, .int .i64 b.2.2]] w fun e w' => e = .returned (.bool (atB a b)) ∧ Fr Nil w w' := by
  obtain ⟨i, x, y⟩ := a
  obtain ⟨j, u, v⟩ := b
  refine at_p i x y j u v w _ ?_
  unfold atB
  simp only
  by_cases h : x = u ∧ y = v
  · rw [decide_eq_true h]; simp; omega
  · rw [decide_eq_false h]; simp; omega

theorem le_or {a b : Pn} (h : Le a b) : lt a b ∨ at_ a b := by
  rw [Le_iff] at h; unfold lt at_; omega
theorem pl_more {l P : List Pn} (hs : Srt l) {k : Nat} {z x : Pn} (hP : IsPl (l.take (k + 1)) P) (hz : l[k]? = some z) (hx : l[k + 1]? = some x) (hn : ¬ at_ z x) : IsPl (l.take (k + 1 + 1)) (P ++ [x]) := by
  rw [take_snoc hx]
  refine hP.more (srt_take hs hx) (fun y hy => ?_)
  have hzx : lt z x := by
    rcases le_or (srt_take hs hx z (by rw [take_snoc hz]; simp)) with h | h
    · exact h
    · exact absurd h hn
  have hyt := (hP.2.1 y hy).1
  rw [take_snoc hz] at hyt
  rcases List.mem_append.1 hyt with h | h
  · rcases le_or (srt_take hs hz y h) with h | h
    · exact HullA.lt_trans h hzx
    · exact HullA.at_lt h hzx
  · rw [List.mem_singleton.1 h]; exact hzx
theorem pl_again {l P : List Pn} (hs : Srt l) {k : Nat} {z x : Pn} (hP : IsPl (l.take (k + 1)) P) (hz : l[k]? = some z) (hx : l[k + 1]? = some x) (hn : at_ z x) : IsPl (l.take (k + 1 + 1)) P := by
  rw [take_snoc hx]
  obtain ⟨y, hy, hyz⟩ := hP.2.2 z (by rw [take_snoc hz]; simp)
  exact hP.again (srt_take hs hx) hy (at_trans hyz hn)

theorem no_block {v v3 : Value} {n g : Nat} (b3 : ∀ b, v3.ownBlock = some b → v.ownBlock = some b ∨ n ≤ b) (h : ∀ b, v.ownBlock = some b → b ≠ g) (hg : g < n) : ∀ b, v3.ownBlock = some b → b ≠ g := fun b hb e => by
  rcases b3 b hb with k | k
  · exact h b k e
  · omega

set_option maxRecDepth 100000 in
set_option maxHeartbeats 8000000 in
theorem places_any (l : List Pn) (v : Value) (w : World) (hl : l.length ≤ 500) (hv : Sl EPt w v l) :
    Calls Try.prog 32 #[v] w fun e w' => ∃ u P, e = .returned u ∧ Fr Nil w w' ∧ Own EPt w' w.heap.size u P ∧ IsPl l P := by
  have hsl := srt_len l
  have HSRT := Lib.hid (srt_srt l)
  have HPM := Lib.hid (srt_perm l)
  have KS := Lib.hid (fun (W : World) (hf : Fr Nil w W) => rsort_any l v W hl (hv.fr hf))
  clear hv
  generalize srt l = s at *
  go_enter Try.func32, Try.ntmps32
  go_wp2_with fail
  refine (KS.out _ ((Fr.refl Nil _).alloc _)).mono ?_
  rintro e w1 ⟨us, rfl, hf1, hs1, hn1⟩
  have HF1 := Lib.hid (Fr.trans ((Fr.refl Nil w).alloc _) hf1)
  have HO1 := Lib.hid (Own.fr (Own.made (E := EPt) (Nat.le_refl w.heap.size) rfl) hf1 (fun _ _ h => h))
  have hgb : ∀ b, us.ownBlock = some b → w.heap.size + 1 ≤ b := fun b hb => by have := (hs1.lt b hb).1; simpa using this
  rcases hs1.sl EPt_ok with ⟨e, _⟩ | ⟨g, o, cap, rfl, hc, ha, hr⟩
  · exact absurd e hn1
  have HR0 := Lib.hid hr
  have HGB := Lib.hid (hgb g rfl)
  clear hf1 hn1 KS hr hs1 hgb
  go_wp2_with fail
  go_loopw [3, 5] (fun xo i wr => ∃ (k : Nat) (P : List Pn), k ≤ s.length ∧ i = .int .i64 k ∧ Own EPt wr w.heap.size xo P ∧ IsPl (s.take k) P ∧ P.length ≤ k ∧ Row EPt wr g o s ∧ g < wr.heap.size ∧ (∀ b, xo.ownBlock = some b → b ≠ g) ∧ Fr Nil w wr) (fun _ i _ => s.length - (intOf i).toNat)
  case atStart => exact ⟨0, [], by omega, rfl, HO1.out, IsPl.nil, by simp, HR0.out, ha, fun b hb e => by have := HGB.out; have := Option.some.inj hb; dsimp only at this; omega, HF1.out⟩
  case round =>
    obtain ⟨k, P, hk, rfl, ho, hP, hql, hr, hgl, hne, hf⟩ := hrel
    have HR := Lib.hid hr
    have HNE := Lib.hid hne
    have HO := Lib.hid ho
    have HF := Lib.hid hf
    have HP := Lib.hid hP
    obtain ⟨A, d, rfl⟩ := Sl.shape (ho.sl EPt_ok)
    have hsz : w.heap.size ≤ wr.heap.size := hf.size
    by_cases hlt : k < s.length
    · obtain ⟨x, hx⟩ : ∃ x, s[k]? = some x := ⟨s[k], List.getElem?_eq_getElem hlt⟩
      obtain ⟨c0, c1, c2⟩ := pt_at HR.out hx
      have HX := Lib.hid hx
      rcases Nat.eq_zero_or_pos k with rfl | hpos
      · obtain rfl : P = [] := List.length_eq_zero_iff.1 (by omega)
        have HE := Lib.hid (show IsPl (s.take (0 + 1)) [x] from pl_first HP.out rfl HSRT.out HX.out)
        have h0 : (0 : Int) < s.length := by omega
        simp only [Nat.zero_mul, Nat.add_zero] at c0 c1 c2
        clear hx ho hf hP hql hr hne
        simp only [List.length_nil] at HO ⊢
        go_wp2_with fail
        go_quiet (fail)
        go_wp2_with (at_builtin; refine Slices.wpList_app EPt_ok rfl (.tmp 30) (.tmp 35) 22 rfl rfl w.heap.size _ _ [] [x] rfl (Own.fr HO.out (S := Nil) (((Fr.refl Nil _).drewN nq).alloc _) (fun _ _ h => h)) rfl (one_sl' x (by simp)).come (by first | (simp; done) | (simp; omega)) (by first | (simp; done) | (simp; omega)) ?_; intro v3 w3 h3 f3 b3 m3; have F3 : Fr Nil w w3 := Fr.then (((HF.out.drewN nq)).alloc _) f3 (fun i hi hlt => by have := (HO.out.lt i hi).1; omega); have R3 : Row EPt w3 g o s := Row.fr (Row.fr HR.out (S := Nil) (((Fr.refl Nil _).drewN nq).alloc _) hgl id) f3 (by simp; omega) (fun h => HNE.out g h rfl); have N3 := no_block b3 HNE.out (by simp; omega); have G3 : g < w3.heap.size := (by have := f3.size; simp at this; omega); clear b3 m3)
        go_roundw
        case rel => exact ⟨1, [x], by omega, by go_num, h3, HE.out, by simp, R3, G3, N3, F3⟩
        case measure => simp [intOf]; omega
      · obtain ⟨n, rfl⟩ : ∃ n, k = n + 1 := ⟨k - 1, by omega⟩
        obtain ⟨z, hz⟩ : ∃ z, s[n]? = some z := ⟨s[n]'(by omega), List.getElem?_eq_getElem _⟩
        obtain ⟨d0, d1, d2⟩ := pt_at HR.out hz
        have HZ := Lib.hid hz
        have q1 := fun (p : FrW Nil wr) => (p.fr.cell (p := ⟨g, o + n * 3, none⟩) hgl id).trans d0
        have q2 := fun (p : FrW Nil wr) => (p.fr.cell (p := ⟨g, o + n * 3 + 1, none⟩) hgl id).trans d1
        have q3 := fun (p : FrW Nil wr) => (p.fr.cell (p := ⟨g, o + n * 3 + 2, none⟩) hgl id).trans d2
        have q4 := fun (p : FrW Nil wr) => (p.fr.cell (p := ⟨g, o + (n + 1) * 3, none⟩) hgl id).trans c0
        have q5 := fun (p : FrW Nil wr) => (p.fr.cell (p := ⟨g, o + (n + 1) * 3 + 1, none⟩) hgl id).trans c1
        have q6 := fun (p : FrW Nil wr) => (p.fr.cell (p := ⟨g, o + (n + 1) * 3 + 2, none⟩) hgl id).trans c2
        have KA := fun W => at_any z x W
        obtain ⟨bb, hbb⟩ : ∃ bb, atB z x = bb := ⟨_, rfl⟩
        rw [hbb] at KA
        have HAT := Lib.hid hbb
        replace KA := Lib.hid KA
        have HQL := Lib.hid hql
        have e1 : (((n + 1 : Nat)) : Int) = (n : Int) + 1 := by omega
        have e2 : (n : Int) + 1 - 1 = n := by omega
        have e3 : ¬ (n : Int) + 1 = 0 := by omega
        have e4 : (0 : Int) ≤ n := by omega
        have e5 : (0 : Int) ≤ (n : Int) + 1 := by omega
        have e6 : (n : Int) < s.length := by omega
        have e7 : (n : Int) + 1 < s.length := by omega
        rw [e1]
        clear hx ho hf hP hql hz e1 hbb hr hne
        go_wp2_with fail
        refine wp_region_quiet_fr Nil (by kernel_rfl) (by kernel_rfl) ?_
        iterate 3 (go_big_quiet_step (fail))
        simp only [show ((n : Int) + 1 == 0) = false from by rw [beq_eq_false_iff_ne]; omega]
        repeat (go_big_quiet_step (first
          | (go_at_call 57; with_reducible exact quiet_call (KA.out _))))
        refine wpQuiet_nil ?_
        intro w2 hw'
        obtain ⟨⟨wq, hfq⟩, hw''⟩ := hw'
        subst hw''
        have HF2 := Lib.hid (HF.out.trans hfq)
        have HR2 := Lib.hid (HR.out.fr hfq hgl id)
        have hgl2 : g < w2.heap.size := Nat.lt_of_lt_of_le hgl hfq.size
        have HO2 := Lib.hid (Own.fr HO.out hfq (fun _ _ h => h))
        have hsz2 : w.heap.size ≤ w2.heap.size := HF2.out.size
        have y3 := q4 ⟨w2, hfq⟩
        have y4 := q5 ⟨w2, hfq⟩
        have y5 := q6 ⟨w2, hfq⟩
        dsimp only at y3 y4 y5
        clear q1 q2 q3 q4 q5 q6 c0 c1 c2 d0 d1 d2 hfq HF HO KA
        rcases bb with _ | _
        · have HE := Lib.hid (pl_more HSRT.out HP.out HZ.out HX.out (atB_no.1 HAT.out))
          go_wp2_with (at_builtin; refine Slices.wpList_app EPt_ok rfl (.tmp 30) (.tmp 35) 22 rfl rfl w.heap.size _ _ P [x] rfl (show Own EPt _ w.heap.size _ P from HO2.out.alloc _) rfl (one_sl' x rfl).come (by have := HQL.out; simp; omega) (by first | (simp; done) | (simp; omega)) ?_; intro v3 w3 h3 f3 b3 m3; have F3 : Fr Nil w w3 := Fr.then (HF2.out.alloc _) f3 (fun i hi hlt => by have := (HO2.out.lt i hi).1; omega); have R3 : Row EPt w3 g o s := Row.fr (Row.fr HR2.out (S := Nil) ((Fr.refl Nil _).alloc _) hgl2 id) f3 (by simp; omega) (fun h => HNE.out g h rfl); have N3 := no_block b3 HNE.out (by simp; omega); have G3 : g < w3.heap.size := (by have := f3.size; simp at this; omega); clear b3 m3)
          go_roundw
          case rel => exact ⟨n + 1 + 1, _, by omega, by go_num, h3, HE.out, by have := HQL.out; rw [List.length_append, List.length_singleton]; omega, R3, G3, N3, F3⟩
          case measure => simp [intOf]; omega
        · have HE := Lib.hid (pl_again HSRT.out HP.out HZ.out HX.out (atB_iff.1 HAT.out))
          go_wp2_with fail
          go_roundw
          case rel => exact ⟨n + 1 + 1, _, by omega, by go_num, HO2.out, HE.out, by have := HQL.out; omega, HR2.out, hgl2, HNE.out, HF2.out⟩
          case measure => simp [intOf]; omega
    · obtain rfl : k = s.length := by omega
      rw [List.take_length] at hP
      have HPP := Lib.hid hP
      clear ho hf hP hr hne
      go_wp2_with fail
      go_ret
      exact ⟨_, P, rfl, HF.out, HO.out, HPP.out.perm HPM.out⟩
end Go.Proofs.Ytalbaopfdejooaa.HullN
