/- Chapter 41: which of two places comes first; the walk of Unique over points in order. -/
import Derived.Test.YtalbaopfdejooaaHullF
namespace Go.Proofs.Ytalbaopfdejooaa.HullG
open Go.RowKit Base Slices RowsA KernA AreaA HullD HullE HullF Quiet
open HullA (lt at_)
set_option linter.unusedVariables false
set_option linter.unusedSimpArgs false

set_option maxHeartbeats 4000000 in
theorem places_p (i x y j u v : Int) (w : World) (b : Bool) (h : (b = true ∧ x < u) ∨ (b = false ∧ u < x) ∨ (b = true ∧ x = u ∧ y < v) ∨ (b = false ∧ x = u ∧ v < y)) :
    Calls Try.prog 52 #[.agg #[.int .i64 i, .int .i64 x, .int .i64 y], .agg #[.int .i64 j, .int .i64 u, .int .i64 v]] w fun e w' => e = .returned (.bool b) ∧ Fr Nil w w' := by
  rcases h with ⟨rfl, h⟩ | ⟨rfl, h⟩ | ⟨rfl, rfl, h⟩ | ⟨rfl, rfl, h⟩
  all_goals
    have hne := Int.ne_of_lt h
    have hne' := Int.ne_of_gt h
    go_enter Try.func52, Try.ntmps52
    go_wp2_with fail
    exact bodyPost_ret (v := .bool _) (by simp [results, Try.results52, go_sem] <;> omega) rfl ⟨rfl, by (repeat' (with_reducible first | refine Fr.setCell ?_ (fun hlt => absurd hlt (by dsimp only; omega)) _ | refine Fr.alloc ?_ _ | refine Fr.drewN ?_ _ | refine Fr.drew ?_ | exact Fr.refl _ _))⟩
set_option maxHeartbeats 4000000 in
theorem places_e (i x y j : Int) (w : World) :
    Calls Try.prog 52 #[.agg #[.int .i64 i, .int .i64 x, .int .i64 y], .agg #[.int .i64 j, .int .i64 x, .int .i64 y]] w fun e w' => e = .returned (.bool false) ∧ Fr Nil w w' := by
  go_enter Try.func52, Try.ntmps52
  go_wp2_with fail
  exact bodyPost_ret (v := .bool _) (by simp [results, Try.results52, go_sem] <;> omega) rfl ⟨rfl, by (repeat' (with_reducible first | refine Fr.setCell ?_ (fun hlt => absurd hlt (by dsimp only; omega)) _ | refine Fr.alloc ?_ _ | refine Fr.drewN ?_ _ | refine Fr.drew ?_ | exact Fr.refl _ _))⟩
def plB (a b : Pn) : Bool := decide (a.2.1 < b.2.1 ∨ (a.2.1 = b.2.1 ∧ a.2.2 < b.2.2))
theorem plB_iff {a b : Pn} : plB a b = true ↔ lt a b := decide_eq_true_iff
theorem places_any (a b : Pn) (w : World) : Calls Try.prog 52 #[.agg #[.int .i64 a.1, .int .i64 a.2.1, .int .i64 a.2.2], .agg #[.int .i64 b.1, .int .i64 b.2.1, .int .i64 b.2.2]] w fun e w' => e = .returned (.bool (plB a b)) ∧ Fr Nil w w' := by
  obtain ⟨i, x, y⟩ := a
  obtain ⟨j, u, v⟩ := b
  by_cases he : x = u ∧ y = v
  · obtain ⟨rfl, rfl⟩ := he
    have e : plB (i, x, y) (j, x, y) = false := by unfold plB; simp
    rw [e]
    exact places_e i x y j w
  · refine places_p i x y j u v w _ ?_
    unfold plB
    simp only
    by_cases h : x < u ∨ x = u ∧ y < v
    · rw [decide_eq_true h]; simp; omega
    · rw [decide_eq_false h]; simp; omega

def placesV : Value := .func (.func 52) #[] #[]

theorem last_at {l : List Pn} {z : Pn} (h : l.getLast? = some z) : ∃ n, l.length = n + 1 ∧ l[n]? = some z := by
  rcases List.eq_nil_or_concat l with rfl | ⟨a, y, rfl⟩
  · simp at h
  · simp only [List.concat_eq_append, List.getLast?_append, List.getLast?_singleton] at h
    refine ⟨a.length, by simp, ?_⟩
    simp at h ⊢
    exact h

theorem take_snoc {l : List Pn} {k : Nat} {y : Pn} (h : l[k]? = some y) : l.take (k + 1) = l.take k ++ [y] := by
  obtain ⟨h1, h2⟩ := List.getElem?_eq_some_iff.1 h
  rw [List.take_succ_eq_append_getElem h1, h2]
theorem srt_take {l : List Pn} (hs : Srt l) {k : Nat} {y : Pn} (h : l[k]? = some y) : ∀ x ∈ l.take k, Le x y := by
  intro x hx
  have h1 : Srt (l.take k ++ [y]) := by rw [← take_snoc h]; exact List.Pairwise.sublist (List.take_sublist _ _) hs
  exact (List.pairwise_append.1 h1).2.2 x hx y (by simp)
theorem pl_first {l P : List Pn} {k : Nat} {y : Pn} (hP : IsPl (l.take k) P) (hn : P = []) (hs : Srt l) (hy : l[k]? = some y) : IsPl (l.take (k + 1)) [y] := by
  subst hn
  have h := hP.more (srt_take hs hy) (fun _ h => by cases h)
  rw [take_snoc hy]
  exact h

set_option maxRecDepth 100000 in
set_option maxHeartbeats 4000000 in
theorem unique_any (l : List Pn) (v : Value) (w : World) (hl : l.length ≤ 1000) (hsr : Srt l) (hv : Sl EPt w v l) :
    Calls Try.prog 50 #[v, placesV] w fun e w' => ∃ u P, e = .returned u ∧ Fr Nil w w' ∧ Own EPt w' w.heap.size u P ∧ IsPl l P ∧ P.length ≤ l.length := by
  unfold placesV
  rcases hv with ⟨rfl, rfl⟩ | ⟨g, o, cap, rfl, hc, ha, hr⟩
  · go_enter Try.func50, Try.ntmps50
    go_wp2_with fail
    refine wp_loop_rounds 1 ?_
    rw [rounds_succ]
    go_wp2
    go_ret
    exact ⟨_, [], rfl, by (repeat' (with_reducible first | refine Fr.setCell ?_ (fun hlt => absurd hlt (by dsimp only; omega)) _ | refine Fr.alloc ?_ _ | refine Fr.drewN ?_ _ | refine Fr.drew ?_ | exact Fr.refl _ _)), World.ownsRow_nil _ _ _ _, IsPl.nil, by simp⟩
  · have HS := Lib.hid hsr
    clear hsr
    go_enter Try.func50, Try.ntmps50
    go_wp2_with fail
    go_loopw [5, 11] (fun xo i wr => ∃ (k : Nat) (P : List Pn), k ≤ l.length ∧ i = .int .i64 k ∧ Own EPt wr w.heap.size xo P ∧ IsPl (l.take k) P ∧ P.length ≤ k ∧ Fr Nil w wr) (fun _ i _ => l.length - (intOf i).toNat)
    case atStart => exact ⟨0, [], by omega, rfl, World.ownsRow_nil _ _ _ _, IsPl.nil, by simp, by (repeat' (with_reducible first | refine Fr.setCell ?_ (fun hlt => absurd hlt (by dsimp only; omega)) _ | refine Fr.alloc ?_ _ | refine Fr.drewN ?_ _ | refine Fr.drew ?_ | exact Fr.refl _ _))⟩
    case round =>
      obtain ⟨k, so, hk, rfl, ho, hP, hql, hf⟩ := hrel
      have HO := Lib.hid ho
      have HF := Lib.hid hf
      by_cases hlt : k < l.length
      · obtain ⟨y, hy⟩ : ∃ y, l[k]? = some y := ⟨l[k], List.getElem?_eq_getElem hlt⟩
        obtain ⟨c0, c1, c2⟩ := pt_at (hr.fr hf ha id) hy
        have HY := Lib.hid hy
        have HP := Lib.hid hP
        have hB := Bk.new wr 34 #[.int .i64 y.1, .int .i64 y.2.1, .int .i64 y.2.2]
        have HOA := Lib.hid (ho.alloc (.cells #[.int .i64 y.1, .int .i64 y.2.1, .int .i64 y.2.2] 34))
        have HFA := Lib.hid (hf.alloc (.cells #[.int .i64 y.1, .int .i64 y.2.1, .int .i64 y.2.2] 34))
        have hsz : w.heap.size ≤ wr.heap.size := hf.size
        clear hP
        rcases hz : so.getLast? with _ | z
        · have hnil : so = [] := List.getLast?_eq_none_iff.1 hz
          have HE := Lib.hid (pl_first HP.out hnil HS.out HY.out)
          subst hnil
          obtain ⟨A, d, rfl⟩ := Sl.shape (ho.sl EPt_ok)
          clear hy ho hf hz hql HY HO hB HP
          simp only [List.length_nil] at HOA ⊢
          go_wp2_with fail
          go_quiet (fail)
          go_wp2_with (at_builtin; refine Slices.wpList_app EPt_ok rfl (.tmp 29) (.tmp 31) 22 rfl rfl w.heap.size _ _ [] [y] rfl (Own.fr HOA.out (S := Nil) (((Fr.refl Nil _).drewN nq).alloc _) (fun _ _ h => h)) rfl (one_sl' y (by simp)).come (by first | (simp; done) | (simp; omega)) (by first | (simp; done) | (simp; omega)) ?_; intro v3 w3 h3 f3 b3 m3; have F3 : Fr Nil w w3 := Fr.then (((HFA.out.drewN nq)).alloc _) f3 (fun i hi hlt => by have := (HOA.out.lt i hi).1; omega); have h3' : Own EPt w3 w.heap.size v3 [y] := h3; clear h3 b3 m3; have h3 := h3'; clear h3')
          go_roundw
          case rel => exact ⟨k + 1, [y], by omega, by go_num, h3, HE.out, by simp, F3⟩
          case measure => simp [intOf]; omega
        · obtain ⟨n, hn, hzn⟩ := last_at hz
          rcases ho.shape with ⟨_, h0⟩ | ⟨g2, cap2, rfl, hcap, hmx, hb2, hlt2⟩
          · rw [h0] at hn; simp at hn
          have hrow : Row EPt wr g2 0 so := by
            rcases ho.sl EPt_ok with ⟨e, _⟩ | ⟨g', o', c', e, _, _, hr'⟩
            · cases e
            · simp only [Value.slice.injEq, Option.some.injEq, Addr.mk.injEq] at e
              obtain ⟨⟨rfl, rfl, _⟩, _⟩ := e
              exact hr'
          obtain ⟨z0, z1, z2⟩ := pt_at hrow hzn
          simp only [Nat.zero_add] at z0 z1 z2
          have zz0 : (wr.alloc (.cells #[.int .i64 y.1, .int .i64 y.2.1, .int .i64 y.2.2] 34)).cell? ⟨g2, n * 3, none⟩ = some (.int .i64 z.1) := (World.cell?_alloc_lt _ _ _ hlt2).trans z0
          have zz1 : (wr.alloc (.cells #[.int .i64 y.1, .int .i64 y.2.1, .int .i64 y.2.2] 34)).cell? ⟨g2, n * 3 + 1, none⟩ = some (.int .i64 z.2.1) := (World.cell?_alloc_lt _ _ _ hlt2).trans z1
          have zz2 : (wr.alloc (.cells #[.int .i64 y.1, .int .i64 y.2.1, .int .i64 y.2.2] 34)).cell? ⟨g2, n * 3 + 2, none⟩ = some (.int .i64 z.2.2) := (World.cell?_alloc_lt _ _ _ hlt2).trans z2
          have hlt3 : g2 < (wr.alloc (.cells #[.int .i64 y.1, .int .i64 y.2.1, .int .i64 y.2.2] 34)).heap.size := by simp; omega
          have LS := Lib.hid (fun W => places_any z y W)
          have HL := Lib.hid hn
          have HZ := Lib.hid hz
          have hql' : n + 1 ≤ k := by rw [← hn]; exact hql
          rw [hn] at HOA ⊢
          have hn0 : ¬ (n : Int) < 0 := by omega
          have hn1 : (n : Int) < (n : Int) + 1 := by omega
          have hn2 : (0 : Int) ≤ n := by omega
          have hww : (n : Int) + 1 - 1 = n := by omega
          have hwn : wrap64 (n : Int) = n := by unfold wrap64; omega
          have HOB := Lib.hid HOA.out
          obtain ⟨q3, q4, q5⟩ := KernE.quiet_c3 (S := Nil) hB id
          have q1 := fun (p : FrW Nil (wr.alloc (.cells #[.int .i64 y.1, .int .i64 y.2.1, .int .i64 y.2.2] 34))) => (p.fr.cell (p := ⟨g2, n * 3, none⟩) hlt3 id).trans zz0
          have q2 := fun (p : FrW Nil (wr.alloc (.cells #[.int .i64 y.1, .int .i64 y.2.1, .int .i64 y.2.2] 34))) => (p.fr.cell (p := ⟨g2, n * 3 + 1, none⟩) hlt3 id).trans zz1
          have q6 := fun (p : FrW Nil (wr.alloc (.cells #[.int .i64 y.1, .int .i64 y.2.1, .int .i64 y.2.2] 34))) => (p.fr.cell (p := ⟨g2, n * 3 + 2, none⟩) hlt3 id).trans zz2
          have HLS := Lib.hid (show wr.heap.size ≤ wr.heap.size from Nat.le_refl _)
          clear hy ho hf hz HO hB hrow z0 z1 z2 hzn zz0 zz1 zz2 hn hlt3 HOA hql hcap hmx
          go_wp2_with fail
          refine wp_region_quiet_fr Nil (by kernel_rfl) (by kernel_rfl) ?_
          iterate 2 (go_big_quiet_step (fail))
          simp only [show decide ((n : Int) < 0) = false from decide_eq_false (Int.not_lt.2 (Int.natCast_nonneg n))]
          repeat (go_big_quiet_step (first
            | (go_at_call 52; with_reducible exact quiet_call (LS.out _))))
          refine wpQuiet_nil ?_
          intro w2 hw'
          obtain ⟨⟨wq, hfq⟩, hw''⟩ := hw'
          subst hw''
          have HO2 := Lib.hid (Own.fr HOB.out hfq (fun _ _ h => h))
          have HF2 := Lib.hid (HFA.out.trans hfq)
          have hsz2 : w.heap.size ≤ w2.heap.size := HF2.out.size
          have y0 := q3 ⟨w2, hfq⟩
          have y1 := q4 ⟨w2, hfq⟩
          have y2 := q5 ⟨w2, hfq⟩
          dsimp only at y0 y1 y2
          clear q1 q2 q3 q4 q5 q6 hfq c0 c1 c2
          rcases Bool.eq_false_or_eq_true (plB z y) with hzy | hzy <;> rw [hzy]
          · have HE := Lib.hid (show IsPl (l.take (k + 1)) (so ++ [y]) by
              rcases IsPl.last HP.out (srt_take HS.out HY.out) HZ.out with ⟨_, h⟩ | h
              · rw [take_snoc HY.out]; exact HP.out.more (srt_take HS.out HY.out) h
              · exact absurd (plB_iff.1 hzy) (HullA.at_not h))
            clear hzy
            go_wp2_with (at_builtin; refine Slices.wpList_app EPt_ok rfl (.tmp 29) (.tmp 31) 22 rfl rfl w.heap.size _ _ so [y] rfl (show Own EPt _ w.heap.size _ so from HO2.out.alloc _) rfl (one_sl' y rfl).come (by have := HL.out; simp; omega) (by first | (simp; done) | (simp; omega)) ?_; intro v3 w3 h3 f3 b3 m3; have F3 : Fr Nil w w3 := Fr.then (HF2.out.alloc _) f3 (fun i hi hlt => by have := (HO2.out.lt i hi).1; omega); clear b3 m3)
            go_roundw
            case rel => exact ⟨k + 1, _, by omega, by go_num, h3, HE.out, by rw [List.length_append, List.length_singleton, HL.out]; omega, F3⟩
            case measure => simp [intOf]; omega
          · have HE := Lib.hid (show IsPl (l.take (k + 1)) so by
              rcases IsPl.last HP.out (srt_take HS.out HY.out) HZ.out with ⟨h, _⟩ | h
              · rw [plB_iff.2 h] at hzy; cases hzy
              · rw [take_snoc HY.out]; exact HP.out.again (srt_take HS.out HY.out) (List.mem_of_getLast? HZ.out) h)
            clear hzy
            go_wp2_with fail
            go_roundw
            case rel => exact ⟨k + 1, so, by omega, by go_num, HO2.out, HE.out, by rw [HL.out]; omega, HF2.out⟩
            case measure => simp [intOf]; omega
      · obtain rfl : k = l.length := by omega
        rw [List.take_length] at hP
        have HP := Lib.hid hP
        clear ho hf hP
        go_wp2_with fail
        go_ret
        exact ⟨_, so, rfl, HF.out, HO.out, HP.out, hql⟩
end Go.Proofs.Ytalbaopfdejooaa.HullG
