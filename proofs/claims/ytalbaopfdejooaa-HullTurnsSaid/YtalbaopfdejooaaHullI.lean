import Derived.Test.YtalbaopfdejooaaHullG
import Derived.Lib.AppendZeros
/- Chapter 41: how three points turn; the walk of chain. -/
namespace Go.Proofs.Ytalbaopfdejooaa.HullH
open Go.RowKit Base Slices RowsA KernA AreaA HullD HullE HullF HullG Quiet
open HullA (lt at_ D push)
set_option linter.unusedVariables false
set_option linter.unusedSimpArgs false

/-- how one turns -/
def tD (a b c : Pn) : Int := tz a.2.1 a.2.2 b.2.1 b.2.2 c.2.1 c.2.2
theorem tD_eq {a b c : Pn} (ha : lie a = true) (hb : lie b = true) (hc : lie c = true) : tD a b c = WideF.cmpI (D a b c) 0 := by
  unfold tD D
  refine KernC.tz_yes ?_
  unfold lie at ha hb hc
  rw [ha, hb, hc]; rfl
theorem tD_pos {a b c : Pn} (ha : lie a = true) (hb : lie b = true) (hc : lie c = true) : 0 < tD a b c ↔ 0 < D a b c := by
  rw [tD_eq ha hb hc]; unfold WideF.cmpI; repeat' split
  all_goals omega
theorem tD_neg {a b c : Pn} (ha : lie a = true) (hb : lie b = true) (hc : lie c = true) : tD a b c < 0 ↔ D a b c < 0 := by
  rw [tD_eq ha hb hc]; unfold WideF.cmpI; repeat' split
  all_goals omega
theorem turn_any (a b c : Pn) (w : World) : Calls Try.prog 45 #[.agg #[.int .i64 a.1, .int .i64 a.2.1, .int .i64 a.2.2], .agg #[.int .i64 b.1, .int .i64 b.2.1, .int .i64 b.2.2], .agg #[.int .i64 c.1, .int .i64 c.2.1, .int .i64 c.2.2]] w fun e w' => e = .returned (.int .i64 (tD a b c)) ∧ Fr Nil w w' :=
  KernC.Turn_any a.1 a.2.1 a.2.2 b.1 b.2.1 b.2.2 c.1 c.2.1 c.2.2 w
theorem rturn_any (a b c : Pn) (w : World) : Calls Try.prog 24 #[.agg #[.int .i64 a.1, .int .i64 a.2.1, .int .i64 a.2.2], .agg #[.int .i64 b.1, .int .i64 b.2.1, .int .i64 b.2.2], .agg #[.int .i64 c.1, .int .i64 c.2.1, .int .i64 c.2.2]] w fun e w' => e = .returned (.int .i64 (tD a b c)) ∧ Fr Nil w w' :=
  KernC.rturn_any a.1 a.2.1 a.2.2 b.1 b.2.1 b.2.2 c.1 c.2.1 c.2.2 w

theorem chain_snoc {l : List Pn} {k : Nat} {y : Pn} (h : l[k]? = some y) : HullA.chain (l.take (k + 1)) = push y (HullA.chain (l.take k)) := by
  rw [take_snoc h]; unfold HullA.chain; rw [List.foldl_append]; rfl
theorem push_mem {y : Pn} : ∀ {st : List Pn} {x : Pn}, x ∈ push y st → x = y ∨ x ∈ st
  | [], x, h => by simpa [push] using h
  | [v], x, h => by simpa [push] using h
  | v :: u :: r, x, h => by
    unfold push at h
    split at h
    · rcases push_mem h with h | h
      · exact Or.inl h
      · exact Or.inr (List.mem_cons_of_mem _ h)
    · simpa using h
theorem push_len {y : Pn} : ∀ {st : List Pn}, (push y st).length ≤ st.length + 1
  | [] => by simp [push]
  | [v] => by simp [push]
  | v :: u :: r => by
    unfold push
    split
    · have := push_len (y := y) (st := u :: r); simp at this ⊢; omega
    · simp
theorem chain_len {l : List Pn} : ∀ k : Nat, k ≤ l.length → (HullA.chain (l.take k)).length ≤ k := by
  intro k
  induction k with
  | zero => intro _; simp [HullA.chain]
  | succ k ih =>
    intro hk
    have h : l[k]? = some (l[k]'(by omega)) := List.getElem?_eq_getElem _
    rw [chain_snoc h]
    have := push_len (y := l[k]'(by omega)) (st := HullA.chain (l.take k))
    have := ih (by omega)
    omega
theorem chain_mem {l : List Pn} : ∀ (k : Nat), k ≤ l.length → ∀ x ∈ HullA.chain (l.take k), x ∈ l := by
  intro k
  induction k with
  | zero => intro _; simp [HullA.chain]
  | succ k ih =>
    intro hk x hx
    have h : l[k]? = some (l[k]'(by omega)) := List.getElem?_eq_getElem _
    rw [chain_snoc h] at hx
    rcases push_mem hx with rfl | hx
    · exact List.getElem_mem _
    · exact ih (by omega) x hx
theorem rev_at (u v : Pn) (r : List Pn) : (v :: u :: r).reverse[r.length]? = some u ∧ (v :: u :: r).reverse[r.length + 1]? = some v ∧ (v :: u :: r).reverse.length = r.length + 2 ∧ (v :: u :: r).reverse.take (r.length + 1) = (u :: r).reverse := by
  have e : (v :: u :: r).reverse = r.reverse ++ [u, v] := by simp
  rw [e]
  have hl : r.length = r.reverse.length := by simp
  refine ⟨?_, ?_, by simp, ?_⟩
  · rw [List.getElem?_append_right (by omega), hl]; simp
  · rw [List.getElem?_append_right (by omega)]; simp
  · rw [List.take_append]; simp [List.take_of_length_le]
theorem push_two {u v y : Pn} {r : List Pn} (h : D u v y ≤ 0) : push y (v :: u :: r) = push y (u :: r) := by rw [push, if_pos h]
theorem push_stop {u v y : Pn} {r : List Pn} (h : ¬ D u v y ≤ 0) : push y (v :: u :: r) = y :: v :: u :: r := by rw [push, if_neg h]
theorem push_few {y : Pn} {st : List Pn} (h : st.length < 2) : push y st = y :: st := by
  match st with
  | [] => rfl
  | [v] => rfl
  | v :: u :: r => simp at h; omega
theorem two_cases (st : List Pn) : st.length < 2 ∨ ∃ v u r, st = v :: u :: r := by
  match st with
  | [] => exact Or.inl (by simp)
  | [v] => exact Or.inl (by simp)
  | v :: u :: r => exact Or.inr ⟨v, u, r, rfl⟩

set_option maxRecDepth 100000 in
set_option maxHeartbeats 8000000 in
theorem chain_any (l : List Pn) (v : Value) (w : World) (hl : l.length ≤ 1000) (hlie : ∀ p ∈ l, lie p = true) (hv : Sl EPt w v l) :
    Calls Try.prog 53 #[v] w fun e w' => ∃ u, e = .returned u ∧ Fr Nil w w' ∧ Own EPt w' w.heap.size u (HullA.chain l).reverse := by
  rcases hv with ⟨rfl, rfl⟩ | ⟨g, o, cap, rfl, hc, ha, hr⟩
  · go_enter Try.func53, Try.ntmps53
    go_wp2_with fail
    refine wp_loop_rounds 1 ?_
    rw [rounds_succ]
    go_wp2
    go_ret
    exact ⟨_, rfl, by (repeat' (with_reducible first | refine Fr.setCell ?_ (fun hlt => absurd hlt (by dsimp only; omega)) _ | refine Fr.alloc ?_ _ | refine Fr.drewN ?_ _ | refine Fr.drew ?_ | exact Fr.refl _ _)), World.ownsRow_nil _ _ _ _⟩
  · have HLI := Lib.hid hlie
    clear hlie
    go_enter Try.func53, Try.ntmps53
    go_wp2_with fail
    go_loopw [3, 9] (fun xo i wr => ∃ (k : Nat), k ≤ l.length ∧ i = .int .i64 k ∧ Own EPt wr w.heap.size xo (HullA.chain (l.take k)).reverse ∧ Fr Nil w wr) (fun _ i _ => l.length - (intOf i).toNat)
    case atStart => exact ⟨0, by omega, rfl, World.ownsRow_nil _ _ _ _, by (repeat' (with_reducible first | refine Fr.setCell ?_ (fun hlt => absurd hlt (by dsimp only; omega)) _ | refine Fr.alloc ?_ _ | refine Fr.drewN ?_ _ | refine Fr.drew ?_ | exact Fr.refl _ _))⟩
    case round =>
      obtain ⟨k, hk, rfl, ho, hf⟩ := hrel
      by_cases hlt : k < l.length
      · obtain ⟨y, hy⟩ : ∃ y, l[k]? = some y := ⟨l[k], List.getElem?_eq_getElem hlt⟩
        obtain ⟨c0, c1, c2⟩ := pt_at (hr.fr hf ha id) hy
        have HY := Lib.hid hy
        have HYL := Lib.hid (HLI.out y (List.mem_of_getElem? hy))
        have HLE := Lib.hid (chain_len k hk)
        have HME := Lib.hid (chain_mem k hk)
        have HB := Lib.hid (Bk.new wr 34 #[.int .i64 y.1, .int .i64 y.2.1, .int .i64 y.2.2])
        have HOA := Lib.hid (ho.alloc (.cells #[.int .i64 y.1, .int .i64 y.2.1, .int .i64 y.2.2] 34))
        have HFA := Lib.hid (hf.alloc (.cells #[.int .i64 y.1, .int .i64 y.2.1, .int .i64 y.2.2] 34))
        obtain ⟨A, d, rfl⟩ := Sl.shape (ho.sl EPt_ok)
        have HSZ := Lib.hid hf.size
        obtain ⟨W0, rfl⟩ : ∃ W0, W0 = wr := ⟨_, rfl⟩
        clear hy ho hf
        generalize hst : HullA.chain (l.take k) = st0 at *
        have HST := Lib.hid hst
        clear hst
        go_wp2_with fail
        go_loopw [3, 6] (fun xo j wk => ∃ (st : List Pn), j = .int .i64 st.length ∧ Own EPt wk w.heap.size xo st.reverse ∧ push y st = push y st0 ∧ st.length ≤ k ∧ (∀ x ∈ st, x ∈ l) ∧ Fr Nil w wk ∧ Bk wk W0.heap.size 34 #[.int .i64 y.1, .int .i64 y.2.1, .int .i64 y.2.2]) (fun _ j _ => (intOf j).toNat)
        case atStart => exact ⟨st0, by simp, by simpa using HOA.out, rfl, HLE.out, HME.out, HFA.out, HB.out⟩
        case round =>
          obtain ⟨st, rfl, ho, hpu, hle, hme, hf, hb⟩ := hrel
          have HPU := Lib.hid hpu
          have HF := Lib.hid hf
          have HME2 := Lib.hid hme
          clear hpu hme HME HOA HFA HB
          have hsz : w.heap.size ≤ wr.heap.size := hf.size
          rcases two_cases st with h2 | ⟨v, u, r, rfl⟩
          · have HE := Lib.hid (show (HullA.chain (l.take (k + 1))).reverse = st.reverse ++ [y] by rw [chain_snoc HY.out, HST.out, ← HPU.out, push_few h2]; simp)
            have h3 : ¬ (2 : Int) ≤ st.length := by omega
            obtain ⟨y0, y1, y2⟩ := KernE.quiet_c3 (S := Nil) hb id
            obtain ⟨A, d, rfl⟩ := Sl.shape (ho.sl EPt_ok)
            simp only [List.length_reverse] at ho ⊢
            have HO := Lib.hid ho
            clear ho hf h2
            go_wp2_with fail
            refine wp_region_quiet_fr Nil (by kernel_rfl) (by kernel_rfl) ?_
            iterate 3 (go_big_quiet_step (fail))
            simp only [show decide ((2 : Int) ≤ (st.length : Int)) = false from decide_eq_false (by omega)]
            repeat (go_big_quiet_step (fail))
            refine wpQuiet_nil ?_
            intro w2 hw'
            obtain ⟨⟨wq, hfq⟩, hw''⟩ := hw'
            subst hw''
            have HO2 := Lib.hid (Own.fr HO.out hfq (fun _ _ h => h))
            have HF2 := Lib.hid (HF.out.trans hfq)
            have hsz2 : w.heap.size ≤ w2.heap.size := HF2.out.size
            have y3 := y0 ⟨w2, hfq⟩
            have y4 := y1 ⟨w2, hfq⟩
            have y5 := y2 ⟨w2, hfq⟩
            dsimp only at y3 y4 y5
            clear y0 y1 y2 hfq c0 c1 c2 HO HF
            go_wp2_with (at_builtin; refine Slices.wpList_app EPt_ok rfl (.tmp 38) (.tmp 40) 22 rfl rfl w.heap.size _ _ st.reverse [y] rfl (show Own EPt _ w.heap.size _ st.reverse from HO2.out.alloc _) rfl (one_sl' y rfl).come (by simp; omega) (by first | (simp; done) | (simp; omega)) ?_; intro v3 w3 h3 f3 b3 m3; have F3 : Fr Nil w w3 := Fr.then (HF2.out.alloc _) f3 (fun i hi hlt => by have := (HO2.out.lt i hi).1; omega); clear b3 m3)
            go_roundw
            case rel => exact ⟨k + 1, by omega, by go_num, by rw [HE.out]; exact h3, F3⟩
            case measure => simp [intOf]; omega
          · obtain ⟨ru, rv, rl, rt⟩ := rev_at u v r
            rcases ho.shape with ⟨_, h0⟩ | ⟨g2, cap2, rfl, hcap, hmx, hb2, hlt2⟩
            · rw [h0] at rl; simp at rl
            have hrow : Row EPt wr g2 0 (v :: u :: r).reverse := by
              rcases ho.sl EPt_ok with ⟨e, _⟩ | ⟨g', o', c', e, _, _, hr'⟩
              · cases e
              · simp only [Value.slice.injEq, Option.some.injEq, Addr.mk.injEq] at e
                obtain ⟨⟨rfl, rfl, _⟩, _⟩ := e
                exact hr'
            obtain ⟨u0, u1, u2⟩ := pt_at hrow ru
            obtain ⟨v0, v1, v2⟩ := pt_at hrow rv
            simp only [Nat.zero_add] at u0 u1 u2 v0 v1 v2
            have LU := Lib.hid (HLI.out u (HME2.out u (by simp)))
            have LV := Lib.hid (HLI.out v (HME2.out v (by simp)))
            have HTK := Lib.hid (Own.take EPt_ok ho (r.length + 1) (by rw [rl]; omega))
            have HO := Lib.hid ho
            have hle' : r.length + 2 ≤ k := by simpa using hle
            rw [rl] at hcap ⊢
            rw [rt] at HTK
            simp only [rl] at HO
            generalize hn : r.length = n at *
            have HN := Lib.hid hn
            have LS := Lib.hid (fun W => turn_any u v y W)
            obtain ⟨z, hz⟩ : ∃ z, tD u v y = z := ⟨_, rfl⟩
            rw [hz] at LS
            have HZ := Lib.hid hz
            have q0 := KernE.quiet_c3 (S := Nil) hb id
            obtain ⟨q1, q2, q3⟩ := q0
            have q4 := fun (p : FrW Nil wr) => (p.fr.cell (p := ⟨g2, n * 3, none⟩) hlt2 id).trans u0
            have q5 := fun (p : FrW Nil wr) => (p.fr.cell (p := ⟨g2, n * 3 + 1, none⟩) hlt2 id).trans u1
            have q6 := fun (p : FrW Nil wr) => (p.fr.cell (p := ⟨g2, n * 3 + 2, none⟩) hlt2 id).trans u2
            have q7 := fun (p : FrW Nil wr) => (p.fr.cell (p := ⟨g2, (n + 1) * 3, none⟩) hlt2 id).trans v0
            have q8 := fun (p : FrW Nil wr) => (p.fr.cell (p := ⟨g2, (n + 1) * 3 + 1, none⟩) hlt2 id).trans v1
            have q9 := fun (p : FrW Nil wr) => (p.fr.cell (p := ⟨g2, (n + 1) * 3 + 2, none⟩) hlt2 id).trans v2
            have e1 : (2 : Int) ≤ (n : Int) + 2 := by omega
            have e2 : (n : Int) + 2 - 2 = n := by omega
            have e3 : (n : Int) + 2 - 1 = (n : Int) + 1 := by omega
            have e6 : (0 : Int) ≤ n := by omega
            have e7 : (0 : Int) ≤ (n : Int) + 1 := by omega
            have e8 : (n : Int) < (n : Int) + 2 := by omega
            have e9 : (n : Int) + 1 < (n : Int) + 2 := by omega
            have HB := Lib.hid hb
            have ej : (((v :: u :: r).length : Nat) : Int) = (n : Int) + 2 := by simp [hn]; omega
            simp only [ej]
            clear ho hf hb hrow u0 u1 u2 v0 v1 v2 ru rv rl rt hz hn hle hmx
            go_wp2_with fail
            refine wp_region_quiet_fr Nil (by kernel_rfl) (by kernel_rfl) ?_
            iterate 3 (go_big_quiet_step (fail))
            try simp only [show decide ((2 : Int) ≤ (n : Int) + 2) = true from decide_eq_true e1]
            repeat (go_big_quiet_step (first
              | (go_at_call 45; with_reducible exact quiet_call (LS.out _))))
            refine wpQuiet_nil ?_
            intro w2 hw'
            obtain ⟨⟨wq, hfq⟩, hw''⟩ := hw'
            subst hw''
            have HO2 := Lib.hid (Own.fr HO.out hfq (fun _ _ h => h))
            have HTK2 := Lib.hid (Own.fr HTK.out hfq (fun _ _ h => h))
            have HB2 := Lib.hid (Bk.fr HB.out hfq id)
            have HF2 := Lib.hid (HF.out.trans hfq)
            have hsz2 : w.heap.size ≤ w2.heap.size := HF2.out.size
            have y3 := q1 ⟨w2, hfq⟩
            have y4 := q2 ⟨w2, hfq⟩
            have y5 := q3 ⟨w2, hfq⟩
            dsimp only at y3 y4 y5
            clear q1 q2 q3 q4 q5 q6 q7 q8 q9 hfq c0 c1 c2 HO HF HB HTK LS
            by_cases hz0 : z ≤ 0
            · have HPU2 := Lib.hid (show push y (u :: r) = push y st0 by rw [← HPU.out]; exact (push_two (by have := tD_pos LU.out LV.out HYL.out; rw [HZ.out] at this; omega)).symm)
              go_wp2_with fail
              go_roundw
              case rel => exact ⟨u :: r, by simp [HN.out], HTK2.out, HPU2.out, by simp [HN.out]; omega, fun x hx => HME2.out x (List.mem_cons_of_mem _ hx), HF2.out, HB2.out⟩
              case measure => simp [intOf]
            · have HE := Lib.hid (show (HullA.chain (l.take (k + 1))).reverse = (v :: u :: r).reverse ++ [y] by
                rw [chain_snoc HY.out, HST.out, ← HPU.out, push_stop (by have := tD_pos LU.out LV.out HYL.out; rw [HZ.out] at this; omega)]; simp)
              go_wp2_with (at_builtin; refine Slices.wpList_app EPt_ok rfl (.tmp 38) (.tmp 40) 22 rfl rfl w.heap.size _ _ (v :: u :: r).reverse [y] rfl (show Own EPt _ w.heap.size _ (v :: u :: r).reverse from HO2.out.alloc _) rfl (one_sl' y rfl).come (by have := HN.out; simp; omega) (by first | (simp; done) | (simp; omega)) ?_; intro v3 w3 h3 f3 b3 m3; have F3 : Fr Nil w w3 := Fr.then (HF2.out.alloc _) f3 (fun i hi hlt => by have := (HO2.out.lt i hi).1; omega); clear b3 m3)
              go_roundw
              case rel => exact ⟨k + 1, by omega, by go_num, by rw [HE.out]; exact h3, F3⟩
              case measure => simp [intOf]; omega
      · obtain rfl : k = l.length := by omega
        rw [List.take_length] at ho
        have HO := Lib.hid ho
        have HF := Lib.hid hf
        clear ho hf
        go_wp2_with fail
        go_ret
        exact ⟨_, rfl, HF.out, HO.out⟩
end Go.Proofs.Ytalbaopfdejooaa.HullH

/- Chapter 41: slices.Grow of nothing, slices.Concat of two, slices.Reverse: of points. -/
namespace Go.Proofs.Ytalbaopfdejooaa.HullI
open Go.RowKit Base Slices RowsA KernA AreaA HullD HullE HullF HullG Quiet
set_option linter.unusedVariables false
set_option linter.unusedSimpArgs false

theorem zeros_run (w : World) (ty : TypeId) (n : Nat) (h0 : 0 < n) (hn : n ≤ 100000) :
    (Builtin.append_ #[22, 3] ty #[.slice none 0 0, .int .i64 (n : Int)]).run Try.prog w = .ok (.slice (some ⟨w.heap.size, 0, none⟩) n (grownCap w n 0 34)) (w.drew.alloc (.cells (Builtin.zeroCells (Value.agg #[.int .i64 0, .int .i64 0, .int .i64 0]).cells n ++ Builtin.zeroCells (Value.agg #[.int .i64 0, .int .i64 0, .int .i64 0]).cells (grownCap w n 0 34 - n)) 34)) := by
  obtain ⟨i0, hi, hz0, hz1, hz2⟩ := info_parts info_pt
  exact Lib.run_append_nil_zeros w _ _ ty _ i0 _ .i64 .i64 Try.underlying22 Try.underlying3 hi hz0 n h0 (by rw [hz1]; omega) (by omega) (by rw [hz2]; omega)
theorem zero_len (n m : Nat) : (Builtin.zeroCells (Value.agg #[.int .i64 0, .int .i64 0, .int .i64 0]).cells n ++ Builtin.zeroCells (Value.agg #[.int .i64 0, .int .i64 0, .int .i64 0]).cells m).size = (n + m) * 3 := by
  have e : ∀ k, (Builtin.zeroCells (Value.agg #[.int .i64 0, .int .i64 0, .int .i64 0]).cells k).size = k * 3 := fun k => by
    unfold Builtin.zeroCells
    simp [Value.cells]
  rw [Array.size_append, e, e]; omega
set_option maxHeartbeats 1000000 in
theorem grow_zero (w : World) : Calls Try.prog 55 #[.slice none 0 0, .int .i64 0] w fun e w' => ∃ u, e = .returned u ∧ Fr Nil w w' ∧ Own EPt w' w.heap.size u [] := by
  go_enter Try.func55, Try.ntmps55
  go_wp2_with fail
  go_ret
  exact ⟨_, rfl, Fr.refl _ _, Own.nil _ _⟩
set_option maxHeartbeats 1000000 in
theorem grow_some (n : Nat) (h0 : 0 < n) (hn : n ≤ 100000) (w : World) : Calls Try.prog 55 #[.slice none 0 0, .int .i64 (n : Int)] w fun e w' => ∃ u, e = .returned u ∧ Fr Nil w w' ∧ Own EPt w' w.heap.size u [] := by
  have hrz := fun ty => zeros_run w ty n h0 hn
  have hGn := grownCap_ge w n 0 34
  have hG63 := grownCap_le_maxLen w n 0 34 (by unfold maxLen; omega)
  have hsz := zero_len n (grownCap w n 0 34 - n)
  rw [show n + (grownCap w n 0 34 - n) = grownCap w n 0 34 by omega] at hsz
  generalize grownCap w n 0 34 = G at *
  generalize (Builtin.zeroCells (Value.agg #[.int .i64 0, .int .i64 0, .int .i64 0]).cells n ++ Builtin.zeroCells (Value.agg #[.int .i64 0, .int .i64 0, .int .i64 0]).cells (G - n)) = cs at *
  have HO := Lib.hid (World.ownsRow_made (e := 34) (base := w.heap.size) (size := 3) w.drew cs G (Nat.le_refl _) hG63 hsz)
  have h1 : ¬ ((n : Int) < 0) := by omega
  have h4 : (n : Int) > 0 := by omega
  have h5 : (0 : Int) ≤ G := by omega
  clear hG63 hsz
  go_enter Try.func55, Try.ntmps55
  go_wp2_with (at_builtin; refine Lib.wpList_append_run _ rfl _ _ _ _ rfl _ _ rfl rfl _ _ (hrz _) ?_)
  go_ret
  exact ⟨_, rfl, ((Fr.refl Nil w).drew).alloc _, HO.out⟩
theorem grow_any (n : Nat) (hn : n ≤ 100000) (w : World) : Calls Try.prog 55 #[.slice none 0 0, .int .i64 (n : Int)] w fun e w' => ∃ u, e = .returned u ∧ Fr Nil w w' ∧ Own EPt w' w.heap.size u [] := by
  rcases Nat.eq_zero_or_pos n with rfl | h
  · exact grow_zero w
  · exact grow_some n h hn w

set_option maxRecDepth 100000 in
set_option maxHeartbeats 4000000 in
theorem concat_any (a b : List Pn) (va vb : Value) (gs : Nat) (w : World) (hla : a.length ≤ 1000) (hlb : b.length ≤ 1000) (hva : Sl EPt w va a) (hvb : Sl EPt w vb b) (h0 : w.cell? ⟨gs, 0, none⟩ = some va) (h1 : w.cell? ⟨gs, 1, none⟩ = some vb) :
    Calls Try.prog 31 #[.slice (some ⟨gs, 0, none⟩) 2 2] w fun e w' => ∃ u, e = .returned u ∧ Fr Nil w w' ∧ Own EPt w' w.heap.size u (a ++ b) := by
  have hgs := World.block_lt_of_cell? w ⟨gs, 0, none⟩ h0
  obtain ⟨A, ca, rfl⟩ := hva.shape
  obtain ⟨B, cb, rfl⟩ := hvb.shape
  have KG := fun W => grow_any (a.length + b.length) (by omega) W
  rw [show ((a.length + b.length : Nat) : Int) = (a.length : Int) + b.length by omega] at KG
  replace KG := Lib.hid KG
  have VA := Lib.hid hva
  have VB := Lib.hid hvb
  clear hva hvb
  have e1 : ¬ ((a.length : Int) < 0) := by omega
  have e2 : ¬ ((a.length : Int) + b.length < 0) := by omega
  go_enter Try.func31, Try.ntmps31
  go_wp2_with fail
  refine wp_loop_rounds 3 ?_
  rw [rounds_succ]
  go_wp2_with fail
  rw [rounds_succ]
  go_wp2_with fail
  rw [rounds_succ]
  go_wp2_with fail
  refine (KG.out w).mono ?_
  rintro e w1 ⟨u, rfl, hf1, ho1⟩
  have c0 := (hf1.cell (p := ⟨gs, 0, none⟩) hgs id).trans h0
  have c1 := (hf1.cell (p := ⟨gs, 1, none⟩) hgs id).trans h1
  obtain ⟨U, cu, rfl⟩ := (ho1.sl EPt_ok).shape
  have HF := Lib.hid hf1
  have HO := Lib.hid ho1
  have hsz : w.heap.size ≤ w1.heap.size := hf1.size
  clear hf1 ho1 KG
  go_wp2_with fail
  refine wp_loop_rounds 3 ?_
  rw [rounds_succ]
  go_wp2_with (at_builtin; refine Slices.wpList_app EPt_ok rfl (.tmp 31) (.tmp 32) 22 rfl rfl w.heap.size _ _ [] a rfl HO.out rfl (Sl.fr VA.out HF.out).come (by simp; omega) hsz ?_; intro v2 w2 o2 f2 b2 m2)
  rw [List.nil_append] at o2
  have F2 : Fr Nil w w2 := Fr.then HF.out f2 (fun i hi hlt => by have := (HO.out.lt i hi).1; omega)
  have F2b : Fr Nil w w2 := F2
  have d1 := (F2.cell (p := ⟨gs, 1, none⟩) hgs id).trans h1
  obtain ⟨V, cv, rfl⟩ := (o2.sl EPt_ok).shape
  have HF2 := Lib.hid F2
  have HO2 := Lib.hid o2
  have hsz2 : w.heap.size ≤ w2.heap.size := F2.size
  clear o2 f2 b2 m2 F2 F2b c0 c1
  rw [rounds_succ]
  go_wp2_with (at_builtin; refine Slices.wpList_app EPt_ok rfl (.tmp 31) (.tmp 32) 22 rfl rfl w.heap.size _ _ a b rfl HO2.out rfl (Sl.fr VB.out HF2.out).come (by omega) hsz2 ?_; intro v3 w3 o3 f3 b3 m3)
  have F3 : Fr Nil w w3 := Fr.then HF2.out f3 (fun i hi hlt => by have := (HO2.out.lt i hi).1; omega)
  clear f3 b3 m3
  rw [rounds_succ]
  go_wp2_with fail
  go_ret
  exact ⟨_, rfl, F3, o3⟩

theorem swap2 (A B M : List Pn) (x y : Pn) (h : A.length = B.length) : ((B.reverse ++ (x :: (M ++ [y])) ++ A.reverse).set A.length y).set (A.length + (M.length + 1)) x = (y :: B).reverse ++ M ++ (A ++ [x]).reverse := by
  have e : B.reverse ++ (x :: (M ++ [y])) ++ A.reverse = B.reverse ++ (x :: (M ++ (y :: A.reverse))) := by simp
  rw [e, List.set_append_right _ _ (by simp [h]), show A.length - B.reverse.length = 0 by simp [h], List.set_cons_zero, List.set_append_right _ _ (by simp [h]),
    show A.length + (M.length + 1) - B.reverse.length = M.length + 1 by simp [h], List.set_cons_succ, List.set_append_right _ _ (by simp), Nat.sub_self, List.set_cons_zero]
  simp
theorem two_ends (M : List Pn) : M.length ≤ 1 ∨ ∃ x M' y, M = x :: (M' ++ [y]) := by
  match M with
  | [] => exact Or.inl (by simp)
  | [x] => exact Or.inl (by simp)
  | x :: z :: r =>
    rcases List.eq_nil_or_concat (z :: r) with h | ⟨M', y, h⟩
    · cases h
    · exact Or.inr ⟨x, M', y, by rw [h]; simp⟩
theorem rev_short (M : List Pn) (h : M.length ≤ 1) : M.reverse = M := by
  match M with
  | [] => rfl
  | [x] => rfl
  | x :: z :: r => simp at h

set_option maxRecDepth 100000 in
set_option maxHeartbeats 4000000 in
theorem reverse_any (l : List Pn) (g cap : Nat) (w0 w : World) (hl : l.length ≤ 1000) (h1 : 1 ≤ l.length) (hc : l.length ≤ cap) (hm : Mine w0 g l w) :
    Calls Try.prog 54 #[.slice (some ⟨g, 0, none⟩) l.length cap] w fun e w' => e = .returned (.tuple #[]) ∧ Mine w0 g l.reverse w' ∧ Fr (fun k => k = g) w w' := by
  have HM0 := Lib.hid hm
  clear hm
  go_enter Try.func54, Try.ntmps54
  go_wp2_with fail
  go_loopw [2, 3] (fun i j wr => ∃ A M B : List Pn, i = .int .i64 A.length ∧ j = .int .i64 ((A.length : Int) + M.length - 1) ∧ A.length = B.length ∧ l = A ++ M ++ B ∧ Mine w0 g (B.reverse ++ M ++ A.reverse) wr ∧ Fr (fun k => k = g) w wr) (fun i j _ => (intOf j - intOf i).toNat)
  case atStart => exact ⟨[], l, [], by simp, by simp, rfl, by simp, by simpa using HM0.out, Fr.refl _ _⟩
  case round =>
    obtain ⟨A, M, B, rfl, rfl, hAB, hlM, hm, hf⟩ := hrel
    rcases two_ends M with hM | ⟨x, M', y, rfl⟩
    · have HE := Lib.hid (show B.reverse ++ M ++ A.reverse = l.reverse by rw [hlM]; simp [rev_short M hM])
      have HM := Lib.hid hm
      have HF := Lib.hid hf
      have hlt : ¬ ((A.length : Int) < (A.length : Int) + M.length - 1) := by omega
      clear hm hf hlM
      go_wp2_with fail
      go_end0
      exact ⟨rfl, by rw [← HE.out]; exact HM.out, HF.out⟩
    · have hlen : l.length = A.length + (M'.length + 1) + 1 + A.length := by rw [hlM]; simp; omega
      have lx : (B.reverse ++ (x :: (M' ++ [y])) ++ A.reverse)[A.length]? = some x := by
        rw [List.append_assoc, List.getElem?_append_right (by simp [hAB])]; simp [hAB]
      have ly : (B.reverse ++ (x :: (M' ++ [y])) ++ A.reverse)[A.length + (M'.length + 1)]? = some y := by
        rw [List.append_assoc, List.getElem?_append_right (by simp [hAB])]; simp [hAB]
      obtain ⟨cx0, cx1, cx2⟩ := Mine.at_ hm lx
      obtain ⟨cy0, cy1, cy2⟩ := Mine.at_ hm ly
      have HL := Lib.hid (show l = (A ++ [x]) ++ M' ++ (y :: B) by rw [hlM]; simp)
      have HL2 := Lib.hid (show (B.reverse ++ (x :: (M' ++ [y])) ++ A.reverse).length = l.length by rw [hlM]; simp; omega)
      have HSW := Lib.hid (swap2 A B M' x y hAB)
      have HAB := Lib.hid hAB
      have ej : (A.length : Int) + ((x :: (M' ++ [y])).length : Nat) - 1 = ((A.length + (M'.length + 1) : Nat) : Int) := by simp; omega
      rw [ej]
      clear hAB hlM lx ly ej
      generalize hq : A.length + (M'.length + 1) = q at *
      generalize hk : A.length = k at *
      have HQ := Lib.hid hq
      have HK := Lib.hid hk
      have fy0 := hm.froz (q * 3)
      have fy1 := hm.froz (q * 3 + 1)
      have fy2 := hm.froz (q * 3 + 2)
      have fx0 := hm.froz (k * 3)
      have fx1 := hm.froz (k * 3 + 1)
      have fx2 := hm.froz (k * 3 + 2)
      have hgl := hm.lt
      have HM := Lib.hid hm
      have HF := Lib.hid hf
      have b0 : (0 : Int) ≤ k := by omega
      have b1 : (k : Int) < l.length := by omega
      have b2 : (0 : Int) ≤ q := by omega
      have b3 : (q : Int) < l.length := by omega
      have b4 : (k : Int) < q := by omega
      have HKQ := Lib.hid (show k < l.length ∧ q < l.length by omega)
      have HLN := Lib.hid hlen
      clear hm hf hq hk hlen
      go_wp2_with fail
      go_region
      have hM : Mine w0 g ((y :: B).reverse ++ M' ++ (A ++ [x]).reverse) ((st (st wr g k y) g q x).drew) := by
        have hh := Mine.st (Mine.st HM.out (i := k) (by rw [HL2.out]; exact HKQ.out.1) y) (i := q) (by rw [List.length_set, HL2.out]; exact HKQ.out.2) x
        rw [HSW.out] at hh
        exact hh.drew
      have hF : Fr (fun k => k = g) w ((st (st wr g k y) g q x).drew) := by
        unfold st
        exact ((((((HF.out.setCell (fun _ => rfl) _).setCell (fun _ => rfl) _).setCell (fun _ => rfl) _).setCell (fun _ => rfl) _).setCell (fun _ => rfl) _).setCell (fun _ => rfl) _).drew
      unfold st at hM hF
      clear cy0 cy1 cy2 cx0 cx1 cx2 fy0 fy1 fy2 fx0 fx1 fx2 hgl
      generalize (World.drew _) = w3 at hM hF ⊢
      have HM3 := Lib.hid hM
      have HF3 := Lib.hid hF
      clear hM hF
      go_wp2_with fail
      go_roundw
      case rel => exact ⟨A ++ [x], M', y :: B, by simp [HK.out], by have := HQ.out; have := HK.out; simp; omega, by simp [HK.out, HAB.out], HL.out, HM3.out, HF3.out⟩
      case measure => have := HQ.out; simp [intOf]; omega
end Go.Proofs.Ytalbaopfdejooaa.HullI

