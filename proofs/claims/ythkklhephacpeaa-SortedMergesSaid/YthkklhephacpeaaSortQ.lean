/- Chapter 7: unlike ones of a list in order; the walk of Unique. -/
import Derived.Test.YthkklhephacpeaaSortO
namespace Go.Proofs.Ythkklhephacpeaa.SortQ
open Go.RowKit Base SortA SortB SortC SortD SortE SortF SortG SortH SortI SortJ SortK SortL Quiet
set_option linter.unusedVariables false
set_option linter.unusedSimpArgs false

def ustep (out : List Pr) (v : Pr) : List Pr := match out.getLast? with
  | none => [v]
  | some z => if z.1 < v.1 then out ++ [v] else out
def uq (l : List Pr) : List Pr := l.foldl ustep []

theorem uq_step {l : List Pr} {k : Nat} {v : Pr} (h : l[k]? = some v) : uq (l.take (k + 1)) = ustep (uq (l.take k)) v := by
  obtain ⟨hk, rfl⟩ := List.getElem?_eq_some_iff.1 h
  unfold uq
  rw [List.take_succ_eq_append_getElem hk, List.foldl_append]
  rfl

theorem ustep_len (out : List Pr) (v : Pr) : (ustep out v).length ≤ out.length + 1 := by
  unfold ustep
  split
  · simp
  · split <;> simp

theorem uq_len (l : List Pr) : ∀ k, k ≤ l.length → (uq (l.take k)).length ≤ k := by
  intro k
  induction k with
  | zero => intro _; simp [uq]
  | succ k ih =>
    intro hk
    have h : l[k]? = some (l[k]'(by omega)) := List.getElem?_eq_getElem _
    rw [uq_step h]
    have := ustep_len (uq (l.take k)) (l[k]'(by omega))
    have := ih (by omega)
    omega

/-- the last of the unlike ones is alike the last one taken -/
theorem uq_last {l : List Pr} (hs : Srt l) : ∀ k y, l[k]? = some y → ∃ z, (uq (l.take (k + 1))).getLast? = some z ∧ z.1 = y.1 := by
  intro k
  induction k with
  | zero =>
    intro y hy
    rw [uq_step hy]
    refine ⟨y, ?_, rfl⟩
    simp [uq, ustep]
  | succ k ih =>
    intro y hy
    have hk : k + 1 < l.length := (List.getElem?_eq_some_iff.1 hy).1
    have hx : l[k]? = some (l[k]'(by omega)) := List.getElem?_eq_getElem _
    obtain ⟨z, hz, hzx⟩ := ih _ hx
    have hxy := SortO.Srt.good hs k _ _ hx hy
    rw [uq_step hy]
    unfold ustep
    rw [hz]
    by_cases h : z.1 < y.1
    · simp only [if_pos h]
      exact ⟨y, by simp, rfl⟩
    · simp only [if_neg h]
      exact ⟨z, hz, by omega⟩

theorem last_at {l : List Pr} {z : Pr} (h : l.getLast? = some z) : ∃ n, l.length = n + 1 ∧ l[n]? = some z := by
  rcases List.eq_nil_or_concat l with rfl | ⟨a, y, rfl⟩
  · simp at h
  · simp only [List.concat_eq_append, List.getLast?_append, List.getLast?_singleton] at h
    refine ⟨a.length, by simp, ?_⟩
    simp at h ⊢
    exact h

set_option maxRecDepth 100000 in
set_option maxHeartbeats 4000000 in
theorem unique_any (l : List Pr) (v : Value) (w : World) (hl : l.length ≤ 1000) (hv : Sl w v l) :
    Calls Try.prog 20 #[v, lessV] w fun e w' => ∃ u, e = .returned u ∧ Fr Nil w w' ∧ Sl w' u (uq l) := by
  unfold lessV
  rcases hv with ⟨rfl, rfl⟩ | ⟨g, o, cap, rfl, hc, ha, hr⟩
  · go_enter Try.func20, Try.ntmps20
    go_wp2_with fail
    refine wp_loop_rounds 1 ?_
    rw [rounds_succ]
    go_wp2
    go_ret
    exact ⟨_, rfl, by (repeat' (with_reducible first | refine Fr.setCell ?_ (fun hlt => absurd hlt (by dsimp only; omega)) _ | refine Fr.alloc ?_ _ | refine Fr.drewN ?_ _ | refine Fr.drew ?_ | exact Fr.refl _ _)), Or.inl ⟨rfl, rfl⟩⟩
  · go_enter Try.func20, Try.ntmps20
    go_wp2_with fail
    go_loopw [5, 11] (fun xo i wr => ∃ (k : Nat), k ≤ l.length ∧ i = .int .i64 k ∧ Own wr w.heap.size xo (uq (l.take k)) ∧ Fr Nil w wr) (fun _ i _ => l.length - (intOf i).toNat)
    case atStart => exact ⟨0, by omega, rfl, World.ownsRow_nil _ _ _ _, by (repeat' (with_reducible first | refine Fr.setCell ?_ (fun hlt => absurd hlt (by dsimp only; omega)) _ | refine Fr.alloc ?_ _ | refine Fr.drewN ?_ _ | refine Fr.drew ?_ | exact Fr.refl _ _))⟩
    case round =>
      obtain ⟨k, hk, rfl, ho, hf⟩ := hrel
      have HO := Lib.hid ho
      have HF := Lib.hid hf
      by_cases hlt : k < l.length
      · obtain ⟨y, hy⟩ : ∃ y, l[k]? = some y := ⟨l[k], List.getElem?_eq_getElem hlt⟩
        obtain ⟨c0, c1⟩ := (hr.fr hf ha id) k y hy
        have HY := Lib.hid (uq_step hy)
        have hql := uq_len l k hk
        have hB := Bk.new wr 24 #[.int .i64 y.1, .int .i64 y.2]
        have HOA := Lib.hid (ho.alloc (.cells #[.int .i64 y.1, .int .i64 y.2] 24))
        have HFA := Lib.hid (hf.alloc (.cells #[.int .i64 y.1, .int .i64 y.2] 24))
        have hsz : w.heap.size ≤ wr.heap.size := hf.size
        generalize uq (l.take k) = so at *
        rcases hz : so.getLast? with _ | z
        · have hnil : so = [] := List.getLast?_eq_none_iff.1 hz
          have HE := Lib.hid (show uq (l.take (k + 1)) = [y] by rw [HY.out, hnil]; rfl)
          subst hnil
          obtain ⟨A, d, rfl⟩ := Sl.shape ho.sl
          clear hy ho hf hz hql HY HO hB
          simp only [List.length_nil] at HOA ⊢
          go_wp2_with fail
          go_quiet (fail)
          go_wp2_with (at_builtin; refine wpList_app rfl (.tmp 29) (.tmp 31) rfl w.heap.size _ _ [] [y] rfl (Own.fr HOA.out (S := Nil) (((Fr.refl Nil _).drewN nq).alloc _) (fun _ _ h => h)) rfl (one_sl' y (by simp)) (by first | (simp; done) | (simp; omega)) (by first | (simp; done) | (simp; omega)) ?_; intro v3 w3 h3 f3 b3 m3; have F3 : Fr Nil w w3 := Fr.then ((HFA.out.drewN nq).alloc _) f3 (fun i hi hlt => by have := (b3 i hi).1; omega))
          go_roundw
          case rel => exact ⟨k + 1, by omega, by go_num, by rw [HE.out]; exact h3, F3⟩
          case measure => simp [intOf]; omega
        · obtain ⟨n, hn, hzn⟩ := last_at hz
          have hcells : ∀ j, j < so.length * 2 → wr.cell? ⟨(u5.ownBlock).getD 0, 0 + j, none⟩ = (SortB.flat so)[j]? := fun j hj => by
            rcases ho.2 with ⟨_, h0⟩ | ⟨g2, cap2, cur, e, _⟩
            · omega
            · subst e
              rw [Nat.zero_add]
              exact World.ownsRow.cellAt ho j hj
          have hrow := Row.of_flat hcells
          rcases ho.2 with ⟨_, h0⟩ | ⟨g2, cap2, cur, rfl, hb2, hg2, hnc, _⟩
          · omega
          have hlt2 : g2 < wr.heap.size := lt_of_block hg2
          obtain ⟨z0, z1⟩ := hrow n z hzn
          simp only [Value.ownBlock, Option.getD_some, Nat.zero_add] at z0 z1
          have zz0 : (wr.alloc (.cells #[.int .i64 y.1, .int .i64 y.2] 24)).cell? ⟨g2, n * 2, none⟩ = some (.int .i64 z.1) := (World.cell?_alloc_lt _ _ _ hlt2).trans z0
          have zz1 : (wr.alloc (.cells #[.int .i64 y.1, .int .i64 y.2] 24)).cell? ⟨g2, n * 2 + 1, none⟩ = some (.int .i64 z.2) := (World.cell?_alloc_lt _ _ _ hlt2).trans z1
          have hlt3 : g2 < (wr.alloc (.cells #[.int .i64 y.1, .int .i64 y.2] 24)).heap.size := by simp; omega
          have LS := Lib.hid (fun W => less_any z y W)
          have HYZ := Lib.hid (show uq (l.take (k + 1)) = if z.1 < y.1 then so ++ [y] else so by rw [HY.out]; unfold ustep; rw [hz])
          rw [hn] at hnc ⊢
          have hn0 : ¬ (n : Int) < 0 := by omega
          have hn1 : (n : Int) < (n : Int) + 1 := by omega
          have hn2 : (0 : Int) ≤ n := by omega
          have hww : (n : Int) + 1 - 1 = n := by omega
          have hwn : wrap64 (n : Int) = n := by unfold wrap64; omega
          have HOB := Lib.hid (show Own (wr.alloc (.cells #[.int .i64 y.1, .int .i64 y.2] 24)) w.heap.size (.slice (some ⟨g2, 0, none⟩) (n + 1) cap2) so by rw [← hn]; exact HOA.out)
          have HL := Lib.hid hn
          obtain ⟨q3, q4⟩ := quiet_c2 (S := Nil) hB id
          have q1 := fun (p : FrW Nil (wr.alloc (.cells #[.int .i64 y.1, .int .i64 y.2] 24))) => (p.fr.cell (p := ⟨g2, n * 2, none⟩) hlt3 id).trans zz0
          have q2 := fun (p : FrW Nil (wr.alloc (.cells #[.int .i64 y.1, .int .i64 y.2] 24))) => (p.fr.cell (p := ⟨g2, n * 2 + 1, none⟩) hlt3 id).trans zz1
          clear hy ho hf hz HO hB hcells hrow hg2 z0 z1 hzn zz0 zz1 hn hlt3 HOA HY
          go_wp2_with fail
          refine wp_region_quiet_fr Nil (by kernel_rfl) (by kernel_rfl) ?_
          iterate 2 (go_big_quiet_step (fail))
          simp only [show decide ((n : Int) < 0) = false from decide_eq_false (Int.not_lt.2 (Int.natCast_nonneg n))]
          repeat (go_big_quiet_step (first
            | (go_at_call 11; with_reducible exact quiet_call (LS.out _))))
          refine wpQuiet_nil ?_
          intro w2 hw'
          obtain ⟨⟨wq, hfq⟩, hw''⟩ := hw'
          subst hw''
          have HO2 := Lib.hid (Own.fr HOB.out hfq (fun _ _ h => h))
          have HF2 := Lib.hid (HFA.out.trans hfq)
          have hsz2 : w.heap.size ≤ w2.heap.size := HF2.out.size
          have y0 := q3 ⟨w2, hfq⟩
          have y1 := q4 ⟨w2, hfq⟩
          dsimp only at y0 y1
          clear q1 q2 q3 q4 hfq c0 c1
          by_cases hzy : z.1 < y.1
          · have HE := Lib.hid (show uq (l.take (k + 1)) = so ++ [y] by rw [HYZ.out, if_pos hzy])
            go_wp2_with (at_builtin; refine wpList_app rfl (.tmp 29) (.tmp 31) rfl w.heap.size _ _ so [y] rfl (show Own _ w.heap.size _ so from HO2.out.alloc _) rfl (one_sl' y rfl) (by first | (simp; done) | (simp; omega)) (by first | (simp; done) | (simp; omega)) ?_; intro v3 w3 h3 f3 b3 m3; have F3 : Fr Nil w w3 := Fr.then (HF2.out.alloc _) f3 (fun i hi hlt => by have := (b3 i hi).1; omega))
            go_roundw
            case rel => exact ⟨k + 1, by omega, by go_num, by rw [HE.out]; exact h3, F3⟩
            case measure => simp [intOf]; omega
          · have HE := Lib.hid (show uq (l.take (k + 1)) = so by rw [HYZ.out, if_neg hzy])
            go_wp2_with fail
            go_roundw
            case rel => exact ⟨k + 1, by omega, by go_num, by rw [HE.out]; exact HO2.out, HF2.out⟩
            case measure => simp [intOf]; omega
      · obtain rfl : k = l.length := by omega
        have HE := Lib.hid (show Sl wr u5 (uq l) by have h := ho.sl; rw [List.take_length] at h; exact h)
        clear ho hf HO
        go_wp2_with fail
        go_ret
        exact ⟨_, rfl, HF.out, HE.out⟩
end Go.Proofs.Ythkklhephacpeaa.SortQ
