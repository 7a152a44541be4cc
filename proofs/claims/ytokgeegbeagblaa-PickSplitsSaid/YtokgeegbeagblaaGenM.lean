/- Chapter 8: the walk of Bag; a list that is parted. -/
import Derived.Test.YtokgeegbeagblaaGenL
import Derived.Laws.StructEq
namespace Go.Proofs.Ytokgeegbeagblaa.GenM
open Go.RowKit Base SortA SortB SortC SortD SortE SortG SortI SortK PickA PickC GenH Quiet
set_option linter.unusedVariables false
set_option linter.unusedSimpArgs false

/-- what lies ahead of place k of a list in order, and behind it -/
theorem part_lo {l : List Pr} {k : Nat} {x : Pr} (hx : (isort l)[k]? = some x) : (isort l).take k = isort (lo x.1 l) ++ (mi x.1 l).take (k - (lo x.1 l).length) := by
  obtain ⟨h1, h2⟩ := cut_at hx rfl
  have h3 := (List.getElem?_eq_some_iff.1 h2).1
  rw [sort_cut x.1 l, List.append_assoc, List.take_append, isort_len, List.take_of_length_le (by rw [isort_len]; exact h1)]
  congr 1
  rw [List.take_append_of_le_length (by omega)]
theorem part_hi {l : List Pr} {k : Nat} {x : Pr} (hx : (isort l)[k]? = some x) : (isort l).drop (k + 1) = (mi x.1 l).drop (k - (lo x.1 l).length + 1) ++ isort (hi x.1 l) := by
  obtain ⟨h1, h2⟩ := cut_at hx rfl
  have h3 := (List.getElem?_eq_some_iff.1 h2).1
  rw [sort_cut x.1 l, List.append_assoc, List.drop_append, isort_len, List.drop_of_length_le (by rw [isort_len]; omega), List.nil_append, show k + 1 - (lo x.1 l).length = k - (lo x.1 l).length + 1 by omega, List.drop_append_of_le_length (by omega)]
theorem perm_lo {l : List Pr} {k : Nat} {x : Pr} (hx : (isort l)[k]? = some x) : (lo x.1 l ++ (mi x.1 l).take (k - (lo x.1 l).length)).Perm ((isort l).take k) := by
  rw [part_lo hx]
  exact (isort_perm _).symm.append_right _
theorem perm_hi {l : List Pr} {k : Nat} {x : Pr} (hx : (isort l)[k]? = some x) : (hi x.1 l ++ (mi x.1 l).drop (k - (lo x.1 l).length + 1)).Perm ((isort l).drop (k + 1)) := by
  rw [part_hi hx]
  exact List.perm_append_comm.trans ((isort_perm _).symm.append_left _)
theorem least {l : List Pr} {k : Nat} {x : Pr} (hx : (isort l)[k]? = some x) : isort (lo x.1 l ++ (mi x.1 l).take (k - (lo x.1 l).length)) = (isort l).take k := by
  have e := part_lo hx
  have e1 := isort_stab (lo x.1 l)
  refine (isort_stab _).unique ⟨?_, fun n => ?_⟩
  · exact (isort_srt l).sublist (List.take_sublist _ _)
  · rw [e, at_append, at_append, e1.2]

/-- two pairs held against one another -/
theorem eq_run (a b : Pr) (W : World) : (binOp .eql 28 (.agg #[.int .i64 a.1, .int .i64 a.2]) (.agg #[.int .i64 b.1, .int .i64 b.2])).run Try.prog W = .ok (.bool (decide (a = b))) W := by
  obtain ⟨a1, a2⟩ := a
  obtain ⟨b1, b2⟩ := b
  have e : decide (((a1, a2) : Pr) = (b1, b2)) = (a1 == b1 && a2 == b2) := by
    rw [Bool.eq_iff_iff]; simp
  rw [e]
  by_cases h1 : a1 = b1 <;> by_cases h2 : a2 = b2 <;> simp [go_sem, h1, h2]

theorem count_step [DecidableEq Pr] {l : List Pr} {k : Nat} {x : Pr} (y : Pr) (h : l[k]? = some x) : (l.take (k + 1)).count y = (l.take k).count y + if x = y then 1 else 0 := by
  obtain ⟨hk, rfl⟩ := List.getElem?_eq_some_iff.1 h
  rw [List.take_succ_eq_append_getElem hk, List.count_append, List.count_singleton]
  simp

set_option maxRecDepth 100000 in
set_option maxHeartbeats 4000000 in
theorem bag_any (a b : List Pr) (va vb : Value) (w : World) (hl : a.length ≤ 200) (hp : a.Perm b) (hva : Sl w va a) (hvb : Sl w vb b) :
    Calls Try.prog 20 #[va, vb] w fun e w' => e = .returned (.bool true) ∧ Fr Nil w w' := by
  have hlen := hp.length_eq
  rcases hva with ⟨rfl, rfl⟩ | ⟨ga, oa, ca, rfl, hca, hga, hra⟩
  · obtain ⟨B, d, rfl⟩ := Sl.shape hvb
    rw [← hlen]
    clear hvb hlen
    go_enter Try.func20, Try.ntmps20
    go_wp2_with fail
    refine wp_loop_rounds 1 ?_
    rw [rounds_succ]
    go_wp2
    go_ret
    exact ⟨rfl, Fr.refl _ _⟩
  rcases hvb with ⟨rfl, rfl⟩ | ⟨gb, ob, cb, rfl, hcb, hgb, hrb⟩
  · have e : a = [] := List.eq_nil_of_length_eq_zero hlen
    subst e
    clear hlen
    go_enter Try.func20, Try.ntmps20
    go_wp2_with fail
    refine wp_loop_rounds 1 ?_
    rw [rounds_succ]
    go_wp2
    go_ret
    exact ⟨rfl, Fr.refl _ _⟩
  rw [← hlen]
  have HLEN := Lib.hid hlen
  have HP := Lib.hid hp
  have HRA := Lib.hid (fun W (h : Fr Nil w W) => hra.fr h hga id)
  have HRB := Lib.hid (fun W (h : Fr Nil w W) => hrb.fr h hgb id)
  clear hp hlen hca hcb hra hrb hga hgb
  go_enter Try.func20, Try.ntmps20
  go_wp2_with fail
  go_loopw [5] (fun i wr => ∃ j : Nat, j ≤ a.length ∧ i = .int .i64 j ∧ Fr Nil w wr) (fun i _ => a.length - (intOf i).toNat)
  case atStart => exact ⟨0, Nat.zero_le _, rfl, Fr.refl _ _⟩
  case round =>
    obtain ⟨j, hj, rfl, hf⟩ := hrel
    by_cases hlt : j < a.length
    · obtain ⟨x, hx⟩ : ∃ x, a[j]? = some x := ⟨a[j], List.getElem?_eq_getElem hlt⟩
      have HX := Lib.hid hx
      have HF := Lib.hid hf
      have j0 : (0 : Int) ≤ j := Int.natCast_nonneg _
      have j1 : (j : Int) < a.length := by omega
      clear hx hf
      go_wp2_with fail
      go_loopw [6, 7] (fun nv i wk => ∃ k : Nat, k ≤ a.length ∧ i = .int .i64 k ∧ nv = .int .i64 (((a.take k).count x : Int) - ((b.take k).count x : Int)) ∧ Fr Nil w wk) (fun _ i _ => a.length - (intOf i).toNat)
      case atStart => exact ⟨0, Nat.zero_le _, rfl, by simp, HF.out⟩
      case round =>
        obtain ⟨k, hk, rfl, rfl, hf⟩ := hrel
        have HF2 := Lib.hid hf
        by_cases hlt2 : k < a.length
        · obtain ⟨y, hy⟩ : ∃ y, a[k]? = some y := ⟨a[k], List.getElem?_eq_getElem hlt2⟩
          obtain ⟨z, hz⟩ : ∃ z, b[k]? = some z := ⟨b[k]'(by rw [← HLEN.out]; exact hlt2), List.getElem?_eq_getElem _⟩
          have HCY := Lib.hid (count_step x hy)
          have HCZ := Lib.hid (count_step x hz)
          have h1 : (a.take k).count x ≤ k := Nat.le_trans List.count_le_length (by rw [List.length_take]; omega)
          have h2 : (b.take k).count x ≤ k := Nat.le_trans List.count_le_length (by rw [List.length_take]; omega)
          obtain ⟨nn, hnn⟩ : ∃ nn : Int, ((a.take k).count x : Int) - ((b.take k).count x : Int) = nn := ⟨_, rfl⟩
          have HNN := Lib.hid hnn
          have b0 : -200 ≤ nn := by omega
          have b1 : nn ≤ 200 := by omega
          have k0 : (0 : Int) ≤ k := Int.natCast_nonneg _
          have k1 : (k : Int) < a.length := by omega
          obtain ⟨y0, y1⟩ := HRA.out wr hf k y hy
          obtain ⟨z0, z1⟩ := HRB.out wr hf k z hz
          obtain ⟨x0, x1⟩ := HRA.out wr hf j x HX.out
          have e1 := fun W => eq_run y x W
          have e2 := fun W => eq_run z x W
          rw [hnn]
          clear hnn hy hz h1 h2 hf
          by_cases c1 : y = x
          · simp only [decide_eq_true c1] at e1
            rw [if_pos c1] at HCY
            by_cases c2 : z = x
            · simp only [decide_eq_true c2] at e2
              rw [if_pos c2] at HCZ
              clear c1 c2
              go_wp2_with fail
              go_quiet (fail)
              obtain ⟨nq1, hnq1⟩ : ∃ n, n = nq := ⟨nq, rfl⟩
              subst hnq1
              go_wp2_with fail
              go_quiet (fail)
              go_wp2_with fail
              go_roundw
              case rel => exact ⟨k + 1, by omega, by go_num, by have h1 := HCY.out; have h2 := HCZ.out; have h3 := HNN.out; simp only [Value.int.injEq, true_and]; omega, HF2.out.drewN _⟩
              case measure => simp [intOf]; omega
            · simp only [decide_eq_false c2] at e2
              rw [if_neg c2] at HCZ
              clear c1 c2
              go_wp2_with fail
              go_quiet (fail)
              obtain ⟨nq1, hnq1⟩ : ∃ n, n = nq := ⟨nq, rfl⟩
              subst hnq1
              go_wp2_with fail
              go_quiet (fail)
              go_wp2_with fail
              go_roundw
              case rel => exact ⟨k + 1, by omega, by go_num, by have h1 := HCY.out; have h2 := HCZ.out; have h3 := HNN.out; simp only [Value.int.injEq, true_and]; omega, HF2.out.drewN _⟩
              case measure => simp [intOf]; omega
          · simp only [decide_eq_false c1] at e1
            rw [if_neg c1] at HCY
            by_cases c2 : z = x
            · simp only [decide_eq_true c2] at e2
              rw [if_pos c2] at HCZ
              clear c1 c2
              go_wp2_with fail
              go_quiet (fail)
              obtain ⟨nq1, hnq1⟩ : ∃ n, n = nq := ⟨nq, rfl⟩
              subst hnq1
              go_wp2_with fail
              go_quiet (fail)
              go_wp2_with fail
              go_roundw
              case rel => exact ⟨k + 1, by omega, by go_num, by have h1 := HCY.out; have h2 := HCZ.out; have h3 := HNN.out; simp only [Value.int.injEq, true_and]; omega, HF2.out.drewN _⟩
              case measure => simp [intOf]; omega
            · simp only [decide_eq_false c2] at e2
              rw [if_neg c2] at HCZ
              clear c1 c2
              go_wp2_with fail
              go_quiet (fail)
              obtain ⟨nq1, hnq1⟩ : ∃ n, n = nq := ⟨nq, rfl⟩
              subst hnq1
              go_wp2_with fail
              go_quiet (fail)
              go_wp2_with fail
              go_roundw
              case rel => exact ⟨k + 1, by omega, by go_num, by have h1 := HCY.out; have h2 := HCZ.out; have h3 := HNN.out; simp only [Value.int.injEq, true_and]; omega, HF2.out.drewN _⟩
              case measure => simp [intOf]; omega
        · obtain rfl : k = a.length := by omega
          have hz : (((a.take a.length).count x : Nat) : Int) - ((b.take a.length).count x : Nat) = 0 := by
            rw [List.take_length, HLEN.out, List.take_length, HP.out.count_eq]
            omega
          rw [hz]
          clear hz hf
          go_wp2_with fail
          go_roundw
          case rel => exact ⟨j + 1, by omega, by go_num, HF2.out⟩
          case measure => simp [intOf]; omega
    · obtain rfl : j = a.length := by omega
      have HF := Lib.hid hf
      clear hf
      go_wp2_with fail
      go_ret
      exact ⟨rfl, HF.out⟩
end Go.Proofs.Ytokgeegbeagblaa.GenM
