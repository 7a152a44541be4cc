/- Chapter 7: the walk of by (elements put in one by one). -/
import Derived.Test.YtokgeegbeagblaaSortI
namespace Go.Proofs.Ytokgeegbeagblaa.SortJ
open Go.RowKit Base SortA SortB SortC SortD SortE SortG SortI Quiet
set_option linter.unusedVariables false
set_option linter.unusedSimpArgs false

/-- a pair is stored -/
def st (w : World) (g i : Nat) (p : Pr) : World := (w.setCell ⟨g, i * 2, none⟩ (.int .i64 p.1)).setCell ⟨g, i * 2 + 1, none⟩ (.int .i64 p.2)

theorem Row.st {w : World} {g i : Nat} {l : List Pr} (h : Row w g 0 l) (hi : i < l.length) (p : Pr) : Row (SortJ.st w g i p) g 0 (l.set i p) := by
  intro j q hq
  have hj : j < l.length := by have := (List.getElem?_eq_some_iff.1 hq).1; rw [List.length_set] at this; exact this
  obtain ⟨h0, h1⟩ := h j _ (List.getElem?_eq_getElem hj)
  rw [Nat.zero_add] at *
  obtain ⟨x0, e0⟩ : ∃ x, (w.setCell ⟨g, i * 2, none⟩ (.int .i64 p.1)).cell? ⟨g, j * 2, none⟩ = some x := by rw [cell_set w g _ _ _ _ h0]; split <;> exact ⟨_, by first | rfl | exact h0⟩
  obtain ⟨x1, e1⟩ : ∃ x, (w.setCell ⟨g, i * 2, none⟩ (.int .i64 p.1)).cell? ⟨g, j * 2 + 1, none⟩ = some x := by rw [cell_set w g _ _ _ _ h1]; split <;> exact ⟨_, by first | rfl | exact h1⟩
  unfold SortJ.st
  rw [cell_set _ g _ _ _ _ e0, cell_set _ g _ _ _ _ e1, cell_set w g _ _ _ _ h0, cell_set w g _ _ _ _ h1]
  rw [List.getElem?_set] at hq
  by_cases hij : i = j
  · subst hij
    rw [if_pos rfl, if_pos hj] at hq
    cases hq
    rw [if_neg (by omega), if_pos rfl, if_pos rfl]
    exact ⟨rfl, rfl⟩
  · rw [if_neg hij, List.getElem?_eq_getElem hj] at hq
    cases hq
    rw [if_neg (by omega), if_neg (by omega), if_neg (by omega), if_neg (by omega)]
    exact ⟨h0, h1⟩

theorem Mine.st {w0 w : World} {g i : Nat} {l : List Pr} (h : Mine w0 g l w) (hi : i < l.length) (p : Pr) : Mine w0 g (l.set i p) (SortJ.st w g i p) := by
  refine ⟨Row.st h.row hi p, fun j => ?_, h.new, ?_, ?_⟩
  · unfold SortJ.st; rw [World.frozen?_setCell, World.frozen?_setCell]; exact h.froz j
  · unfold SortJ.st; simpa [World.setCell] using h.lt
  · exact (h.fr.setCell (fun hlt => absurd hlt (by have := h.new; dsimp only; omega)) _).setCell (fun hlt => absurd hlt (by have := h.new; dsimp only; omega)) _

theorem swap1 (A C : List Pr) (x y : Pr) : ((A ++ y :: x :: C).set (A.length + 1) y).set A.length x = A ++ x :: y :: C := by
  induction A with
  | nil => rfl
  | cons a A ih => simp
theorem swap2 (A C : List Pr) (x y : Pr) : ((A ++ y :: x :: C).set A.length x).set (A.length + 1) y = A ++ x :: y :: C := by
  induction A with
  | nil => rfl
  | cons a A ih => simp

theorem Mine.of_own {w0 w : World} {u : Value} {l : List Pr} (h : Own w w0.heap.size u l) (hf : Fr Nil w0 w) (hn : u ≠ .slice none 0 0) : ∃ g cap, u = .slice (some ⟨g, 0, none⟩) l.length cap ∧ l.length ≤ cap ∧ Mine w0 g l w := by
  rcases h.2 with ⟨rfl, _⟩ | ⟨g, cap, cur, rfl, hb, hg, hnc, hm, hcs, ht⟩
  · exact absurd rfl hn
  · refine ⟨g, cap, rfl, hnc, ?_, fun i => ?_, hb, lt_of_block hg, hf⟩
    · exact Row.of_flat fun j hj => by rw [Nat.zero_add]; exact h.cellAt j hj
    · exact h.frozenAt i

theorem Mine.sl {w0 w : World} {g cap : Nat} {l : List Pr} (h : Mine w0 g l w) (hc : l.length ≤ cap) (n : Nat) (hn : n = l.length) : Sl w (.slice (some ⟨g, 0, none⟩) n cap) l :=
  Or.inr ⟨g, 0, cap, by rw [hn], hc, h.lt, h.row⟩

theorem Mine.at_ {w0 w : World} {g : Nat} {l : List Pr} (h : Mine w0 g l w) {i : Nat} {p : Pr} (hp : l[i]? = some p) : w.cell? ⟨g, i * 2, none⟩ = some (.int .i64 p.1) ∧ w.cell? ⟨g, i * 2 + 1, none⟩ = some (.int .i64 p.2) := by
  have := h.row i p hp
  rw [Nat.zero_add] at this
  exact this

/-- where an element stands that goes down: A is ahead of it, B (all greater) behind it -/
def Going (l : List Pr) (j : Nat) (x : Pr) (k : Nat) (L : List Pr) : Prop :=
  ∃ A B, A.length = k ∧ isort (l.take j) = A ++ B ∧ (∀ y ∈ B, x.1 < y.1) ∧ L = A ++ x :: (B ++ l.drop (j + 1))

theorem Going.start {l : List Pr} {j : Nat} {x : Pr} (hx : l[j]? = some x) : Going l j x j (isort (l.take j) ++ l.drop j) := by
  obtain ⟨hj, rfl⟩ := List.getElem?_eq_some_iff.1 hx
  exact ⟨isort (l.take j), [], by rw [isort_len, List.length_take]; omega, by simp, by simp, by rw [List.drop_eq_getElem_cons hj]; simp⟩

theorem Going.step {l : List Pr} {j k : Nat} {x : Pr} {L : List Pr} (h : Going l j x (k + 1) L) : ∃ y A C, A.length = k ∧ L = A ++ y :: x :: C ∧ (x.1 < y.1 → Going l j x k (A ++ x :: y :: C)) ∧ (¬ x.1 < y.1 → L = isort (l.take j ++ [x]) ++ l.drop (j + 1)) := by
  obtain ⟨A, B, hA, hi, hB, rfl⟩ := h
  rcases List.eq_nil_or_concat A with rfl | ⟨A', y, rfl⟩
  · simp at hA
  · simp only [List.concat_eq_append] at *
    have hA' : A'.length = k := by simp at hA; exact hA
    refine ⟨y, A', B ++ l.drop (j + 1), hA', by simp, fun hxy => ⟨A', y :: B, hA', by rw [hi]; simp, ?_, by simp⟩, fun hxy => ?_⟩
    · intro z hz
      rcases List.mem_cons.1 hz with rfl | hz
      · exact hxy
      · exact hB z hz
    · have hs := isort_srt (l.take j)
      have := ins_of (pre := isort (l.take j)) (x := x) (k := k + 1) hs (by rw [hi]; simp; omega) (fun i z hki hz => ?_) (Or.inr ⟨y, ?_, by omega⟩)
      · have e : isort (l.take j ++ [x]) = ins (isort (l.take j)) x := by unfold isort; rw [List.foldl_append]; rfl
        rw [e, ← this, hi]
        have h1 : (A' ++ [y] ++ B).take (k + 1) = A' ++ [y] := List.take_left' (by simp; exact hA')
        have h2 : (A' ++ [y] ++ B).drop (k + 1) = B := List.drop_left' (by simp; exact hA')
        rw [h1, h2]
        simp
      · rw [hi, List.getElem?_append_right (by simp; omega)] at hz
        exact hB z (List.mem_of_getElem? hz)
      · rw [hi]
        simp [← hA']

theorem Going.zero {l : List Pr} {j : Nat} {x : Pr} {L : List Pr} (h : Going l j x 0 L) : L = isort (l.take j ++ [x]) ++ l.drop (j + 1) := by
  obtain ⟨A, B, hA, hi, hB, rfl⟩ := h
  have hA' : A = [] := List.length_eq_zero_iff.1 hA
  subst hA'
  have := ins_of (pre := isort (l.take j)) (x := x) (k := 0) (isort_srt _) (by omega) (fun i z _ hz => hB z (by rw [hi] at hz; exact List.mem_of_getElem? (by simpa using hz))) (Or.inl rfl)
  have e : isort (l.take j ++ [x]) = ins (isort (l.take j)) x := by unfold isort; rw [List.foldl_append]; rfl
  rw [e, ← this, hi]
  simp

theorem Going.len {l : List Pr} {j k : Nat} {x : Pr} {L : List Pr} (h : Going l j x k L) (hj : j < l.length) : L.length = l.length := by
  obtain ⟨A, B, hA, hi, hB, rfl⟩ := h
  have := congrArg List.length hi
  rw [isort_len, List.length_take] at this
  simp at this ⊢
  omega

theorem by_none (w : World) : Calls Try.prog 30 #[.slice none 0 0, lessV] w fun e w' => e = .returned (.slice none 0 0) ∧ Fr Nil w w' := by
  unfold lessV
  have K := Lib.hid (fun W => clone_none W)
  go_enter Try.func30, Try.ntmps30
  go_wp2_with fail
  refine (K.out _).mono ?_
  rintro e w1 ⟨rfl, hf1⟩
  go_wp2_with fail
  refine wp_loop_rounds 1 ?_
  rw [rounds_succ]
  go_wp2
  go_ret
  exact ⟨rfl, hf1⟩

set_option maxRecDepth 100000 in
set_option maxHeartbeats 4000000 in
theorem by_some (l : List Pr) (g0 o0 cap0 : Nat) (w : World) (hl : l.length ≤ 1000) (hv : Sl w (.slice (some ⟨g0, o0, none⟩) l.length cap0) l) :
    Calls Try.prog 30 #[.slice (some ⟨g0, o0, none⟩) l.length cap0, lessV] w fun e w' => ∃ u, e = .returned u ∧ Fr Nil w w' ∧ Sl w' u (isort l) := by
  unfold lessV
  have K := Lib.hid (clone_some l g0 o0 cap0 w (by omega) hv)
  clear hv
  go_enter Try.func30, Try.ntmps30
  go_wp2_with fail
  refine K.out.mono ?_
  rintro e w1 ⟨u, rfl, hf1, ho, hn⟩
  obtain ⟨g, cap, rfl, hc, hm⟩ := Mine.of_own ho hf1 hn
  clear ho hn hf1 K
  go_wp2_with fail
  go_loopw [12] (fun i wr => ∃ j : Nat, j ≤ l.length ∧ i = .int .i64 j ∧ Mine w g (isort (l.take j) ++ l.drop j) wr) (fun i _ => l.length - (intOf i).toNat)
  case atStart => exact ⟨0, by omega, rfl, by simpa [isort] using hm⟩
  case round =>
    obtain ⟨j, hj, rfl, hmr⟩ := hrel
    by_cases hlt : j < l.length
    · obtain ⟨x, hx⟩ : ∃ x, l[j]? = some x := ⟨l[j], List.getElem?_eq_getElem hlt⟩
      have HG := Lib.hid (Going.start hx)
      have HX := Lib.hid hx
      have HM := Lib.hid hmr
      clear hm hmr hx
      go_wp2_with fail
      go_loopw [7] (fun i wk => ∃ (k : Nat) (L : List Pr), k ≤ j ∧ i = .int .i64 k ∧ Going l j x k L ∧ Mine w g L wk) (fun i _ => (intOf i).toNat)
      case atStart => exact ⟨j, _, Nat.le_refl _, rfl, HG.out, HM.out⟩
      case round =>
        obtain ⟨k, L, hk, rfl, hg, hmk⟩ := hrel
        have e1 : isort (l.take (j + 1)) = isort (l.take j ++ [x]) := by
          obtain ⟨h1, h2⟩ := List.getElem?_eq_some_iff.1 HX.out
          rw [List.take_succ_eq_append_getElem h1, h2]
        have E1 := Lib.hid e1
        clear e1
        rcases Nat.eq_zero_or_pos k with rfl | hpos
        · have HL := Lib.hid (show L = isort (l.take (j + 1)) ++ l.drop (j + 1) by rw [E1.out]; exact hg.zero)
          have HK := Lib.hid hmk
          clear hg hmk
          go_wp2_with fail
          go_quiet (fail)
          go_wp2_with fail
          go_roundw
          case rel => exact ⟨j + 1, by omega, by go_num, by rw [← HL.out]; exact HK.out.drewN _⟩
          case measure => simp [intOf]; omega
        · obtain ⟨k, rfl⟩ : ∃ k', k = k' + 1 := ⟨k - 1, by omega⟩
          have hlen := hg.len hlt
          obtain ⟨y, A, C, hA, rfl, hyes, hno⟩ := hg.step
          have ly : (A ++ y :: x :: C)[k]? = some y := by rw [← hA]; simp
          have lx : (A ++ y :: x :: C)[k + 1]? = some x := by rw [← hA]; simp
          obtain ⟨cy0, cy1⟩ := Mine.at_ hmk ly
          obtain ⟨cx0, cx1⟩ := Mine.at_ hmk lx
          have hgl := hmk.lt
          have HY := Lib.hid hyes
          have HN := Lib.hid hno
          have HK := Lib.hid hmk
          have HL := Lib.hid hlen
          have q1 := fun (p : FrW Nil wr) => (p.fr.cell (p := ⟨g, k * 2, none⟩) hgl id).trans cy0
          have q2 := fun (p : FrW Nil wr) => (p.fr.cell (p := ⟨g, k * 2 + 1, none⟩) hgl id).trans cy1
          have q3 := fun (p : FrW Nil wr) => (p.fr.cell (p := ⟨g, (k + 1) * 2, none⟩) hgl id).trans cx0
          have q4 := fun (p : FrW Nil wr) => (p.fr.cell (p := ⟨g, (k + 1) * 2 + 1, none⟩) hgl id).trans cx1
          have LS := Lib.hid (fun W => less_any x y W)
          have b1 : (k : Int) + 1 < l.length := by omega
          have b2 : (k : Int) < l.length := by omega
          have b0 : (0 : Int) ≤ k := by omega
          clear hyes hno hmk hlen hg ly lx
          go_wp2_with fail
          refine wp_region_quiet_fr Nil (by kernel_rfl) (by kernel_rfl) ?_
          repeat (go_big_quiet_step (first
            | (go_at_call 14; with_reducible exact quiet_call (LS.out _))))
          refine wpQuiet_nil ?_
          intro w2 hw'
          obtain ⟨⟨wq, hfq⟩, hw''⟩ := hw'
          subst hw''
          have hm2 := HK.out.keep hfq
          clear q1 q2 q3 q4 cy0 cy1 cx0 cx1 hgl HK hfq LS
          by_cases hxy : x.1 < y.1
          · have ly : (A ++ y :: x :: C)[k]? = some y := by rw [← hA]; simp
            have lx : (A ++ y :: x :: C)[k + 1]? = some x := by rw [← hA]; simp
            obtain ⟨cy0, cy1⟩ := Mine.at_ hm2 ly
            obtain ⟨cx0, cx1⟩ := Mine.at_ hm2 lx
            have fy0 := hm2.froz (k * 2)
            have fy1 := hm2.froz (k * 2 + 1)
            have fx0 := hm2.froz ((k + 1) * 2)
            have fx1 := hm2.froz ((k + 1) * 2 + 1)
            have hgl := hm2.lt
            have HK := Lib.hid hm2
            have HXY := Lib.hid (HY.out hxy)
            clear hm2 ly lx
            go_wp2_with fail
            go_region
            have hM : Mine w g (A ++ x :: y :: C) ((st (st w2 g (k + 1) y) g k x).drew) := by
              have h1 := Mine.st (Mine.st HK.out (i := k + 1) (by simp; omega) y) (i := k) (by simp; omega) x
              have e := swap1 A C x y
              rw [hA] at e
              rw [e] at h1
              exact h1.drew
            unfold st at hM
            clear cy0 cy1 cx0 cx1 fy0 fy1 fx0 fx1 hgl
            generalize (World.drew _) = w3 at hM ⊢
            have HM3 := Lib.hid hM
            clear hM
            go_wp2_with fail
            go_roundw
            case rel => exact ⟨k, _, by omega, by go_num, HXY.out, HM3.out⟩
            case measure => simp [intOf]
          · have HE := Lib.hid (HN.out (by omega))
            have HK := Lib.hid hm2
            clear hm2
            go_wp2_with fail
            go_roundw
            case rel => exact ⟨j + 1, by omega, by go_num, by rw [E1.out, ← HE.out]; exact HK.out⟩
            case measure => simp [intOf]; omega
    · obtain rfl : j = l.length := by omega
      have HM := Lib.hid hmr
      clear hm hmr
      go_wp2_with fail
      go_ret
      exact ⟨_, rfl, HM.out.fr, by have h := HM.out; simp at h; exact Mine.sl h (by rw [isort_len]; exact hc) _ (by rw [isort_len])⟩
end Go.Proofs.Ytokgeegbeagblaa.SortJ
