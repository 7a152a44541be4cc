/- Chapter 7: the walks of Same (of two lists that are one), and of both Is. -/
import Derived.Test.YthkklhephacpeaaSortM
namespace Go.Proofs.Ythkklhephacpeaa.SortO
open Go.RowKit Base SortA SortB SortC SortD SortE SortF SortG SortH SortI SortJ SortK SortL Quiet
set_option linter.unusedVariables false
set_option linter.unusedSimpArgs false

theorem same_any (l : List Pr) (va vb : Value) (w : World) (hl : l.length ≤ 100000) (hva : Sl w va l) (hvb : Sl w vb l) :
    Calls Try.prog 17 #[va, vb] w fun e w' => e = .returned (.bool true) ∧ Fr Nil w w' := by
  by_cases hne : l = []
  · subst hne
    obtain ⟨A, c, rfl⟩ := Sl.shape hva
    obtain ⟨B, d, rfl⟩ := Sl.shape hvb
    simp only [List.length_nil]
    clear hva hvb
    go_enter Try.func17, Try.ntmps17
    go_wp2_with fail
    refine wp_loop_rounds 1 ?_
    rw [rounds_succ]
    go_wp2
    go_ret
    exact ⟨rfl, by (repeat' (with_reducible first | refine Fr.setCell ?_ (fun hlt => absurd hlt (by dsimp only; omega)) _ | refine Fr.alloc ?_ _ | refine Fr.drewN ?_ _ | refine Fr.drew ?_ | exact Fr.refl _ _))⟩
  · rcases hva with ⟨_, h⟩ | ⟨g, o, cap, rfl, hc, ha, hr⟩
    · exact absurd h hne
    rcases hvb with ⟨_, h⟩ | ⟨g', o', cap', rfl, hc', ha', hr'⟩
    · exact absurd h hne
    clear hne
    go_enter Try.func17, Try.ntmps17
    go_wp2_with fail
    go_loopw [5] (fun i wr => ∃ k : Nat, k ≤ l.length ∧ i = .int .i64 k ∧ Fr Nil w wr) (fun i _ => l.length - (intOf i).toNat)
    case atStart => exact ⟨0, by omega, rfl, by (repeat' (with_reducible first | refine Fr.setCell ?_ (fun hlt => absurd hlt (by dsimp only; omega)) _ | refine Fr.alloc ?_ _ | refine Fr.drewN ?_ _ | refine Fr.drew ?_ | exact Fr.refl _ _))⟩
    case round =>
      obtain ⟨k, hk, rfl, hf⟩ := hrel
      by_cases hlt : k < l.length
      · obtain ⟨p, hp⟩ : ∃ p, l[k]? = some p := ⟨l[k], List.getElem?_eq_getElem hlt⟩
        obtain ⟨c0, c1⟩ := (hr.fr hf ha id) k p hp
        obtain ⟨d0, d1⟩ := (hr'.fr hf ha' id) k p hp
        have hk0 : (0 : Int) ≤ k := by omega
        have hk1 : (k : Int) < l.length := by omega
        have HF := Lib.hid hf
        clear hf hp
        go_wp2_with fail
        go_quiet (fail)
        go_wp2_with fail
        go_roundw
        case rel => exact ⟨k + 1, by omega, by go_num, HF.out.drewN _⟩
        case measure => simp [intOf]; omega
      · obtain rfl : k = l.length := by omega
        have HF := Lib.hid hf
        clear hf
        go_wp2_with fail
        go_ret
        exact ⟨rfl, HF.out⟩

/-- every two neighbours stand in order -/
def Good (l : List Pr) : Prop := ∀ (i : Nat) x y, l[i]? = some x → l[i + 1]? = some y → x.1 ≤ y.1

theorem Srt.good {l : List Pr} (h : Srt l) : Good l := fun i x y hx hy => by
  obtain ⟨h1, e1⟩ := List.getElem?_eq_some_iff.1 hx
  obtain ⟨h2, e2⟩ := List.getElem?_eq_some_iff.1 hy
  have := List.pairwise_iff_getElem.1 h i (i + 1) h1 h2 (by omega)
  rw [e1, e2] at this
  exact this

theorem is_any (l : List Pr) (b : Bool) (v : Value) (w : World) (hl : l.length ≤ 100000) (hb : b = true ↔ Good l) (hv : Sl w v l) :
    Calls Try.prog 18 #[v, lessV] w fun e w' => e = .returned (.bool b) ∧ Fr Nil w w' := by
  unfold lessV
  rcases hv with ⟨rfl, rfl⟩ | ⟨g, o, cap, rfl, hc, ha, hr⟩
  · have : b = true := hb.2 (fun i x y hx => by simp at hx)
    subst this
    clear hb
    go_enter Try.func18, Try.ntmps18
    go_wp2_with fail
    refine wp_loop_rounds 1 ?_
    rw [rounds_succ]
    go_wp2
    go_ret
    exact ⟨rfl, by (repeat' (with_reducible first | refine Fr.setCell ?_ (fun hlt => absurd hlt (by dsimp only; omega)) _ | refine Fr.alloc ?_ _ | refine Fr.drewN ?_ _ | refine Fr.drew ?_ | exact Fr.refl _ _))⟩
  · have HB := Lib.hid hb
    clear hb
    go_enter Try.func18, Try.ntmps18
    go_wp2_with fail
    go_loopw [5] (fun i wr => ∃ k : Nat, (k + 1 ≤ l.length ∨ k = 0) ∧ i = .int .i64 (k + 1 : Nat) ∧ (∀ (i : Nat) x y, i < k → l[i]? = some x → l[i + 1]? = some y → x.1 ≤ y.1) ∧ Fr Nil w wr) (fun i _ => l.length + 1 - (intOf i).toNat)
    case atStart => exact ⟨0, Or.inr rfl, rfl, fun i x y h => absurd h (by omega), by (repeat' (with_reducible first | refine Fr.setCell ?_ (fun hlt => absurd hlt (by dsimp only; omega)) _ | refine Fr.alloc ?_ _ | refine Fr.drewN ?_ _ | refine Fr.drew ?_ | exact Fr.refl _ _))⟩
    case round =>
      obtain ⟨k, hk, rfl, hall, hf⟩ := hrel
      have HALL := Lib.hid hall
      have HF := Lib.hid hf
      by_cases hlt : k + 1 < l.length
      · obtain ⟨x, hx⟩ : ∃ x, l[k]? = some x := ⟨l[k], List.getElem?_eq_getElem (by omega)⟩
        obtain ⟨y, hy⟩ : ∃ y, l[k + 1]? = some y := ⟨l[k + 1], List.getElem?_eq_getElem hlt⟩
        have hgl : g < wr.heap.size := Nat.lt_of_lt_of_le ha hf.size
        obtain ⟨c0, c1⟩ := (hr.fr hf ha id) k x hx
        obtain ⟨d0, d1⟩ := (hr.fr hf ha id) (k + 1) y hy
        have q1 := fun (p : FrW Nil wr) => (p.fr.cell (p := ⟨g, o + k * 2, none⟩) hgl id).trans c0
        have q2 := fun (p : FrW Nil wr) => (p.fr.cell (p := ⟨g, o + k * 2 + 1, none⟩) hgl id).trans c1
        have q3 := fun (p : FrW Nil wr) => (p.fr.cell (p := ⟨g, o + (k + 1) * 2, none⟩) hgl id).trans d0
        have q4 := fun (p : FrW Nil wr) => (p.fr.cell (p := ⟨g, o + (k + 1) * 2 + 1, none⟩) hgl id).trans d1
        have LS := Lib.hid (fun W => less_any y x W)
        have HX := Lib.hid hx
        have HY := Lib.hid hy
        have n0 : (0 : Int) ≤ k := by omega
        have n1 : (k : Int) + 1 < l.length := by omega
        have n2 : (k : Int) < l.length := by omega
        clear hx hy hall hf c0 c1 d0 d1 hgl
        go_wp2_with fail
        refine wp_region_quiet_fr Nil (by kernel_rfl) (by kernel_rfl) ?_
        repeat (go_big_quiet_step (first
          | (go_at_call 11; with_reducible exact quiet_call (LS.out _))))
        refine wpQuiet_nil ?_
        intro w2 hw'
        obtain ⟨⟨wq, hfq⟩, hw''⟩ := hw'
        subst hw''
        have F2 := Lib.hid (HF.out.trans hfq)
        clear q1 q2 q3 q4 hfq
        by_cases hxy : y.1 < x.1
        · have hbf : b = false := by
            cases b with
            | false => rfl
            | true => have := HB.out.1 rfl k x y HX.out HY.out; omega
          subst hbf
          go_wp2_with fail
          go_ret
          exact ⟨rfl, F2.out⟩
        · have HXY := Lib.hid hxy
          go_wp2_with fail
          go_roundw
          case rel => exact ⟨k + 1, by omega, by go_num, fun i x' y' hi h1 h2 => by
            rcases Nat.lt_or_ge i k with h | h
            · exact HALL.out i x' y' h h1 h2
            · obtain rfl : i = k := by omega
              rw [HX.out] at h1
              rw [HY.out] at h2
              cases h1
              cases h2
              have := HXY.out
              omega, F2.out⟩
          case measure => simp [intOf]; omega
      · have hbt : b = true := HB.out.2 fun i x y hx hy => hall i x y (by have := (List.getElem?_eq_some_iff.1 hy).1; omega) hx hy
        subst hbt
        have n1 : ¬ (k : Int) + 1 < l.length := by omega
        clear hall hf
        go_wp2_with fail
        go_ret
        exact ⟨rfl, HF.out⟩

theorem is_ref (l : List Pr) (b : Bool) (v : Value) (w : World) (hl : l.length ≤ 100000) (hb : b = true ↔ Good l) (hv : Sl w v l) :
    Calls Try.prog 19 #[v] w fun e w' => e = .returned (.bool b) ∧ Fr Nil w w' := by
  rcases hv with ⟨rfl, rfl⟩ | ⟨g, o, cap, rfl, hc, ha, hr⟩
  · have : b = true := hb.2 (fun i x y hx => by simp at hx)
    subst this
    clear hb
    go_enter Try.func19, Try.ntmps19
    go_wp2_with fail
    refine wp_loop_rounds 1 ?_
    rw [rounds_succ]
    go_wp2
    go_ret
    exact ⟨rfl, by (repeat' (with_reducible first | refine Fr.setCell ?_ (fun hlt => absurd hlt (by dsimp only; omega)) _ | refine Fr.alloc ?_ _ | refine Fr.drewN ?_ _ | refine Fr.drew ?_ | exact Fr.refl _ _))⟩
  · have HB := Lib.hid hb
    clear hb
    go_enter Try.func19, Try.ntmps19
    go_wp2_with fail
    go_loopw [3] (fun i wr => ∃ k : Nat, (k + 1 ≤ l.length ∨ k = 0) ∧ i = .int .i64 k ∧ (∀ (i : Nat) x y, i < k → l[i]? = some x → l[i + 1]? = some y → x.1 ≤ y.1) ∧ Fr Nil w wr) (fun i _ => l.length - (intOf i).toNat)
    case atStart => exact ⟨0, Or.inr rfl, rfl, fun i x y h => absurd h (by omega), by (repeat' (with_reducible first | refine Fr.setCell ?_ (fun hlt => absurd hlt (by dsimp only; omega)) _ | refine Fr.alloc ?_ _ | refine Fr.drewN ?_ _ | refine Fr.drew ?_ | exact Fr.refl _ _))⟩
    case round =>
      obtain ⟨k, hk, rfl, hall, hf⟩ := hrel
      have HALL := Lib.hid hall
      have HF := Lib.hid hf
      by_cases hlt : k + 1 < l.length
      · obtain ⟨x, hx⟩ : ∃ x, l[k]? = some x := ⟨l[k], List.getElem?_eq_getElem (by omega)⟩
        obtain ⟨y, hy⟩ : ∃ y, l[k + 1]? = some y := ⟨l[k + 1], List.getElem?_eq_getElem hlt⟩
        obtain ⟨c0, c1⟩ := (hr.fr hf ha id) k x hx
        obtain ⟨d0, d1⟩ := (hr.fr hf ha id) (k + 1) y hy
        have HX := Lib.hid hx
        have HY := Lib.hid hy
        have n0 : (0 : Int) ≤ k := by omega
        have n1 : (k : Int) + 1 < l.length := by omega
        have n2 : (k : Int) < l.length := by omega
        have n3 : (0 : Int) ≤ (k : Int) + 1 := by omega
        clear hx hy hall hf
        go_wp2_with fail
        go_quiet (fail)
        by_cases hxy : y.1 < x.1
        · have hbf : b = false := by
            cases b with
            | false => rfl
            | true => have := HB.out.1 rfl k x y HX.out HY.out; omega
          subst hbf
          go_wp2_with fail
          go_ret
          exact ⟨rfl, HF.out.drewN _⟩
        · have HXY := Lib.hid hxy
          go_wp2_with fail
          go_roundw
          case rel => exact ⟨k + 1, by omega, by go_num, fun i x' y' hi h1 h2 => by
            rcases Nat.lt_or_ge i k with h | h
            · exact HALL.out i x' y' h h1 h2
            · obtain rfl : i = k := by omega
              rw [HX.out] at h1
              rw [HY.out] at h2
              cases h1
              cases h2
              have := HXY.out
              omega, HF.out.drewN _⟩
          case measure => simp [intOf]; omega
      · have hbt : b = true := HB.out.2 fun i x y hx hy => hall i x y (by have := (List.getElem?_eq_some_iff.1 hy).1; omega) hx hy
        subst hbt
        have n1 : ¬ (k : Int) + 1 < l.length := by omega
        clear hall hf
        go_wp2_with fail
        go_ret
        exact ⟨rfl, HF.out⟩
end Go.Proofs.Ythkklhephacpeaa.SortO
