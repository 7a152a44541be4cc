/- Chapter 7: the walks of Same (of two lists that are one), and of both Is. -/
import Derived.Test.YtokgeegbeagblaaSortM
namespace Go.Proofs.Ytokgeegbeagblaa.SortO
open Go.RowKit Base SortA SortB SortC SortD SortE SortF SortG SortH SortI SortJ SortK SortL Quiet
set_option linter.unusedVariables false
set_option linter.unusedSimpArgs false

theorem same_any (l : List Pr) (va vb : Value) (w : World) (hl : l.length ≤ 100000) (hva : Sl w va l) (hvb : Sl w vb l) :
    Calls Try.prog 17 #[va, vb] w fun e w' => e = .returned (.bool true) ∧ Fr Nil w w' := by
  by_cases hne : l = []
  · subst hne
    obtain ⟨A, c, rfl⟩ := Sl.shape hva
    obtain ⟨B, d, rfl⟩ := Sl.shape hvb
    simp only [List.length_nil]
    clear hva hvb
    go_enter Try.func17, Try.ntmps17
    go_wp2_with fail
    refine wp_loop_rounds 1 ?_
    rw [rounds_succ]
    go_wp2
    go_ret
    exact ⟨rfl, by (repeat' (with_reducible first | refine Fr.setCell ?_ (fun hlt => absurd hlt (by dsimp only; omega)) _ | refine Fr.alloc ?_ _ | refine Fr.drewN ?_ _ | refine Fr.drew ?_ | exact Fr.refl _ _))⟩
  · rcases hva with ⟨_, h⟩ | ⟨g, o, cap, rfl, hc, ha, hr⟩
    · exact absurd h hne
    rcases hvb with ⟨_, h⟩ | ⟨g', o', cap', rfl, hc', ha', hr'⟩
    · exact absurd h hne
    clear hne
    go_enter Try.func17, Try.ntmps17
    go_wp2_with fail
    go_loopw [5] (fun i wr => ∃ k : Nat, k ≤ l.length ∧ i = .int .i64 k ∧ Fr Nil w wr) (fun i _ => l.length - (intOf i).toNat)
    case atStart => exact ⟨0, by omega, rfl, by (repeat' (with_reducible first | refine Fr.setCell ?_ (fun hlt => absurd hlt (by dsimp only; omega)) _ | refine Fr.alloc ?_ _ | refine Fr.drewN ?_ _ | refine Fr.drew ?_ | exact Fr.refl _ _))⟩
    case round =>
      obtain ⟨k, hk, rfl, hf⟩ := hrel
      by_cases hlt : k < l.length
      · obtain ⟨p, hp⟩ : ∃ p, l[k]? = some p := ⟨l[k], List.getElem?_eq_getElem hlt⟩
        obtain ⟨c0, c1⟩ := (hr.fr hf ha id) k p hp
        obtain ⟨d0, d1⟩ := (hr'.fr hf ha' id) k p hp
        have hk0 : (0 : Int) ≤ k := by omega
        have hk1 : (k : Int) < l.length := by omega
        have HF := Lib.hid hf
        clear hf hp
        go_wp2_with fail
        go_quiet (fail)
        go_wp2_with fail
        go_roundw
        case rel => exact ⟨k + 1, by omega, by go_num, HF.out.drewN _⟩
        case measure => simp [intOf]; omega
      · obtain rfl : k = l.length := by omega
        have HF := Lib.hid hf
        clear hf
        go_wp2_with fail
        go_ret
        exact ⟨rfl, HF.out⟩

/-- every two neighbours stand in order -/
def Good (l : List Pr) : Prop := ∀ (i : Nat) x y, l[i]? = some x → l[i + 1]? = some y → x.1 ≤ y.1

theorem Srt.good {l : List Pr} (h : Srt l) : Good l := fun i x y hx hy => by
  obtain ⟨h1, e1⟩ := List.getElem?_eq_some_iff.1 hx
  obtain ⟨h2, e2⟩ := List.getElem?_eq_some_iff.1 hy
  have := List.pairwise_iff_getElem.1 h i (i + 1) h1 h2 (by omega)
  rw [e1, e2] at this
  exact this

end Go.Proofs.Ytokgeegbeagblaa.SortO
