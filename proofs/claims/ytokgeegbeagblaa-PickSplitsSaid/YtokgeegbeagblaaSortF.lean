/- Chapter 7: the walk of the reference's Sort. -/
import Derived.Test.YtokgeegbeagblaaSortE
namespace Go.Proofs.Ytokgeegbeagblaa.SortF
open Go.RowKit Base SortA SortB SortC SortD SortE
set_option linter.unusedVariables false
set_option linter.unusedSimpArgs false

theorem sort_ref (l : List Pr) (v : Value) (w : World) (hl : l.length ≤ 500) (hv : Sl w v l) :
    Calls Try.prog 13 #[v] w fun e w' => ∃ u, e = .returned u ∧ Fr Nil w w' ∧ Sl w' u (isort l) ∧ u ≠ .slice none 0 0 := by
  rcases hv with ⟨rfl, rfl⟩ | ⟨g, o, cap, rfl, hc, ha, hr⟩
  · go_enter Try.func13, Try.ntmps13
    go_wp2_with fail
    refine wp_loop_rounds 1 ?_
    rw [rounds_succ]
    go_wp2
    go_ret
    exact ⟨_, rfl, (Fr.refl _ _).alloc _, (Own.made w w.heap.size (Nat.le_refl _)).sl, by simp⟩
  · go_enter Try.func13, Try.ntmps13
    go_wp2_with fail
    go_loopw [3, 4] (fun v i wr => ∃ j : Nat, j ≤ l.length ∧ i = .int .i64 j ∧ Sl wr v (isort (l.take j)) ∧ v ≠ .slice none 0 0 ∧ Fr Nil w wr) (fun _ i _ => l.length - (intOf i).toNat)
    case atStart => exact ⟨0, by omega, rfl, (Own.made w w.heap.size (Nat.le_refl _)).sl, by simp, (Fr.refl _ _).alloc _⟩
    case round =>
      obtain ⟨j, hj, rfl, hs, hn, hf⟩ := hrel
      have HF := Lib.hid hf
      by_cases hlt : j < l.length
      · obtain ⟨p, hp⟩ : ∃ p, l[j]? = some p := ⟨l[j], List.getElem?_eq_getElem hlt⟩
        obtain ⟨c0, c1⟩ := (hr.fr hf ha id) j p hp
        have HT := Lib.hid (isort_step hp)
        have HS := Lib.hid hs
        have hlen : (isort (l.take j)).length = j := by rw [isort_len, List.length_take]; omega
        have HP := Lib.hid (fun W h => put_any (isort (l.take j)) p u3 W (by omega) h hn)
        clear hf hs hn hlen
        go_wp2_with fail
        refine (HP.out _ HS.out).mono ?_
        rintro e w1 ⟨u, rfl, hf1, ho, hn1⟩
        go_wp2_with fail
        go_roundw
        case rel => exact ⟨j + 1, by omega, by go_num, by rw [HT.out]; exact ho.sl, hn1, HF.out.trans hf1⟩
        case measure => simp [intOf]; omega
      · obtain rfl : j = l.length := by omega
        have HS := Lib.hid (show Sl wr u3 (isort l) by rw [List.take_length] at hs; exact hs)
        have HN := Lib.hid hn
        clear hs hn hf
        go_wp2_with fail
        go_ret
        exact ⟨_, rfl, HF.out, HS.out, HN.out⟩
end Go.Proofs.Ytokgeegbeagblaa.SortF
