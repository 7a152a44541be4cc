/- Chapter 5: lives, and the laws' walks. -/
import Derived.Test.YtendhgnhncnabaaFiveE
namespace Go.Proofs.Ytendhgnhncnabaa.FiveF
open Go.RowKit TrapA TrapB Base FiveA FiveB FiveC FiveD FiveE
set_option linter.unusedVariables false
set_option linter.unusedSimpArgs false

theorem mf (fn : Fn) (first cap : Array Value) (w : World) : (Instr.makeFunc fn first cap).run Try.prog w = .ok (.func fn first cap) w := rfl

/-- the one step of lives -/
def liv : List St := [⟨1, 3, 4, 0, 0⟩]

theorem liv_doer (w : World) : Doer ((w.alloc (.cells #[.int .i64 1, .int .i64 3, .int .i64 4, .int .i64 0, .int .i64 0] 51)).alloc (.cells #[.slice (some ⟨w.heap.size, 0, none⟩) 1 1, .int .i64 0, .int .i64 0] 27)) (w.heap.size + 1) ⟨w.heap.size, 0, none⟩ 1 liv 0 0 := by
  have b1 := (Bk.new w 51 #[.int .i64 1, .int .i64 3, .int .i64 4, .int .i64 0, .int .i64 0]).alloc (.cells #[.slice (some ⟨w.heap.size, 0, none⟩) 1 1, .int .i64 0, .int .i64 0] 27)
  have b2 := Bk.new (w.alloc (.cells #[.int .i64 1, .int .i64 3, .int .i64 4, .int .i64 0, .int .i64 0] 51)) 27 #[.slice (some ⟨w.heap.size, 0, none⟩) 1 1, .int .i64 0, .int .i64 0]
  have hs : (w.alloc (.cells #[.int .i64 1, .int .i64 3, .int .i64 4, .int .i64 0, .int .i64 0] 51)).heap.size = w.heap.size + 1 := by simp
  rw [hs] at b2
  refine ⟨b2, ?_, by simp; omega, by simp, by simp [liv], by simp [liv, Small]⟩
  intro i s h
  cases i with
  | zero =>
    simp [liv] at h
    subst h
    exact ⟨b1.cell 0, b1.cell 1, b1.cell 2, b1.cell 3, b1.cell 4⟩
  | succ i => simp [liv] at h

theorem scan_liv : scan liv = (some (3, 4), 0) := by simp [scan, liv, thrown]

set_option maxHeartbeats 400000 in
theorem lives_any (w : World) : Calls Try.prog 9 #[] w fun e w' => e = .returned (.bool true) ∧ Fr Nil w w' := by
  have hmf := mf
  have H1 := Lib.hid (catch_all (liv_doer w) (by omega) (by omega))
  rw [scan_liv] at H1
  unfold faultOf at H1
  go_enter Try.func9, Try.ntmps9
  go_wp2_with fail
  refine H1.out.mono ?_
  rintro e w1 ⟨rfl, hf1, hd1⟩
  go_wp2_with fail
  have H2 := Code_coded (hd1.fr (S := Nil) ((Fr.refl Nil w1).alloc (.cells #[.int .i64 3, .int .i64 4] 30)) id id) (by omega) (by omega)
  simp only [scan_liv, Option.map_some, Option.getD_some] at H2
  refine H2.mono ?_
  rintro e w2 ⟨rfl, hf2, hd2⟩
  go_wp2_with fail
  go_ret
  refine ⟨rfl, ?_⟩
  have h1 : Fr Nil w w1 := (((Fr.refl Nil w).alloc _).alloc _).then hf1 fun i h hi => absurd hi (by omega)
  exact (h1.alloc _).then hf2 fun i h hi => absurd hi (by omega)

/-- the address of what few hands back -/
theorem own_form {w : World} {v : Value} {base n : Nat} {l : List St} (h : w.ownsRow base 51 5 v n (flat l)) (hn : v ≠ .slice none 0 0) :
    ∃ b cap, v = .slice (some ⟨b, 0, none⟩) n cap ∧ base ≤ b ∧ b < w.heap.size ∧ Lies w ⟨b, 0, none⟩ l ∧ ∃ cur, Bk w b 51 cur := by
  rcases h.2 with ⟨rfl, rfl⟩ | ⟨g, cap, cur, rfl, hb, hg, h1, h2, h3, h4⟩
  · exact absurd rfl hn
  · refine ⟨g, cap, rfl, hb, lt_of_block hg, ?_, cur, hg⟩
    intro i s his
    have hk : Bk w g 51 cur := hg
    have hat : ∀ j, j < 5 → w.cell? ⟨g, i * 5 + j, none⟩ = s.cells[j]? := fun j hj => by
      have e := flat_at his j hj
      rw [← e, ← h4, hk.cell, List.getElem?_take]
      have hil : i < l.length := (List.getElem?_eq_some_iff.1 his).1
      have hl := h.1
      rw [flat_len] at hl
      rw [if_pos (by omega)]
      simp
    have ha : (⟨g, 0, none⟩ : Addr).add (i * 5) = ⟨g, i * 5, none⟩ := by unfold Addr.add; split <;> simp_all
    rw [ha]
    exact ⟨hat 0 (by omega), hat 1 (by omega), hat 2 (by omega), hat 3 (by omega), hat 4 (by omega)⟩

theorem fewL_le (l : List St) : (fewL l).length ≤ 20 := by
  unfold fewL
  rw [List.length_map, List.length_take]
  omega

theorem fewL_small (l : List St) : ∀ s ∈ fewL l, Small s := by
  intro s hs
  unfold fewL at hs
  obtain ⟨x, _, rfl⟩ := List.mem_map.1 hs
  unfold trim Small
  split
  · simp
  · omega

/-- a doer that has just been made of few's steps -/
theorem new_doer {w : World} {v : Value} {base : Nat} {l : List St} (code : Int) (h : w.ownsRow base 51 5 v (fewL l).length (flat (fewL l))) (hn : v ≠ .slice none 0 0) :
    ∃ b cap, v = .slice (some ⟨b, 0, none⟩) (fewL l).length cap ∧ base ≤ b ∧ Doer (w.alloc (.cells #[.slice (some ⟨b, 0, none⟩) (fewL l).length cap, .int .i64 0, .int .i64 code] 27)) w.heap.size ⟨b, 0, none⟩ cap (fewL l) 0 code := by
  obtain ⟨b, cap, rfl, hb, hlt, hl, _⟩ := own_form h hn
  refine ⟨b, cap, rfl, hb, Bk.new _ _ _, hl.fr ((Fr.refl Nil _).alloc _) hlt id, by simp; omega, by simp; omega, fewL_le l, fewL_small l⟩
end Go.Proofs.Ytendhgnhncnabaa.FiveF
