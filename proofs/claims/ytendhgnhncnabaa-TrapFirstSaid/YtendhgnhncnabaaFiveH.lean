/- Chapter 5: a slice of steps that comes in. -/
import Derived.Test.YtendhgnhncnabaaFiveB
import Derived.Test.YtendhgnhncnabaaArgs
import Derived.Test.YtendhgnhncnabaaRows
namespace Go.Proofs.Ytendhgnhncnabaa.FiveH
open Go.ChangeShapes Go.WideShapes Go.ChangeAt Go.RowKit Go.Deep Base FiveA FiveB Args
set_option linter.unusedVariables false

theorem Try.step_fields : ∃ fs : Array Field, Try.prog.underlying 51 = some (.struct fs) ∧ intFields Try.prog fs = true ∧ fs.size = 5 := ⟨_, Try.underlying51, by kernel_rfl, by kernel_rfl⟩
theorem Try.step_cells : Try.prog.cellsOf 51 = 5 := by kernel_rfl

def toSt (r : List Int) : St := ⟨r.getD 0 0, r.getD 1 0, r.getD 2 0, r.getD 3 0, r.getD 4 0⟩

theorem open_steps {H : Type} {enc : TypeId × Value → H} {W : World} {base : Nat} {v : Value} {d : DataW H} {p : List MemPlace} (hv : Value.okWide Try.prog W .any base 22 v) (h : DataW.Trod enc Try.prog W 0 (fun _ => true) true 22 v d p) :
    ∃ (l : List St) (A : Option Addr) (cap : Nat), v = .slice A l.length cap ∧ l.length ≤ maxLen ∧ Slc W A l := by
  obtain ⟨A, len, cap, rfl⟩ := okWide_slice Try.underlying22 hv
  obtain ⟨fuel, hf⟩ := h
  obtain ⟨fs, h1, h2, h3⟩ := Try.step_fields
  obtain ⟨L, hL, hr, hm, hA, hc⟩ := open_int_structs Try.underlying22 h1 h2 (by rw [h3]; exact Try.step_cells) (by simpa [Value.cells] using hf)
  refine ⟨L.map toSt, A, cap, by rw [List.length_map, hL], by rw [List.length_map, hL]; exact hm, fun hne => ?_⟩
  rcases A with _ | a
  · have := hA rfl
    rw [← hL] at this
    exact absurd (by rw [List.eq_nil_of_length_eq_zero this]; rfl) hne
  · have hcell : ∀ (i : Nat) (r : List Int), L[i]? = some r → ∀ j, j < 5 → W.cell? ((a.add (i * 5)).add j) = some (.int .i64 (r.getD j 0)) := fun i r hi j hj => by
      have hl := hr r (List.mem_of_getElem? hi)
      rw [h3] at hl
      rw [← h3]
      refine hc a rfl i r hi j _ ?_
      rw [List.getD_eq_getElem?_getD, List.getElem?_eq_getElem (by omega)]
      rfl
    refine ⟨a, rfl, ?_, ?_⟩
    · have hpos : 0 < L.length := by
        rcases Nat.eq_zero_or_pos L.length with h0 | h0
        · exact absurd (by rw [List.eq_nil_of_length_eq_zero h0]; rfl) hne
        · exact h0
      have := World.block_lt_of_cell? W _ (hcell 0 L[0] (List.getElem?_eq_getElem hpos) 0 (by omega))
      rw [Base.block_add, Base.block_add] at this
      exact this
    · intro i s hs
      rw [List.getElem?_map] at hs
      obtain ⟨r, hi, rfl⟩ := Option.map_eq_some_iff.1 hs
      exact ⟨hcell i r hi 0 (by omega), hcell i r hi 1 (by omega), hcell i r hi 2 (by omega), hcell i r hi 3 (by omega), hcell i r hi 4 (by omega)⟩
end Go.Proofs.Ytendhgnhncnabaa.FiveH
