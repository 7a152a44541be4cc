/- Chapter 7: a slice of pairs that comes in. -/
import Derived.Test.YtokgeegbeagblaaSortM
import Derived.Test.YtokgeegbeagblaaArgs
import Derived.Test.YtokgeegbeagblaaFlat
import Derived.Test.YtokgeegbeagblaaRows
namespace Go.Proofs.Ytokgeegbeagblaa.SortN
open Go.ChangeShapes Go.WideShapes Go.ChangeAt Go.RowKit Go.Deep Base SortA SortB Args
set_option linter.unusedVariables false

theorem Try.pair_fields : ∃ fs : Array Field, Try.prog.underlying 28 = some (.struct fs) ∧ intFields Try.prog fs = true ∧ fs.size = 2 := ⟨_, Try.underlying28, by kernel_rfl, by kernel_rfl⟩
theorem Try.pair_cells : Try.prog.cellsOf 28 = 2 := by kernel_rfl

def toPr (r : List Int) : Pr := (r.getD 0 0, r.getD 1 0)

theorem open_pairs {H : Type} {enc : TypeId × Value → H} {W : World} {base : Nat} {v : Value} {d : DataW H} {p : List MemPlace} (hv : Value.okWide Try.prog W .any base 22 v) (h : DataW.Trod enc Try.prog W 0 (fun _ => true) true 22 v d p) :
    ∃ l : List Pr, l.length ≤ maxLen ∧ Come W v l := by
  obtain ⟨A, len, cap, rfl⟩ := okWide_slice Try.underlying22 hv
  obtain ⟨fuel, hf⟩ := h
  obtain ⟨fs, h1, h2, h3⟩ := Try.pair_fields
  have hf' : DataW.trod enc Try.prog W 0 (fun _ => true) true fuel 22 [.slice A len cap] = some (d, p) := by simpa [Value.cells] using hf
  obtain ⟨L, hL, hr, hm, hA, hc⟩ := open_int_structs Try.underlying22 h1 h2 (by rw [h3]; exact Try.pair_cells) hf'
  refine ⟨L.map toPr, by rw [List.length_map, hL]; exact hm, ?_⟩
  rcases open_slice Try.underlying22 hf' with ⟨h0, _⟩ | ⟨a, len', cap', m, n, D, Pl, hcs, hb, hl, hm', hmm, hx, hE⟩
  · simp only [List.cons.injEq, Value.slice.injEq, and_true] at h0
    obtain ⟨rfl, rfl, rfl⟩ := h0
    exact Or.inl ⟨rfl, by rw [List.eq_nil_of_length_eq_zero hL]; rfl⟩
  · simp only [List.cons.injEq, Value.slice.injEq, and_true] at hcs
    obtain ⟨rfl, rfl, rfl⟩ := hcs
    refine Or.inr ⟨a, cap, by rw [List.length_map, hL], by rw [List.length_map, hL]; exact hl, fun j u hu => ?_⟩
    have hj : j < L.length * 2 := by have := (List.getElem?_eq_some_iff.1 hu).1; rw [flat_len, List.length_map] at this; exact this
    obtain ⟨r, hri⟩ : ∃ r, L[j / 2]? = some r := ⟨L[j / 2]'(by omega), List.getElem?_eq_getElem _⟩
    have hrl := hr r (List.mem_of_getElem? hri)
    rw [h3] at hrl
    have hcell : ∀ k, k < 2 → W.cell? ((a.add (j / 2 * 2)).add k) = some (.int .i64 (r.getD k 0)) := fun k hk => by
      have := hc a rfl (j / 2) r hri k (r.getD k 0) (by rw [List.getD_eq_getElem?_getD, List.getElem?_eq_getElem (by omega)]; rfl)
      rw [h3] at this
      exact this
    have hp : (L.map toPr)[j / 2]? = some (toPr r) := by rw [List.getElem?_map, hri]; rfl
    have hk := hcell (j % 2) (by omega)
    rw [Base.add_add, show j / 2 * 2 + j % 2 = j by omega] at hk
    rw [hk]
    have hfl := flat_at hp (j % 2) (by omega)
    rw [show j / 2 * 2 + j % 2 = j by omega, hu] at hfl
    rw [hfl]
    have : j % 2 = 0 ∨ j % 2 = 1 := by omega
    rcases this with e | e <;> rw [e] <;> rfl
end Go.Proofs.Ytokgeegbeagblaa.SortN
