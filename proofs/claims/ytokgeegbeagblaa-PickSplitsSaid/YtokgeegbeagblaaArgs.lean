/- Arguments that are slices of structs of int fields: what lies in memory; and a law's last step. -/
import Derived.Test.YtokgeegbeagblaaBase
import Derived.Deep.Slices
import Derived.ProofKit
import Derived.OpenShut
namespace Go.Proofs.Ytokgeegbeagblaa.Args
open Go.ChangeShapes Go.WideShapes Go.ChangeAt Go.RowKit Go.Deep Base

/-- every field is one cell that holds an int -/
def intFields (P : Program) (fs : Array Field) : Bool :=
  (List.range fs.size).all fun i => match fs[i]? with
    | some f => f.offset == i && P.cellsOf f.type == 1 && (match P.underlying f.type with | some (.int .i64) => true | _ => false)
    | none => true

theorem intFields_at {P : Program} {fs : Array Field} (h : intFields P fs = true) {i : Nat} {f : Field} (hf : fs[i]? = some f) : f.offset = i ∧ P.cellsOf f.type = 1 ∧ P.underlying f.type = some (.int .i64) := by
  have hi : i < fs.size := (Array.getElem?_eq_some_iff.1 hf).1
  have := List.all_eq_true.1 h i (List.mem_range.2 hi)
  rw [hf] at this
  simp only [Bool.and_eq_true, beq_iff_eq] at this
  refine ⟨this.1.1, this.1.2, ?_⟩
  have h3 := this.2
  split at h3
  · assumption
  · cases h3

def numOf : Value → Int | .int _ n => n | _ => 0

section
variable {H : Type} {enc : TypeId × Value → H} {P : Program} {w : World} {base : Nat} {spare : Nat → Bool} {held : Bool}

theorem ints_of_struct {t : TypeId} {fs : Array Field} {fuel : Nat} {cs : List Value} {x : DataW H × List MemPlace} (ht : P.underlying t = some (.struct fs)) (hi : intFields P fs = true) (hC : P.cellsOf t = fs.size)
    (h : DataW.trod enc P w base spare held fuel t cs = some x) : cs = (cs.map numOf).map (Value.int .i64) ∧ cs.length = fs.size := by
  obtain ⟨xs, n, _, _, hl, hxl, hf⟩ := DataW.trod_struct ht h
  rw [hC] at hl
  refine ⟨?_, hl⟩
  apply List.ext_getElem?
  intro i
  rcases Nat.lt_or_ge i fs.size with hlt | hge
  · have hfi : fs[i]? = some fs[i] := Array.getElem?_eq_getElem hlt
    obtain ⟨h1, h2, h3⟩ := intFields_at hi hfi
    have h4 := hf i _ hfi
    rw [h1, h2] at h4
    have hxi : xs[i]? = some xs[i] := List.getElem?_eq_getElem (by omega)
    rw [hxi] at h4
    obtain ⟨m, hm, _, _⟩ := DataW.trod_int h3 h4
    have hci : cs[i]? = some (.int .i64 m) := by
      have := congrArg (fun l => l[0]?) hm
      simpa using this
    simp [hci, numOf]
  · rw [List.getElem?_eq_none (by omega), List.getElem?_eq_none (by simp; omega)]

/-- A slice of structs of int fields, as it comes in. -/
theorem open_int_structs {t e : TypeId} {fs : Array Field} {fuel : Nat} {A : Option Addr} {len cap : Nat} {x : DataW H × List MemPlace} (ht : P.underlying t = some (.slice e)) (he : P.underlying e = some (.struct fs)) (hi : intFields P fs = true) (hC : P.cellsOf e = fs.size)
    (h : DataW.trod enc P w base spare held fuel t [.slice A len cap] = some x) :
    ∃ L : List (List Int), L.length = len ∧ (∀ r ∈ L, r.length = fs.size) ∧ len ≤ maxLen ∧ (A = none → len = 0) ∧
      ∀ a, A = some a → ∀ (i : Nat) (r : List Int), L[i]? = some r → ∀ (j : Nat) (n : Int), r[j]? = some n → w.cell? ((a.add (i * fs.size)).add j) = some (.int .i64 n) := by
  rcases open_slice ht h with ⟨h0, _⟩ | ⟨a, len', cap', m, n, D, Pl, hcs, hb, hl, hm, hmm, hx, hE⟩
  · simp only [List.cons.injEq, Value.slice.injEq, and_true] at h0
    obtain ⟨rfl, rfl, rfl⟩ := h0
    exact ⟨[], rfl, by simp, by simp, fun _ => rfl, by simp⟩
  · simp only [List.cons.injEq, Value.slice.injEq, and_true] at hcs
    obtain ⟨rfl, rfl, rfl⟩ := hcs
    have hlm : len ≤ m := by rw [hmm]; split <;> omega
    have hex : ∀ i, i < len → ∃ r : List Int, r.length = fs.size ∧ ∀ (j : Nat) (n : Int), r[j]? = some n → w.cell? ((a.add (i * fs.size)).add j) = some (.int .i64 n) := by
      intro i him
      obtain ⟨cs', hc, ht'⟩ := hE i (by omega)
      rw [hC] at hc
      obtain ⟨e1, e2⟩ := ints_of_struct he hi hC ht'
      obtain ⟨_, _, hat⟩ := World.cells?_some hc
      refine ⟨cs'.map numOf, by simpa using e2, fun j k hj => ?_⟩
      have hjl : j < fs.size := by
        have := (List.getElem?_eq_some_iff.1 hj).1
        simpa [e2] using this
      rw [hat j hjl, e1]
      rw [List.getElem?_map, hj]
      rfl
    obtain ⟨R, hR⟩ : ∃ R : Nat → List Int, ∀ i, i < len → (R i).length = fs.size ∧ ∀ (j : Nat) (n : Int), (R i)[j]? = some n → w.cell? ((a.add (i * fs.size)).add j) = some (.int .i64 n) := by
      refine ⟨fun i => if h : i < len then (hex i h).choose else [], fun i hi => ?_⟩
      simp only [dif_pos hi]
      exact (hex i hi).choose_spec
    refine ⟨(List.range len).map R, by simp, ?_, by omega, (fun h => by cases h), ?_⟩
    · intro r hr
      obtain ⟨i, hi, rfl⟩ := List.mem_map.1 hr
      exact (hR i (List.mem_range.1 hi)).1
    · intro a' ha' i r hr j n hj
      cases ha'
      have hil : i < len := by
        have := (List.getElem?_eq_some_iff.1 hr).1
        simpa using this
      have : r = R i := by
        rw [List.getElem?_map, List.getElem?_range hil] at hr
        simpa using hr.symm
      subst this
      exact (hR i hil).2 j n hj
end
end Go.Proofs.Ytokgeegbeagblaa.Args
