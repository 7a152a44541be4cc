/- Arguments that are structs of int fields, of whatever kinds: what they are. -/
import Derived.Test.YtokgeegbeagblaaBase
import Derived.Deep.Slices
import Derived.ProofKit
import Derived.OpenShut
namespace Go.Proofs.Ytokgeegbeagblaa.Flat
open Go.ChangeShapes Go.WideShapes Go.ChangeAt Go.RowKit Go.Deep Base

/-- every field is one cell that holds an int of the kind told -/
def fieldsAre (P : Program) (fs : Array Field) (ks : List IntKind) : Bool :=
  fs.size == ks.length && (List.range ks.length).all fun i => match fs[i]?, ks[i]? with
    | some f, some k => f.offset == i && P.cellsOf f.type == 1 && (match P.underlying f.type with | some (.int k') => decide (k' = k) | _ => false)
    | _, _ => false

theorem fieldsAre_at {P : Program} {fs : Array Field} {ks : List IntKind} (h : fieldsAre P fs ks = true) {i : Nat} {k : IntKind} (hk : ks[i]? = some k) : ∃ f, fs[i]? = some f ∧ f.offset = i ∧ P.cellsOf f.type = 1 ∧ P.underlying f.type = some (.int k) := by
  have hi : i < ks.length := (List.getElem?_eq_some_iff.1 hk).1
  unfold fieldsAre at h
  rw [Bool.and_eq_true] at h
  have h2 := List.all_eq_true.1 h.2 i (List.mem_range.2 hi)
  rw [hk] at h2
  rcases hf : fs[i]? with _ | f
  · rw [hf] at h2; cases h2
  · rw [hf] at h2
    simp only [Bool.and_eq_true, beq_iff_eq] at h2
    refine ⟨f, rfl, h2.1.1, h2.1.2, ?_⟩
    have h3 := h2.2
    split at h3
    · rw [← of_decide_eq_true h3]; assumption
    · cases h3

section
variable {H : Type} {enc : TypeId × Value → H} {P : Program} {w : World} {base : Nat} {spare : Nat → Bool} {held : Bool}

theorem ints_at {t : TypeId} {fs : Array Field} {ks : List IntKind} {fuel : Nat} {cs : List Value} {x : DataW H × List MemPlace} (ht : P.underlying t = some (.struct fs)) (hi : fieldsAre P fs ks = true) (hC : P.cellsOf t = fs.size)
    (h : DataW.trod enc P w base spare held fuel t cs = some x) : cs.length = ks.length ∧ ∀ (i : Nat) (k : IntKind), ks[i]? = some k → ∃ n, cs[i]? = some (.int k n) ∧ k.min ≤ n ∧ n ≤ k.max := by
  obtain ⟨xs, n, _, _, hl, hxl, hf⟩ := DataW.trod_struct ht h
  have hs : fs.size = ks.length := by unfold fieldsAre at hi; rw [Bool.and_eq_true] at hi; simpa using hi.1
  rw [hC] at hl
  refine ⟨hl.trans hs, fun i k hk => ?_⟩
  obtain ⟨f, hfi, h1, h2, h3⟩ := fieldsAre_at hi hk
  have hil : i < ks.length := (List.getElem?_eq_some_iff.1 hk).1
  have h4 := hf i _ hfi
  rw [h1, h2] at h4
  have hxi : xs[i]? = some xs[i] := List.getElem?_eq_getElem (by omega)
  rw [hxi] at h4
  obtain ⟨m, hm, _, hw⟩ := DataW.trod_int h3 h4
  have := congrArg (fun l => l[0]?) hm
  simp [Lit.wf] at hw
  exact ⟨m, by simpa using this, hw.1, hw.2⟩

/-- a struct of two ints, as an argument -/
theorem open_two {r : Reach} {b0 : Nat} {t : TypeId} {fs : Array Field} {k0 k1 : IntKind} {v : Value} {d : DataW H} {ps : List MemPlace} (ht : P.underlying t = some (.struct fs)) (hi : fieldsAre P fs [k0, k1] = true) (hC : P.cellsOf t = fs.size)
    (hval : Value.okWide P w r b0 t v) (hd : DataW.Trod enc P w base spare held t v d ps) :
    ∃ a b, v = .agg #[.int k0 a, .int k1 b] ∧ k0.min ≤ a ∧ a ≤ k0.max ∧ k1.min ≤ b ∧ b ≤ k1.max := by
  obtain ⟨cs, rfl, hcs⟩ := okWide_struct ht hval
  obtain ⟨fuel, hf⟩ := hd
  obtain ⟨hl, hat⟩ := ints_at ht hi hC hf
  obtain ⟨a, ha, ha0, ha1⟩ := hat 0 k0 rfl
  obtain ⟨b, hb, hb0, hb1⟩ := hat 1 k1 rfl
  refine ⟨a, b, ?_, ha0, ha1, hb0, hb1⟩
  simp [Value.cells] at hl ha hb
  congr 1
  apply Array.ext
  · simpa using hl
  · intro i h1 h2
    have : i = 0 ∨ i = 1 := by simp at h2; omega
    rcases this with rfl | rfl
    · simpa [Array.getElem?_eq_getElem h1] using ha
    · simpa [Array.getElem?_eq_getElem h1] using hb
end
theorem i64_bd : IntKind.i64.min = -9223372036854775808 ∧ IntKind.i64.max = 9223372036854775807 := by decide
theorem u64_bd : IntKind.u64.min = 0 ∧ IntKind.u64.max = 18446744073709551615 := by decide
theorem wf_i64 {n : Int} (h : (Lit.int .i64 n).wf = true) : -9223372036854775808 ≤ n ∧ n ≤ 9223372036854775807 := by
  simp only [Lit.wf, i64_bd.1, i64_bd.2, Bool.and_eq_true, decide_eq_true_eq] at h
  exact h
end Go.Proofs.Ytokgeegbeagblaa.Flat
