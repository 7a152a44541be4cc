/- Chapter 10: a list of acts that comes in; the walk of the law StackPlays. -/
import Derived.Test.YtgibhgppfmbnaaaStackE
import Derived.Deep.DeepCutAuto
namespace Go.Proofs.Ytgibhgppfmbnaaa.StackF
open Go.RowKit Base Slices Quiet StackA StackB StackC StackD StackE TrapA TrapB TrapG
set_option linter.unusedVariables false
set_option linter.unusedSimpArgs false

/-- an act: its kind and its numbers -/
abbrev Ac := Int × List Int
/-- acts that come in -/
def Acts (w : World) (v : Value) (l : List Ac) : Prop := (v = .slice none 0 0 ∧ l = []) ∨ ∃ a cap, v = .slice (some a) l.length cap ∧ l.length ≤ cap ∧ cap ≤ maxLen ∧
  ∀ (i : Nat) (p : Ac), l[i]? = some p → w.cell? (a.add (i * 2)) = some (.int .i64 p.1) ∧ ∃ u, w.cell? ((a.add (i * 2)).add 1) = some u ∧ Come EI w u p.2 ∧ p.2.length ≤ maxLen

theorem act_fields : ∃ f0 f1 : Field, Try.prog.underlying 31 = some (.struct #[f0, f1]) ∧ f0.offset = 0 ∧ f0.type = 3 ∧ f1.offset = 1 ∧ f1.type = 28 := ⟨_, _, Try.underlying31, by kernel_rfl, by kernel_rfl, by kernel_rfl, by kernel_rfl⟩
theorem act_cells : Try.prog.cellsOf 31 = 2 := by kernel_rfl
theorem ints_cells : Try.prog.cellsOf 28 = 1 := by kernel_rfl

open Go.ChangeShapes Go.WideShapes Go.ChangeAt Go.Deep in
theorem open_acts {H : Type} {enc : TypeId × Value → H} {w : World} {base : Nat} {v : Value} {d : DataW H} {p : List MemPlace} (hv : Value.okWide Try.prog w .any base 22 v) (h : DataW.Trod enc Try.prog w 0 (fun _ => true) true 22 v d p) :
    ∃ l : List Ac, Acts w v l ∧ l.length ≤ maxLen := by
  obtain ⟨A0, n0, c0, rfl⟩ := okWide_slice Try.underlying22 hv
  obtain ⟨fuel, hf⟩ := h
  have hf : DataW.trod enc Try.prog w 0 (fun _ => true) true fuel 22 [.slice A0 n0 c0] = some (d, p) := hf
  rcases open_slice Try.underlying22 hf with ⟨h0, _⟩ | ⟨a, len', cap', m, n', D, Pl, hcs, hb, hl, hm, hmm, hx, hel⟩
  · simp at h0
    obtain ⟨rfl, rfl, rfl⟩ := h0
    exact ⟨[], Or.inl ⟨rfl, rfl⟩, Nat.zero_le _⟩
  · simp at hcs
    obtain ⟨rfl, rfl, rfl⟩ := hcs
    obtain ⟨f0, f1, hfs, o0, t0, o1, t1⟩ := act_fields
    have hlm : n0 ≤ m := by rw [hmm]; split <;> omega
    have hex : ∀ i, i < n0 → ∃ p : Ac, w.cell? (a.add (i * 2)) = some (.int .i64 p.1) ∧ ∃ u, w.cell? ((a.add (i * 2)).add 1) = some u ∧ Come EI w u p.2 ∧ p.2.length ≤ maxLen := by
      intro i hi
      obtain ⟨cs', hc, ht⟩ := hel i (by omega)
      rw [act_cells] at hc
      obtain ⟨hn, _, hat⟩ := World.cells?_some hc
      obtain ⟨xs, k, _, _, hl2, hxl, hfd⟩ := DataW.trod_struct hfs ht
      have g0 := hfd 0 f0 rfl
      have g1 := hfd 1 f1 rfl
      have hxl' : xs.length = 2 := hxl
      rw [o0, t0, cells_int, List.getElem?_eq_getElem (by omega)] at g0
      rw [o1, t1, ints_cells, List.getElem?_eq_getElem (by omega)] at g1
      obtain ⟨n, e0, _, _⟩ := DataW.trod_int Try.underlying3 g0
      obtain ⟨u, l, e1, e2, e3, e4⟩ := come_of_trod (ks := [.i .i64]) EI_ok 9 (by kernel_rfl) cells_int decI (fun vs hvs => by
        obtain ⟨_, ws, rfl, ⟨n, rfl, _, _⟩, h⟩ := Leaf.Leafs.cons hvs
        obtain rfl : ws = [] := h
        rfl) g1
      refine ⟨(n, l), ?_, u, ?_, e2, e3⟩
      · have := hat 0 (by omega)
        have e := congrArg (fun l => l[0]?) e0
        simp [List.getElem?_take] at e
        rw [show (a.add (i * 2)) = (a.add (i * 2)).add 0 from by simp [Addr.add]]
        rw [this]
        simpa using e
      · have := hat 1 (by omega)
        have e := congrArg (fun l => l[0]?) e1
        simp [List.getElem?_take] at e
        rw [this]
        simpa using e
    obtain ⟨R, hR⟩ : ∃ R : Nat → Ac, ∀ i, i < n0 → w.cell? (a.add (i * 2)) = some (.int .i64 (R i).1) ∧ ∃ u, w.cell? ((a.add (i * 2)).add 1) = some u ∧ Come EI w u (R i).2 ∧ (R i).2.length ≤ maxLen := by
      refine ⟨fun i => if h : i < n0 then (hex i h).choose else (0, []), fun i hi => ?_⟩
      simp only [dif_pos hi]
      exact (hex i hi).choose_spec
    refine ⟨(List.range n0).map R, Or.inr ⟨a, c0, by simp, by simpa using hl, hm, fun i q hq => ?_⟩, by simp; omega⟩
    have hil : i < n0 := by
      have := (List.getElem?_eq_some_iff.1 hq).1
      simpa using this
    have : q = R i := by
      rw [List.getElem?_map, List.getElem?_range hil] at hq
      simpa using hq.symm
    subst this
    exact hR i hil
end Go.Proofs.Ytgibhgppfmbnaaa.StackF
