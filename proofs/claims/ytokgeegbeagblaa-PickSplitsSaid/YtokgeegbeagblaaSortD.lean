/- Chapter 7: an append to a row of the call's own, in words of pairs; the walk of Put. -/
import Derived.Test.YtokgeegbeagblaaSortC
import Derived.Deep.RegionHeld3
import Derived.Deep.DeepCutAuto
namespace Go.Proofs.Ytokgeegbeagblaa.SortD
open Go.RowKit Base SortA SortB SortC
set_option linter.unusedVariables false
set_option linter.unusedSimpArgs false

/-- a slice of pairs in memory of the call's own -/
def Own (w : World) (base : Nat) (v : Value) (l : List Pr) : Prop := w.ownsRow base 28 2 v l.length (flat l)

theorem Own.sl {w : World} {base : Nat} {v : Value} {l : List Pr} (h : Own w base v l) : Sl w v l := Sl.of_own h rfl
theorem Own.made (w : World) (base : Nat) (h : base ≤ w.heap.size) : Own (w.alloc (.cells #[] 28)) base (.slice (some ⟨w.heap.size, 0, none⟩) 0 0) [] := World.ownsRow_made _ _ _ h (Nat.zero_le _) rfl
theorem Own.made' {w : World} {base g : Nat} (h : base ≤ w.heap.size) (hg : g = w.heap.size) : Own (w.alloc (.cells #[] 28)) base (.slice (some ⟨g, 0, none⟩) 0 0) [] := by subst hg; exact Own.made w base h
theorem Own.weaken {w : World} {base b' : Nat} {v : Value} {l : List Pr} (h : Own w base v l) (hb : b' ≤ base) : Own w b' v l := by
  refine ⟨h.1, ?_⟩
  rcases h.2 with hn | ⟨g, cap, cur, rfl, hg, hr⟩
  · exact Or.inl hn
  · exact Or.inr ⟨g, cap, cur, rfl, Nat.le_trans hb hg, hr⟩
theorem Own.alloc {w : World} {base : Nat} {v : Value} {l : List Pr} (h : Own w base v l) (x : Obj) : Own (w.alloc x) base v l := World.ownsRow.alloc h x
theorem Own.drew {w : World} {base : Nat} {v : Value} {l : List Pr} (h : Own w base v l) : Own w.drew base v l := h
theorem Own.fr {w w' : World} {base : Nat} {v : Value} {l : List Pr} {S : Nat → Prop} (h : Own w base v l) (hf : Fr S w w') (hs : ∀ g, v.ownBlock = some g → ¬ S g) : Own w' base v l := by
  refine ⟨h.1, ?_⟩
  rcases h.2 with hn | ⟨g, cap, cur, rfl, hb, hg, hr⟩
  · exact Or.inl hn
  · exact Or.inr ⟨g, cap, cur, rfl, hb, (hf.block g (lt_of_block hg) (hs g rfl)).trans hg, hr⟩
/-- which blocks an append may turn -/
def Of (v : Value) : Nat → Prop := fun k => v.ownBlock = some k
theorem Sl.frS {w w' : World} {v : Value} {l : List Pr} {S : Nat → Prop} (h : Sl w v l) (hf : Fr S w w') (hs : ∀ g, v.ownBlock = some g → ¬ S g) : Sl w' v l := by
  rcases h with h | ⟨g, o, cap, rfl, hc, ha, hr⟩
  · exact Or.inl h
  · exact Or.inr ⟨g, o, cap, rfl, hc, Nat.lt_of_lt_of_le ha hf.size, hr.fr hf ha (hs g rfl)⟩

theorem wp_app {o : Oper} {a : Act} {K : Act → World → Prop} {Q : Exit → Act → World → Prop} {w : World} (s x : Operand)
    (ho : o.op = .call { callee := .builtin .append, args := #[s, x], argTypes := #[22, 22] })
    (base : Nat) (v y : Value) (l1 l2 : List Pr) (hs : a.eval s = v) (hown : Own w base v l1) (hx : a.eval x = y) (hy : Sl w y l2) (hl : l1.length + l2.length ≤ 100000) (hbase : base ≤ w.heap.size)
    (h : ∀ v' w', Own w' base v' (l1 ++ l2) → Fr (Of v) w w' → (∀ g, v.ownBlock = some g → base ≤ g ∧ g < w.heap.size) → (v' = .slice none 0 0 → v = .slice none 0 0) → K (a.put o.dst v') w') : o.wp Try.prog a w K Q := by
  obtain ⟨i0, hi, hz0, hz1, hz2⟩ := info_parts Try.info_pair
  rcases hy with ⟨rfl, rfl⟩ | ⟨g, off, cap, rfl, hc, ha, hr⟩
  · have hrun := run_append_owned_none (P := Try.prog) (w := w) base 22 o.type 28 i0 2 Try.underlying22 hi v l1.length (flat l1) hown
    unfold Oper.wp
    simp [execOp, ho, resolve, invoke, builtin, hs, hx, hrun, Result.andThen]
    exact h _ _ (by rw [List.append_nil]; exact hown) (Fr.refl _ _) (fun g hg => World.ownsRow.lt hown g hg) id
  · refine wp_append_own w s x 22 ho base 28 i0 _ 2 16 Try.underlying22 hi hz0 hz1 hz2 rfl (by decide) v l1.length (flat l1) hs hown ⟨g, off, none⟩ l2.length cap (flat l2) hx (flat_len l2) hr.flat (flat_one _) (by unfold maxLen; omega) (by omega) hbase ?_
    intro v' w' h1 h2 h3
    refine h v' w' ?_ (Fr.of_grown h2 fun g hg _ => hg) (fun g hg => World.ownsRow.lt hown g hg) fun e => (h3.1 e).1
    unfold Own
    rw [List.length_append, flat_append]
    exact h1

theorem one_sl (w : World) (p : Pr) : Sl (w.alloc (.cells #[.int .i64 p.1, .int .i64 p.2] 28)) (.slice (some ⟨w.heap.size, 0, none⟩) 1 1) [p] :=
  Or.inr ⟨w.heap.size, 0, 1, rfl, by simp, by simp, fun i q h => by
    have hi : i = 0 := by have := (List.getElem?_eq_some_iff.1 h).1; simpa using this
    subst hi
    simp at h
    subst h
    exact ⟨(Bk.new w _ _).cell 0, (Bk.new w _ _).cell 1⟩⟩
theorem one_sl' {w : World} {g : Nat} (p : Pr) (hg : g = w.heap.size) : Sl (w.alloc (.cells #[.int .i64 p.1, .int .i64 p.2] 28)) (.slice (some ⟨g, 0, none⟩) 1 1) [p] := by subst hg; exact one_sl w p
theorem Sl.alloc {w : World} {v : Value} {l : List Pr} (h : Sl w v l) (x : Obj) : Sl (w.alloc x) v l := h.fr ((Fr.refl Nil w).alloc x)
theorem Sl.drew {w : World} {v : Value} {l : List Pr} (h : Sl w v l) : Sl w.drew v l := h.fr (Fr.refl Nil w).drew
end Go.Proofs.Ytokgeegbeagblaa.SortD
