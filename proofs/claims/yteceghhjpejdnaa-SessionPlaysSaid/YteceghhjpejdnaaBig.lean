/- Stores and loads of whole structs in memory, in one step each, whatever the number of their cells. -/
import Derived.Test.YteceghhjpejdnaaBase
import Derived.Laws.Rows
import Derived.Laws.Tables
import Derived.Laws.CopyRow
namespace Go.Proofs.Yteceghhjpejdnaa.Big
open Go.RowKit Base
set_option linter.unusedVariables false

/-- t is a struct of n cells -/
structure Str (P : Program) (t : TypeId) (n : Nat) : Prop where
  agg : ∃ fs, P.underlying t = some (.struct fs)
  size : (P.info? t).map (·.size) = some n

section
variable {P : Program} {w : World} {g : Nat} {T t : TypeId} {old cs : Array Value}
theorem Bk.row (h : Bk w g T old) (cs : Array Value) : Bk (w.setRow g cs) g T cs := setRow_heap w g old cs T (0, 0) h
theorem fr_row (w : World) (g : Nat) (cs : Array Value) : Fr (fun k => k = g) w (w.setRow g cs) :=
  ⟨rfl, rfl, rfl, by simp, fun k hk hs => setRow_other w g k cs hs⟩

theorem load_run {n : Nat} (hT : Str P t n) (hB : Bk w g T cs) (hn : cs.size = n) : (loadVar t ⟨g, 0, none⟩).run P w = .ok (.agg cs) w := by
  obtain ⟨⟨fs, hu⟩, hi⟩ := hT
  exact run_loadVar_row w g T t cs (0, 0) _ hB hu rfl (by rw [hn]; exact hi)
theorem wpList_load {n : Nat} {ops : Array Oper} {rest : List Oper} {a : Act} {Q : Exit → Act → World → Prop} {dst : Option Tmp} {x : Operand} {ty : TypeId} {pos : String} {aft : Array Edge}
    (hx : a.eval x = .pointer (some ⟨g, 0, none⟩)) (hT : Str P t n) (hB : Bk w g T cs) (hn : cs.size = n) (h : wpList P ops Q rest (a.put dst (.agg cs)) w) : wpList P ops Q (⟨dst, .load t x, ty, pos, aft, none⟩ :: rest) a w := by
  obtain ⟨⟨fs, hu⟩, hi⟩ := hT
  exact wpList_load_row rfl t x rfl g hx T cs (0, 0) _ hB hu rfl (by rw [hn]; exact hi) h
theorem wpList_store {n : Nat} {ops : Array Oper} {rest : List Oper} {a : Act} {Q : Exit → Act → World → Prop} {dst : Option Tmp} {x y : Operand} {ty : TypeId} {pos : String} {aft : Array Edge}
    (hx : a.eval x = .pointer (some ⟨g, 0, none⟩)) (hy : a.eval y = .agg cs) (hT : Str P t n) (hB : Bk w g T old) (ho : old.size = n) (hn : cs.size = n) (h1 : cs.all (·.oneCell') = true)
    (h : ∀ w', Bk w' g T cs → Fr (fun k => k = g) w w' → wpList P ops Q rest (a.put dst undef) w') : wpList P ops Q (⟨dst, .store t x y, ty, pos, aft, none⟩ :: rest) a w :=
  wpList_store_row rfl t x y rfl g cs hx hy T old hB (by rw [hn]; exact hT.size) (by rw [hn, ho]) h1 (h _ (Bk.row hB cs) (fr_row w g cs))
theorem res_run {n : Nat} {fn : Func} {p : Tmp} {tmps : Array Value} (h : fn.results = #[.cell p t]) (hp : tmps.getD p undef = .pointer (some ⟨g, 0, none⟩)) (hT : Str P t n) (hB : Bk w g T cs) (hn : cs.size = n) :
    (results fn tmps).run P w = .ok (.agg cs) w := by
  obtain ⟨⟨fs, hu⟩, hi⟩ := hT
  exact results_cell_row h tmps w g T cs (0, 0) _ hp hB hu rfl (by rw [hn]; exact hi)
theorem res_run2 {n : Nat} {fn : Func} {p q : Tmp} {tmps : Array Value} (h : fn.results = #[.cell p t, .tmp q]) (hp : tmps.getD p undef = .pointer (some ⟨g, 0, none⟩)) (hT : Str P t n) (hB : Bk w g T cs) (hn : cs.size = n) {v : Value} (hv : tmps.getD q undef = v) :
    (results fn tmps).run P w = .ok (.tuple #[.agg cs, v]) w := by
  subst hv
  have hp' : tmps[p]?.getD undef = .pointer (some ⟨g, 0, none⟩) := by simpa using hp
  simp [results, h, hp', asAddr, load_run hT hB hn]
end
end Go.Proofs.Yteceghhjpejdnaa.Big
