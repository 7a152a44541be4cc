/- Loads and stores of whole structs or arrays in memory, in one step each. -/
import Derived.Test.YtalbaopfdejooaaBase
import Derived.Laws.Rows
import Derived.Laws.Tables
import Derived.Laws.CopyRow
import Derived.OrdersHeld
import Derived.RegionTactic
namespace Go.Proofs.Ytalbaopfdejooaa.RowsA
open Go.RowKit Base
set_option linter.unusedVariables false

/-- t is a struct or an array of n cells -/
structure RowT (P : Program) (t : TypeId) (n : Nat) : Prop where
  desc : (∃ fs, P.underlying t = some (.struct fs)) ∨ ∃ m e, P.underlying t = some (.array m e)
  size : (P.info? t).map (·.size) = some n

section
variable {P : Program} {w : World} {g : Nat} {T t : TypeId} {old cs : Array Value}
theorem bk_row (h : Bk w g T old) (cs : Array Value) : Bk (w.setRow g cs) g T cs := setRow_heap w g old cs T (0, 0) h
theorem fr_rowT (w : World) (g : Nat) (cs : Array Value) : Fr (fun k => k = g) w (w.setRow g cs) :=
  ⟨rfl, rfl, rfl, by simp, fun k hk hs => setRow_other w g k cs hs⟩
theorem loadT_run {n : Nat} (hT : RowT P t n) (hB : Bk w g T cs) (hn : cs.size = n) : (loadVar t ⟨g, 0, none⟩).run P w = .ok (.agg cs) w := by
  rcases hT with ⟨⟨fs, hu⟩ | ⟨m, e, hu⟩, hi⟩
  all_goals exact run_loadVar_row w g T t cs (0, 0) _ hB hu rfl (by rw [hn]; exact hi)
theorem wpList_loadT {n : Nat} {ops : Array Oper} {rest : List Oper} {a : Act} {Q : Exit → Act → World → Prop} {dst : Option Tmp} {x : Operand} {ty : TypeId} {pos : String} {aft : Array Edge}
    (hx : a.eval x = .pointer (some ⟨g, 0, none⟩)) (hT : RowT P t n) (hB : Bk w g T cs) (hn : cs.size = n) (h : wpList P ops Q rest (a.put dst (.agg cs)) w) : wpList P ops Q (⟨dst, .load t x, ty, pos, aft, none⟩ :: rest) a w := by
  rcases hT with ⟨⟨fs, hu⟩ | ⟨m, e, hu⟩, hi⟩
  all_goals exact wpList_load_row rfl t x rfl g hx T cs (0, 0) _ hB hu rfl (by rw [hn]; exact hi) h
theorem wpList_storeT {n : Nat} {ops : Array Oper} {rest : List Oper} {a : Act} {Q : Exit → Act → World → Prop} {dst : Option Tmp} {x y : Operand} {ty : TypeId} {pos : String} {aft : Array Edge}
    (hx : a.eval x = .pointer (some ⟨g, 0, none⟩)) (hy : a.eval y = .agg cs) (hT : RowT P t n) (hB : Bk w g T old) (ho : old.size = n) (hn : cs.size = n) (h1 : cs.all (·.oneCell') = true)
    (h : ∀ w', Bk w' g T cs → Fr (fun k => k = g) w w' → wpList P ops Q rest (a.put dst undef) w') : wpList P ops Q (⟨dst, .store t x y, ty, pos, aft, none⟩ :: rest) a w :=
  wpList_store_row rfl t x y rfl g cs hx hy T old hB (by rw [hn]; exact hT.size) (by rw [hn, ho]) h1 (h _ (bk_row hB cs) (fr_rowT w g cs))
theorem resT_run {n : Nat} {fn : Func} {p : Tmp} {tmps : Array Value} (h : fn.results = #[.cell p t]) (hp : tmps.getD p undef = .pointer (some ⟨g, 0, none⟩)) (hT : RowT P t n) (hB : Bk w g T cs) (hn : cs.size = n) :
    (results fn tmps).run P w = .ok (.agg cs) w := by
  rcases hT with ⟨⟨fs, hu⟩ | ⟨m, e, hu⟩, hi⟩
  all_goals exact results_cell_row h tmps w g T cs (0, 0) _ hp hB hu rfl (by rw [hn]; exact hi)
theorem resT_run2 {n : Nat} {fn : Func} {p q : Tmp} {tmps : Array Value} (h : fn.results = #[.cell p t, .tmp q]) (hp : tmps.getD p undef = .pointer (some ⟨g, 0, none⟩)) (hT : RowT P t n) (hB : Bk w g T cs) (hn : cs.size = n) {v : Value} (hv : tmps.getD q undef = v) :
    (results fn tmps).run P w = .ok (.tuple #[.agg cs, v]) w := by
  subst hv
  have hp' : tmps[p]?.getD undef = .pointer (some ⟨g, 0, none⟩) := by simpa using hp
  simp [results, h, hp', asAddr, loadT_run hT hB hn]
theorem yields_loadT {ops : Array Oper} {S : World → Prop} {n : Nat} {a : Act} {dst : Option Tmp} {x : Operand} {ty : TypeId} {pos : String} {aft : Array Edge} {gd : Option (Nat × Bool)}
    (hw : Region.wanted ⟨dst, .load t x, ty, pos, aft, gd⟩ (yielded ops a.tmps) = true)
    (hx : a.eval x = .pointer (some ⟨g, 0, none⟩)) (hT : RowT P t n) (hS : ∀ w, S w → Bk w g T cs) (hn : cs.size = n) : YieldsIf P ops S ⟨dst, .load t x, ty, pos, aft, gd⟩ (.agg cs) a :=
  .inl ⟨hw, fun w hw => by
    unfold execOp
    simp only [hx, Instr.loadAt, Instr.sureAddr, Sem.run_bind, Sem.run_pure, Result.andThen_ok, loadT_run hT (hS w hw) hn]⟩
theorem wpOp_loadT {ops : Array Oper} {n i : Nat} {Q : Exit → Act → World → Prop} {K : Act → World → Prop} {a : Act} {dst : Option Tmp} {x : Operand} {ty : TypeId} {pos : String} {aft : Array Edge}
    (hi : ops[i]? = some ⟨dst, .load t x, ty, pos, aft, none⟩) (hx : a.eval x = .pointer (some ⟨g, 0, none⟩)) (hT : RowT P t n) (hB : Bk w g T cs) (hn : cs.size = n)
    (h : K (a.put dst (.agg cs)) w) : wpOp P ops Q i K a w :=
  wpOp_step hi fun K' hK => by
    show (if true = true then _ else _)
    rw [if_pos rfl]
    unfold Oper.wp execOp
    simp only [hx, Instr.loadAt, Instr.sureAddr, Sem.run_bind, Sem.run_pure, Result.andThen_ok, loadT_run hT hB hn]
    exact hK _ _ h
theorem wpOp_storeT {ops : Array Oper} {n i : Nat} {Q : Exit → Act → World → Prop} {K : Act → World → Prop} {a : Act} {dst : Option Tmp} {x y : Operand} {ty : TypeId} {pos : String} {aft : Array Edge}
    (hi : ops[i]? = some ⟨dst, .store t x y, ty, pos, aft, none⟩) (hx : a.eval x = .pointer (some ⟨g, 0, none⟩)) (hy : a.eval y = .agg cs) (hT : RowT P t n) (hB : Bk w g T old) (ho : old.size = n) (hn : cs.size = n) (h1 : cs.all (·.oneCell') = true)
    (h : ∀ w', Bk w' g T cs → Fr (fun k => k = g) w w' → K (a.put dst undef) w') : wpOp P ops Q i K a w :=
  wpOp_step hi fun K' hK => by
    show (if true = true then _ else _)
    rw [if_pos rfl]
    exact wp_store_row t x y rfl g cs hx hy T old hB (by rw [hn]; exact hT.size) (by rw [hn, ho]) h1 (hK _ _ (h _ (bk_row hB cs) (fr_rowT w g cs)))
end
end Go.Proofs.Ytalbaopfdejooaa.RowsA
