/- Loads and stores of whole structs inside a region that draws its order. -/
import Derived.Test.YteceghhjpejdnaaBig
import Derived.OrdersHeld
import Derived.RegionTactic
namespace Go.Proofs.Yteceghhjpejdnaa.Big
open Go.RowKit Base
set_option linter.unusedVariables false

section
variable {P : Program} {g : Nat} {T t : TypeId} {old cs : Array Value} {ops : Array Oper} {S : World → Prop}
theorem yields_load {n : Nat} {a : Act} {dst : Option Tmp} {x : Operand} {ty : TypeId} {pos : String} {aft : Array Edge}
    (hx : a.eval x = .pointer (some ⟨g, 0, none⟩)) (hT : Str P t n) (hS : ∀ w, S w → Bk w g T cs) (hn : cs.size = n) : YieldsIf P ops S ⟨dst, .load t x, ty, pos, aft, none⟩ (.agg cs) a :=
  .inl ⟨rfl, fun w hw => by
    obtain ⟨⟨fs, hu⟩, hi⟩ := hT
    unfold execOp
    simp only [hx, Instr.loadAt, Instr.sureAddr, Sem.run_bind, Sem.run_pure, Result.andThen_ok, run_loadVar_row w g T t cs (0, 0) _ (hS w hw) hu rfl (by rw [hn]; exact hi)]⟩
theorem wpOp_storeB {n i : Nat} {Q : Exit → Act → World → Prop} {K : Act → World → Prop} {a : Act} {w : World} {dst : Option Tmp} {x y : Operand} {ty : TypeId} {pos : String} {aft : Array Edge}
    (hi : ops[i]? = some ⟨dst, .store t x y, ty, pos, aft, none⟩) (hx : a.eval x = .pointer (some ⟨g, 0, none⟩)) (hy : a.eval y = .agg cs) (hT : Str P t n) (hB : Bk w g T old) (ho : old.size = n) (hn : cs.size = n) (h1 : cs.all (·.oneCell') = true)
    (h : ∀ w', Bk w' g T cs → Fr (fun k => k = g) w w' → K (a.put dst undef) w') : wpOp P ops Q i K a w :=
  wpOp_step hi fun K' hK => by
    show (if true = true then _ else _)
    rw [if_pos rfl]
    exact wp_store_row t x y rfl g cs hx hy T old hB (by rw [hn]; exact hT.size) (by rw [hn, ho]) h1 (hK _ _ (h _ (Bk.row hB cs) (fr_row w g cs)))
end
end Go.Proofs.Yteceghhjpejdnaa.Big
