/- Chapter 3: the walk of the law KernAreas. -/
import Derived.Test.YtalbaopfdejooaaAreaD
import Derived.Test.YtalbaopfdejooaaKernG
import Derived.Deep.DeepCutAuto
import Derived.Deep.MidRow
import Derived.BigQuiet
namespace Go.Proofs.Ytalbaopfdejooaa.AreaE
open Go.RowKit Base Slices RowsA KernA KernB AreaA AreaB AreaC AreaD WideB Quiet
set_option linter.unusedVariables false
set_option linter.unusedSimpArgs false
theorem of_made {g : Nat} {n m : Nat} {i : Nat} (h : Slices.Of (.slice (some ⟨g, 0, none⟩) n m) i) : i = g := by
  unfold Slices.Of at h
  simp [Value.ownBlock] at h
  omega
section
variable {ops : Array Oper} {C : World → Prop} {Q : Act → Prop} {a : Act} {rest : List Oper} {dst : Option Tmp} {ty t2 : TypeId} {pos : String} {aft : Array Edge} {gd : Option (Nat × Bool)}
theorem wpQuiet_loadP {y : Operand} {g o : Nat} {p : Pn} (hw : Region.wanted ⟨dst, .load 34 y, ty, pos, aft, gd⟩ (yielded ops a.tmps) = true) (hx : a.eval y = .pointer (some ⟨g, o, none⟩)) (hC : ∀ w, C w → w.rangeAt g o (pc p))
    (h : wpQuiet Try.prog ops C Q rest (a.put dst (.agg (pc p).toArray))) : wpQuiet Try.prog ops C Q (⟨dst, .load 34 y, ty, pos, aft, gd⟩ :: rest) a :=
  BigFrame.wpQuiet_want hw fun K hK => ⟨_, fun w hw' => by
    unfold Oper.quietAt execOp
    simp only [hx, Instr.loadAt, Instr.sureAddr, Sem.run_bind, Sem.run_pure, Result.andThen_ok, run_loadVar_mid w g o 34 (pc p) _ (hC w hw') Try.underlying34 rfl pt_row.size]
    exact ⟨rfl, rfl⟩, hK _ h⟩
theorem wpQuiet_loadD {y : Operand} {m : Nat} {n : Int} (hw : Region.wanted ⟨dst, .load 41 y, ty, pos, aft, gd⟩ (yielded ops a.tmps) = true) (hx : a.eval y = .pointer (some ⟨m, 0, none⟩)) (hC : ∀ w, C w → Bk w m 41 (dcells n))
    (h : wpQuiet Try.prog ops C Q rest (a.put dst (.agg (dcells n)))) : wpQuiet Try.prog ops C Q (⟨dst, .load 41 y, ty, pos, aft, gd⟩ :: rest) a :=
  BigFrame.wpQuiet_want hw fun K hK => ⟨_, fun w hw' => by
    unfold Oper.quietAt execOp
    simp only [hx, Instr.loadAt, Instr.sureAddr, Sem.run_bind, Sem.run_pure, Result.andThen_ok, loadT_run digits_row (hC w hw') rfl]
    exact ⟨rfl, rfl⟩, hK _ h⟩
end
theorem dcells_one (n : Int) : (dcells n).all (·.oneCell') = true := by simp [dcells, Value.oneCell']
theorem row_range {w : World} {g o : Nat} {l : List Pn} (h : Row EPt w g o l) {i : Nat} {p : Pn} (hp : l[i]? = some p) : w.rangeAt g (o + i * 3) (pc p) := fun j v hv => by
  rw [Nat.add_assoc]
  exact Row.at EPt_ok h hp (j := j) (u := v) hv
theorem rl_any (p : Pn) (w : World) : Calls Try.prog 39 #[.agg #[.int .i64 p.1, .int .i64 p.2.1, .int .i64 p.2.2]] w fun e w' => e = .returned (.bool (lie p)) ∧ Fr Nil w w' := KernB.rlies_any p.1 p.2.1 p.2.2 w
theorem turn3 {l : List Pn} {a b c : Pn} (h0 : l[0]? = some a) (h1 : l[1]? = some b) (h2 : l[2]? = some c) (h3 : l.length = 3) (hl : ∀ (j : Nat) p, l[j]? = some p → lie p = true) : tz a.2.1 a.2.2 b.2.1 b.2.2 c.2.1 c.2.2 = WideF.cmpI (S l l.length) 0 := by
  obtain rfl : l = [a, b, c] := by
    apply List.ext_getElem?
    intro i
    match i with
    | 0 => exact h0
    | 1 => exact h1
    | 2 => exact h2
    | i + 3 => rw [List.getElem?_eq_none (by omega), List.getElem?_eq_none (by simp)]
  have la := hl 0 a h0
  have lb := hl 1 b h1
  have lc := hl 2 c h2
  show _ = WideF.cmpI (S [a, b, c] 3) 0
  rw [S_three la lb lc]
  refine KernC.tz_yes ?_
  unfold lie at la lb lc
  rw [la, lb, lc]; rfl
theorem turn_p (a b c : Pn) (w : World) : Calls Try.prog 45 #[.agg (pc a).toArray, .agg (pc b).toArray, .agg (pc c).toArray] w fun e w' => e = .returned (.int .i64 (tz a.2.1 a.2.2 b.2.1 b.2.2 c.2.1 c.2.2)) ∧ Fr Nil w w' :=
  KernC.Turn_any a.1 a.2.1 a.2.2 b.1 b.2.1 b.2.2 c.1 c.2.1 c.2.2 w
/-- behind so many rounds -/
def LAt (w6 : World) (gw g5 : Nat) (H L : Int) (l : List Pn) (i : Value) (wr : World) : Prop := ∃ k : Nat, k ≤ l.length ∧ i = .int .i64 k ∧ Bk wr gw 56 #[.int .i64 H, .int .u64 L] ∧ Bk wr g5 41 (dcells (S l k)) ∧ Fr Nil w6 wr ∧ ∀ (j : Nat) p, j < k → l[j]? = some p → lie p = true

end Go.Proofs.Ytalbaopfdejooaa.AreaE
