/- Chapter 29: '==' of requests. -/
import Derived.Test.YteceghhjpejdnaaCodecB
import Derived.Laws.StructEq
namespace Go.Proofs.Yteceghhjpejdnaa.CodecI
open Go.RowKit Base CodecA CodecB
set_option linter.unusedVariables false
set_option linter.unusedSimpArgs false

theorem under {P : Program} {t : TypeId} {fs : Array Field} (h : P.underlying t = some (.struct fs)) : P.underlying t = some (.struct (P.fieldsOf t)) := by
  rw [h]
  simp [Program.fieldsOf, h]
theorem fields_of {P : Program} {t : TypeId} {fs : Array Field} (h : P.underlying t = some (.struct fs)) : P.fieldsOf t = fs := by
  simp [Program.fieldsOf, h]
theorem Try.held_req : Try.prog.stoodInHeld 40 = false := by kernel_rfl
theorem Try.held_change : Try.prog.stoodInHeld 38 = false := by kernel_rfl
theorem Try.held_query : Try.prog.stoodInHeld 27 = false := by kernel_rfl
theorem Try.held_point : Try.prog.stoodInHeld 34 = false := by kernel_rfl
theorem Try.held_span : Try.prog.stoodInHeld 36 = false := by kernel_rfl
theorem Try.held_box : Try.prog.stoodInHeld 23 = false := by kernel_rfl
theorem Try.held_win : Try.prog.stoodInHeld 25 = false := by kernel_rfl
theorem Try.guard_req : Try.prog.eqGuardType Try.prog.depth 40 = false := by kernel_rfl

theorem qi_inj {x y : Rq} (h : qi x = qi y) : x = y := by
  obtain ⟨k, ck, p0, p1, p2, s0, s1, s2, qk, x1, x2, y1, y2, v1, v2, v3, x, h⟩ := x
  obtain ⟨k', ck', p0', p1', p2', s0', s1', s2', qk', x1', x2', y1', y2', v1', v2', v3', x', h'⟩ := y
  simpa [qi] using h
set_option maxHeartbeats 2000000 in
theorem eq_run (W : World) (x y : Rq) : (Op.equalIn 10000 40 (.agg (qc x)) (.agg (qc y))).run Try.prog W = .ok (decide (qi x = qi y)) W := by
  have c24 : Try.prog.fieldsOf 34 = _ := fields_of Try.underlying34
  have c26 : Try.prog.fieldsOf 36 = _ := fields_of Try.underlying36
  have c28 : Try.prog.fieldsOf 38 = _ := fields_of Try.underlying38
  have c30 : Try.prog.fieldsOf 23 = _ := fields_of Try.underlying23
  have c32 : Try.prog.fieldsOf 25 = _ := fields_of Try.underlying25
  have c34 : Try.prog.fieldsOf 27 = _ := fields_of Try.underlying27
  have u3 := Try.underlying3
  rw [run_equalIn_agg W 9999 _ _ _ (under Try.underlying40) Try.held_req, fields_of Try.underlying40]
  simp [Op.eqFields, go_sem, qc, c24, c26, c28, c30, c32, c34, u3, Try.held_change, Try.held_query, Try.held_point, Try.held_span, Try.held_box, Try.held_win]
  clear c24 c26 c28 c30 c32 c34 u3
  by_cases h : qi x = qi y
  · rw [decide_eq_true h]
    obtain rfl := qi_inj h
    simp
  · rw [decide_eq_false h]
    by_cases e0 : x.k = y.k
    case neg => rw [if_neg e0]
    rw [if_pos e0]
    by_cases e1 : x.ck = y.ck
    case neg => rw [if_neg e1]
    rw [if_pos e1]
    by_cases e2 : x.p0 = y.p0
    case neg => rw [if_neg e2]
    rw [if_pos e2]
    by_cases e3 : x.p1 = y.p1
    case neg => rw [if_neg e3]
    rw [if_pos e3]
    by_cases e4 : x.p2 = y.p2
    case neg => rw [if_neg e4]
    rw [if_pos e4]
    by_cases e5 : x.s0 = y.s0
    case neg => rw [if_neg e5]
    rw [if_pos e5]
    by_cases e6 : x.s1 = y.s1
    case neg => rw [if_neg e6]
    rw [if_pos e6]
    by_cases e7 : x.s2 = y.s2
    case neg => rw [if_neg e7]
    rw [if_pos e7]
    by_cases e8 : x.qk = y.qk
    case neg => rw [if_neg e8]
    rw [if_pos e8]
    by_cases e9 : x.x1 = y.x1
    case neg => rw [if_neg e9]
    rw [if_pos e9]
    by_cases e10 : x.x2 = y.x2
    case neg => rw [if_neg e10]
    rw [if_pos e10]
    by_cases e11 : x.y1 = y.y1
    case neg => rw [if_neg e11]
    rw [if_pos e11]
    by_cases e12 : x.y2 = y.y2
    case neg => rw [if_neg e12]
    rw [if_pos e12]
    by_cases e13 : x.v1 = y.v1
    case neg => rw [if_neg e13]
    rw [if_pos e13]
    by_cases e14 : x.v2 = y.v2
    case neg => rw [if_neg e14]
    rw [if_pos e14]
    by_cases e15 : x.v3 = y.v3
    case neg => rw [if_neg e15]
    rw [if_pos e15]
    by_cases e16 : x.x = y.x
    case neg => rw [if_neg e16]
    rw [if_pos e16]
    by_cases e17 : x.h = y.h
    case neg => rw [if_neg e17]
    rw [if_pos e17]
    exact absurd (show qi x = qi y by unfold qi; rw [e0, e1, e2, e3, e4, e5, e6, e7, e8, e9, e10, e11, e12, e13, e14, e15, e16, e17]) h
theorem exec_eq (W : World) (a : Act) (p q : Rq) {dst : Option Tmp} {x y : Operand} {ty t2 : TypeId} {pos : String} {aft : Array Edge} (hx : a.eval x = .agg (qc p)) (hy : a.eval y = .agg (qc q)) :
    (execOp a.eval ⟨dst, .binOp .eql 40 x y t2, ty, pos, aft, none⟩).run Try.prog W = .ok (.value (.bool (decide (qi p = qi q)))) W := by
  unfold execOp
  simp only [hx, hy]
  simp only [Sem.run_bind, run_eqGuard_agg W _ _ _ _ _ _ Try.guard_req, Result.andThen_ok, run_eql_struct, eq_run, Sem.run_pure]
end Go.Proofs.Yteceghhjpejdnaa.CodecI
