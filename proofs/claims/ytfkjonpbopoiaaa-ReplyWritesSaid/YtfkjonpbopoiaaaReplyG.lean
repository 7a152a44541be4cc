/- Chapter 30: a reply that comes in as an argument. -/
import Derived.Test.YtfkjonpbopoiaaaReplyE
import Derived.Deep.Slices
import Derived.ProofKit
import Derived.OpenShut
namespace Go.Proofs.Ytfkjonpbopoiaaa.ReplyG
open Go.ChangeShapes Go.WideShapes Go.ChangeAt Go.RowKit Go.Deep Base Slices ReplyA ReplyE
set_option linter.unusedVariables false
set_option linter.unusedSimpArgs false

theorem reply_fields : ∃ f0 f1 f2 f3 : Field, Try.prog.underlying 27 = some (.struct #[f0, f1, f2, f3]) ∧ (f0.offset = 0 ∧ f0.type = 22) ∧ (f1.offset = 1 ∧ f1.type = 4) ∧ (f2.offset = 2 ∧ f2.type = 4) ∧ (f3.offset = 3 ∧ f3.type = 25) := ⟨_, _, _, _, Try.underlying27, ⟨by kernel_rfl, by kernel_rfl⟩, ⟨by kernel_rfl, by kernel_rfl⟩, ⟨by kernel_rfl, by kernel_rfl⟩, ⟨by kernel_rfl, by kernel_rfl⟩⟩
theorem answer_fields : ∃ f0 f1 : Field, Try.prog.underlying 25 = some (.struct #[f0, f1]) ∧ (f0.offset = 0 ∧ f0.type = 3) ∧ (f1.offset = 1 ∧ f1.type = 23) := ⟨_, _, Try.underlying25, ⟨by kernel_rfl, by kernel_rfl⟩, ⟨by kernel_rfl, by kernel_rfl⟩⟩
theorem c_reply : Try.prog.cellsOf 27 = 5 := by kernel_rfl
theorem c_answer : Try.prog.cellsOf 25 = 2 := by kernel_rfl
theorem c_int : Try.prog.cellsOf 3 = 1 := by kernel_rfl
theorem c_errno : Try.prog.cellsOf 22 = 1 := by kernel_rfl
theorem c_bool : Try.prog.cellsOf 4 = 1 := by kernel_rfl
theorem c_ints : Try.prog.cellsOf 23 = 1 := by kernel_rfl
def decI (vs : List Value) : Int := match vs with | [.int _ n] => n | _ => 0

theorem list5 {α : Type} {l : List α} (h : l.length = 5) : ∃ a b c d e, l = [a, b, c, d, e] := by
  match l, h with
  | [a, b, c, d, e], _ => exact ⟨a, b, c, d, e, rfl⟩

theorem open_reply {H : Type} {enc : TypeId × Value → H} {w : World} {base : Nat} {v : Value} {d : DataW H} {p : List MemPlace} (hv : Value.okWide Try.prog w .any base 27 v) (h : DataW.Trod enc Try.prog w 0 (fun _ => true) true 27 v d p) :
    ∃ r : Rp, Rc w v r ∧ r.ids.length ≤ maxLen := by
  obtain ⟨f0, f1, f2, f3, hfs, ⟨o0, t0⟩, ⟨o1, t1⟩, ⟨o2, t2⟩, ⟨o3, t3⟩⟩ := reply_fields
  obtain ⟨k0, k1, hks, ⟨p0, s0⟩, ⟨p1, s1⟩⟩ := answer_fields
  obtain ⟨cs, rfl, hcs⟩ := okWide_struct hfs hv
  obtain ⟨fuel, hf⟩ := h
  have hf : DataW.trod enc Try.prog w 0 (fun _ => true) true fuel 27 cs.toList = some (d, p) := by simpa [Value.cells] using hf
  obtain ⟨xs, k, _, _, hl2, hxl, hfd⟩ := DataW.trod_struct hfs hf
  rw [c_reply] at hl2
  obtain ⟨a0, a1, a2, a3, a4, hl⟩ := list5 hl2
  have hcs' : cs = #[a0, a1, a2, a3, a4] := by rw [← Array.toArray_toList (xs := cs), hl]
  subst hcs'
  have g0 := hfd 0 f0 rfl
  have g1 := hfd 1 f1 rfl
  have g2 := hfd 2 f2 rfl
  have g3 := hfd 3 f3 rfl
  have hxl' : xs.length = 4 := hxl
  rw [o0, t0, c_errno, List.getElem?_eq_getElem (by omega)] at g0
  rw [o1, t1, c_bool, List.getElem?_eq_getElem (by omega)] at g1
  rw [o2, t2, c_bool, List.getElem?_eq_getElem (by omega)] at g2
  rw [o3, t3, c_answer, List.getElem?_eq_getElem (by omega)] at g3
  obtain ⟨c, e0, _, _⟩ := DataW.trod_int Try.underlying22 g0
  obtain ⟨b1, e1, _⟩ := DataW.trod_bool Try.underlying4 g1
  obtain ⟨b2, e2, _⟩ := DataW.trod_bool Try.underlying4 g2
  obtain ⟨ys, k', _, _, hl3, hyl, hfd'⟩ := DataW.trod_struct hks g3
  have g4 := hfd' 0 k0 rfl
  have g5 := hfd' 1 k1 rfl
  have hyl' : ys.length = 2 := hyl
  rw [p0, s0, c_int, List.getElem?_eq_getElem (by omega)] at g4
  rw [p1, s1, c_ints, List.getElem?_eq_getElem (by omega)] at g5
  obtain ⟨n, e3, _, _⟩ := DataW.trod_int Try.underlying3 g4
  obtain ⟨u, l, e4, e5, e6, e7⟩ := come_of_trod (ks := [.i .i64]) EI_ok 9 (by kernel_rfl) c_int decI (fun vs hvs => by
    obtain ⟨_, ws, rfl, ⟨n, rfl, _, _⟩, h⟩ := Leaf.Leafs.cons hvs
    obtain rfl : ws = [] := h
    rfl) g5
  simp at e0 e1 e2 e3 e4
  subst e0 e1 e2 e3 e4
  exact ⟨⟨c, b1, b2, n, l⟩, ⟨_, rfl, e5⟩, e6⟩
end Go.Proofs.Ytfkjonpbopoiaaa.ReplyG
