/- Chapter 30: the walk of the law ReplyReads, joined; bytes that come in as an argument. -/
import Derived.Test.YtfkjonpbopoiaaaReplyO
import Derived.Test.YtfkjonpbopoiaaaReplyG
namespace Go.Proofs.Ytfkjonpbopoiaaa.ReplyP
open Go.ChangeShapes Go.WideShapes Go.ChangeAt Go.RowKit Go.Deep Base Slices VintB VintD ReplyA ReplyE
theorem reads_any (w : World) (b0 : List Int) (r : Rp) (v u : Value) (hl : b0.length ≤ maxLen) (hb0 : Bytes b0) (hm : r.ids.length ≤ maxLen) (hv : Come EB w v b0) (hu : Rc w u r) :
    Calls Try.prog 4 #[v, u] w fun e w' => e = .returned (.bool true) ∧ Fr Nil w w' := by
  by_cases h : (300 : Int) < b0.length
  · exact ReplyN.reads_big w b0 r v u hl hb0 hm hv h hu
  · exact ReplyO.reads_small w b0 r v u hl hb0 hm hv h hu
theorem c_byte : Try.prog.cellsOf 5 = 1 := by kernel_rfl
theorem open_bytes {H : Type} {enc : TypeId × Value → H} {w : World} {base : Nat} {v : Value} {d : DataW H} {p : List MemPlace} (hv : Value.okWide Try.prog w .any base 29 v) (h : DataW.Trod enc Try.prog w 0 (fun _ => true) true 29 v d p) :
    ∃ l : List Int, Come EB w v l ∧ l.length ≤ maxLen ∧ Bytes l := by
  obtain ⟨l, h1, h2, h3⟩ := open_come (ks := [.i .u8]) EB_ok 9 (by kernel_rfl) c_byte (fun vs => match vs with | [.int _ n] => n | _ => 0) (fun vs hvs => by
    obtain ⟨_, ws, rfl, ⟨n, rfl, _, _⟩, h⟩ := Leaf.Leafs.cons hvs
    obtain rfl : ws = [] := h
    rfl) hv h
  refine ⟨l, h1, h2, fun x hx => ?_⟩
  obtain ⟨vs, hvs, rfl⟩ := h3 x hx
  obtain ⟨_, ws, rfl, ⟨n, rfl, b0, b1⟩, h⟩ := Leaf.Leafs.cons hvs
  obtain rfl : ws = [] := h
  have e : IntKind.u8.min = 0 ∧ IntKind.u8.max = 255 := by decide
  show 0 ≤ n ∧ n ≤ 255
  omega
end Go.Proofs.Ytfkjonpbopoiaaa.ReplyP
