/- Chapter 29: the walk of ref.Numbers. -/
import Derived.Test.YteceghhjpejdnaaCodecK
import Derived.Deep.RegionHeldLaw
import Derived.Deep.DeepCutAuto
namespace Go.Proofs.Yteceghhjpejdnaa.CodecM
open Go.RowKit Base Big Slices VintA VintB VintC VintD CodecA CodecB CodecC
set_option linter.unusedVariables false
set_option linter.unusedSimpArgs false

theorem Try.info_int : (Try.prog.info? 3).map (fun i => (i.zero, i.size, i.bytes)) = some (some (.int .i64 0), 1, 8) := by kernel_rfl
/-- three blocks that hold a request's point, span, query -/
def Parts (w : World) (r : Rq) (x3 x4 x5 : Value) (wx : World) : Prop := ∃ a b c, x3 = .pointer (some ⟨a, 0, none⟩) ∧ x4 = .pointer (some ⟨b, 0, none⟩) ∧ x5 = .pointer (some ⟨c, 0, none⟩) ∧ Bk wx a 34 #[.int .i64 r.p0, .int .i64 r.p1, .int .i64 r.p2] ∧ Bk wx b 36 #[.int .i64 r.s0, .int .i64 r.s1, .int .i64 r.s2] ∧ Bk wx c 27 #[.int .i64 r.qk, .int .i64 r.x1, .int .i64 r.x2, .int .i64 r.y1, .int .i64 r.y2, .int .i64 r.v1, .int .i64 r.v2, .int .i64 r.v3, .int .i64 r.x, .int .i64 r.h] ∧ Fr Nil w wx

section
variable (w : World)
end
end Go.Proofs.Yteceghhjpejdnaa.CodecM
