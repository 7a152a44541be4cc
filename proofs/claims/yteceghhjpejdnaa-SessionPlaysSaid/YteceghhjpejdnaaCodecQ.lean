/- Chapter 29: the walk of ref.Encode. -/
import Derived.Test.YteceghhjpejdnaaCodecM
namespace Go.Proofs.Yteceghhjpejdnaa.CodecQ
open Go.RowKit Base Big Slices VintA VintB VintC VintD CodecA CodecB CodecC CodecM Quiet
set_option linter.unusedVariables false
set_option linter.unusedSimpArgs false

section
variable (w : World)
end
end Go.Proofs.Yteceghhjpejdnaa.CodecQ
