/- What the program says of its types: fields, elements, zero values. Conditions: none. -/
import Derived.Test.YtafmgkiddhappaaDoorZSb
import Derived.Test.YtafmgkiddhappaaDoorProg
import Derived.Laws.StructEq
namespace Go.Proofs.YtafmgkiddhappaaDoor
open Go.Sx Go.RowKit
set_option maxRecDepth 20000
theorem st95 : StructIs Tryd.prog 95 [(0, 1), (1, 3)] [.string ⟨#[]⟩, .int .i64 0, .int .i64 0, .int .i64 0] := ⟨⟨_, Tryd.underlying95, fun w => by simp [Tryd.sizeOf52, Tryd.sizeOf9], Tryd.zeroValue95⟩⟩
end Go.Proofs.YtafmgkiddhappaaDoor
