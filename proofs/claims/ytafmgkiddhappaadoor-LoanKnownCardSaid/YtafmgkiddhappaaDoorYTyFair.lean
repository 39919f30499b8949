/- What the program says of its types: fields, elements, zero values. Conditions: none. -/
import Derived.Test.YtafmgkiddhappaaDoorZSb
import Derived.Test.YtafmgkiddhappaaDoorProg
import Derived.Laws.StructEq
namespace Go.Proofs.YtafmgkiddhappaaDoor
open Go.Sx Go.RowKit
set_option maxRecDepth 20000
theorem el22 : ElemIs Tryd.prog 22 56 5 40 := ⟨⟨_, (.agg #[.int .i64 0, .int .i64 0, .int .i64 0, .int .i64 0, .int .i64 0]), Tryd.underlying22, Tryd.type56, by kernel_rfl, by kernel_rfl, by kernel_rfl, by kernel_rfl, by decide⟩⟩
theorem fa54_0 : FieldIs Tryd.prog 54 0 0 3 true := ⟨⟨_, _, Tryd.underlying54, rfl, rfl, Tryd.sizeOf52, Tryd.isAgg52, by decide⟩⟩
theorem fa54_1 : FieldIs Tryd.prog 54 1 3 1 false := ⟨⟨_, _, Tryd.underlying54, rfl, rfl, Tryd.sizeOf3, Tryd.isAgg3, by decide⟩⟩
theorem fa54_2 : FieldIs Tryd.prog 54 2 4 1 false := ⟨⟨_, _, Tryd.underlying54, rfl, rfl, Tryd.sizeOf3, Tryd.isAgg3, by decide⟩⟩
end Go.Proofs.YtafmgkiddhappaaDoor
