/- What the program says of its types: fields, elements, zero values. Conditions: none. -/
import Derived.Test.YtafmgkiddhappaaDoorZSb
import Derived.Test.YtafmgkiddhappaaDoorProg
import Derived.Laws.StructEq
namespace Go.Proofs.YtafmgkiddhappaaDoor
open Go.Sx Go.RowKit
set_option maxRecDepth 20000
theorem fa156_0 : FieldIs Tryd.prog 156 0 0 10 true := ⟨⟨_, _, Tryd.underlying156, rfl, rfl, Tryd.sizeOf44, Tryd.isAgg44, by decide⟩⟩
theorem fa156_1 : FieldIs Tryd.prog 156 1 10 5 true := ⟨⟨_, _, Tryd.underlying156, rfl, rfl, Tryd.sizeOf64, Tryd.isAgg64, by decide⟩⟩
theorem fa156_2 : FieldIs Tryd.prog 156 2 15 1 false := ⟨⟨_, _, Tryd.underlying156, rfl, rfl, Tryd.sizeOf3, Tryd.isAgg3, by decide⟩⟩
theorem fa156_3 : FieldIs Tryd.prog 156 3 16 1 false := ⟨⟨_, _, Tryd.underlying156, rfl, rfl, Tryd.sizeOf3, Tryd.isAgg3, by decide⟩⟩
theorem fa156_4 : FieldIs Tryd.prog 156 4 17 1 false := ⟨⟨_, _, Tryd.underlying156, rfl, rfl, Tryd.sizeOf3, Tryd.isAgg3, by decide⟩⟩
theorem fa156_5 : FieldIs Tryd.prog 156 5 18 1 false := ⟨⟨_, _, Tryd.underlying156, rfl, rfl, Tryd.sizeOf3, Tryd.isAgg3, by decide⟩⟩
theorem fa156_6 : FieldIs Tryd.prog 156 6 19 1 false := ⟨⟨_, _, Tryd.underlying156, rfl, rfl, Tryd.sizeOf3, Tryd.isAgg3, by decide⟩⟩
theorem fa156_7 : FieldIs Tryd.prog 156 7 20 1 false := ⟨⟨_, _, Tryd.underlying156, rfl, rfl, Tryd.sizeOf3, Tryd.isAgg3, by decide⟩⟩
theorem st156 : StructIs Tryd.prog 156 [(0, 10), (10, 5), (15, 1), (16, 1), (17, 1), (18, 1), (19, 1), (20, 1)] [.int .i64 0, .int .i64 0, .int .i64 0, .int .i64 0, .int .i64 0, .int .i64 0, .int .i64 0, .slice none 0 0, .int .i64 0, .int .i64 0, .int .i64 0, .int .i64 0, .int .i64 0, .int .i64 0, .bool false, .int .i64 0, .int .i64 0, .int .i64 0, .int .i64 0, .int .i64 0, .int .i64 0] := ⟨⟨_, Tryd.underlying156, fun w => by simp [Tryd.sizeOf3, Tryd.sizeOf44, Tryd.sizeOf64], Tryd.zeroValue156⟩⟩
end Go.Proofs.YtafmgkiddhappaaDoor
