/- What the program says of its types: fields, elements, zero values. Conditions: none. -/
import Derived.Test.YtafmgkiddhappaaDoorZSb
import Derived.Test.YtafmgkiddhappaaDoorProg
import Derived.Laws.StructEq
namespace Go.Proofs.YtafmgkiddhappaaDoor
open Go.Sx Go.RowKit
set_option maxRecDepth 20000
theorem el100 : ElemIs Tryd.prog 100 9 1 16 := ⟨⟨_, (.string ⟨#[]⟩), Tryd.underlying100, Tryd.type9, by kernel_rfl, by kernel_rfl, by kernel_rfl, by kernel_rfl, by decide⟩⟩
theorem fa172_0 : FieldIs Tryd.prog 172 0 0 1 false := ⟨⟨_, _, Tryd.underlying172, rfl, rfl, Tryd.sizeOf9, Tryd.isAgg9, by decide⟩⟩
theorem fa172_1 : FieldIs Tryd.prog 172 1 1 1 false := ⟨⟨_, _, Tryd.underlying172, rfl, rfl, Tryd.sizeOf170, Tryd.isAgg170, by decide⟩⟩
theorem fa172_2 : FieldIs Tryd.prog 172 2 2 1 false := ⟨⟨_, _, Tryd.underlying172, rfl, rfl, Tryd.sizeOf100, Tryd.isAgg100, by decide⟩⟩
theorem fa172_3 : FieldIs Tryd.prog 172 3 3 1 false := ⟨⟨_, _, Tryd.underlying172, rfl, rfl, Tryd.sizeOf3, Tryd.isAgg3, by decide⟩⟩
theorem fa177_0 : FieldIs Tryd.prog 177 0 0 1 false := ⟨⟨_, _, Tryd.underlying177, rfl, rfl, Tryd.sizeOf9, Tryd.isAgg9, by decide⟩⟩
theorem fa177_1 : FieldIs Tryd.prog 177 1 1 1 false := ⟨⟨_, _, Tryd.underlying177, rfl, rfl, Tryd.sizeOf100, Tryd.isAgg100, by decide⟩⟩
end Go.Proofs.YtafmgkiddhappaaDoor
