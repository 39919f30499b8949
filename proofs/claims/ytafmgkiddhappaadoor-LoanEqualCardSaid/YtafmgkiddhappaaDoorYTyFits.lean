/- What the program says of its types: fields, elements, zero values. Conditions: none. -/
import Derived.Test.YtafmgkiddhappaaDoorZSb
import Derived.Test.YtafmgkiddhappaaDoorProg
import Derived.Laws.StructEq
namespace Go.Proofs.YtafmgkiddhappaaDoor
open Go.Sx Go.RowKit
set_option maxRecDepth 20000
theorem fa103_0 : FieldIs Tryd.prog 103 0 0 1 false := ⟨⟨_, _, Tryd.underlying103, rfl, rfl, Tryd.sizeOf9, Tryd.isAgg9, by decide⟩⟩
theorem fa103_1 : FieldIs Tryd.prog 103 1 1 1 false := ⟨⟨_, _, Tryd.underlying103, rfl, rfl, Tryd.sizeOf100, Tryd.isAgg100, by decide⟩⟩
theorem fa103_2 : FieldIs Tryd.prog 103 2 2 1 false := ⟨⟨_, _, Tryd.underlying103, rfl, rfl, Tryd.sizeOf101, Tryd.isAgg101, by decide⟩⟩
theorem fa177_2 : FieldIs Tryd.prog 177 2 2 1 false := ⟨⟨_, _, Tryd.underlying177, rfl, rfl, Tryd.sizeOf4, Tryd.isAgg4, by decide⟩⟩
end Go.Proofs.YtafmgkiddhappaaDoor
