/- What the program says of its types: fields, elements, zero values. Conditions: none. -/
import Derived.Test.YtafmgkiddhappaaDoorZSb
import Derived.Test.YtafmgkiddhappaaDoorProg
import Derived.Laws.StructEq
namespace Go.Proofs.YtafmgkiddhappaaDoor
open Go.Sx Go.RowKit
set_option maxRecDepth 20000
theorem fa105_0 : FieldIs Tryd.prog 105 0 0 1 false := ⟨⟨_, _, Tryd.underlying105, rfl, rfl, Tryd.sizeOf99, Tryd.isAgg99, by decide⟩⟩
theorem fa105_1 : FieldIs Tryd.prog 105 1 1 3 true := ⟨⟨_, _, Tryd.underlying105, rfl, rfl, Tryd.sizeOf103, Tryd.isAgg103, by decide⟩⟩
theorem fa105_2 : FieldIs Tryd.prog 105 2 4 3 true := ⟨⟨_, _, Tryd.underlying105, rfl, rfl, Tryd.sizeOf103, Tryd.isAgg103, by decide⟩⟩
theorem ne52 (a0 b0 : Int) (a1 b1 : Int) (a2 b2 : Int) (x y : Operand) (w : World) : (do eqGuard .neq 52 x y (.agg #[.int .i64 a0, .int .i64 a1, .int .i64 a2]) (.agg #[.int .i64 b0, .int .i64 b1, .int .i64 b2]); binOp .neq 52 (.agg #[.int .i64 a0, .int .i64 a1, .int .i64 a2]) (.agg #[.int .i64 b0, .int .i64 b1, .int .i64 b2]) : Sem Value).run Tryd.prog w = .ok (.bool (!((a0 == b0) && (a1 == b1) && (a2 == b2)))) w := by
  simp [go_sem, Tryd.eqGuardType52, Tryd.stoodInHeld52, Tryd.underlying52, Tryd.underlying3]
  try ((repeat' split) <;> simp_all)
end Go.Proofs.YtafmgkiddhappaaDoor
