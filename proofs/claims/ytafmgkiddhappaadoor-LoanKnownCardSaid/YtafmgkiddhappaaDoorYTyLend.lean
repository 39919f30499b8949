/- What the program says of its types: fields, elements, zero values. Conditions: none. -/
import Derived.Test.YtafmgkiddhappaaDoorZSb
import Derived.Test.YtafmgkiddhappaaDoorProg
import Derived.Laws.StructEq
namespace Go.Proofs.YtafmgkiddhappaaDoor
open Go.Sx Go.RowKit
set_option maxRecDepth 20000
theorem eq52 (a0 b0 : Int) (a1 b1 : Int) (a2 b2 : Int) (x y : Operand) (w : World) : (do eqGuard .eql 52 x y (.agg #[.int .i64 a0, .int .i64 a1, .int .i64 a2]) (.agg #[.int .i64 b0, .int .i64 b1, .int .i64 b2]); binOp .eql 52 (.agg #[.int .i64 a0, .int .i64 a1, .int .i64 a2]) (.agg #[.int .i64 b0, .int .i64 b1, .int .i64 b2]) : Sem Value).run Tryd.prog w = .ok (.bool ((a0 == b0) && (a1 == b1) && (a2 == b2))) w := by
  simp [go_sem, Tryd.eqGuardType52, Tryd.stoodInHeld52, Tryd.underlying52, Tryd.underlying3]
  try ((repeat' split) <;> simp_all)
theorem fa86_0 : FieldIs Tryd.prog 86 0 0 1 false := ⟨⟨_, _, Tryd.underlying86, rfl, rfl, Tryd.sizeOf84, Tryd.isAgg84, by decide⟩⟩
theorem fa86_1 : FieldIs Tryd.prog 86 1 1 1 false := ⟨⟨_, _, Tryd.underlying86, rfl, rfl, Tryd.sizeOf9, Tryd.isAgg9, by decide⟩⟩
theorem fa86_2 : FieldIs Tryd.prog 86 2 2 1 false := ⟨⟨_, _, Tryd.underlying86, rfl, rfl, Tryd.sizeOf3, Tryd.isAgg3, by decide⟩⟩
theorem fa95_0 : FieldIs Tryd.prog 95 0 0 1 false := ⟨⟨_, _, Tryd.underlying95, rfl, rfl, Tryd.sizeOf9, Tryd.isAgg9, by decide⟩⟩
theorem fa95_1 : FieldIs Tryd.prog 95 1 1 3 true := ⟨⟨_, _, Tryd.underlying95, rfl, rfl, Tryd.sizeOf52, Tryd.isAgg52, by decide⟩⟩
end Go.Proofs.YtafmgkiddhappaaDoor
