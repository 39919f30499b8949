/- What the program says of its types: fields, elements, zero values. Conditions: none. -/
import Derived.Test.YtafmgkiddhappaaDoorSxL
import Derived.Test.YtafmgkiddhappaaDoorProg
import Derived.Laws.StructEq
namespace Go.Proofs.YtafmgkiddhappaaDoor
open Go.Sx Go.RowKit
set_option maxRecDepth 20000
theorem el23 : ElemIs Tryd.prog 23 3 1 8 := ⟨⟨_, (.int .i64 0), Tryd.underlying23, Tryd.type3, by kernel_rfl, by kernel_rfl, by kernel_rfl, by kernel_rfl, by decide⟩⟩
theorem el74 : ElemIs Tryd.prog 74 64 5 40 := ⟨⟨_, (.agg #[.int .i64 0, .int .i64 0, .int .i64 0, .int .i64 0, .bool false]), Tryd.underlying74, Tryd.type64, by kernel_rfl, by kernel_rfl, by kernel_rfl, by kernel_rfl, by decide⟩⟩
theorem eq27 (a0 b0 : Int) (a1 b1 : Int) (x y : Operand) (w : World) : (do eqGuard .eql 27 x y (.agg #[.int .i64 a0, .int .i64 a1]) (.agg #[.int .i64 b0, .int .i64 b1]); binOp .eql 27 (.agg #[.int .i64 a0, .int .i64 a1]) (.agg #[.int .i64 b0, .int .i64 b1]) : Sem Value).run Tryd.prog w = .ok (.bool ((a0 == b0) && (a1 == b1))) w := by
  simp [go_sem, Tryd.eqGuardType27, Tryd.stoodInHeld27, Tryd.underlying27, Tryd.underlying3]
  try ((repeat' split) <;> simp_all)
theorem eq64 (a0 b0 : Int) (a1 b1 : Int) (a2 b2 : Int) (a3 b3 : Int) (a4 b4 : Bool) (x y : Operand) (w : World) : (do eqGuard .eql 64 x y (.agg #[.int .i64 a0, .int .i64 a1, .int .i64 a2, .int .i64 a3, .bool a4]) (.agg #[.int .i64 b0, .int .i64 b1, .int .i64 b2, .int .i64 b3, .bool b4]); binOp .eql 64 (.agg #[.int .i64 a0, .int .i64 a1, .int .i64 a2, .int .i64 a3, .bool a4]) (.agg #[.int .i64 b0, .int .i64 b1, .int .i64 b2, .int .i64 b3, .bool b4]) : Sem Value).run Tryd.prog w = .ok (.bool ((a0 == b0) && (a1 == b1) && (a2 == b2) && (a3 == b3) && (a4 == b4))) w := by
  simp [go_sem, Tryd.eqGuardType64, Tryd.stoodInHeld64, Tryd.underlying64, Tryd.underlying3, Tryd.underlying4]
  try ((repeat' split) <;> simp_all)
theorem fa110_0 : FieldIs Tryd.prog 110 0 0 5 true := ⟨⟨_, _, Tryd.underlying110, rfl, rfl, Tryd.sizeOf25, Tryd.isAgg25, by decide⟩⟩
theorem fa119_0 : FieldIs Tryd.prog 119 0 0 1 false := ⟨⟨_, _, Tryd.underlying119, rfl, rfl, Tryd.sizeOf3, Tryd.isAgg3, by decide⟩⟩
theorem fa119_1 : FieldIs Tryd.prog 119 1 1 1 false := ⟨⟨_, _, Tryd.underlying119, rfl, rfl, Tryd.sizeOf3, Tryd.isAgg3, by decide⟩⟩
theorem fa119_2 : FieldIs Tryd.prog 119 2 2 1 false := ⟨⟨_, _, Tryd.underlying119, rfl, rfl, Tryd.sizeOf3, Tryd.isAgg3, by decide⟩⟩
theorem fa119_3 : FieldIs Tryd.prog 119 3 3 1 false := ⟨⟨_, _, Tryd.underlying119, rfl, rfl, Tryd.sizeOf3, Tryd.isAgg3, by decide⟩⟩
theorem fa121_0 : FieldIs Tryd.prog 121 0 0 5 true := ⟨⟨_, _, Tryd.underlying121, rfl, rfl, Tryd.sizeOf64, Tryd.isAgg64, by decide⟩⟩
theorem fa121_1 : FieldIs Tryd.prog 121 1 5 4 true := ⟨⟨_, _, Tryd.underlying121, rfl, rfl, Tryd.sizeOf119, Tryd.isAgg119, by decide⟩⟩
theorem fa121_2 : FieldIs Tryd.prog 121 2 9 10 true := ⟨⟨_, _, Tryd.underlying121, rfl, rfl, Tryd.sizeOf44, Tryd.isAgg44, by decide⟩⟩
theorem fa121_3 : FieldIs Tryd.prog 121 3 19 1 false := ⟨⟨_, _, Tryd.underlying121, rfl, rfl, Tryd.sizeOf3, Tryd.isAgg3, by decide⟩⟩
theorem fa121_4 : FieldIs Tryd.prog 121 4 20 1 false := ⟨⟨_, _, Tryd.underlying121, rfl, rfl, Tryd.sizeOf3, Tryd.isAgg3, by decide⟩⟩
theorem fa25_0 : FieldIs Tryd.prog 25 0 0 1 false := ⟨⟨_, _, Tryd.underlying25, rfl, rfl, Tryd.sizeOf22, Tryd.isAgg22, by decide⟩⟩
theorem fa25_1 : FieldIs Tryd.prog 25 1 1 1 false := ⟨⟨_, _, Tryd.underlying25, rfl, rfl, Tryd.sizeOf23, Tryd.isAgg23, by decide⟩⟩
theorem fa25_2 : FieldIs Tryd.prog 25 2 2 1 false := ⟨⟨_, _, Tryd.underlying25, rfl, rfl, Tryd.sizeOf3, Tryd.isAgg3, by decide⟩⟩
theorem fa25_3 : FieldIs Tryd.prog 25 3 3 1 false := ⟨⟨_, _, Tryd.underlying25, rfl, rfl, Tryd.sizeOf3, Tryd.isAgg3, by decide⟩⟩
theorem fa25_4 : FieldIs Tryd.prog 25 4 4 1 false := ⟨⟨_, _, Tryd.underlying25, rfl, rfl, Tryd.sizeOf3, Tryd.isAgg3, by decide⟩⟩
theorem fa27_0 : FieldIs Tryd.prog 27 0 0 1 false := ⟨⟨_, _, Tryd.underlying27, rfl, rfl, Tryd.sizeOf3, Tryd.isAgg3, by decide⟩⟩
theorem fa27_1 : FieldIs Tryd.prog 27 1 1 1 false := ⟨⟨_, _, Tryd.underlying27, rfl, rfl, Tryd.sizeOf3, Tryd.isAgg3, by decide⟩⟩
theorem fa29_0 : FieldIs Tryd.prog 29 0 0 1 false := ⟨⟨_, _, Tryd.underlying29, rfl, rfl, Tryd.sizeOf3, Tryd.isAgg3, by decide⟩⟩
theorem fa29_1 : FieldIs Tryd.prog 29 1 1 2 true := ⟨⟨_, _, Tryd.underlying29, rfl, rfl, Tryd.sizeOf27, Tryd.isAgg27, by decide⟩⟩
theorem fa40_0 : FieldIs Tryd.prog 40 0 0 1 false := ⟨⟨_, _, Tryd.underlying40, rfl, rfl, Tryd.sizeOf3, Tryd.isAgg3, by decide⟩⟩
theorem fa40_1 : FieldIs Tryd.prog 40 1 1 1 false := ⟨⟨_, _, Tryd.underlying40, rfl, rfl, Tryd.sizeOf3, Tryd.isAgg3, by decide⟩⟩
theorem fa42_0 : FieldIs Tryd.prog 42 0 0 1 false := ⟨⟨_, _, Tryd.underlying42, rfl, rfl, Tryd.sizeOf3, Tryd.isAgg3, by decide⟩⟩
theorem fa42_1 : FieldIs Tryd.prog 42 1 1 1 false := ⟨⟨_, _, Tryd.underlying42, rfl, rfl, Tryd.sizeOf3, Tryd.isAgg3, by decide⟩⟩
theorem fa42_2 : FieldIs Tryd.prog 42 2 2 1 false := ⟨⟨_, _, Tryd.underlying42, rfl, rfl, Tryd.sizeOf3, Tryd.isAgg3, by decide⟩⟩
theorem fa42_3 : FieldIs Tryd.prog 42 3 3 1 false := ⟨⟨_, _, Tryd.underlying42, rfl, rfl, Tryd.sizeOf3, Tryd.isAgg3, by decide⟩⟩
theorem fa42_4 : FieldIs Tryd.prog 42 4 4 1 false := ⟨⟨_, _, Tryd.underlying42, rfl, rfl, Tryd.sizeOf3, Tryd.isAgg3, by decide⟩⟩
theorem fa44_0 : FieldIs Tryd.prog 44 0 0 2 true := ⟨⟨_, _, Tryd.underlying44, rfl, rfl, Tryd.sizeOf40, Tryd.isAgg40, by decide⟩⟩
theorem fa44_1 : FieldIs Tryd.prog 44 1 2 5 true := ⟨⟨_, _, Tryd.underlying44, rfl, rfl, Tryd.sizeOf42, Tryd.isAgg42, by decide⟩⟩
theorem fa44_2 : FieldIs Tryd.prog 44 2 7 1 false := ⟨⟨_, _, Tryd.underlying44, rfl, rfl, Tryd.sizeOf23, Tryd.isAgg23, by decide⟩⟩
theorem fa44_3 : FieldIs Tryd.prog 44 3 8 1 false := ⟨⟨_, _, Tryd.underlying44, rfl, rfl, Tryd.sizeOf3, Tryd.isAgg3, by decide⟩⟩
theorem fa44_4 : FieldIs Tryd.prog 44 4 9 1 false := ⟨⟨_, _, Tryd.underlying44, rfl, rfl, Tryd.sizeOf3, Tryd.isAgg3, by decide⟩⟩
theorem fa52_0 : FieldIs Tryd.prog 52 0 0 1 false := ⟨⟨_, _, Tryd.underlying52, rfl, rfl, Tryd.sizeOf3, Tryd.isAgg3, by decide⟩⟩
theorem fa52_1 : FieldIs Tryd.prog 52 1 1 1 false := ⟨⟨_, _, Tryd.underlying52, rfl, rfl, Tryd.sizeOf3, Tryd.isAgg3, by decide⟩⟩
theorem fa52_2 : FieldIs Tryd.prog 52 2 2 1 false := ⟨⟨_, _, Tryd.underlying52, rfl, rfl, Tryd.sizeOf3, Tryd.isAgg3, by decide⟩⟩
theorem fa56_0 : FieldIs Tryd.prog 56 0 0 1 false := ⟨⟨_, _, Tryd.underlying56, rfl, rfl, Tryd.sizeOf3, Tryd.isAgg3, by decide⟩⟩
theorem fa56_1 : FieldIs Tryd.prog 56 1 1 1 false := ⟨⟨_, _, Tryd.underlying56, rfl, rfl, Tryd.sizeOf3, Tryd.isAgg3, by decide⟩⟩
theorem fa56_2 : FieldIs Tryd.prog 56 2 2 1 false := ⟨⟨_, _, Tryd.underlying56, rfl, rfl, Tryd.sizeOf3, Tryd.isAgg3, by decide⟩⟩
theorem fa56_3 : FieldIs Tryd.prog 56 3 3 1 false := ⟨⟨_, _, Tryd.underlying56, rfl, rfl, Tryd.sizeOf3, Tryd.isAgg3, by decide⟩⟩
theorem fa56_4 : FieldIs Tryd.prog 56 4 4 1 false := ⟨⟨_, _, Tryd.underlying56, rfl, rfl, Tryd.sizeOf3, Tryd.isAgg3, by decide⟩⟩
theorem fa64_0 : FieldIs Tryd.prog 64 0 0 1 false := ⟨⟨_, _, Tryd.underlying64, rfl, rfl, Tryd.sizeOf3, Tryd.isAgg3, by decide⟩⟩
theorem fa64_1 : FieldIs Tryd.prog 64 1 1 1 false := ⟨⟨_, _, Tryd.underlying64, rfl, rfl, Tryd.sizeOf3, Tryd.isAgg3, by decide⟩⟩
theorem fa64_2 : FieldIs Tryd.prog 64 2 2 1 false := ⟨⟨_, _, Tryd.underlying64, rfl, rfl, Tryd.sizeOf3, Tryd.isAgg3, by decide⟩⟩
theorem fa64_3 : FieldIs Tryd.prog 64 3 3 1 false := ⟨⟨_, _, Tryd.underlying64, rfl, rfl, Tryd.sizeOf3, Tryd.isAgg3, by decide⟩⟩
theorem fa64_4 : FieldIs Tryd.prog 64 4 4 1 false := ⟨⟨_, _, Tryd.underlying64, rfl, rfl, Tryd.sizeOf4, Tryd.isAgg4, by decide⟩⟩
theorem fa68_0 : FieldIs Tryd.prog 68 0 0 1 false := ⟨⟨_, _, Tryd.underlying68, rfl, rfl, Tryd.sizeOf3, Tryd.isAgg3, by decide⟩⟩
theorem fa68_1 : FieldIs Tryd.prog 68 1 1 1 false := ⟨⟨_, _, Tryd.underlying68, rfl, rfl, Tryd.sizeOf3, Tryd.isAgg3, by decide⟩⟩
theorem fa68_2 : FieldIs Tryd.prog 68 2 2 1 false := ⟨⟨_, _, Tryd.underlying68, rfl, rfl, Tryd.sizeOf3, Tryd.isAgg3, by decide⟩⟩
theorem ne119 (a0 b0 : Int) (a1 b1 : Int) (a2 b2 : Int) (a3 b3 : Int) (x y : Operand) (w : World) : (do eqGuard .neq 119 x y (.agg #[.int .i64 a0, .int .i64 a1, .int .i64 a2, .int .i64 a3]) (.agg #[.int .i64 b0, .int .i64 b1, .int .i64 b2, .int .i64 b3]); binOp .neq 119 (.agg #[.int .i64 a0, .int .i64 a1, .int .i64 a2, .int .i64 a3]) (.agg #[.int .i64 b0, .int .i64 b1, .int .i64 b2, .int .i64 b3]) : Sem Value).run Tryd.prog w = .ok (.bool (!((a0 == b0) && (a1 == b1) && (a2 == b2) && (a3 == b3)))) w := by
  simp [go_sem, Tryd.eqGuardType119, Tryd.stoodInHeld119, Tryd.underlying119, Tryd.underlying3]
  try ((repeat' split) <;> simp_all)
theorem ne27 (a0 b0 : Int) (a1 b1 : Int) (x y : Operand) (w : World) : (do eqGuard .neq 27 x y (.agg #[.int .i64 a0, .int .i64 a1]) (.agg #[.int .i64 b0, .int .i64 b1]); binOp .neq 27 (.agg #[.int .i64 a0, .int .i64 a1]) (.agg #[.int .i64 b0, .int .i64 b1]) : Sem Value).run Tryd.prog w = .ok (.bool (!((a0 == b0) && (a1 == b1)))) w := by
  simp [go_sem, Tryd.eqGuardType27, Tryd.stoodInHeld27, Tryd.underlying27, Tryd.underlying3]
  try ((repeat' split) <;> simp_all)
theorem st110 : StructIs Tryd.prog 110 [(0, 5)] [.slice none 0 0, .slice none 0 0, .int .i64 0, .int .i64 0, .int .i64 0] := ⟨⟨_, Tryd.underlying110, fun w => by simp [Tryd.sizeOf25], Tryd.zeroValue110⟩⟩
theorem st121 : StructIs Tryd.prog 121 [(0, 5), (5, 4), (9, 10), (19, 1), (20, 1)] [.int .i64 0, .int .i64 0, .int .i64 0, .int .i64 0, .bool false, .int .i64 0, .int .i64 0, .int .i64 0, .int .i64 0, .int .i64 0, .int .i64 0, .int .i64 0, .int .i64 0, .int .i64 0, .int .i64 0, .int .i64 0, .slice none 0 0, .int .i64 0, .int .i64 0, .int .i64 0, .int .i64 0] := ⟨⟨_, Tryd.underlying121, fun w => by simp [Tryd.sizeOf119, Tryd.sizeOf3, Tryd.sizeOf44, Tryd.sizeOf64], Tryd.zeroValue121⟩⟩
theorem st191 : StructIs Tryd.prog 191 [] [] := ⟨⟨_, Tryd.underlying191, fun w => by simp [], Tryd.zeroValue191⟩⟩
theorem st192 : StructIs Tryd.prog 192 [] [] := ⟨⟨_, Tryd.underlying192, fun w => by simp [], Tryd.zeroValue192⟩⟩
theorem st193 : StructIs Tryd.prog 193 [] [] := ⟨⟨_, Tryd.underlying193, fun w => by simp [], Tryd.zeroValue193⟩⟩
theorem st194 : StructIs Tryd.prog 194 [] [] := ⟨⟨_, Tryd.underlying194, fun w => by simp [], Tryd.zeroValue194⟩⟩
theorem st25 : StructIs Tryd.prog 25 [(0, 1), (1, 1), (2, 1), (3, 1), (4, 1)] [.slice none 0 0, .slice none 0 0, .int .i64 0, .int .i64 0, .int .i64 0] := ⟨⟨_, Tryd.underlying25, fun w => by simp [Tryd.sizeOf22, Tryd.sizeOf23, Tryd.sizeOf3], Tryd.zeroValue25⟩⟩
theorem st27 : StructIs Tryd.prog 27 [(0, 1), (1, 1)] [.int .i64 0, .int .i64 0] := ⟨⟨_, Tryd.underlying27, fun w => by simp [Tryd.sizeOf3], Tryd.zeroValue27⟩⟩
theorem st29 : StructIs Tryd.prog 29 [(0, 1), (1, 2)] [.int .i64 0, .int .i64 0, .int .i64 0] := ⟨⟨_, Tryd.underlying29, fun w => by simp [Tryd.sizeOf27, Tryd.sizeOf3], Tryd.zeroValue29⟩⟩
theorem st40 : StructIs Tryd.prog 40 [(0, 1), (1, 1)] [.int .i64 0, .int .i64 0] := ⟨⟨_, Tryd.underlying40, fun w => by simp [Tryd.sizeOf3], Tryd.zeroValue40⟩⟩
theorem st42 : StructIs Tryd.prog 42 [(0, 1), (1, 1), (2, 1), (3, 1), (4, 1)] [.int .i64 0, .int .i64 0, .int .i64 0, .int .i64 0, .int .i64 0] := ⟨⟨_, Tryd.underlying42, fun w => by simp [Tryd.sizeOf3], Tryd.zeroValue42⟩⟩
theorem st44 : StructIs Tryd.prog 44 [(0, 2), (2, 5), (7, 1), (8, 1), (9, 1)] [.int .i64 0, .int .i64 0, .int .i64 0, .int .i64 0, .int .i64 0, .int .i64 0, .int .i64 0, .slice none 0 0, .int .i64 0, .int .i64 0] := ⟨⟨_, Tryd.underlying44, fun w => by simp [Tryd.sizeOf23, Tryd.sizeOf3, Tryd.sizeOf40, Tryd.sizeOf42], Tryd.zeroValue44⟩⟩
theorem st52 : StructIs Tryd.prog 52 [(0, 1), (1, 1), (2, 1)] [.int .i64 0, .int .i64 0, .int .i64 0] := ⟨⟨_, Tryd.underlying52, fun w => by simp [Tryd.sizeOf3], Tryd.zeroValue52⟩⟩
theorem st56 : StructIs Tryd.prog 56 [(0, 1), (1, 1), (2, 1), (3, 1), (4, 1)] [.int .i64 0, .int .i64 0, .int .i64 0, .int .i64 0, .int .i64 0] := ⟨⟨_, Tryd.underlying56, fun w => by simp [Tryd.sizeOf3], Tryd.zeroValue56⟩⟩
theorem st64 : StructIs Tryd.prog 64 [(0, 1), (1, 1), (2, 1), (3, 1), (4, 1)] [.int .i64 0, .int .i64 0, .int .i64 0, .int .i64 0, .bool false] := ⟨⟨_, Tryd.underlying64, fun w => by simp [Tryd.sizeOf3, Tryd.sizeOf4], Tryd.zeroValue64⟩⟩
theorem st68 : StructIs Tryd.prog 68 [(0, 1), (1, 1), (2, 1)] [.int .i64 0, .int .i64 0, .int .i64 0] := ⟨⟨_, Tryd.underlying68, fun w => by simp [Tryd.sizeOf3], Tryd.zeroValue68⟩⟩
end Go.Proofs.YtafmgkiddhappaaDoor
