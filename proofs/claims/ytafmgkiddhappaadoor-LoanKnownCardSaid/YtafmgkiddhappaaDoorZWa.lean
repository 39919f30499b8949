/- Texts of ours, joined: 7 of them. Conditions: none. -/
import Derived.Test.YtafmgkiddhappaaDoorZSb
import Derived.Test.YtafmgkiddhappaaDoorProg
import Derived.Laws.StructEq
import Derived.Test.YtafmgkiddhappaaDoorZP
import Derived.Shelf.SlGeneric
import Derived.Shelf.SlLaysF
import Derived.WalkKit
namespace Go.Proofs.YtafmgkiddhappaaDoor
open Go.Sx Go.RowKit
set_option maxRecDepth 20000
theorem el23 : ElemIs Tryd.prog 23 3 1 8 := ⟨⟨_, (.int .i64 0), Tryd.underlying23, Tryd.type3, by kernel_rfl, by kernel_rfl, by kernel_rfl, by kernel_rfl, by decide⟩⟩
theorem el74 : ElemIs Tryd.prog 74 64 5 40 := ⟨⟨_, (.agg #[.int .i64 0, .int .i64 0, .int .i64 0, .int .i64 0, .bool false]), Tryd.underlying74, Tryd.type64, by kernel_rfl, by kernel_rfl, by kernel_rfl, by kernel_rfl, by decide⟩⟩
theorem eq27 (a0 b0 : Int) (a1 b1 : Int) (x y : Operand) (w : World) : (do eqGuard .eql 27 x y (.agg #[.int .i64 a0, .int .i64 a1]) (.agg #[.int .i64 b0, .int .i64 b1]); binOp .eql 27 (.agg #[.int .i64 a0, .int .i64 a1]) (.agg #[.int .i64 b0, .int .i64 b1]) : Sem Value).run Tryd.prog w = .ok (.bool ((a0 == b0) && (a1 == b1))) w := by
  simp [go_sem, Tryd.eqGuardType27, Tryd.stoodInHeld27, Tryd.underlying27, Tryd.underlying3]
  try ((repeat' split) <;> simp_all)
theorem eq64 (a0 b0 : Int) (a1 b1 : Int) (a2 b2 : Int) (a3 b3 : Int) (a4 b4 : Bool) (x y : Operand) (w : World) : (do eqGuard .eql 64 x y (.agg #[.int .i64 a0, .int .i64 a1, .int .i64 a2, .int .i64 a3, .bool a4]) (.agg #[.int .i64 b0, .int .i64 b1, .int .i64 b2, .int .i64 b3, .bool b4]); binOp .eql 64 (.agg #[.int .i64 a0, .int .i64 a1, .int .i64 a2, .int .i64 a3, .bool a4]) (.agg #[.int .i64 b0, .int .i64 b1, .int .i64 b2, .int .i64 b3, .bool b4]) : Sem Value).run Tryd.prog w = .ok (.bool ((a0 == b0) && (a1 == b1) && (a2 == b2) && (a3 == b3) && (a4 == b4))) w := by
  simp [go_sem, Tryd.eqGuardType64, Tryd.stoodInHeld64, Tryd.underlying64, Tryd.underlying3, Tryd.underlying4]
  try ((repeat' split) <;> simp_all)
theorem fa110_0 : FieldIs Tryd.prog 110 0 0 5 true := ⟨⟨_, _, Tryd.underlying110, rfl, rfl, Tryd.sizeOf25, Tryd.isAgg25, by decide⟩⟩
theorem fa119_0 : FieldIs Tryd.prog 119 0 0 1 false := ⟨⟨_, _, Tryd.underlying119, rfl, rfl, Tryd.sizeOf3, Tryd.isAgg3, by decide⟩⟩
theorem fa119_1 : FieldIs Tryd.prog 119 1 1 1 false := ⟨⟨_, _, Tryd.underlying119, rfl, rfl, Tryd.sizeOf3, Tryd.isAgg3, by decide⟩⟩
theorem fa119_2 : FieldIs Tryd.prog 119 2 2 1 false := ⟨⟨_, _, Tryd.underlying119, rfl, rfl, Tryd.sizeOf3, Tryd.isAgg3, by decide⟩⟩
theorem fa119_3 : FieldIs Tryd.prog 119 3 3 1 false := ⟨⟨_, _, Tryd.underlying119, rfl, rfl, Tryd.sizeOf3, Tryd.isAgg3, by decide⟩⟩
theorem fa121_0 : FieldIs Tryd.prog 121 0 0 5 true := ⟨⟨_, _, Tryd.underlying121, rfl, rfl, Tryd.sizeOf64, Tryd.isAgg64, by decide⟩⟩
theorem fa121_1 : FieldIs Tryd.prog 121 1 5 4 true := ⟨⟨_, _, Tryd.underlying121, rfl, rfl, Tryd.sizeOf119, Tryd.isAgg119, by decide⟩⟩
theorem fa121_2 : FieldIs Tryd.prog 121 2 9 10 true := ⟨⟨_, _, Tryd.underlying121, rfl, rfl, Tryd.sizeOf44, Tryd.isAgg44, by decide⟩⟩
theorem fa121_3 : FieldIs Tryd.prog 121 3 19 1 false := ⟨⟨_, _, Tryd.underlying121, rfl, rfl, Tryd.sizeOf3, Tryd.isAgg3, by decide⟩⟩
theorem fa121_4 : FieldIs Tryd.prog 121 4 20 1 false := ⟨⟨_, _, Tryd.underlying121, rfl, rfl, Tryd.sizeOf3, Tryd.isAgg3, by decide⟩⟩
theorem fa25_0 : FieldIs Tryd.prog 25 0 0 1 false := ⟨⟨_, _, Tryd.underlying25, rfl, rfl, Tryd.sizeOf22, Tryd.isAgg22, by decide⟩⟩
theorem fa25_1 : FieldIs Tryd.prog 25 1 1 1 false := ⟨⟨_, _, Tryd.underlying25, rfl, rfl, Tryd.sizeOf23, Tryd.isAgg23, by decide⟩⟩
theorem fa25_2 : FieldIs Tryd.prog 25 2 2 1 false := ⟨⟨_, _, Tryd.underlying25, rfl, rfl, Tryd.sizeOf3, Tryd.isAgg3, by decide⟩⟩
theorem fa25_3 : FieldIs Tryd.prog 25 3 3 1 false := ⟨⟨_, _, Tryd.underlying25, rfl, rfl, Tryd.sizeOf3, Tryd.isAgg3, by decide⟩⟩
theorem fa25_4 : FieldIs Tryd.prog 25 4 4 1 false := ⟨⟨_, _, Tryd.underlying25, rfl, rfl, Tryd.sizeOf3, Tryd.isAgg3, by decide⟩⟩
theorem fa27_0 : FieldIs Tryd.prog 27 0 0 1 false := ⟨⟨_, _, Tryd.underlying27, rfl, rfl, Tryd.sizeOf3, Tryd.isAgg3, by decide⟩⟩
theorem fa27_1 : FieldIs Tryd.prog 27 1 1 1 false := ⟨⟨_, _, Tryd.underlying27, rfl, rfl, Tryd.sizeOf3, Tryd.isAgg3, by decide⟩⟩
theorem fa29_0 : FieldIs Tryd.prog 29 0 0 1 false := ⟨⟨_, _, Tryd.underlying29, rfl, rfl, Tryd.sizeOf3, Tryd.isAgg3, by decide⟩⟩
theorem fa29_1 : FieldIs Tryd.prog 29 1 1 2 true := ⟨⟨_, _, Tryd.underlying29, rfl, rfl, Tryd.sizeOf27, Tryd.isAgg27, by decide⟩⟩
theorem fa40_0 : FieldIs Tryd.prog 40 0 0 1 false := ⟨⟨_, _, Tryd.underlying40, rfl, rfl, Tryd.sizeOf3, Tryd.isAgg3, by decide⟩⟩
theorem fa40_1 : FieldIs Tryd.prog 40 1 1 1 false := ⟨⟨_, _, Tryd.underlying40, rfl, rfl, Tryd.sizeOf3, Tryd.isAgg3, by decide⟩⟩
theorem fa42_0 : FieldIs Tryd.prog 42 0 0 1 false := ⟨⟨_, _, Tryd.underlying42, rfl, rfl, Tryd.sizeOf3, Tryd.isAgg3, by decide⟩⟩
theorem fa42_1 : FieldIs Tryd.prog 42 1 1 1 false := ⟨⟨_, _, Tryd.underlying42, rfl, rfl, Tryd.sizeOf3, Tryd.isAgg3, by decide⟩⟩
theorem fa42_2 : FieldIs Tryd.prog 42 2 2 1 false := ⟨⟨_, _, Tryd.underlying42, rfl, rfl, Tryd.sizeOf3, Tryd.isAgg3, by decide⟩⟩
theorem fa42_3 : FieldIs Tryd.prog 42 3 3 1 false := ⟨⟨_, _, Tryd.underlying42, rfl, rfl, Tryd.sizeOf3, Tryd.isAgg3, by decide⟩⟩
theorem fa42_4 : FieldIs Tryd.prog 42 4 4 1 false := ⟨⟨_, _, Tryd.underlying42, rfl, rfl, Tryd.sizeOf3, Tryd.isAgg3, by decide⟩⟩
theorem fa44_0 : FieldIs Tryd.prog 44 0 0 2 true := ⟨⟨_, _, Tryd.underlying44, rfl, rfl, Tryd.sizeOf40, Tryd.isAgg40, by decide⟩⟩
theorem fa44_1 : FieldIs Tryd.prog 44 1 2 5 true := ⟨⟨_, _, Tryd.underlying44, rfl, rfl, Tryd.sizeOf42, Tryd.isAgg42, by decide⟩⟩
theorem fa44_2 : FieldIs Tryd.prog 44 2 7 1 false := ⟨⟨_, _, Tryd.underlying44, rfl, rfl, Tryd.sizeOf23, Tryd.isAgg23, by decide⟩⟩
theorem fa44_3 : FieldIs Tryd.prog 44 3 8 1 false := ⟨⟨_, _, Tryd.underlying44, rfl, rfl, Tryd.sizeOf3, Tryd.isAgg3, by decide⟩⟩
theorem fa44_4 : FieldIs Tryd.prog 44 4 9 1 false := ⟨⟨_, _, Tryd.underlying44, rfl, rfl, Tryd.sizeOf3, Tryd.isAgg3, by decide⟩⟩
theorem fa52_0 : FieldIs Tryd.prog 52 0 0 1 false := ⟨⟨_, _, Tryd.underlying52, rfl, rfl, Tryd.sizeOf3, Tryd.isAgg3, by decide⟩⟩
theorem fa52_1 : FieldIs Tryd.prog 52 1 1 1 false := ⟨⟨_, _, Tryd.underlying52, rfl, rfl, Tryd.sizeOf3, Tryd.isAgg3, by decide⟩⟩
theorem fa52_2 : FieldIs Tryd.prog 52 2 2 1 false := ⟨⟨_, _, Tryd.underlying52, rfl, rfl, Tryd.sizeOf3, Tryd.isAgg3, by decide⟩⟩
theorem fa56_0 : FieldIs Tryd.prog 56 0 0 1 false := ⟨⟨_, _, Tryd.underlying56, rfl, rfl, Tryd.sizeOf3, Tryd.isAgg3, by decide⟩⟩
theorem fa56_1 : FieldIs Tryd.prog 56 1 1 1 false := ⟨⟨_, _, Tryd.underlying56, rfl, rfl, Tryd.sizeOf3, Tryd.isAgg3, by decide⟩⟩
theorem fa56_2 : FieldIs Tryd.prog 56 2 2 1 false := ⟨⟨_, _, Tryd.underlying56, rfl, rfl, Tryd.sizeOf3, Tryd.isAgg3, by decide⟩⟩
theorem fa56_3 : FieldIs Tryd.prog 56 3 3 1 false := ⟨⟨_, _, Tryd.underlying56, rfl, rfl, Tryd.sizeOf3, Tryd.isAgg3, by decide⟩⟩
theorem fa56_4 : FieldIs Tryd.prog 56 4 4 1 false := ⟨⟨_, _, Tryd.underlying56, rfl, rfl, Tryd.sizeOf3, Tryd.isAgg3, by decide⟩⟩
theorem fa64_0 : FieldIs Tryd.prog 64 0 0 1 false := ⟨⟨_, _, Tryd.underlying64, rfl, rfl, Tryd.sizeOf3, Tryd.isAgg3, by decide⟩⟩
theorem fa64_1 : FieldIs Tryd.prog 64 1 1 1 false := ⟨⟨_, _, Tryd.underlying64, rfl, rfl, Tryd.sizeOf3, Tryd.isAgg3, by decide⟩⟩
theorem fa64_2 : FieldIs Tryd.prog 64 2 2 1 false := ⟨⟨_, _, Tryd.underlying64, rfl, rfl, Tryd.sizeOf3, Tryd.isAgg3, by decide⟩⟩
theorem fa64_3 : FieldIs Tryd.prog 64 3 3 1 false := ⟨⟨_, _, Tryd.underlying64, rfl, rfl, Tryd.sizeOf3, Tryd.isAgg3, by decide⟩⟩
theorem fa64_4 : FieldIs Tryd.prog 64 4 4 1 false := ⟨⟨_, _, Tryd.underlying64, rfl, rfl, Tryd.sizeOf4, Tryd.isAgg4, by decide⟩⟩
theorem fa68_0 : FieldIs Tryd.prog 68 0 0 1 false := ⟨⟨_, _, Tryd.underlying68, rfl, rfl, Tryd.sizeOf3, Tryd.isAgg3, by decide⟩⟩
theorem fa68_1 : FieldIs Tryd.prog 68 1 1 1 false := ⟨⟨_, _, Tryd.underlying68, rfl, rfl, Tryd.sizeOf3, Tryd.isAgg3, by decide⟩⟩
theorem fa68_2 : FieldIs Tryd.prog 68 2 2 1 false := ⟨⟨_, _, Tryd.underlying68, rfl, rfl, Tryd.sizeOf3, Tryd.isAgg3, by decide⟩⟩
theorem ne119 (a0 b0 : Int) (a1 b1 : Int) (a2 b2 : Int) (a3 b3 : Int) (x y : Operand) (w : World) : (do eqGuard .neq 119 x y (.agg #[.int .i64 a0, .int .i64 a1, .int .i64 a2, .int .i64 a3]) (.agg #[.int .i64 b0, .int .i64 b1, .int .i64 b2, .int .i64 b3]); binOp .neq 119 (.agg #[.int .i64 a0, .int .i64 a1, .int .i64 a2, .int .i64 a3]) (.agg #[.int .i64 b0, .int .i64 b1, .int .i64 b2, .int .i64 b3]) : Sem Value).run Tryd.prog w = .ok (.bool (!((a0 == b0) && (a1 == b1) && (a2 == b2) && (a3 == b3)))) w := by
  simp [go_sem, Tryd.eqGuardType119, Tryd.stoodInHeld119, Tryd.underlying119, Tryd.underlying3]
  try ((repeat' split) <;> simp_all)
theorem ne27 (a0 b0 : Int) (a1 b1 : Int) (x y : Operand) (w : World) : (do eqGuard .neq 27 x y (.agg #[.int .i64 a0, .int .i64 a1]) (.agg #[.int .i64 b0, .int .i64 b1]); binOp .neq 27 (.agg #[.int .i64 a0, .int .i64 a1]) (.agg #[.int .i64 b0, .int .i64 b1]) : Sem Value).run Tryd.prog w = .ok (.bool (!((a0 == b0) && (a1 == b1)))) w := by
  simp [go_sem, Tryd.eqGuardType27, Tryd.stoodInHeld27, Tryd.underlying27, Tryd.underlying3]
  try ((repeat' split) <;> simp_all)
theorem st110 : StructIs Tryd.prog 110 [(0, 5)] [.slice none 0 0, .slice none 0 0, .int .i64 0, .int .i64 0, .int .i64 0] := ⟨⟨_, Tryd.underlying110, fun w => by simp [Tryd.sizeOf25], Tryd.zeroValue110⟩⟩
theorem st121 : StructIs Tryd.prog 121 [(0, 5), (5, 4), (9, 10), (19, 1), (20, 1)] [.int .i64 0, .int .i64 0, .int .i64 0, .int .i64 0, .bool false, .int .i64 0, .int .i64 0, .int .i64 0, .int .i64 0, .int .i64 0, .int .i64 0, .int .i64 0, .int .i64 0, .int .i64 0, .int .i64 0, .int .i64 0, .slice none 0 0, .int .i64 0, .int .i64 0, .int .i64 0, .int .i64 0] := ⟨⟨_, Tryd.underlying121, fun w => by simp [Tryd.sizeOf119, Tryd.sizeOf3, Tryd.sizeOf44, Tryd.sizeOf64], Tryd.zeroValue121⟩⟩
theorem st191 : StructIs Tryd.prog 191 [] [] := ⟨⟨_, Tryd.underlying191, fun w => by simp [], Tryd.zeroValue191⟩⟩
theorem st192 : StructIs Tryd.prog 192 [] [] := ⟨⟨_, Tryd.underlying192, fun w => by simp [], Tryd.zeroValue192⟩⟩
theorem st193 : StructIs Tryd.prog 193 [] [] := ⟨⟨_, Tryd.underlying193, fun w => by simp [], Tryd.zeroValue193⟩⟩
theorem st194 : StructIs Tryd.prog 194 [] [] := ⟨⟨_, Tryd.underlying194, fun w => by simp [], Tryd.zeroValue194⟩⟩
theorem st25 : StructIs Tryd.prog 25 [(0, 1), (1, 1), (2, 1), (3, 1), (4, 1)] [.slice none 0 0, .slice none 0 0, .int .i64 0, .int .i64 0, .int .i64 0] := ⟨⟨_, Tryd.underlying25, fun w => by simp [Tryd.sizeOf22, Tryd.sizeOf23, Tryd.sizeOf3], Tryd.zeroValue25⟩⟩
theorem st27 : StructIs Tryd.prog 27 [(0, 1), (1, 1)] [.int .i64 0, .int .i64 0] := ⟨⟨_, Tryd.underlying27, fun w => by simp [Tryd.sizeOf3], Tryd.zeroValue27⟩⟩
theorem st29 : StructIs Tryd.prog 29 [(0, 1), (1, 2)] [.int .i64 0, .int .i64 0, .int .i64 0] := ⟨⟨_, Tryd.underlying29, fun w => by simp [Tryd.sizeOf27, Tryd.sizeOf3], Tryd.zeroValue29⟩⟩
theorem st40 : StructIs Tryd.prog 40 [(0, 1), (1, 1)] [.int .i64 0, .int .i64 0] := ⟨⟨_, Tryd.underlying40, fun w => by simp [Tryd.sizeOf3], Tryd.zeroValue40⟩⟩
theorem st42 : StructIs Tryd.prog 42 [(0, 1), (1, 1), (2, 1), (3, 1), (4, 1)] [.int .i64 0, .int .i64 0, .int .i64 0, .int .i64 0, .int .i64 0] := ⟨⟨_, Tryd.underlying42, fun w => by simp [Tryd.sizeOf3], Tryd.zeroValue42⟩⟩
theorem st44 : StructIs Tryd.prog 44 [(0, 2), (2, 5), (7, 1), (8, 1), (9, 1)] [.int .i64 0, .int .i64 0, .int .i64 0, .int .i64 0, .int .i64 0, .int .i64 0, .int .i64 0, .slice none 0 0, .int .i64 0, .int .i64 0] := ⟨⟨_, Tryd.underlying44, fun w => by simp [Tryd.sizeOf23, Tryd.sizeOf3, Tryd.sizeOf40, Tryd.sizeOf42], Tryd.zeroValue44⟩⟩
theorem st52 : StructIs Tryd.prog 52 [(0, 1), (1, 1), (2, 1)] [.int .i64 0, .int .i64 0, .int .i64 0] := ⟨⟨_, Tryd.underlying52, fun w => by simp [Tryd.sizeOf3], Tryd.zeroValue52⟩⟩
theorem st56 : StructIs Tryd.prog 56 [(0, 1), (1, 1), (2, 1), (3, 1), (4, 1)] [.int .i64 0, .int .i64 0, .int .i64 0, .int .i64 0, .int .i64 0] := ⟨⟨_, Tryd.underlying56, fun w => by simp [Tryd.sizeOf3], Tryd.zeroValue56⟩⟩
theorem st64 : StructIs Tryd.prog 64 [(0, 1), (1, 1), (2, 1), (3, 1), (4, 1)] [.int .i64 0, .int .i64 0, .int .i64 0, .int .i64 0, .bool false] := ⟨⟨_, Tryd.underlying64, fun w => by simp [Tryd.sizeOf3, Tryd.sizeOf4], Tryd.zeroValue64⟩⟩
theorem st68 : StructIs Tryd.prog 68 [(0, 1), (1, 1), (2, 1)] [.int .i64 0, .int .i64 0, .int .i64 0] := ⟨⟨_, Tryd.underlying68, fun w => by simp [Tryd.sizeOf3], Tryd.zeroValue68⟩⟩
end Go.Proofs.YtafmgkiddhappaaDoor
namespace Go.Proofs.YtafmgkiddhappaaDoor
open Go.Sx Go.RowKit
set_option maxRecDepth 20000
theorem k_From (lo n hi : Int) (w : World)  : Calls Tryd.prog 26 #[.int .i64 lo, .int .i64 n, .int .i64 hi] w (fun e w' => e = .returned (.bool (decide (lo ≤ n) && decide (n ≤ hi))) ∧ Grow w w') := by
  refine enter_pure (args := [.int .i64 lo, .int .i64 n, .int .i64 hi]) [] Tryd.func26 rfl (by rw [Tryd.ntmps26]; simp) (by simp) ?_
  refine cj_seq ?_
  refine cj_regionG (gj_step (y_assign rfl) rfl rfl rfl (gj_nil ?_))
  refine ej_th (cj_seq ?_)
  refine cj_regionG (gj_step (y_move rfl) rfl rfl rfl (gj_step (y_move rfl) rfl rfl rfl (gj_step (y_leq rfl rfl) rfl rfl rfl (gj_step (y_move rfl) rfl rfl rfl (gj_g 3 10 13 rfl rfl rfl rfl (fun hg10 => gj_yes rfl rfl rfl (y_move rfl) rfl rfl (gj_yes rfl rfl rfl (y_move rfl) rfl rfl (gj_yes rfl rfl rfl (y_leq rfl rfl) rfl rfl (gj_nil rfl)))) (gj_step (y_and rfl rfl rfl) rfl rfl rfl (gj_step (y_assign rfl) rfl rfl rfl (gj_nil ?_))))))))
  refine ej_th (cj_ret ?_)
  exact ej_ret1 rfl Tryd.results26 rfl (fun w' hp => ⟨rfl, hp.below⟩)

theorem k_within (n lo hi : Int) (w : World)  : Calls Tryd.prog 54 #[.int .i64 n, .int .i64 lo, .int .i64 hi] w (fun e w' => e = .returned (.bool (decide (lo ≤ n) && decide (n ≤ hi))) ∧ Grow w w') := by
  refine enter_pure (args := [.int .i64 n, .int .i64 lo, .int .i64 hi]) [] Tryd.func54 rfl (by rw [Tryd.ntmps54]; simp) (by simp) ?_
  refine cj_seq ?_
  refine cj_regionG (gj_step (y_assign rfl) rfl rfl rfl (gj_nil ?_))
  refine ej_th (cj_seq ?_)
  refine cj_regionG (gj_step (y_move rfl) rfl rfl rfl (gj_step (y_move rfl) rfl rfl rfl (gj_step (y_geq rfl rfl) rfl rfl rfl (gj_step (y_move rfl) rfl rfl rfl (gj_g 3 10 13 rfl rfl rfl rfl (fun hg10 => gj_yes rfl rfl rfl (y_move rfl) rfl rfl (gj_yes rfl rfl rfl (y_move rfl) rfl rfl (gj_yes rfl rfl rfl (y_leq rfl rfl) rfl rfl (gj_nil rfl)))) (gj_step (y_and rfl rfl rfl) rfl rfl rfl (gj_step (y_assign rfl) rfl rfl rfl (gj_nil ?_))))))))
  refine ej_th (cj_ret ?_)
  exact ej_ret1 rfl Tryd.results54 rfl (fun w' hp => ⟨rfl, hp.below⟩)

theorem k_day (n : Int) (w : World)  : Calls Tryd.prog 59 #[.int .i64 n] w (fun e w' => e = .returned (.bool (decide (0 ≤ n) && decide (n ≤ 36500))) ∧ Grow w w') := by
  refine enter_pure (args := [.int .i64 n]) [] Tryd.func59 rfl (by rw [Tryd.ntmps59]; simp) (by simp) ?_
  refine cj_seq ?_
  refine cj_regionG (gj_step (y_assign rfl) rfl rfl rfl (gj_nil ?_))
  refine ej_th (cj_seq ?_)
  refine cj_regionG ?_
  refine gj_step (y_move rfl) rfl rfl rfl (?_)
  refine gj_step (y_call Tryd.call54 rfl (fun w hp => k_within _ _ _ w)) rfl rfl rfl ?_
  refine gj_step (y_assign rfl) rfl rfl rfl (?_)
  refine gj_nil ?_
  refine ej_th (cj_ret ?_)
  exact ej_ret1 rfl Tryd.results59 rfl (fun w' hp => ⟨rfl, hp.below⟩)

theorem k_span (lo hi most : Int) (w : World)  : Calls Tryd.prog 61 #[.agg #[.int .i64 lo, .int .i64 hi], .int .i64 most] w (fun e w' => e = .returned (.bool (decide (0 ≤ lo) && decide (lo ≤ hi) && decide (hi ≤ most))) ∧ Grow w w') := by
  refine enter_pure (args := [.agg #[.int .i64 lo, .int .i64 hi], .int .i64 most]) [] Tryd.func61 rfl (by rw [Tryd.ntmps61]; simp) (by simp) ?_
  refine cj_seq (cj_region ?_)
  refine oj_box rfl rfl rfl (fun b2 => ?_)
  refine oj_step (y_assign rfl) rfl rfl rfl ?_
  refine oj_nil ?_
  refine ej_th (cj_seq ?_)
  refine cj_regionG (gj_step (y_fa0 fa27_0 rfl) rfl rfl rfl (gj_step (y_load1 Tryd.isAgg3 rfl rfl) rfl rfl rfl (gj_step (y_geq rfl rfl) rfl rfl rfl (gj_step (y_move rfl) rfl rfl rfl (gj_g 5 8 13 rfl rfl rfl rfl (fun hg8 => gj_yes rfl rfl rfl (y_fa0 fa27_0 rfl) rfl rfl (gj_yes rfl rfl rfl (y_load1 Tryd.isAgg3 rfl rfl) rfl rfl (gj_yes rfl rfl rfl (y_fa fa27_1 rfl) rfl rfl (gj_yes rfl rfl rfl (y_load1 Tryd.isAgg3 rfl rfl) rfl rfl (gj_yes rfl rfl rfl (y_leq rfl rfl) rfl rfl (gj_nil rfl)))))) (gj_step (y_and rfl rfl rfl) rfl rfl rfl (gj_step (y_move rfl) rfl rfl rfl (gj_g 4 15 19 rfl rfl rfl rfl (fun hg15 => gj_yes rfl rfl rfl (y_fa fa27_1 rfl) rfl rfl (gj_yes rfl rfl rfl (y_load1 Tryd.isAgg3 rfl rfl) rfl rfl (gj_yes rfl rfl rfl (y_move rfl) rfl rfl (gj_yes rfl rfl rfl (y_leq rfl rfl) rfl rfl (gj_nil rfl))))) (gj_step (y_and rfl rfl rfl) rfl rfl rfl (gj_step (y_assign rfl) rfl rfl rfl (gj_nil ?_)))))))))))
  refine ej_th (cj_ret ?_)
  exact ej_ret1 rfl Tryd.results61 rfl (fun w' hp => ⟨rfl, hp.below⟩)

theorem k_rspan (lo hi low high : Int) (w : World)  : Calls Tryd.prog 62 #[.agg #[.int .i64 lo, .int .i64 hi], .int .i64 low, .int .i64 high] w (fun e w' => e = .returned (.bool (decide (low ≤ lo) && decide (lo ≤ hi) && decide (hi ≤ high))) ∧ Grow w w') := by
  refine enter_pure (args := [.agg #[.int .i64 lo, .int .i64 hi], .int .i64 low, .int .i64 high]) [] Tryd.func62 rfl (by rw [Tryd.ntmps62]; simp) (by simp) ?_
  refine cj_seq (cj_region ?_)
  refine oj_box rfl rfl rfl (fun b3 => ?_)
  refine oj_step (y_assign rfl) rfl rfl rfl ?_
  refine oj_nil ?_
  refine ej_th (cj_seq ?_)
  refine cj_regionG (gj_step (y_fa0 fa27_0 rfl) rfl rfl rfl (gj_step (y_load1 Tryd.isAgg3 rfl rfl) rfl rfl rfl (gj_step (y_move rfl) rfl rfl rfl (gj_step (y_geq rfl rfl) rfl rfl rfl (gj_step (y_move rfl) rfl rfl rfl (gj_g 5 11 16 rfl rfl rfl rfl (fun hg11 => gj_yes rfl rfl rfl (y_fa0 fa27_0 rfl) rfl rfl (gj_yes rfl rfl rfl (y_load1 Tryd.isAgg3 rfl rfl) rfl rfl (gj_yes rfl rfl rfl (y_fa fa27_1 rfl) rfl rfl (gj_yes rfl rfl rfl (y_load1 Tryd.isAgg3 rfl rfl) rfl rfl (gj_yes rfl rfl rfl (y_leq rfl rfl) rfl rfl (gj_nil rfl)))))) (gj_step (y_and rfl rfl rfl) rfl rfl rfl (gj_step (y_move rfl) rfl rfl rfl (gj_g 4 18 22 rfl rfl rfl rfl (fun hg18 => gj_yes rfl rfl rfl (y_fa fa27_1 rfl) rfl rfl (gj_yes rfl rfl rfl (y_load1 Tryd.isAgg3 rfl rfl) rfl rfl (gj_yes rfl rfl rfl (y_move rfl) rfl rfl (gj_yes rfl rfl rfl (y_leq rfl rfl) rfl rfl (gj_nil rfl))))) (gj_step (y_and rfl rfl rfl) rfl rfl rfl (gj_step (y_assign rfl) rfl rfl rfl (gj_nil ?_))))))))))))
  refine ej_th (cj_ret ?_)
  exact ej_ret1 rfl Tryd.results62 rfl (fun w' hp => ⟨rfl, hp.below⟩)

theorem k_Seek (l : List Int) (n : Int) (A : Option Addr) (c : Nat) (w : World) (hl : Rd w 1 enInt A l) : Calls Tryd.prog 41 #[.slice A l.length c, .int .i64 n] w (fun e w' => e = .returned (.int .i64 (seek l n 0)) ∧ Grow w w') := by
  have hlen := hl.len
  refine enter_pure (args := [.slice A l.length c, .int .i64 n]) [sl (fun b => b < w.heap.size) 1 enInt A l] Tryd.func41 rfl (by rw [Tryd.ntmps41]; simp) (fun g hg => by simp at hg; subst hg; exact ⟨hl, fun _ h => h⟩) ?_
  refine cj_seq ?_
  refine cj_regionG (gj_step (y_assign rfl) rfl rfl rfl (gj_nil ?_))
  refine ej_th (cj_seq (cj_seq ?_))
  refine cj_regionG (gj_step (y_assign rfl) rfl rfl rfl (gj_nil ?_))
  refine ej_th (cj_block ?_)
  refine cj_lpc (X := Nat) (fun k => k ≤ l.length ∧ seek (l.drop k) n k = seek l n 0) (fun k => [(0, .slice A l.length c), (1, .int .i64 n), (5, .int .i64 k)]) (fun k => l.length - k) 0 (⟨Nat.zero_le _, rfl⟩) ⟨rfl, rfl, rfl, trivial⟩ ?_
  rintro k ⟨hk, hs⟩
  refine cj_seq (cj_seq ?_)
  refine cj_regionG (gj_step (y_move rfl) rfl rfl rfl (gj_step (y_move rfl) rfl rfl rfl (gj_step (y_lenA Tryd.underlying23 rfl) rfl rfl rfl (gj_step (y_lss rfl rfl) rfl rfl rfl (gj_nil ?_)))))
  refine ej_th ?_
  refine cj_cond rfl (fun h9 => ?_) (fun h9 => ?_)
  · have h9b := h9
    try simp only [sxb] at h9
    obtain ⟨x, hx⟩ : ∃ x, l[k]? = some x := ⟨_, List.getElem?_eq_getElem (by omega)⟩
    rw [seek_drop l n k x hx] at hs
    refine cj_skip (ej_th (cj_seq (cj_block (cj_seq ?_))))
    refine cj_regionG (gj_step (y_move rfl) rfl rfl rfl (gj_step (y_move rfl) rfl rfl rfl (gj_step (y_ixR (reads_sl) Tryd.underlying23 Tryd.sizeOf3 rfl rfl (⟨by omega, by omega⟩)) rfl rfl rfl (gj_step (y_ld0 (reads_sl) Tryd.isAgg3 rfl (hx) rfl) rfl rfl rfl (gj_step (y_move rfl) rfl rfl rfl (gj_step (y_eql rfl rfl) rfl rfl rfl (gj_nil ?_)))))))
    refine ej_th ?_
    refine cj_cond rfl (fun h17 => ?_) (fun h17 => ?_)
    · have h17b := h17
      try simp only [sxb] at h17
      refine cj_seq ?_
      refine cj_regionG (gj_step (y_move rfl) rfl rfl rfl (gj_step (y_assign rfl) rfl rfl rfl (gj_nil ?_)))
      refine ej_th (cj_ret (ej_blk_ret (ej_then_ret (ej_then_ret (ej_blk_ret (ej_then_ret ?_))))))
      refine ej_ret1 rfl Tryd.results41 rfl (fun w' hp => ⟨?_, hp.below⟩)
      rw [← hs, if_pos h17]
    · have h17b := h17
      try simp only [sxb] at h17
      refine cj_skip (ej_blk (ej_th ?_))
      refine cj_regionG (gj_step (y_move rfl) rfl rfl rfl (gj_step (y_add rfl rfl (by omega)) rfl rfl rfl (gj_step (y_assign rfl) rfl rfl rfl (gj_nil ?_))))
      refine ej_nx (k + 1) (by omega) ⟨by omega, ?_⟩ ⟨rfl, rfl, rfl, trivial⟩
      rw [← hs, if_neg h17]
  · have h9b := h9
    try simp only [sxb] at h9
    refine cj_exit (ej_then_exit (ej_then_exit (ej_blk_hit (ej_th (cj_seq ?_)))))
    refine cj_regionG (gj_step (y_assign rfl) rfl rfl rfl (gj_nil ?_))
    refine ej_th (cj_ret ?_)
    refine ej_ret1 rfl Tryd.results41 rfl (fun w' hp => ⟨?_, hp.below⟩)
    rw [← hs, List.drop_of_length_le (by omega)]; rfl

end Go.Proofs.YtafmgkiddhappaaDoor
namespace Go.Proofs.YtafmgkiddhappaaDoor
open Go.Sx Go.RowKit
set_option maxRecDepth 20000
theorem k_bad64 (n : Int) (w : World)  : Calls Tryd.prog 58 #[.int .i64 n] w (fun e w' => e = .returned (.bool (bad64 n)) ∧ Grow w w') := by
  refine enter_pure (args := [.int .i64 n]) [] Tryd.func58 rfl (by rw [Tryd.ntmps58]; simp) (by simp) ?_
  refine cj_seq ?_
  refine cj_regionG (gj_step (y_assign rfl) rfl rfl rfl (gj_nil ?_))
  refine ej_th (cj_seq ?_)
  refine cj_regionG ?_
  refine gj_step (y_move rfl) rfl rfl rfl (?_)
  refine gj_step (y_call Tryd.call54 rfl (fun w hp => k_within _ _ _ w)) rfl rfl rfl ?_
  refine gj_step (y_not rfl) rfl rfl rfl (gj_step (y_assign rfl) rfl rfl rfl (?_))
  refine gj_nil ?_
  refine ej_th (cj_ret ?_)
  exact ej_ret1 rfl Tryd.results58 rfl (fun w' hp => ⟨rfl, hp.below⟩)

theorem k_IndexFunc (l : List Int) (A : Option Addr) (c : Nat) (w : World) (hl : Rd w 1 enInt A l) : Calls Tryd.prog 84 #[.slice A l.length c, .func (.func 58) #[] #[]] w (fun e w' => e = .returned (.int .i64 (firstB l 0)) ∧ Grow w w') := by
  have hlen := hl.len
  refine enter_pure (args := [.slice A l.length c, .func (.func 58) #[] #[]]) [sl (fun b => b < w.heap.size) 1 enInt A l] Tryd.func84 rfl (by rw [Tryd.ntmps84]; simp) (fun g hg => by simp at hg; subst hg; exact ⟨hl, fun _ h => h⟩) ?_
  refine cj_seq ?_
  refine cj_regionG (gj_step (y_assign rfl) rfl rfl rfl (gj_nil ?_))
  refine ej_th (cj_seq (cj_seq ?_))
  refine cj_regionG (gj_step (y_move rfl) rfl rfl rfl (gj_step (y_lenA Tryd.underlying23 rfl) rfl rfl rfl (gj_step (y_move rfl) rfl rfl rfl (gj_nil ?_))))
  refine ej_th (cj_block ?_)
  refine cj_lpc (X := Nat) (fun k => k ≤ l.length ∧ firstB (l.drop k) k = firstB l 0) (fun k => [(0, .slice A l.length c), (1, .func (.func 58) #[] #[]), (7, .int .i64 l.length), (8, .int .i64 k)]) (fun k => l.length - k) 0 (⟨Nat.zero_le _, rfl⟩) ⟨rfl, rfl, rfl, rfl, trivial⟩ ?_
  rintro k ⟨hk, hs⟩
  refine cj_seq ?_
  refine cj_regionG (gj_step (y_lss rfl rfl) rfl rfl rfl (gj_nil ?_))
  refine ej_th (cj_seq ?_)
  refine cj_cond rfl (fun h9 => ?_) (fun h9 => ?_)
  · have h9b := h9
    try simp only [sxb] at h9
    obtain ⟨x, hx⟩ : ∃ x, l[k]? = some x := ⟨_, List.getElem?_eq_getElem (by omega)⟩
    rw [firstB_drop l k x hx] at hs
    refine cj_skip (ej_th (cj_seq (cj_block (cj_seq ?_))))
    refine cj_regionG (gj_step (y_move rfl) rfl rfl rfl (gj_step (y_assign rfl) rfl rfl rfl (gj_nil ?_)))
    refine ej_th (cj_seq ?_)
    refine cj_regionG ?_
    refine gj_step (y_move rfl) rfl rfl rfl (gj_step (y_move rfl) rfl rfl rfl (gj_step (y_move rfl) rfl rfl rfl (gj_step (y_ixR (reads_sl) Tryd.underlying23 Tryd.sizeOf3 rfl rfl (⟨by omega, by omega⟩)) rfl rfl rfl (gj_step (y_ld0 (reads_sl) Tryd.isAgg3 rfl (hx) rfl) rfl rfl rfl (?_)))))
    refine gj_step (y_callV Tryd.call58 rfl rfl (fun w hp => k_bad64 _ w)) rfl rfl rfl ?_
    refine gj_nil ?_
    refine ej_th ?_
    refine cj_cond rfl (fun h16 => ?_) (fun h16 => ?_)
    · have h16b := h16
      try simp only [sxb] at h16
      refine cj_seq ?_
      refine cj_regionG (gj_step (y_move rfl) rfl rfl rfl (gj_step (y_assign rfl) rfl rfl rfl (gj_nil ?_)))
      refine ej_th (cj_ret (ej_blk_ret (ej_then_ret (ej_then_ret (ej_blk_ret (ej_then_ret ?_))))))
      refine ej_ret1 rfl Tryd.results84 rfl (fun w' hp => ⟨?_, hp.below⟩)
      rw [← hs, if_pos h16]
    · have h16b := h16
      try simp only [sxb] at h16
      refine cj_skip (ej_blk (ej_th ?_))
      refine cj_regionG (gj_step (y_add rfl rfl (by omega)) rfl rfl rfl (gj_step (y_move rfl) rfl rfl rfl (gj_nil ?_)))
      refine ej_nx (k + 1) (by omega) ⟨by omega, ?_⟩ ⟨rfl, rfl, rfl, rfl, trivial⟩
      rw [← hs, if_neg (by simp [h16])]
  · have h9b := h9
    try simp only [sxb] at h9
    refine cj_exit (ej_then_exit (ej_then_exit (ej_blk_hit (ej_th (cj_seq ?_)))))
    refine cj_regionG (gj_step (y_assign rfl) rfl rfl rfl (gj_nil ?_))
    refine ej_th (cj_ret ?_)
    refine ej_ret1 rfl Tryd.results84 rfl (fun w' hp => ⟨?_, hp.below⟩)
    rw [← hs, List.drop_of_length_le (by omega)]; rfl

theorem k_ContainsFunc (l : List Int) (A : Option Addr) (c : Nat) (w : World) (hl : Rd w 1 enInt A l) : Calls Tryd.prog 57 #[.slice A l.length c, .func (.func 58) #[] #[]] w (fun e w' => e = .returned (.bool (decide (0 ≤ firstB l 0))) ∧ Grow w w') := by
  refine enter_pure (args := [.slice A l.length c, .func (.func 58) #[] #[]]) [sl (fun b => b < w.heap.size) 1 enInt A l] Tryd.func57 rfl (by rw [Tryd.ntmps57]; simp) (fun g hg => by simp at hg; subst hg; exact ⟨hl, fun _ h => h⟩) ?_
  refine cj_seq ?_
  refine cj_regionG (gj_step (y_assign rfl) rfl rfl rfl (gj_nil ?_))
  refine ej_th (cj_seq ?_)
  refine cj_regionG ?_
  refine gj_step (y_move rfl) rfl rfl rfl (gj_step (y_move rfl) rfl rfl rfl (?_))
  refine gj_step (y_call Tryd.call84 rfl (fun w hp => k_IndexFunc _ _ _ w hp.rd)) rfl rfl rfl ?_
  refine gj_step (y_geq rfl rfl) rfl rfl rfl (gj_step (y_assign rfl) rfl rfl rfl (?_))
  refine gj_nil ?_
  refine ej_th (cj_ret ?_)
  exact ej_ret1 rfl Tryd.results57 rfl (fun w' hp => ⟨rfl, hp.below⟩)

theorem k_sold (s : Sale) (ns nf cs cf : Nat) (metal day few : Int) (As Af : Option Addr) (w : World) (hf : nf ≤ 9223372036854775807) : Calls Tryd.prog 60 #[.agg #[.slice As ns cs, .slice Af nf cf, .int .i64 metal, .int .i64 day, .int .i64 few], .agg #[.int .i64 s.kind, .int .i64 s.day, .int .i64 s.weight, .int .i64 s.metal, .int .i64 s.price]] w (fun e w' => e = .returned (.bool (okSale nf day s)) ∧ Grow w w') := by
  refine enter_pure (args := [.agg #[.slice As ns cs, .slice Af nf cf, .int .i64 metal, .int .i64 day, .int .i64 few], .agg #[.int .i64 s.kind, .int .i64 s.day, .int .i64 s.weight, .int .i64 s.metal, .int .i64 s.price]]) [] Tryd.func60 rfl (by rw [Tryd.ntmps60]; simp) (by simp) ?_
  refine cj_seq (cj_region ?_)
  refine oj_box rfl rfl rfl (fun b2 => ?_)
  refine oj_box rfl rfl rfl (fun b3 => ?_)
  refine oj_step (y_assign rfl) rfl rfl rfl ?_
  refine oj_nil ?_
  refine ej_th (cj_seq ?_)
  refine cj_regionG ?_
  refine gj_step (y_fa0 fa56_0 rfl) rfl rfl rfl (gj_step (y_load1 Tryd.isAgg3 rfl rfl) rfl rfl rfl (gj_step (y_fa0 fa110_0 rfl) rfl rfl rfl (gj_step (y_fa fa25_1 rfl) rfl rfl rfl (gj_step (y_load1 Tryd.isAgg23 rfl rfl) rfl rfl rfl (gj_step (y_lenA Tryd.underlying23 rfl) rfl rfl rfl (gj_step (y_sub rfl rfl (by omega)) rfl rfl rfl (?_)))))))
  refine gj_step (y_call Tryd.call54 rfl (fun w hp => k_within _ _ _ w)) rfl rfl rfl ?_
  refine gj_step (y_move rfl) rfl rfl rfl (?_)
  refine gj_g 6 13 19 rfl rfl rfl rfl (fun hg13 => gj_yes rfl rfl rfl (y_fa fa56_1 rfl) rfl rfl (gj_yes rfl rfl rfl (y_load1 Tryd.isAgg3 rfl rfl) rfl rfl (gj_yes rfl rfl rfl (y_fa0 fa110_0 rfl) rfl rfl (gj_yes rfl rfl rfl (y_fa fa25_3 rfl) rfl rfl (gj_yes rfl rfl rfl (y_load1 Tryd.isAgg3 rfl rfl) rfl rfl (gj_yes rfl rfl rfl (y_call Tryd.call54 rfl (fun w hp => k_within _ _ _ w)) rfl rfl (gj_nil rfl))))))) ?_
  refine gj_step (y_and rfl rfl rfl) rfl rfl rfl (gj_step (y_move rfl) rfl rfl rfl (?_))
  refine gj_g 3 21 24 rfl rfl rfl rfl (fun hg21 => gj_yes rfl rfl rfl (y_fa fa56_2 rfl) rfl rfl (gj_yes rfl rfl rfl (y_load1 Tryd.isAgg3 rfl rfl) rfl rfl (gj_yes rfl rfl rfl (y_call Tryd.call54 rfl (fun w hp => k_within _ _ _ w)) rfl rfl (gj_nil rfl)))) ?_
  refine gj_step (y_and rfl rfl rfl) rfl rfl rfl (gj_step (y_move rfl) rfl rfl rfl (?_))
  refine gj_g 3 26 29 rfl rfl rfl rfl (fun hg26 => gj_yes rfl rfl rfl (y_fa fa56_3 rfl) rfl rfl (gj_yes rfl rfl rfl (y_load1 Tryd.isAgg3 rfl rfl) rfl rfl (gj_yes rfl rfl rfl (y_call Tryd.call54 rfl (fun w hp => k_within _ _ _ w)) rfl rfl (gj_nil rfl)))) ?_
  refine gj_step (y_and rfl rfl rfl) rfl rfl rfl (gj_step (y_move rfl) rfl rfl rfl (?_))
  refine gj_g 3 31 34 rfl rfl rfl rfl (fun hg31 => gj_yes rfl rfl rfl (y_fa fa56_4 rfl) rfl rfl (gj_yes rfl rfl rfl (y_load1 Tryd.isAgg3 rfl rfl) rfl rfl (gj_yes rfl rfl rfl (y_call Tryd.call54 rfl (fun w hp => k_within _ _ _ w)) rfl rfl (gj_nil rfl)))) ?_
  refine gj_step (y_and rfl rfl rfl) rfl rfl rfl (gj_step (y_assign rfl) rfl rfl rfl (?_))
  refine gj_nil ?_
  refine ej_th (cj_ret ?_)
  exact ej_ret1 rfl Tryd.results60 rfl (fun w' hp => ⟨rfl, hp.below⟩)

theorem k_CheckMarket (sales : List Sale) (fade : List Int) (metal day few : Int) (As Af : Option Addr) (cs cf : Nat) (w : World) (hs : Rd w 5 encSale As sales) (hf : Rd w 1 enInt Af fade) : Calls Tryd.prog 19 #[.agg #[.slice As sales.length cs, .slice Af fade.length cf, .int .i64 metal, .int .i64 day, .int .i64 few]] w (fun e w' => e = .returned (.int .i64 (errM (badMarket sales fade metal day few))) ∧ Grow w w') := by
  have hlen := hs.len
  have hlenf := hf.len
  refine enter_pure (args := [.agg #[.slice As sales.length cs, .slice Af fade.length cf, .int .i64 metal, .int .i64 day, .int .i64 few]]) [sl (fun b => b < w.heap.size) 5 encSale As sales, sl (fun b => b < w.heap.size) 1 enInt Af fade] Tryd.func19 rfl (by rw [Tryd.ntmps19]; simp) (fun g hg => by simp at hg; rcases hg with rfl | rfl; exact ⟨hs, fun _ h => h⟩; exact ⟨hf, fun _ h => h⟩) ?_
  refine cj_seq (cj_region ?_)
  refine oj_box rfl rfl rfl (fun b1 => ?_)
  refine oj_step (y_assign rfl) rfl rfl rfl ?_
  refine oj_nil ?_
  refine ej_th (cj_seq ?_)
  refine cj_regionG ?_
  refine gj_step (y_fa fa25_1 rfl) rfl rfl rfl (gj_step (y_load1 Tryd.isAgg23 rfl rfl) rfl rfl rfl (?_))
  refine gj_step (y_call Tryd.call57 rfl (fun w hp => k_ContainsFunc _ _ _ w hp.rd)) rfl rfl rfl ?_
  refine gj_step (y_assign rfl) rfl rfl rfl (?_)
  refine gj_nil ?_
  refine ej_th (cj_seq (cj_seq ?_))
  refine cj_regionG ?_
  refine gj_step (y_move rfl) rfl rfl rfl (gj_step (y_move rfl) rfl rfl rfl (?_))
  refine gj_g 5 10 15 rfl rfl rfl rfl (fun hg10 => gj_yes rfl rfl rfl (y_fa fa25_1 rfl) rfl rfl (gj_yes rfl rfl rfl (y_load1 Tryd.isAgg23 rfl rfl) rfl rfl (gj_yes rfl rfl rfl (y_lenA Tryd.underlying23 rfl) rfl rfl (gj_yes rfl rfl rfl (y_call Tryd.call54 rfl (fun w hp => k_within _ _ _ w)) rfl rfl (gj_yes rfl rfl rfl (y_not rfl) rfl rfl (gj_nil rfl)))))) ?_
  refine gj_step (y_or rfl rfl rfl) rfl rfl rfl (gj_step (y_move rfl) rfl rfl rfl (?_))
  refine gj_g 4 17 21 rfl rfl rfl rfl (fun hg17 => gj_yes rfl rfl rfl (y_fa fa25_2 rfl) rfl rfl (gj_yes rfl rfl rfl (y_load1 Tryd.isAgg3 rfl rfl) rfl rfl (gj_yes rfl rfl rfl (y_call Tryd.call54 rfl (fun w hp => k_within _ _ _ w)) rfl rfl (gj_yes rfl rfl rfl (y_not rfl) rfl rfl (gj_nil rfl))))) ?_
  refine gj_step (y_or rfl rfl rfl) rfl rfl rfl (gj_step (y_move rfl) rfl rfl rfl (?_))
  refine gj_g 4 23 27 rfl rfl rfl rfl (fun hg23 => gj_yes rfl rfl rfl (y_fa fa25_3 rfl) rfl rfl (gj_yes rfl rfl rfl (y_load1 Tryd.isAgg3 rfl rfl) rfl rfl (gj_yes rfl rfl rfl (y_call Tryd.call59 rfl (fun w hp => k_day _ w)) rfl rfl (gj_yes rfl rfl rfl (y_not rfl) rfl rfl (gj_nil rfl))))) ?_
  refine gj_step (y_or rfl rfl rfl) rfl rfl rfl (gj_step (y_move rfl) rfl rfl rfl (?_))
  refine gj_g 4 29 33 rfl rfl rfl rfl (fun hg29 => gj_yes rfl rfl rfl (y_fa fa25_4 rfl) rfl rfl (gj_yes rfl rfl rfl (y_load1 Tryd.isAgg3 rfl rfl) rfl rfl (gj_yes rfl rfl rfl (y_call Tryd.call54 rfl (fun w hp => k_within _ _ _ w)) rfl rfl (gj_yes rfl rfl rfl (y_not rfl) rfl rfl (gj_nil rfl))))) ?_
  refine gj_step (y_or rfl rfl rfl) rfl rfl rfl (gj_step (y_move rfl) rfl rfl rfl (?_))
  refine gj_g 4 35 39 rfl rfl rfl rfl (fun hg35 => gj_yes rfl rfl rfl (y_fa0 fa25_0 rfl) rfl rfl (gj_yes rfl rfl rfl (y_load1 Tryd.isAgg22 rfl rfl) rfl rfl (gj_yes rfl rfl rfl (y_lenA Tryd.underlying22 rfl) rfl rfl (gj_yes rfl rfl rfl (y_gtr rfl rfl) rfl rfl (gj_nil rfl))))) ?_
  refine gj_step (y_or rfl rfl rfl) rfl rfl rfl (?_)
  refine gj_nil ?_
  refine ej_th ?_
  refine cj_cond rfl (fun h40 => ?_) (fun h40 => ?_)
  · have h40b := h40
    try simp only [sxb] at h40
    refine cj_seq ?_
    refine cj_regionG (gj_step (y_assign rfl) rfl rfl rfl (gj_nil ?_))
    refine ej_th (cj_ret (ej_then_ret ?_))
    refine ej_ret1 rfl Tryd.results19 rfl (fun w' hp => ⟨?_, hp.below⟩)
    rw [errM, badMarket, show badM sales.length fade metal day few = true from h40b]; rfl
  · have h40b := h40
    try simp only [sxb] at h40
    refine cj_skip (ej_th (cj_seq (cj_seq ?_)))
    refine cj_regionG (gj_step (y_fa0 fa25_0 rfl) rfl rfl rfl (gj_step (y_load1 Tryd.isAgg22 rfl rfl) rfl rfl rfl (gj_step (y_lenA Tryd.underlying22 rfl) rfl rfl rfl (gj_step (y_move rfl) rfl rfl rfl (gj_nil ?_)))))
    refine ej_th (cj_block ?_)
    refine cj_lpc (X := Nat) (fun k => k ≤ sales.length ∧ (sales.drop k).all (okSale fade.length day) = sales.all (okSale fade.length day)) (fun k => [(1, .pointer (some ⟨b1, 0, none⟩)), (42, .slice As sales.length cs), (43, .int .i64 sales.length), (44, .int .i64 k)]) (fun k => sales.length - k) 0 (⟨Nat.zero_le _, rfl⟩) ⟨rfl, rfl, rfl, rfl, trivial⟩ ?_
    rintro k ⟨hk, hl⟩
    refine cj_seq ?_
    refine cj_regionG (gj_step (y_lss rfl rfl) rfl rfl rfl (gj_nil ?_))
    refine ej_th (cj_seq ?_)
    refine cj_cond rfl (fun h45 => ?_) (fun h45 => ?_)
    · have h45b := h45
      try simp only [sxb] at h45
      obtain ⟨s, hx⟩ : ∃ s, sales[k]? = some s := ⟨_, List.getElem?_eq_getElem (by omega)⟩
      rw [all_drop _ sales k s hx] at hl
      refine cj_skip (ej_th (cj_seq (cj_block (cj_seq (cj_region ?_)))))
      refine oj_step (y_ixR (reads_sl) Tryd.underlying22 Tryd.sizeOf56 rfl rfl (⟨by omega, by omega⟩)) rfl rfl rfl ?_
      refine oj_step (y_ldW (reads_sl) Tryd.isAgg56 Tryd.sizeOf56 rfl (hx) (fun _ => rfl)) rfl rfl rfl ?_
      refine oj_alloc Tryd.zeroValue56 rfl rfl (fun b5 => ?_)
      refine oj_store rfl rfl rfl rfl Tryd.sizeOf56 rfl ?_
      refine oj_nil ?_
      refine ej_th (cj_seq ?_)
      refine cj_regionG ?_
      refine gj_step (y_loadN Tryd.isAgg25 Tryd.sizeOf25 rfl) rfl rfl rfl (gj_step (y_build st110 rfl rfl) rfl rfl rfl (gj_step (y_loadN Tryd.isAgg56 Tryd.sizeOf56 rfl) rfl rfl rfl (?_)))
      refine gj_step (y_call Tryd.call60 rfl (fun w hp => k_sold _ _ _ _ _ _ _ _ _ _ w (by omega))) rfl rfl rfl ?_
      refine gj_step (y_not rfl) rfl rfl rfl (?_)
      refine gj_nil ?_
      refine ej_th ?_
      refine cj_cond rfl (fun h52 => ?_) (fun h52 => ?_)
      · have h52b := h52
        try simp only [sxb] at h52
        refine cj_seq ?_
        refine cj_regionG (gj_step (y_assign rfl) rfl rfl rfl (gj_nil ?_))
        refine ej_th (cj_ret (ej_blk_ret (ej_then_ret (ej_then_ret (ej_blk_ret (ej_then_ret ?_))))))
        refine ej_ret1 rfl Tryd.results19 rfl (fun w' hp => ⟨?_, hp.below⟩)
        rw [errM, badMarket, ← hl, h52]; simp
      · have h52b := h52
        try simp only [sxb] at h52
        refine cj_skip (ej_blk (ej_th ?_))
        refine cj_regionG (gj_step (y_add rfl rfl (by omega)) rfl rfl rfl (gj_step (y_move rfl) rfl rfl rfl (gj_nil ?_)))
        refine ej_nx (k + 1) (by omega) ⟨by omega, ?_⟩ ⟨rfl, rfl, rfl, rfl, trivial⟩
        rw [← hl, h52]; rfl
    · have h45b := h45
      try simp only [sxb] at h45
      refine cj_exit (ej_then_exit (ej_then_exit (ej_blk_hit (ej_th (cj_seq ?_)))))
      refine cj_regionG (gj_step (y_assign rfl) rfl rfl rfl (gj_nil ?_))
      refine ej_th (cj_ret ?_)
      refine ej_ret1 rfl Tryd.results19 rfl (fun w' hp => ⟨?_, hp.below⟩)
      rw [List.drop_of_length_le (by omega)] at hl
      rw [errM, badMarket, show badM sales.length fade metal day few = false from h40b, ← hl]; rfl

end Go.Proofs.YtafmgkiddhappaaDoor
namespace Go.Proofs.YtafmgkiddhappaaDoor
open Go.Sx Go.RowKit
set_option maxRecDepth 20000
theorem k_Down (a b : Int) (w : World) (ha : 0 ≤ a ∧ a ≤ 9223372036854775807) (hb : 1 ≤ b) : Calls Tryd.prog 29 #[.int .i64 a, .int .i64 b] w (fun e w' => e = .returned (.int .i64 (a / b)) ∧ Grow w w') := by
  have h1 := Int.mul_ediv_add_emod a b
  have h2 := Int.emod_nonneg a (show b ≠ 0 by omega)
  have h4 : 0 ≤ a / b := Int.ediv_nonneg ha.1 (by omega)
  have h3 : 0 ≤ a / b * b := Int.mul_nonneg h4 (by omega)
  have h5 : a / b * b = b * (a / b) := Int.mul_comm _ _
  refine enter_pure (args := [.int .i64 a, .int .i64 b]) [] Tryd.func29 rfl (by rw [Tryd.ntmps29]; simp) (by simp) ?_
  refine cj_seq ?_
  refine cj_regionG (gj_step (y_assign rfl) rfl rfl rfl (gj_nil ?_))
  refine ej_th (cj_seq ?_)
  refine cj_regionG (gj_step (y_move rfl) rfl rfl rfl (gj_step (y_move rfl) rfl rfl rfl (gj_step (y_quo rfl rfl (⟨ha.1, ha.2, hb⟩)) rfl rfl rfl (gj_step (y_assign rfl) rfl rfl rfl (gj_nil ?_)))))
  refine ej_th (cj_seq (cj_seq ?_))
  refine cj_regionG (gj_step (y_move rfl) rfl rfl rfl (gj_step (y_move rfl) rfl rfl rfl (gj_step (y_mul rfl rfl (by omega)) rfl rfl rfl (gj_step (y_move rfl) rfl rfl rfl (gj_step (y_gtr rfl rfl) rfl rfl rfl (gj_nil ?_))))))
  refine ej_th ?_
  refine cj_cond rfl (fun h13 => ?_) (fun h13 => ?_)
  · simp only [sxb] at h13
    exfalso
    omega
  · have h13b := h13
    try simp only [sxb] at h13
    refine cj_skip (ej_th (cj_seq ?_))
    refine cj_regionG (gj_step (y_move rfl) rfl rfl rfl (gj_step (y_assign rfl) rfl rfl rfl (gj_nil ?_)))
    refine ej_th (cj_ret ?_)
    exact ej_ret1 rfl Tryd.results29 rfl (fun w' hp => ⟨rfl, hp.below⟩)

theorem k_Ring (n m : Int) (w : World) (hm : m ≤ 4611686018427387904) : Calls Tryd.prog 27 #[.int .i64 n, .int .i64 m] w (fun e w' => e = .returned (.int .i64 (ringI n m)) ∧ Grow w w') := by
  refine enter_pure (args := [.int .i64 n, .int .i64 m]) [] Tryd.func27 rfl (by rw [Tryd.ntmps27]; simp) (by simp) ?_
  refine cj_seq ?_
  refine cj_regionG (gj_step (y_assign rfl) rfl rfl rfl (gj_nil ?_))
  refine ej_th (cj_seq (cj_seq ?_))
  refine cj_regionG (gj_step (y_move rfl) rfl rfl rfl (gj_step (y_leq rfl rfl) rfl rfl rfl (gj_nil ?_)))
  refine ej_th ?_
  refine cj_cond rfl (fun h6 => ?_) (fun h6 => ?_)
  · have h6b := h6
    try simp only [sxb] at h6
    refine cj_seq ?_
    refine cj_regionG (gj_step (y_assign rfl) rfl rfl rfl (gj_nil ?_))
    refine ej_th (cj_ret (ej_then_ret ?_))
    refine ej_ret1 rfl Tryd.results27 rfl (fun w' hp => ⟨?_, hp.below⟩)
    rw [ringI, if_pos h6]
  · have h6b := h6
    try simp only [sxb] at h6
    refine cj_skip (ej_th (cj_seq ?_))
    refine cj_regionG (gj_step (y_move rfl) rfl rfl rfl (gj_step (y_move rfl) rfl rfl rfl (gj_step (y_remw rfl rfl (by omega)) rfl rfl rfl (gj_step (y_move rfl) rfl rfl rfl (gj_step (y_add rfl rfl (by have h1 := Int.tmod_lt_of_pos n (show 0 < m by omega); have h2 := Int.lt_tmod_of_pos n (show 0 < m by omega); omega)) rfl rfl rfl (gj_step (y_move rfl) rfl rfl rfl (gj_step (y_remw rfl rfl (by omega)) rfl rfl rfl (gj_step (y_assign rfl) rfl rfl rfl (gj_nil ?_)))))))))
    refine ej_th (cj_ret ?_)
    refine ej_ret1 rfl Tryd.results27 rfl (fun w' hp => ⟨?_, hp.below⟩)
    rw [ringI, if_neg (by omega)]

theorem k_Same (xs ys : List Int) (A B : Option Addr) (c c2 : Nat) (w : World) (hx : Rd w 1 enInt A xs) (hy : Rd w 1 enInt B ys) : Calls Tryd.prog 18 #[.slice A xs.length c, .slice B ys.length c2] w (fun e w' => e = .returned (.bool (decide (xs = ys))) ∧ Grow w w') := by
  have hlen := hx.len
  have hlen2 := hy.len
  refine enter_pure (args := [.slice A xs.length c, .slice B ys.length c2]) [sl (fun b => b < w.heap.size) 1 enInt A xs, sl (fun b => b < w.heap.size) 1 enInt B ys] Tryd.func18 rfl (by rw [Tryd.ntmps18]; simp) (fun g hg => by simp at hg; rcases hg with rfl | rfl; exact ⟨hx, fun _ h => h⟩; exact ⟨hy, fun _ h => h⟩) ?_
  refine cj_seq ?_
  refine cj_regionG (gj_step (y_assign rfl) rfl rfl rfl (gj_nil ?_))
  refine ej_th (cj_seq ?_)
  refine cj_regionG (gj_step (y_move rfl) rfl rfl rfl (gj_step (y_lenA Tryd.underlying23 rfl) rfl rfl rfl (gj_step (y_move rfl) rfl rfl rfl (gj_step (y_lenA Tryd.underlying23 rfl) rfl rfl rfl (gj_step (y_eql rfl rfl) rfl rfl rfl (gj_step (y_assign rfl) rfl rfl rfl (gj_nil ?_)))))))
  refine ej_th (cj_seq (cj_seq ?_))
  refine cj_regionG (gj_step (y_assign rfl) rfl rfl rfl (gj_nil ?_))
  refine ej_th (cj_block ?_)
  refine cj_lpc (X := Nat × Bool) (fun ⟨k, ok⟩ => k ≤ xs.length ∧ ok = decide (xs.length = ys.length ∧ xs.take k = ys.take k)) (fun ⟨k, ok⟩ => [(0, .slice A xs.length c), (1, .slice B ys.length c2), (5, .bool ok), (6, .int .i64 k)]) (fun ⟨k, ok⟩ => xs.length - k) (0, decide ((xs.length : Int) = ys.length)) (⟨Nat.zero_le _, by simp [Int.ofNat_inj]⟩) ⟨rfl, rfl, rfl, rfl, trivial⟩ ?_
  rintro ⟨k, ok⟩ ⟨hk, hl⟩
  refine cj_seq (cj_seq ?_)
  refine cj_regionG (gj_step (y_move rfl) rfl rfl rfl (gj_step (y_move rfl) rfl rfl rfl (gj_g 4 13 17 rfl rfl rfl rfl (fun hg13 => gj_yes rfl rfl rfl (y_move rfl) rfl rfl (gj_yes rfl rfl rfl (y_move rfl) rfl rfl (gj_yes rfl rfl rfl (y_lenA Tryd.underlying23 rfl) rfl rfl (gj_yes rfl rfl rfl (y_lss rfl rfl) rfl rfl (gj_nil rfl))))) (gj_step (y_and rfl rfl rfl) rfl rfl rfl (gj_nil ?_)))))
  refine ej_th ?_
  refine cj_cond rfl (fun h18 => ?_) (fun h18 => ?_)
  · have h18b := h18
    try simp only [sxb] at h18
    have hle : xs.length = ys.length := by
      have h := hl; rw [h18.1] at h; exact (of_decide_eq_true h.symm).1
    obtain ⟨x, hx'⟩ : ∃ x, xs[k]? = some x := ⟨_, List.getElem?_eq_getElem (by omega)⟩
    obtain ⟨y, hy'⟩ : ∃ y, ys[k]? = some y := ⟨_, List.getElem?_eq_getElem (by omega)⟩
    refine cj_skip (ej_th (cj_seq (cj_block ?_)))
    refine cj_draw (by kernel_rfl) (by kernel_rfl) (gj_step (y_move rfl) rfl rfl rfl (gj_step (y_move rfl) rfl rfl rfl (gj_step (y_ixR (reads_sl) Tryd.underlying23 Tryd.sizeOf3 rfl rfl (⟨by omega, by omega⟩)) rfl rfl rfl (gj_step (y_ld0 (reads_sl) Tryd.isAgg3 rfl (hx') rfl) rfl rfl rfl (gj_step (y_move rfl) rfl rfl rfl (gj_step (y_move rfl) rfl rfl rfl (gj_step (y_ixR (reads_sl) Tryd.underlying23 Tryd.sizeOf3 rfl rfl (⟨by omega, by omega⟩)) rfl rfl rfl (gj_step (y_ld0 (reads_sl) Tryd.isAgg3 rfl (hy') rfl) rfl rfl rfl (gj_step (y_eql rfl rfl) rfl rfl rfl (gj_step (y_assign rfl) rfl rfl rfl (gj_nil ?_)))))))))))
    refine ej_blk (ej_th ?_)
    refine cj_regionG (gj_step (y_move rfl) rfl rfl rfl (gj_step (y_add rfl rfl (by omega)) rfl rfl rfl (gj_step (y_assign rfl) rfl rfl rfl (gj_nil ?_))))
    refine ej_nx (k + 1, decide (x = y)) (by simp only; omega) ⟨by omega, ?_⟩ ⟨rfl, rfl, rfl, rfl, trivial⟩
    rw [h18.1] at hl
    have hl := of_decide_eq_true hl.symm
    exact decide_eq_decide.2 ⟨fun h => ⟨hl.1, (take_eq_succ hx' hy').2 ⟨hl.2, h⟩⟩, fun h => ((take_eq_succ hx' hy').1 h.2).2⟩
  · have h18b := h18
    try simp only [sxb] at h18
    refine cj_exit (ej_then_exit (ej_then_exit (ej_blk_hit (ej_th (cj_seq ?_)))))
    refine cj_regionG (gj_step (y_move rfl) rfl rfl rfl (gj_step (y_assign rfl) rfl rfl rfl (gj_nil ?_)))
    refine ej_th (cj_ret ?_)
    refine ej_ret1 rfl Tryd.results18 rfl (fun w' hp => ⟨?_, hp.below⟩)
    rw [hl]
    rcases h18 with h | h
    · rw [h] at hl
      have h1 := of_decide_eq_false hl.symm
      rw [decide_eq_false h1, decide_eq_false]
      rintro rfl
      exact h1 ⟨rfl, rfl⟩
    · rw [List.take_of_length_le (by omega)]
      congr 1
      refine congrArg _ (decide_eq_decide.2 ⟨fun h1 => ?_, ?_⟩)
      · rw [h1.2, List.take_of_length_le (by omega)]
      · rintro rfl
        exact ⟨rfl, (List.take_of_length_le (by omega)).symm⟩

theorem k_rCheckMarket (sales : List Sale) (fade : List Int) (metal day few : Int) (As Af : Option Addr) (cs cf : Nat) (w : World) (hs : Rd w 5 encSale As sales) (hf : Rd w 1 enInt Af fade) : Calls Tryd.prog 20 #[.agg #[.slice As sales.length cs, .slice Af fade.length cf, .int .i64 metal, .int .i64 day, .int .i64 few]] w (fun e w' => e = .returned (.int .i64 (errM (badMarket sales fade metal day few))) ∧ Grow w w') := by
  have hlen := hs.len
  have hlenf := hf.len
  refine enter_pure (args := [.agg #[.slice As sales.length cs, .slice Af fade.length cf, .int .i64 metal, .int .i64 day, .int .i64 few]]) [sl (fun b => b < w.heap.size) 5 encSale As sales, sl (fun b => b < w.heap.size) 1 enInt Af fade] Tryd.func20 rfl (by rw [Tryd.ntmps20]; simp) (fun g hg => by simp at hg; rcases hg with rfl | rfl; exact ⟨hs, fun _ h => h⟩; exact ⟨hf, fun _ h => h⟩) ?_
  refine cj_seq (cj_region ?_)
  refine oj_box rfl rfl rfl (fun b1 => ?_)
  refine oj_step (y_assign rfl) rfl rfl rfl ?_
  refine oj_nil ?_
  refine ej_th (cj_seq ?_)
  refine cj_regionG ?_
  refine gj_step (y_fa fa25_1 rfl) rfl rfl rfl (gj_step (y_load1 Tryd.isAgg23 rfl rfl) rfl rfl rfl (gj_step (y_lenA Tryd.underlying23 rfl) rfl rfl rfl (?_)))
  refine gj_step (y_call Tryd.call26 rfl (fun w hp => k_From _ _ _ w)) rfl rfl rfl ?_
  refine gj_step (y_move rfl) rfl rfl rfl (?_)
  refine gj_g 3 11 14 rfl rfl rfl rfl (fun hg11 => gj_yes rfl rfl rfl (y_fa fa25_2 rfl) rfl rfl (gj_yes rfl rfl rfl (y_load1 Tryd.isAgg3 rfl rfl) rfl rfl (gj_yes rfl rfl rfl (y_call Tryd.call26 rfl (fun w hp => k_From _ _ _ w)) rfl rfl (gj_nil rfl)))) ?_
  refine gj_step (y_and rfl rfl rfl) rfl rfl rfl (gj_step (y_move rfl) rfl rfl rfl (?_))
  refine gj_g 3 16 19 rfl rfl rfl rfl (fun hg16 => gj_yes rfl rfl rfl (y_fa fa25_3 rfl) rfl rfl (gj_yes rfl rfl rfl (y_load1 Tryd.isAgg3 rfl rfl) rfl rfl (gj_yes rfl rfl rfl (y_call Tryd.call26 rfl (fun w hp => k_From _ _ _ w)) rfl rfl (gj_nil rfl)))) ?_
  refine gj_step (y_and rfl rfl rfl) rfl rfl rfl (gj_step (y_move rfl) rfl rfl rfl (?_))
  refine gj_g 3 21 24 rfl rfl rfl rfl (fun hg21 => gj_yes rfl rfl rfl (y_fa fa25_4 rfl) rfl rfl (gj_yes rfl rfl rfl (y_load1 Tryd.isAgg3 rfl rfl) rfl rfl (gj_yes rfl rfl rfl (y_call Tryd.call26 rfl (fun w hp => k_From _ _ _ w)) rfl rfl (gj_nil rfl)))) ?_
  refine gj_step (y_and rfl rfl rfl) rfl rfl rfl (gj_step (y_move rfl) rfl rfl rfl (?_))
  refine gj_g 4 26 30 rfl rfl rfl rfl (fun hg26 => gj_yes rfl rfl rfl (y_fa0 fa25_0 rfl) rfl rfl (gj_yes rfl rfl rfl (y_load1 Tryd.isAgg22 rfl rfl) rfl rfl (gj_yes rfl rfl rfl (y_lenA Tryd.underlying22 rfl) rfl rfl (gj_yes rfl rfl rfl (y_leq rfl rfl) rfl rfl (gj_nil rfl))))) ?_
  refine gj_step (y_and rfl rfl rfl) rfl rfl rfl (gj_step (y_assign rfl) rfl rfl rfl (?_))
  refine gj_nil ?_
  refine ej_th (cj_seq (cj_seq ?_))
  refine cj_regionG (gj_step (y_assign rfl) rfl rfl rfl (gj_nil ?_))
  refine ej_th (cj_block ?_)
  refine cj_lpc (X := Nat × Bool) (fun ⟨k, ok⟩ => k ≤ fade.length ∧ (ok && (fade.drop k).all (fun n => btw 0 n 64)) = (okM sales.length fade.length metal day few && fade.all (fun n => btw 0 n 64))) (fun ⟨k, ok⟩ => [(1, .pointer (some ⟨b1, 0, none⟩)), (3, .bool ok), (4, .int .i64 k)]) (fun ⟨k, ok⟩ => fade.length - k) (0, okM sales.length fade.length metal day few) (⟨Nat.zero_le _, rfl⟩) ⟨rfl, rfl, rfl, trivial⟩ ?_
  rintro ⟨k, ok⟩ ⟨hk, hl⟩
  refine cj_seq (cj_seq ?_)
  refine cj_regionG (gj_step (y_move rfl) rfl rfl rfl (gj_step (y_fa fa25_1 rfl) rfl rfl rfl (gj_step (y_load1 Tryd.isAgg23 rfl rfl) rfl rfl rfl (gj_step (y_lenA Tryd.underlying23 rfl) rfl rfl rfl (gj_step (y_lss rfl rfl) rfl rfl rfl (gj_nil ?_))))))
  refine ej_th ?_
  refine cj_cond rfl (fun h36 => ?_) (fun h36 => ?_)
  · have h36b := h36
    try simp only [sxb] at h36
    obtain ⟨x, hx⟩ : ∃ x, fade[k]? = some x := ⟨_, List.getElem?_eq_getElem (by omega)⟩
    rw [all_drop _ fade k x hx] at hl
    refine cj_skip (ej_th (cj_seq (cj_block ?_)))
    refine cj_regionG ?_
    refine gj_step (y_move rfl) rfl rfl rfl (gj_step (y_move rfl) rfl rfl rfl (?_))
    refine gj_g 6 40 46 rfl rfl rfl rfl (fun hg40 => gj_yes rfl rfl rfl (y_fa fa25_1 rfl) rfl rfl (gj_yes rfl rfl rfl (y_load1 Tryd.isAgg23 rfl rfl) rfl rfl (gj_yes rfl rfl rfl (y_move rfl) rfl rfl (gj_yes rfl rfl rfl (y_ixR (reads_sl) Tryd.underlying23 Tryd.sizeOf3 rfl rfl (⟨by omega, by omega⟩)) rfl rfl (gj_yes rfl rfl rfl (y_ld0 (reads_sl) Tryd.isAgg3 rfl (hx) rfl) rfl rfl (gj_yes rfl rfl rfl (y_call Tryd.call26 rfl (fun w hp => k_From _ _ _ w)) rfl rfl (gj_nil rfl))))))) ?_
    refine gj_step (y_and rfl rfl rfl) rfl rfl rfl (gj_step (y_assign rfl) rfl rfl rfl (?_))
    refine gj_nil ?_
    refine ej_blk (ej_th ?_)
    refine cj_regionG (gj_step (y_move rfl) rfl rfl rfl (gj_step (y_add rfl rfl (by omega)) rfl rfl rfl (gj_step (y_assign rfl) rfl rfl rfl (gj_nil ?_))))
    refine ej_nx (k + 1, ok && btw 0 x 64) (by simp only; omega) ⟨by omega, ?_⟩ ⟨rfl, rfl, rfl, trivial⟩
    rw [← hl, Bool.and_assoc]
  · have h36b := h36
    try simp only [sxb] at h36
    refine cj_exit (ej_then_exit (ej_then_exit (ej_blk_hit (ej_th (cj_seq (cj_seq ?_))))))
    refine cj_regionG (gj_step (y_assign rfl) rfl rfl rfl (gj_nil ?_))
    refine ej_th (cj_block ?_)
    rw [List.drop_of_length_le (by omega)] at hl
    obtain rfl : ok = (okM sales.length fade.length metal day few && fade.all (fun n => btw 0 n 64)) := by rw [← hl]; simp
    clear hl hk
    refine cj_lpc (X := Nat × Bool) (fun ⟨k, ok⟩ => k ≤ sales.length ∧ (ok && (sales.drop k).all (okSale fade.length day)) = (okM sales.length fade.length metal day few && fade.all (fun n => btw 0 n 64) && sales.all (okSale fade.length day))) (fun ⟨k, ok⟩ => [(1, .pointer (some ⟨b1, 0, none⟩)), (3, .bool ok), (5, .int .i64 k)]) (fun ⟨k, ok⟩ => sales.length - k) (0, okM sales.length fade.length metal day few && fade.all (fun n => btw 0 n 64)) (⟨Nat.zero_le _, rfl⟩) ⟨rfl, rfl, rfl, trivial⟩ ?_
    rintro ⟨k, ok⟩ ⟨hk, hl⟩
    refine cj_seq (cj_seq ?_)
    refine cj_regionG (gj_step (y_move rfl) rfl rfl rfl (gj_step (y_fa0 fa25_0 rfl) rfl rfl rfl (gj_step (y_load1 Tryd.isAgg22 rfl rfl) rfl rfl rfl (gj_step (y_lenA Tryd.underlying22 rfl) rfl rfl rfl (gj_step (y_lss rfl rfl) rfl rfl rfl (gj_nil ?_))))))
    refine ej_th ?_
    refine cj_cond rfl (fun h52 => ?_) (fun h52 => ?_)
    · have h52b := h52
      try simp only [sxb] at h52
      obtain ⟨s, hx⟩ : ∃ s, sales[k]? = some s := ⟨_, List.getElem?_eq_getElem (by omega)⟩
      rw [all_drop _ sales k s hx] at hl
      refine cj_skip (ej_th (cj_seq (cj_block (cj_seq (cj_region ?_)))))
      refine oj_step (y_fa0 fa25_0 rfl) rfl rfl rfl ?_
      refine oj_step (y_load1 Tryd.isAgg22 rfl rfl) rfl rfl rfl ?_
      refine oj_step (y_move rfl) rfl rfl rfl ?_
      refine oj_step (y_ixR (reads_sl) Tryd.underlying22 Tryd.sizeOf56 rfl rfl (⟨by omega, by omega⟩)) rfl rfl rfl ?_
      refine oj_step (y_ldW (reads_sl) Tryd.isAgg56 Tryd.sizeOf56 rfl (hx) (fun _ => rfl)) rfl rfl rfl ?_
      refine oj_alloc Tryd.zeroValue56 rfl rfl (fun b6 => ?_)
      refine oj_store rfl rfl rfl rfl Tryd.sizeOf56 rfl ?_
      refine oj_nil ?_
      refine ej_th ?_
      refine cj_regionG ?_
      refine gj_step (y_move rfl) rfl rfl rfl (gj_step (y_move rfl) rfl rfl rfl (?_))
      refine gj_g 7 61 68 rfl rfl rfl rfl (fun hg61 => gj_yes rfl rfl rfl (y_fa0 fa56_0 rfl) rfl rfl (gj_yes rfl rfl rfl (y_load1 Tryd.isAgg3 rfl rfl) rfl rfl (gj_yes rfl rfl rfl (y_fa fa25_1 rfl) rfl rfl (gj_yes rfl rfl rfl (y_load1 Tryd.isAgg23 rfl rfl) rfl rfl (gj_yes rfl rfl rfl (y_lenA Tryd.underlying23 rfl) rfl rfl (gj_yes rfl rfl rfl (y_sub rfl rfl (by omega)) rfl rfl (gj_yes rfl rfl rfl (y_call Tryd.call26 rfl (fun w hp => k_From _ _ _ w)) rfl rfl (gj_nil rfl)))))))) ?_
      refine gj_step (y_and rfl rfl rfl) rfl rfl rfl (gj_step (y_move rfl) rfl rfl rfl (?_))
      refine gj_g 5 70 75 rfl rfl rfl rfl (fun hg70 => gj_yes rfl rfl rfl (y_fa fa56_1 rfl) rfl rfl (gj_yes rfl rfl rfl (y_load1 Tryd.isAgg3 rfl rfl) rfl rfl (gj_yes rfl rfl rfl (y_fa fa25_3 rfl) rfl rfl (gj_yes rfl rfl rfl (y_load1 Tryd.isAgg3 rfl rfl) rfl rfl (gj_yes rfl rfl rfl (y_call Tryd.call26 rfl (fun w hp => k_From _ _ _ w)) rfl rfl (gj_nil rfl)))))) ?_
      refine gj_step (y_and rfl rfl rfl) rfl rfl rfl (gj_step (y_move rfl) rfl rfl rfl (?_))
      refine gj_g 3 77 80 rfl rfl rfl rfl (fun hg77 => gj_yes rfl rfl rfl (y_fa fa56_2 rfl) rfl rfl (gj_yes rfl rfl rfl (y_load1 Tryd.isAgg3 rfl rfl) rfl rfl (gj_yes rfl rfl rfl (y_call Tryd.call26 rfl (fun w hp => k_From _ _ _ w)) rfl rfl (gj_nil rfl)))) ?_
      refine gj_step (y_and rfl rfl rfl) rfl rfl rfl (gj_step (y_move rfl) rfl rfl rfl (?_))
      refine gj_g 3 82 85 rfl rfl rfl rfl (fun hg82 => gj_yes rfl rfl rfl (y_fa fa56_3 rfl) rfl rfl (gj_yes rfl rfl rfl (y_load1 Tryd.isAgg3 rfl rfl) rfl rfl (gj_yes rfl rfl rfl (y_call Tryd.call26 rfl (fun w hp => k_From _ _ _ w)) rfl rfl (gj_nil rfl)))) ?_
      refine gj_step (y_and rfl rfl rfl) rfl rfl rfl (gj_step (y_move rfl) rfl rfl rfl (?_))
      refine gj_g 3 87 90 rfl rfl rfl rfl (fun hg87 => gj_yes rfl rfl rfl (y_fa fa56_4 rfl) rfl rfl (gj_yes rfl rfl rfl (y_load1 Tryd.isAgg3 rfl rfl) rfl rfl (gj_yes rfl rfl rfl (y_call Tryd.call26 rfl (fun w hp => k_From _ _ _ w)) rfl rfl (gj_nil rfl)))) ?_
      refine gj_step (y_and rfl rfl rfl) rfl rfl rfl (gj_step (y_assign rfl) rfl rfl rfl (?_))
      refine gj_nil ?_
      refine ej_blk (ej_th ?_)
      refine cj_regionG (gj_step (y_move rfl) rfl rfl rfl (gj_step (y_add rfl rfl (by omega)) rfl rfl rfl (gj_step (y_assign rfl) rfl rfl rfl (gj_nil ?_))))
      refine ej_nx (k + 1, ok && okSale fade.length day s) (by simp only; omega) ⟨by omega, ?_⟩ ⟨rfl, by simp only [okSale, btw, Bool.and_assoc]; rfl, rfl, trivial⟩
      rw [← hl, Bool.and_assoc]
    · have h52b := h52
      try simp only [sxb] at h52
      rw [List.drop_of_length_le (by omega), ref_market] at hl
      refine cj_exit (ej_then_exit (ej_then_exit (ej_blk_hit (ej_th (cj_seq (cj_seq ?_))))))
      refine cj_regionG (gj_step (y_move rfl) rfl rfl rfl (gj_step (y_not rfl) rfl rfl rfl (gj_nil ?_)))
      refine ej_th ?_
      refine cj_cond rfl (fun h93 => ?_) (fun h93 => ?_)
      · have h93b := h93
        try simp only [sxb] at h93
        refine cj_seq ?_
        refine cj_regionG (gj_step (y_assign rfl) rfl rfl rfl (gj_nil ?_))
        refine ej_th (cj_ret (ej_then_ret ?_))
        refine ej_ret1 rfl Tryd.results20 rfl (fun w' hp => ⟨?_, hp.below⟩)
        have : badMarket sales fade metal day few = true := by simpa [h93] using hl.symm
        rw [this]; rfl
      · have h93b := h93
        try simp only [sxb] at h93
        refine cj_skip (ej_th (cj_seq ?_))
        refine cj_regionG (gj_step (y_assign rfl) rfl rfl rfl (gj_nil ?_))
        refine ej_th (cj_ret ?_)
        refine ej_ret1 rfl Tryd.results20 rfl (fun w' hp => ⟨?_, hp.below⟩)
        have : badMarket sales fade metal day few = false := by simpa [h93] using hl.symm
        rw [this]; rfl

theorem k_craft (s : Sale) (fade : List Int) (metal day few : Int) (As Af : Option Addr) (ns cs cf : Nat) (w : World) (hf : Rd w 1 enInt Af fade) (hok : okSale fade.length day s = true) (hfa : fade.all (fun n => btw 0 n 64) = true) (hday : 0 ≤ day ∧ day ≤ 36500) : Calls Tryd.prog 79 #[.agg #[.slice As ns cs, .slice Af fade.length cf, .int .i64 metal, .int .i64 day, .int .i64 few], .agg #[.int .i64 s.kind, .int .i64 s.day, .int .i64 s.weight, .int .i64 s.metal, .int .i64 s.price]] w (fun e w' => e = .returned (.int .i64 (craftOf fade day s)) ∧ Grow w w') := by
  have hlen := hf.len
  obtain ⟨hk1, hk2, hk3, hk4, hk5⟩ := okSale_parts hok
  obtain ⟨hw1, hw2⟩ := craft_first hok
  have hff := fade_in hfa s.kind.toNat
  refine enter_pure (args := [.agg #[.slice As ns cs, .slice Af fade.length cf, .int .i64 metal, .int .i64 day, .int .i64 few], .agg #[.int .i64 s.kind, .int .i64 s.day, .int .i64 s.weight, .int .i64 s.metal, .int .i64 s.price]]) [sl (fun b => b < w.heap.size) 1 enInt Af fade] Tryd.func79 rfl (by rw [Tryd.ntmps79]; simp) (fun g hg => by simp at hg; subst hg; exact ⟨hf, fun _ h => h⟩) ?_
  refine cj_seq (cj_region ?_)
  refine oj_box rfl rfl rfl (fun b2 => ?_)
  refine oj_box rfl rfl rfl (fun b3 => ?_)
  refine oj_step (y_assign rfl) rfl rfl rfl ?_
  refine oj_nil ?_
  refine ej_th (cj_seq ?_)
  refine cj_regionG (gj_step (y_fa fa56_4 rfl) rfl rfl rfl (gj_step (y_load1 Tryd.isAgg3 rfl rfl) rfl rfl rfl (gj_step (y_fa fa56_2 rfl) rfl rfl rfl (gj_step (y_load1 Tryd.isAgg3 rfl rfl) rfl rfl rfl (gj_step (y_fa fa56_3 rfl) rfl rfl rfl (gj_step (y_load1 Tryd.isAgg3 rfl rfl) rfl rfl rfl (gj_step (y_mul rfl rfl (by omega)) rfl rfl rfl (gj_step (y_sub rfl rfl (by omega)) rfl rfl rfl (gj_step (y_max rfl rfl) rfl rfl rfl (gj_step (y_assign rfl) rfl rfl rfl (gj_nil ?_)))))))))))
  refine ej_th (cj_seq (cj_seq ?_))
  refine cj_regionG (gj_step (y_fa0 fa110_0 rfl) rfl rfl rfl (gj_step (y_fa fa25_3 rfl) rfl rfl rfl (gj_step (y_load1 Tryd.isAgg3 rfl rfl) rfl rfl rfl (gj_step (y_fa fa56_1 rfl) rfl rfl rfl (gj_step (y_load1 Tryd.isAgg3 rfl rfl) rfl rfl rfl (gj_step (y_sub rfl rfl (by omega)) rfl rfl rfl (gj_step (y_quo rfl rfl (⟨by omega, by omega, by omega⟩)) rfl rfl rfl (gj_step (y_move rfl) rfl rfl rfl (gj_nil ?_)))))))))
  refine ej_th (cj_block ?_)
  refine cj_lpc (X := Nat × Int) (fun ⟨k, n⟩ => k ≤ years day s ∧ (0 ≤ n ∧ n ≤ 1073741824) ∧ fadeN (years day s - k) (fade.getD s.kind.toNat 0) n = craftOf fade day s) (fun ⟨k, n⟩ => [(2, .pointer (some ⟨b2, 0, none⟩)), (3, .pointer (some ⟨b3, 0, none⟩)), (5, .int .i64 n), (21, .int .i64 ((day - s.day) / 365)), (22, .int .i64 k)]) (fun ⟨k, n⟩ => years day s - k) (0, max 0 (s.price - s.weight * s.metal)) (⟨Nat.zero_le _, hw2, rfl⟩) ⟨rfl, rfl, rfl, rfl, rfl, trivial⟩ ?_
  rintro ⟨k, n⟩ ⟨hk, hn, hl⟩
  have hy : (years day s : Int) = (day - s.day) / 365 := by unfold years; omega
  refine cj_seq ?_
  refine cj_regionG (gj_step (y_lss rfl rfl) rfl rfl rfl (gj_nil ?_))
  refine ej_th (cj_seq ?_)
  refine cj_cond rfl (fun h23 => ?_) (fun h23 => ?_)
  · have h23b := h23
    try simp only [sxb] at h23
    refine cj_skip (ej_th (cj_seq (cj_block ?_)))
    refine cj_regionG (gj_step (y_move rfl) rfl rfl rfl (gj_step (y_fa0 fa110_0 rfl) rfl rfl rfl (gj_step (y_fa fa25_1 rfl) rfl rfl rfl (gj_step (y_load1 Tryd.isAgg23 rfl rfl) rfl rfl rfl (gj_step (y_fa0 fa56_0 rfl) rfl rfl rfl (gj_step (y_load1 Tryd.isAgg3 rfl rfl) rfl rfl rfl (gj_step (y_ixR (reads_sl) Tryd.underlying23 Tryd.sizeOf3 rfl rfl (⟨by omega, by omega⟩)) rfl rfl rfl (gj_step (y_ld0 (reads_sl) Tryd.isAgg3 rfl (geq 0 (by omega)) rfl) rfl rfl rfl (gj_step (y_mul rfl rfl (by have := fade_mul n _ hn hff; omega)) rfl rfl rfl (gj_step (y_quo rfl rfl (by have := fade_mul n _ hn hff; omega)) rfl rfl rfl (gj_step (y_assign rfl) rfl rfl rfl (gj_nil ?_))))))))))))
    refine ej_blk (ej_th ?_)
    refine cj_regionG (gj_step (y_add rfl rfl (by omega)) rfl rfl rfl (gj_step (y_move rfl) rfl rfl rfl (gj_nil ?_)))
    refine ej_nx (k + 1, n * fade.getD s.kind.toNat 0 / 64) (by simp only; omega) ⟨by omega, ?_, ?_⟩ ⟨rfl, rfl, rfl, rfl, rfl, trivial⟩
    · have := fade_mul n _ hn hff; omega
    · rw [← hl, show years day s - k = (years day s - (k + 1)) + 1 by omega]; rfl
  · have h23b := h23
    try simp only [sxb] at h23
    refine cj_exit (ej_then_exit (ej_then_exit (ej_blk_hit (ej_th (cj_seq ?_)))))
    refine cj_regionG (gj_step (y_move rfl) rfl rfl rfl (gj_step (y_assign rfl) rfl rfl rfl (gj_nil ?_)))
    refine ej_th (cj_ret ?_)
    refine ej_ret1 rfl Tryd.results79 rfl (fun w' hp => ⟨?_, hp.below⟩)
    rw [← hl, show years day s - k = 0 by omega]; rfl

theorem k_rcraft (s : Sale) (fade : List Int) (metal day few : Int) (As Af : Option Addr) (ns cs cf : Nat) (w : World) (hf : Rd w 1 enInt Af fade) (hok : okSale fade.length day s = true) (hfa : fade.all (fun n => btw 0 n 64) = true) (hday : 0 ≤ day ∧ day ≤ 36500) : Calls Tryd.prog 83 #[.agg #[.slice As ns cs, .slice Af fade.length cf, .int .i64 metal, .int .i64 day, .int .i64 few], .agg #[.int .i64 s.kind, .int .i64 s.day, .int .i64 s.weight, .int .i64 s.metal, .int .i64 s.price]] w (fun e w' => e = .returned (.int .i64 (craftOf fade day s)) ∧ Grow w w') := by
  have hlen := hf.len
  obtain ⟨hk1, hk2, hk3, hk4, hk5⟩ := okSale_parts hok
  obtain ⟨hw1, hw2⟩ := craft_first hok
  have hff := fade_in hfa s.kind.toNat
  refine enter_pure (args := [.agg #[.slice As ns cs, .slice Af fade.length cf, .int .i64 metal, .int .i64 day, .int .i64 few], .agg #[.int .i64 s.kind, .int .i64 s.day, .int .i64 s.weight, .int .i64 s.metal, .int .i64 s.price]]) [sl (fun b => b < w.heap.size) 1 enInt Af fade] Tryd.func83 rfl (by rw [Tryd.ntmps83]; simp) (fun g hg => by simp at hg; subst hg; exact ⟨hf, fun _ h => h⟩) ?_
  refine cj_seq (cj_region ?_)
  refine oj_box rfl rfl rfl (fun b2 => ?_)
  refine oj_box rfl rfl rfl (fun b3 => ?_)
  refine oj_step (y_assign rfl) rfl rfl rfl ?_
  refine oj_nil ?_
  refine ej_th (cj_seq ?_)
  refine cj_regionG (gj_step (y_fa fa56_4 rfl) rfl rfl rfl (gj_step (y_load1 Tryd.isAgg3 rfl rfl) rfl rfl rfl (gj_step (y_fa fa56_2 rfl) rfl rfl rfl (gj_step (y_load1 Tryd.isAgg3 rfl rfl) rfl rfl rfl (gj_step (y_fa fa56_3 rfl) rfl rfl rfl (gj_step (y_load1 Tryd.isAgg3 rfl rfl) rfl rfl rfl (gj_step (y_mul rfl rfl (by omega)) rfl rfl rfl (gj_step (y_sub rfl rfl (by omega)) rfl rfl rfl (gj_step (y_max rfl rfl) rfl rfl rfl (gj_step (y_assign rfl) rfl rfl rfl (gj_nil ?_)))))))))))
  refine ej_th (cj_seq (cj_seq ?_))
  refine cj_regionG (gj_step (y_fa fa56_1 rfl) rfl rfl rfl (gj_step (y_load1 Tryd.isAgg3 rfl rfl) rfl rfl rfl (gj_step (y_add rfl rfl (by omega)) rfl rfl rfl (gj_step (y_assign rfl) rfl rfl rfl (gj_nil ?_)))))
  refine ej_th (cj_block ?_)
  refine cj_lpc (X := Nat × Int) (fun ⟨k, n⟩ => k ≤ years day s ∧ (0 ≤ n ∧ n ≤ 1073741824) ∧ fadeN (years day s - k) (fade.getD s.kind.toNat 0) n = craftOf fade day s) (fun ⟨k, n⟩ => [(2, .pointer (some ⟨b2, 0, none⟩)), (3, .pointer (some ⟨b3, 0, none⟩)), (5, .int .i64 n), (6, .int .i64 (s.day + 365 * (k + 1)))]) (fun ⟨k, n⟩ => years day s - k) (0, max 0 (s.price - s.weight * s.metal)) (⟨Nat.zero_le _, hw2, rfl⟩) ⟨rfl, rfl, rfl, by rw [show s.day + 365 * (((0 : Nat) : Int) + 1) = s.day + 365 by omega]; rfl, trivial⟩ ?_
  rintro ⟨k, n⟩ ⟨hk, hn, hl⟩
  have hy : (years day s : Int) = (day - s.day) / 365 := by unfold years; omega
  refine cj_seq (cj_seq ?_)
  refine cj_regionG (gj_step (y_move rfl) rfl rfl rfl (gj_step (y_fa fa25_3 rfl) rfl rfl rfl (gj_step (y_load1 Tryd.isAgg3 rfl rfl) rfl rfl rfl (gj_step (y_leq rfl rfl) rfl rfl rfl (gj_nil ?_)))))
  refine ej_th ?_
  refine cj_cond rfl (fun h22 => ?_) (fun h22 => ?_)
  · have h22b := h22
    try simp only [sxb] at h22
    refine cj_skip (ej_th (cj_seq (cj_block ?_)))
    refine cj_regionG ?_
    refine gj_step (y_move rfl) rfl rfl rfl (gj_step (y_fa fa25_1 rfl) rfl rfl rfl (gj_step (y_load1 Tryd.isAgg23 rfl rfl) rfl rfl rfl (gj_step (y_fa0 fa56_0 rfl) rfl rfl rfl (gj_step (y_load1 Tryd.isAgg3 rfl rfl) rfl rfl rfl (gj_step (y_ixR (reads_sl) Tryd.underlying23 Tryd.sizeOf3 rfl rfl (⟨by omega, by omega⟩)) rfl rfl rfl (gj_step (y_ld0 (reads_sl) Tryd.isAgg3 rfl (geq 0 (by omega)) rfl) rfl rfl rfl (gj_step (y_mul rfl rfl (by have := fade_mul n _ hn hff; omega)) rfl rfl rfl (?_))))))))
    refine gj_step (y_call Tryd.call29 rfl (fun w hp => k_Down _ _ w (by have := fade_mul n _ hn hff; omega) (by omega))) rfl rfl rfl ?_
    refine gj_step (y_assign rfl) rfl rfl rfl (?_)
    refine gj_nil ?_
    refine ej_blk (ej_th ?_)
    refine cj_regionG (gj_step (y_move rfl) rfl rfl rfl (gj_step (y_add rfl rfl (by omega)) rfl rfl rfl (gj_step (y_assign rfl) rfl rfl rfl (gj_nil ?_))))
    refine ej_nx (k + 1, n * fade.getD s.kind.toNat 0 / 64) (by simp only; omega) ⟨by omega, ?_, ?_⟩ ⟨rfl, rfl, rfl, by simp only; rw [show s.day + 365 * (((k + 1 : Nat) : Int) + 1) = s.day + 365 * ((k : Int) + 1) + 365 by omega]; rfl, trivial⟩
    · have := fade_mul n _ hn hff; omega
    · rw [← hl, show years day s - k = (years day s - (k + 1)) + 1 by omega]; rfl
  · have h22b := h22
    try simp only [sxb] at h22
    refine cj_exit (ej_then_exit (ej_then_exit (ej_blk_hit (ej_th (cj_seq ?_)))))
    refine cj_regionG (gj_step (y_move rfl) rfl rfl rfl (gj_step (y_assign rfl) rfl rfl rfl (gj_nil ?_)))
    refine ej_th (cj_ret ?_)
    refine ej_ret1 rfl Tryd.results83 rfl (fun w' hp => ⟨?_, hp.below⟩)
    rw [← hl, show years day s - k = 0 by omega]; rfl

end Go.Proofs.YtafmgkiddhappaaDoor
namespace Go.Proofs.YtafmgkiddhappaaDoor
open Go.Sx Go.RowKit
set_option maxRecDepth 20000
theorem k_rcrafts (sales : List Sale) (fade : List Int) (metal day few : Int) (As Af : Option Addr) (cs cf : Nat) (kind : Int) (w : World) (hs : Rd w 5 encSale As sales) (hf : Rd w 1 enInt Af fade) (hb : badMarket sales fade metal day few = false) : Calls Tryd.prog 56 #[.agg #[.slice As sales.length cs, .slice Af fade.length cf, .int .i64 metal, .int .i64 day, .int .i64 few], .int .i64 kind] w (fun e w' => ∃ A c, e = .returned (.slice A (craftsOf sales fade day kind).length c) ∧ Grow w w' ∧ Res w w' 1 enInt A (craftsOf sales fade day kind)) := by
  have hlen := hs.len
  have hlenf := hf.len
  obtain ⟨hfa, hfl, hme, hda, hfe, hsl, hsa⟩ := badMarket_parts hb
  refine enter_pure (args := [.agg #[.slice As sales.length cs, .slice Af fade.length cf, .int .i64 metal, .int .i64 day, .int .i64 few], .int .i64 kind]) [sl (fun b => b < w.heap.size) 5 encSale As sales, sl (fun b => b < w.heap.size) 1 enInt Af fade] Tryd.func56 rfl (by rw [Tryd.ntmps56]; simp) (fun g hg => by simp at hg; rcases hg with rfl | rfl; exact ⟨hs, fun _ h => h⟩; exact ⟨hf, fun _ h => h⟩) ?_
  refine cj_seq (cj_region ?_)
  refine oj_box rfl rfl rfl (fun b2 => ?_)
  refine oj_step (y_assign rfl) rfl rfl rfl ?_
  refine oj_nil ?_
  refine ej_th (cj_seq ?_)
  refine cj_regionG (gj_step (y_assign rfl) rfl rfl rfl (gj_nil ?_))
  refine ej_th (cj_seq (cj_seq ?_))
  refine cj_ownNil 3 1 enInt ?_
  refine cj_regionG (gj_step (y_assign rfl) rfl rfl rfl (gj_nil ?_))
  refine ej_th (cj_block ?_)
  refine cj_lp (X := Nat × Option Addr × Nat × List Int) (fun ⟨k, A, c, out⟩ => k ≤ sales.length ∧ out.length ≤ k ∧ (sales.drop k).foldl (fun out s => if s.kind = kind then ins out (craftOf fade day s) else out) out = craftsOf sales fade day kind) (fun ⟨k, A, c, out⟩ => [(1, .int .i64 kind), (2, .pointer (some ⟨b2, 0, none⟩)), (5, .slice A out.length c), (6, .int .i64 k)]) (fun ⟨k, A, c, out⟩ => [ow 3 1 enInt A c out, ownB b2 (cellsB 25 [.slice As sales.length cs, .slice Af fade.length cf, .int .i64 metal, .int .i64 day, .int .i64 few])]) (fun ⟨k, A, c, out⟩ => [sl (fun b => b < w.heap.size) 5 encSale As sales, sl (fun b => b < w.heap.size) 1 enInt Af fade]) (fun ⟨k, A, c, out⟩ => sales.length - k) (0, none, 0, []) (⟨Nat.zero_le _, Nat.le_refl _, rfl⟩) ⟨rfl, rfl, rfl, rfl, trivial⟩ ?_
  rintro ⟨k, A, c, out⟩ ⟨hk, hol, hl⟩
  refine cj_seq (cj_seq ?_)
  refine cj_regionG (gj_step (y_move rfl) rfl rfl rfl (gj_step (y_fa0 fa25_0 rfl) rfl rfl rfl (gj_step (y_load1 Tryd.isAgg22 rfl rfl) rfl rfl rfl (gj_step (y_lenA Tryd.underlying22 rfl) rfl rfl rfl (gj_step (y_lss rfl rfl) rfl rfl rfl (gj_nil ?_))))))
  refine ej_th ?_
  refine cj_cond rfl (fun h14 => ?_) (fun h14 => ?_)
  · have h14b := h14
    try simp only [sxb] at h14
    obtain ⟨s, hx⟩ : ∃ s, sales[k]? = some s := ⟨_, List.getElem?_eq_getElem (by omega)⟩
    have hso := hsa s (List.mem_of_getElem? hx)
    rw [fold_drop _ sales out k s hx] at hl
    refine cj_skip (ej_th (cj_seq (cj_block (cj_seq (cj_seq ?_)))))
    refine cj_regionG (gj_step (y_fa0 fa25_0 rfl) rfl rfl rfl (gj_step (y_load1 Tryd.isAgg22 rfl rfl) rfl rfl rfl (gj_step (y_move rfl) rfl rfl rfl (gj_step (y_ixR (reads_sl) Tryd.underlying22 Tryd.sizeOf56 rfl rfl (⟨by omega, by omega⟩)) rfl rfl rfl (gj_step (y_faE fa56_0 rfl) rfl rfl rfl (gj_step (y_ld1 (reads_sl) Tryd.isAgg3 rfl (hx) rfl) rfl rfl rfl (gj_step (y_move rfl) rfl rfl rfl (gj_step (y_neq rfl rfl) rfl rfl rfl (gj_nil ?_)))))))))
    refine ej_th ?_
    refine cj_cond rfl (fun h24 => ?_) (fun h24 => ?_)
    · have h24b := h24
      try simp only [sxb] at h24
      refine cj_exit (ej_then_exit (ej_blk_hit (ej_th ?_)))
      refine cj_regionG (gj_step (y_move rfl) rfl rfl rfl (gj_step (y_add rfl rfl (by omega)) rfl rfl rfl (gj_step (y_assign rfl) rfl rfl rfl (gj_nil ?_))))
      refine ej_nx (k + 1, A, c, out) (by simp only; omega) ⟨by omega, by omega, ?_⟩ ⟨rfl, rfl, rfl, rfl, trivial⟩
      simp only [if_neg h24] at hl
      exact hl
    · have h24b := h24
      try simp only [sxb] at h24
      simp only [if_pos h24] at hl
      refine cj_skip (ej_th (cj_seq ?_))
      refine cj_draw (by kernel_rfl) (by kernel_rfl) ?_
      refine gj_step (y_loadN Tryd.isAgg25 Tryd.sizeOf25 rfl) rfl rfl rfl (gj_step (y_fa0 fa25_0 rfl) rfl rfl rfl (gj_step (y_load1 Tryd.isAgg22 rfl rfl) rfl rfl rfl (gj_step (y_move rfl) rfl rfl rfl (gj_step (y_ixR (reads_sl) Tryd.underlying22 Tryd.sizeOf56 rfl rfl (⟨by omega, by omega⟩)) rfl rfl rfl (gj_step (y_ldW (reads_sl) Tryd.isAgg56 Tryd.sizeOf56 rfl (hx) (fun _ => rfl)) rfl rfl rfl (?_))))))
      refine gj_step (y_call Tryd.call83 rfl (fun w hp => k_rcraft s fade metal day few As Af sales.length cs cf w hp.rd hso hfa hda)) rfl rfl rfl ?_
      refine gj_step (y_assign rfl) rfl rfl rfl (?_)
      refine gj_nil ?_
      refine ej_th (cj_seq ?_)
      refine cj_regionG (gj_step (y_assign rfl) rfl rfl rfl (gj_nil ?_))
      refine ej_th (cj_seq (cj_block ?_))
      have hul := upTo_le out (craftOf fade day s)
      refine cj_lpc (X := Nat) (fun i => i ≤ upTo out (craftOf fade day s)) (fun i => [(1, .int .i64 kind), (2, .pointer (some ⟨b2, 0, none⟩)), (5, .slice A out.length c), (6, .int .i64 k), (7, .int .i64 (craftOf fade day s)), (8, .int .i64 i)]) (fun i => upTo out (craftOf fade day s) - i) 0 (Nat.zero_le _) ⟨rfl, rfl, rfl, rfl, rfl, rfl, trivial⟩ ?_
      rintro i hi
      refine cj_seq (cj_seq ?_)
      refine cj_regionG (gj_step (y_move rfl) rfl rfl rfl (gj_step (y_move rfl) rfl rfl rfl (gj_step (y_lenA Tryd.underlying23 rfl) rfl rfl rfl (gj_step (y_lss rfl rfl) rfl rfl rfl (gj_step (y_move rfl) rfl rfl rfl (gj_g 6 36 42 rfl rfl rfl rfl (fun hg36 => gj_yes rfl rfl rfl (y_move rfl) rfl rfl (gj_yes rfl rfl rfl (y_move rfl) rfl rfl (gj_yes rfl rfl rfl (y_ixR (reads_owI) Tryd.underlying23 Tryd.sizeOf3 rfl rfl (⟨by omega, by have := of_decide_eq_true hg36; omega⟩)) rfl rfl (gj_yes rfl rfl rfl (y_ld0 (reads_owI) Tryd.isAgg3 rfl (geq 0 (by have := of_decide_eq_true hg36; omega)) rfl) rfl rfl (gj_yes rfl rfl rfl (y_move rfl) rfl rfl (gj_yes rfl rfl rfl (y_leq rfl rfl) rfl rfl (gj_nil rfl))))))) (gj_step (y_and rfl rfl rfl) rfl rfl rfl (gj_nil ?_))))))))
      refine ej_th ?_
      refine cj_cond rfl (fun h43 => ?_) (fun h43 => ?_)
      · have h43b := h43
        try simp only [sxb] at h43
        have hiu : i < upTo out (craftOf fade day s) := by
          rcases Nat.lt_or_ge i (upTo out (craftOf fade day s)) with h | h
          · exact h
          · exfalso
            obtain rfl : i = upTo out (craftOf fade day s) := by omega
            exact upTo_at out _ _ (geq 0 (by omega)) h43.2
        refine cj_skip (ej_th (cj_block ?_))
        refine cj_regionG (gj_step (y_move rfl) rfl rfl rfl (gj_step (y_add rfl rfl (by omega)) rfl rfl rfl (gj_step (y_assign rfl) rfl rfl rfl (gj_nil ?_))))
        refine ej_blk ?_
        refine ej_nx (i + 1) (by omega) (by omega) ⟨rfl, rfl, rfl, rfl, rfl, rfl, trivial⟩
      · have h43b := h43
        try simp only [sxb] at h43
        obtain rfl : i = upTo out (craftOf fade day s) := by
          rcases Nat.lt_or_ge i (upTo out (craftOf fade day s)) with h | h
          · exfalso
            have := upTo_lt out _ i _ h (geq 0 (by omega))
            simp only [Int.toNat_natCast] at h43
            omega
          · omega
        refine cj_exit (ej_then_exit (ej_then_exit (ej_blk_hit (ej_th (cj_seq ?_)))))
        refine cj_regionG (gj_step (y_assign rfl) rfl rfl rfl (gj_nil ?_))
        refine ej_th ?_
        refine cj_get (fun w hp => hp.owCap (A := A) (xs := out)) (fun hcap => ?_)
        refine cj_plan 13 (by kernel_rfl) (by kernel_rfl) ?_
        refine pl_y 0 rfl (y_move rfl) rfl rfl rfl rfl (by kernel_rfl) ?_
        refine pl_y 1 rfl (y_move rfl) rfl rfl rfl rfl (by kernel_rfl) ?_
        refine pl_y 2 rfl (y_move rfl) rfl rfl rfl rfl (by kernel_rfl) ?_
        refine pl_y 3 rfl (y_sliceR (xs := out) 0 (upTo out (craftOf fade day s)) Tryd.underlying23 Tryd.sizeOf3 rfl rfl rfl (Nat.zero_le _) hul hcap) rfl rfl rfl rfl (by kernel_rfl) ?_
        refine pl_y 5 rfl (y_move rfl) rfl rfl rfl rfl (by kernel_rfl) ?_
        refine pl_y 8 rfl (y_move rfl) rfl rfl rfl rfl (by kernel_rfl) ?_
        refine pl_y 9 rfl (y_move rfl) rfl rfl rfl rfl (by kernel_rfl) ?_
        refine pl_y 10 rfl (y_sliceR (xs := out) (upTo out (craftOf fade day s)) out.length Tryd.underlying23 Tryd.sizeOf3 rfl rfl rfl hul (Nat.le_refl _) hcap) rfl rfl rfl rfl (by kernel_rfl) ?_
        refine pl_w2 4 6 (by kernel_rfl) rfl rfl (pl_fire rfl rfl rfl (by kernel_rfl) ?_) (pl_fire rfl rfl rfl (by kernel_rfl) ?_)
        · refine oj_ownNil 3 1 enInt ?_
          refine oj_append (xs := ([] : List Int)) (A := none) (c := 0) el23 (fun _ => rfl) enInt_one rfl rfl rfl (reads_sub (reads_owI) 0 (upTo out (craftOf fade day s)) hcap) (by simp [maxLen]; omega) (by simp; omega) rfl (fun A50 c50 => ?_)
          refine oj_nil ?_
          refine ej_pl (lt_y (y_sliceR (xs := out) (upTo out (craftOf fade day s)) out.length Tryd.underlying23 Tryd.sizeOf3 rfl rfl rfl hul (Nat.le_refl _) hcap) rfl (lt_y (y_move rfl) rfl (lt_y (y_move rfl) rfl (lt_y (y_move rfl) rfl (lt_w (by kernel_rfl) (lt_y (y_move rfl) rfl (lt_y (y_move rfl) rfl (lt_w (by kernel_rfl) (lt_nil))))))))) ?_
          refine pl_w1 6 (by kernel_rfl) rfl rfl (pl_fire rfl rfl rfl (by kernel_rfl) ?_)
          refine oj_buildSlice [.int .i64 0] Tryd.underlying23 Tryd.sizeOf3 Tryd.zeroValue3 rfl rfl (by kernel_rfl) rfl rfl (fun b52 => ?_)
          refine oj_nil ?_
          refine ej_pl (lt_y (y_sliceR (xs := out) (upTo out (craftOf fade day s)) out.length Tryd.underlying23 Tryd.sizeOf3 rfl rfl rfl hul (Nat.le_refl _) hcap) rfl (lt_y (y_move rfl) rfl (lt_y (y_move rfl) rfl (lt_w (by kernel_rfl) (lt_y (y_sliceR (xs := out) 0 (upTo out (craftOf fade day s)) Tryd.underlying23 Tryd.sizeOf3 rfl rfl rfl (Nat.zero_le _) hul hcap) rfl (lt_y (y_move rfl) rfl (lt_y (y_move rfl) rfl (lt_y (y_move rfl) rfl (lt_nil))))))))) ?_
          refine pl_w1 7 (by kernel_rfl) rfl rfl (pl_fire rfl rfl rfl (by kernel_rfl) ?_)
          refine oj_append  el23 (fun _ => rfl) enInt_one rfl rfl rfl (reads_lit [craftOf fade day s] (fun _ => rfl) rfl) (by simp [maxLen]; omega) (by simp; omega) rfl (fun A53 c53 => ?_)
          refine oj_nil ?_
          refine ej_pl (lt_y (y_sliceR (xs := out) (upTo out (craftOf fade day s)) out.length Tryd.underlying23 Tryd.sizeOf3 rfl rfl rfl hul (Nat.le_refl _) hcap) rfl (lt_y (y_move rfl) rfl (lt_y (y_move rfl) rfl (lt_y (y_move rfl) rfl (lt_y (y_sliceR (xs := out) 0 (upTo out (craftOf fade day s)) Tryd.underlying23 Tryd.sizeOf3 rfl rfl rfl (Nat.zero_le _) hul hcap) rfl (lt_y (y_move rfl) rfl (lt_y (y_move rfl) rfl (lt_y (y_move rfl) rfl (lt_nil))))))))) ?_
          refine pl_w1 11 (by kernel_rfl) rfl rfl (pl_fire rfl rfl rfl (by kernel_rfl) ?_)
          refine oj_append  el23 (fun _ => rfl) enInt_one rfl rfl rfl (reads_sub (reads_owI) (upTo out (craftOf fade day s)) out.length hcap) (by simp [maxLen]; omega) (by simp; omega) rfl (fun A57 c57 => ?_)
          refine oj_nil ?_
          refine ej_pl (lt_w (by kernel_rfl) (lt_y (y_move rfl) rfl (lt_y (y_move rfl) rfl (lt_y (y_move rfl) rfl (lt_y (y_sliceR (xs := out) 0 (upTo out (craftOf fade day s)) Tryd.underlying23 Tryd.sizeOf3 rfl rfl rfl (Nat.zero_le _) hul hcap) rfl (lt_y (y_move rfl) rfl (lt_y (y_move rfl) rfl (lt_y (y_move rfl) rfl (lt_nil))))))))) ?_
          refine pl_y 12 rfl (y_assign rfl) rfl rfl rfl rfl (by kernel_rfl) ?_
          refine pl_end (by kernel_rfl) ?_
          refine ej_blk (ej_th ?_)
          refine cj_regionG (gj_step (y_move rfl) rfl rfl rfl (gj_step (y_add rfl rfl (by omega)) rfl rfl rfl (gj_step (y_assign rfl) rfl rfl rfl (gj_nil ?_))))
          have heq : (([] ++ (out.take (upTo out (craftOf fade day s))).drop 0) ++ [craftOf fade day s]) ++ (out.take out.length).drop (upTo out (craftOf fade day s)) = ins out (craftOf fade day s) := by simp [ins]
          rw [heq]
          refine ej_nx (k + 1, A57, c57, ins out (craftOf fade day s)) (by simp only; omega) ⟨by omega, by rw [ins_len]; omega, hl⟩ ⟨rfl, rfl, rfl, rfl, trivial⟩
        · refine oj_buildSlice [.int .i64 0] Tryd.underlying23 Tryd.sizeOf3 Tryd.zeroValue3 rfl rfl (by kernel_rfl) rfl rfl (fun b52 => ?_)
          refine oj_nil ?_
          refine ej_pl (lt_y (y_sliceR (xs := out) (upTo out (craftOf fade day s)) out.length Tryd.underlying23 Tryd.sizeOf3 rfl rfl rfl hul (Nat.le_refl _) hcap) rfl (lt_y (y_move rfl) rfl (lt_y (y_move rfl) rfl (lt_w (by kernel_rfl) (lt_y (y_sliceR (xs := out) 0 (upTo out (craftOf fade day s)) Tryd.underlying23 Tryd.sizeOf3 rfl rfl rfl (Nat.zero_le _) hul hcap) rfl (lt_y (y_move rfl) rfl (lt_y (y_move rfl) rfl (lt_y (y_move rfl) rfl (lt_nil))))))))) ?_
          refine pl_w1 4 (by kernel_rfl) rfl rfl (pl_fire rfl rfl rfl (by kernel_rfl) ?_)
          refine oj_ownNil 3 1 enInt ?_
          refine oj_append (xs := ([] : List Int)) (A := none) (c := 0) el23 (fun _ => rfl) enInt_one rfl rfl rfl (reads_sub (reads_owI) 0 (upTo out (craftOf fade day s)) hcap) (by simp [maxLen]; omega) (by simp; omega) rfl (fun A50 c50 => ?_)
          refine oj_nil ?_
          refine ej_pl (lt_y (y_sliceR (xs := out) (upTo out (craftOf fade day s)) out.length Tryd.underlying23 Tryd.sizeOf3 rfl rfl rfl hul (Nat.le_refl _) hcap) rfl (lt_y (y_move rfl) rfl (lt_y (y_move rfl) rfl (lt_y (y_move rfl) rfl (lt_w (by kernel_rfl) (lt_y (y_move rfl) rfl (lt_y (y_move rfl) rfl (lt_w (by kernel_rfl) (lt_nil))))))))) ?_
          refine pl_w1 7 (by kernel_rfl) rfl rfl (pl_fire rfl rfl rfl (by kernel_rfl) ?_)
          refine oj_append  el23 (fun _ => rfl) enInt_one rfl rfl rfl (reads_lit [craftOf fade day s] (fun _ => rfl) rfl) (by simp [maxLen]; omega) (by simp; omega) rfl (fun A53 c53 => ?_)
          refine oj_nil ?_
          refine ej_pl (lt_y (y_sliceR (xs := out) (upTo out (craftOf fade day s)) out.length Tryd.underlying23 Tryd.sizeOf3 rfl rfl rfl hul (Nat.le_refl _) hcap) rfl (lt_y (y_move rfl) rfl (lt_y (y_move rfl) rfl (lt_y (y_move rfl) rfl (lt_y (y_sliceR (xs := out) 0 (upTo out (craftOf fade day s)) Tryd.underlying23 Tryd.sizeOf3 rfl rfl rfl (Nat.zero_le _) hul hcap) rfl (lt_y (y_move rfl) rfl (lt_y (y_move rfl) rfl (lt_y (y_move rfl) rfl (lt_nil))))))))) ?_
          refine pl_w1 11 (by kernel_rfl) rfl rfl (pl_fire rfl rfl rfl (by kernel_rfl) ?_)
          refine oj_append  el23 (fun _ => rfl) enInt_one rfl rfl rfl (reads_sub (reads_owI) (upTo out (craftOf fade day s)) out.length hcap) (by simp [maxLen]; omega) (by simp; omega) rfl (fun A57 c57 => ?_)
          refine oj_nil ?_
          refine ej_pl (lt_w (by kernel_rfl) (lt_y (y_move rfl) rfl (lt_y (y_move rfl) rfl (lt_y (y_move rfl) rfl (lt_y (y_sliceR (xs := out) 0 (upTo out (craftOf fade day s)) Tryd.underlying23 Tryd.sizeOf3 rfl rfl rfl (Nat.zero_le _) hul hcap) rfl (lt_y (y_move rfl) rfl (lt_y (y_move rfl) rfl (lt_y (y_move rfl) rfl (lt_nil))))))))) ?_
          refine pl_y 12 rfl (y_assign rfl) rfl rfl rfl rfl (by kernel_rfl) ?_
          refine pl_end (by kernel_rfl) ?_
          refine ej_blk (ej_th ?_)
          refine cj_regionG (gj_step (y_move rfl) rfl rfl rfl (gj_step (y_add rfl rfl (by omega)) rfl rfl rfl (gj_step (y_assign rfl) rfl rfl rfl (gj_nil ?_))))
          have heq : (([] ++ (out.take (upTo out (craftOf fade day s))).drop 0) ++ [craftOf fade day s]) ++ (out.take out.length).drop (upTo out (craftOf fade day s)) = ins out (craftOf fade day s) := by simp [ins]
          rw [heq]
          refine ej_nx (k + 1, A57, c57, ins out (craftOf fade day s)) (by simp only; omega) ⟨by omega, by rw [ins_len]; omega, hl⟩ ⟨rfl, rfl, rfl, rfl, trivial⟩
  · have h14b := h14
    try simp only [sxb] at h14
    refine cj_exit (ej_then_exit (ej_then_exit (ej_blk_hit (ej_th (cj_seq ?_)))))
    refine cj_regionG (gj_step (y_move rfl) rfl rfl rfl (gj_step (y_assign rfl) rfl rfl rfl (gj_nil ?_)))
    refine ej_th (cj_ret ?_)
    rw [List.drop_of_length_le (by omega), List.foldl_nil] at hl
    subst hl
    exact ej_ret1 rfl Tryd.results56 rfl (fun w' hp => ⟨A, c, rfl, hp.below, hp.res (fun _ => rfl) (by unfold maxLen; omega)⟩)

end Go.Proofs.YtafmgkiddhappaaDoor
namespace Go.Proofs.YtafmgkiddhappaaDoor
open Go.Sx Go.RowKit
set_option maxRecDepth 20000
theorem k_of1 (sales : List Sale) (fade : List Int) (metal day few : Int) (As Af : Option Addr) (cs cf : Nat) (kind : Int) (bm bk : Nat) (fp : Nat → Prop) : Iter Tryd.prog 97 #[.pointer (some ⟨bm, 0, none⟩), .pointer (some ⟨bk, 0, none⟩)] (fun s : Sale => [.agg (encSale s).toArray]) (ofKind sales kind) [ownB bk (cellsB 3 [.int .i64 kind]), ownB bm (cellsB 110 [.slice As sales.length cs, .slice Af fade.length cf, .int .i64 metal, .int .i64 day, .int .i64 few]), sl fp 5 encSale As sales] := by
  intro l J Jx W hJ hJx hS hY h0
  have hb := hS 0 W h0
  have hlen : sales.length ≤ 9223372036854775807 := by
    have := (hb _ (List.mem_cons_of_mem _ (List.mem_cons_of_mem _ (List.mem_cons_self ..)))).1
    have h1 : sales.length ≤ maxLen := this.1
    unfold maxLen at h1; omega
  have hargs : (#[.func (.yield l) #[] #[]] ++ #[.pointer (some ⟨bm, 0, none⟩), .pointer (some ⟨bk, 0, none⟩)] : Array Value) = [.func (.yield l) #[] #[], .pointer (some ⟨bm, 0, none⟩), .pointer (some ⟨bk, 0, none⟩)].toArray := rfl
  rw [hargs]
  refine enter_pure (args := [.func (.yield l) #[] #[], .pointer (some ⟨bm, 0, none⟩), .pointer (some ⟨bk, 0, none⟩)]) [ownB bk (cellsB 3 [.int .i64 kind]), ownB bm (cellsB 110 [.slice As sales.length cs, .slice Af fade.length cf, .int .i64 metal, .int .i64 day, .int .i64 few]), sl fp 5 encSale As sales] Tryd.func97 rfl (by rw [Tryd.ntmps97]; simp) hb ?_
  refine cj_seq ?_
  refine cj_regionG (gj_step (y_fa0 fa110_0 rfl) rfl rfl rfl (gj_step (y_fa0 fa25_0 rfl) rfl rfl rfl (gj_step (y_loadS1 Tryd.isAgg22 rfl rfl) rfl rfl rfl (gj_step (y_lenA Tryd.underlying22 rfl) rfl rfl rfl (gj_step (y_move rfl) rfl rfl rfl (gj_nil ?_))))))
  refine ej_th (cj_block ?_)
  refine cj_loopB (X := Nat) (fun i => i ≤ sales.length) (fun i => [(0, .func (.yield l) #[] #[]), (1, .pointer (some ⟨bm, 0, none⟩)), (2, .pointer (some ⟨bk, 0, none⟩)), (8, .slice As sales.length cs), (9, .int .i64 sales.length), (10, .int .i64 i)]) (fun i w => J (cnt sales kind i) w) [ownB bk (cellsB 3 [.int .i64 kind]), ownB bm (cellsB 110 [.slice As sales.length cs, .slice Af fade.length cf, .int .i64 metal, .int .i64 day, .int .i64 few]), sl fp 5 encSale As sales] (fun i => sales.length - i) 0 (Nat.zero_le _) ⟨rfl, rfl, rfl, rfl, rfl, rfl, trivial⟩ (fun w hp => hJ _ _ _ h0 hp.below) (fun i w h => hS _ w h) ?_
  intro i W1 hi hJ1
  refine cj_seq ?_
  refine cj_regionG (gj_step (y_lss rfl rfl) rfl rfl rfl (gj_nil ?_))
  refine ej_th (cj_seq ?_)
  refine cj_cond rfl (fun h11 => ?_) (fun h11 => ?_)
  · simp only [sxb] at h11
    obtain ⟨s, hx⟩ : ∃ s, sales[i]? = some s := ⟨_, List.getElem?_eq_getElem (by omega)⟩
    refine cj_skip (ej_th (cj_seq (cj_block (cj_seq (cj_region ?_)))))
    refine oj_step (y_ixR (reads_sl) Tryd.underlying22 Tryd.sizeOf56 rfl rfl (⟨by omega, by omega⟩)) rfl rfl rfl ?_
    refine oj_step (y_ldW (reads_sl) Tryd.isAgg56 Tryd.sizeOf56 rfl (hx) (fun _ => rfl)) rfl rfl rfl ?_
    refine oj_alloc Tryd.zeroValue56 rfl rfl (fun b5 => ?_)
    refine oj_store rfl rfl rfl rfl Tryd.sizeOf56 rfl ?_
    refine oj_nil ?_
    refine ej_th (cj_seq ?_)
    refine cj_region ?_
    refine oj_step (y_fa0 fa56_0 rfl) rfl rfl rfl ?_
    refine oj_step (y_load1 Tryd.isAgg3 rfl rfl) rfl rfl rfl ?_
    refine oj_step (y_loadS1 Tryd.isAgg3 rfl rfl) rfl rfl rfl ?_
    refine oj_step (y_eql rfl rfl) rfl rfl rfl ?_
    refine oj_step (y_move rfl) rfl rfl rfl ?_
    by_cases hk : s.kind = kind
    · rw [show (s.kind == kind) = true from beq_iff_eq.2 hk]
      obtain ⟨hc, hget⟩ := cnt_yes sales kind i s hx hk
      refine oj_yes rfl rfl rfl ?_
      refine oj_step (y_move rfl) rfl rfl rfl ?_
      refine oj_yes rfl rfl rfl ?_
      refine oj_step (y_loadN Tryd.isAgg56 Tryd.sizeOf56 rfl) rfl rfl rfl ?_
      refine oj_yes rfl rfl rfl ?_
      refine oj_yield (T := J (cnt sales kind i + 1)) (U := Jx (cnt sales kind i + 1)) [ownB bk (cellsB 3 [.int .i64 kind]), ownB bm (cellsB 110 [.slice As sales.length cs, .slice Af fade.length cf, .int .i64 metal, .int .i64 day, .int .i64 few]), sl fp 5 encSale As sales] rfl rfl rfl (fun w hp => hY _ s w hget (hJ _ _ _ hJ1 hp.below)) rfl (fun W2 hT => ⟨hS _ W2 hT, ?_⟩) (fun W2 hU => ?_)
      · refine oj_yes rfl rfl rfl ?_
        refine oj_step (y_not rfl) rfl rfl rfl ?_
        refine oj_step (y_pick rfl rfl rfl) rfl rfl rfl ?_
        refine oj_nil ?_
        refine ej_th (cj_cond rfl (fun h => by cases h) (fun _ => ?_))
        refine cj_skip (ej_blk (ej_th ?_))
        refine cj_regionG (gj_step (y_add rfl rfl (by omega)) rfl rfl rfl (gj_step (y_move rfl) rfl rfl rfl (gj_nil ?_)))
        exact ej_nxB (i + 1) (by omega) (by omega) ⟨rfl, rfl, rfl, rfl, rfl, rfl, trivial⟩ (fun w hg => hJ _ _ _ (by rw [hc]; exact hT) hg)
      · refine oj_yes rfl rfl rfl ?_
        refine oj_step (y_not rfl) rfl rfl rfl ?_
        refine oj_step (y_pick rfl rfl rfl) rfl rfl rfl ?_
        refine oj_nil ?_
        refine ej_th (cj_cond rfl (fun _ => ?_) (fun h => by cases h))
        refine cj_ret (ej_blk_ret (ej_then_ret (ej_then_ret (ej_blk_ret ?_))))
        exact ej_ret0 rfl Tryd.results97 (fun w' hp => ⟨⟨_, rfl⟩, .inr ⟨_, hJx _ _ _ hU hp.below⟩⟩)
    · rw [show (s.kind == kind) = false from beq_eq_false_iff_ne.2 hk]
      refine oj_no rfl rfl rfl rfl rfl rfl ?_
      refine oj_no rfl rfl rfl rfl rfl rfl ?_
      refine oj_no rfl rfl rfl rfl rfl rfl ?_
      refine oj_no rfl rfl rfl rfl rfl rfl ?_
      refine oj_step (y_pick rfl rfl rfl) rfl rfl rfl ?_
      refine oj_nil ?_
      refine ej_th (cj_cond rfl (fun h => by cases h) (fun _ => ?_))
      refine cj_skip (ej_blk (ej_th ?_))
      refine cj_regionG (gj_step (y_add rfl rfl (by omega)) rfl rfl rfl (gj_step (y_move rfl) rfl rfl rfl (gj_nil ?_)))
      exact ej_nxB (i + 1) (by omega) (by omega) ⟨rfl, rfl, rfl, rfl, rfl, rfl, trivial⟩ (fun w hg => by rw [cnt_no sales kind i s hx hk]; exact hJ _ _ _ hJ1 hg)
  · simp only [sxb] at h11
    refine cj_exit (ej_then_exit (ej_then_exit (ej_blk_hit ?_)))
    exact ej_end0 rfl Tryd.results97 (fun w' hp => ⟨⟨_, rfl⟩, .inl (hJ _ _ _ (by rw [← cnt_end sales kind i (by omega)]; exact hJ1) hp.below)⟩)

def sortRen : Go.Shelf.Ren := ⟨fun | 6 => 81 | 15 => 99 | 14 => 98 | 28 => 115 | 29 => 116 | 20 => 107 | 21 => 108 | 22 => 109 | 23 => 110 | 24 => 111 | 25 => 112 | 26 => 113 | 27 => 114 | 46 => 120 | 47 => 121 | 48 => 122 | 49 => 123 | 50 => 124 | 57 => 125 | n => n, fun | 22 => 23 | 24 => 3 | 25 => 49 | 3 => 3 | 39 => 163 | 0 => 0 | 53 => 187 | 55 => 189 | 4 => 4 | 46 => 181 | 45 => 180 | 50 => 158 | 5 => 5 | 9 => 9 | 66 => 198 | 70 => 202 | 76 => 204 | 77 => 205 | n => n, fun | n => n⟩
theorem sortLaid : Go.Proofs.SlLaysF.n6 Tryd.prog sortRen where
  mixed := by kernel_rfl
  f6 := ⟨Tryd.f81.name, by kernel_rfl, Tryd.func81.trans (congrArg some (by kernel_rfl))⟩
  f14 := ⟨Tryd.f98.name, by kernel_rfl, Tryd.func98.trans (congrArg some (by kernel_rfl))⟩
  f15 := Tryd.func99.trans (congrArg some (by kernel_rfl))
  f20 := ⟨Tryd.f107.name, by kernel_rfl, Tryd.func107.trans (congrArg some (by kernel_rfl))⟩
  f21 := ⟨Tryd.f108.name, by kernel_rfl, Tryd.func108.trans (congrArg some (by kernel_rfl))⟩
  f22 := ⟨Tryd.f109.name, by kernel_rfl, Tryd.func109.trans (congrArg some (by kernel_rfl))⟩
  f23 := ⟨Tryd.f110.name, by kernel_rfl, Tryd.func110.trans (congrArg some (by kernel_rfl))⟩
  f24 := ⟨Tryd.f111.name, by kernel_rfl, Tryd.func111.trans (congrArg some (by kernel_rfl))⟩
  f25 := ⟨Tryd.f112.name, by kernel_rfl, Tryd.func112.trans (congrArg some (by kernel_rfl))⟩
  f26 := ⟨Tryd.f113.name, by kernel_rfl, Tryd.func113.trans (congrArg some (by kernel_rfl))⟩
  f27 := ⟨Tryd.f114.name, by kernel_rfl, Tryd.func114.trans (congrArg some (by kernel_rfl))⟩
  f28 := Tryd.func115.trans (congrArg some (by kernel_rfl))
  f29 := Tryd.func116.trans (congrArg some (by kernel_rfl))
  f46 := ⟨Tryd.f120.name, by kernel_rfl, Tryd.func120.trans (congrArg some (by kernel_rfl))⟩
  f47 := Tryd.func121.trans (congrArg some (by kernel_rfl))
  f48 := Tryd.func122.trans (congrArg some (by kernel_rfl))
  f49 := ⟨Tryd.f123.name, by kernel_rfl, Tryd.func123.trans (congrArg some (by kernel_rfl))⟩
  f50 := ⟨Tryd.f124.name, by kernel_rfl, Tryd.func124.trans (congrArg some (by kernel_rfl))⟩
  f57 := ⟨Tryd.f125.name, by kernel_rfl, Tryd.func125.trans (congrArg some (by kernel_rfl))⟩
  t0 := Tryd.underlying0
  a0 := Tryd.isAgg0
  z0 := Tryd.sizeOf0
  v0 := Tryd.zeroValue0
  t3 := Tryd.underlying3
  a3 := Tryd.isAgg3
  z3 := Tryd.sizeOf3
  v3 := Tryd.zeroValue3
  t4 := Tryd.underlying4
  a4 := Tryd.isAgg4
  z4 := Tryd.sizeOf4
  v4 := Tryd.zeroValue4
  t5 := Tryd.underlying5
  a5 := Tryd.isAgg5
  z5 := Tryd.sizeOf5
  v5 := Tryd.zeroValue5
  t9 := Tryd.underlying9
  a9 := Tryd.isAgg9
  z9 := Tryd.sizeOf9
  v9 := Tryd.zeroValue9
  t22 := Tryd.underlying23
  a22 := Tryd.isAgg23
  z22 := Tryd.sizeOf23
  v22 := Tryd.zeroValue23
  a24 := Tryd.isAgg3
  z24 := Tryd.sizeOf3
  t25 := Tryd.underlying49
  a25 := Tryd.isAgg49
  z25 := Tryd.sizeOf49
  v25 := Tryd.zeroValue49
  t39 := Tryd.underlying163
  a39 := Tryd.isAgg163
  z39 := Tryd.sizeOf163
  v39 := Tryd.zeroValue163
  t45 := Tryd.underlying180
  a45 := Tryd.isAgg180
  z45 := Tryd.sizeOf180
  v45 := Tryd.zeroValue180
  t46 := Tryd.underlying181
  a46 := Tryd.isAgg181
  z46 := Tryd.sizeOf181
  v46 := Tryd.zeroValue181
  t50 := Tryd.underlying158
  a50 := Tryd.isAgg158
  z50 := Tryd.sizeOf158
  v50 := Tryd.zeroValue158
  t53 := Tryd.underlying187
  a53 := Tryd.isAgg187
  z53 := Tryd.sizeOf187
  v53 := Tryd.zeroValue187
  t55 := Tryd.underlying189
  a55 := Tryd.isAgg189
  z55 := Tryd.sizeOf189
  v55 := Tryd.zeroValue189
  t66 := Tryd.underlying198
  a66 := Tryd.isAgg198
  z66 := Tryd.sizeOf198
  v66 := Tryd.zeroValue198
  t70 := Tryd.underlying202
  a70 := Tryd.isAgg202
  z70 := Tryd.sizeOf202
  v70 := Tryd.zeroValue202
  t76 := Tryd.underlying204
  a76 := Tryd.isAgg204
  z76 := Tryd.sizeOf204
  v76 := Tryd.zeroValue204
  t77 := Tryd.underlying205
  a77 := Tryd.isAgg205
  z77 := Tryd.sizeOf205
  v77 := Tryd.zeroValue205
theorem k_diff (x y : BInt 0 1073741824) (W : World) : Calls Tryd.prog 82 #[.int .i64 x.1, .int .i64 y.1] W (fun e w' => e = .returned (.int .i64 (x.1 - y.1)) ∧ ∃ q, w' = W.drewN q) := by
  have hw : (IntKind.i64).wrap (x.1 - y.1) = x.1 - y.1 := IntWalk.i64_in _ (by have := x.2; have := y.2; omega)
  go_enter Tryd.func82, Tryd.ntmps82
  go_wp2
  go_ret
  exact ⟨rfl, 0, rfl⟩
theorem k_sort (A : Option Addr) (c : Nat) (xs : List Int) (w : World) (hx : ∀ x ∈ xs, 0 ≤ x ∧ x ≤ 1073741824) (hl : xs.length < 4611686018427387904) (ho : (ow 3 1 enInt A c xs).P w) :
    Calls Tryd.prog 81 #[.slice A xs.length c, .func (.func 82) #[] #[]] w (fun en w' => en = .returned (.tuple #[]) ∧ Mut (ow 3 1 enInt A c xs) w w' ∧ (ow 3 1 enInt A c (sortI xs)).P w') :=
  calls_sortI sortLaid 82 0 1073741824 (enters_of Tryd.func82 (by kernel_rfl) rfl) k_diff 3 c A xs w hx hl ho

theorem k_of (sales : List Sale) (fade : List Int) (metal day few : Int) (As Af : Option Addr) (cs cf : Nat) (kind : Int) (w : World)  : Calls Tryd.prog 80 #[.agg #[.slice As sales.length cs, .slice Af fade.length cf, .int .i64 metal, .int .i64 day, .int .i64 few], .int .i64 kind] w (fun e w' => ∃ x : Nat × Nat, e = .returned (.func (.func 97) #[] #[.pointer (some ⟨x.1, 0, none⟩), .pointer (some ⟨x.2, 0, none⟩)]) ∧ Grow w w' ∧ (∀ g ∈ ([] : List Fact), g.P w' ∧ ∀ b, g.fp b → w.heap.size ≤ b ∧ b < w'.heap.size) ∧ ([] : List Fact).Pairwise (fun f g => ∀ b, f.fp b → ¬ g.fp b) ∧ (∀ g ∈ [ownB x.2 (cellsB 3 [.int .i64 kind]), ownB x.1 (cellsB 110 [.slice As sales.length cs, .slice Af fade.length cf, .int .i64 metal, .int .i64 day, .int .i64 few])], g.P w' ∧ ∀ b, g.fp b → w.heap.size ≤ b ∧ b < w'.heap.size ∧ ∀ o ∈ ([] : List Fact), ¬ o.fp b)) := by
  refine enter_pure (args := [.agg #[.slice As sales.length cs, .slice Af fade.length cf, .int .i64 metal, .int .i64 day, .int .i64 few], .int .i64 kind]) [] Tryd.func80 rfl (by rw [Tryd.ntmps80]; simp) (by simp) ?_
  refine cj_seq (cj_region ?_)
  refine oj_box rfl rfl rfl (fun b2 => ?_)
  refine oj_box rfl rfl rfl (fun b3 => ?_)
  refine oj_step (y_assign rfl) rfl rfl rfl ?_
  refine oj_nil ?_
  refine ej_th (cj_seq ?_)
  refine cj_regionG (gj_step (y_makeFunc rfl rfl) rfl rfl rfl (gj_step (y_assign rfl) rfl rfl rfl (gj_nil ?_)))
  refine ej_th (cj_ret ?_)
  exact ej_ret1 rfl Tryd.results80 rfl (fun w' hp => ⟨(b2, b3), rfl, hp.below, by simp, List.Pairwise.nil, fun g hg => ⟨(hp.own g hg).1, fun b hb => ⟨Nat.le_of_not_lt ((hp.own g hg).2 b hb).2, ((hp.own g hg).2 b hb).1, by simp⟩⟩⟩)

theorem k_crafts (sales : List Sale) (fade : List Int) (metal day few : Int) (As Af : Option Addr) (cs cf : Nat) (kind : Int) (w : World) (hs : Rd w 5 encSale As sales) (hf : Rd w 1 enInt Af fade) (hb : badMarket sales fade metal day few = false) : Calls Tryd.prog 55 #[.agg #[.slice As sales.length cs, .slice Af fade.length cf, .int .i64 metal, .int .i64 day, .int .i64 few], .int .i64 kind] w (fun e w' => ∃ A c, e = .returned (.slice A (craftsOf sales fade day kind).length c) ∧ Grow w w' ∧ Res w w' 1 enInt A (craftsOf sales fade day kind)) := by
  have hlen := hs.len
  have hlenf := hf.len
  obtain ⟨hfa, hfl, hme, hda, hfe, hsl, hsa⟩ := badMarket_parts hb
  have hys : ∀ k s, (ofKind sales kind)[k]? = some s → okSale fade.length day s = true := fun k s h => hsa s (List.mem_filter.1 (List.mem_of_getElem? h)).1
  have hkl : (ofKind sales kind).length ≤ 64 := Nat.le_trans (List.length_filter_le ..) hsl
  refine enter_pureM (args := [.agg #[.slice As sales.length cs, .slice Af fade.length cf, .int .i64 metal, .int .i64 day, .int .i64 few], .int .i64 kind]) [sl (fun b => b < w.heap.size) 5 encSale As sales, sl (fun b => b < w.heap.size) 1 enInt Af fade] Tryd.func55 rfl (by rw [Tryd.ntmps55]; simp) (fun g hg => by simp at hg; rcases hg with rfl | rfl; exact ⟨hs, fun _ h => h⟩; exact ⟨hf, fun _ h => h⟩) ?_
  refine cj_seq (cj_region ?_)
  refine oj_box rfl rfl rfl (fun b2 => ?_)
  refine oj_step (y_assign rfl) rfl rfl rfl ?_
  refine oj_nil ?_
  refine ej_th (cj_seq (cj_region ?_))
  refine oj_step (y_loadN Tryd.isAgg110 Tryd.sizeOf110 rfl) rfl rfl rfl ?_
  refine oj_step (y_makeFunc rfl rfl) rfl rfl rfl ?_
  refine oj_alloc Tryd.zeroValue145 rfl rfl (fun b5 => ?_)
  refine oj_store rfl rfl rfl rfl Tryd.sizeOf145 rfl ?_
  refine oj_nil ?_
  refine ej_th (cj_seq (cj_region ?_))
  refine oj_alloc Tryd.zeroValue23 rfl rfl (fun b6 => ?_)
  refine oj_nil ?_
  refine ej_th (cj_seq (cj_seq ?_))
  refine cj_ownNil 3 1 enInt ?_
  refine cj_region ?_
  refine oj_step (y_loadN Tryd.isAgg110 Tryd.sizeOf110 rfl) rfl rfl rfl ?_
  refine oj_step (y_move rfl) rfl rfl rfl ?_
  refine oj_call (X := Nat × Nat) (fun x => .func (.func 97) #[] #[.pointer (some ⟨x.1, 0, none⟩), .pointer (some ⟨x.2, 0, none⟩)]) (fun _ => []) (fun x => [ownB x.2 (cellsB 3 [.int .i64 kind]), ownB x.1 (cellsB 110 [.slice As sales.length cs, .slice Af fade.length cf, .int .i64 metal, .int .i64 day, .int .i64 few])]) Tryd.call80 rfl (fun w hp => k_of _ _ _ _ _ _ _ _ _ _ w) rfl (fun ⟨bm, bk⟩ => ?_)
  dsimp only [List.nil_append, List.cons_append]
  refine oj_nil ?_
  refine ej_th (cj_block ?_)
  refine cj_eqO [ow 3 1 enInt none 0 (((ofKind sales kind).take 0).map (craftOf fade day)), ownB b6 (cellsB 23 [.slice none (((ofKind sales kind).take 0).map (craftOf fade day)).length 0]), ownB b5 (cellsB 145 [.func (.func 79) #[.agg #[.slice As sales.length cs, .slice Af fade.length cf, .int .i64 metal, .int .i64 day, .int .i64 few]] #[]]), ownB b2 (cellsB 110 [.slice As sales.length cs, .slice Af fade.length cf, .int .i64 metal, .int .i64 day, .int .i64 few])] rfl ?_
  refine cj_range (k_of1 sales fade metal day few As Af cs cf kind bm bk (fun b => b < w.heap.size)) (Y := Option Addr × Nat) (Z := Empty) (fun _ _ => True) (fun k y => [ow 3 1 enInt y.1 y.2 (((ofKind sales kind).take k).map (craftOf fade day)), ownB b6 (cellsB 23 [.slice y.1 (((ofKind sales kind).take k).map (craftOf fade day)).length y.2]), ownB b5 (cellsB 145 [.func (.func 79) #[.agg #[.slice As sales.length cs, .slice Af fade.length cf, .int .i64 metal, .int .i64 day, .int .i64 few]] #[]])]) Empty.elim Empty.elim (none, 0) trivial rfl Tryd.call97 (fun _ => rfl) rfl ?_ ?_ ?_
  · rintro l Db r0 r1 k s ⟨A, c⟩ hx -
    have hso := hys k s hx
    have hkk : k < (ofKind sales kind).length := (List.getElem?_eq_some_iff.1 hx).1
    have hml : (((ofKind sales kind).take k).map (craftOf fade day)).length = k := by simp; omega
    refine cj_region ?_
    refine oj_alloc Tryd.zeroValue56 rfl rfl (fun b7 => ?_)
    refine oj_store rfl rfl rfl rfl Tryd.sizeOf56 rfl ?_
    refine oj_nil ?_
    refine ej_beg (cj_block ?_)
    refine cj_plan 7 (by kernel_rfl) (by kernel_rfl) ?_
    refine pl_y 0 rfl (y_load1 Tryd.isAgg23 rfl rfl) rfl rfl rfl rfl (by kernel_rfl) ?_
    refine pl_y 1 rfl (y_load1 Tryd.isAgg145 rfl rfl) rfl rfl rfl rfl (by kernel_rfl) ?_
    refine pl_y 2 rfl (y_loadN Tryd.isAgg56 Tryd.sizeOf56 rfl) rfl rfl rfl rfl (by kernel_rfl) ?_
    refine pl_y 3 rfl (y_callV Tryd.call79 rfl rfl (fun w hp => k_craft s fade metal day few As Af sales.length cs cf w hp.rd hso hfa hda)) rfl rfl rfl rfl (by kernel_rfl) ?_
    refine pl_w1 4 (by kernel_rfl) rfl rfl (pl_fire rfl rfl rfl (by kernel_rfl) ?_)
    refine oj_buildSlice [.int .i64 0] Tryd.underlying23 Tryd.sizeOf3 Tryd.zeroValue3 rfl rfl (by kernel_rfl) rfl rfl (fun b18 => ?_)
    refine oj_nil ?_
    refine ej_pl (lt_w (by kernel_rfl) (lt_y (y_loadN Tryd.isAgg56 Tryd.sizeOf56 rfl) rfl (lt_y (y_load1 Tryd.isAgg145 rfl rfl) rfl (lt_y (y_load1 Tryd.isAgg23 rfl rfl) rfl (lt_nil))))) ?_
    refine pl_w1 5 (by kernel_rfl) rfl rfl (pl_fire rfl rfl rfl (by kernel_rfl) ?_)
    refine oj_append  el23 (fun _ => rfl) enInt_one rfl rfl rfl (reads_lit [craftOf fade day s] (fun _ => rfl) rfl) (by simp [maxLen]; omega) (by simp; omega) rfl (fun A19 c19 => ?_)
    refine oj_nil ?_
    refine ej_pl (lt_w (by kernel_rfl) (lt_y (y_loadN Tryd.isAgg56 Tryd.sizeOf56 rfl) rfl (lt_y (y_load1 Tryd.isAgg145 rfl rfl) rfl (lt_w (by kernel_rfl) (lt_nil))))) ?_
    refine pl_w1 6 (by kernel_rfl) rfl rfl (pl_fire rfl rfl rfl (by kernel_rfl) ?_)
    refine oj_store rfl rfl rfl rfl Tryd.sizeOf23 rfl ?_
    refine oj_nil ?_
    refine ej_pl (lt_w (by kernel_rfl) (lt_w (by kernel_rfl) (lt_w (by kernel_rfl) (lt_w (by kernel_rfl) (lt_nil))))) ?_
    refine pl_end (by kernel_rfl) ?_
    refine ej_blk ?_
    have he : ((ofKind sales kind).take k).map (craftOf fade day) ++ [craftOf fade day s] = ((ofKind sales kind).take (k + 1)).map (craftOf fade day) := by rw [List.take_add_one, hx]; simp
    rw [he]
    exact ej_rd (A19, c19) trivial
  · rintro Db ⟨A, c⟩ -
    rw [List.take_length]
    have hrl : (rawCrafts sales fade day kind).length = (ofKind sales kind).length := List.length_map ..
    have hrb : ∀ x ∈ rawCrafts sales fade day kind, 0 ≤ x ∧ x ≤ 1073741824 := fun x hx => by
      obtain ⟨s, h1, rfl⟩ := List.mem_map.1 hx
      exact craftOf_bd (hsa s (List.mem_filter.1 h1).1) hfa
    change EJ _ _ _ _ [ownB Db (.deferred (some [])), ow 3 1 enInt A c (rawCrafts sales fade day kind), ownB b6 (cellsB 23 [.slice A (rawCrafts sales fade day kind).length c]), _] _
    refine ej_blk (ej_th (cj_seq (cj_region ?_)))
    refine oj_step (y_load1 Tryd.isAgg23 rfl rfl) rfl rfl rfl ?_
    refine oj_mutOw (us := rawCrafts sales fade day kind) (sortI (rawCrafts sales fade day kind)) Tryd.call81 rfl (fun w hp ho => k_sort _ _ _ w hrb (by rw [hrl]; omega) ho) rfl ?_
    refine oj_nil ?_
    refine ej_th (cj_seq ?_)
    refine cj_regionG (gj_step (y_load1 Tryd.isAgg23 rfl rfl) rfl rfl rfl (gj_step (y_assign rfl) rfl rfl rfl (gj_nil ?_)))
    refine ej_th (cj_ret ?_)
    refine ej_retM1 rfl Tryd.results55 rfl (fun w' hp => ⟨A, c, ?_, hp.below, ?_⟩)
    · rw [craftsOf_eq, sortI_len]
    · rw [craftsOf_eq]; exact hp.res (fun _ => rfl) (by rw [sortI_len, hrl]; unfold maxLen; omega)
  · intro Db z; exact z.elim

end Go.Proofs.YtafmgkiddhappaaDoor
namespace Go.Proofs.YtafmgkiddhappaaDoor
open Go.Sx Go.RowKit
set_option maxRecDepth 20000
theorem k_Crafts (sales : List Sale) (fade : List Int) (metal day few : Int) (As Af : Option Addr) (cs cf : Nat) (kind : Int) (w : World) (hs : Rd w 5 encSale As sales) (hf : Rd w 1 enInt Af fade) : Calls Tryd.prog 16 #[.agg #[.slice As sales.length cs, .slice Af fade.length cf, .int .i64 metal, .int .i64 day, .int .i64 few], .int .i64 kind] w (fun e w' => ∃ A c, e = .returned (.tuple #[.slice A (CraftsL sales fade metal day few kind).length c, .int .i64 (CraftsE sales fade metal day few kind)]) ∧ Grow w w' ∧ Res w w' 1 enInt A (CraftsL sales fade metal day few kind)) := by
  have hlen := hs.len
  have hlenf := hf.len
  refine enter_pure (args := [.agg #[.slice As sales.length cs, .slice Af fade.length cf, .int .i64 metal, .int .i64 day, .int .i64 few], .int .i64 kind]) [sl (fun b => b < w.heap.size) 5 encSale As sales, sl (fun b => b < w.heap.size) 1 enInt Af fade] Tryd.func16 rfl (by rw [Tryd.ntmps16]; simp) (fun g hg => by simp at hg; rcases hg with rfl | rfl; exact ⟨hs, fun _ h => h⟩; exact ⟨hf, fun _ h => h⟩) ?_
  refine cj_seq (cj_region ?_)
  refine oj_box rfl rfl rfl (fun b2 => ?_)
  refine oj_step (y_assign rfl) rfl rfl rfl ?_
  refine oj_step (y_assign rfl) rfl rfl rfl ?_
  refine oj_nil ?_
  refine ej_th (cj_seq (cj_seq ?_))
  refine cj_regionG ?_
  refine gj_step (y_loadN Tryd.isAgg25 Tryd.sizeOf25 rfl) rfl rfl rfl (?_)
  refine gj_step (y_call Tryd.call19 rfl (fun w hp => k_CheckMarket _ _ _ _ _ _ _ _ _ w hp.rd hp.rd)) rfl rfl rfl ?_
  refine gj_step (y_assign rfl) rfl rfl rfl (?_)
  refine gj_nil ?_
  refine ej_th (cj_seq ?_)
  refine cj_regionG (gj_step (y_move rfl) rfl rfl rfl (gj_step (y_neq rfl rfl) rfl rfl rfl (gj_nil ?_)))
  refine ej_th ?_
  refine cj_cond rfl (fun h10 => ?_) (fun h10 => ?_)
  · have h10b := h10
    try simp only [sxb] at h10
    rw [errM_ne] at h10
    refine cj_seq ?_
    refine cj_regionG (gj_step (y_move rfl) rfl rfl rfl (gj_step (y_assign rfl) rfl rfl rfl (gj_step (y_assign rfl) rfl rfl rfl (gj_nil ?_))))
    refine ej_th (cj_ret (ej_then_ret ?_))
    have h1 : CraftsL sales fade metal day few kind = [] := by simp [CraftsL, h10]
    have h2 : CraftsE sales fade metal day few kind = 20 := by simp [CraftsE, h10]
    rw [h1, h2]
    exact ej_ret2 rfl Tryd.results16 rfl rfl (fun w' hp => ⟨none, 0, by rw [h10]; rfl, hp.below, Res.nil⟩)
  · have h10b := h10
    try simp only [sxb] at h10
    rw [errM_eq] at h10
    have hb := h10
    refine cj_skip (ej_th (cj_seq (cj_seq ?_)))
    refine cj_regionG ?_
    refine gj_step (y_move rfl) rfl rfl rfl (gj_step (y_fa fa25_1 rfl) rfl rfl rfl (gj_step (y_load1 Tryd.isAgg23 rfl rfl) rfl rfl rfl (gj_step (y_lenA Tryd.underlying23 rfl) rfl rfl rfl (gj_step (y_sub rfl rfl (by omega)) rfl rfl rfl (?_)))))
    refine gj_step (y_call Tryd.call54 rfl (fun w hp => k_within _ _ _ w)) rfl rfl rfl ?_
    refine gj_step (y_not rfl) rfl rfl rfl (?_)
    refine gj_nil ?_
    refine ej_th ?_
    refine cj_cond rfl (fun h18 => ?_) (fun h18 => ?_)
    · have h18b := h18
      try simp only [sxb] at h18
      have hk : btw 0 kind (fade.length - 1) = false := not_t h18b
      refine cj_seq ?_
      refine cj_regionG (gj_step (y_assign rfl) rfl rfl rfl (gj_step (y_assign rfl) rfl rfl rfl (gj_nil ?_)))
      refine ej_th (cj_ret (ej_then_ret ?_))
      have h1 : CraftsL sales fade metal day few kind = [] := by simp [CraftsL, hb, hk]
      have h2 : CraftsE sales fade metal day few kind = 7 := by simp [CraftsE, hb, hk]
      rw [h1, h2]
      exact ej_ret2 rfl Tryd.results16 rfl rfl (fun w' hp => ⟨none, 0, rfl, hp.below, Res.nil⟩)
    · have h18b := h18
      try simp only [sxb] at h18
      have hk : btw 0 kind (fade.length - 1) = true := not_f h18b
      refine cj_skip (ej_th (cj_seq (cj_region ?_)))
      refine oj_step (y_loadN Tryd.isAgg25 Tryd.sizeOf25 rfl) rfl rfl rfl ?_
      refine oj_step (y_build st110 rfl rfl) rfl rfl rfl ?_
      refine oj_step (y_move rfl) rfl rfl rfl ?_
      refine oj_callS (fun A c => .slice A (craftsOf sales fade day kind).length c) 1 enInt (craftsOf sales fade day kind) Tryd.call55 rfl (fun w hp => k_crafts sales fade metal day few As Af cs cf kind w hp.rd hp.rd hb) rfl (fun A22 c22 fp22 hfp22 => ?_)
      refine oj_step (y_assign rfl) rfl rfl rfl ?_
      refine oj_step (y_assign rfl) rfl rfl rfl ?_
      refine oj_nil ?_
      refine ej_th (cj_ret ?_)
      have h1 : CraftsL sales fade metal day few kind = craftsOf sales fade day kind := by simp [CraftsL, hb, hk]
      have h2 : CraftsE sales fade metal day few kind = 0 := by simp [CraftsE, hb, hk]
      rw [h1, h2]
      exact ej_ret2 rfl Tryd.results16 rfl rfl (fun w' hp => ⟨A22, c22, rfl, hp.below, hp.resS hfp22⟩)

theorem k_rCrafts (sales : List Sale) (fade : List Int) (metal day few : Int) (As Af : Option Addr) (cs cf : Nat) (kind : Int) (w : World) (hs : Rd w 5 encSale As sales) (hf : Rd w 1 enInt Af fade) : Calls Tryd.prog 17 #[.agg #[.slice As sales.length cs, .slice Af fade.length cf, .int .i64 metal, .int .i64 day, .int .i64 few], .int .i64 kind] w (fun e w' => ∃ A c, e = .returned (.tuple #[.slice A (CraftsL sales fade metal day few kind).length c, .int .i64 (CraftsE sales fade metal day few kind)]) ∧ Grow w w' ∧ Res w w' 1 enInt A (CraftsL sales fade metal day few kind)) := by
  have hlen := hs.len
  have hlenf := hf.len
  refine enter_pure (args := [.agg #[.slice As sales.length cs, .slice Af fade.length cf, .int .i64 metal, .int .i64 day, .int .i64 few], .int .i64 kind]) [sl (fun b => b < w.heap.size) 5 encSale As sales, sl (fun b => b < w.heap.size) 1 enInt Af fade] Tryd.func17 rfl (by rw [Tryd.ntmps17]; simp) (fun g hg => by simp at hg; rcases hg with rfl | rfl; exact ⟨hs, fun _ h => h⟩; exact ⟨hf, fun _ h => h⟩) ?_
  refine cj_seq (cj_region ?_)
  refine oj_box rfl rfl rfl (fun b2 => ?_)
  refine oj_step (y_assign rfl) rfl rfl rfl ?_
  refine oj_step (y_assign rfl) rfl rfl rfl ?_
  refine oj_nil ?_
  refine ej_th (cj_seq (cj_seq ?_))
  refine cj_regionG ?_
  refine gj_step (y_loadN Tryd.isAgg25 Tryd.sizeOf25 rfl) rfl rfl rfl (?_)
  refine gj_step (y_call Tryd.call20 rfl (fun w hp => k_rCheckMarket _ _ _ _ _ _ _ _ _ w hp.rd hp.rd)) rfl rfl rfl ?_
  refine gj_step (y_assign rfl) rfl rfl rfl (?_)
  refine gj_nil ?_
  refine ej_th (cj_seq ?_)
  refine cj_regionG (gj_step (y_move rfl) rfl rfl rfl (gj_step (y_neq rfl rfl) rfl rfl rfl (gj_nil ?_)))
  refine ej_th ?_
  refine cj_cond rfl (fun h10 => ?_) (fun h10 => ?_)
  · have h10b := h10
    try simp only [sxb] at h10
    rw [errM_ne] at h10
    refine cj_seq ?_
    refine cj_regionG (gj_step (y_move rfl) rfl rfl rfl (gj_step (y_assign rfl) rfl rfl rfl (gj_step (y_assign rfl) rfl rfl rfl (gj_nil ?_))))
    refine ej_th (cj_ret (ej_then_ret ?_))
    have h1 : CraftsL sales fade metal day few kind = [] := by simp [CraftsL, h10]
    have h2 : CraftsE sales fade metal day few kind = 20 := by simp [CraftsE, h10]
    rw [h1, h2]
    exact ej_ret2 rfl Tryd.results17 rfl rfl (fun w' hp => ⟨none, 0, by rw [h10]; rfl, hp.below, Res.nil⟩)
  · have h10b := h10
    try simp only [sxb] at h10
    rw [errM_eq] at h10
    have hb := h10
    refine cj_skip (ej_th (cj_seq (cj_seq ?_)))
    refine cj_regionG ?_
    refine gj_step (y_move rfl) rfl rfl rfl (gj_step (y_fa fa25_1 rfl) rfl rfl rfl (gj_step (y_load1 Tryd.isAgg23 rfl rfl) rfl rfl rfl (gj_step (y_lenA Tryd.underlying23 rfl) rfl rfl rfl (gj_step (y_sub rfl rfl (by omega)) rfl rfl rfl (?_)))))
    refine gj_step (y_call Tryd.call26 rfl (fun w hp => k_From _ _ _ w)) rfl rfl rfl ?_
    refine gj_step (y_not rfl) rfl rfl rfl (?_)
    refine gj_nil ?_
    refine ej_th ?_
    refine cj_cond rfl (fun h18 => ?_) (fun h18 => ?_)
    · have h18b := h18
      try simp only [sxb] at h18
      have hk : btw 0 kind (fade.length - 1) = false := not_t h18b
      refine cj_seq ?_
      refine cj_regionG (gj_step (y_assign rfl) rfl rfl rfl (gj_step (y_assign rfl) rfl rfl rfl (gj_nil ?_)))
      refine ej_th (cj_ret (ej_then_ret ?_))
      have h1 : CraftsL sales fade metal day few kind = [] := by simp [CraftsL, hb, hk]
      have h2 : CraftsE sales fade metal day few kind = 7 := by simp [CraftsE, hb, hk]
      rw [h1, h2]
      exact ej_ret2 rfl Tryd.results17 rfl rfl (fun w' hp => ⟨none, 0, rfl, hp.below, Res.nil⟩)
    · have h18b := h18
      try simp only [sxb] at h18
      have hk : btw 0 kind (fade.length - 1) = true := not_f h18b
      refine cj_skip (ej_th (cj_seq (cj_region ?_)))
      refine oj_step (y_loadN Tryd.isAgg25 Tryd.sizeOf25 rfl) rfl rfl rfl ?_
      refine oj_step (y_move rfl) rfl rfl rfl ?_
      refine oj_callS (fun A c => .slice A (craftsOf sales fade day kind).length c) 1 enInt (craftsOf sales fade day kind) Tryd.call56 rfl (fun w hp => k_rcrafts sales fade metal day few As Af cs cf kind w hp.rd hp.rd hb) rfl (fun A21 c21 fp21 hfp21 => ?_)
      refine oj_step (y_assign rfl) rfl rfl rfl ?_
      refine oj_step (y_assign rfl) rfl rfl rfl ?_
      refine oj_nil ?_
      refine ej_th (cj_ret ?_)
      have h1 : CraftsL sales fade metal day few kind = craftsOf sales fade day kind := by simp [CraftsL, hb, hk]
      have h2 : CraftsE sales fade metal day few kind = 0 := by simp [CraftsE, hb, hk]
      rw [h1, h2]
      exact ej_ret2 rfl Tryd.results17 rfl rfl (fun w' hp => ⟨A21, c21, rfl, hp.below, hp.resS hfp21⟩)

theorem k_Value (sales : List Sale) (fade : List Int) (metal day few : Int) (As Af : Option Addr) (cs cf : Nat) (kind wmin wmax : Int) (w : World) (hs : Rd w 5 encSale As sales) (hf : Rd w 1 enInt Af fade) : Calls Tryd.prog 21 #[.agg #[.slice As sales.length cs, .slice Af fade.length cf, .int .i64 metal, .int .i64 day, .int .i64 few], .agg #[.int .i64 kind, .int .i64 wmin, .int .i64 wmax]] w (fun e w' => e = .returned (.tuple #[.agg #[.int .i64 (valueOf sales fade metal day few kind wmin wmax).lo, .int .i64 (valueOf sales fade metal day few kind wmin wmax).hi], .int .i64 (valueOf sales fade metal day few kind wmin wmax).err]) ∧ Grow w w') := by
  have hlen := hs.len
  have hlenf := hf.len
  refine enter_pure (args := [.agg #[.slice As sales.length cs, .slice Af fade.length cf, .int .i64 metal, .int .i64 day, .int .i64 few], .agg #[.int .i64 kind, .int .i64 wmin, .int .i64 wmax]]) [sl (fun b => b < w.heap.size) 5 encSale As sales, sl (fun b => b < w.heap.size) 1 enInt Af fade] Tryd.func21 rfl (by rw [Tryd.ntmps21]; simp) (fun g hg => by simp at hg; rcases hg with rfl | rfl; exact ⟨hs, fun _ h => h⟩; exact ⟨hf, fun _ h => h⟩) ?_
  refine cj_seq (cj_region ?_)
  refine oj_box rfl rfl rfl (fun b2 => ?_)
  refine oj_box rfl rfl rfl (fun b3 => ?_)
  refine oj_alloc Tryd.zeroValue27 rfl rfl (fun b4 => ?_)
  refine oj_step (y_assign rfl) rfl rfl rfl ?_
  refine oj_nil ?_
  refine ej_th (cj_seq (cj_seq ?_))
  refine cj_regionG ?_
  refine gj_step (y_loadN Tryd.isAgg25 Tryd.sizeOf25 rfl) rfl rfl rfl (?_)
  refine gj_step (y_call Tryd.call19 rfl (fun w hp => k_CheckMarket _ _ _ _ _ _ _ _ _ w hp.rd hp.rd)) rfl rfl rfl ?_
  refine gj_step (y_assign rfl) rfl rfl rfl (?_)
  refine gj_nil ?_
  refine ej_th (cj_seq ?_)
  refine cj_regionG (gj_step (y_move rfl) rfl rfl rfl (gj_step (y_neq rfl rfl) rfl rfl rfl (gj_nil ?_)))
  refine ej_th ?_
  refine cj_cond rfl (fun h12 => ?_) (fun h12 => ?_)
  · have h12b := h12
    try simp only [sxb] at h12
    rw [errM_ne] at h12
    refine cj_seq (cj_region ?_)
    refine oj_step (y_build st27 rfl rfl) rfl rfl rfl ?_
    refine oj_step (y_move rfl) rfl rfl rfl ?_
    refine oj_store rfl rfl rfl rfl Tryd.sizeOf27 rfl ?_
    refine oj_step (y_assign rfl) rfl rfl rfl ?_
    refine oj_nil ?_
    refine ej_th (cj_ret (ej_then_ret ?_))
    have hv : valueOf sales fade metal day few kind wmin wmax = ⟨0, 0, 20⟩ := by simp [valueOf, h12]
    rw [hv, h12]
    exact ej_retC2 rfl Tryd.results21 rfl (y_loadN Tryd.isAgg27 Tryd.sizeOf27 rfl) rfl (fun w' hp => ⟨rfl, hp.below⟩)
  · have h12b := h12
    try simp only [sxb] at h12
    rw [errM_eq] at h12
    have hb := h12
    obtain ⟨hfa, hfl, hme, hda, hfe, hsl, hsa⟩ := badMarket_parts hb
    refine cj_skip (ej_th (cj_seq (cj_seq ?_)))
    refine cj_regionG ?_
    refine gj_step (y_fa0 fa29_0 rfl) rfl rfl rfl (gj_step (y_load1 Tryd.isAgg3 rfl rfl) rfl rfl rfl (gj_step (y_fa fa25_1 rfl) rfl rfl rfl (gj_step (y_load1 Tryd.isAgg23 rfl rfl) rfl rfl rfl (gj_step (y_lenA Tryd.underlying23 rfl) rfl rfl rfl (gj_step (y_sub rfl rfl (by omega)) rfl rfl rfl (?_))))))
    refine gj_step (y_call Tryd.call54 rfl (fun w hp => k_within _ _ _ w)) rfl rfl rfl ?_
    refine gj_step (y_not rfl) rfl rfl rfl (gj_step (y_move rfl) rfl rfl rfl (?_))
    refine gj_g 4 23 27 rfl rfl rfl rfl (fun hg23 => gj_yes rfl rfl rfl (y_fa fa29_1 rfl) rfl rfl (gj_yes rfl rfl rfl (y_loadN Tryd.isAgg27 Tryd.sizeOf27 rfl) rfl rfl (gj_yes rfl rfl rfl (y_call Tryd.call61 rfl (fun w hp => k_span _ _ _ w)) rfl rfl (gj_yes rfl rfl rfl (y_not rfl) rfl rfl (gj_nil rfl))))) ?_
    refine gj_step (y_or rfl rfl rfl) rfl rfl rfl (?_)
    refine gj_nil ?_
    refine ej_th ?_
    refine cj_cond rfl (fun h28 => ?_) (fun h28 => ?_)
    · have h28b := h28
      try simp only [sxb] at h28
      have hw : badWare fade.length kind wmin wmax = true := h28b
      refine cj_seq (cj_region ?_)
      refine oj_step (y_build st27 rfl rfl) rfl rfl rfl ?_
      refine oj_store rfl rfl rfl rfl Tryd.sizeOf27 rfl ?_
      refine oj_step (y_assign rfl) rfl rfl rfl ?_
      refine oj_nil ?_
      refine ej_th (cj_ret (ej_then_ret ?_))
      have hv : valueOf sales fade metal day few kind wmin wmax = ⟨0, 0, 21⟩ := by simp [valueOf, hb, hw]
      rw [hv]
      exact ej_retC2 rfl Tryd.results21 rfl (y_loadN Tryd.isAgg27 Tryd.sizeOf27 rfl) rfl (fun w' hp => ⟨rfl, hp.below⟩)
    · have h28b := h28
      try simp only [sxb] at h28
      have hw : badWare fade.length kind wmin wmax = false := h28b
      obtain ⟨hk, hww⟩ := badWare_no hw
      have hm1 := mul_bd hme (show 0 ≤ wmin ∧ wmin ≤ 1000 by omega)
      have hm2 := mul_bd hme (show 0 ≤ wmax ∧ wmax ≤ 1000 by omega)
      have hg := getD_bd (craftsOf_bd kind hsa hfa) (by omega)
      have hcl := craftsOf_len sales fade day kind
      refine cj_skip (ej_th (cj_seq (cj_region ?_)))
      refine oj_step (y_loadN Tryd.isAgg25 Tryd.sizeOf25 rfl) rfl rfl rfl ?_
      refine oj_step (y_build st110 rfl rfl) rfl rfl rfl ?_
      refine oj_step (y_fa0 fa29_0 rfl) rfl rfl rfl ?_
      refine oj_step (y_load1 Tryd.isAgg3 rfl rfl) rfl rfl rfl ?_
      refine oj_callS (fun A c => .slice A (craftsOf sales fade day kind).length c) 1 enInt (craftsOf sales fade day kind) Tryd.call55 rfl (fun w hp => k_crafts sales fade metal day few As Af cs cf kind w hp.rd hp.rd hb) rfl (fun A34 c34 fp34 hfp34 => ?_)
      refine oj_step (y_assign rfl) rfl rfl rfl ?_
      refine oj_nil ?_
      refine ej_th (cj_seq (cj_seq ?_))
      refine cj_regionG (gj_step (y_move rfl) rfl rfl rfl (gj_step (y_lenA Tryd.underlying23 rfl) rfl rfl rfl (gj_step (y_fa fa25_4 rfl) rfl rfl rfl (gj_step (y_load1 Tryd.isAgg3 rfl rfl) rfl rfl rfl (gj_step (y_lss rfl rfl) rfl rfl rfl (gj_nil ?_))))))
      refine ej_th ?_
      refine cj_cond rfl (fun h39 => ?_) (fun h39 => ?_)
      · have h39b := h39
        try simp only [sxb] at h39
        refine cj_seq (cj_region ?_)
        refine oj_step (y_build st27 rfl rfl) rfl rfl rfl ?_
        refine oj_store rfl rfl rfl rfl Tryd.sizeOf27 rfl ?_
        refine oj_step (y_assign rfl) rfl rfl rfl ?_
        refine oj_nil ?_
        refine ej_th (cj_ret (ej_then_ret ?_))
        have hv : valueOf sales fade metal day few kind wmin wmax = ⟨0, 0, 4⟩ := by simp [valueOf, hb, hw, h39]
        rw [hv]
        exact ej_retC2 rfl Tryd.results21 rfl (y_loadN Tryd.isAgg27 Tryd.sizeOf27 rfl) rfl (fun w' hp => ⟨rfl, hp.below⟩)
      · have h39b := h39
        try simp only [sxb] at h39
        refine cj_skip (ej_th (cj_seq ?_))
        refine cj_regionG (gj_step (y_move rfl) rfl rfl rfl (gj_step (y_lenA Tryd.underlying23 rfl) rfl rfl rfl (gj_step (y_sub rfl rfl (by omega)) rfl rfl rfl (gj_step (y_quo rfl rfl (⟨by omega, by omega, by omega⟩)) rfl rfl rfl (gj_step (y_assign rfl) rfl rfl rfl (gj_nil ?_))))))
        refine ej_th (cj_seq ?_)
        refine cj_plan 29 (by kernel_rfl) (by kernel_rfl) ?_
        refine pl_y 0 rfl (y_move rfl) rfl rfl rfl rfl (by kernel_rfl) ?_
        refine pl_y 1 rfl (y_move rfl) rfl rfl rfl rfl (by kernel_rfl) ?_
        refine pl_y 2 rfl (y_ixR (reads_sl) Tryd.underlying23 Tryd.sizeOf3 rfl rfl (⟨by omega, by omega⟩)) rfl rfl rfl rfl (by kernel_rfl) ?_
        refine pl_y 3 rfl (y_ld0 (reads_sl) Tryd.isAgg3 rfl (geq 0 (by omega)) rfl) rfl rfl rfl rfl (by kernel_rfl) ?_
        refine pl_y 4 rfl (y_fa fa25_2 rfl) rfl rfl rfl rfl (by kernel_rfl) ?_
        refine pl_y 5 rfl (y_load1 Tryd.isAgg3 rfl rfl) rfl rfl rfl rfl (by kernel_rfl) ?_
        refine pl_y 6 rfl (y_fa fa29_1 rfl) rfl rfl rfl rfl (by kernel_rfl) ?_
        refine pl_y 7 rfl (y_fa0 fa27_0 rfl) rfl rfl rfl rfl (by kernel_rfl) ?_
        refine pl_y 8 rfl (y_load1 Tryd.isAgg3 rfl rfl) rfl rfl rfl rfl (by kernel_rfl) ?_
        refine pl_y 9 rfl (y_mul rfl rfl (by omega)) rfl rfl rfl rfl (by kernel_rfl) ?_
        refine pl_y 10 rfl (y_add rfl rfl (by have := hg ((((craftsOf sales fade day kind).length : Int) - 1) / 4).toNat; omega)) rfl rfl rfl rfl (by kernel_rfl) ?_
        refine pl_y 11 rfl (y_move rfl) rfl rfl rfl rfl (by kernel_rfl) ?_
        refine pl_y 12 rfl (y_move rfl) rfl rfl rfl rfl (by kernel_rfl) ?_
        refine pl_y 13 rfl (y_lenA Tryd.underlying23 rfl) rfl rfl rfl rfl (by kernel_rfl) ?_
        refine pl_y 14 rfl (y_sub rfl rfl (by omega)) rfl rfl rfl rfl (by kernel_rfl) ?_
        refine pl_y 15 rfl (y_move rfl) rfl rfl rfl rfl (by kernel_rfl) ?_
        refine pl_y 16 rfl (y_sub rfl rfl (by omega)) rfl rfl rfl rfl (by kernel_rfl) ?_
        refine pl_y 17 rfl (y_ixR (reads_sl) Tryd.underlying23 Tryd.sizeOf3 rfl rfl (⟨by omega, by omega⟩)) rfl rfl rfl rfl (by kernel_rfl) ?_
        refine pl_y 18 rfl (y_ld0 (reads_sl) Tryd.isAgg3 rfl (geq 0 (by omega)) rfl) rfl rfl rfl rfl (by kernel_rfl) ?_
        refine pl_y 19 rfl (y_fa fa25_2 rfl) rfl rfl rfl rfl (by kernel_rfl) ?_
        refine pl_y 20 rfl (y_load1 Tryd.isAgg3 rfl rfl) rfl rfl rfl rfl (by kernel_rfl) ?_
        refine pl_y 21 rfl (y_fa fa29_1 rfl) rfl rfl rfl rfl (by kernel_rfl) ?_
        refine pl_y 22 rfl (y_fa fa27_1 rfl) rfl rfl rfl rfl (by kernel_rfl) ?_
        refine pl_y 23 rfl (y_load1 Tryd.isAgg3 rfl rfl) rfl rfl rfl rfl (by kernel_rfl) ?_
        refine pl_y 24 rfl (y_mul rfl rfl (by omega)) rfl rfl rfl rfl (by kernel_rfl) ?_
        refine pl_y 25 rfl (y_add rfl rfl (by have := hg (((craftsOf sales fade day kind).length : Int) - 1 - (((craftsOf sales fade day kind).length : Int) - 1) / 4).toNat; omega)) rfl rfl rfl rfl (by kernel_rfl) ?_
        refine pl_y 26 rfl (y_build (cs := [.int .i64 (((craftsOf sales fade day kind).getD ((((craftsOf sales fade day kind).length : Int) - 1) / 4).toNat 0) + metal * wmin), .int .i64 (((craftsOf sales fade day kind).getD (((craftsOf sales fade day kind).length : Int) - 1 - (((craftsOf sales fade day kind).length : Int) - 1) / 4).toNat 0) + metal * wmax)]) st27 rfl (by kernel_rfl)) rfl rfl rfl rfl (by kernel_rfl) ?_
        refine pl_w1 27 (by kernel_rfl) rfl rfl (pl_fire rfl rfl rfl (by kernel_rfl) ?_)
        refine oj_store rfl rfl rfl rfl Tryd.sizeOf27 rfl ?_
        refine oj_nil ?_
        refine ej_pl (lt_w (by kernel_rfl) (lt_w (by kernel_rfl) (lt_w (by kernel_rfl) (lt_w (by kernel_rfl) (lt_w (by kernel_rfl) (lt_w (by kernel_rfl) (lt_w (by kernel_rfl) (lt_w (by kernel_rfl) (lt_w (by kernel_rfl) (lt_w (by kernel_rfl) (lt_w (by kernel_rfl) (lt_w (by kernel_rfl) (lt_w (by kernel_rfl) (lt_w (by kernel_rfl) (lt_w (by kernel_rfl) (lt_w (by kernel_rfl) (lt_w (by kernel_rfl) (lt_w (by kernel_rfl) (lt_w (by kernel_rfl) (lt_w (by kernel_rfl) (lt_w (by kernel_rfl) (lt_w (by kernel_rfl) (lt_w (by kernel_rfl) (lt_w (by kernel_rfl) (lt_w (by kernel_rfl) (lt_w (by kernel_rfl) (lt_w (by kernel_rfl) (lt_nil)))))))))))))))))))))))))))) ?_
        refine pl_y 28 rfl (y_assign rfl) rfl rfl rfl rfl (by kernel_rfl) ?_
        refine pl_end (by kernel_rfl) ?_
        refine ej_th (cj_ret ?_)
        have hv : valueOf sales fade metal day few kind wmin wmax = midOf (craftsOf sales fade day kind) metal wmin wmax := by simp only [valueOf, hb, hw, Bool.false_eq_true, if_false]; rw [if_neg (by omega)]
        rw [hv]
        exact ej_retC2 rfl Tryd.results21 rfl (y_loadN Tryd.isAgg27 Tryd.sizeOf27 rfl) rfl (fun w' hp => ⟨rfl, hp.below⟩)

theorem k_rValue (sales : List Sale) (fade : List Int) (metal day few : Int) (As Af : Option Addr) (cs cf : Nat) (kind wmin wmax : Int) (w : World) (hs : Rd w 5 encSale As sales) (hf : Rd w 1 enInt Af fade) : Calls Tryd.prog 22 #[.agg #[.slice As sales.length cs, .slice Af fade.length cf, .int .i64 metal, .int .i64 day, .int .i64 few], .agg #[.int .i64 kind, .int .i64 wmin, .int .i64 wmax]] w (fun e w' => e = .returned (.tuple #[.agg #[.int .i64 (valueOf sales fade metal day few kind wmin wmax).lo, .int .i64 (valueOf sales fade metal day few kind wmin wmax).hi], .int .i64 (valueOf sales fade metal day few kind wmin wmax).err]) ∧ Grow w w') := by
  have hlen := hs.len
  have hlenf := hf.len
  refine enter_pure (args := [.agg #[.slice As sales.length cs, .slice Af fade.length cf, .int .i64 metal, .int .i64 day, .int .i64 few], .agg #[.int .i64 kind, .int .i64 wmin, .int .i64 wmax]]) [sl (fun b => b < w.heap.size) 5 encSale As sales, sl (fun b => b < w.heap.size) 1 enInt Af fade] Tryd.func22 rfl (by rw [Tryd.ntmps22]; simp) (fun g hg => by simp at hg; rcases hg with rfl | rfl; exact ⟨hs, fun _ h => h⟩; exact ⟨hf, fun _ h => h⟩) ?_
  refine cj_seq (cj_region ?_)
  refine oj_box rfl rfl rfl (fun b2 => ?_)
  refine oj_box rfl rfl rfl (fun b3 => ?_)
  refine oj_alloc Tryd.zeroValue27 rfl rfl (fun b4 => ?_)
  refine oj_step (y_assign rfl) rfl rfl rfl ?_
  refine oj_nil ?_
  refine ej_th (cj_seq (cj_seq ?_))
  refine cj_regionG ?_
  refine gj_step (y_loadN Tryd.isAgg25 Tryd.sizeOf25 rfl) rfl rfl rfl (?_)
  refine gj_step (y_call Tryd.call20 rfl (fun w hp => k_rCheckMarket _ _ _ _ _ _ _ _ _ w hp.rd hp.rd)) rfl rfl rfl ?_
  refine gj_step (y_assign rfl) rfl rfl rfl (?_)
  refine gj_nil ?_
  refine ej_th (cj_seq ?_)
  refine cj_regionG (gj_step (y_move rfl) rfl rfl rfl (gj_step (y_neq rfl rfl) rfl rfl rfl (gj_nil ?_)))
  refine ej_th ?_
  refine cj_cond rfl (fun h12 => ?_) (fun h12 => ?_)
  · have h12b := h12
    try simp only [sxb] at h12
    rw [errM_ne] at h12
    refine cj_seq (cj_region ?_)
    refine oj_step (y_build st27 rfl rfl) rfl rfl rfl ?_
    refine oj_step (y_move rfl) rfl rfl rfl ?_
    refine oj_store rfl rfl rfl rfl Tryd.sizeOf27 rfl ?_
    refine oj_step (y_assign rfl) rfl rfl rfl ?_
    refine oj_nil ?_
    refine ej_th (cj_ret (ej_then_ret ?_))
    have hv : valueOf sales fade metal day few kind wmin wmax = ⟨0, 0, 20⟩ := by simp [valueOf, h12]
    rw [hv, h12]
    exact ej_retC2 rfl Tryd.results22 rfl (y_loadN Tryd.isAgg27 Tryd.sizeOf27 rfl) rfl (fun w' hp => ⟨rfl, hp.below⟩)
  · have h12b := h12
    try simp only [sxb] at h12
    rw [errM_eq] at h12
    have hb := h12
    obtain ⟨hfa, hfl, hme, hda, hfe, hsl, hsa⟩ := badMarket_parts hb
    refine cj_skip (ej_th (cj_seq (cj_seq ?_)))
    refine cj_regionG ?_
    refine gj_step (y_fa0 fa29_0 rfl) rfl rfl rfl (gj_step (y_load1 Tryd.isAgg3 rfl rfl) rfl rfl rfl (gj_step (y_fa fa25_1 rfl) rfl rfl rfl (gj_step (y_load1 Tryd.isAgg23 rfl rfl) rfl rfl rfl (gj_step (y_lenA Tryd.underlying23 rfl) rfl rfl rfl (gj_step (y_sub rfl rfl (by omega)) rfl rfl rfl (?_))))))
    refine gj_step (y_call Tryd.call26 rfl (fun w hp => k_From _ _ _ w)) rfl rfl rfl ?_
    refine gj_step (y_not rfl) rfl rfl rfl (gj_step (y_move rfl) rfl rfl rfl (?_))
    refine gj_g 4 23 27 rfl rfl rfl rfl (fun hg23 => gj_yes rfl rfl rfl (y_fa fa29_1 rfl) rfl rfl (gj_yes rfl rfl rfl (y_loadN Tryd.isAgg27 Tryd.sizeOf27 rfl) rfl rfl (gj_yes rfl rfl rfl (y_call Tryd.call62 rfl (fun w hp => k_rspan _ _ _ _ w)) rfl rfl (gj_yes rfl rfl rfl (y_not rfl) rfl rfl (gj_nil rfl))))) ?_
    refine gj_step (y_or rfl rfl rfl) rfl rfl rfl (?_)
    refine gj_nil ?_
    refine ej_th ?_
    refine cj_cond rfl (fun h28 => ?_) (fun h28 => ?_)
    · have h28b := h28
      try simp only [sxb] at h28
      have hw : badWare fade.length kind wmin wmax = true := h28b
      refine cj_seq (cj_region ?_)
      refine oj_step (y_build st27 rfl rfl) rfl rfl rfl ?_
      refine oj_store rfl rfl rfl rfl Tryd.sizeOf27 rfl ?_
      refine oj_step (y_assign rfl) rfl rfl rfl ?_
      refine oj_nil ?_
      refine ej_th (cj_ret (ej_then_ret ?_))
      have hv : valueOf sales fade metal day few kind wmin wmax = ⟨0, 0, 21⟩ := by simp [valueOf, hb, hw]
      rw [hv]
      exact ej_retC2 rfl Tryd.results22 rfl (y_loadN Tryd.isAgg27 Tryd.sizeOf27 rfl) rfl (fun w' hp => ⟨rfl, hp.below⟩)
    · have h28b := h28
      try simp only [sxb] at h28
      have hw : badWare fade.length kind wmin wmax = false := h28b
      obtain ⟨hk, hww⟩ := badWare_no hw
      have hm1 := mul_bd hme (show 0 ≤ wmin ∧ wmin ≤ 1000 by omega)
      have hm2 := mul_bd hme (show 0 ≤ wmax ∧ wmax ≤ 1000 by omega)
      have hg := getD_bd (craftsOf_bd kind hsa hfa) (by omega)
      have hcl := craftsOf_len sales fade day kind
      refine cj_skip (ej_th (cj_seq (cj_region ?_)))
      refine oj_step (y_loadN Tryd.isAgg25 Tryd.sizeOf25 rfl) rfl rfl rfl ?_
      refine oj_step (y_fa0 fa29_0 rfl) rfl rfl rfl ?_
      refine oj_step (y_load1 Tryd.isAgg3 rfl rfl) rfl rfl rfl ?_
      refine oj_callS (fun A c => .slice A (craftsOf sales fade day kind).length c) 1 enInt (craftsOf sales fade day kind) Tryd.call56 rfl (fun w hp => k_rcrafts sales fade metal day few As Af cs cf kind w hp.rd hp.rd hb) rfl (fun A33 c33 fp33 hfp33 => ?_)
      refine oj_step (y_assign rfl) rfl rfl rfl ?_
      refine oj_nil ?_
      refine ej_th (cj_seq (cj_seq ?_))
      refine cj_regionG (gj_step (y_move rfl) rfl rfl rfl (gj_step (y_lenA Tryd.underlying23 rfl) rfl rfl rfl (gj_step (y_fa fa25_4 rfl) rfl rfl rfl (gj_step (y_load1 Tryd.isAgg3 rfl rfl) rfl rfl rfl (gj_step (y_lss rfl rfl) rfl rfl rfl (gj_nil ?_))))))
      refine ej_th ?_
      refine cj_cond rfl (fun h38 => ?_) (fun h38 => ?_)
      · have h38b := h38
        try simp only [sxb] at h38
        refine cj_seq (cj_region ?_)
        refine oj_step (y_build st27 rfl rfl) rfl rfl rfl ?_
        refine oj_store rfl rfl rfl rfl Tryd.sizeOf27 rfl ?_
        refine oj_step (y_assign rfl) rfl rfl rfl ?_
        refine oj_nil ?_
        refine ej_th (cj_ret (ej_then_ret ?_))
        have hv : valueOf sales fade metal day few kind wmin wmax = ⟨0, 0, 4⟩ := by simp [valueOf, hb, hw, h38]
        rw [hv]
        exact ej_retC2 rfl Tryd.results22 rfl (y_loadN Tryd.isAgg27 Tryd.sizeOf27 rfl) rfl (fun w' hp => ⟨rfl, hp.below⟩)
      · have h38b := h38
        try simp only [sxb] at h38
        refine cj_skip (ej_th (cj_seq ?_))
        refine cj_regionG ?_
        refine gj_step (y_move rfl) rfl rfl rfl (gj_step (y_lenA Tryd.underlying23 rfl) rfl rfl rfl (gj_step (y_sub rfl rfl (by omega)) rfl rfl rfl (?_)))
        refine gj_step (y_call Tryd.call29 rfl (fun w hp => k_Down _ _ w (by omega) (by omega))) rfl rfl rfl ?_
        refine gj_step (y_assign rfl) rfl rfl rfl (?_)
        refine gj_nil ?_
        refine ej_th (cj_seq ?_)
        refine cj_plan 29 (by kernel_rfl) (by kernel_rfl) ?_
        refine pl_y 0 rfl (y_move rfl) rfl rfl rfl rfl (by kernel_rfl) ?_
        refine pl_y 1 rfl (y_move rfl) rfl rfl rfl rfl (by kernel_rfl) ?_
        refine pl_y 2 rfl (y_ixR (reads_sl) Tryd.underlying23 Tryd.sizeOf3 rfl rfl (⟨by omega, by omega⟩)) rfl rfl rfl rfl (by kernel_rfl) ?_
        refine pl_y 3 rfl (y_ld0 (reads_sl) Tryd.isAgg3 rfl (geq 0 (by omega)) rfl) rfl rfl rfl rfl (by kernel_rfl) ?_
        refine pl_y 4 rfl (y_fa fa25_2 rfl) rfl rfl rfl rfl (by kernel_rfl) ?_
        refine pl_y 5 rfl (y_load1 Tryd.isAgg3 rfl rfl) rfl rfl rfl rfl (by kernel_rfl) ?_
        refine pl_y 6 rfl (y_fa fa29_1 rfl) rfl rfl rfl rfl (by kernel_rfl) ?_
        refine pl_y 7 rfl (y_fa0 fa27_0 rfl) rfl rfl rfl rfl (by kernel_rfl) ?_
        refine pl_y 8 rfl (y_load1 Tryd.isAgg3 rfl rfl) rfl rfl rfl rfl (by kernel_rfl) ?_
        refine pl_y 9 rfl (y_mul rfl rfl (by omega)) rfl rfl rfl rfl (by kernel_rfl) ?_
        refine pl_y 10 rfl (y_add rfl rfl (by have := hg ((((craftsOf sales fade day kind).length : Int) - 1) / 4).toNat; omega)) rfl rfl rfl rfl (by kernel_rfl) ?_
        refine pl_y 11 rfl (y_move rfl) rfl rfl rfl rfl (by kernel_rfl) ?_
        refine pl_y 12 rfl (y_move rfl) rfl rfl rfl rfl (by kernel_rfl) ?_
        refine pl_y 13 rfl (y_lenA Tryd.underlying23 rfl) rfl rfl rfl rfl (by kernel_rfl) ?_
        refine pl_y 14 rfl (y_sub rfl rfl (by omega)) rfl rfl rfl rfl (by kernel_rfl) ?_
        refine pl_y 15 rfl (y_move rfl) rfl rfl rfl rfl (by kernel_rfl) ?_
        refine pl_y 16 rfl (y_sub rfl rfl (by omega)) rfl rfl rfl rfl (by kernel_rfl) ?_
        refine pl_y 17 rfl (y_ixR (reads_sl) Tryd.underlying23 Tryd.sizeOf3 rfl rfl (⟨by omega, by omega⟩)) rfl rfl rfl rfl (by kernel_rfl) ?_
        refine pl_y 18 rfl (y_ld0 (reads_sl) Tryd.isAgg3 rfl (geq 0 (by omega)) rfl) rfl rfl rfl rfl (by kernel_rfl) ?_
        refine pl_y 19 rfl (y_fa fa25_2 rfl) rfl rfl rfl rfl (by kernel_rfl) ?_
        refine pl_y 20 rfl (y_load1 Tryd.isAgg3 rfl rfl) rfl rfl rfl rfl (by kernel_rfl) ?_
        refine pl_y 21 rfl (y_fa fa29_1 rfl) rfl rfl rfl rfl (by kernel_rfl) ?_
        refine pl_y 22 rfl (y_fa fa27_1 rfl) rfl rfl rfl rfl (by kernel_rfl) ?_
        refine pl_y 23 rfl (y_load1 Tryd.isAgg3 rfl rfl) rfl rfl rfl rfl (by kernel_rfl) ?_
        refine pl_y 24 rfl (y_mul rfl rfl (by omega)) rfl rfl rfl rfl (by kernel_rfl) ?_
        refine pl_y 25 rfl (y_add rfl rfl (by have := hg (((craftsOf sales fade day kind).length : Int) - 1 - (((craftsOf sales fade day kind).length : Int) - 1) / 4).toNat; omega)) rfl rfl rfl rfl (by kernel_rfl) ?_
        refine pl_y 26 rfl (y_build (cs := [.int .i64 (((craftsOf sales fade day kind).getD ((((craftsOf sales fade day kind).length : Int) - 1) / 4).toNat 0) + metal * wmin), .int .i64 (((craftsOf sales fade day kind).getD (((craftsOf sales fade day kind).length : Int) - 1 - (((craftsOf sales fade day kind).length : Int) - 1) / 4).toNat 0) + metal * wmax)]) st27 rfl (by kernel_rfl)) rfl rfl rfl rfl (by kernel_rfl) ?_
        refine pl_w1 27 (by kernel_rfl) rfl rfl (pl_fire rfl rfl rfl (by kernel_rfl) ?_)
        refine oj_store rfl rfl rfl rfl Tryd.sizeOf27 rfl ?_
        refine oj_nil ?_
        refine ej_pl (lt_w (by kernel_rfl) (lt_w (by kernel_rfl) (lt_w (by kernel_rfl) (lt_w (by kernel_rfl) (lt_w (by kernel_rfl) (lt_w (by kernel_rfl) (lt_w (by kernel_rfl) (lt_w (by kernel_rfl) (lt_w (by kernel_rfl) (lt_w (by kernel_rfl) (lt_w (by kernel_rfl) (lt_w (by kernel_rfl) (lt_w (by kernel_rfl) (lt_w (by kernel_rfl) (lt_w (by kernel_rfl) (lt_w (by kernel_rfl) (lt_w (by kernel_rfl) (lt_w (by kernel_rfl) (lt_w (by kernel_rfl) (lt_w (by kernel_rfl) (lt_w (by kernel_rfl) (lt_w (by kernel_rfl) (lt_w (by kernel_rfl) (lt_w (by kernel_rfl) (lt_w (by kernel_rfl) (lt_w (by kernel_rfl) (lt_w (by kernel_rfl) (lt_nil)))))))))))))))))))))))))))) ?_
        refine pl_y 28 rfl (y_assign rfl) rfl rfl rfl rfl (by kernel_rfl) ?_
        refine pl_end (by kernel_rfl) ?_
        refine ej_th (cj_ret ?_)
        have hv : valueOf sales fade metal day few kind wmin wmax = midOf (craftsOf sales fade day kind) metal wmin wmax := by simp only [valueOf, hb, hw, Bool.false_eq_true, if_false]; rw [if_neg (by omega)]
        rw [hv]
        exact ej_retC2 rfl Tryd.results22 rfl (y_loadN Tryd.isAgg27 Tryd.sizeOf27 rfl) rfl (fun w' hp => ⟨rfl, hp.below⟩)

theorem k_CheckTerms (fr fl cap : Int) (w : World)  : Calls Tryd.prog 45 #[.agg #[.int .i64 fr, .int .i64 fl, .int .i64 cap]] w (fun e w' => e = .returned (.int .i64 (errT (badTerms fr fl cap))) ∧ Grow w w') := by
  refine enter_pure (args := [.agg #[.int .i64 fr, .int .i64 fl, .int .i64 cap]]) [] Tryd.func45 rfl (by rw [Tryd.ntmps45]; simp) (by simp) ?_
  refine cj_seq (cj_region ?_)
  refine oj_box rfl rfl rfl (fun b1 => ?_)
  refine oj_step (y_assign rfl) rfl rfl rfl ?_
  refine oj_nil ?_
  refine ej_th (cj_seq (cj_seq ?_))
  refine cj_regionG ?_
  refine gj_step (y_fa0 fa52_0 rfl) rfl rfl rfl (gj_step (y_load1 Tryd.isAgg3 rfl rfl) rfl rfl rfl (?_))
  refine gj_step (y_call Tryd.call54 rfl (fun w hp => k_within _ _ _ w)) rfl rfl rfl ?_
  refine gj_step (y_not rfl) rfl rfl rfl (gj_step (y_move rfl) rfl rfl rfl (?_))
  refine gj_g 4 7 11 rfl rfl rfl rfl (fun hg7 => gj_yes rfl rfl rfl (y_fa fa52_2 rfl) rfl rfl (gj_yes rfl rfl rfl (y_load1 Tryd.isAgg3 rfl rfl) rfl rfl (gj_yes rfl rfl rfl (y_call Tryd.call54 rfl (fun w hp => k_within _ _ _ w)) rfl rfl (gj_yes rfl rfl rfl (y_not rfl) rfl rfl (gj_nil rfl))))) ?_
  refine gj_step (y_or rfl rfl rfl) rfl rfl rfl (gj_step (y_move rfl) rfl rfl rfl (?_))
  refine gj_g 6 13 19 rfl rfl rfl rfl (fun hg13 => gj_yes rfl rfl rfl (y_fa fa52_1 rfl) rfl rfl (gj_yes rfl rfl rfl (y_load1 Tryd.isAgg3 rfl rfl) rfl rfl (gj_yes rfl rfl rfl (y_fa fa52_2 rfl) rfl rfl (gj_yes rfl rfl rfl (y_load1 Tryd.isAgg3 rfl rfl) rfl rfl (gj_yes rfl rfl rfl (y_call Tryd.call54 rfl (fun w hp => k_within _ _ _ w)) rfl rfl (gj_yes rfl rfl rfl (y_not rfl) rfl rfl (gj_nil rfl))))))) ?_
  refine gj_step (y_or rfl rfl rfl) rfl rfl rfl (?_)
  refine gj_nil ?_
  refine ej_th ?_
  refine cj_cond rfl (fun h20 => ?_) (fun h20 => ?_)
  · have h20b := h20
    try simp only [sxb] at h20
    refine cj_seq ?_
    refine cj_regionG (gj_step (y_assign rfl) rfl rfl rfl (gj_nil ?_))
    refine ej_th (cj_ret (ej_then_ret ?_))
    refine ej_ret1 rfl Tryd.results45 rfl (fun w' hp => ⟨?_, hp.below⟩)
    rw [show badTerms fr fl cap = true from h20b]; rfl
  · have h20b := h20
    try simp only [sxb] at h20
    refine cj_skip (ej_th (cj_seq ?_))
    refine cj_regionG (gj_step (y_assign rfl) rfl rfl rfl (gj_nil ?_))
    refine ej_th (cj_ret ?_)
    refine ej_ret1 rfl Tryd.results45 rfl (fun w' hp => ⟨?_, hp.below⟩)
    rw [show badTerms fr fl cap = false from h20b]; rfl

theorem k_most (fr fl cap lo hi : Int) (w : World) (hb : badTerms fr fl cap = false) (hv : 0 ≤ lo ∧ lo ≤ 2147483648) : Calls Tryd.prog 67 #[.agg #[.int .i64 fr, .int .i64 fl, .int .i64 cap], .agg #[.int .i64 lo, .int .i64 hi]] w (fun e w' => e = .returned (.int .i64 (mostOf fr fl cap lo)) ∧ Grow w w') := by
  obtain ⟨h1, h2, h3⟩ := badTerms_no hb
  have hm := mul_bd hv h1
  refine enter_pure (args := [.agg #[.int .i64 fr, .int .i64 fl, .int .i64 cap], .agg #[.int .i64 lo, .int .i64 hi]]) [] Tryd.func67 rfl (by rw [Tryd.ntmps67]; simp) (by simp) ?_
  refine cj_seq (cj_region ?_)
  refine oj_box rfl rfl rfl (fun b2 => ?_)
  refine oj_box rfl rfl rfl (fun b3 => ?_)
  refine oj_step (y_assign rfl) rfl rfl rfl ?_
  refine oj_nil ?_
  refine ej_th (cj_seq ?_)
  refine cj_regionG (gj_step (y_fa0 fa27_0 rfl) rfl rfl rfl (gj_step (y_load1 Tryd.isAgg3 rfl rfl) rfl rfl rfl (gj_step (y_fa0 fa52_0 rfl) rfl rfl rfl (gj_step (y_load1 Tryd.isAgg3 rfl rfl) rfl rfl rfl (gj_step (y_mul rfl rfl (by omega)) rfl rfl rfl (gj_step (y_quo rfl rfl (⟨by omega, by omega, by omega⟩)) rfl rfl rfl (gj_step (y_assign rfl) rfl rfl rfl (gj_nil ?_))))))))
  refine ej_th (cj_seq (cj_seq ?_))
  refine cj_regionG (gj_step (y_move rfl) rfl rfl rfl (gj_step (y_fa fa52_1 rfl) rfl rfl rfl (gj_step (y_load1 Tryd.isAgg3 rfl rfl) rfl rfl rfl (gj_step (y_lss rfl rfl) rfl rfl rfl (gj_nil ?_)))))
  refine ej_th ?_
  refine cj_cond rfl (fun h15 => ?_) (fun h15 => ?_)
  · have h15b := h15
    try simp only [sxb] at h15
    refine cj_regionG (gj_step (y_fa fa52_1 rfl) rfl rfl rfl (gj_step (y_load1 Tryd.isAgg3 rfl rfl) rfl rfl rfl (gj_step (y_fa0 fa27_0 rfl) rfl rfl rfl (gj_step (y_load1 Tryd.isAgg3 rfl rfl) rfl rfl rfl (gj_step (y_min rfl rfl) rfl rfl rfl (gj_step (y_assign rfl) rfl rfl rfl (gj_nil ?_)))))))
    refine ej_th (cj_seq ?_)
    refine cj_regionG (gj_step (y_move rfl) rfl rfl rfl (gj_step (y_fa fa52_2 rfl) rfl rfl rfl (gj_step (y_load1 Tryd.isAgg3 rfl rfl) rfl rfl rfl (gj_step (y_min rfl rfl) rfl rfl rfl (gj_step (y_assign rfl) rfl rfl rfl (gj_nil ?_))))))
    refine ej_th (cj_ret ?_)
    refine ej_ret1 rfl Tryd.results67 rfl (fun w' hp => ⟨?_, hp.below⟩)
    rw [mostOf, if_pos h15]
  · have h15b := h15
    try simp only [sxb] at h15
    refine cj_skip (ej_th (cj_seq ?_))
    refine cj_regionG (gj_step (y_move rfl) rfl rfl rfl (gj_step (y_fa fa52_2 rfl) rfl rfl rfl (gj_step (y_load1 Tryd.isAgg3 rfl rfl) rfl rfl rfl (gj_step (y_min rfl rfl) rfl rfl rfl (gj_step (y_assign rfl) rfl rfl rfl (gj_nil ?_))))))
    refine ej_th (cj_ret ?_)
    refine ej_ret1 rfl Tryd.results67 rfl (fun w' hp => ⟨?_, hp.below⟩)
    rw [mostOf, if_neg (by omega)]

theorem k_Most (fr fl cap lo hi : Int) (w : World)  : Calls Tryd.prog 28 #[.agg #[.int .i64 fr, .int .i64 fl, .int .i64 cap], .agg #[.int .i64 lo, .int .i64 hi]] w (fun e w' => e = .returned (.tuple #[.int .i64 (MostN fr fl cap lo hi), .int .i64 (MostE fr fl cap lo hi)]) ∧ Grow w w') := by
  refine enter_pure (args := [.agg #[.int .i64 fr, .int .i64 fl, .int .i64 cap], .agg #[.int .i64 lo, .int .i64 hi]]) [] Tryd.func28 rfl (by rw [Tryd.ntmps28]; simp) (by simp) ?_
  refine cj_seq (cj_region ?_)
  refine oj_box rfl rfl rfl (fun b2 => ?_)
  refine oj_box rfl rfl rfl (fun b3 => ?_)
  refine oj_step (y_assign rfl) rfl rfl rfl ?_
  refine oj_step (y_assign rfl) rfl rfl rfl ?_
  refine oj_nil ?_
  refine ej_th (cj_seq (cj_seq ?_))
  refine cj_regionG ?_
  refine gj_step (y_loadN Tryd.isAgg52 Tryd.sizeOf52 rfl) rfl rfl rfl (?_)
  refine gj_step (y_call Tryd.call45 rfl (fun w hp => k_CheckTerms _ _ _ w)) rfl rfl rfl ?_
  refine gj_step (y_assign rfl) rfl rfl rfl (?_)
  refine gj_nil ?_
  refine ej_th (cj_seq ?_)
  refine cj_regionG (gj_step (y_move rfl) rfl rfl rfl (gj_step (y_neq rfl rfl) rfl rfl rfl (gj_nil ?_)))
  refine ej_th ?_
  refine cj_cond rfl (fun h10 => ?_) (fun h10 => ?_)
  · have h10b := h10
    try simp only [sxb] at h10
    rw [errT_ne] at h10
    refine cj_seq ?_
    refine cj_regionG (gj_step (y_move rfl) rfl rfl rfl (gj_step (y_assign rfl) rfl rfl rfl (gj_step (y_assign rfl) rfl rfl rfl (gj_nil ?_))))
    refine ej_th (cj_ret (ej_then_ret ?_))
    refine ej_ret2 rfl Tryd.results28 rfl rfl (fun w' hp => ⟨?_, hp.below⟩)
    rw [MostN, MostE, h10]; rfl
  · have h10b := h10
    try simp only [sxb] at h10
    rw [errT_eq] at h10
    refine cj_skip (ej_th (cj_seq (cj_seq ?_)))
    refine cj_regionG ?_
    refine gj_step (y_loadN Tryd.isAgg27 Tryd.sizeOf27 rfl) rfl rfl rfl (?_)
    refine gj_step (y_call Tryd.call61 rfl (fun w hp => k_span _ _ _ w)) rfl rfl rfl ?_
    refine gj_step (y_not rfl) rfl rfl rfl (?_)
    refine gj_nil ?_
    refine ej_th ?_
    refine cj_cond rfl (fun h14 => ?_) (fun h14 => ?_)
    · have h14b := h14
      try simp only [sxb] at h14
      have hs : spanOk lo hi 2147483648 = false := not_t h14b
      refine cj_seq ?_
      refine cj_regionG (gj_step (y_assign rfl) rfl rfl rfl (gj_step (y_assign rfl) rfl rfl rfl (gj_nil ?_)))
      refine ej_th (cj_ret (ej_then_ret ?_))
      refine ej_ret2 rfl Tryd.results28 rfl rfl (fun w' hp => ⟨?_, hp.below⟩)
      rw [MostN, MostE, h10, hs]; rfl
    · have h14b := h14
      try simp only [sxb] at h14
      have hs : spanOk lo hi 2147483648 = true := not_f h14b
      have hs2 := hs
      simp only [spanOk, Bool.and_eq_true, decide_eq_true_eq] at hs2
      refine cj_skip (ej_th (cj_seq ?_))
      refine cj_regionG ?_
      refine gj_step (y_loadN Tryd.isAgg52 Tryd.sizeOf52 rfl) rfl rfl rfl (gj_step (y_loadN Tryd.isAgg27 Tryd.sizeOf27 rfl) rfl rfl rfl (?_))
      refine gj_step (y_call Tryd.call67 rfl (fun w hp => k_most _ _ _ _ _ w (by assumption) (by omega))) rfl rfl rfl ?_
      refine gj_step (y_assign rfl) rfl rfl rfl (gj_step (y_assign rfl) rfl rfl rfl (?_))
      refine gj_nil ?_
      refine ej_th (cj_ret ?_)
      refine ej_ret2 rfl Tryd.results28 rfl rfl (fun w' hp => ⟨?_, hp.below⟩)
      rw [MostN, MostE, h10, hs]; rfl

theorem k_Lend (fr fl cap lo hi wish : Int) (w : World)  : Calls Tryd.prog 30 #[.agg #[.int .i64 fr, .int .i64 fl, .int .i64 cap], .agg #[.int .i64 lo, .int .i64 hi], .int .i64 wish] w (fun e w' => e = .returned (.tuple #[.int .i64 (LendN fr fl cap lo hi wish), .int .i64 (LendE fr fl cap lo hi wish)]) ∧ Grow w w') := by
  refine enter_pure (args := [.agg #[.int .i64 fr, .int .i64 fl, .int .i64 cap], .agg #[.int .i64 lo, .int .i64 hi], .int .i64 wish]) [] Tryd.func30 rfl (by rw [Tryd.ntmps30]; simp) (by simp) ?_
  refine cj_seq (cj_region ?_)
  refine oj_box rfl rfl rfl (fun b3 => ?_)
  refine oj_box rfl rfl rfl (fun b4 => ?_)
  refine oj_step (y_assign rfl) rfl rfl rfl ?_
  refine oj_step (y_assign rfl) rfl rfl rfl ?_
  refine oj_nil ?_
  refine ej_th (cj_seq ?_)
  refine cj_regionG ?_
  refine gj_step (y_loadN Tryd.isAgg52 Tryd.sizeOf52 rfl) rfl rfl rfl (gj_step (y_loadN Tryd.isAgg27 Tryd.sizeOf27 rfl) rfl rfl rfl (?_))
  refine gj_step (y_call Tryd.call28 rfl (fun w hp => k_Most _ _ _ _ _ w)) rfl rfl rfl ?_
  refine gj_step (y_move rfl) rfl rfl rfl (gj_step (y_extract rfl rfl) rfl rfl rfl (gj_step (y_extract rfl rfl) rfl rfl rfl (gj_step (y_assign rfl) rfl rfl rfl (gj_step (y_assign rfl) rfl rfl rfl (?_)))))
  refine gj_nil ?_
  refine ej_th (cj_seq (cj_block (cj_seq ?_)))
  refine cj_regionG (gj_step (y_move rfl) rfl rfl rfl (gj_step (y_neq rfl rfl) rfl rfl rfl (gj_step (y_assign rfl) rfl rfl rfl (gj_nil ?_))))
  refine ej_th ?_
  refine cj_cond rfl (fun h16 => ?_) (fun h16 => ?_)
  · have h16b := h16
    try simp only [sxb] at h16
    refine cj_seq ?_
    refine cj_regionG (gj_step (y_move rfl) rfl rfl rfl (gj_step (y_assign rfl) rfl rfl rfl (gj_step (y_assign rfl) rfl rfl rfl (gj_nil ?_))))
    refine ej_th (cj_ret (ej_blk_ret (ej_then_ret ?_)))
    refine ej_ret2 rfl Tryd.results30 rfl rfl (fun w' hp => ⟨?_, hp.below⟩)
    rw [LendN, LendE, if_neg h16, if_neg h16]
  · have h16b := h16
    try simp only [sxb] at h16
    refine cj_seq ?_
    refine cj_regionG ?_
    refine gj_step (y_move rfl) rfl rfl rfl (?_)
    refine gj_step (y_call Tryd.call54 rfl (fun w hp => k_within _ _ _ w)) rfl rfl rfl ?_
    refine gj_step (y_not rfl) rfl rfl rfl (gj_step (y_assign rfl) rfl rfl rfl (?_))
    refine gj_nil ?_
    refine ej_th ?_
    refine cj_cond rfl (fun h20 => ?_) (fun h20 => ?_)
    · have h20b := h20
      try simp only [sxb] at h20
      refine cj_seq ?_
      refine cj_regionG (gj_step (y_assign rfl) rfl rfl rfl (gj_step (y_assign rfl) rfl rfl rfl (gj_nil ?_)))
      refine ej_th (cj_ret (ej_blk_ret (ej_then_ret ?_)))
      refine ej_ret2 rfl Tryd.results30 rfl rfl (fun w' hp => ⟨?_, hp.below⟩)
      have hw : btw 1 wish 1073741824 = false := not_t h20b
      rw [LendN, LendE, if_pos h16, if_pos h16, hw]; rfl
    · have h20b := h20
      try simp only [sxb] at h20
      refine cj_seq ?_
      refine cj_regionG (gj_step (y_move rfl) rfl rfl rfl (gj_step (y_eql rfl rfl) rfl rfl rfl (gj_step (y_assign rfl) rfl rfl rfl (gj_nil ?_))))
      refine ej_th ?_
      refine cj_cond rfl (fun h24 => ?_) (fun h24 => ?_)
      · have h24b := h24
        try simp only [sxb] at h24
        refine cj_seq ?_
        refine cj_regionG (gj_step (y_assign rfl) rfl rfl rfl (gj_step (y_assign rfl) rfl rfl rfl (gj_nil ?_)))
        refine ej_th (cj_ret (ej_blk_ret (ej_then_ret ?_)))
        refine ej_ret2 rfl Tryd.results30 rfl rfl (fun w' hp => ⟨?_, hp.below⟩)
        have hw : btw 1 wish 1073741824 = true := not_f h20b
        rw [LendN, LendE, if_pos h16, if_pos h16, hw, if_pos rfl, if_pos rfl, if_pos h24, if_pos h24]
      · have h24b := h24
        try simp only [sxb] at h24
        refine cj_skip (ej_blk (ej_th (cj_seq ?_)))
        refine cj_regionG (gj_step (y_move rfl) rfl rfl rfl (gj_step (y_move rfl) rfl rfl rfl (gj_step (y_min rfl rfl) rfl rfl rfl (gj_step (y_assign rfl) rfl rfl rfl (gj_step (y_assign rfl) rfl rfl rfl (gj_nil ?_))))))
        refine ej_th (cj_ret ?_)
        refine ej_ret2 rfl Tryd.results30 rfl rfl (fun w' hp => ⟨?_, hp.below⟩)
        have hw : btw 1 wish 1073741824 = true := not_f h20b
        rw [LendN, LendE, if_pos h16, if_pos h16, hw, if_pos rfl, if_pos rfl, if_neg h24, if_neg h24]

end Go.Proofs.YtafmgkiddhappaaDoor
