/-
  The fields of a statistics record, read as a value.
-/
import Derived.Test.Qxb6500847aGreatDoorRtG
namespace Go.Proofs.Qxb6500847aGreatDoor.Os
open Go.RowKit FloorA
set_option maxRecDepth 100000
theorem fld53_3 (w : World) (o a b c d e f p q : Int) (l : Nat → Int) : (Instr.field 53 (.agg #[.int .i64 o, .int .i64 a, .int .i64 b, .int .i64 c, .int .i64 d, .int .i64 e, .int .i64 f, .int .i64 (l 0), .int .i64 (l 1), .int .i64 (l 2), .int .i64 (l 3), .int .i64 (l 4), .int .i64 (l 5), .int .i64 (l 6), .int .i64 (l 7), .int .u64 p, .int .u64 q]) 3).run Tryz.prog w = .ok (.int .i64 c) w := by
  kernel_rfl
theorem fld53_4 (w : World) (o a b c d e f p q : Int) (l : Nat → Int) : (Instr.field 53 (.agg #[.int .i64 o, .int .i64 a, .int .i64 b, .int .i64 c, .int .i64 d, .int .i64 e, .int .i64 f, .int .i64 (l 0), .int .i64 (l 1), .int .i64 (l 2), .int .i64 (l 3), .int .i64 (l 4), .int .i64 (l 5), .int .i64 (l 6), .int .i64 (l 7), .int .u64 p, .int .u64 q]) 4).run Tryz.prog w = .ok (.int .i64 d) w := by
  kernel_rfl
end Go.Proofs.Qxb6500847aGreatDoor.Os
