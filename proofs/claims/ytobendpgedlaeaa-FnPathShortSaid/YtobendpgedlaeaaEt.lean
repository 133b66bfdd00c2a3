/- The table of types of this seat's program, for the engine. Printed by a program. -/
import Derived.Test.YtobendpgedlaeaaEs
import Derived.Test.YtobendpgedlaeaaProg
namespace Go.Proofs.Ytobendpgedlaeaa
def te : TE := [
  (2, ⟨.int .i64, 1, 8, [.int .i64 0]⟩),
  (3, ⟨.int .i64, 1, 8, [.int .i64 0]⟩),
  (4, ⟨.bool, 1, 1, [.bool false]⟩),
  (5, ⟨.int .u8, 1, 1, [.int .u8 0]⟩),
  (12, ⟨.int .u64, 1, 8, [.int .u64 0]⟩),
  (21, ⟨.int .i32, 1, 4, [.int .i32 0]⟩),
  (22, ⟨.slice 5, 1, 24, [.nil]⟩),
  (23, ⟨.slice 38, 1, 24, [.nil]⟩),
  (24, ⟨.struct [(0, 3), (1, 23)], 2, 32, [.int .i64 0, .nil]⟩),
  (25, ⟨.struct [(0, 3), (1, 23)], 2, 32, [.int .i64 0, .nil]⟩),
  (29, ⟨.slice 78, 1, 24, [.nil]⟩),
  (30, ⟨.struct [(0, 3), (1, 29)], 2, 32, [.int .i64 0, .nil]⟩),
  (31, ⟨.struct [(0, 3), (1, 29)], 2, 32, [.int .i64 0, .nil]⟩),
  (37, ⟨.struct [(0, 3), (1, 3), (2, 3)], 3, 24, [.int .i64 0, .int .i64 0, .int .i64 0]⟩),
  (38, ⟨.struct [(0, 3), (1, 3), (2, 3)], 3, 24, [.int .i64 0, .int .i64 0, .int .i64 0]⟩),
  (46, ⟨.slice 3, 1, 24, [.nil]⟩),
  (75, ⟨.struct [(0, 22), (1, 3)], 2, 32, [.nil, .int .i64 0]⟩),
  (76, ⟨.struct [(0, 22), (1, 3)], 2, 32, [.nil, .int .i64 0]⟩),
  (78, ⟨.struct [(0, 3), (1, 3), (2, 3)], 3, 24, [.int .i64 0, .int .i64 0, .int .i64 0]⟩),
  (87, ⟨.int .u32, 1, 4, [.int .u32 0]⟩)]
theorem teok : teOk Try.prog te = true := by kernel_rfl
end Go.Proofs.Ytobendpgedlaeaa
