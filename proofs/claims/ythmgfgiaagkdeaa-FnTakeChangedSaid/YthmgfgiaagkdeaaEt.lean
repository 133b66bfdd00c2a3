/- The table of types of this seat's program, for the engine. Printed by a program. -/
import Derived.Test.YthmgfgiaagkdeaaEngB
import Derived.Test.YthmgfgiaagkdeaaProg
namespace Go.Proofs.Ythmgfgiaagkdeaa
def te : TE := [
  (2, ⟨.int .i64, 1, 8, [.int .i64 0]⟩),
  (3, ⟨.int .i64, 1, 8, [.int .i64 0]⟩),
  (4, ⟨.bool, 1, 1, [.bool false]⟩),
  (5, ⟨.int .u8, 1, 1, [.int .u8 0]⟩),
  (12, ⟨.int .u64, 1, 8, [.int .u64 0]⟩),
  (21, ⟨.int .i32, 1, 4, [.int .i32 0]⟩),
  (22, ⟨.slice 5, 1, 24, [.nil]⟩),
  (23, ⟨.slice 3, 1, 24, [.nil]⟩),
  (24, ⟨.slice 69, 1, 24, [.nil]⟩),
  (25, ⟨.struct [(0, 3), (1, 23), (2, 24)], 3, 56, [.int .i64 0, .nil, .nil]⟩),
  (26, ⟨.struct [(0, 3), (1, 23), (2, 24)], 3, 56, [.int .i64 0, .nil, .nil]⟩),
  (35, ⟨.struct [(0, 3), (1, 23), (2, 3), (3, 23)], 4, 64, [.int .i64 0, .nil, .int .i64 0, .nil]⟩),
  (36, ⟨.struct [(0, 3), (1, 23), (2, 3), (3, 23)], 4, 64, [.int .i64 0, .nil, .int .i64 0, .nil]⟩),
  (46, ⟨.struct [(0, 3), (1, 3), (2, 23), (3, 3)], 4, 48, [.int .i64 0, .int .i64 0, .nil, .int .i64 0]⟩),
  (47, ⟨.struct [(0, 3), (1, 3), (2, 23), (3, 3)], 4, 48, [.int .i64 0, .int .i64 0, .nil, .int .i64 0]⟩),
  (51, ⟨.struct [(0, 3), (1, 3), (2, 23), (3, 3)], 4, 48, [.int .i64 0, .int .i64 0, .nil, .int .i64 0]⟩),
  (58, ⟨.slice 110, 1, 24, [.nil]⟩),
  (59, ⟨.struct [(0, 3), (1, 23), (2, 58)], 3, 56, [.int .i64 0, .nil, .nil]⟩),
  (60, ⟨.struct [(0, 3), (1, 23), (2, 58)], 3, 56, [.int .i64 0, .nil, .nil]⟩),
  (61, ⟨.struct [(0, 3), (1, 23), (2, 3), (3, 23)], 4, 64, [.int .i64 0, .nil, .int .i64 0, .nil]⟩),
  (68, ⟨.struct [(0, 3), (1, 3), (2, 36)], 6, 80, [.int .i64 0, .int .i64 0, .int .i64 0, .nil, .int .i64 0, .nil]⟩),
  (69, ⟨.struct [(0, 3), (1, 3), (2, 36)], 6, 80, [.int .i64 0, .int .i64 0, .int .i64 0, .nil, .int .i64 0, .nil]⟩),
  (99, ⟨.struct [(0, 22), (1, 3)], 2, 32, [.nil, .int .i64 0]⟩),
  (100, ⟨.struct [(0, 22), (1, 3)], 2, 32, [.nil, .int .i64 0]⟩),
  (109, ⟨.struct [(0, 3), (1, 3), (2, 61)], 6, 80, [.int .i64 0, .int .i64 0, .int .i64 0, .nil, .int .i64 0, .nil]⟩),
  (110, ⟨.struct [(0, 3), (1, 3), (2, 61)], 6, 80, [.int .i64 0, .int .i64 0, .int .i64 0, .nil, .int .i64 0, .nil]⟩),
  (117, ⟨.int .u64, 1, 8, [.int .u64 0]⟩),
  (125, ⟨.int .u32, 1, 4, [.int .u32 0]⟩)]
theorem teok : teOk Try.prog te = true := by kernel_rfl
end Go.Proofs.Ythmgfgiaagkdeaa
