/- The table of types of this seat's program, for the engine. Printed by a program. -/
import Derived.Test.YtlgfdjmnedfjfaaEs
import Derived.Test.YtlgfdjmnedfjfaaProg
namespace Go.Proofs.Ytlgfdjmnedfjfaa
def te : TE := [
  (2, ⟨.int .i64, 1, 8, [.int .i64 0]⟩),
  (3, ⟨.int .i64, 1, 8, [.int .i64 0]⟩),
  (4, ⟨.bool, 1, 1, [.bool false]⟩),
  (5, ⟨.int .u8, 1, 1, [.int .u8 0]⟩),
  (12, ⟨.int .u64, 1, 8, [.int .u64 0]⟩),
  (21, ⟨.int .i32, 1, 4, [.int .i32 0]⟩),
  (22, ⟨.slice 57, 1, 24, [.nil]⟩),
  (25, ⟨.slice 40, 1, 24, [.nil]⟩),
  (34, ⟨.slice 5, 1, 24, [.nil]⟩),
  (39, ⟨.struct [(0, 3), (1, 3), (2, 3), (3, 3)], 4, 32, [.int .i64 0, .int .i64 0, .int .i64 0, .int .i64 0]⟩),
  (40, ⟨.struct [(0, 3), (1, 3), (2, 3), (3, 3)], 4, 32, [.int .i64 0, .int .i64 0, .int .i64 0, .int .i64 0]⟩),
  (42, ⟨.slice 3, 1, 24, [.nil]⟩),
  (57, ⟨.struct [(0, 3), (1, 3), (2, 3), (3, 3)], 4, 32, [.int .i64 0, .int .i64 0, .int .i64 0, .int .i64 0]⟩),
  (66, ⟨.array 8 3, 8, 64, [.int .i64 0, .int .i64 0, .int .i64 0, .int .i64 0, .int .i64 0, .int .i64 0, .int .i64 0, .int .i64 0]⟩),
  (73, ⟨.struct [(0, 34), (1, 3)], 2, 32, [.nil, .int .i64 0]⟩),
  (74, ⟨.struct [(0, 34), (1, 3)], 2, 32, [.nil, .int .i64 0]⟩),
  (82, ⟨.int .u32, 1, 4, [.int .u32 0]⟩)]
theorem teok : teOk Try.prog te = true := by kernel_rfl
end Go.Proofs.Ytlgfdjmnedfjfaa
