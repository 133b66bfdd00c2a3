/- The table of types of this seat's program, for the engine. Printed by a program. -/
import Derived.Test.YtjijkdhjfanpaaaEngB
import Derived.Test.YtjijkdhjfanpaaaProg
namespace Go.Proofs.Ytjijkdhjfanpaaa
def te : TE := [
  (2, ⟨.int .i64, 1, 8, [.int .i64 0]⟩),
  (3, ⟨.int .i64, 1, 8, [.int .i64 0]⟩),
  (4, ⟨.bool, 1, 1, [.bool false]⟩),
  (5, ⟨.int .u8, 1, 1, [.int .u8 0]⟩),
  (12, ⟨.int .u64, 1, 8, [.int .u64 0]⟩),
  (21, ⟨.int .i32, 1, 4, [.int .i32 0]⟩),
  (22, ⟨.slice 32, 1, 24, [.nil]⟩),
  (23, ⟨.struct [(0, 3), (1, 22)], 2, 32, [.int .i64 0, .nil]⟩),
  (24, ⟨.struct [(0, 3), (1, 22)], 2, 32, [.int .i64 0, .nil]⟩),
  (30, ⟨.slice 5, 1, 24, [.nil]⟩),
  (32, ⟨.slice 3, 1, 24, [.nil]⟩),
  (36, ⟨.struct [(0, 3), (1, 22)], 2, 32, [.int .i64 0, .nil]⟩),
  (66, ⟨.struct [(0, 30), (1, 3)], 2, 32, [.nil, .int .i64 0]⟩),
  (67, ⟨.struct [(0, 30), (1, 3)], 2, 32, [.nil, .int .i64 0]⟩),
  (69, ⟨.int .u64, 1, 8, [.int .u64 0]⟩),
  (81, ⟨.int .u32, 1, 4, [.int .u32 0]⟩)]
theorem teok : teOk Try.prog te = true := by kernel_rfl
end Go.Proofs.Ytjijkdhjfanpaaa
