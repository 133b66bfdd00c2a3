import Derived.Test.YthmgfgiaagkdeaaG14
import Derived.Test.YthmgfgiaagkdeaaT7
import Derived.Test.YthmgfgiaagkdeaaEngB
namespace Go.Proofs.Ythmgfgiaagkdeaa
open Go.RowKit
attribute [local irreducible] AWP AL XT AC ES PS AH AH2 LpQ
theorem rows_pow_at {L : List Pl} {m : Nat} (hm : m < L.length) : rows pow L = rows pow (L.take m) ++ (pow L[m] ++ rows pow (L.drop (m + 1))) := by
  conv => lhs; rw [← List.take_append_drop m L, List.drop_eq_getElem_cons hm, rows_append]
  rfl
end Go.Proofs.Ythmgfgiaagkdeaa
