import Derived.Test.YthmgfgiaagkdeaaEt
import Derived.Test.YthmgfgiaagkdeaaEngB
namespace Go.Proofs.Ythmgfgiaagkdeaa
open Go.RowKit
attribute [local irreducible] AWP AL XT AC ES PS
def int1 (n : Int) : List CV := [CV.int .i64 n]
def ints (l : List Int) : List CV := rows int1 l
theorem ints_plain (l : List Int) : Plain (ints l) := plain_rows (fun _ _ => rfl) l
theorem ints_tgs {rt : List Nat} (l : List Int) : CV.Tgs rt (ints l) := rows_tgs (fun a => by unfold int1; repeat' (first | exact trivial | refine And.intro ?_ ?_)) l
theorem ints_drop {l : List Int} {k : Nat} (h : k < l.length) : (ints l).drop (k * 1) = CV.int .i64 l[k] :: ints (l.drop (k + 1)) := by
  exact rows_at (f := int1) (n := 1) (fun _ => rfl) h

end Go.Proofs.Ythmgfgiaagkdeaa
