import Derived.Test.YthmgfgiaagkdeaaG36
namespace Go.Proofs.Ythmgfgiaagkdeaa
open Go.RowKit
attribute [local irreducible] AWP AL XT AC ES PS AH AH2 LpQ
structure DrS (p : Nat) (a : Pk × Nat) : Prop where
  hd : a.1.hd.length ≤ 10
  bd : a.1.bd.length ≤ 6
  pos : a.2 ≤ p + 10
end Go.Proofs.Ythmgfgiaagkdeaa
