import Derived.Test.YthmgfgiaagkdeaaG40
namespace Go.Proofs.Ythmgfgiaagkdeaa
open Go.RowKit
attribute [local irreducible] AWP AL XT AC ES PS AH AH2 LpQ
section
variable {E : Env} {fr : List (Nat × AV)} {hp : List (Nat × Ob)} {nx : Nat} {Q : Exit → AS → Prop} {c : Code}
/-- A row, with whatever is owned in it, is only read from here on. -/
theorem awp_frzG (id T : Nat) (hT : Nat.ble 100 T = true) {ty e : Nat} {xs ys : List CV} (hl : look id hp = some (.arr ty e xs)) (hb : CV.brws T xs = ys) (hb2 : CV.brws T ys = ys) (kk : AWP E c ⟨fzF id T e ys fr, fzO id T e ys (del id hp), nx⟩ Q) : AWP E c ⟨fr, hp, nx⟩ Q := by
  refine awp_freeze id T hT hl ?_
  rw [frzF_gz hb, frzO_gz hb, fzF_eq hb2, fzO_eq hb2]
  exact kk
end
end Go.Proofs.Ythmgfgiaagkdeaa
