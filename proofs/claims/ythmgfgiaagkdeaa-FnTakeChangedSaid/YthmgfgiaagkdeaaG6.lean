import Derived.Test.YthmgfgiaagkdeaaG4
namespace Go.Proofs.Ythmgfgiaagkdeaa
open Go.RowKit
attribute [local irreducible] AWP AL XT AC ES PS AH AH2 LpQ
theorem pth_iff {l : List Int} : pth l = true ↔ (∀ n ∈ l, elt n = true) ∧ 1 ≤ l.length ∧ l.length ≤ 3 := by
  simp only [pth, Bool.and_eq_true, List.all_eq_true, inB_iff]
  constructor
  · rintro ⟨h1, h2, h3⟩; exact ⟨h1, by omega, by omega⟩
  · rintro ⟨h1, h2, h3⟩; exact ⟨h1, by omega, by omega⟩
end Go.Proofs.Ythmgfgiaagkdeaa
