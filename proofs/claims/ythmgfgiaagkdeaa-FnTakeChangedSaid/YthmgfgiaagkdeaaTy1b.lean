import Derived.Test.YthmgfgiaagkdeaaT1
namespace Go.Proofs.Ythmgfgiaagkdeaa
open Go.RowKit
def byte1 (n : Int) : List CV := [CV.int .u8 n]
def bytes (l : List Int) : List CV := rows byte1 l
theorem ty_bytes {y : AV} (h : TyA te 22 y) : ∃ l : List Int, y = .h (.c (.rd 1 l.length (bytes l))) ∧ l.length ≤ maxLen ∧ ∀ n ∈ l, 0 ≤ n ∧ n ≤ 255 := by
  obtain ⟨n, ys, rfl, h1, h2⟩ := h.slice_inv rfl
  obtain ⟨l, rfl, rfl, hl⟩ := tyR_rows byte1 (fun n => 0 ≤ n ∧ n ≤ 255) (fun xs h => by obtain ⟨x, e, hw⟩ := h.int_inv rfl; exact ⟨x, e, wf_u8 hw⟩) _ _ h2
  exact ⟨l, rfl, h1, hl⟩
theorem bytes_tgs {rt : List Nat} (l : List Int) : CV.Tgs rt (bytes l) := rows_tgs (fun a => by unfold byte1; repeat' (first | exact trivial | refine And.intro ?_ ?_)) l
end Go.Proofs.Ythmgfgiaagkdeaa
