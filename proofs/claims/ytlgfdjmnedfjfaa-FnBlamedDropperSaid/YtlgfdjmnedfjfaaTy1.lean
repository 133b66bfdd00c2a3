import Derived.Test.YtlgfdjmnedfjfaaL1
namespace Go.Proofs.Ytlgfdjmnedfjfaa
open Go.RowKit
theorem ty_lc {xs : List CV} (h : TyC te 57 xs) : ∃ x : LC, xs = lcc x ∧ ((-9223372036854775808 ≤ x.f ∧ x.f ≤ 9223372036854775807) ∧ (-9223372036854775808 ≤ x.t ∧ x.t ≤ 9223372036854775807)) := by
  obtain ⟨a, r, rfl, h0, h⟩ := (h.struct_inv rfl).cons_inv
  obtain ⟨b, r, rfl, h1, h⟩ := h.cons_inv
  obtain ⟨c, r, rfl, h2, h⟩ := h.cons_inv
  obtain ⟨d, r, rfl, h3, h⟩ := h.cons_inv
  obtain rfl := h.nil_inv
  obtain ⟨a, rfl, w0⟩ := h0.int_inv rfl
  obtain ⟨b, rfl, w1⟩ := h1.int_inv rfl
  obtain ⟨c, rfl, _⟩ := h2.int_inv rfl
  obtain ⟨d, rfl, _⟩ := h3.int_inv rfl
  exact ⟨⟨a, b, c, d⟩, rfl, wf_i64 w0, wf_i64 w1⟩
theorem ty_lcs {y : AV} (h : TyA te 22 y) : ∃ l : List LC, y = .h (.c (.rd 1 l.length (lcs l))) ∧ l.length ≤ maxLen := by
  obtain ⟨n, ys, rfl, h1, h2⟩ := h.slice_inv rfl
  obtain ⟨l, rfl, rfl, _⟩ := tyR_rows lcc (fun _ => True) (fun xs h => by obtain ⟨x, e, _⟩ := ty_lc h; exact ⟨x, e, trivial⟩) _ _ h2
  exact ⟨l, rfl, h1⟩
theorem ty_int {y : AV} (h : TyA te 3 y) : ∃ n : Int, y = .h (.c (.int .i64 n)) ∧ -9223372036854775808 ≤ n ∧ n ≤ 9223372036854775807 := by
  obtain ⟨n, rfl, hw⟩ := h.int_inv rfl
  exact ⟨n, rfl, wf_i64 hw⟩
theorem ty_bool {y : AV} (h : TyA te 4 y) : ∃ b : Bool, y = .h (.c (.bool b)) := h.bool_inv rfl
theorem ty_ints {y : AV} (h : TyA te 42 y) : ∃ l : List Int, y = .h (.c (.rd 1 l.length (ints l))) ∧ l.length ≤ maxLen ∧ ∀ n ∈ l, -9223372036854775808 ≤ n ∧ n ≤ 9223372036854775807 := by
  obtain ⟨n, ys, rfl, h1, h2⟩ := h.slice_inv rfl
  obtain ⟨l, rfl, rfl, hl⟩ := tyR_rows int1 (fun n => -9223372036854775808 ≤ n ∧ n ≤ 9223372036854775807) (fun xs h => by obtain ⟨x, e, hw⟩ := h.int_inv rfl; exact ⟨x, e, wf_i64 hw⟩) _ _ h2
  exact ⟨l, rfl, h1, hl⟩
def byte1 (n : Int) : List CV := [CV.int .u8 n]
def bytes (l : List Int) : List CV := rows byte1 l
theorem ty_bytes {y : AV} (h : TyA te 34 y) : ∃ l : List Int, y = .h (.c (.rd 1 l.length (bytes l))) ∧ l.length ≤ maxLen ∧ ∀ n ∈ l, 0 ≤ n ∧ n ≤ 255 := by
  obtain ⟨n, ys, rfl, h1, h2⟩ := h.slice_inv rfl
  obtain ⟨l, rfl, rfl, hl⟩ := tyR_rows byte1 (fun n => 0 ≤ n ∧ n ≤ 255) (fun xs h => by obtain ⟨x, e, hw⟩ := h.int_inv rfl; exact ⟨x, e, wf_u8 hw⟩) _ _ h2
  exact ⟨l, rfl, h1, hl⟩
theorem bytes_plain (l : List Int) : Plain (bytes l) := plain_rows (fun _ _ => rfl) l
theorem bytes_tgs {rt : List Nat} (l : List Int) : CV.Tgs rt (bytes l) := rows_tgs (fun a => by unfold byte1; repeat' (first | exact trivial | refine And.intro ?_ ?_)) l
end Go.Proofs.Ytlgfdjmnedfjfaa
