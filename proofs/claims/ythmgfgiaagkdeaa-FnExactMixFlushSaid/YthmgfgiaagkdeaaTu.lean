/- Lists and numbers. -/
import Derived.Test.YthmgfgiaagkdeaaEngB
namespace Go.Proofs.Ythmgfgiaagkdeaa
open Go.RowKit
theorem set_fill {α : Type} (l : List α) (z : α) {k : Nat} (h : k < l.length) : (l.take k ++ List.replicate (l.length - k) z).set k l[k] = l.take (k + 1) ++ List.replicate (l.length - (k + 1)) z := by
  rw [List.set_append_right _ _ (by simp; omega), List.take_succ_eq_append_getElem h, List.append_assoc]
  congr 1
  rw [List.length_take, Nat.min_eq_left (Nat.le_of_lt h), Nat.sub_self, show l.length - k = (l.length - (k + 1)) + 1 by omega, List.replicate_succ]
  rfl
theorem upTo {p : Nat → Bool} {k : Nat} (hno : ∀ j, j < k → p j = true) (h : p k = true) : ∀ j, j < k + 1 → p j = true := by
  intro j hj
  rcases Nat.lt_or_eq_of_le (Nat.le_of_lt_succ hj) with h' | h'
  · exact hno j h'
  · rw [h']; exact h
/-- The first j elements of the one, the rest of the other. -/
def upto {α : Type} (a b : List α) (j : Nat) : List α := a.take j ++ b.drop j
theorem upto_length {α : Type} {a b : List α} (h : a.length = b.length) (j : Nat) : (upto a b j).length = b.length := by simp [upto]; omega
theorem upto_get {α : Type} {a b : List α} (h : a.length = b.length) {j : Nat} (hj : j < b.length) (h' : j < (upto a b j).length) : (upto a b j)[j] = b[j] := by
  have h1 : (upto a b j)[j]? = some b[j] := by
    unfold upto
    rw [List.getElem?_append_right (by simp; omega), List.length_take, Nat.min_eq_left (by omega), Nat.sub_self, List.getElem?_drop]
    simp [hj]
  rw [List.getElem?_eq_getElem h'] at h1
  exact Option.some.inj h1
theorem upto_set {α : Type} {a b : List α} (h : a.length = b.length) {j : Nat} (hj : j < b.length) {x : α} (hx : a[j]'(by omega) = x) : (upto a b j).set j x = upto a b (j + 1) := by
  unfold upto
  rw [List.set_append_right _ _ (by simp; omega), List.length_take, Nat.min_eq_left (by omega), Nat.sub_self, List.drop_eq_getElem_cons hj, List.set_cons_zero, List.take_succ_eq_append_getElem (by omega), hx, List.append_assoc]
  rfl
theorem upTo' {α : Type} {p : α → Bool} {b : Bool} {l : List α} {k : Nat} (hno : ∀ j, (h : j < k) → (h' : j < l.length) → p l[j] = b) (hk : k < l.length) (h : p l[k] = b) : ∀ j, (h : j < k + 1) → (h' : j < l.length) → p l[j] = b := by
  intro j hj h'
  rcases Nat.lt_or_eq_of_le (Nat.le_of_lt_succ hj) with h1 | h1
  · exact hno j h1 h'
  · subst h1; exact h
theorem filter_step {α : Type} (p : α → Bool) {l : List α} {k : Nat} (hk : k < l.length) : (l.take (k + 1)).filter p = (l.take k).filter p ++ if p l[k] then [l[k]] else [] := by
  rw [List.take_succ_eq_append_getElem hk, List.filter_append]
  cases h : p l[k] <;> simp [h]
theorem wrap_small {n : Int} (h1 : -1000 ≤ n) (h2 : n ≤ 1000) : IntKind.i64.wrap n = n := by
  exact IntWalk.i64_in n (by omega)
end Go.Proofs.Ythmgfgiaagkdeaa
