import Derived.Test.YtobendpgedlaeaaD13
namespace Go.Proofs.Ytobendpgedlaeaa
theorem hits_le1 {P S : List Int} {D : Int} {k : Nat} (h : ∀ i, i ≠ k → hitB P S D i = false) : ∀ n, hits P S D n ≤ if k < n then 1 else 0
  | 0 => by simp [hits]
  | n + 1 => by
    have ih := hits_le1 h n
    simp only [hits]
    by_cases hn : n = k
    · subst hn
      simp only [Nat.lt_irrefl, if_false] at ih
      rw [if_pos (Nat.lt_succ_self n)]
      cases hitB P S D n <;> simp <;> omega
    · rw [h n hn]
      simp only [Bool.false_eq_true, if_false, Nat.add_zero]
      split at ih
      · rw [if_pos (by omega)]; exact ih
      · omega
theorem getD_set (S : List Int) (k : Nat) (v : Int) (i : Nat) (hk : k < S.length) : (S.set k v).getD i 0 = if i = k then v else S.getD i 0 := by
  rw [List.getD_eq_getElem?_getD, List.getD_eq_getElem?_getD, List.getElem?_set]
  by_cases h : k = i
  · subst h; simp [hk]
  · rw [if_neg h, if_neg (fun e => h e.symm)]
theorem hit_zero {P S : List Int} {D : Int} {i : Nat} (h : S.getD i 0 = 0) : hitB P S D i = false := by unfold hitB; rw [h]; rfl
theorem hits_single {P : List Int} {D : Int} {k : Nat} {v : Int} (hk : k < 3) : hits P ((List.replicate 3 0).set k v) D 3 ≤ 1 := by
  have := hits_le1 (P := P) (S := (List.replicate 3 (0 : Int)).set k v) (D := D) (k := k) (fun i hi => hit_zero (by
    rw [getD_set _ _ _ _ (by simpa using hk), if_neg hi]
    rw [List.getD_eq_getElem?_getD, List.getElem?_replicate]; split <;> rfl)) 3
  rw [if_pos hk] at this; exact this
theorem hits3 (P S : List Int) (D : Int) : hits P S D 3 = (if hitB P S D 0 then 1 else 0) + (if hitB P S D 1 then 1 else 0) + (if hitB P S D 2 then 1 else 0) := by simp [hits]
theorem hits_drop {P S : List Int} {D : Int} {k : Nat} (hk : k < 3) (hS : S.length = 3) (h : ∀ i, i < 3 → hitB P S D i = true) : 2 ≤ hits P (S.set k 0) D 3 := by
  have hh : ∀ i, i < 3 → i ≠ k → hitB P (S.set k 0) D i = true := fun i hi hne => by
    have := h i hi
    unfold hitB at this ⊢
    rw [getD_set _ _ _ _ (by omega), if_neg hne]; exact this
  rw [hits3]
  have : k = 0 ∨ k = 1 ∨ k = 2 := by omega
  rcases this with rfl | rfl | rfl
  · rw [hh 1 (by omega) (by omega), hh 2 (by omega) (by omega)]; simp
  · rw [hh 0 (by omega) (by omega), hh 2 (by omega) (by omega)]; simp
  · rw [hh 0 (by omega) (by omega), hh 1 (by omega) (by omega)]; simp
theorem hits_all {P S : List Int} {D : Int} (h : ∀ i, i < 3 → hitB P S D i = true) : hits P S D 3 = 3 := by
  rw [hits3, h 0 (by omega), h 1 (by omega), h 2 (by omega)]; rfl
theorem chk_iff {P S : List Int} {e : Int} {l : List En} : chk P e l S = true ↔ dval e l = true ∧ P.length = 3 ∧ S.length = 3 ∧ (∀ i, i < 3 → okB P S i = true) ∧ 2 ≤ hits P S (dig e l + 1) 3 := by
  simp [chk, and_assoc]
end Go.Proofs.Ytobendpgedlaeaa
