import Derived.Test.YtobendpgedlaeaaD12
namespace Go.Proofs.Ytobendpgedlaeaa
open Go.RowKit
theorem pathF_len' : ∀ (h : Nat) (s : Int) (l : List En) (t : List Int), pathF h s l = some t → t.length = h
  | 0, s, l, t, e => by simp [pathF] at e; subst e; rfl
  | h + 1, s, l, t, e => by
    rw [pathF] at e
    split at e
    · cases e
    · obtain ⟨u, hu, rfl⟩ := Option.map_eq_some_iff.1 e
      simp [pathF_len' h _ _ u hu]
theorem pathV_len' (e : Int) (l : List En) (s h : Int) : (pathV e l s h).length ≤ 3 := by
  unfold pathV
  split
  · rename_i hok
    simp only [pathOk, Bool.and_eq_true] at hok
    have hh := inB_iff.1 hok.2
    cases hp : pathF h.toNat s l with
    | none => simp
    | some t => have := pathF_len' _ _ _ _ hp; simp; omega
  · simp
structure PathOk (e : Int) (l : List En) (s h : Int) (V : List Int) : Prop where
  v : dval e l = true
  s0 : 0 ≤ s ∧ s ≤ 999999
  h0 : 1 ≤ h ∧ h ≤ 3
  f : pathF h.toNat s l = some V
theorem pathV_some {e : Int} {l : List En} {s h : Int} (hne : pathV e l s h ≠ []) : PathOk e l s h (pathV e l s h) := by
  unfold pathV at hne ⊢
  split at hne
  · rename_i hok
    rw [if_pos hok]
    simp only [pathOk, Bool.and_eq_true] at hok
    refine ⟨hok.1.1, inB_iff.1 hok.1.2, inB_iff.1 hok.2, ?_⟩
    cases hp : pathF h.toNat s l with
    | none => rw [hp] at hne; simp at hne
    | some t => rfl
  · exact absurd rfl hne
theorem pathV_eq {e : Int} {l : List En} {s h : Int} (hv : dval e l = true) (h1 : 0 ≤ s ∧ s ≤ 999999) (h2 : 1 ≤ h ∧ h ≤ 3) : pathV e l s h = (pathF h.toNat s l).getD [] := by
  unfold pathV
  rw [if_pos]
  simp only [pathOk, Bool.and_eq_true]
  exact ⟨⟨hv, inB_iff.2 h1⟩, inB_iff.2 h2⟩
theorem name_uniq {l : List En} (hp : l.Pairwise (fun a b => a.n < b.n)) {i j : Nat} (hi : i < l.length) (hj : j < l.length) (e : l[i].n = l[j].n) : i = j := by
  rw [List.pairwise_iff_getElem] at hp
  rcases Nat.lt_trichotomy i j with h | h | h
  · have := hp i j hi hj h; omega
  · exact h
  · have := hp j i hj hi h; omega
theorem nodup_take {l : List Int} (hn : l.Nodup) {i : Nat} (hi : i < l.length) : l[i] ∉ (l.drop 0).take (i - 0) := by
  intro h
  rw [List.drop_zero, Nat.sub_zero] at h
  obtain ⟨j, hj, e⟩ := List.getElem_of_mem h
  simp only [List.length_take] at hj
  rw [List.getElem_take] at e
  have := (List.nodup_iff_pairwise_ne.1 hn)
  rw [List.pairwise_iff_getElem] at this
  exact this j i (by omega) hi (by omega) e
theorem same_self (V : List Int) : decide (V = V) = true := decide_eq_true rfl
end Go.Proofs.Ytobendpgedlaeaa
