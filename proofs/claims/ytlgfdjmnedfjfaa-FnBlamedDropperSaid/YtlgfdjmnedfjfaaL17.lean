import Derived.Test.YtlgfdjmnedfjfaaL16
namespace Go.Proofs.Ytlgfdjmnedfjfaa
open Go.RowKit
attribute [local irreducible] AWP AL XT AC ES PS AH AH2 LpQ
theorem lv_of {l : List LC} (h1 : ∀ x ∈ l, lcOk x = true) (h2 : Srt l) : lv l = true := by
  refine lv_true fun j hj => lvAt_of hj (h1 _ (List.getElem_mem hj)) fun h0 => ?_
  exact List.pairwise_iff_getElem.1 h2 (j - 1) j (by omega) hj (by omega)
theorem lv_ok {l : List LC} (h : lv l = true) : ∀ x ∈ l, lcOk x = true := by
  intro x hx
  obtain ⟨k, hk, rfl⟩ := List.getElem_of_mem hx
  exact lvAt_ok hk (lv_at h hk)
theorem lv_sub {l m : List LC} (h : lv l = true) (hs : m.Sublist l) : lv m = true :=
  lv_of (fun x hx => lv_ok h x (hs.subset hx)) (List.Pairwise.sublist hs (srt_lv h))
theorem drop_one_sub {α : Type} (l : List α) (k : Nat) : (l.take k ++ l.drop (k + 1)).Sublist l := by
  have : l = l.take k ++ l.drop k := (List.take_append_drop k l).symm
  conv => rhs; rw [this]
  refine List.Sublist.append (List.Sublist.refl _) ?_
  rw [← List.tail_drop]
  exact List.tail_sublist _
end Go.Proofs.Ytlgfdjmnedfjfaa
