import Derived.Test.YthmgfgiaagkdeaaG41
namespace Go.Proofs.Ythmgfgiaagkdeaa
open Go.RowKit
theorem sort_uniq {l r : List Pl} (hp : l.Perm r) (hd : ∀ a ∈ l, ∀ b ∈ l, a.pk.el = b.pk.el → a = b) : sortS l = sortS r := by
  refine List.Perm.eq_of_pairwise (le := fun a b => lsP b a = false) ?_ (sortS_srt l) (sortS_srt r) ((sortS_perm l).trans (hp.trans (sortS_perm r).symm))
  intro a b ha hb h1 h2
  have ha' := (sortS_perm l).mem_iff.1 ha
  have hb' := hp.mem_iff.2 ((sortS_perm r).mem_iff.1 hb)
  refine hd a ha' b hb' ?_
  rw [lsP_no] at h1 h2
  unfold LsP at h1 h2
  omega
theorem dist_eq {l : List Pl} (h : ∀ i, (hi : i < l.length) → ∀ k, (hk : k < i) → (l[k]'(by omega)).pk.el ≠ l[i].pk.el) : ∀ a ∈ l, ∀ b ∈ l, a.pk.el = b.pk.el → a = b := by
  intro a ha b hb e
  obtain ⟨i, hi, rfl⟩ := List.getElem_of_mem ha
  obtain ⟨k, hk, rfl⟩ := List.getElem_of_mem hb
  rcases Nat.lt_trichotomy i k with h1 | h1 | h1
  · exact absurd e (h k hk i h1)
  · subst h1; rfl
  · exact absurd e.symm (h i hi k h1)
theorem flL_rev {m : Mx} (all : Bool) (hm : mxOk m = true) (h : ∀ i, (hi : i < m.pool.length) → ∀ k, (hk : k < i) → (m.pool[k]'(by omega)).pk.el ≠ m.pool[i].pk.el) : flL ⟨m.sec, m.seen, m.pool.reverse⟩ all = flL m all := by
  have hr : mxOk ⟨m.sec, m.seen, m.pool.reverse⟩ = true := by
    obtain ⟨he, a1, a2, a3, a4⟩ := mxOk_iff.1 hm
    exact mxOk_iff.2 ⟨he, a1, by simpa using a2, a3, by simpa using a4⟩
  have hB : flB ⟨m.sec, m.seen, m.pool.reverse⟩ all = flB m all := by simp only [flB, hm, hr, List.length_reverse]
  have hs : sortS m.pool.reverse = sortS m.pool := (sort_uniq (List.reverse_perm _).symm (dist_eq h)).symm
  simp only [flL, hB, hs]
end Go.Proofs.Ythmgfgiaagkdeaa
