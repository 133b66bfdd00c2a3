import Derived.Test.YthmgfgiaagkdeaaG29
namespace Go.Proofs.Ythmgfgiaagkdeaa
open Go.RowKit
theorem plOk_len {x : Pl} (h : plOk x = true) : x.pk.hd.length = 9 ∧ x.pk.bd.length = 6 := by
  simp only [plOk, Bool.and_eq_true] at h
  obtain ⟨_, a, _, b, _⟩ := pkOk_iff.1 h.2
  exact ⟨a, b⟩
theorem mxOk_sm {m : Mx} (h : mxOk m = true) : SmM 12 m := by
  obtain ⟨_, h1, h2, _, h3⟩ := mxOk_iff.1 h
  refine ⟨h1, by omega, fun x hx => ?_⟩
  have := plOk_len (List.all_eq_true.1 h3 x hx)
  omega
theorem peelR_len {sec : Int} {p : Pk} (hp : pkOk p = true) : (peelR sec p).pk.hd.length ≤ 9 ∧ (peelR sec p).pk.bd.length ≤ 6 := by
  obtain ⟨_, h9, _, h6, _⟩ := pkOk_iff.1 hp
  unfold peelR
  split
  · simp only [peelV, List.length_drop, plain_len h9, offV_len, h6]; omega
  · simp
theorem flM_sm (m : Mx) (all : Bool) : SmM 12 (flM m all) := by
  unfold flM
  split
  · rename_i h
    have hs := mxOk_sm h
    split
    · exact ⟨hs.1, by simp, fun x hx => by cases hx⟩
    · exact hs
  · exact ⟨by simp, by simp, fun x hx => by cases hx⟩
theorem flL_sm (m : Mx) (all : Bool) : SmM 12 ⟨0, [], flL m all⟩ := by
  unfold flL
  split
  · rename_i h
    have hs := mxOk_sm (m := m) (by simp [flB] at h; exact h.1)
    exact ⟨by simp, by simp only; rw [sortS_len]; exact hs.2.1, fun x hx => hs.2.2 x ((sortS_perm m.pool).mem_iff.1 hx)⟩
  · exact ⟨by simp, by simp, fun x hx => by cases hx⟩
end Go.Proofs.Ythmgfgiaagkdeaa
