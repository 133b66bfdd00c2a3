import Derived.Test.YthmgfgiaagkdeaaG29
namespace Go.Proofs.Ythmgfgiaagkdeaa
open Go.RowKit
theorem plOk_len {x : Pl} (h : plOk x = true) : x.pk.hd.length = 9 ∧ x.pk.bd.length = 6 := by
  simp only [plOk, Bool.and_eq_true] at h
  obtain ⟨_, a, _, b, _⟩ := pkOk_iff.1 h.2
  exact ⟨a, b⟩
theorem mxOk_sm {m : Mx} (h : mxOk m = true) : SmM 12 m := by
  obtain ⟨_, h1, h2, _, h3⟩ := mxOk_iff.1 h
  refine ⟨h1, by omega, fun x hx => ?_⟩
  have := plOk_len (List.all_eq_true.1 h3 x hx)
  omega
theorem peelR_len {sec : Int} {p : Pk} (hp : pkOk p = true) : (peelR sec p).pk.hd.length ≤ 9 ∧ (peelR sec p).pk.bd.length ≤ 6 := by
  obtain ⟨_, h9, _, h6, _⟩ := pkOk_iff.1 hp
  unfold peelR
  split
  · simp only [peelV, List.length_drop, plain_len h9, offV_len, h6]; omega
  · simp
theorem takeM_sm (m : Mx) (p : Pk) : SmM 13 (takeM m p) := by
  by_cases h4 : takeN m p = 4
  · rw [takeM, if_pos h4]; exact ⟨by simp, by simp, fun x hx => by cases hx⟩
  have hok : mxOk m = true ∧ pkOk p = true := by
    have : (mxOk m && pkOk p) = true := by
      cases h : (mxOk m && pkOk p) with
      | true => rfl
      | false => exact absurd (by rw [takeN, h]; rfl) h4
    simpa using this
  have hs := mxOk_sm hok.1
  rw [takeM, if_neg h4]
  split
  · refine ⟨by have := hs.1; simp; omega, by have := hs.2.1; simp; omega, fun x hx => ?_⟩
    rcases List.mem_append.1 hx with h | h
    · have := hs.2.2 x h; omega
    · simp only [List.mem_singleton] at h
      subst h
      have := peelR_len (sec := m.sec) hok.2
      omega
  · exact hs.mono (by omega)
theorem flM_sm (m : Mx) (all : Bool) : SmM 12 (flM m all) := by
  unfold flM
  split
  · rename_i h
    have hs := mxOk_sm h
    split
    · exact ⟨hs.1, by simp, fun x hx => by cases hx⟩
    · exact hs
  · exact ⟨by simp, by simp, fun x hx => by cases hx⟩
theorem flL_sm (m : Mx) (all : Bool) : SmM 12 ⟨0, [], flL m all⟩ := by
  unfold flL
  split
  · rename_i h
    have hs := mxOk_sm (m := m) (by simp [flB] at h; exact h.1)
    exact ⟨by simp, by simp only; rw [sortS_len]; exact hs.2.1, fun x hx => hs.2.2 x ((sortS_perm m.pool).mem_iff.1 hx)⟩
  · exact ⟨by simp, by simp, fun x hx => by cases hx⟩
end Go.Proofs.Ythmgfgiaagkdeaa
