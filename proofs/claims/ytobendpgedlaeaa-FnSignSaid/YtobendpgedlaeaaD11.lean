import Derived.Test.YtobendpgedlaeaaD5
import Derived.Test.YtobendpgedlaeaaD9
namespace Go.Proofs.Ytobendpgedlaeaa
/-! ### products of the group -/
def m9 (a b : Nat) : Nat := a * b % 997
def inv9 (a : Nat) : Nat :=
  let a2 := m9 a a
  let a32 := m9 (m9 (m9 (m9 a2 a2) (m9 a2 a2)) (m9 (m9 a2 a2) (m9 a2 a2))) (m9 (m9 (m9 a2 a2) (m9 a2 a2)) (m9 (m9 a2 a2) (m9 a2 a2)))
  let a64 := m9 a32 a32
  let a128 := m9 a64 a64
  let a256 := m9 a128 a128
  let a512 := m9 a256 a256
  m9 (m9 (m9 (m9 (m9 (m9 a a2) a32) a64) a128) a256) a512
theorem inv_all : (List.range 996).all (fun i => Nat.beq (m9 (i + 1) (inv9 (i + 1))) 1) = true := by decide +kernel
theorem inv_of {a : Int} (h : 1 ≤ a ∧ a ≤ 996) : ∃ t : Int, a * t % 997 = 1 := by
  have := Nat.eq_of_beq_eq_true (List.all_eq_true.1 inv_all (a.toNat - 1) (by simp; omega))
  rw [show a.toNat - 1 + 1 = a.toNat by omega, m9] at this
  refine ⟨(inv9 a.toNat : Nat), ?_⟩
  have h2 : ((a.toNat * inv9 a.toNat % 997 : Nat) : Int) = ((1 : Nat) : Int) := by rw [this]
  rw [Int.natCast_emod, Int.natCast_mul] at h2
  rw [show ((a.toNat : Nat) : Int) = a by omega] at h2
  exact h2
theorem em997 (x y : Int) : (x % 997) * y % 997 = x * y % 997 := by rw [Int.mul_emod, Int.emod_emod, ← Int.mul_emod]
theorem mul_canc {a x y : Int} (h : 1 ≤ a ∧ a ≤ 996) (e : a * x % 997 = a * y % 997) : x % 997 = y % 997 := by
  obtain ⟨t, ht⟩ := inv_of h
  have key : ∀ z : Int, (a * z % 997) * t % 997 = z % 997 := fun z => by
    rw [em997, Int.mul_right_comm, ← em997, ht, Int.one_mul]
  rw [← key x, ← key y, e]
theorem mul_ne0 {a b : Int} (ha : 1 ≤ a ∧ a ≤ 996) (hb : 1 ≤ b ∧ b ≤ 996) : 1 ≤ a * b % 997 ∧ a * b % 997 ≤ 996 := by
  have h1 : a * b % 997 ≠ 0 := fun h => by
    have := mul_canc ha (x := b) (y := 0) (by simpa using h)
    omega
  omega
theorem elt_prd {a b : Int} (ha : elt a = true) (hb : elt b = true) : elt (prd a b) = true := by
  unfold prd; rw [ha, hb]
  exact elt_iff.2 (mul_ne0 (elt_iff.1 ha) (elt_iff.1 hb))
theorem prd_swap {s D : Int} (hs : elt s = true) (hD : elt D = true) : prd (prd s D) 5 = prd (prd s 5) D := by
  have h5 : elt 5 = true := rfl
  rw [prd_of (elt_prd hs hD) h5, prd_of (elt_prd hs h5) hD, prd_of hs hD, prd_of hs h5, em997, em997, Int.mul_right_comm]
theorem prd_canc {a x y : Int} (ha : elt a = true) (hx : elt x = true) (hy : elt y = true) (e : prd a x = prd a y) : x = y := by
  have e1 : prd a x = a * x % 997 := by simp [prd, ha, hx]
  have e2 : prd a y = a * y % 997 := by simp [prd, ha, hy]
  rw [e1, e2] at e
  have := mul_canc (elt_iff.1 ha) e
  have := elt_iff.1 hx
  have := elt_iff.1 hy
  omega
theorem hits_two (P S : List Int) {D D' : Int} (hD : elt D = true) (hD' : elt D' = true) (hne : D ≠ D') : ∀ k, (∀ i, i < k → elt (P.getD i 0) = true) → hits P S D k + hits P S D' k ≤ k
  | 0, _ => by simp [hits]
  | k + 1, h => by
    have ih := hits_two P S hD hD' hne k fun i hi => h i (by omega)
    have hk := h k (by omega)
    simp only [hits]
    cases h1 : hitB P S D k with
    | false => simp; split <;> omega
    | true =>
      cases h2 : hitB P S D' k with
      | false => simp; omega
      | true =>
        simp only [hitB, Bool.and_eq_true, decide_eq_true_eq] at h1 h2
        exact absurd (prd_canc hk hD hD' (h1.2.symm.trans h2.2)) hne
end Go.Proofs.Ytobendpgedlaeaa
