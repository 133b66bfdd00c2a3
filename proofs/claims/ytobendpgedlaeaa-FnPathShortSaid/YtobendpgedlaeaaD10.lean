import Derived.Test.YtobendpgedlaeaaD9
namespace Go.Proofs.Ytobendpgedlaeaa
/-! ### where a point lies -/
theorem pkF_cases : ∀ (l : List En) (a p : Int), (∀ x ∈ l, 0 ≤ x.w) → 0 ≤ p → (pkF a p l = -1 ∧ totW l ≤ p) ∨ ∃ k : Nat, k < l.length ∧ pkF a p l = a + k ∧ totW (l.take k) ≤ p ∧ p < totW (l.take (k + 1))
  | [], a, p, _, h0 => .inl ⟨rfl, h0⟩
  | x :: r, a, p, hw, h0 => by
    have hx := hw x List.mem_cons_self
    simp only [pkF]
    split
    · exact .inr ⟨0, by simp, by simp, by simpa [totW] using h0, by simpa [totW]⟩
    · rcases pkF_cases r (a + 1) (p - x.w) (fun y hy => hw y (List.mem_cons_of_mem _ hy)) (by omega) with ⟨h1, h2⟩ | ⟨k, h1, h2, h3, h4⟩
      · exact .inl ⟨h1, by simp only [totW]; omega⟩
      · refine .inr ⟨k + 1, by simp; omega, by rw [h2]; simp; omega, ?_, ?_⟩
        · simp only [List.take_succ_cons, totW]; omega
        · rw [List.take_succ_cons, totW]; omega
theorem totW_nn : ∀ (l : List En), (∀ x ∈ l, 0 ≤ x.w) → 0 ≤ totW l
  | [], _ => by simp [totW]
  | x :: r, h => by
    have h1 := totW_nn r fun y hy => h y (List.mem_cons_of_mem _ hy)
    have h2 := h x List.mem_cons_self
    simp only [totW]; omega
theorem totW_mono {l : List En} (hw : ∀ x ∈ l, 0 ≤ x.w) {i j : Nat} (h : i ≤ j) (hj : j ≤ l.length) : totW (l.take i) ≤ totW (l.take j) := by
  obtain ⟨d, rfl⟩ : ∃ d, j = i + d := ⟨j - i, by omega⟩
  clear h
  induction d with
  | zero => exact Int.le_refl _
  | succ d ih =>
    have h1 := ih (by omega)
    have h2 := hw _ (List.getElem_mem (show i + d < l.length by omega))
    have h3 := totW_step (show i + d < l.length by omega)
    rw [← Nat.add_assoc]; omega
/-- One place alone fits. -/
theorem pk_uniq {l : List En} (hw : ∀ x ∈ l, 0 ≤ x.w) {p : Int} {k j : Nat} (hk : k < l.length) (hj : j < l.length) (h1 : totW (l.take k) ≤ p) (h2 : p < totW (l.take (k + 1))) (h3 : totW (l.take j) ≤ p) (h4 : p < totW (l.take (j + 1))) : k = j := by
  rcases Nat.lt_trichotomy k j with h | h | h
  · have := totW_mono hw (show k + 1 ≤ j from h) (by omega); omega
  · exact h
  · have := totW_mono hw (show j + 1 ≤ k from h) (by omega); omega
theorem pkF_is {l : List En} (hw : ∀ x ∈ l, 0 ≤ x.w) {p : Int} {k : Nat} (h0 : 0 ≤ p) (hk : k < l.length) (h1 : totW (l.take k) ≤ p) (h2 : p < totW (l.take (k + 1))) : pkF 0 p l = k := by
  rcases pkF_cases l 0 p hw h0 with ⟨_, h4⟩ | ⟨j, hj, h3, h4, h5⟩
  · have := totW_mono hw (show k + 1 ≤ l.length from hk) (Nat.le_refl _)
    rw [List.take_length] at this; omega
  · rw [h3, pk_uniq hw hk hj h1 h2 h4 h5]; simp
theorem pkF_no {l : List En} (hw : ∀ x ∈ l, 0 ≤ x.w) {p : Int} (h0 : 0 ≤ p) (h : totW l ≤ p) : pkF 0 p l = -1 := by
  rcases pkF_cases l 0 p hw h0 with ⟨h3, _⟩ | ⟨j, hj, h3, h4, h5⟩
  · exact h3
  · have := totW_mono hw (show j + 1 ≤ l.length from hj) (Nat.le_refl _)
    rw [List.take_length] at this; omega
theorem pk_ge {l : List En} (hw : ∀ x ∈ l, 0 ≤ x.w) {p q : Int} {k : Nat} (h0 : 0 ≤ p) (hpq : p ≤ q) (hp : pkF 0 p l = k) : k < l.length ∧ totW (l.take k) ≤ p ∧ p < totW (l.take (k + 1)) ∧ (pkF 0 q l = -1 ∨ ∃ j : Nat, pkF 0 q l = j ∧ k ≤ j) := by
  rcases pkF_cases l 0 p hw h0 with ⟨h3, h4⟩ | ⟨j, hj, h3, h4, h5⟩
  · omega
  · obtain rfl : j = k := by omega
    refine ⟨hj, h4, h5, ?_⟩
    rcases pkF_cases l 0 q hw (by omega) with ⟨h6, _⟩ | ⟨i, hi, h6, h7, h8⟩
    · exact .inl h6
    · refine .inr ⟨i, by omega, ?_⟩
      rcases Nat.lt_or_ge i j with h | h
      · have := totW_mono hw (show i + 1 ≤ j from h) (by omega); omega
      · exact h
theorem pk_mid {l : List En} (hw : ∀ x ∈ l, 0 ≤ x.w) {p q m : Int} {k : Nat} (h0 : 0 ≤ p) (hp : pkF 0 p l = k) (hq : pkF 0 q l = k) (h1 : p ≤ m) (h2 : m ≤ q) : pkF 0 m l = k := by
  obtain ⟨a1, a2, a3, _⟩ := pk_ge hw h0 (Int.le_refl _) hp
  obtain ⟨b1, b2, b3, _⟩ := pk_ge hw (show 0 ≤ q by omega) (Int.le_refl _) hq
  exact pkF_is hw (by omega) a1 (by omega) (by omega)
/-- How many points below p fall to each. -/
def cnt (l : List En) (p : Int) (i : Nat) : Int := min p (totW (l.take (i + 1))) - min p (totW (l.take i))
def cnts (l : List En) (p : Int) : List Int := (List.range l.length).map (cnt l p)
theorem cnts_len (l : List En) (p : Int) : (cnts l p).length = l.length := by simp [cnts]
theorem cnts_zero {l : List En} (hw : ∀ x ∈ l, 0 ≤ x.w) : cnts l 0 = List.replicate l.length 0 := by
  refine List.ext_getElem (by simp [cnts]) fun i h1 h2 => ?_
  have h3 : i < l.length := by simpa [cnts] using h1
  have a := totW_nn (l.take (i + 1)) fun x hx => hw x (List.mem_of_mem_take hx)
  have b := totW_nn (l.take i) fun x hx => hw x (List.mem_of_mem_take hx)
  simp [cnts, cnt]; omega
theorem cnts_all {l : List En} (hw : ∀ x ∈ l, 0 ≤ x.w) {i : Nat} (hi : i < l.length) (h : i < (cnts l (totW l)).length) : (cnts l (totW l))[i] = l[i].w := by
  have a := totW_mono hw (show i + 1 ≤ l.length from hi) (Nat.le_refl _)
  have b := totW_mono hw (show i ≤ l.length by omega) (Nat.le_refl _)
  rw [List.take_length] at a b
  have c := totW_step hi
  simp [cnts, cnt]; omega
theorem cnts_step {l : List En} (hw : ∀ x ∈ l, 0 ≤ x.w) {p : Int} {k : Nat} (hk : k < l.length) (h1 : totW (l.take k) ≤ p) (h2 : p < totW (l.take (k + 1))) (h : k < (cnts l p).length) : (cnts l p).set k ((cnts l p)[k] + 1) = cnts l (p + 1) := by
  refine List.ext_getElem (by simp [cnts]) fun i h3 h4 => ?_
  have hi : i < l.length := by simpa [cnts] using h4
  rw [List.getElem_set]
  split
  · rename_i e; subst e
    simp [cnts, cnt]; omega
  · rename_i e
    simp only [cnts, List.getElem_map, List.getElem_range, cnt]
    rcases Nat.lt_or_ge i k with h | h
    · have a := totW_mono hw (show i + 1 ≤ k from h) (by omega)
      have b := totW_mono hw (show i ≤ k by omega) (by omega)
      omega
    · have a := totW_mono hw (show k + 1 ≤ i by omega) (by omega)
      have b := totW_mono hw (show k + 1 ≤ i + 1 by omega) (by omega)
      omega
theorem cnts_bd {l : List En} (hw : ∀ x ∈ l, 0 ≤ x.w ∧ x.w ≤ 9) {p : Int} {i : Nat} (h : i < (cnts l p).length) : 0 ≤ (cnts l p)[i] ∧ (cnts l p)[i] ≤ 9 := by
  have hi : i < l.length := by simpa [cnts] using h
  have c := totW_step hi
  have d := hw _ (List.getElem_mem hi)
  simp [cnts, cnt]; omega
/-! ### paths -/
theorem pkN_at {l : List En} {p : Int} (hw : ∀ x ∈ l, 0 ≤ x.w) (h0 : 0 ≤ p) (h1 : p < totW l) : ∃ h : pkN p l < l.length, pkF 0 p l = pkN p l ∧ 0 < (l[pkN p l]'h).w := by
  rcases pkF_cases l 0 p hw h0 with ⟨_, h4⟩ | ⟨k, hk, h3, h4, h5⟩
  · omega
  · have e : pkN p l = k := by unfold pkN; omega
    have := totW_step hk
    refine ⟨by omega, by omega, ?_⟩
    simp only [e]; omega
theorem modW {l : List En} {s : Int} (hw : ∀ x ∈ l, 0 ≤ x.w) (h : totW l ≠ 0) : 0 ≤ s % totW l ∧ s % totW l < totW l := by
  have := totW_nn l hw
  exact ⟨Int.emod_nonneg s h, Int.emod_lt_of_pos s (by omega)⟩
theorem getD_at {l : List En} {k : Nat} (h : k < l.length) : l.getD k en0 = l[k] := by rw [List.getD_eq_getElem?_getD, List.getElem?_eq_getElem h]; rfl
theorem pathF_mem : ∀ (h : Nat) (s : Int) (l : List En) (t : List Int), (∀ x ∈ l, 0 ≤ x.w) → l.Pairwise (fun a b => a.n < b.n) → pathF h s l = some t → t.length = h ∧ (∀ n ∈ t, ∃ x ∈ l, x.n = n ∧ 0 < x.w) ∧ t.Nodup
  | 0, s, l, t, _, _, e => by simp [pathF] at e; subst e; exact ⟨rfl, by simp, List.nodup_nil⟩
  | h + 1, s, l, t, hw, hp, e => by
    rw [pathF] at e
    split at e
    · cases e
    · rename_i hW
      obtain ⟨u, hu, rfl⟩ := Option.map_eq_some_iff.1 e
      obtain ⟨m0, m1⟩ := modW (s := s) hw hW
      obtain ⟨hj, _, hpos⟩ := pkN_at hw m0 m1
      generalize pkN (s % totW l) l = j at hu hj hpos ⊢
      have hs : (l.eraseIdx j).Sublist l := List.eraseIdx_sublist l j
      obtain ⟨h1, h2, h3⟩ := pathF_mem h _ _ u (fun x hx => hw x (hs.subset hx)) (hp.sublist hs) hu
      rw [getD_at hj]
      refine ⟨by simp [h1], ?_, ?_⟩
      · intro n hn
        rcases List.mem_cons.1 hn with rfl | hn
        · exact ⟨l[j], List.getElem_mem hj, rfl, hpos⟩
        · obtain ⟨x, hx, h4⟩ := h2 n hn
          exact ⟨x, hs.subset hx, h4⟩
      · refine List.nodup_cons.2 ⟨fun hm => ?_, h3⟩
        obtain ⟨x, hx, h4, _⟩ := h2 _ hm
        rw [List.eraseIdx_eq_take_drop_succ] at hx
        rw [List.pairwise_iff_getElem] at hp
        rcases List.mem_append.1 hx with hx | hx
        · obtain ⟨i, hi, rfl⟩ := List.getElem_of_mem hx
          simp only [List.length_take] at hi
          have := hp i j (by omega) hj (by omega)
          rw [List.getElem_take] at h4; omega
        · obtain ⟨i, hi, rfl⟩ := List.getElem_of_mem hx
          simp only [List.length_drop] at hi
          have := hp j (j + 1 + i) hj (by omega) (by omega)
          rw [List.getElem_drop] at h4; omega
theorem pathF_short : ∀ (h : Nat) (s : Int) (l : List En) (t : List Int) (k : Nat), pathF h s l = some t → k ≤ h → pathF k s l = some (t.take k)
  | h, s, l, t, 0, _, _ => by simp [pathF]
  | 0, s, l, t, k + 1, _, hk => by omega
  | h + 1, s, l, t, k + 1, e, hk => by
    rw [pathF] at e ⊢
    split at e
    · cases e
    · rename_i hW
      obtain ⟨u, hu, rfl⟩ := Option.map_eq_some_iff.1 e
      rw [if_neg hW, pathF_short h _ _ u k hu (by omega)]
      simp
theorem totW_zero : ∀ (l : List En), (∀ x ∈ l, 0 ≤ x.w) → (totW l = 0 ↔ l.countP (fun x => decide (0 < x.w)) = 0)
  | [], _ => by simp [totW]
  | x :: r, h => by
    have h1 := totW_zero r fun y hy => h y (List.mem_cons_of_mem _ hy)
    have h2 := h x List.mem_cons_self
    have h3 := totW_nn r fun y hy => h y (List.mem_cons_of_mem _ hy)
    by_cases hx : 0 < x.w
    · simp only [totW]
      rw [List.countP_cons_of_pos (by simpa using hx)]
      omega
    · simp only [totW]
      rw [List.countP_cons_of_neg (by simpa using hx), ← h1]; omega
theorem countP_erase {l : List En} {p : En → Bool} {j : Nat} (hj : j < l.length) (h : p l[j] = true) : (l.eraseIdx j).countP p + 1 = l.countP p := by
  have e : l = l.take j ++ l[j] :: l.drop (j + 1) := by rw [← List.drop_eq_getElem_cons hj, List.take_append_drop]
  rw [List.eraseIdx_eq_take_drop_succ, List.countP_append]
  conv => rhs; rw [e]
  rw [List.countP_append, List.countP_cons_of_pos h]; omega
theorem pathF_some : ∀ (h : Nat) (s : Int) (l : List En), (∀ x ∈ l, 0 ≤ x.w) → ((pathF h s l).isSome = true ↔ h ≤ l.countP (fun x => decide (0 < x.w)))
  | 0, s, l, _ => by simp [pathF]
  | h + 1, s, l, hw => by
    rw [pathF]
    split
    · rename_i hW
      rw [(totW_zero l hw).1 hW]; simp
    · rename_i hW
      obtain ⟨m0, m1⟩ := modW (s := s) hw hW
      obtain ⟨hj, _, hpos⟩ := pkN_at hw m0 m1
      generalize pkN (s % totW l) l = j at hj hpos ⊢
      have hs : (l.eraseIdx j).Sublist l := List.eraseIdx_sublist l j
      rw [Option.isSome_map, pathF_some h _ _ (fun x hx => hw x (hs.subset hx))]
      have := countP_erase hj (p := fun x => decide (0 < x.w)) (by simpa using hpos)
      omega
end Go.Proofs.Ytobendpgedlaeaa
