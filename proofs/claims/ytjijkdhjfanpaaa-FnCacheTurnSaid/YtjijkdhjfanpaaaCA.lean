import Derived.Test.YtjijkdhjfanpaaaC9
namespace Go.Proofs.Ytjijkdhjfanpaaa
/-! ### plain laws of caches -/
theorem keys_iff2 {x : List Int} : keys x = true ↔ x.length ≤ 6 ∧ (∀ n ∈ x, elt n = true) ∧ x.Pairwise (· < ·) := by
  rw [keys_iff]
  constructor
  · rintro ⟨h6, h⟩
    have el : ∀ j, (hj : j < x.length) → elt x[j] = true := fun j hj => by
      cases hh : elt x[j] with
      | true => rfl
      | false => have := h j hj; rw [keyAt_bad hj hh] at this; cases this
    have adj : ∀ j, (hj : j + 1 < x.length) → x[j] < x[j + 1] := fun j hj => by
      have := h (j + 1) hj
      rw [keyAt_pos hj (by omega)] at this
      simp only [Bool.and_eq_true, decide_eq_true_eq] at this
      exact this.2
    refine ⟨h6, fun n hn => ?_, List.pairwise_iff_getElem.2 fun i j hi hj hij => ?_⟩
    · obtain ⟨k, hk, rfl⟩ := List.getElem_of_mem hn
      exact el k hk
    · obtain ⟨d, rfl⟩ : ∃ d, j = i + d + 1 := ⟨j - i - 1, by omega⟩
      clear hij
      induction d with
      | zero => exact adj i hj
      | succ d ih =>
        have h1 := ih (by omega)
        have h2 := adj (i + d + 1) (by omega)
        have e : x[i + (d + 1) + 1] = x[i + d + 1 + 1] := rfl
        rw [e]; omega
  · rintro ⟨h6, h1, h2⟩
    refine ⟨h6, fun j hj => keyAt_of hj (h1 _ (List.getElem_mem hj)) fun h0 => ?_⟩
    exact List.pairwise_iff_getElem.1 h2 (j - 1) j (by omega) hj (by omega)
def insR (key : Int) : List Int → List Int
  | [] => [key]
  | y :: r => if y < key then y :: insR key r else key :: y :: r
theorem ins_eq (key : Int) : ∀ x : List Int, ins x key = insR key x
  | [] => rfl
  | y :: r => by
    have ih := ins_eq key r
    unfold ins at ih ⊢
    simp only [insAt, insR]
    split
    · simp [ih]
    · simp
theorem insR_comm {a b : Int} (h : a ≠ b) : ∀ x : List Int, insR b (insR a x) = insR a (insR b x)
  | [] => by simp only [insR]; split <;> split <;> first | rfl | omega
  | y :: r => by
    have ih := insR_comm h r
    simp only [insR]
    by_cases h1 : y < a <;> by_cases h2 : y < b <;> by_cases h3 : a < b <;> by_cases h4 : b < a <;> simp [insR, *] <;> omega
theorem mem_insR {key n : Int} : ∀ {x : List Int}, n ∈ insR key x ↔ n = key ∨ n ∈ x
  | [] => by simp [insR]
  | y :: r => by
    simp only [insR]
    split
    · simp only [List.mem_cons, mem_insR (x := r)]
      constructor
      · rintro (h | h | h)
        · exact .inr (.inl h)
        · exact .inl h
        · exact .inr (.inr h)
      · rintro (h | h | h)
        · exact .inr (.inl h)
        · exact .inl h
        · exact .inr (.inr h)
    · simp
theorem insR_sorted {key : Int} : ∀ {x : List Int}, x.Pairwise (· < ·) → key ∉ x → (insR key x).Pairwise (· < ·)
  | [], _, _ => by simp [insR]
  | y :: r, h, hk => by
    rw [List.pairwise_cons] at h
    simp only [List.mem_cons, not_or] at hk
    simp only [insR]
    split
    · rename_i hy
      refine List.pairwise_cons.2 ⟨fun n hn => ?_, insR_sorted h.2 hk.2⟩
      rcases mem_insR.1 hn with rfl | hn
      · exact hy
      · exact h.1 n hn
    · rename_i hy
      refine List.pairwise_cons.2 ⟨fun n hn => ?_, List.pairwise_cons.2 h⟩
      rcases List.mem_cons.1 hn with rfl | hn
      · omega
      · have := h.1 n hn; omega
theorem keys_ins {x : List Int} {key : Int} (h : keys x = true) (hk : elt key = true) (hn : key ∉ x) (h6 : x.length < 6) : keys (ins x key) = true := by
  obtain ⟨_, h1, h2⟩ := keys_iff2.1 h
  refine keys_iff2.2 ⟨by rw [ins_len]; omega, fun n hn' => ?_, by rw [ins_eq]; exact insR_sorted h2 hn⟩
  rw [ins_eq] at hn'
  rcases mem_insR.1 hn' with rfl | h3
  · exact hk
  · exact h1 n h3
theorem cval_sml {e : Int} {l : List (List Int)} (h : cval e l = true) {n : Nat} (hn : 6 ≤ n) : Sml n l := by
  obtain ⟨_, h3, h4⟩ := cval_iff.1 h
  exact ⟨by omega, fun x hx => by have := (keys_iff.1 (h4 x hx)).1; omega⟩
theorem cval_set {e : Int} {l : List (List Int)} (h : cval e l = true) {k : Nat} {x : List Int} (hx : keys x = true) : cval e (l.set k x) = true := by
  obtain ⟨h1, h3, h4⟩ := cval_iff.1 h
  refine cval_iff.2 ⟨h1, by simpa using h3, fun y hy => ?_⟩
  rcases List.mem_or_eq_of_mem_set hy with h5 | h5
  · exact h4 y h5
  · subst h5; exact hx
/-- What an addition comes to. -/
theorem add_cases {e : Int} {l : List (List Int)} {ep key : Int} (hv : cval e l = true) (hk : elt key = true) :
    (addN e l ep key ≠ 0 ∧ addL e l ep key = l ∧ addE e l key = e) ∨
    ∃ (k : Nat) (hkl : k < l.length), slotV e ep = k ∧ slotN e ep = k ∧ key ∉ l[k] ∧ l[k].length < 6 ∧ addN e l ep key = 0 ∧ addL e l ep key = l.set k (ins l[k] key) ∧ addE e l key = e := by
  have hok : addOk e l key = true := by simp [addOk, hv, hk]
  have a2 : addE e l key = e := by simp [addE, hok]
  obtain ⟨he, h3, hks⟩ := cval_iff.1 hv
  by_cases h0 : addN e l ep key = 0
  · right
    rcases slotV_bd e ep with h1 | ⟨k, h1, hk3, h2, h4, h5⟩
    · rw [addN, if_pos hok, if_pos (by omega)] at h0; omega
    · have hkl : k < l.length := by omega
      have hsn : slotN e ep = k := by unfold slotN; omega
      have hg : l.getD (slotN e ep) [] = l[k] := by rw [hsn]; exact getD_atL hkl
      have h0' := h0
      rw [addN, if_pos hok, if_neg (by omega), hg] at h0'
      refine ⟨k, hkl, h1, hsn, ?_, ?_, h0, ?_, a2⟩
      · intro hm; rw [if_pos hm] at h0'; omega
      · split at h0'
        · omega
        · split at h0'
          · omega
          · omega
      · rw [addL, if_pos hok, if_pos h0, hg, hsn]
  · exact .inl ⟨h0, by rw [addL, if_pos hok, if_neg h0], a2⟩
theorem add_valid {e : Int} {l : List (List Int)} {ep key : Int} (hv : cval e l = true) (hk : elt key = true) : cval (addE e l key) (addL e l ep key) = true := by
  rcases add_cases (ep := ep) hv hk with ⟨_, h1, h2⟩ | ⟨k, hkl, _, _, h3, h4, _, h5, h6⟩
  · rw [h1, h2]; exact hv
  · rw [h5, h6]
    exact cval_set hv (keys_ins ((cval_iff.1 hv).2.2 _ (List.getElem_mem hkl)) hk h3 h4)
theorem turn_valid {e : Int} {l : List (List Int)} (hv : cval e l = true) : cval (turnE e l) (turnL e l) = true := by
  unfold turnE turnL
  rw [if_pos hv, if_pos hv]
  split
  · exact hv
  · obtain ⟨he, h3, hks⟩ := cval_iff.1 hv
    refine cval_iff.2 ⟨by omega, by simp; omega, fun x hx => ?_⟩
    rcases List.mem_append.1 hx with h | h
    · exact hks x (List.mem_of_mem_drop h)
    · simp at h; subst h; rfl
theorem keysV_len (e : Int) (l : List (List Int)) (ep : Int) : (keysV e l ep).length ≤ 6 := by
  unfold keysV
  split
  · rename_i hv
    split
    · simp
    · rw [List.getD_eq_getElem?_getD]
      cases h : l[(slotV e ep).toNat]? with
      | none => simp
      | some x =>
        obtain ⟨hk, rfl⟩ := List.getElem?_eq_some_iff.1 h
        exact (keys_iff.1 ((cval_iff.1 hv).2.2 _ (List.getElem_mem hk))).1
  · simp
theorem keysV_keys (e : Int) (l : List (List Int)) (ep : Int) : keys (keysV e l ep) = true := by
  unfold keysV
  split
  · rename_i hv
    split
    · rfl
    · rw [List.getD_eq_getElem?_getD]
      cases h : l[(slotV e ep).toNat]? with
      | none => rfl
      | some x =>
        obtain ⟨hk, rfl⟩ := List.getElem?_eq_some_iff.1 h
        exact (cval_iff.1 hv).2.2 _ (List.getElem_mem hk)
  · rfl
theorem keysV_no {e : Int} (l : List (List Int)) {ep : Int} (h : cval e l = true → slotV e ep < 0) : keysV e l ep = [] := by
  unfold keysV
  split
  · rename_i hv; rw [if_pos (h hv)]
  · rfl
theorem keysV_at {e : Int} {l : List (List Int)} {ep : Int} (hv : cval e l = true) {k : Nat} (hk : slotV e ep = k) (hkl : k < l.length) : keysV e l ep = l[k] := by
  rw [keysV, if_pos hv, if_neg (by omega), hk, Int.toNat_natCast, getD_atL hkl]
theorem keysV_empty {e : Int} {l : List (List Int)} (ep : Int) (h : ∀ x ∈ l, x = []) : keysV e l ep = [] := by
  unfold keysV
  split
  · split
    · rfl
    · rw [List.getD_eq_getElem?_getD]
      cases hh : l[(slotV e ep).toNat]? with
      | none => rfl
      | some x => exact h x (List.mem_of_getElem? hh)
  · rfl
theorem turn_at {e : Int} {l : List (List Int)} (hv : cval e l = true) (hne : e ≠ 99) : turnE e l = e + 1 ∧ turnL e l = l.drop 1 ++ [[]] ∧ turnK e l = true := by
  refine ⟨by rw [turnE, if_pos hv, if_neg hne], by rw [turnL, if_pos hv, if_neg hne], by simp [turnK, hv, hne]⟩
theorem drop_rep {l : List (List Int)} {i : Nat} (hi : i < l.length) : (l.drop i ++ List.replicate i ([] : List Int)).drop 1 ++ [[]] = l.drop (i + 1) ++ List.replicate (i + 1) [] := by
  rw [List.drop_eq_getElem_cons hi, List.cons_append, List.drop_one, List.tail_cons, List.append_assoc, ← List.replicate_succ']
end Go.Proofs.Ytjijkdhjfanpaaa
