import Derived.Test.YtobendpgedlaeaaD8
namespace Go.Proofs.Ytobendpgedlaeaa
open Go.RowKit
attribute [local irreducible] AWP AL XT AC ES PS AH AH2 LpQ
theorem evs_iff {l : List En} : evs l = true ↔ (∀ x ∈ l, evOk x = true) ∧ l.Pairwise (fun a b => a.n < b.n) := by
  constructor
  · intro h
    have adj : ∀ j, (hj : j + 1 < l.length) → l[j].n < l[j + 1].n := fun j hj => by
      have := evs_at h hj
      rw [evAt_pos hj (by omega)] at this
      simp only [Bool.and_eq_true, decide_eq_true_eq] at this
      exact this.2
    refine ⟨fun x hx => ?_, List.pairwise_iff_getElem.2 fun i j hi hj hij => ?_⟩
    · obtain ⟨k, hk, rfl⟩ := List.getElem_of_mem hx
      exact evAt_ok hk (evs_at h hk)
    · obtain ⟨d, rfl⟩ : ∃ d, j = i + d + 1 := ⟨j - i - 1, by omega⟩
      clear hij
      induction d with
      | zero => exact adj i hj
      | succ d ih =>
        have h1 := ih (by omega)
        have h2 := adj (i + d + 1) (by omega)
        have e : l[i + (d + 1) + 1] = l[i + d + 1 + 1] := rfl
        rw [e]; omega
  · rintro ⟨h1, h2⟩
    refine evs_true fun j hj => evAt_of hj (h1 _ (List.getElem_mem hj)) fun h0 => ?_
    exact List.pairwise_iff_getElem.1 h2 (j - 1) j (by omega) hj (by omega)
theorem drop_one_sub {α : Type} (l : List α) (k : Nat) : (l.take k ++ l.drop (k + 1)).Sublist l := by
  have : l = l.take k ++ l.drop k := (List.take_append_drop k l).symm
  conv => rhs; rw [this]
  refine List.Sublist.append (List.Sublist.refl _) ?_
  rw [← List.tail_drop]
  exact List.tail_sublist _
theorem dval_sub {e : Int} {l m : List En} (h : dval e l = true) (hs : m.Sublist l) : dval e m = true := by
  obtain ⟨h1, h2, h3⟩ := dval_iff.1 h
  obtain ⟨h4, h5⟩ := evs_iff.1 h3
  exact dval_iff.2 ⟨h1, by have := hs.length_le; omega, evs_iff.2 ⟨fun x hx => h4 x (hs.subset hx), h5.sublist hs⟩⟩
theorem dval_dup {e : Int} {l : List En} {k : Nat} (hk : k < l.length) : dval e (l.take (k + 1) ++ l.drop k) = false := by
  cases h : dval e (l.take (k + 1) ++ l.drop k) with
  | false => rfl
  | true =>
    obtain ⟨_, _, h3⟩ := dval_iff.1 h
    obtain ⟨_, h5⟩ := evs_iff.1 h3
    have h6 := (List.pairwise_append.1 h5).2.2 l[k] (by rw [List.take_succ_eq_append_getElem hk]; exact List.mem_append_right _ (List.mem_singleton_self _)) l[k] (by rw [List.drop_eq_getElem_cons hk]; exact List.mem_cons_self)
    omega
theorem dval_set {e : Int} {l : List En} {k : Nat} (hk : k < l.length) {x : En} (h : dval e l = true) (hn : x.n = l[k].n) (hx : evOk x = true) : dval e (l.set k x) = true := by
  obtain ⟨h1, h2, h3⟩ := dval_iff.1 h
  obtain ⟨h4, h5⟩ := evs_iff.1 h3
  refine dval_iff.2 ⟨h1, by simpa using h2, evs_iff.2 ⟨fun y hy => ?_, ?_⟩⟩
  · rcases List.mem_or_eq_of_mem_set hy with hy | hy
    · exact h4 y hy
    · subst hy; exact hx
  · rw [List.pairwise_iff_getElem] at h5 ⊢
    intro i j hi hj hij
    simp only [List.length_set] at hi hj
    have := h5 i j hi hj hij
    rw [List.getElem_set, List.getElem_set]
    split <;> split
    · omega
    · rename_i h _; subst h; rw [hn]; exact this
    · rename_i _ h; subst h; rw [hn]; exact this
    · exact this
/-! ### digests differ -/
theorem abs1_t {t t' x : Int} (h : 0 ≤ t ∧ t ≤ 990) (h' : 0 ≤ t' ∧ t' ≤ 990) (hne : t ≠ t') : abs1 t x ≠ abs1 t' x := by
  unfold abs1; omega
theorem abs1_x {t x x' : Int} (hne : x % 991 ≠ x' % 991) : abs1 t x ≠ abs1 t x' := by
  unfold abs1; omega
theorem digS_t {t t' : Int} (h : 0 ≤ t ∧ t ≤ 990) (h' : 0 ≤ t' ∧ t' ≤ 990) (hne : t ≠ t') (x : En) : digS t x ≠ digS t' x :=
  abs1_t abs1_bd abs1_bd (abs1_t abs1_bd abs1_bd (abs1_t h h' hne))
theorem digF_t : ∀ (l : List En) {t t' : Int}, 0 ≤ t ∧ t ≤ 990 → 0 ≤ t' ∧ t' ≤ 990 → t ≠ t' → digF t l ≠ digF t' l
  | [], _, _, _, _, h => h
  | x :: l, _, _, h1, h2, h => digF_t l (t := digS _ x) (t' := digS _ x) abs1_bd abs1_bd (digS_t h1 h2 h x)
theorem digF_app (t : Int) (a b : List En) : digF t (a ++ b) = digF (digF t a) b := by unfold digF; rw [List.foldl_append]
theorem digF_set {t : Int} {l : List En} {k : Nat} (hk : k < l.length) (x : En) (hne : ∀ T, digS T x ≠ digS T l[k]) : digF t (l.set k x) ≠ digF t l := by
  have e1 : l.set k x = l.take k ++ x :: l.drop (k + 1) := List.set_eq_take_append_cons_drop.trans (by rw [if_pos hk])
  have e2 : l = l.take k ++ l[k] :: l.drop (k + 1) := by rw [← List.drop_eq_getElem_cons hk, List.take_append_drop]
  have e3 : digF t l = digF (digS (digF t (l.take k)) l[k]) (l.drop (k + 1)) := by
    conv => lhs; rw [e2]
    rw [digF_app]; rfl
  rw [e1, digF_app, e3]
  exact digF_t _ (t := digS _ x) abs1_bd abs1_bd (hne _)
theorem dig_w {e : Int} {l : List En} {k : Nat} (hk : k < l.length) {w : Int} (hne : w % 991 ≠ l[k].w % 991) : dig e (l.set k { l[k] with w := w }) ≠ dig e l := by
  unfold dig
  rw [List.length_set]
  exact digF_set hk _ fun T => abs1_x hne
theorem dig_p {e : Int} {l : List En} {k : Nat} (hk : k < l.length) {p : Int} (hne : p % 991 ≠ l[k].p % 991) : dig e (l.set k { l[k] with p := p }) ≠ dig e l := by
  unfold dig
  rw [List.length_set]
  exact digF_set hk _ fun T => abs1_t abs1_bd abs1_bd (abs1_x hne)
theorem dig_e {e e' : Int} {l : List En} (h : 0 ≤ e ∧ e ≤ 99) (h' : 0 ≤ e' ∧ e' ≤ 99) (hne : e ≠ e') : dig e l ≠ dig e' l := by
  unfold dig
  exact digF_t l (by omega) (by omega) (by omega)
end Go.Proofs.Ytobendpgedlaeaa
