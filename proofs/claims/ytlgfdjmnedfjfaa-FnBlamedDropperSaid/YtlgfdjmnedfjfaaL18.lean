import Derived.Test.YtlgfdjmnedfjfaaL17
namespace Go.Proofs.Ytlgfdjmnedfjfaa
open Go.RowKit
attribute [local irreducible] AWP AL XT AC ES PS AH AH2 LpQ
def ltK (y : LC) (f t : Int) : Prop := y.f < f ∨ (y.f = f ∧ y.t < t)
theorem ins_lt {y : LC} {f t b : Int} {r : List LC} (h : ltK y f t) : ins f t b (y :: r) = y :: ins f t b r := by
  have : lcLess y (key f t) = true := lcLess_iff.2 h
  rw [ins, if_pos this]
theorem ins_eq {y : LC} {f t b : Int} {r : List LC} (h1 : y.f = f) (h2 : y.t = t) : ins f t b (y :: r) = bump y b :: r := by
  have h : ¬(lcLess y (key f t) = true) := by rw [lcLess_iff]; simp only [key]; omega
  have h' : rateP f t y = true := rateP_iff.2 ⟨h1, h2⟩
  rw [ins, if_neg h, if_pos h']
theorem ins_gt {y : LC} {f t b : Int} {r : List LC} (h : f < y.f ∨ (f = y.f ∧ t < y.t)) : ins f t b (y :: r) = bump (key f t) b :: y :: r := by
  have h1 : ¬(lcLess y (key f t) = true) := by rw [lcLess_iff]; simp only [key]; omega
  have h2 : ¬(rateP f t y = true) := by rw [rateP_iff]; omega
  rw [ins, if_neg h1, if_neg h2]
theorem bump_comm (z : LC) (b b' : Int) : bump (bump z b') b = bump (bump z b) b' := by
  unfold bump
  rw [LC.mk.injEq]
  exact ⟨rfl, rfl, rfl, by show z.b + b' + b = z.b + b + b'; omega⟩
theorem key3 (y : LC) (f t : Int) : ltK y f t ∨ (y.f = f ∧ y.t = t) ∨ (f < y.f ∨ (f = y.f ∧ t < y.t)) := by unfold ltK; omega
/-- Two loops over links are counted in either order. -/
theorem ins_comm (f t b f' t' b' : Int) : ∀ l : List LC, ins f t b (ins f' t' b' l) = ins f' t' b' (ins f t b l)
  | [] => by
    show ins f t b [bump (key f' t') b'] = ins f' t' b' [bump (key f t) b]
    rcases key3 (bump (key f' t') b') f t with h | h | h
    · rw [ins_lt h, ins_gt (y := bump (key f t) b) (f := f') (t := t') h]; rfl
    · obtain ⟨h1, h2⟩ := h
      have h1 : f' = f := h1
      have h2 : t' = t := h2
      subst h1 h2
      rw [ins_eq (f := f') (t := t') (y := bump (key f' t') b') rfl rfl, ins_eq (f := f') (t := t') (y := bump (key f' t') b) rfl rfl, bump_comm]
    · rw [ins_gt h, ins_lt (y := bump (key f t) b) (f := f') (t := t') h]; rfl
  | y :: r => by
    have ih := ins_comm f t b f' t' b' r
    rcases key3 y f t with h | h | h <;> rcases key3 y f' t' with h' | h' | h'
    · rw [ins_lt h, ins_lt h', ins_lt h, ins_lt h', ih]
    · rw [ins_lt h, ins_eq h'.1 h'.2, ins_lt (y := bump y b') h, ins_eq h'.1 h'.2]
    · have : ltK (bump (key f' t') b') f t := by unfold ltK at *; simp only [bump, key]; omega
      rw [ins_lt h, ins_gt h', ins_lt this, ins_lt h, ins_gt h']
    · rw [ins_lt h', ins_eq h.1 h.2, ins_eq h.1 h.2, ins_lt (y := bump y b) h']
    · rw [ins_eq h.1 h.2, ins_eq h'.1 h'.2, ins_eq (y := bump y b') h.1 h.2, ins_eq (y := bump y b) h'.1 h'.2, bump_comm]
    · have : ltK (bump (key f' t') b') f t := by unfold ltK; simp only [bump, key]; omega
      rw [ins_eq h.1 h.2, ins_gt h', ins_lt this, ins_eq h.1 h.2, ins_gt (y := bump y b) h']
    · have : ltK (bump (key f t) b) f' t' := by unfold ltK at *; simp only [bump, key]; omega
      rw [ins_gt h, ins_lt h', ins_lt this, ins_gt h, ins_lt h']
    · have : ltK (bump (key f t) b) f' t' := by unfold ltK; simp only [bump, key]; omega
      rw [ins_eq h'.1 h'.2, ins_gt h, ins_lt this, ins_eq h'.1 h'.2, ins_gt (y := bump y b') h]
    · rw [ins_gt h, ins_gt h']
      rcases key3 (bump (key f' t') b') f t with q | q | q
      · rw [ins_lt q, ins_gt (y := bump (key f t) b) (f := f') (t := t') q, ins_gt h]
      · obtain ⟨h1, h2⟩ := q
        have h1 : f' = f := h1
        have h2 : t' = t := h2
        subst h1 h2
        rw [ins_eq (f := f') (t := t') (y := bump (key f' t') b') rfl rfl, ins_eq (f := f') (t := t') (y := bump (key f' t') b) rfl rfl, bump_comm]
      · rw [ins_gt q, ins_lt (y := bump (key f t) b) (f := f') (t := t') q, ins_gt h']
theorem ins_addTo (f t b : Int) (l : List LC) (p : List Int) (b' : Int) : ∀ i, ins f t b (addTo l p b' i) = addTo (ins f t b l) p b' i
  | 0 => rfl
  | i + 1 => by simp only [addTo]; rw [ins_comm, ins_addTo f t b l p b' i]
theorem addTo_comm (l : List LC) (p p' : List Int) (b b' : Int) (i : Nat) : ∀ j, addTo (addTo l p b i) p' b' j = addTo (addTo l p' b' j) p b i
  | 0 => rfl
  | j + 1 => by simp only [addTo]; rw [addTo_comm l p p' b b' i j, ins_addTo]
theorem addL_facts {l : List LC} {p : List Int} {b : Bool} (h : (addL l p b).2 = true) : lv l = true ∧ loopB p = true ∧ lv (addTo l p (b2i b) (p.length - 1)) = true ∧ (addL l p b).1 = addTo l p (b2i b) (p.length - 1) := by
  cases h1 : lv l with
  | false => rw [addL_bad (by simp [h1])] at h; cases h
  | true => cases h2 : loopB p with
    | false => rw [addL_bad (by simp [h2])] at h; cases h
    | true => cases h3 : lv (addTo l p (b2i b) (p.length - 1)) with
      | false => rw [addL_no h1 h2 h3] at h; cases h
      | true => exact ⟨rfl, rfl, rfl, by rw [addL_yes h1 h2 h3]⟩
/-- The order of loops does not matter. -/
theorem add_order {l : List LC} {p p' : List Int} {b b' : Bool} (h0 : (addL l p b).2 = true) (h1 : (addL (addL l p b).1 p' b').2 = true) (h2 : (addL l p' b').2 = true) :
    (addL (addL l p' b').1 p b).2 = true ∧ (addL (addL l p' b').1 p b).1 = (addL (addL l p b).1 p' b').1 := by
  obtain ⟨a1, a2, a3, a4⟩ := addL_facts h0
  obtain ⟨b1, b2, b3, b4⟩ := addL_facts h1
  obtain ⟨c1, c2, c3, c4⟩ := addL_facts h2
  rw [b4, c4, a4]
  rw [a4] at b3
  have e := addTo_comm l p p' (b2i b) (b2i b') (p.length - 1) (p'.length - 1)
  rw [addL_yes c3 a2 (by rw [← e]; exact b3)]
  exact ⟨rfl, e.symm⟩
/-! ### counts of a link -/
def fnd (f t : Int) (l : List LC) : Int × Int := match l.find? (rateP f t) with | some x => (x.b, x.s) | none => (0, 0)
theorem rate_fnd {l : List LC} (h : lv l = true) (f t : Int) : rate l f t = fnd f t l := by unfold rate fnd; rw [if_pos h]; rfl
theorem fnd_none {f t : Int} {l : List LC} (h : ∀ x ∈ l, rateP f t x = false) : fnd f t l = (0, 0) := by
  have : l.find? (rateP f t) = none := List.find?_eq_none.2 fun x hx => by simp [h x hx]
  simp [fnd, this]
theorem fnd_cons (f t : Int) (y : LC) (r : List LC) : fnd f t (y :: r) = if rateP f t y then (y.b, y.s) else fnd f t r := by
  unfold fnd
  rw [List.find?_cons]
  cases h : rateP f t y <;> simp
theorem fnd_ins (f t f' t' b' : Int) : ∀ l : List LC, Srt l → fnd f t (ins f' t' b' l) = if f = f' ∧ t = t' then ((fnd f t l).1 + b', (fnd f t l).2 + 1) else fnd f t l
  | [], _ => by
    simp only [ins, fnd_cons]
    by_cases e : f = f' ∧ t = t'
    · obtain ⟨rfl, rfl⟩ := e
      have : rateP f t (bump (key f t) b') = true := by rw [rateP_iff]; exact ⟨rfl, rfl⟩
      rw [if_pos this, if_pos ⟨rfl, rfl⟩]
      simp [fnd, bump, key]
    · have : rateP f t (bump (key f' t') b') = false := by rw [rateP_nb]; simp only [bump, key]; omega
      simp [this, e]
  | y :: r, h => by
    obtain ⟨hy, hr⟩ := List.pairwise_cons.1 h
    have ih := fnd_ins f t f' t' b' r hr
    unfold ins
    split
    · rename_i h1
      simp only [fnd_cons, ih]
      split
      · rename_i h2
        rw [if_neg]
        rintro ⟨rfl, rfl⟩
        rw [less_key_iff h1] at h2; cases h2
      · rfl
    · rename_i h1
      have h1' : lcLess y (key f' t') = false := by simpa using h1
      rw [lcLess_nb] at h1'
      simp only [key] at h1'
      split
      · rename_i h2
        rw [rateP_iff] at h2
        have hb : rateP f t (bump y b') = rateP f t y := rfl
        simp only [fnd_cons, hb]
        split
        · rename_i h3
          rw [rateP_iff] at h3
          rw [if_pos (by omega)]
          simp [bump]
        · rename_i h3
          have h3' : rateP f t y = false := by simpa using h3
          rw [rateP_nb] at h3'
          rw [if_neg (by omega)]
      · rename_i h2
        have h2' : rateP f' t' y = false := by simpa using h2
        rw [rateP_nb] at h2'
        rw [fnd_cons]
        by_cases e : f = f' ∧ t = t'
        · obtain ⟨rfl, rfl⟩ := e
          have : rateP f t (bump (key f t) b') = true := by rw [rateP_iff]; simp [bump, key]
          rw [this, if_pos rfl, if_pos ⟨rfl, rfl⟩]
          have hn : fnd f t (y :: r) = (0, 0) := fnd_none fun x hx => by
            rw [rateP_nb]
            rcases List.mem_cons.1 hx with rfl | hx
            · omega
            · have := lcLess_iff.1 (hy x hx); omega
          rw [hn]; simp [bump, key]
        · have : rateP f t (bump (key f' t') b') = false := by rw [rateP_nb]; simp only [bump, key]; omega
          rw [this, if_neg (by simp), if_neg e]
/-- How often a path leads over a link, up to a place. -/
def stp (p : List Int) (f t : Int) : Nat → Nat
  | 0 => 0
  | i + 1 => stp p f t i + if p.getD i 0 = f ∧ p.getD (i + 1) 0 = t then 1 else 0
theorem stp_le (p : List Int) (f t : Int) : ∀ i, stp p f t i ≤ i
  | 0 => Nat.le_refl _
  | i + 1 => by have := stp_le p f t i; simp only [stp]; split <;> omega
theorem fnd_addTo (f t : Int) {l : List LC} (hl : lv l = true) (p : List Int) (b : Bool) : ∀ i, fnd f t (addTo l p (b2i b) i) = ((fnd f t l).1 + (if b then (stp p f t i : Int) else 0), (fnd f t l).2 + stp p f t i)
  | 0 => by cases b <;> simp [addTo, stp]
  | i + 1 => by
    simp only [addTo, stp]
    rw [fnd_ins _ _ _ _ _ _ (addTo_srt hl i), fnd_addTo f t hl p b i]
    by_cases e : p.getD i 0 = f ∧ p.getD (i + 1) 0 = t
    · rw [if_pos ⟨e.1.symm, e.2.symm⟩, if_pos e]
      cases b <;> simp [b2i] <;> omega
    · rw [if_neg (fun h => e ⟨h.1.symm, h.2.symm⟩), if_neg e]
      simp
end Go.Proofs.Ytlgfdjmnedfjfaa
