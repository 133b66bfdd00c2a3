import Derived.Test.YtlgfdjmnedfjfaaL14
import Derived.Test.YtlgfdjmnedfjfaaT6
namespace Go.Proofs.Ytlgfdjmnedfjfaa
open Go.RowKit
attribute [local irreducible] AWP AL XT AC ES PS AH AH2 LpQ
def BndL (l : List LC) : Prop := ∀ x ∈ l, (0 ≤ x.f ∧ x.f ≤ 8) ∧ (0 ≤ x.t ∧ x.t ≤ 8) ∧ (0 ≤ x.s ∧ x.s ≤ 100) ∧ (0 ≤ x.b ∧ x.b ≤ 100)
theorem bndL_lv {l : List LC} (h : lv l = true) : BndL l := fun x hx => by have := wfN_lv h x hx; omega
theorem bndL_set {l : List LC} (h : BndL l) {k : Nat} {a : LC} (ha : (0 ≤ a.f ∧ a.f ≤ 8) ∧ (0 ≤ a.t ∧ a.t ≤ 8) ∧ (0 ≤ a.s ∧ a.s ≤ 100) ∧ (0 ≤ a.b ∧ a.b ≤ 100)) : BndL (l.set k a) := fun x hx => by
  rcases List.mem_or_eq_of_mem_set hx with h1 | h1
  · exact h x h1
  · subst h1; exact ha
theorem addL_ok {l : List LC} {p : List Int} {b : Bool} (h : (addL l p b).2 = true) : lv (addL l p b).1 = true := by
  unfold addL at h ⊢
  split
  · rename_i h1
    rw [if_pos h1] at h
    split
    · assumption
    · rename_i h2; rw [if_neg h2] at h; cases h
  · rename_i h1
    rw [if_neg h1] at h; cases h
theorem addL_len (l : List LC) (p : List Int) (b : Bool) : (addL l p b).1.length ≤ l.length + 3 := by
  unfold addL
  split
  · rename_i h
    simp only [Bool.and_eq_true] at h
    have h2 := loop_facts h.2
    have h3 := addTo_length l p (b2i b) (p.length - 1)
    split
    · show (addTo l p (b2i b) (p.length - 1)).length ≤ _
      omega
    · show l.length ≤ _
      omega
  · exact Nat.zero_le _
structure LoopsR (p : Nat) (a : List LC × Nat) : Prop where
  p1 : a.2 ≤ p + 200
  l1 : a.1.length ≤ 40
  b1 : BndL a.1
theorem four_bd {m : Nat} (h : m < ([0, 98, 99, 100] : List Int).length) : 0 ≤ ([0, 98, 99, 100] : List Int)[m] ∧ ([0, 98, 99, 100] : List Int)[m] ≤ 100 := by
  have h' : m < 4 := h
  have : m = 0 ∨ m = 1 ∨ m = 2 ∨ m = 3 := by omega
  rcases this with rfl | rfl | rfl | rfl <;> simp
set_option maxHeartbeats 4000000 in
set_option maxRecDepth 100000 in
theorem loops_ac (c : List Int) (p : Nat) (hok : COk c) (hp : p ≤ 100000) : AC Try.prog 55 [.h (.ptr 0 0)] [rdB c p] [0, 1]
    (fun r h => ∃ a : List LC × Nat, LoopsR p a ∧ h = [rdB c a.2, .arr 40 4 (lcs a.1)] ∧ r = .h (.sl 1 0 a.1.length)) := by
  refine ac_body teok Try.func55 rfl (by kernel_rfl) Try.ntmps55 rfl rfl ?_
  intro w0 ps g0 im0
  have hth : ∀ (q : Nat) (L : List LC), Ob.Tgs [0, 1] [rdB c q, .arr 40 4 (lcs L)] := fun q L => ⟨rdB_tgs c q, lcs_tgs L, trivial⟩
  repeat (first | refine p1 rfl rfl rfl rfl ?_ | refine al_end ?_ | refine awp_seq ?_ | refine awp_region ?_ | refine awp_block ?_ | refine awp_skip' ?_ | refine awp_ret' ?_ | refine awp_exit' ?_ | refine xt_sq_n ?_ | refine xt_bk_n ?_ | refine xt_sq_r ?_ | refine xt_bk_r ?_ | refine xt_sq_x ?_ | refine xt_bk_eq ?_ | refine xt_bk_ne rfl ?_ | refine p0 rfl rfl rfl ?_ | refine p0n rfl rfl ?_ | refine pAr rfl rfl rfl rfl rfl rfl rfl (by omega) (by omega) ?_ | refine pBuild rfl rfl rfl rfl rfl rfl ?_ | refine pE (eAlloc rfl rfl rfl rfl) rfl ?_ | refine pE (eBox rfl rfl rfl rfl rfl) rfl ?_ | refine pE (eSt rfl rfl rfl rfl rfl rfl rfl rfl rfl) rfl ?_ | refine pE (eBs rfl rfl rfl rfl rfl rfl rfl rfl rfl) rfl ?_)
  refine pCo 0 (pick_ac c p 12 hok (by omega)) rfl rfl rfl rfl (fun _ => rfl) (fun _ _ => rfl) rfl rfl rfl (by decide) (by repeat' (first | exact trivial | exact rfl | refine And.intro ?_ ?_ | exact Or.inl ⟨_, rfl, rfl⟩ | exact ⟨_, rfl, rfl⟩ | exact bor_sl rfl (by assumption))) ?_
  intro k1 hk1
  obtain ⟨n, hn⟩ : ∃ n : Nat, k1 = (n : Int) := ⟨k1.toNat, by have := hk1.1; omega⟩
  subst hn
  have hn11 : n ≤ 11 := by have := hk1.2; omega
  repeat (first | refine p1 rfl rfl rfl rfl ?_ | refine al_end ?_ | refine awp_seq ?_ | refine awp_region ?_ | refine awp_block ?_ | refine awp_skip' ?_ | refine awp_ret' ?_ | refine awp_exit' ?_ | refine xt_sq_n ?_ | refine xt_bk_n ?_ | refine xt_sq_r ?_ | refine xt_bk_r ?_ | refine xt_sq_x ?_ | refine xt_bk_eq ?_ | refine xt_bk_ne rfl ?_ | refine p0 rfl rfl rfl ?_ | refine p0n rfl rfl ?_ | refine pAr rfl rfl rfl rfl rfl rfl rfl (by omega) (by omega) ?_ | refine pBuild rfl rfl rfl rfl rfl rfl ?_ | refine pE (eAlloc rfl rfl rfl rfl) rfl ?_ | refine pE (eBox rfl rfl rfl rfl rfl) rfl ?_ | refine pE (eSt rfl rfl rfl rfl rfl rfl rfl rfl rfl) rfl ?_ | refine pE (eBs rfl rfl rfl rfl rfl rfl rfl rfl rfl) rfl ?_)
  refine awp_loopE (fun a : Nat × Nat × List LC => { fr := [(0, .h (.ptr 0 0)), (3, .h (.sl 1 0 a.2.2.length)), (4, .h (.c (.int .i64 n))), (5, .h (.c (.int .i64 a.1)))], hp := [(0, rdB c a.2.1), (1, .arr 40 4 (lcs a.2.2))], nx := 2 })
    (fun m a => a.1 ≤ n ∧ m = n - a.1 ∧ a.2.2.length ≤ 3 * a.1 ∧ a.2.1 ≤ p + 1 + 11 * a.1 ∧ (a.2.2 = [] ∨ lv a.2.2 = true)) n (0, p + 1, []) [(0, 0), (1, 1)] ⟨rfl, rfl, rfl, by repeat (first | exact trivial | refine ⟨rfl, ?_⟩), by repeat (first | exact trivial | refine ⟨rfl, ?_⟩)⟩ ⟨Nat.zero_le _, rfl, Nat.le_refl _, Nat.le_refl _, .inl rfl⟩ ?_
  rintro m ⟨i, q, L⟩ ⟨hi, rfl, hL, hq, hlv⟩
  simp only at hi hL hq hlv ⊢
  repeat' (first | refine p1 rfl rfl rfl rfl ?_ | refine al_end ?_ | refine awp_seq ?_ | refine awp_region ?_ | refine awp_block ?_ | refine awp_skip' ?_ | refine awp_ret' ?_ | refine awp_exit' ?_ | refine xt_sq_n ?_ | refine xt_bk_n ?_ | refine xt_sq_r ?_ | refine xt_bk_r ?_ | refine xt_sq_x ?_ | refine xt_bk_eq ?_ | refine xt_bk_ne rfl ?_ | refine p0 rfl rfl rfl ?_ | refine p0n rfl rfl ?_ | refine pAr rfl rfl rfl rfl rfl rfl rfl (by omega) (by omega) ?_ | refine pBuild rfl rfl rfl rfl rfl rfl ?_ | refine pE (eAlloc rfl rfl rfl rfl) rfl ?_ | refine pE (eBox rfl rfl rfl rfl rfl) rfl ?_ | refine pE (eSt rfl rfl rfl rfl rfl rfl rfl rfl rfl) rfl ?_ | refine pE (eBs rfl rfl rfl rfl rfl rfl rfl rfl rfl) rfl ?_ | refine awp_cond (b := true) rfl (fun _ => ?_) (fun h => Bool.noConfusion h) | refine awp_cond (b := false) rfl (fun h => Bool.noConfusion h) (fun _ => ?_) | ((fail_if_success refine pG (b := true) rfl rfl ?_ ?_); (fail_if_success refine pG (b := false) rfl rfl ?_ ?_); (refine pG rfl rfl (fun hc => ?_) (fun hc => ?_)) <;> try simp at hc) | ((refine awp_cond rfl (fun hc => ?_) (fun hc => ?_)) <;> try simp at hc))
  · have hi' : i < n := by omega
    refine pC (eCall (path_ac c q hok (by omega)) 99 [0] rfl rfl rfl rfl rfl rfl (by repeat' (first | exact trivial | exact rfl | refine And.intro ?_ ?_ | exact Or.inl ⟨_, rfl, rfl⟩ | exact ⟨_, rfl, rfl⟩ | exact bor_sl rfl (by assumption))) (by decide)) rfl ?_
    rintro _ _ ⟨⟨pa, q2⟩, hpa, rfl, rfl⟩
    have hp1 := hpa.p1
    have hp2 := hpa.l1
    simp only at hp1 hp2
    repeat (first | refine p1 rfl rfl rfl rfl ?_ | refine al_end ?_ | refine awp_seq ?_ | refine awp_region ?_ | refine awp_block ?_ | refine awp_skip' ?_ | refine awp_ret' ?_ | refine awp_exit' ?_ | refine xt_sq_n ?_ | refine xt_bk_n ?_ | refine xt_sq_r ?_ | refine xt_bk_r ?_ | refine xt_sq_x ?_ | refine xt_bk_eq ?_ | refine xt_bk_ne rfl ?_ | refine p0 rfl rfl rfl ?_ | refine p0n rfl rfl ?_ | refine pAr rfl rfl rfl rfl rfl rfl rfl (by omega) (by omega) ?_ | refine pBuild rfl rfl rfl rfl rfl rfl ?_ | refine pE (eAlloc rfl rfl rfl rfl) rfl ?_ | refine pE (eBox rfl rfl rfl rfl rfl) rfl ?_ | refine pE (eSt rfl rfl rfl rfl rfl rfl rfl rfl rfl) rfl ?_ | refine pE (eBs rfl rfl rfl rfl rfl rfl rfl rfl rfl) rfl ?_)
    refine pCo 0 (pick_ac c q2 3 hok (by omega)) rfl rfl rfl rfl (fun _ => rfl) (fun _ _ => rfl) rfl rfl rfl (by decide) (by repeat' (first | exact trivial | exact rfl | refine And.intro ?_ ?_ | exact Or.inl ⟨_, rfl, rfl⟩ | exact ⟨_, rfl, rfl⟩ | exact bor_sl rfl (by assumption))) ?_
    intro k2 hk2
    repeat (first | refine p1 rfl rfl rfl rfl ?_ | refine al_end ?_ | refine awp_seq ?_ | refine awp_region ?_ | refine awp_block ?_ | refine awp_skip' ?_ | refine awp_ret' ?_ | refine awp_exit' ?_ | refine xt_sq_n ?_ | refine xt_bk_n ?_ | refine xt_sq_r ?_ | refine xt_bk_r ?_ | refine xt_sq_x ?_ | refine xt_bk_eq ?_ | refine xt_bk_ne rfl ?_ | refine p0 rfl rfl rfl ?_ | refine p0n rfl rfl ?_ | refine pAr rfl rfl rfl rfl rfl rfl rfl (by omega) (by omega) ?_ | refine pBuild rfl rfl rfl rfl rfl rfl ?_ | refine pE (eAlloc rfl rfl rfl rfl) rfl ?_ | refine pE (eBox rfl rfl rfl rfl rfl) rfl ?_ | refine pE (eSt rfl rfl rfl rfl rfl rfl rfl rfl rfl) rfl ?_ | refine pE (eBs rfl rfl rfl rfl rfl rfl rfl rfl rfl) rfl ?_)
    have hpl := lcs_plain L
    have hpp := ints_plain pa
    refine pCt (specAdd_ac 98 98 L pa (decide (0 < k2)) (by omega) (by omega)) rfl rfl rfl rfl rfl (by decide) (by repeat' (first | exact trivial | exact rfl | refine And.intro ?_ ?_ | exact Or.inl ⟨_, rfl, rfl⟩ | exact ⟨_, rfl, rfl⟩ | exact bor_sl rfl (by assumption))) ?_
    have hal := addL_len L pa (decide (0 < k2))
    have hao := addL_ok (l := L) (p := pa) (b := decide (0 < k2))
    repeat' (first | refine p1 rfl rfl rfl rfl ?_ | refine al_end ?_ | refine awp_seq ?_ | refine awp_region ?_ | refine awp_block ?_ | refine awp_skip' ?_ | refine awp_ret' ?_ | refine awp_exit' ?_ | refine xt_sq_n ?_ | refine xt_bk_n ?_ | refine xt_sq_r ?_ | refine xt_bk_r ?_ | refine xt_sq_x ?_ | refine xt_bk_eq ?_ | refine xt_bk_ne rfl ?_ | refine p0 rfl rfl rfl ?_ | refine p0n rfl rfl ?_ | refine pAr rfl rfl rfl rfl rfl rfl rfl (by omega) (by omega) ?_ | refine pBuild rfl rfl rfl rfl rfl rfl ?_ | refine pE (eAlloc rfl rfl rfl rfl) rfl ?_ | refine pE (eBox rfl rfl rfl rfl rfl) rfl ?_ | refine pE (eSt rfl rfl rfl rfl rfl rfl rfl rfl rfl) rfl ?_ | refine pE (eBs rfl rfl rfl rfl rfl rfl rfl rfl rfl) rfl ?_ | refine awp_cond (b := true) rfl (fun _ => ?_) (fun h => Bool.noConfusion h) | refine awp_cond (b := false) rfl (fun h => Bool.noConfusion h) (fun _ => ?_) | ((fail_if_success refine pG (b := true) rfl rfl ?_ ?_); (fail_if_success refine pG (b := false) rfl rfl ?_ ?_); (refine pG rfl rfl (fun hc => ?_) (fun hc => ?_)) <;> try simp at hc) | ((refine awp_cond rfl (fun hc => ?_) (fun hc => ?_)) <;> try simp at hc))
    · exact lp_end (n - (i + 1)) (i + 1, q2 + 1, (addL L pa (decide (0 < k2))).1) [(0, 0), (1, 3)] (by omega) ⟨rfl, rfl, rfl, by repeat (first | exact trivial | refine ⟨rfl, ?_⟩), by repeat (first | exact trivial | refine ⟨rfl, ?_⟩)⟩ ⟨by omega, rfl, by show (addL L pa (decide (0 < k2))).1.length ≤ _; omega, by show q2 + 1 ≤ _; omega, .inr (hao (by assumption))⟩
    · exact lp_end (n - (i + 1)) (i + 1, q2 + 1, L) [(0, 0), (1, 1)] (by omega) ⟨rfl, rfl, rfl, by repeat (first | exact trivial | refine ⟨rfl, ?_⟩), by repeat (first | exact trivial | refine ⟨rfl, ?_⟩)⟩ ⟨by omega, rfl, by show L.length ≤ _; omega, by show q2 + 1 ≤ _; omega, hlv⟩
  · have hi' : i = n := by omega
    have hbl : BndL L := by
      rcases hlv with h | h
      · subst h; intro x hx; cases hx
      · exact bndL_lv h
    exact xt_finG [(0, 0), (1, 1)] (.h (.sl 1 0 L.length)) [rdB c q, .arr 40 4 (lcs L)] (.inr rfl) rfl rfl rfl rfl rfl ⟨rfl, rfl, trivial⟩ trivial (hth _ _) ⟨(L, q), ⟨by show q ≤ _; omega, by show L.length ≤ _; omega, hbl⟩, rfl, rfl⟩
  · have hi' : i = n := by omega
    have hbl : BndL L := by
      rcases hlv with h | h
      · subst h; intro x hx; cases hx
      · exact bndL_lv h
    have hL0 : 0 < L.length := by
      rcases Nat.eq_zero_or_pos L.length with h | h
      · exact absurd (List.length_eq_zero_iff.1 h) (by assumption)
      · exact h
    refine pCo 0 (pick_ac c q L.length hok (by omega)) rfl rfl rfl rfl (fun _ => rfl) (fun _ _ => rfl) rfl rfl rfl (by decide) (by repeat' (first | exact trivial | exact rfl | refine And.intro ?_ ?_ | exact Or.inl ⟨_, rfl, rfl⟩ | exact ⟨_, rfl, rfl⟩ | exact bor_sl rfl (by assumption))) ?_
    intro k3 hk3
    obtain ⟨kk, hkk⟩ : ∃ kk : Nat, k3 = (kk : Int) := ⟨k3.toNat, by have := hk3.1; omega⟩
    subst hkk
    have hkl : kk < L.length := by have := hk3.2; omega
    have hbk := hbl _ (List.getElem_mem hkl)
    repeat (first | refine p1 rfl rfl rfl rfl ?_ | refine al_end ?_ | refine awp_seq ?_ | refine awp_region ?_ | refine awp_block ?_ | refine awp_skip' ?_ | refine awp_ret' ?_ | refine awp_exit' ?_ | refine xt_sq_n ?_ | refine xt_bk_n ?_ | refine xt_sq_r ?_ | refine xt_bk_r ?_ | refine xt_sq_x ?_ | refine xt_bk_eq ?_ | refine xt_bk_ne rfl ?_ | refine p0 rfl rfl rfl ?_ | refine p0n rfl rfl ?_ | refine pAr rfl rfl rfl rfl rfl rfl rfl (by omega) (by omega) ?_ | refine pBuild rfl rfl rfl rfl rfl rfl ?_ | refine pE (eAlloc rfl rfl rfl rfl) rfl ?_ | refine pE (eBox rfl rfl rfl rfl rfl) rfl ?_ | refine pE (eSt rfl rfl rfl rfl rfl rfl rfl rfl rfl) rfl ?_ | refine pE (eBs rfl rfl rfl rfl rfl rfl rfl rfl rfl) rfl ?_)
    refine pCo 0 (pick_ac c (q + 1) 16 hok (by omega)) rfl rfl rfl rfl (fun _ => rfl) (fun _ _ => rfl) rfl rfl rfl (by decide) (by repeat' (first | exact trivial | exact rfl | refine And.intro ?_ ?_ | exact Or.inl ⟨_, rfl, rfl⟩ | exact ⟨_, rfl, rfl⟩ | exact bor_sl rfl (by assumption))) ?_
    intro k4 hk4
    repeat' (first | refine p1 rfl rfl rfl rfl ?_ | refine al_end ?_ | refine awp_seq ?_ | refine awp_region ?_ | refine awp_block ?_ | refine awp_skip' ?_ | refine awp_ret' ?_ | refine awp_exit' ?_ | refine xt_sq_n ?_ | refine xt_bk_n ?_ | refine xt_sq_r ?_ | refine xt_bk_r ?_ | refine xt_sq_x ?_ | refine xt_bk_eq ?_ | refine xt_bk_ne rfl ?_ | refine p0 rfl rfl rfl ?_ | refine p0n rfl rfl ?_ | refine pAr rfl rfl rfl rfl rfl rfl rfl (by omega) (by omega) ?_ | refine pBuild rfl rfl rfl rfl rfl rfl ?_ | refine pE (eAlloc rfl rfl rfl rfl) rfl ?_ | refine pE (eBox rfl rfl rfl rfl rfl) rfl ?_ | refine pE (eSt rfl rfl rfl rfl rfl rfl rfl rfl rfl) rfl ?_ | refine pE (eBs rfl rfl rfl rfl rfl rfl rfl rfl rfl) rfl ?_ | refine awp_cond (b := true) rfl (fun _ => ?_) (fun h => Bool.noConfusion h) | refine awp_cond (b := false) rfl (fun h => Bool.noConfusion h) (fun _ => ?_) | ((fail_if_success refine pG (b := true) rfl rfl ?_ ?_); (fail_if_success refine pG (b := false) rfl rfl ?_ ?_); (refine pG rfl rfl (fun hc => ?_) (fun hc => ?_)) <;> try simp at hc) | ((refine awp_cond rfl (fun hc => ?_) (fun hc => ?_)) <;> try simp at hc))
    · refine pCo 0 (pick_ac c (q + 2) 4 hok (by omega)) rfl rfl rfl rfl (fun _ => rfl) (fun _ _ => rfl) rfl rfl rfl (by decide) (by repeat' (first | exact trivial | exact rfl | refine And.intro ?_ ?_ | exact Or.inl ⟨_, rfl, rfl⟩ | exact ⟨_, rfl, rfl⟩ | exact bor_sl rfl (by assumption))) ?_
      intro k5 hk5
      have h5 := hk5.1
      have h6 := hk5.2
      have h4 : k5.toNat < ([0, 98, 99, 100] : List Int).length := by simp; omega
      have hv := four_bd h4
      refine pIx0 k5.toNat rfl rfl rfl rfl rfl rfl rfl rfl rfl rfl (by omega) (by omega) ?_
      refine pLdR (f := int1) (L := [0, 98, 99, 100]) k5.toNat 0 rfl rfl rfl rfl rfl rfl rfl (fun _ => rfl) rfl (Nat.zero_le _) h4 rfl ?_
      refine pIx0 kk rfl rfl rfl rfl rfl rfl rfl rfl rfl rfl rfl hkl ?_
      repeat (first | refine p1 rfl rfl rfl rfl ?_ | refine al_end ?_ | refine awp_seq ?_ | refine awp_region ?_ | refine awp_block ?_ | refine awp_skip' ?_ | refine awp_ret' ?_ | refine awp_exit' ?_ | refine xt_sq_n ?_ | refine xt_bk_n ?_ | refine xt_sq_r ?_ | refine xt_bk_r ?_ | refine xt_sq_x ?_ | refine xt_bk_eq ?_ | refine xt_bk_ne rfl ?_ | refine p0 rfl rfl rfl ?_ | refine p0n rfl rfl ?_ | refine pAr rfl rfl rfl rfl rfl rfl rfl (by omega) (by omega) ?_ | refine pBuild rfl rfl rfl rfl rfl rfl ?_ | refine pE (eAlloc rfl rfl rfl rfl) rfl ?_ | refine pE (eBox rfl rfl rfl rfl rfl) rfl ?_ | refine pE (eSt rfl rfl rfl rfl rfl rfl rfl rfl rfl) rfl ?_ | refine pE (eBs rfl rfl rfl rfl rfl rfl rfl rfl rfl) rfl ?_)
      refine pStR (f := lcc) kk 2 (L := L) { L[kk] with s := ([0, 98, 99, 100] : List Int)[k5.toNat] } [.int .i64 ([0, 98, 99, 100] : List Int)[k5.toNat]] rfl rfl rfl rfl rfl rfl rfl rfl rfl (fun _ => rfl) rfl rfl hkl rfl ?_
      repeat' (first | refine p1 rfl rfl rfl rfl ?_ | refine al_end ?_ | refine awp_seq ?_ | refine awp_region ?_ | refine awp_block ?_ | refine awp_skip' ?_ | refine awp_ret' ?_ | refine awp_exit' ?_ | refine xt_sq_n ?_ | refine xt_bk_n ?_ | refine xt_sq_r ?_ | refine xt_bk_r ?_ | refine xt_sq_x ?_ | refine xt_bk_eq ?_ | refine xt_bk_ne rfl ?_ | refine p0 rfl rfl rfl ?_ | refine p0n rfl rfl ?_ | refine pAr rfl rfl rfl rfl rfl rfl rfl (by omega) (by omega) ?_ | refine pBuild rfl rfl rfl rfl rfl rfl ?_ | refine pE (eAlloc rfl rfl rfl rfl) rfl ?_ | refine pE (eBox rfl rfl rfl rfl rfl) rfl ?_ | refine pE (eSt rfl rfl rfl rfl rfl rfl rfl rfl rfl) rfl ?_ | refine pE (eBs rfl rfl rfl rfl rfl rfl rfl rfl rfl) rfl ?_ | refine awp_cond (b := true) rfl (fun _ => ?_) (fun h => Bool.noConfusion h) | refine awp_cond (b := false) rfl (fun h => Bool.noConfusion h) (fun _ => ?_) | ((fail_if_success refine pG (b := true) rfl rfl ?_ ?_); (fail_if_success refine pG (b := false) rfl rfl ?_ ?_); (refine pG rfl rfl (fun hc => ?_) (fun hc => ?_)) <;> try simp at hc) | ((refine awp_cond rfl (fun hc => ?_) (fun hc => ?_)) <;> try simp at hc))
      exact xt_finG [(0, 0), (1, 1)] (.h (.sl 1 0 L.length)) [rdB c (q + 3), .arr 40 4 (lcs (L.set kk { L[kk] with s := ([0, 98, 99, 100] : List Int)[k5.toNat] }))] (.inr rfl) rfl rfl rfl rfl rfl ⟨rfl, rfl, trivial⟩ trivial (hth _ _) ⟨(L.set kk { L[kk] with s := ([0, 98, 99, 100] : List Int)[k5.toNat] }, q + 3), ⟨by show q + 3 ≤ _; omega, by simp; omega, bndL_set hbl ⟨hbk.1, hbk.2.1, hv, hbk.2.2.2⟩⟩, rfl, by simp⟩
    · refine pCo 0 (pick_ac c (q + 2) 12 hok (by omega)) rfl rfl rfl rfl (fun _ => rfl) (fun _ _ => rfl) rfl rfl rfl (by decide) (by repeat' (first | exact trivial | exact rfl | refine And.intro ?_ ?_ | exact Or.inl ⟨_, rfl, rfl⟩ | exact ⟨_, rfl, rfl⟩ | exact bor_sl rfl (by assumption))) ?_
      intro k5 hk5
      have h5 := hk5.1
      have h6 := hk5.2
      refine pIx0 kk rfl rfl rfl rfl rfl rfl rfl rfl rfl rfl rfl hkl ?_
      repeat (first | refine p1 rfl rfl rfl rfl ?_ | refine al_end ?_ | refine awp_seq ?_ | refine awp_region ?_ | refine awp_block ?_ | refine awp_skip' ?_ | refine awp_ret' ?_ | refine awp_exit' ?_ | refine xt_sq_n ?_ | refine xt_bk_n ?_ | refine xt_sq_r ?_ | refine xt_bk_r ?_ | refine xt_sq_x ?_ | refine xt_bk_eq ?_ | refine xt_bk_ne rfl ?_ | refine p0 rfl rfl rfl ?_ | refine p0n rfl rfl ?_ | refine pAr rfl rfl rfl rfl rfl rfl rfl (by omega) (by omega) ?_ | refine pBuild rfl rfl rfl rfl rfl rfl ?_ | refine pE (eAlloc rfl rfl rfl rfl) rfl ?_ | refine pE (eBox rfl rfl rfl rfl rfl) rfl ?_ | refine pE (eSt rfl rfl rfl rfl rfl rfl rfl rfl rfl) rfl ?_ | refine pE (eBs rfl rfl rfl rfl rfl rfl rfl rfl rfl) rfl ?_)
      refine pStR (f := lcc) kk 3 (L := L) { L[kk] with b := k5 } [.int .i64 k5] rfl rfl rfl rfl rfl rfl rfl rfl rfl (fun _ => rfl) rfl rfl hkl rfl ?_
      repeat' (first | refine p1 rfl rfl rfl rfl ?_ | refine al_end ?_ | refine awp_seq ?_ | refine awp_region ?_ | refine awp_block ?_ | refine awp_skip' ?_ | refine awp_ret' ?_ | refine awp_exit' ?_ | refine xt_sq_n ?_ | refine xt_bk_n ?_ | refine xt_sq_r ?_ | refine xt_bk_r ?_ | refine xt_sq_x ?_ | refine xt_bk_eq ?_ | refine xt_bk_ne rfl ?_ | refine p0 rfl rfl rfl ?_ | refine p0n rfl rfl ?_ | refine pAr rfl rfl rfl rfl rfl rfl rfl (by omega) (by omega) ?_ | refine pBuild rfl rfl rfl rfl rfl rfl ?_ | refine pE (eAlloc rfl rfl rfl rfl) rfl ?_ | refine pE (eBox rfl rfl rfl rfl rfl) rfl ?_ | refine pE (eSt rfl rfl rfl rfl rfl rfl rfl rfl rfl) rfl ?_ | refine pE (eBs rfl rfl rfl rfl rfl rfl rfl rfl rfl) rfl ?_ | refine awp_cond (b := true) rfl (fun _ => ?_) (fun h => Bool.noConfusion h) | refine awp_cond (b := false) rfl (fun h => Bool.noConfusion h) (fun _ => ?_) | ((fail_if_success refine pG (b := true) rfl rfl ?_ ?_); (fail_if_success refine pG (b := false) rfl rfl ?_ ?_); (refine pG rfl rfl (fun hc => ?_) (fun hc => ?_)) <;> try simp at hc) | ((refine awp_cond rfl (fun hc => ?_) (fun hc => ?_)) <;> try simp at hc))
      exact xt_finG [(0, 0), (1, 1)] (.h (.sl 1 0 L.length)) [rdB c (q + 3), .arr 40 4 (lcs (L.set kk { L[kk] with b := k5 }))] (.inr rfl) rfl rfl rfl rfl rfl ⟨rfl, rfl, trivial⟩ trivial (hth _ _) ⟨(L.set kk { L[kk] with b := k5 }, q + 3), ⟨by show q + 3 ≤ _; omega, by simp; omega, bndL_set hbl ⟨hbk.1, hbk.2.1, hbk.2.2.1, by show 0 ≤ k5 ∧ k5 ≤ 100; omega⟩⟩, rfl, by simp⟩
    · refine pCo 0 (pick_ac c (q + 2) 9 hok (by omega)) rfl rfl rfl rfl (fun _ => rfl) (fun _ _ => rfl) rfl rfl rfl (by decide) (by repeat' (first | exact trivial | exact rfl | refine And.intro ?_ ?_ | exact Or.inl ⟨_, rfl, rfl⟩ | exact ⟨_, rfl, rfl⟩ | exact bor_sl rfl (by assumption))) ?_
      intro k5 hk5
      have h5 := hk5.1
      have h6 := hk5.2
      refine pIx0 kk rfl rfl rfl rfl rfl rfl rfl rfl rfl rfl rfl hkl ?_
      repeat (first | refine p1 rfl rfl rfl rfl ?_ | refine al_end ?_ | refine awp_seq ?_ | refine awp_region ?_ | refine awp_block ?_ | refine awp_skip' ?_ | refine awp_ret' ?_ | refine awp_exit' ?_ | refine xt_sq_n ?_ | refine xt_bk_n ?_ | refine xt_sq_r ?_ | refine xt_bk_r ?_ | refine xt_sq_x ?_ | refine xt_bk_eq ?_ | refine xt_bk_ne rfl ?_ | refine p0 rfl rfl rfl ?_ | refine p0n rfl rfl ?_ | refine pAr rfl rfl rfl rfl rfl rfl rfl (by omega) (by omega) ?_ | refine pBuild rfl rfl rfl rfl rfl rfl ?_ | refine pE (eAlloc rfl rfl rfl rfl) rfl ?_ | refine pE (eBox rfl rfl rfl rfl rfl) rfl ?_ | refine pE (eSt rfl rfl rfl rfl rfl rfl rfl rfl rfl) rfl ?_ | refine pE (eBs rfl rfl rfl rfl rfl rfl rfl rfl rfl) rfl ?_)
      refine pStR (f := lcc) kk 1 (L := L) { L[kk] with t := k5 } [.int .i64 k5] rfl rfl rfl rfl rfl rfl rfl rfl rfl (fun _ => rfl) rfl rfl hkl rfl ?_
      repeat' (first | refine p1 rfl rfl rfl rfl ?_ | refine al_end ?_ | refine awp_seq ?_ | refine awp_region ?_ | refine awp_block ?_ | refine awp_skip' ?_ | refine awp_ret' ?_ | refine awp_exit' ?_ | refine xt_sq_n ?_ | refine xt_bk_n ?_ | refine xt_sq_r ?_ | refine xt_bk_r ?_ | refine xt_sq_x ?_ | refine xt_bk_eq ?_ | refine xt_bk_ne rfl ?_ | refine p0 rfl rfl rfl ?_ | refine p0n rfl rfl ?_ | refine pAr rfl rfl rfl rfl rfl rfl rfl (by omega) (by omega) ?_ | refine pBuild rfl rfl rfl rfl rfl rfl ?_ | refine pE (eAlloc rfl rfl rfl rfl) rfl ?_ | refine pE (eBox rfl rfl rfl rfl rfl) rfl ?_ | refine pE (eSt rfl rfl rfl rfl rfl rfl rfl rfl rfl) rfl ?_ | refine pE (eBs rfl rfl rfl rfl rfl rfl rfl rfl rfl) rfl ?_ | refine awp_cond (b := true) rfl (fun _ => ?_) (fun h => Bool.noConfusion h) | refine awp_cond (b := false) rfl (fun h => Bool.noConfusion h) (fun _ => ?_) | ((fail_if_success refine pG (b := true) rfl rfl ?_ ?_); (fail_if_success refine pG (b := false) rfl rfl ?_ ?_); (refine pG rfl rfl (fun hc => ?_) (fun hc => ?_)) <;> try simp at hc) | ((refine awp_cond rfl (fun hc => ?_) (fun hc => ?_)) <;> try simp at hc))
      exact xt_finG [(0, 0), (1, 1)] (.h (.sl 1 0 L.length)) [rdB c (q + 3), .arr 40 4 (lcs (L.set kk { L[kk] with t := k5 }))] (.inr rfl) rfl rfl rfl rfl rfl ⟨rfl, rfl, trivial⟩ trivial (hth _ _) ⟨(L.set kk { L[kk] with t := k5 }, q + 3), ⟨by show q + 3 ≤ _; omega, by simp; omega, bndL_set hbl ⟨hbk.1, by show 0 ≤ k5 ∧ k5 ≤ 8; omega, hbk.2.2.1, hbk.2.2.2⟩⟩, rfl, by simp⟩
    · exact xt_finG [(0, 0), (1, 1)] (.h (.sl 1 0 L.length)) [rdB c (q + 2), .arr 40 4 (lcs L)] (.inr rfl) rfl rfl rfl rfl rfl ⟨rfl, rfl, trivial⟩ trivial (hth _ _) ⟨(L, q + 2), ⟨by show q + 2 ≤ _; omega, by show L.length ≤ _; omega, hbl⟩, rfl, rfl⟩
end Go.Proofs.Ytlgfdjmnedfjfaa
