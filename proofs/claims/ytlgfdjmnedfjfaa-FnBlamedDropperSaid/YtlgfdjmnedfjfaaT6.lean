import Derived.Test.YtlgfdjmnedfjfaaT5
import Derived.Test.YtlgfdjmnedfjfaaEz
namespace Go.Proofs.Ytlgfdjmnedfjfaa
open Go.RowKit
attribute [local irreducible] AWP AL XT AC ES PS AH AH2 LpQ
theorem rdB_tgs (c : List Int) (q : Nat) : (rdB c q).Tg [0, 1] := ⟨⟨by simp, bytes_tgs _⟩, trivial, trivial⟩
/-- What is drawn for a path. -/
structure PathR (p : Nat) (a : List Int × Nat) : Prop where
  p1 : a.2 ≤ p + 10
  l1 : a.1.length ≤ 5
  r1 : ∀ x ∈ a.1, -1 ≤ x ∧ x ≤ 9
set_option maxHeartbeats 2000000 in
set_option maxRecDepth 100000 in
theorem path_ac (c : List Int) (p : Nat) (hok : COk c) (hp : p ≤ 900000) : AC Try.prog 59 [.h (.ptr 0 0)] [rdB c p] [0, 1]
    (fun r h => ∃ a : List Int × Nat, PathR p a ∧ h = [rdB c a.2, .arr 3 1 (ints a.1)] ∧ r = .h (.sl 1 0 a.1.length)) := by
  refine ac_body teok Try.func59 rfl (by kernel_rfl) Try.ntmps59 rfl rfl ?_
  intro w0 ps g0 im0
  repeat (first | refine p1 rfl rfl rfl rfl ?_ | refine al_end ?_ | refine awp_seq ?_ | refine awp_region ?_ | refine awp_block ?_ | refine awp_skip' ?_ | refine awp_ret' ?_ | refine awp_exit' ?_ | refine xt_sq_n ?_ | refine xt_bk_n ?_ | refine xt_sq_r ?_ | refine xt_bk_r ?_ | refine xt_sq_x ?_ | refine xt_bk_eq ?_ | refine xt_bk_ne rfl ?_ | refine p0 rfl rfl rfl ?_ | refine p0n rfl rfl ?_ | refine pAr rfl rfl rfl rfl rfl rfl rfl (by omega) (by omega) ?_ | refine pBuild rfl rfl rfl rfl rfl rfl ?_ | refine pE (eAlloc rfl rfl rfl rfl) rfl ?_ | refine pE (eBox rfl rfl rfl rfl rfl) rfl ?_ | refine pE (eSt rfl rfl rfl rfl rfl rfl rfl rfl rfl) rfl ?_ | refine pE (eBs rfl rfl rfl rfl rfl rfl rfl rfl rfl) rfl ?_)
  refine pCo 0 (pick_ac c p 4 hok (by omega)) rfl rfl rfl rfl (fun _ => rfl) (fun _ _ => rfl) rfl rfl rfl (by decide) (by repeat' (first | exact trivial | exact rfl | refine And.intro ?_ ?_ | exact Or.inl ⟨_, rfl, rfl⟩ | exact ⟨_, rfl, rfl⟩ | exact bor_sl rfl (by assumption))) ?_
  intro k1 hk1
  repeat (first | refine p1 rfl rfl rfl rfl ?_ | refine al_end ?_ | refine awp_seq ?_ | refine awp_region ?_ | refine awp_block ?_ | refine awp_skip' ?_ | refine awp_ret' ?_ | refine awp_exit' ?_ | refine xt_sq_n ?_ | refine xt_bk_n ?_ | refine xt_sq_r ?_ | refine xt_bk_r ?_ | refine xt_sq_x ?_ | refine xt_bk_eq ?_ | refine xt_bk_ne rfl ?_ | refine p0 rfl rfl rfl ?_ | refine p0n rfl rfl ?_ | refine pAr rfl rfl rfl rfl rfl rfl rfl (by omega) (by omega) ?_ | refine pBuild rfl rfl rfl rfl rfl rfl ?_ | refine pE (eAlloc rfl rfl rfl rfl) rfl ?_ | refine pE (eBox rfl rfl rfl rfl rfl) rfl ?_ | refine pE (eSt rfl rfl rfl rfl rfl rfl rfl rfl rfl) rfl ?_ | refine pE (eBs rfl rfl rfl rfl rfl rfl rfl rfl rfl) rfl ?_)
  refine pCo 0 (pick_ac c (p + 1) 3 hok (by omega)) rfl rfl rfl rfl (fun _ => rfl) (fun _ _ => rfl) rfl rfl rfl (by decide) (by repeat' (first | exact trivial | exact rfl | refine And.intro ?_ ?_ | exact Or.inl ⟨_, rfl, rfl⟩ | exact ⟨_, rfl, rfl⟩ | exact bor_sl rfl (by assumption))) ?_
  intro k2 hk2
  obtain ⟨n, hn⟩ : ∃ n : Nat, 1 + k2 = (n : Int) := ⟨(1 + k2).toNat, by have := hk2.1; omega⟩
  have hn3 : n ≤ 3 := by have := hk2.2; omega
  have hk0 := hk2.1
  have hk1b : -1 ≤ k1 ∧ k1 ≤ 9 := by have := hk1.1; have := hk1.2; omega
  repeat (first | refine p1 rfl rfl rfl rfl ?_ | refine al_end ?_ | refine awp_seq ?_ | refine awp_region ?_ | refine awp_block ?_ | refine awp_skip' ?_ | refine awp_ret' ?_ | refine awp_exit' ?_ | refine xt_sq_n ?_ | refine xt_bk_n ?_ | refine xt_sq_r ?_ | refine xt_bk_r ?_ | refine xt_sq_x ?_ | refine xt_bk_eq ?_ | refine xt_bk_ne rfl ?_ | refine p0 rfl rfl rfl ?_ | refine p0n rfl rfl ?_ | refine pAr rfl rfl rfl rfl rfl rfl rfl (by omega) (by omega) ?_ | refine pBuild rfl rfl rfl rfl rfl rfl ?_ | refine pE (eAlloc rfl rfl rfl rfl) rfl ?_ | refine pE (eBox rfl rfl rfl rfl rfl) rfl ?_ | refine pE (eSt rfl rfl rfl rfl rfl rfl rfl rfl rfl) rfl ?_ | refine pE (eBs rfl rfl rfl rfl rfl rfl rfl rfl rfl) rfl ?_)
  rw [hn]
  refine awp_loopE (fun a : Nat × Nat × List Int => { fr := [(0, .h (.ptr 0 0)), (3, .h (.sl 1 0 a.2.2.length)), (4, .h (.c (.int .i64 n))), (5, .h (.c (.int .i64 a.1)))], hp := [(0, rdB c a.2.1), (1, .arr 3 1 (ints a.2.2))], nx := 2 })
    (fun m a => a.1 ≤ n ∧ m = n - a.1 ∧ a.2.2.length = a.1 + 1 ∧ a.2.1 ≤ p + 2 + a.1 ∧ ∀ x ∈ a.2.2, -1 ≤ x ∧ x ≤ 9) n (0, p + 2, [k1]) [(0, 0), (1, 1)] ⟨rfl, rfl, rfl, by repeat (first | exact trivial | refine ⟨rfl, ?_⟩), by repeat (first | exact trivial | refine ⟨rfl, ?_⟩)⟩ ⟨Nat.zero_le _, rfl, rfl, Nat.le_refl _, fun x hx => by simp at hx; rw [hx]; exact hk1b⟩ ?_
  rintro m ⟨i, q, L⟩ ⟨hi, rfl, hL, hq, hx⟩
  simp only at hi hL hq hx ⊢
  repeat' (first | refine p1 rfl rfl rfl rfl ?_ | refine al_end ?_ | refine awp_seq ?_ | refine awp_region ?_ | refine awp_block ?_ | refine awp_skip' ?_ | refine awp_ret' ?_ | refine awp_exit' ?_ | refine xt_sq_n ?_ | refine xt_bk_n ?_ | refine xt_sq_r ?_ | refine xt_bk_r ?_ | refine xt_sq_x ?_ | refine xt_bk_eq ?_ | refine xt_bk_ne rfl ?_ | refine p0 rfl rfl rfl ?_ | refine p0n rfl rfl ?_ | refine pAr rfl rfl rfl rfl rfl rfl rfl (by omega) (by omega) ?_ | refine pBuild rfl rfl rfl rfl rfl rfl ?_ | refine pE (eAlloc rfl rfl rfl rfl) rfl ?_ | refine pE (eBox rfl rfl rfl rfl rfl) rfl ?_ | refine pE (eSt rfl rfl rfl rfl rfl rfl rfl rfl rfl) rfl ?_ | refine pE (eBs rfl rfl rfl rfl rfl rfl rfl rfl rfl) rfl ?_ | refine awp_cond (b := true) rfl (fun _ => ?_) (fun h => Bool.noConfusion h) | refine awp_cond (b := false) rfl (fun h => Bool.noConfusion h) (fun _ => ?_) | ((fail_if_success refine pG (b := true) rfl rfl ?_ ?_); (fail_if_success refine pG (b := false) rfl rfl ?_ ?_); (refine pG rfl rfl (fun hc => ?_) (fun hc => ?_)) <;> try simp at hc) | ((refine awp_cond rfl (fun hc => ?_) (fun hc => ?_)) <;> try simp at hc))
  · have hi' : i < n := by omega
    have hb := hx L[i] (List.getElem_mem (by omega))
    ((repeat (first | refine awp_seq ?_ | refine awp_block ?_ | refine awp_skip' ?_ | refine xt_sq_n ?_ | refine xt_bk_n ?_)); refine awp_draw2 [(0, true), (1, true), (2, true), (3, true), (4, true), (5, true), (6, true), (7, false), (8, true), (9, true), (10, false), (11, false), (12, true)] [11] [0, 1] [0] mixed (by kernel_rfl) (by kernel_rfl) rfl rfl rfl rfl ?_)
    repeat (first | refine u1 rfl rfl rfl rfl rfl ?_ | refine uAr rfl rfl rfl rfl rfl rfl rfl rfl (by omega) (by omega) ?_ | refine uE rfl (eBs rfl rfl rfl rfl rfl rfl rfl rfl rfl) rfl rfl rfl rfl rfl ?_ | refine ah2_nil ?_)
    refine uIx0 i rfl rfl rfl rfl rfl rfl rfl rfl rfl rfl rfl rfl (by omega) ?_
    refine uLdD (f := int1) [4, 5, 8, 9, 10, 11] i 0 rfl rfl rfl rfl rfl rfl rfl rfl rfl (by kernel_rfl) rfl rfl (fun _ => rfl) rfl (Nat.zero_le _) (by omega) rfl ?_
    repeat (first | refine u1 rfl rfl rfl rfl rfl ?_ | refine uAr rfl rfl rfl rfl rfl rfl rfl rfl (by omega) (by omega) ?_ | refine uE rfl (eBs rfl rfl rfl rfl rfl rfl rfl rfl rfl) rfl rfl rfl rfl rfl ?_ | refine ah2_nil ?_)
    refine uCo 0 (pick_ac c q 3 hok (by omega)) rfl rfl rfl rfl rfl rfl (fun _ => rfl) (fun _ _ => rfl) rfl rfl rfl rfl (by decide) rfl rfl (by repeat' (first | exact trivial | exact rfl | refine And.intro ?_ ?_ | exact Or.inl ⟨_, rfl, rfl⟩ | exact ⟨_, rfl, rfl⟩ | exact bor_sl rfl (by assumption))) ?_
    intro k3 hk3
    have h3 := hk3.1
    have h4 := hk3.2
    repeat (first | refine u1 rfl rfl rfl rfl rfl ?_ | refine uAr rfl rfl rfl rfl rfl rfl rfl rfl (by omega) (by omega) ?_ | refine uE rfl (eBs rfl rfl rfl rfl rfl rfl rfl rfl rfl) rfl rfl rfl rfl rfl ?_ | refine ah2_nil ?_)
    refine uRem rfl rfl rfl rfl rfl rfl rfl (by omega) (by omega) ?_
    repeat (first | refine u1 rfl rfl rfl rfl rfl ?_ | refine uAr rfl rfl rfl rfl rfl rfl rfl rfl (by omega) (by omega) ?_ | refine uE rfl (eBs rfl rfl rfl rfl rfl rfl rfl rfl rfl) rfl rfl rfl rfl rfl ?_ | refine ah2_nil ?_)
    refine uLate rfl (eAp1 (f := int1) (L := L) ((L[i] + 1 + k3) % 4) rfl rfl rfl rfl rfl rfl rfl rfl rfl rfl rfl (fun _ => rfl) rfl (by omega) rfl) rfl rfl rfl rfl ?_
    repeat (first | refine u1 rfl rfl rfl rfl rfl ?_ | refine uAr rfl rfl rfl rfl rfl rfl rfl rfl (by omega) (by omega) ?_ | refine uE rfl (eBs rfl rfl rfl rfl rfl rfl rfl rfl rfl) rfl rfl rfl rfl rfl ?_ | refine ah2_nil ?_)
    repeat (first | refine p1 rfl rfl rfl rfl ?_ | refine al_end ?_ | refine awp_seq ?_ | refine awp_region ?_ | refine awp_block ?_ | refine awp_skip' ?_ | refine awp_ret' ?_ | refine awp_exit' ?_ | refine xt_sq_n ?_ | refine xt_bk_n ?_ | refine xt_sq_r ?_ | refine xt_bk_r ?_ | refine xt_sq_x ?_ | refine xt_bk_eq ?_ | refine xt_bk_ne rfl ?_ | refine p0 rfl rfl rfl ?_ | refine p0n rfl rfl ?_ | refine pAr rfl rfl rfl rfl rfl rfl rfl (by omega) (by omega) ?_ | refine pBuild rfl rfl rfl rfl rfl rfl ?_ | refine pE (eAlloc rfl rfl rfl rfl) rfl ?_ | refine pE (eBox rfl rfl rfl rfl rfl) rfl ?_ | refine pE (eSt rfl rfl rfl rfl rfl rfl rfl rfl rfl) rfl ?_ | refine pE (eBs rfl rfl rfl rfl rfl rfl rfl rfl rfl) rfl ?_)
    exact lp_end (n - (i + 1)) (i + 1, q + 1, L ++ [(L[i] + 1 + k3) % 4]) [(0, 0), (1, 3)] (by omega) (by rw [List.length_append]; exact ⟨rfl, rfl, rfl, by repeat (first | exact trivial | refine ⟨rfl, ?_⟩), by repeat (first | exact trivial | refine ⟨rfl, ?_⟩)⟩) ⟨by omega, rfl, by simp [hL], by show q + 1 ≤ _; omega, fun x hx' => by
      rcases List.mem_append.1 hx' with h | h
      · exact hx x h
      · simp at h; omega⟩
  · have hi' : i = n := by omega
    have hth : ∀ (q : Nat) (L : List Int), Ob.Tgs [0, 1] [rdB c q, .arr 3 1 (ints L)] := fun q L => ⟨rdB_tgs c q, ints_tgs L, trivial⟩
    refine pCo 0 (pick_ac c q 24 hok (by omega)) rfl rfl rfl rfl (fun _ => rfl) (fun _ _ => rfl) rfl rfl rfl (by decide) (by repeat' (first | exact trivial | exact rfl | refine And.intro ?_ ?_ | exact Or.inl ⟨_, rfl, rfl⟩ | exact ⟨_, rfl, rfl⟩ | exact bor_sl rfl (by assumption))) ?_
    intro k4 hk4
    repeat' (first | refine p1 rfl rfl rfl rfl ?_ | refine al_end ?_ | refine awp_seq ?_ | refine awp_region ?_ | refine awp_block ?_ | refine awp_skip' ?_ | refine awp_ret' ?_ | refine awp_exit' ?_ | refine xt_sq_n ?_ | refine xt_bk_n ?_ | refine xt_sq_r ?_ | refine xt_bk_r ?_ | refine xt_sq_x ?_ | refine xt_bk_eq ?_ | refine xt_bk_ne rfl ?_ | refine p0 rfl rfl rfl ?_ | refine p0n rfl rfl ?_ | refine pAr rfl rfl rfl rfl rfl rfl rfl (by omega) (by omega) ?_ | refine pBuild rfl rfl rfl rfl rfl rfl ?_ | refine pE (eAlloc rfl rfl rfl rfl) rfl ?_ | refine pE (eBox rfl rfl rfl rfl rfl) rfl ?_ | refine pE (eSt rfl rfl rfl rfl rfl rfl rfl rfl rfl) rfl ?_ | refine pE (eBs rfl rfl rfl rfl rfl rfl rfl rfl rfl) rfl ?_ | refine awp_cond (b := true) rfl (fun _ => ?_) (fun h => Bool.noConfusion h) | refine awp_cond (b := false) rfl (fun h => Bool.noConfusion h) (fun _ => ?_) | ((fail_if_success refine pG (b := true) rfl rfl ?_ ?_); (fail_if_success refine pG (b := false) rfl rfl ?_ ?_); (refine pG rfl rfl (fun hc => ?_) (fun hc => ?_)) <;> try simp at hc) | ((refine awp_cond rfl (fun hc => ?_) (fun hc => ?_)) <;> try simp at hc))
    · refine pCut0 1 rfl rfl rfl rfl rfl rfl rfl rfl rfl rfl rfl (by omega) ?_
      refine al_truncR (f := int1) 1 1 rfl (fun _ => rfl) ?_
      have e : (L.take 1).length = 1 := by simp; omega
      repeat (first | refine p1 rfl rfl rfl rfl ?_ | refine al_end ?_ | refine awp_seq ?_ | refine awp_region ?_ | refine awp_block ?_ | refine awp_skip' ?_ | refine awp_ret' ?_ | refine awp_exit' ?_ | refine xt_sq_n ?_ | refine xt_bk_n ?_ | refine xt_sq_r ?_ | refine xt_bk_r ?_ | refine xt_sq_x ?_ | refine xt_bk_eq ?_ | refine xt_bk_ne rfl ?_ | refine p0 rfl rfl rfl ?_ | refine p0n rfl rfl ?_ | refine pAr rfl rfl rfl rfl rfl rfl rfl (by omega) (by omega) ?_ | refine pBuild rfl rfl rfl rfl rfl rfl ?_ | refine pE (eAlloc rfl rfl rfl rfl) rfl ?_ | refine pE (eBox rfl rfl rfl rfl rfl) rfl ?_ | refine pE (eSt rfl rfl rfl rfl rfl rfl rfl rfl rfl) rfl ?_ | refine pE (eBs rfl rfl rfl rfl rfl rfl rfl rfl rfl) rfl ?_)
      refine xt_finG [(0, 0), (1, 1)] (.h (.sl 1 0 1)) [rdB c (q + 1), .arr 3 1 (ints (L.take 1))] (.inr rfl) rfl rfl rfl rfl rfl ⟨rfl, rfl, trivial⟩ trivial (hth _ _) ⟨(L.take 1, q + 1), ⟨by show q + 1 ≤ _; omega, by show (L.take 1).length ≤ 5; omega, fun x h => hx x (List.mem_of_mem_take h)⟩, rfl, by rw [e]⟩
    · refine pCo 0 (pick_ac c (q + 1) 10 hok (by omega)) rfl rfl rfl rfl (fun _ => rfl) (fun _ _ => rfl) rfl rfl rfl (by decide) (by repeat' (first | exact trivial | exact rfl | refine And.intro ?_ ?_ | exact Or.inl ⟨_, rfl, rfl⟩ | exact ⟨_, rfl, rfl⟩ | exact bor_sl rfl (by assumption))) ?_
      intro k5 hk5
      have h5 := hk5.1
      have h6 := hk5.2
      repeat (first | refine p1 rfl rfl rfl rfl ?_ | refine al_end ?_ | refine awp_seq ?_ | refine awp_region ?_ | refine awp_block ?_ | refine awp_skip' ?_ | refine awp_ret' ?_ | refine awp_exit' ?_ | refine xt_sq_n ?_ | refine xt_bk_n ?_ | refine xt_sq_r ?_ | refine xt_bk_r ?_ | refine xt_sq_x ?_ | refine xt_bk_eq ?_ | refine xt_bk_ne rfl ?_ | refine p0 rfl rfl rfl ?_ | refine p0n rfl rfl ?_ | refine pAr rfl rfl rfl rfl rfl rfl rfl (by omega) (by omega) ?_ | refine pBuild rfl rfl rfl rfl rfl rfl ?_ | refine pE (eAlloc rfl rfl rfl rfl) rfl ?_ | refine pE (eBox rfl rfl rfl rfl rfl) rfl ?_ | refine pE (eSt rfl rfl rfl rfl rfl rfl rfl rfl rfl) rfl ?_ | refine pE (eBs rfl rfl rfl rfl rfl rfl rfl rfl rfl) rfl ?_)
      refine pAp1 (f := int1) (L := L) (k5 - 1) rfl rfl rfl rfl rfl rfl rfl rfl rfl rfl rfl rfl (fun _ => rfl) rfl (by omega) rfl ?_
      repeat (first | refine p1 rfl rfl rfl rfl ?_ | refine al_end ?_ | refine awp_seq ?_ | refine awp_region ?_ | refine awp_block ?_ | refine awp_skip' ?_ | refine awp_ret' ?_ | refine awp_exit' ?_ | refine xt_sq_n ?_ | refine xt_bk_n ?_ | refine xt_sq_r ?_ | refine xt_bk_r ?_ | refine xt_sq_x ?_ | refine xt_bk_eq ?_ | refine xt_bk_ne rfl ?_ | refine p0 rfl rfl rfl ?_ | refine p0n rfl rfl ?_ | refine pAr rfl rfl rfl rfl rfl rfl rfl (by omega) (by omega) ?_ | refine pBuild rfl rfl rfl rfl rfl rfl ?_ | refine pE (eAlloc rfl rfl rfl rfl) rfl ?_ | refine pE (eBox rfl rfl rfl rfl rfl) rfl ?_ | refine pE (eSt rfl rfl rfl rfl rfl rfl rfl rfl rfl) rfl ?_ | refine pE (eBs rfl rfl rfl rfl rfl rfl rfl rfl rfl) rfl ?_)
      refine xt_finG [(0, 0), (1, 3)] (.h (.sl 1 0 (L.length + 1))) [rdB c (q + 2), .arr 3 1 (ints (L ++ [k5 - 1]))] (.inr rfl) rfl rfl rfl rfl rfl ⟨rfl, rfl, trivial⟩ trivial (hth _ _) ⟨(L ++ [k5 - 1], q + 2), ⟨by show q + 2 ≤ _; omega, by simp; omega, fun x h => ?_⟩, rfl, by simp⟩
      rcases List.mem_append.1 h with h | h
      · exact hx x h
      · simp at h; omega
    · exact xt_finG [(0, 0), (1, 1)] (.h (.sl 1 0 L.length)) [rdB c (q + 1), .arr 3 1 (ints L)] (.inr rfl) rfl rfl rfl rfl rfl ⟨rfl, rfl, trivial⟩ trivial (hth _ _) ⟨(L, q + 1), ⟨by show q + 1 ≤ _; omega, by show L.length ≤ 5; omega, hx⟩, rfl, rfl⟩
end Go.Proofs.Ytlgfdjmnedfjfaa
