import Derived.Test.YtjijkdhjfanpaaaC12
import Derived.Test.YtjijkdhjfanpaaaEngC
namespace Go.Proofs.Ytjijkdhjfanpaaa
open Go.RowKit
attribute [local irreducible] AWP AL XT AC ES PS AH AH2 LpQ
set_option maxHeartbeats 2000000 in
set_option maxRecDepth 100000 in
theorem implTurn_ac (tg : Nat) (e : Int) (l : List (List Int)) (hl : Sml 2097152 l) : AC Try.prog 36 [cv tg e l] [] [0]
    (fun r h => ∃ J : List (List Int), (J = [] ∨ ∃ x, J = [x]) ∧ h = [.arr 32 1 (ios (J ++ turnL e l))] ∧ r = .tup [.agg [.c (.int .i64 (turnE e l)), .sl 0 J.length (turnL e l).length], .h (.c (.bool (turnK e l)))]) := by
  refine ac_bodyM teok Try.func36 rfl (by kernel_rfl) Try.ntmps36 rfl rfl ?_
  intro w0 ps g0 im0
  repeat (first | refine p1 rfl rfl rfl rfl ?_ | refine al_end ?_ | refine awp_seq ?_ | refine awp_region ?_ | refine awp_block ?_ | refine awp_skip' ?_ | refine awp_ret' ?_ | refine awp_exit' ?_ | refine xt_sq_n ?_ | refine xt_bk_n ?_ | refine xt_sq_r ?_ | refine xt_bk_r ?_ | refine xt_sq_x ?_ | refine xt_bk_eq ?_ | refine xt_bk_ne rfl ?_ | refine p0 rfl rfl rfl ?_ | refine p0n rfl rfl ?_ | refine pAr rfl rfl rfl rfl rfl rfl rfl (by omega) (by omega) ?_ | refine pBuild rfl rfl rfl rfl rfl rfl ?_ | refine pE (eAlloc rfl rfl rfl rfl) rfl ?_ | refine pE (eBox rfl rfl rfl rfl rfl) rfl ?_ | refine pE (eSt rfl rfl rfl rfl rfl rfl rfl rfl rfl) rfl ?_ | refine pE (eBs rfl rfl rfl rfl rfl rfl rfl rfl rfl) rfl ?_)
  refine pCv (implCV_ac tg e l hl) rfl rfl (fun _ => rfl) rfl rfl rfl (by decide) (by repeat' (first | exact trivial | exact rfl | refine And.intro ?_ ?_ | exact Or.inl ⟨_, rfl, rfl⟩ | exact ⟨_, rfl, rfl⟩ | exact bor_sl rfl (by assumption) | exact bor_ios rfl | exact bor_ios1 rfl | exact bor_iosJ rfl)) ?_
  repeat' (first | refine p1 rfl rfl rfl rfl ?_ | refine al_end ?_ | refine awp_seq ?_ | refine awp_region ?_ | refine awp_block ?_ | refine awp_skip' ?_ | refine awp_ret' ?_ | refine awp_exit' ?_ | refine xt_sq_n ?_ | refine xt_bk_n ?_ | refine xt_sq_r ?_ | refine xt_bk_r ?_ | refine xt_sq_x ?_ | refine xt_bk_eq ?_ | refine xt_bk_ne rfl ?_ | refine p0 rfl rfl rfl ?_ | refine p0n rfl rfl ?_ | refine pAr rfl rfl rfl rfl rfl rfl rfl (by omega) (by omega) ?_ | refine pBuild rfl rfl rfl rfl rfl rfl ?_ | refine pE (eAlloc rfl rfl rfl rfl) rfl ?_ | refine pE (eBox rfl rfl rfl rfl rfl) rfl ?_ | refine pE (eSt rfl rfl rfl rfl rfl rfl rfl rfl rfl) rfl ?_ | refine pE (eBs rfl rfl rfl rfl rfl rfl rfl rfl rfl) rfl ?_ | refine awp_cond (b := true) rfl (fun _ => ?_) (fun h => Bool.noConfusion h) | refine awp_cond (b := false) rfl (fun h => Bool.noConfusion h) (fun _ => ?_) | ((fail_if_success refine pG (b := true) rfl rfl ?_ ?_); (fail_if_success refine pG (b := false) rfl rfl ?_ ?_); (refine pG rfl rfl (fun hc => ?_) (fun hc => ?_)) <;> try simp at hc) | ((refine awp_cond rfl (fun hc => ?_) (fun hc => ?_)) <;> try simp at hc))
  · refine xt_nownB (pre := [.c (.int .i64 0)]) (post := []) 1 32 1 rfl (xt_M ?_)
    exact xt_finG [(0, 2)] (.tup [.agg [.c (.int .i64 0), .sl 0 0 0], .h (.c (.bool false))]) [.arr 32 1 []] (.inr rfl) rfl rfl rfl rfl rfl ⟨rfl, trivial⟩ (by repeat' (first | exact trivial | refine And.intro ?_ ?_)) ⟨trivial, trivial⟩ ⟨[], .inl rfl, by simp [turnL, *]; rfl, by simp [turnE, turnL, turnK, *]⟩
  have hv : cval e l = true := by assumption
  obtain ⟨he, h3, hks⟩ := cval_iff.1 hv
  refine pC (eCall (copyCache_ac tg e l hl) 99 [] rfl rfl rfl rfl rfl rfl (by repeat' (first | exact trivial | exact rfl | refine And.intro ?_ ?_ | exact Or.inl ⟨_, rfl, rfl⟩ | exact ⟨_, rfl, rfl⟩ | exact bor_sl rfl (by assumption) | exact bor_ios rfl | exact bor_ios1 rfl | exact bor_iosJ rfl)) (by decide)) rfl ?_
  rintro _ _ ⟨rfl, rfl⟩
  repeat' (first | refine p1 rfl rfl rfl rfl ?_ | refine al_end ?_ | refine awp_seq ?_ | refine awp_region ?_ | refine awp_block ?_ | refine awp_skip' ?_ | refine awp_ret' ?_ | refine awp_exit' ?_ | refine xt_sq_n ?_ | refine xt_bk_n ?_ | refine xt_sq_r ?_ | refine xt_bk_r ?_ | refine xt_sq_x ?_ | refine xt_bk_eq ?_ | refine xt_bk_ne rfl ?_ | refine p0 rfl rfl rfl ?_ | refine p0n rfl rfl ?_ | refine pAr rfl rfl rfl rfl rfl rfl rfl (by omega) (by omega) ?_ | refine pBuild rfl rfl rfl rfl rfl rfl ?_ | refine pE (eAlloc rfl rfl rfl rfl) rfl ?_ | refine pE (eBox rfl rfl rfl rfl rfl) rfl ?_ | refine pE (eSt rfl rfl rfl rfl rfl rfl rfl rfl rfl) rfl ?_ | refine pE (eBs rfl rfl rfl rfl rfl rfl rfl rfl rfl) rfl ?_ | refine awp_cond (b := true) rfl (fun _ => ?_) (fun h => Bool.noConfusion h) | refine awp_cond (b := false) rfl (fun h => Bool.noConfusion h) (fun _ => ?_) | ((fail_if_success refine pG (b := true) rfl rfl ?_ ?_); (fail_if_success refine pG (b := false) rfl rfl ?_ ?_); (refine pG rfl rfl (fun hc => ?_) (fun hc => ?_)) <;> try simp at hc) | ((refine awp_cond rfl (fun hc => ?_) (fun hc => ?_)) <;> try simp at hc))
  · have : e = 99 := by omega
    have t1 : turnL e l = l := by rw [turnL, if_pos hv, if_pos this]
    have t2 : turnE e l = e := by rw [turnE, if_pos hv, if_pos this]
    have t3 : turnK e l = false := by simp [turnK, this]
    rw [t1, t2, t3]
    refine xt_M ?_
    exact xt_finG [(0, 2)] (.tup [.agg [.c (.int .i64 e), .sl 0 0 l.length], .h (.c (.bool false))]) [.arr 32 1 (ios l)] (.inr rfl) rfl rfl rfl rfl rfl ⟨rfl, trivial⟩ (by repeat' (first | exact trivial | refine And.intro ?_ ?_)) ⟨ios_tgs l, trivial⟩ ⟨[], .inl rfl, rfl, rfl⟩
  have hne : e ≠ 99 := by omega
  obtain ⟨a, b, c, rfl⟩ : ∃ a b c, l = [a, b, c] := by
    match l, h3 with
    | [a, b, c], _ => exact ⟨a, b, c, rfl⟩
  have t1 : turnL e [a, b, c] = [b, c, []] := by rw [turnL, if_pos hv, if_neg hne]; rfl
  have t2 : turnE e [a, b, c] = e + 1 := by rw [turnE, if_pos hv, if_neg hne]
  have t3 : turnK e [a, b, c] = true := by simp [turnK, hv, hne]
  rw [t1, t2, t3]
  ((repeat (first | refine awp_seq ?_ | refine awp_block ?_ | refine awp_skip' ?_ | refine xt_sq_n ?_ | refine xt_bk_n ?_)); refine awp_draw (CT.cons (0, true) <| CT.cons (1, true) <| CT.cons (2, true) <| CT.cons (3, true) <| CT.cons (4, true) <| CT.cons (5, true) <| CT.cons (6, false) <| CT.cons (7, false) <| CT.cons (8, true) <| CT.cons (9, false) <| CT.cons (10, true) <| CT.nil) [1, 2] mixed (by kernel_rfl) (by kernel_rfl) rfl rfl ?_)
  repeat' (first | refine d1 rfl rfl rfl rfl rfl ?_ | refine dBuild rfl rfl rfl rfl rfl rfl rfl ?_ | refine d0 rfl rfl rfl rfl ?_ | refine d0n rfl rfl rfl ?_ | refine dE rfl (eAlloc rfl rfl rfl rfl) rfl rfl rfl ?_ | refine dE rfl (eBox rfl rfl rfl rfl rfl) rfl rfl rfl ?_ | refine dE rfl (eSt rfl rfl rfl rfl rfl rfl rfl rfl rfl) rfl rfl rfl ?_ | refine dE rfl (eBs rfl rfl rfl rfl rfl rfl rfl rfl rfl) rfl rfl rfl ?_ | refine d2 rfl rfl rfl rfl rfl ?_ | refine ah_nil ?_ | refine dAr rfl rfl rfl rfl rfl rfl rfl rfl (by omega) (by omega) ?_ | ((fail_if_success refine dG (b := true) rfl rfl rfl ?_ ?_); (fail_if_success refine dG (b := false) rfl rfl rfl ?_ ?_); (refine dG rfl rfl rfl (fun hc => ?_) (fun hc => ?_)) <;> try simp at hc))
  refine dCutP 1 3 rfl rfl rfl rfl rfl rfl rfl rfl rfl rfl rfl rfl rfl (by omega) (by omega) ?_
  repeat' (first | refine d1 rfl rfl rfl rfl rfl ?_ | refine dBuild rfl rfl rfl rfl rfl rfl rfl ?_ | refine d0 rfl rfl rfl rfl ?_ | refine d0n rfl rfl rfl ?_ | refine dE rfl (eAlloc rfl rfl rfl rfl) rfl rfl rfl ?_ | refine dE rfl (eBox rfl rfl rfl rfl rfl) rfl rfl rfl ?_ | refine dE rfl (eSt rfl rfl rfl rfl rfl rfl rfl rfl rfl) rfl rfl rfl ?_ | refine dE rfl (eBs rfl rfl rfl rfl rfl rfl rfl rfl rfl) rfl rfl rfl ?_ | refine d2 rfl rfl rfl rfl rfl ?_ | refine ah_nil ?_ | refine dAr rfl rfl rfl rfl rfl rfl rfl rfl (by omega) (by omega) ?_ | ((fail_if_success refine dG (b := true) rfl rfl rfl ?_ ?_); (fail_if_success refine dG (b := false) rfl rfl rfl ?_ ?_); (refine dG rfl rfl rfl (fun hc => ?_) (fun hc => ?_)) <;> try simp at hc))
  refine ah_es rfl (eAppO (zA := ios [a, b, c] ++ [.nil]) (zB := ios [b, c] ++ [.nil]) rfl rfl rfl rfl rfl rfl rfl rfl rfl rfl rfl rfl (by omega) rfl (by omega) (by omega) rfl rfl) rfl rfl (by rintro _ (rfl | rfl) <;> exact Nat.le_succ _) ?_
  rintro _ (rfl | rfl)
  all_goals
    repeat' (first | refine d1 rfl rfl rfl rfl rfl ?_ | refine dBuild rfl rfl rfl rfl rfl rfl rfl ?_ | refine d0 rfl rfl rfl rfl ?_ | refine d0n rfl rfl rfl ?_ | refine dE rfl (eAlloc rfl rfl rfl rfl) rfl rfl rfl ?_ | refine dE rfl (eBox rfl rfl rfl rfl rfl) rfl rfl rfl ?_ | refine dE rfl (eSt rfl rfl rfl rfl rfl rfl rfl rfl rfl) rfl rfl rfl ?_ | refine dE rfl (eBs rfl rfl rfl rfl rfl rfl rfl rfl rfl) rfl rfl rfl ?_ | refine d2 rfl rfl rfl rfl rfl ?_ | refine ah_nil ?_ | refine dAr rfl rfl rfl rfl rfl rfl rfl rfl (by omega) (by omega) ?_ | ((fail_if_success refine dG (b := true) rfl rfl rfl ?_ ?_); (fail_if_success refine dG (b := false) rfl rfl rfl ?_ ?_); (refine dG rfl rfl rfl (fun hc => ?_) (fun hc => ?_)) <;> try simp at hc))
    repeat (first | refine p1 rfl rfl rfl rfl ?_ | refine al_end ?_ | refine awp_seq ?_ | refine awp_region ?_ | refine awp_block ?_ | refine awp_skip' ?_ | refine awp_ret' ?_ | refine awp_exit' ?_ | refine xt_sq_n ?_ | refine xt_bk_n ?_ | refine xt_sq_r ?_ | refine xt_bk_r ?_ | refine xt_sq_x ?_ | refine xt_bk_eq ?_ | refine xt_bk_ne rfl ?_ | refine p0 rfl rfl rfl ?_ | refine p0n rfl rfl ?_ | refine pAr rfl rfl rfl rfl rfl rfl rfl (by omega) (by omega) ?_ | refine pBuild rfl rfl rfl rfl rfl rfl ?_ | refine pE (eAlloc rfl rfl rfl rfl) rfl ?_ | refine pE (eBox rfl rfl rfl rfl rfl) rfl ?_ | refine pE (eSt rfl rfl rfl rfl rfl rfl rfl rfl rfl) rfl ?_ | refine pE (eBs rfl rfl rfl rfl rfl rfl rfl rfl rfl) rfl ?_)
  · refine xt_wkM 5 (ios [a, b, c, []]) rfl ⟨.inl rfl, .inl rfl, .inl rfl, .inr ⟨rfl, _, _, rfl⟩, trivial⟩ (xt_M ?_)
    exact xt_finG [(0, 5)] (.tup [.agg [.c (.int .i64 (e + 1)), .sl 0 1 3], .h (.c (.bool true))]) [.arr 32 1 (ios [a, b, c, []])] (.inr rfl) rfl rfl rfl rfl rfl ⟨rfl, trivial⟩ (by repeat' (first | exact trivial | refine And.intro ?_ ?_)) ⟨ios_tgs _, trivial⟩ ⟨[a], .inr ⟨a, rfl⟩, rfl, rfl⟩
  · refine xt_wkM 5 (ios [b, c, []]) rfl ⟨.inl rfl, .inl rfl, .inr ⟨rfl, _, _, rfl⟩, trivial⟩ (xt_M ?_)
    exact xt_finG [(0, 5)] (.tup [.agg [.c (.int .i64 (e + 1)), .sl 0 0 3], .h (.c (.bool true))]) [.arr 32 1 (ios [b, c, []])] (.inr rfl) rfl rfl rfl rfl rfl ⟨rfl, trivial⟩ (by repeat' (first | exact trivial | refine And.intro ?_ ?_)) ⟨ios_tgs _, trivial⟩ ⟨[], .inl rfl, rfl, rfl⟩
theorem frzJ0 (T : Nat) (l : List (List Int)) : CV.brws T ((ios ([] ++ l)).drop (0 * 1)) = irs T l := iow_brw int1_plain 3 T l
theorem frzJ1 (T : Nat) (x : List Int) (l : List (List Int)) : CV.brws T ((ios ([x] ++ l)).drop (1 * 1)) = irs T l := iow_brw int1_plain 3 T l
theorem bor_iosJ {rest : List (Nat × Ob)} {ps : List Nat} {T id n ty : Nat} {J l : List (List Int)} (hl : look id rest = some (.arr ty 1 (ios (J ++ l)))) : BorH rest ps T (.sl id J.length n) (.c (.rd T n (irs T l))) :=
  .inr ⟨ty, 1, _, _, (ios l).length, hl, by
    have e1 : (ios (J ++ l)).drop (J.length * 1) = ios l := by
      unfold ios
      rw [rows_append, Nat.mul_one, List.drop_append_of_le_length (by rw [iow_len]; exact Nat.le_refl _), List.drop_of_length_le (by rw [iow_len]; exact Nat.le_refl _), List.nil_append]
    rw [e1, List.take_length]
    exact iow_brw int1_plain 3 T l, rfl⟩
theorem turnL_sml {n : Nat} {e : Int} {l : List (List Int)} (h : Sml n l) (hn : 3 ≤ n) : Sml n (turnL e l) := by
  unfold turnL
  split
  · rename_i hv
    have := (cval_iff.1 hv).2.1
    split
    · exact h
    · refine ⟨by simp; omega, fun x hx => ?_⟩
      rcases List.mem_append.1 hx with h1 | h1
      · exact h.2 x (List.mem_of_mem_drop h1)
      · simp at h1; subst h1; simp
  · exact ⟨by simp, fun x hx => by cases hx⟩
theorem lens_app : ∀ a b : List (List Int), lens (a ++ b) = lens a + lens b
  | [], b => by simp [lens]
  | x :: a, b => by simp only [List.cons_append, lens, lens_app a b]; omega
theorem lens_turn (e : Int) (l : List (List Int)) : lens (turnL e l) ≤ lens l := by
  unfold turnL
  split
  · split
    · exact Nat.le_refl _
    · rw [lens_app]
      cases l with
      | nil => simp [lens]
      | cons x r => simp [lens]
  · simp [lens]
theorem szI_lens {l : List (List Int)} (h : 0 ≤ szI 1048576 l) : lens l ≤ 1048576 := by
  have key : ∀ (l : List (List Int)) (left : Int), 0 ≤ szs left l → (lens l : Int) ≤ left ∨ left < 0 := by
    intro l
    induction l with
    | nil => intro left h; simp only [szs] at h; simp [lens]; omega
    | cons x r ih =>
      intro left h
      simp only [szs] at h
      split at h
      · omega
      · rcases ih _ h with h1 | h1
        · left; simp only [lens]; omega
        · omega
  unfold szI at h
  split at h
  · omega
  · rcases key l _ h with h1 | h1 <;> omega
end Go.Proofs.Ytjijkdhjfanpaaa
