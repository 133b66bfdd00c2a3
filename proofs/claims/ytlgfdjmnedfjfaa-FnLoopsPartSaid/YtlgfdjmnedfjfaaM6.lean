/- Counts of fewer links are valid: for every two codes, with no further condition. -/
import Derived.Test.YtlgfdjmnedfjfaaL19
import Derived.Test.YtlgfdjmnedfjfaaRows
namespace Go.Proofs.Ytlgfdjmnedfjfaa
open Go.RowKit
attribute [local irreducible] AWP AL XT AC ES PS AH AH2 LpQ
set_option maxHeartbeats 1000000 in
set_option maxRecDepth 100000 in
theorem FnLoopsPart_law (xs : List AV) (h : TyAs te [34, 34] xs) : AC Try.prog 6 xs [] [0] (fun r h => h = [] ∧ r = .h (.c (.bool true))) := by
  obtain ⟨y0, ys, rfl, h0, h⟩ := h.cons_inv
  obtain ⟨y1, ys, rfl, h1, h⟩ := h.cons_inv
  obtain rfl := h.nil_inv
  obtain ⟨c, rfl, hcl, hcb⟩ := ty_bytes h0
  obtain ⟨m, rfl, hml, _⟩ := ty_bytes h1
  unfold maxLen at hcl hml
  refine ac_body teok Try.func6 rfl (by kernel_rfl) Try.ntmps6 rfl rfl ?_
  intro w0 ps g0 im0
  repeat' (first | refine p1 rfl rfl rfl rfl ?_ | refine al_end ?_ | refine awp_seq ?_ | refine awp_region ?_ | refine awp_block ?_ | refine awp_skip' ?_ | refine awp_ret' ?_ | refine awp_exit' ?_ | refine xt_sq_n ?_ | refine xt_bk_n ?_ | refine xt_sq_r ?_ | refine xt_bk_r ?_ | refine xt_sq_x ?_ | refine xt_bk_eq ?_ | refine xt_bk_ne rfl ?_ | refine p0 rfl rfl rfl ?_ | refine p0n rfl rfl ?_ | refine pAr rfl rfl rfl rfl rfl rfl rfl (by omega) (by omega) ?_ | refine pBuild rfl rfl rfl rfl rfl rfl ?_ | refine pE (eAlloc rfl rfl rfl rfl) rfl ?_ | refine pE (eBox rfl rfl rfl rfl rfl) rfl ?_ | refine pE (eSt rfl rfl rfl rfl rfl rfl rfl rfl rfl) rfl ?_ | refine pE (eBs rfl rfl rfl rfl rfl rfl rfl rfl rfl) rfl ?_ | refine awp_cond (b := true) rfl (fun _ => ?_) (fun h => Bool.noConfusion h) | refine awp_cond (b := false) rfl (fun h => Bool.noConfusion h) (fun _ => ?_) | ((fail_if_success refine pG (b := true) rfl rfl ?_ ?_); (fail_if_success refine pG (b := false) rfl rfl ?_ ?_); (refine pG rfl rfl (fun hc => ?_) (fun hc => ?_)) <;> try simp at hc) | ((refine awp_cond rfl (fun hc => ?_) (fun hc => ?_)) <;> try simp at hc))
  · exact xt_fin (.inr rfl) rfl trivial ⟨rfl, rfl⟩
  · exact xt_fin (.inr rfl) rfl trivial ⟨rfl, rfl⟩
  refine pC (eCall (drawValid_ac c (by omega) hcb) 99 [] rfl rfl rfl rfl rfl rfl (by repeat' (first | exact trivial | exact rfl | refine And.intro ?_ ?_ | exact Or.inl ⟨_, rfl, rfl⟩ | exact ⟨_, rfl, rfl⟩ | exact bor_sl rfl (by assumption))) (by decide)) rfl ?_
  rintro _ _ ⟨L, hL, rfl, rfl⟩
  have hL1 := hL.l1
  refine al_frz 0 100 rfl rfl (lcs_plain L) ?_
  repeat (first | refine p1 rfl rfl rfl rfl ?_ | refine al_end ?_ | refine awp_seq ?_ | refine awp_region ?_ | refine awp_block ?_ | refine awp_skip' ?_ | refine awp_ret' ?_ | refine awp_exit' ?_ | refine xt_sq_n ?_ | refine xt_bk_n ?_ | refine xt_sq_r ?_ | refine xt_bk_r ?_ | refine xt_sq_x ?_ | refine xt_bk_eq ?_ | refine xt_bk_ne rfl ?_ | refine p0 rfl rfl rfl ?_ | refine p0n rfl rfl ?_ | refine pAr rfl rfl rfl rfl rfl rfl rfl (by omega) (by omega) ?_ | refine pBuild rfl rfl rfl rfl rfl rfl ?_ | refine pE (eAlloc rfl rfl rfl rfl) rfl ?_ | refine pE (eBox rfl rfl rfl rfl rfl) rfl ?_ | refine pE (eSt rfl rfl rfl rfl rfl rfl rfl rfl rfl) rfl ?_ | refine pE (eBs rfl rfl rfl rfl rfl rfl rfl rfl rfl) rfl ?_)
  refine pCv (implLV_ac 99 L (by omega)) rfl rfl (fun _ => rfl) rfl rfl rfl (by decide) (by repeat' (first | exact trivial | exact rfl | refine And.intro ?_ ?_ | exact Or.inl ⟨_, rfl, rfl⟩ | exact ⟨_, rfl, rfl⟩ | exact bor_sl rfl (by assumption))) ?_
  repeat (first | refine p1 rfl rfl rfl rfl ?_ | refine al_end ?_ | refine awp_seq ?_ | refine awp_region ?_ | refine awp_block ?_ | refine awp_skip' ?_ | refine awp_ret' ?_ | refine awp_exit' ?_ | refine xt_sq_n ?_ | refine xt_bk_n ?_ | refine xt_sq_r ?_ | refine xt_bk_r ?_ | refine xt_sq_x ?_ | refine xt_bk_eq ?_ | refine xt_bk_ne rfl ?_ | refine p0 rfl rfl rfl ?_ | refine p0n rfl rfl ?_ | refine pAr rfl rfl rfl rfl rfl rfl rfl (by omega) (by omega) ?_ | refine pBuild rfl rfl rfl rfl rfl rfl ?_ | refine pE (eAlloc rfl rfl rfl rfl) rfl ?_ | refine pE (eBox rfl rfl rfl rfl rfl) rfl ?_ | refine pE (eSt rfl rfl rfl rfl rfl rfl rfl rfl rfl) rfl ?_ | refine pE (eBs rfl rfl rfl rfl rfl rfl rfl rfl rfl) rfl ?_)
  refine pCv (specLV_ac 99 L (by omega)) rfl rfl (fun _ => rfl) rfl rfl rfl (by decide) (by repeat' (first | exact trivial | exact rfl | refine And.intro ?_ ?_ | exact Or.inl ⟨_, rfl, rfl⟩ | exact ⟨_, rfl, rfl⟩ | exact bor_sl rfl (by assumption))) ?_
  repeat' (first | refine p1 rfl rfl rfl rfl ?_ | refine al_end ?_ | refine awp_seq ?_ | refine awp_region ?_ | refine awp_block ?_ | refine awp_skip' ?_ | refine awp_ret' ?_ | refine awp_exit' ?_ | refine xt_sq_n ?_ | refine xt_bk_n ?_ | refine xt_sq_r ?_ | refine xt_bk_r ?_ | refine xt_sq_x ?_ | refine xt_bk_eq ?_ | refine xt_bk_ne rfl ?_ | refine p0 rfl rfl rfl ?_ | refine p0n rfl rfl ?_ | refine pAr rfl rfl rfl rfl rfl rfl rfl (by omega) (by omega) ?_ | refine pBuild rfl rfl rfl rfl rfl rfl ?_ | refine pE (eAlloc rfl rfl rfl rfl) rfl ?_ | refine pE (eBox rfl rfl rfl rfl rfl) rfl ?_ | refine pE (eSt rfl rfl rfl rfl rfl rfl rfl rfl rfl) rfl ?_ | refine pE (eBs rfl rfl rfl rfl rfl rfl rfl rfl rfl) rfl ?_ | refine awp_cond (b := true) rfl (fun _ => ?_) (fun h => Bool.noConfusion h) | refine awp_cond (b := false) rfl (fun h => Bool.noConfusion h) (fun _ => ?_) | ((fail_if_success refine pG (b := true) rfl rfl ?_ ?_); (fail_if_success refine pG (b := false) rfl rfl ?_ ?_); (refine pG rfl rfl (fun hc => ?_) (fun hc => ?_)) <;> try simp at hc) | ((refine awp_cond rfl (fun hc => ?_) (fun hc => ?_)) <;> try simp at hc))
  · exact xt_fin (.inr rfl) rfl trivial ⟨rfl, by simp⟩
  · exact xt_fin (.inr rfl) rfl trivial ⟨rfl, by simp⟩
  have hv : lv L = true := by assumption
  have hL0 : 0 < L.length := by
    rcases Nat.eq_zero_or_pos L.length with h | h
    · exact absurd (List.length_eq_zero_iff.1 h) hc
    · exact h
  refine pRem rfl rfl rfl rfl rfl rfl (by omega) (by omega) ?_
  have e : (m.length : Int) % (L.length : Int) = ((m.length % L.length : Nat) : Int) := (Int.natCast_emod _ _).symm
  have hk : m.length % L.length < L.length := Nat.mod_lt _ hL0
  rw [e]
  generalize m.length % L.length = k at hk ⊢
  repeat (first | refine p1 rfl rfl rfl rfl ?_ | refine al_end ?_ | refine awp_seq ?_ | refine awp_region ?_ | refine awp_block ?_ | refine awp_skip' ?_ | refine awp_ret' ?_ | refine awp_exit' ?_ | refine xt_sq_n ?_ | refine xt_bk_n ?_ | refine xt_sq_r ?_ | refine xt_bk_r ?_ | refine xt_sq_x ?_ | refine xt_bk_eq ?_ | refine xt_bk_ne rfl ?_ | refine p0 rfl rfl rfl ?_ | refine p0n rfl rfl ?_ | refine pAr rfl rfl rfl rfl rfl rfl rfl (by omega) (by omega) ?_ | refine pBuild rfl rfl rfl rfl rfl rfl ?_ | refine pE (eAlloc rfl rfl rfl rfl) rfl ?_ | refine pE (eBox rfl rfl rfl rfl rfl) rfl ?_ | refine pE (eSt rfl rfl rfl rfl rfl rfl rfl rfl rfl) rfl ?_ | refine pE (eBs rfl rfl rfl rfl rfl rfl rfl rfl rfl) rfl ?_)
  ((repeat (first | refine awp_seq ?_ | refine awp_block ?_ | refine awp_skip' ?_ | refine xt_sq_n ?_ | refine xt_bk_n ?_)); refine awp_draw (CT.cons (1, true) <| CT.cons (2, true) <| CT.cons (3, true) <| CT.cons (5, true) <| CT.cons (6, true) <| CT.cons (7, true) <| CT.cons (8, true) <| CT.cons (0, false) <| CT.cons (4, false) <| CT.cons (9, false) <| CT.cons (10, false) <| CT.cons (11, true) <| CT.nil) [] mixed (by kernel_rfl) (by kernel_rfl) rfl rfl ?_)
  repeat' (first | refine d1 rfl rfl rfl rfl rfl ?_ | refine dBuild rfl rfl rfl rfl rfl rfl rfl ?_ | refine d0 rfl rfl rfl rfl ?_ | refine d0n rfl rfl rfl ?_ | refine dE rfl (eAlloc rfl rfl rfl rfl) rfl rfl rfl ?_ | refine dE rfl (eBox rfl rfl rfl rfl rfl) rfl rfl rfl ?_ | refine dE rfl (eSt rfl rfl rfl rfl rfl rfl rfl rfl rfl) rfl rfl rfl ?_ | refine dE rfl (eBs rfl rfl rfl rfl rfl rfl rfl rfl rfl) rfl rfl rfl ?_ | refine d2 rfl rfl rfl rfl rfl ?_ | refine ah_nil ?_ | refine dAr rfl rfl rfl rfl rfl rfl rfl rfl (by omega) (by omega) ?_ | ((fail_if_success refine dG (b := true) rfl rfl rfl ?_ ?_); (fail_if_success refine dG (b := false) rfl rfl rfl ?_ ?_); (refine dG rfl rfl rfl (fun hc => ?_) (fun hc => ?_)) <;> try simp at hc))
  refine dCutR (f := lcc) 0 k rfl rfl rfl rfl rfl rfl rfl rfl rfl rfl (fun _ => rfl) rfl rfl (by omega) (by omega) ?_
  repeat' (first | refine d1 rfl rfl rfl rfl rfl ?_ | refine dBuild rfl rfl rfl rfl rfl rfl rfl ?_ | refine d0 rfl rfl rfl rfl ?_ | refine d0n rfl rfl rfl ?_ | refine dE rfl (eAlloc rfl rfl rfl rfl) rfl rfl rfl ?_ | refine dE rfl (eBox rfl rfl rfl rfl rfl) rfl rfl rfl ?_ | refine dE rfl (eSt rfl rfl rfl rfl rfl rfl rfl rfl rfl) rfl rfl rfl ?_ | refine dE rfl (eBs rfl rfl rfl rfl rfl rfl rfl rfl rfl) rfl rfl rfl ?_ | refine d2 rfl rfl rfl rfl rfl ?_ | refine ah_nil ?_ | refine dAr rfl rfl rfl rfl rfl rfl rfl rfl (by omega) (by omega) ?_ | ((fail_if_success refine dG (b := true) rfl rfl rfl ?_ ?_); (fail_if_success refine dG (b := false) rfl rfl rfl ?_ ?_); (refine dG rfl rfl rfl (fun hc => ?_) (fun hc => ?_)) <;> try simp at hc))
  refine dCutR (f := lcc) (k + 1) L.length rfl rfl rfl rfl rfl rfl rfl rfl rfl rfl (fun _ => rfl) rfl rfl (by omega) (by omega) ?_
  repeat' (first | refine d1 rfl rfl rfl rfl rfl ?_ | refine dBuild rfl rfl rfl rfl rfl rfl rfl ?_ | refine d0 rfl rfl rfl rfl ?_ | refine d0n rfl rfl rfl ?_ | refine dE rfl (eAlloc rfl rfl rfl rfl) rfl rfl rfl ?_ | refine dE rfl (eBox rfl rfl rfl rfl rfl) rfl rfl rfl ?_ | refine dE rfl (eSt rfl rfl rfl rfl rfl rfl rfl rfl rfl) rfl rfl rfl ?_ | refine dE rfl (eBs rfl rfl rfl rfl rfl rfl rfl rfl rfl) rfl rfl rfl ?_ | refine d2 rfl rfl rfl rfl rfl ?_ | refine ah_nil ?_ | refine dAr rfl rfl rfl rfl rfl rfl rfl rfl (by omega) (by omega) ?_ | ((fail_if_success refine dG (b := true) rfl rfl rfl ?_ ?_); (fail_if_success refine dG (b := false) rfl rfl rfl ?_ ?_); (refine dG rfl rfl rfl (fun hc => ?_) (fun hc => ?_)) <;> try simp at hc))
  refine dApR (f := lcc) (L := []) rfl rfl rfl rfl rfl rfl rfl rfl rfl rfl rfl rfl rfl (fun _ => rfl) rfl (by simp; omega) (by omega) rfl ?_
  refine dApR (f := lcc) rfl rfl rfl rfl rfl rfl rfl rfl rfl rfl rfl rfl rfl (fun _ => rfl) (by simp; omega) (by simp) (by omega) rfl ?_
  have e2 : ([] ++ (L.drop 0).take (k - 0)) ++ (L.drop (k + 1)).take (L.length - (k + 1)) = L.take k ++ L.drop (k + 1) := by
    rw [List.nil_append, List.drop_zero, Nat.sub_zero]
    congr 1
    exact List.take_of_length_le (by simp)
  have e1 : 0 + (k - 0) + (L.length - (k + 1)) = (L.take k ++ L.drop (k + 1)).length := by simp; omega
  have hlv' := lv_sub hv (drop_one_sub L k)
  have hle : (L.take k ++ L.drop (k + 1)).length ≤ 40 := by rw [← e1]; omega
  rw [e1, e2]
  generalize L.take k ++ L.drop (k + 1) = M at hlv' hle ⊢
  have hpM := lcs_plain M
  have hac := implLV_ac 98 M (by omega)
  rw [hlv'] at hac
  refine dCv (hac) rfl rfl rfl (fun _ => rfl) rfl rfl rfl (by decide) (by repeat' (first | exact trivial | exact rfl | refine And.intro ?_ ?_ | exact Or.inl ⟨_, rfl, rfl⟩ | exact ⟨_, rfl, rfl⟩ | exact bor_sl rfl (by assumption))) ?_
  repeat' (first | refine d1 rfl rfl rfl rfl rfl ?_ | refine dBuild rfl rfl rfl rfl rfl rfl rfl ?_ | refine d0 rfl rfl rfl rfl ?_ | refine d0n rfl rfl rfl ?_ | refine dE rfl (eAlloc rfl rfl rfl rfl) rfl rfl rfl ?_ | refine dE rfl (eBox rfl rfl rfl rfl rfl) rfl rfl rfl ?_ | refine dE rfl (eSt rfl rfl rfl rfl rfl rfl rfl rfl rfl) rfl rfl rfl ?_ | refine dE rfl (eBs rfl rfl rfl rfl rfl rfl rfl rfl rfl) rfl rfl rfl ?_ | refine d2 rfl rfl rfl rfl rfl ?_ | refine ah_nil ?_ | refine dAr rfl rfl rfl rfl rfl rfl rfl rfl (by omega) (by omega) ?_ | ((fail_if_success refine dG (b := true) rfl rfl rfl ?_ ?_); (fail_if_success refine dG (b := false) rfl rfl rfl ?_ ?_); (refine dG rfl rfl rfl (fun hc => ?_) (fun hc => ?_)) <;> try simp at hc))
  repeat (first | refine p1 rfl rfl rfl rfl ?_ | refine al_end ?_ | refine awp_seq ?_ | refine awp_region ?_ | refine awp_block ?_ | refine awp_skip' ?_ | refine awp_ret' ?_ | refine awp_exit' ?_ | refine xt_sq_n ?_ | refine xt_bk_n ?_ | refine xt_sq_r ?_ | refine xt_bk_r ?_ | refine xt_sq_x ?_ | refine xt_bk_eq ?_ | refine xt_bk_ne rfl ?_ | refine p0 rfl rfl rfl ?_ | refine p0n rfl rfl ?_ | refine pAr rfl rfl rfl rfl rfl rfl rfl (by omega) (by omega) ?_ | refine pBuild rfl rfl rfl rfl rfl rfl ?_ | refine pE (eAlloc rfl rfl rfl rfl) rfl ?_ | refine pE (eBox rfl rfl rfl rfl rfl) rfl ?_ | refine pE (eSt rfl rfl rfl rfl rfl rfl rfl rfl rfl) rfl ?_ | refine pE (eBs rfl rfl rfl rfl rfl rfl rfl rfl rfl) rfl ?_)
  exact xt_fin (.inr rfl) rfl trivial ⟨rfl, rfl⟩
set_option maxRecDepth 100000 in
theorem FnLoopsPart_lifted (os : Os) (started : os.Started) (H : Type) (enc : TypeId × Value → H) :
    ReturnsInHanded {} Try.checked os 6 .any (Rows.fnLoopsPartSpec.pre6 enc Try.prog Try.f6 Rows.fnLoopsPartRow.domain false) (Rows.fnLoopsPartSpec.post enc Try.prog Try.f6 false true false false) :=
  law_lifted (C := Try.checked) (ts := [34, 34]) (tb := 4) teok (by kernel_rfl) (by kernel_rfl) os started enc (by kernel_rfl) Try.func6 (by kernel_rfl) (by kernel_rfl) (by kernel_rfl) (by kernel_rfl) (by kernel_rfl) rfl
    (fun ds h => by
      obtain _ | ⟨d0, _ | ⟨d1, _ | ⟨_, _⟩⟩⟩ := ds <;> first | rfl | (simp at h))
    (ChangeSpec.witness6 (enc := enc) (C := Try.checked) false ⟨#[], #[.slice none 0 0, .slice none 0 0], []⟩ 8 (by kernel_rfl) (by kernel_rfl) (by kernel_rfl) (by kernel_rfl))
    FnLoopsPart_law
theorem FnLoopsPart_holds : Rows.FnLoopsPartSaid :=
  OpenClaim.holds_of_wide 6 Try.f6 rfl rfl rfl rfl rfl rfl rfl ⟨rfl, rfl, rfl, rfl, rfl⟩ rfl rfl rfl rfl rfl (by kernel_rfl) Try.func6 (by kernel_rfl)
    (of_decide_eq_true (by kernel_rfl)) (by unfold Func.isWrapper; rw [if_neg (of_decide_eq_false (by kernel_rfl))]; exact ⟨rfl, rfl⟩)
    (fun os started H enc _ => FnLoopsPart_lifted os started H enc)
#print axioms FnLoopsPart_holds
end Go.Proofs.Ytlgfdjmnedfjfaa
