/- A mix is picked by consecutive points: for every two codes, with no further condition. -/
import Derived.Test.YtobendpgedlaeaaD12
import Derived.Test.YtobendpgedlaeaaIo
import Derived.Test.YtobendpgedlaeaaRows
namespace Go.Proofs.Ytobendpgedlaeaa
open Go.RowKit
attribute [local irreducible] AWP AL XT AC ES PS AH AH2 LpQ
set_option maxHeartbeats 2000000 in
set_option maxRecDepth 100000 in
theorem FnPickSame_law (xs : List AV) (h : TyAs te [22, 22] xs) : AC Try.prog 9 xs [] [0] (fun r h => h = [] ∧ r = .h (.c (.bool true))) := by
  obtain ⟨y0, ys, rfl, h0, h⟩ := h.cons_inv
  obtain ⟨y1, ys, rfl, h1, h⟩ := h.cons_inv
  obtain rfl := h.nil_inv
  obtain ⟨c, rfl, hcl, hcb⟩ := ty_bytes h0
  obtain ⟨m, rfl, hml, hmb⟩ := ty_bytes h1
  unfold maxLen at hcl hml
  refine ac_body teok Try.func9 rfl (by kernel_rfl) Try.ntmps9 rfl rfl ?_
  intro w0 ps g0 im0
  repeat' (first | refine p1 rfl rfl rfl rfl ?_ | refine al_end ?_ | refine awp_seq ?_ | refine awp_region ?_ | refine awp_block ?_ | refine awp_skip' ?_ | refine awp_ret' ?_ | refine awp_exit' ?_ | refine xt_sq_n ?_ | refine xt_bk_n ?_ | refine xt_sq_r ?_ | refine xt_bk_r ?_ | refine xt_sq_x ?_ | refine xt_bk_eq ?_ | refine xt_bk_ne rfl ?_ | refine p0 rfl rfl rfl ?_ | refine p0n rfl rfl ?_ | refine pAr rfl rfl rfl rfl rfl rfl rfl (by omega) (by omega) ?_ | refine pBuild rfl rfl rfl rfl rfl rfl ?_ | refine pE (eAlloc rfl rfl rfl rfl) rfl ?_ | refine pE (eBox rfl rfl rfl rfl rfl) rfl ?_ | refine pE (eSt rfl rfl rfl rfl rfl rfl rfl rfl rfl) rfl ?_ | refine pE (eBs rfl rfl rfl rfl rfl rfl rfl rfl rfl) rfl ?_ | refine awp_cond (b := true) rfl (fun _ => ?_) (fun h => Bool.noConfusion h) | refine awp_cond (b := false) rfl (fun h => Bool.noConfusion h) (fun _ => ?_) | ((fail_if_success refine pG (b := true) rfl rfl ?_ ?_); (fail_if_success refine pG (b := false) rfl rfl ?_ ?_); (refine pG rfl rfl (fun hc => ?_) (fun hc => ?_)) <;> try simp at hc) | ((refine awp_cond rfl (fun hc => ?_) (fun hc => ?_)) <;> try simp at hc))
  · exact xt_fin (.inr rfl) rfl trivial ⟨rfl, rfl⟩
  · exact xt_fin (.inr rfl) rfl trivial ⟨rfl, rfl⟩
  refine pC (eCall (drawP_ac c (by omega) hcb) 99 [] rfl rfl rfl rfl rfl rfl (by repeat' (first | exact trivial | exact rfl | refine And.intro ?_ ?_ | exact Or.inl ⟨_, rfl, rfl⟩ | exact ⟨_, rfl, rfl⟩ | exact bor_sl rfl (by assumption))) (by decide)) rfl ?_
  rintro _ _ ⟨e, L, p, ⟨hd, hp⟩, rfl, rfl⟩
  have hl1 := hd.l1
  refine al_frz 0 100 rfl rfl (ens_plain L) ?_
  repeat (first | refine p1 rfl rfl rfl rfl ?_ | refine al_end ?_ | refine awp_seq ?_ | refine awp_region ?_ | refine awp_block ?_ | refine awp_skip' ?_ | refine awp_ret' ?_ | refine awp_exit' ?_ | refine xt_sq_n ?_ | refine xt_bk_n ?_ | refine xt_sq_r ?_ | refine xt_bk_r ?_ | refine xt_sq_x ?_ | refine xt_bk_eq ?_ | refine xt_bk_ne rfl ?_ | refine p0 rfl rfl rfl ?_ | refine p0n rfl rfl ?_ | refine pAr rfl rfl rfl rfl rfl rfl rfl (by omega) (by omega) ?_ | refine pBuild rfl rfl rfl rfl rfl rfl ?_ | refine pE (eAlloc rfl rfl rfl rfl) rfl ?_ | refine pE (eBox rfl rfl rfl rfl rfl) rfl ?_ | refine pE (eSt rfl rfl rfl rfl rfl rfl rfl rfl rfl) rfl ?_ | refine pE (eBs rfl rfl rfl rfl rfl rfl rfl rfl rfl) rfl ?_)
  refine pCv (implPick_ac 99 e L p (by omega) (by omega)) rfl rfl (fun _ => rfl) rfl rfl rfl (by decide) (by repeat' (first | exact trivial | exact rfl | refine And.intro ?_ ?_ | exact Or.inl ⟨_, rfl, rfl⟩ | exact ⟨_, rfl, rfl⟩ | exact bor_sl rfl (by assumption))) ?_
  repeat (first | refine p1 rfl rfl rfl rfl ?_ | refine al_end ?_ | refine awp_seq ?_ | refine awp_region ?_ | refine awp_block ?_ | refine awp_skip' ?_ | refine awp_ret' ?_ | refine awp_exit' ?_ | refine xt_sq_n ?_ | refine xt_bk_n ?_ | refine xt_sq_r ?_ | refine xt_bk_r ?_ | refine xt_sq_x ?_ | refine xt_bk_eq ?_ | refine xt_bk_ne rfl ?_ | refine p0 rfl rfl rfl ?_ | refine p0n rfl rfl ?_ | refine pAr rfl rfl rfl rfl rfl rfl rfl (by omega) (by omega) ?_ | refine pBuild rfl rfl rfl rfl rfl rfl ?_ | refine pE (eAlloc rfl rfl rfl rfl) rfl ?_ | refine pE (eBox rfl rfl rfl rfl rfl) rfl ?_ | refine pE (eSt rfl rfl rfl rfl rfl rfl rfl rfl rfl) rfl ?_ | refine pE (eBs rfl rfl rfl rfl rfl rfl rfl rfl rfl) rfl ?_)
  refine pCv (specPick_ac 99 e L p (by omega) (by omega)) rfl rfl (fun _ => rfl) rfl rfl rfl (by decide) (by repeat' (first | exact trivial | exact rfl | refine And.intro ?_ ?_ | exact Or.inl ⟨_, rfl, rfl⟩ | exact ⟨_, rfl, rfl⟩ | exact bor_sl rfl (by assumption))) ?_
  repeat' (first | refine p1 rfl rfl rfl rfl ?_ | refine al_end ?_ | refine awp_seq ?_ | refine awp_region ?_ | refine awp_block ?_ | refine awp_skip' ?_ | refine awp_ret' ?_ | refine awp_exit' ?_ | refine xt_sq_n ?_ | refine xt_bk_n ?_ | refine xt_sq_r ?_ | refine xt_bk_r ?_ | refine xt_sq_x ?_ | refine xt_bk_eq ?_ | refine xt_bk_ne rfl ?_ | refine p0 rfl rfl rfl ?_ | refine p0n rfl rfl ?_ | refine pAr rfl rfl rfl rfl rfl rfl rfl (by omega) (by omega) ?_ | refine pBuild rfl rfl rfl rfl rfl rfl ?_ | refine pE (eAlloc rfl rfl rfl rfl) rfl ?_ | refine pE (eBox rfl rfl rfl rfl rfl) rfl ?_ | refine pE (eSt rfl rfl rfl rfl rfl rfl rfl rfl rfl) rfl ?_ | refine pE (eBs rfl rfl rfl rfl rfl rfl rfl rfl rfl) rfl ?_ | refine awp_cond (b := true) rfl (fun _ => ?_) (fun h => Bool.noConfusion h) | refine awp_cond (b := false) rfl (fun h => Bool.noConfusion h) (fun _ => ?_) | ((fail_if_success refine pG (b := true) rfl rfl ?_ ?_); (fail_if_success refine pG (b := false) rfl rfl ?_ ?_); (refine pG rfl rfl (fun hc => ?_) (fun hc => ?_)) <;> try simp at hc) | ((refine awp_cond rfl (fun hc => ?_) (fun hc => ?_)) <;> try simp at hc))
  · exact xt_fin (.inr rfl) rfl trivial ⟨rfl, by simp⟩
  obtain ⟨hv, hp0, hpk⟩ := pickV_pos (show 0 ≤ pickV e L p by omega)
  have hw : ∀ x ∈ L, 0 ≤ x.w := fun x hx => (dval_ok hv x hx).2.2.1
  obtain ⟨k, hk⟩ : ∃ k : Nat, pkF 0 p L = (k : Int) := ⟨(pkF 0 p L).toNat, by omega⟩
  rw [hpk, hk]
  refine pRem rfl rfl rfl rfl rfl rfl (by omega) (by omega) ?_
  have hq : p ≤ p + (m.length : Int) % 12 ∧ p + (m.length : Int) % 12 ≤ p + 12 := by omega
  repeat (first | refine p1 rfl rfl rfl rfl ?_ | refine al_end ?_ | refine awp_seq ?_ | refine awp_region ?_ | refine awp_block ?_ | refine awp_skip' ?_ | refine awp_ret' ?_ | refine awp_exit' ?_ | refine xt_sq_n ?_ | refine xt_bk_n ?_ | refine xt_sq_r ?_ | refine xt_bk_r ?_ | refine xt_sq_x ?_ | refine xt_bk_eq ?_ | refine xt_bk_ne rfl ?_ | refine p0 rfl rfl rfl ?_ | refine p0n rfl rfl ?_ | refine pAr rfl rfl rfl rfl rfl rfl rfl (by omega) (by omega) ?_ | refine pBuild rfl rfl rfl rfl rfl rfl ?_ | refine pE (eAlloc rfl rfl rfl rfl) rfl ?_ | refine pE (eBox rfl rfl rfl rfl rfl) rfl ?_ | refine pE (eSt rfl rfl rfl rfl rfl rfl rfl rfl rfl) rfl ?_ | refine pE (eBs rfl rfl rfl rfl rfl rfl rfl rfl rfl) rfl ?_)
  generalize p + (m.length : Int) % 12 = q at hq ⊢
  have ha := implPick_ac 99 e L q (by omega) (by omega)
  rw [pickV_of hv (by omega)] at ha
  refine pCv (ha) rfl rfl (fun _ => rfl) rfl rfl rfl (by decide) (by repeat' (first | exact trivial | exact rfl | refine And.intro ?_ ?_ | exact Or.inl ⟨_, rfl, rfl⟩ | exact ⟨_, rfl, rfl⟩ | exact bor_sl rfl (by assumption))) ?_
  repeat' (first | refine p1 rfl rfl rfl rfl ?_ | refine al_end ?_ | refine awp_seq ?_ | refine awp_region ?_ | refine awp_block ?_ | refine awp_skip' ?_ | refine awp_ret' ?_ | refine awp_exit' ?_ | refine xt_sq_n ?_ | refine xt_bk_n ?_ | refine xt_sq_r ?_ | refine xt_bk_r ?_ | refine xt_sq_x ?_ | refine xt_bk_eq ?_ | refine xt_bk_ne rfl ?_ | refine p0 rfl rfl rfl ?_ | refine p0n rfl rfl ?_ | refine pAr rfl rfl rfl rfl rfl rfl rfl (by omega) (by omega) ?_ | refine pBuild rfl rfl rfl rfl rfl rfl ?_ | refine pE (eAlloc rfl rfl rfl rfl) rfl ?_ | refine pE (eBox rfl rfl rfl rfl rfl) rfl ?_ | refine pE (eSt rfl rfl rfl rfl rfl rfl rfl rfl rfl) rfl ?_ | refine pE (eBs rfl rfl rfl rfl rfl rfl rfl rfl rfl) rfl ?_ | refine awp_cond (b := true) rfl (fun _ => ?_) (fun h => Bool.noConfusion h) | refine awp_cond (b := false) rfl (fun h => Bool.noConfusion h) (fun _ => ?_) | ((fail_if_success refine pG (b := true) rfl rfl ?_ ?_); (fail_if_success refine pG (b := false) rfl rfl ?_ ?_); (refine pG rfl rfl (fun hc => ?_) (fun hc => ?_)) <;> try simp at hc) | ((refine awp_cond rfl (fun hc => ?_) (fun hc => ?_)) <;> try simp at hc))
  · exact xt_fin (.inr rfl) rfl trivial ⟨rfl, rfl⟩
  have hqk : pkF 0 q L = (k : Int) := hc
  refine awp_loopE (fun a : Int => { fr := [(5, .h (.ptr 1 0)), (7, .h (.c (.int .i64 k))), (9, .h (.c (.int .i64 q))), (10, .h (.c (.int .i64 a)))], hp := [(1, dbx 99 e L)], nx := 2 })
    (fun n a => p ≤ a ∧ a ≤ q + 1 ∧ n = (q + 1 - a).toNat) (q + 1 - p).toNat p [(1, 1)] ⟨rfl, rfl, rfl, by repeat (first | exact trivial | refine ⟨rfl, ?_⟩), by repeat (first | exact trivial | refine ⟨rfl, ?_⟩)⟩ ⟨Int.le_refl _, by omega, rfl⟩ ?_
  rintro n a ⟨ha1, ha2, rfl⟩
  repeat' (first | refine p1 rfl rfl rfl rfl ?_ | refine al_end ?_ | refine awp_seq ?_ | refine awp_region ?_ | refine awp_block ?_ | refine awp_skip' ?_ | refine awp_ret' ?_ | refine awp_exit' ?_ | refine xt_sq_n ?_ | refine xt_bk_n ?_ | refine xt_sq_r ?_ | refine xt_bk_r ?_ | refine xt_sq_x ?_ | refine xt_bk_eq ?_ | refine xt_bk_ne rfl ?_ | refine p0 rfl rfl rfl ?_ | refine p0n rfl rfl ?_ | refine pAr rfl rfl rfl rfl rfl rfl rfl (by omega) (by omega) ?_ | refine pBuild rfl rfl rfl rfl rfl rfl ?_ | refine pE (eAlloc rfl rfl rfl rfl) rfl ?_ | refine pE (eBox rfl rfl rfl rfl rfl) rfl ?_ | refine pE (eSt rfl rfl rfl rfl rfl rfl rfl rfl rfl) rfl ?_ | refine pE (eBs rfl rfl rfl rfl rfl rfl rfl rfl rfl) rfl ?_ | refine awp_cond (b := true) rfl (fun _ => ?_) (fun h => Bool.noConfusion h) | refine awp_cond (b := false) rfl (fun h => Bool.noConfusion h) (fun _ => ?_) | ((fail_if_success refine pG (b := true) rfl rfl ?_ ?_); (fail_if_success refine pG (b := false) rfl rfl ?_ ?_); (refine pG rfl rfl (fun hc => ?_) (fun hc => ?_)) <;> try simp at hc) | ((refine awp_cond rfl (fun hc => ?_) (fun hc => ?_)) <;> try simp at hc))
  · have hb := implPick_ac 99 e L a (by omega) (by omega)
    rw [pickV_of hv (by omega), pk_mid hw hp0 hk hqk ha1 (by omega)] at hb
    refine pCv (hb) rfl rfl (fun _ => rfl) rfl rfl rfl (by decide) (by repeat' (first | exact trivial | exact rfl | refine And.intro ?_ ?_ | exact Or.inl ⟨_, rfl, rfl⟩ | exact ⟨_, rfl, rfl⟩ | exact bor_sl rfl (by assumption))) ?_
    repeat' (first | refine p1 rfl rfl rfl rfl ?_ | refine al_end ?_ | refine awp_seq ?_ | refine awp_region ?_ | refine awp_block ?_ | refine awp_skip' ?_ | refine awp_ret' ?_ | refine awp_exit' ?_ | refine xt_sq_n ?_ | refine xt_bk_n ?_ | refine xt_sq_r ?_ | refine xt_bk_r ?_ | refine xt_sq_x ?_ | refine xt_bk_eq ?_ | refine xt_bk_ne rfl ?_ | refine p0 rfl rfl rfl ?_ | refine p0n rfl rfl ?_ | refine pAr rfl rfl rfl rfl rfl rfl rfl (by omega) (by omega) ?_ | refine pBuild rfl rfl rfl rfl rfl rfl ?_ | refine pE (eAlloc rfl rfl rfl rfl) rfl ?_ | refine pE (eBox rfl rfl rfl rfl rfl) rfl ?_ | refine pE (eSt rfl rfl rfl rfl rfl rfl rfl rfl rfl) rfl ?_ | refine pE (eBs rfl rfl rfl rfl rfl rfl rfl rfl rfl) rfl ?_ | refine awp_cond (b := true) rfl (fun _ => ?_) (fun h => Bool.noConfusion h) | refine awp_cond (b := false) rfl (fun h => Bool.noConfusion h) (fun _ => ?_) | ((fail_if_success refine pG (b := true) rfl rfl ?_ ?_); (fail_if_success refine pG (b := false) rfl rfl ?_ ?_); (refine pG rfl rfl (fun hc => ?_) (fun hc => ?_)) <;> try simp at hc) | ((refine awp_cond rfl (fun hc => ?_) (fun hc => ?_)) <;> try simp at hc))
    exact lp_end (q + 1 - (a + 1)).toNat (a + 1) [(1, 1)] (by omega) ⟨rfl, rfl, rfl, by repeat (first | exact trivial | refine ⟨rfl, ?_⟩), by repeat (first | exact trivial | refine ⟨rfl, ?_⟩)⟩ ⟨by omega, by omega, rfl⟩
  · exact xt_fin (.inr rfl) rfl trivial ⟨rfl, rfl⟩
set_option maxRecDepth 100000 in
theorem FnPickSame_lifted (os : Os) (started : os.Started) (H : Type) (enc : TypeId × Value → H) :
    ReturnsInHanded {} Try.checked os 9 .any (Rows.fnPickSameSpec.pre6 enc Try.prog Try.f9 Rows.fnPickSameRow.domain false) (Rows.fnPickSameSpec.post enc Try.prog Try.f9 false true false false) :=
  law_lifted (C := Try.checked) (ts := [22, 22]) (tb := 4) teok (by kernel_rfl) (by kernel_rfl) os started enc (by kernel_rfl) Try.func9 (by kernel_rfl) (by kernel_rfl) (by kernel_rfl) (by kernel_rfl) (by kernel_rfl) rfl
    (fun ds h => by
      obtain _ | ⟨d0, _ | ⟨d1, _ | ⟨_, _⟩⟩⟩ := ds <;> first | rfl | (simp at h))
    (ChangeSpec.witness6 (enc := enc) (C := Try.checked) false ⟨#[], #[.slice none 0 0, .slice none 0 0], []⟩ 8 (by kernel_rfl) (by kernel_rfl) (by kernel_rfl) (by kernel_rfl))
    FnPickSame_law
theorem FnPickSame_holds : Rows.FnPickSameSaid :=
  OpenClaim.holds_of_wide 9 Try.f9 rfl rfl rfl rfl rfl rfl rfl ⟨rfl, rfl, rfl, rfl, rfl⟩ rfl rfl rfl rfl rfl (by kernel_rfl) Try.func9 (joined_of io_enter io_lifts io_make rfl rfl (by kernel_rfl))
    (of_decide_eq_true (by kernel_rfl)) (by unfold Func.isWrapper; rw [if_neg (of_decide_eq_false (by kernel_rfl))]; exact ⟨rfl, rfl⟩)
    (fun os started H enc _ => FnPickSame_lifted os started H enc)
#print axioms FnPickSame_holds
end Go.Proofs.Ytobendpgedlaeaa
