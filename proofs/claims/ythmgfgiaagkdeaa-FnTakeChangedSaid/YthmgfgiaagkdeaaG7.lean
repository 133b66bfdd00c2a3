import Derived.Test.YthmgfgiaagkdeaaG4
import Derived.Test.YthmgfgiaagkdeaaT2
import Derived.Test.YthmgfgiaagkdeaaTy1b
namespace Go.Proofs.Ythmgfgiaagkdeaa
open Go.RowKit
attribute [local irreducible] AWP AL XT AC ES PS AH AH2 LpQ
structure Pk where
  el : Int
  hd : List Int
  tag : Int
  bd : List Int
structure Blk where
  fi : Int
  el : Int
  hd : List Int
  tag : Int
def pv (t : Nat) (p : Pk) : AV := .agg [.c (.int .i64 p.el), .c (.rd (t + 1) p.hd.length (ints p.hd)), .c (.int .i64 p.tag), .c (.rd (t + 1) p.bd.length (ints p.bd))]
def pw (p : Pk) : AV := .agg [.c (.int .i64 p.el), .sl 0 0 p.hd.length, .c (.int .i64 p.tag), .sl 1 0 p.bd.length]
def pObs (p : Pk) : List Ob := [.arr 3 1 (ints p.hd), .arr 3 1 (ints p.bd)]
def pkOk (p : Pk) : Bool := elt p.el && (decide (p.hd.length = 9) && lst p.hd) && (decide (p.bd.length = 6) && lst p.bd) && nmb p.tag
set_option maxRecDepth 100000 in
theorem implPV_ac (t : Nat) (p : Pk) (hl : p.hd.length ≤ 1099511627776) (hb : p.bd.length ≤ 1099511627776) : AC Try.prog 76 [pv t p] [] [0] (fun r h => h = [] ∧ r = .h (.c (.bool (pkOk p)))) := by
  have a1 := listOf_ac (t + 1) p.hd 9 hl
  have a2 := listOf_ac (t + 1) p.bd 6 hb
  refine ac_body teok Try.func76 rfl (by kernel_rfl) Try.ntmps76 rfl rfl ?_
  intro w0 ps g0 im0
  repeat' (first | refine p1 rfl rfl rfl rfl ?_ | refine al_end ?_ | refine awp_seq ?_ | refine awp_region ?_ | refine awp_block ?_ | refine awp_skip' ?_ | refine awp_ret' ?_ | refine awp_exit' ?_ | refine xt_sq_n ?_ | refine xt_bk_n ?_ | refine xt_sq_r ?_ | refine xt_bk_r ?_ | refine xt_sq_x ?_ | refine xt_bk_eq ?_ | refine xt_bk_ne rfl ?_ | refine p0 rfl rfl rfl ?_ | refine p0n rfl rfl ?_ | refine pAr rfl rfl rfl rfl rfl rfl rfl (by omega) (by omega) ?_ | refine pBuild rfl rfl rfl rfl rfl rfl ?_ | refine pE (eAlloc rfl rfl rfl rfl) rfl ?_ | refine pE (eBox rfl rfl rfl rfl rfl) rfl ?_ | refine pE (eSt rfl rfl rfl rfl rfl rfl rfl rfl rfl) rfl ?_ | refine pE (eBs rfl rfl rfl rfl rfl rfl rfl rfl rfl) rfl ?_ | refine awp_cond (b := true) rfl (fun _ => ?_) (fun h => Bool.noConfusion h) | refine awp_cond (b := false) rfl (fun h => Bool.noConfusion h) (fun _ => ?_) | ((fail_if_success refine pG (b := true) rfl rfl ?_ ?_); (fail_if_success refine pG (b := false) rfl rfl ?_ ?_); (refine pG rfl rfl (fun hc => ?_) (fun hc => ?_)) <;> try simp at hc) | ((refine awp_cond rfl (fun hc => ?_) (fun hc => ?_)) <;> try simp at hc) | refine pC0 (isElement_ac _) rfl rfl rfl rfl rfl rfl rfl (by decide) ?_ | refine pC0 (isNumber_ac _) rfl rfl rfl rfl rfl rfl rfl (by decide) ?_ | refine pC0 (a1) rfl rfl rfl rfl rfl rfl rfl (by decide) ?_ | refine pC0 (a2) rfl rfl rfl rfl rfl rfl rfl (by decide) ?_)
  all_goals exact xt_fin (.inr rfl) rfl trivial ⟨rfl, by first | (simp [pkOk, *]; done) | grind [pkOk]⟩
set_option maxRecDepth 100000 in
theorem specPV_ac (t : Nat) (p : Pk) (hl : p.hd.length ≤ 1099511627776) (hb : p.bd.length ≤ 1099511627776) : AC Try.prog 74 [pv t p] [] [0] (fun r h => h = [] ∧ r = .h (.c (.bool (pkOk p)))) := by
  have a1 := l2List_ac (t + 1) p.hd hl
  have a2 := l2List_ac (t + 1) p.bd hb
  refine ac_body teok Try.func74 rfl (by kernel_rfl) Try.ntmps74 rfl rfl ?_
  intro w0 ps g0 im0
  repeat' (first | refine p1 rfl rfl rfl rfl ?_ | refine al_end ?_ | refine awp_seq ?_ | refine awp_region ?_ | refine awp_block ?_ | refine awp_skip' ?_ | refine awp_ret' ?_ | refine awp_exit' ?_ | refine xt_sq_n ?_ | refine xt_bk_n ?_ | refine xt_sq_r ?_ | refine xt_bk_r ?_ | refine xt_sq_x ?_ | refine xt_bk_eq ?_ | refine xt_bk_ne rfl ?_ | refine p0 rfl rfl rfl ?_ | refine p0n rfl rfl ?_ | refine pAr rfl rfl rfl rfl rfl rfl rfl (by omega) (by omega) ?_ | refine pBuild rfl rfl rfl rfl rfl rfl ?_ | refine pE (eAlloc rfl rfl rfl rfl) rfl ?_ | refine pE (eBox rfl rfl rfl rfl rfl) rfl ?_ | refine pE (eSt rfl rfl rfl rfl rfl rfl rfl rfl rfl) rfl ?_ | refine pE (eBs rfl rfl rfl rfl rfl rfl rfl rfl rfl) rfl ?_ | refine awp_cond (b := true) rfl (fun _ => ?_) (fun h => Bool.noConfusion h) | refine awp_cond (b := false) rfl (fun h => Bool.noConfusion h) (fun _ => ?_) | ((fail_if_success refine pG (b := true) rfl rfl ?_ ?_); (fail_if_success refine pG (b := false) rfl rfl ?_ ?_); (refine pG rfl rfl (fun hc => ?_) (fun hc => ?_)) <;> try simp at hc) | ((refine awp_cond rfl (fun hc => ?_) (fun hc => ?_)) <;> try simp at hc) | refine pC0 (l1Is_ac _) rfl rfl rfl rfl rfl rfl rfl (by decide) ?_ | refine pC0 (l6In_ac _ _ _) rfl rfl rfl rfl rfl rfl rfl (by decide) ?_ | refine pC0 (a1) rfl rfl rfl rfl rfl rfl rfl (by decide) ?_ | refine pC0 (a2) rfl rfl rfl rfl rfl rfl rfl (by decide) ?_)
  · have h9 : p.hd.length = 9 := by omega
    have e6 : ((p.bd.length : Int) == 6) = decide (p.bd.length = 6) := by rw [Bool.eq_iff_iff]; simp; omega
    exact xt_fin (.inr rfl) rfl trivial ⟨rfl, by simp only [e6]; simp [pkOk, nmb, *]⟩
  all_goals exact xt_fin (.inr rfl) rfl trivial ⟨rfl, by first | (simp [pkOk, nmb, *]; done) | grind [pkOk, nmb]⟩
end Go.Proofs.Ythmgfgiaagkdeaa
