import Derived.Test.YthmgfgiaagkdeaaG28
namespace Go.Proofs.Ythmgfgiaagkdeaa
open Go.RowKit
attribute [local irreducible] AWP AL XT AC ES PS AH AH2 LpQ
set_option maxHeartbeats 1000000 in
set_option maxRecDepth 100000 in
theorem specFlush_ac (t : Nat) (m : Mx) (all : Bool) (hm : SmM 2097152 m) : AC Try.prog 20 [mv t m, .h (.c (.bool all))] [] [0] (fun r h => h = flObs m all ∧ r = flR m all) := by
  have h1 := specMV_ac t m hm
  refine ac_bodyM teok Try.func20 rfl (by kernel_rfl) Try.ntmps20 rfl rfl ?_
  intro w0 ps g0 im0
  repeat' (first | refine p1 rfl rfl rfl rfl ?_ | refine al_end ?_ | refine awp_seq ?_ | refine awp_region ?_ | refine awp_block ?_ | refine awp_skip' ?_ | refine awp_ret' ?_ | refine awp_exit' ?_ | refine xt_sq_n ?_ | refine xt_bk_n ?_ | refine xt_sq_r ?_ | refine xt_bk_r ?_ | refine xt_sq_x ?_ | refine xt_bk_eq ?_ | refine xt_bk_ne rfl ?_ | refine p0 rfl rfl rfl ?_ | refine p0n rfl rfl ?_ | refine pAr rfl rfl rfl rfl rfl rfl rfl (by omega) (by omega) ?_ | refine pBuild rfl rfl rfl rfl rfl rfl ?_ | refine pE (eAlloc rfl rfl rfl rfl) rfl ?_ | refine pE (eBox rfl rfl rfl rfl rfl) rfl ?_ | refine pE (eSt rfl rfl rfl rfl rfl rfl rfl rfl rfl) rfl ?_ | refine pE (eBs rfl rfl rfl rfl rfl rfl rfl rfl rfl) rfl ?_ | refine awp_cond (b := true) rfl (fun _ => ?_) (fun h => Bool.noConfusion h) | refine awp_cond (b := false) rfl (fun h => Bool.noConfusion h) (fun _ => ?_) | ((fail_if_success refine pG (b := true) rfl rfl ?_ ?_); (fail_if_success refine pG (b := false) rfl rfl ?_ ?_); (refine pG rfl rfl (fun hc => ?_) (fun hc => ?_)) <;> try simp at hc) | ((refine awp_cond rfl (fun hc => ?_) (fun hc => ?_)) <;> try simp at hc) | refine pC0 (h1) rfl rfl rfl rfl rfl rfl rfl (by decide) ?_)
  · have hmo : mxOk m = false := by assumption
    have hF : flB m all = false := by simp [flB, hmo]
    have hM : flM m all = ⟨0, [], []⟩ := by simp [flM, hmo]
    have hL : flL m all = [] := by simp [flL, hF]
    unfold flObs flR
    rw [hM, hL]
    refine xt_nownB (pre := [.c (.int .i64 0)]) (post := [.c .nil]) 1 3 1 rfl (xt_nownB (pre := [.c (.int .i64 0), .sl 3 0 0]) (post := []) 1 69 6 rfl (xt_M ?_))
    exact xt_finG [(0, 3), (1, 4), (2, 2)] (.tup [mw ⟨0, [], []⟩, .h (.sl 2 0 0)]) [.arr 3 1 [], .arr 69 6 [], .arr 69 6 []] (.inr rfl) rfl rfl rfl rfl rfl ⟨rfl, rfl, rfl, trivial⟩ (by repeat' (first | exact trivial | refine And.intro ?_ ?_)) ⟨trivial, trivial, trivial, trivial⟩ ⟨rfl, rfl⟩
  have hmo : mxOk m = true := by assumption
  obtain ⟨_, _, hp5, _, _⟩ := mxOk_iff.1 hmo
  have hsl := sortS_len m.pool
  obtain ⟨hm1, hm2, hm3⟩ := hm
  have hso := specSort_ac t m.pool (by omega) (fun x h => by have := hm3 x h; omega)
  refine pC (eCall (specCopyM_ac t m ⟨by omega, by omega, fun x h => by have := hm3 x h; omega⟩) 99 [] rfl rfl rfl rfl rfl rfl (by repeat' (first | exact trivial | exact rfl | refine And.intro ?_ ?_ | exact Or.inl ⟨_, rfl, rfl⟩ | exact ⟨_, rfl, rfl⟩ | exact bor_sl rfl (by assumption) | exact bor_ios rfl | exact bor_ios1 rfl | exact bor_iosJ rfl | exact bor_pw rfl)) (by decide)) rfl ?_
  rintro _ _ ⟨rfl, rfl⟩
  repeat' (first | refine p1 rfl rfl rfl rfl ?_ | refine al_end ?_ | refine awp_seq ?_ | refine awp_region ?_ | refine awp_block ?_ | refine awp_skip' ?_ | refine awp_ret' ?_ | refine awp_exit' ?_ | refine xt_sq_n ?_ | refine xt_bk_n ?_ | refine xt_sq_r ?_ | refine xt_bk_r ?_ | refine xt_sq_x ?_ | refine xt_bk_eq ?_ | refine xt_bk_ne rfl ?_ | refine p0 rfl rfl rfl ?_ | refine p0n rfl rfl ?_ | refine pAr rfl rfl rfl rfl rfl rfl rfl (by omega) (by omega) ?_ | refine pBuild rfl rfl rfl rfl rfl rfl ?_ | refine pE (eAlloc rfl rfl rfl rfl) rfl ?_ | refine pE (eBox rfl rfl rfl rfl rfl) rfl ?_ | refine pE (eSt rfl rfl rfl rfl rfl rfl rfl rfl rfl) rfl ?_ | refine pE (eBs rfl rfl rfl rfl rfl rfl rfl rfl rfl) rfl ?_ | refine awp_cond (b := true) rfl (fun _ => ?_) (fun h => Bool.noConfusion h) | refine awp_cond (b := false) rfl (fun h => Bool.noConfusion h) (fun _ => ?_) | ((fail_if_success refine pG (b := true) rfl rfl ?_ ?_); (fail_if_success refine pG (b := false) rfl rfl ?_ ?_); (refine pG rfl rfl (fun hc => ?_) (fun hc => ?_)) <;> try simp at hc) | ((refine awp_cond rfl (fun hc => ?_) (fun hc => ?_)) <;> try simp at hc))
  · have hF : flB m all = false := by
      have h2 : ¬ 2 ≤ m.pool.length := by omega
      have h3 : all = false := by assumption
      simp [flB, h2, h3]
    have hM : flM m all = m := by simp [flM, hmo, hF]
    have hL : flL m all = [] := by simp [flL, hF]
    unfold flObs flR
    rw [hM, hL]
    refine xt_M ?_
    exact xt_finG [(0, 2), (1, 3), (2, 5)] (.tup [mw m, .h (.sl 2 0 0)]) [.arr 3 1 (ints m.seen), .arr 69 6 (rows pow m.pool), .arr 69 6 []] (.inr rfl) rfl rfl rfl rfl rfl ⟨rfl, rfl, rfl, trivial⟩ (by repeat' (first | exact trivial | refine And.intro ?_ ?_)) ⟨ints_tgs _, pow_tgs _, trivial, trivial⟩ ⟨rfl, rfl⟩
  all_goals
    · have hF : flB m all = true := by
        first
          | (have h3 : all = true := by assumption
             simp [flB, hmo, h3])
          | (have h2 : 2 ≤ m.pool.length := by omega
             simp [flB, hmo, h2])
      have hM : flM m all = ⟨m.sec, m.seen, []⟩ := by simp [flM, hmo, hF]
      have hL : flL m all = sortS m.pool := by simp [flL, hF]
      ((repeat (first | refine awp_seq ?_ | refine awp_block ?_ | refine awp_skip' ?_ | refine xt_sq_n ?_ | refine xt_bk_n ?_)); refine awp_draw (CT.cons (0, true) <| CT.cons (1, true) <| CT.cons (2, true) <| CT.cons (3, false) <| CT.cons (4, false) <| CT.cons (5, true) <| CT.nil) [1] mixed (by kernel_rfl) (by kernel_rfl) rfl rfl ?_)
      repeat' (first | refine d1 rfl rfl rfl rfl rfl ?_ | refine dBuild rfl rfl rfl rfl rfl rfl rfl ?_ | refine d0 rfl rfl rfl rfl ?_ | refine d0n rfl rfl rfl ?_ | refine dE rfl (eAlloc rfl rfl rfl rfl) rfl rfl rfl ?_ | refine dE rfl (eBox rfl rfl rfl rfl rfl) rfl rfl rfl ?_ | refine dE rfl (eSt rfl rfl rfl rfl rfl rfl rfl rfl rfl) rfl rfl rfl ?_ | refine dE rfl (eBs rfl rfl rfl rfl rfl rfl rfl rfl rfl) rfl rfl rfl ?_ | refine d2 rfl rfl rfl rfl rfl ?_ | refine ah_nil ?_ | refine dAr rfl rfl rfl rfl rfl rfl rfl rfl (by omega) (by omega) ?_ | ((fail_if_success refine dG (b := true) rfl rfl rfl ?_ ?_); (fail_if_success refine dG (b := false) rfl rfl rfl ?_ ?_); (refine dG rfl rfl rfl (fun hc => ?_) (fun hc => ?_)) <;> try simp at hc))
      refine dCn (hso) rfl rfl rfl rfl rfl rfl (by decide) (by repeat' (first | exact trivial | exact rfl | refine And.intro ?_ ?_ | exact Or.inl ⟨_, rfl, rfl⟩ | exact ⟨_, rfl, rfl⟩ | exact bor_sl rfl (by assumption) | exact bor_ios rfl | exact bor_ios1 rfl | exact bor_iosJ rfl | exact bor_pw rfl)) ?_
      repeat' (first | refine d1 rfl rfl rfl rfl rfl ?_ | refine dBuild rfl rfl rfl rfl rfl rfl rfl ?_ | refine d0 rfl rfl rfl rfl ?_ | refine d0n rfl rfl rfl ?_ | refine dE rfl (eAlloc rfl rfl rfl rfl) rfl rfl rfl ?_ | refine dE rfl (eBox rfl rfl rfl rfl rfl) rfl rfl rfl ?_ | refine dE rfl (eSt rfl rfl rfl rfl rfl rfl rfl rfl rfl) rfl rfl rfl ?_ | refine dE rfl (eBs rfl rfl rfl rfl rfl rfl rfl rfl rfl) rfl rfl rfl ?_ | refine d2 rfl rfl rfl rfl rfl ?_ | refine ah_nil ?_ | refine dAr rfl rfl rfl rfl rfl rfl rfl rfl (by omega) (by omega) ?_ | ((fail_if_success refine dG (b := true) rfl rfl rfl ?_ ?_); (fail_if_success refine dG (b := false) rfl rfl rfl ?_ ?_); (refine dG rfl rfl rfl (fun hc => ?_) (fun hc => ?_)) <;> try simp at hc))
      repeat (first | refine p1 rfl rfl rfl rfl ?_ | refine al_end ?_ | refine awp_seq ?_ | refine awp_region ?_ | refine awp_block ?_ | refine awp_skip' ?_ | refine awp_ret' ?_ | refine awp_exit' ?_ | refine xt_sq_n ?_ | refine xt_bk_n ?_ | refine xt_sq_r ?_ | refine xt_bk_r ?_ | refine xt_sq_x ?_ | refine xt_bk_eq ?_ | refine xt_bk_ne rfl ?_ | refine p0 rfl rfl rfl ?_ | refine p0n rfl rfl ?_ | refine pAr rfl rfl rfl rfl rfl rfl rfl (by omega) (by omega) ?_ | refine pBuild rfl rfl rfl rfl rfl rfl ?_ | refine pE (eAlloc rfl rfl rfl rfl) rfl ?_ | refine pE (eBox rfl rfl rfl rfl rfl) rfl ?_ | refine pE (eSt rfl rfl rfl rfl rfl rfl rfl rfl rfl) rfl ?_ | refine pE (eBs rfl rfl rfl rfl rfl rfl rfl rfl rfl) rfl ?_)
      unfold flObs flR
      rw [hM, hL]
      refine xt_M ?_
      exact xt_finG [(0, 2), (1, 5), (2, 6)] (.tup [mw ⟨m.sec, m.seen, []⟩, .h (.sl 2 0 (sortS m.pool).length)]) [.arr 3 1 (ints m.seen), .arr 69 6 [], .arr 69 6 (rows pow (sortS m.pool))] (.inr rfl) rfl rfl rfl rfl rfl ⟨rfl, rfl, rfl, trivial⟩ (by repeat' (first | exact trivial | refine And.intro ?_ ?_)) ⟨ints_tgs _, trivial, pow_tgs _, trivial⟩ ⟨rfl, rfl⟩
end Go.Proofs.Ythmgfgiaagkdeaa
