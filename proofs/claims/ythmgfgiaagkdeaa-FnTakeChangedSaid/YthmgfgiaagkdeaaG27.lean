import Derived.Test.YthmgfgiaagkdeaaG26
namespace Go.Proofs.Ythmgfgiaagkdeaa
open Go.RowKit
attribute [local irreducible] AWP AL XT AC ES PS AH AH2 LpQ
set_option maxHeartbeats 1000000 in
set_option maxRecDepth 100000 in
theorem stable_ac (L : List Pl) (hL : L.length ≤ 19) : AC Try.prog 108 [.h (.sl 0 0 L.length), .h (.c (.int .i64 L.length)), .h (.c (.fn 64))] [.arr 69 6 (rows pow L)] [0]
    (fun r h => ∃ _a : Unit, True ∧ h = [.arr 69 6 (rows pow (sortS L))] ∧ r = .tup []) := by
  refine ac_body teok Try.func108 rfl (by kernel_rfl) Try.ntmps108 rfl rfl ?_
  intro w0 ps g0 im0
  repeat (first | refine p1 rfl rfl rfl rfl ?_ | refine al_end ?_ | refine awp_seq ?_ | refine awp_region ?_ | refine awp_block ?_ | refine awp_skip' ?_ | refine awp_ret' ?_ | refine awp_exit' ?_ | refine xt_sq_n ?_ | refine xt_bk_n ?_ | refine xt_sq_r ?_ | refine xt_bk_r ?_ | refine xt_sq_x ?_ | refine xt_bk_eq ?_ | refine xt_bk_ne rfl ?_ | refine p0 rfl rfl rfl ?_ | refine p0n rfl rfl ?_ | refine pAr rfl rfl rfl rfl rfl rfl rfl (by omega) (by omega) ?_ | refine pBuild rfl rfl rfl rfl rfl rfl ?_ | refine pE (eAlloc rfl rfl rfl rfl) rfl ?_ | refine pE (eBox rfl rfl rfl rfl rfl) rfl ?_ | refine pE (eSt rfl rfl rfl rfl rfl rfl rfl rfl rfl) rfl ?_ | refine pE (eBs rfl rfl rfl rfl rfl rfl rfl rfl rfl) rfl ?_)
  refine awp_loopE (fun _ : Unit => { fr := [(0, .h (.sl 0 0 L.length)), (1, .h (.c (.int .i64 L.length))), (2, .h (.c (.fn 64))), (6, .h (.c (.int .i64 20))), (7, .h (.c (.int .i64 0))), (8, .h (.c (.int .i64 20)))], hp := [(0, .arr 69 6 (rows pow L))], nx := 1 })
    (fun m _ => m = 0) 0 () [(0, 0)] ⟨rfl, rfl, rfl, by repeat (first | exact trivial | refine ⟨rfl, ?_⟩), by repeat (first | exact trivial | refine ⟨rfl, ?_⟩ | refine ⟨hrr_le rfl, ?_⟩)⟩ rfl ?_
  rintro _ ⟨⟩ rfl
  repeat' (first | refine p1 rfl rfl rfl rfl ?_ | refine al_end ?_ | refine awp_seq ?_ | refine awp_region ?_ | refine awp_block ?_ | refine awp_skip' ?_ | refine awp_ret' ?_ | refine awp_exit' ?_ | refine xt_sq_n ?_ | refine xt_bk_n ?_ | refine xt_sq_r ?_ | refine xt_bk_r ?_ | refine xt_sq_x ?_ | refine xt_bk_eq ?_ | refine xt_bk_ne rfl ?_ | refine p0 rfl rfl rfl ?_ | refine p0n rfl rfl ?_ | refine pAr rfl rfl rfl rfl rfl rfl rfl (by omega) (by omega) ?_ | refine pBuild rfl rfl rfl rfl rfl rfl ?_ | refine pE (eAlloc rfl rfl rfl rfl) rfl ?_ | refine pE (eBox rfl rfl rfl rfl rfl) rfl ?_ | refine pE (eSt rfl rfl rfl rfl rfl rfl rfl rfl rfl) rfl ?_ | refine pE (eBs rfl rfl rfl rfl rfl rfl rfl rfl rfl) rfl ?_ | refine awp_cond (b := true) rfl (fun _ => ?_) (fun h => Bool.noConfusion h) | refine awp_cond (b := false) rfl (fun h => Bool.noConfusion h) (fun _ => ?_) | ((fail_if_success refine pG (b := true) rfl rfl ?_ ?_); (fail_if_success refine pG (b := false) rfl rfl ?_ ?_); (refine pG rfl rfl (fun hc => ?_) (fun hc => ?_)) <;> try simp at hc) | ((refine awp_cond rfl (fun hc => ?_) (fun hc => ?_)) <;> try simp at hc))
  · omega
  refine pCo 0 (insertion_ac L (by omega)) rfl rfl rfl rfl (fun _ => rfl) (fun _ _ => rfl) rfl rfl rfl (by decide) (by repeat' (first | exact trivial | exact rfl | refine And.intro ?_ ?_ | exact Or.inl ⟨_, rfl, rfl⟩ | exact ⟨_, rfl, rfl⟩ | exact bor_sl rfl (by assumption) | exact bor_ios rfl | exact bor_ios1 rfl | exact bor_iosJ rfl | exact bor_pw rfl)) ?_
  intro _ _
  repeat (first | refine p1 rfl rfl rfl rfl ?_ | refine al_end ?_ | refine awp_seq ?_ | refine awp_region ?_ | refine awp_block ?_ | refine awp_skip' ?_ | refine awp_ret' ?_ | refine awp_exit' ?_ | refine xt_sq_n ?_ | refine xt_bk_n ?_ | refine xt_sq_r ?_ | refine xt_bk_r ?_ | refine xt_sq_x ?_ | refine xt_bk_eq ?_ | refine xt_bk_ne rfl ?_ | refine p0 rfl rfl rfl ?_ | refine p0n rfl rfl ?_ | refine pAr rfl rfl rfl rfl rfl rfl rfl (by omega) (by omega) ?_ | refine pBuild rfl rfl rfl rfl rfl rfl ?_ | refine pE (eAlloc rfl rfl rfl rfl) rfl ?_ | refine pE (eBox rfl rfl rfl rfl rfl) rfl ?_ | refine pE (eSt rfl rfl rfl rfl rfl rfl rfl rfl rfl) rfl ?_ | refine pE (eBs rfl rfl rfl rfl rfl rfl rfl rfl rfl) rfl ?_)
  refine awp_loopE (fun _ : Unit => { fr := [(1, .h (.c (.int .i64 L.length))), (6, .h (.c (.int .i64 20)))], hp := [(0, .arr 69 6 (rows pow (sortS L)))], nx := 1 })
    (fun m _ => m = 0) 0 () [(0, 0)] ⟨rfl, rfl, rfl, by repeat (first | exact trivial | refine ⟨rfl, ?_⟩), by repeat (first | exact trivial | refine ⟨rfl, ?_⟩ | refine ⟨hrr_le rfl, ?_⟩)⟩ rfl ?_
  rintro _ ⟨⟩ rfl
  repeat' (first | refine p1 rfl rfl rfl rfl ?_ | refine al_end ?_ | refine awp_seq ?_ | refine awp_region ?_ | refine awp_block ?_ | refine awp_skip' ?_ | refine awp_ret' ?_ | refine awp_exit' ?_ | refine xt_sq_n ?_ | refine xt_bk_n ?_ | refine xt_sq_r ?_ | refine xt_bk_r ?_ | refine xt_sq_x ?_ | refine xt_bk_eq ?_ | refine xt_bk_ne rfl ?_ | refine p0 rfl rfl rfl ?_ | refine p0n rfl rfl ?_ | refine pAr rfl rfl rfl rfl rfl rfl rfl (by omega) (by omega) ?_ | refine pBuild rfl rfl rfl rfl rfl rfl ?_ | refine pE (eAlloc rfl rfl rfl rfl) rfl ?_ | refine pE (eBox rfl rfl rfl rfl rfl) rfl ?_ | refine pE (eSt rfl rfl rfl rfl rfl rfl rfl rfl rfl) rfl ?_ | refine pE (eBs rfl rfl rfl rfl rfl rfl rfl rfl rfl) rfl ?_ | refine awp_cond (b := true) rfl (fun _ => ?_) (fun h => Bool.noConfusion h) | refine awp_cond (b := false) rfl (fun h => Bool.noConfusion h) (fun _ => ?_) | ((fail_if_success refine pG (b := true) rfl rfl ?_ ?_); (fail_if_success refine pG (b := false) rfl rfl ?_ ?_); (refine pG rfl rfl (fun hc => ?_) (fun hc => ?_)) <;> try simp at hc) | ((refine awp_cond rfl (fun hc => ?_) (fun hc => ?_)) <;> try simp at hc))
  · omega
  exact xt_finG [(0, 0)] (.tup []) [.arr 69 6 (rows pow (sortS L))] (.inl rfl) rfl rfl rfl rfl rfl ⟨rfl, trivial⟩ trivial ⟨pow_tgs _, trivial⟩ ⟨(), trivial, rfl, rfl⟩
set_option maxRecDepth 100000 in
theorem sort_ac (L : List Pl) (hL : L.length ≤ 19) : AC Try.prog 63 [.h (.sl 0 0 L.length), .h (.c (.fn 64))] [.arr 69 6 (rows pow L)] [0]
    (fun r h => ∃ _a : Unit, True ∧ h = [.arr 69 6 (rows pow (sortS L))] ∧ r = .tup []) := by
  refine ac_body teok Try.func63 rfl (by kernel_rfl) Try.ntmps63 rfl rfl ?_
  intro w0 ps g0 im0
  repeat (first | refine p1 rfl rfl rfl rfl ?_ | refine al_end ?_ | refine awp_seq ?_ | refine awp_region ?_ | refine awp_block ?_ | refine awp_skip' ?_ | refine awp_ret' ?_ | refine awp_exit' ?_ | refine xt_sq_n ?_ | refine xt_bk_n ?_ | refine xt_sq_r ?_ | refine xt_bk_r ?_ | refine xt_sq_x ?_ | refine xt_bk_eq ?_ | refine xt_bk_ne rfl ?_ | refine p0 rfl rfl rfl ?_ | refine p0n rfl rfl ?_ | refine pAr rfl rfl rfl rfl rfl rfl rfl (by omega) (by omega) ?_ | refine pBuild rfl rfl rfl rfl rfl rfl ?_ | refine pE (eAlloc rfl rfl rfl rfl) rfl ?_ | refine pE (eBox rfl rfl rfl rfl rfl) rfl ?_ | refine pE (eSt rfl rfl rfl rfl rfl rfl rfl rfl rfl) rfl ?_ | refine pE (eBs rfl rfl rfl rfl rfl rfl rfl rfl rfl) rfl ?_)
  refine pCo 0 (stable_ac L hL) rfl rfl rfl rfl (fun _ => rfl) (fun _ _ => rfl) rfl rfl rfl (by decide) (by repeat' (first | exact trivial | exact rfl | refine And.intro ?_ ?_ | exact Or.inl ⟨_, rfl, rfl⟩ | exact ⟨_, rfl, rfl⟩ | exact bor_sl rfl (by assumption) | exact bor_ios rfl | exact bor_ios1 rfl | exact bor_iosJ rfl | exact bor_pw rfl)) ?_
  intro _ _
  repeat (first | refine p1 rfl rfl rfl rfl ?_ | refine al_end ?_ | refine awp_seq ?_ | refine awp_region ?_ | refine awp_block ?_ | refine awp_skip' ?_ | refine awp_ret' ?_ | refine awp_exit' ?_ | refine xt_sq_n ?_ | refine xt_bk_n ?_ | refine xt_sq_r ?_ | refine xt_bk_r ?_ | refine xt_sq_x ?_ | refine xt_bk_eq ?_ | refine xt_bk_ne rfl ?_ | refine p0 rfl rfl rfl ?_ | refine p0n rfl rfl ?_ | refine pAr rfl rfl rfl rfl rfl rfl rfl (by omega) (by omega) ?_ | refine pBuild rfl rfl rfl rfl rfl rfl ?_ | refine pE (eAlloc rfl rfl rfl rfl) rfl ?_ | refine pE (eBox rfl rfl rfl rfl rfl) rfl ?_ | refine pE (eSt rfl rfl rfl rfl rfl rfl rfl rfl rfl) rfl ?_ | refine pE (eBs rfl rfl rfl rfl rfl rfl rfl rfl rfl) rfl ?_)
  exact xt_finG [(0, 0)] (.tup []) [.arr 69 6 (rows pow (sortS L))] (.inl rfl) rfl rfl rfl rfl rfl ⟨rfl, trivial⟩ trivial ⟨pow_tgs _, trivial⟩ ⟨(), trivial, rfl, rfl⟩
def flB (m : Mx) (all : Bool) : Bool := mxOk m && (all || decide (2 ≤ m.pool.length))
def flM (m : Mx) (all : Bool) : Mx := if mxOk m then (if flB m all then ⟨m.sec, m.seen, []⟩ else m) else ⟨0, [], []⟩
def flL (m : Mx) (all : Bool) : List Pl := if flB m all then sortS m.pool else []
def flObs (m : Mx) (all : Bool) : List Ob := [.arr 3 1 (ints (flM m all).seen), .arr 69 6 (rows pow (flM m all).pool), .arr 69 6 (rows pow (flL m all))]
def flR (m : Mx) (all : Bool) : AV := .tup [mw (flM m all), .h (.sl 2 0 (flL m all).length)]
set_option maxHeartbeats 1000000 in
set_option maxRecDepth 100000 in
theorem implFlush_ac (t : Nat) (m : Mx) (all : Bool) (hm : SmM 2097152 m) : AC Try.prog 19 [mv t m, .h (.c (.bool all))] [] [0] (fun r h => h = flObs m all ∧ r = flR m all) := by
  have h1 := implMV_ac t m hm
  refine ac_bodyM teok Try.func19 rfl (by kernel_rfl) Try.ntmps19 rfl rfl ?_
  intro w0 ps g0 im0
  repeat' (first | refine p1 rfl rfl rfl rfl ?_ | refine al_end ?_ | refine awp_seq ?_ | refine awp_region ?_ | refine awp_block ?_ | refine awp_skip' ?_ | refine awp_ret' ?_ | refine awp_exit' ?_ | refine xt_sq_n ?_ | refine xt_bk_n ?_ | refine xt_sq_r ?_ | refine xt_bk_r ?_ | refine xt_sq_x ?_ | refine xt_bk_eq ?_ | refine xt_bk_ne rfl ?_ | refine p0 rfl rfl rfl ?_ | refine p0n rfl rfl ?_ | refine pAr rfl rfl rfl rfl rfl rfl rfl (by omega) (by omega) ?_ | refine pBuild rfl rfl rfl rfl rfl rfl ?_ | refine pE (eAlloc rfl rfl rfl rfl) rfl ?_ | refine pE (eBox rfl rfl rfl rfl rfl) rfl ?_ | refine pE (eSt rfl rfl rfl rfl rfl rfl rfl rfl rfl) rfl ?_ | refine pE (eBs rfl rfl rfl rfl rfl rfl rfl rfl rfl) rfl ?_ | refine awp_cond (b := true) rfl (fun _ => ?_) (fun h => Bool.noConfusion h) | refine awp_cond (b := false) rfl (fun h => Bool.noConfusion h) (fun _ => ?_) | ((fail_if_success refine pG (b := true) rfl rfl ?_ ?_); (fail_if_success refine pG (b := false) rfl rfl ?_ ?_); (refine pG rfl rfl (fun hc => ?_) (fun hc => ?_)) <;> try simp at hc) | ((refine awp_cond rfl (fun hc => ?_) (fun hc => ?_)) <;> try simp at hc) | refine pC0 (h1) rfl rfl rfl rfl rfl rfl rfl (by decide) ?_)
  · have hmo : mxOk m = false := by assumption
    have hF : flB m all = false := by simp [flB, hmo]
    have hM : flM m all = ⟨0, [], []⟩ := by simp [flM, hmo]
    have hL : flL m all = [] := by simp [flL, hF]
    unfold flObs flR
    rw [hM, hL]
    refine xt_nownB (pre := [.c (.int .i64 0)]) (post := [.c .nil]) 1 3 1 rfl (xt_nownB (pre := [.c (.int .i64 0), .sl 2 0 0]) (post := []) 1 69 6 rfl (xt_ownM 5 69 6 rfl (xt_M ?_)))
    exact xt_finG [(0, 2), (1, 3), (2, 4)] (.tup [mw ⟨0, [], []⟩, .h (.sl 2 0 0)]) [.arr 3 1 [], .arr 69 6 [], .arr 69 6 []] (.inr rfl) rfl rfl rfl rfl rfl ⟨rfl, rfl, rfl, trivial⟩ (by repeat' (first | exact trivial | refine And.intro ?_ ?_)) ⟨trivial, trivial, trivial, trivial⟩ ⟨rfl, rfl⟩
  have hmo : mxOk m = true := by assumption
  obtain ⟨_, _, hp5, _, _⟩ := mxOk_iff.1 hmo
  have hsl := sortS_len m.pool
  refine pC (eCall (implCopyM_ac t m (hm.mono (by omega))) 99 [] rfl rfl rfl rfl rfl rfl (by repeat' (first | exact trivial | exact rfl | refine And.intro ?_ ?_ | exact Or.inl ⟨_, rfl, rfl⟩ | exact ⟨_, rfl, rfl⟩ | exact bor_sl rfl (by assumption) | exact bor_ios rfl | exact bor_ios1 rfl | exact bor_iosJ rfl | exact bor_pw rfl)) (by decide)) rfl ?_
  rintro _ _ ⟨rfl, rfl⟩
  repeat' (first | refine p1 rfl rfl rfl rfl ?_ | refine al_end ?_ | refine awp_seq ?_ | refine awp_region ?_ | refine awp_block ?_ | refine awp_skip' ?_ | refine awp_ret' ?_ | refine awp_exit' ?_ | refine xt_sq_n ?_ | refine xt_bk_n ?_ | refine xt_sq_r ?_ | refine xt_bk_r ?_ | refine xt_sq_x ?_ | refine xt_bk_eq ?_ | refine xt_bk_ne rfl ?_ | refine p0 rfl rfl rfl ?_ | refine p0n rfl rfl ?_ | refine pAr rfl rfl rfl rfl rfl rfl rfl (by omega) (by omega) ?_ | refine pBuild rfl rfl rfl rfl rfl rfl ?_ | refine pE (eAlloc rfl rfl rfl rfl) rfl ?_ | refine pE (eBox rfl rfl rfl rfl rfl) rfl ?_ | refine pE (eSt rfl rfl rfl rfl rfl rfl rfl rfl rfl) rfl ?_ | refine pE (eBs rfl rfl rfl rfl rfl rfl rfl rfl rfl) rfl ?_ | refine awp_cond (b := true) rfl (fun _ => ?_) (fun h => Bool.noConfusion h) | refine awp_cond (b := false) rfl (fun h => Bool.noConfusion h) (fun _ => ?_) | ((fail_if_success refine pG (b := true) rfl rfl ?_ ?_); (fail_if_success refine pG (b := false) rfl rfl ?_ ?_); (refine pG rfl rfl (fun hc => ?_) (fun hc => ?_)) <;> try simp at hc) | ((refine awp_cond rfl (fun hc => ?_) (fun hc => ?_)) <;> try simp at hc))
  · have hF : flB m all = false := by
      have h2 : ¬ 2 ≤ m.pool.length := by omega
      have h3 : all = false := by assumption
      simp [flB, h2, h3]
    have hM : flM m all = m := by simp [flM, hmo, hF]
    have hL : flL m all = [] := by simp [flL, hF]
    unfold flObs flR
    rw [hM, hL]
    refine xt_ownM 5 69 6 rfl (xt_M ?_)
    exact xt_finG [(0, 2), (1, 3), (2, 5)] (.tup [mw m, .h (.sl 2 0 0)]) [.arr 3 1 (ints m.seen), .arr 69 6 (rows pow m.pool), .arr 69 6 []] (.inr rfl) rfl rfl rfl rfl rfl ⟨rfl, rfl, rfl, trivial⟩ (by repeat' (first | exact trivial | refine And.intro ?_ ?_)) ⟨ints_tgs _, pow_tgs _, trivial, trivial⟩ ⟨rfl, rfl⟩
  all_goals
    · have hF : flB m all = true := by
        first
          | (have h3 : all = true := by assumption
             simp [flB, hmo, h3])
          | (have h2 : 2 ≤ m.pool.length := by omega
             simp [flB, hmo, h2])
      have hM : flM m all = ⟨m.sec, m.seen, []⟩ := by simp [flM, hmo, hF]
      have hL : flL m all = sortS m.pool := by simp [flL, hF]
      refine pCo 3 (sort_ac m.pool (by omega)) rfl rfl rfl rfl (fun _ => rfl) (fun _ _ => rfl) rfl rfl rfl (by decide) (by repeat' (first | exact trivial | exact rfl | refine And.intro ?_ ?_ | exact Or.inl ⟨_, rfl, rfl⟩ | exact ⟨_, rfl, rfl⟩ | exact bor_sl rfl (by assumption) | exact bor_ios rfl | exact bor_ios1 rfl | exact bor_iosJ rfl | exact bor_pw rfl)) ?_
      intro _ _
      repeat (first | refine p1 rfl rfl rfl rfl ?_ | refine al_end ?_ | refine awp_seq ?_ | refine awp_region ?_ | refine awp_block ?_ | refine awp_skip' ?_ | refine awp_ret' ?_ | refine awp_exit' ?_ | refine xt_sq_n ?_ | refine xt_bk_n ?_ | refine xt_sq_r ?_ | refine xt_bk_r ?_ | refine xt_sq_x ?_ | refine xt_bk_eq ?_ | refine xt_bk_ne rfl ?_ | refine p0 rfl rfl rfl ?_ | refine p0n rfl rfl ?_ | refine pAr rfl rfl rfl rfl rfl rfl rfl (by omega) (by omega) ?_ | refine pBuild rfl rfl rfl rfl rfl rfl ?_ | refine pE (eAlloc rfl rfl rfl rfl) rfl ?_ | refine pE (eBox rfl rfl rfl rfl rfl) rfl ?_ | refine pE (eSt rfl rfl rfl rfl rfl rfl rfl rfl rfl) rfl ?_ | refine pE (eBs rfl rfl rfl rfl rfl rfl rfl rfl rfl) rfl ?_)
      unfold flObs flR
      rw [hM, hL]
      refine xt_nownB (pre := [.c (.int .i64 m.sec), .sl 2 0 m.seen.length]) (post := []) 1 69 6 rfl (xt_M ?_)
      refine xt_finG [(0, 2), (1, 5), (2, 3)] (.tup [mw ⟨m.sec, m.seen, []⟩, .h (.sl 2 0 (sortS m.pool).length)]) [.arr 3 1 (ints m.seen), .arr 69 6 [], .arr 69 6 (rows pow (sortS m.pool))] (.inr rfl) rfl rfl rfl rfl ?_ ⟨rfl, rfl, rfl, trivial⟩ (by repeat' (first | exact trivial | refine And.intro ?_ ?_)) ⟨ints_tgs _, trivial, pow_tgs _, trivial⟩ ⟨rfl, rfl⟩
      rw [hsl]; rfl
end Go.Proofs.Ythmgfgiaagkdeaa
