import Derived.Test.YthmgfgiaagkdeaaG33
import Derived.Test.YthmgfgiaagkdeaaG6
namespace Go.Proofs.Ythmgfgiaagkdeaa
open Go.RowKit
attribute [local irreducible] AWP AL XT AC ES PS AH AH2 LpQ
def makeOk (sec : Int) (pb ns : List Int) (rc : Int) (lt : List Int) : Bool := packOk lt && elt sec && pth pb && decide (ns.length = pb.length) && ns.all (fun n => inB n 0 7) && inB rc 0 7
def noP : Pk := ⟨0, [], 0, []⟩
set_option maxHeartbeats 4000000 in
set_option maxRecDepth 100000 in
theorem make_ac (t1 t2 t3 : Nat) (sec : Int) (pb ns : List Int) (rc : Int) (lt : List Int) (hb1 : pb.length ≤ 1000) (_hb2 : ns.length ≤ 1000) (hb3 : lt.length ≤ 1000) : AC Try.prog 115 [.h (.c (.int .i64 sec)), .h (.c (.rd t1 pb.length (ints pb))), .h (.c (.rd t2 ns.length (ints ns))), .h (.c (.int .i64 rc)), .h (.c (.rd (t3 + 1) lt.length (ints lt)))] [] [0]
    (fun r h => ∃ p : Pk, (if makeOk sec pb ns rc lt then pkOk p = true else p = noP) ∧ h = pObs p ∧ r = .tup [pw p, .h (.c (.bool (makeOk sec pb ns rc lt)))]) := by
  refine ac_bodyM teok Try.func115 rfl (by kernel_rfl) Try.ntmps115 rfl rfl ?_
  intro w0 ps g0 im0
  repeat (first | refine p1 rfl rfl rfl rfl ?_ | refine al_end ?_ | refine awp_seq ?_ | refine awp_region ?_ | refine awp_block ?_ | refine awp_skip' ?_ | refine awp_ret' ?_ | refine awp_exit' ?_ | refine xt_sq_n ?_ | refine xt_bk_n ?_ | refine xt_sq_r ?_ | refine xt_bk_r ?_ | refine xt_sq_x ?_ | refine xt_bk_eq ?_ | refine xt_bk_ne rfl ?_ | refine p0 rfl rfl rfl ?_ | refine p0n rfl rfl ?_ | refine pAr rfl rfl rfl rfl rfl rfl rfl (by omega) (by omega) ?_ | refine pBuild rfl rfl rfl rfl rfl rfl ?_ | refine pE (eAlloc rfl rfl rfl rfl) rfl ?_ | refine pE (eBox rfl rfl rfl rfl rfl) rfl ?_ | refine pE (eSt rfl rfl rfl rfl rfl rfl rfl rfl rfl) rfl ?_ | refine pE (eBs rfl rfl rfl rfl rfl rfl rfl rfl rfl) rfl ?_)
  refine pC (eCall (specPack_ac t3 lt (by omega)) 99 [] rfl rfl rfl rfl rfl rfl (by repeat' (first | exact trivial | exact rfl | refine And.intro ?_ ?_ | exact Or.inl ⟨_, rfl, rfl⟩ | exact ⟨_, rfl, rfl⟩ | exact bor_sl rfl (by assumption) | exact bor_ios rfl | exact bor_ios1 rfl | exact bor_iosJ rfl | exact bor_pw rfl)) (by decide)) rfl ?_
  rintro _ _ ⟨rfl, rfl⟩
  repeat' (first | refine p1 rfl rfl rfl rfl ?_ | refine al_end ?_ | refine awp_seq ?_ | refine awp_region ?_ | refine awp_block ?_ | refine awp_skip' ?_ | refine awp_ret' ?_ | refine awp_exit' ?_ | refine xt_sq_n ?_ | refine xt_bk_n ?_ | refine xt_sq_r ?_ | refine xt_bk_r ?_ | refine xt_sq_x ?_ | refine xt_bk_eq ?_ | refine xt_bk_ne rfl ?_ | refine p0 rfl rfl rfl ?_ | refine p0n rfl rfl ?_ | refine pAr rfl rfl rfl rfl rfl rfl rfl (by omega) (by omega) ?_ | refine pBuild rfl rfl rfl rfl rfl rfl ?_ | refine pE (eAlloc rfl rfl rfl rfl) rfl ?_ | refine pE (eBox rfl rfl rfl rfl rfl) rfl ?_ | refine pE (eSt rfl rfl rfl rfl rfl rfl rfl rfl rfl) rfl ?_ | refine pE (eBs rfl rfl rfl rfl rfl rfl rfl rfl rfl) rfl ?_ | refine awp_cond (b := true) rfl (fun _ => ?_) (fun h => Bool.noConfusion h) | refine awp_cond (b := false) rfl (fun h => Bool.noConfusion h) (fun _ => ?_) | ((fail_if_success refine pG (b := true) rfl rfl ?_ ?_); (fail_if_success refine pG (b := false) rfl rfl ?_ ?_); (refine pG rfl rfl (fun hc => ?_) (fun hc => ?_)) <;> try simp at hc) | ((refine awp_cond rfl (fun hc => ?_) (fun hc => ?_)) <;> try simp at hc) | refine pC0 (l1Is_ac _) rfl rfl rfl rfl rfl rfl rfl (by decide) ?_ | refine pC0 (l5Publics_ac t1 pb (by omega)) rfl rfl rfl rfl rfl rfl rfl (by decide) ?_ | refine pC0 (names_ac t2 ns (by omega)) rfl rfl rfl rfl rfl rfl rfl (by decide) ?_ | refine pC0 (l6In_ac _ _ _) rfl rfl rfl rfl rfl rfl rfl (by decide) ?_)
  iterate 6
    · have hno : makeOk sec pb ns rc lt = false := by
        first
          | (have h : packOk lt = false := by assumption
             simp [makeOk, h])
          | (have h : elt sec = false := by assumption
             simp [makeOk, h])
          | (have h : pth pb = false := by assumption
             simp [makeOk, h])
          | (have h : ns.length ≠ pb.length := by omega
             simp [makeOk, h])
          | (have h : inB rc 0 7 = false := by assumption
             simp [makeOk, h])
          | (have h : (ns.all fun n => inB n 0 7) = false := by simpa using hc
             simp only [makeOk, h, Bool.and_false, Bool.false_and])
      refine xt_nownB (pre := [.c (.int .i64 0)]) (post := [.c (.int .i64 0), .c .nil]) 0 3 1 rfl (xt_nownB (pre := [.c (.int .i64 0), .sl 2 0 0, .c (.int .i64 0)]) (post := []) 0 3 1 rfl (xt_M ?_))
      rw [hno]
      exact xt_finG [(0, 2), (1, 3)] (.tup [pw noP, .h (.c (.bool false))]) (pObs noP) (.inr rfl) rfl rfl rfl rfl rfl ⟨rfl, rfl, trivial⟩ (by repeat' (first | exact trivial | refine And.intro ?_ ?_)) ⟨trivial, trivial, trivial⟩ ⟨noP, rfl, rfl, rfl⟩
  have q1 : packOk lt = true := by assumption
  have q2 : elt sec = true := by assumption
  have q3 : pth pb = true := by assumption
  have q4 : ns.length = pb.length := by omega
  have q5 : ∀ n ∈ ns, inB n 0 7 = true := by assumption
  have q6 : inB rc 0 7 = true := by assumption
  have hyes : makeOk sec pb ns rc lt = true := by
    have h : (ns.all fun n => inB n 0 7) = true := by simpa using q5
    simp only [makeOk, q1, q2, q3, q6, h, q4, decide_true, Bool.and_true]
  obtain ⟨p1', p2', p3'⟩ := pth_iff.1 q3
  have hR : packR lt = packV lt := by simp [packR, q1]
  have h6 : (packV lt).length = 6 := packV_len (packOk_iff.1 q1).2
  have hlv := packV_lst q1
  rw [hR]
  generalize packV lt = B at *
  refine pC (eCall (keys_ac t1 sec pb q2 p1' (by omega)) 99 [] rfl rfl rfl rfl rfl rfl (by repeat' (first | exact trivial | exact rfl | refine And.intro ?_ ?_ | exact Or.inl ⟨_, rfl, rfl⟩ | exact ⟨_, rfl, rfl⟩ | exact bor_sl rfl (by assumption) | exact bor_ios rfl | exact bor_ios1 rfl | exact bor_iosJ rfl | exact bor_pw rfl)) (by decide)) rfl ?_
  rintro _ _ ⟨ks, ⟨hkl, hke⟩, rfl, rfl⟩
  have hpk := ints_plain ks
  refine al_frz 2 100 rfl rfl hpk ?_
  repeat (first | refine p1 rfl rfl rfl rfl ?_ | refine al_end ?_ | refine awp_seq ?_ | refine awp_region ?_ | refine awp_block ?_ | refine awp_skip' ?_ | refine awp_ret' ?_ | refine awp_exit' ?_ | refine xt_sq_n ?_ | refine xt_bk_n ?_ | refine xt_sq_r ?_ | refine xt_bk_r ?_ | refine xt_sq_x ?_ | refine xt_bk_eq ?_ | refine xt_bk_ne rfl ?_ | refine p0 rfl rfl rfl ?_ | refine p0n rfl rfl ?_ | refine pAr rfl rfl rfl rfl rfl rfl rfl (by omega) (by omega) ?_ | refine pBuild rfl rfl rfl rfl rfl rfl ?_ | refine pE (eAlloc rfl rfl rfl rfl) rfl ?_ | refine pE (eBox rfl rfl rfl rfl rfl) rfl ?_ | refine pE (eSt rfl rfl rfl rfl rfl rfl rfl rfl rfl) rfl ?_ | refine pE (eBs rfl rfl rfl rfl rfl rfl rfl rfl rfl) rfl ?_)
  refine awp_loopE (fun a : Nat × List Int => { fr := [(0, .h (.c (.int .i64 sec))), (2, .h (.c (.rd t2 ns.length (ints ns)))), (3, .h (.c (.int .i64 rc))), (10, .h (.ptr 0 0)), (12, .h (.sl 1 0 a.2.length)), (14, .h (.c (.rd 100 ks.length (ints ks)))), (15, .h (.c (.int .i64 a.1)))], hp := [(0, .box 36 [.c (.int .i64 0), .c .nil, .c (.int .i64 0), .c .nil]), (1, .arr 3 1 (ints a.2))], nx := 2 })
    (fun m a => a.1 ≤ ks.length ∧ m = ks.length - a.1 ∧ a.2.length = 6 ∧ lst a.2 = true) ks.length (0, B) [(0, 0), (1, 1)] ⟨rfl, rfl, rfl, by repeat (first | exact trivial | refine ⟨rfl, ?_⟩), by repeat (first | exact trivial | refine ⟨rfl, ?_⟩ | refine ⟨hrr_le rfl, ?_⟩)⟩ ⟨Nat.zero_le _, rfl, h6, hlv⟩ ?_
  rintro m ⟨i, b⟩ ⟨hi, rfl, hbl, hbv⟩
  simp only at hi hbl hbv ⊢
  have hpb := ints_plain b
  repeat' (first | refine p1 rfl rfl rfl rfl ?_ | refine al_end ?_ | refine awp_seq ?_ | refine awp_region ?_ | refine awp_block ?_ | refine awp_skip' ?_ | refine awp_ret' ?_ | refine awp_exit' ?_ | refine xt_sq_n ?_ | refine xt_bk_n ?_ | refine xt_sq_r ?_ | refine xt_bk_r ?_ | refine xt_sq_x ?_ | refine xt_bk_eq ?_ | refine xt_bk_ne rfl ?_ | refine p0 rfl rfl rfl ?_ | refine p0n rfl rfl ?_ | refine pAr rfl rfl rfl rfl rfl rfl rfl (by omega) (by omega) ?_ | refine pBuild rfl rfl rfl rfl rfl rfl ?_ | refine pE (eAlloc rfl rfl rfl rfl) rfl ?_ | refine pE (eBox rfl rfl rfl rfl rfl) rfl ?_ | refine pE (eSt rfl rfl rfl rfl rfl rfl rfl rfl rfl) rfl ?_ | refine pE (eBs rfl rfl rfl rfl rfl rfl rfl rfl rfl) rfl ?_ | refine awp_cond (b := true) rfl (fun _ => ?_) (fun h => Bool.noConfusion h) | refine awp_cond (b := false) rfl (fun h => Bool.noConfusion h) (fun _ => ?_) | ((fail_if_success refine pG (b := true) rfl rfl ?_ ?_); (fail_if_success refine pG (b := false) rfl rfl ?_ ?_); (refine pG rfl rfl (fun hc => ?_) (fun hc => ?_)) <;> try simp at hc) | ((refine awp_cond rfl (fun hc => ?_) (fun hc => ?_)) <;> try simp at hc))
  · have hi' : i < ks.length := by omega
    refine pIxR (f := int1) (L := ks) i rfl rfl rfl rfl rfl rfl rfl rfl rfl (fun _ => rfl) rfl rfl hi' ?_
    repeat (first | refine p1 rfl rfl rfl rfl ?_ | refine al_end ?_ | refine awp_seq ?_ | refine awp_region ?_ | refine awp_block ?_ | refine awp_skip' ?_ | refine awp_ret' ?_ | refine awp_exit' ?_ | refine xt_sq_n ?_ | refine xt_bk_n ?_ | refine xt_sq_r ?_ | refine xt_bk_r ?_ | refine xt_sq_x ?_ | refine xt_bk_eq ?_ | refine xt_bk_ne rfl ?_ | refine p0 rfl rfl rfl ?_ | refine p0n rfl rfl ?_ | refine pAr rfl rfl rfl rfl rfl rfl rfl (by omega) (by omega) ?_ | refine pBuild rfl rfl rfl rfl rfl rfl ?_ | refine pE (eAlloc rfl rfl rfl rfl) rfl ?_ | refine pE (eBox rfl rfl rfl rfl rfl) rfl ?_ | refine pE (eSt rfl rfl rfl rfl rfl rfl rfl rfl rfl) rfl ?_ | refine pE (eBs rfl rfl rfl rfl rfl rfl rfl rfl rfl) rfl ?_)
    refine pCn (l2On_ac 99 ks[i] b (hke _ (List.getElem_mem hi')) hbv) rfl rfl rfl rfl rfl (by decide) (by repeat' (first | exact trivial | exact rfl | refine And.intro ?_ ?_ | exact Or.inl ⟨_, rfl, rfl⟩ | exact ⟨_, rfl, rfl⟩ | exact bor_sl rfl (by assumption) | exact bor_ios rfl | exact bor_ios1 rfl | exact bor_iosJ rfl | exact bor_pw rfl)) ?_
    repeat (first | refine p1 rfl rfl rfl rfl ?_ | refine al_end ?_ | refine awp_seq ?_ | refine awp_region ?_ | refine awp_block ?_ | refine awp_skip' ?_ | refine awp_ret' ?_ | refine awp_exit' ?_ | refine xt_sq_n ?_ | refine xt_bk_n ?_ | refine xt_sq_r ?_ | refine xt_bk_r ?_ | refine xt_sq_x ?_ | refine xt_bk_eq ?_ | refine xt_bk_ne rfl ?_ | refine p0 rfl rfl rfl ?_ | refine p0n rfl rfl ?_ | refine pAr rfl rfl rfl rfl rfl rfl rfl (by omega) (by omega) ?_ | refine pBuild rfl rfl rfl rfl rfl rfl ?_ | refine pE (eAlloc rfl rfl rfl rfl) rfl ?_ | refine pE (eBox rfl rfl rfl rfl rfl) rfl ?_ | refine pE (eSt rfl rfl rfl rfl rfl rfl rfl rfl rfl) rfl ?_ | refine pE (eBs rfl rfl rfl rfl rfl rfl rfl rfl rfl) rfl ?_)
    exact lp_end (ks.length - (i + 1)) (i + 1, onV ks[i] b) [(0, 0), (1, 2)] (by omega) ⟨rfl, rfl, rfl, by repeat (first | exact trivial | refine ⟨rfl, ?_⟩), by repeat (first | exact trivial | refine ⟨rfl, ?_⟩ | refine ⟨hrr_le rfl, ?_⟩)⟩ ⟨hi', rfl, by rw [onV_len]; exact hbl, onV_lst (by omega)⟩
  · refine pC (eCall (header_ac 100 t2 ks ns rc hke (by omega) (by omega) (by omega) (fun n h => inB_iff.1 (q5 n h)) (inB_iff.1 q6)) 99 [] rfl rfl rfl rfl rfl rfl (by repeat' (first | exact trivial | exact rfl | refine And.intro ?_ ?_ | exact Or.inl ⟨_, rfl, rfl⟩ | exact ⟨_, rfl, rfl⟩ | exact bor_sl rfl (by assumption) | exact bor_ios rfl | exact bor_ios1 rfl | exact bor_iosJ rfl | exact bor_pw rfl)) (by decide)) rfl ?_
    rintro _ _ ⟨⟨H, tg⟩, ⟨⟨h9, hn⟩, ht⟩, rfl, rfl⟩
    simp only at h9 hn ht ⊢
    repeat (first | refine p1 rfl rfl rfl rfl ?_ | refine al_end ?_ | refine awp_seq ?_ | refine awp_region ?_ | refine awp_block ?_ | refine awp_skip' ?_ | refine awp_ret' ?_ | refine awp_exit' ?_ | refine xt_sq_n ?_ | refine xt_bk_n ?_ | refine xt_sq_r ?_ | refine xt_bk_r ?_ | refine xt_sq_x ?_ | refine xt_bk_eq ?_ | refine xt_bk_ne rfl ?_ | refine p0 rfl rfl rfl ?_ | refine p0n rfl rfl ?_ | refine pAr rfl rfl rfl rfl rfl rfl rfl (by omega) (by omega) ?_ | refine pBuild rfl rfl rfl rfl rfl rfl ?_ | refine pE (eAlloc rfl rfl rfl rfl) rfl ?_ | refine pE (eBox rfl rfl rfl rfl rfl) rfl ?_ | refine pE (eSt rfl rfl rfl rfl rfl rfl rfl rfl rfl) rfl ?_ | refine pE (eBs rfl rfl rfl rfl rfl rfl rfl rfl rfl) rfl ?_)
    refine pCv (public_ac sec) rfl rfl (fun _ => rfl) rfl rfl rfl (by decide) (by repeat' (first | exact trivial | exact rfl | refine And.intro ?_ ?_ | exact Or.inl ⟨_, rfl, rfl⟩ | exact ⟨_, rfl, rfl⟩ | exact bor_sl rfl (by assumption) | exact bor_ios rfl | exact bor_ios1 rfl | exact bor_iosJ rfl | exact bor_pw rfl)) ?_
    repeat (first | refine p1 rfl rfl rfl rfl ?_ | refine al_end ?_ | refine awp_seq ?_ | refine awp_region ?_ | refine awp_block ?_ | refine awp_skip' ?_ | refine awp_ret' ?_ | refine awp_exit' ?_ | refine xt_sq_n ?_ | refine xt_bk_n ?_ | refine xt_sq_r ?_ | refine xt_bk_r ?_ | refine xt_sq_x ?_ | refine xt_bk_eq ?_ | refine xt_bk_ne rfl ?_ | refine p0 rfl rfl rfl ?_ | refine p0n rfl rfl ?_ | refine pAr rfl rfl rfl rfl rfl rfl rfl (by omega) (by omega) ?_ | refine pBuild rfl rfl rfl rfl rfl rfl ?_ | refine pE (eAlloc rfl rfl rfl rfl) rfl ?_ | refine pE (eBox rfl rfl rfl rfl rfl) rfl ?_ | refine pE (eSt rfl rfl rfl rfl rfl rfl rfl rfl rfl) rfl ?_ | refine pE (eBs rfl rfl rfl rfl rfl rfl rfl rfl rfl) rfl ?_)
    rw [hyes]
    exact xt_M (xt_finG [(0, 2), (1, 1)] (.tup [pw ⟨pubV sec, H, tg, b⟩, .h (.c (.bool true))]) (pObs ⟨pubV sec, H, tg, b⟩) (.inr rfl) rfl rfl rfl rfl rfl ⟨rfl, rfl, trivial⟩ (by repeat' (first | exact trivial | refine And.intro ?_ ?_)) ⟨ints_tgs _, ints_tgs _, trivial⟩ ⟨⟨pubV sec, H, tg, b⟩, pkOk_iff.2 ⟨pubV_elt q2, h9, lst_of (by show H.length ≤ 24; omega) hn, hbl, hbv, nmb_iff.2 ht⟩, rfl, rfl⟩)
end Go.Proofs.Ythmgfgiaagkdeaa
