import Derived.Test.YtjijkdhjfanpaaaC7
import Derived.Test.YtjijkdhjfanpaaaEngC
namespace Go.Proofs.Ytjijkdhjfanpaaa
open Go.RowKit
attribute [local irreducible] AWP AL XT AC ES PS AH AH2 LpQ
set_option maxHeartbeats 2000000 in
set_option maxRecDepth 100000 in
theorem l13Copy_ac (tg : Nat) (e : Int) (l : List (List Int)) (hl : Sml 2097152 l) : AC Try.prog 57 [cv tg e l] [] [0]
    (fun r h => h = [.arr 32 1 (ios l)] ∧ r = .agg [.c (.int .i64 e), .sl 0 0 l.length]) := by
  refine ac_body teok Try.func57 rfl (by kernel_rfl) Try.ntmps57 rfl rfl ?_
  intro w0 ps g0 im0
  have hl1 := hl.1
  repeat (first | refine p1 rfl rfl rfl rfl ?_ | refine al_end ?_ | refine awp_seq ?_ | refine awp_region ?_ | refine awp_block ?_ | refine awp_skip' ?_ | refine awp_ret' ?_ | refine awp_exit' ?_ | refine xt_sq_n ?_ | refine xt_bk_n ?_ | refine xt_sq_r ?_ | refine xt_bk_r ?_ | refine xt_sq_x ?_ | refine xt_bk_eq ?_ | refine xt_bk_ne rfl ?_ | refine p0 rfl rfl rfl ?_ | refine p0n rfl rfl ?_ | refine pAr rfl rfl rfl rfl rfl rfl rfl (by omega) (by omega) ?_ | refine pBuild rfl rfl rfl rfl rfl rfl ?_ | refine pE (eAlloc rfl rfl rfl rfl) rfl ?_ | refine pE (eBox rfl rfl rfl rfl rfl) rfl ?_ | refine pE (eSt rfl rfl rfl rfl rfl rfl rfl rfl rfl) rfl ?_ | refine pE (eBs rfl rfl rfl rfl rfl rfl rfl rfl rfl) rfl ?_)
  refine awp_nownB (pre := [.c (.int .i64 e)]) (post := []) 2 32 1 rfl ?_
  refine awp_loopE (fun k : Nat => { fr := [(1, .h (.ptr 0 0)), (2, .h (.ptr 1 0)), (3, .h (.ptr 2 0)), (4, .h (.c (.int .i64 k)))], hp := [(0, cbx tg e l), (1, .box 24 [.c (.int .i64 0), .c .nil]), (2, .box 24 [.c (.int .i64 e), .sl 3 0 k]), (3, .arr 32 1 (ios (l.take k)))], nx := 4 })
    (fun n k => k ≤ l.length ∧ n = l.length - k) l.length 0 [(0, 0), (1, 1), (2, 2), (3, 3)] ⟨rfl, rfl, rfl, by repeat (first | exact trivial | refine ⟨rfl, ?_⟩), by repeat (first | exact trivial | refine ⟨rfl, ?_⟩ | refine ⟨hrr_le rfl, ?_⟩)⟩ ⟨Nat.zero_le _, rfl⟩ ?_
  rintro n k ⟨hk, rfl⟩
  repeat' (first | refine p1 rfl rfl rfl rfl ?_ | refine al_end ?_ | refine awp_seq ?_ | refine awp_region ?_ | refine awp_block ?_ | refine awp_skip' ?_ | refine awp_ret' ?_ | refine awp_exit' ?_ | refine xt_sq_n ?_ | refine xt_bk_n ?_ | refine xt_sq_r ?_ | refine xt_bk_r ?_ | refine xt_sq_x ?_ | refine xt_bk_eq ?_ | refine xt_bk_ne rfl ?_ | refine p0 rfl rfl rfl ?_ | refine p0n rfl rfl ?_ | refine pAr rfl rfl rfl rfl rfl rfl rfl (by omega) (by omega) ?_ | refine pBuild rfl rfl rfl rfl rfl rfl ?_ | refine pE (eAlloc rfl rfl rfl rfl) rfl ?_ | refine pE (eBox rfl rfl rfl rfl rfl) rfl ?_ | refine pE (eSt rfl rfl rfl rfl rfl rfl rfl rfl rfl) rfl ?_ | refine pE (eBs rfl rfl rfl rfl rfl rfl rfl rfl rfl) rfl ?_ | refine awp_cond (b := true) rfl (fun _ => ?_) (fun h => Bool.noConfusion h) | refine awp_cond (b := false) rfl (fun h => Bool.noConfusion h) (fun _ => ?_) | ((fail_if_success refine pG (b := true) rfl rfl ?_ ?_); (fail_if_success refine pG (b := false) rfl rfl ?_ ?_); (refine pG rfl rfl (fun hc => ?_) (fun hc => ?_)) <;> try simp at hc) | ((refine awp_cond rfl (fun hc => ?_) (fun hc => ?_)) <;> try simp at hc))
  · have hk' : k < l.length := by omega
    have hxl := hl.2 _ (List.getElem_mem hk')
    ((repeat (first | refine awp_seq ?_ | refine awp_block ?_ | refine awp_skip' ?_ | refine xt_sq_n ?_ | refine xt_bk_n ?_)); refine awp_draw2 [(0, true), (1, true), (3, true), (4, true), (5, true), (6, true), (7, true), (2, false), (8, false), (9, false), (10, false), (11, true), (12, false)] [12] [2, 3] [3] mixed (by kernel_rfl) (by kernel_rfl) rfl rfl rfl rfl ?_)
    repeat (first | refine u1 rfl rfl rfl rfl rfl ?_ | refine uBuild rfl rfl rfl rfl rfl rfl rfl ?_ | refine uAr rfl rfl rfl rfl rfl rfl rfl rfl (by omega) (by omega) ?_ | refine uE rfl (eBs rfl rfl rfl rfl rfl rfl rfl rfl rfl) rfl rfl rfl rfl rfl ?_ | refine ah2_nil ?_)
    refine u1D [1, 10, 12] rfl rfl rfl rfl rfl (by kernel_rfl) rfl rfl ?_
    repeat (first | refine u1 rfl rfl rfl rfl rfl ?_ | refine uBuild rfl rfl rfl rfl rfl rfl rfl ?_ | refine uAr rfl rfl rfl rfl rfl rfl rfl rfl (by omega) (by omega) ?_ | refine uE rfl (eBs rfl rfl rfl rfl rfl rfl rfl rfl rfl) rfl rfl rfl rfl rfl ?_ | refine ah2_nil ?_)
    refine uIxR (f := ird (tg + 1) int1) (L := l) k rfl rfl rfl rfl rfl rfl rfl rfl rfl rfl (fun _ => rfl) rfl rfl hk' ?_
    repeat (first | refine u1 rfl rfl rfl rfl rfl ?_ | refine uBuild rfl rfl rfl rfl rfl rfl rfl ?_ | refine uAr rfl rfl rfl rfl rfl rfl rfl rfl (by omega) (by omega) ?_ | refine uE rfl (eBs rfl rfl rfl rfl rfl rfl rfl rfl rfl) rfl rfl rfl rfl rfl ?_ | refine ah2_nil ?_)
    refine uE rfl (eApR (f := int1) (L := []) (M := l[k]) rfl rfl rfl rfl rfl rfl rfl rfl rfl rfl (fun _ => rfl) rfl rfl (by omega) rfl) rfl rfl rfl rfl rfl ?_
    rw [Nat.zero_add l[k].length, List.nil_append]
    repeat (first | refine u1 rfl rfl rfl rfl rfl ?_ | refine uBuild rfl rfl rfl rfl rfl rfl rfl ?_ | refine uAr rfl rfl rfl rfl rfl rfl rfl rfl (by omega) (by omega) ?_ | refine uE rfl (eBs rfl rfl rfl rfl rfl rfl rfl rfl rfl) rfl rfl rfl rfl rfl ?_ | refine ah2_nil ?_)
    refine uE rfl (eAp1 (f := iow 3 int1) (L := l.take k) l[k] rfl rfl rfl rfl rfl rfl rfl rfl rfl rfl rfl (fun _ => rfl) (by simp; omega) (by omega) rfl) rfl rfl rfl rfl rfl ?_
    repeat (first | refine u1 rfl rfl rfl rfl rfl ?_ | refine uBuild rfl rfl rfl rfl rfl rfl rfl ?_ | refine uAr rfl rfl rfl rfl rfl rfl rfl rfl (by omega) (by omega) ?_ | refine uE rfl (eBs rfl rfl rfl rfl rfl rfl rfl rfl rfl) rfl rfl rfl rfl rfl ?_ | refine ah2_nil ?_)
    refine uLate rfl (eSt rfl rfl rfl rfl rfl rfl rfl rfl rfl) rfl rfl rfl rfl ?_
    repeat (first | refine u1 rfl rfl rfl rfl rfl ?_ | refine uBuild rfl rfl rfl rfl rfl rfl rfl ?_ | refine uAr rfl rfl rfl rfl rfl rfl rfl rfl (by omega) (by omega) ?_ | refine uE rfl (eBs rfl rfl rfl rfl rfl rfl rfl rfl rfl) rfl rfl rfl rfl rfl ?_ | refine ah2_nil ?_)
    repeat (first | refine p1 rfl rfl rfl rfl ?_ | refine al_end ?_ | refine awp_seq ?_ | refine awp_region ?_ | refine awp_block ?_ | refine awp_skip' ?_ | refine awp_ret' ?_ | refine awp_exit' ?_ | refine xt_sq_n ?_ | refine xt_bk_n ?_ | refine xt_sq_r ?_ | refine xt_bk_r ?_ | refine xt_sq_x ?_ | refine xt_bk_eq ?_ | refine xt_bk_ne rfl ?_ | refine p0 rfl rfl rfl ?_ | refine p0n rfl rfl ?_ | refine pAr rfl rfl rfl rfl rfl rfl rfl (by omega) (by omega) ?_ | refine pBuild rfl rfl rfl rfl rfl rfl ?_ | refine pE (eAlloc rfl rfl rfl rfl) rfl ?_ | refine pE (eBox rfl rfl rfl rfl rfl) rfl ?_ | refine pE (eSt rfl rfl rfl rfl rfl rfl rfl rfl rfl) rfl ?_ | refine pE (eBs rfl rfl rfl rfl rfl rfl rfl rfl rfl) rfl ?_)
    refine lp_end (l.length - (k + 1)) (k + 1) [(0, 0), (1, 1), (2, 2), (3, 7)] (by omega) ?_ ⟨hk', rfl⟩
    rw [← List.take_succ_eq_append_getElem hk']
    exact ⟨rfl, rfl, rfl, by repeat (first | exact trivial | refine ⟨rfl, ?_⟩), by repeat (first | exact trivial | refine ⟨rfl, ?_⟩ | refine ⟨hrr_le rfl, ?_⟩)⟩
  · have hk' : k = l.length := by omega
    subst hk'
    rw [List.take_length]
    exact xt_finG [(0, 3)] (.agg [.c (.int .i64 e), .sl 0 0 l.length]) [.arr 32 1 (ios l)] (.inr rfl) rfl rfl rfl rfl rfl ⟨rfl, trivial⟩ (by repeat' (first | exact trivial | refine And.intro ?_ ?_)) ⟨ios_tgs l, trivial⟩ ⟨rfl, rfl⟩
set_option maxHeartbeats 2000000 in
set_option maxRecDepth 100000 in
theorem copyCache_ac (tg : Nat) (e : Int) (l : List (List Int)) (hl : Sml 2097152 l) : AC Try.prog 58 [cv tg e l] [] [0]
    (fun r h => h = [.arr 32 1 (ios l)] ∧ r = .agg [.c (.int .i64 e), .sl 0 0 l.length]) := by
  refine ac_body teok Try.func58 rfl (by kernel_rfl) Try.ntmps58 rfl rfl ?_
  intro w0 ps g0 im0
  have hl1 := hl.1
  repeat (first | refine p1 rfl rfl rfl rfl ?_ | refine al_end ?_ | refine awp_seq ?_ | refine awp_region ?_ | refine awp_block ?_ | refine awp_skip' ?_ | refine awp_ret' ?_ | refine awp_exit' ?_ | refine xt_sq_n ?_ | refine xt_bk_n ?_ | refine xt_sq_r ?_ | refine xt_bk_r ?_ | refine xt_sq_x ?_ | refine xt_bk_eq ?_ | refine xt_bk_ne rfl ?_ | refine p0 rfl rfl rfl ?_ | refine p0n rfl rfl ?_ | refine pAr rfl rfl rfl rfl rfl rfl rfl (by omega) (by omega) ?_ | refine pBuild rfl rfl rfl rfl rfl rfl ?_ | refine pE (eAlloc rfl rfl rfl rfl) rfl ?_ | refine pE (eBox rfl rfl rfl rfl rfl) rfl ?_ | refine pE (eSt rfl rfl rfl rfl rfl rfl rfl rfl rfl) rfl ?_ | refine pE (eBs rfl rfl rfl rfl rfl rfl rfl rfl rfl) rfl ?_)
  refine awp_nownB (pre := [.c (.int .i64 e)]) (post := []) 2 32 1 rfl ?_
  refine awp_loopE (fun k : Nat => { fr := [(1, .h (.ptr 0 0)), (2, .h (.ptr 1 0)), (3, .h (.ptr 2 0)), (10, .h (.c (.rd (tg + 1) l.length (irs (tg + 1) l)))), (11, .h (.c (.int .i64 l.length))), (12, .h (.c (.int .i64 k)))], hp := [(0, cbx tg e l), (1, .box 24 [.c (.int .i64 0), .c .nil]), (2, .box 24 [.c (.int .i64 e), .sl 3 0 k]), (3, .arr 32 1 (ios (l.take k)))], nx := 4 })
    (fun n k => k ≤ l.length ∧ n = l.length - k) l.length 0 [(0, 0), (1, 1), (2, 2), (3, 3)] ⟨rfl, rfl, rfl, by repeat (first | exact trivial | refine ⟨rfl, ?_⟩), by repeat (first | exact trivial | refine ⟨rfl, ?_⟩ | refine ⟨hrr_le rfl, ?_⟩)⟩ ⟨Nat.zero_le _, rfl⟩ ?_
  rintro n k ⟨hk, rfl⟩
  repeat' (first | refine p1 rfl rfl rfl rfl ?_ | refine al_end ?_ | refine awp_seq ?_ | refine awp_region ?_ | refine awp_block ?_ | refine awp_skip' ?_ | refine awp_ret' ?_ | refine awp_exit' ?_ | refine xt_sq_n ?_ | refine xt_bk_n ?_ | refine xt_sq_r ?_ | refine xt_bk_r ?_ | refine xt_sq_x ?_ | refine xt_bk_eq ?_ | refine xt_bk_ne rfl ?_ | refine p0 rfl rfl rfl ?_ | refine p0n rfl rfl ?_ | refine pAr rfl rfl rfl rfl rfl rfl rfl (by omega) (by omega) ?_ | refine pBuild rfl rfl rfl rfl rfl rfl ?_ | refine pE (eAlloc rfl rfl rfl rfl) rfl ?_ | refine pE (eBox rfl rfl rfl rfl rfl) rfl ?_ | refine pE (eSt rfl rfl rfl rfl rfl rfl rfl rfl rfl) rfl ?_ | refine pE (eBs rfl rfl rfl rfl rfl rfl rfl rfl rfl) rfl ?_ | refine awp_cond (b := true) rfl (fun _ => ?_) (fun h => Bool.noConfusion h) | refine awp_cond (b := false) rfl (fun h => Bool.noConfusion h) (fun _ => ?_) | ((fail_if_success refine pG (b := true) rfl rfl ?_ ?_); (fail_if_success refine pG (b := false) rfl rfl ?_ ?_); (refine pG rfl rfl (fun hc => ?_) (fun hc => ?_)) <;> try simp at hc) | ((refine awp_cond rfl (fun hc => ?_) (fun hc => ?_)) <;> try simp at hc))
  · have hk' : k < l.length := by omega
    have hxl := hl.2 _ (List.getElem_mem hk')
    refine pIxR (f := ird (tg + 1) int1) (L := l) k rfl rfl rfl rfl rfl rfl rfl rfl rfl (fun _ => rfl) rfl rfl hk' ?_
    repeat (first | refine p1 rfl rfl rfl rfl ?_ | refine al_end ?_ | refine awp_seq ?_ | refine awp_region ?_ | refine awp_block ?_ | refine awp_skip' ?_ | refine awp_ret' ?_ | refine awp_exit' ?_ | refine xt_sq_n ?_ | refine xt_bk_n ?_ | refine xt_sq_r ?_ | refine xt_bk_r ?_ | refine xt_sq_x ?_ | refine xt_bk_eq ?_ | refine xt_bk_ne rfl ?_ | refine p0 rfl rfl rfl ?_ | refine p0n rfl rfl ?_ | refine pAr rfl rfl rfl rfl rfl rfl rfl (by omega) (by omega) ?_ | refine pBuild rfl rfl rfl rfl rfl rfl ?_ | refine pE (eAlloc rfl rfl rfl rfl) rfl ?_ | refine pE (eBox rfl rfl rfl rfl rfl) rfl ?_ | refine pE (eSt rfl rfl rfl rfl rfl rfl rfl rfl rfl) rfl ?_ | refine pE (eBs rfl rfl rfl rfl rfl rfl rfl rfl rfl) rfl ?_)
    ((repeat (first | refine awp_seq ?_ | refine awp_block ?_ | refine awp_skip' ?_ | refine xt_sq_n ?_ | refine xt_bk_n ?_)); refine awp_draw2 [(0, true), (1, true), (2, true), (3, false), (4, false), (5, false), (6, true), (7, false)] [7] [2, 3] [3] mixed (by kernel_rfl) (by kernel_rfl) rfl rfl rfl rfl ?_)
    repeat (first | refine u1 rfl rfl rfl rfl rfl ?_ | refine uBuild rfl rfl rfl rfl rfl rfl rfl ?_ | refine uAr rfl rfl rfl rfl rfl rfl rfl rfl (by omega) (by omega) ?_ | refine uE rfl (eBs rfl rfl rfl rfl rfl rfl rfl rfl rfl) rfl rfl rfl rfl rfl ?_ | refine ah2_nil ?_)
    refine u1D [1, 5, 7] rfl rfl rfl rfl rfl (by kernel_rfl) rfl rfl ?_
    repeat (first | refine u1 rfl rfl rfl rfl rfl ?_ | refine uBuild rfl rfl rfl rfl rfl rfl rfl ?_ | refine uAr rfl rfl rfl rfl rfl rfl rfl rfl (by omega) (by omega) ?_ | refine uE rfl (eBs rfl rfl rfl rfl rfl rfl rfl rfl rfl) rfl rfl rfl rfl rfl ?_ | refine ah2_nil ?_)
    refine uE rfl (eC1 (cloneI_ac tg l[k] (by omega)) rfl rfl rfl rfl (by decide) (by repeat' (first | exact trivial | exact rfl | refine And.intro ?_ ?_ | exact Or.inl ⟨_, rfl, rfl⟩ | exact ⟨_, rfl, rfl⟩ | exact bor_sl rfl (by assumption) | exact bor_ios rfl | exact bor_ios1 rfl | exact bor_iosJ rfl))) rfl rfl rfl rfl rfl ?_
    repeat (first | refine u1 rfl rfl rfl rfl rfl ?_ | refine uBuild rfl rfl rfl rfl rfl rfl rfl ?_ | refine uAr rfl rfl rfl rfl rfl rfl rfl rfl (by omega) (by omega) ?_ | refine uE rfl (eBs rfl rfl rfl rfl rfl rfl rfl rfl rfl) rfl rfl rfl rfl rfl ?_ | refine ah2_nil ?_)
    refine uE rfl (eAp1 (f := iow 3 int1) (L := l.take k) l[k] rfl rfl rfl rfl rfl rfl rfl rfl rfl rfl rfl (fun _ => rfl) (by simp; omega) (by omega) rfl) rfl rfl rfl rfl rfl ?_
    repeat (first | refine u1 rfl rfl rfl rfl rfl ?_ | refine uBuild rfl rfl rfl rfl rfl rfl rfl ?_ | refine uAr rfl rfl rfl rfl rfl rfl rfl rfl (by omega) (by omega) ?_ | refine uE rfl (eBs rfl rfl rfl rfl rfl rfl rfl rfl rfl) rfl rfl rfl rfl rfl ?_ | refine ah2_nil ?_)
    refine uLate rfl (eSt rfl rfl rfl rfl rfl rfl rfl rfl rfl) rfl rfl rfl rfl ?_
    repeat (first | refine u1 rfl rfl rfl rfl rfl ?_ | refine uBuild rfl rfl rfl rfl rfl rfl rfl ?_ | refine uAr rfl rfl rfl rfl rfl rfl rfl rfl (by omega) (by omega) ?_ | refine uE rfl (eBs rfl rfl rfl rfl rfl rfl rfl rfl rfl) rfl rfl rfl rfl rfl ?_ | refine ah2_nil ?_)
    repeat (first | refine p1 rfl rfl rfl rfl ?_ | refine al_end ?_ | refine awp_seq ?_ | refine awp_region ?_ | refine awp_block ?_ | refine awp_skip' ?_ | refine awp_ret' ?_ | refine awp_exit' ?_ | refine xt_sq_n ?_ | refine xt_bk_n ?_ | refine xt_sq_r ?_ | refine xt_bk_r ?_ | refine xt_sq_x ?_ | refine xt_bk_eq ?_ | refine xt_bk_ne rfl ?_ | refine p0 rfl rfl rfl ?_ | refine p0n rfl rfl ?_ | refine pAr rfl rfl rfl rfl rfl rfl rfl (by omega) (by omega) ?_ | refine pBuild rfl rfl rfl rfl rfl rfl ?_ | refine pE (eAlloc rfl rfl rfl rfl) rfl ?_ | refine pE (eBox rfl rfl rfl rfl rfl) rfl ?_ | refine pE (eSt rfl rfl rfl rfl rfl rfl rfl rfl rfl) rfl ?_ | refine pE (eBs rfl rfl rfl rfl rfl rfl rfl rfl rfl) rfl ?_)
    refine lp_end (l.length - (k + 1)) (k + 1) [(0, 0), (1, 1), (2, 2), (3, 6)] (by omega) ?_ ⟨hk', rfl⟩
    rw [← List.take_succ_eq_append_getElem hk']
    exact ⟨rfl, rfl, rfl, by repeat (first | exact trivial | refine ⟨rfl, ?_⟩), by repeat (first | exact trivial | refine ⟨rfl, ?_⟩ | refine ⟨hrr_le rfl, ?_⟩)⟩
  · have hk' : k = l.length := by omega
    subst hk'
    rw [List.take_length]
    exact xt_finG [(0, 3)] (.agg [.c (.int .i64 e), .sl 0 0 l.length]) [.arr 32 1 (ios l)] (.inr rfl) rfl rfl rfl rfl rfl ⟨rfl, trivial⟩ (by repeat' (first | exact trivial | refine And.intro ?_ ?_)) ⟨ios_tgs l, trivial⟩ ⟨rfl, rfl⟩
/-! ### the next epoch -/
def turnE (e : Int) (l : List (List Int)) : Int := if cval e l then (if e = 99 then e else e + 1) else 0
def turnL (e : Int) (l : List (List Int)) : List (List Int) := if cval e l then (if e = 99 then l else l.drop 1 ++ [[]]) else []
def turnK (e : Int) (l : List (List Int)) : Bool := cval e l && !decide (e = 99)
set_option maxHeartbeats 2000000 in
set_option maxRecDepth 100000 in
theorem specTurn_ac (tg : Nat) (e : Int) (l : List (List Int)) (hl : Sml 2097152 l) : AC Try.prog 35 [cv tg e l] [] [0]
    (fun r h => h = [.arr 32 1 (ios (turnL e l))] ∧ r = .tup [.agg [.c (.int .i64 (turnE e l)), .sl 0 0 (turnL e l).length], .h (.c (.bool (turnK e l)))]) := by
  refine ac_bodyM teok Try.func35 rfl (by kernel_rfl) Try.ntmps35 rfl rfl ?_
  intro w0 ps g0 im0
  repeat (first | refine p1 rfl rfl rfl rfl ?_ | refine al_end ?_ | refine awp_seq ?_ | refine awp_region ?_ | refine awp_block ?_ | refine awp_skip' ?_ | refine awp_ret' ?_ | refine awp_exit' ?_ | refine xt_sq_n ?_ | refine xt_bk_n ?_ | refine xt_sq_r ?_ | refine xt_bk_r ?_ | refine xt_sq_x ?_ | refine xt_bk_eq ?_ | refine xt_bk_ne rfl ?_ | refine p0 rfl rfl rfl ?_ | refine p0n rfl rfl ?_ | refine pAr rfl rfl rfl rfl rfl rfl rfl (by omega) (by omega) ?_ | refine pBuild rfl rfl rfl rfl rfl rfl ?_ | refine pE (eAlloc rfl rfl rfl rfl) rfl ?_ | refine pE (eBox rfl rfl rfl rfl rfl) rfl ?_ | refine pE (eSt rfl rfl rfl rfl rfl rfl rfl rfl rfl) rfl ?_ | refine pE (eBs rfl rfl rfl rfl rfl rfl rfl rfl rfl) rfl ?_)
  refine pCv (specCV_ac tg e l hl) rfl rfl (fun _ => rfl) rfl rfl rfl (by decide) (by repeat' (first | exact trivial | exact rfl | refine And.intro ?_ ?_ | exact Or.inl ⟨_, rfl, rfl⟩ | exact ⟨_, rfl, rfl⟩ | exact bor_sl rfl (by assumption) | exact bor_ios rfl | exact bor_ios1 rfl | exact bor_iosJ rfl)) ?_
  repeat' (first | refine p1 rfl rfl rfl rfl ?_ | refine al_end ?_ | refine awp_seq ?_ | refine awp_region ?_ | refine awp_block ?_ | refine awp_skip' ?_ | refine awp_ret' ?_ | refine awp_exit' ?_ | refine xt_sq_n ?_ | refine xt_bk_n ?_ | refine xt_sq_r ?_ | refine xt_bk_r ?_ | refine xt_sq_x ?_ | refine xt_bk_eq ?_ | refine xt_bk_ne rfl ?_ | refine p0 rfl rfl rfl ?_ | refine p0n rfl rfl ?_ | refine pAr rfl rfl rfl rfl rfl rfl rfl (by omega) (by omega) ?_ | refine pBuild rfl rfl rfl rfl rfl rfl ?_ | refine pE (eAlloc rfl rfl rfl rfl) rfl ?_ | refine pE (eBox rfl rfl rfl rfl rfl) rfl ?_ | refine pE (eSt rfl rfl rfl rfl rfl rfl rfl rfl rfl) rfl ?_ | refine pE (eBs rfl rfl rfl rfl rfl rfl rfl rfl rfl) rfl ?_ | refine awp_cond (b := true) rfl (fun _ => ?_) (fun h => Bool.noConfusion h) | refine awp_cond (b := false) rfl (fun h => Bool.noConfusion h) (fun _ => ?_) | ((fail_if_success refine pG (b := true) rfl rfl ?_ ?_); (fail_if_success refine pG (b := false) rfl rfl ?_ ?_); (refine pG rfl rfl (fun hc => ?_) (fun hc => ?_)) <;> try simp at hc) | ((refine awp_cond rfl (fun hc => ?_) (fun hc => ?_)) <;> try simp at hc))
  · refine xt_nownB (pre := [.c (.int .i64 0)]) (post := []) 1 32 1 rfl (xt_M ?_)
    exact xt_finG [(0, 2)] (.tup [.agg [.c (.int .i64 0), .sl 0 0 0], .h (.c (.bool false))]) [.arr 32 1 []] (.inr rfl) rfl rfl rfl rfl rfl ⟨rfl, trivial⟩ (by repeat' (first | exact trivial | refine And.intro ?_ ?_)) ⟨trivial, trivial⟩ ⟨by simp [turnL, *]; rfl, by simp [turnE, turnL, turnK, *]⟩
  have hv : cval e l = true := by assumption
  obtain ⟨he, h3, hks⟩ := cval_iff.1 hv
  refine pC (eCall (l13Copy_ac tg e l hl) 99 [] rfl rfl rfl rfl rfl rfl (by repeat' (first | exact trivial | exact rfl | refine And.intro ?_ ?_ | exact Or.inl ⟨_, rfl, rfl⟩ | exact ⟨_, rfl, rfl⟩ | exact bor_sl rfl (by assumption) | exact bor_ios rfl | exact bor_ios1 rfl | exact bor_iosJ rfl)) (by decide)) rfl ?_
  rintro _ _ ⟨rfl, rfl⟩
  repeat' (first | refine p1 rfl rfl rfl rfl ?_ | refine al_end ?_ | refine awp_seq ?_ | refine awp_region ?_ | refine awp_block ?_ | refine awp_skip' ?_ | refine awp_ret' ?_ | refine awp_exit' ?_ | refine xt_sq_n ?_ | refine xt_bk_n ?_ | refine xt_sq_r ?_ | refine xt_bk_r ?_ | refine xt_sq_x ?_ | refine xt_bk_eq ?_ | refine xt_bk_ne rfl ?_ | refine p0 rfl rfl rfl ?_ | refine p0n rfl rfl ?_ | refine pAr rfl rfl rfl rfl rfl rfl rfl (by omega) (by omega) ?_ | refine pBuild rfl rfl rfl rfl rfl rfl ?_ | refine pE (eAlloc rfl rfl rfl rfl) rfl ?_ | refine pE (eBox rfl rfl rfl rfl rfl) rfl ?_ | refine pE (eSt rfl rfl rfl rfl rfl rfl rfl rfl rfl) rfl ?_ | refine pE (eBs rfl rfl rfl rfl rfl rfl rfl rfl rfl) rfl ?_ | refine awp_cond (b := true) rfl (fun _ => ?_) (fun h => Bool.noConfusion h) | refine awp_cond (b := false) rfl (fun h => Bool.noConfusion h) (fun _ => ?_) | ((fail_if_success refine pG (b := true) rfl rfl ?_ ?_); (fail_if_success refine pG (b := false) rfl rfl ?_ ?_); (refine pG rfl rfl (fun hc => ?_) (fun hc => ?_)) <;> try simp at hc) | ((refine awp_cond rfl (fun hc => ?_) (fun hc => ?_)) <;> try simp at hc))
  · have : e = 99 := by omega
    have t1 : turnL e l = l := by rw [turnL, if_pos hv, if_pos this]
    have t2 : turnE e l = e := by rw [turnE, if_pos hv, if_pos this]
    have t3 : turnK e l = false := by simp [turnK, this]
    rw [t1, t2, t3]
    refine xt_M ?_
    exact xt_finG [(0, 2)] (.tup [.agg [.c (.int .i64 e), .sl 0 0 l.length], .h (.c (.bool false))]) [.arr 32 1 (ios l)] (.inr rfl) rfl rfl rfl rfl rfl ⟨rfl, trivial⟩ (by repeat' (first | exact trivial | refine And.intro ?_ ?_)) ⟨ios_tgs l, trivial⟩ ⟨rfl, rfl⟩
  have hne : e ≠ 99 := by omega
  obtain ⟨a, b, c, rfl⟩ : ∃ a b c, l = [a, b, c] := by
    match l, h3 with
    | [a, b, c], _ => exact ⟨a, b, c, rfl⟩
  have hs : Sml 2097152 [b, c, []] := ⟨by simp, fun x hx => by
    simp only [List.mem_cons, List.not_mem_nil, or_false] at hx
    rcases hx with rfl | rfl | rfl
    · exact hl.2 _ (by simp)
    · exact hl.2 _ (by simp)
    · simp⟩
  have t1 : turnL e [a, b, c] = [b, c, []] := by rw [turnL, if_pos hv, if_neg hne]; rfl
  have t2 : turnE e [a, b, c] = e + 1 := by rw [turnE, if_pos hv, if_neg hne]
  have t3 : turnK e [a, b, c] = true := by simp [turnK, hv, hne]
  rw [t1, t2, t3]
  refine pCutP 1 3 rfl rfl rfl rfl rfl rfl rfl rfl rfl rfl rfl rfl (by omega) (by omega) ?_
  repeat (first | refine p1 rfl rfl rfl rfl ?_ | refine al_end ?_ | refine awp_seq ?_ | refine awp_region ?_ | refine awp_block ?_ | refine awp_skip' ?_ | refine awp_ret' ?_ | refine awp_exit' ?_ | refine xt_sq_n ?_ | refine xt_bk_n ?_ | refine xt_sq_r ?_ | refine xt_bk_r ?_ | refine xt_sq_x ?_ | refine xt_bk_eq ?_ | refine xt_bk_ne rfl ?_ | refine p0 rfl rfl rfl ?_ | refine p0n rfl rfl ?_ | refine pAr rfl rfl rfl rfl rfl rfl rfl (by omega) (by omega) ?_ | refine pBuild rfl rfl rfl rfl rfl rfl ?_ | refine pE (eAlloc rfl rfl rfl rfl) rfl ?_ | refine pE (eBox rfl rfl rfl rfl rfl) rfl ?_ | refine pE (eSt rfl rfl rfl rfl rfl rfl rfl rfl rfl) rfl ?_ | refine pE (eBs rfl rfl rfl rfl rfl rfl rfl rfl rfl) rfl ?_)
  refine al_e rfl (eAppO (zA := ios [a, b, c, []]) (zB := ios [b, c, []]) rfl rfl rfl rfl rfl rfl rfl rfl rfl rfl rfl rfl (by omega) rfl (by omega) (by omega) rfl rfl) ?_
  rintro _ (rfl | rfl)
  all_goals
    repeat (first | refine p1 rfl rfl rfl rfl ?_ | refine al_end ?_ | refine awp_seq ?_ | refine awp_region ?_ | refine awp_block ?_ | refine awp_skip' ?_ | refine awp_ret' ?_ | refine awp_exit' ?_ | refine xt_sq_n ?_ | refine xt_bk_n ?_ | refine xt_sq_r ?_ | refine xt_bk_r ?_ | refine xt_sq_x ?_ | refine xt_bk_eq ?_ | refine xt_bk_ne rfl ?_ | refine p0 rfl rfl rfl ?_ | refine p0n rfl rfl ?_ | refine pAr rfl rfl rfl rfl rfl rfl rfl (by omega) (by omega) ?_ | refine pBuild rfl rfl rfl rfl rfl rfl ?_ | refine pE (eAlloc rfl rfl rfl rfl) rfl ?_ | refine pE (eBox rfl rfl rfl rfl rfl) rfl ?_ | refine pE (eSt rfl rfl rfl rfl rfl rfl rfl rfl rfl) rfl ?_ | refine pE (eBs rfl rfl rfl rfl rfl rfl rfl rfl rfl) rfl ?_)
    refine pC (eCall (l13Copy_ac 98 (e + 1) [b, c, []] hs) 99 [] rfl rfl rfl rfl rfl rfl (by repeat' (first | exact trivial | exact rfl | refine And.intro ?_ ?_ | exact Or.inl ⟨_, rfl, rfl⟩ | exact ⟨_, rfl, rfl⟩ | exact bor_sl rfl (by assumption) | exact bor_ios rfl | exact bor_ios1 rfl | exact bor_iosJ rfl)) (by decide)) rfl ?_
    rintro _ _ ⟨rfl, rfl⟩
    repeat (first | refine p1 rfl rfl rfl rfl ?_ | refine al_end ?_ | refine awp_seq ?_ | refine awp_region ?_ | refine awp_block ?_ | refine awp_skip' ?_ | refine awp_ret' ?_ | refine awp_exit' ?_ | refine xt_sq_n ?_ | refine xt_bk_n ?_ | refine xt_sq_r ?_ | refine xt_bk_r ?_ | refine xt_sq_x ?_ | refine xt_bk_eq ?_ | refine xt_bk_ne rfl ?_ | refine p0 rfl rfl rfl ?_ | refine p0n rfl rfl ?_ | refine pAr rfl rfl rfl rfl rfl rfl rfl (by omega) (by omega) ?_ | refine pBuild rfl rfl rfl rfl rfl rfl ?_ | refine pE (eAlloc rfl rfl rfl rfl) rfl ?_ | refine pE (eBox rfl rfl rfl rfl rfl) rfl ?_ | refine pE (eSt rfl rfl rfl rfl rfl rfl rfl rfl rfl) rfl ?_ | refine pE (eBs rfl rfl rfl rfl rfl rfl rfl rfl rfl) rfl ?_)
    refine xt_M ?_
  · exact xt_finG [(0, 7)] (.tup [.agg [.c (.int .i64 (e + 1)), .sl 0 0 3], .h (.c (.bool true))]) [.arr 32 1 (ios [b, c, []])] (.inr rfl) rfl rfl rfl rfl rfl ⟨rfl, trivial⟩ (by repeat' (first | exact trivial | refine And.intro ?_ ?_)) ⟨ios_tgs _, trivial⟩ ⟨rfl, rfl⟩
  · exact xt_finG [(0, 7)] (.tup [.agg [.c (.int .i64 (e + 1)), .sl 0 0 3], .h (.c (.bool true))]) [.arr 32 1 (ios [b, c, []])] (.inr rfl) rfl rfl rfl rfl rfl ⟨rfl, trivial⟩ (by repeat' (first | exact trivial | refine And.intro ?_ ?_)) ⟨ios_tgs _, trivial⟩ ⟨rfl, rfl⟩
end Go.Proofs.Ytjijkdhjfanpaaa
