import Derived.Test.YthmgfgiaagkdeaaG1
namespace Go.Proofs.Ythmgfgiaagkdeaa
open Go.RowKit
attribute [local irreducible] AWP AL XT AC ES PS AH AH2 LpQ
set_option maxHeartbeats 1000000 in
set_option maxRecDepth 100000 in
theorem tagOf_ac (tg : Nat) (key : Int) (l : List Int) (hk : elt key = true) (hl : lst l = true) : AC Try.prog 126 [.h (.c (.int .i64 key)), .h (.c (.rd tg l.length (ints l)))] [] [0] (fun r h => h = [] ∧ r = .h (.c (.int .i64 (tagV key l)))) := by
  obtain ⟨h24, hlb⟩ := lst_iff.1 hl
  obtain ⟨k1, k2⟩ := elt_iff.1 hk
  have he := isElement_ac key
  have hi := isList_ac tg l (by omega)
  rw [hk] at he
  rw [hl] at hi
  refine ac_body teok Try.func126 rfl (by kernel_rfl) Try.ntmps126 rfl rfl ?_
  intro w0 ps g0 im0
  repeat' (first | refine p1 rfl rfl rfl rfl ?_ | refine al_end ?_ | refine awp_seq ?_ | refine awp_region ?_ | refine awp_block ?_ | refine awp_skip' ?_ | refine awp_ret' ?_ | refine awp_exit' ?_ | refine xt_sq_n ?_ | refine xt_bk_n ?_ | refine xt_sq_r ?_ | refine xt_bk_r ?_ | refine xt_sq_x ?_ | refine xt_bk_eq ?_ | refine xt_bk_ne rfl ?_ | refine p0 rfl rfl rfl ?_ | refine p0n rfl rfl ?_ | refine pAr rfl rfl rfl rfl rfl rfl rfl (by omega) (by omega) ?_ | refine pBuild rfl rfl rfl rfl rfl rfl ?_ | refine pE (eAlloc rfl rfl rfl rfl) rfl ?_ | refine pE (eBox rfl rfl rfl rfl rfl) rfl ?_ | refine pE (eSt rfl rfl rfl rfl rfl rfl rfl rfl rfl) rfl ?_ | refine pE (eBs rfl rfl rfl rfl rfl rfl rfl rfl rfl) rfl ?_ | refine awp_cond (b := true) rfl (fun _ => ?_) (fun h => Bool.noConfusion h) | refine awp_cond (b := false) rfl (fun h => Bool.noConfusion h) (fun _ => ?_) | ((fail_if_success refine pG (b := true) rfl rfl ?_ ?_); (fail_if_success refine pG (b := false) rfl rfl ?_ ?_); (refine pG rfl rfl (fun hc => ?_) (fun hc => ?_)) <;> try simp at hc) | ((refine awp_cond rfl (fun hc => ?_) (fun hc => ?_)) <;> try simp at hc) | refine pC0 (he) rfl rfl rfl rfl rfl rfl rfl (by decide) ?_ | refine pC0 (hi) rfl rfl rfl rfl rfl rfl rfl (by decide) ?_)
  refine pRem rfl rfl rfl rfl rfl rfl (by omega) (by omega) ?_
  have hab := absorb_ac tg (tag0 key l.length) l (by unfold tag0; omega) hlb (by omega)
  unfold tag0 at hab
  repeat' (first | refine p1 rfl rfl rfl rfl ?_ | refine al_end ?_ | refine awp_seq ?_ | refine awp_region ?_ | refine awp_block ?_ | refine awp_skip' ?_ | refine awp_ret' ?_ | refine awp_exit' ?_ | refine xt_sq_n ?_ | refine xt_bk_n ?_ | refine xt_sq_r ?_ | refine xt_bk_r ?_ | refine xt_sq_x ?_ | refine xt_bk_eq ?_ | refine xt_bk_ne rfl ?_ | refine p0 rfl rfl rfl ?_ | refine p0n rfl rfl ?_ | refine pAr rfl rfl rfl rfl rfl rfl rfl (by omega) (by omega) ?_ | refine pBuild rfl rfl rfl rfl rfl rfl ?_ | refine pE (eAlloc rfl rfl rfl rfl) rfl ?_ | refine pE (eBox rfl rfl rfl rfl rfl) rfl ?_ | refine pE (eSt rfl rfl rfl rfl rfl rfl rfl rfl rfl) rfl ?_ | refine pE (eBs rfl rfl rfl rfl rfl rfl rfl rfl rfl) rfl ?_ | refine awp_cond (b := true) rfl (fun _ => ?_) (fun h => Bool.noConfusion h) | refine awp_cond (b := false) rfl (fun h => Bool.noConfusion h) (fun _ => ?_) | ((fail_if_success refine pG (b := true) rfl rfl ?_ ?_); (fail_if_success refine pG (b := false) rfl rfl ?_ ?_); (refine pG rfl rfl (fun hc => ?_) (fun hc => ?_)) <;> try simp at hc) | ((refine awp_cond rfl (fun hc => ?_) (fun hc => ?_)) <;> try simp at hc) | refine pC0 (hab) rfl rfl rfl rfl rfl rfl rfl (by decide) ?_)
  exact xt_fin (.inr rfl) rfl trivial ⟨rfl, rfl⟩
set_option maxHeartbeats 1000000 in
set_option maxRecDepth 100000 in
theorem l3Tag_ac (tg : Nat) (key : Int) (l : List Int) (hk : 1 ≤ key ∧ key ≤ 996) (hlb : ∀ n ∈ l, 0 ≤ n ∧ n ≤ 990) (hn : l.length ≤ 1000) : AC Try.prog 122 [.h (.c (.int .i64 key)), .h (.c (.rd tg l.length (ints l)))] [] [0] (fun r h => h = [] ∧ r = .h (.c (.int .i64 (tagV key l)))) := by
  refine ac_body teok Try.func122 rfl (by kernel_rfl) Try.ntmps122 rfl rfl ?_
  intro w0 ps g0 im0
  repeat (first | refine p1 rfl rfl rfl rfl ?_ | refine al_end ?_ | refine awp_seq ?_ | refine awp_region ?_ | refine awp_block ?_ | refine awp_skip' ?_ | refine awp_ret' ?_ | refine awp_exit' ?_ | refine xt_sq_n ?_ | refine xt_bk_n ?_ | refine xt_sq_r ?_ | refine xt_bk_r ?_ | refine xt_sq_x ?_ | refine xt_bk_eq ?_ | refine xt_bk_ne rfl ?_ | refine p0 rfl rfl rfl ?_ | refine p0n rfl rfl ?_ | refine pAr rfl rfl rfl rfl rfl rfl rfl (by omega) (by omega) ?_ | refine pBuild rfl rfl rfl rfl rfl rfl ?_ | refine pE (eAlloc rfl rfl rfl rfl) rfl ?_ | refine pE (eBox rfl rfl rfl rfl rfl) rfl ?_ | refine pE (eSt rfl rfl rfl rfl rfl rfl rfl rfl rfl) rfl ?_ | refine pE (eBs rfl rfl rfl rfl rfl rfl rfl rfl rfl) rfl ?_)
  refine pRem rfl rfl rfl rfl rfl rfl (by omega) (by omega) ?_
  repeat (first | refine p1 rfl rfl rfl rfl ?_ | refine al_end ?_ | refine awp_seq ?_ | refine awp_region ?_ | refine awp_block ?_ | refine awp_skip' ?_ | refine awp_ret' ?_ | refine awp_exit' ?_ | refine xt_sq_n ?_ | refine xt_bk_n ?_ | refine xt_sq_r ?_ | refine xt_bk_r ?_ | refine xt_sq_x ?_ | refine xt_bk_eq ?_ | refine xt_bk_ne rfl ?_ | refine p0 rfl rfl rfl ?_ | refine p0n rfl rfl ?_ | refine pAr rfl rfl rfl rfl rfl rfl rfl (by omega) (by omega) ?_ | refine pBuild rfl rfl rfl rfl rfl rfl ?_ | refine pE (eAlloc rfl rfl rfl rfl) rfl ?_ | refine pE (eBox rfl rfl rfl rfl rfl) rfl ?_ | refine pE (eSt rfl rfl rfl rfl rfl rfl rfl rfl rfl) rfl ?_ | refine pE (eBs rfl rfl rfl rfl rfl rfl rfl rfl rfl) rfl ?_)
  refine awp_loopE (fun k : Nat => { fr := [(1, .h (.c (.rd tg l.length (ints l)))), (5, .h (.c (.int .i64 ((l.take k).foldl abs1 (tag0 key l.length))))), (6, .h (.c (.int .i64 k)))], hp := [], nx := 0 })
    (fun n k => k ≤ l.length ∧ n = l.length - k) l.length 0 [] ⟨rfl, rfl, rfl, by repeat (first | exact trivial | refine ⟨rfl, ?_⟩), by repeat (first | exact trivial | refine ⟨rfl, ?_⟩ | refine ⟨hrr_le rfl, ?_⟩)⟩ ⟨Nat.zero_le _, rfl⟩ ?_
  rintro n k ⟨hk, rfl⟩
  have hb := fold_rng (l.take k) (tag0 key l.length) (by unfold tag0; omega)
  repeat' (first | refine p1 rfl rfl rfl rfl ?_ | refine al_end ?_ | refine awp_seq ?_ | refine awp_region ?_ | refine awp_block ?_ | refine awp_skip' ?_ | refine awp_ret' ?_ | refine awp_exit' ?_ | refine xt_sq_n ?_ | refine xt_bk_n ?_ | refine xt_sq_r ?_ | refine xt_bk_r ?_ | refine xt_sq_x ?_ | refine xt_bk_eq ?_ | refine xt_bk_ne rfl ?_ | refine p0 rfl rfl rfl ?_ | refine p0n rfl rfl ?_ | refine pAr rfl rfl rfl rfl rfl rfl rfl (by omega) (by omega) ?_ | refine pBuild rfl rfl rfl rfl rfl rfl ?_ | refine pE (eAlloc rfl rfl rfl rfl) rfl ?_ | refine pE (eBox rfl rfl rfl rfl rfl) rfl ?_ | refine pE (eSt rfl rfl rfl rfl rfl rfl rfl rfl rfl) rfl ?_ | refine pE (eBs rfl rfl rfl rfl rfl rfl rfl rfl rfl) rfl ?_ | refine awp_cond (b := true) rfl (fun _ => ?_) (fun h => Bool.noConfusion h) | refine awp_cond (b := false) rfl (fun h => Bool.noConfusion h) (fun _ => ?_) | ((fail_if_success refine pG (b := true) rfl rfl ?_ ?_); (fail_if_success refine pG (b := false) rfl rfl ?_ ?_); (refine pG rfl rfl (fun hc => ?_) (fun hc => ?_)) <;> try simp at hc) | ((refine awp_cond rfl (fun hc => ?_) (fun hc => ?_)) <;> try simp at hc))
  · have hk' : k < l.length := by omega
    have hx := hlb _ (List.getElem_mem hk')
    refine pIx k rfl rfl rfl rfl rfl rfl rfl rfl rfl hk' (ints_drop hk') ?_
    repeat (first | refine p1 rfl rfl rfl rfl ?_ | refine al_end ?_ | refine awp_seq ?_ | refine awp_region ?_ | refine awp_block ?_ | refine awp_skip' ?_ | refine awp_ret' ?_ | refine awp_exit' ?_ | refine xt_sq_n ?_ | refine xt_bk_n ?_ | refine xt_sq_r ?_ | refine xt_bk_r ?_ | refine xt_sq_x ?_ | refine xt_bk_eq ?_ | refine xt_bk_ne rfl ?_ | refine p0 rfl rfl rfl ?_ | refine p0n rfl rfl ?_ | refine pAr rfl rfl rfl rfl rfl rfl rfl (by omega) (by omega) ?_ | refine pBuild rfl rfl rfl rfl rfl rfl ?_ | refine pE (eAlloc rfl rfl rfl rfl) rfl ?_ | refine pE (eBox rfl rfl rfl rfl rfl) rfl ?_ | refine pE (eSt rfl rfl rfl rfl rfl rfl rfl rfl rfl) rfl ?_ | refine pE (eBs rfl rfl rfl rfl rfl rfl rfl rfl rfl) rfl ?_)
    refine pRem rfl rfl rfl rfl rfl rfl (by omega) (by omega) ?_
    repeat (first | refine p1 rfl rfl rfl rfl ?_ | refine al_end ?_ | refine awp_seq ?_ | refine awp_region ?_ | refine awp_block ?_ | refine awp_skip' ?_ | refine awp_ret' ?_ | refine awp_exit' ?_ | refine xt_sq_n ?_ | refine xt_bk_n ?_ | refine xt_sq_r ?_ | refine xt_bk_r ?_ | refine xt_sq_x ?_ | refine xt_bk_eq ?_ | refine xt_bk_ne rfl ?_ | refine p0 rfl rfl rfl ?_ | refine p0n rfl rfl ?_ | refine pAr rfl rfl rfl rfl rfl rfl rfl (by omega) (by omega) ?_ | refine pBuild rfl rfl rfl rfl rfl rfl ?_ | refine pE (eAlloc rfl rfl rfl rfl) rfl ?_ | refine pE (eBox rfl rfl rfl rfl rfl) rfl ?_ | refine pE (eSt rfl rfl rfl rfl rfl rfl rfl rfl rfl) rfl ?_ | refine pE (eBs rfl rfl rfl rfl rfl rfl rfl rfl rfl) rfl ?_)
    exact lp_end (l.length - (k + 1)) (k + 1) [] (by omega) (by simp only [take_fold hk']; exact ⟨rfl, rfl, rfl, by repeat (first | exact trivial | refine ⟨rfl, ?_⟩), by repeat (first | exact trivial | refine ⟨rfl, ?_⟩ | refine ⟨hrr_le rfl, ?_⟩)⟩) ⟨hk', rfl⟩
  · have : k = l.length := by omega
    subst this
    rw [List.take_length]
    exact xt_fin (.inr rfl) rfl trivial ⟨rfl, rfl⟩
def onV (key : Int) (l : List Int) : List Int := l.mapIdx fun i n => (n + strm key i) % 991
def offV (key : Int) (l : List Int) : List Int := l.mapIdx fun i n => (n + 991 - strm key i) % 991
theorem onV_len (key : Int) (l : List Int) : (onV key l).length = l.length := by simp [onV]
theorem offV_len (key : Int) (l : List Int) : (offV key l).length = l.length := by simp [offV]
theorem take_mapIdx {f : Nat → Int → Int} {l : List Int} {k : Nat} (hk : k < l.length) : (l.take (k + 1)).mapIdx f = (l.take k).mapIdx f ++ [f k l[k]] := by
  rw [List.take_succ_eq_append_getElem hk, List.mapIdx_concat, List.length_take, Nat.min_eq_left (Nat.le_of_lt hk)]
theorem onV_lst {key : Int} {l : List Int} (h : l.length ≤ 24) : lst (onV key l) = true := by
  refine lst_iff.2 ⟨by rw [onV_len]; exact h, fun n hn => ?_⟩
  obtain ⟨i, hi, rfl⟩ := List.getElem_of_mem hn
  simp only [onV, List.getElem_mapIdx]
  omega
theorem offV_lst {key : Int} {l : List Int} (h : l.length ≤ 24) : lst (offV key l) = true := by
  refine lst_iff.2 ⟨by rw [offV_len]; exact h, fun n hn => ?_⟩
  obtain ⟨i, hi, rfl⟩ := List.getElem_of_mem hn
  simp only [offV, List.getElem_mapIdx]
  omega
def mskF (key sign : Int) (i : Nat) (n : Int) : Int := (n + sign * strm key i + 991) % 991
theorem msk_off (key : Int) (l : List Int) : l.mapIdx (mskF key (-1)) = offV key l := by
  unfold offV
  congr 1
  funext i n
  unfold mskF
  omega
set_option maxHeartbeats 1000000 in
set_option maxRecDepth 100000 in
theorem masked_ac (tg : Nat) (key sign : Int) (l : List Int) (hk : elt key = true) (hl : lst l = true) (hs : sign = 1 ∨ sign = -1) : AC Try.prog 124 [.h (.c (.rd tg l.length (ints l))), .h (.c (.int .i64 key)), .h (.c (.int .i64 sign))] [] [0]
    (fun r h => h = [.arr 3 1 (ints (l.mapIdx (mskF key sign)))] ∧ r = .h (.sl 0 0 l.length)) := by
  obtain ⟨h24, hlb⟩ := lst_iff.1 hl
  have hkk := elt_iff.1 hk
  have he := isElement_ac key
  have hi := isList_ac tg l (by omega)
  rw [hk] at he
  rw [hl] at hi
  refine ac_body teok Try.func124 rfl (by kernel_rfl) Try.ntmps124 rfl rfl ?_
  intro w0 ps g0 im0
  repeat' (first | refine p1 rfl rfl rfl rfl ?_ | refine al_end ?_ | refine awp_seq ?_ | refine awp_region ?_ | refine awp_block ?_ | refine awp_skip' ?_ | refine awp_ret' ?_ | refine awp_exit' ?_ | refine xt_sq_n ?_ | refine xt_bk_n ?_ | refine xt_sq_r ?_ | refine xt_bk_r ?_ | refine xt_sq_x ?_ | refine xt_bk_eq ?_ | refine xt_bk_ne rfl ?_ | refine p0 rfl rfl rfl ?_ | refine p0n rfl rfl ?_ | refine pAr rfl rfl rfl rfl rfl rfl rfl (by omega) (by omega) ?_ | refine pBuild rfl rfl rfl rfl rfl rfl ?_ | refine pE (eAlloc rfl rfl rfl rfl) rfl ?_ | refine pE (eBox rfl rfl rfl rfl rfl) rfl ?_ | refine pE (eSt rfl rfl rfl rfl rfl rfl rfl rfl rfl) rfl ?_ | refine pE (eBs rfl rfl rfl rfl rfl rfl rfl rfl rfl) rfl ?_ | refine awp_cond (b := true) rfl (fun _ => ?_) (fun h => Bool.noConfusion h) | refine awp_cond (b := false) rfl (fun h => Bool.noConfusion h) (fun _ => ?_) | ((fail_if_success refine pG (b := true) rfl rfl ?_ ?_); (fail_if_success refine pG (b := false) rfl rfl ?_ ?_); (refine pG rfl rfl (fun hc => ?_) (fun hc => ?_)) <;> try simp at hc) | ((refine awp_cond rfl (fun hc => ?_) (fun hc => ?_)) <;> try simp at hc) | refine pC0 (he) rfl rfl rfl rfl rfl rfl rfl (by decide) ?_ | refine pC0 (hi) rfl rfl rfl rfl rfl rfl rfl (by decide) ?_)
  refine awp_loopE (fun k : Nat => { fr := [(1, .h (.c (.int .i64 key))), (2, .h (.c (.int .i64 sign))), (7, .h (.sl 0 0 k)), (19, .h (.c (.rd tg l.length (ints l)))), (20, .h (.c (.int .i64 l.length))), (21, .h (.c (.int .i64 k)))], hp := [(0, .arr 3 1 (ints ((l.take k).mapIdx (mskF key sign))))], nx := 1 })
    (fun n k => k ≤ l.length ∧ n = l.length - k) l.length 0 [(0, 0)] ⟨rfl, rfl, rfl, by repeat (first | exact trivial | refine ⟨rfl, ?_⟩), by repeat (first | exact trivial | refine ⟨rfl, ?_⟩ | refine ⟨hrr_le rfl, ?_⟩)⟩ ⟨Nat.zero_le _, rfl⟩ ?_
  rintro n k ⟨hk, rfl⟩
  repeat' (first | refine p1 rfl rfl rfl rfl ?_ | refine al_end ?_ | refine awp_seq ?_ | refine awp_region ?_ | refine awp_block ?_ | refine awp_skip' ?_ | refine awp_ret' ?_ | refine awp_exit' ?_ | refine xt_sq_n ?_ | refine xt_bk_n ?_ | refine xt_sq_r ?_ | refine xt_bk_r ?_ | refine xt_sq_x ?_ | refine xt_bk_eq ?_ | refine xt_bk_ne rfl ?_ | refine p0 rfl rfl rfl ?_ | refine p0n rfl rfl ?_ | refine pAr rfl rfl rfl rfl rfl rfl rfl (by omega) (by omega) ?_ | refine pBuild rfl rfl rfl rfl rfl rfl ?_ | refine pE (eAlloc rfl rfl rfl rfl) rfl ?_ | refine pE (eBox rfl rfl rfl rfl rfl) rfl ?_ | refine pE (eSt rfl rfl rfl rfl rfl rfl rfl rfl rfl) rfl ?_ | refine pE (eBs rfl rfl rfl rfl rfl rfl rfl rfl rfl) rfl ?_ | refine awp_cond (b := true) rfl (fun _ => ?_) (fun h => Bool.noConfusion h) | refine awp_cond (b := false) rfl (fun h => Bool.noConfusion h) (fun _ => ?_) | ((fail_if_success refine pG (b := true) rfl rfl ?_ ?_); (fail_if_success refine pG (b := false) rfl rfl ?_ ?_); (refine pG rfl rfl (fun hc => ?_) (fun hc => ?_)) <;> try simp at hc) | ((refine awp_cond rfl (fun hc => ?_) (fun hc => ?_)) <;> try simp at hc))
  · have hk' : k < l.length := by omega
    have hx := hlb _ (List.getElem_mem hk')
    have hsr : 0 ≤ strm key k ∧ strm key k ≤ 990 := strm_rng
    have hmul : -990 ≤ sign * strm key k ∧ sign * strm key k ≤ 990 := by rcases hs with rfl | rfl <;> omega
    refine pIx k rfl rfl rfl rfl rfl rfl rfl rfl rfl hk' (ints_drop hk') ?_
    repeat' (first | refine p1 rfl rfl rfl rfl ?_ | refine al_end ?_ | refine awp_seq ?_ | refine awp_region ?_ | refine awp_block ?_ | refine awp_skip' ?_ | refine awp_ret' ?_ | refine awp_exit' ?_ | refine xt_sq_n ?_ | refine xt_bk_n ?_ | refine xt_sq_r ?_ | refine xt_bk_r ?_ | refine xt_sq_x ?_ | refine xt_bk_eq ?_ | refine xt_bk_ne rfl ?_ | refine p0 rfl rfl rfl ?_ | refine p0n rfl rfl ?_ | refine pAr rfl rfl rfl rfl rfl rfl rfl (by omega) (by omega) ?_ | refine pBuild rfl rfl rfl rfl rfl rfl ?_ | refine pE (eAlloc rfl rfl rfl rfl) rfl ?_ | refine pE (eBox rfl rfl rfl rfl rfl) rfl ?_ | refine pE (eSt rfl rfl rfl rfl rfl rfl rfl rfl rfl) rfl ?_ | refine pE (eBs rfl rfl rfl rfl rfl rfl rfl rfl rfl) rfl ?_ | refine awp_cond (b := true) rfl (fun _ => ?_) (fun h => Bool.noConfusion h) | refine awp_cond (b := false) rfl (fun h => Bool.noConfusion h) (fun _ => ?_) | ((fail_if_success refine pG (b := true) rfl rfl ?_ ?_); (fail_if_success refine pG (b := false) rfl rfl ?_ ?_); (refine pG rfl rfl (fun hc => ?_) (fun hc => ?_)) <;> try simp at hc) | ((refine awp_cond rfl (fun hc => ?_) (fun hc => ?_)) <;> try simp at hc) | refine pC0 (stream_ac key k hkk (by omega)) rfl rfl rfl rfl rfl rfl rfl (by decide) ?_)
    refine pRem rfl rfl rfl rfl rfl rfl (by omega) (by omega) ?_
    repeat (first | refine p1 rfl rfl rfl rfl ?_ | refine al_end ?_ | refine awp_seq ?_ | refine awp_region ?_ | refine awp_block ?_ | refine awp_skip' ?_ | refine awp_ret' ?_ | refine awp_exit' ?_ | refine xt_sq_n ?_ | refine xt_bk_n ?_ | refine xt_sq_r ?_ | refine xt_bk_r ?_ | refine xt_sq_x ?_ | refine xt_bk_eq ?_ | refine xt_bk_ne rfl ?_ | refine p0 rfl rfl rfl ?_ | refine p0n rfl rfl ?_ | refine pAr rfl rfl rfl rfl rfl rfl rfl (by omega) (by omega) ?_ | refine pBuild rfl rfl rfl rfl rfl rfl ?_ | refine pE (eAlloc rfl rfl rfl rfl) rfl ?_ | refine pE (eBox rfl rfl rfl rfl rfl) rfl ?_ | refine pE (eSt rfl rfl rfl rfl rfl rfl rfl rfl rfl) rfl ?_ | refine pE (eBs rfl rfl rfl rfl rfl rfl rfl rfl rfl) rfl ?_)
    refine pAp1 (f := int1) (L := (l.take k).mapIdx (mskF key sign)) (mskF key sign k l[k]) rfl rfl rfl rfl rfl rfl rfl rfl rfl rfl rfl rfl (fun _ => rfl) (by simp; omega) (by omega) rfl ?_
    rw [← take_mapIdx hk']
    repeat (first | refine p1 rfl rfl rfl rfl ?_ | refine al_end ?_ | refine awp_seq ?_ | refine awp_region ?_ | refine awp_block ?_ | refine awp_skip' ?_ | refine awp_ret' ?_ | refine awp_exit' ?_ | refine xt_sq_n ?_ | refine xt_bk_n ?_ | refine xt_sq_r ?_ | refine xt_bk_r ?_ | refine xt_sq_x ?_ | refine xt_bk_eq ?_ | refine xt_bk_ne rfl ?_ | refine p0 rfl rfl rfl ?_ | refine p0n rfl rfl ?_ | refine pAr rfl rfl rfl rfl rfl rfl rfl (by omega) (by omega) ?_ | refine pBuild rfl rfl rfl rfl rfl rfl ?_ | refine pE (eAlloc rfl rfl rfl rfl) rfl ?_ | refine pE (eBox rfl rfl rfl rfl rfl) rfl ?_ | refine pE (eSt rfl rfl rfl rfl rfl rfl rfl rfl rfl) rfl ?_ | refine pE (eBs rfl rfl rfl rfl rfl rfl rfl rfl rfl) rfl ?_)
    exact lp_end (l.length - (k + 1)) (k + 1) [(0, 2)] (by omega) ⟨rfl, rfl, rfl, by repeat (first | exact trivial | refine ⟨rfl, ?_⟩), by repeat (first | exact trivial | refine ⟨rfl, ?_⟩ | refine ⟨hrr_le rfl, ?_⟩)⟩ ⟨hk', rfl⟩
  · have : k = l.length := by omega
    subst this
    rw [List.take_length]
    exact xt_finG [(0, 0)] (.h (.sl 0 0 l.length)) [.arr 3 1 (ints (l.mapIdx (mskF key sign)))] (.inr rfl) rfl rfl rfl rfl rfl ⟨rfl, trivial⟩ trivial ⟨ints_tgs _, trivial⟩ ⟨rfl, rfl⟩
end Go.Proofs.Ythmgfgiaagkdeaa
