import Derived.Test.YtlgfdjmnedfjfaaL7
import Derived.Test.YtlgfdjmnedfjfaaT3
namespace Go.Proofs.Ytlgfdjmnedfjfaa
open Go.RowKit
attribute [local irreducible] AWP AL XT AC ES PS AH LpQ
def touch (n : Int) (x : LC) : Bool := decide (x.f = n) || decide (x.t = n)
def cnt (l : List LC) (n : Nat) : Nat := (l.filter (touch n)).length
def cnts (l : List LC) : List Int := (List.range 8).map fun n => (cnt l n : Int)
theorem cnts_length (l : List LC) : (cnts l).length = 8 := by simp [cnts]
theorem cnts_get (l : List LC) (n : Nat) (h : n < (cnts l).length) : (cnts l)[n] = cnt l n := by simp [cnts]
theorem cnt_le (l : List LC) (n : Nat) : cnt l n ≤ l.length := List.length_filter_le _ _
theorem cnt_snoc (l : List LC) (x : LC) (n : Nat) : cnt (l ++ [x]) n = cnt l n + if touch n x then 1 else 0 := by
  unfold cnt
  rw [List.filter_append, List.length_append]
  cases h : touch n x <;> simp [h]
theorem cnts_snoc (l : List LC) (x : LC) {f t : Nat} (hf : x.f = f) (ht : x.t = t) (h1 : f < 8) (h2 : t < 8) (hne : f ≠ t) : ((cnts l).set f (cnt l f + 1)).set t (cnt l t + 1) = cnts (l ++ [x]) := by
  apply List.ext_getElem
  · simp [cnts_length]
  · intro n ha hb
    rw [cnts_get, cnt_snoc]
    have hn : n < 8 := by simpa [cnts_length] using ha
    by_cases e1 : n = t
    · subst e1
      rw [List.getElem_set_self]
      simp [touch, ht]
    · rw [List.getElem_set_ne (by omega)]
      by_cases e2 : n = f
      · subst e2
        rw [List.getElem_set_self]
        simp [touch, hf]
      · rw [List.getElem_set_ne (by omega), cnts_get]
        have : touch n x = false := by simp [touch, hf, ht]; omega
        simp [this]
set_option maxHeartbeats 1000000 in
set_option maxRecDepth 100000 in
theorem links_ac (tg : Nat) (l : List LC) (hl : l.length ≤ 1048576) (hok : ∀ k, (h : k < l.length) → (0 ≤ l[k].f ∧ l[k].f ≤ 7) ∧ (0 ≤ l[k].t ∧ l[k].t ≤ 7) ∧ l[k].f ≠ l[k].t) : AC Try.prog 58 [.h (.c (.rd (tg + 1) l.length (lcs l)))] [] [0]
    (fun r h => h = [] ∧ r = .agg (nums (cnts l))) := by
  refine ac_body teok Try.func58 rfl (by kernel_rfl) Try.ntmps58 rfl rfl ?_
  intro w0 ps g0 im0
  repeat (first | refine p1 rfl rfl rfl rfl ?_ | refine al_end ?_ | refine awp_seq ?_ | refine awp_region ?_ | refine awp_block ?_ | refine awp_skip' ?_ | refine awp_ret' ?_ | refine awp_exit' ?_ | refine xt_sq_n ?_ | refine xt_bk_n ?_ | refine xt_sq_r ?_ | refine xt_bk_r ?_ | refine xt_sq_x ?_ | refine xt_bk_eq ?_ | refine xt_bk_ne rfl ?_ | refine p0 rfl rfl rfl ?_ | refine p0n rfl rfl ?_ | refine pAr rfl rfl rfl rfl rfl rfl rfl (by omega) (by omega) ?_ | refine pBuild rfl rfl rfl rfl rfl rfl ?_ | refine pE (eAlloc rfl rfl rfl rfl) rfl ?_ | refine pE (eBox rfl rfl rfl rfl rfl) rfl ?_ | refine pE (eSt rfl rfl rfl rfl rfl rfl rfl rfl rfl) rfl ?_ | refine pE (eBs rfl rfl rfl rfl rfl rfl rfl rfl rfl) rfl ?_)
  refine awp_loopE (fun k : Nat => { fr := [(6, .h (.c (.rd (tg + 1) l.length (lcs l)))), (7, .h (.c (.int .i64 l.length))), (2, .h (.ptr 0 0)), (3, .h (.ptr 1 0)), (8, .h (.c (.int .i64 k)))], hp := [(1, .box 66 (nums (cnts (l.take k)))), (0, .box 66 (nums [0, 0, 0, 0, 0, 0, 0, 0]))], nx := 2 })
    (fun n k => k ≤ l.length ∧ n = l.length - k) l.length 0 [(0, 0), (1, 1)] ⟨rfl, rfl, rfl, ⟨rfl, rfl, rfl, rfl, rfl, trivial⟩, ⟨rfl, rfl, trivial⟩⟩ ⟨Nat.zero_le _, rfl⟩ ?_
  rintro n k ⟨hk, rfl⟩
  repeat (first | refine p1 rfl rfl rfl rfl ?_ | refine al_end ?_ | refine awp_seq ?_ | refine awp_region ?_ | refine awp_block ?_ | refine awp_skip' ?_ | refine awp_ret' ?_ | refine awp_exit' ?_ | refine xt_sq_n ?_ | refine xt_bk_n ?_ | refine xt_sq_r ?_ | refine xt_bk_r ?_ | refine xt_sq_x ?_ | refine xt_bk_eq ?_ | refine xt_bk_ne rfl ?_ | refine p0 rfl rfl rfl ?_ | refine p0n rfl rfl ?_ | refine pAr rfl rfl rfl rfl rfl rfl rfl (by omega) (by omega) ?_ | refine pBuild rfl rfl rfl rfl rfl rfl ?_ | refine pE (eAlloc rfl rfl rfl rfl) rfl ?_ | refine pE (eBox rfl rfl rfl rfl rfl) rfl ?_ | refine pE (eSt rfl rfl rfl rfl rfl rfl rfl rfl rfl) rfl ?_ | refine pE (eBs rfl rfl rfl rfl rfl rfl rfl rfl rfl) rfl ?_)
  refine awp_cond rfl (fun hc => ?_) (fun hc => ?_)
  · have hk' : k < l.length := by simpa using hc
    obtain ⟨⟨f0, f7⟩, ⟨t0, t7⟩, hne⟩ := hok k hk'
    obtain ⟨f, hf⟩ : ∃ f : Nat, l[k].f = f := ⟨l[k].f.toNat, by omega⟩
    obtain ⟨t, ht⟩ : ∃ t : Nat, l[k].t = t := ⟨l[k].t.toNat, by omega⟩
    have hcl := cnts_length (l.take k)
    have hc1 := cnt_le (l.take k) f
    have hc2 := cnt_le (l.take k) t
    have htl : (l.take k).length ≤ 1048576 := by simp; omega
    repeat (first | refine p1 rfl rfl rfl rfl ?_ | refine al_end ?_ | refine awp_seq ?_ | refine awp_region ?_ | refine awp_block ?_ | refine awp_skip' ?_ | refine awp_ret' ?_ | refine awp_exit' ?_ | refine xt_sq_n ?_ | refine xt_bk_n ?_ | refine xt_sq_r ?_ | refine xt_bk_r ?_ | refine xt_sq_x ?_ | refine xt_bk_eq ?_ | refine xt_bk_ne rfl ?_ | refine p0 rfl rfl rfl ?_ | refine p0n rfl rfl ?_ | refine pAr rfl rfl rfl rfl rfl rfl rfl (by omega) (by omega) ?_ | refine pBuild rfl rfl rfl rfl rfl rfl ?_ | refine pE (eAlloc rfl rfl rfl rfl) rfl ?_ | refine pE (eBox rfl rfl rfl rfl rfl) rfl ?_ | refine pE (eSt rfl rfl rfl rfl rfl rfl rfl rfl rfl) rfl ?_ | refine pE (eBs rfl rfl rfl rfl rfl rfl rfl rfl rfl) rfl ?_)
    refine pIxR (f := lcc) k rfl rfl rfl rfl rfl rfl rfl rfl rfl (fun _ => rfl) rfl rfl hk' ?_
    repeat (first | refine p1 rfl rfl rfl rfl ?_ | refine al_end ?_ | refine awp_seq ?_ | refine awp_region ?_ | refine awp_block ?_ | refine awp_skip' ?_ | refine awp_ret' ?_ | refine awp_exit' ?_ | refine xt_sq_n ?_ | refine xt_bk_n ?_ | refine xt_sq_r ?_ | refine xt_bk_r ?_ | refine xt_sq_x ?_ | refine xt_bk_eq ?_ | refine xt_bk_ne rfl ?_ | refine p0 rfl rfl rfl ?_ | refine p0n rfl rfl ?_ | refine pAr rfl rfl rfl rfl rfl rfl rfl (by omega) (by omega) ?_ | refine pBuild rfl rfl rfl rfl rfl rfl ?_ | refine pE (eAlloc rfl rfl rfl rfl) rfl ?_ | refine pE (eBox rfl rfl rfl rfl rfl) rfl ?_ | refine pE (eSt rfl rfl rfl rfl rfl rfl rfl rfl rfl) rfl ?_ | refine pE (eBs rfl rfl rfl rfl rfl rfl rfl rfl rfl) rfl ?_)
    refine pIxA f rfl rfl rfl rfl rfl rfl rfl rfl hf (by omega) ?_
    refine pLdB rfl rfl rfl rfl rfl rfl rfl (by show (nums (cnts (l.take k))).drop (0 + f * 1) = _; rw [Nat.zero_add, Nat.mul_one, nums_drop (by omega), cnts_get]) rfl ?_
    repeat (first | refine p1 rfl rfl rfl rfl ?_ | refine al_end ?_ | refine awp_seq ?_ | refine awp_region ?_ | refine awp_block ?_ | refine awp_skip' ?_ | refine awp_ret' ?_ | refine awp_exit' ?_ | refine xt_sq_n ?_ | refine xt_bk_n ?_ | refine xt_sq_r ?_ | refine xt_bk_r ?_ | refine xt_sq_x ?_ | refine xt_bk_eq ?_ | refine xt_bk_ne rfl ?_ | refine p0 rfl rfl rfl ?_ | refine p0n rfl rfl ?_ | refine pAr rfl rfl rfl rfl rfl rfl rfl (by omega) (by omega) ?_ | refine pBuild rfl rfl rfl rfl rfl rfl ?_ | refine pE (eAlloc rfl rfl rfl rfl) rfl ?_ | refine pE (eBox rfl rfl rfl rfl rfl) rfl ?_ | refine pE (eSt rfl rfl rfl rfl rfl rfl rfl rfl rfl) rfl ?_ | refine pE (eBs rfl rfl rfl rfl rfl rfl rfl rfl rfl) rfl ?_)
    refine pIxA f rfl rfl rfl rfl rfl rfl rfl rfl hf (by omega) ?_
    refine pStB (nums ((cnts (l.take k)).set f (cnt (l.take k) f + 1))) rfl rfl rfl rfl rfl rfl rfl rfl rfl (by show 0 + f * 1 + 1 ≤ _; simp [nums, hcl]; omega) (by show setL _ (0 + f * 1) _ = _; rw [Nat.zero_add, Nat.mul_one, nums_set (by omega)]) ?_
    repeat (first | refine p1 rfl rfl rfl rfl ?_ | refine al_end ?_ | refine awp_seq ?_ | refine awp_region ?_ | refine awp_block ?_ | refine awp_skip' ?_ | refine awp_ret' ?_ | refine awp_exit' ?_ | refine xt_sq_n ?_ | refine xt_bk_n ?_ | refine xt_sq_r ?_ | refine xt_bk_r ?_ | refine xt_sq_x ?_ | refine xt_bk_eq ?_ | refine xt_bk_ne rfl ?_ | refine p0 rfl rfl rfl ?_ | refine p0n rfl rfl ?_ | refine pAr rfl rfl rfl rfl rfl rfl rfl (by omega) (by omega) ?_ | refine pBuild rfl rfl rfl rfl rfl rfl ?_ | refine pE (eAlloc rfl rfl rfl rfl) rfl ?_ | refine pE (eBox rfl rfl rfl rfl rfl) rfl ?_ | refine pE (eSt rfl rfl rfl rfl rfl rfl rfl rfl rfl) rfl ?_ | refine pE (eBs rfl rfl rfl rfl rfl rfl rfl rfl rfl) rfl ?_)
    refine pIxA t rfl rfl rfl rfl rfl rfl rfl rfl ht (by omega) ?_
    refine pLdB rfl rfl rfl rfl rfl rfl rfl (by show (nums ((cnts (l.take k)).set f _)).drop (0 + t * 1) = _; rw [Nat.zero_add, Nat.mul_one, nums_drop (by simp; omega), List.getElem_set_ne (by omega), cnts_get]) rfl ?_
    repeat (first | refine p1 rfl rfl rfl rfl ?_ | refine al_end ?_ | refine awp_seq ?_ | refine awp_region ?_ | refine awp_block ?_ | refine awp_skip' ?_ | refine awp_ret' ?_ | refine awp_exit' ?_ | refine xt_sq_n ?_ | refine xt_bk_n ?_ | refine xt_sq_r ?_ | refine xt_bk_r ?_ | refine xt_sq_x ?_ | refine xt_bk_eq ?_ | refine xt_bk_ne rfl ?_ | refine p0 rfl rfl rfl ?_ | refine p0n rfl rfl ?_ | refine pAr rfl rfl rfl rfl rfl rfl rfl (by omega) (by omega) ?_ | refine pBuild rfl rfl rfl rfl rfl rfl ?_ | refine pE (eAlloc rfl rfl rfl rfl) rfl ?_ | refine pE (eBox rfl rfl rfl rfl rfl) rfl ?_ | refine pE (eSt rfl rfl rfl rfl rfl rfl rfl rfl rfl) rfl ?_ | refine pE (eBs rfl rfl rfl rfl rfl rfl rfl rfl rfl) rfl ?_)
    refine pIxA t rfl rfl rfl rfl rfl rfl rfl rfl ht (by omega) ?_
    refine pStB (nums (((cnts (l.take k)).set f (cnt (l.take k) f + 1)).set t (cnt (l.take k) t + 1))) rfl rfl rfl rfl rfl rfl rfl rfl rfl (by show 0 + t * 1 + 1 ≤ _; simp [nums, hcl]; omega) (by show setL _ (0 + t * 1) _ = _; rw [Nat.zero_add, Nat.mul_one, nums_set (by simp; omega)]) ?_
    rw [cnts_snoc (l.take k) l[k] hf ht (by omega) (by omega) (by omega), ← List.take_succ_eq_append_getElem hk']
    repeat (first | refine p1 rfl rfl rfl rfl ?_ | refine al_end ?_ | refine awp_seq ?_ | refine awp_region ?_ | refine awp_block ?_ | refine awp_skip' ?_ | refine awp_ret' ?_ | refine awp_exit' ?_ | refine xt_sq_n ?_ | refine xt_bk_n ?_ | refine xt_sq_r ?_ | refine xt_bk_r ?_ | refine xt_sq_x ?_ | refine xt_bk_eq ?_ | refine xt_bk_ne rfl ?_ | refine p0 rfl rfl rfl ?_ | refine p0n rfl rfl ?_ | refine pAr rfl rfl rfl rfl rfl rfl rfl (by omega) (by omega) ?_ | refine pBuild rfl rfl rfl rfl rfl rfl ?_ | refine pE (eAlloc rfl rfl rfl rfl) rfl ?_ | refine pE (eBox rfl rfl rfl rfl rfl) rfl ?_ | refine pE (eSt rfl rfl rfl rfl rfl rfl rfl rfl rfl) rfl ?_ | refine pE (eBs rfl rfl rfl rfl rfl rfl rfl rfl rfl) rfl ?_)
    exact lp_end (l.length - (k + 1)) (k + 1) [(0, 0), (1, 1)] (by omega) ⟨rfl, rfl, rfl, by repeat (first | exact trivial | refine ⟨rfl, ?_⟩), by repeat (first | exact trivial | refine ⟨rfl, ?_⟩)⟩ ⟨hk', rfl⟩
  · have hk' : k = l.length := by have : ¬ k < l.length := by simpa using hc
                                  omega
    subst hk'
    rw [List.take_length]
    repeat (first | refine p1 rfl rfl rfl rfl ?_ | refine al_end ?_ | refine awp_seq ?_ | refine awp_region ?_ | refine awp_block ?_ | refine awp_skip' ?_ | refine awp_ret' ?_ | refine awp_exit' ?_ | refine xt_sq_n ?_ | refine xt_bk_n ?_ | refine xt_sq_r ?_ | refine xt_bk_r ?_ | refine xt_sq_x ?_ | refine xt_bk_eq ?_ | refine xt_bk_ne rfl ?_ | refine p0 rfl rfl rfl ?_ | refine p0n rfl rfl ?_ | refine pAr rfl rfl rfl rfl rfl rfl rfl (by omega) (by omega) ?_ | refine pBuild rfl rfl rfl rfl rfl rfl ?_ | refine pE (eAlloc rfl rfl rfl rfl) rfl ?_ | refine pE (eBox rfl rfl rfl rfl rfl) rfl ?_ | refine pE (eSt rfl rfl rfl rfl rfl rfl rfl rfl rfl) rfl ?_ | refine pE (eBs rfl rfl rfl rfl rfl rfl rfl rfl rfl) rfl ?_)
    exact xt_finG [] (.agg (nums (cnts l))) [] (.inr rfl) rfl rfl rfl rfl rfl trivial (by repeat' (first | exact trivial | refine And.intro ?_ ?_)) trivial ⟨rfl, rfl⟩
def badIn (l : List LC) (num den : Int) (n : Nat) : Bool := decide (0 < cnt l n) && (cnt (l.filter (susP num den)) n == cnt l n)
def blamed (l : List LC) (num den : Int) : List Int := if lv l && partB num den then ((List.range 8).filter (badIn l num den)).map fun n : Nat => (n : Int) else []
theorem blamed_bad {l : List LC} {num den : Int} (h : (lv l && partB num den) = false) : blamed l num den = [] := by simp [blamed, h]
def blUpto (l : List LC) (num den : Int) (k : Nat) : List Int := ((List.range k).filter (badIn l num den)).map fun n : Nat => (n : Int)
theorem blUpto_succ (l : List LC) (num den : Int) (k : Nat) : blUpto l num den (k + 1) = blUpto l num den k ++ if badIn l num den k then [(k : Int)] else [] := by
  unfold blUpto
  rw [List.range_succ, List.filter_append, List.map_append]
  cases h : badIn l num den k <;> simp [h]
theorem blUpto_length (l : List LC) (num den : Int) (k : Nat) : (blUpto l num den k).length ≤ k := by
  unfold blUpto
  rw [List.length_map]
  exact Nat.le_trans (List.length_filter_le _ _) (by simp)
theorem blamed_good {l : List LC} {num den : Int} (h : (lv l && partB num den) = true) : blamed l num den = blUpto l num den 8 := by simp [blamed, h, blUpto]
set_option maxHeartbeats 2000000 in
set_option maxRecDepth 100000 in
theorem implBlamed_ac (tg : Nat) (l : List LC) (num den : Int) (hl : l.length ≤ 1048576) : AC Try.prog 32 [.h (.c (.rd (tg + 1) l.length (lcs l))), .h (.c (.int .i64 num)), .h (.c (.int .i64 den))] [] [0]
    (fun r h => h = [.arr 3 1 (ints (blamed l num den))] ∧ r = .h (.sl 0 0 (blamed l num den).length)) := by
  refine ac_bodyN teok Try.func32 rfl (by kernel_rfl) Try.ntmps32 rfl rfl ?_
  intro w0 ps g0 im0
  have hlv := implLV_ac tg l hl
  repeat' (first | refine p1 rfl rfl rfl rfl ?_ | refine al_end ?_ | refine awp_seq ?_ | refine awp_region ?_ | refine awp_block ?_ | refine awp_skip' ?_ | refine awp_ret' ?_ | refine awp_exit' ?_ | refine xt_sq_n ?_ | refine xt_bk_n ?_ | refine xt_sq_r ?_ | refine xt_bk_r ?_ | refine xt_sq_x ?_ | refine xt_bk_eq ?_ | refine xt_bk_ne rfl ?_ | refine p0 rfl rfl rfl ?_ | refine p0n rfl rfl ?_ | refine pAr rfl rfl rfl rfl rfl rfl rfl (by omega) (by omega) ?_ | refine pBuild rfl rfl rfl rfl rfl rfl ?_ | refine pE (eAlloc rfl rfl rfl rfl) rfl ?_ | refine pE (eBox rfl rfl rfl rfl rfl) rfl ?_ | refine pE (eSt rfl rfl rfl rfl rfl rfl rfl rfl rfl) rfl ?_ | refine pE (eBs rfl rfl rfl rfl rfl rfl rfl rfl rfl) rfl ?_ | refine awp_cond (b := true) rfl (fun _ => ?_) (fun h => Bool.noConfusion h) | refine awp_cond (b := false) rfl (fun h => Bool.noConfusion h) (fun _ => ?_) | ((fail_if_success refine pG (b := true) rfl rfl ?_ ?_); (fail_if_success refine pG (b := false) rfl rfl ?_ ?_); (refine pG rfl rfl (fun hc => ?_) (fun hc => ?_)) <;> try simp at hc) | ((refine awp_cond rfl (fun hc => ?_) (fun hc => ?_)) <;> try simp at hc) | refine pC0 (hlv) rfl rfl rfl rfl rfl rfl rfl (by decide) ?_ | refine pC0 (isPart_ac _ _) rfl rfl rfl rfl rfl rfl rfl (by decide) ?_)
  · rw [blamed_bad (by simp_all)]
    refine xt_own 6 3 1 rfl (xt_N ?_)
    exact xt_finG [(0, 0)] (.h (.sl 0 0 0)) [.arr 3 1 []] (.inr rfl) rfl rfl rfl rfl rfl ⟨rfl, trivial⟩ trivial ⟨trivial, trivial⟩ ⟨rfl, rfl⟩
  · rw [blamed_bad (by simp_all)]
    refine xt_own 6 3 1 rfl (xt_N ?_)
    exact xt_finG [(0, 0)] (.h (.sl 0 0 0)) [.arr 3 1 []] (.inr rfl) rfl rfl rfl rfl rfl ⟨rfl, trivial⟩ trivial ⟨trivial, trivial⟩ ⟨rfl, rfl⟩
  have hv : lv l = true := by assumption
  have hpt : partB num den = true := by assumption
  have hsus : sus l num den = l.filter (susP num den) := by simp [sus, hv, hpt]
  have hsl : (l.filter (susP num den)).length ≤ l.length := List.length_filter_le _ _
  have hpS := lcs_plain (l.filter (susP num den))
  have hsusAC := implSus_ac tg l num den hl
  rw [hsus] at hsusAC
  rw [blamed_good (by simp [hv, hpt])]
  repeat (first | refine p1 rfl rfl rfl rfl ?_ | refine al_end ?_ | refine awp_seq ?_ | refine awp_region ?_ | refine awp_block ?_ | refine awp_skip' ?_ | refine awp_ret' ?_ | refine awp_exit' ?_ | refine xt_sq_n ?_ | refine xt_bk_n ?_ | refine xt_sq_r ?_ | refine xt_bk_r ?_ | refine xt_sq_x ?_ | refine xt_bk_eq ?_ | refine xt_bk_ne rfl ?_ | refine p0 rfl rfl rfl ?_ | refine p0n rfl rfl ?_ | refine pAr rfl rfl rfl rfl rfl rfl rfl (by omega) (by omega) ?_ | refine pBuild rfl rfl rfl rfl rfl rfl ?_ | refine pE (eAlloc rfl rfl rfl rfl) rfl ?_ | refine pE (eBox rfl rfl rfl rfl rfl) rfl ?_ | refine pE (eSt rfl rfl rfl rfl rfl rfl rfl rfl rfl) rfl ?_ | refine pE (eBs rfl rfl rfl rfl rfl rfl rfl rfl rfl) rfl ?_ | refine pC0 (links_ac tg l hl (fun k hk => ⟨(ok_at hv hk).1, (ok_at hv hk).2.1, (ok_at hv hk).2.2.1⟩)) rfl rfl rfl rfl rfl rfl rfl (by decide) ?_)
  refine pCn (hsusAC) rfl rfl rfl rfl rfl (by decide) (by repeat' (first | exact trivial | exact rfl | refine And.intro ?_ ?_ | exact Or.inl ⟨_, rfl, rfl⟩ | exact ⟨_, rfl, rfl⟩ | exact bor_sl rfl (by assumption))) ?_
  refine pCv (links_ac 98 (l.filter (susP num den)) (by omega) (fun k hk => by
      obtain ⟨j, hj, e⟩ := List.getElem_of_mem (List.mem_filter.1 (List.getElem_mem hk)).1
      rw [← e]; exact ⟨(ok_at hv hj).1, (ok_at hv hj).2.1, (ok_at hv hj).2.2.1⟩)) rfl rfl (fun _ => rfl) rfl rfl rfl (by decide) (by repeat' (first | exact trivial | exact rfl | refine And.intro ?_ ?_ | exact Or.inl ⟨_, rfl, rfl⟩ | exact ⟨_, rfl, rfl⟩ | exact bor_sl rfl (by assumption))) ?_
  repeat (first | refine p1 rfl rfl rfl rfl ?_ | refine al_end ?_ | refine awp_seq ?_ | refine awp_region ?_ | refine awp_block ?_ | refine awp_skip' ?_ | refine awp_ret' ?_ | refine awp_exit' ?_ | refine xt_sq_n ?_ | refine xt_bk_n ?_ | refine xt_sq_r ?_ | refine xt_bk_r ?_ | refine xt_sq_x ?_ | refine xt_bk_eq ?_ | refine xt_bk_ne rfl ?_ | refine p0 rfl rfl rfl ?_ | refine p0n rfl rfl ?_ | refine pAr rfl rfl rfl rfl rfl rfl rfl (by omega) (by omega) ?_ | refine pBuild rfl rfl rfl rfl rfl rfl ?_ | refine pE (eAlloc rfl rfl rfl rfl) rfl ?_ | refine pE (eBox rfl rfl rfl rfl rfl) rfl ?_ | refine pE (eSt rfl rfl rfl rfl rfl rfl rfl rfl rfl) rfl ?_ | refine pE (eBs rfl rfl rfl rfl rfl rfl rfl rfl rfl) rfl ?_)
  refine awp_loopE (fun k : Nat => { fr := [(29, .agg (nums (cnts l))), (8, .h (.ptr 1 0)), (9, .h (.sl 0 0 (blUpto l num den k).length)), (30, .h (.c (.int .i64 k)))], hp := [(0, .arr 3 1 (ints (blUpto l num den k))), (1, .box 66 (nums (cnts (l.filter (susP num den)))))], nx := 2 })
    (fun n k => k ≤ 8 ∧ n = 8 - k) 8 0 [(0, 3), (1, 2)] ⟨rfl, rfl, rfl, by repeat (first | exact trivial | refine ⟨rfl, ?_⟩), by repeat (first | exact trivial | refine ⟨rfl, ?_⟩)⟩ ⟨Nat.zero_le _, rfl⟩ ?_
  rintro n k ⟨hk, rfl⟩
  repeat (first | refine p1 rfl rfl rfl rfl ?_ | refine al_end ?_ | refine awp_seq ?_ | refine awp_region ?_ | refine awp_block ?_ | refine awp_skip' ?_ | refine awp_ret' ?_ | refine awp_exit' ?_ | refine xt_sq_n ?_ | refine xt_bk_n ?_ | refine xt_sq_r ?_ | refine xt_bk_r ?_ | refine xt_sq_x ?_ | refine xt_bk_eq ?_ | refine xt_bk_ne rfl ?_ | refine p0 rfl rfl rfl ?_ | refine p0n rfl rfl ?_ | refine pAr rfl rfl rfl rfl rfl rfl rfl (by omega) (by omega) ?_ | refine pBuild rfl rfl rfl rfl rfl rfl ?_ | refine pE (eAlloc rfl rfl rfl rfl) rfl ?_ | refine pE (eBox rfl rfl rfl rfl rfl) rfl ?_ | refine pE (eSt rfl rfl rfl rfl rfl rfl rfl rfl rfl) rfl ?_ | refine pE (eBs rfl rfl rfl rfl rfl rfl rfl rfl rfl) rfl ?_)
  refine awp_cond rfl (fun hc => ?_) (fun hc => ?_)
  · have hk' : k < 8 := by simp at hc; omega
    have hbs := blUpto_succ l num den k
    have hbl := blUpto_length l num den k
    have hd : (nums (cnts (l.filter (susP num den)))).drop k = .c (.int .i64 (cnt (l.filter (susP num den)) k)) :: nums ((cnts (l.filter (susP num den))).drop (k + 1)) := by rw [nums_drop (by rw [cnts_length]; exact hk'), cnts_get]
    repeat (first | refine p1 rfl rfl rfl rfl ?_ | refine al_end ?_ | refine awp_seq ?_ | refine awp_region ?_ | refine awp_block ?_ | refine awp_skip' ?_ | refine awp_ret' ?_ | refine awp_exit' ?_ | refine xt_sq_n ?_ | refine xt_bk_n ?_ | refine xt_sq_r ?_ | refine xt_bk_r ?_ | refine xt_sq_x ?_ | refine xt_bk_eq ?_ | refine xt_bk_ne rfl ?_ | refine p0 rfl rfl rfl ?_ | refine p0n rfl rfl ?_ | refine pAr rfl rfl rfl rfl rfl rfl rfl (by omega) (by omega) ?_ | refine pBuild rfl rfl rfl rfl rfl rfl ?_ | refine pE (eAlloc rfl rfl rfl rfl) rfl ?_ | refine pE (eBox rfl rfl rfl rfl rfl) rfl ?_ | refine pE (eSt rfl rfl rfl rfl rfl rfl rfl rfl rfl) rfl ?_ | refine pE (eBs rfl rfl rfl rfl rfl rfl rfl rfl rfl) rfl ?_)
    refine pIxV k rfl rfl rfl rfl rfl rfl rfl rfl rfl rfl hk' (y := .c (.int .i64 (cnt l k))) (by simp [nums, cnts, hk']) rfl ?_
    repeat' (first | refine p1 rfl rfl rfl rfl ?_ | refine al_end ?_ | refine awp_seq ?_ | refine awp_region ?_ | refine awp_block ?_ | refine awp_skip' ?_ | refine awp_ret' ?_ | refine awp_exit' ?_ | refine xt_sq_n ?_ | refine xt_bk_n ?_ | refine xt_sq_r ?_ | refine xt_bk_r ?_ | refine xt_sq_x ?_ | refine xt_bk_eq ?_ | refine xt_bk_ne rfl ?_ | refine p0 rfl rfl rfl ?_ | refine p0n rfl rfl ?_ | refine pAr rfl rfl rfl rfl rfl rfl rfl (by omega) (by omega) ?_ | refine pBuild rfl rfl rfl rfl rfl rfl ?_ | refine pE (eAlloc rfl rfl rfl rfl) rfl ?_ | refine pE (eBox rfl rfl rfl rfl rfl) rfl ?_ | refine pE (eSt rfl rfl rfl rfl rfl rfl rfl rfl rfl) rfl ?_ | refine pE (eBs rfl rfl rfl rfl rfl rfl rfl rfl rfl) rfl ?_ | refine awp_cond (b := true) rfl (fun _ => ?_) (fun h => Bool.noConfusion h) | refine awp_cond (b := false) rfl (fun h => Bool.noConfusion h) (fun _ => ?_) | ((fail_if_success refine pG (b := true) rfl rfl ?_ ?_); (fail_if_success refine pG (b := false) rfl rfl ?_ ?_); (refine pG rfl rfl (fun hc => ?_) (fun hc => ?_)) <;> try simp at hc) | ((refine awp_cond rfl (fun hc => ?_) (fun hc => ?_)) <;> try simp at hc))
    · refine pIxA k rfl rfl rfl rfl rfl rfl rfl rfl rfl hk' ?_
      refine pLdB rfl rfl rfl rfl rfl rfl rfl (by show (nums _).drop (0 + k * 1) = _; rw [Nat.zero_add, Nat.mul_one, hd]) rfl ?_
      repeat' (first | refine p1 rfl rfl rfl rfl ?_ | refine al_end ?_ | refine awp_seq ?_ | refine awp_region ?_ | refine awp_block ?_ | refine awp_skip' ?_ | refine awp_ret' ?_ | refine awp_exit' ?_ | refine xt_sq_n ?_ | refine xt_bk_n ?_ | refine xt_sq_r ?_ | refine xt_bk_r ?_ | refine xt_sq_x ?_ | refine xt_bk_eq ?_ | refine xt_bk_ne rfl ?_ | refine p0 rfl rfl rfl ?_ | refine p0n rfl rfl ?_ | refine pAr rfl rfl rfl rfl rfl rfl rfl (by omega) (by omega) ?_ | refine pBuild rfl rfl rfl rfl rfl rfl ?_ | refine pE (eAlloc rfl rfl rfl rfl) rfl ?_ | refine pE (eBox rfl rfl rfl rfl rfl) rfl ?_ | refine pE (eSt rfl rfl rfl rfl rfl rfl rfl rfl rfl) rfl ?_ | refine pE (eBs rfl rfl rfl rfl rfl rfl rfl rfl rfl) rfl ?_ | refine awp_cond (b := true) rfl (fun _ => ?_) (fun h => Bool.noConfusion h) | refine awp_cond (b := false) rfl (fun h => Bool.noConfusion h) (fun _ => ?_) | ((fail_if_success refine pG (b := true) rfl rfl ?_ ?_); (fail_if_success refine pG (b := false) rfl rfl ?_ ?_); (refine pG rfl rfl (fun hc => ?_) (fun hc => ?_)) <;> try simp at hc) | ((refine awp_cond rfl (fun hc => ?_) (fun hc => ?_)) <;> try simp at hc))
      · have hb : badIn l num den k = true := by simp [badIn]; simp at *; omega
        rw [hb, if_pos rfl] at hbs
        refine pAp1 (f := int1) (k : Int) rfl rfl rfl rfl rfl rfl rfl rfl rfl rfl rfl rfl (fun _ => rfl) rfl (by omega) rfl ?_
        repeat (first | refine p1 rfl rfl rfl rfl ?_ | refine al_end ?_ | refine awp_seq ?_ | refine awp_region ?_ | refine awp_block ?_ | refine awp_skip' ?_ | refine awp_ret' ?_ | refine awp_exit' ?_ | refine xt_sq_n ?_ | refine xt_bk_n ?_ | refine xt_sq_r ?_ | refine xt_bk_r ?_ | refine xt_sq_x ?_ | refine xt_bk_eq ?_ | refine xt_bk_ne rfl ?_ | refine p0 rfl rfl rfl ?_ | refine p0n rfl rfl ?_ | refine pAr rfl rfl rfl rfl rfl rfl rfl (by omega) (by omega) ?_ | refine pBuild rfl rfl rfl rfl rfl rfl ?_ | refine pE (eAlloc rfl rfl rfl rfl) rfl ?_ | refine pE (eBox rfl rfl rfl rfl rfl) rfl ?_ | refine pE (eSt rfl rfl rfl rfl rfl rfl rfl rfl rfl) rfl ?_ | refine pE (eBs rfl rfl rfl rfl rfl rfl rfl rfl rfl) rfl ?_)
        refine lp_end (8 - (k + 1)) (k + 1) [(0, 3), (1, 1)] (by omega) ?_ ⟨hk', rfl⟩
        rw [hbs, List.length_append]
        exact ⟨rfl, rfl, rfl, by repeat (first | exact trivial | refine ⟨rfl, ?_⟩), by repeat (first | exact trivial | refine ⟨rfl, ?_⟩)⟩
      · have hb : badIn l num den k = false := by simp [badIn]; simp at *; omega
        rw [hb, if_neg (by simp), List.append_nil] at hbs
        refine lp_end (8 - (k + 1)) (k + 1) [(0, 0), (1, 1)] (by omega) ?_ ⟨hk', rfl⟩
        rw [hbs]
        exact ⟨rfl, rfl, rfl, by repeat (first | exact trivial | refine ⟨rfl, ?_⟩), by repeat (first | exact trivial | refine ⟨rfl, ?_⟩)⟩
    · have hb : badIn l num den k = false := by simp [badIn]; simp at *; omega
      rw [hb, if_neg (by simp), List.append_nil] at hbs
      refine lp_end (8 - (k + 1)) (k + 1) [(0, 0), (1, 1)] (by omega) ?_ ⟨hk', rfl⟩
      rw [hbs]
      exact ⟨rfl, rfl, rfl, by repeat (first | exact trivial | refine ⟨rfl, ?_⟩), by repeat (first | exact trivial | refine ⟨rfl, ?_⟩)⟩
  · have hk' : k = 8 := by simp at hc; omega
    subst hk'
    repeat (first | refine p1 rfl rfl rfl rfl ?_ | refine al_end ?_ | refine awp_seq ?_ | refine awp_region ?_ | refine awp_block ?_ | refine awp_skip' ?_ | refine awp_ret' ?_ | refine awp_exit' ?_ | refine xt_sq_n ?_ | refine xt_bk_n ?_ | refine xt_sq_r ?_ | refine xt_bk_r ?_ | refine xt_sq_x ?_ | refine xt_bk_eq ?_ | refine xt_bk_ne rfl ?_ | refine p0 rfl rfl rfl ?_ | refine p0n rfl rfl ?_ | refine pAr rfl rfl rfl rfl rfl rfl rfl (by omega) (by omega) ?_ | refine pBuild rfl rfl rfl rfl rfl rfl ?_ | refine pE (eAlloc rfl rfl rfl rfl) rfl ?_ | refine pE (eBox rfl rfl rfl rfl rfl) rfl ?_ | refine pE (eSt rfl rfl rfl rfl rfl rfl rfl rfl rfl) rfl ?_ | refine pE (eBs rfl rfl rfl rfl rfl rfl rfl rfl rfl) rfl ?_)
    refine xt_N ?_
    exact xt_finG [(0, 0)] (.h (.sl 0 0 (blUpto l num den 8).length)) [.arr 3 1 (ints (blUpto l num den 8))] (.inr rfl) rfl rfl rfl rfl rfl ⟨rfl, trivial⟩ trivial ⟨ints_tgs _, trivial⟩ ⟨rfl, rfl⟩
end Go.Proofs.Ytlgfdjmnedfjfaa
