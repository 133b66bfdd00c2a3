import Derived.Test.YtobendpgedlaeaaD3
namespace Go.Proofs.Ytobendpgedlaeaa
open Go.RowKit
attribute [local irreducible] AWP AL XT AC ES PS AH AH2 LpQ
/-! ### checking signatures -/
def okB (P S : List Int) (i : Nat) : Bool := elt (P.getD i 0) && inB (S.getD i 0) 0 996
def hitB (P S : List Int) (D : Int) (i : Nat) : Bool := decide (0 < S.getD i 0) && decide (prd (S.getD i 0) 5 = prd (P.getD i 0) D)
def hits (P S : List Int) (D : Int) : Nat → Nat
  | 0 => 0
  | k + 1 => hits P S D k + if hitB P S D k then 1 else 0
def chk (P : List Int) (e : Int) (l : List En) (S : List Int) : Bool := dval e l && decide (P.length = 3) && decide (S.length = 3) && ((List.range 3).all (okB P S) && decide (2 ≤ hits P S (dig e l + 1) 3))
theorem hits_le (P S : List Int) (D : Int) : ∀ k, hits P S D k ≤ k
  | 0 => Nat.le_refl _
  | k + 1 => by have := hits_le P S D k; simp only [hits]; split <;> omega
theorem ok_false {P S : List Int} {k : Nat} (hk : k < 3) (h : okB P S k = false) : (List.range 3).all (okB P S) = false := by
  rw [List.all_eq_false]
  exact ⟨k, by simpa using hk, by simp [h]⟩
theorem ok_true {P S : List Int} (h : ∀ j, j < 3 → okB P S j = true) : (List.range 3).all (okB P S) = true := by
  rw [List.all_eq_true]
  intro j hj
  exact h j (by simpa using hj)
theorem getD_of {l : List Int} {k : Nat} (hk : k < l.length) : l[k] = l.getD k 0 := by
  rw [List.getD_eq_getElem?_getD, List.getElem?_eq_getElem hk]; rfl
theorem okB_of {P S : List Int} {k : Nat} (hP : k < P.length) (hS : k < S.length) : okB P S k = (elt P[k] && inB S[k] 0 996) := by
  unfold okB; rw [getD_of hP, getD_of hS]
theorem hitB_of {P S : List Int} {D : Int} {k : Nat} (hP : k < P.length) (hS : k < S.length) : hitB P S D k = (decide (0 < S[k]) && decide (prd S[k] 5 = prd P[k] D)) := by
  unfold hitB; rw [getD_of hP, getD_of hS]
theorem prd_of {a b : Int} (ha : elt a = true) (hb : elt b = true) : prd a b = a * b % 997 := by simp [prd, ha, hb]
set_option maxHeartbeats 2000000 in
set_option maxRecDepth 100000 in
theorem implCheck_ac (tp tg ts : Nat) (P : List Int) (e : Int) (l : List En) (S : List Int) (hl : l.length ≤ 1048576) : AC Try.prog 38 [.h (.c (.rd (tp + 1) P.length (ints P))), dv tg e l, .h (.c (.rd (ts + 1) S.length (ints S)))] [] [0]
    (fun r h => h = [] ∧ r = .h (.c (.bool (chk P e l S)))) := by
  refine ac_body teok Try.func38 rfl (by kernel_rfl) Try.ntmps38 rfl rfl ?_
  intro w0 ps g0 im0
  have hdv := implDV_ac tg e l (by omega)
  repeat' (first | refine p1 rfl rfl rfl rfl ?_ | refine al_end ?_ | refine awp_seq ?_ | refine awp_region ?_ | refine awp_block ?_ | refine awp_skip' ?_ | refine awp_ret' ?_ | refine awp_exit' ?_ | refine xt_sq_n ?_ | refine xt_bk_n ?_ | refine xt_sq_r ?_ | refine xt_bk_r ?_ | refine xt_sq_x ?_ | refine xt_bk_eq ?_ | refine xt_bk_ne rfl ?_ | refine p0 rfl rfl rfl ?_ | refine p0n rfl rfl ?_ | refine pAr rfl rfl rfl rfl rfl rfl rfl (by omega) (by omega) ?_ | refine pBuild rfl rfl rfl rfl rfl rfl ?_ | refine pE (eAlloc rfl rfl rfl rfl) rfl ?_ | refine pE (eBox rfl rfl rfl rfl rfl) rfl ?_ | refine pE (eSt rfl rfl rfl rfl rfl rfl rfl rfl rfl) rfl ?_ | refine pE (eBs rfl rfl rfl rfl rfl rfl rfl rfl rfl) rfl ?_ | refine awp_cond (b := true) rfl (fun _ => ?_) (fun h => Bool.noConfusion h) | refine awp_cond (b := false) rfl (fun h => Bool.noConfusion h) (fun _ => ?_) | ((fail_if_success refine pG (b := true) rfl rfl ?_ ?_); (fail_if_success refine pG (b := false) rfl rfl ?_ ?_); (refine pG rfl rfl (fun hc => ?_) (fun hc => ?_)) <;> try simp at hc) | ((refine awp_cond rfl (fun hc => ?_) (fun hc => ?_)) <;> try simp at hc) | refine pC0 (hdv) rfl rfl rfl rfl rfl rfl rfl (by decide) ?_)
  · exact xt_fin (.inr rfl) rfl trivial ⟨rfl, by simp [chk, *]⟩
  · exact xt_fin (.inr rfl) rfl trivial ⟨rfl, by
      have : ¬ P.length = 3 := by omega
      simp [chk, *]⟩
  · exact xt_fin (.inr rfl) rfl trivial ⟨rfl, by
      have : ¬ S.length = 3 := by omega
      simp [chk, *]⟩
  have hv : dval e l = true := by assumption
  have hP3 : P.length = 3 := by omega
  have hS3 : S.length = 3 := by omega
  have hdb := dig_bd e l
  have hdig := implDig_ac tg e l (by omega)
  rw [show digV e l = dig e l from by simp [digV, hv]] at hdig
  have hchk : chk P e l S = ((List.range 3).all (okB P S) && decide (2 ≤ hits P S (dig e l + 1) 3)) := by simp [chk, hv, hP3, hS3]
  rw [hchk]
  refine awp_loopE (fun k : Nat => { fr := [(0, .h (.c (.rd (tp + 1) P.length (ints P)))), (4, .h (.ptr 0 0)), (7, .h (.c (.int .i64 (hits P S (dig e l + 1) k)))), (23, .h (.c (.rd (ts + 1) S.length (ints S)))), (24, .h (.c (.int .i64 S.length))), (25, .h (.c (.int .i64 k)))], hp := [(0, dbx tg e l)], nx := 1 })
    (fun n k => k ≤ S.length ∧ n = S.length - k ∧ ∀ j, j < k → okB P S j = true) S.length 0 [(0, 0)] ⟨rfl, rfl, rfl, by repeat (first | exact trivial | refine ⟨rfl, ?_⟩), by repeat (first | exact trivial | refine ⟨rfl, ?_⟩)⟩ ⟨Nat.zero_le _, rfl, fun j h => by omega⟩ ?_
  rintro n k ⟨hk, rfl, hno⟩
  have hhl := hits_le P S (dig e l + 1) k
  repeat' (first | refine p1 rfl rfl rfl rfl ?_ | refine al_end ?_ | refine awp_seq ?_ | refine awp_region ?_ | refine awp_block ?_ | refine awp_skip' ?_ | refine awp_ret' ?_ | refine awp_exit' ?_ | refine xt_sq_n ?_ | refine xt_bk_n ?_ | refine xt_sq_r ?_ | refine xt_bk_r ?_ | refine xt_sq_x ?_ | refine xt_bk_eq ?_ | refine xt_bk_ne rfl ?_ | refine p0 rfl rfl rfl ?_ | refine p0n rfl rfl ?_ | refine pAr rfl rfl rfl rfl rfl rfl rfl (by omega) (by omega) ?_ | refine pBuild rfl rfl rfl rfl rfl rfl ?_ | refine pE (eAlloc rfl rfl rfl rfl) rfl ?_ | refine pE (eBox rfl rfl rfl rfl rfl) rfl ?_ | refine pE (eSt rfl rfl rfl rfl rfl rfl rfl rfl rfl) rfl ?_ | refine pE (eBs rfl rfl rfl rfl rfl rfl rfl rfl rfl) rfl ?_ | refine awp_cond (b := true) rfl (fun _ => ?_) (fun h => Bool.noConfusion h) | refine awp_cond (b := false) rfl (fun h => Bool.noConfusion h) (fun _ => ?_) | ((fail_if_success refine pG (b := true) rfl rfl ?_ ?_); (fail_if_success refine pG (b := false) rfl rfl ?_ ?_); (refine pG rfl rfl (fun hc => ?_) (fun hc => ?_)) <;> try simp at hc) | ((refine awp_cond rfl (fun hc => ?_) (fun hc => ?_)) <;> try simp at hc))
  · have hk' : k < S.length := by omega
    have hkP : k < P.length := by omega
    have hob := okB_of hkP hk'
    have hib := hitB_of (D := dig e l + 1) hkP hk'
    refine pIxR (f := int1) k rfl rfl rfl rfl rfl rfl rfl rfl rfl (fun _ => rfl) rfl rfl hk' ?_
    repeat' (first | refine p1 rfl rfl rfl rfl ?_ | refine al_end ?_ | refine awp_seq ?_ | refine awp_region ?_ | refine awp_block ?_ | refine awp_skip' ?_ | refine awp_ret' ?_ | refine awp_exit' ?_ | refine xt_sq_n ?_ | refine xt_bk_n ?_ | refine xt_sq_r ?_ | refine xt_bk_r ?_ | refine xt_sq_x ?_ | refine xt_bk_eq ?_ | refine xt_bk_ne rfl ?_ | refine p0 rfl rfl rfl ?_ | refine p0n rfl rfl ?_ | refine pAr rfl rfl rfl rfl rfl rfl rfl (by omega) (by omega) ?_ | refine pBuild rfl rfl rfl rfl rfl rfl ?_ | refine pE (eAlloc rfl rfl rfl rfl) rfl ?_ | refine pE (eBox rfl rfl rfl rfl rfl) rfl ?_ | refine pE (eSt rfl rfl rfl rfl rfl rfl rfl rfl rfl) rfl ?_ | refine pE (eBs rfl rfl rfl rfl rfl rfl rfl rfl rfl) rfl ?_ | refine awp_cond (b := true) rfl (fun _ => ?_) (fun h => Bool.noConfusion h) | refine awp_cond (b := false) rfl (fun h => Bool.noConfusion h) (fun _ => ?_) | ((fail_if_success refine pG (b := true) rfl rfl ?_ ?_); (fail_if_success refine pG (b := false) rfl rfl ?_ ?_); (refine pG rfl rfl (fun hc => ?_) (fun hc => ?_)) <;> try simp at hc) | ((refine awp_cond rfl (fun hc => ?_) (fun hc => ?_)) <;> try simp at hc))
    refine pIxR (f := int1) k rfl rfl rfl rfl rfl rfl rfl rfl rfl (fun _ => rfl) rfl rfl hkP ?_
    repeat' (first | refine p1 rfl rfl rfl rfl ?_ | refine al_end ?_ | refine awp_seq ?_ | refine awp_region ?_ | refine awp_block ?_ | refine awp_skip' ?_ | refine awp_ret' ?_ | refine awp_exit' ?_ | refine xt_sq_n ?_ | refine xt_bk_n ?_ | refine xt_sq_r ?_ | refine xt_bk_r ?_ | refine xt_sq_x ?_ | refine xt_bk_eq ?_ | refine xt_bk_ne rfl ?_ | refine p0 rfl rfl rfl ?_ | refine p0n rfl rfl ?_ | refine pAr rfl rfl rfl rfl rfl rfl rfl (by omega) (by omega) ?_ | refine pBuild rfl rfl rfl rfl rfl rfl ?_ | refine pE (eAlloc rfl rfl rfl rfl) rfl ?_ | refine pE (eBox rfl rfl rfl rfl rfl) rfl ?_ | refine pE (eSt rfl rfl rfl rfl rfl rfl rfl rfl rfl) rfl ?_ | refine pE (eBs rfl rfl rfl rfl rfl rfl rfl rfl rfl) rfl ?_ | refine awp_cond (b := true) rfl (fun _ => ?_) (fun h => Bool.noConfusion h) | refine awp_cond (b := false) rfl (fun h => Bool.noConfusion h) (fun _ => ?_) | ((fail_if_success refine pG (b := true) rfl rfl ?_ ?_); (fail_if_success refine pG (b := false) rfl rfl ?_ ?_); (refine pG rfl rfl (fun hc => ?_) (fun hc => ?_)) <;> try simp at hc) | ((refine awp_cond rfl (fun hc => ?_) (fun hc => ?_)) <;> try simp at hc) | refine pC0 (isElement_ac _) rfl rfl rfl rfl rfl rfl rfl (by decide) ?_ | refine pC0 (within_ac _ _ _) rfl rfl rfl rfl rfl rfl rfl (by decide) ?_)
    · exact xt_fin (.inr rfl) rfl trivial ⟨rfl, by rw [ok_false (by omega) (k := k) (by simp [*])]; rfl⟩
    · exact xt_fin (.inr rfl) rfl trivial ⟨rfl, by rw [ok_false (by omega) (k := k) (by simp [*])]; rfl⟩
    have hok : okB P S k = true := by simp [*]
    have hn1 := upTo hno hok
    ((repeat (first | refine awp_seq ?_ | refine awp_block ?_ | refine awp_skip' ?_ | refine xt_sq_n ?_ | refine xt_bk_n ?_)); refine awp_draw (CT.cons (0, true) <| CT.cons (1, true) <| CT.cons (2, true) <| CT.cons (3, true) <| CT.cons (5, true) <| CT.cons (6, true) <| CT.cons (7, true) <| CT.cons (8, true) <| CT.cons (9, true) <| CT.cons (4, false) <| CT.cons (10, false) <| CT.cons (11, true) <| CT.cons (12, false) <| CT.cons (13, true) <| CT.cons (14, true) <| CT.nil) [] mixed (by kernel_rfl) (by kernel_rfl) rfl rfl ?_)
    repeat' (first | refine d1 rfl rfl rfl rfl rfl ?_ | refine dBuild rfl rfl rfl rfl rfl rfl rfl ?_ | refine d0 rfl rfl rfl rfl ?_ | refine d0n rfl rfl rfl ?_ | refine dE rfl (eAlloc rfl rfl rfl rfl) rfl rfl rfl ?_ | refine dE rfl (eBox rfl rfl rfl rfl rfl) rfl rfl rfl ?_ | refine dE rfl (eSt rfl rfl rfl rfl rfl rfl rfl rfl rfl) rfl rfl rfl ?_ | refine dE rfl (eBs rfl rfl rfl rfl rfl rfl rfl rfl rfl) rfl rfl rfl ?_ | refine d2 rfl rfl rfl rfl rfl ?_ | refine ah_nil ?_ | refine dAr rfl rfl rfl rfl rfl rfl rfl rfl (by omega) (by omega) ?_ | ((fail_if_success refine dG (b := true) rfl rfl rfl ?_ ?_); (fail_if_success refine dG (b := false) rfl rfl rfl ?_ ?_); (refine dG rfl rfl rfl (fun hc => ?_) (fun hc => ?_)) <;> try simp at hc) | refine dC1 (product_ac _ _) rfl rfl rfl rfl rfl rfl rfl rfl (by decide) ?_)
    · refine dIxR (f := int1) k rfl rfl rfl rfl rfl rfl rfl rfl rfl rfl (fun _ => rfl) rfl rfl hkP ?_
      repeat' (first | refine d1 rfl rfl rfl rfl rfl ?_ | refine dBuild rfl rfl rfl rfl rfl rfl rfl ?_ | refine d0 rfl rfl rfl rfl ?_ | refine d0n rfl rfl rfl ?_ | refine dE rfl (eAlloc rfl rfl rfl rfl) rfl rfl rfl ?_ | refine dE rfl (eBox rfl rfl rfl rfl rfl) rfl rfl rfl ?_ | refine dE rfl (eSt rfl rfl rfl rfl rfl rfl rfl rfl rfl) rfl rfl rfl ?_ | refine dE rfl (eBs rfl rfl rfl rfl rfl rfl rfl rfl rfl) rfl rfl rfl ?_ | refine d2 rfl rfl rfl rfl rfl ?_ | refine ah_nil ?_ | refine dAr rfl rfl rfl rfl rfl rfl rfl rfl (by omega) (by omega) ?_ | ((fail_if_success refine dG (b := true) rfl rfl rfl ?_ ?_); (fail_if_success refine dG (b := false) rfl rfl rfl ?_ ?_); (refine dG rfl rfl rfl (fun hc => ?_) (fun hc => ?_)) <;> try simp at hc) | refine dC1 (product_ac _ _) rfl rfl rfl rfl rfl rfl rfl rfl (by decide) ?_)
      refine dCv (hdig) rfl rfl rfl (fun _ => rfl) rfl rfl rfl (by decide) (by repeat' (first | exact trivial | exact rfl | refine And.intro ?_ ?_ | exact Or.inl ⟨_, rfl, rfl⟩ | exact ⟨_, rfl, rfl⟩ | exact bor_sl rfl (by assumption))) ?_
      repeat' (first | refine d1 rfl rfl rfl rfl rfl ?_ | refine dBuild rfl rfl rfl rfl rfl rfl rfl ?_ | refine d0 rfl rfl rfl rfl ?_ | refine d0n rfl rfl rfl ?_ | refine dE rfl (eAlloc rfl rfl rfl rfl) rfl rfl rfl ?_ | refine dE rfl (eBox rfl rfl rfl rfl rfl) rfl rfl rfl ?_ | refine dE rfl (eSt rfl rfl rfl rfl rfl rfl rfl rfl rfl) rfl rfl rfl ?_ | refine dE rfl (eBs rfl rfl rfl rfl rfl rfl rfl rfl rfl) rfl rfl rfl ?_ | refine d2 rfl rfl rfl rfl rfl ?_ | refine ah_nil ?_ | refine dAr rfl rfl rfl rfl rfl rfl rfl rfl (by omega) (by omega) ?_ | ((fail_if_success refine dG (b := true) rfl rfl rfl ?_ ?_); (fail_if_success refine dG (b := false) rfl rfl rfl ?_ ?_); (refine dG rfl rfl rfl (fun hc => ?_) (fun hc => ?_)) <;> try simp at hc) | refine dC1 (product_ac _ _) rfl rfl rfl rfl rfl rfl rfl rfl (by decide) ?_)
      repeat' (first | refine p1 rfl rfl rfl rfl ?_ | refine al_end ?_ | refine awp_seq ?_ | refine awp_region ?_ | refine awp_block ?_ | refine awp_skip' ?_ | refine awp_ret' ?_ | refine awp_exit' ?_ | refine xt_sq_n ?_ | refine xt_bk_n ?_ | refine xt_sq_r ?_ | refine xt_bk_r ?_ | refine xt_sq_x ?_ | refine xt_bk_eq ?_ | refine xt_bk_ne rfl ?_ | refine p0 rfl rfl rfl ?_ | refine p0n rfl rfl ?_ | refine pAr rfl rfl rfl rfl rfl rfl rfl (by omega) (by omega) ?_ | refine pBuild rfl rfl rfl rfl rfl rfl ?_ | refine pE (eAlloc rfl rfl rfl rfl) rfl ?_ | refine pE (eBox rfl rfl rfl rfl rfl) rfl ?_ | refine pE (eSt rfl rfl rfl rfl rfl rfl rfl rfl rfl) rfl ?_ | refine pE (eBs rfl rfl rfl rfl rfl rfl rfl rfl rfl) rfl ?_ | refine awp_cond (b := true) rfl (fun _ => ?_) (fun h => Bool.noConfusion h) | refine awp_cond (b := false) rfl (fun h => Bool.noConfusion h) (fun _ => ?_) | ((fail_if_success refine pG (b := true) rfl rfl ?_ ?_); (fail_if_success refine pG (b := false) rfl rfl ?_ ?_); (refine pG rfl rfl (fun hc => ?_) (fun hc => ?_)) <;> try simp at hc) | ((refine awp_cond rfl (fun hc => ?_) (fun hc => ?_)) <;> try simp at hc))
      · have hh : hitB P S (dig e l + 1) k = true := by simp [*]
        refine lp_end (S.length - (k + 1)) (k + 1) [(0, 0)] (by omega) ?_ ⟨hk', rfl, hn1⟩
        simp only [hits, hh, if_true]
        exact ⟨rfl, rfl, rfl, by repeat (first | exact trivial | refine ⟨rfl, ?_⟩), by repeat (first | exact trivial | refine ⟨rfl, ?_⟩)⟩
      · have hh : hitB P S (dig e l + 1) k = false := by simp [*]
        refine lp_end (S.length - (k + 1)) (k + 1) [(0, 0)] (by omega) ?_ ⟨hk', rfl, hn1⟩
        simp only [hits, hh, Bool.false_eq_true, if_false]
        exact ⟨rfl, rfl, rfl, by repeat (first | exact trivial | refine ⟨rfl, ?_⟩), by repeat (first | exact trivial | refine ⟨rfl, ?_⟩)⟩
    · have hh : hitB P S (dig e l + 1) k = false := by simp [*]; omega
      repeat' (first | refine p1 rfl rfl rfl rfl ?_ | refine al_end ?_ | refine awp_seq ?_ | refine awp_region ?_ | refine awp_block ?_ | refine awp_skip' ?_ | refine awp_ret' ?_ | refine awp_exit' ?_ | refine xt_sq_n ?_ | refine xt_bk_n ?_ | refine xt_sq_r ?_ | refine xt_bk_r ?_ | refine xt_sq_x ?_ | refine xt_bk_eq ?_ | refine xt_bk_ne rfl ?_ | refine p0 rfl rfl rfl ?_ | refine p0n rfl rfl ?_ | refine pAr rfl rfl rfl rfl rfl rfl rfl (by omega) (by omega) ?_ | refine pBuild rfl rfl rfl rfl rfl rfl ?_ | refine pE (eAlloc rfl rfl rfl rfl) rfl ?_ | refine pE (eBox rfl rfl rfl rfl rfl) rfl ?_ | refine pE (eSt rfl rfl rfl rfl rfl rfl rfl rfl rfl) rfl ?_ | refine pE (eBs rfl rfl rfl rfl rfl rfl rfl rfl rfl) rfl ?_ | refine awp_cond (b := true) rfl (fun _ => ?_) (fun h => Bool.noConfusion h) | refine awp_cond (b := false) rfl (fun h => Bool.noConfusion h) (fun _ => ?_) | ((fail_if_success refine pG (b := true) rfl rfl ?_ ?_); (fail_if_success refine pG (b := false) rfl rfl ?_ ?_); (refine pG rfl rfl (fun hc => ?_) (fun hc => ?_)) <;> try simp at hc) | ((refine awp_cond rfl (fun hc => ?_) (fun hc => ?_)) <;> try simp at hc))
      refine lp_end (S.length - (k + 1)) (k + 1) [(0, 0)] (by omega) ?_ ⟨hk', rfl, hn1⟩
      simp only [hits, hh, Bool.false_eq_true, if_false]
      exact ⟨rfl, rfl, rfl, by repeat (first | exact trivial | refine ⟨rfl, ?_⟩), by repeat (first | exact trivial | refine ⟨rfl, ?_⟩)⟩
  · have hk' : k = S.length := by omega
    rw [hS3] at hk'
    subst hk'
    exact xt_fin (.inr rfl) rfl trivial ⟨rfl, by rw [ok_true hno]; simp; omega⟩
set_option maxHeartbeats 2000000 in
set_option maxRecDepth 100000 in
theorem specCheck_ac (tp tg ts : Nat) (P : List Int) (e : Int) (l : List En) (S : List Int) (hl : l.length ≤ 1048576) : AC Try.prog 44 [.h (.c (.rd (tp + 1) P.length (ints P))), dv tg e l, .h (.c (.rd (ts + 1) S.length (ints S)))] [] [0]
    (fun r h => h = [] ∧ r = .h (.c (.bool (chk P e l S)))) := by
  refine ac_body teok Try.func44 rfl (by kernel_rfl) Try.ntmps44 rfl rfl ?_
  intro w0 ps g0 im0
  have hdv := specDV_ac tg e l (by omega)
  repeat' (first | refine p1 rfl rfl rfl rfl ?_ | refine al_end ?_ | refine awp_seq ?_ | refine awp_region ?_ | refine awp_block ?_ | refine awp_skip' ?_ | refine awp_ret' ?_ | refine awp_exit' ?_ | refine xt_sq_n ?_ | refine xt_bk_n ?_ | refine xt_sq_r ?_ | refine xt_bk_r ?_ | refine xt_sq_x ?_ | refine xt_bk_eq ?_ | refine xt_bk_ne rfl ?_ | refine p0 rfl rfl rfl ?_ | refine p0n rfl rfl ?_ | refine pAr rfl rfl rfl rfl rfl rfl rfl (by omega) (by omega) ?_ | refine pBuild rfl rfl rfl rfl rfl rfl ?_ | refine pE (eAlloc rfl rfl rfl rfl) rfl ?_ | refine pE (eBox rfl rfl rfl rfl rfl) rfl ?_ | refine pE (eSt rfl rfl rfl rfl rfl rfl rfl rfl rfl) rfl ?_ | refine pE (eBs rfl rfl rfl rfl rfl rfl rfl rfl rfl) rfl ?_ | refine awp_cond (b := true) rfl (fun _ => ?_) (fun h => Bool.noConfusion h) | refine awp_cond (b := false) rfl (fun h => Bool.noConfusion h) (fun _ => ?_) | ((fail_if_success refine pG (b := true) rfl rfl ?_ ?_); (fail_if_success refine pG (b := false) rfl rfl ?_ ?_); (refine pG rfl rfl (fun hc => ?_) (fun hc => ?_)) <;> try simp at hc) | ((refine awp_cond rfl (fun hc => ?_) (fun hc => ?_)) <;> try simp at hc) | refine pC0 (hdv) rfl rfl rfl rfl rfl rfl rfl (by decide) ?_)
  · exact xt_fin (.inr rfl) rfl trivial ⟨rfl, by simp [chk, *]⟩
  · exact xt_fin (.inr rfl) rfl trivial ⟨rfl, by
      have : ¬ P.length = 3 := by omega
      simp [chk, *]⟩
  · exact xt_fin (.inr rfl) rfl trivial ⟨rfl, by
      have : ¬ S.length = 3 := by omega
      simp [chk, *]⟩
  have hv : dval e l = true := by assumption
  have hP3 : P.length = 3 := by omega
  have hS3 : S.length = 3 := by omega
  have hdb := dig_bd e l
  have hdig := l21Digest_ac tg e l hv
  have hchk : chk P e l S = ((List.range 3).all (okB P S) && decide (2 ≤ hits P S (dig e l + 1) 3)) := by simp [chk, hv, hP3, hS3]
  rw [hchk]
  refine awp_loopE (fun k : Nat => { fr := [(0, .h (.c (.rd (tp + 1) P.length (ints P)))), (2, .h (.c (.rd (ts + 1) S.length (ints S)))), (4, .h (.ptr 0 0)), (7, .h (.c (.int .i64 (hits P S (dig e l + 1) k)))), (8, .h (.c (.int .i64 k)))], hp := [(0, dbx tg e l)], nx := 1 })
    (fun n k => k ≤ 3 ∧ n = 3 - k ∧ ∀ j, j < k → okB P S j = true) 3 0 [(0, 0)] ⟨rfl, rfl, rfl, by repeat (first | exact trivial | refine ⟨rfl, ?_⟩), by repeat (first | exact trivial | refine ⟨rfl, ?_⟩)⟩ ⟨Nat.zero_le _, rfl, fun j h => by omega⟩ ?_
  rintro n k ⟨hk, rfl, hno⟩
  have hhl := hits_le P S (dig e l + 1) k
  repeat' (first | refine p1 rfl rfl rfl rfl ?_ | refine al_end ?_ | refine awp_seq ?_ | refine awp_region ?_ | refine awp_block ?_ | refine awp_skip' ?_ | refine awp_ret' ?_ | refine awp_exit' ?_ | refine xt_sq_n ?_ | refine xt_bk_n ?_ | refine xt_sq_r ?_ | refine xt_bk_r ?_ | refine xt_sq_x ?_ | refine xt_bk_eq ?_ | refine xt_bk_ne rfl ?_ | refine p0 rfl rfl rfl ?_ | refine p0n rfl rfl ?_ | refine pAr rfl rfl rfl rfl rfl rfl rfl (by omega) (by omega) ?_ | refine pBuild rfl rfl rfl rfl rfl rfl ?_ | refine pE (eAlloc rfl rfl rfl rfl) rfl ?_ | refine pE (eBox rfl rfl rfl rfl rfl) rfl ?_ | refine pE (eSt rfl rfl rfl rfl rfl rfl rfl rfl rfl) rfl ?_ | refine pE (eBs rfl rfl rfl rfl rfl rfl rfl rfl rfl) rfl ?_ | refine awp_cond (b := true) rfl (fun _ => ?_) (fun h => Bool.noConfusion h) | refine awp_cond (b := false) rfl (fun h => Bool.noConfusion h) (fun _ => ?_) | ((fail_if_success refine pG (b := true) rfl rfl ?_ ?_); (fail_if_success refine pG (b := false) rfl rfl ?_ ?_); (refine pG rfl rfl (fun hc => ?_) (fun hc => ?_)) <;> try simp at hc) | ((refine awp_cond rfl (fun hc => ?_) (fun hc => ?_)) <;> try simp at hc))
  · have hk3 : k < 3 := by omega
    have hk' : k < S.length := by omega
    have hkP : k < P.length := by omega
    have hob := okB_of hkP hk'
    have hib := hitB_of (D := dig e l + 1) hkP hk'
    refine pIxR (f := int1) k rfl rfl rfl rfl rfl rfl rfl rfl rfl (fun _ => rfl) rfl rfl hkP ?_
    repeat' (first | refine p1 rfl rfl rfl rfl ?_ | refine al_end ?_ | refine awp_seq ?_ | refine awp_region ?_ | refine awp_block ?_ | refine awp_skip' ?_ | refine awp_ret' ?_ | refine awp_exit' ?_ | refine xt_sq_n ?_ | refine xt_bk_n ?_ | refine xt_sq_r ?_ | refine xt_bk_r ?_ | refine xt_sq_x ?_ | refine xt_bk_eq ?_ | refine xt_bk_ne rfl ?_ | refine p0 rfl rfl rfl ?_ | refine p0n rfl rfl ?_ | refine pAr rfl rfl rfl rfl rfl rfl rfl (by omega) (by omega) ?_ | refine pBuild rfl rfl rfl rfl rfl rfl ?_ | refine pE (eAlloc rfl rfl rfl rfl) rfl ?_ | refine pE (eBox rfl rfl rfl rfl rfl) rfl ?_ | refine pE (eSt rfl rfl rfl rfl rfl rfl rfl rfl rfl) rfl ?_ | refine pE (eBs rfl rfl rfl rfl rfl rfl rfl rfl rfl) rfl ?_ | refine awp_cond (b := true) rfl (fun _ => ?_) (fun h => Bool.noConfusion h) | refine awp_cond (b := false) rfl (fun h => Bool.noConfusion h) (fun _ => ?_) | ((fail_if_success refine pG (b := true) rfl rfl ?_ ?_); (fail_if_success refine pG (b := false) rfl rfl ?_ ?_); (refine pG rfl rfl (fun hc => ?_) (fun hc => ?_)) <;> try simp at hc) | ((refine awp_cond rfl (fun hc => ?_) (fun hc => ?_)) <;> try simp at hc) | refine pC0 (l1Is_ac _) rfl rfl rfl rfl rfl rfl rfl (by decide) ?_)
    · exact xt_fin (.inr rfl) rfl trivial ⟨rfl, by rw [ok_false (by omega) (k := k) (by simp [*])]; rfl⟩
    refine pIxR (f := int1) k rfl rfl rfl rfl rfl rfl rfl rfl rfl (fun _ => rfl) rfl rfl hk' ?_
    repeat' (first | refine p1 rfl rfl rfl rfl ?_ | refine al_end ?_ | refine awp_seq ?_ | refine awp_region ?_ | refine awp_block ?_ | refine awp_skip' ?_ | refine awp_ret' ?_ | refine awp_exit' ?_ | refine xt_sq_n ?_ | refine xt_bk_n ?_ | refine xt_sq_r ?_ | refine xt_bk_r ?_ | refine xt_sq_x ?_ | refine xt_bk_eq ?_ | refine xt_bk_ne rfl ?_ | refine p0 rfl rfl rfl ?_ | refine p0n rfl rfl ?_ | refine pAr rfl rfl rfl rfl rfl rfl rfl (by omega) (by omega) ?_ | refine pBuild rfl rfl rfl rfl rfl rfl ?_ | refine pE (eAlloc rfl rfl rfl rfl) rfl ?_ | refine pE (eBox rfl rfl rfl rfl rfl) rfl ?_ | refine pE (eSt rfl rfl rfl rfl rfl rfl rfl rfl rfl) rfl ?_ | refine pE (eBs rfl rfl rfl rfl rfl rfl rfl rfl rfl) rfl ?_ | refine awp_cond (b := true) rfl (fun _ => ?_) (fun h => Bool.noConfusion h) | refine awp_cond (b := false) rfl (fun h => Bool.noConfusion h) (fun _ => ?_) | ((fail_if_success refine pG (b := true) rfl rfl ?_ ?_); (fail_if_success refine pG (b := false) rfl rfl ?_ ?_); (refine pG rfl rfl (fun hc => ?_) (fun hc => ?_)) <;> try simp at hc) | ((refine awp_cond rfl (fun hc => ?_) (fun hc => ?_)) <;> try simp at hc) | refine pC0 (l6In_ac _ _ _) rfl rfl rfl rfl rfl rfl rfl (by decide) ?_)
    · exact xt_fin (.inr rfl) rfl trivial ⟨rfl, by rw [ok_false (by omega) (k := k) (by simp [*])]; rfl⟩
    have hok : okB P S k = true := by simp [*]
    have hn1 := upTo hno hok
    have hep : elt P[k] = true := by assumption
    have hsb : inB S[k] 0 996 = true := by assumption
    have hep' := elt_iff.1 hep
    have hsb' := inB_iff.1 hsb
    have h5 : elt 5 = true := rfl
    have hD : elt (dig e l + 1) = true := elt_iff.2 (by omega)
    ((repeat (first | refine awp_seq ?_ | refine awp_block ?_ | refine awp_skip' ?_ | refine xt_sq_n ?_ | refine xt_bk_n ?_)); refine awp_draw (CT.cons (0, true) <| CT.cons (1, true) <| CT.cons (2, true) <| CT.cons (3, true) <| CT.cons (4, true) <| CT.cons (5, true) <| CT.cons (6, true) <| CT.cons (7, true) <| CT.cons (8, true) <| CT.cons (9, true) <| CT.cons (11, true) <| CT.cons (12, true) <| CT.cons (13, true) <| CT.cons (14, true) <| CT.cons (15, true) <| CT.cons (10, false) <| CT.cons (16, false) <| CT.cons (17, true) <| CT.cons (18, false) <| CT.cons (19, true) <| CT.cons (20, true) <| CT.nil) [] mixed (by kernel_rfl) (by kernel_rfl) rfl rfl ?_)
    repeat' (first | refine d1 rfl rfl rfl rfl rfl ?_ | refine dBuild rfl rfl rfl rfl rfl rfl rfl ?_ | refine d0 rfl rfl rfl rfl ?_ | refine d0n rfl rfl rfl ?_ | refine dE rfl (eAlloc rfl rfl rfl rfl) rfl rfl rfl ?_ | refine dE rfl (eBox rfl rfl rfl rfl rfl) rfl rfl rfl ?_ | refine dE rfl (eSt rfl rfl rfl rfl rfl rfl rfl rfl rfl) rfl rfl rfl ?_ | refine dE rfl (eBs rfl rfl rfl rfl rfl rfl rfl rfl rfl) rfl rfl rfl ?_ | refine d2 rfl rfl rfl rfl rfl ?_ | refine ah_nil ?_ | refine dAr rfl rfl rfl rfl rfl rfl rfl rfl (by omega) (by omega) ?_ | ((fail_if_success refine dG (b := true) rfl rfl rfl ?_ ?_); (fail_if_success refine dG (b := false) rfl rfl rfl ?_ ?_); (refine dG rfl rfl rfl (fun hc => ?_) (fun hc => ?_)) <;> try simp at hc))
    refine dIxR (f := int1) k rfl rfl rfl rfl rfl rfl rfl rfl rfl rfl (fun _ => rfl) rfl rfl hk' ?_
    repeat' (first | refine d1 rfl rfl rfl rfl rfl ?_ | refine dBuild rfl rfl rfl rfl rfl rfl rfl ?_ | refine d0 rfl rfl rfl rfl ?_ | refine d0n rfl rfl rfl ?_ | refine dE rfl (eAlloc rfl rfl rfl rfl) rfl rfl rfl ?_ | refine dE rfl (eBox rfl rfl rfl rfl rfl) rfl rfl rfl ?_ | refine dE rfl (eSt rfl rfl rfl rfl rfl rfl rfl rfl rfl) rfl rfl rfl ?_ | refine dE rfl (eBs rfl rfl rfl rfl rfl rfl rfl rfl rfl) rfl rfl rfl ?_ | refine d2 rfl rfl rfl rfl rfl ?_ | refine ah_nil ?_ | refine dAr rfl rfl rfl rfl rfl rfl rfl rfl (by omega) (by omega) ?_ | ((fail_if_success refine dG (b := true) rfl rfl rfl ?_ ?_); (fail_if_success refine dG (b := false) rfl rfl rfl ?_ ?_); (refine dG rfl rfl rfl (fun hc => ?_) (fun hc => ?_)) <;> try simp at hc))
    · refine dIxR (f := int1) k rfl rfl rfl rfl rfl rfl rfl rfl rfl rfl (fun _ => rfl) rfl rfl hk' ?_
      repeat' (first | refine d1 rfl rfl rfl rfl rfl ?_ | refine dBuild rfl rfl rfl rfl rfl rfl rfl ?_ | refine d0 rfl rfl rfl rfl ?_ | refine d0n rfl rfl rfl ?_ | refine dE rfl (eAlloc rfl rfl rfl rfl) rfl rfl rfl ?_ | refine dE rfl (eBox rfl rfl rfl rfl rfl) rfl rfl rfl ?_ | refine dE rfl (eSt rfl rfl rfl rfl rfl rfl rfl rfl rfl) rfl rfl rfl ?_ | refine dE rfl (eBs rfl rfl rfl rfl rfl rfl rfl rfl rfl) rfl rfl rfl ?_ | refine d2 rfl rfl rfl rfl rfl ?_ | refine ah_nil ?_ | refine dAr rfl rfl rfl rfl rfl rfl rfl rfl (by omega) (by omega) ?_ | ((fail_if_success refine dG (b := true) rfl rfl rfl ?_ ?_); (fail_if_success refine dG (b := false) rfl rfl rfl ?_ ?_); (refine dG rfl rfl rfl (fun hc => ?_) (fun hc => ?_)) <;> try simp at hc))
      refine dIxR (f := int1) k rfl rfl rfl rfl rfl rfl rfl rfl rfl rfl (fun _ => rfl) rfl rfl hkP ?_
      have ht1 := times_ac S[k] 5 (by omega) (by omega)
      have ht2 := times_ac P[k] (dig e l + 1) (by omega) (by omega)
      have hes : elt S[k] = true := elt_iff.2 (by omega)
      rw [← prd_of hes h5] at ht1
      rw [← prd_of hep hD] at ht2
      repeat' (first | refine d1 rfl rfl rfl rfl rfl ?_ | refine dBuild rfl rfl rfl rfl rfl rfl rfl ?_ | refine d0 rfl rfl rfl rfl ?_ | refine d0n rfl rfl rfl ?_ | refine dE rfl (eAlloc rfl rfl rfl rfl) rfl rfl rfl ?_ | refine dE rfl (eBox rfl rfl rfl rfl rfl) rfl rfl rfl ?_ | refine dE rfl (eSt rfl rfl rfl rfl rfl rfl rfl rfl rfl) rfl rfl rfl ?_ | refine dE rfl (eBs rfl rfl rfl rfl rfl rfl rfl rfl rfl) rfl rfl rfl ?_ | refine d2 rfl rfl rfl rfl rfl ?_ | refine ah_nil ?_ | refine dAr rfl rfl rfl rfl rfl rfl rfl rfl (by omega) (by omega) ?_ | ((fail_if_success refine dG (b := true) rfl rfl rfl ?_ ?_); (fail_if_success refine dG (b := false) rfl rfl rfl ?_ ?_); (refine dG rfl rfl rfl (fun hc => ?_) (fun hc => ?_)) <;> try simp at hc) | refine dC1 (ht1) rfl rfl rfl rfl rfl rfl rfl rfl (by decide) ?_)
      refine dCv (hdig) rfl rfl rfl (fun _ => rfl) rfl rfl rfl (by decide) (by repeat' (first | exact trivial | exact rfl | refine And.intro ?_ ?_ | exact Or.inl ⟨_, rfl, rfl⟩ | exact ⟨_, rfl, rfl⟩ | exact bor_sl rfl (by assumption))) ?_
      repeat' (first | refine d1 rfl rfl rfl rfl rfl ?_ | refine dBuild rfl rfl rfl rfl rfl rfl rfl ?_ | refine d0 rfl rfl rfl rfl ?_ | refine d0n rfl rfl rfl ?_ | refine dE rfl (eAlloc rfl rfl rfl rfl) rfl rfl rfl ?_ | refine dE rfl (eBox rfl rfl rfl rfl rfl) rfl rfl rfl ?_ | refine dE rfl (eSt rfl rfl rfl rfl rfl rfl rfl rfl rfl) rfl rfl rfl ?_ | refine dE rfl (eBs rfl rfl rfl rfl rfl rfl rfl rfl rfl) rfl rfl rfl ?_ | refine d2 rfl rfl rfl rfl rfl ?_ | refine ah_nil ?_ | refine dAr rfl rfl rfl rfl rfl rfl rfl rfl (by omega) (by omega) ?_ | ((fail_if_success refine dG (b := true) rfl rfl rfl ?_ ?_); (fail_if_success refine dG (b := false) rfl rfl rfl ?_ ?_); (refine dG rfl rfl rfl (fun hc => ?_) (fun hc => ?_)) <;> try simp at hc) | refine dC1 (ht2) rfl rfl rfl rfl rfl rfl rfl rfl (by decide) ?_)
      repeat' (first | refine p1 rfl rfl rfl rfl ?_ | refine al_end ?_ | refine awp_seq ?_ | refine awp_region ?_ | refine awp_block ?_ | refine awp_skip' ?_ | refine awp_ret' ?_ | refine awp_exit' ?_ | refine xt_sq_n ?_ | refine xt_bk_n ?_ | refine xt_sq_r ?_ | refine xt_bk_r ?_ | refine xt_sq_x ?_ | refine xt_bk_eq ?_ | refine xt_bk_ne rfl ?_ | refine p0 rfl rfl rfl ?_ | refine p0n rfl rfl ?_ | refine pAr rfl rfl rfl rfl rfl rfl rfl (by omega) (by omega) ?_ | refine pBuild rfl rfl rfl rfl rfl rfl ?_ | refine pE (eAlloc rfl rfl rfl rfl) rfl ?_ | refine pE (eBox rfl rfl rfl rfl rfl) rfl ?_ | refine pE (eSt rfl rfl rfl rfl rfl rfl rfl rfl rfl) rfl ?_ | refine pE (eBs rfl rfl rfl rfl rfl rfl rfl rfl rfl) rfl ?_ | refine awp_cond (b := true) rfl (fun _ => ?_) (fun h => Bool.noConfusion h) | refine awp_cond (b := false) rfl (fun h => Bool.noConfusion h) (fun _ => ?_) | ((fail_if_success refine pG (b := true) rfl rfl ?_ ?_); (fail_if_success refine pG (b := false) rfl rfl ?_ ?_); (refine pG rfl rfl (fun hc => ?_) (fun hc => ?_)) <;> try simp at hc) | ((refine awp_cond rfl (fun hc => ?_) (fun hc => ?_)) <;> try simp at hc))
      · have hh : hitB P S (dig e l + 1) k = true := by simp [*]
        refine lp_end (3 - (k + 1)) (k + 1) [(0, 0)] (by omega) ?_ ⟨hk3, rfl, hn1⟩
        simp only [hits, hh, if_true]
        exact ⟨rfl, rfl, rfl, by repeat (first | exact trivial | refine ⟨rfl, ?_⟩), by repeat (first | exact trivial | refine ⟨rfl, ?_⟩)⟩
      · have hh : hitB P S (dig e l + 1) k = false := by simp [*]
        refine lp_end (3 - (k + 1)) (k + 1) [(0, 0)] (by omega) ?_ ⟨hk3, rfl, hn1⟩
        simp only [hits, hh, Bool.false_eq_true, if_false]
        exact ⟨rfl, rfl, rfl, by repeat (first | exact trivial | refine ⟨rfl, ?_⟩), by repeat (first | exact trivial | refine ⟨rfl, ?_⟩)⟩
    · have hh : hitB P S (dig e l + 1) k = false := by simp [*]; omega
      repeat' (first | refine p1 rfl rfl rfl rfl ?_ | refine al_end ?_ | refine awp_seq ?_ | refine awp_region ?_ | refine awp_block ?_ | refine awp_skip' ?_ | refine awp_ret' ?_ | refine awp_exit' ?_ | refine xt_sq_n ?_ | refine xt_bk_n ?_ | refine xt_sq_r ?_ | refine xt_bk_r ?_ | refine xt_sq_x ?_ | refine xt_bk_eq ?_ | refine xt_bk_ne rfl ?_ | refine p0 rfl rfl rfl ?_ | refine p0n rfl rfl ?_ | refine pAr rfl rfl rfl rfl rfl rfl rfl (by omega) (by omega) ?_ | refine pBuild rfl rfl rfl rfl rfl rfl ?_ | refine pE (eAlloc rfl rfl rfl rfl) rfl ?_ | refine pE (eBox rfl rfl rfl rfl rfl) rfl ?_ | refine pE (eSt rfl rfl rfl rfl rfl rfl rfl rfl rfl) rfl ?_ | refine pE (eBs rfl rfl rfl rfl rfl rfl rfl rfl rfl) rfl ?_ | refine awp_cond (b := true) rfl (fun _ => ?_) (fun h => Bool.noConfusion h) | refine awp_cond (b := false) rfl (fun h => Bool.noConfusion h) (fun _ => ?_) | ((fail_if_success refine pG (b := true) rfl rfl ?_ ?_); (fail_if_success refine pG (b := false) rfl rfl ?_ ?_); (refine pG rfl rfl (fun hc => ?_) (fun hc => ?_)) <;> try simp at hc) | ((refine awp_cond rfl (fun hc => ?_) (fun hc => ?_)) <;> try simp at hc))
      refine lp_end (3 - (k + 1)) (k + 1) [(0, 0)] (by omega) ?_ ⟨hk3, rfl, hn1⟩
      simp only [hits, hh, Bool.false_eq_true, if_false]
      exact ⟨rfl, rfl, rfl, by repeat (first | exact trivial | refine ⟨rfl, ?_⟩), by repeat (first | exact trivial | refine ⟨rfl, ?_⟩)⟩
  · have hk' : k = 3 := by omega
    subst hk'
    exact xt_fin (.inr rfl) rfl trivial ⟨rfl, by rw [ok_true hno]; simp; omega⟩
end Go.Proofs.Ytobendpgedlaeaa
