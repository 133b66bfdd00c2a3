import Derived.Test.YtlgfdjmnedfjfaaL2
namespace Go.Proofs.Ytlgfdjmnedfjfaa
open Go.RowKit
attribute [local irreducible] AWP AL XT AC ES PS AH
def lcOk (x : LC) : Bool := inB x.f 0 7 && inB x.t 0 7 && !decide (x.f = x.t) && inB x.s 1 99 && inB x.b 0 x.s
def lvAt (l : List LC) (j : Nat) : Bool := match l[j]? with
  | some x => lcOk x && (j == 0 || match l[j - 1]? with | some y => lcLess y x | none => true)
  | none => true
def lv (l : List LC) : Bool := (List.range l.length).all (lvAt l)
theorem lv_false {l : List LC} {k : Nat} (hk : k < l.length) (h : lvAt l k = false) : lv l = false := by
  unfold lv
  rw [List.all_eq_false]
  exact ⟨k, by simpa using hk, by simp [h]⟩
theorem lv_true {l : List LC} (h : ∀ j, j < l.length → lvAt l j = true) : lv l = true := by
  unfold lv
  rw [List.all_eq_true]
  intro j hj
  exact h j (by simpa using hj)
theorem lvAt_pos {l : List LC} {k : Nat} (hk : k < l.length) (h : 0 < k) : lvAt l k = (lcOk l[k] && lcLess (l[k - 1]'(by omega)) l[k]) := by
  have h0 : (k == 0) = false := by simp; omega
  simp [lvAt, hk, h0, List.getElem?_eq_getElem (show k - 1 < l.length by omega)]
theorem lvAt_zero {l : List LC} (hk : 0 < l.length) : lvAt l 0 = lcOk l[0] := by
  simp [lvAt, hk]
theorem lvAt_bad {l : List LC} {k : Nat} (hk : k < l.length) (h : lcOk l[k] = false) : lvAt l k = false := by
  simp [lvAt, hk, h]
theorem lvAt_of {l : List LC} {k : Nat} (hk : k < l.length) (h1 : lcOk l[k] = true) (h2 : 0 < k → lcLess (l[k - 1]'(by omega)) l[k] = true) : lvAt l k = true := by
  rcases Nat.eq_zero_or_pos k with h | h
  · subst h; rw [lvAt_zero hk, h1]
  · rw [lvAt_pos hk h, h1, h2 h]; rfl
set_option maxHeartbeats 1000000 in
set_option maxRecDepth 100000 in
theorem specLV_ac2 (tg : Nat) (l : List LC) (hl : l.length ≤ 2097152) : AC Try.prog 19 [.h (.c (.rd (tg + 1) l.length (lcs l)))] [] [0]
    (fun r h => h = [] ∧ r = .h (.c (.bool (lv l)))) := by
  refine ac_body teok Try.func19 rfl (by kernel_rfl) Try.ntmps19 rfl rfl ?_
  intro w0 ps g0 im0
  repeat (first | refine p1 rfl rfl rfl rfl ?_ | refine al_end ?_ | refine awp_seq ?_ | refine awp_region ?_ | refine awp_block ?_ | refine awp_skip' ?_ | refine awp_ret' ?_ | refine awp_exit' ?_ | refine xt_sq_n ?_ | refine xt_bk_n ?_ | refine xt_sq_r ?_ | refine xt_bk_r ?_ | refine xt_sq_x ?_ | refine xt_bk_eq ?_ | refine xt_bk_ne rfl ?_ | refine p0 rfl rfl rfl ?_ | refine p0n rfl rfl ?_ | refine pAr rfl rfl rfl rfl rfl rfl rfl (by omega) (by omega) ?_ | refine pBuild rfl rfl rfl rfl rfl rfl ?_ | refine pE (eAlloc rfl rfl rfl rfl) rfl ?_ | refine pE (eBox rfl rfl rfl rfl rfl) rfl ?_ | refine pE (eSt rfl rfl rfl rfl rfl rfl rfl rfl rfl) rfl ?_ | refine pE (eBs rfl rfl rfl rfl rfl rfl rfl rfl rfl) rfl ?_)
  refine awp_le [] (s' := { fr := [(0, .h (.c (.rd (tg + 1) l.length (lcs l)))), (3, .h (.c (.int .i64 (0 : Nat))))], hp := [], nx := 0 }) ⟨rfl, rfl, rfl, by repeat (first | exact trivial | refine ⟨rfl, ?_⟩), by repeat (first | exact trivial | refine ⟨rfl, ?_⟩)⟩ ?_
  refine awp_loop (fun n s => ∃ k : Nat, k ≤ l.length ∧ n = l.length - k ∧ (∀ j, j < k → lvAt l j = true) ∧ s = { fr := [(0, .h (.c (.rd (tg + 1) l.length (lcs l)))), (3, .h (.c (.int .i64 k)))], hp := [], nx := 0 }) l.length
    ⟨0, Nat.zero_le _, rfl, fun j h => absurd h (by omega), rfl⟩ ?_
  rintro n s ⟨k, hk, rfl, hno, rfl⟩
  repeat (first | refine p1 rfl rfl rfl rfl ?_ | refine al_end ?_ | refine awp_seq ?_ | refine awp_region ?_ | refine awp_block ?_ | refine awp_skip' ?_ | refine awp_ret' ?_ | refine awp_exit' ?_ | refine xt_sq_n ?_ | refine xt_bk_n ?_ | refine xt_sq_r ?_ | refine xt_bk_r ?_ | refine xt_sq_x ?_ | refine xt_bk_eq ?_ | refine xt_bk_ne rfl ?_ | refine p0 rfl rfl rfl ?_ | refine p0n rfl rfl ?_ | refine pAr rfl rfl rfl rfl rfl rfl rfl (by omega) (by omega) ?_ | refine pBuild rfl rfl rfl rfl rfl rfl ?_ | refine pE (eAlloc rfl rfl rfl rfl) rfl ?_ | refine pE (eBox rfl rfl rfl rfl rfl) rfl ?_ | refine pE (eSt rfl rfl rfl rfl rfl rfl rfl rfl rfl) rfl ?_ | refine pE (eBs rfl rfl rfl rfl rfl rfl rfl rfl rfl) rfl ?_)
  refine awp_cond rfl (fun hc => ?_) (fun hc => ?_)
  · repeat (first | refine p1 rfl rfl rfl rfl ?_ | refine al_end ?_ | refine awp_seq ?_ | refine awp_region ?_ | refine awp_block ?_ | refine awp_skip' ?_ | refine awp_ret' ?_ | refine awp_exit' ?_ | refine xt_sq_n ?_ | refine xt_bk_n ?_ | refine xt_sq_r ?_ | refine xt_bk_r ?_ | refine xt_sq_x ?_ | refine xt_bk_eq ?_ | refine xt_bk_ne rfl ?_ | refine p0 rfl rfl rfl ?_ | refine p0n rfl rfl ?_ | refine pAr rfl rfl rfl rfl rfl rfl rfl (by omega) (by omega) ?_ | refine pBuild rfl rfl rfl rfl rfl rfl ?_ | refine pE (eAlloc rfl rfl rfl rfl) rfl ?_ | refine pE (eBox rfl rfl rfl rfl rfl) rfl ?_ | refine pE (eSt rfl rfl rfl rfl rfl rfl rfl rfl rfl) rfl ?_ | refine pE (eBs rfl rfl rfl rfl rfl rfl rfl rfl rfl) rfl ?_)
    have hk' : k < l.length := by simpa using hc
    refine pIx k rfl rfl rfl rfl rfl rfl rfl rfl rfl hk' (lcs_at hk') ?_
    repeat (first | refine p1 rfl rfl rfl rfl ?_ | refine al_end ?_ | refine awp_seq ?_ | refine awp_region ?_ | refine awp_block ?_ | refine awp_skip' ?_ | refine awp_ret' ?_ | refine awp_exit' ?_ | refine xt_sq_n ?_ | refine xt_bk_n ?_ | refine xt_sq_r ?_ | refine xt_bk_r ?_ | refine xt_sq_x ?_ | refine xt_bk_eq ?_ | refine xt_bk_ne rfl ?_ | refine p0 rfl rfl rfl ?_ | refine p0n rfl rfl ?_ | refine pAr rfl rfl rfl rfl rfl rfl rfl (by omega) (by omega) ?_ | refine pBuild rfl rfl rfl rfl rfl rfl ?_ | refine pE (eAlloc rfl rfl rfl rfl) rfl ?_ | refine pE (eBox rfl rfl rfl rfl rfl) rfl ?_ | refine pE (eSt rfl rfl rfl rfl rfl rfl rfl rfl rfl) rfl ?_ | refine pE (eBs rfl rfl rfl rfl rfl rfl rfl rfl rfl) rfl ?_)
    refine awp_le [(0, 0)] (s' := { fr := [(4, .h (.ptr 0 0)), (0, .h (.c (.rd (tg + 1) l.length (lcs l)))), (3, .h (.c (.int .i64 k)))], hp := [(0, .box 40 [.c (.int .i64 l[k].f), .c (.int .i64 l[k].t), .c (.int .i64 l[k].s), .c (.int .i64 l[k].b)])], nx := 1 }) ⟨rfl, rfl, rfl, by repeat (first | exact trivial | refine ⟨rfl, ?_⟩), by repeat (first | exact trivial | refine ⟨rfl, ?_⟩)⟩ ?_
    refine awp_cut (fun s => ∃ b : Bool, b = !lvAt l k ∧ s = { fr := [(59, .h (.c (.bool b))), (0, .h (.c (.rd (tg + 1) l.length (lcs l)))), (3, .h (.c (.int .i64 k)))], hp := [], nx := 0 }) ?_ ?_
    · refine awp_draw (CT.cons (0, true) <| CT.cons (1, true) <| CT.cons (2, false) <| CT.cons (3, true) <| CT.cons (4, true) <| CT.cons (5, true) <| CT.cons (6, true) <| CT.cons (7, false) <| CT.cons (8, true) <| CT.cons (9, true) <| CT.cons (10, true) <| CT.cons (11, true) <| CT.cons (12, true) <| CT.cons (13, true) <| CT.cons (14, true) <| CT.cons (15, true) <| CT.cons (16, true) <| CT.cons (17, true) <| CT.cons (18, true) <| CT.cons (19, true) <| CT.cons (20, false) <| CT.cons (21, true) <| CT.cons (22, true) <| CT.cons (23, true) <| CT.cons (24, true) <| CT.cons (25, true) <| CT.cons (26, true) <| CT.cons (27, true) <| CT.cons (28, false) <| CT.cons (29, true) <| CT.cons (30, true) <| CT.cons (31, true) <| CT.cons (32, true) <| CT.cons (33, true) <| CT.cons (34, true) <| CT.cons (35, true) <| CT.cons (36, true) <| CT.cons (37, true) <| CT.cons (38, true) <| CT.cons (39, true) <| CT.cons (40, true) <| CT.cons (41, false) <| CT.cons (42, true) <| CT.cons (43, true) <| CT.cons (44, true) <| CT.nil) [] mixed (by kernel_rfl) (by kernel_rfl) rfl rfl ?_
      repeat' (first | refine d1 rfl rfl rfl rfl rfl ?_ | refine dBuild rfl rfl rfl rfl rfl rfl rfl ?_ | refine d0 rfl rfl rfl rfl ?_ | refine d0n rfl rfl rfl ?_ | refine dE rfl (eAlloc rfl rfl rfl rfl) rfl rfl rfl ?_ | refine dE rfl (eBox rfl rfl rfl rfl rfl) rfl rfl rfl ?_ | refine dE rfl (eSt rfl rfl rfl rfl rfl rfl rfl rfl rfl) rfl rfl rfl ?_ | refine dE rfl (eBs rfl rfl rfl rfl rfl rfl rfl rfl rfl) rfl rfl rfl ?_ | refine d2 rfl rfl rfl rfl rfl ?_ | refine ah_nil ?_ | refine dAr rfl rfl rfl rfl rfl rfl rfl rfl (by omega) (by omega) ?_ | ((fail_if_success refine dG (b := true) rfl rfl rfl ?_ ?_); (fail_if_success refine dG (b := false) rfl rfl rfl ?_ ?_); (refine dG rfl rfl rfl (fun hc => ?_) (fun hc => ?_)) <;> try simp at hc) | refine dC1 (l6In_ac _ _ _) rfl rfl rfl rfl rfl rfl rfl rfl (by decide) ?_ | refine dC1 (l12Less_ac _ _) rfl rfl rfl rfl rfl rfl rfl rfl (by decide) ?_)
      all_goals try (refine dIx (k - 1) rfl rfl rfl rfl rfl rfl rfl rfl rfl (by omega) (by omega) (lcs_at (show k - 1 < l.length by omega)) ?_)
      repeat' (first | refine d1 rfl rfl rfl rfl rfl ?_ | refine dBuild rfl rfl rfl rfl rfl rfl rfl ?_ | refine d0 rfl rfl rfl rfl ?_ | refine d0n rfl rfl rfl ?_ | refine dE rfl (eAlloc rfl rfl rfl rfl) rfl rfl rfl ?_ | refine dE rfl (eBox rfl rfl rfl rfl rfl) rfl rfl rfl ?_ | refine dE rfl (eSt rfl rfl rfl rfl rfl rfl rfl rfl rfl) rfl rfl rfl ?_ | refine dE rfl (eBs rfl rfl rfl rfl rfl rfl rfl rfl rfl) rfl rfl rfl ?_ | refine d2 rfl rfl rfl rfl rfl ?_ | refine ah_nil ?_ | refine dAr rfl rfl rfl rfl rfl rfl rfl rfl (by omega) (by omega) ?_ | ((fail_if_success refine dG (b := true) rfl rfl rfl ?_ ?_); (fail_if_success refine dG (b := false) rfl rfl rfl ?_ ?_); (refine dG rfl rfl rfl (fun hc => ?_) (fun hc => ?_)) <;> try simp at hc) | refine dC1 (l6In_ac _ _ _) rfl rfl rfl rfl rfl rfl rfl rfl (by decide) ?_ | refine dC1 (l12Less_ac _ _) rfl rfl rfl rfl rfl rfl rfl rfl (by decide) ?_)
      all_goals (refine xt_cutE _ [] ⟨rfl, rfl, rfl, by repeat (first | exact trivial | refine ⟨rfl, ?_⟩), by repeat (first | exact trivial | refine ⟨rfl, ?_⟩)⟩ ?_)
      all_goals first
        | (rw [lvAt_bad hk' (by simp [lcOk, *])]; rfl)
        | (rw [lvAt_pos hk' (by omega), show lcOk l[k] = true by simp [lcOk, *]]; rfl)
        | (rw [lvAt_of hk' (by subst hc; simp [lcOk, *]) (fun h => by omega)]; rfl)
    rintro _ ⟨b, hb, rfl⟩
    refine awp_cond rfl (fun hc => ?_) (fun hc => ?_)
    · repeat (first | refine p1 rfl rfl rfl rfl ?_ | refine al_end ?_ | refine awp_seq ?_ | refine awp_region ?_ | refine awp_block ?_ | refine awp_skip' ?_ | refine awp_ret' ?_ | refine awp_exit' ?_ | refine xt_sq_n ?_ | refine xt_bk_n ?_ | refine xt_sq_r ?_ | refine xt_bk_r ?_ | refine xt_sq_x ?_ | refine xt_bk_eq ?_ | refine xt_bk_ne rfl ?_ | refine p0 rfl rfl rfl ?_ | refine p0n rfl rfl ?_ | refine pAr rfl rfl rfl rfl rfl rfl rfl (by omega) (by omega) ?_ | refine pBuild rfl rfl rfl rfl rfl rfl ?_ | refine pE (eAlloc rfl rfl rfl rfl) rfl ?_ | refine pE (eBox rfl rfl rfl rfl rfl) rfl ?_ | refine pE (eSt rfl rfl rfl rfl rfl rfl rfl rfl rfl) rfl ?_ | refine pE (eBs rfl rfl rfl rfl rfl rfl rfl rfl rfl) rfl ?_)
      refine xt_fin (.inr rfl) rfl trivial ⟨rfl, ?_⟩
      rw [lv_false hk' (by simpa [hb] using hc)]
    · repeat (first | refine p1 rfl rfl rfl rfl ?_ | refine al_end ?_ | refine awp_seq ?_ | refine awp_region ?_ | refine awp_block ?_ | refine awp_skip' ?_ | refine awp_ret' ?_ | refine awp_exit' ?_ | refine xt_sq_n ?_ | refine xt_bk_n ?_ | refine xt_sq_r ?_ | refine xt_bk_r ?_ | refine xt_sq_x ?_ | refine xt_bk_eq ?_ | refine xt_bk_ne rfl ?_ | refine p0 rfl rfl rfl ?_ | refine p0n rfl rfl ?_ | refine pAr rfl rfl rfl rfl rfl rfl rfl (by omega) (by omega) ?_ | refine pBuild rfl rfl rfl rfl rfl rfl ?_ | refine pE (eAlloc rfl rfl rfl rfl) rfl ?_ | refine pE (eBox rfl rfl rfl rfl rfl) rfl ?_ | refine pE (eSt rfl rfl rfl rfl rfl rfl rfl rfl rfl) rfl ?_ | refine pE (eBs rfl rfl rfl rfl rfl rfl rfl rfl rfl) rfl ?_)
      refine ⟨l.length - (k + 1), [], _, by omega, ⟨rfl, rfl, rfl, by repeat (first | exact trivial | refine ⟨rfl, ?_⟩), by repeat (first | exact trivial | refine ⟨rfl, ?_⟩)⟩, k + 1, hk', rfl, ?_, rfl⟩
      exact upTo hno (by simpa [hb] using hc)
  · repeat (first | refine p1 rfl rfl rfl rfl ?_ | refine al_end ?_ | refine awp_seq ?_ | refine awp_region ?_ | refine awp_block ?_ | refine awp_skip' ?_ | refine awp_ret' ?_ | refine awp_exit' ?_ | refine xt_sq_n ?_ | refine xt_bk_n ?_ | refine xt_sq_r ?_ | refine xt_bk_r ?_ | refine xt_sq_x ?_ | refine xt_bk_eq ?_ | refine xt_bk_ne rfl ?_ | refine p0 rfl rfl rfl ?_ | refine p0n rfl rfl ?_ | refine pAr rfl rfl rfl rfl rfl rfl rfl (by omega) (by omega) ?_ | refine pBuild rfl rfl rfl rfl rfl rfl ?_ | refine pE (eAlloc rfl rfl rfl rfl) rfl ?_ | refine pE (eBox rfl rfl rfl rfl rfl) rfl ?_ | refine pE (eSt rfl rfl rfl rfl rfl rfl rfl rfl rfl) rfl ?_ | refine pE (eBs rfl rfl rfl rfl rfl rfl rfl rfl rfl) rfl ?_)
    refine xt_fin (.inr rfl) rfl trivial ⟨rfl, ?_⟩
    have hk' : k = l.length := by have : ¬ k < l.length := by simpa using hc
                                  omega
    rw [lv_true fun j hj => hno j (by omega)]
theorem specLV_ac (tg : Nat) (l : List LC) (hl : l.length ≤ 1048576) : AC Try.prog 19 [.h (.c (.rd (tg + 1) l.length (lcs l)))] [] [0]
    (fun r h => h = [] ∧ r = .h (.c (.bool (lv l)))) := specLV_ac2 tg l (by omega)
end Go.Proofs.Ytlgfdjmnedfjfaa
