import Derived.Test.YtobendpgedlaeaaD2
namespace Go.Proofs.Ytobendpgedlaeaa
open Go.RowKit
attribute [local irreducible] AWP AL XT AC ES PS AH AH2 LpQ
set_option maxRecDepth 100000 in
theorem l1Has_ac (t : Nat) (l : List Int) (n : Int) (hl : l.length ≤ 1099511627776) : AC Try.prog 79 [.h (.c (.rd t l.length (ints l))), .h (.c (.int .i64 n))] [] [0]
    (fun r h => h = [] ∧ r = .h (.c (.bool (decide (n ∈ l))))) := by
  refine ac_body teok Try.func79 rfl (by kernel_rfl) Try.ntmps79 rfl rfl ?_
  intro w0 ps g0 im0
  repeat (first | refine p1 rfl rfl rfl rfl ?_ | refine al_end ?_ | refine awp_seq ?_ | refine awp_region ?_ | refine awp_block ?_ | refine awp_skip' ?_ | refine awp_ret' ?_ | refine awp_exit' ?_ | refine xt_sq_n ?_ | refine xt_bk_n ?_ | refine xt_sq_r ?_ | refine xt_bk_r ?_ | refine xt_sq_x ?_ | refine xt_bk_eq ?_ | refine xt_bk_ne rfl ?_ | refine p0 rfl rfl rfl ?_ | refine p0n rfl rfl ?_ | refine pAr rfl rfl rfl rfl rfl rfl rfl (by omega) (by omega) ?_ | refine pBuild rfl rfl rfl rfl rfl rfl ?_ | refine pE (eAlloc rfl rfl rfl rfl) rfl ?_ | refine pE (eBox rfl rfl rfl rfl rfl) rfl ?_ | refine pE (eSt rfl rfl rfl rfl rfl rfl rfl rfl rfl) rfl ?_ | refine pE (eBs rfl rfl rfl rfl rfl rfl rfl rfl rfl) rfl ?_)
  refine awp_le [] (s' := { fr := [(0, .h (.c (.rd t l.length (ints l)))), (1, .h (.c (.int .i64 n))), (5, .h (.c (.int .i64 (0 : Nat))))], hp := [], nx := 0 }) ⟨rfl, rfl, rfl, by repeat (first | exact trivial | refine ⟨rfl, ?_⟩), by repeat (first | exact trivial | refine ⟨rfl, ?_⟩)⟩ ?_
  refine awp_loop (fun m s => ∃ k : Nat, k ≤ l.length ∧ m = l.length - k ∧ (∀ j, (h : j < k) → (h' : j < l.length) → l[j] ≠ n) ∧ s = { fr := [(0, .h (.c (.rd t l.length (ints l)))), (1, .h (.c (.int .i64 n))), (5, .h (.c (.int .i64 k)))], hp := [], nx := 0 }) l.length
    ⟨0, Nat.zero_le _, rfl, fun j h => absurd h (by omega), rfl⟩ ?_
  rintro m s ⟨k, hk, rfl, hno, rfl⟩
  repeat (first | refine p1 rfl rfl rfl rfl ?_ | refine al_end ?_ | refine awp_seq ?_ | refine awp_region ?_ | refine awp_block ?_ | refine awp_skip' ?_ | refine awp_ret' ?_ | refine awp_exit' ?_ | refine xt_sq_n ?_ | refine xt_bk_n ?_ | refine xt_sq_r ?_ | refine xt_bk_r ?_ | refine xt_sq_x ?_ | refine xt_bk_eq ?_ | refine xt_bk_ne rfl ?_ | refine p0 rfl rfl rfl ?_ | refine p0n rfl rfl ?_ | refine pAr rfl rfl rfl rfl rfl rfl rfl (by omega) (by omega) ?_ | refine pBuild rfl rfl rfl rfl rfl rfl ?_ | refine pE (eAlloc rfl rfl rfl rfl) rfl ?_ | refine pE (eBox rfl rfl rfl rfl rfl) rfl ?_ | refine pE (eSt rfl rfl rfl rfl rfl rfl rfl rfl rfl) rfl ?_ | refine pE (eBs rfl rfl rfl rfl rfl rfl rfl rfl rfl) rfl ?_)
  refine awp_cond rfl (fun hc => ?_) (fun hc => ?_)
  · repeat (first | refine p1 rfl rfl rfl rfl ?_ | refine al_end ?_ | refine awp_seq ?_ | refine awp_region ?_ | refine awp_block ?_ | refine awp_skip' ?_ | refine awp_ret' ?_ | refine awp_exit' ?_ | refine xt_sq_n ?_ | refine xt_bk_n ?_ | refine xt_sq_r ?_ | refine xt_bk_r ?_ | refine xt_sq_x ?_ | refine xt_bk_eq ?_ | refine xt_bk_ne rfl ?_ | refine p0 rfl rfl rfl ?_ | refine p0n rfl rfl ?_ | refine pAr rfl rfl rfl rfl rfl rfl rfl (by omega) (by omega) ?_ | refine pBuild rfl rfl rfl rfl rfl rfl ?_ | refine pE (eAlloc rfl rfl rfl rfl) rfl ?_ | refine pE (eBox rfl rfl rfl rfl rfl) rfl ?_ | refine pE (eSt rfl rfl rfl rfl rfl rfl rfl rfl rfl) rfl ?_ | refine pE (eBs rfl rfl rfl rfl rfl rfl rfl rfl rfl) rfl ?_)
    have hk' : k < l.length := by simpa using hc
    refine pIx k rfl rfl rfl rfl rfl rfl rfl rfl rfl hk' (ints_drop hk') ?_
    repeat (first | refine p1 rfl rfl rfl rfl ?_ | refine al_end ?_ | refine awp_seq ?_ | refine awp_region ?_ | refine awp_block ?_ | refine awp_skip' ?_ | refine awp_ret' ?_ | refine awp_exit' ?_ | refine xt_sq_n ?_ | refine xt_bk_n ?_ | refine xt_sq_r ?_ | refine xt_bk_r ?_ | refine xt_sq_x ?_ | refine xt_bk_eq ?_ | refine xt_bk_ne rfl ?_ | refine p0 rfl rfl rfl ?_ | refine p0n rfl rfl ?_ | refine pAr rfl rfl rfl rfl rfl rfl rfl (by omega) (by omega) ?_ | refine pBuild rfl rfl rfl rfl rfl rfl ?_ | refine pE (eAlloc rfl rfl rfl rfl) rfl ?_ | refine pE (eBox rfl rfl rfl rfl rfl) rfl ?_ | refine pE (eSt rfl rfl rfl rfl rfl rfl rfl rfl rfl) rfl ?_ | refine pE (eBs rfl rfl rfl rfl rfl rfl rfl rfl rfl) rfl ?_)
    refine awp_cond rfl (fun hc => ?_) (fun hc => ?_)
    · repeat (first | refine p1 rfl rfl rfl rfl ?_ | refine al_end ?_ | refine awp_seq ?_ | refine awp_region ?_ | refine awp_block ?_ | refine awp_skip' ?_ | refine awp_ret' ?_ | refine awp_exit' ?_ | refine xt_sq_n ?_ | refine xt_bk_n ?_ | refine xt_sq_r ?_ | refine xt_bk_r ?_ | refine xt_sq_x ?_ | refine xt_bk_eq ?_ | refine xt_bk_ne rfl ?_ | refine p0 rfl rfl rfl ?_ | refine p0n rfl rfl ?_ | refine pAr rfl rfl rfl rfl rfl rfl rfl (by omega) (by omega) ?_ | refine pBuild rfl rfl rfl rfl rfl rfl ?_ | refine pE (eAlloc rfl rfl rfl rfl) rfl ?_ | refine pE (eBox rfl rfl rfl rfl rfl) rfl ?_ | refine pE (eSt rfl rfl rfl rfl rfl rfl rfl rfl rfl) rfl ?_ | refine pE (eBs rfl rfl rfl rfl rfl rfl rfl rfl rfl) rfl ?_)
      refine xt_fin (.inr rfl) rfl trivial ⟨rfl, ?_⟩
      have : n ∈ l := by
        have : l[k] = n := by simpa using hc
        rw [← this]; exact List.getElem_mem _
      simp [this]
    · repeat (first | refine p1 rfl rfl rfl rfl ?_ | refine al_end ?_ | refine awp_seq ?_ | refine awp_region ?_ | refine awp_block ?_ | refine awp_skip' ?_ | refine awp_ret' ?_ | refine awp_exit' ?_ | refine xt_sq_n ?_ | refine xt_bk_n ?_ | refine xt_sq_r ?_ | refine xt_bk_r ?_ | refine xt_sq_x ?_ | refine xt_bk_eq ?_ | refine xt_bk_ne rfl ?_ | refine p0 rfl rfl rfl ?_ | refine p0n rfl rfl ?_ | refine pAr rfl rfl rfl rfl rfl rfl rfl (by omega) (by omega) ?_ | refine pBuild rfl rfl rfl rfl rfl rfl ?_ | refine pE (eAlloc rfl rfl rfl rfl) rfl ?_ | refine pE (eBox rfl rfl rfl rfl rfl) rfl ?_ | refine pE (eSt rfl rfl rfl rfl rfl rfl rfl rfl rfl) rfl ?_ | refine pE (eBs rfl rfl rfl rfl rfl rfl rfl rfl rfl) rfl ?_)
      refine ⟨l.length - (k + 1), [], _, by omega, ⟨rfl, rfl, rfl, by repeat (first | exact trivial | refine ⟨rfl, ?_⟩), by repeat (first | exact trivial | refine ⟨rfl, ?_⟩)⟩, k + 1, hk', rfl, ?_, rfl⟩
      intro j h h'
      by_cases hj : j = k
      · subst hj; simpa using hc
      · exact hno j (by omega) h'
  · repeat (first | refine p1 rfl rfl rfl rfl ?_ | refine al_end ?_ | refine awp_seq ?_ | refine awp_region ?_ | refine awp_block ?_ | refine awp_skip' ?_ | refine awp_ret' ?_ | refine awp_exit' ?_ | refine xt_sq_n ?_ | refine xt_bk_n ?_ | refine xt_sq_r ?_ | refine xt_bk_r ?_ | refine xt_sq_x ?_ | refine xt_bk_eq ?_ | refine xt_bk_ne rfl ?_ | refine p0 rfl rfl rfl ?_ | refine p0n rfl rfl ?_ | refine pAr rfl rfl rfl rfl rfl rfl rfl (by omega) (by omega) ?_ | refine pBuild rfl rfl rfl rfl rfl rfl ?_ | refine pE (eAlloc rfl rfl rfl rfl) rfl ?_ | refine pE (eBox rfl rfl rfl rfl rfl) rfl ?_ | refine pE (eSt rfl rfl rfl rfl rfl rfl rfl rfl rfl) rfl ?_ | refine pE (eBs rfl rfl rfl rfl rfl rfl rfl rfl rfl) rfl ?_)
    refine xt_fin (.inr rfl) rfl trivial ⟨rfl, ?_⟩
    have hk' : k = l.length := by have : ¬ k < l.length := by simpa using hc
                                  omega
    have : n ∉ l := by
      intro hm
      obtain ⟨j, hj, e⟩ := List.getElem_of_mem hm
      exact hno j (by omega) hj e
    simp [this]
/-! ### picking -/
def pkF (i p : Int) : List En → Int
  | [] => -1
  | x :: r => if p < x.w then i else pkF (i + 1) (p - x.w) r
def pkC (C : List Int) (i p : Int) : List En → Int
  | [] => -1
  | x :: r => if i ∈ C then pkC C (i + 1) p r else if p < x.w then i else pkC C (i + 1) (p - x.w) r
def wtC (C : List Int) (i : Int) : List En → Int
  | [] => 0
  | x :: r => (if i ∈ C then 0 else x.w) + wtC C (i + 1) r
theorem pkC_nil : ∀ (l : List En) (i p : Int), pkC [] i p l = pkF i p l
  | [], _, _ => rfl
  | x :: r, i, p => by simp [pkC, pkF, pkC_nil r]
set_option maxHeartbeats 1000000 in
set_option maxRecDepth 100000 in
theorem pickEntry_ac (tg : Nat) (l : List En) (p : Int) (hp : 0 ≤ p) (hp2 : p ≤ 9223372036854775807) (hl : l.length ≤ 1048576) (hw : ∀ x ∈ l, 0 ≤ x.w ∧ x.w ≤ 9) : AC Try.prog 68 [.h (.c (.rd (tg + 1) l.length (ens l))), .h (.c (.int .i64 p))] [] [0]
    (fun r h => h = [] ∧ r = .h (.c (.int .i64 (pkF 0 p l)))) := by
  refine ac_body teok Try.func68 rfl (by kernel_rfl) Try.ntmps68 rfl rfl ?_
  intro w0 ps g0 im0
  repeat (first | refine p1 rfl rfl rfl rfl ?_ | refine al_end ?_ | refine awp_seq ?_ | refine awp_region ?_ | refine awp_block ?_ | refine awp_skip' ?_ | refine awp_ret' ?_ | refine awp_exit' ?_ | refine xt_sq_n ?_ | refine xt_bk_n ?_ | refine xt_sq_r ?_ | refine xt_bk_r ?_ | refine xt_sq_x ?_ | refine xt_bk_eq ?_ | refine xt_bk_ne rfl ?_ | refine p0 rfl rfl rfl ?_ | refine p0n rfl rfl ?_ | refine pAr rfl rfl rfl rfl rfl rfl rfl (by omega) (by omega) ?_ | refine pBuild rfl rfl rfl rfl rfl rfl ?_ | refine pE (eAlloc rfl rfl rfl rfl) rfl ?_ | refine pE (eBox rfl rfl rfl rfl rfl) rfl ?_ | refine pE (eSt rfl rfl rfl rfl rfl rfl rfl rfl rfl) rfl ?_ | refine pE (eBs rfl rfl rfl rfl rfl rfl rfl rfl rfl) rfl ?_)
  refine awp_loopE (fun a : Nat × Int => { fr := [(1, .h (.c (.int .i64 a.2))), (7, .h (.c (.rd (tg + 1) l.length (ens l)))), (8, .h (.c (.int .i64 l.length))), (9, .h (.c (.int .i64 a.1)))], hp := [], nx := 0 })
    (fun n a => a.1 ≤ l.length ∧ n = l.length - a.1 ∧ 0 ≤ a.2 ∧ a.2 ≤ 9223372036854775807 ∧ pkF 0 p l = pkF a.1 a.2 (l.drop a.1)) l.length (0, p) [] ⟨rfl, rfl, rfl, by repeat (first | exact trivial | refine ⟨rfl, ?_⟩), by repeat (first | exact trivial | refine ⟨rfl, ?_⟩)⟩ ⟨Nat.zero_le _, rfl, hp, hp2, by simp⟩ ?_
  rintro n ⟨k, q⟩ ⟨hk, rfl, hq0, hq1, he⟩
  simp only at hk hq0 hq1 he ⊢
  repeat' (first | refine p1 rfl rfl rfl rfl ?_ | refine al_end ?_ | refine awp_seq ?_ | refine awp_region ?_ | refine awp_block ?_ | refine awp_skip' ?_ | refine awp_ret' ?_ | refine awp_exit' ?_ | refine xt_sq_n ?_ | refine xt_bk_n ?_ | refine xt_sq_r ?_ | refine xt_bk_r ?_ | refine xt_sq_x ?_ | refine xt_bk_eq ?_ | refine xt_bk_ne rfl ?_ | refine p0 rfl rfl rfl ?_ | refine p0n rfl rfl ?_ | refine pAr rfl rfl rfl rfl rfl rfl rfl (by omega) (by omega) ?_ | refine pBuild rfl rfl rfl rfl rfl rfl ?_ | refine pE (eAlloc rfl rfl rfl rfl) rfl ?_ | refine pE (eBox rfl rfl rfl rfl rfl) rfl ?_ | refine pE (eSt rfl rfl rfl rfl rfl rfl rfl rfl rfl) rfl ?_ | refine pE (eBs rfl rfl rfl rfl rfl rfl rfl rfl rfl) rfl ?_ | refine awp_cond (b := true) rfl (fun _ => ?_) (fun h => Bool.noConfusion h) | refine awp_cond (b := false) rfl (fun h => Bool.noConfusion h) (fun _ => ?_) | ((fail_if_success refine pG (b := true) rfl rfl ?_ ?_); (fail_if_success refine pG (b := false) rfl rfl ?_ ?_); (refine pG rfl rfl (fun hc => ?_) (fun hc => ?_)) <;> try simp at hc) | ((refine awp_cond rfl (fun hc => ?_) (fun hc => ?_)) <;> try simp at hc))
  · have hk' : k < l.length := by omega
    have hwk := hw _ (List.getElem_mem hk')
    rw [List.drop_eq_getElem_cons hk'] at he
    simp only [pkF] at he
    refine pIxR (f := enc) k rfl rfl rfl rfl rfl rfl rfl rfl rfl (fun _ => rfl) rfl rfl hk' ?_
    repeat' (first | refine p1 rfl rfl rfl rfl ?_ | refine al_end ?_ | refine awp_seq ?_ | refine awp_region ?_ | refine awp_block ?_ | refine awp_skip' ?_ | refine awp_ret' ?_ | refine awp_exit' ?_ | refine xt_sq_n ?_ | refine xt_bk_n ?_ | refine xt_sq_r ?_ | refine xt_bk_r ?_ | refine xt_sq_x ?_ | refine xt_bk_eq ?_ | refine xt_bk_ne rfl ?_ | refine p0 rfl rfl rfl ?_ | refine p0n rfl rfl ?_ | refine pAr rfl rfl rfl rfl rfl rfl rfl (by omega) (by omega) ?_ | refine pBuild rfl rfl rfl rfl rfl rfl ?_ | refine pE (eAlloc rfl rfl rfl rfl) rfl ?_ | refine pE (eBox rfl rfl rfl rfl rfl) rfl ?_ | refine pE (eSt rfl rfl rfl rfl rfl rfl rfl rfl rfl) rfl ?_ | refine pE (eBs rfl rfl rfl rfl rfl rfl rfl rfl rfl) rfl ?_ | refine awp_cond (b := true) rfl (fun _ => ?_) (fun h => Bool.noConfusion h) | refine awp_cond (b := false) rfl (fun h => Bool.noConfusion h) (fun _ => ?_) | ((fail_if_success refine pG (b := true) rfl rfl ?_ ?_); (fail_if_success refine pG (b := false) rfl rfl ?_ ?_); (refine pG rfl rfl (fun hc => ?_) (fun hc => ?_)) <;> try simp at hc) | ((refine awp_cond rfl (fun hc => ?_) (fun hc => ?_)) <;> try simp at hc))
    · rw [if_pos hc] at he
      exact xt_fin (.inr rfl) rfl trivial ⟨rfl, by rw [he]⟩
    · rw [if_neg (by omega)] at he
      exact lp_end (l.length - (k + 1)) (k + 1, q - l[k].w) [] (by omega) ⟨rfl, rfl, rfl, by repeat (first | exact trivial | refine ⟨rfl, ?_⟩), by repeat (first | exact trivial | refine ⟨rfl, ?_⟩)⟩ ⟨hk', rfl, by show 0 ≤ q - l[k].w; omega, by show q - l[k].w ≤ _; omega, he⟩
  · have hk' : k = l.length := by omega
    subst hk'
    rw [List.drop_length] at he
    exact xt_fin (.inr rfl) rfl trivial ⟨rfl, by rw [he]; rfl⟩
set_option maxHeartbeats 1000000 in
set_option maxRecDepth 100000 in
theorem l21Pick_ac (tg tc : Nat) (e : Int) (l : List En) (C : List Int) (p : Int) (hp : 0 ≤ p) (hp2 : p ≤ 9223372036854775807) (hl : l.length ≤ 1048576) (hC : C.length ≤ 1048576) (hw : ∀ x ∈ l, 0 ≤ x.w ∧ x.w ≤ 9) : AC Try.prog 69 [dv tg e l, .h (.c (.rd (tc + 1) C.length (ints C))), .h (.c (.int .i64 p))] [] [0]
    (fun r h => h = [] ∧ r = .h (.c (.int .i64 (pkC C 0 p l)))) := by
  refine ac_body teok Try.func69 rfl (by kernel_rfl) Try.ntmps69 rfl rfl ?_
  intro w0 ps g0 im0
  repeat (first | refine p1 rfl rfl rfl rfl ?_ | refine al_end ?_ | refine awp_seq ?_ | refine awp_region ?_ | refine awp_block ?_ | refine awp_skip' ?_ | refine awp_ret' ?_ | refine awp_exit' ?_ | refine xt_sq_n ?_ | refine xt_bk_n ?_ | refine xt_sq_r ?_ | refine xt_bk_r ?_ | refine xt_sq_x ?_ | refine xt_bk_eq ?_ | refine xt_bk_ne rfl ?_ | refine p0 rfl rfl rfl ?_ | refine p0n rfl rfl ?_ | refine pAr rfl rfl rfl rfl rfl rfl rfl (by omega) (by omega) ?_ | refine pBuild rfl rfl rfl rfl rfl rfl ?_ | refine pE (eAlloc rfl rfl rfl rfl) rfl ?_ | refine pE (eBox rfl rfl rfl rfl rfl) rfl ?_ | refine pE (eSt rfl rfl rfl rfl rfl rfl rfl rfl rfl) rfl ?_ | refine pE (eBs rfl rfl rfl rfl rfl rfl rfl rfl rfl) rfl ?_)
  refine awp_loopE (fun a : Nat × Int => { fr := [(1, .h (.c (.rd (tc + 1) C.length (ints C)))), (2, .h (.c (.int .i64 a.2))), (3, .h (.ptr 0 0)), (7, .h (.c (.int .i64 a.1)))], hp := [(0, dbx tg e l)], nx := 1 })
    (fun n a => a.1 ≤ l.length ∧ n = l.length - a.1 ∧ 0 ≤ a.2 ∧ a.2 ≤ 9223372036854775807 ∧ pkC C 0 p l = pkC C a.1 a.2 (l.drop a.1)) l.length (0, p) [(0, 0)] ⟨rfl, rfl, rfl, by repeat (first | exact trivial | refine ⟨rfl, ?_⟩), by repeat (first | exact trivial | refine ⟨rfl, ?_⟩)⟩ ⟨Nat.zero_le _, rfl, hp, hp2, by simp⟩ ?_
  rintro n ⟨k, q⟩ ⟨hk, rfl, hq0, hq1, he⟩
  simp only at hk hq0 hq1 he ⊢
  repeat' (first | refine p1 rfl rfl rfl rfl ?_ | refine al_end ?_ | refine awp_seq ?_ | refine awp_region ?_ | refine awp_block ?_ | refine awp_skip' ?_ | refine awp_ret' ?_ | refine awp_exit' ?_ | refine xt_sq_n ?_ | refine xt_bk_n ?_ | refine xt_sq_r ?_ | refine xt_bk_r ?_ | refine xt_sq_x ?_ | refine xt_bk_eq ?_ | refine xt_bk_ne rfl ?_ | refine p0 rfl rfl rfl ?_ | refine p0n rfl rfl ?_ | refine pAr rfl rfl rfl rfl rfl rfl rfl (by omega) (by omega) ?_ | refine pBuild rfl rfl rfl rfl rfl rfl ?_ | refine pE (eAlloc rfl rfl rfl rfl) rfl ?_ | refine pE (eBox rfl rfl rfl rfl rfl) rfl ?_ | refine pE (eSt rfl rfl rfl rfl rfl rfl rfl rfl rfl) rfl ?_ | refine pE (eBs rfl rfl rfl rfl rfl rfl rfl rfl rfl) rfl ?_ | refine awp_cond (b := true) rfl (fun _ => ?_) (fun h => Bool.noConfusion h) | refine awp_cond (b := false) rfl (fun h => Bool.noConfusion h) (fun _ => ?_) | ((fail_if_success refine pG (b := true) rfl rfl ?_ ?_); (fail_if_success refine pG (b := false) rfl rfl ?_ ?_); (refine pG rfl rfl (fun hc => ?_) (fun hc => ?_)) <;> try simp at hc) | ((refine awp_cond rfl (fun hc => ?_) (fun hc => ?_)) <;> try simp at hc))
  · have hk' : k < l.length := by omega
    have hwk := hw _ (List.getElem_mem hk')
    rw [List.drop_eq_getElem_cons hk'] at he
    simp only [pkC] at he
    have hha := l1Has_ac (tc + 1) C k (by omega)
    repeat' (first | refine p1 rfl rfl rfl rfl ?_ | refine al_end ?_ | refine awp_seq ?_ | refine awp_region ?_ | refine awp_block ?_ | refine awp_skip' ?_ | refine awp_ret' ?_ | refine awp_exit' ?_ | refine xt_sq_n ?_ | refine xt_bk_n ?_ | refine xt_sq_r ?_ | refine xt_bk_r ?_ | refine xt_sq_x ?_ | refine xt_bk_eq ?_ | refine xt_bk_ne rfl ?_ | refine p0 rfl rfl rfl ?_ | refine p0n rfl rfl ?_ | refine pAr rfl rfl rfl rfl rfl rfl rfl (by omega) (by omega) ?_ | refine pBuild rfl rfl rfl rfl rfl rfl ?_ | refine pE (eAlloc rfl rfl rfl rfl) rfl ?_ | refine pE (eBox rfl rfl rfl rfl rfl) rfl ?_ | refine pE (eSt rfl rfl rfl rfl rfl rfl rfl rfl rfl) rfl ?_ | refine pE (eBs rfl rfl rfl rfl rfl rfl rfl rfl rfl) rfl ?_ | refine awp_cond (b := true) rfl (fun _ => ?_) (fun h => Bool.noConfusion h) | refine awp_cond (b := false) rfl (fun h => Bool.noConfusion h) (fun _ => ?_) | ((fail_if_success refine pG (b := true) rfl rfl ?_ ?_); (fail_if_success refine pG (b := false) rfl rfl ?_ ?_); (refine pG rfl rfl (fun hc => ?_) (fun hc => ?_)) <;> try simp at hc) | ((refine awp_cond rfl (fun hc => ?_) (fun hc => ?_)) <;> try simp at hc) | refine pC0 (hha) rfl rfl rfl rfl rfl rfl rfl (by decide) ?_)
    · rw [if_pos hc] at he
      exact lp_end (l.length - (k + 1)) (k + 1, q) [(0, 0)] (by omega) ⟨rfl, rfl, rfl, by repeat (first | exact trivial | refine ⟨rfl, ?_⟩), by repeat (first | exact trivial | refine ⟨rfl, ?_⟩)⟩ ⟨hk', rfl, hq0, hq1, he⟩
    · rw [if_neg hc] at he
      refine pIxR (f := enc) k rfl rfl rfl rfl rfl rfl rfl rfl rfl (fun _ => rfl) rfl rfl hk' ?_
      repeat' (first | refine p1 rfl rfl rfl rfl ?_ | refine al_end ?_ | refine awp_seq ?_ | refine awp_region ?_ | refine awp_block ?_ | refine awp_skip' ?_ | refine awp_ret' ?_ | refine awp_exit' ?_ | refine xt_sq_n ?_ | refine xt_bk_n ?_ | refine xt_sq_r ?_ | refine xt_bk_r ?_ | refine xt_sq_x ?_ | refine xt_bk_eq ?_ | refine xt_bk_ne rfl ?_ | refine p0 rfl rfl rfl ?_ | refine p0n rfl rfl ?_ | refine pAr rfl rfl rfl rfl rfl rfl rfl (by omega) (by omega) ?_ | refine pBuild rfl rfl rfl rfl rfl rfl ?_ | refine pE (eAlloc rfl rfl rfl rfl) rfl ?_ | refine pE (eBox rfl rfl rfl rfl rfl) rfl ?_ | refine pE (eSt rfl rfl rfl rfl rfl rfl rfl rfl rfl) rfl ?_ | refine pE (eBs rfl rfl rfl rfl rfl rfl rfl rfl rfl) rfl ?_ | refine awp_cond (b := true) rfl (fun _ => ?_) (fun h => Bool.noConfusion h) | refine awp_cond (b := false) rfl (fun h => Bool.noConfusion h) (fun _ => ?_) | ((fail_if_success refine pG (b := true) rfl rfl ?_ ?_); (fail_if_success refine pG (b := false) rfl rfl ?_ ?_); (refine pG rfl rfl (fun hc => ?_) (fun hc => ?_)) <;> try simp at hc) | ((refine awp_cond rfl (fun hc => ?_) (fun hc => ?_)) <;> try simp at hc))
      · rw [if_pos hc] at he
        exact xt_fin (.inr rfl) rfl trivial ⟨rfl, by rw [he]⟩
      · rw [if_neg (by omega)] at he
        refine pIxR (f := enc) k rfl rfl rfl rfl rfl rfl rfl rfl rfl (fun _ => rfl) rfl rfl hk' ?_
        repeat' (first | refine p1 rfl rfl rfl rfl ?_ | refine al_end ?_ | refine awp_seq ?_ | refine awp_region ?_ | refine awp_block ?_ | refine awp_skip' ?_ | refine awp_ret' ?_ | refine awp_exit' ?_ | refine xt_sq_n ?_ | refine xt_bk_n ?_ | refine xt_sq_r ?_ | refine xt_bk_r ?_ | refine xt_sq_x ?_ | refine xt_bk_eq ?_ | refine xt_bk_ne rfl ?_ | refine p0 rfl rfl rfl ?_ | refine p0n rfl rfl ?_ | refine pAr rfl rfl rfl rfl rfl rfl rfl (by omega) (by omega) ?_ | refine pBuild rfl rfl rfl rfl rfl rfl ?_ | refine pE (eAlloc rfl rfl rfl rfl) rfl ?_ | refine pE (eBox rfl rfl rfl rfl rfl) rfl ?_ | refine pE (eSt rfl rfl rfl rfl rfl rfl rfl rfl rfl) rfl ?_ | refine pE (eBs rfl rfl rfl rfl rfl rfl rfl rfl rfl) rfl ?_ | refine awp_cond (b := true) rfl (fun _ => ?_) (fun h => Bool.noConfusion h) | refine awp_cond (b := false) rfl (fun h => Bool.noConfusion h) (fun _ => ?_) | ((fail_if_success refine pG (b := true) rfl rfl ?_ ?_); (fail_if_success refine pG (b := false) rfl rfl ?_ ?_); (refine pG rfl rfl (fun hc => ?_) (fun hc => ?_)) <;> try simp at hc) | ((refine awp_cond rfl (fun hc => ?_) (fun hc => ?_)) <;> try simp at hc))
        exact lp_end (l.length - (k + 1)) (k + 1, q - l[k].w) [(0, 0)] (by omega) ⟨rfl, rfl, rfl, by repeat (first | exact trivial | refine ⟨rfl, ?_⟩), by repeat (first | exact trivial | refine ⟨rfl, ?_⟩)⟩ ⟨hk', rfl, by show 0 ≤ q - l[k].w; omega, by show q - l[k].w ≤ _; omega, he⟩
  · have hk' : k = l.length := by omega
    subst hk'
    rw [List.drop_length] at he
    exact xt_fin (.inr rfl) rfl trivial ⟨rfl, by rw [he]; rfl⟩
def pickV (e : Int) (l : List En) (p : Int) : Int := if dval e l && !decide (p < 0) then pkF 0 p l else -1
set_option maxRecDepth 100000 in
theorem implPick_ac (tg : Nat) (e : Int) (l : List En) (p : Int) (hp2 : p ≤ 9223372036854775807) (hl : l.length ≤ 1048576) : AC Try.prog 32 [dv tg e l, .h (.c (.int .i64 p))] [] [0]
    (fun r h => h = [] ∧ r = .h (.c (.int .i64 (pickV e l p)))) := by
  refine ac_body teok Try.func32 rfl (by kernel_rfl) Try.ntmps32 rfl rfl ?_
  intro w0 ps g0 im0
  have hdv := implDV_ac tg e l (by omega)
  repeat' (first | refine p1 rfl rfl rfl rfl ?_ | refine al_end ?_ | refine awp_seq ?_ | refine awp_region ?_ | refine awp_block ?_ | refine awp_skip' ?_ | refine awp_ret' ?_ | refine awp_exit' ?_ | refine xt_sq_n ?_ | refine xt_bk_n ?_ | refine xt_sq_r ?_ | refine xt_bk_r ?_ | refine xt_sq_x ?_ | refine xt_bk_eq ?_ | refine xt_bk_ne rfl ?_ | refine p0 rfl rfl rfl ?_ | refine p0n rfl rfl ?_ | refine pAr rfl rfl rfl rfl rfl rfl rfl (by omega) (by omega) ?_ | refine pBuild rfl rfl rfl rfl rfl rfl ?_ | refine pE (eAlloc rfl rfl rfl rfl) rfl ?_ | refine pE (eBox rfl rfl rfl rfl rfl) rfl ?_ | refine pE (eSt rfl rfl rfl rfl rfl rfl rfl rfl rfl) rfl ?_ | refine pE (eBs rfl rfl rfl rfl rfl rfl rfl rfl rfl) rfl ?_ | refine awp_cond (b := true) rfl (fun _ => ?_) (fun h => Bool.noConfusion h) | refine awp_cond (b := false) rfl (fun h => Bool.noConfusion h) (fun _ => ?_) | ((fail_if_success refine pG (b := true) rfl rfl ?_ ?_); (fail_if_success refine pG (b := false) rfl rfl ?_ ?_); (refine pG rfl rfl (fun hc => ?_) (fun hc => ?_)) <;> try simp at hc) | ((refine awp_cond rfl (fun hc => ?_) (fun hc => ?_)) <;> try simp at hc) | refine pC0 (hdv) rfl rfl rfl rfl rfl rfl rfl (by decide) ?_)
  · exact xt_fin (.inr rfl) rfl trivial ⟨rfl, by simp [pickV, *]⟩
  · exact xt_fin (.inr rfl) rfl trivial ⟨rfl, by simp [pickV, *]⟩
  have hv : dval e l = true := by assumption
  refine pCv (pickEntry_ac tg l p (by omega) hp2 hl (fun x hx => (dval_ok hv x hx).2.2)) rfl rfl (fun _ => rfl) rfl rfl rfl (by decide) (by repeat' (first | exact trivial | exact rfl | refine And.intro ?_ ?_ | exact Or.inl ⟨_, rfl, rfl⟩ | exact ⟨_, rfl, rfl⟩ | exact bor_sl rfl (by assumption))) ?_
  repeat' (first | refine p1 rfl rfl rfl rfl ?_ | refine al_end ?_ | refine awp_seq ?_ | refine awp_region ?_ | refine awp_block ?_ | refine awp_skip' ?_ | refine awp_ret' ?_ | refine awp_exit' ?_ | refine xt_sq_n ?_ | refine xt_bk_n ?_ | refine xt_sq_r ?_ | refine xt_bk_r ?_ | refine xt_sq_x ?_ | refine xt_bk_eq ?_ | refine xt_bk_ne rfl ?_ | refine p0 rfl rfl rfl ?_ | refine p0n rfl rfl ?_ | refine pAr rfl rfl rfl rfl rfl rfl rfl (by omega) (by omega) ?_ | refine pBuild rfl rfl rfl rfl rfl rfl ?_ | refine pE (eAlloc rfl rfl rfl rfl) rfl ?_ | refine pE (eBox rfl rfl rfl rfl rfl) rfl ?_ | refine pE (eSt rfl rfl rfl rfl rfl rfl rfl rfl rfl) rfl ?_ | refine pE (eBs rfl rfl rfl rfl rfl rfl rfl rfl rfl) rfl ?_ | refine awp_cond (b := true) rfl (fun _ => ?_) (fun h => Bool.noConfusion h) | refine awp_cond (b := false) rfl (fun h => Bool.noConfusion h) (fun _ => ?_) | ((fail_if_success refine pG (b := true) rfl rfl ?_ ?_); (fail_if_success refine pG (b := false) rfl rfl ?_ ?_); (refine pG rfl rfl (fun hc => ?_) (fun hc => ?_)) <;> try simp at hc) | ((refine awp_cond rfl (fun hc => ?_) (fun hc => ?_)) <;> try simp at hc))
  exact xt_fin (.inr rfl) rfl trivial ⟨rfl, by rw [pickV, hv, decide_eq_false (by omega)]; rfl⟩
set_option maxRecDepth 100000 in
theorem specPick_ac (tg : Nat) (e : Int) (l : List En) (p : Int) (hp2 : p ≤ 9223372036854775807) (hl : l.length ≤ 1048576) : AC Try.prog 33 [dv tg e l, .h (.c (.int .i64 p))] [] [0]
    (fun r h => h = [] ∧ r = .h (.c (.int .i64 (pickV e l p)))) := by
  refine ac_body teok Try.func33 rfl (by kernel_rfl) Try.ntmps33 rfl rfl ?_
  intro w0 ps g0 im0
  have hdv := specDV_ac tg e l (by omega)
  repeat' (first | refine p1 rfl rfl rfl rfl ?_ | refine al_end ?_ | refine awp_seq ?_ | refine awp_region ?_ | refine awp_block ?_ | refine awp_skip' ?_ | refine awp_ret' ?_ | refine awp_exit' ?_ | refine xt_sq_n ?_ | refine xt_bk_n ?_ | refine xt_sq_r ?_ | refine xt_bk_r ?_ | refine xt_sq_x ?_ | refine xt_bk_eq ?_ | refine xt_bk_ne rfl ?_ | refine p0 rfl rfl rfl ?_ | refine p0n rfl rfl ?_ | refine pAr rfl rfl rfl rfl rfl rfl rfl (by omega) (by omega) ?_ | refine pBuild rfl rfl rfl rfl rfl rfl ?_ | refine pE (eAlloc rfl rfl rfl rfl) rfl ?_ | refine pE (eBox rfl rfl rfl rfl rfl) rfl ?_ | refine pE (eSt rfl rfl rfl rfl rfl rfl rfl rfl rfl) rfl ?_ | refine pE (eBs rfl rfl rfl rfl rfl rfl rfl rfl rfl) rfl ?_ | refine awp_cond (b := true) rfl (fun _ => ?_) (fun h => Bool.noConfusion h) | refine awp_cond (b := false) rfl (fun h => Bool.noConfusion h) (fun _ => ?_) | ((fail_if_success refine pG (b := true) rfl rfl ?_ ?_); (fail_if_success refine pG (b := false) rfl rfl ?_ ?_); (refine pG rfl rfl (fun hc => ?_) (fun hc => ?_)) <;> try simp at hc) | ((refine awp_cond rfl (fun hc => ?_) (fun hc => ?_)) <;> try simp at hc) | refine pC0 (hdv) rfl rfl rfl rfl rfl rfl rfl (by decide) ?_)
  · exact xt_fin (.inr rfl) rfl trivial ⟨rfl, by simp [pickV, *]⟩
  · exact xt_fin (.inr rfl) rfl trivial ⟨rfl, by simp [pickV, *]⟩
  have hv : dval e l = true := by assumption
  have hpn := ints_plain []
  refine pCv (l21Pick_ac tg 98 e l [] p (by omega) hp2 hl (by simp) (fun x hx => (dval_ok hv x hx).2.2)) rfl rfl (fun _ => rfl) rfl rfl rfl (by decide) (by repeat' (first | exact trivial | exact rfl | refine And.intro ?_ ?_ | exact Or.inl ⟨_, rfl, rfl⟩ | exact ⟨_, rfl, rfl⟩ | exact bor_sl rfl (by assumption))) ?_
  repeat' (first | refine p1 rfl rfl rfl rfl ?_ | refine al_end ?_ | refine awp_seq ?_ | refine awp_region ?_ | refine awp_block ?_ | refine awp_skip' ?_ | refine awp_ret' ?_ | refine awp_exit' ?_ | refine xt_sq_n ?_ | refine xt_bk_n ?_ | refine xt_sq_r ?_ | refine xt_bk_r ?_ | refine xt_sq_x ?_ | refine xt_bk_eq ?_ | refine xt_bk_ne rfl ?_ | refine p0 rfl rfl rfl ?_ | refine p0n rfl rfl ?_ | refine pAr rfl rfl rfl rfl rfl rfl rfl (by omega) (by omega) ?_ | refine pBuild rfl rfl rfl rfl rfl rfl ?_ | refine pE (eAlloc rfl rfl rfl rfl) rfl ?_ | refine pE (eBox rfl rfl rfl rfl rfl) rfl ?_ | refine pE (eSt rfl rfl rfl rfl rfl rfl rfl rfl rfl) rfl ?_ | refine pE (eBs rfl rfl rfl rfl rfl rfl rfl rfl rfl) rfl ?_ | refine awp_cond (b := true) rfl (fun _ => ?_) (fun h => Bool.noConfusion h) | refine awp_cond (b := false) rfl (fun h => Bool.noConfusion h) (fun _ => ?_) | ((fail_if_success refine pG (b := true) rfl rfl ?_ ?_); (fail_if_success refine pG (b := false) rfl rfl ?_ ?_); (refine pG rfl rfl (fun hc => ?_) (fun hc => ?_)) <;> try simp at hc) | ((refine awp_cond rfl (fun hc => ?_) (fun hc => ?_)) <;> try simp at hc))
  exact xt_fin (.inr rfl) rfl trivial ⟨rfl, by rw [pickV, hv, decide_eq_false (by omega), pkC_nil]; rfl⟩
set_option maxHeartbeats 1000000 in
set_option maxRecDepth 100000 in
theorem l21Weight_ac (tg tc : Nat) (e : Int) (l : List En) (C : List Int) (hl : l.length ≤ 1048576) (hC : C.length ≤ 1048576) (hw : ∀ x ∈ l, -10 ≤ x.w ∧ x.w ≤ 10) : AC Try.prog 67 [dv tg e l, .h (.c (.rd (tc + 1) C.length (ints C)))] [] [0]
    (fun r h => h = [] ∧ r = .h (.c (.int .i64 (wtC C 0 l)))) := by
  refine ac_body teok Try.func67 rfl (by kernel_rfl) Try.ntmps67 rfl rfl ?_
  intro w0 ps g0 im0
  repeat (first | refine p1 rfl rfl rfl rfl ?_ | refine al_end ?_ | refine awp_seq ?_ | refine awp_region ?_ | refine awp_block ?_ | refine awp_skip' ?_ | refine awp_ret' ?_ | refine awp_exit' ?_ | refine xt_sq_n ?_ | refine xt_bk_n ?_ | refine xt_sq_r ?_ | refine xt_bk_r ?_ | refine xt_sq_x ?_ | refine xt_bk_eq ?_ | refine xt_bk_ne rfl ?_ | refine p0 rfl rfl rfl ?_ | refine p0n rfl rfl ?_ | refine pAr rfl rfl rfl rfl rfl rfl rfl (by omega) (by omega) ?_ | refine pBuild rfl rfl rfl rfl rfl rfl ?_ | refine pE (eAlloc rfl rfl rfl rfl) rfl ?_ | refine pE (eBox rfl rfl rfl rfl rfl) rfl ?_ | refine pE (eSt rfl rfl rfl rfl rfl rfl rfl rfl rfl) rfl ?_ | refine pE (eBs rfl rfl rfl rfl rfl rfl rfl rfl rfl) rfl ?_)
  refine awp_loopE (fun a : Nat × Int => { fr := [(1, .h (.c (.rd (tc + 1) C.length (ints C)))), (2, .h (.ptr 0 0)), (5, .h (.c (.int .i64 a.2))), (6, .h (.c (.int .i64 a.1)))], hp := [(0, dbx tg e l)], nx := 1 })
    (fun n a => a.1 ≤ l.length ∧ n = l.length - a.1 ∧ (-10 * (a.1 : Int) ≤ a.2 ∧ a.2 ≤ 10 * a.1) ∧ wtC C 0 l = a.2 + wtC C a.1 (l.drop a.1)) l.length (0, 0) [(0, 0)] ⟨rfl, rfl, rfl, by repeat (first | exact trivial | refine ⟨rfl, ?_⟩), by repeat (first | exact trivial | refine ⟨rfl, ?_⟩)⟩ ⟨Nat.zero_le _, rfl, by simp, by simp⟩ ?_
  rintro n ⟨k, q⟩ ⟨hk, rfl, hq, he⟩
  simp only at hk hq he ⊢
  repeat' (first | refine p1 rfl rfl rfl rfl ?_ | refine al_end ?_ | refine awp_seq ?_ | refine awp_region ?_ | refine awp_block ?_ | refine awp_skip' ?_ | refine awp_ret' ?_ | refine awp_exit' ?_ | refine xt_sq_n ?_ | refine xt_bk_n ?_ | refine xt_sq_r ?_ | refine xt_bk_r ?_ | refine xt_sq_x ?_ | refine xt_bk_eq ?_ | refine xt_bk_ne rfl ?_ | refine p0 rfl rfl rfl ?_ | refine p0n rfl rfl ?_ | refine pAr rfl rfl rfl rfl rfl rfl rfl (by omega) (by omega) ?_ | refine pBuild rfl rfl rfl rfl rfl rfl ?_ | refine pE (eAlloc rfl rfl rfl rfl) rfl ?_ | refine pE (eBox rfl rfl rfl rfl rfl) rfl ?_ | refine pE (eSt rfl rfl rfl rfl rfl rfl rfl rfl rfl) rfl ?_ | refine pE (eBs rfl rfl rfl rfl rfl rfl rfl rfl rfl) rfl ?_ | refine awp_cond (b := true) rfl (fun _ => ?_) (fun h => Bool.noConfusion h) | refine awp_cond (b := false) rfl (fun h => Bool.noConfusion h) (fun _ => ?_) | ((fail_if_success refine pG (b := true) rfl rfl ?_ ?_); (fail_if_success refine pG (b := false) rfl rfl ?_ ?_); (refine pG rfl rfl (fun hc => ?_) (fun hc => ?_)) <;> try simp at hc) | ((refine awp_cond rfl (fun hc => ?_) (fun hc => ?_)) <;> try simp at hc))
  · have hk' : k < l.length := by omega
    have hwk := hw _ (List.getElem_mem hk')
    rw [List.drop_eq_getElem_cons hk'] at he
    simp only [wtC] at he
    have hha := l1Has_ac (tc + 1) C k (by omega)
    repeat' (first | refine p1 rfl rfl rfl rfl ?_ | refine al_end ?_ | refine awp_seq ?_ | refine awp_region ?_ | refine awp_block ?_ | refine awp_skip' ?_ | refine awp_ret' ?_ | refine awp_exit' ?_ | refine xt_sq_n ?_ | refine xt_bk_n ?_ | refine xt_sq_r ?_ | refine xt_bk_r ?_ | refine xt_sq_x ?_ | refine xt_bk_eq ?_ | refine xt_bk_ne rfl ?_ | refine p0 rfl rfl rfl ?_ | refine p0n rfl rfl ?_ | refine pAr rfl rfl rfl rfl rfl rfl rfl (by omega) (by omega) ?_ | refine pBuild rfl rfl rfl rfl rfl rfl ?_ | refine pE (eAlloc rfl rfl rfl rfl) rfl ?_ | refine pE (eBox rfl rfl rfl rfl rfl) rfl ?_ | refine pE (eSt rfl rfl rfl rfl rfl rfl rfl rfl rfl) rfl ?_ | refine pE (eBs rfl rfl rfl rfl rfl rfl rfl rfl rfl) rfl ?_ | refine awp_cond (b := true) rfl (fun _ => ?_) (fun h => Bool.noConfusion h) | refine awp_cond (b := false) rfl (fun h => Bool.noConfusion h) (fun _ => ?_) | ((fail_if_success refine pG (b := true) rfl rfl ?_ ?_); (fail_if_success refine pG (b := false) rfl rfl ?_ ?_); (refine pG rfl rfl (fun hc => ?_) (fun hc => ?_)) <;> try simp at hc) | ((refine awp_cond rfl (fun hc => ?_) (fun hc => ?_)) <;> try simp at hc) | refine pC0 (hha) rfl rfl rfl rfl rfl rfl rfl (by decide) ?_)
    · rw [if_neg hc] at he
      refine pIxR (f := enc) k rfl rfl rfl rfl rfl rfl rfl rfl rfl (fun _ => rfl) rfl rfl hk' ?_
      repeat' (first | refine p1 rfl rfl rfl rfl ?_ | refine al_end ?_ | refine awp_seq ?_ | refine awp_region ?_ | refine awp_block ?_ | refine awp_skip' ?_ | refine awp_ret' ?_ | refine awp_exit' ?_ | refine xt_sq_n ?_ | refine xt_bk_n ?_ | refine xt_sq_r ?_ | refine xt_bk_r ?_ | refine xt_sq_x ?_ | refine xt_bk_eq ?_ | refine xt_bk_ne rfl ?_ | refine p0 rfl rfl rfl ?_ | refine p0n rfl rfl ?_ | refine pAr rfl rfl rfl rfl rfl rfl rfl (by omega) (by omega) ?_ | refine pBuild rfl rfl rfl rfl rfl rfl ?_ | refine pE (eAlloc rfl rfl rfl rfl) rfl ?_ | refine pE (eBox rfl rfl rfl rfl rfl) rfl ?_ | refine pE (eSt rfl rfl rfl rfl rfl rfl rfl rfl rfl) rfl ?_ | refine pE (eBs rfl rfl rfl rfl rfl rfl rfl rfl rfl) rfl ?_ | refine awp_cond (b := true) rfl (fun _ => ?_) (fun h => Bool.noConfusion h) | refine awp_cond (b := false) rfl (fun h => Bool.noConfusion h) (fun _ => ?_) | ((fail_if_success refine pG (b := true) rfl rfl ?_ ?_); (fail_if_success refine pG (b := false) rfl rfl ?_ ?_); (refine pG rfl rfl (fun hc => ?_) (fun hc => ?_)) <;> try simp at hc) | ((refine awp_cond rfl (fun hc => ?_) (fun hc => ?_)) <;> try simp at hc))
      exact lp_end (l.length - (k + 1)) (k + 1, q + l[k].w) [(0, 0)] (by omega) ⟨rfl, rfl, rfl, by repeat (first | exact trivial | refine ⟨rfl, ?_⟩), by repeat (first | exact trivial | refine ⟨rfl, ?_⟩)⟩ ⟨hk', rfl, by show -10 * ((k + 1 : Nat) : Int) ≤ q + l[k].w ∧ q + l[k].w ≤ 10 * ((k + 1 : Nat) : Int); omega, by show _ = q + l[k].w + wtC C ((k + 1 : Nat) : Int) (l.drop (k + 1)); rw [he]; simp; omega⟩
    · rw [if_pos hc] at he
      exact lp_end (l.length - (k + 1)) (k + 1, q) [(0, 0)] (by omega) ⟨rfl, rfl, rfl, by repeat (first | exact trivial | refine ⟨rfl, ?_⟩), by repeat (first | exact trivial | refine ⟨rfl, ?_⟩)⟩ ⟨hk', rfl, by show -10 * ((k + 1 : Nat) : Int) ≤ q ∧ q ≤ 10 * ((k + 1 : Nat) : Int); omega, by show _ = q + wtC C ((k + 1 : Nat) : Int) (l.drop (k + 1)); rw [he]; simp⟩
  · have hk' : k = l.length := by omega
    subst hk'
    rw [List.drop_length] at he
    exact xt_fin (.inr rfl) rfl trivial ⟨rfl, by rw [he]; simp [wtC]⟩
end Go.Proofs.Ytobendpgedlaeaa
