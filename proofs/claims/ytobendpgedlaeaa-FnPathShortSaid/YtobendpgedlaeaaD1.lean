import Derived.Test.YtobendpgedlaeaaT2
import Derived.Test.YtobendpgedlaeaaEzc
namespace Go.Proofs.Ytobendpgedlaeaa
open Go.RowKit
attribute [local irreducible] AWP AL XT AC ES PS AH AH2 LpQ
/-- An entry of a directory: name, public key, weight. -/
structure En where
  n : Int
  p : Int
  w : Int
deriving DecidableEq
def enc (x : En) : List CV := [.int .i64 x.n, .int .i64 x.p, .int .i64 x.w]
def ena (x : En) : AV := .agg [.c (.int .i64 x.n), .c (.int .i64 x.p), .c (.int .i64 x.w)]
def ens (l : List En) : List CV := rows enc l
theorem ens_tgs {rt : List Nat} (l : List En) : CV.Tgs rt (ens l) := rows_tgs (fun a => by unfold enc; repeat' (first | exact trivial | refine And.intro ?_ ?_)) l
theorem ens_plain (l : List En) : Plain (ens l) := plain_rows (fun _ _ => rfl) l
/-- A directory whose entries are only read. -/
def dv (tg : Nat) (e : Int) (l : List En) : AV := .agg [.c (.int .i64 e), .c (.rd (tg + 1) l.length (ens l))]
def dbx (tg : Nat) (e : Int) (l : List En) : Ob := .box 25 [.c (.int .i64 e), .c (.rd (tg + 1) l.length (ens l))]
def elt (n : Int) : Bool := inB n 1 996
theorem inB_iff {n lo hi : Int} : inB n lo hi = true ↔ lo ≤ n ∧ n ≤ hi := by simp [inB]
theorem inB_nb {n lo hi : Int} : inB n lo hi = false ↔ ¬(lo ≤ n ∧ n ≤ hi) := by rw [← inB_iff]; simp
theorem elt_iff {n : Int} : elt n = true ↔ 1 ≤ n ∧ n ≤ 996 := inB_iff
set_option maxRecDepth 100000 in
theorem within_ac (n lo hi : Int) : AC Try.prog 58 [.h (.c (.int .i64 n)), .h (.c (.int .i64 lo)), .h (.c (.int .i64 hi))] [] [0] (fun r h => h = [] ∧ r = .h (.c (.bool (inB n lo hi)))) := by
  refine ac_body teok Try.func58 rfl (by kernel_rfl) Try.ntmps58 rfl rfl ?_
  intro w0 ps g0 im0
  repeat' (first | refine p1 rfl rfl rfl rfl ?_ | refine al_end ?_ | refine awp_seq ?_ | refine awp_region ?_ | refine awp_block ?_ | refine awp_skip' ?_ | refine awp_ret' ?_ | refine awp_exit' ?_ | refine xt_sq_n ?_ | refine xt_bk_n ?_ | refine xt_sq_r ?_ | refine xt_bk_r ?_ | refine xt_sq_x ?_ | refine xt_bk_eq ?_ | refine xt_bk_ne rfl ?_ | refine p0 rfl rfl rfl ?_ | refine p0n rfl rfl ?_ | refine pAr rfl rfl rfl rfl rfl rfl rfl (by omega) (by omega) ?_ | refine pBuild rfl rfl rfl rfl rfl rfl ?_ | refine pE (eAlloc rfl rfl rfl rfl) rfl ?_ | refine pE (eBox rfl rfl rfl rfl rfl) rfl ?_ | refine pE (eSt rfl rfl rfl rfl rfl rfl rfl rfl rfl) rfl ?_ | refine pE (eBs rfl rfl rfl rfl rfl rfl rfl rfl rfl) rfl ?_ | refine awp_cond (b := true) rfl (fun _ => ?_) (fun h => Bool.noConfusion h) | refine awp_cond (b := false) rfl (fun h => Bool.noConfusion h) (fun _ => ?_) | ((fail_if_success refine pG (b := true) rfl rfl ?_ ?_); (fail_if_success refine pG (b := false) rfl rfl ?_ ?_); (refine pG rfl rfl (fun hc => ?_) (fun hc => ?_)) <;> try simp at hc) | ((refine awp_cond rfl (fun hc => ?_) (fun hc => ?_)) <;> try simp at hc))
  all_goals exact xt_fin (.inr rfl) rfl trivial ⟨rfl, by first | (simp [inB, *]; done) | (simp [inB]; omega)⟩
set_option maxRecDepth 100000 in
theorem isName_ac (n : Int) : AC Try.prog 56 [.h (.c (.int .i64 n))] [] [0] (fun r h => h = [] ∧ r = .h (.c (.bool (inB n 0 7)))) := by
  refine ac_body teok Try.func56 rfl (by kernel_rfl) Try.ntmps56 rfl rfl ?_
  intro w0 ps g0 im0
  repeat' (first | refine p1 rfl rfl rfl rfl ?_ | refine al_end ?_ | refine awp_seq ?_ | refine awp_region ?_ | refine awp_block ?_ | refine awp_skip' ?_ | refine awp_ret' ?_ | refine awp_exit' ?_ | refine xt_sq_n ?_ | refine xt_bk_n ?_ | refine xt_sq_r ?_ | refine xt_bk_r ?_ | refine xt_sq_x ?_ | refine xt_bk_eq ?_ | refine xt_bk_ne rfl ?_ | refine p0 rfl rfl rfl ?_ | refine p0n rfl rfl ?_ | refine pAr rfl rfl rfl rfl rfl rfl rfl (by omega) (by omega) ?_ | refine pBuild rfl rfl rfl rfl rfl rfl ?_ | refine pE (eAlloc rfl rfl rfl rfl) rfl ?_ | refine pE (eBox rfl rfl rfl rfl rfl) rfl ?_ | refine pE (eSt rfl rfl rfl rfl rfl rfl rfl rfl rfl) rfl ?_ | refine pE (eBs rfl rfl rfl rfl rfl rfl rfl rfl rfl) rfl ?_ | refine awp_cond (b := true) rfl (fun _ => ?_) (fun h => Bool.noConfusion h) | refine awp_cond (b := false) rfl (fun h => Bool.noConfusion h) (fun _ => ?_) | ((fail_if_success refine pG (b := true) rfl rfl ?_ ?_); (fail_if_success refine pG (b := false) rfl rfl ?_ ?_); (refine pG rfl rfl (fun hc => ?_) (fun hc => ?_)) <;> try simp at hc) | ((refine awp_cond rfl (fun hc => ?_) (fun hc => ?_)) <;> try simp at hc) | refine pC0 (within_ac _ _ _) rfl rfl rfl rfl rfl rfl rfl (by decide) ?_)
  exact xt_fin (.inr rfl) rfl trivial ⟨rfl, rfl⟩
set_option maxRecDepth 100000 in
theorem isElement_ac (n : Int) : AC Try.prog 57 [.h (.c (.int .i64 n))] [] [0] (fun r h => h = [] ∧ r = .h (.c (.bool (elt n)))) := by
  refine ac_body teok Try.func57 rfl (by kernel_rfl) Try.ntmps57 rfl rfl ?_
  intro w0 ps g0 im0
  repeat' (first | refine p1 rfl rfl rfl rfl ?_ | refine al_end ?_ | refine awp_seq ?_ | refine awp_region ?_ | refine awp_block ?_ | refine awp_skip' ?_ | refine awp_ret' ?_ | refine awp_exit' ?_ | refine xt_sq_n ?_ | refine xt_bk_n ?_ | refine xt_sq_r ?_ | refine xt_bk_r ?_ | refine xt_sq_x ?_ | refine xt_bk_eq ?_ | refine xt_bk_ne rfl ?_ | refine p0 rfl rfl rfl ?_ | refine p0n rfl rfl ?_ | refine pAr rfl rfl rfl rfl rfl rfl rfl (by omega) (by omega) ?_ | refine pBuild rfl rfl rfl rfl rfl rfl ?_ | refine pE (eAlloc rfl rfl rfl rfl) rfl ?_ | refine pE (eBox rfl rfl rfl rfl rfl) rfl ?_ | refine pE (eSt rfl rfl rfl rfl rfl rfl rfl rfl rfl) rfl ?_ | refine pE (eBs rfl rfl rfl rfl rfl rfl rfl rfl rfl) rfl ?_ | refine awp_cond (b := true) rfl (fun _ => ?_) (fun h => Bool.noConfusion h) | refine awp_cond (b := false) rfl (fun h => Bool.noConfusion h) (fun _ => ?_) | ((fail_if_success refine pG (b := true) rfl rfl ?_ ?_); (fail_if_success refine pG (b := false) rfl rfl ?_ ?_); (refine pG rfl rfl (fun hc => ?_) (fun hc => ?_)) <;> try simp at hc) | ((refine awp_cond rfl (fun hc => ?_) (fun hc => ?_)) <;> try simp at hc) | refine pC0 (within_ac _ _ _) rfl rfl rfl rfl rfl rfl rfl (by decide) ?_)
  exact xt_fin (.inr rfl) rfl trivial ⟨rfl, rfl⟩
set_option maxRecDepth 100000 in
theorem isEpoch_ac (n : Int) : AC Try.prog 55 [.h (.c (.int .i64 n))] [] [0] (fun r h => h = [] ∧ r = .h (.c (.bool (inB n 0 99)))) := by
  refine ac_body teok Try.func55 rfl (by kernel_rfl) Try.ntmps55 rfl rfl ?_
  intro w0 ps g0 im0
  repeat' (first | refine p1 rfl rfl rfl rfl ?_ | refine al_end ?_ | refine awp_seq ?_ | refine awp_region ?_ | refine awp_block ?_ | refine awp_skip' ?_ | refine awp_ret' ?_ | refine awp_exit' ?_ | refine xt_sq_n ?_ | refine xt_bk_n ?_ | refine xt_sq_r ?_ | refine xt_bk_r ?_ | refine xt_sq_x ?_ | refine xt_bk_eq ?_ | refine xt_bk_ne rfl ?_ | refine p0 rfl rfl rfl ?_ | refine p0n rfl rfl ?_ | refine pAr rfl rfl rfl rfl rfl rfl rfl (by omega) (by omega) ?_ | refine pBuild rfl rfl rfl rfl rfl rfl ?_ | refine pE (eAlloc rfl rfl rfl rfl) rfl ?_ | refine pE (eBox rfl rfl rfl rfl rfl) rfl ?_ | refine pE (eSt rfl rfl rfl rfl rfl rfl rfl rfl rfl) rfl ?_ | refine pE (eBs rfl rfl rfl rfl rfl rfl rfl rfl rfl) rfl ?_ | refine awp_cond (b := true) rfl (fun _ => ?_) (fun h => Bool.noConfusion h) | refine awp_cond (b := false) rfl (fun h => Bool.noConfusion h) (fun _ => ?_) | ((fail_if_success refine pG (b := true) rfl rfl ?_ ?_); (fail_if_success refine pG (b := false) rfl rfl ?_ ?_); (refine pG rfl rfl (fun hc => ?_) (fun hc => ?_)) <;> try simp at hc) | ((refine awp_cond rfl (fun hc => ?_) (fun hc => ?_)) <;> try simp at hc) | refine pC0 (within_ac _ _ _) rfl rfl rfl rfl rfl rfl rfl (by decide) ?_)
  exact xt_fin (.inr rfl) rfl trivial ⟨rfl, rfl⟩
set_option maxRecDepth 100000 in
theorem l1Is_ac (n : Int) : AC Try.prog 60 [.h (.c (.int .i64 n))] [] [0] (fun r h => h = [] ∧ r = .h (.c (.bool (elt n)))) := by
  refine ac_body teok Try.func60 rfl (by kernel_rfl) Try.ntmps60 rfl rfl ?_
  intro w0 ps g0 im0
  repeat' (first | refine p1 rfl rfl rfl rfl ?_ | refine al_end ?_ | refine awp_seq ?_ | refine awp_region ?_ | refine awp_block ?_ | refine awp_skip' ?_ | refine awp_ret' ?_ | refine awp_exit' ?_ | refine xt_sq_n ?_ | refine xt_bk_n ?_ | refine xt_sq_r ?_ | refine xt_bk_r ?_ | refine xt_sq_x ?_ | refine xt_bk_eq ?_ | refine xt_bk_ne rfl ?_ | refine p0 rfl rfl rfl ?_ | refine p0n rfl rfl ?_ | refine pAr rfl rfl rfl rfl rfl rfl rfl (by omega) (by omega) ?_ | refine pBuild rfl rfl rfl rfl rfl rfl ?_ | refine pE (eAlloc rfl rfl rfl rfl) rfl ?_ | refine pE (eBox rfl rfl rfl rfl rfl) rfl ?_ | refine pE (eSt rfl rfl rfl rfl rfl rfl rfl rfl rfl) rfl ?_ | refine pE (eBs rfl rfl rfl rfl rfl rfl rfl rfl rfl) rfl ?_ | refine awp_cond (b := true) rfl (fun _ => ?_) (fun h => Bool.noConfusion h) | refine awp_cond (b := false) rfl (fun h => Bool.noConfusion h) (fun _ => ?_) | ((fail_if_success refine pG (b := true) rfl rfl ?_ ?_); (fail_if_success refine pG (b := false) rfl rfl ?_ ?_); (refine pG rfl rfl (fun hc => ?_) (fun hc => ?_)) <;> try simp at hc) | ((refine awp_cond rfl (fun hc => ?_) (fun hc => ?_)) <;> try simp at hc) | refine pC0 (l6In_ac _ _ _) rfl rfl rfl rfl rfl rfl rfl (by decide) ?_)
  exact xt_fin (.inr rfl) rfl trivial ⟨rfl, rfl⟩
/-! ### valid directories -/
def evOk (x : En) : Bool := inB x.n 0 7 && elt x.p && inB x.w 0 9
def evAt (l : List En) (j : Nat) : Bool := match l[j]? with
  | some x => evOk x && (j == 0 || match l[j - 1]? with | some y => decide (y.n < x.n) | none => true)
  | none => true
def evs (l : List En) : Bool := (List.range l.length).all (evAt l)
def dval (e : Int) (l : List En) : Bool := inB e 0 99 && decide (l.length ≤ 6) && evs l
theorem evs_false {l : List En} {k : Nat} (hk : k < l.length) (h : evAt l k = false) : evs l = false := by
  unfold evs
  rw [List.all_eq_false]
  exact ⟨k, by simpa using hk, by simp [h]⟩
theorem evs_true {l : List En} (h : ∀ j, j < l.length → evAt l j = true) : evs l = true := by
  unfold evs
  rw [List.all_eq_true]
  intro j hj
  exact h j (by simpa using hj)
theorem evs_at {l : List En} (h : evs l = true) {k : Nat} (hk : k < l.length) : evAt l k = true := by
  unfold evs at h
  exact List.all_eq_true.1 h k (by simpa using hk)
theorem evAt_pos {l : List En} {k : Nat} (hk : k < l.length) (h : 0 < k) : evAt l k = (evOk l[k] && decide ((l[k - 1]'(by omega)).n < l[k].n)) := by
  have h0 : (k == 0) = false := by simp; omega
  simp [evAt, hk, h0, List.getElem?_eq_getElem (show k - 1 < l.length by omega)]
theorem evAt_zero {l : List En} (hk : 0 < l.length) : evAt l 0 = evOk l[0] := by
  simp [evAt, hk]
theorem evAt_bad {l : List En} {k : Nat} (hk : k < l.length) (h : evOk l[k] = false) : evAt l k = false := by
  simp [evAt, hk, h]
theorem evAt_of {l : List En} {k : Nat} (hk : k < l.length) (h1 : evOk l[k] = true) (h2 : 0 < k → (l[k - 1]'(by omega)).n < l[k].n) : evAt l k = true := by
  rcases Nat.eq_zero_or_pos k with h | h
  · subst h; rw [evAt_zero hk, h1]
  · rw [evAt_pos hk h, h1, decide_eq_true (h2 h)]; rfl
theorem evAt_ok {l : List En} {k : Nat} (hk : k < l.length) (h : evAt l k = true) : evOk l[k] = true := by
  cases h1 : evOk l[k] with
  | true => rfl
  | false => rw [evAt_bad hk h1] at h; cases h
theorem evOk_iff {x : En} : evOk x = true ↔ (0 ≤ x.n ∧ x.n ≤ 7) ∧ (1 ≤ x.p ∧ x.p ≤ 996) ∧ (0 ≤ x.w ∧ x.w ≤ 9) := by simp [evOk, inB, elt, and_assoc]
theorem dval_iff {e : Int} {l : List En} : dval e l = true ↔ (0 ≤ e ∧ e ≤ 99) ∧ l.length ≤ 6 ∧ evs l = true := by simp [dval, inB, and_assoc]
theorem dval_ok {e : Int} {l : List En} (h : dval e l = true) : ∀ x ∈ l, (0 ≤ x.n ∧ x.n ≤ 7) ∧ (1 ≤ x.p ∧ x.p ≤ 996) ∧ (0 ≤ x.w ∧ x.w ≤ 9) := by
  intro x hx
  obtain ⟨k, hk, rfl⟩ := List.getElem_of_mem hx
  exact evOk_iff.1 (evAt_ok hk (evs_at (dval_iff.1 h).2.2 hk))
theorem nbX {b x c : Bool} (h : b = !x) (hc : b = c) : x = !c := by subst hc; subst h; simp
set_option maxHeartbeats 2000000 in
set_option maxRecDepth 100000 in
theorem implDV_ac (tg : Nat) (e : Int) (l : List En) (hl : l.length ≤ 2097152) : AC Try.prog 23 [dv tg e l] [] [0]
    (fun r h => h = [] ∧ r = .h (.c (.bool (dval e l)))) := by
  refine ac_body teok Try.func23 rfl (by kernel_rfl) Try.ntmps23 rfl rfl ?_
  intro w0 ps g0 im0
  repeat' (first | refine p1 rfl rfl rfl rfl ?_ | refine al_end ?_ | refine awp_seq ?_ | refine awp_region ?_ | refine awp_block ?_ | refine awp_skip' ?_ | refine awp_ret' ?_ | refine awp_exit' ?_ | refine xt_sq_n ?_ | refine xt_bk_n ?_ | refine xt_sq_r ?_ | refine xt_bk_r ?_ | refine xt_sq_x ?_ | refine xt_bk_eq ?_ | refine xt_bk_ne rfl ?_ | refine p0 rfl rfl rfl ?_ | refine p0n rfl rfl ?_ | refine pAr rfl rfl rfl rfl rfl rfl rfl (by omega) (by omega) ?_ | refine pBuild rfl rfl rfl rfl rfl rfl ?_ | refine pE (eAlloc rfl rfl rfl rfl) rfl ?_ | refine pE (eBox rfl rfl rfl rfl rfl) rfl ?_ | refine pE (eSt rfl rfl rfl rfl rfl rfl rfl rfl rfl) rfl ?_ | refine pE (eBs rfl rfl rfl rfl rfl rfl rfl rfl rfl) rfl ?_ | refine awp_cond (b := true) rfl (fun _ => ?_) (fun h => Bool.noConfusion h) | refine awp_cond (b := false) rfl (fun h => Bool.noConfusion h) (fun _ => ?_) | ((fail_if_success refine pG (b := true) rfl rfl ?_ ?_); (fail_if_success refine pG (b := false) rfl rfl ?_ ?_); (refine pG rfl rfl (fun hc => ?_) (fun hc => ?_)) <;> try simp at hc) | ((refine awp_cond rfl (fun hc => ?_) (fun hc => ?_)) <;> try simp at hc) | refine pC0 (isEpoch_ac _) rfl rfl rfl rfl rfl rfl rfl (by decide) ?_)
  · exact xt_fin (.inr rfl) rfl trivial ⟨rfl, by simp [dval, *]⟩
  · exact xt_fin (.inr rfl) rfl trivial ⟨rfl, by simp [dval]; omega⟩
  have he : inB e 0 99 = true := by assumption
  have h6 : l.length ≤ 6 := by omega
  refine awp_loopE (fun k : Nat => { fr := [(1, .h (.ptr 0 0)), (16, .h (.c (.rd (tg + 1) l.length (ens l)))), (17, .h (.c (.int .i64 l.length))), (18, .h (.c (.int .i64 k)))], hp := [(0, dbx tg e l)], nx := 1 })
    (fun n k => k ≤ l.length ∧ n = l.length - k ∧ ∀ j, j < k → evAt l j = true) l.length 0 [(0, 0)] ⟨rfl, rfl, rfl, by repeat (first | exact trivial | refine ⟨rfl, ?_⟩), by repeat (first | exact trivial | refine ⟨rfl, ?_⟩)⟩ ⟨Nat.zero_le _, rfl, fun j h => absurd h (by omega)⟩ ?_
  rintro n k ⟨hk, rfl, hno⟩
  repeat' (first | refine p1 rfl rfl rfl rfl ?_ | refine al_end ?_ | refine awp_seq ?_ | refine awp_region ?_ | refine awp_block ?_ | refine awp_skip' ?_ | refine awp_ret' ?_ | refine awp_exit' ?_ | refine xt_sq_n ?_ | refine xt_bk_n ?_ | refine xt_sq_r ?_ | refine xt_bk_r ?_ | refine xt_sq_x ?_ | refine xt_bk_eq ?_ | refine xt_bk_ne rfl ?_ | refine p0 rfl rfl rfl ?_ | refine p0n rfl rfl ?_ | refine pAr rfl rfl rfl rfl rfl rfl rfl (by omega) (by omega) ?_ | refine pBuild rfl rfl rfl rfl rfl rfl ?_ | refine pE (eAlloc rfl rfl rfl rfl) rfl ?_ | refine pE (eBox rfl rfl rfl rfl rfl) rfl ?_ | refine pE (eSt rfl rfl rfl rfl rfl rfl rfl rfl rfl) rfl ?_ | refine pE (eBs rfl rfl rfl rfl rfl rfl rfl rfl rfl) rfl ?_ | refine awp_cond (b := true) rfl (fun _ => ?_) (fun h => Bool.noConfusion h) | refine awp_cond (b := false) rfl (fun h => Bool.noConfusion h) (fun _ => ?_) | ((fail_if_success refine pG (b := true) rfl rfl ?_ ?_); (fail_if_success refine pG (b := false) rfl rfl ?_ ?_); (refine pG rfl rfl (fun hc => ?_) (fun hc => ?_)) <;> try simp at hc) | ((refine awp_cond rfl (fun hc => ?_) (fun hc => ?_)) <;> try simp at hc))
  · have hk' : k < l.length := by omega
    refine pIxR (f := enc) k rfl rfl rfl rfl rfl rfl rfl rfl rfl (fun _ => rfl) rfl rfl hk' ?_
    repeat (first | refine p1 rfl rfl rfl rfl ?_ | refine al_end ?_ | refine awp_seq ?_ | refine awp_region ?_ | refine awp_block ?_ | refine awp_skip' ?_ | refine awp_ret' ?_ | refine awp_exit' ?_ | refine xt_sq_n ?_ | refine xt_bk_n ?_ | refine xt_sq_r ?_ | refine xt_bk_r ?_ | refine xt_sq_x ?_ | refine xt_bk_eq ?_ | refine xt_bk_ne rfl ?_ | refine p0 rfl rfl rfl ?_ | refine p0n rfl rfl ?_ | refine pAr rfl rfl rfl rfl rfl rfl rfl (by omega) (by omega) ?_ | refine pBuild rfl rfl rfl rfl rfl rfl ?_ | refine pE (eAlloc rfl rfl rfl rfl) rfl ?_ | refine pE (eBox rfl rfl rfl rfl rfl) rfl ?_ | refine pE (eSt rfl rfl rfl rfl rfl rfl rfl rfl rfl) rfl ?_ | refine pE (eBs rfl rfl rfl rfl rfl rfl rfl rfl rfl) rfl ?_)
    refine awp_cut (fun s => ∃ b : Bool, b = !evAt l k ∧ s = { fr := [(54, .h (.c (.bool b))), (1, .h (.ptr 0 0)), (16, .h (.c (.rd (tg + 1) l.length (ens l)))), (17, .h (.c (.int .i64 l.length))), (18, .h (.c (.int .i64 k)))], hp := [(0, dbx tg e l)], nx := 1 }) ?_ ?_
    · ((repeat (first | refine awp_seq ?_ | refine awp_block ?_ | refine awp_skip' ?_ | refine xt_sq_n ?_ | refine xt_bk_n ?_)); refine awp_draw (CT.cons (0, true) <| CT.cons (1, true) <| CT.cons (2, false) <| CT.cons (3, true) <| CT.cons (4, true) <| CT.cons (5, true) <| CT.cons (6, true) <| CT.cons (7, false) <| CT.cons (8, true) <| CT.cons (9, true) <| CT.cons (10, true) <| CT.cons (11, true) <| CT.cons (12, true) <| CT.cons (13, false) <| CT.cons (14, true) <| CT.cons (15, true) <| CT.cons (16, true) <| CT.cons (17, true) <| CT.cons (18, true) <| CT.cons (19, true) <| CT.cons (20, true) <| CT.cons (21, true) <| CT.cons (22, true) <| CT.cons (23, true) <| CT.cons (24, true) <| CT.cons (25, true) <| CT.cons (26, true) <| CT.cons (27, true) <| CT.cons (28, true) <| CT.cons (29, true) <| CT.cons (30, true) <| CT.cons (31, true) <| CT.nil) [] mixed (by kernel_rfl) (by kernel_rfl) rfl rfl ?_)
      repeat' (first | refine d1 rfl rfl rfl rfl rfl ?_ | refine dBuild rfl rfl rfl rfl rfl rfl rfl ?_ | refine d0 rfl rfl rfl rfl ?_ | refine d0n rfl rfl rfl ?_ | refine dE rfl (eAlloc rfl rfl rfl rfl) rfl rfl rfl ?_ | refine dE rfl (eBox rfl rfl rfl rfl rfl) rfl rfl rfl ?_ | refine dE rfl (eSt rfl rfl rfl rfl rfl rfl rfl rfl rfl) rfl rfl rfl ?_ | refine dE rfl (eBs rfl rfl rfl rfl rfl rfl rfl rfl rfl) rfl rfl rfl ?_ | refine d2 rfl rfl rfl rfl rfl ?_ | refine ah_nil ?_ | refine dAr rfl rfl rfl rfl rfl rfl rfl rfl (by omega) (by omega) ?_ | ((fail_if_success refine dG (b := true) rfl rfl rfl ?_ ?_); (fail_if_success refine dG (b := false) rfl rfl rfl ?_ ?_); (refine dG rfl rfl rfl (fun hc => ?_) (fun hc => ?_)) <;> try simp at hc) | refine dC1 (isName_ac _) rfl rfl rfl rfl rfl rfl rfl rfl (by decide) ?_ | refine dC1 (isElement_ac _) rfl rfl rfl rfl rfl rfl rfl rfl (by decide) ?_ | refine dC1 (within_ac _ _ _) rfl rfl rfl rfl rfl rfl rfl rfl (by decide) ?_)
      all_goals try (refine dIxR (f := enc) (k - 1) rfl rfl rfl rfl rfl rfl rfl rfl rfl rfl (fun _ => rfl) rfl (by omega) (by omega) ?_)
      repeat' (first | refine d1 rfl rfl rfl rfl rfl ?_ | refine dBuild rfl rfl rfl rfl rfl rfl rfl ?_ | refine d0 rfl rfl rfl rfl ?_ | refine d0n rfl rfl rfl ?_ | refine dE rfl (eAlloc rfl rfl rfl rfl) rfl rfl rfl ?_ | refine dE rfl (eBox rfl rfl rfl rfl rfl) rfl rfl rfl ?_ | refine dE rfl (eSt rfl rfl rfl rfl rfl rfl rfl rfl rfl) rfl rfl rfl ?_ | refine dE rfl (eBs rfl rfl rfl rfl rfl rfl rfl rfl rfl) rfl rfl rfl ?_ | refine d2 rfl rfl rfl rfl rfl ?_ | refine ah_nil ?_ | refine dAr rfl rfl rfl rfl rfl rfl rfl rfl (by omega) (by omega) ?_ | ((fail_if_success refine dG (b := true) rfl rfl rfl ?_ ?_); (fail_if_success refine dG (b := false) rfl rfl rfl ?_ ?_); (refine dG rfl rfl rfl (fun hc => ?_) (fun hc => ?_)) <;> try simp at hc))
      all_goals (refine xt_cutE _ [(0, 0)] ⟨rfl, rfl, rfl, by repeat (first | exact trivial | refine ⟨rfl, ?_⟩), by repeat (first | exact trivial | refine ⟨rfl, ?_⟩)⟩ ?_)
      all_goals first
        | (rw [evAt_bad hk' (by simp [evOk, *])]; rfl)
        | (rw [evAt_pos hk' (by omega), show evOk l[k] = true by simp [evOk, *], Bool.true_and, Bool.eq_iff_iff]; simp)
        | (rw [evAt_of hk' (by subst hc; simp [evOk, *]) (fun h => by omega)]; rfl)
    rintro _ ⟨b, hb, rfl⟩
    repeat' (first | refine p1 rfl rfl rfl rfl ?_ | refine al_end ?_ | refine awp_seq ?_ | refine awp_region ?_ | refine awp_block ?_ | refine awp_skip' ?_ | refine awp_ret' ?_ | refine awp_exit' ?_ | refine xt_sq_n ?_ | refine xt_bk_n ?_ | refine xt_sq_r ?_ | refine xt_bk_r ?_ | refine xt_sq_x ?_ | refine xt_bk_eq ?_ | refine xt_bk_ne rfl ?_ | refine p0 rfl rfl rfl ?_ | refine p0n rfl rfl ?_ | refine pAr rfl rfl rfl rfl rfl rfl rfl (by omega) (by omega) ?_ | refine pBuild rfl rfl rfl rfl rfl rfl ?_ | refine pE (eAlloc rfl rfl rfl rfl) rfl ?_ | refine pE (eBox rfl rfl rfl rfl rfl) rfl ?_ | refine pE (eSt rfl rfl rfl rfl rfl rfl rfl rfl rfl) rfl ?_ | refine pE (eBs rfl rfl rfl rfl rfl rfl rfl rfl rfl) rfl ?_ | refine awp_cond (b := true) rfl (fun _ => ?_) (fun h => Bool.noConfusion h) | refine awp_cond (b := false) rfl (fun h => Bool.noConfusion h) (fun _ => ?_) | ((fail_if_success refine pG (b := true) rfl rfl ?_ ?_); (fail_if_success refine pG (b := false) rfl rfl ?_ ?_); (refine pG rfl rfl (fun hc => ?_) (fun hc => ?_)) <;> try simp at hc) | ((refine awp_cond rfl (fun hc => ?_) (fun hc => ?_)) <;> try simp at hc))
    · exact xt_fin (.inr rfl) rfl trivial ⟨rfl, by simp [dval, evs_false hk' (nbX hb hc)]⟩
    · exact lp_end (l.length - (k + 1)) (k + 1) [(0, 0)] (by omega) ⟨rfl, rfl, rfl, by repeat (first | exact trivial | refine ⟨rfl, ?_⟩), by repeat (first | exact trivial | refine ⟨rfl, ?_⟩)⟩ ⟨hk', rfl, upTo hno (nbX hb hc)⟩
  · exact xt_fin (.inr rfl) rfl trivial ⟨rfl, by rw [show dval e l = true from by simp [dval, he, h6, evs_true fun j hj => hno j (by omega)]]⟩
set_option maxHeartbeats 2000000 in
set_option maxRecDepth 100000 in
theorem specDV_ac (tg : Nat) (e : Int) (l : List En) (hl : l.length ≤ 2097152) : AC Try.prog 24 [dv tg e l] [] [0]
    (fun r h => h = [] ∧ r = .h (.c (.bool (dval e l)))) := by
  refine ac_body teok Try.func24 rfl (by kernel_rfl) Try.ntmps24 rfl rfl ?_
  intro w0 ps g0 im0
  repeat (first | refine p1 rfl rfl rfl rfl ?_ | refine al_end ?_ | refine awp_seq ?_ | refine awp_region ?_ | refine awp_block ?_ | refine awp_skip' ?_ | refine awp_ret' ?_ | refine awp_exit' ?_ | refine xt_sq_n ?_ | refine xt_bk_n ?_ | refine xt_sq_r ?_ | refine xt_bk_r ?_ | refine xt_sq_x ?_ | refine xt_bk_eq ?_ | refine xt_bk_ne rfl ?_ | refine p0 rfl rfl rfl ?_ | refine p0n rfl rfl ?_ | refine pAr rfl rfl rfl rfl rfl rfl rfl (by omega) (by omega) ?_ | refine pBuild rfl rfl rfl rfl rfl rfl ?_ | refine pE (eAlloc rfl rfl rfl rfl) rfl ?_ | refine pE (eBox rfl rfl rfl rfl rfl) rfl ?_ | refine pE (eSt rfl rfl rfl rfl rfl rfl rfl rfl rfl) rfl ?_ | refine pE (eBs rfl rfl rfl rfl rfl rfl rfl rfl rfl) rfl ?_)
  refine awp_loopE (fun k : Nat => { fr := [(1, .h (.ptr 0 0)), (3, .h (.c (.int .i64 k)))], hp := [(0, dbx tg e l)], nx := 1 })
    (fun n k => k ≤ l.length ∧ n = l.length - k ∧ ∀ j, j < k → evAt l j = true) l.length 0 [(0, 0)] ⟨rfl, rfl, rfl, by repeat (first | exact trivial | refine ⟨rfl, ?_⟩), by repeat (first | exact trivial | refine ⟨rfl, ?_⟩)⟩ ⟨Nat.zero_le _, rfl, fun j h => absurd h (by omega)⟩ ?_
  rintro n k ⟨hk, rfl, hno⟩
  repeat' (first | refine p1 rfl rfl rfl rfl ?_ | refine al_end ?_ | refine awp_seq ?_ | refine awp_region ?_ | refine awp_block ?_ | refine awp_skip' ?_ | refine awp_ret' ?_ | refine awp_exit' ?_ | refine xt_sq_n ?_ | refine xt_bk_n ?_ | refine xt_sq_r ?_ | refine xt_bk_r ?_ | refine xt_sq_x ?_ | refine xt_bk_eq ?_ | refine xt_bk_ne rfl ?_ | refine p0 rfl rfl rfl ?_ | refine p0n rfl rfl ?_ | refine pAr rfl rfl rfl rfl rfl rfl rfl (by omega) (by omega) ?_ | refine pBuild rfl rfl rfl rfl rfl rfl ?_ | refine pE (eAlloc rfl rfl rfl rfl) rfl ?_ | refine pE (eBox rfl rfl rfl rfl rfl) rfl ?_ | refine pE (eSt rfl rfl rfl rfl rfl rfl rfl rfl rfl) rfl ?_ | refine pE (eBs rfl rfl rfl rfl rfl rfl rfl rfl rfl) rfl ?_ | refine awp_cond (b := true) rfl (fun _ => ?_) (fun h => Bool.noConfusion h) | refine awp_cond (b := false) rfl (fun h => Bool.noConfusion h) (fun _ => ?_) | ((fail_if_success refine pG (b := true) rfl rfl ?_ ?_); (fail_if_success refine pG (b := false) rfl rfl ?_ ?_); (refine pG rfl rfl (fun hc => ?_) (fun hc => ?_)) <;> try simp at hc) | ((refine awp_cond rfl (fun hc => ?_) (fun hc => ?_)) <;> try simp at hc))
  · have hk' : k < l.length := by omega
    refine pIxR (f := enc) k rfl rfl rfl rfl rfl rfl rfl rfl rfl (fun _ => rfl) rfl rfl hk' ?_
    repeat (first | refine p1 rfl rfl rfl rfl ?_ | refine al_end ?_ | refine awp_seq ?_ | refine awp_region ?_ | refine awp_block ?_ | refine awp_skip' ?_ | refine awp_ret' ?_ | refine awp_exit' ?_ | refine xt_sq_n ?_ | refine xt_bk_n ?_ | refine xt_sq_r ?_ | refine xt_bk_r ?_ | refine xt_sq_x ?_ | refine xt_bk_eq ?_ | refine xt_bk_ne rfl ?_ | refine p0 rfl rfl rfl ?_ | refine p0n rfl rfl ?_ | refine pAr rfl rfl rfl rfl rfl rfl rfl (by omega) (by omega) ?_ | refine pBuild rfl rfl rfl rfl rfl rfl ?_ | refine pE (eAlloc rfl rfl rfl rfl) rfl ?_ | refine pE (eBox rfl rfl rfl rfl rfl) rfl ?_ | refine pE (eSt rfl rfl rfl rfl rfl rfl rfl rfl rfl) rfl ?_ | refine pE (eBs rfl rfl rfl rfl rfl rfl rfl rfl rfl) rfl ?_)
    refine awp_cut (fun s => ∃ b : Bool, b = !evAt l k ∧ s = { fr := [(48, .h (.c (.bool b))), (1, .h (.ptr 0 0)), (3, .h (.c (.int .i64 k)))], hp := [(0, dbx tg e l)], nx := 1 }) ?_ ?_
    · ((repeat (first | refine awp_seq ?_ | refine awp_block ?_ | refine awp_skip' ?_ | refine xt_sq_n ?_ | refine xt_bk_n ?_)); refine awp_draw (CT.cons (0, true) <| CT.cons (1, true) <| CT.cons (2, false) <| CT.cons (3, true) <| CT.cons (4, true) <| CT.cons (5, true) <| CT.cons (6, true) <| CT.cons (7, false) <| CT.cons (8, true) <| CT.cons (9, true) <| CT.cons (10, true) <| CT.cons (11, true) <| CT.cons (12, true) <| CT.cons (13, false) <| CT.cons (14, true) <| CT.cons (15, true) <| CT.cons (16, true) <| CT.cons (17, true) <| CT.cons (18, true) <| CT.cons (19, true) <| CT.cons (20, true) <| CT.cons (21, true) <| CT.cons (22, true) <| CT.cons (23, true) <| CT.cons (24, true) <| CT.cons (25, true) <| CT.cons (26, true) <| CT.cons (27, true) <| CT.cons (28, true) <| CT.cons (29, true) <| CT.cons (30, true) <| CT.cons (31, true) <| CT.nil) [] mixed (by kernel_rfl) (by kernel_rfl) rfl rfl ?_)
      repeat' (first | refine d1 rfl rfl rfl rfl rfl ?_ | refine dBuild rfl rfl rfl rfl rfl rfl rfl ?_ | refine d0 rfl rfl rfl rfl ?_ | refine d0n rfl rfl rfl ?_ | refine dE rfl (eAlloc rfl rfl rfl rfl) rfl rfl rfl ?_ | refine dE rfl (eBox rfl rfl rfl rfl rfl) rfl rfl rfl ?_ | refine dE rfl (eSt rfl rfl rfl rfl rfl rfl rfl rfl rfl) rfl rfl rfl ?_ | refine dE rfl (eBs rfl rfl rfl rfl rfl rfl rfl rfl rfl) rfl rfl rfl ?_ | refine d2 rfl rfl rfl rfl rfl ?_ | refine ah_nil ?_ | refine dAr rfl rfl rfl rfl rfl rfl rfl rfl (by omega) (by omega) ?_ | ((fail_if_success refine dG (b := true) rfl rfl rfl ?_ ?_); (fail_if_success refine dG (b := false) rfl rfl rfl ?_ ?_); (refine dG rfl rfl rfl (fun hc => ?_) (fun hc => ?_)) <;> try simp at hc) | refine dC1 (l6In_ac _ _ _) rfl rfl rfl rfl rfl rfl rfl rfl (by decide) ?_ | refine dC1 (l1Is_ac _) rfl rfl rfl rfl rfl rfl rfl rfl (by decide) ?_)
      all_goals try (refine dIxR (f := enc) (k - 1) rfl rfl rfl rfl rfl rfl rfl rfl rfl rfl (fun _ => rfl) rfl (by omega) (by omega) ?_)
      repeat' (first | refine d1 rfl rfl rfl rfl rfl ?_ | refine dBuild rfl rfl rfl rfl rfl rfl rfl ?_ | refine d0 rfl rfl rfl rfl ?_ | refine d0n rfl rfl rfl ?_ | refine dE rfl (eAlloc rfl rfl rfl rfl) rfl rfl rfl ?_ | refine dE rfl (eBox rfl rfl rfl rfl rfl) rfl rfl rfl ?_ | refine dE rfl (eSt rfl rfl rfl rfl rfl rfl rfl rfl rfl) rfl rfl rfl ?_ | refine dE rfl (eBs rfl rfl rfl rfl rfl rfl rfl rfl rfl) rfl rfl rfl ?_ | refine d2 rfl rfl rfl rfl rfl ?_ | refine ah_nil ?_ | refine dAr rfl rfl rfl rfl rfl rfl rfl rfl (by omega) (by omega) ?_ | ((fail_if_success refine dG (b := true) rfl rfl rfl ?_ ?_); (fail_if_success refine dG (b := false) rfl rfl rfl ?_ ?_); (refine dG rfl rfl rfl (fun hc => ?_) (fun hc => ?_)) <;> try simp at hc))
      all_goals (refine xt_cutE _ [(0, 0)] ⟨rfl, rfl, rfl, by repeat (first | exact trivial | refine ⟨rfl, ?_⟩), by repeat (first | exact trivial | refine ⟨rfl, ?_⟩)⟩ ?_)
      all_goals first
        | (rw [evAt_bad hk' (by simp [evOk, *])]; rfl)
        | (rw [evAt_pos hk' (by omega), show evOk l[k] = true by simp [evOk, *], Bool.true_and, Bool.eq_iff_iff]; simp)
        | (rw [evAt_of hk' (by subst hc; simp [evOk, *]) (fun h => by omega)]; rfl)
    rintro _ ⟨b, hb, rfl⟩
    repeat' (first | refine p1 rfl rfl rfl rfl ?_ | refine al_end ?_ | refine awp_seq ?_ | refine awp_region ?_ | refine awp_block ?_ | refine awp_skip' ?_ | refine awp_ret' ?_ | refine awp_exit' ?_ | refine xt_sq_n ?_ | refine xt_bk_n ?_ | refine xt_sq_r ?_ | refine xt_bk_r ?_ | refine xt_sq_x ?_ | refine xt_bk_eq ?_ | refine xt_bk_ne rfl ?_ | refine p0 rfl rfl rfl ?_ | refine p0n rfl rfl ?_ | refine pAr rfl rfl rfl rfl rfl rfl rfl (by omega) (by omega) ?_ | refine pBuild rfl rfl rfl rfl rfl rfl ?_ | refine pE (eAlloc rfl rfl rfl rfl) rfl ?_ | refine pE (eBox rfl rfl rfl rfl rfl) rfl ?_ | refine pE (eSt rfl rfl rfl rfl rfl rfl rfl rfl rfl) rfl ?_ | refine pE (eBs rfl rfl rfl rfl rfl rfl rfl rfl rfl) rfl ?_ | refine awp_cond (b := true) rfl (fun _ => ?_) (fun h => Bool.noConfusion h) | refine awp_cond (b := false) rfl (fun h => Bool.noConfusion h) (fun _ => ?_) | ((fail_if_success refine pG (b := true) rfl rfl ?_ ?_); (fail_if_success refine pG (b := false) rfl rfl ?_ ?_); (refine pG rfl rfl (fun hc => ?_) (fun hc => ?_)) <;> try simp at hc) | ((refine awp_cond rfl (fun hc => ?_) (fun hc => ?_)) <;> try simp at hc))
    · exact xt_fin (.inr rfl) rfl trivial ⟨rfl, by simp [dval, evs_false hk' (nbX hb hc)]⟩
    · exact lp_end (l.length - (k + 1)) (k + 1) [(0, 0)] (by omega) ⟨rfl, rfl, rfl, by repeat (first | exact trivial | refine ⟨rfl, ?_⟩), by repeat (first | exact trivial | refine ⟨rfl, ?_⟩)⟩ ⟨hk', rfl, upTo hno (nbX hb hc)⟩
  · have hev : evs l = true := evs_true fun j hj => hno j (by omega)
    repeat' (first | refine p1 rfl rfl rfl rfl ?_ | refine al_end ?_ | refine awp_seq ?_ | refine awp_region ?_ | refine awp_block ?_ | refine awp_skip' ?_ | refine awp_ret' ?_ | refine awp_exit' ?_ | refine xt_sq_n ?_ | refine xt_bk_n ?_ | refine xt_sq_r ?_ | refine xt_bk_r ?_ | refine xt_sq_x ?_ | refine xt_bk_eq ?_ | refine xt_bk_ne rfl ?_ | refine p0 rfl rfl rfl ?_ | refine p0n rfl rfl ?_ | refine pAr rfl rfl rfl rfl rfl rfl rfl (by omega) (by omega) ?_ | refine pBuild rfl rfl rfl rfl rfl rfl ?_ | refine pE (eAlloc rfl rfl rfl rfl) rfl ?_ | refine pE (eBox rfl rfl rfl rfl rfl) rfl ?_ | refine pE (eSt rfl rfl rfl rfl rfl rfl rfl rfl rfl) rfl ?_ | refine pE (eBs rfl rfl rfl rfl rfl rfl rfl rfl rfl) rfl ?_ | refine awp_cond (b := true) rfl (fun _ => ?_) (fun h => Bool.noConfusion h) | refine awp_cond (b := false) rfl (fun h => Bool.noConfusion h) (fun _ => ?_) | ((fail_if_success refine pG (b := true) rfl rfl ?_ ?_); (fail_if_success refine pG (b := false) rfl rfl ?_ ?_); (refine pG rfl rfl (fun hc => ?_) (fun hc => ?_)) <;> try simp at hc) | ((refine awp_cond rfl (fun hc => ?_) (fun hc => ?_)) <;> try simp at hc) | refine pC0 (l6In_ac _ _ _) rfl rfl rfl rfl rfl rfl rfl (by decide) ?_)
    all_goals exact xt_fin (.inr rfl) rfl trivial ⟨rfl, by first | (simp [dval, *]; done) | (simp [dval, *]; omega)⟩
end Go.Proofs.Ytobendpgedlaeaa
