import Derived.Test.YthmgfgiaagkdeaaG5
namespace Go.Proofs.Ythmgfgiaagkdeaa
open Go.RowKit
attribute [local irreducible] AWP AL XT AC ES PS AH AH2 LpQ
def opnV (keys body : List Int) : List Int := keys.foldl (fun l k => onV k l) body
def repOk (keys body : List Int) : Bool := pth keys && decide (body.length = 6) && lst body
def repR (keys body : List Int) : List Int := if repOk keys body then openR (opnV keys body) else []
def repB (keys body : List Int) : Bool := repOk keys body && openOk (opnV keys body)
theorem opnV_len (keys body : List Int) : (opnV keys body).length = body.length := by
  unfold opnV
  induction keys generalizing body with
  | nil => rfl
  | cons k r ih => simp only [List.foldl_cons]; rw [ih, onV_len]
theorem opnV_lst {keys body : List Int} (h : lst body = true) : lst (opnV keys body) = true := by
  unfold opnV
  induction keys generalizing body with
  | nil => exact h
  | cons k r ih => exact ih (onV_lst (lst_iff.1 h).1)
theorem opnV_step {keys body : List Int} {k : Nat} (hk : k < keys.length) : opnV (keys.take (k + 1)) body = onV keys[k] (opnV (keys.take k) body) := by
  unfold opnV
  rw [List.take_succ_eq_append_getElem hk, List.foldl_append]; rfl
theorem pth_iff {l : List Int} : pth l = true ↔ (∀ n ∈ l, elt n = true) ∧ 1 ≤ l.length ∧ l.length ≤ 3 := by
  simp only [pth, Bool.and_eq_true, List.all_eq_true, inB_iff]
  constructor
  · rintro ⟨h1, h2, h3⟩; exact ⟨h1, by omega, by omega⟩
  · rintro ⟨h1, h2, h3⟩; exact ⟨h1, by omega, by omega⟩
theorem rep_no {keys body : List Int} (h : pth keys = false ∨ ¬ body.length = 6 ∨ lst body = false) : repR keys body = [] ∧ repB keys body = false := by
  have : repOk keys body = false := by
    unfold repOk
    rcases h with h | h | h
    · rw [h]; rfl
    · rw [decide_eq_false h, Bool.and_false]; rfl
    · rw [h, Bool.and_false]
  simp [repR, repB, this]
set_option maxHeartbeats 2000000 in
set_option maxRecDepth 100000 in
theorem specReply_ac (t1 t2 : Nat) (keys body : List Int) (hk : keys.length ≤ 1099511627776) (hb : body.length ≤ 1099511627776) : AC Try.prog 27 [.h (.c (.rd (t1 + 1) keys.length (ints keys))), .h (.c (.rd (t2 + 1) body.length (ints body)))] [] [0]
    (fun r h => h = [.arr 3 1 (ints (repR keys body))] ∧ r = .tup [.h (.sl 0 0 (repR keys body).length), .h (.c (.bool (repB keys body)))]) := by
  have h1 := l5Publics_ac (t1 + 1) keys hk
  have h2 := l2List_ac (t2 + 1) body hb
  refine ac_body teok Try.func27 rfl (by kernel_rfl) Try.ntmps27 rfl rfl ?_
  intro w0 ps g0 im0
  repeat' (first | refine p1 rfl rfl rfl rfl ?_ | refine al_end ?_ | refine awp_seq ?_ | refine awp_region ?_ | refine awp_block ?_ | refine awp_skip' ?_ | refine awp_ret' ?_ | refine awp_exit' ?_ | refine xt_sq_n ?_ | refine xt_bk_n ?_ | refine xt_sq_r ?_ | refine xt_bk_r ?_ | refine xt_sq_x ?_ | refine xt_bk_eq ?_ | refine xt_bk_ne rfl ?_ | refine p0 rfl rfl rfl ?_ | refine p0n rfl rfl ?_ | refine pAr rfl rfl rfl rfl rfl rfl rfl (by omega) (by omega) ?_ | refine pBuild rfl rfl rfl rfl rfl rfl ?_ | refine pE (eAlloc rfl rfl rfl rfl) rfl ?_ | refine pE (eBox rfl rfl rfl rfl rfl) rfl ?_ | refine pE (eSt rfl rfl rfl rfl rfl rfl rfl rfl rfl) rfl ?_ | refine pE (eBs rfl rfl rfl rfl rfl rfl rfl rfl rfl) rfl ?_ | refine awp_cond (b := true) rfl (fun _ => ?_) (fun h => Bool.noConfusion h) | refine awp_cond (b := false) rfl (fun h => Bool.noConfusion h) (fun _ => ?_) | ((fail_if_success refine pG (b := true) rfl rfl ?_ ?_); (fail_if_success refine pG (b := false) rfl rfl ?_ ?_); (refine pG rfl rfl (fun hc => ?_) (fun hc => ?_)) <;> try simp at hc) | ((refine awp_cond rfl (fun hc => ?_) (fun hc => ?_)) <;> try simp at hc) | refine pC0 (h1) rfl rfl rfl rfl rfl rfl rfl (by decide) ?_ | refine pC0 (h2) rfl rfl rfl rfl rfl rfl rfl (by decide) ?_)
  iterate 3
    · obtain ⟨h0, h1⟩ := rep_no (keys := keys) (body := body) (by first | exact .inl (by assumption) | exact .inr (.inr (by assumption)) | exact .inr (.inl (by omega)))
      rw [h0, h1]
      exact xt_finG [(0, 0)] (.tup [.h (.sl 0 0 0), .h (.c (.bool false))]) [.arr 3 1 []] (.inr rfl) rfl rfl rfl rfl rfl ⟨rfl, trivial⟩ ⟨trivial, trivial, trivial⟩ ⟨trivial, trivial⟩ ⟨rfl, rfl⟩
  have hp : pth keys = true := by assumption
  have hl : lst body = true := by assumption
  have h6 : body.length = 6 := by omega
  obtain ⟨hke, hk1, hk3⟩ := pth_iff.1 hp
  have hok : repOk keys body = true := by rw [repOk, hp, hl, decide_eq_true h6]; rfl
  rw [repR, if_pos hok, repB, hok, Bool.true_and]
  refine pApR (f := int1) (L := []) (M := body) rfl rfl rfl rfl rfl rfl rfl rfl rfl rfl rfl (fun _ => rfl) rfl rfl (by omega) rfl ?_
  repeat (first | refine p1 rfl rfl rfl rfl ?_ | refine al_end ?_ | refine awp_seq ?_ | refine awp_region ?_ | refine awp_block ?_ | refine awp_skip' ?_ | refine awp_ret' ?_ | refine awp_exit' ?_ | refine xt_sq_n ?_ | refine xt_bk_n ?_ | refine xt_sq_r ?_ | refine xt_bk_r ?_ | refine xt_sq_x ?_ | refine xt_bk_eq ?_ | refine xt_bk_ne rfl ?_ | refine p0 rfl rfl rfl ?_ | refine p0n rfl rfl ?_ | refine pAr rfl rfl rfl rfl rfl rfl rfl (by omega) (by omega) ?_ | refine pBuild rfl rfl rfl rfl rfl rfl ?_ | refine pE (eAlloc rfl rfl rfl rfl) rfl ?_ | refine pE (eBox rfl rfl rfl rfl rfl) rfl ?_ | refine pE (eSt rfl rfl rfl rfl rfl rfl rfl rfl rfl) rfl ?_ | refine pE (eBs rfl rfl rfl rfl rfl rfl rfl rfl rfl) rfl ?_)
  refine awp_loopE (fun k : Nat => { fr := [(0, .h (.c (.rd (t1 + 1) keys.length (ints keys)))), (6, .h (.sl 0 0 6)), (7, .h (.c (.int .i64 k)))], hp := [(0, .arr 3 1 (ints (opnV (keys.take k) body)))], nx := 1 })
    (fun n k => k ≤ keys.length ∧ n = keys.length - k) keys.length 0 [(0, 1)] ⟨rfl, rfl, rfl, by rw [Nat.zero_add, h6]; repeat (first | exact trivial | refine ⟨rfl, ?_⟩), by repeat (first | exact trivial | refine ⟨rfl, ?_⟩)⟩ ⟨Nat.zero_le _, rfl⟩ ?_
  rintro n k ⟨hk, rfl⟩
  have hlk := opnV_lst (keys := keys.take k) hl
  have hnk := opnV_len (keys.take k) body
  repeat' (first | refine p1 rfl rfl rfl rfl ?_ | refine al_end ?_ | refine awp_seq ?_ | refine awp_region ?_ | refine awp_block ?_ | refine awp_skip' ?_ | refine awp_ret' ?_ | refine awp_exit' ?_ | refine xt_sq_n ?_ | refine xt_bk_n ?_ | refine xt_sq_r ?_ | refine xt_bk_r ?_ | refine xt_sq_x ?_ | refine xt_bk_eq ?_ | refine xt_bk_ne rfl ?_ | refine p0 rfl rfl rfl ?_ | refine p0n rfl rfl ?_ | refine pAr rfl rfl rfl rfl rfl rfl rfl (by omega) (by omega) ?_ | refine pBuild rfl rfl rfl rfl rfl rfl ?_ | refine pE (eAlloc rfl rfl rfl rfl) rfl ?_ | refine pE (eBox rfl rfl rfl rfl rfl) rfl ?_ | refine pE (eSt rfl rfl rfl rfl rfl rfl rfl rfl rfl) rfl ?_ | refine pE (eBs rfl rfl rfl rfl rfl rfl rfl rfl rfl) rfl ?_ | refine awp_cond (b := true) rfl (fun _ => ?_) (fun h => Bool.noConfusion h) | refine awp_cond (b := false) rfl (fun h => Bool.noConfusion h) (fun _ => ?_) | ((fail_if_success refine pG (b := true) rfl rfl ?_ ?_); (fail_if_success refine pG (b := false) rfl rfl ?_ ?_); (refine pG rfl rfl (fun hc => ?_) (fun hc => ?_)) <;> try simp at hc) | ((refine awp_cond rfl (fun hc => ?_) (fun hc => ?_)) <;> try simp at hc))
  · have hk' : k < keys.length := by omega
    refine pIxR (f := int1) (L := keys) k rfl rfl rfl rfl rfl rfl rfl rfl rfl (fun _ => rfl) rfl rfl hk' ?_
    repeat (first | refine p1 rfl rfl rfl rfl ?_ | refine al_end ?_ | refine awp_seq ?_ | refine awp_region ?_ | refine awp_block ?_ | refine awp_skip' ?_ | refine awp_ret' ?_ | refine awp_exit' ?_ | refine xt_sq_n ?_ | refine xt_bk_n ?_ | refine xt_sq_r ?_ | refine xt_bk_r ?_ | refine xt_sq_x ?_ | refine xt_bk_eq ?_ | refine xt_bk_ne rfl ?_ | refine p0 rfl rfl rfl ?_ | refine p0n rfl rfl ?_ | refine pAr rfl rfl rfl rfl rfl rfl rfl (by omega) (by omega) ?_ | refine pBuild rfl rfl rfl rfl rfl rfl ?_ | refine pE (eAlloc rfl rfl rfl rfl) rfl ?_ | refine pE (eBox rfl rfl rfl rfl rfl) rfl ?_ | refine pE (eSt rfl rfl rfl rfl rfl rfl rfl rfl rfl) rfl ?_ | refine pE (eBs rfl rfl rfl rfl rfl rfl rfl rfl rfl) rfl ?_)
    have hon := l2On_ac 99 keys[k] (opnV (keys.take k) body) (hke _ (List.getElem_mem hk')) hlk
    rw [onV_len, hnk, h6, ← opnV_step hk'] at hon
    have hpl := ints_plain (opnV (keys.take k) body)
    refine pCn (hon) rfl rfl rfl rfl rfl (by decide) (by repeat' (first | exact trivial | exact rfl | refine And.intro ?_ ?_ | exact Or.inl ⟨_, rfl, rfl⟩ | exact ⟨_, rfl, rfl⟩ | exact bor_sl rfl (by assumption) | exact bor_ios rfl | exact bor_ios1 rfl | exact bor_iosJ rfl)) ?_
    repeat (first | refine p1 rfl rfl rfl rfl ?_ | refine al_end ?_ | refine awp_seq ?_ | refine awp_region ?_ | refine awp_block ?_ | refine awp_skip' ?_ | refine awp_ret' ?_ | refine awp_exit' ?_ | refine xt_sq_n ?_ | refine xt_bk_n ?_ | refine xt_sq_r ?_ | refine xt_bk_r ?_ | refine xt_sq_x ?_ | refine xt_bk_eq ?_ | refine xt_bk_ne rfl ?_ | refine p0 rfl rfl rfl ?_ | refine p0n rfl rfl ?_ | refine pAr rfl rfl rfl rfl rfl rfl rfl (by omega) (by omega) ?_ | refine pBuild rfl rfl rfl rfl rfl rfl ?_ | refine pE (eAlloc rfl rfl rfl rfl) rfl ?_ | refine pE (eBox rfl rfl rfl rfl rfl) rfl ?_ | refine pE (eSt rfl rfl rfl rfl rfl rfl rfl rfl rfl) rfl ?_ | refine pE (eBs rfl rfl rfl rfl rfl rfl rfl rfl rfl) rfl ?_)
    exact lp_end (keys.length - (k + 1)) (k + 1) [(0, 1)] (by omega) ⟨rfl, rfl, rfl, by repeat (first | exact trivial | refine ⟨rfl, ?_⟩), by repeat (first | exact trivial | refine ⟨rfl, ?_⟩ | refine ⟨hrr_le rfl, ?_⟩)⟩ ⟨hk', rfl⟩
  · have hkk : k = keys.length := by omega
    subst hkk
    rw [List.take_length] at hlk hnk ⊢
    have hop := specOpen_ac 98 (opnV keys body) (by omega)
    have hpl := ints_plain (opnV keys body)
    rw [hnk, h6] at hop
    refine pC (eCall (hop) 99 [] rfl rfl rfl rfl rfl rfl (by repeat' (first | exact trivial | exact rfl | refine And.intro ?_ ?_ | exact Or.inl ⟨_, rfl, rfl⟩ | exact ⟨_, rfl, rfl⟩ | exact bor_sl rfl (by assumption) | exact bor_ios rfl | exact bor_ios1 rfl | exact bor_iosJ rfl)) (by decide)) rfl ?_
    rintro _ _ ⟨rfl, rfl⟩
    repeat (first | refine p1 rfl rfl rfl rfl ?_ | refine al_end ?_ | refine awp_seq ?_ | refine awp_region ?_ | refine awp_block ?_ | refine awp_skip' ?_ | refine awp_ret' ?_ | refine awp_exit' ?_ | refine xt_sq_n ?_ | refine xt_bk_n ?_ | refine xt_sq_r ?_ | refine xt_bk_r ?_ | refine xt_sq_x ?_ | refine xt_bk_eq ?_ | refine xt_bk_ne rfl ?_ | refine p0 rfl rfl rfl ?_ | refine p0n rfl rfl ?_ | refine pAr rfl rfl rfl rfl rfl rfl rfl (by omega) (by omega) ?_ | refine pBuild rfl rfl rfl rfl rfl rfl ?_ | refine pE (eAlloc rfl rfl rfl rfl) rfl ?_ | refine pE (eBox rfl rfl rfl rfl rfl) rfl ?_ | refine pE (eSt rfl rfl rfl rfl rfl rfl rfl rfl rfl) rfl ?_ | refine pE (eBs rfl rfl rfl rfl rfl rfl rfl rfl rfl) rfl ?_)
    exact xt_finG [(0, 1)] (.tup [.h (.sl 0 0 (openR (opnV keys body)).length), .h (.c (.bool (openOk (opnV keys body))))]) [.arr 3 1 (ints (openR (opnV keys body)))] (.inr rfl) rfl rfl rfl rfl rfl ⟨rfl, trivial⟩ ⟨trivial, trivial, trivial⟩ ⟨ints_tgs _, trivial⟩ ⟨rfl, rfl⟩
set_option maxHeartbeats 2000000 in
set_option maxRecDepth 100000 in
theorem implReply_ac (t1 t2 : Nat) (keys body : List Int) (hk : keys.length ≤ 1099511627776) (hb : body.length ≤ 1099511627776) : AC Try.prog 29 [.h (.c (.rd (t1 + 1) keys.length (ints keys))), .h (.c (.rd (t2 + 1) body.length (ints body)))] [] [0]
    (fun r h => h = [.arr 3 1 (ints (repR keys body))] ∧ r = .tup [.h (.sl 0 0 (repR keys body).length), .h (.c (.bool (repB keys body)))]) := by
  have h1 := isPath_ac (t1 + 1) keys hk
  have h2 := listOf_ac (t2 + 1) body 6 hb
  refine ac_bodyN teok Try.func29 rfl (by kernel_rfl) Try.ntmps29 rfl rfl ?_
  intro w0 ps g0 im0
  repeat' (first | refine p1 rfl rfl rfl rfl ?_ | refine al_end ?_ | refine awp_seq ?_ | refine awp_region ?_ | refine awp_block ?_ | refine awp_skip' ?_ | refine awp_ret' ?_ | refine awp_exit' ?_ | refine xt_sq_n ?_ | refine xt_bk_n ?_ | refine xt_sq_r ?_ | refine xt_bk_r ?_ | refine xt_sq_x ?_ | refine xt_bk_eq ?_ | refine xt_bk_ne rfl ?_ | refine p0 rfl rfl rfl ?_ | refine p0n rfl rfl ?_ | refine pAr rfl rfl rfl rfl rfl rfl rfl (by omega) (by omega) ?_ | refine pBuild rfl rfl rfl rfl rfl rfl ?_ | refine pE (eAlloc rfl rfl rfl rfl) rfl ?_ | refine pE (eBox rfl rfl rfl rfl rfl) rfl ?_ | refine pE (eSt rfl rfl rfl rfl rfl rfl rfl rfl rfl) rfl ?_ | refine pE (eBs rfl rfl rfl rfl rfl rfl rfl rfl rfl) rfl ?_ | refine awp_cond (b := true) rfl (fun _ => ?_) (fun h => Bool.noConfusion h) | refine awp_cond (b := false) rfl (fun h => Bool.noConfusion h) (fun _ => ?_) | ((fail_if_success refine pG (b := true) rfl rfl ?_ ?_); (fail_if_success refine pG (b := false) rfl rfl ?_ ?_); (refine pG rfl rfl (fun hc => ?_) (fun hc => ?_)) <;> try simp at hc) | ((refine awp_cond rfl (fun hc => ?_) (fun hc => ?_)) <;> try simp at hc) | refine pC0 (h1) rfl rfl rfl rfl rfl rfl rfl (by decide) ?_ | refine pC0 (h2) rfl rfl rfl rfl rfl rfl rfl (by decide) ?_)
  iterate 2
    · obtain ⟨h0, h1⟩ := rep_no (keys := keys) (body := body) (by first | exact .inl (by assumption) | exact .inr (by assumption))
      rw [h0, h1]
      refine xt_own 4 3 1 rfl (xt_N ?_)
      exact xt_finG [(0, 0)] (.tup [.h (.sl 0 0 0), .h (.c (.bool false))]) [.arr 3 1 []] (.inr rfl) rfl rfl rfl rfl rfl ⟨rfl, trivial⟩ ⟨trivial, trivial, trivial⟩ ⟨trivial, trivial⟩ ⟨rfl, rfl⟩
  have hp : pth keys = true := by assumption
  obtain ⟨h6, hl⟩ := hc
  obtain ⟨hke, hk1, hk3⟩ := pth_iff.1 hp
  have hok : repOk keys body = true := by rw [repOk, hp, hl, decide_eq_true h6]; rfl
  rw [repR, if_pos hok, repB, hok, Bool.true_and]
  refine awp_loopE (fun p : Nat × Nat => { fr := [(1, .h (.c (.rd (p.2 + 1) 6 (ints (opnV (keys.take p.1) body))))), (16, .h (.c (.rd (t1 + 1) keys.length (ints keys)))), (17, .h (.c (.int .i64 keys.length))), (18, .h (.c (.int .i64 p.1)))], hp := [], nx := 0 })
    (fun n p => p.1 ≤ keys.length ∧ n = keys.length - p.1) keys.length (0, t2) [] ⟨rfl, rfl, rfl, by rw [h6]; repeat (first | exact trivial | refine ⟨rfl, ?_⟩), by repeat (first | exact trivial | refine ⟨rfl, ?_⟩)⟩ ⟨Nat.zero_le _, rfl⟩ ?_
  rintro n ⟨k, tt⟩ ⟨hk, rfl⟩
  simp only at hk ⊢
  have hlk := opnV_lst (keys := keys.take k) hl
  have hnk := opnV_len (keys.take k) body
  repeat' (first | refine p1 rfl rfl rfl rfl ?_ | refine al_end ?_ | refine awp_seq ?_ | refine awp_region ?_ | refine awp_block ?_ | refine awp_skip' ?_ | refine awp_ret' ?_ | refine awp_exit' ?_ | refine xt_sq_n ?_ | refine xt_bk_n ?_ | refine xt_sq_r ?_ | refine xt_bk_r ?_ | refine xt_sq_x ?_ | refine xt_bk_eq ?_ | refine xt_bk_ne rfl ?_ | refine p0 rfl rfl rfl ?_ | refine p0n rfl rfl ?_ | refine pAr rfl rfl rfl rfl rfl rfl rfl (by omega) (by omega) ?_ | refine pBuild rfl rfl rfl rfl rfl rfl ?_ | refine pE (eAlloc rfl rfl rfl rfl) rfl ?_ | refine pE (eBox rfl rfl rfl rfl rfl) rfl ?_ | refine pE (eSt rfl rfl rfl rfl rfl rfl rfl rfl rfl) rfl ?_ | refine pE (eBs rfl rfl rfl rfl rfl rfl rfl rfl rfl) rfl ?_ | refine awp_cond (b := true) rfl (fun _ => ?_) (fun h => Bool.noConfusion h) | refine awp_cond (b := false) rfl (fun h => Bool.noConfusion h) (fun _ => ?_) | ((fail_if_success refine pG (b := true) rfl rfl ?_ ?_); (fail_if_success refine pG (b := false) rfl rfl ?_ ?_); (refine pG rfl rfl (fun hc => ?_) (fun hc => ?_)) <;> try simp at hc) | ((refine awp_cond rfl (fun hc => ?_) (fun hc => ?_)) <;> try simp at hc))
  · have hk' : k < keys.length := by omega
    refine pIxR (f := int1) (L := keys) k rfl rfl rfl rfl rfl rfl rfl rfl rfl (fun _ => rfl) rfl rfl hk' ?_
    repeat (first | refine p1 rfl rfl rfl rfl ?_ | refine al_end ?_ | refine awp_seq ?_ | refine awp_region ?_ | refine awp_block ?_ | refine awp_skip' ?_ | refine awp_ret' ?_ | refine awp_exit' ?_ | refine xt_sq_n ?_ | refine xt_bk_n ?_ | refine xt_sq_r ?_ | refine xt_bk_r ?_ | refine xt_sq_x ?_ | refine xt_bk_eq ?_ | refine xt_bk_ne rfl ?_ | refine p0 rfl rfl rfl ?_ | refine p0n rfl rfl ?_ | refine pAr rfl rfl rfl rfl rfl rfl rfl (by omega) (by omega) ?_ | refine pBuild rfl rfl rfl rfl rfl rfl ?_ | refine pE (eAlloc rfl rfl rfl rfl) rfl ?_ | refine pE (eBox rfl rfl rfl rfl rfl) rfl ?_ | refine pE (eSt rfl rfl rfl rfl rfl rfl rfl rfl rfl) rfl ?_ | refine pE (eBs rfl rfl rfl rfl rfl rfl rfl rfl rfl) rfl ?_)
    have hon := maskOn_ac (tt + 1) keys[k] (opnV (keys.take k) body) (hke _ (List.getElem_mem hk')) hlk
    rw [onV_len, hnk, h6, ← opnV_step hk'] at hon
    have hpl := ints_plain (opnV (keys.take (k + 1)) body)
    refine pCn (hon) rfl rfl rfl rfl rfl (by decide) (by repeat' (first | exact trivial | exact rfl | refine And.intro ?_ ?_ | exact Or.inl ⟨_, rfl, rfl⟩ | exact ⟨_, rfl, rfl⟩ | exact bor_sl rfl (by assumption) | exact bor_ios rfl | exact bor_ios1 rfl | exact bor_iosJ rfl)) ?_
    refine al_frz 0 100 rfl rfl hpl ?_
    repeat (first | refine p1 rfl rfl rfl rfl ?_ | refine al_end ?_ | refine awp_seq ?_ | refine awp_region ?_ | refine awp_block ?_ | refine awp_skip' ?_ | refine awp_ret' ?_ | refine awp_exit' ?_ | refine xt_sq_n ?_ | refine xt_bk_n ?_ | refine xt_sq_r ?_ | refine xt_bk_r ?_ | refine xt_sq_x ?_ | refine xt_bk_eq ?_ | refine xt_bk_ne rfl ?_ | refine p0 rfl rfl rfl ?_ | refine p0n rfl rfl ?_ | refine pAr rfl rfl rfl rfl rfl rfl rfl (by omega) (by omega) ?_ | refine pBuild rfl rfl rfl rfl rfl rfl ?_ | refine pE (eAlloc rfl rfl rfl rfl) rfl ?_ | refine pE (eBox rfl rfl rfl rfl rfl) rfl ?_ | refine pE (eSt rfl rfl rfl rfl rfl rfl rfl rfl rfl) rfl ?_ | refine pE (eBs rfl rfl rfl rfl rfl rfl rfl rfl rfl) rfl ?_)
    exact lp_end (keys.length - (k + 1)) (k + 1, 99) [] (by omega) ⟨rfl, rfl, rfl, by repeat (first | exact trivial | refine ⟨rfl, ?_⟩), by repeat (first | exact trivial | refine ⟨rfl, ?_⟩ | refine ⟨hrr_le rfl, ?_⟩)⟩ ⟨hk', rfl⟩
  · have hkk : k = keys.length := by omega
    subst hkk
    rw [List.take_length] at hlk hnk ⊢
    have hop := implOpen_ac tt (opnV keys body) (by omega)
    rw [hnk, h6] at hop
    refine pC (eCall (hop) 99 [] rfl rfl rfl rfl rfl rfl (by repeat' (first | exact trivial | exact rfl | refine And.intro ?_ ?_ | exact Or.inl ⟨_, rfl, rfl⟩ | exact ⟨_, rfl, rfl⟩ | exact bor_sl rfl (by assumption) | exact bor_ios rfl | exact bor_ios1 rfl | exact bor_iosJ rfl)) (by decide)) rfl ?_
    rintro _ _ ⟨rfl, rfl⟩
    repeat (first | refine p1 rfl rfl rfl rfl ?_ | refine al_end ?_ | refine awp_seq ?_ | refine awp_region ?_ | refine awp_block ?_ | refine awp_skip' ?_ | refine awp_ret' ?_ | refine awp_exit' ?_ | refine xt_sq_n ?_ | refine xt_bk_n ?_ | refine xt_sq_r ?_ | refine xt_bk_r ?_ | refine xt_sq_x ?_ | refine xt_bk_eq ?_ | refine xt_bk_ne rfl ?_ | refine p0 rfl rfl rfl ?_ | refine p0n rfl rfl ?_ | refine pAr rfl rfl rfl rfl rfl rfl rfl (by omega) (by omega) ?_ | refine pBuild rfl rfl rfl rfl rfl rfl ?_ | refine pE (eAlloc rfl rfl rfl rfl) rfl ?_ | refine pE (eBox rfl rfl rfl rfl rfl) rfl ?_ | refine pE (eSt rfl rfl rfl rfl rfl rfl rfl rfl rfl) rfl ?_ | refine pE (eBs rfl rfl rfl rfl rfl rfl rfl rfl rfl) rfl ?_)
    exact xt_N (xt_finG [(0, 0)] (.tup [.h (.sl 0 0 (openR (opnV keys body)).length), .h (.c (.bool (openOk (opnV keys body))))]) [.arr 3 1 (ints (openR (opnV keys body)))] (.inr rfl) rfl rfl rfl rfl rfl ⟨rfl, trivial⟩ ⟨trivial, trivial, trivial⟩ ⟨ints_tgs _, trivial⟩ ⟨rfl, rfl⟩)
end Go.Proofs.Ythmgfgiaagkdeaa
