import Derived.Test.YthmgfgiaagkdeaaG3
import Derived.Test.YthmgfgiaagkdeaaEngB
namespace Go.Proofs.Ythmgfgiaagkdeaa
open Go.RowKit
attribute [local irreducible] AWP AL XT AC ES PS AH AH2 LpQ
def pk5 (l : List Int) : List Int := (l.length : Int) :: l ++ List.replicate (4 - l.length) 0
def packV (l : List Int) : List Int := pk5 l ++ [tagV 1 (pk5 l)]
def packOk (l : List Int) : Bool := lst l && decide (l.length ≤ 4)
def packR (l : List Int) : List Int := if packOk l then packV l else []
theorem pk5_len {l : List Int} (h : l.length ≤ 4) : (pk5 l).length = 5 := by simp [pk5]; omega
theorem packV_len {l : List Int} (h : l.length ≤ 4) : (packV l).length = 6 := by simp [packV, pk5_len h]
theorem packOk_iff {l : List Int} : packOk l = true ↔ (∀ n ∈ l, 0 ≤ n ∧ n ≤ 990) ∧ l.length ≤ 4 := by
  simp only [packOk, Bool.and_eq_true, lst_iff, decide_eq_true_eq]
  constructor
  · rintro ⟨⟨_, h⟩, h4⟩; exact ⟨h, h4⟩
  · rintro ⟨h, h4⟩; exact ⟨⟨by omega, h⟩, h4⟩
theorem pk5_lst {l : List Int} (h : packOk l = true) : lst (pk5 l) = true := by
  obtain ⟨h1, h4⟩ := packOk_iff.1 h
  refine lst_iff.2 ⟨by rw [pk5_len h4]; omega, fun n hn => ?_⟩
  simp only [pk5, List.cons_append, List.mem_cons, List.mem_append, List.mem_replicate] at hn
  rcases hn with rfl | hn | ⟨_, rfl⟩
  · omega
  · exact h1 n hn
  · omega
theorem packV_lst {l : List Int} (h : packOk l = true) : lst (packV l) = true := by
  obtain ⟨_, h4⟩ := packOk_iff.1 h
  refine lst_iff.2 ⟨by rw [packV_len h4]; omega, fun n hn => ?_⟩
  rcases List.mem_append.1 hn with h1 | h1
  · exact (lst_iff.1 (pk5_lst h)).2 n h1
  · simp at h1; subst h1; exact tagV_rng _ _
theorem ints_map : ∀ l : List Int, ints l = l.map (CV.int .i64)
  | [] => rfl
  | a :: l => congrArg (CV.int .i64 a :: ·) (ints_map l)
theorem ints_len (l : List Int) : (ints l).length = l.length := by rw [ints_map, List.length_map]
theorem pack_no {l : List Int} (hc : lst l = false ∨ 4 < l.length) : packR l = [] ∧ packOk l = false := by
  have h : packOk l = false := by
    cases h : packOk l with
    | false => rfl
    | true =>
      simp only [packOk, Bool.and_eq_true, decide_eq_true_eq] at h
      rcases hc with hc | hc
      · rw [h.1] at hc; cases hc
      · omega
  exact ⟨by simp [packR, h], h⟩
set_option maxHeartbeats 1000000 in
set_option maxRecDepth 100000 in
theorem specPack_ac (tg : Nat) (l : List Int) (hl : l.length ≤ 1099511627776) : AC Try.prog 87 [.h (.c (.rd (tg + 1) l.length (ints l)))] [] [0]
    (fun r h => h = [.arr 3 1 (ints (packR l))] ∧ r = .tup [.h (.sl 0 0 (packR l).length), .h (.c (.bool (packOk l)))]) := by
  have hi := l2List_ac (tg + 1) l hl
  refine ac_body teok Try.func87 rfl (by kernel_rfl) Try.ntmps87 rfl rfl ?_
  intro w0 ps g0 im0
  repeat' (first | refine p1 rfl rfl rfl rfl ?_ | refine al_end ?_ | refine awp_seq ?_ | refine awp_region ?_ | refine awp_block ?_ | refine awp_skip' ?_ | refine awp_ret' ?_ | refine awp_exit' ?_ | refine xt_sq_n ?_ | refine xt_bk_n ?_ | refine xt_sq_r ?_ | refine xt_bk_r ?_ | refine xt_sq_x ?_ | refine xt_bk_eq ?_ | refine xt_bk_ne rfl ?_ | refine p0 rfl rfl rfl ?_ | refine p0n rfl rfl ?_ | refine pAr rfl rfl rfl rfl rfl rfl rfl (by omega) (by omega) ?_ | refine pBuild rfl rfl rfl rfl rfl rfl ?_ | refine pE (eAlloc rfl rfl rfl rfl) rfl ?_ | refine pE (eBox rfl rfl rfl rfl rfl) rfl ?_ | refine pE (eSt rfl rfl rfl rfl rfl rfl rfl rfl rfl) rfl ?_ | refine pE (eBs rfl rfl rfl rfl rfl rfl rfl rfl rfl) rfl ?_ | refine awp_cond (b := true) rfl (fun _ => ?_) (fun h => Bool.noConfusion h) | refine awp_cond (b := false) rfl (fun h => Bool.noConfusion h) (fun _ => ?_) | ((fail_if_success refine pG (b := true) rfl rfl ?_ ?_); (fail_if_success refine pG (b := false) rfl rfl ?_ ?_); (refine pG rfl rfl (fun hc => ?_) (fun hc => ?_)) <;> try simp at hc) | ((refine awp_cond rfl (fun hc => ?_) (fun hc => ?_)) <;> try simp at hc) | refine pC0 (hi) rfl rfl rfl rfl rfl rfl rfl (by decide) ?_)
  iterate 2
    · obtain ⟨h0, h1⟩ := pack_no (l := l) (by first | exact .inl (by assumption) | exact .inr (by omega))
      rw [h0, h1]
      exact xt_finG [(0, 0)] (.tup [.h (.sl 0 0 0), .h (.c (.bool false))]) [.arr 3 1 []] (.inr rfl) rfl rfl rfl rfl rfl ⟨rfl, trivial⟩ ⟨trivial, trivial, trivial⟩ ⟨trivial, trivial⟩ ⟨rfl, rfl⟩
  have h4 : l.length ≤ 4 := by omega
  have hok : packOk l = true := by simp [packOk, *]
  have hR : packR l = packV l := by rw [packR, if_pos hok]
  rw [hR, hok]
  refine pApR (f := int1) (L := [(l.length : Int)]) (M := l) rfl rfl rfl rfl rfl rfl rfl rfl rfl rfl rfl (fun _ => rfl) rfl rfl (by omega) rfl ?_
  repeat (first | refine p1 rfl rfl rfl rfl ?_ | refine al_end ?_ | refine awp_seq ?_ | refine awp_region ?_ | refine awp_block ?_ | refine awp_skip' ?_ | refine awp_ret' ?_ | refine awp_exit' ?_ | refine xt_sq_n ?_ | refine xt_bk_n ?_ | refine xt_sq_r ?_ | refine xt_bk_r ?_ | refine xt_sq_x ?_ | refine xt_bk_eq ?_ | refine xt_bk_ne rfl ?_ | refine p0 rfl rfl rfl ?_ | refine p0n rfl rfl ?_ | refine pAr rfl rfl rfl rfl rfl rfl rfl (by omega) (by omega) ?_ | refine pBuild rfl rfl rfl rfl rfl rfl ?_ | refine pE (eAlloc rfl rfl rfl rfl) rfl ?_ | refine pE (eBox rfl rfl rfl rfl rfl) rfl ?_ | refine pE (eSt rfl rfl rfl rfl rfl rfl rfl rfl rfl) rfl ?_ | refine pE (eBs rfl rfl rfl rfl rfl rfl rfl rfl rfl) rfl ?_)
  refine awp_loopE (fun k : Nat => { fr := [(4, .h (.sl 0 0 (1 + l.length + k)))], hp := [(0, .arr 3 1 (ints ((l.length : Int) :: l ++ List.replicate k 0)))], nx := 1 })
    (fun n k => k ≤ 4 - l.length ∧ n = 4 - l.length - k) (4 - l.length) 0 [(0, 1)] ⟨rfl, rfl, rfl, by repeat (first | exact trivial | refine ⟨rfl, ?_⟩), by rw [List.replicate_zero, List.append_nil]; repeat (first | exact trivial | refine ⟨rfl, ?_⟩)⟩ ⟨Nat.zero_le _, rfl⟩ ?_
  rintro n k ⟨hk, rfl⟩
  repeat' (first | refine p1 rfl rfl rfl rfl ?_ | refine al_end ?_ | refine awp_seq ?_ | refine awp_region ?_ | refine awp_block ?_ | refine awp_skip' ?_ | refine awp_ret' ?_ | refine awp_exit' ?_ | refine xt_sq_n ?_ | refine xt_bk_n ?_ | refine xt_sq_r ?_ | refine xt_bk_r ?_ | refine xt_sq_x ?_ | refine xt_bk_eq ?_ | refine xt_bk_ne rfl ?_ | refine p0 rfl rfl rfl ?_ | refine p0n rfl rfl ?_ | refine pAr rfl rfl rfl rfl rfl rfl rfl (by omega) (by omega) ?_ | refine pBuild rfl rfl rfl rfl rfl rfl ?_ | refine pE (eAlloc rfl rfl rfl rfl) rfl ?_ | refine pE (eBox rfl rfl rfl rfl rfl) rfl ?_ | refine pE (eSt rfl rfl rfl rfl rfl rfl rfl rfl rfl) rfl ?_ | refine pE (eBs rfl rfl rfl rfl rfl rfl rfl rfl rfl) rfl ?_ | refine awp_cond (b := true) rfl (fun _ => ?_) (fun h => Bool.noConfusion h) | refine awp_cond (b := false) rfl (fun h => Bool.noConfusion h) (fun _ => ?_) | ((fail_if_success refine pG (b := true) rfl rfl ?_ ?_); (fail_if_success refine pG (b := false) rfl rfl ?_ ?_); (refine pG rfl rfl (fun hc => ?_) (fun hc => ?_)) <;> try simp at hc) | ((refine awp_cond rfl (fun hc => ?_) (fun hc => ?_)) <;> try simp at hc))
  · refine pAp1 (f := int1) (L := (l.length : Int) :: l ++ List.replicate k 0) 0 rfl rfl rfl rfl rfl rfl rfl rfl rfl rfl rfl rfl (fun _ => rfl) (by simp; omega) (by omega) rfl ?_
    rw [List.append_assoc, ← List.replicate_succ']
    repeat (first | refine p1 rfl rfl rfl rfl ?_ | refine al_end ?_ | refine awp_seq ?_ | refine awp_region ?_ | refine awp_block ?_ | refine awp_skip' ?_ | refine awp_ret' ?_ | refine awp_exit' ?_ | refine xt_sq_n ?_ | refine xt_bk_n ?_ | refine xt_sq_r ?_ | refine xt_bk_r ?_ | refine xt_sq_x ?_ | refine xt_bk_eq ?_ | refine xt_bk_ne rfl ?_ | refine p0 rfl rfl rfl ?_ | refine p0n rfl rfl ?_ | refine pAr rfl rfl rfl rfl rfl rfl rfl (by omega) (by omega) ?_ | refine pBuild rfl rfl rfl rfl rfl rfl ?_ | refine pE (eAlloc rfl rfl rfl rfl) rfl ?_ | refine pE (eBox rfl rfl rfl rfl rfl) rfl ?_ | refine pE (eSt rfl rfl rfl rfl rfl rfl rfl rfl rfl) rfl ?_ | refine pE (eBs rfl rfl rfl rfl rfl rfl rfl rfl rfl) rfl ?_)
    exact lp_end (4 - l.length - (k + 1)) (k + 1) [(0, 2)] (by omega) ⟨rfl, rfl, rfl, by repeat (first | exact trivial | refine ⟨rfl, ?_⟩), by repeat (first | exact trivial | refine ⟨rfl, ?_⟩ | refine ⟨hrr_le rfl, ?_⟩)⟩ ⟨by omega, rfl⟩
  · have hk4 : k = 4 - l.length := by omega
    subst hk4
    rw [show 1 + l.length + (4 - l.length) = 5 by omega]
    have hta := l3Tag_ac 99 1 (pk5 l) (by omega) (lst_iff.1 (pk5_lst hok)).2 (by rw [pk5_len h4]; omega)
    rw [pk5_len h4] at hta
    have hpl := ints_plain (pk5 l)
    refine pCv (hta) rfl rfl (fun _ => rfl) rfl rfl rfl (by decide) (by repeat' (first | exact trivial | exact rfl | refine And.intro ?_ ?_ | exact Or.inl ⟨_, rfl, rfl⟩ | exact ⟨_, rfl, rfl⟩ | exact bor_sl rfl (by assumption) | exact bor_ios rfl | exact bor_ios1 rfl | exact bor_iosJ rfl | exact bor_pw rfl)) ?_
    repeat (first | refine p1 rfl rfl rfl rfl ?_ | refine al_end ?_ | refine awp_seq ?_ | refine awp_region ?_ | refine awp_block ?_ | refine awp_skip' ?_ | refine awp_ret' ?_ | refine awp_exit' ?_ | refine xt_sq_n ?_ | refine xt_bk_n ?_ | refine xt_sq_r ?_ | refine xt_bk_r ?_ | refine xt_sq_x ?_ | refine xt_bk_eq ?_ | refine xt_bk_ne rfl ?_ | refine p0 rfl rfl rfl ?_ | refine p0n rfl rfl ?_ | refine pAr rfl rfl rfl rfl rfl rfl rfl (by omega) (by omega) ?_ | refine pBuild rfl rfl rfl rfl rfl rfl ?_ | refine pE (eAlloc rfl rfl rfl rfl) rfl ?_ | refine pE (eBox rfl rfl rfl rfl rfl) rfl ?_ | refine pE (eSt rfl rfl rfl rfl rfl rfl rfl rfl rfl) rfl ?_ | refine pE (eBs rfl rfl rfl rfl rfl rfl rfl rfl rfl) rfl ?_)
    refine pAp1 (f := int1) (L := pk5 l) (tagV 1 (pk5 l)) rfl rfl rfl rfl rfl rfl rfl rfl rfl rfl rfl rfl (fun _ => rfl) (pk5_len h4).symm (by omega) rfl ?_
    repeat (first | refine p1 rfl rfl rfl rfl ?_ | refine al_end ?_ | refine awp_seq ?_ | refine awp_region ?_ | refine awp_block ?_ | refine awp_skip' ?_ | refine awp_ret' ?_ | refine awp_exit' ?_ | refine xt_sq_n ?_ | refine xt_bk_n ?_ | refine xt_sq_r ?_ | refine xt_bk_r ?_ | refine xt_sq_x ?_ | refine xt_bk_eq ?_ | refine xt_bk_ne rfl ?_ | refine p0 rfl rfl rfl ?_ | refine p0n rfl rfl ?_ | refine pAr rfl rfl rfl rfl rfl rfl rfl (by omega) (by omega) ?_ | refine pBuild rfl rfl rfl rfl rfl rfl ?_ | refine pE (eAlloc rfl rfl rfl rfl) rfl ?_ | refine pE (eBox rfl rfl rfl rfl rfl) rfl ?_ | refine pE (eSt rfl rfl rfl rfl rfl rfl rfl rfl rfl) rfl ?_ | refine pE (eBs rfl rfl rfl rfl rfl rfl rfl rfl rfl) rfl ?_)
    rw [packV_len h4]
    exact xt_finG [(0, 2)] (.tup [.h (.sl 0 0 6), .h (.c (.bool true))]) [.arr 3 1 (ints (packV l))] (.inr rfl) rfl rfl rfl rfl rfl ⟨rfl, trivial⟩ ⟨trivial, trivial, trivial⟩ ⟨ints_tgs _, trivial⟩ ⟨rfl, rfl⟩
end Go.Proofs.Ythmgfgiaagkdeaa
