/- Who drops everything is blamed: for every two codes, with no further condition. -/
import Derived.Test.YtlgfdjmnedfjfaaL19
import Derived.Test.YtlgfdjmnedfjfaaL9
import Derived.Test.YtlgfdjmnedfjfaaRows
namespace Go.Proofs.Ytlgfdjmnedfjfaa
open Go.RowKit
attribute [local irreducible] AWP AL XT AC ES PS AH AH2 LpQ
def drop1 (n : Int) (x : LC) : LC := { x with b := if touch n x then 0 else x.s }
theorem lv_map {l : List LC} (h : lv l = true) {g : LC → LC} (hg : ∀ x, lcOk x = true → lcOk (g x) = true ∧ (g x).f = x.f ∧ (g x).t = x.t) : lv (l.map g) = true := by
  refine lv_of (fun x hx => ?_) ?_
  · obtain ⟨y, hy, rfl⟩ := List.mem_map.1 hx
    exact (hg y (lv_ok h y hy)).1
  · refine List.pairwise_map.2 ?_
    refine List.Pairwise.imp_of_mem ?_ (srt_lv h)
    intro a b ha hb hab
    have h1 := hg a (lv_ok h a ha)
    have h2 := hg b (lv_ok h b hb)
    rw [lcLess_iff] at hab ⊢
    rw [h1.2.1, h1.2.2, h2.2.1, h2.2.2]
    exact hab
theorem drop1_ok {n : Int} {x : LC} (h : lcOk x = true) : lcOk (drop1 n x) = true ∧ (drop1 n x).f = x.f ∧ (drop1 n x).t = x.t := by
  rw [lcOk_iff] at h ⊢
  simp only [drop1]
  exact ⟨by split <;> omega, trivial, trivial⟩
theorem map_step {α β : Type} (g : α → β) {l : List α} {k : Nat} (hk : k < l.length) : (l.take (k + 1)).map g = (l.take k).map g ++ [g l[k]] := by
  rw [List.take_succ_eq_append_getElem hk, List.map_append]; rfl
theorem any_step {α : Type} (p : α → Bool) {l : List α} {k : Nat} (hk : k < l.length) : (l.take (k + 1)).any p = ((l.take k).any p || p l[k]) := by
  rw [List.take_succ_eq_append_getElem hk, List.any_append]; simp
theorem mem_blamed {l : List LC} {num den : Int} (h : (lv l && partB num den) = true) {n : Nat} (hn : n < 8) : decide ((n : Int) ∈ blamed l num den) = badIn l num den n := by
  unfold blamed
  rw [if_pos h, Bool.eq_iff_iff, decide_eq_true_iff, List.mem_map]
  constructor
  · rintro ⟨m, hm, e⟩
    have : m = n := by omega
    subst this
    exact (List.mem_filter.1 hm).2
  · intro hb
    exact ⟨n, List.mem_filter.2 ⟨List.mem_range.2 hn, hb⟩, rfl⟩
theorem bl_len (l : List LC) (num den : Int) : (blamed l num den).length ≤ 8 := by
  cases h : (lv l && partB num den) with
  | true => rw [blamed_good h]; exact blUpto_length _ _ _ _
  | false => rw [blamed_bad h]; exact Nat.zero_le _
theorem filter_comm {α : Type} (p q : α → Bool) (l : List α) : (l.filter p).filter q = (l.filter q).filter p := by
  rw [List.filter_filter, List.filter_filter]
  congr 1
  funext x
  exact Bool.and_comm _ _
/-- A mix with a link that loses nothing is not blamed. -/
theorem not_bad {l : List LC} {num den : Int} {n : Nat} {x : LC} (hx : x ∈ l) (ht : touch n x = true) (hs : susP num den x = false) : badIn l num den n = false := by
  have hlt : cnt (l.filter (susP num den)) n < cnt l n := by
    unfold cnt
    rw [filter_comm]
    exact List.length_filter_lt_length_iff_exists.2 ⟨x, List.mem_filter.2 ⟨hx, ht⟩, by simp [hs]⟩
  unfold badIn
  have : (cnt (l.filter (susP num den)) n == cnt l n) = false := by
    rw [beq_eq_false_iff_ne]; omega
  rw [this, Bool.and_false]
/-- A mix all of whose links lose is blamed if it has one. -/
theorem bad_iff {l : List LC} {num den : Int} {n : Nat} (h : ∀ x ∈ l, touch n x = true → susP num den x = true) : badIn l num den n = l.any (touch n) := by
  have he : cnt (l.filter (susP num den)) n = cnt l n := by
    unfold cnt
    rw [filter_comm, List.filter_eq_self.2]
    intro x hx
    obtain ⟨h1, h2⟩ := List.mem_filter.1 hx
    exact h x h1 h2
  unfold badIn
  rw [he, beq_self_eq_true, Bool.and_true, Bool.eq_iff_iff, decide_eq_true_iff, List.any_eq_true]
  unfold cnt
  rw [List.length_pos_iff_exists_mem]
  constructor
  · rintro ⟨x, hx⟩; obtain ⟨h1, h2⟩ := List.mem_filter.1 hx; exact ⟨x, h1, h2⟩
  · rintro ⟨x, h1, h2⟩; exact ⟨x, List.mem_filter.2 ⟨h1, h2⟩⟩
theorem touch_drop1 (m : Nat) (n : Int) (x : LC) : touch m (drop1 n x) = touch m x := rfl
theorem touch_self (n : Int) (x : LC) : touch n (drop1 n x) = touch n x := rfl
set_option maxHeartbeats 2000000 in
set_option maxRecDepth 100000 in
theorem FnBlamedDropper_law (xs : List AV) (h : TyAs te [34, 34] xs) : AC Try.prog 17 xs [] [0] (fun r h => h = [] ∧ r = .h (.c (.bool true))) := by
  obtain ⟨y0, ys, rfl, h0, h⟩ := h.cons_inv
  obtain ⟨y1, ys, rfl, h1, h⟩ := h.cons_inv
  obtain rfl := h.nil_inv
  obtain ⟨c, rfl, hcl, hcb⟩ := ty_bytes h0
  obtain ⟨m, rfl, hml, hmb⟩ := ty_bytes h1
  unfold maxLen at hcl hml
  refine ac_body teok Try.func17 rfl (by kernel_rfl) Try.ntmps17 rfl rfl ?_
  intro w0 ps g0 im0
  repeat' (first | refine p1 rfl rfl rfl rfl ?_ | refine al_end ?_ | refine awp_seq ?_ | refine awp_region ?_ | refine awp_block ?_ | refine awp_skip' ?_ | refine awp_ret' ?_ | refine awp_exit' ?_ | refine xt_sq_n ?_ | refine xt_bk_n ?_ | refine xt_sq_r ?_ | refine xt_bk_r ?_ | refine xt_sq_x ?_ | refine xt_bk_eq ?_ | refine xt_bk_ne rfl ?_ | refine p0 rfl rfl rfl ?_ | refine p0n rfl rfl ?_ | refine pAr rfl rfl rfl rfl rfl rfl rfl (by omega) (by omega) ?_ | refine pBuild rfl rfl rfl rfl rfl rfl ?_ | refine pE (eAlloc rfl rfl rfl rfl) rfl ?_ | refine pE (eBox rfl rfl rfl rfl rfl) rfl ?_ | refine pE (eSt rfl rfl rfl rfl rfl rfl rfl rfl rfl) rfl ?_ | refine pE (eBs rfl rfl rfl rfl rfl rfl rfl rfl rfl) rfl ?_ | refine awp_cond (b := true) rfl (fun _ => ?_) (fun h => Bool.noConfusion h) | refine awp_cond (b := false) rfl (fun h => Bool.noConfusion h) (fun _ => ?_) | ((fail_if_success refine pG (b := true) rfl rfl ?_ ?_); (fail_if_success refine pG (b := false) rfl rfl ?_ ?_); (refine pG rfl rfl (fun hc => ?_) (fun hc => ?_)) <;> try simp at hc) | ((refine awp_cond rfl (fun hc => ?_) (fun hc => ?_)) <;> try simp at hc))
  · exact xt_fin (.inr rfl) rfl trivial ⟨rfl, rfl⟩
  · exact xt_fin (.inr rfl) rfl trivial ⟨rfl, rfl⟩
  refine pC (eCall (drawAdd_ac c (by omega) hcb) 99 [] rfl rfl rfl rfl rfl rfl (by repeat' (first | exact trivial | exact rfl | refine And.intro ?_ ?_ | exact Or.inl ⟨_, rfl, rfl⟩ | exact ⟨_, rfl, rfl⟩ | exact bor_sl rfl (by assumption))) (by decide)) rfl ?_
  rintro _ _ ⟨⟨L, P, b⟩, ⟨hL, hP⟩, rfl, rfl⟩
  simp only at hL hP
  have hL1 := hL.l1
  refine al_frz 0 100 rfl rfl (lcs_plain L) ?_
  refine al_frz 1 101 rfl rfl (ints_plain P) ?_
  repeat (first | refine p1 rfl rfl rfl rfl ?_ | refine al_end ?_ | refine awp_seq ?_ | refine awp_region ?_ | refine awp_block ?_ | refine awp_skip' ?_ | refine awp_ret' ?_ | refine awp_exit' ?_ | refine xt_sq_n ?_ | refine xt_bk_n ?_ | refine xt_sq_r ?_ | refine xt_bk_r ?_ | refine xt_sq_x ?_ | refine xt_bk_eq ?_ | refine xt_bk_ne rfl ?_ | refine p0 rfl rfl rfl ?_ | refine p0n rfl rfl ?_ | refine pAr rfl rfl rfl rfl rfl rfl rfl (by omega) (by omega) ?_ | refine pBuild rfl rfl rfl rfl rfl rfl ?_ | refine pE (eAlloc rfl rfl rfl rfl) rfl ?_ | refine pE (eBox rfl rfl rfl rfl rfl) rfl ?_ | refine pE (eSt rfl rfl rfl rfl rfl rfl rfl rfl rfl) rfl ?_ | refine pE (eBs rfl rfl rfl rfl rfl rfl rfl rfl rfl) rfl ?_)
  refine pCt (implAdd_ac 99 100 L P b (by omega) (by omega)) rfl rfl rfl rfl rfl (by decide) (by repeat' (first | exact trivial | exact rfl | refine And.intro ?_ ?_ | exact Or.inl ⟨_, rfl, rfl⟩ | exact ⟨_, rfl, rfl⟩ | exact bor_sl rfl (by assumption))) ?_
  repeat (first | refine p1 rfl rfl rfl rfl ?_ | refine al_end ?_ | refine awp_seq ?_ | refine awp_region ?_ | refine awp_block ?_ | refine awp_skip' ?_ | refine awp_ret' ?_ | refine awp_exit' ?_ | refine xt_sq_n ?_ | refine xt_bk_n ?_ | refine xt_sq_r ?_ | refine xt_bk_r ?_ | refine xt_sq_x ?_ | refine xt_bk_eq ?_ | refine xt_bk_ne rfl ?_ | refine p0 rfl rfl rfl ?_ | refine p0n rfl rfl ?_ | refine pAr rfl rfl rfl rfl rfl rfl rfl (by omega) (by omega) ?_ | refine pBuild rfl rfl rfl rfl rfl rfl ?_ | refine pE (eAlloc rfl rfl rfl rfl) rfl ?_ | refine pE (eBox rfl rfl rfl rfl rfl) rfl ?_ | refine pE (eSt rfl rfl rfl rfl rfl rfl rfl rfl rfl) rfl ?_ | refine pE (eBs rfl rfl rfl rfl rfl rfl rfl rfl rfl) rfl ?_)
  refine pCt (specAdd_ac 99 100 L P b (by omega) (by omega)) rfl rfl rfl rfl rfl (by decide) (by repeat' (first | exact trivial | exact rfl | refine And.intro ?_ ?_ | exact Or.inl ⟨_, rfl, rfl⟩ | exact ⟨_, rfl, rfl⟩ | exact bor_sl rfl (by assumption))) ?_
  have hal := addL_len L P b
  have hpS := lcs_plain (addL L P b).1
  have hse := sameCounts_ac 101 102 (addL L P b).1 (addL L P b).1 (by omega) (by omega)
  refine al_frz 2 102 rfl rfl hpS ?_
  refine al_frz 3 103 rfl rfl hpS ?_
  repeat' (first | refine p1 rfl rfl rfl rfl ?_ | refine al_end ?_ | refine awp_seq ?_ | refine awp_region ?_ | refine awp_block ?_ | refine awp_skip' ?_ | refine awp_ret' ?_ | refine awp_exit' ?_ | refine xt_sq_n ?_ | refine xt_bk_n ?_ | refine xt_sq_r ?_ | refine xt_bk_r ?_ | refine xt_sq_x ?_ | refine xt_bk_eq ?_ | refine xt_bk_ne rfl ?_ | refine p0 rfl rfl rfl ?_ | refine p0n rfl rfl ?_ | refine pAr rfl rfl rfl rfl rfl rfl rfl (by omega) (by omega) ?_ | refine pBuild rfl rfl rfl rfl rfl rfl ?_ | refine pE (eAlloc rfl rfl rfl rfl) rfl ?_ | refine pE (eBox rfl rfl rfl rfl rfl) rfl ?_ | refine pE (eSt rfl rfl rfl rfl rfl rfl rfl rfl rfl) rfl ?_ | refine pE (eBs rfl rfl rfl rfl rfl rfl rfl rfl rfl) rfl ?_ | refine awp_cond (b := true) rfl (fun _ => ?_) (fun h => Bool.noConfusion h) | refine awp_cond (b := false) rfl (fun h => Bool.noConfusion h) (fun _ => ?_) | ((fail_if_success refine pG (b := true) rfl rfl ?_ ?_); (fail_if_success refine pG (b := false) rfl rfl ?_ ?_); (refine pG rfl rfl (fun hc => ?_) (fun hc => ?_)) <;> try simp at hc) | ((refine awp_cond rfl (fun hc => ?_) (fun hc => ?_)) <;> try simp at hc))
  refine pCv (hse) rfl rfl (fun _ => rfl) rfl rfl rfl (by decide) (by repeat' (first | exact trivial | exact rfl | refine And.intro ?_ ?_ | exact Or.inl ⟨_, rfl, rfl⟩ | exact ⟨_, rfl, rfl⟩ | exact bor_sl rfl (by assumption))) ?_
  repeat' (first | refine p1 rfl rfl rfl rfl ?_ | refine al_end ?_ | refine awp_seq ?_ | refine awp_region ?_ | refine awp_block ?_ | refine awp_skip' ?_ | refine awp_ret' ?_ | refine awp_exit' ?_ | refine xt_sq_n ?_ | refine xt_bk_n ?_ | refine xt_sq_r ?_ | refine xt_bk_r ?_ | refine xt_sq_x ?_ | refine xt_bk_eq ?_ | refine xt_bk_ne rfl ?_ | refine p0 rfl rfl rfl ?_ | refine p0n rfl rfl ?_ | refine pAr rfl rfl rfl rfl rfl rfl rfl (by omega) (by omega) ?_ | refine pBuild rfl rfl rfl rfl rfl rfl ?_ | refine pE (eAlloc rfl rfl rfl rfl) rfl ?_ | refine pE (eBox rfl rfl rfl rfl rfl) rfl ?_ | refine pE (eSt rfl rfl rfl rfl rfl rfl rfl rfl rfl) rfl ?_ | refine pE (eBs rfl rfl rfl rfl rfl rfl rfl rfl rfl) rfl ?_ | refine awp_cond (b := true) rfl (fun _ => ?_) (fun h => Bool.noConfusion h) | refine awp_cond (b := false) rfl (fun h => Bool.noConfusion h) (fun _ => ?_) | ((fail_if_success refine pG (b := true) rfl rfl ?_ ?_); (fail_if_success refine pG (b := false) rfl rfl ?_ ?_); (refine pG rfl rfl (fun hc => ?_) (fun hc => ?_)) <;> try simp at hc) | ((refine awp_cond rfl (fun hc => ?_) (fun hc => ?_)) <;> try simp at hc))
  · refine pCv (hse) rfl rfl (fun _ => rfl) rfl rfl rfl (by decide) (by repeat' (first | exact trivial | exact rfl | refine And.intro ?_ ?_ | exact Or.inl ⟨_, rfl, rfl⟩ | exact ⟨_, rfl, rfl⟩ | exact bor_sl rfl (by assumption))) ?_
    repeat' (first | refine p1 rfl rfl rfl rfl ?_ | refine al_end ?_ | refine awp_seq ?_ | refine awp_region ?_ | refine awp_block ?_ | refine awp_skip' ?_ | refine awp_ret' ?_ | refine awp_exit' ?_ | refine xt_sq_n ?_ | refine xt_bk_n ?_ | refine xt_sq_r ?_ | refine xt_bk_r ?_ | refine xt_sq_x ?_ | refine xt_bk_eq ?_ | refine xt_bk_ne rfl ?_ | refine p0 rfl rfl rfl ?_ | refine p0n rfl rfl ?_ | refine pAr rfl rfl rfl rfl rfl rfl rfl (by omega) (by omega) ?_ | refine pBuild rfl rfl rfl rfl rfl rfl ?_ | refine pE (eAlloc rfl rfl rfl rfl) rfl ?_ | refine pE (eBox rfl rfl rfl rfl rfl) rfl ?_ | refine pE (eSt rfl rfl rfl rfl rfl rfl rfl rfl rfl) rfl ?_ | refine pE (eBs rfl rfl rfl rfl rfl rfl rfl rfl rfl) rfl ?_ | refine awp_cond (b := true) rfl (fun _ => ?_) (fun h => Bool.noConfusion h) | refine awp_cond (b := false) rfl (fun h => Bool.noConfusion h) (fun _ => ?_) | ((fail_if_success refine pG (b := true) rfl rfl ?_ ?_); (fail_if_success refine pG (b := false) rfl rfl ?_ ?_); (refine pG rfl rfl (fun hc => ?_) (fun hc => ?_)) <;> try simp at hc) | ((refine awp_cond rfl (fun hc => ?_) (fun hc => ?_)) <;> try simp at hc))
    exact xt_fin (.inr rfl) rfl trivial ⟨rfl, by simp⟩
  have h0 : (addL L P b).2 = true := by assumption
  have hvo := addL_ok h0
  generalize (addL L P b).1 = O at hal hpS hvo ⊢
  refine pRem rfl rfl rfl rfl rfl rfl (by omega) (by omega) ?_
  obtain ⟨n, hn⟩ : ∃ n : Nat, (m.length : Int) % 4 = (n : Int) := ⟨((m.length : Int) % 4).toNat, by omega⟩
  have hn4 : n < 4 := by omega
  rw [hn]
  repeat (first | refine p1 rfl rfl rfl rfl ?_ | refine al_end ?_ | refine awp_seq ?_ | refine awp_region ?_ | refine awp_block ?_ | refine awp_skip' ?_ | refine awp_ret' ?_ | refine awp_exit' ?_ | refine xt_sq_n ?_ | refine xt_bk_n ?_ | refine xt_sq_r ?_ | refine xt_bk_r ?_ | refine xt_sq_x ?_ | refine xt_bk_eq ?_ | refine xt_bk_ne rfl ?_ | refine p0 rfl rfl rfl ?_ | refine p0n rfl rfl ?_ | refine pAr rfl rfl rfl rfl rfl rfl rfl (by omega) (by omega) ?_ | refine pBuild rfl rfl rfl rfl rfl rfl ?_ | refine pE (eAlloc rfl rfl rfl rfl) rfl ?_ | refine pE (eBox rfl rfl rfl rfl rfl) rfl ?_ | refine pE (eSt rfl rfl rfl rfl rfl rfl rfl rfl rfl) rfl ?_ | refine pE (eBs rfl rfl rfl rfl rfl rfl rfl rfl rfl) rfl ?_)
  refine awp_loopE (fun i : Nat => { fr := [(8, .h (.c (.rd 102 O.length (lcs O)))), (12, .h (.c (.int .i64 n))), (13, .h (.sl 4 0 i)), (14, .h (.c (.int .i64 i)))], hp := [(4, .arr 40 4 (lcs ((O.take i).map (drop1 n))))], nx := 5 })
    (fun m i => i ≤ O.length ∧ m = O.length - i) O.length 0 [(4, 4)] ⟨rfl, rfl, rfl, by repeat (first | exact trivial | refine ⟨rfl, ?_⟩), by repeat (first | exact trivial | refine ⟨rfl, ?_⟩)⟩ ⟨Nat.zero_le _, rfl⟩ ?_
  rintro m' i ⟨hi, rfl⟩
  repeat' (first | refine p1 rfl rfl rfl rfl ?_ | refine al_end ?_ | refine awp_seq ?_ | refine awp_region ?_ | refine awp_block ?_ | refine awp_skip' ?_ | refine awp_ret' ?_ | refine awp_exit' ?_ | refine xt_sq_n ?_ | refine xt_bk_n ?_ | refine xt_sq_r ?_ | refine xt_bk_r ?_ | refine xt_sq_x ?_ | refine xt_bk_eq ?_ | refine xt_bk_ne rfl ?_ | refine p0 rfl rfl rfl ?_ | refine p0n rfl rfl ?_ | refine pAr rfl rfl rfl rfl rfl rfl rfl (by omega) (by omega) ?_ | refine pBuild rfl rfl rfl rfl rfl rfl ?_ | refine pE (eAlloc rfl rfl rfl rfl) rfl ?_ | refine pE (eBox rfl rfl rfl rfl rfl) rfl ?_ | refine pE (eSt rfl rfl rfl rfl rfl rfl rfl rfl rfl) rfl ?_ | refine pE (eBs rfl rfl rfl rfl rfl rfl rfl rfl rfl) rfl ?_ | refine awp_cond (b := true) rfl (fun _ => ?_) (fun h => Bool.noConfusion h) | refine awp_cond (b := false) rfl (fun h => Bool.noConfusion h) (fun _ => ?_) | ((fail_if_success refine pG (b := true) rfl rfl ?_ ?_); (fail_if_success refine pG (b := false) rfl rfl ?_ ?_); (refine pG rfl rfl (fun hc => ?_) (fun hc => ?_)) <;> try simp at hc) | ((refine awp_cond rfl (fun hc => ?_) (fun hc => ?_)) <;> try simp at hc))
  · have hi' : i < O.length := by omega
    have hms := map_step (drop1 n) hi'
    refine pIxR (f := lcc) i rfl rfl rfl rfl rfl rfl rfl rfl rfl (fun _ => rfl) rfl rfl hi' ?_
    repeat' (first | refine p1 rfl rfl rfl rfl ?_ | refine al_end ?_ | refine awp_seq ?_ | refine awp_region ?_ | refine awp_block ?_ | refine awp_skip' ?_ | refine awp_ret' ?_ | refine awp_exit' ?_ | refine xt_sq_n ?_ | refine xt_bk_n ?_ | refine xt_sq_r ?_ | refine xt_bk_r ?_ | refine xt_sq_x ?_ | refine xt_bk_eq ?_ | refine xt_bk_ne rfl ?_ | refine p0 rfl rfl rfl ?_ | refine p0n rfl rfl ?_ | refine pAr rfl rfl rfl rfl rfl rfl rfl (by omega) (by omega) ?_ | refine pBuild rfl rfl rfl rfl rfl rfl ?_ | refine pE (eAlloc rfl rfl rfl rfl) rfl ?_ | refine pE (eBox rfl rfl rfl rfl rfl) rfl ?_ | refine pE (eSt rfl rfl rfl rfl rfl rfl rfl rfl rfl) rfl ?_ | refine pE (eBs rfl rfl rfl rfl rfl rfl rfl rfl rfl) rfl ?_ | refine awp_cond (b := true) rfl (fun _ => ?_) (fun h => Bool.noConfusion h) | refine awp_cond (b := false) rfl (fun h => Bool.noConfusion h) (fun _ => ?_) | ((fail_if_success refine pG (b := true) rfl rfl ?_ ?_); (fail_if_success refine pG (b := false) rfl rfl ?_ ?_); (refine pG rfl rfl (fun hc => ?_) (fun hc => ?_)) <;> try simp at hc) | ((refine awp_cond rfl (fun hc => ?_) (fun hc => ?_)) <;> try simp at hc))
    iterate 2
      · have hd : drop1 n O[i] = { O[i] with b := 0 } := by simp [drop1, touch, *]
        rw [hd] at hms
        refine pAp1 (f := lcc) (L := (O.take i).map (drop1 n)) { O[i] with b := 0 } rfl rfl rfl rfl rfl rfl rfl rfl rfl rfl rfl rfl (fun _ => rfl) (by simp; omega) (by omega) rfl ?_
        rw [← hms]
        repeat (first | refine p1 rfl rfl rfl rfl ?_ | refine al_end ?_ | refine awp_seq ?_ | refine awp_region ?_ | refine awp_block ?_ | refine awp_skip' ?_ | refine awp_ret' ?_ | refine awp_exit' ?_ | refine xt_sq_n ?_ | refine xt_bk_n ?_ | refine xt_sq_r ?_ | refine xt_bk_r ?_ | refine xt_sq_x ?_ | refine xt_bk_eq ?_ | refine xt_bk_ne rfl ?_ | refine p0 rfl rfl rfl ?_ | refine p0n rfl rfl ?_ | refine pAr rfl rfl rfl rfl rfl rfl rfl (by omega) (by omega) ?_ | refine pBuild rfl rfl rfl rfl rfl rfl ?_ | refine pE (eAlloc rfl rfl rfl rfl) rfl ?_ | refine pE (eBox rfl rfl rfl rfl rfl) rfl ?_ | refine pE (eSt rfl rfl rfl rfl rfl rfl rfl rfl rfl) rfl ?_ | refine pE (eBs rfl rfl rfl rfl rfl rfl rfl rfl rfl) rfl ?_)
        exact lp_end (O.length - (i + 1)) (i + 1) [(4, 7)] (by omega) ⟨rfl, rfl, rfl, by repeat (first | exact trivial | refine ⟨rfl, ?_⟩), by repeat (first | exact trivial | refine ⟨rfl, ?_⟩)⟩ ⟨hi', rfl⟩
    · have hd : drop1 n O[i] = { O[i] with b := O[i].s } := by simp [drop1, touch, *]
      rw [hd] at hms
      refine pAp1 (f := lcc) (L := (O.take i).map (drop1 n)) { O[i] with b := O[i].s } rfl rfl rfl rfl rfl rfl rfl rfl rfl rfl rfl rfl (fun _ => rfl) (by simp; omega) (by omega) rfl ?_
      rw [← hms]
      repeat (first | refine p1 rfl rfl rfl rfl ?_ | refine al_end ?_ | refine awp_seq ?_ | refine awp_region ?_ | refine awp_block ?_ | refine awp_skip' ?_ | refine awp_ret' ?_ | refine awp_exit' ?_ | refine xt_sq_n ?_ | refine xt_bk_n ?_ | refine xt_sq_r ?_ | refine xt_bk_r ?_ | refine xt_sq_x ?_ | refine xt_bk_eq ?_ | refine xt_bk_ne rfl ?_ | refine p0 rfl rfl rfl ?_ | refine p0n rfl rfl ?_ | refine pAr rfl rfl rfl rfl rfl rfl rfl (by omega) (by omega) ?_ | refine pBuild rfl rfl rfl rfl rfl rfl ?_ | refine pE (eAlloc rfl rfl rfl rfl) rfl ?_ | refine pE (eBox rfl rfl rfl rfl rfl) rfl ?_ | refine pE (eSt rfl rfl rfl rfl rfl rfl rfl rfl rfl) rfl ?_ | refine pE (eBs rfl rfl rfl rfl rfl rfl rfl rfl rfl) rfl ?_)
      exact lp_end (O.length - (i + 1)) (i + 1) [(4, 7)] (by omega) ⟨rfl, rfl, rfl, by repeat (first | exact trivial | refine ⟨rfl, ?_⟩), by repeat (first | exact trivial | refine ⟨rfl, ?_⟩)⟩ ⟨hi', rfl⟩
  · have hi' : i = O.length := by omega
    subst hi'
    rw [List.take_length]
    have hvX : lv (O.map (drop1 n)) = true := lv_map hvo fun x hx => drop1_ok hx
    have hXl : (O.map (drop1 n)).length = O.length := List.length_map _
    have hsx : ∀ x ∈ O.map (drop1 n), touch n x = true → susP 1 1 x = true := by
      intro x hx ht
      obtain ⟨y, hy, rfl⟩ := List.mem_map.1 hx
      have ht' : touch n y = true := ht
      have := lcOk_iff.1 (lv_ok hvo y hy)
      refine decide_eq_true ?_
      simp only [drop1, ht', if_true]
      omega
    have hsn : ∀ x ∈ O.map (drop1 n), touch n x = false → susP 1 1 x = false := by
      intro x hx ht
      obtain ⟨y, hy, rfl⟩ := List.mem_map.1 hx
      have ht' : touch n y = false := ht
      refine decide_eq_false ?_
      simp only [drop1, ht', Bool.false_eq_true, if_false]
      omega
    rw [← hXl]
    generalize O.map (drop1 n) = X at hvX hXl hsx hsn ⊢
    have hvp : (lv X && partB 1 1) = true := by simp [hvX, partB, inB]
    have hbl := bl_len X 1 1
    have hpX := lcs_plain X
    have hpB := ints_plain (blamed X 1 1)
    have hmn := mem_blamed hvp (n := n) (by omega)
    rw [bad_iff hsx] at hmn
    have hnb : ∀ k, (h : k < X.length) → touch n X[k] = false → decide (X[k].f ∈ blamed X 1 1) = false ∧ decide (X[k].t ∈ blamed X 1 1) = false := by
      intro k hk ht
      have hs := hsn _ (List.getElem_mem hk) ht
      have hb := ok_at hvX hk
      obtain ⟨f, hf⟩ : ∃ f : Nat, X[k].f = (f : Int) := ⟨X[k].f.toNat, by omega⟩
      obtain ⟨t, htt⟩ : ∃ t : Nat, X[k].t = (t : Int) := ⟨X[k].t.toNat, by omega⟩
      rw [hf, htt]
      rw [mem_blamed hvp (by omega), mem_blamed hvp (by omega)]
      exact ⟨not_bad (List.getElem_mem hk) (by simp [touch, hf]) hs, not_bad (List.getElem_mem hk) (by simp [touch, htt]) hs⟩
    refine al_frz 4 104 rfl rfl hpX ?_
    refine pCn (implBlamed_ac 103 X 1 1 (by omega)) rfl rfl rfl rfl rfl (by decide) (by repeat' (first | exact trivial | exact rfl | refine And.intro ?_ ?_ | exact Or.inl ⟨_, rfl, rfl⟩ | exact ⟨_, rfl, rfl⟩ | exact bor_sl rfl (by assumption))) ?_
    refine al_frz 5 105 rfl rfl hpB ?_
    repeat (first | refine p1 rfl rfl rfl rfl ?_ | refine al_end ?_ | refine awp_seq ?_ | refine awp_region ?_ | refine awp_block ?_ | refine awp_skip' ?_ | refine awp_ret' ?_ | refine awp_exit' ?_ | refine xt_sq_n ?_ | refine xt_bk_n ?_ | refine xt_sq_r ?_ | refine xt_bk_r ?_ | refine xt_sq_x ?_ | refine xt_bk_eq ?_ | refine xt_bk_ne rfl ?_ | refine p0 rfl rfl rfl ?_ | refine p0n rfl rfl ?_ | refine pAr rfl rfl rfl rfl rfl rfl rfl (by omega) (by omega) ?_ | refine pBuild rfl rfl rfl rfl rfl rfl ?_ | refine pE (eAlloc rfl rfl rfl rfl) rfl ?_ | refine pE (eBox rfl rfl rfl rfl rfl) rfl ?_ | refine pE (eSt rfl rfl rfl rfl rfl rfl rfl rfl rfl) rfl ?_ | refine pE (eBs rfl rfl rfl rfl rfl rfl rfl rfl rfl) rfl ?_)
    generalize blamed X 1 1 = B at hbl hpB hmn hnb ⊢
    refine awp_loopE (fun i : Nat => { fr := [(12, .h (.c (.int .i64 n))), (13, .h (.c (.rd 104 X.length (lcs X)))), (16, .h (.c (.rd 105 B.length (ints B)))), (17, .h (.c (.bool ((X.take i).any (touch n))))), (18, .h (.c (.int .i64 i)))], hp := [], nx := 0 })
      (fun m i => i ≤ X.length ∧ m = X.length - i) X.length 0 [] ⟨rfl, rfl, rfl, by repeat (first | exact trivial | refine ⟨rfl, ?_⟩), by repeat (first | exact trivial | refine ⟨rfl, ?_⟩)⟩ ⟨Nat.zero_le _, rfl⟩ ?_
    rintro m' i ⟨hi, rfl⟩
    repeat (first | refine p1 rfl rfl rfl rfl ?_ | refine al_end ?_ | refine awp_seq ?_ | refine awp_region ?_ | refine awp_block ?_ | refine awp_skip' ?_ | refine awp_ret' ?_ | refine awp_exit' ?_ | refine xt_sq_n ?_ | refine xt_bk_n ?_ | refine xt_sq_r ?_ | refine xt_bk_r ?_ | refine xt_sq_x ?_ | refine xt_bk_eq ?_ | refine xt_bk_ne rfl ?_ | refine p0 rfl rfl rfl ?_ | refine p0n rfl rfl ?_ | refine pAr rfl rfl rfl rfl rfl rfl rfl (by omega) (by omega) ?_ | refine pBuild rfl rfl rfl rfl rfl rfl ?_ | refine pE (eAlloc rfl rfl rfl rfl) rfl ?_ | refine pE (eBox rfl rfl rfl rfl rfl) rfl ?_ | refine pE (eSt rfl rfl rfl rfl rfl rfl rfl rfl rfl) rfl ?_ | refine pE (eBs rfl rfl rfl rfl rfl rfl rfl rfl rfl) rfl ?_)
    refine awp_cond rfl (fun hc => ?_) (fun hc => ?_)
    · have hi' : i < X.length := by simp at hc; omega
      have has := any_step (touch n) hi'
      generalize (X.take i).any (touch n) = A at has ⊢
      repeat (first | refine awp_seq ?_ | refine awp_block ?_ | refine awp_skip' ?_ | refine xt_sq_n ?_ | refine xt_bk_n ?_)
      refine awp_cut (fun s => ∃ b : Bool, b = (X.take (i + 1)).any (touch n) ∧ s = { fr := [(12, .h (.c (.int .i64 n))), (13, .h (.c (.rd 104 X.length (lcs X)))), (16, .h (.c (.rd 105 B.length (ints B)))), (17, .h (.c (.bool b))), (18, .h (.c (.int .i64 i)))], hp := [], nx := 0 }) ?_ ?_
      · repeat' (first | refine p1 rfl rfl rfl rfl ?_ | refine al_end ?_ | refine awp_seq ?_ | refine awp_region ?_ | refine awp_block ?_ | refine awp_skip' ?_ | refine awp_ret' ?_ | refine awp_exit' ?_ | refine xt_sq_n ?_ | refine xt_bk_n ?_ | refine xt_sq_r ?_ | refine xt_bk_r ?_ | refine xt_sq_x ?_ | refine xt_bk_eq ?_ | refine xt_bk_ne rfl ?_ | refine p0 rfl rfl rfl ?_ | refine p0n rfl rfl ?_ | refine pAr rfl rfl rfl rfl rfl rfl rfl (by omega) (by omega) ?_ | refine pBuild rfl rfl rfl rfl rfl rfl ?_ | refine pE (eAlloc rfl rfl rfl rfl) rfl ?_ | refine pE (eBox rfl rfl rfl rfl rfl) rfl ?_ | refine pE (eSt rfl rfl rfl rfl rfl rfl rfl rfl rfl) rfl ?_ | refine pE (eBs rfl rfl rfl rfl rfl rfl rfl rfl rfl) rfl ?_ | refine awp_cond (b := true) rfl (fun _ => ?_) (fun h => Bool.noConfusion h) | refine awp_cond (b := false) rfl (fun h => Bool.noConfusion h) (fun _ => ?_) | ((fail_if_success refine pG (b := true) rfl rfl ?_ ?_); (fail_if_success refine pG (b := false) rfl rfl ?_ ?_); (refine pG rfl rfl (fun hc => ?_) (fun hc => ?_)) <;> try simp at hc) | ((refine awp_cond rfl (fun hc => ?_) (fun hc => ?_)) <;> try simp at hc))
        all_goals try (refine pIxR (f := lcc) i rfl rfl rfl rfl rfl rfl rfl rfl rfl (fun _ => rfl) rfl rfl hi' ?_)
        repeat' (first | refine p1 rfl rfl rfl rfl ?_ | refine al_end ?_ | refine awp_seq ?_ | refine awp_region ?_ | refine awp_block ?_ | refine awp_skip' ?_ | refine awp_ret' ?_ | refine awp_exit' ?_ | refine xt_sq_n ?_ | refine xt_bk_n ?_ | refine xt_sq_r ?_ | refine xt_bk_r ?_ | refine xt_sq_x ?_ | refine xt_bk_eq ?_ | refine xt_bk_ne rfl ?_ | refine p0 rfl rfl rfl ?_ | refine p0n rfl rfl ?_ | refine pAr rfl rfl rfl rfl rfl rfl rfl (by omega) (by omega) ?_ | refine pBuild rfl rfl rfl rfl rfl rfl ?_ | refine pE (eAlloc rfl rfl rfl rfl) rfl ?_ | refine pE (eBox rfl rfl rfl rfl rfl) rfl ?_ | refine pE (eSt rfl rfl rfl rfl rfl rfl rfl rfl rfl) rfl ?_ | refine pE (eBs rfl rfl rfl rfl rfl rfl rfl rfl rfl) rfl ?_ | refine awp_cond (b := true) rfl (fun _ => ?_) (fun h => Bool.noConfusion h) | refine awp_cond (b := false) rfl (fun h => Bool.noConfusion h) (fun _ => ?_) | ((fail_if_success refine pG (b := true) rfl rfl ?_ ?_); (fail_if_success refine pG (b := false) rfl rfl ?_ ?_); (refine pG rfl rfl (fun hc => ?_) (fun hc => ?_)) <;> try simp at hc) | ((refine awp_cond rfl (fun hc => ?_) (fun hc => ?_)) <;> try simp at hc))
        all_goals try (refine pIxR (f := lcc) i rfl rfl rfl rfl rfl rfl rfl rfl rfl (fun _ => rfl) rfl rfl hi' ?_)
        repeat' (first | refine p1 rfl rfl rfl rfl ?_ | refine al_end ?_ | refine awp_seq ?_ | refine awp_region ?_ | refine awp_block ?_ | refine awp_skip' ?_ | refine awp_ret' ?_ | refine awp_exit' ?_ | refine xt_sq_n ?_ | refine xt_bk_n ?_ | refine xt_sq_r ?_ | refine xt_bk_r ?_ | refine xt_sq_x ?_ | refine xt_bk_eq ?_ | refine xt_bk_ne rfl ?_ | refine p0 rfl rfl rfl ?_ | refine p0n rfl rfl ?_ | refine pAr rfl rfl rfl rfl rfl rfl rfl (by omega) (by omega) ?_ | refine pBuild rfl rfl rfl rfl rfl rfl ?_ | refine pE (eAlloc rfl rfl rfl rfl) rfl ?_ | refine pE (eBox rfl rfl rfl rfl rfl) rfl ?_ | refine pE (eSt rfl rfl rfl rfl rfl rfl rfl rfl rfl) rfl ?_ | refine pE (eBs rfl rfl rfl rfl rfl rfl rfl rfl rfl) rfl ?_ | refine awp_cond (b := true) rfl (fun _ => ?_) (fun h => Bool.noConfusion h) | refine awp_cond (b := false) rfl (fun h => Bool.noConfusion h) (fun _ => ?_) | ((fail_if_success refine pG (b := true) rfl rfl ?_ ?_); (fail_if_success refine pG (b := false) rfl rfl ?_ ?_); (refine pG rfl rfl (fun hc => ?_) (fun hc => ?_)) <;> try simp at hc) | ((refine awp_cond rfl (fun hc => ?_) (fun hc => ?_)) <;> try simp at hc))
        all_goals (refine xt_cutE _ [] ⟨rfl, rfl, rfl, by repeat (first | exact trivial | refine ⟨rfl, ?_⟩), by repeat (first | exact trivial | refine ⟨rfl, ?_⟩)⟩ ?_)
        all_goals (rw [has, Bool.eq_iff_iff]; simp [touch, *])
      rintro _ ⟨b', rfl, rfl⟩
      repeat' (first | refine p1 rfl rfl rfl rfl ?_ | refine al_end ?_ | refine awp_seq ?_ | refine awp_region ?_ | refine awp_block ?_ | refine awp_skip' ?_ | refine awp_ret' ?_ | refine awp_exit' ?_ | refine xt_sq_n ?_ | refine xt_bk_n ?_ | refine xt_sq_r ?_ | refine xt_bk_r ?_ | refine xt_sq_x ?_ | refine xt_bk_eq ?_ | refine xt_bk_ne rfl ?_ | refine p0 rfl rfl rfl ?_ | refine p0n rfl rfl ?_ | refine pAr rfl rfl rfl rfl rfl rfl rfl (by omega) (by omega) ?_ | refine pBuild rfl rfl rfl rfl rfl rfl ?_ | refine pE (eAlloc rfl rfl rfl rfl) rfl ?_ | refine pE (eBox rfl rfl rfl rfl rfl) rfl ?_ | refine pE (eSt rfl rfl rfl rfl rfl rfl rfl rfl rfl) rfl ?_ | refine pE (eBs rfl rfl rfl rfl rfl rfl rfl rfl rfl) rfl ?_ | refine awp_cond (b := true) rfl (fun _ => ?_) (fun h => Bool.noConfusion h) | refine awp_cond (b := false) rfl (fun h => Bool.noConfusion h) (fun _ => ?_) | ((fail_if_success refine pG (b := true) rfl rfl ?_ ?_); (fail_if_success refine pG (b := false) rfl rfl ?_ ?_); (refine pG rfl rfl (fun hc => ?_) (fun hc => ?_)) <;> try simp at hc) | ((refine awp_cond rfl (fun hc => ?_) (fun hc => ?_)) <;> try simp at hc))
      refine pIxR (f := lcc) i rfl rfl rfl rfl rfl rfl rfl rfl rfl (fun _ => rfl) rfl rfl hi' ?_
      repeat' (first | refine p1 rfl rfl rfl rfl ?_ | refine al_end ?_ | refine awp_seq ?_ | refine awp_region ?_ | refine awp_block ?_ | refine awp_skip' ?_ | refine awp_ret' ?_ | refine awp_exit' ?_ | refine xt_sq_n ?_ | refine xt_bk_n ?_ | refine xt_sq_r ?_ | refine xt_bk_r ?_ | refine xt_sq_x ?_ | refine xt_bk_eq ?_ | refine xt_bk_ne rfl ?_ | refine p0 rfl rfl rfl ?_ | refine p0n rfl rfl ?_ | refine pAr rfl rfl rfl rfl rfl rfl rfl (by omega) (by omega) ?_ | refine pBuild rfl rfl rfl rfl rfl rfl ?_ | refine pE (eAlloc rfl rfl rfl rfl) rfl ?_ | refine pE (eBox rfl rfl rfl rfl rfl) rfl ?_ | refine pE (eSt rfl rfl rfl rfl rfl rfl rfl rfl rfl) rfl ?_ | refine pE (eBs rfl rfl rfl rfl rfl rfl rfl rfl rfl) rfl ?_ | refine awp_cond (b := true) rfl (fun _ => ?_) (fun h => Bool.noConfusion h) | refine awp_cond (b := false) rfl (fun h => Bool.noConfusion h) (fun _ => ?_) | ((fail_if_success refine pG (b := true) rfl rfl ?_ ?_); (fail_if_success refine pG (b := false) rfl rfl ?_ ?_); (refine pG rfl rfl (fun hc => ?_) (fun hc => ?_)) <;> try simp at hc) | ((refine awp_cond rfl (fun hc => ?_) (fun hc => ?_)) <;> try simp at hc))
      · refine pIxR (f := lcc) i rfl rfl rfl rfl rfl rfl rfl rfl rfl (fun _ => rfl) rfl rfl hi' ?_
        repeat' (first | refine p1 rfl rfl rfl rfl ?_ | refine al_end ?_ | refine awp_seq ?_ | refine awp_region ?_ | refine awp_block ?_ | refine awp_skip' ?_ | refine awp_ret' ?_ | refine awp_exit' ?_ | refine xt_sq_n ?_ | refine xt_bk_n ?_ | refine xt_sq_r ?_ | refine xt_bk_r ?_ | refine xt_sq_x ?_ | refine xt_bk_eq ?_ | refine xt_bk_ne rfl ?_ | refine p0 rfl rfl rfl ?_ | refine p0n rfl rfl ?_ | refine pAr rfl rfl rfl rfl rfl rfl rfl (by omega) (by omega) ?_ | refine pBuild rfl rfl rfl rfl rfl rfl ?_ | refine pE (eAlloc rfl rfl rfl rfl) rfl ?_ | refine pE (eBox rfl rfl rfl rfl rfl) rfl ?_ | refine pE (eSt rfl rfl rfl rfl rfl rfl rfl rfl rfl) rfl ?_ | refine pE (eBs rfl rfl rfl rfl rfl rfl rfl rfl rfl) rfl ?_ | refine awp_cond (b := true) rfl (fun _ => ?_) (fun h => Bool.noConfusion h) | refine awp_cond (b := false) rfl (fun h => Bool.noConfusion h) (fun _ => ?_) | ((fail_if_success refine pG (b := true) rfl rfl ?_ ?_); (fail_if_success refine pG (b := false) rfl rfl ?_ ?_); (refine pG rfl rfl (fun hc => ?_) (fun hc => ?_)) <;> try simp at hc) | ((refine awp_cond rfl (fun hc => ?_) (fun hc => ?_)) <;> try simp at hc))
        · have ht : touch n X[i] = false := by simp [touch, *]
          obtain ⟨n1, n2⟩ := hnb i hi' ht
          have h1 := hasInt_ac 105 B X[i].f (by omega)
          have h2 := hasInt_ac 105 B X[i].t (by omega)
          rw [n1] at h1
          rw [n2] at h2
          refine pIxR (f := lcc) i rfl rfl rfl rfl rfl rfl rfl rfl rfl (fun _ => rfl) rfl rfl hi' ?_
          repeat' (first | refine p1 rfl rfl rfl rfl ?_ | refine al_end ?_ | refine awp_seq ?_ | refine awp_region ?_ | refine awp_block ?_ | refine awp_skip' ?_ | refine awp_ret' ?_ | refine awp_exit' ?_ | refine xt_sq_n ?_ | refine xt_bk_n ?_ | refine xt_sq_r ?_ | refine xt_bk_r ?_ | refine xt_sq_x ?_ | refine xt_bk_eq ?_ | refine xt_bk_ne rfl ?_ | refine p0 rfl rfl rfl ?_ | refine p0n rfl rfl ?_ | refine pAr rfl rfl rfl rfl rfl rfl rfl (by omega) (by omega) ?_ | refine pBuild rfl rfl rfl rfl rfl rfl ?_ | refine pE (eAlloc rfl rfl rfl rfl) rfl ?_ | refine pE (eBox rfl rfl rfl rfl rfl) rfl ?_ | refine pE (eSt rfl rfl rfl rfl rfl rfl rfl rfl rfl) rfl ?_ | refine pE (eBs rfl rfl rfl rfl rfl rfl rfl rfl rfl) rfl ?_ | refine awp_cond (b := true) rfl (fun _ => ?_) (fun h => Bool.noConfusion h) | refine awp_cond (b := false) rfl (fun h => Bool.noConfusion h) (fun _ => ?_) | ((fail_if_success refine pG (b := true) rfl rfl ?_ ?_); (fail_if_success refine pG (b := false) rfl rfl ?_ ?_); (refine pG rfl rfl (fun hc => ?_) (fun hc => ?_)) <;> try simp at hc) | ((refine awp_cond rfl (fun hc => ?_) (fun hc => ?_)) <;> try simp at hc) | refine pC0 (h1) rfl rfl rfl rfl rfl rfl rfl (by decide) ?_)
          refine pIxR (f := lcc) i rfl rfl rfl rfl rfl rfl rfl rfl rfl (fun _ => rfl) rfl rfl hi' ?_
          repeat' (first | refine p1 rfl rfl rfl rfl ?_ | refine al_end ?_ | refine awp_seq ?_ | refine awp_region ?_ | refine awp_block ?_ | refine awp_skip' ?_ | refine awp_ret' ?_ | refine awp_exit' ?_ | refine xt_sq_n ?_ | refine xt_bk_n ?_ | refine xt_sq_r ?_ | refine xt_bk_r ?_ | refine xt_sq_x ?_ | refine xt_bk_eq ?_ | refine xt_bk_ne rfl ?_ | refine p0 rfl rfl rfl ?_ | refine p0n rfl rfl ?_ | refine pAr rfl rfl rfl rfl rfl rfl rfl (by omega) (by omega) ?_ | refine pBuild rfl rfl rfl rfl rfl rfl ?_ | refine pE (eAlloc rfl rfl rfl rfl) rfl ?_ | refine pE (eBox rfl rfl rfl rfl rfl) rfl ?_ | refine pE (eSt rfl rfl rfl rfl rfl rfl rfl rfl rfl) rfl ?_ | refine pE (eBs rfl rfl rfl rfl rfl rfl rfl rfl rfl) rfl ?_ | refine awp_cond (b := true) rfl (fun _ => ?_) (fun h => Bool.noConfusion h) | refine awp_cond (b := false) rfl (fun h => Bool.noConfusion h) (fun _ => ?_) | ((fail_if_success refine pG (b := true) rfl rfl ?_ ?_); (fail_if_success refine pG (b := false) rfl rfl ?_ ?_); (refine pG rfl rfl (fun hc => ?_) (fun hc => ?_)) <;> try simp at hc) | ((refine awp_cond rfl (fun hc => ?_) (fun hc => ?_)) <;> try simp at hc) | refine pC0 (h2) rfl rfl rfl rfl rfl rfl rfl (by decide) ?_)
          exact lp_end (X.length - (i + 1)) (i + 1) [] (by omega) ⟨rfl, rfl, rfl, by repeat (first | exact trivial | refine ⟨rfl, ?_⟩), by repeat (first | exact trivial | refine ⟨rfl, ?_⟩)⟩ ⟨hi', rfl⟩
        · exact lp_end (X.length - (i + 1)) (i + 1) [] (by omega) ⟨rfl, rfl, rfl, by repeat (first | exact trivial | refine ⟨rfl, ?_⟩), by repeat (first | exact trivial | refine ⟨rfl, ?_⟩)⟩ ⟨hi', rfl⟩
      · exact lp_end (X.length - (i + 1)) (i + 1) [] (by omega) ⟨rfl, rfl, rfl, by repeat (first | exact trivial | refine ⟨rfl, ?_⟩), by repeat (first | exact trivial | refine ⟨rfl, ?_⟩)⟩ ⟨hi', rfl⟩
    · have hi' : i = X.length := by simp at hc; omega
      subst hi'
      rw [List.take_length]
      have h1 := hasInt_ac 105 B n (by omega)
      rw [hmn] at h1
      repeat' (first | refine p1 rfl rfl rfl rfl ?_ | refine al_end ?_ | refine awp_seq ?_ | refine awp_region ?_ | refine awp_block ?_ | refine awp_skip' ?_ | refine awp_ret' ?_ | refine awp_exit' ?_ | refine xt_sq_n ?_ | refine xt_bk_n ?_ | refine xt_sq_r ?_ | refine xt_bk_r ?_ | refine xt_sq_x ?_ | refine xt_bk_eq ?_ | refine xt_bk_ne rfl ?_ | refine p0 rfl rfl rfl ?_ | refine p0n rfl rfl ?_ | refine pAr rfl rfl rfl rfl rfl rfl rfl (by omega) (by omega) ?_ | refine pBuild rfl rfl rfl rfl rfl rfl ?_ | refine pE (eAlloc rfl rfl rfl rfl) rfl ?_ | refine pE (eBox rfl rfl rfl rfl rfl) rfl ?_ | refine pE (eSt rfl rfl rfl rfl rfl rfl rfl rfl rfl) rfl ?_ | refine pE (eBs rfl rfl rfl rfl rfl rfl rfl rfl rfl) rfl ?_ | refine awp_cond (b := true) rfl (fun _ => ?_) (fun h => Bool.noConfusion h) | refine awp_cond (b := false) rfl (fun h => Bool.noConfusion h) (fun _ => ?_) | ((fail_if_success refine pG (b := true) rfl rfl ?_ ?_); (fail_if_success refine pG (b := false) rfl rfl ?_ ?_); (refine pG rfl rfl (fun hc => ?_) (fun hc => ?_)) <;> try simp at hc) | ((refine awp_cond rfl (fun hc => ?_) (fun hc => ?_)) <;> try simp at hc) | refine pC0 (h1) rfl rfl rfl rfl rfl rfl rfl (by decide) ?_)
      exact xt_fin (.inr rfl) rfl trivial ⟨rfl, by simp⟩
set_option maxRecDepth 100000 in
theorem FnBlamedDropper_lifted (os : Os) (started : os.Started) (H : Type) (enc : TypeId × Value → H) :
    ReturnsInHanded {} Try.checked os 17 .any (Rows.fnBlamedDropperSpec.pre6 enc Try.prog Try.f17 Rows.fnBlamedDropperRow.domain false) (Rows.fnBlamedDropperSpec.post enc Try.prog Try.f17 false true false false) :=
  law_lifted (C := Try.checked) (ts := [34, 34]) (tb := 4) teok (by kernel_rfl) (by kernel_rfl) os started enc (by kernel_rfl) Try.func17 (by kernel_rfl) (by kernel_rfl) (by kernel_rfl) (by kernel_rfl) (by kernel_rfl) rfl
    (fun ds h => by
      obtain _ | ⟨d0, _ | ⟨d1, _ | ⟨_, _⟩⟩⟩ := ds <;> first | rfl | (simp at h))
    (ChangeSpec.witness6 (enc := enc) (C := Try.checked) false ⟨#[], #[.slice none 0 0, .slice none 0 0], []⟩ 8 (by kernel_rfl) (by kernel_rfl) (by kernel_rfl) (by kernel_rfl))
    FnBlamedDropper_law
theorem FnBlamedDropper_holds : Rows.FnBlamedDropperSaid :=
  OpenClaim.holds_of_wide 17 Try.f17 rfl rfl rfl rfl rfl rfl rfl ⟨rfl, rfl, rfl, rfl, rfl⟩ rfl rfl rfl rfl rfl (by kernel_rfl) Try.func17 (by kernel_rfl)
    (of_decide_eq_true (by kernel_rfl)) (by unfold Func.isWrapper; rw [if_neg (of_decide_eq_false (by kernel_rfl))]; exact ⟨rfl, rfl⟩)
    (fun os started H enc _ => FnBlamedDropper_lifted os started H enc)
#print axioms FnBlamedDropper_holds
end Go.Proofs.Ytlgfdjmnedfjfaa
