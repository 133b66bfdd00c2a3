import Derived.Test.YtobendpgedlaeaaD4
import Derived.Test.YtobendpgedlaeaaD3
import Derived.Test.YtobendpgedlaeaaEzd
namespace Go.Proofs.Ytobendpgedlaeaa
open Go.RowKit
attribute [local irreducible] AWP AL XT AC ES PS AH AH2 LpQ
/-! ### choosing mixes -/
def totW : List En → Int
  | [] => 0
  | x :: r => x.w + totW r
def remC (C : List Int) (i : Int) : List En → List En
  | [] => []
  | x :: r => if i ∈ C then remC C (i + 1) r else x :: remC C (i + 1) r
theorem remC_nil : ∀ (l : List En) (i : Int), remC [] i l = l
  | [], _ => rfl
  | x :: r, i => by simp [remC, remC_nil r]
theorem wtC_rem (C : List Int) : ∀ (l : List En) (i : Int), wtC C i l = totW (remC C i l)
  | [], _ => rfl
  | x :: r, i => by
    simp only [wtC, remC, wtC_rem C r]
    split <;> simp [totW]
theorem remC_sub (C : List Int) : ∀ (l : List En) (i : Int), ∀ x ∈ remC C i l, x ∈ l
  | [], _, x, h => by simp [remC] at h
  | y :: r, i, x, h => by
    simp only [remC] at h
    split at h
    · exact List.mem_cons_of_mem _ (remC_sub C r _ x h)
    · rcases List.mem_cons.1 h with rfl | h
      · exact List.mem_cons_self
      · exact List.mem_cons_of_mem _ (remC_sub C r _ x h)
theorem remC_len (C : List Int) : ∀ (l : List En) (i : Int), (remC C i l).length ≤ l.length
  | [], _ => by simp [remC]
  | y :: r, i => by
    have := remC_len C r (i + 1)
    simp only [remC]
    split <;> simp <;> omega
theorem remC_more (C : List Int) (m : Int) : ∀ (l : List En) (i : Int), m < i → remC (C ++ [m]) i l = remC C i l
  | [], _, _ => rfl
  | y :: r, i, h => by
    simp only [remC, remC_more C m r (i + 1) (by omega), List.mem_append, List.mem_singleton]
    by_cases hC : i ∈ C
    · simp [hC]
    · rw [if_neg hC, if_neg (by rintro (h1 | h1); exact hC h1; omega)]
theorem totW_bd : ∀ (l : List En), (∀ x ∈ l, 0 ≤ x.w ∧ x.w ≤ 9) → 0 ≤ totW l ∧ totW l ≤ 9 * l.length
  | [], _ => by simp [totW]
  | x :: r, h => by
    have h1 := totW_bd r fun y hy => h y (List.mem_cons_of_mem _ hy)
    have h2 := h x List.mem_cons_self
    simp only [totW, List.length_cons]
    omega
theorem totW_step {l : List En} {k : Nat} (hk : k < l.length) : totW (l.take (k + 1)) = totW (l.take k) + l[k].w := by
  have app : ∀ a b : List En, totW (a ++ b) = totW a + totW b := by
    intro a b
    induction a with
    | nil => simp [totW]
    | cons x r ih => simp only [List.cons_append, totW, ih]; omega
  rw [List.take_succ_eq_append_getElem hk, app]
  simp [totW]
theorem pkF_shift : ∀ (l : List En) (a b p : Int), (pkF a p l = -1 ∧ pkF b p l = -1) ∨ pkF a p l - a = pkF b p l - b
  | [], a, b, p => .inl ⟨rfl, rfl⟩
  | x :: r, a, b, p => by
    simp only [pkF]
    split
    · right; omega
    · rcases pkF_shift r (a + 1) (b + 1) (p - x.w) with h | h
      · exact .inl h
      · right; omega
theorem pkF_at : ∀ (l : List En) (a p : Int), (∀ x ∈ l, 0 ≤ x.w) → 0 ≤ p → p < totW l → ∃ j : Nat, j < l.length ∧ pkF a p l = a + j
  | [], a, p, _, h0, h1 => by simp [totW] at h1; omega
  | x :: r, a, p, h, h0, h1 => by
    simp only [pkF]
    split
    · exact ⟨0, by simp, by simp⟩
    · simp only [totW] at h1
      obtain ⟨j, h2, h3⟩ := pkF_at r (a + 1) (p - x.w) (fun y hy => h y (List.mem_cons_of_mem _ hy)) (by omega) (by omega)
      exact ⟨j + 1, by simp; omega, by rw [h3]; simp; omega⟩
/-- What is picked of those that were not chosen: by its place among all, by its place among the rest. -/
theorem pick_rel (C : List Int) : ∀ (l : List En) (i p : Int), (∀ x ∈ l, 0 ≤ x.w) → 0 ≤ p → p < totW (remC C i l) →
    ∃ k j : Nat, k < l.length ∧ j < (remC C i l).length ∧ pkC C i p l = i + k ∧ (∀ a, pkF a p (remC C i l) = a + j) ∧ (remC C i l)[j]? = l[k]? ∧ remC (C ++ [i + k]) i l = (remC C i l).eraseIdx j
  | [], i, p, _, h0, h1 => by simp [remC, totW] at h1; omega
  | x :: r, i, p, h, h0, h1 => by
    have hr : ∀ y ∈ r, 0 ≤ y.w := fun y hy => h y (List.mem_cons_of_mem _ hy)
    by_cases hC : i ∈ C
    · simp only [remC, if_pos hC] at h1 ⊢
      obtain ⟨k, j, q1, q2, q3, q4, q5, q6⟩ := pick_rel C r (i + 1) p hr h0 h1
      have e : i + 1 + (k : Int) = i + ((k + 1 : Nat) : Int) := by simp; omega
      refine ⟨k + 1, j, by simp; omega, q2, ?_, q4, by simpa using q5, ?_⟩
      · simp only [pkC, if_pos hC]; rw [q3, e]
      · rw [if_pos (List.mem_append_left _ hC), ← e, q6]
    · simp only [remC, if_neg hC] at h1 ⊢
      simp only [totW] at h1
      by_cases hp : p < x.w
      · refine ⟨0, 0, by simp, by simp, ?_, ?_, by simp, ?_⟩
        · simp [pkC, hC, hp]
        · intro a; simp [pkF, hp]
        · rw [if_pos (by simp)]
          simp only [List.eraseIdx_cons_zero]
          exact remC_more C _ r (i + 1) (by simp; omega)
      · obtain ⟨k, j, q1, q2, q3, q4, q5, q6⟩ := pick_rel C r (i + 1) (p - x.w) hr (by omega) (by omega)
        have e : i + 1 + (k : Int) = i + ((k + 1 : Nat) : Int) := by simp; omega
        refine ⟨k + 1, j + 1, by simp; omega, by simp; omega, ?_, ?_, by simpa using q5, ?_⟩
        · simp only [pkC, if_neg hC, if_neg hp]; rw [q3, e]
        · intro a; simp only [pkF, if_neg hp]; rw [q4]; simp; omega
        · rw [if_neg (by simp only [List.mem_append, List.mem_singleton]; rintro (h1 | h1); exact hC h1; omega), ← e, q6]
          simp
def pkN (p : Int) (l : List En) : Nat := (pkF 0 p l).toNat
def pathF : Nat → Int → List En → Option (List Int)
  | 0, _, _ => some []
  | h + 1, s, l => if totW l = 0 then none else (pathF h (s / totW l) (l.eraseIdx (pkN (s % totW l) l))).map fun t => (l.getD (pkN (s % totW l) l) en0).n :: t
def pathOk (e : Int) (l : List En) (s h : Int) : Bool := dval e l && inB s 0 999999 && inB h 1 3
def pathV (e : Int) (l : List En) (s h : Int) : List Int := if pathOk e l s h then (pathF h.toNat s l).getD [] else []
theorem pathV_bad {e : Int} {l : List En} {s h : Int} (hb : pathOk e l s h = false) : pathV e l s h = [] := by simp [pathV, hb]
theorem pathF_step {h : Nat} {s : Int} {l : List En} {j : Nat} (hw : totW l ≠ 0) (hj : j < l.length) (hp : pkF 0 (s % totW l) l = (j : Int)) : pathF (h + 1) s l = (pathF h (s / totW l) (l.take j ++ l.drop (j + 1))).map fun t => l[j].n :: t := by
  have hn : pkN (s % totW l) l = j := by unfold pkN; rw [hp]; simp
  have hg : l.getD j en0 = l[j] := by rw [List.getD_eq_getElem?_getD, List.getElem?_eq_getElem hj]; rfl
  rw [pathF, if_neg hw, hn, hg, List.eraseIdx_eq_take_drop_succ]
theorem pathF_none {h : Nat} {s : Int} {l : List En} (hw : totW l = 0) : pathF (h + 1) s l = none := by rw [pathF, if_pos hw]
set_option maxRecDepth 100000 in
theorem cloneEn_ac (tg : Nat) (l : List En) (hl : l.length ≤ 1099511627) : AC Try.prog 72 [.h (.c (.rd (tg + 1) l.length (ens l)))] [] [0] (fun r h => h = [.arr 38 3 (ens l)] ∧ r = .h (.sl 0 0 l.length)) := by
  refine ac_body teok Try.func72 rfl (by kernel_rfl) Try.ntmps72 rfl rfl ?_
  intro w0 ps g0 im0
  repeat (first | refine p1 rfl rfl rfl rfl ?_ | refine al_end ?_ | refine awp_seq ?_ | refine awp_region ?_ | refine awp_block ?_ | refine awp_skip' ?_ | refine awp_ret' ?_ | refine awp_exit' ?_ | refine xt_sq_n ?_ | refine xt_bk_n ?_ | refine xt_sq_r ?_ | refine xt_bk_r ?_ | refine xt_sq_x ?_ | refine xt_bk_eq ?_ | refine xt_bk_ne rfl ?_ | refine p0 rfl rfl rfl ?_ | refine p0n rfl rfl ?_ | refine pAr rfl rfl rfl rfl rfl rfl rfl (by omega) (by omega) ?_ | refine pBuild rfl rfl rfl rfl rfl rfl ?_ | refine pE (eAlloc rfl rfl rfl rfl) rfl ?_ | refine pE (eBox rfl rfl rfl rfl rfl) rfl ?_ | refine pE (eSt rfl rfl rfl rfl rfl rfl rfl rfl rfl) rfl ?_ | refine pE (eBs rfl rfl rfl rfl rfl rfl rfl rfl rfl) rfl ?_)
  refine pE (eMk 0 l.length rfl rfl rfl rfl rfl rfl rfl rfl rfl rfl (Nat.zero_le _) ?_ ?_) rfl ?_
  · show l.length * 24 ≤ _
    omega
  · omega
  repeat (first | refine p1 rfl rfl rfl rfl ?_ | refine al_end ?_ | refine awp_seq ?_ | refine awp_region ?_ | refine awp_block ?_ | refine awp_skip' ?_ | refine awp_ret' ?_ | refine awp_exit' ?_ | refine xt_sq_n ?_ | refine xt_bk_n ?_ | refine xt_sq_r ?_ | refine xt_bk_r ?_ | refine xt_sq_x ?_ | refine xt_bk_eq ?_ | refine xt_bk_ne rfl ?_ | refine p0 rfl rfl rfl ?_ | refine p0n rfl rfl ?_ | refine pAr rfl rfl rfl rfl rfl rfl rfl (by omega) (by omega) ?_ | refine pBuild rfl rfl rfl rfl rfl rfl ?_ | refine pE (eAlloc rfl rfl rfl rfl) rfl ?_ | refine pE (eBox rfl rfl rfl rfl rfl) rfl ?_ | refine pE (eSt rfl rfl rfl rfl rfl rfl rfl rfl rfl) rfl ?_ | refine pE (eBs rfl rfl rfl rfl rfl rfl rfl rfl rfl) rfl ?_)
  refine pApR (f := enc) (L := []) rfl rfl rfl rfl rfl rfl rfl rfl rfl rfl rfl (fun _ => rfl) rfl rfl (by omega) rfl ?_
  repeat (first | refine p1 rfl rfl rfl rfl ?_ | refine al_end ?_ | refine awp_seq ?_ | refine awp_region ?_ | refine awp_block ?_ | refine awp_skip' ?_ | refine awp_ret' ?_ | refine awp_exit' ?_ | refine xt_sq_n ?_ | refine xt_bk_n ?_ | refine xt_sq_r ?_ | refine xt_bk_r ?_ | refine xt_sq_x ?_ | refine xt_bk_eq ?_ | refine xt_bk_ne rfl ?_ | refine p0 rfl rfl rfl ?_ | refine p0n rfl rfl ?_ | refine pAr rfl rfl rfl rfl rfl rfl rfl (by omega) (by omega) ?_ | refine pBuild rfl rfl rfl rfl rfl rfl ?_ | refine pE (eAlloc rfl rfl rfl rfl) rfl ?_ | refine pE (eBox rfl rfl rfl rfl rfl) rfl ?_ | refine pE (eSt rfl rfl rfl rfl rfl rfl rfl rfl rfl) rfl ?_ | refine pE (eBs rfl rfl rfl rfl rfl rfl rfl rfl rfl) rfl ?_)
  refine xt_finG [(0, 1)] (.h (.sl 0 0 l.length)) [.arr 38 3 (ens l)] (.inr rfl) rfl rfl rfl rfl ?_ ⟨rfl, trivial⟩ trivial ⟨ens_tgs _, trivial⟩ ⟨rfl, rfl⟩
  show AV.h (.sl 1 0 (0 + l.length)) = AV.h (.sl 1 0 l.length)
  rw [Nat.zero_add]
theorem enc_free (a : En) : freeL (enc a) = true := rfl
set_option maxHeartbeats 4000000 in
set_option maxRecDepth 100000 in
theorem implPath_ac (tg : Nat) (e : Int) (l : List En) (s h : Int) (hl : l.length ≤ 1048576) : AC Try.prog 41 [dv tg e l, .h (.c (.int .i64 s)), .h (.c (.int .i64 h))] [] [0]
    (fun r h' => h' = [.arr 3 1 (ints (pathV e l s h))] ∧ r = .h (.sl 0 0 (pathV e l s h).length)) := by
  refine ac_bodyN teok Try.func41 rfl (by kernel_rfl) Try.ntmps41 rfl rfl ?_
  intro w0 ps g0 im0
  have hdv := implDV_ac tg e l (by omega)
  repeat' (first | refine p1 rfl rfl rfl rfl ?_ | refine al_end ?_ | refine awp_seq ?_ | refine awp_region ?_ | refine awp_block ?_ | refine awp_skip' ?_ | refine awp_ret' ?_ | refine awp_exit' ?_ | refine xt_sq_n ?_ | refine xt_bk_n ?_ | refine xt_sq_r ?_ | refine xt_bk_r ?_ | refine xt_sq_x ?_ | refine xt_bk_eq ?_ | refine xt_bk_ne rfl ?_ | refine p0 rfl rfl rfl ?_ | refine p0n rfl rfl ?_ | refine pAr rfl rfl rfl rfl rfl rfl rfl (by omega) (by omega) ?_ | refine pBuild rfl rfl rfl rfl rfl rfl ?_ | refine pE (eAlloc rfl rfl rfl rfl) rfl ?_ | refine pE (eBox rfl rfl rfl rfl rfl) rfl ?_ | refine pE (eSt rfl rfl rfl rfl rfl rfl rfl rfl rfl) rfl ?_ | refine pE (eBs rfl rfl rfl rfl rfl rfl rfl rfl rfl) rfl ?_ | refine awp_cond (b := true) rfl (fun _ => ?_) (fun h => Bool.noConfusion h) | refine awp_cond (b := false) rfl (fun h => Bool.noConfusion h) (fun _ => ?_) | ((fail_if_success refine pG (b := true) rfl rfl ?_ ?_); (fail_if_success refine pG (b := false) rfl rfl ?_ ?_); (refine pG rfl rfl (fun hc => ?_) (fun hc => ?_)) <;> try simp at hc) | ((refine awp_cond rfl (fun hc => ?_) (fun hc => ?_)) <;> try simp at hc) | refine pC0 (hdv) rfl rfl rfl rfl rfl rfl rfl (by decide) ?_ | refine pC0 (within_ac _ _ _) rfl rfl rfl rfl rfl rfl rfl (by decide) ?_)
  iterate 3
    · rw [pathV_bad (by simp [pathOk, *])]
      refine xt_own 6 3 1 rfl (xt_N ?_)
      exact xt_finG [(0, 1)] (.h (.sl 0 0 0)) [.arr 3 1 []] (.inr rfl) rfl rfl rfl rfl rfl ⟨rfl, trivial⟩ trivial ⟨trivial, trivial⟩ ⟨rfl, rfl⟩
  have hok : pathOk e l s h = true := by simp [pathOk, *]
  have hv : dval e l = true := by assumption
  have hs := inB_iff.1 (show inB s 0 999999 = true by assumption)
  have hh := inB_iff.1 (show inB h 1 3 = true by assumption)
  obtain ⟨he, h6, _⟩ := dval_iff.1 hv
  have hw := fun x hx => (dval_ok hv x hx).2.2
  obtain ⟨hn, rfl⟩ : ∃ hn : Nat, h = (hn : Int) := ⟨h.toNat, by omega⟩
  have hpv : pathV e l s hn = (pathF hn s l).getD [] := by simp [pathV, hok]
  rw [hpv]
  refine pCn (cloneEn_ac tg l (by omega)) rfl rfl rfl rfl rfl (by decide) (by repeat' (first | exact trivial | exact rfl | refine And.intro ?_ ?_ | exact Or.inl ⟨_, rfl, rfl⟩ | exact ⟨_, rfl, rfl⟩ | exact bor_sl rfl (by assumption))) ?_
  repeat (first | refine p1 rfl rfl rfl rfl ?_ | refine al_end ?_ | refine awp_seq ?_ | refine awp_region ?_ | refine awp_block ?_ | refine awp_skip' ?_ | refine awp_ret' ?_ | refine awp_exit' ?_ | refine xt_sq_n ?_ | refine xt_bk_n ?_ | refine xt_sq_r ?_ | refine xt_bk_r ?_ | refine xt_sq_x ?_ | refine xt_bk_eq ?_ | refine xt_bk_ne rfl ?_ | refine p0 rfl rfl rfl ?_ | refine p0n rfl rfl ?_ | refine pAr rfl rfl rfl rfl rfl rfl rfl (by omega) (by omega) ?_ | refine pBuild rfl rfl rfl rfl rfl rfl ?_ | refine pE (eAlloc rfl rfl rfl rfl) rfl ?_ | refine pE (eBox rfl rfl rfl rfl rfl) rfl ?_ | refine pE (eSt rfl rfl rfl rfl rfl rfl rfl rfl rfl) rfl ?_ | refine pE (eBs rfl rfl rfl rfl rfl rfl rfl rfl rfl) rfl ?_)
  refine awp_loopE (fun a : Nat × Int × List En × List Int => { fr := [(1, .h (.c (.int .i64 a.2.1))), (7, .h (.sl 0 0 a.2.2.1.length)), (8, .h (.sl 1 0 a.2.2.2.length)), (30, .h (.c (.int .i64 hn))), (31, .h (.c (.int .i64 a.1)))], hp := [(0, .arr 38 3 (ens a.2.2.1)), (1, .arr 3 1 (ints a.2.2.2))], nx := 2 })
    (fun n a => a.1 ≤ hn ∧ n = hn - a.1 ∧ a.2.2.2.length = a.1 ∧ (0 ≤ a.2.1 ∧ a.2.1 ≤ 999999) ∧ (∀ x ∈ a.2.2.1, 0 ≤ x.w ∧ x.w ≤ 9) ∧ a.2.2.1.length ≤ 6 ∧ pathF hn s l = (pathF (hn - a.1) a.2.1 a.2.2.1).map fun t => a.2.2.2 ++ t) hn (0, s, l, []) [(0, 1), (1, 2)] ⟨rfl, rfl, rfl, by repeat (first | exact trivial | refine ⟨rfl, ?_⟩), by repeat (first | exact trivial | refine ⟨rfl, ?_⟩)⟩ ⟨Nat.zero_le _, rfl, rfl, hs, hw, h6, by simp⟩ ?_
  rintro n ⟨t, q, r, N⟩ ⟨ht, rfl, hN, hq, hrw, hr6, hpf⟩
  simp only at ht hN hq hrw hr6 hpf ⊢
  repeat' (first | refine p1 rfl rfl rfl rfl ?_ | refine al_end ?_ | refine awp_seq ?_ | refine awp_region ?_ | refine awp_block ?_ | refine awp_skip' ?_ | refine awp_ret' ?_ | refine awp_exit' ?_ | refine xt_sq_n ?_ | refine xt_bk_n ?_ | refine xt_sq_r ?_ | refine xt_bk_r ?_ | refine xt_sq_x ?_ | refine xt_bk_eq ?_ | refine xt_bk_ne rfl ?_ | refine p0 rfl rfl rfl ?_ | refine p0n rfl rfl ?_ | refine pAr rfl rfl rfl rfl rfl rfl rfl (by omega) (by omega) ?_ | refine pBuild rfl rfl rfl rfl rfl rfl ?_ | refine pE (eAlloc rfl rfl rfl rfl) rfl ?_ | refine pE (eBox rfl rfl rfl rfl rfl) rfl ?_ | refine pE (eSt rfl rfl rfl rfl rfl rfl rfl rfl rfl) rfl ?_ | refine pE (eBs rfl rfl rfl rfl rfl rfl rfl rfl rfl) rfl ?_ | refine awp_cond (b := true) rfl (fun _ => ?_) (fun h => Bool.noConfusion h) | refine awp_cond (b := false) rfl (fun h => Bool.noConfusion h) (fun _ => ?_) | ((fail_if_success refine pG (b := true) rfl rfl ?_ ?_); (fail_if_success refine pG (b := false) rfl rfl ?_ ?_); (refine pG rfl rfl (fun hc => ?_) (fun hc => ?_)) <;> try simp at hc) | ((refine awp_cond rfl (fun hc => ?_) (fun hc => ?_)) <;> try simp at hc))
  · have ht' : t < hn := by omega
    obtain ⟨d, hd⟩ : ∃ d, hn - t = d + 1 := ⟨hn - t - 1, by omega⟩
    rw [hd] at hpf
    have htb := totW_bd r hrw
    refine awp_loopE (fun k : Nat => { fr := [(1, .h (.c (.int .i64 q))), (7, .h (.sl 0 0 r.length)), (8, .h (.sl 1 0 N.length)), (9, .h (.c (.int .i64 (totW (r.take k))))), (30, .h (.c (.int .i64 hn))), (31, .h (.c (.int .i64 t))), (33, .h (.sl 0 0 r.length)), (34, .h (.c (.int .i64 r.length))), (35, .h (.c (.int .i64 k)))], hp := [(0, .arr 38 3 (ens r)), (1, .arr 3 1 (ints N))], nx := 2 })
      (fun n k => k ≤ r.length ∧ n = r.length - k) r.length 0 [(0, 0), (1, 1)] ⟨rfl, rfl, rfl, by repeat (first | exact trivial | refine ⟨rfl, ?_⟩), by repeat (first | exact trivial | refine ⟨rfl, ?_⟩)⟩ ⟨Nat.zero_le _, rfl⟩ ?_
    rintro n k ⟨hk, rfl⟩
    have htk := totW_bd (r.take k) fun x hx => hrw x (List.mem_of_mem_take hx)
    rw [List.length_take] at htk
    repeat' (first | refine p1 rfl rfl rfl rfl ?_ | refine al_end ?_ | refine awp_seq ?_ | refine awp_region ?_ | refine awp_block ?_ | refine awp_skip' ?_ | refine awp_ret' ?_ | refine awp_exit' ?_ | refine xt_sq_n ?_ | refine xt_bk_n ?_ | refine xt_sq_r ?_ | refine xt_bk_r ?_ | refine xt_sq_x ?_ | refine xt_bk_eq ?_ | refine xt_bk_ne rfl ?_ | refine p0 rfl rfl rfl ?_ | refine p0n rfl rfl ?_ | refine pAr rfl rfl rfl rfl rfl rfl rfl (by omega) (by omega) ?_ | refine pBuild rfl rfl rfl rfl rfl rfl ?_ | refine pE (eAlloc rfl rfl rfl rfl) rfl ?_ | refine pE (eBox rfl rfl rfl rfl rfl) rfl ?_ | refine pE (eSt rfl rfl rfl rfl rfl rfl rfl rfl rfl) rfl ?_ | refine pE (eBs rfl rfl rfl rfl rfl rfl rfl rfl rfl) rfl ?_ | refine awp_cond (b := true) rfl (fun _ => ?_) (fun h => Bool.noConfusion h) | refine awp_cond (b := false) rfl (fun h => Bool.noConfusion h) (fun _ => ?_) | ((fail_if_success refine pG (b := true) rfl rfl ?_ ?_); (fail_if_success refine pG (b := false) rfl rfl ?_ ?_); (refine pG rfl rfl (fun hc => ?_) (fun hc => ?_)) <;> try simp at hc) | ((refine awp_cond rfl (fun hc => ?_) (fun hc => ?_)) <;> try simp at hc))
    · have hk' : k < r.length := by omega
      have hwk := hrw _ (List.getElem_mem hk')
      refine pIx0 k rfl rfl rfl rfl rfl rfl rfl rfl rfl rfl rfl hk' ?_
      refine pLdR (f := enc) (L := r) k 0 rfl rfl rfl rfl rfl rfl rfl (fun _ => rfl) rfl (Nat.zero_le _) hk' rfl ?_
      repeat (first | refine p1 rfl rfl rfl rfl ?_ | refine al_end ?_ | refine awp_seq ?_ | refine awp_region ?_ | refine awp_block ?_ | refine awp_skip' ?_ | refine awp_ret' ?_ | refine awp_exit' ?_ | refine xt_sq_n ?_ | refine xt_bk_n ?_ | refine xt_sq_r ?_ | refine xt_bk_r ?_ | refine xt_sq_x ?_ | refine xt_bk_eq ?_ | refine xt_bk_ne rfl ?_ | refine p0 rfl rfl rfl ?_ | refine p0n rfl rfl ?_ | refine pAr rfl rfl rfl rfl rfl rfl rfl (by omega) (by omega) ?_ | refine pBuild rfl rfl rfl rfl rfl rfl ?_ | refine pE (eAlloc rfl rfl rfl rfl) rfl ?_ | refine pE (eBox rfl rfl rfl rfl rfl) rfl ?_ | refine pE (eSt rfl rfl rfl rfl rfl rfl rfl rfl rfl) rfl ?_ | refine pE (eBs rfl rfl rfl rfl rfl rfl rfl rfl rfl) rfl ?_)
      refine lp_end (r.length - (k + 1)) (k + 1) [(0, 0), (1, 1)] (by omega) ?_ ⟨hk', rfl⟩
      rw [totW_step hk']
      exact ⟨rfl, rfl, rfl, by repeat (first | exact trivial | refine ⟨rfl, ?_⟩), by repeat (first | exact trivial | refine ⟨rfl, ?_⟩)⟩
    · have hk' : k = r.length := by omega
      subst hk'
      rw [List.take_length] at hc
      rw [pathF_none hc] at hpf
      rw [hpf]
      refine xt_own 6 3 1 rfl (xt_N ?_)
      exact xt_finG [(0, 2)] (.h (.sl 0 0 0)) [.arr 3 1 []] (.inr rfl) rfl rfl rfl rfl rfl ⟨rfl, trivial⟩ trivial ⟨trivial, trivial⟩ ⟨rfl, rfl⟩
    · have hk' : k = r.length := by omega
      subst hk'
      rw [List.take_length] at hc ⊢
      have hW : 0 < totW r := by omega
      have hm0 := Int.emod_nonneg q (show totW r ≠ 0 by omega)
      have hm1 := Int.emod_lt_of_pos q hW
      obtain ⟨j, hj, hpk⟩ := pkF_at r 0 (q % totW r) (fun x hx => (hrw x hx).1) hm0 hm1
      rw [Int.zero_add] at hpk
      rw [pathF_step (by omega) hj hpk] at hpf
      have hq0 : 0 ≤ q / totW r := Int.ediv_nonneg hq.1 (by omega)
      have hq1 : q / totW r ≤ q := Int.ediv_le_self _ hq.1
      refine pRem rfl rfl rfl rfl rfl rfl (by omega) (by omega) ?_
      have hpe := pickEntry_ac 98 r (q % totW r) hm0 (by omega) (by omega) hrw
      rw [hpk] at hpe
      have hpr := ens_plain r
      refine pCv (hpe) rfl rfl (fun _ => rfl) rfl rfl rfl (by decide) (by repeat' (first | exact trivial | exact rfl | refine And.intro ?_ ?_ | exact Or.inl ⟨_, rfl, rfl⟩ | exact ⟨_, rfl, rfl⟩ | exact bor_sl rfl (by assumption))) ?_
      repeat (first | refine p1 rfl rfl rfl rfl ?_ | refine al_end ?_ | refine awp_seq ?_ | refine awp_region ?_ | refine awp_block ?_ | refine awp_skip' ?_ | refine awp_ret' ?_ | refine awp_exit' ?_ | refine xt_sq_n ?_ | refine xt_bk_n ?_ | refine xt_sq_r ?_ | refine xt_bk_r ?_ | refine xt_sq_x ?_ | refine xt_bk_eq ?_ | refine xt_bk_ne rfl ?_ | refine p0 rfl rfl rfl ?_ | refine p0n rfl rfl ?_ | refine pAr rfl rfl rfl rfl rfl rfl rfl (by omega) (by omega) ?_ | refine pBuild rfl rfl rfl rfl rfl rfl ?_ | refine pE (eAlloc rfl rfl rfl rfl) rfl ?_ | refine pE (eBox rfl rfl rfl rfl rfl) rfl ?_ | refine pE (eSt rfl rfl rfl rfl rfl rfl rfl rfl rfl) rfl ?_ | refine pE (eBs rfl rfl rfl rfl rfl rfl rfl rfl rfl) rfl ?_)
      refine pQuo rfl rfl rfl rfl rfl rfl (by omega) (by omega) (by omega) ?_
      repeat (first | refine p1 rfl rfl rfl rfl ?_ | refine al_end ?_ | refine awp_seq ?_ | refine awp_region ?_ | refine awp_block ?_ | refine awp_skip' ?_ | refine awp_ret' ?_ | refine awp_exit' ?_ | refine xt_sq_n ?_ | refine xt_bk_n ?_ | refine xt_sq_r ?_ | refine xt_bk_r ?_ | refine xt_sq_x ?_ | refine xt_bk_eq ?_ | refine xt_bk_ne rfl ?_ | refine p0 rfl rfl rfl ?_ | refine p0n rfl rfl ?_ | refine pAr rfl rfl rfl rfl rfl rfl rfl (by omega) (by omega) ?_ | refine pBuild rfl rfl rfl rfl rfl rfl ?_ | refine pE (eAlloc rfl rfl rfl rfl) rfl ?_ | refine pE (eBox rfl rfl rfl rfl rfl) rfl ?_ | refine pE (eSt rfl rfl rfl rfl rfl rfl rfl rfl rfl) rfl ?_ | refine pE (eBs rfl rfl rfl rfl rfl rfl rfl rfl rfl) rfl ?_)
      refine pIx0 j rfl rfl rfl rfl rfl rfl rfl rfl rfl rfl rfl hj ?_
      repeat (first | refine p1 rfl rfl rfl rfl ?_ | refine al_end ?_ | refine awp_seq ?_ | refine awp_region ?_ | refine awp_block ?_ | refine awp_skip' ?_ | refine awp_ret' ?_ | refine awp_exit' ?_ | refine xt_sq_n ?_ | refine xt_bk_n ?_ | refine xt_sq_r ?_ | refine xt_bk_r ?_ | refine xt_sq_x ?_ | refine xt_bk_eq ?_ | refine xt_bk_ne rfl ?_ | refine p0 rfl rfl rfl ?_ | refine p0n rfl rfl ?_ | refine pAr rfl rfl rfl rfl rfl rfl rfl (by omega) (by omega) ?_ | refine pBuild rfl rfl rfl rfl rfl rfl ?_ | refine pE (eAlloc rfl rfl rfl rfl) rfl ?_ | refine pE (eBox rfl rfl rfl rfl rfl) rfl ?_ | refine pE (eSt rfl rfl rfl rfl rfl rfl rfl rfl rfl) rfl ?_ | refine pE (eBs rfl rfl rfl rfl rfl rfl rfl rfl rfl) rfl ?_)
      refine pLdR (f := enc) (L := r) j 0 rfl rfl rfl rfl rfl rfl rfl (fun _ => rfl) rfl (Nat.zero_le _) hj rfl ?_
      repeat (first | refine p1 rfl rfl rfl rfl ?_ | refine al_end ?_ | refine awp_seq ?_ | refine awp_region ?_ | refine awp_block ?_ | refine awp_skip' ?_ | refine awp_ret' ?_ | refine awp_exit' ?_ | refine xt_sq_n ?_ | refine xt_bk_n ?_ | refine xt_sq_r ?_ | refine xt_bk_r ?_ | refine xt_sq_x ?_ | refine xt_bk_eq ?_ | refine xt_bk_ne rfl ?_ | refine p0 rfl rfl rfl ?_ | refine p0n rfl rfl ?_ | refine pAr rfl rfl rfl rfl rfl rfl rfl (by omega) (by omega) ?_ | refine pBuild rfl rfl rfl rfl rfl rfl ?_ | refine pE (eAlloc rfl rfl rfl rfl) rfl ?_ | refine pE (eBox rfl rfl rfl rfl rfl) rfl ?_ | refine pE (eSt rfl rfl rfl rfl rfl rfl rfl rfl rfl) rfl ?_ | refine pE (eBs rfl rfl rfl rfl rfl rfl rfl rfl rfl) rfl ?_)
      refine pAp1 (f := int1) (L := N) r[j].n rfl rfl rfl rfl rfl rfl rfl rfl rfl rfl rfl rfl (fun _ => rfl) rfl (by omega) rfl ?_
      repeat (first | refine p1 rfl rfl rfl rfl ?_ | refine al_end ?_ | refine awp_seq ?_ | refine awp_region ?_ | refine awp_block ?_ | refine awp_skip' ?_ | refine awp_ret' ?_ | refine awp_exit' ?_ | refine xt_sq_n ?_ | refine xt_bk_n ?_ | refine xt_sq_r ?_ | refine xt_bk_r ?_ | refine xt_sq_x ?_ | refine xt_bk_eq ?_ | refine xt_bk_ne rfl ?_ | refine p0 rfl rfl rfl ?_ | refine p0n rfl rfl ?_ | refine pAr rfl rfl rfl rfl rfl rfl rfl (by omega) (by omega) ?_ | refine pBuild rfl rfl rfl rfl rfl rfl ?_ | refine pE (eAlloc rfl rfl rfl rfl) rfl ?_ | refine pE (eBox rfl rfl rfl rfl rfl) rfl ?_ | refine pE (eSt rfl rfl rfl rfl rfl rfl rfl rfl rfl) rfl ?_ | refine pE (eBs rfl rfl rfl rfl rfl rfl rfl rfl rfl) rfl ?_)
      ((repeat (first | refine awp_seq ?_ | refine awp_block ?_ | refine awp_skip' ?_ | refine xt_sq_n ?_ | refine xt_bk_n ?_)); refine awp_draw (CT.cons (0, true) <| CT.cons (1, true) <| CT.cons (2, true) <| CT.cons (3, true) <| CT.cons (4, true) <| CT.cons (5, true) <| CT.cons (6, true) <| CT.cons (7, false) <| CT.cons (8, true) <| CT.nil) [0] mixed (by kernel_rfl) (by kernel_rfl) rfl rfl ?_)
      repeat' (first | refine d1 rfl rfl rfl rfl rfl ?_ | refine dBuild rfl rfl rfl rfl rfl rfl rfl ?_ | refine d0 rfl rfl rfl rfl ?_ | refine d0n rfl rfl rfl ?_ | refine dE rfl (eAlloc rfl rfl rfl rfl) rfl rfl rfl ?_ | refine dE rfl (eBox rfl rfl rfl rfl rfl) rfl rfl rfl ?_ | refine dE rfl (eSt rfl rfl rfl rfl rfl rfl rfl rfl rfl) rfl rfl rfl ?_ | refine dE rfl (eBs rfl rfl rfl rfl rfl rfl rfl rfl rfl) rfl rfl rfl ?_ | refine d2 rfl rfl rfl rfl rfl ?_ | refine ah_nil ?_ | refine dAr rfl rfl rfl rfl rfl rfl rfl rfl (by omega) (by omega) ?_ | ((fail_if_success refine dG (b := true) rfl rfl rfl ?_ ?_); (fail_if_success refine dG (b := false) rfl rfl rfl ?_ ?_); (refine dG rfl rfl rfl (fun hc => ?_) (fun hc => ?_)) <;> try simp at hc))
      refine dCut0 j rfl rfl rfl rfl rfl rfl rfl rfl rfl rfl rfl rfl (by omega) ?_
      repeat' (first | refine d1 rfl rfl rfl rfl rfl ?_ | refine dBuild rfl rfl rfl rfl rfl rfl rfl ?_ | refine d0 rfl rfl rfl rfl ?_ | refine d0n rfl rfl rfl ?_ | refine dE rfl (eAlloc rfl rfl rfl rfl) rfl rfl rfl ?_ | refine dE rfl (eBox rfl rfl rfl rfl rfl) rfl rfl rfl ?_ | refine dE rfl (eSt rfl rfl rfl rfl rfl rfl rfl rfl rfl) rfl rfl rfl ?_ | refine dE rfl (eBs rfl rfl rfl rfl rfl rfl rfl rfl rfl) rfl rfl rfl ?_ | refine d2 rfl rfl rfl rfl rfl ?_ | refine ah_nil ?_ | refine dAr rfl rfl rfl rfl rfl rfl rfl rfl (by omega) (by omega) ?_ | ((fail_if_success refine dG (b := true) rfl rfl rfl ?_ ?_); (fail_if_success refine dG (b := false) rfl rfl rfl ?_ ?_); (refine dG rfl rfl rfl (fun hc => ?_) (fun hc => ?_)) <;> try simp at hc))
      refine dCutW (j + 1) r.length rfl rfl rfl rfl rfl rfl rfl rfl rfl rfl rfl rfl rfl (by omega) (by omega) ?_
      refine dApS (f := enc) (L := r) rfl rfl rfl rfl rfl rfl rfl rfl rfl rfl rfl rfl rfl (fun _ => rfl) enc_free (by omega) (by omega) (by omega) rfl ?_
      repeat' (first | refine d1 rfl rfl rfl rfl rfl ?_ | refine dBuild rfl rfl rfl rfl rfl rfl rfl ?_ | refine d0 rfl rfl rfl rfl ?_ | refine d0n rfl rfl rfl ?_ | refine dE rfl (eAlloc rfl rfl rfl rfl) rfl rfl rfl ?_ | refine dE rfl (eBox rfl rfl rfl rfl rfl) rfl rfl rfl ?_ | refine dE rfl (eSt rfl rfl rfl rfl rfl rfl rfl rfl rfl) rfl rfl rfl ?_ | refine dE rfl (eBs rfl rfl rfl rfl rfl rfl rfl rfl rfl) rfl rfl rfl ?_ | refine d2 rfl rfl rfl rfl rfl ?_ | refine ah_nil ?_ | refine dAr rfl rfl rfl rfl rfl rfl rfl rfl (by omega) (by omega) ?_ | ((fail_if_success refine dG (b := true) rfl rfl rfl ?_ ?_); (fail_if_success refine dG (b := false) rfl rfl rfl ?_ ?_); (refine dG rfl rfl rfl (fun hc => ?_) (fun hc => ?_)) <;> try simp at hc))
      repeat (first | refine p1 rfl rfl rfl rfl ?_ | refine al_end ?_ | refine awp_seq ?_ | refine awp_region ?_ | refine awp_block ?_ | refine awp_skip' ?_ | refine awp_ret' ?_ | refine awp_exit' ?_ | refine xt_sq_n ?_ | refine xt_bk_n ?_ | refine xt_sq_r ?_ | refine xt_bk_r ?_ | refine xt_sq_x ?_ | refine xt_bk_eq ?_ | refine xt_bk_ne rfl ?_ | refine p0 rfl rfl rfl ?_ | refine p0n rfl rfl ?_ | refine pAr rfl rfl rfl rfl rfl rfl rfl (by omega) (by omega) ?_ | refine pBuild rfl rfl rfl rfl rfl rfl ?_ | refine pE (eAlloc rfl rfl rfl rfl) rfl ?_ | refine pE (eBox rfl rfl rfl rfl rfl) rfl ?_ | refine pE (eSt rfl rfl rfl rfl rfl rfl rfl rfl rfl) rfl ?_ | refine pE (eBs rfl rfl rfl rfl rfl rfl rfl rfl rfl) rfl ?_)
      have hlen : (r.take j ++ r.drop (0 + (j + 1))).length = j + (r.length - (j + 1)) := by simp; omega
      rw [← hlen, Nat.zero_add]
      refine lp_end (hn - (t + 1)) (t + 1, q / totW r, r.take j ++ r.drop (j + 1), N ++ [r[j].n]) [(0, 4), (1, 3)] (by omega) (by show Le _ _ _ ⟨_, _, _⟩; rw [show (N ++ [r[j].n]).length = N.length + 1 from by simp]; exact ⟨rfl, rfl, rfl, by repeat (first | exact trivial | refine ⟨rfl, ?_⟩), by repeat (first | exact trivial | refine ⟨rfl, ?_⟩)⟩) ⟨by show t + 1 ≤ hn; omega, rfl, by simp [hN], ⟨hq0, by show q / totW r ≤ 999999; omega⟩, ?_, ?_, ?_⟩
      · intro x hx
        rcases List.mem_append.1 hx with hx | hx
        · exact hrw x (List.mem_of_mem_take hx)
        · exact hrw x (List.mem_of_mem_drop hx)
      · rw [Nat.zero_add] at hlen
        show (r.take j ++ r.drop (j + 1)).length ≤ 6
        rw [hlen]; omega
      · rw [hpf, show hn - (t + 1) = d by omega]
        simp [Option.map_map, Function.comp_def]
  · have ht' : hn - t = 0 := by omega
    rw [ht'] at hpf
    simp only [pathF, Option.map_some, List.append_nil] at hpf
    rw [hpf]
    refine xt_N ?_
    exact xt_finG [(0, 1)] (.h (.sl 0 0 N.length)) [.arr 3 1 (ints N)] (.inr rfl) rfl rfl rfl rfl rfl ⟨rfl, trivial⟩ trivial ⟨ints_tgs N, trivial⟩ ⟨rfl, rfl⟩
set_option maxHeartbeats 4000000 in
set_option maxRecDepth 100000 in
theorem specPath_ac (tg : Nat) (e : Int) (l : List En) (s h : Int) (hl : l.length ≤ 1048576) : AC Try.prog 42 [dv tg e l, .h (.c (.int .i64 s)), .h (.c (.int .i64 h))] [] [0]
    (fun r h' => h' = [.arr 3 1 (ints (pathV e l s h))] ∧ r = .h (.sl 0 0 (pathV e l s h).length)) := by
  refine ac_body teok Try.func42 rfl (by kernel_rfl) Try.ntmps42 rfl rfl ?_
  intro w0 ps g0 im0
  have hdv := specDV_ac tg e l (by omega)
  repeat' (first | refine p1 rfl rfl rfl rfl ?_ | refine al_end ?_ | refine awp_seq ?_ | refine awp_region ?_ | refine awp_block ?_ | refine awp_skip' ?_ | refine awp_ret' ?_ | refine awp_exit' ?_ | refine xt_sq_n ?_ | refine xt_bk_n ?_ | refine xt_sq_r ?_ | refine xt_bk_r ?_ | refine xt_sq_x ?_ | refine xt_bk_eq ?_ | refine xt_bk_ne rfl ?_ | refine p0 rfl rfl rfl ?_ | refine p0n rfl rfl ?_ | refine pAr rfl rfl rfl rfl rfl rfl rfl (by omega) (by omega) ?_ | refine pBuild rfl rfl rfl rfl rfl rfl ?_ | refine pE (eAlloc rfl rfl rfl rfl) rfl ?_ | refine pE (eBox rfl rfl rfl rfl rfl) rfl ?_ | refine pE (eSt rfl rfl rfl rfl rfl rfl rfl rfl rfl) rfl ?_ | refine pE (eBs rfl rfl rfl rfl rfl rfl rfl rfl rfl) rfl ?_ | refine awp_cond (b := true) rfl (fun _ => ?_) (fun h => Bool.noConfusion h) | refine awp_cond (b := false) rfl (fun h => Bool.noConfusion h) (fun _ => ?_) | ((fail_if_success refine pG (b := true) rfl rfl ?_ ?_); (fail_if_success refine pG (b := false) rfl rfl ?_ ?_); (refine pG rfl rfl (fun hc => ?_) (fun hc => ?_)) <;> try simp at hc) | ((refine awp_cond rfl (fun hc => ?_) (fun hc => ?_)) <;> try simp at hc) | refine pC0 (hdv) rfl rfl rfl rfl rfl rfl rfl (by decide) ?_ | refine pC0 (l6In_ac _ _ _) rfl rfl rfl rfl rfl rfl rfl (by decide) ?_)
  iterate 3
    · rw [pathV_bad (by simp [pathOk, *])]
      exact xt_finG [(0, 1)] (.h (.sl 0 0 0)) [.arr 3 1 []] (.inr rfl) rfl rfl rfl rfl rfl ⟨rfl, trivial⟩ trivial ⟨trivial, trivial⟩ ⟨rfl, rfl⟩
  have hok : pathOk e l s h = true := by simp [pathOk, *]
  have hv : dval e l = true := by assumption
  have hs := inB_iff.1 (show inB s 0 999999 = true by assumption)
  have hh := inB_iff.1 (show inB h 1 3 = true by assumption)
  obtain ⟨he, h6, _⟩ := dval_iff.1 hv
  have hw := fun x hx => (dval_ok hv x hx).2.2
  obtain ⟨hn, rfl⟩ : ∃ hn : Nat, h = (hn : Int) := ⟨h.toNat, by omega⟩
  have hpv : pathV e l s hn = (pathF hn s l).getD [] := by simp [pathV, hok]
  rw [hpv]
  refine awp_loopE (fun a : Nat × Int × List Int × List Int => { fr := [(1, .h (.c (.int .i64 a.2.1))), (2, .h (.c (.int .i64 hn))), (3, .h (.ptr 0 0)), (7, .h (.sl 1 0 a.2.2.2.length)), (8, .h (.sl 2 0 a.2.2.1.length))], hp := [(0, dbx tg e l), (1, .arr 3 1 (ints a.2.2.2)), (2, .arr 3 1 (ints a.2.2.1))], nx := 3 })
    (fun n a => a.1 ≤ hn ∧ n = hn - a.1 ∧ a.2.2.2.length = a.1 ∧ a.2.2.1.length = a.1 ∧ (0 ≤ a.2.1 ∧ a.2.1 ≤ 999999) ∧ pathF hn s l = (pathF (hn - a.1) a.2.1 (remC a.2.2.1 0 l)).map fun t => a.2.2.2 ++ t) hn (0, s, [], []) [(0, 0), (1, 1), (2, 2)] ⟨rfl, rfl, rfl, by repeat (first | exact trivial | refine ⟨rfl, ?_⟩), by repeat (first | exact trivial | refine ⟨rfl, ?_⟩)⟩ ⟨Nat.zero_le _, rfl, rfl, rfl, hs, by simp [remC_nil]⟩ ?_
  rintro n ⟨t, q, C, N⟩ ⟨ht, rfl, hN, hC, hq, hpf⟩
  simp only at ht hN hC hq hpf ⊢
  have hrw : ∀ x ∈ remC C 0 l, 0 ≤ x.w ∧ x.w ≤ 9 := fun x hx => hw x (remC_sub C l 0 x hx)
  have hrl := remC_len C l 0
  have htb := totW_bd _ hrw
  have hwc := wtC_rem C l 0
  repeat' (first | refine p1 rfl rfl rfl rfl ?_ | refine al_end ?_ | refine awp_seq ?_ | refine awp_region ?_ | refine awp_block ?_ | refine awp_skip' ?_ | refine awp_ret' ?_ | refine awp_exit' ?_ | refine xt_sq_n ?_ | refine xt_bk_n ?_ | refine xt_sq_r ?_ | refine xt_bk_r ?_ | refine xt_sq_x ?_ | refine xt_bk_eq ?_ | refine xt_bk_ne rfl ?_ | refine p0 rfl rfl rfl ?_ | refine p0n rfl rfl ?_ | refine pAr rfl rfl rfl rfl rfl rfl rfl (by omega) (by omega) ?_ | refine pBuild rfl rfl rfl rfl rfl rfl ?_ | refine pE (eAlloc rfl rfl rfl rfl) rfl ?_ | refine pE (eBox rfl rfl rfl rfl rfl) rfl ?_ | refine pE (eSt rfl rfl rfl rfl rfl rfl rfl rfl rfl) rfl ?_ | refine pE (eBs rfl rfl rfl rfl rfl rfl rfl rfl rfl) rfl ?_ | refine awp_cond (b := true) rfl (fun _ => ?_) (fun h => Bool.noConfusion h) | refine awp_cond (b := false) rfl (fun h => Bool.noConfusion h) (fun _ => ?_) | ((fail_if_success refine pG (b := true) rfl rfl ?_ ?_); (fail_if_success refine pG (b := false) rfl rfl ?_ ?_); (refine pG rfl rfl (fun hc => ?_) (fun hc => ?_)) <;> try simp at hc) | ((refine awp_cond rfl (fun hc => ?_) (fun hc => ?_)) <;> try simp at hc))
  · have ht' : t < hn := by omega
    obtain ⟨d, hd⟩ : ∃ d, hn - t = d + 1 := ⟨hn - t - 1, by omega⟩
    rw [hd] at hpf
    have hpC := ints_plain C
    have hwa := l21Weight_ac tg 98 e l C (by omega) (by omega) (fun x hx => by have := hw x hx; omega)
    rw [hwc] at hwa
    refine pCv (hwa) rfl rfl (fun _ => rfl) rfl rfl rfl (by decide) (by repeat' (first | exact trivial | exact rfl | refine And.intro ?_ ?_ | exact Or.inl ⟨_, rfl, rfl⟩ | exact ⟨_, rfl, rfl⟩ | exact bor_sl rfl (by assumption))) ?_
    repeat' (first | refine p1 rfl rfl rfl rfl ?_ | refine al_end ?_ | refine awp_seq ?_ | refine awp_region ?_ | refine awp_block ?_ | refine awp_skip' ?_ | refine awp_ret' ?_ | refine awp_exit' ?_ | refine xt_sq_n ?_ | refine xt_bk_n ?_ | refine xt_sq_r ?_ | refine xt_bk_r ?_ | refine xt_sq_x ?_ | refine xt_bk_eq ?_ | refine xt_bk_ne rfl ?_ | refine p0 rfl rfl rfl ?_ | refine p0n rfl rfl ?_ | refine pAr rfl rfl rfl rfl rfl rfl rfl (by omega) (by omega) ?_ | refine pBuild rfl rfl rfl rfl rfl rfl ?_ | refine pE (eAlloc rfl rfl rfl rfl) rfl ?_ | refine pE (eBox rfl rfl rfl rfl rfl) rfl ?_ | refine pE (eSt rfl rfl rfl rfl rfl rfl rfl rfl rfl) rfl ?_ | refine pE (eBs rfl rfl rfl rfl rfl rfl rfl rfl rfl) rfl ?_ | refine awp_cond (b := true) rfl (fun _ => ?_) (fun h => Bool.noConfusion h) | refine awp_cond (b := false) rfl (fun h => Bool.noConfusion h) (fun _ => ?_) | ((fail_if_success refine pG (b := true) rfl rfl ?_ ?_); (fail_if_success refine pG (b := false) rfl rfl ?_ ?_); (refine pG rfl rfl (fun hc => ?_) (fun hc => ?_)) <;> try simp at hc) | ((refine awp_cond rfl (fun hc => ?_) (fun hc => ?_)) <;> try simp at hc))
    · rw [pathF_none hc] at hpf
      rw [hpf]
      exact xt_finG [(0, 3)] (.h (.sl 0 0 0)) [.arr 3 1 []] (.inr rfl) rfl rfl rfl rfl rfl ⟨rfl, trivial⟩ trivial ⟨trivial, trivial⟩ ⟨rfl, rfl⟩
    · have hW : 0 < totW (remC C 0 l) := by omega
      have hm0 := Int.emod_nonneg q (show totW (remC C 0 l) ≠ 0 by omega)
      have hm1 := Int.emod_lt_of_pos q hW
      obtain ⟨k, j, hk, hj, hpk, hpj, hget, hrem⟩ := pick_rel C l 0 (q % totW (remC C 0 l)) (fun x hx => (hw x hx).1) hm0 hm1
      have hpj0 := hpj 0
      rw [Int.zero_add] at hpk hpj0 hrem
      rw [pathF_step (by omega) hj hpj0] at hpf
      have hnm : (remC C 0 l)[j] = l[k] := by
        rw [List.getElem?_eq_getElem hj, List.getElem?_eq_getElem hk] at hget
        exact Option.some.inj hget
      rw [hnm, ← List.eraseIdx_eq_take_drop_succ, ← hrem] at hpf
      have hq0 : 0 ≤ q / totW (remC C 0 l) := Int.ediv_nonneg hq.1 (by omega)
      have hq1 : q / totW (remC C 0 l) ≤ q := Int.ediv_le_self _ hq.1
      have hpe := l21Pick_ac tg 98 e l C (q % totW (remC C 0 l)) hm0 (by omega) (by omega) (by omega) hw
      rw [hpk] at hpe
      ((repeat (first | refine awp_seq ?_ | refine awp_block ?_ | refine awp_skip' ?_ | refine xt_sq_n ?_ | refine xt_bk_n ?_)); refine awp_draw (CT.cons (0, true) <| CT.cons (1, true) <| CT.cons (2, true) <| CT.cons (3, true) <| CT.cons (4, true) <| CT.cons (5, false) <| CT.cons (6, true) <| CT.nil) [] mixed (by kernel_rfl) (by kernel_rfl) rfl rfl ?_)
      repeat' (first | refine d1 rfl rfl rfl rfl rfl ?_ | refine dBuild rfl rfl rfl rfl rfl rfl rfl ?_ | refine d0 rfl rfl rfl rfl ?_ | refine d0n rfl rfl rfl ?_ | refine dE rfl (eAlloc rfl rfl rfl rfl) rfl rfl rfl ?_ | refine dE rfl (eBox rfl rfl rfl rfl rfl) rfl rfl rfl ?_ | refine dE rfl (eSt rfl rfl rfl rfl rfl rfl rfl rfl rfl) rfl rfl rfl ?_ | refine dE rfl (eBs rfl rfl rfl rfl rfl rfl rfl rfl rfl) rfl rfl rfl ?_ | refine d2 rfl rfl rfl rfl rfl ?_ | refine ah_nil ?_ | refine dAr rfl rfl rfl rfl rfl rfl rfl rfl (by omega) (by omega) ?_ | ((fail_if_success refine dG (b := true) rfl rfl rfl ?_ ?_); (fail_if_success refine dG (b := false) rfl rfl rfl ?_ ?_); (refine dG rfl rfl rfl (fun hc => ?_) (fun hc => ?_)) <;> try simp at hc))
      refine dRem rfl rfl rfl rfl rfl rfl rfl (by omega) (by omega) ?_
      repeat' (first | refine d1 rfl rfl rfl rfl rfl ?_ | refine dBuild rfl rfl rfl rfl rfl rfl rfl ?_ | refine d0 rfl rfl rfl rfl ?_ | refine d0n rfl rfl rfl ?_ | refine dE rfl (eAlloc rfl rfl rfl rfl) rfl rfl rfl ?_ | refine dE rfl (eBox rfl rfl rfl rfl rfl) rfl rfl rfl ?_ | refine dE rfl (eSt rfl rfl rfl rfl rfl rfl rfl rfl rfl) rfl rfl rfl ?_ | refine dE rfl (eBs rfl rfl rfl rfl rfl rfl rfl rfl rfl) rfl rfl rfl ?_ | refine d2 rfl rfl rfl rfl rfl ?_ | refine ah_nil ?_ | refine dAr rfl rfl rfl rfl rfl rfl rfl rfl (by omega) (by omega) ?_ | ((fail_if_success refine dG (b := true) rfl rfl rfl ?_ ?_); (fail_if_success refine dG (b := false) rfl rfl rfl ?_ ?_); (refine dG rfl rfl rfl (fun hc => ?_) (fun hc => ?_)) <;> try simp at hc))
      refine dCv (hpe) rfl rfl rfl (fun _ => rfl) rfl rfl rfl (by decide) (by repeat' (first | exact trivial | exact rfl | refine And.intro ?_ ?_ | exact Or.inl ⟨_, rfl, rfl⟩ | exact ⟨_, rfl, rfl⟩ | exact bor_sl rfl (by assumption))) ?_
      repeat' (first | refine d1 rfl rfl rfl rfl rfl ?_ | refine dBuild rfl rfl rfl rfl rfl rfl rfl ?_ | refine d0 rfl rfl rfl rfl ?_ | refine d0n rfl rfl rfl ?_ | refine dE rfl (eAlloc rfl rfl rfl rfl) rfl rfl rfl ?_ | refine dE rfl (eBox rfl rfl rfl rfl rfl) rfl rfl rfl ?_ | refine dE rfl (eSt rfl rfl rfl rfl rfl rfl rfl rfl rfl) rfl rfl rfl ?_ | refine dE rfl (eBs rfl rfl rfl rfl rfl rfl rfl rfl rfl) rfl rfl rfl ?_ | refine d2 rfl rfl rfl rfl rfl ?_ | refine ah_nil ?_ | refine dAr rfl rfl rfl rfl rfl rfl rfl rfl (by omega) (by omega) ?_ | ((fail_if_success refine dG (b := true) rfl rfl rfl ?_ ?_); (fail_if_success refine dG (b := false) rfl rfl rfl ?_ ?_); (refine dG rfl rfl rfl (fun hc => ?_) (fun hc => ?_)) <;> try simp at hc))
      repeat (first | refine p1 rfl rfl rfl rfl ?_ | refine al_end ?_ | refine awp_seq ?_ | refine awp_region ?_ | refine awp_block ?_ | refine awp_skip' ?_ | refine awp_ret' ?_ | refine awp_exit' ?_ | refine xt_sq_n ?_ | refine xt_bk_n ?_ | refine xt_sq_r ?_ | refine xt_bk_r ?_ | refine xt_sq_x ?_ | refine xt_bk_eq ?_ | refine xt_bk_ne rfl ?_ | refine p0 rfl rfl rfl ?_ | refine p0n rfl rfl ?_ | refine pAr rfl rfl rfl rfl rfl rfl rfl (by omega) (by omega) ?_ | refine pBuild rfl rfl rfl rfl rfl rfl ?_ | refine pE (eAlloc rfl rfl rfl rfl) rfl ?_ | refine pE (eBox rfl rfl rfl rfl rfl) rfl ?_ | refine pE (eSt rfl rfl rfl rfl rfl rfl rfl rfl rfl) rfl ?_ | refine pE (eBs rfl rfl rfl rfl rfl rfl rfl rfl rfl) rfl ?_)
      refine pQuo rfl rfl rfl rfl rfl rfl (by omega) (by omega) (by omega) ?_
      repeat (first | refine p1 rfl rfl rfl rfl ?_ | refine al_end ?_ | refine awp_seq ?_ | refine awp_region ?_ | refine awp_block ?_ | refine awp_skip' ?_ | refine awp_ret' ?_ | refine awp_exit' ?_ | refine xt_sq_n ?_ | refine xt_bk_n ?_ | refine xt_sq_r ?_ | refine xt_bk_r ?_ | refine xt_sq_x ?_ | refine xt_bk_eq ?_ | refine xt_bk_ne rfl ?_ | refine p0 rfl rfl rfl ?_ | refine p0n rfl rfl ?_ | refine pAr rfl rfl rfl rfl rfl rfl rfl (by omega) (by omega) ?_ | refine pBuild rfl rfl rfl rfl rfl rfl ?_ | refine pE (eAlloc rfl rfl rfl rfl) rfl ?_ | refine pE (eBox rfl rfl rfl rfl rfl) rfl ?_ | refine pE (eSt rfl rfl rfl rfl rfl rfl rfl rfl rfl) rfl ?_ | refine pE (eBs rfl rfl rfl rfl rfl rfl rfl rfl rfl) rfl ?_)
      refine pAp1 (f := int1) (L := C) (k : Int) rfl rfl rfl rfl rfl rfl rfl rfl rfl rfl rfl rfl (fun _ => rfl) rfl (by omega) rfl ?_
      repeat (first | refine p1 rfl rfl rfl rfl ?_ | refine al_end ?_ | refine awp_seq ?_ | refine awp_region ?_ | refine awp_block ?_ | refine awp_skip' ?_ | refine awp_ret' ?_ | refine awp_exit' ?_ | refine xt_sq_n ?_ | refine xt_bk_n ?_ | refine xt_sq_r ?_ | refine xt_bk_r ?_ | refine xt_sq_x ?_ | refine xt_bk_eq ?_ | refine xt_bk_ne rfl ?_ | refine p0 rfl rfl rfl ?_ | refine p0n rfl rfl ?_ | refine pAr rfl rfl rfl rfl rfl rfl rfl (by omega) (by omega) ?_ | refine pBuild rfl rfl rfl rfl rfl rfl ?_ | refine pE (eAlloc rfl rfl rfl rfl) rfl ?_ | refine pE (eBox rfl rfl rfl rfl rfl) rfl ?_ | refine pE (eSt rfl rfl rfl rfl rfl rfl rfl rfl rfl) rfl ?_ | refine pE (eBs rfl rfl rfl rfl rfl rfl rfl rfl rfl) rfl ?_)
      refine pIxR (f := enc) k rfl rfl rfl rfl rfl rfl rfl rfl rfl (fun _ => rfl) rfl rfl hk ?_
      repeat (first | refine p1 rfl rfl rfl rfl ?_ | refine al_end ?_ | refine awp_seq ?_ | refine awp_region ?_ | refine awp_block ?_ | refine awp_skip' ?_ | refine awp_ret' ?_ | refine awp_exit' ?_ | refine xt_sq_n ?_ | refine xt_bk_n ?_ | refine xt_sq_r ?_ | refine xt_bk_r ?_ | refine xt_sq_x ?_ | refine xt_bk_eq ?_ | refine xt_bk_ne rfl ?_ | refine p0 rfl rfl rfl ?_ | refine p0n rfl rfl ?_ | refine pAr rfl rfl rfl rfl rfl rfl rfl (by omega) (by omega) ?_ | refine pBuild rfl rfl rfl rfl rfl rfl ?_ | refine pE (eAlloc rfl rfl rfl rfl) rfl ?_ | refine pE (eBox rfl rfl rfl rfl rfl) rfl ?_ | refine pE (eSt rfl rfl rfl rfl rfl rfl rfl rfl rfl) rfl ?_ | refine pE (eBs rfl rfl rfl rfl rfl rfl rfl rfl rfl) rfl ?_)
      refine pAp1 (f := int1) (L := N) l[k].n rfl rfl rfl rfl rfl rfl rfl rfl rfl rfl rfl rfl (fun _ => rfl) rfl (by omega) rfl ?_
      repeat (first | refine p1 rfl rfl rfl rfl ?_ | refine al_end ?_ | refine awp_seq ?_ | refine awp_region ?_ | refine awp_block ?_ | refine awp_skip' ?_ | refine awp_ret' ?_ | refine awp_exit' ?_ | refine xt_sq_n ?_ | refine xt_bk_n ?_ | refine xt_sq_r ?_ | refine xt_bk_r ?_ | refine xt_sq_x ?_ | refine xt_bk_eq ?_ | refine xt_bk_ne rfl ?_ | refine p0 rfl rfl rfl ?_ | refine p0n rfl rfl ?_ | refine pAr rfl rfl rfl rfl rfl rfl rfl (by omega) (by omega) ?_ | refine pBuild rfl rfl rfl rfl rfl rfl ?_ | refine pE (eAlloc rfl rfl rfl rfl) rfl ?_ | refine pE (eBox rfl rfl rfl rfl rfl) rfl ?_ | refine pE (eSt rfl rfl rfl rfl rfl rfl rfl rfl rfl) rfl ?_ | refine pE (eBs rfl rfl rfl rfl rfl rfl rfl rfl rfl) rfl ?_)
      refine lp_end (hn - (t + 1)) (t + 1, q / totW (remC C 0 l), C ++ [(k : Int)], N ++ [l[k].n]) [(0, 0), (1, 6), (2, 4)] (by omega) (by show Le _ _ _ ⟨_, _, _⟩; rw [show (N ++ [l[k].n]).length = N.length + 1 from by simp, show (C ++ [(k : Int)]).length = C.length + 1 from by simp]; exact ⟨rfl, rfl, rfl, by repeat (first | exact trivial | refine ⟨rfl, ?_⟩), by repeat (first | exact trivial | refine ⟨rfl, ?_⟩)⟩) ⟨by show t + 1 ≤ hn; omega, rfl, by simp [hN], by simp [hC], ⟨hq0, by show q / totW (remC C 0 l) ≤ 999999; omega⟩, ?_⟩
      rw [hpf, show hn - (t + 1) = d by omega]
      simp [Option.map_map, Function.comp_def]
  · have ht' : hn - t = 0 := by omega
    rw [ht'] at hpf
    simp only [pathF, Option.map_some, List.append_nil] at hpf
    rw [hpf]
    exact xt_finG [(0, 1)] (.h (.sl 0 0 N.length)) [.arr 3 1 (ints N)] (.inr rfl) rfl rfl rfl rfl rfl ⟨rfl, trivial⟩ trivial ⟨ints_tgs N, trivial⟩ ⟨rfl, rfl⟩
end Go.Proofs.Ytobendpgedlaeaa
