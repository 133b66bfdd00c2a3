import Derived.Test.YtlgfdjmnedfjfaaL12
import Derived.Test.YtlgfdjmnedfjfaaEw
namespace Go.Proofs.Ytlgfdjmnedfjfaa
open Go.RowKit
attribute [local irreducible] AWP AL XT AC ES PS AH LpQ
def addTo (l : List LC) (p : List Int) (b : Int) : Nat → List LC
  | 0 => l
  | i + 1 => ins (p.getD i 0) (p.getD (i + 1) 0) b (addTo l p b i)
theorem addTo_length (l : List LC) (p : List Int) (b : Int) : ∀ i, (addTo l p b i).length ≤ l.length + i
  | 0 => Nat.le_refl _
  | i + 1 => by
    have := addTo_length l p b i
    have h := ins_length (f := p.getD i 0) (t := p.getD (i + 1) 0) (b := b) (addTo l p b i)
    simp only [addTo]; omega
theorem names_at {p : List Int} (h : namesB p = true) {k : Nat} (hk : k < p.length) : 0 ≤ p.getD k 0 ∧ p.getD k 0 ≤ 7 := by
  have := List.all_eq_true.1 h p[k] (List.getElem_mem hk)
  rw [List.getD_eq_getElem?_getD, List.getElem?_eq_getElem hk]
  simpa [nameB, inB] using this
theorem addTo_wf {l : List LC} {p : List Int} {b : Int} (hb : 0 ≤ b ∧ b ≤ 1) (hl : lv l = true) (hp : namesB p = true) : ∀ i, i < p.length → WfN (99 + i) (addTo l p b i)
  | 0, _ => wfN_lv hl
  | i + 1, h => by
    have := wfN_ins (f := p.getD i 0) (t := p.getD (i + 1) 0) (by omega) (names_at hp (by omega)) (names_at hp h) hb _ (addTo_wf hb hl hp i (by omega))
    simp only [addTo]
    intro x hx
    have := this x hx
    omega
theorem addTo_srt {l : List LC} {p : List Int} {b : Int} (hl : lv l = true) : ∀ i, Srt (addTo l p b i)
  | 0 => srt_lv hl
  | i + 1 => srt_ins _ _ _ _ (addTo_srt hl i)
theorem wf_mono {c d : Int} {l : List LC} (h : WfN c l) (hcd : c ≤ d) : WfN d l := fun x hx => by have := h x hx; omega
theorem b2i_bd (b : Bool) : 0 ≤ b2i b ∧ b2i b ≤ 1 := by cases b <;> simp [b2i]
def addL (l : List LC) (p : List Int) (b : Bool) : List LC × Bool :=
  if lv l && loopB p then (if lv (addTo l p (b2i b) (p.length - 1)) then (addTo l p (b2i b) (p.length - 1), true) else (l, false)) else ([], false)
theorem addL_bad {l : List LC} {p : List Int} {b : Bool} (h : (lv l && loopB p) = false) : addL l p b = ([], false) := by simp [addL, h]
theorem addL_no {l : List LC} {p : List Int} {b : Bool} (h1 : lv l = true) (h2 : loopB p = true) (h3 : lv (addTo l p (b2i b) (p.length - 1)) = false) : addL l p b = (l, false) := by simp [addL, h1, h2, h3]
theorem addL_yes {l : List LC} {p : List Int} {b : Bool} (h1 : lv l = true) (h2 : loopB p = true) (h3 : lv (addTo l p (b2i b) (p.length - 1)) = true) : addL l p b = (addTo l p (b2i b) (p.length - 1), true) := by simp [addL, h1, h2, h3]
theorem loop_facts {p : List Int} (h : loopB p = true) : 2 ≤ p.length ∧ p.length ≤ 4 ∧ namesB p = true := by
  simp only [loopB, Bool.and_eq_true, inB_iff] at h
  exact ⟨by omega, by omega, h.1.2⟩
theorem getD_at {p : List Int} {k : Nat} (hk : k < p.length) : p[k] = p.getD k 0 := by
  rw [List.getD_eq_getElem?_getD, List.getElem?_eq_getElem hk]; rfl
set_option maxRecDepth 100000 in
theorem cloneLC_ac (tg : Nat) (l : List LC) (hl : l.length ≤ 1099511627) : AC Try.prog 61 [.h (.c (.rd (tg + 1) l.length (lcs l)))] [] [0] (fun r h => h = [.arr 40 4 (lcs l)] ∧ r = .h (.sl 0 0 l.length)) := by
  refine ac_body teok Try.func61 rfl (by kernel_rfl) Try.ntmps61 rfl rfl ?_
  intro w0 ps g0 im0
  repeat (first | refine p1 rfl rfl rfl rfl ?_ | refine al_end ?_ | refine awp_seq ?_ | refine awp_region ?_ | refine awp_block ?_ | refine awp_skip' ?_ | refine awp_ret' ?_ | refine awp_exit' ?_ | refine xt_sq_n ?_ | refine xt_bk_n ?_ | refine xt_sq_r ?_ | refine xt_bk_r ?_ | refine xt_sq_x ?_ | refine xt_bk_eq ?_ | refine xt_bk_ne rfl ?_ | refine p0 rfl rfl rfl ?_ | refine p0n rfl rfl ?_ | refine pAr rfl rfl rfl rfl rfl rfl rfl (by omega) (by omega) ?_ | refine pBuild rfl rfl rfl rfl rfl rfl ?_ | refine pE (eAlloc rfl rfl rfl rfl) rfl ?_ | refine pE (eBox rfl rfl rfl rfl rfl) rfl ?_ | refine pE (eSt rfl rfl rfl rfl rfl rfl rfl rfl rfl) rfl ?_ | refine pE (eBs rfl rfl rfl rfl rfl rfl rfl rfl rfl) rfl ?_)
  refine pE (eMk 0 l.length rfl rfl rfl rfl rfl rfl rfl rfl rfl rfl (Nat.zero_le _) ?_ ?_) rfl ?_
  · show l.length * 32 ≤ _
    omega
  · omega
  repeat (first | refine p1 rfl rfl rfl rfl ?_ | refine al_end ?_ | refine awp_seq ?_ | refine awp_region ?_ | refine awp_block ?_ | refine awp_skip' ?_ | refine awp_ret' ?_ | refine awp_exit' ?_ | refine xt_sq_n ?_ | refine xt_bk_n ?_ | refine xt_sq_r ?_ | refine xt_bk_r ?_ | refine xt_sq_x ?_ | refine xt_bk_eq ?_ | refine xt_bk_ne rfl ?_ | refine p0 rfl rfl rfl ?_ | refine p0n rfl rfl ?_ | refine pAr rfl rfl rfl rfl rfl rfl rfl (by omega) (by omega) ?_ | refine pBuild rfl rfl rfl rfl rfl rfl ?_ | refine pE (eAlloc rfl rfl rfl rfl) rfl ?_ | refine pE (eBox rfl rfl rfl rfl rfl) rfl ?_ | refine pE (eSt rfl rfl rfl rfl rfl rfl rfl rfl rfl) rfl ?_ | refine pE (eBs rfl rfl rfl rfl rfl rfl rfl rfl rfl) rfl ?_)
  refine pApR (f := lcc) (L := []) rfl rfl rfl rfl rfl rfl rfl rfl rfl rfl rfl (fun _ => rfl) rfl rfl (by omega) rfl ?_
  repeat (first | refine p1 rfl rfl rfl rfl ?_ | refine al_end ?_ | refine awp_seq ?_ | refine awp_region ?_ | refine awp_block ?_ | refine awp_skip' ?_ | refine awp_ret' ?_ | refine awp_exit' ?_ | refine xt_sq_n ?_ | refine xt_bk_n ?_ | refine xt_sq_r ?_ | refine xt_bk_r ?_ | refine xt_sq_x ?_ | refine xt_bk_eq ?_ | refine xt_bk_ne rfl ?_ | refine p0 rfl rfl rfl ?_ | refine p0n rfl rfl ?_ | refine pAr rfl rfl rfl rfl rfl rfl rfl (by omega) (by omega) ?_ | refine pBuild rfl rfl rfl rfl rfl rfl ?_ | refine pE (eAlloc rfl rfl rfl rfl) rfl ?_ | refine pE (eBox rfl rfl rfl rfl rfl) rfl ?_ | refine pE (eSt rfl rfl rfl rfl rfl rfl rfl rfl rfl) rfl ?_ | refine pE (eBs rfl rfl rfl rfl rfl rfl rfl rfl rfl) rfl ?_)
  refine xt_finG [(0, 1)] (.h (.sl 0 0 l.length)) [.arr 40 4 (lcs l)] (.inr rfl) rfl rfl rfl rfl ?_ ⟨rfl, trivial⟩ trivial ⟨lcs_tgs _, trivial⟩ ⟨rfl, rfl⟩
  show AV.h (.sl 1 0 (0 + l.length)) = AV.h (.sl 1 0 l.length)
  rw [Nat.zero_add]
set_option maxHeartbeats 2000000 in
set_option maxRecDepth 100000 in
theorem implAdd_ac (tg tg' : Nat) (l : List LC) (p : List Int) (b : Bool) (hl : l.length ≤ 1048576) (hpl : p.length ≤ 1099511627776) : AC Try.prog 39 [.h (.c (.rd (tg + 1) l.length (lcs l))), .h (.c (.rd (tg' + 1) p.length (ints p))), .h (.c (.bool b))] [] [0]
    (fun r h => h = [.arr 40 4 (lcs (addL l p b).1)] ∧ r = .tup [.h (.sl 0 0 (addL l p b).1.length), .h (.c (.bool (addL l p b).2))]) := by
  refine ac_bodyN teok Try.func39 rfl (by kernel_rfl) Try.ntmps39 rfl rfl ?_
  intro w0 ps g0 im0
  have hlv := implLV_ac tg l hl
  have hil := isLoop_ac tg' p hpl
  repeat' (first | refine p1 rfl rfl rfl rfl ?_ | refine al_end ?_ | refine awp_seq ?_ | refine awp_region ?_ | refine awp_block ?_ | refine awp_skip' ?_ | refine awp_ret' ?_ | refine awp_exit' ?_ | refine xt_sq_n ?_ | refine xt_bk_n ?_ | refine xt_sq_r ?_ | refine xt_bk_r ?_ | refine xt_sq_x ?_ | refine xt_bk_eq ?_ | refine xt_bk_ne rfl ?_ | refine p0 rfl rfl rfl ?_ | refine p0n rfl rfl ?_ | refine pAr rfl rfl rfl rfl rfl rfl rfl (by omega) (by omega) ?_ | refine pBuild rfl rfl rfl rfl rfl rfl ?_ | refine pE (eAlloc rfl rfl rfl rfl) rfl ?_ | refine pE (eBox rfl rfl rfl rfl rfl) rfl ?_ | refine pE (eSt rfl rfl rfl rfl rfl rfl rfl rfl rfl) rfl ?_ | refine pE (eBs rfl rfl rfl rfl rfl rfl rfl rfl rfl) rfl ?_ | refine awp_cond (b := true) rfl (fun _ => ?_) (fun h => Bool.noConfusion h) | refine awp_cond (b := false) rfl (fun h => Bool.noConfusion h) (fun _ => ?_) | ((fail_if_success refine pG (b := true) rfl rfl ?_ ?_); (fail_if_success refine pG (b := false) rfl rfl ?_ ?_); (refine pG rfl rfl (fun hc => ?_) (fun hc => ?_)) <;> try simp at hc) | ((refine awp_cond rfl (fun hc => ?_) (fun hc => ?_)) <;> try simp at hc) | refine pC0 (hlv) rfl rfl rfl rfl rfl rfl rfl (by decide) ?_ | refine pC0 (hil) rfl rfl rfl rfl rfl rfl rfl (by decide) ?_)
  · rw [addL_bad (by simp_all)]
    refine xt_own 6 40 4 rfl (xt_N ?_)
    exact xt_finG [(0, 0)] (.tup [.h (.sl 0 0 0), .h (.c (.bool false))]) [.arr 40 4 []] (.inr rfl) rfl rfl rfl rfl rfl ⟨rfl, trivial⟩ ⟨trivial, trivial, trivial⟩ ⟨trivial, trivial⟩ ⟨rfl, rfl⟩
  · rw [addL_bad (by simp_all)]
    refine xt_own 6 40 4 rfl (xt_N ?_)
    exact xt_finG [(0, 0)] (.tup [.h (.sl 0 0 0), .h (.c (.bool false))]) [.arr 40 4 []] (.inr rfl) rfl rfl rfl rfl rfl ⟨rfl, trivial⟩ ⟨trivial, trivial, trivial⟩ ⟨trivial, trivial⟩ ⟨rfl, rfl⟩
  · subst hc
    have hv : lv l = true := by assumption
    have hlp : loopB p = true := by assumption
    obtain ⟨p2, p4, hnm⟩ := loop_facts hlp
    refine pCn (cloneLC_ac _ l (by omega)) rfl rfl rfl rfl rfl (by decide) (by repeat' (first | exact trivial | exact rfl | refine And.intro ?_ ?_ | exact Or.inl ⟨_, rfl, rfl⟩ | exact ⟨_, rfl, rfl⟩ | exact bor_sl rfl (by assumption))) ?_
    repeat (first | refine p1 rfl rfl rfl rfl ?_ | refine al_end ?_ | refine awp_seq ?_ | refine awp_region ?_ | refine awp_block ?_ | refine awp_skip' ?_ | refine awp_ret' ?_ | refine awp_exit' ?_ | refine xt_sq_n ?_ | refine xt_bk_n ?_ | refine xt_sq_r ?_ | refine xt_bk_r ?_ | refine xt_sq_x ?_ | refine xt_bk_eq ?_ | refine xt_bk_ne rfl ?_ | refine p0 rfl rfl rfl ?_ | refine p0n rfl rfl ?_ | refine pAr rfl rfl rfl rfl rfl rfl rfl (by omega) (by omega) ?_ | refine pBuild rfl rfl rfl rfl rfl rfl ?_ | refine pE (eAlloc rfl rfl rfl rfl) rfl ?_ | refine pE (eBox rfl rfl rfl rfl rfl) rfl ?_ | refine pE (eSt rfl rfl rfl rfl rfl rfl rfl rfl rfl) rfl ?_ | refine pE (eBs rfl rfl rfl rfl rfl rfl rfl rfl rfl) rfl ?_)
    refine awp_loopE (fun k : Nat => { fr := [(0, .h (.c (.rd (tg + 1) l.length (lcs l)))), (1, .h (.c (.rd (tg' + 1) p.length (ints p)))), (8, .h (.c (.int .i64 (b2i true)))), (9, .h (.sl 0 0 (addTo l p (b2i true) (k - 1)).length)), (10, .h (.c (.int .i64 k)))], hp := [(0, .arr 40 4 (lcs (addTo l p (b2i true) (k - 1))))], nx := 1 })
      (fun n k => 0 < k ∧ k ≤ p.length ∧ n = p.length - k) (p.length - 1) 1 [(0, 0)] ⟨rfl, rfl, rfl, by repeat (first | exact trivial | refine ⟨rfl, ?_⟩), by repeat (first | exact trivial | refine ⟨rfl, ?_⟩)⟩ ⟨by omega, by omega, rfl⟩ ?_
    rintro n k ⟨h0, hk, rfl⟩
    have hcl := addTo_length l p (b2i true) (k - 1)
    repeat' (first | refine p1 rfl rfl rfl rfl ?_ | refine al_end ?_ | refine awp_seq ?_ | refine awp_region ?_ | refine awp_block ?_ | refine awp_skip' ?_ | refine awp_ret' ?_ | refine awp_exit' ?_ | refine xt_sq_n ?_ | refine xt_bk_n ?_ | refine xt_sq_r ?_ | refine xt_bk_r ?_ | refine xt_sq_x ?_ | refine xt_bk_eq ?_ | refine xt_bk_ne rfl ?_ | refine p0 rfl rfl rfl ?_ | refine p0n rfl rfl ?_ | refine pAr rfl rfl rfl rfl rfl rfl rfl (by omega) (by omega) ?_ | refine pBuild rfl rfl rfl rfl rfl rfl ?_ | refine pE (eAlloc rfl rfl rfl rfl) rfl ?_ | refine pE (eBox rfl rfl rfl rfl rfl) rfl ?_ | refine pE (eSt rfl rfl rfl rfl rfl rfl rfl rfl rfl) rfl ?_ | refine pE (eBs rfl rfl rfl rfl rfl rfl rfl rfl rfl) rfl ?_ | refine awp_cond (b := true) rfl (fun _ => ?_) (fun h => Bool.noConfusion h) | refine awp_cond (b := false) rfl (fun h => Bool.noConfusion h) (fun _ => ?_) | ((fail_if_success refine pG (b := true) rfl rfl ?_ ?_); (fail_if_success refine pG (b := false) rfl rfl ?_ ?_); (refine pG rfl rfl (fun hc => ?_) (fun hc => ?_)) <;> try simp at hc) | ((refine awp_cond rfl (fun hc => ?_) (fun hc => ?_)) <;> try simp at hc))
    · have hk' : k < p.length := by omega
      have hw : WfN 1000 (addTo l p (b2i true) (k - 1)) := wf_mono (addTo_wf (b2i_bd _) hv hnm (k - 1) (by omega)) (by omega)
      have e1 : addTo l p (b2i true) k = ins p[k - 1] p[k] (b2i true) (addTo l p (b2i true) (k - 1)) := by
        obtain ⟨j, rfl⟩ : ∃ j, k = j + 1 := ⟨k - 1, by omega⟩
        rw [getD_at hk', getD_at (show j + 1 - 1 < p.length by omega)]
        rfl
      have n1 := names_at hnm (show k - 1 < p.length by omega)
      have n2 := names_at hnm hk'
      rw [← getD_at (show k - 1 < p.length by omega)] at n1
      rw [← getD_at hk'] at n2
      have hpC := lcs_plain (addTo l p (b2i true) (k - 1))
      have hcac := counted_ac 98 (addTo l p (b2i true) (k - 1)) p[k - 1] p[k] (b2i true) (by omega) hw n1 n2 (b2i_bd _)
      rw [← e1] at hcac
      ((repeat (first | refine awp_seq ?_ | refine awp_block ?_ | refine awp_skip' ?_ | refine xt_sq_n ?_ | refine xt_bk_n ?_)); refine awp_draw (CT.cons (0, true) <| CT.cons (1, true) <| CT.cons (2, true) <| CT.cons (3, true) <| CT.cons (4, true) <| CT.cons (5, true) <| CT.cons (6, true) <| CT.cons (7, true) <| CT.cons (8, true) <| CT.cons (9, true) <| CT.cons (10, true) <| CT.cons (11, false) <| CT.cons (12, true) <| CT.nil) [] mixed (by kernel_rfl) (by kernel_rfl) rfl rfl ?_)
      repeat' (first | refine d1 rfl rfl rfl rfl rfl ?_ | refine dBuild rfl rfl rfl rfl rfl rfl rfl ?_ | refine d0 rfl rfl rfl rfl ?_ | refine d0n rfl rfl rfl ?_ | refine dE rfl (eAlloc rfl rfl rfl rfl) rfl rfl rfl ?_ | refine dE rfl (eBox rfl rfl rfl rfl rfl) rfl rfl rfl ?_ | refine dE rfl (eSt rfl rfl rfl rfl rfl rfl rfl rfl rfl) rfl rfl rfl ?_ | refine dE rfl (eBs rfl rfl rfl rfl rfl rfl rfl rfl rfl) rfl rfl rfl ?_ | refine d2 rfl rfl rfl rfl rfl ?_ | refine ah_nil ?_ | refine dAr rfl rfl rfl rfl rfl rfl rfl rfl (by omega) (by omega) ?_ | ((fail_if_success refine dG (b := true) rfl rfl rfl ?_ ?_); (fail_if_success refine dG (b := false) rfl rfl rfl ?_ ?_); (refine dG rfl rfl rfl (fun hc => ?_) (fun hc => ?_)) <;> try simp at hc))
      refine dIxR (f := int1) (k - 1) rfl rfl rfl rfl rfl rfl rfl rfl rfl rfl (fun _ => rfl) rfl (by omega) (by omega) ?_
      repeat' (first | refine d1 rfl rfl rfl rfl rfl ?_ | refine dBuild rfl rfl rfl rfl rfl rfl rfl ?_ | refine d0 rfl rfl rfl rfl ?_ | refine d0n rfl rfl rfl ?_ | refine dE rfl (eAlloc rfl rfl rfl rfl) rfl rfl rfl ?_ | refine dE rfl (eBox rfl rfl rfl rfl rfl) rfl rfl rfl ?_ | refine dE rfl (eSt rfl rfl rfl rfl rfl rfl rfl rfl rfl) rfl rfl rfl ?_ | refine dE rfl (eBs rfl rfl rfl rfl rfl rfl rfl rfl rfl) rfl rfl rfl ?_ | refine d2 rfl rfl rfl rfl rfl ?_ | refine ah_nil ?_ | refine dAr rfl rfl rfl rfl rfl rfl rfl rfl (by omega) (by omega) ?_ | ((fail_if_success refine dG (b := true) rfl rfl rfl ?_ ?_); (fail_if_success refine dG (b := false) rfl rfl rfl ?_ ?_); (refine dG rfl rfl rfl (fun hc => ?_) (fun hc => ?_)) <;> try simp at hc))
      refine dIxR (f := int1) k rfl rfl rfl rfl rfl rfl rfl rfl rfl rfl (fun _ => rfl) rfl rfl hk' ?_
      repeat' (first | refine d1 rfl rfl rfl rfl rfl ?_ | refine dBuild rfl rfl rfl rfl rfl rfl rfl ?_ | refine d0 rfl rfl rfl rfl ?_ | refine d0n rfl rfl rfl ?_ | refine dE rfl (eAlloc rfl rfl rfl rfl) rfl rfl rfl ?_ | refine dE rfl (eBox rfl rfl rfl rfl rfl) rfl rfl rfl ?_ | refine dE rfl (eSt rfl rfl rfl rfl rfl rfl rfl rfl rfl) rfl rfl rfl ?_ | refine dE rfl (eBs rfl rfl rfl rfl rfl rfl rfl rfl rfl) rfl rfl rfl ?_ | refine d2 rfl rfl rfl rfl rfl ?_ | refine ah_nil ?_ | refine dAr rfl rfl rfl rfl rfl rfl rfl rfl (by omega) (by omega) ?_ | ((fail_if_success refine dG (b := true) rfl rfl rfl ?_ ?_); (fail_if_success refine dG (b := false) rfl rfl rfl ?_ ?_); (refine dG rfl rfl rfl (fun hc => ?_) (fun hc => ?_)) <;> try simp at hc))
      refine dCn (hcac) rfl rfl rfl rfl rfl rfl (by decide) (by repeat' (first | exact trivial | exact rfl | refine And.intro ?_ ?_ | exact Or.inl ⟨_, rfl, rfl⟩ | exact ⟨_, rfl, rfl⟩ | exact bor_sl rfl (by assumption))) ?_
      repeat' (first | refine d1 rfl rfl rfl rfl rfl ?_ | refine dBuild rfl rfl rfl rfl rfl rfl rfl ?_ | refine d0 rfl rfl rfl rfl ?_ | refine d0n rfl rfl rfl ?_ | refine dE rfl (eAlloc rfl rfl rfl rfl) rfl rfl rfl ?_ | refine dE rfl (eBox rfl rfl rfl rfl rfl) rfl rfl rfl ?_ | refine dE rfl (eSt rfl rfl rfl rfl rfl rfl rfl rfl rfl) rfl rfl rfl ?_ | refine dE rfl (eBs rfl rfl rfl rfl rfl rfl rfl rfl rfl) rfl rfl rfl ?_ | refine d2 rfl rfl rfl rfl rfl ?_ | refine ah_nil ?_ | refine dAr rfl rfl rfl rfl rfl rfl rfl rfl (by omega) (by omega) ?_ | ((fail_if_success refine dG (b := true) rfl rfl rfl ?_ ?_); (fail_if_success refine dG (b := false) rfl rfl rfl ?_ ?_); (refine dG rfl rfl rfl (fun hc => ?_) (fun hc => ?_)) <;> try simp at hc))
      repeat (first | refine p1 rfl rfl rfl rfl ?_ | refine al_end ?_ | refine awp_seq ?_ | refine awp_region ?_ | refine awp_block ?_ | refine awp_skip' ?_ | refine awp_ret' ?_ | refine awp_exit' ?_ | refine xt_sq_n ?_ | refine xt_bk_n ?_ | refine xt_sq_r ?_ | refine xt_bk_r ?_ | refine xt_sq_x ?_ | refine xt_bk_eq ?_ | refine xt_bk_ne rfl ?_ | refine p0 rfl rfl rfl ?_ | refine p0n rfl rfl ?_ | refine pAr rfl rfl rfl rfl rfl rfl rfl (by omega) (by omega) ?_ | refine pBuild rfl rfl rfl rfl rfl rfl ?_ | refine pE (eAlloc rfl rfl rfl rfl) rfl ?_ | refine pE (eBox rfl rfl rfl rfl rfl) rfl ?_ | refine pE (eSt rfl rfl rfl rfl rfl rfl rfl rfl rfl) rfl ?_ | refine pE (eBs rfl rfl rfl rfl rfl rfl rfl rfl rfl) rfl ?_)
      exact lp_end (p.length - (k + 1)) (k + 1) [(0, 1)] (by omega) ⟨rfl, rfl, rfl, by repeat (first | exact trivial | refine ⟨rfl, ?_⟩), by repeat (first | exact trivial | refine ⟨rfl, ?_⟩)⟩ ⟨by omega, hk', rfl⟩
    · have hk' : k = p.length := by omega
      subst hk'
      have hlo := implLV_ac2 98 (addTo l p (b2i true) (p.length - 1)) (by omega)
      have hpC := lcs_plain (addTo l p (b2i true) (p.length - 1))
      refine pCv (hlo) rfl rfl (fun _ => rfl) rfl rfl rfl (by decide) (by repeat' (first | exact trivial | exact rfl | refine And.intro ?_ ?_ | exact Or.inl ⟨_, rfl, rfl⟩ | exact ⟨_, rfl, rfl⟩ | exact bor_sl rfl (by assumption))) ?_
      repeat' (first | refine p1 rfl rfl rfl rfl ?_ | refine al_end ?_ | refine awp_seq ?_ | refine awp_region ?_ | refine awp_block ?_ | refine awp_skip' ?_ | refine awp_ret' ?_ | refine awp_exit' ?_ | refine xt_sq_n ?_ | refine xt_bk_n ?_ | refine xt_sq_r ?_ | refine xt_bk_r ?_ | refine xt_sq_x ?_ | refine xt_bk_eq ?_ | refine xt_bk_ne rfl ?_ | refine p0 rfl rfl rfl ?_ | refine p0n rfl rfl ?_ | refine pAr rfl rfl rfl rfl rfl rfl rfl (by omega) (by omega) ?_ | refine pBuild rfl rfl rfl rfl rfl rfl ?_ | refine pE (eAlloc rfl rfl rfl rfl) rfl ?_ | refine pE (eBox rfl rfl rfl rfl rfl) rfl ?_ | refine pE (eSt rfl rfl rfl rfl rfl rfl rfl rfl rfl) rfl ?_ | refine pE (eBs rfl rfl rfl rfl rfl rfl rfl rfl rfl) rfl ?_ | refine awp_cond (b := true) rfl (fun _ => ?_) (fun h => Bool.noConfusion h) | refine awp_cond (b := false) rfl (fun h => Bool.noConfusion h) (fun _ => ?_) | ((fail_if_success refine pG (b := true) rfl rfl ?_ ?_); (fail_if_success refine pG (b := false) rfl rfl ?_ ?_); (refine pG rfl rfl (fun hc => ?_) (fun hc => ?_)) <;> try simp at hc) | ((refine awp_cond rfl (fun hc => ?_) (fun hc => ?_)) <;> try simp at hc))
      · have e := addL_no hv hlp (by assumption)
        rw [e]
        refine pCn (cloneLC_ac _ l (by omega)) rfl rfl rfl rfl rfl (by decide) (by repeat' (first | exact trivial | exact rfl | refine And.intro ?_ ?_ | exact Or.inl ⟨_, rfl, rfl⟩ | exact ⟨_, rfl, rfl⟩ | exact bor_sl rfl (by assumption))) ?_
        repeat (first | refine p1 rfl rfl rfl rfl ?_ | refine al_end ?_ | refine awp_seq ?_ | refine awp_region ?_ | refine awp_block ?_ | refine awp_skip' ?_ | refine awp_ret' ?_ | refine awp_exit' ?_ | refine xt_sq_n ?_ | refine xt_bk_n ?_ | refine xt_sq_r ?_ | refine xt_bk_r ?_ | refine xt_sq_x ?_ | refine xt_bk_eq ?_ | refine xt_bk_ne rfl ?_ | refine p0 rfl rfl rfl ?_ | refine p0n rfl rfl ?_ | refine pAr rfl rfl rfl rfl rfl rfl rfl (by omega) (by omega) ?_ | refine pBuild rfl rfl rfl rfl rfl rfl ?_ | refine pE (eAlloc rfl rfl rfl rfl) rfl ?_ | refine pE (eBox rfl rfl rfl rfl rfl) rfl ?_ | refine pE (eSt rfl rfl rfl rfl rfl rfl rfl rfl rfl) rfl ?_ | refine pE (eBs rfl rfl rfl rfl rfl rfl rfl rfl rfl) rfl ?_)
        refine xt_N ?_
        exact xt_finG [(0, 1)] (.tup [.h (.sl 0 0 l.length), .h (.c (.bool false))]) [.arr 40 4 (lcs l)] (.inr rfl) rfl rfl rfl rfl rfl ⟨rfl, trivial⟩ ⟨trivial, trivial, trivial⟩ ⟨lcs_tgs _, trivial⟩ ⟨rfl, rfl⟩
      · have e := addL_yes hv hlp (by assumption)
        rw [e]
        refine xt_N ?_
        exact xt_finG [(0, 0)] (.tup [.h (.sl 0 0 (addTo l p (b2i true) (p.length - 1)).length), .h (.c (.bool true))]) [.arr 40 4 (lcs (addTo l p (b2i true) (p.length - 1)))] (.inr rfl) rfl rfl rfl rfl rfl ⟨rfl, trivial⟩ ⟨trivial, trivial, trivial⟩ ⟨lcs_tgs _, trivial⟩ ⟨rfl, rfl⟩
  · subst hc
    have hv : lv l = true := by assumption
    have hlp : loopB p = true := by assumption
    obtain ⟨p2, p4, hnm⟩ := loop_facts hlp
    refine pCn (cloneLC_ac _ l (by omega)) rfl rfl rfl rfl rfl (by decide) (by repeat' (first | exact trivial | exact rfl | refine And.intro ?_ ?_ | exact Or.inl ⟨_, rfl, rfl⟩ | exact ⟨_, rfl, rfl⟩ | exact bor_sl rfl (by assumption))) ?_
    repeat (first | refine p1 rfl rfl rfl rfl ?_ | refine al_end ?_ | refine awp_seq ?_ | refine awp_region ?_ | refine awp_block ?_ | refine awp_skip' ?_ | refine awp_ret' ?_ | refine awp_exit' ?_ | refine xt_sq_n ?_ | refine xt_bk_n ?_ | refine xt_sq_r ?_ | refine xt_bk_r ?_ | refine xt_sq_x ?_ | refine xt_bk_eq ?_ | refine xt_bk_ne rfl ?_ | refine p0 rfl rfl rfl ?_ | refine p0n rfl rfl ?_ | refine pAr rfl rfl rfl rfl rfl rfl rfl (by omega) (by omega) ?_ | refine pBuild rfl rfl rfl rfl rfl rfl ?_ | refine pE (eAlloc rfl rfl rfl rfl) rfl ?_ | refine pE (eBox rfl rfl rfl rfl rfl) rfl ?_ | refine pE (eSt rfl rfl rfl rfl rfl rfl rfl rfl rfl) rfl ?_ | refine pE (eBs rfl rfl rfl rfl rfl rfl rfl rfl rfl) rfl ?_)
    refine awp_loopE (fun k : Nat => { fr := [(0, .h (.c (.rd (tg + 1) l.length (lcs l)))), (1, .h (.c (.rd (tg' + 1) p.length (ints p)))), (8, .h (.c (.int .i64 (b2i false)))), (9, .h (.sl 0 0 (addTo l p (b2i false) (k - 1)).length)), (10, .h (.c (.int .i64 k)))], hp := [(0, .arr 40 4 (lcs (addTo l p (b2i false) (k - 1))))], nx := 1 })
      (fun n k => 0 < k ∧ k ≤ p.length ∧ n = p.length - k) (p.length - 1) 1 [(0, 0)] ⟨rfl, rfl, rfl, by repeat (first | exact trivial | refine ⟨rfl, ?_⟩), by repeat (first | exact trivial | refine ⟨rfl, ?_⟩)⟩ ⟨by omega, by omega, rfl⟩ ?_
    rintro n k ⟨h0, hk, rfl⟩
    have hcl := addTo_length l p (b2i false) (k - 1)
    repeat' (first | refine p1 rfl rfl rfl rfl ?_ | refine al_end ?_ | refine awp_seq ?_ | refine awp_region ?_ | refine awp_block ?_ | refine awp_skip' ?_ | refine awp_ret' ?_ | refine awp_exit' ?_ | refine xt_sq_n ?_ | refine xt_bk_n ?_ | refine xt_sq_r ?_ | refine xt_bk_r ?_ | refine xt_sq_x ?_ | refine xt_bk_eq ?_ | refine xt_bk_ne rfl ?_ | refine p0 rfl rfl rfl ?_ | refine p0n rfl rfl ?_ | refine pAr rfl rfl rfl rfl rfl rfl rfl (by omega) (by omega) ?_ | refine pBuild rfl rfl rfl rfl rfl rfl ?_ | refine pE (eAlloc rfl rfl rfl rfl) rfl ?_ | refine pE (eBox rfl rfl rfl rfl rfl) rfl ?_ | refine pE (eSt rfl rfl rfl rfl rfl rfl rfl rfl rfl) rfl ?_ | refine pE (eBs rfl rfl rfl rfl rfl rfl rfl rfl rfl) rfl ?_ | refine awp_cond (b := true) rfl (fun _ => ?_) (fun h => Bool.noConfusion h) | refine awp_cond (b := false) rfl (fun h => Bool.noConfusion h) (fun _ => ?_) | ((fail_if_success refine pG (b := true) rfl rfl ?_ ?_); (fail_if_success refine pG (b := false) rfl rfl ?_ ?_); (refine pG rfl rfl (fun hc => ?_) (fun hc => ?_)) <;> try simp at hc) | ((refine awp_cond rfl (fun hc => ?_) (fun hc => ?_)) <;> try simp at hc))
    · have hk' : k < p.length := by omega
      have hw : WfN 1000 (addTo l p (b2i false) (k - 1)) := wf_mono (addTo_wf (b2i_bd _) hv hnm (k - 1) (by omega)) (by omega)
      have e1 : addTo l p (b2i false) k = ins p[k - 1] p[k] (b2i false) (addTo l p (b2i false) (k - 1)) := by
        obtain ⟨j, rfl⟩ : ∃ j, k = j + 1 := ⟨k - 1, by omega⟩
        rw [getD_at hk', getD_at (show j + 1 - 1 < p.length by omega)]
        rfl
      have n1 := names_at hnm (show k - 1 < p.length by omega)
      have n2 := names_at hnm hk'
      rw [← getD_at (show k - 1 < p.length by omega)] at n1
      rw [← getD_at hk'] at n2
      have hpC := lcs_plain (addTo l p (b2i false) (k - 1))
      have hcac := counted_ac 98 (addTo l p (b2i false) (k - 1)) p[k - 1] p[k] (b2i false) (by omega) hw n1 n2 (b2i_bd _)
      rw [← e1] at hcac
      ((repeat (first | refine awp_seq ?_ | refine awp_block ?_ | refine awp_skip' ?_ | refine xt_sq_n ?_ | refine xt_bk_n ?_)); refine awp_draw (CT.cons (0, true) <| CT.cons (1, true) <| CT.cons (2, true) <| CT.cons (3, true) <| CT.cons (4, true) <| CT.cons (5, true) <| CT.cons (6, true) <| CT.cons (7, true) <| CT.cons (8, true) <| CT.cons (9, true) <| CT.cons (10, true) <| CT.cons (11, false) <| CT.cons (12, true) <| CT.nil) [] mixed (by kernel_rfl) (by kernel_rfl) rfl rfl ?_)
      repeat' (first | refine d1 rfl rfl rfl rfl rfl ?_ | refine dBuild rfl rfl rfl rfl rfl rfl rfl ?_ | refine d0 rfl rfl rfl rfl ?_ | refine d0n rfl rfl rfl ?_ | refine dE rfl (eAlloc rfl rfl rfl rfl) rfl rfl rfl ?_ | refine dE rfl (eBox rfl rfl rfl rfl rfl) rfl rfl rfl ?_ | refine dE rfl (eSt rfl rfl rfl rfl rfl rfl rfl rfl rfl) rfl rfl rfl ?_ | refine dE rfl (eBs rfl rfl rfl rfl rfl rfl rfl rfl rfl) rfl rfl rfl ?_ | refine d2 rfl rfl rfl rfl rfl ?_ | refine ah_nil ?_ | refine dAr rfl rfl rfl rfl rfl rfl rfl rfl (by omega) (by omega) ?_ | ((fail_if_success refine dG (b := true) rfl rfl rfl ?_ ?_); (fail_if_success refine dG (b := false) rfl rfl rfl ?_ ?_); (refine dG rfl rfl rfl (fun hc => ?_) (fun hc => ?_)) <;> try simp at hc))
      refine dIxR (f := int1) (k - 1) rfl rfl rfl rfl rfl rfl rfl rfl rfl rfl (fun _ => rfl) rfl (by omega) (by omega) ?_
      repeat' (first | refine d1 rfl rfl rfl rfl rfl ?_ | refine dBuild rfl rfl rfl rfl rfl rfl rfl ?_ | refine d0 rfl rfl rfl rfl ?_ | refine d0n rfl rfl rfl ?_ | refine dE rfl (eAlloc rfl rfl rfl rfl) rfl rfl rfl ?_ | refine dE rfl (eBox rfl rfl rfl rfl rfl) rfl rfl rfl ?_ | refine dE rfl (eSt rfl rfl rfl rfl rfl rfl rfl rfl rfl) rfl rfl rfl ?_ | refine dE rfl (eBs rfl rfl rfl rfl rfl rfl rfl rfl rfl) rfl rfl rfl ?_ | refine d2 rfl rfl rfl rfl rfl ?_ | refine ah_nil ?_ | refine dAr rfl rfl rfl rfl rfl rfl rfl rfl (by omega) (by omega) ?_ | ((fail_if_success refine dG (b := true) rfl rfl rfl ?_ ?_); (fail_if_success refine dG (b := false) rfl rfl rfl ?_ ?_); (refine dG rfl rfl rfl (fun hc => ?_) (fun hc => ?_)) <;> try simp at hc))
      refine dIxR (f := int1) k rfl rfl rfl rfl rfl rfl rfl rfl rfl rfl (fun _ => rfl) rfl rfl hk' ?_
      repeat' (first | refine d1 rfl rfl rfl rfl rfl ?_ | refine dBuild rfl rfl rfl rfl rfl rfl rfl ?_ | refine d0 rfl rfl rfl rfl ?_ | refine d0n rfl rfl rfl ?_ | refine dE rfl (eAlloc rfl rfl rfl rfl) rfl rfl rfl ?_ | refine dE rfl (eBox rfl rfl rfl rfl rfl) rfl rfl rfl ?_ | refine dE rfl (eSt rfl rfl rfl rfl rfl rfl rfl rfl rfl) rfl rfl rfl ?_ | refine dE rfl (eBs rfl rfl rfl rfl rfl rfl rfl rfl rfl) rfl rfl rfl ?_ | refine d2 rfl rfl rfl rfl rfl ?_ | refine ah_nil ?_ | refine dAr rfl rfl rfl rfl rfl rfl rfl rfl (by omega) (by omega) ?_ | ((fail_if_success refine dG (b := true) rfl rfl rfl ?_ ?_); (fail_if_success refine dG (b := false) rfl rfl rfl ?_ ?_); (refine dG rfl rfl rfl (fun hc => ?_) (fun hc => ?_)) <;> try simp at hc))
      refine dCn (hcac) rfl rfl rfl rfl rfl rfl (by decide) (by repeat' (first | exact trivial | exact rfl | refine And.intro ?_ ?_ | exact Or.inl ⟨_, rfl, rfl⟩ | exact ⟨_, rfl, rfl⟩ | exact bor_sl rfl (by assumption))) ?_
      repeat' (first | refine d1 rfl rfl rfl rfl rfl ?_ | refine dBuild rfl rfl rfl rfl rfl rfl rfl ?_ | refine d0 rfl rfl rfl rfl ?_ | refine d0n rfl rfl rfl ?_ | refine dE rfl (eAlloc rfl rfl rfl rfl) rfl rfl rfl ?_ | refine dE rfl (eBox rfl rfl rfl rfl rfl) rfl rfl rfl ?_ | refine dE rfl (eSt rfl rfl rfl rfl rfl rfl rfl rfl rfl) rfl rfl rfl ?_ | refine dE rfl (eBs rfl rfl rfl rfl rfl rfl rfl rfl rfl) rfl rfl rfl ?_ | refine d2 rfl rfl rfl rfl rfl ?_ | refine ah_nil ?_ | refine dAr rfl rfl rfl rfl rfl rfl rfl rfl (by omega) (by omega) ?_ | ((fail_if_success refine dG (b := true) rfl rfl rfl ?_ ?_); (fail_if_success refine dG (b := false) rfl rfl rfl ?_ ?_); (refine dG rfl rfl rfl (fun hc => ?_) (fun hc => ?_)) <;> try simp at hc))
      repeat (first | refine p1 rfl rfl rfl rfl ?_ | refine al_end ?_ | refine awp_seq ?_ | refine awp_region ?_ | refine awp_block ?_ | refine awp_skip' ?_ | refine awp_ret' ?_ | refine awp_exit' ?_ | refine xt_sq_n ?_ | refine xt_bk_n ?_ | refine xt_sq_r ?_ | refine xt_bk_r ?_ | refine xt_sq_x ?_ | refine xt_bk_eq ?_ | refine xt_bk_ne rfl ?_ | refine p0 rfl rfl rfl ?_ | refine p0n rfl rfl ?_ | refine pAr rfl rfl rfl rfl rfl rfl rfl (by omega) (by omega) ?_ | refine pBuild rfl rfl rfl rfl rfl rfl ?_ | refine pE (eAlloc rfl rfl rfl rfl) rfl ?_ | refine pE (eBox rfl rfl rfl rfl rfl) rfl ?_ | refine pE (eSt rfl rfl rfl rfl rfl rfl rfl rfl rfl) rfl ?_ | refine pE (eBs rfl rfl rfl rfl rfl rfl rfl rfl rfl) rfl ?_)
      exact lp_end (p.length - (k + 1)) (k + 1) [(0, 1)] (by omega) ⟨rfl, rfl, rfl, by repeat (first | exact trivial | refine ⟨rfl, ?_⟩), by repeat (first | exact trivial | refine ⟨rfl, ?_⟩)⟩ ⟨by omega, hk', rfl⟩
    · have hk' : k = p.length := by omega
      subst hk'
      have hlo := implLV_ac2 98 (addTo l p (b2i false) (p.length - 1)) (by omega)
      have hpC := lcs_plain (addTo l p (b2i false) (p.length - 1))
      refine pCv (hlo) rfl rfl (fun _ => rfl) rfl rfl rfl (by decide) (by repeat' (first | exact trivial | exact rfl | refine And.intro ?_ ?_ | exact Or.inl ⟨_, rfl, rfl⟩ | exact ⟨_, rfl, rfl⟩ | exact bor_sl rfl (by assumption))) ?_
      repeat' (first | refine p1 rfl rfl rfl rfl ?_ | refine al_end ?_ | refine awp_seq ?_ | refine awp_region ?_ | refine awp_block ?_ | refine awp_skip' ?_ | refine awp_ret' ?_ | refine awp_exit' ?_ | refine xt_sq_n ?_ | refine xt_bk_n ?_ | refine xt_sq_r ?_ | refine xt_bk_r ?_ | refine xt_sq_x ?_ | refine xt_bk_eq ?_ | refine xt_bk_ne rfl ?_ | refine p0 rfl rfl rfl ?_ | refine p0n rfl rfl ?_ | refine pAr rfl rfl rfl rfl rfl rfl rfl (by omega) (by omega) ?_ | refine pBuild rfl rfl rfl rfl rfl rfl ?_ | refine pE (eAlloc rfl rfl rfl rfl) rfl ?_ | refine pE (eBox rfl rfl rfl rfl rfl) rfl ?_ | refine pE (eSt rfl rfl rfl rfl rfl rfl rfl rfl rfl) rfl ?_ | refine pE (eBs rfl rfl rfl rfl rfl rfl rfl rfl rfl) rfl ?_ | refine awp_cond (b := true) rfl (fun _ => ?_) (fun h => Bool.noConfusion h) | refine awp_cond (b := false) rfl (fun h => Bool.noConfusion h) (fun _ => ?_) | ((fail_if_success refine pG (b := true) rfl rfl ?_ ?_); (fail_if_success refine pG (b := false) rfl rfl ?_ ?_); (refine pG rfl rfl (fun hc => ?_) (fun hc => ?_)) <;> try simp at hc) | ((refine awp_cond rfl (fun hc => ?_) (fun hc => ?_)) <;> try simp at hc))
      · have e := addL_no hv hlp (by assumption)
        rw [e]
        refine pCn (cloneLC_ac _ l (by omega)) rfl rfl rfl rfl rfl (by decide) (by repeat' (first | exact trivial | exact rfl | refine And.intro ?_ ?_ | exact Or.inl ⟨_, rfl, rfl⟩ | exact ⟨_, rfl, rfl⟩ | exact bor_sl rfl (by assumption))) ?_
        repeat (first | refine p1 rfl rfl rfl rfl ?_ | refine al_end ?_ | refine awp_seq ?_ | refine awp_region ?_ | refine awp_block ?_ | refine awp_skip' ?_ | refine awp_ret' ?_ | refine awp_exit' ?_ | refine xt_sq_n ?_ | refine xt_bk_n ?_ | refine xt_sq_r ?_ | refine xt_bk_r ?_ | refine xt_sq_x ?_ | refine xt_bk_eq ?_ | refine xt_bk_ne rfl ?_ | refine p0 rfl rfl rfl ?_ | refine p0n rfl rfl ?_ | refine pAr rfl rfl rfl rfl rfl rfl rfl (by omega) (by omega) ?_ | refine pBuild rfl rfl rfl rfl rfl rfl ?_ | refine pE (eAlloc rfl rfl rfl rfl) rfl ?_ | refine pE (eBox rfl rfl rfl rfl rfl) rfl ?_ | refine pE (eSt rfl rfl rfl rfl rfl rfl rfl rfl rfl) rfl ?_ | refine pE (eBs rfl rfl rfl rfl rfl rfl rfl rfl rfl) rfl ?_)
        refine xt_N ?_
        exact xt_finG [(0, 1)] (.tup [.h (.sl 0 0 l.length), .h (.c (.bool false))]) [.arr 40 4 (lcs l)] (.inr rfl) rfl rfl rfl rfl rfl ⟨rfl, trivial⟩ ⟨trivial, trivial, trivial⟩ ⟨lcs_tgs _, trivial⟩ ⟨rfl, rfl⟩
      · have e := addL_yes hv hlp (by assumption)
        rw [e]
        refine xt_N ?_
        exact xt_finG [(0, 0)] (.tup [.h (.sl 0 0 (addTo l p (b2i false) (p.length - 1)).length), .h (.c (.bool true))]) [.arr 40 4 (lcs (addTo l p (b2i false) (p.length - 1)))] (.inr rfl) rfl rfl rfl rfl rfl ⟨rfl, trivial⟩ ⟨trivial, trivial, trivial⟩ ⟨lcs_tgs _, trivial⟩ ⟨rfl, rfl⟩
end Go.Proofs.Ytlgfdjmnedfjfaa
