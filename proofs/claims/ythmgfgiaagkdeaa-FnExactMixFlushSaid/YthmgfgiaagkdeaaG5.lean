import Derived.Test.YthmgfgiaagkdeaaG4
namespace Go.Proofs.Ythmgfgiaagkdeaa
open Go.RowKit
attribute [local irreducible] AWP AL XT AC ES PS AH AH2 LpQ
def letV (b : List Int) : List Int := (b.drop 1).take (b.getD 0 0).toNat
def openOk (b : List Int) : Bool := lst b && decide (b.length = 6) && decide (b.getD 0 0 ≤ 4) && decide (packV (letV b) = b)
def openR (b : List Int) : List Int := if openOk b then letV b else []
theorem six {b : List Int} (h : b.length = 6) : ∃ a0 a1 a2 a3 a4 a5, b = [a0, a1, a2, a3, a4, a5] := by
  match b, h with
  | [a0, a1, a2, a3, a4, a5], _ => exact ⟨a0, a1, a2, a3, a4, a5, rfl⟩
theorem open_no {b : List Int} (h : openOk b = false) : openR b = [] := by simp [openR, h]
theorem letV_ok {b : List Int} (hl : lst b = true) (h6 : b.length = 6) (h4 : b.getD 0 0 ≤ 4) : packOk (letV b) = true ∧ (letV b).length = (b.getD 0 0).toNat := by
  obtain ⟨_, hb⟩ := lst_iff.1 hl
  have hlen : (letV b).length = (b.getD 0 0).toNat := by
    unfold letV
    rw [List.length_take, List.length_drop]
    omega
  refine ⟨packOk_iff.2 ⟨fun n hn => hb n (List.mem_of_mem_drop (List.mem_of_mem_take hn)), by rw [hlen]; omega⟩, hlen⟩
/-- What the reference looks at. -/
theorem open_iff {b : List Int} (hl : lst b = true) (h6 : b.length = 6) (h4 : b.getD 0 0 ≤ 4) : packV (letV b) = b ↔ tagV 1 (b.take 5) = b.getD 5 0 ∧ ∀ i, (b.getD 0 0).toNat + 1 ≤ i → i < 5 → b.getD i 0 = 0 := by
  obtain ⟨a0, a1, a2, a3, a4, a5, rfl⟩ := six h6
  have h0 := (lst_iff.1 hl).2 a0 (by simp)
  have hk : a0 = 0 ∨ a0 = 1 ∨ a0 = 2 ∨ a0 = 3 ∨ a0 = 4 := by simp at h4; omega
  have hz : ∀ k : Nat, (∀ i, k ≤ i → i < 5 → [a0, a1, a2, a3, a4, a5].getD i 0 = 0) ↔ (k ≤ 0 → a0 = 0) ∧ (k ≤ 1 → a1 = 0) ∧ (k ≤ 2 → a2 = 0) ∧ (k ≤ 3 → a3 = 0) ∧ (k ≤ 4 → a4 = 0) := fun k => by
    constructor
    · intro h
      exact ⟨fun h1 => h 0 h1 (by omega), fun h1 => h 1 h1 (by omega), fun h1 => h 2 h1 (by omega), fun h1 => h 3 h1 (by omega), fun h1 => h 4 h1 (by omega)⟩
    · rintro ⟨c0, c1, c2, c3, c4⟩ i h1 h2
      match i, h2 with
      | 0, _ => exact c0 h1
      | 1, _ => exact c1 h1
      | 2, _ => exact c2 h1
      | 3, _ => exact c3 h1
      | 4, _ => exact c4 h1
  rw [hz]
  rcases hk with rfl | rfl | rfl | rfl | rfl
  · show [0, 0, 0, 0, 0, tagV 1 [0, 0, 0, 0, 0]] = [0, a1, a2, a3, a4, a5] ↔ tagV 1 [0, a1, a2, a3, a4] = a5 ∧ (0 + 1 ≤ 0 → (0 : Int) = 0) ∧ (0 + 1 ≤ 1 → a1 = 0) ∧ (0 + 1 ≤ 2 → a2 = 0) ∧ (0 + 1 ≤ 3 → a3 = 0) ∧ (0 + 1 ≤ 4 → a4 = 0)
    grind
  · show [1, a1, 0, 0, 0, tagV 1 [1, a1, 0, 0, 0]] = [1, a1, a2, a3, a4, a5] ↔ tagV 1 [1, a1, a2, a3, a4] = a5 ∧ (1 + 1 ≤ 0 → (1 : Int) = 0) ∧ (1 + 1 ≤ 1 → a1 = 0) ∧ (1 + 1 ≤ 2 → a2 = 0) ∧ (1 + 1 ≤ 3 → a3 = 0) ∧ (1 + 1 ≤ 4 → a4 = 0)
    grind
  · show [2, a1, a2, 0, 0, tagV 1 [2, a1, a2, 0, 0]] = [2, a1, a2, a3, a4, a5] ↔ tagV 1 [2, a1, a2, a3, a4] = a5 ∧ (2 + 1 ≤ 0 → (2 : Int) = 0) ∧ (2 + 1 ≤ 1 → a1 = 0) ∧ (2 + 1 ≤ 2 → a2 = 0) ∧ (2 + 1 ≤ 3 → a3 = 0) ∧ (2 + 1 ≤ 4 → a4 = 0)
    grind
  · show [3, a1, a2, a3, 0, tagV 1 [3, a1, a2, a3, 0]] = [3, a1, a2, a3, a4, a5] ↔ tagV 1 [3, a1, a2, a3, a4] = a5 ∧ (3 + 1 ≤ 0 → (3 : Int) = 0) ∧ (3 + 1 ≤ 1 → a1 = 0) ∧ (3 + 1 ≤ 2 → a2 = 0) ∧ (3 + 1 ≤ 3 → a3 = 0) ∧ (3 + 1 ≤ 4 → a4 = 0)
    grind
  · show [4, a1, a2, a3, a4, tagV 1 [4, a1, a2, a3, a4]] = [4, a1, a2, a3, a4, a5] ↔ tagV 1 [4, a1, a2, a3, a4] = a5 ∧ (4 + 1 ≤ 0 → (4 : Int) = 0) ∧ (4 + 1 ≤ 1 → a1 = 0) ∧ (4 + 1 ≤ 2 → a2 = 0) ∧ (4 + 1 ≤ 3 → a3 = 0) ∧ (4 + 1 ≤ 4 → a4 = 0)
    grind
set_option maxHeartbeats 2000000 in
set_option maxRecDepth 100000 in
theorem implOpen_ac (tg : Nat) (b : List Int) (hl : b.length ≤ 1099511627776) : AC Try.prog 85 [.h (.c (.rd (tg + 1) b.length (ints b)))] [] [0]
    (fun r h => h = [.arr 3 1 (ints (openR b))] ∧ r = .tup [.h (.sl 0 0 (openR b).length), .h (.c (.bool (openOk b)))]) := by
  have hi := listOf_ac (tg + 1) b 6 hl
  refine ac_bodyN teok Try.func85 rfl (by kernel_rfl) Try.ntmps85 rfl rfl ?_
  intro w0 ps g0 im0
  repeat' (first | refine p1 rfl rfl rfl rfl ?_ | refine al_end ?_ | refine awp_seq ?_ | refine awp_region ?_ | refine awp_block ?_ | refine awp_skip' ?_ | refine awp_ret' ?_ | refine awp_exit' ?_ | refine xt_sq_n ?_ | refine xt_bk_n ?_ | refine xt_sq_r ?_ | refine xt_bk_r ?_ | refine xt_sq_x ?_ | refine xt_bk_eq ?_ | refine xt_bk_ne rfl ?_ | refine p0 rfl rfl rfl ?_ | refine p0n rfl rfl ?_ | refine pAr rfl rfl rfl rfl rfl rfl rfl (by omega) (by omega) ?_ | refine pBuild rfl rfl rfl rfl rfl rfl ?_ | refine pE (eAlloc rfl rfl rfl rfl) rfl ?_ | refine pE (eBox rfl rfl rfl rfl rfl) rfl ?_ | refine pE (eSt rfl rfl rfl rfl rfl rfl rfl rfl rfl) rfl ?_ | refine pE (eBs rfl rfl rfl rfl rfl rfl rfl rfl rfl) rfl ?_ | refine awp_cond (b := true) rfl (fun _ => ?_) (fun h => Bool.noConfusion h) | refine awp_cond (b := false) rfl (fun h => Bool.noConfusion h) (fun _ => ?_) | ((fail_if_success refine pG (b := true) rfl rfl ?_ ?_); (fail_if_success refine pG (b := false) rfl rfl ?_ ?_); (refine pG rfl rfl (fun hc => ?_) (fun hc => ?_)) <;> try simp at hc) | ((refine awp_cond rfl (fun hc => ?_) (fun hc => ?_)) <;> try simp at hc) | refine pC0 (hi) rfl rfl rfl rfl rfl rfl rfl (by decide) ?_)
  · have ho : openOk b = false := by
      simp only [openOk, Bool.and_eq_false_iff, decide_eq_false_iff_not]
      rcases hc with h | h
      · exact .inl (.inl (.inr h))
      · exact .inl (.inl (.inl h))
    rw [open_no ho, ho]
    refine xt_own 2 3 1 rfl (xt_N ?_)
    exact xt_finG [(0, 0)] (.tup [.h (.sl 0 0 0), .h (.c (.bool false))]) [.arr 3 1 []] (.inr rfl) rfl rfl rfl rfl rfl ⟨rfl, trivial⟩ ⟨trivial, trivial, trivial⟩ ⟨trivial, trivial⟩ ⟨rfl, rfl⟩
  obtain ⟨h6, hlb⟩ := hc
  have h00 : b[0] = b.getD 0 0 := by rw [List.getD_eq_getElem?_getD, List.getElem?_eq_getElem (by omega)]; rfl
  have hb0 := (lst_iff.1 hlb).2 b[0] (List.getElem_mem _)
  refine pIxR (f := int1) (L := b) 0 rfl rfl rfl rfl rfl rfl rfl rfl rfl (fun _ => rfl) rfl rfl (by omega) ?_
  repeat' (first | refine p1 rfl rfl rfl rfl ?_ | refine al_end ?_ | refine awp_seq ?_ | refine awp_region ?_ | refine awp_block ?_ | refine awp_skip' ?_ | refine awp_ret' ?_ | refine awp_exit' ?_ | refine xt_sq_n ?_ | refine xt_bk_n ?_ | refine xt_sq_r ?_ | refine xt_bk_r ?_ | refine xt_sq_x ?_ | refine xt_bk_eq ?_ | refine xt_bk_ne rfl ?_ | refine p0 rfl rfl rfl ?_ | refine p0n rfl rfl ?_ | refine pAr rfl rfl rfl rfl rfl rfl rfl (by omega) (by omega) ?_ | refine pBuild rfl rfl rfl rfl rfl rfl ?_ | refine pE (eAlloc rfl rfl rfl rfl) rfl ?_ | refine pE (eBox rfl rfl rfl rfl rfl) rfl ?_ | refine pE (eSt rfl rfl rfl rfl rfl rfl rfl rfl rfl) rfl ?_ | refine pE (eBs rfl rfl rfl rfl rfl rfl rfl rfl rfl) rfl ?_ | refine awp_cond (b := true) rfl (fun _ => ?_) (fun h => Bool.noConfusion h) | refine awp_cond (b := false) rfl (fun h => Bool.noConfusion h) (fun _ => ?_) | ((fail_if_success refine pG (b := true) rfl rfl ?_ ?_); (fail_if_success refine pG (b := false) rfl rfl ?_ ?_); (refine pG rfl rfl (fun hc => ?_) (fun hc => ?_)) <;> try simp at hc) | ((refine awp_cond rfl (fun hc => ?_) (fun hc => ?_)) <;> try simp at hc))
  · have ho : openOk b = false := by
      have : ¬ b.getD 0 0 ≤ 4 := by omega
      rw [openOk, decide_eq_false this, Bool.and_false, Bool.false_and]
    rw [open_no ho, ho]
    refine xt_own 2 3 1 rfl (xt_N ?_)
    exact xt_finG [(0, 0)] (.tup [.h (.sl 0 0 0), .h (.c (.bool false))]) [.arr 3 1 []] (.inr rfl) rfl rfl rfl rfl rfl ⟨rfl, trivial⟩ ⟨trivial, trivial, trivial⟩ ⟨trivial, trivial⟩ ⟨rfl, rfl⟩
  have h4 : b.getD 0 0 ≤ 4 := by omega
  obtain ⟨hpk, hln⟩ := letV_ok hlb h6 h4
  generalize hN : (b.getD 0 0).toNat = N at hln
  have hcl := cloneI_ac tg (letV b) (by omega)
  rw [hln] at hcl
  refine pIxR (f := int1) (L := b) 0 rfl rfl rfl rfl rfl rfl rfl rfl rfl (fun _ => rfl) rfl rfl (by omega) ?_
  repeat (first | refine p1 rfl rfl rfl rfl ?_ | refine al_end ?_ | refine awp_seq ?_ | refine awp_region ?_ | refine awp_block ?_ | refine awp_skip' ?_ | refine awp_ret' ?_ | refine awp_exit' ?_ | refine xt_sq_n ?_ | refine xt_bk_n ?_ | refine xt_sq_r ?_ | refine xt_bk_r ?_ | refine xt_sq_x ?_ | refine xt_bk_eq ?_ | refine xt_bk_ne rfl ?_ | refine p0 rfl rfl rfl ?_ | refine p0n rfl rfl ?_ | refine pAr rfl rfl rfl rfl rfl rfl rfl (by omega) (by omega) ?_ | refine pBuild rfl rfl rfl rfl rfl rfl ?_ | refine pE (eAlloc rfl rfl rfl rfl) rfl ?_ | refine pE (eBox rfl rfl rfl rfl rfl) rfl ?_ | refine pE (eSt rfl rfl rfl rfl rfl rfl rfl rfl rfl) rfl ?_ | refine pE (eBs rfl rfl rfl rfl rfl rfl rfl rfl rfl) rfl ?_)
  refine pCutR (f := int1) (L := b) 1 (N + 1) rfl rfl rfl rfl rfl rfl rfl rfl rfl (fun _ => rfl) rfl (by omega) (by omega) (by omega) ?_
  rw [show (b.drop 1).take (N + 1 - 1) = letV b by unfold letV; rw [hN, Nat.add_sub_cancel]]
  refine pC (eCall (hcl) 99 [] rfl rfl rfl rfl rfl rfl (by repeat' (first | exact trivial | exact rfl | refine And.intro ?_ ?_ | exact Or.inl ⟨_, rfl, rfl⟩ | exact ⟨_, rfl, rfl⟩ | exact bor_sl rfl (by assumption) | exact bor_ios rfl | exact bor_ios1 rfl | exact bor_iosJ rfl | exact bor_pw rfl)) (by decide)) rfl ?_
  rintro _ _ ⟨rfl, rfl⟩
  have hpl := ints_plain (letV b)
  have hpp := ints_plain (packV (letV b))
  have hl4 : (letV b).length ≤ 4 := by omega
  have hip := implPack_ac 98 (letV b) (by omega)
  rw [hpk, packR, if_pos hpk, hln, packV_len hl4] at hip
  repeat (first | refine p1 rfl rfl rfl rfl ?_ | refine al_end ?_ | refine awp_seq ?_ | refine awp_region ?_ | refine awp_block ?_ | refine awp_skip' ?_ | refine awp_ret' ?_ | refine awp_exit' ?_ | refine xt_sq_n ?_ | refine xt_bk_n ?_ | refine xt_sq_r ?_ | refine xt_bk_r ?_ | refine xt_sq_x ?_ | refine xt_bk_eq ?_ | refine xt_bk_ne rfl ?_ | refine p0 rfl rfl rfl ?_ | refine p0n rfl rfl ?_ | refine pAr rfl rfl rfl rfl rfl rfl rfl (by omega) (by omega) ?_ | refine pBuild rfl rfl rfl rfl rfl rfl ?_ | refine pE (eAlloc rfl rfl rfl rfl) rfl ?_ | refine pE (eBox rfl rfl rfl rfl rfl) rfl ?_ | refine pE (eSt rfl rfl rfl rfl rfl rfl rfl rfl rfl) rfl ?_ | refine pE (eBs rfl rfl rfl rfl rfl rfl rfl rfl rfl) rfl ?_)
  refine pC (eCall (hip) 99 [] rfl rfl rfl rfl rfl rfl (by repeat' (first | exact trivial | exact rfl | refine And.intro ?_ ?_ | exact Or.inl ⟨_, rfl, rfl⟩ | exact ⟨_, rfl, rfl⟩ | exact bor_sl rfl (by assumption) | exact bor_ios rfl | exact bor_ios1 rfl | exact bor_iosJ rfl | exact bor_pw rfl)) (by decide)) rfl ?_
  rintro _ _ ⟨rfl, rfl⟩
  have hsm := implSame_ac 98 tg (packV (letV b)) b (by rw [packV_len hl4]; omega) hl
  rw [packV_len hl4] at hsm
  repeat (first | refine p1 rfl rfl rfl rfl ?_ | refine al_end ?_ | refine awp_seq ?_ | refine awp_region ?_ | refine awp_block ?_ | refine awp_skip' ?_ | refine awp_ret' ?_ | refine awp_exit' ?_ | refine xt_sq_n ?_ | refine xt_bk_n ?_ | refine xt_sq_r ?_ | refine xt_bk_r ?_ | refine xt_sq_x ?_ | refine xt_bk_eq ?_ | refine xt_bk_ne rfl ?_ | refine p0 rfl rfl rfl ?_ | refine p0n rfl rfl ?_ | refine pAr rfl rfl rfl rfl rfl rfl rfl (by omega) (by omega) ?_ | refine pBuild rfl rfl rfl rfl rfl rfl ?_ | refine pE (eAlloc rfl rfl rfl rfl) rfl ?_ | refine pE (eBox rfl rfl rfl rfl rfl) rfl ?_ | refine pE (eSt rfl rfl rfl rfl rfl rfl rfl rfl rfl) rfl ?_ | refine pE (eBs rfl rfl rfl rfl rfl rfl rfl rfl rfl) rfl ?_)
  refine pCv (hsm) rfl rfl (fun _ => rfl) rfl rfl rfl (by decide) (by repeat' (first | exact trivial | exact rfl | refine And.intro ?_ ?_ | exact Or.inl ⟨_, rfl, rfl⟩ | exact ⟨_, rfl, rfl⟩ | exact bor_sl rfl (by assumption) | exact bor_ios rfl | exact bor_ios1 rfl | exact bor_iosJ rfl | exact bor_pw rfl)) ?_
  have hO : openOk b = decide (packV (letV b) = b) := by
    rw [openOk, hlb, decide_eq_true h6, decide_eq_true h4]; rfl
  repeat' (first | refine p1 rfl rfl rfl rfl ?_ | refine al_end ?_ | refine awp_seq ?_ | refine awp_region ?_ | refine awp_block ?_ | refine awp_skip' ?_ | refine awp_ret' ?_ | refine awp_exit' ?_ | refine xt_sq_n ?_ | refine xt_bk_n ?_ | refine xt_sq_r ?_ | refine xt_bk_r ?_ | refine xt_sq_x ?_ | refine xt_bk_eq ?_ | refine xt_bk_ne rfl ?_ | refine p0 rfl rfl rfl ?_ | refine p0n rfl rfl ?_ | refine pAr rfl rfl rfl rfl rfl rfl rfl (by omega) (by omega) ?_ | refine pBuild rfl rfl rfl rfl rfl rfl ?_ | refine pE (eAlloc rfl rfl rfl rfl) rfl ?_ | refine pE (eBox rfl rfl rfl rfl rfl) rfl ?_ | refine pE (eSt rfl rfl rfl rfl rfl rfl rfl rfl rfl) rfl ?_ | refine pE (eBs rfl rfl rfl rfl rfl rfl rfl rfl rfl) rfl ?_ | refine awp_cond (b := true) rfl (fun _ => ?_) (fun h => Bool.noConfusion h) | refine awp_cond (b := false) rfl (fun h => Bool.noConfusion h) (fun _ => ?_) | ((fail_if_success refine pG (b := true) rfl rfl ?_ ?_); (fail_if_success refine pG (b := false) rfl rfl ?_ ?_); (refine pG rfl rfl (fun hc => ?_) (fun hc => ?_)) <;> try simp at hc) | ((refine awp_cond rfl (fun hc => ?_) (fun hc => ?_)) <;> try simp at hc))
  · have ho : openOk b = false := by rw [hO]; simpa using hc
    rw [open_no ho, ho]
    refine xt_own 2 3 1 rfl (xt_N ?_)
    exact xt_finG [(0, 2)] (.tup [.h (.sl 0 0 0), .h (.c (.bool false))]) [.arr 3 1 []] (.inr rfl) rfl rfl rfl rfl rfl ⟨rfl, trivial⟩ ⟨trivial, trivial, trivial⟩ ⟨trivial, trivial⟩ ⟨rfl, rfl⟩
  · have ho : openOk b = true := by rw [hO]; simpa using hc
    rw [openR, if_pos ho, ho, hln]
    exact xt_N (xt_finG [(0, 0)] (.tup [.h (.sl 0 0 N), .h (.c (.bool true))]) [.arr 3 1 (ints (letV b))] (.inr rfl) rfl rfl rfl rfl rfl ⟨rfl, trivial⟩ ⟨trivial, trivial, trivial⟩ ⟨ints_tgs _, trivial⟩ ⟨rfl, rfl⟩)
set_option maxHeartbeats 2000000 in
set_option maxRecDepth 100000 in
theorem specOpen_ac (tg : Nat) (b : List Int) (hl : b.length ≤ 1099511627776) : AC Try.prog 81 [.h (.c (.rd (tg + 1) b.length (ints b)))] [] [0]
    (fun r h => h = [.arr 3 1 (ints (openR b))] ∧ r = .tup [.h (.sl 0 0 (openR b).length), .h (.c (.bool (openOk b)))]) := by
  have hi := l2List_ac (tg + 1) b hl
  refine ac_body teok Try.func81 rfl (by kernel_rfl) Try.ntmps81 rfl rfl ?_
  intro w0 ps g0 im0
  repeat (first | refine p1 rfl rfl rfl rfl ?_ | refine al_end ?_ | refine awp_seq ?_ | refine awp_region ?_ | refine awp_block ?_ | refine awp_skip' ?_ | refine awp_ret' ?_ | refine awp_exit' ?_ | refine xt_sq_n ?_ | refine xt_bk_n ?_ | refine xt_sq_r ?_ | refine xt_bk_r ?_ | refine xt_sq_x ?_ | refine xt_bk_eq ?_ | refine xt_bk_ne rfl ?_ | refine p0 rfl rfl rfl ?_ | refine p0n rfl rfl ?_ | refine pAr rfl rfl rfl rfl rfl rfl rfl (by omega) (by omega) ?_ | refine pBuild rfl rfl rfl rfl rfl rfl ?_ | refine pE (eAlloc rfl rfl rfl rfl) rfl ?_ | refine pE (eBox rfl rfl rfl rfl rfl) rfl ?_ | refine pE (eSt rfl rfl rfl rfl rfl rfl rfl rfl rfl) rfl ?_ | refine pE (eBs rfl rfl rfl rfl rfl rfl rfl rfl rfl) rfl ?_)
  refine awp_cut (fun s => ∃ q : Bool, (q = false ↔ lst b = true ∧ b.length = 6 ∧ tagV 1 (b.take 5) = b.getD 5 0 ∧ b.getD 0 0 ≤ 4) ∧ s = { fr := [(30, .h (.c (.bool q))), (0, .h (.c (.rd (tg + 1) b.length (ints b)))), (4, .h (.c (.int .i64 5)))], hp := [], nx := 0 }) ?_ ?_
  · ((repeat (first | refine awp_seq ?_ | refine awp_block ?_ | refine awp_skip' ?_ | refine xt_sq_n ?_ | refine xt_bk_n ?_)); refine awp_draw (CT.cons (0, true) <| CT.cons (1, false) <| CT.cons (2, true) <| CT.cons (3, true) <| CT.cons (4, true) <| CT.cons (5, true) <| CT.cons (6, true) <| CT.cons (7, true) <| CT.cons (8, true) <| CT.cons (9, true) <| CT.cons (10, true) <| CT.cons (11, true) <| CT.cons (13, true) <| CT.cons (14, true) <| CT.cons (15, true) <| CT.cons (16, true) <| CT.cons (12, false) <| CT.cons (17, true) <| CT.cons (18, true) <| CT.cons (19, true) <| CT.cons (20, true) <| CT.cons (21, true) <| CT.cons (22, true) <| CT.cons (23, true) <| CT.cons (24, true) <| CT.nil) [] mixed (by kernel_rfl) (by kernel_rfl) rfl rfl ?_)
    repeat' (first | refine d1 rfl rfl rfl rfl rfl ?_ | refine dBuild rfl rfl rfl rfl rfl rfl rfl ?_ | refine d0 rfl rfl rfl rfl ?_ | refine d0n rfl rfl rfl ?_ | refine dE rfl (eAlloc rfl rfl rfl rfl) rfl rfl rfl ?_ | refine dE rfl (eBox rfl rfl rfl rfl rfl) rfl rfl rfl ?_ | refine dE rfl (eSt rfl rfl rfl rfl rfl rfl rfl rfl rfl) rfl rfl rfl ?_ | refine dE rfl (eBs rfl rfl rfl rfl rfl rfl rfl rfl rfl) rfl rfl rfl ?_ | refine d2 rfl rfl rfl rfl rfl ?_ | refine ah_nil ?_ | refine dAr rfl rfl rfl rfl rfl rfl rfl rfl (by omega) (by omega) ?_ | ((fail_if_success refine dG (b := true) rfl rfl rfl ?_ ?_); (fail_if_success refine dG (b := false) rfl rfl rfl ?_ ?_); (refine dG rfl rfl rfl (fun hc => ?_) (fun hc => ?_)) <;> try simp at hc))
    refine dCv (hi) rfl rfl rfl (fun _ => rfl) rfl rfl rfl (by decide) (by repeat' (first | exact trivial | exact rfl | refine And.intro ?_ ?_ | exact Or.inl ⟨_, rfl, rfl⟩ | exact ⟨_, rfl, rfl⟩ | exact bor_sl rfl (by assumption) | exact bor_ios rfl | exact bor_ios1 rfl | exact bor_iosJ rfl | exact bor_pw rfl)) ?_
    repeat' (first | refine d1 rfl rfl rfl rfl rfl ?_ | refine dBuild rfl rfl rfl rfl rfl rfl rfl ?_ | refine d0 rfl rfl rfl rfl ?_ | refine d0n rfl rfl rfl ?_ | refine dE rfl (eAlloc rfl rfl rfl rfl) rfl rfl rfl ?_ | refine dE rfl (eBox rfl rfl rfl rfl rfl) rfl rfl rfl ?_ | refine dE rfl (eSt rfl rfl rfl rfl rfl rfl rfl rfl rfl) rfl rfl rfl ?_ | refine dE rfl (eBs rfl rfl rfl rfl rfl rfl rfl rfl rfl) rfl rfl rfl ?_ | refine d2 rfl rfl rfl rfl rfl ?_ | refine ah_nil ?_ | refine dAr rfl rfl rfl rfl rfl rfl rfl rfl (by omega) (by omega) ?_ | ((fail_if_success refine dG (b := true) rfl rfl rfl ?_ ?_); (fail_if_success refine dG (b := false) rfl rfl rfl ?_ ?_); (refine dG rfl rfl rfl (fun hc => ?_) (fun hc => ?_)) <;> try simp at hc))
    · refine xt_cutE _ [] ⟨rfl, rfl, rfl, by repeat (first | exact trivial | refine ⟨rfl, ?_⟩), by repeat (first | exact trivial | refine ⟨rfl, ?_⟩ | refine ⟨hrr_le rfl, ?_⟩)⟩ ?_
      simp [*]
    · refine xt_cutE _ [] ⟨rfl, rfl, rfl, by repeat (first | exact trivial | refine ⟨rfl, ?_⟩), by repeat (first | exact trivial | refine ⟨rfl, ?_⟩ | refine ⟨hrr_le rfl, ?_⟩)⟩ ?_
      have : ¬ b.length = 6 := by omega
      simp [*]
    have h6 : b.length = 6 := by omega
    have hlb : lst b = true := by assumption
    have h00 : b[0] = b.getD 0 0 := by rw [List.getD_eq_getElem?_getD, List.getElem?_eq_getElem (by omega)]; rfl
    have h55 : b[5] = b.getD 5 0 := by rw [List.getD_eq_getElem?_getD, List.getElem?_eq_getElem (by omega)]; rfl
    have e5 : ((b.drop 0).take (5 - 0)).length = 5 := by simp; omega
    have et : (b.drop 0).take (5 - 0) = b.take 5 := by simp
    have hta := l3Tag_ac (tg + 1) 1 ((b.drop 0).take (5 - 0)) (by omega) (fun n hn => (lst_iff.1 hlb).2 n (List.mem_of_mem_drop (List.mem_of_mem_take hn))) (by omega)
    rw [e5] at hta
    refine dCutR (f := int1) (L := b) 0 5 rfl rfl rfl rfl rfl rfl rfl rfl rfl rfl (fun _ => rfl) rfl rfl (by omega) (by omega) ?_
    repeat' (first | refine d1 rfl rfl rfl rfl rfl ?_ | refine dBuild rfl rfl rfl rfl rfl rfl rfl ?_ | refine d0 rfl rfl rfl rfl ?_ | refine d0n rfl rfl rfl ?_ | refine dE rfl (eAlloc rfl rfl rfl rfl) rfl rfl rfl ?_ | refine dE rfl (eBox rfl rfl rfl rfl rfl) rfl rfl rfl ?_ | refine dE rfl (eSt rfl rfl rfl rfl rfl rfl rfl rfl rfl) rfl rfl rfl ?_ | refine dE rfl (eBs rfl rfl rfl rfl rfl rfl rfl rfl rfl) rfl rfl rfl ?_ | refine d2 rfl rfl rfl rfl rfl ?_ | refine ah_nil ?_ | refine dAr rfl rfl rfl rfl rfl rfl rfl rfl (by omega) (by omega) ?_ | ((fail_if_success refine dG (b := true) rfl rfl rfl ?_ ?_); (fail_if_success refine dG (b := false) rfl rfl rfl ?_ ?_); (refine dG rfl rfl rfl (fun hc => ?_) (fun hc => ?_)) <;> try simp at hc))
    refine dIxR (f := int1) (L := b) 5 rfl rfl rfl rfl rfl rfl rfl rfl rfl rfl (fun _ => rfl) rfl rfl (by omega) ?_
    repeat' (first | refine d1 rfl rfl rfl rfl rfl ?_ | refine dBuild rfl rfl rfl rfl rfl rfl rfl ?_ | refine d0 rfl rfl rfl rfl ?_ | refine d0n rfl rfl rfl ?_ | refine dE rfl (eAlloc rfl rfl rfl rfl) rfl rfl rfl ?_ | refine dE rfl (eBox rfl rfl rfl rfl rfl) rfl rfl rfl ?_ | refine dE rfl (eSt rfl rfl rfl rfl rfl rfl rfl rfl rfl) rfl rfl rfl ?_ | refine dE rfl (eBs rfl rfl rfl rfl rfl rfl rfl rfl rfl) rfl rfl rfl ?_ | refine d2 rfl rfl rfl rfl rfl ?_ | refine ah_nil ?_ | refine dAr rfl rfl rfl rfl rfl rfl rfl rfl (by omega) (by omega) ?_ | ((fail_if_success refine dG (b := true) rfl rfl rfl ?_ ?_); (fail_if_success refine dG (b := false) rfl rfl rfl ?_ ?_); (refine dG rfl rfl rfl (fun hc => ?_) (fun hc => ?_)) <;> try simp at hc))
    refine dCv (hta) rfl rfl rfl (fun _ => rfl) rfl rfl rfl (by decide) (by repeat' (first | exact trivial | exact rfl | refine And.intro ?_ ?_ | exact Or.inl ⟨_, rfl, rfl⟩ | exact ⟨_, rfl, rfl⟩ | exact bor_sl rfl (by assumption) | exact bor_ios rfl | exact bor_ios1 rfl | exact bor_iosJ rfl | exact bor_pw rfl)) ?_
    repeat' (first | refine d1 rfl rfl rfl rfl rfl ?_ | refine dBuild rfl rfl rfl rfl rfl rfl rfl ?_ | refine d0 rfl rfl rfl rfl ?_ | refine d0n rfl rfl rfl ?_ | refine dE rfl (eAlloc rfl rfl rfl rfl) rfl rfl rfl ?_ | refine dE rfl (eBox rfl rfl rfl rfl rfl) rfl rfl rfl ?_ | refine dE rfl (eSt rfl rfl rfl rfl rfl rfl rfl rfl rfl) rfl rfl rfl ?_ | refine dE rfl (eBs rfl rfl rfl rfl rfl rfl rfl rfl rfl) rfl rfl rfl ?_ | refine d2 rfl rfl rfl rfl rfl ?_ | refine ah_nil ?_ | refine dAr rfl rfl rfl rfl rfl rfl rfl rfl (by omega) (by omega) ?_ | ((fail_if_success refine dG (b := true) rfl rfl rfl ?_ ?_); (fail_if_success refine dG (b := false) rfl rfl rfl ?_ ?_); (refine dG rfl rfl rfl (fun hc => ?_) (fun hc => ?_)) <;> try simp at hc))
    · refine xt_cutE _ [] ⟨rfl, rfl, rfl, by repeat (first | exact trivial | refine ⟨rfl, ?_⟩), by repeat (first | exact trivial | refine ⟨rfl, ?_⟩ | refine ⟨hrr_le rfl, ?_⟩)⟩ ?_
      rw [h55] at hc
      simp only [hlb, h6, true_and, hc, false_and]
      simp
    refine dIxR (f := int1) (L := b) 0 rfl rfl rfl rfl rfl rfl rfl rfl rfl rfl (fun _ => rfl) rfl rfl (by omega) ?_
    repeat' (first | refine d1 rfl rfl rfl rfl rfl ?_ | refine dBuild rfl rfl rfl rfl rfl rfl rfl ?_ | refine d0 rfl rfl rfl rfl ?_ | refine d0n rfl rfl rfl ?_ | refine dE rfl (eAlloc rfl rfl rfl rfl) rfl rfl rfl ?_ | refine dE rfl (eBox rfl rfl rfl rfl rfl) rfl rfl rfl ?_ | refine dE rfl (eSt rfl rfl rfl rfl rfl rfl rfl rfl rfl) rfl rfl rfl ?_ | refine dE rfl (eBs rfl rfl rfl rfl rfl rfl rfl rfl rfl) rfl rfl rfl ?_ | refine d2 rfl rfl rfl rfl rfl ?_ | refine ah_nil ?_ | refine dAr rfl rfl rfl rfl rfl rfl rfl rfl (by omega) (by omega) ?_ | ((fail_if_success refine dG (b := true) rfl rfl rfl ?_ ?_); (fail_if_success refine dG (b := false) rfl rfl rfl ?_ ?_); (refine dG rfl rfl rfl (fun hc => ?_) (fun hc => ?_)) <;> try simp at hc))
    refine xt_cutE _ [] ⟨rfl, rfl, rfl, by repeat (first | exact trivial | refine ⟨rfl, ?_⟩), by repeat (first | exact trivial | refine ⟨rfl, ?_⟩ | refine ⟨hrr_le rfl, ?_⟩)⟩ ?_
    rw [h55] at hc
    simp only [hlb, h6, true_and, hc]
    rw [h00]
    simp
  rintro _ ⟨q, hq, rfl⟩
  repeat' (first | refine p1 rfl rfl rfl rfl ?_ | refine al_end ?_ | refine awp_seq ?_ | refine awp_region ?_ | refine awp_block ?_ | refine awp_skip' ?_ | refine awp_ret' ?_ | refine awp_exit' ?_ | refine xt_sq_n ?_ | refine xt_bk_n ?_ | refine xt_sq_r ?_ | refine xt_bk_r ?_ | refine xt_sq_x ?_ | refine xt_bk_eq ?_ | refine xt_bk_ne rfl ?_ | refine p0 rfl rfl rfl ?_ | refine p0n rfl rfl ?_ | refine pAr rfl rfl rfl rfl rfl rfl rfl (by omega) (by omega) ?_ | refine pBuild rfl rfl rfl rfl rfl rfl ?_ | refine pE (eAlloc rfl rfl rfl rfl) rfl ?_ | refine pE (eBox rfl rfl rfl rfl rfl) rfl ?_ | refine pE (eSt rfl rfl rfl rfl rfl rfl rfl rfl rfl) rfl ?_ | refine pE (eBs rfl rfl rfl rfl rfl rfl rfl rfl rfl) rfl ?_ | refine awp_cond (b := true) rfl (fun _ => ?_) (fun h => Bool.noConfusion h) | refine awp_cond (b := false) rfl (fun h => Bool.noConfusion h) (fun _ => ?_) | ((fail_if_success refine pG (b := true) rfl rfl ?_ ?_); (fail_if_success refine pG (b := false) rfl rfl ?_ ?_); (refine pG rfl rfl (fun hc => ?_) (fun hc => ?_)) <;> try simp at hc) | ((refine awp_cond rfl (fun hc => ?_) (fun hc => ?_)) <;> try simp at hc))
  · have ho : openOk b = false := by
      cases h : openOk b with
      | false => rfl
      | true =>
        simp only [openOk, Bool.and_eq_true, decide_eq_true_eq] at h
        obtain ⟨⟨⟨c1, c2⟩, c3⟩, c4⟩ := h
        have := hq.2 ⟨c1, c2, ((open_iff c1 c2 c3).1 c4).1, c3⟩
        rw [hc] at this; cases this
    rw [open_no ho, ho]
    exact xt_finG [(0, 0)] (.tup [.h (.sl 0 0 0), .h (.c (.bool false))]) [.arr 3 1 []] (.inr rfl) rfl rfl rfl rfl rfl ⟨rfl, trivial⟩ ⟨trivial, trivial, trivial⟩ ⟨trivial, trivial⟩ ⟨rfl, rfl⟩
  obtain ⟨hlb, h6, htg, h4⟩ := hq.1 hc
  have h00 : b[0] = b.getD 0 0 := by rw [List.getD_eq_getElem?_getD, List.getElem?_eq_getElem (by omega)]; rfl
  have hb0 := (lst_iff.1 hlb).2 b[0] (List.getElem_mem _)
  refine pIxR (f := int1) (L := b) 0 rfl rfl rfl rfl rfl rfl rfl rfl rfl (fun _ => rfl) rfl rfl (by omega) ?_
  repeat (first | refine p1 rfl rfl rfl rfl ?_ | refine al_end ?_ | refine awp_seq ?_ | refine awp_region ?_ | refine awp_block ?_ | refine awp_skip' ?_ | refine awp_ret' ?_ | refine awp_exit' ?_ | refine xt_sq_n ?_ | refine xt_bk_n ?_ | refine xt_sq_r ?_ | refine xt_bk_r ?_ | refine xt_sq_x ?_ | refine xt_bk_eq ?_ | refine xt_bk_ne rfl ?_ | refine p0 rfl rfl rfl ?_ | refine p0n rfl rfl ?_ | refine pAr rfl rfl rfl rfl rfl rfl rfl (by omega) (by omega) ?_ | refine pBuild rfl rfl rfl rfl rfl rfl ?_ | refine pE (eAlloc rfl rfl rfl rfl) rfl ?_ | refine pE (eBox rfl rfl rfl rfl rfl) rfl ?_ | refine pE (eSt rfl rfl rfl rfl rfl rfl rfl rfl rfl) rfl ?_ | refine pE (eBs rfl rfl rfl rfl rfl rfl rfl rfl rfl) rfl ?_)
  obtain ⟨hpk, hln⟩ := letV_ok hlb h6 h4
  have hO : openOk b = decide (packV (letV b) = b) := by
    rw [openOk, hlb, decide_eq_true h6, decide_eq_true h4]; rfl
  have hoi := open_iff hlb h6 h4
  generalize hN : (b.getD 0 0).toNat = N at hln hoi
  have hN4 : N ≤ 4 := by omega
  refine awp_loopE (fun k : Nat => { fr := [(0, .h (.c (.rd (tg + 1) b.length (ints b)))), (4, .h (.c (.int .i64 5))), (5, .h (.c (.int .i64 k)))], hp := [], nx := 0 })
    (fun n k => N + 1 ≤ k ∧ k ≤ 5 ∧ n = 5 - k ∧ ∀ i, N + 1 ≤ i → i < k → b.getD i 0 = 0) (5 - (N + 1)) (N + 1) [] ⟨rfl, rfl, rfl, by rw [show b[0] + 1 = ((N + 1 : Nat) : Int) by omega]; repeat (first | exact trivial | refine ⟨rfl, ?_⟩), by repeat (first | exact trivial | refine ⟨rfl, ?_⟩)⟩ ⟨Nat.le_refl _, by omega, rfl, fun i h h' => absurd h' (by omega)⟩ ?_
  rintro n k ⟨hk1, hk2, rfl, hz⟩
  repeat' (first | refine p1 rfl rfl rfl rfl ?_ | refine al_end ?_ | refine awp_seq ?_ | refine awp_region ?_ | refine awp_block ?_ | refine awp_skip' ?_ | refine awp_ret' ?_ | refine awp_exit' ?_ | refine xt_sq_n ?_ | refine xt_bk_n ?_ | refine xt_sq_r ?_ | refine xt_bk_r ?_ | refine xt_sq_x ?_ | refine xt_bk_eq ?_ | refine xt_bk_ne rfl ?_ | refine p0 rfl rfl rfl ?_ | refine p0n rfl rfl ?_ | refine pAr rfl rfl rfl rfl rfl rfl rfl (by omega) (by omega) ?_ | refine pBuild rfl rfl rfl rfl rfl rfl ?_ | refine pE (eAlloc rfl rfl rfl rfl) rfl ?_ | refine pE (eBox rfl rfl rfl rfl rfl) rfl ?_ | refine pE (eSt rfl rfl rfl rfl rfl rfl rfl rfl rfl) rfl ?_ | refine pE (eBs rfl rfl rfl rfl rfl rfl rfl rfl rfl) rfl ?_ | refine awp_cond (b := true) rfl (fun _ => ?_) (fun h => Bool.noConfusion h) | refine awp_cond (b := false) rfl (fun h => Bool.noConfusion h) (fun _ => ?_) | ((fail_if_success refine pG (b := true) rfl rfl ?_ ?_); (fail_if_success refine pG (b := false) rfl rfl ?_ ?_); (refine pG rfl rfl (fun hc => ?_) (fun hc => ?_)) <;> try simp at hc) | ((refine awp_cond rfl (fun hc => ?_) (fun hc => ?_)) <;> try simp at hc))
  · have hkk : b[k]'(by omega) = b.getD k 0 := by rw [List.getD_eq_getElem?_getD, List.getElem?_eq_getElem (by omega)]; rfl
    refine pIxR (f := int1) (L := b) k rfl rfl rfl rfl rfl rfl rfl rfl rfl (fun _ => rfl) rfl rfl (by omega) ?_
    repeat' (first | refine p1 rfl rfl rfl rfl ?_ | refine al_end ?_ | refine awp_seq ?_ | refine awp_region ?_ | refine awp_block ?_ | refine awp_skip' ?_ | refine awp_ret' ?_ | refine awp_exit' ?_ | refine xt_sq_n ?_ | refine xt_bk_n ?_ | refine xt_sq_r ?_ | refine xt_bk_r ?_ | refine xt_sq_x ?_ | refine xt_bk_eq ?_ | refine xt_bk_ne rfl ?_ | refine p0 rfl rfl rfl ?_ | refine p0n rfl rfl ?_ | refine pAr rfl rfl rfl rfl rfl rfl rfl (by omega) (by omega) ?_ | refine pBuild rfl rfl rfl rfl rfl rfl ?_ | refine pE (eAlloc rfl rfl rfl rfl) rfl ?_ | refine pE (eBox rfl rfl rfl rfl rfl) rfl ?_ | refine pE (eSt rfl rfl rfl rfl rfl rfl rfl rfl rfl) rfl ?_ | refine pE (eBs rfl rfl rfl rfl rfl rfl rfl rfl rfl) rfl ?_ | refine awp_cond (b := true) rfl (fun _ => ?_) (fun h => Bool.noConfusion h) | refine awp_cond (b := false) rfl (fun h => Bool.noConfusion h) (fun _ => ?_) | ((fail_if_success refine pG (b := true) rfl rfl ?_ ?_); (fail_if_success refine pG (b := false) rfl rfl ?_ ?_); (refine pG rfl rfl (fun hc => ?_) (fun hc => ?_)) <;> try simp at hc) | ((refine awp_cond rfl (fun hc => ?_) (fun hc => ?_)) <;> try simp at hc))
    · have ho : openOk b = false := by
        rw [hO, decide_eq_false]
        intro h
        have := (hoi.1 h).2 k hk1 (by omega)
        omega
      rw [open_no ho, ho]
      exact xt_finG [(0, 0)] (.tup [.h (.sl 0 0 0), .h (.c (.bool false))]) [.arr 3 1 []] (.inr rfl) rfl rfl rfl rfl rfl ⟨rfl, trivial⟩ ⟨trivial, trivial, trivial⟩ ⟨trivial, trivial⟩ ⟨rfl, rfl⟩
    · refine lp_end (5 - (k + 1)) (k + 1) [] (by omega) ⟨rfl, rfl, rfl, by repeat (first | exact trivial | refine ⟨rfl, ?_⟩), by repeat (first | exact trivial | refine ⟨rfl, ?_⟩ | refine ⟨hrr_le rfl, ?_⟩)⟩ ⟨by omega, by omega, rfl, fun i h h' => ?_⟩
      by_cases hik : i = k
      · subst hik; omega
      · exact hz i h (by omega)
  · have ho : openOk b = true := by
      rw [hO, decide_eq_true]
      exact hoi.2 ⟨htg, fun i h h' => hz i h (by omega)⟩
    rw [openR, if_pos ho, ho, hln]
    refine pIxR (f := int1) (L := b) 0 rfl rfl rfl rfl rfl rfl rfl rfl rfl (fun _ => rfl) rfl rfl (by omega) ?_
    repeat (first | refine p1 rfl rfl rfl rfl ?_ | refine al_end ?_ | refine awp_seq ?_ | refine awp_region ?_ | refine awp_block ?_ | refine awp_skip' ?_ | refine awp_ret' ?_ | refine awp_exit' ?_ | refine xt_sq_n ?_ | refine xt_bk_n ?_ | refine xt_sq_r ?_ | refine xt_bk_r ?_ | refine xt_sq_x ?_ | refine xt_bk_eq ?_ | refine xt_bk_ne rfl ?_ | refine p0 rfl rfl rfl ?_ | refine p0n rfl rfl ?_ | refine pAr rfl rfl rfl rfl rfl rfl rfl (by omega) (by omega) ?_ | refine pBuild rfl rfl rfl rfl rfl rfl ?_ | refine pE (eAlloc rfl rfl rfl rfl) rfl ?_ | refine pE (eBox rfl rfl rfl rfl rfl) rfl ?_ | refine pE (eSt rfl rfl rfl rfl rfl rfl rfl rfl rfl) rfl ?_ | refine pE (eBs rfl rfl rfl rfl rfl rfl rfl rfl rfl) rfl ?_)
    refine pCutR (f := int1) (L := b) 1 (N + 1) rfl rfl rfl rfl rfl rfl rfl rfl rfl (fun _ => rfl) rfl (by omega) (by omega) (by omega) ?_
    repeat (first | refine p1 rfl rfl rfl rfl ?_ | refine al_end ?_ | refine awp_seq ?_ | refine awp_region ?_ | refine awp_block ?_ | refine awp_skip' ?_ | refine awp_ret' ?_ | refine awp_exit' ?_ | refine xt_sq_n ?_ | refine xt_bk_n ?_ | refine xt_sq_r ?_ | refine xt_bk_r ?_ | refine xt_sq_x ?_ | refine xt_bk_eq ?_ | refine xt_bk_ne rfl ?_ | refine p0 rfl rfl rfl ?_ | refine p0n rfl rfl ?_ | refine pAr rfl rfl rfl rfl rfl rfl rfl (by omega) (by omega) ?_ | refine pBuild rfl rfl rfl rfl rfl rfl ?_ | refine pE (eAlloc rfl rfl rfl rfl) rfl ?_ | refine pE (eBox rfl rfl rfl rfl rfl) rfl ?_ | refine pE (eSt rfl rfl rfl rfl rfl rfl rfl rfl rfl) rfl ?_ | refine pE (eBs rfl rfl rfl rfl rfl rfl rfl rfl rfl) rfl ?_)
    rw [show (b.drop 1).take (N + 1 - 1) = letV b by unfold letV; rw [hN, Nat.add_sub_cancel]]
    refine pApR (f := int1) (L := []) (M := letV b) rfl rfl rfl rfl rfl rfl rfl rfl rfl rfl rfl (fun _ => rfl) rfl (by omega) (by omega) rfl ?_
    repeat (first | refine p1 rfl rfl rfl rfl ?_ | refine al_end ?_ | refine awp_seq ?_ | refine awp_region ?_ | refine awp_block ?_ | refine awp_skip' ?_ | refine awp_ret' ?_ | refine awp_exit' ?_ | refine xt_sq_n ?_ | refine xt_bk_n ?_ | refine xt_sq_r ?_ | refine xt_bk_r ?_ | refine xt_sq_x ?_ | refine xt_bk_eq ?_ | refine xt_bk_ne rfl ?_ | refine p0 rfl rfl rfl ?_ | refine p0n rfl rfl ?_ | refine pAr rfl rfl rfl rfl rfl rfl rfl (by omega) (by omega) ?_ | refine pBuild rfl rfl rfl rfl rfl rfl ?_ | refine pE (eAlloc rfl rfl rfl rfl) rfl ?_ | refine pE (eBox rfl rfl rfl rfl rfl) rfl ?_ | refine pE (eSt rfl rfl rfl rfl rfl rfl rfl rfl rfl) rfl ?_ | refine pE (eBs rfl rfl rfl rfl rfl rfl rfl rfl rfl) rfl ?_)
    refine xt_finG [(0, 1)] (.tup [.h (.sl 0 0 N), .h (.c (.bool true))]) [.arr 3 1 (ints (letV b))] (.inr rfl) rfl rfl rfl rfl ?_ ⟨rfl, trivial⟩ ⟨trivial, trivial, trivial⟩ ⟨ints_tgs _, trivial⟩ ⟨rfl, rfl⟩
    show AV.tup [AV.h (.sl 1 0 (0 + N)), _] = AV.tup [AV.h (.sl 1 0 N), _]
    rw [Nat.zero_add]; rfl
end Go.Proofs.Ythmgfgiaagkdeaa
