import Derived.Test.YtjijkdhjfanpaaaC3
import Derived.Test.YtjijkdhjfanpaaaT3
namespace Go.Proofs.Ytjijkdhjfanpaaa
open Go.RowKit
attribute [local irreducible] AWP AL XT AC ES PS AH AH2 LpQ
theorem ty_cache {y : AV} (h : TyA te 36 y) : ∃ (e : Int) (l : List (List Int)), y = cv 0 e l ∧ Sml 9223372036854775807 l := by
  obtain ⟨xs, rfl, hc⟩ := h.agg_inv rfl rfl
  obtain ⟨a, r, rfl, h0, hc⟩ := (hc.struct_inv rfl).cons_inv
  obtain ⟨b, r, rfl, h1, hc⟩ := hc.cons_inv
  obtain rfl := hc.nil_inv
  obtain ⟨e, rfl, _⟩ := h0.int_inv rfl
  obtain ⟨n, ys, rfl, hn, h2⟩ := h1.slice_inv rfl
  obtain ⟨l, rfl, rfl, hl⟩ := tyR_rows (ird 1 int1) (fun x => x.length ≤ maxLen) (fun xs h => by
    obtain ⟨n, ys, rfl, hn, h2⟩ := h.slice_inv rfl
    obtain ⟨l, rfl, rfl, _⟩ := tyR_rows int1 (fun _ => True) (fun xs h => by obtain ⟨x, e, hw⟩ := h.int_inv rfl; exact ⟨x, e, trivial⟩) _ _ h2
    exact ⟨l, rfl, hn⟩) _ _ h2
  exact ⟨e, l, rfl, by unfold maxLen at hn; omega, fun x hx => by have := hl x hx; unfold maxLen at this; omega⟩
/-! ### marks -/
def mkIss (k : Int) : List (List Int) → List (List Int)
  | [] => []
  | x :: r => mkIs k x.length :: mkIss (k + x.length) r
def lens : List (List Int) → Nat
  | [] => 0
  | x :: r => x.length + lens r
theorem mkIss_len : ∀ (k : Int) (l : List (List Int)), (mkIss k l).length = l.length
  | _, [] => rfl
  | k, x :: r => by simp [mkIss, mkIss_len]
theorem mkIss_at : ∀ (k : Int) (l : List (List Int)) (j : Nat) (h : j < (mkIss k l).length) (h' : j < l.length), (mkIss k l)[j] = mkIs (k + lens (l.take j)) l[j].length
  | _, [], _, _, h' => by simp at h'
  | k, x :: r, 0, _, _ => by simp [mkIss, lens]
  | k, x :: r, j + 1, h, h' => by
    simp only [mkIss, List.getElem_cons_succ, List.take_succ_cons, lens]
    rw [mkIss_at (k + x.length) r j (by simpa [mkIss] using h) (by simpa using h')]
    congr 1
    simp; omega
theorem lens_step : ∀ (l : List (List Int)) (j : Nat) (h : j < l.length), lens (l.take (j + 1)) = lens (l.take j) + l[j].length
  | [], _, h => by simp at h
  | x :: r, 0, _ => by simp [lens]
  | x :: r, j + 1, h => by
    simp only [List.take_succ_cons, lens, List.getElem_cons_succ]
    rw [lens_step r j (by simpa using h)]; omega
theorem lens_le {n m : Nat} : ∀ (l : List (List Int)), (∀ x ∈ l, x.length ≤ m) → lens l ≤ l.length * m
  | [], _ => by simp [lens]
  | x :: r, h => by
    have h1 := lens_le (n := n) r fun y hy => h y (List.mem_cons_of_mem _ hy)
    have h2 := h x List.mem_cons_self
    simp only [lens, List.length_cons, Nat.succ_mul]; omega
theorem lens_take (l : List (List Int)) (j : Nat) : lens (l.take j) ≤ lens l := by
  induction l generalizing j with
  | nil => simp [lens]
  | cons x r ih =>
    cases j with
    | zero => simp [lens]
    | succ j => simp only [List.take_succ_cons, lens]; have := ih j; omega
theorem lens_at {l : List (List Int)} {j : Nat} (h : j < l.length) : l[j].length ≤ lens l := by
  have h1 := lens_step l j h
  have h2 := lens_take l (j + 1)
  omega
set_option maxHeartbeats 1000000 in
set_option maxRecDepth 100000 in
theorem markIntSS_ac (J l : List (List Int)) (k : Int) (h0 : 0 ≤ k) (h1 : k ≤ 1048576) (hl : l.length ≤ 1099511627776) (hs : lens l ≤ 1099510579200) : AC Try.prog 45 [.h (.sl 0 J.length l.length), .h (.c (.int .i64 k))] [.arr 32 1 (ios (J ++ l))] [0]
    (fun r h => ∃ _a : Unit, True ∧ h = [.arr 32 1 (ios (J ++ mkIss k l))] ∧ r = .h (.c (.int .i64 (k + lens l)))) := by
  refine ac_body teok Try.func45 rfl (by kernel_rfl) Try.ntmps45 rfl rfl ?_
  intro w0 ps g0 im0
  repeat (first | refine p1 rfl rfl rfl rfl ?_ | refine al_end ?_ | refine awp_seq ?_ | refine awp_region ?_ | refine awp_block ?_ | refine awp_skip' ?_ | refine awp_ret' ?_ | refine awp_exit' ?_ | refine xt_sq_n ?_ | refine xt_bk_n ?_ | refine xt_sq_r ?_ | refine xt_bk_r ?_ | refine xt_sq_x ?_ | refine xt_bk_eq ?_ | refine xt_bk_ne rfl ?_ | refine p0 rfl rfl rfl ?_ | refine p0n rfl rfl ?_ | refine pAr rfl rfl rfl rfl rfl rfl rfl (by omega) (by omega) ?_ | refine pBuild rfl rfl rfl rfl rfl rfl ?_ | refine pE (eAlloc rfl rfl rfl rfl) rfl ?_ | refine pE (eBox rfl rfl rfl rfl rfl) rfl ?_ | refine pE (eSt rfl rfl rfl rfl rfl rfl rfl rfl rfl) rfl ?_ | refine pE (eBs rfl rfl rfl rfl rfl rfl rfl rfl rfl) rfl ?_)
  have hml := mkIss_len k l
  refine awp_loopE (fun j : Nat => { fr := [(0, .h (.sl 0 J.length l.length)), (1, .h (.c (.int .i64 (k + lens (l.take j))))), (5, .h (.c (.int .i64 j)))], hp := [(0, .arr 32 1 (ios (J ++ upto (mkIss k l) l j)))], nx := 1 })
    (fun n j => j ≤ l.length ∧ n = l.length - j) l.length 0 [(0, 0)] ⟨rfl, rfl, rfl, ⟨rfl, by show some _ = some (AV.h (.c (.int .i64 (k + lens (l.take 0))))); simp [lens], rfl, trivial⟩, ⟨rfl, trivial⟩⟩ ⟨Nat.zero_le _, rfl⟩ ?_
  rintro n j ⟨hj, rfl⟩
  repeat (first | refine p1 rfl rfl rfl rfl ?_ | refine al_end ?_ | refine awp_seq ?_ | refine awp_region ?_ | refine awp_block ?_ | refine awp_skip' ?_ | refine awp_ret' ?_ | refine awp_exit' ?_ | refine xt_sq_n ?_ | refine xt_bk_n ?_ | refine xt_sq_r ?_ | refine xt_bk_r ?_ | refine xt_sq_x ?_ | refine xt_bk_eq ?_ | refine xt_bk_ne rfl ?_ | refine p0 rfl rfl rfl ?_ | refine p0n rfl rfl ?_ | refine pAr rfl rfl rfl rfl rfl rfl rfl (by omega) (by omega) ?_ | refine pBuild rfl rfl rfl rfl rfl rfl ?_ | refine pE (eAlloc rfl rfl rfl rfl) rfl ?_ | refine pE (eBox rfl rfl rfl rfl rfl) rfl ?_ | refine pE (eSt rfl rfl rfl rfl rfl rfl rfl rfl rfl) rfl ?_ | refine pE (eBs rfl rfl rfl rfl rfl rfl rfl rfl rfl) rfl ?_)
  refine awp_cond rfl (fun hc => ?_) (fun hc => ?_)
  · have hj' : j < l.length := by simpa using hc
    have hul := upto_length hml j
    have hll := lens_at hj'
    have hlt := lens_take l j
    have hJ : J.length + j < (J ++ upto (mkIss k l) l j).length := by rw [List.length_append, hul]; omega
    have hxe : (J ++ upto (mkIss k l) l j)[J.length + j] = l[j] := by rw [List.getElem_append_right (by omega)]; simp only [Nat.add_sub_cancel_left]; exact upto_get hml hj' _
    repeat (first | refine p1 rfl rfl rfl rfl ?_ | refine al_end ?_ | refine awp_seq ?_ | refine awp_region ?_ | refine awp_block ?_ | refine awp_skip' ?_ | refine awp_ret' ?_ | refine awp_exit' ?_ | refine xt_sq_n ?_ | refine xt_bk_n ?_ | refine xt_sq_r ?_ | refine xt_bk_r ?_ | refine xt_sq_x ?_ | refine xt_bk_eq ?_ | refine xt_bk_ne rfl ?_ | refine p0 rfl rfl rfl ?_ | refine p0n rfl rfl ?_ | refine pAr rfl rfl rfl rfl rfl rfl rfl (by omega) (by omega) ?_ | refine pBuild rfl rfl rfl rfl rfl rfl ?_ | refine pE (eAlloc rfl rfl rfl rfl) rfl ?_ | refine pE (eBox rfl rfl rfl rfl rfl) rfl ?_ | refine pE (eSt rfl rfl rfl rfl rfl rfl rfl rfl rfl) rfl ?_ | refine pE (eBs rfl rfl rfl rfl rfl rfl rfl rfl rfl) rfl ?_)
    refine al_openR (f := int1) (L := J ++ upto (mkIss k l) l j) 0 (J.length + j) rfl hJ ?_
    rw [hxe]
    refine pIxHj (J.length + j) j rfl rfl rfl rfl rfl rfl rfl rfl rfl rfl rfl hj' rfl ?_
    refine pLdH (f := int1) (L := J ++ upto (mkIss k l) l j) (J.length + j) rfl rfl rfl rfl rfl rfl rfl rfl rfl hJ rfl ?_
    repeat (first | refine p1 rfl rfl rfl rfl ?_ | refine al_end ?_ | refine awp_seq ?_ | refine awp_region ?_ | refine awp_block ?_ | refine awp_skip' ?_ | refine awp_ret' ?_ | refine awp_exit' ?_ | refine xt_sq_n ?_ | refine xt_bk_n ?_ | refine xt_sq_r ?_ | refine xt_bk_r ?_ | refine xt_sq_x ?_ | refine xt_bk_eq ?_ | refine xt_bk_ne rfl ?_ | refine p0 rfl rfl rfl ?_ | refine p0n rfl rfl ?_ | refine pAr rfl rfl rfl rfl rfl rfl rfl (by omega) (by omega) ?_ | refine pBuild rfl rfl rfl rfl rfl rfl ?_ | refine pE (eAlloc rfl rfl rfl rfl) rfl ?_ | refine pE (eBox rfl rfl rfl rfl rfl) rfl ?_ | refine pE (eSt rfl rfl rfl rfl rfl rfl rfl rfl rfl) rfl ?_ | refine pE (eBs rfl rfl rfl rfl rfl rfl rfl rfl rfl) rfl ?_)
    refine pCo 1 (markIntS_ac l[j] (k + lens (l.take j)) (by omega) (by omega) (by omega)) rfl rfl rfl rfl (fun _ => rfl) (fun _ _ => rfl) rfl rfl rfl (by decide) (by repeat' (first | exact trivial | exact rfl | refine And.intro ?_ ?_ | exact Or.inl ⟨_, rfl, rfl⟩ | exact ⟨_, rfl, rfl⟩ | exact bor_sl rfl (by assumption) | exact bor_ios rfl | exact bor_ios1 rfl | exact bor_iosJ rfl)) ?_
    intro _ _
    refine al_closeR (f := int1) (L := J ++ upto (mkIss k l) l j) (x := mkIs (k + lens (l.take j)) l[j].length) 0 1 (J.length + j) rfl rfl hJ (by rw [mkIs_length]) ?_
    rw [List.set_append_right _ _ (by omega), Nat.add_sub_cancel_left, upto_set hml hj' (mkIss_at k l j (by omega) hj')]
    repeat (first | refine p1 rfl rfl rfl rfl ?_ | refine al_end ?_ | refine awp_seq ?_ | refine awp_region ?_ | refine awp_block ?_ | refine awp_skip' ?_ | refine awp_ret' ?_ | refine awp_exit' ?_ | refine xt_sq_n ?_ | refine xt_bk_n ?_ | refine xt_sq_r ?_ | refine xt_bk_r ?_ | refine xt_sq_x ?_ | refine xt_bk_eq ?_ | refine xt_bk_ne rfl ?_ | refine p0 rfl rfl rfl ?_ | refine p0n rfl rfl ?_ | refine pAr rfl rfl rfl rfl rfl rfl rfl (by omega) (by omega) ?_ | refine pBuild rfl rfl rfl rfl rfl rfl ?_ | refine pE (eAlloc rfl rfl rfl rfl) rfl ?_ | refine pE (eBox rfl rfl rfl rfl rfl) rfl ?_ | refine pE (eSt rfl rfl rfl rfl rfl rfl rfl rfl rfl) rfl ?_ | refine pE (eBs rfl rfl rfl rfl rfl rfl rfl rfl rfl) rfl ?_)
    exact lp_end (l.length - (j + 1)) (j + 1) [(0, 0)] (by omega) ⟨rfl, rfl, rfl, ⟨rfl, by show some _ = some (AV.h (.c (.int .i64 (k + lens (l.take (j + 1)))))); rw [lens_step l j hj']; simp; omega, rfl, trivial⟩, ⟨rfl, trivial⟩⟩ ⟨hj', rfl⟩
  · have hj' : j = l.length := by have : ¬ j < l.length := by simpa using hc
                                  omega
    subst hj'
    repeat (first | refine p1 rfl rfl rfl rfl ?_ | refine al_end ?_ | refine awp_seq ?_ | refine awp_region ?_ | refine awp_block ?_ | refine awp_skip' ?_ | refine awp_ret' ?_ | refine awp_exit' ?_ | refine xt_sq_n ?_ | refine xt_bk_n ?_ | refine xt_sq_r ?_ | refine xt_bk_r ?_ | refine xt_sq_x ?_ | refine xt_bk_eq ?_ | refine xt_bk_ne rfl ?_ | refine p0 rfl rfl rfl ?_ | refine p0n rfl rfl ?_ | refine pAr rfl rfl rfl rfl rfl rfl rfl (by omega) (by omega) ?_ | refine pBuild rfl rfl rfl rfl rfl rfl ?_ | refine pE (eAlloc rfl rfl rfl rfl) rfl ?_ | refine pE (eBox rfl rfl rfl rfl rfl) rfl ?_ | refine pE (eSt rfl rfl rfl rfl rfl rfl rfl rfl rfl) rfl ?_ | refine pE (eBs rfl rfl rfl rfl rfl rfl rfl rfl rfl) rfl ?_)
    refine xt_finG [(0, 0)] (.h (.c (.int .i64 (k + lens l)))) [.arr 32 1 (ios (J ++ mkIss k l))] (.inr rfl) rfl rfl rfl rfl (by rw [List.take_length]; rfl) ?_ trivial ⟨ios_tgs _, trivial⟩ ⟨(), trivial, rfl, rfl⟩
    refine ⟨?_, trivial⟩
    have : upto (mkIss k l) l l.length = mkIss k l := by simp only [upto, List.drop_length, List.append_nil]; exact List.take_of_length_le (by omega)
    show some (Ob.arr 32 1 (ios (J ++ upto (mkIss k l) l l.length))) = _
    rw [this]; rfl
end Go.Proofs.Ytjijkdhjfanpaaa
