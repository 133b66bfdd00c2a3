import Derived.Test.YtlgfdjmnedfjfaaL11
namespace Go.Proofs.Ytlgfdjmnedfjfaa
open Go.RowKit
attribute [local irreducible] AWP AL XT AC ES PS AH LpQ
theorem lcLess_iff {a b : LC} : lcLess a b = true ↔ a.f < b.f ∨ (a.f = b.f ∧ a.t < b.t) := by simp [lcLess]
theorem rateP_iff {f t : Int} {a : LC} : rateP f t a = true ↔ a.f = f ∧ a.t = t := by simp [rateP]
theorem lcLess_nb {a b : LC} : lcLess a b = false ↔ ¬(a.f < b.f ∨ (a.f = b.f ∧ a.t < b.t)) := by rw [← lcLess_iff]; simp
theorem rateP_nb {f t : Int} {a : LC} : rateP f t a = false ↔ ¬(a.f = f ∧ a.t = t) := by rw [← rateP_iff]; simp
def Srt (l : List LC) : Prop := l.Pairwise fun a b => lcLess a b = true
def lastM (f t : Int) (l : List LC) : LC := l.foldl (fun x y => if rateP f t y then y else x) (key f t)
theorem lastM_snoc (f t : Int) (l : List LC) (y : LC) : lastM f t (l ++ [y]) = if rateP f t y then y else lastM f t l := by simp [lastM]
theorem lastM_key (f t : Int) (l : List LC) : (lastM f t l).f = f ∧ (lastM f t l).t = t := by
  have : ∀ (l : List LC) (x : LC), x.f = f ∧ x.t = t → (l.foldl (fun x y => if rateP f t y then y else x) x).f = f ∧ (l.foldl (fun x y => if rateP f t y then y else x) x).t = t := by
    intro l
    induction l with
    | nil => exact fun x h => h
    | cons y r ih =>
      intro x h
      simp only [List.foldl_cons]
      apply ih
      split
      · rename_i h'; exact rateP_iff.1 h'
      · exact h
  exact this l _ ⟨rfl, rfl⟩
theorem foldl_no {f t : Int} : ∀ (l : List LC) (x : LC), (∀ y ∈ l, rateP f t y = false) → l.foldl (fun x y => if rateP f t y then y else x) x = x
  | [], x, _ => rfl
  | y :: r, x, h => by
    simp only [List.foldl_cons, h y (by simp), Bool.false_eq_true, if_false]
    exact foldl_no r x fun z hz => h z (by simp [hz])
theorem spec_ins (f t b : Int) : ∀ l : List LC, Srt l → l.filter (fun x => lcLess x (key f t)) ++ [bump (lastM f t l) b] ++ l.filter (fun z => lcLess (key f t) z) = ins f t b l
  | [], _ => by simp [ins, lastM]
  | y :: r, h => by
    obtain ⟨hy, hr⟩ := List.pairwise_cons.1 h
    have ih := spec_ins f t b r hr
    unfold ins
    split
    · rename_i h1
      have e1 : rateP f t y = false := less_key_iff h1
      have e2 : lcLess (key f t) y = false := by
        rw [lcLess_iff] at h1; rw [lcLess_nb]; simp only [key] at h1 ⊢; omega
      have e3 : lastM f t (y :: r) = lastM f t r := by simp [lastM, e1]
      rw [e3, ← ih]
      simp [h1, e2]
    · rename_i h1
      have h1' : lcLess y (key f t) = false := by simpa using h1
      rw [lcLess_nb] at h1'
      have hno : ∀ z ∈ r, lcLess z (key f t) = false ∧ lcLess (key f t) z = true ∧ rateP f t z = false := by
        intro z hz
        have := lcLess_iff.1 (hy z hz)
        rw [lcLess_nb, lcLess_iff, rateP_nb]
        simp only [key] at h1' ⊢
        omega
      have f1 : r.filter (fun x => lcLess x (key f t)) = [] := List.filter_eq_nil_iff.2 fun z hz => by simp [(hno z hz).1]
      have f2 : r.filter (fun z => lcLess (key f t) z) = r := List.filter_eq_self.2 fun z hz => (hno z hz).2.1
      have h1'' : lcLess y (key f t) = false := by simpa using h1
      split
      · rename_i h2
        have e3 : lastM f t (y :: r) = y := by
          simp only [lastM, List.foldl_cons, h2, if_true]
          exact foldl_no r y fun z hz => (hno z hz).2.2
        have e2 : lcLess (key f t) y = false := by
          rw [rateP_iff] at h2; rw [lcLess_nb]; simp only [key]; omega
        rw [e3]
        simp [h1'', f1, f2, e2]
      · rename_i h2
        have h2' : rateP f t y = false := by simpa using h2
        have e3 : lastM f t (y :: r) = key f t := by
          simp only [lastM, List.foldl_cons, h2', Bool.false_eq_true, if_false]
          exact foldl_no r _ fun z hz => (hno z hz).2.2
        have e2 : lcLess (key f t) y = true := by
          rw [rateP_nb] at h2'; rw [lcLess_iff]; simp only [key] at h1' ⊢; omega
        rw [e3]
        simp [h1'', f1, f2, e2]
theorem mem_ins {f t b : Int} : ∀ (l : List LC) (x : LC), x ∈ ins f t b l → (x.f = f ∧ x.t = t) ∨ ∃ y ∈ l, x.f = y.f ∧ x.t = y.t
  | [], x, h => by simp [ins] at h; subst h; exact .inl ⟨rfl, rfl⟩
  | y :: r, x, h => by
    unfold ins at h
    split at h
    · rcases List.mem_cons.1 h with rfl | h
      · exact .inr ⟨x, by simp, rfl, rfl⟩
      · rcases mem_ins r x h with h | ⟨z, hz, h⟩
        · exact .inl h
        · exact .inr ⟨z, by simp [hz], h⟩
    · split at h
      · rcases List.mem_cons.1 h with rfl | h
        · exact .inr ⟨y, by simp, rfl, rfl⟩
        · exact .inr ⟨x, by simp [h], rfl, rfl⟩
      · rcases List.mem_cons.1 h with rfl | h
        · exact .inl ⟨rfl, rfl⟩
        · exact .inr ⟨x, h, rfl, rfl⟩
theorem srt_ins (f t b : Int) : ∀ l : List LC, Srt l → Srt (ins f t b l)
  | [], _ => by simp [ins, Srt]
  | y :: r, h => by
    obtain ⟨hy, hr⟩ := List.pairwise_cons.1 h
    unfold ins
    split
    · rename_i h1
      refine List.pairwise_cons.2 ⟨fun x hx => ?_, srt_ins f t b r hr⟩
      rw [lcLess_iff] at h1 ⊢
      simp only [key] at h1
      rcases mem_ins r x hx with hx | ⟨z, hz, hx⟩
      · omega
      · have := lcLess_iff.1 (hy z hz); omega
    · rename_i h1
      have h1' : lcLess y (key f t) = false := by simpa using h1
      rw [lcLess_nb] at h1'
      simp only [key] at h1'
      split
      · refine List.pairwise_cons.2 ⟨fun x hx => ?_, hr⟩
        have := lcLess_iff.1 (hy x hx)
        rw [lcLess_iff]; simp only [bump]; exact this
      · rename_i h2
        have h2' : rateP f t y = false := by simpa using h2
        rw [rateP_nb] at h2'
        refine List.pairwise_cons.2 ⟨fun x hx => ?_, h⟩
        rw [lcLess_iff]
        simp only [bump, key]
        rcases List.mem_cons.1 hx with rfl | hx
        · omega
        · have := lcLess_iff.1 (hy x hx); omega
theorem srt_lv {l : List LC} (h : lv l = true) : Srt l := by
  have adj : ∀ j, (h : j + 1 < l.length) → lcLess l[j] l[j + 1] = true := fun j hj => by
    have := lv_at h hj
    rw [lvAt_pos hj (by omega)] at this
    simp only [Bool.and_eq_true] at this
    exact this.2
  refine List.pairwise_iff_getElem.2 fun i j hi hj hij => ?_
  obtain ⟨d, rfl⟩ : ∃ d, j = i + d + 1 := ⟨j - i - 1, by omega⟩
  clear hij
  induction d with
  | zero => exact adj i hj
  | succ d ih =>
    have h1 := lcLess_iff.1 (ih (by omega))
    have h2 := lcLess_iff.1 (adj (i + d + 1) (by omega))
    rw [lcLess_iff]
    have e : l[i + (d + 1) + 1] = l[i + d + 1 + 1] := rfl
    rw [e]; omega
theorem lastM_wf {c f t : Int} (hc : 0 ≤ c) {l : List LC} (h : WfN c l) : 0 ≤ (lastM f t l).s ∧ (lastM f t l).s ≤ c ∧ 0 ≤ (lastM f t l).b ∧ (lastM f t l).b ≤ c := by
  have : ∀ (l : List LC) (x : LC), WfN c l → 0 ≤ x.s ∧ x.s ≤ c ∧ 0 ≤ x.b ∧ x.b ≤ c → 0 ≤ (l.foldl (fun x y => if rateP f t y then y else x) x).s ∧ (l.foldl (fun x y => if rateP f t y then y else x) x).s ≤ c ∧ 0 ≤ (l.foldl (fun x y => if rateP f t y then y else x) x).b ∧ (l.foldl (fun x y => if rateP f t y then y else x) x).b ≤ c := by
    intro l
    induction l with
    | nil => exact fun x _ h => h
    | cons y r ih =>
      intro x hw hx
      simp only [List.foldl_cons]
      apply ih _ (fun z hz => hw z (by simp [hz]))
      split
      · have := hw y (by simp); omega
      · exact hx
  exact this l _ h (by simp [key]; omega)
def b2i (b : Bool) : Int := if b then 1 else 0
set_option maxHeartbeats 2000000 in
set_option maxRecDepth 100000 in
theorem l12Count_ac (tg : Nat) (l : List LC) (f t : Int) (b : Bool) (hl : l.length ≤ 2097152) (hw : WfN 1000 l) (hs : Srt l) : AC Try.prog 64 [.h (.c (.rd (tg + 1) l.length (lcs l))), .h (.c (.int .i64 f)), .h (.c (.int .i64 t)), .h (.c (.bool b))] [] [0]
    (fun r h => h = [.arr 40 4 (lcs (ins f t (b2i b) l))] ∧ r = .h (.sl 0 0 (ins f t (b2i b) l).length)) := by
  refine ac_body teok Try.func64 rfl (by kernel_rfl) Try.ntmps64 rfl rfl ?_
  intro w0 ps g0 im0
  repeat (first | refine p1 rfl rfl rfl rfl ?_ | refine al_end ?_ | refine awp_seq ?_ | refine awp_region ?_ | refine awp_block ?_ | refine awp_skip' ?_ | refine awp_ret' ?_ | refine awp_exit' ?_ | refine xt_sq_n ?_ | refine xt_bk_n ?_ | refine xt_sq_r ?_ | refine xt_bk_r ?_ | refine xt_sq_x ?_ | refine xt_bk_eq ?_ | refine xt_bk_ne rfl ?_ | refine p0 rfl rfl rfl ?_ | refine p0n rfl rfl ?_ | refine pAr rfl rfl rfl rfl rfl rfl rfl (by omega) (by omega) ?_ | refine pBuild rfl rfl rfl rfl rfl rfl ?_ | refine pE (eAlloc rfl rfl rfl rfl) rfl ?_ | refine pE (eBox rfl rfl rfl rfl rfl) rfl ?_ | refine pE (eSt rfl rfl rfl rfl rfl rfl rfl rfl rfl) rfl ?_ | refine pE (eBs rfl rfl rfl rfl rfl rfl rfl rfl rfl) rfl ?_)
  refine awp_loopE (fun k : Nat => { fr := [(0, .h (.c (.rd (tg + 1) l.length (lcs l)))), (1, .h (.c (.int .i64 f))), (2, .h (.c (.int .i64 t))), (3, .h (.c (.bool b))), (9, .h (.ptr 1 0)), (10, .h (.sl 0 0 ((l.take k).filter (fun x => lcLess x (key f t))).length)), (11, .h (.c (.int .i64 k)))], hp := [(0, .arr 40 4 (lcs ((l.take k).filter (fun x => lcLess x (key f t))))), (1, .box 40 ((lcc (key f t)).map HV.c))], nx := 2 })
    (fun n k => k ≤ l.length ∧ n = l.length - k) l.length 0 [(0, 1), (1, 0)] ⟨rfl, rfl, rfl, by repeat (first | exact trivial | refine ⟨rfl, ?_⟩), by repeat (first | exact trivial | refine ⟨rfl, ?_⟩)⟩ ⟨Nat.zero_le _, rfl⟩ ?_
  rintro n k ⟨hk, rfl⟩
  repeat' (first | refine p1 rfl rfl rfl rfl ?_ | refine al_end ?_ | refine awp_seq ?_ | refine awp_region ?_ | refine awp_block ?_ | refine awp_skip' ?_ | refine awp_ret' ?_ | refine awp_exit' ?_ | refine xt_sq_n ?_ | refine xt_bk_n ?_ | refine xt_sq_r ?_ | refine xt_bk_r ?_ | refine xt_sq_x ?_ | refine xt_bk_eq ?_ | refine xt_bk_ne rfl ?_ | refine p0 rfl rfl rfl ?_ | refine p0n rfl rfl ?_ | refine pAr rfl rfl rfl rfl rfl rfl rfl (by omega) (by omega) ?_ | refine pBuild rfl rfl rfl rfl rfl rfl ?_ | refine pE (eAlloc rfl rfl rfl rfl) rfl ?_ | refine pE (eBox rfl rfl rfl rfl rfl) rfl ?_ | refine pE (eSt rfl rfl rfl rfl rfl rfl rfl rfl rfl) rfl ?_ | refine pE (eBs rfl rfl rfl rfl rfl rfl rfl rfl rfl) rfl ?_ | refine awp_cond (b := true) rfl (fun _ => ?_) (fun h => Bool.noConfusion h) | refine awp_cond (b := false) rfl (fun h => Bool.noConfusion h) (fun _ => ?_) | ((fail_if_success refine pG (b := true) rfl rfl ?_ ?_); (fail_if_success refine pG (b := false) rfl rfl ?_ ?_); (refine pG rfl rfl (fun hc => ?_) (fun hc => ?_)) <;> try simp at hc) | ((refine awp_cond rfl (fun hc => ?_) (fun hc => ?_)) <;> try simp at hc))
  · have hk' : k < l.length := by omega
    have hfs : (l.take (k + 1)).filter (fun x => lcLess x (key f t)) = (l.take k).filter (fun x => lcLess x (key f t)) ++ if lcLess l[k] (key f t) then [l[k]] else [] := filter_step _ hk'
    have hfl : ((l.take k).filter (fun x => lcLess x (key f t))).length ≤ 2097152 := Nat.le_trans (List.length_filter_le _ _) (by simp; omega)
    ((repeat (first | refine awp_seq ?_ | refine awp_block ?_ | refine awp_skip' ?_ | refine xt_sq_n ?_ | refine xt_bk_n ?_)); refine awp_draw (CT.cons (0, true) <| CT.cons (1, true) <| CT.cons (2, true) <| CT.cons (3, true) <| CT.cons (4, true) <| CT.cons (5, false) <| CT.nil) [] mixed (by kernel_rfl) (by kernel_rfl) rfl rfl ?_)
    repeat' (first | refine d1 rfl rfl rfl rfl rfl ?_ | refine dBuild rfl rfl rfl rfl rfl rfl rfl ?_ | refine d0 rfl rfl rfl rfl ?_ | refine d0n rfl rfl rfl ?_ | refine dE rfl (eAlloc rfl rfl rfl rfl) rfl rfl rfl ?_ | refine dE rfl (eBox rfl rfl rfl rfl rfl) rfl rfl rfl ?_ | refine dE rfl (eSt rfl rfl rfl rfl rfl rfl rfl rfl rfl) rfl rfl rfl ?_ | refine dE rfl (eBs rfl rfl rfl rfl rfl rfl rfl rfl rfl) rfl rfl rfl ?_ | refine d2 rfl rfl rfl rfl rfl ?_ | refine ah_nil ?_ | refine dAr rfl rfl rfl rfl rfl rfl rfl rfl (by omega) (by omega) ?_ | ((fail_if_success refine dG (b := true) rfl rfl rfl ?_ ?_); (fail_if_success refine dG (b := false) rfl rfl rfl ?_ ?_); (refine dG rfl rfl rfl (fun hc => ?_) (fun hc => ?_)) <;> try simp at hc))
    refine dIxR (f := lcc) k rfl rfl rfl rfl rfl rfl rfl rfl rfl rfl (fun _ => rfl) rfl rfl hk' ?_
    repeat' (first | refine d1 rfl rfl rfl rfl rfl ?_ | refine dBuild rfl rfl rfl rfl rfl rfl rfl ?_ | refine d0 rfl rfl rfl rfl ?_ | refine d0n rfl rfl rfl ?_ | refine dE rfl (eAlloc rfl rfl rfl rfl) rfl rfl rfl ?_ | refine dE rfl (eBox rfl rfl rfl rfl rfl) rfl rfl rfl ?_ | refine dE rfl (eSt rfl rfl rfl rfl rfl rfl rfl rfl rfl) rfl rfl rfl ?_ | refine dE rfl (eBs rfl rfl rfl rfl rfl rfl rfl rfl rfl) rfl rfl rfl ?_ | refine d2 rfl rfl rfl rfl rfl ?_ | refine ah_nil ?_ | refine dAr rfl rfl rfl rfl rfl rfl rfl rfl (by omega) (by omega) ?_ | ((fail_if_success refine dG (b := true) rfl rfl rfl ?_ ?_); (fail_if_success refine dG (b := false) rfl rfl rfl ?_ ?_); (refine dG rfl rfl rfl (fun hc => ?_) (fun hc => ?_)) <;> try simp at hc) | refine dC1 (l12Less_ac _ _) rfl rfl rfl rfl rfl rfl rfl rfl (by decide) ?_)
    repeat (first | refine p1 rfl rfl rfl rfl ?_ | refine al_end ?_ | refine awp_seq ?_ | refine awp_region ?_ | refine awp_block ?_ | refine awp_skip' ?_ | refine awp_ret' ?_ | refine awp_exit' ?_ | refine xt_sq_n ?_ | refine xt_bk_n ?_ | refine xt_sq_r ?_ | refine xt_bk_r ?_ | refine xt_sq_x ?_ | refine xt_bk_eq ?_ | refine xt_bk_ne rfl ?_ | refine p0 rfl rfl rfl ?_ | refine p0n rfl rfl ?_ | refine pAr rfl rfl rfl rfl rfl rfl rfl (by omega) (by omega) ?_ | refine pBuild rfl rfl rfl rfl rfl rfl ?_ | refine pE (eAlloc rfl rfl rfl rfl) rfl ?_ | refine pE (eBox rfl rfl rfl rfl rfl) rfl ?_ | refine pE (eSt rfl rfl rfl rfl rfl rfl rfl rfl rfl) rfl ?_ | refine pE (eBs rfl rfl rfl rfl rfl rfl rfl rfl rfl) rfl ?_)
    refine awp_cond rfl (fun hc => ?_) (fun hc => ?_)
    · rw [hc, if_pos rfl] at hfs
      repeat (first | refine p1 rfl rfl rfl rfl ?_ | refine al_end ?_ | refine awp_seq ?_ | refine awp_region ?_ | refine awp_block ?_ | refine awp_skip' ?_ | refine awp_ret' ?_ | refine awp_exit' ?_ | refine xt_sq_n ?_ | refine xt_bk_n ?_ | refine xt_sq_r ?_ | refine xt_bk_r ?_ | refine xt_sq_x ?_ | refine xt_bk_eq ?_ | refine xt_bk_ne rfl ?_ | refine p0 rfl rfl rfl ?_ | refine p0n rfl rfl ?_ | refine pAr rfl rfl rfl rfl rfl rfl rfl (by omega) (by omega) ?_ | refine pBuild rfl rfl rfl rfl rfl rfl ?_ | refine pE (eAlloc rfl rfl rfl rfl) rfl ?_ | refine pE (eBox rfl rfl rfl rfl rfl) rfl ?_ | refine pE (eSt rfl rfl rfl rfl rfl rfl rfl rfl rfl) rfl ?_ | refine pE (eBs rfl rfl rfl rfl rfl rfl rfl rfl rfl) rfl ?_)
      refine pIxR (f := lcc) k rfl rfl rfl rfl rfl rfl rfl rfl rfl (fun _ => rfl) rfl rfl hk' ?_
      repeat (first | refine p1 rfl rfl rfl rfl ?_ | refine al_end ?_ | refine awp_seq ?_ | refine awp_region ?_ | refine awp_block ?_ | refine awp_skip' ?_ | refine awp_ret' ?_ | refine awp_exit' ?_ | refine xt_sq_n ?_ | refine xt_bk_n ?_ | refine xt_sq_r ?_ | refine xt_bk_r ?_ | refine xt_sq_x ?_ | refine xt_bk_eq ?_ | refine xt_bk_ne rfl ?_ | refine p0 rfl rfl rfl ?_ | refine p0n rfl rfl ?_ | refine pAr rfl rfl rfl rfl rfl rfl rfl (by omega) (by omega) ?_ | refine pBuild rfl rfl rfl rfl rfl rfl ?_ | refine pE (eAlloc rfl rfl rfl rfl) rfl ?_ | refine pE (eBox rfl rfl rfl rfl rfl) rfl ?_ | refine pE (eSt rfl rfl rfl rfl rfl rfl rfl rfl rfl) rfl ?_ | refine pE (eBs rfl rfl rfl rfl rfl rfl rfl rfl rfl) rfl ?_)
      refine pAp1 (f := lcc) l[k] rfl rfl rfl rfl rfl rfl rfl rfl rfl rfl rfl rfl (fun _ => rfl) rfl (by omega) rfl ?_
      repeat (first | refine p1 rfl rfl rfl rfl ?_ | refine al_end ?_ | refine awp_seq ?_ | refine awp_region ?_ | refine awp_block ?_ | refine awp_skip' ?_ | refine awp_ret' ?_ | refine awp_exit' ?_ | refine xt_sq_n ?_ | refine xt_bk_n ?_ | refine xt_sq_r ?_ | refine xt_bk_r ?_ | refine xt_sq_x ?_ | refine xt_bk_eq ?_ | refine xt_bk_ne rfl ?_ | refine p0 rfl rfl rfl ?_ | refine p0n rfl rfl ?_ | refine pAr rfl rfl rfl rfl rfl rfl rfl (by omega) (by omega) ?_ | refine pBuild rfl rfl rfl rfl rfl rfl ?_ | refine pE (eAlloc rfl rfl rfl rfl) rfl ?_ | refine pE (eBox rfl rfl rfl rfl rfl) rfl ?_ | refine pE (eSt rfl rfl rfl rfl rfl rfl rfl rfl rfl) rfl ?_ | refine pE (eBs rfl rfl rfl rfl rfl rfl rfl rfl rfl) rfl ?_)
      refine lp_end (l.length - (k + 1)) (k + 1) [(0, 3), (1, 1)] (by omega) ?_ ⟨hk', rfl⟩
      rw [hfs, List.length_append]
      exact ⟨rfl, rfl, rfl, by repeat (first | exact trivial | refine ⟨rfl, ?_⟩), by repeat (first | exact trivial | refine ⟨rfl, ?_⟩)⟩
    · rw [hc, if_neg (by simp), List.append_nil] at hfs
      repeat (first | refine p1 rfl rfl rfl rfl ?_ | refine al_end ?_ | refine awp_seq ?_ | refine awp_region ?_ | refine awp_block ?_ | refine awp_skip' ?_ | refine awp_ret' ?_ | refine awp_exit' ?_ | refine xt_sq_n ?_ | refine xt_bk_n ?_ | refine xt_sq_r ?_ | refine xt_bk_r ?_ | refine xt_sq_x ?_ | refine xt_bk_eq ?_ | refine xt_bk_ne rfl ?_ | refine p0 rfl rfl rfl ?_ | refine p0n rfl rfl ?_ | refine pAr rfl rfl rfl rfl rfl rfl rfl (by omega) (by omega) ?_ | refine pBuild rfl rfl rfl rfl rfl rfl ?_ | refine pE (eAlloc rfl rfl rfl rfl) rfl ?_ | refine pE (eBox rfl rfl rfl rfl rfl) rfl ?_ | refine pE (eSt rfl rfl rfl rfl rfl rfl rfl rfl rfl) rfl ?_ | refine pE (eBs rfl rfl rfl rfl rfl rfl rfl rfl rfl) rfl ?_)
      refine lp_end (l.length - (k + 1)) (k + 1) [(0, 0), (1, 1)] (by omega) ?_ ⟨hk', rfl⟩
      rw [hfs]
      exact ⟨rfl, rfl, rfl, by repeat (first | exact trivial | refine ⟨rfl, ?_⟩), by repeat (first | exact trivial | refine ⟨rfl, ?_⟩)⟩
  · have hk' : k = l.length := by omega
    subst hk'
    rw [List.take_length]
    have hF : (l.filter (fun x => lcLess x (key f t))).length ≤ 2097152 := Nat.le_trans (List.length_filter_le _ _) (by omega)
    refine awp_loopE (fun k : Nat => { fr := [(0, .h (.c (.rd (tg + 1) l.length (lcs l)))), (1, .h (.c (.int .i64 f))), (2, .h (.c (.int .i64 t))), (3, .h (.c (.bool b))), (9, .h (.ptr 1 0)), (10, .h (.sl 0 0 (l.filter (fun x => lcLess x (key f t))).length)), (12, .h (.c (.int .i64 k)))], hp := [(0, .arr 40 4 (lcs (l.filter (fun x => lcLess x (key f t))))), (1, .box 40 ((lcc (lastM f t (l.take k))).map HV.c))], nx := 2 })
      (fun n k => k ≤ l.length ∧ n = l.length - k) l.length 0 [(0, 0), (1, 1)] ⟨rfl, rfl, rfl, by repeat (first | exact trivial | refine ⟨rfl, ?_⟩), by repeat (first | exact trivial | refine ⟨rfl, ?_⟩)⟩ ⟨Nat.zero_le _, rfl⟩ ?_
    rintro n k ⟨hk, rfl⟩
    repeat' (first | refine p1 rfl rfl rfl rfl ?_ | refine al_end ?_ | refine awp_seq ?_ | refine awp_region ?_ | refine awp_block ?_ | refine awp_skip' ?_ | refine awp_ret' ?_ | refine awp_exit' ?_ | refine xt_sq_n ?_ | refine xt_bk_n ?_ | refine xt_sq_r ?_ | refine xt_bk_r ?_ | refine xt_sq_x ?_ | refine xt_bk_eq ?_ | refine xt_bk_ne rfl ?_ | refine p0 rfl rfl rfl ?_ | refine p0n rfl rfl ?_ | refine pAr rfl rfl rfl rfl rfl rfl rfl (by omega) (by omega) ?_ | refine pBuild rfl rfl rfl rfl rfl rfl ?_ | refine pE (eAlloc rfl rfl rfl rfl) rfl ?_ | refine pE (eBox rfl rfl rfl rfl rfl) rfl ?_ | refine pE (eSt rfl rfl rfl rfl rfl rfl rfl rfl rfl) rfl ?_ | refine pE (eBs rfl rfl rfl rfl rfl rfl rfl rfl rfl) rfl ?_ | refine awp_cond (b := true) rfl (fun _ => ?_) (fun h => Bool.noConfusion h) | refine awp_cond (b := false) rfl (fun h => Bool.noConfusion h) (fun _ => ?_) | ((fail_if_success refine pG (b := true) rfl rfl ?_ ?_); (fail_if_success refine pG (b := false) rfl rfl ?_ ?_); (refine pG rfl rfl (fun hc => ?_) (fun hc => ?_)) <;> try simp at hc) | ((refine awp_cond rfl (fun hc => ?_) (fun hc => ?_)) <;> try simp at hc))
    · have hk' : k < l.length := by omega
      have hls := lastM_snoc f t (l.take k) l[k]
      rw [← List.take_succ_eq_append_getElem hk'] at hls
      refine pIxR (f := lcc) k rfl rfl rfl rfl rfl rfl rfl rfl rfl (fun _ => rfl) rfl rfl hk' ?_
      repeat' (first | refine p1 rfl rfl rfl rfl ?_ | refine al_end ?_ | refine awp_seq ?_ | refine awp_region ?_ | refine awp_block ?_ | refine awp_skip' ?_ | refine awp_ret' ?_ | refine awp_exit' ?_ | refine xt_sq_n ?_ | refine xt_bk_n ?_ | refine xt_sq_r ?_ | refine xt_bk_r ?_ | refine xt_sq_x ?_ | refine xt_bk_eq ?_ | refine xt_bk_ne rfl ?_ | refine p0 rfl rfl rfl ?_ | refine p0n rfl rfl ?_ | refine pAr rfl rfl rfl rfl rfl rfl rfl (by omega) (by omega) ?_ | refine pBuild rfl rfl rfl rfl rfl rfl ?_ | refine pE (eAlloc rfl rfl rfl rfl) rfl ?_ | refine pE (eBox rfl rfl rfl rfl rfl) rfl ?_ | refine pE (eSt rfl rfl rfl rfl rfl rfl rfl rfl rfl) rfl ?_ | refine pE (eBs rfl rfl rfl rfl rfl rfl rfl rfl rfl) rfl ?_ | refine awp_cond (b := true) rfl (fun _ => ?_) (fun h => Bool.noConfusion h) | refine awp_cond (b := false) rfl (fun h => Bool.noConfusion h) (fun _ => ?_) | ((fail_if_success refine pG (b := true) rfl rfl ?_ ?_); (fail_if_success refine pG (b := false) rfl rfl ?_ ?_); (refine pG rfl rfl (fun hc => ?_) (fun hc => ?_)) <;> try simp at hc) | ((refine awp_cond rfl (fun hc => ?_) (fun hc => ?_)) <;> try simp at hc))
      · refine pIxR (f := lcc) k rfl rfl rfl rfl rfl rfl rfl rfl rfl (fun _ => rfl) rfl rfl hk' ?_
        repeat' (first | refine p1 rfl rfl rfl rfl ?_ | refine al_end ?_ | refine awp_seq ?_ | refine awp_region ?_ | refine awp_block ?_ | refine awp_skip' ?_ | refine awp_ret' ?_ | refine awp_exit' ?_ | refine xt_sq_n ?_ | refine xt_bk_n ?_ | refine xt_sq_r ?_ | refine xt_bk_r ?_ | refine xt_sq_x ?_ | refine xt_bk_eq ?_ | refine xt_bk_ne rfl ?_ | refine p0 rfl rfl rfl ?_ | refine p0n rfl rfl ?_ | refine pAr rfl rfl rfl rfl rfl rfl rfl (by omega) (by omega) ?_ | refine pBuild rfl rfl rfl rfl rfl rfl ?_ | refine pE (eAlloc rfl rfl rfl rfl) rfl ?_ | refine pE (eBox rfl rfl rfl rfl rfl) rfl ?_ | refine pE (eSt rfl rfl rfl rfl rfl rfl rfl rfl rfl) rfl ?_ | refine pE (eBs rfl rfl rfl rfl rfl rfl rfl rfl rfl) rfl ?_ | refine awp_cond (b := true) rfl (fun _ => ?_) (fun h => Bool.noConfusion h) | refine awp_cond (b := false) rfl (fun h => Bool.noConfusion h) (fun _ => ?_) | ((fail_if_success refine pG (b := true) rfl rfl ?_ ?_); (fail_if_success refine pG (b := false) rfl rfl ?_ ?_); (refine pG rfl rfl (fun hc => ?_) (fun hc => ?_)) <;> try simp at hc) | ((refine awp_cond rfl (fun hc => ?_) (fun hc => ?_)) <;> try simp at hc))
        · refine pIxR (f := lcc) k rfl rfl rfl rfl rfl rfl rfl rfl rfl (fun _ => rfl) rfl rfl hk' ?_
          repeat (first | refine p1 rfl rfl rfl rfl ?_ | refine al_end ?_ | refine awp_seq ?_ | refine awp_region ?_ | refine awp_block ?_ | refine awp_skip' ?_ | refine awp_ret' ?_ | refine awp_exit' ?_ | refine xt_sq_n ?_ | refine xt_bk_n ?_ | refine xt_sq_r ?_ | refine xt_bk_r ?_ | refine xt_sq_x ?_ | refine xt_bk_eq ?_ | refine xt_bk_ne rfl ?_ | refine p0 rfl rfl rfl ?_ | refine p0n rfl rfl ?_ | refine pAr rfl rfl rfl rfl rfl rfl rfl (by omega) (by omega) ?_ | refine pBuild rfl rfl rfl rfl rfl rfl ?_ | refine pE (eAlloc rfl rfl rfl rfl) rfl ?_ | refine pE (eBox rfl rfl rfl rfl rfl) rfl ?_ | refine pE (eSt rfl rfl rfl rfl rfl rfl rfl rfl rfl) rfl ?_ | refine pE (eBs rfl rfl rfl rfl rfl rfl rfl rfl rfl) rfl ?_)
          rw [if_pos (rateP_iff.2 ⟨by assumption, by assumption⟩)] at hls
          refine lp_end (l.length - (k + 1)) (k + 1) [(0, 0), (1, 1)] (by omega) ?_ ⟨hk', rfl⟩
          rw [hls]
          exact ⟨rfl, rfl, rfl, by repeat (first | exact trivial | refine ⟨rfl, ?_⟩), by repeat (first | exact trivial | refine ⟨rfl, ?_⟩)⟩
        · rw [if_neg (by simp [rateP, *])] at hls
          refine lp_end (l.length - (k + 1)) (k + 1) [(0, 0), (1, 1)] (by omega) ?_ ⟨hk', rfl⟩
          rw [hls]
          exact ⟨rfl, rfl, rfl, by repeat (first | exact trivial | refine ⟨rfl, ?_⟩), by repeat (first | exact trivial | refine ⟨rfl, ?_⟩)⟩
      · rw [if_neg (by simp [rateP, *])] at hls
        refine lp_end (l.length - (k + 1)) (k + 1) [(0, 0), (1, 1)] (by omega) ?_ ⟨hk', rfl⟩
        rw [hls]
        exact ⟨rfl, rfl, rfl, by repeat (first | exact trivial | refine ⟨rfl, ?_⟩), by repeat (first | exact trivial | refine ⟨rfl, ?_⟩)⟩
    · have hk' : k = l.length := by omega
      subst hk'
      rw [List.take_length]
      have hyw := lastM_wf (f := f) (t := t) (by omega) hw
      cases b
      · have hb : bump (lastM f t l) (b2i false) = ⟨(lastM f t l).f, (lastM f t l).t, (lastM f t l).s + 1, (lastM f t l).b⟩ := by simp [bump, b2i]
        have hA : ∀ z, lcLess (⟨(lastM f t l).f, (lastM f t l).t, (lastM f t l).s + 1, (lastM f t l).b⟩ : LC) z = lcLess (key f t) z := fun z => by
          have := lastM_key f t l
          rw [Bool.eq_iff_iff, lcLess_iff, lcLess_iff]
          show ((lastM f t l).f < z.f ∨ ((lastM f t l).f = z.f ∧ (lastM f t l).t < z.t)) ↔ (f < z.f ∨ (f = z.f ∧ t < z.t))
          rw [this.1, this.2]
        have hsp := spec_ins f t (b2i false) l hs
        rw [hb] at hsp
        repeat' (first | refine p1 rfl rfl rfl rfl ?_ | refine al_end ?_ | refine awp_seq ?_ | refine awp_region ?_ | refine awp_block ?_ | refine awp_skip' ?_ | refine awp_ret' ?_ | refine awp_exit' ?_ | refine xt_sq_n ?_ | refine xt_bk_n ?_ | refine xt_sq_r ?_ | refine xt_bk_r ?_ | refine xt_sq_x ?_ | refine xt_bk_eq ?_ | refine xt_bk_ne rfl ?_ | refine p0 rfl rfl rfl ?_ | refine p0n rfl rfl ?_ | refine pAr rfl rfl rfl rfl rfl rfl rfl (by omega) (by omega) ?_ | refine pBuild rfl rfl rfl rfl rfl rfl ?_ | refine pE (eAlloc rfl rfl rfl rfl) rfl ?_ | refine pE (eBox rfl rfl rfl rfl rfl) rfl ?_ | refine pE (eSt rfl rfl rfl rfl rfl rfl rfl rfl rfl) rfl ?_ | refine pE (eBs rfl rfl rfl rfl rfl rfl rfl rfl rfl) rfl ?_ | refine awp_cond (b := true) rfl (fun _ => ?_) (fun h => Bool.noConfusion h) | refine awp_cond (b := false) rfl (fun h => Bool.noConfusion h) (fun _ => ?_) | ((fail_if_success refine pG (b := true) rfl rfl ?_ ?_); (fail_if_success refine pG (b := false) rfl rfl ?_ ?_); (refine pG rfl rfl (fun hc => ?_) (fun hc => ?_)) <;> try simp at hc) | ((refine awp_cond rfl (fun hc => ?_) (fun hc => ?_)) <;> try simp at hc))
        refine pAp1 (f := lcc) (L := l.filter (fun x => lcLess x (key f t))) ⟨(lastM f t l).f, (lastM f t l).t, (lastM f t l).s + 1, (lastM f t l).b⟩ rfl rfl rfl rfl rfl rfl rfl rfl rfl rfl rfl rfl (fun _ => rfl) rfl (by omega) rfl ?_
        repeat (first | refine p1 rfl rfl rfl rfl ?_ | refine al_end ?_ | refine awp_seq ?_ | refine awp_region ?_ | refine awp_block ?_ | refine awp_skip' ?_ | refine awp_ret' ?_ | refine awp_exit' ?_ | refine xt_sq_n ?_ | refine xt_bk_n ?_ | refine xt_sq_r ?_ | refine xt_bk_r ?_ | refine xt_sq_x ?_ | refine xt_bk_eq ?_ | refine xt_bk_ne rfl ?_ | refine p0 rfl rfl rfl ?_ | refine p0n rfl rfl ?_ | refine pAr rfl rfl rfl rfl rfl rfl rfl (by omega) (by omega) ?_ | refine pBuild rfl rfl rfl rfl rfl rfl ?_ | refine pE (eAlloc rfl rfl rfl rfl) rfl ?_ | refine pE (eBox rfl rfl rfl rfl rfl) rfl ?_ | refine pE (eSt rfl rfl rfl rfl rfl rfl rfl rfl rfl) rfl ?_ | refine pE (eBs rfl rfl rfl rfl rfl rfl rfl rfl rfl) rfl ?_)
        refine awp_loopE (fun k : Nat => { fr := [(0, .h (.c (.rd (tg + 1) l.length (lcs l)))), (9, .h (.ptr 1 0)), (10, .h (.sl 0 0 (l.filter (fun x => lcLess x (key f t)) ++ [(⟨(lastM f t l).f, (lastM f t l).t, (lastM f t l).s + 1, (lastM f t l).b⟩ : LC)] ++ (l.take k).filter (fun z => lcLess (key f t) z)).length)), (13, .h (.c (.int .i64 k)))], hp := [(0, .arr 40 4 (lcs (l.filter (fun x => lcLess x (key f t)) ++ [(⟨(lastM f t l).f, (lastM f t l).t, (lastM f t l).s + 1, (lastM f t l).b⟩ : LC)] ++ (l.take k).filter (fun z => lcLess (key f t) z)))), (1, .box 40 ((lcc ⟨(lastM f t l).f, (lastM f t l).t, (lastM f t l).s + 1, (lastM f t l).b⟩).map HV.c))], nx := 2 })
          (fun n k => k ≤ l.length ∧ n = l.length - k) l.length 0 [(0, 3), (1, 1)] (by rw [List.take_zero, List.filter_nil, List.append_nil, List.length_append]; exact ⟨rfl, rfl, rfl, by repeat (first | exact trivial | refine ⟨rfl, ?_⟩), by repeat (first | exact trivial | refine ⟨rfl, ?_⟩)⟩) ⟨Nat.zero_le _, rfl⟩ ?_
        rintro n k ⟨hk, rfl⟩
        repeat' (first | refine p1 rfl rfl rfl rfl ?_ | refine al_end ?_ | refine awp_seq ?_ | refine awp_region ?_ | refine awp_block ?_ | refine awp_skip' ?_ | refine awp_ret' ?_ | refine awp_exit' ?_ | refine xt_sq_n ?_ | refine xt_bk_n ?_ | refine xt_sq_r ?_ | refine xt_bk_r ?_ | refine xt_sq_x ?_ | refine xt_bk_eq ?_ | refine xt_bk_ne rfl ?_ | refine p0 rfl rfl rfl ?_ | refine p0n rfl rfl ?_ | refine pAr rfl rfl rfl rfl rfl rfl rfl (by omega) (by omega) ?_ | refine pBuild rfl rfl rfl rfl rfl rfl ?_ | refine pE (eAlloc rfl rfl rfl rfl) rfl ?_ | refine pE (eBox rfl rfl rfl rfl rfl) rfl ?_ | refine pE (eSt rfl rfl rfl rfl rfl rfl rfl rfl rfl) rfl ?_ | refine pE (eBs rfl rfl rfl rfl rfl rfl rfl rfl rfl) rfl ?_ | refine awp_cond (b := true) rfl (fun _ => ?_) (fun h => Bool.noConfusion h) | refine awp_cond (b := false) rfl (fun h => Bool.noConfusion h) (fun _ => ?_) | ((fail_if_success refine pG (b := true) rfl rfl ?_ ?_); (fail_if_success refine pG (b := false) rfl rfl ?_ ?_); (refine pG rfl rfl (fun hc => ?_) (fun hc => ?_)) <;> try simp at hc) | ((refine awp_cond rfl (fun hc => ?_) (fun hc => ?_)) <;> try simp at hc))
        · have hk' : k < l.length := by omega
          have hfs : (l.take (k + 1)).filter (fun z => lcLess (key f t) z) = (l.take k).filter (fun z => lcLess (key f t) z) ++ if lcLess (key f t) l[k] then [l[k]] else [] := filter_step _ hk'
          have hfl : (l.filter (fun x => lcLess x (key f t)) ++ [(⟨(lastM f t l).f, (lastM f t l).t, (lastM f t l).s + 1, (lastM f t l).b⟩ : LC)] ++ (l.take k).filter (fun z => lcLess (key f t) z)).length ≤ 5000000 := by
            have := List.length_filter_le (fun z => lcLess (key f t) z) (l.take k)
            simp only [List.length_append, List.length_take, List.length_singleton] at this ⊢
            omega
          ((repeat (first | refine awp_seq ?_ | refine awp_block ?_ | refine awp_skip' ?_ | refine xt_sq_n ?_ | refine xt_bk_n ?_)); refine awp_draw (CT.cons (0, true) <| CT.cons (1, true) <| CT.cons (2, true) <| CT.cons (3, true) <| CT.cons (4, true) <| CT.cons (5, false) <| CT.nil) [] mixed (by kernel_rfl) (by kernel_rfl) rfl rfl ?_)
          repeat' (first | refine d1 rfl rfl rfl rfl rfl ?_ | refine dBuild rfl rfl rfl rfl rfl rfl rfl ?_ | refine d0 rfl rfl rfl rfl ?_ | refine d0n rfl rfl rfl ?_ | refine dE rfl (eAlloc rfl rfl rfl rfl) rfl rfl rfl ?_ | refine dE rfl (eBox rfl rfl rfl rfl rfl) rfl rfl rfl ?_ | refine dE rfl (eSt rfl rfl rfl rfl rfl rfl rfl rfl rfl) rfl rfl rfl ?_ | refine dE rfl (eBs rfl rfl rfl rfl rfl rfl rfl rfl rfl) rfl rfl rfl ?_ | refine d2 rfl rfl rfl rfl rfl ?_ | refine ah_nil ?_ | refine dAr rfl rfl rfl rfl rfl rfl rfl rfl (by omega) (by omega) ?_ | ((fail_if_success refine dG (b := true) rfl rfl rfl ?_ ?_); (fail_if_success refine dG (b := false) rfl rfl rfl ?_ ?_); (refine dG rfl rfl rfl (fun hc => ?_) (fun hc => ?_)) <;> try simp at hc))
          refine dIxR (f := lcc) k rfl rfl rfl rfl rfl rfl rfl rfl rfl rfl (fun _ => rfl) rfl rfl hk' ?_
          repeat' (first | refine d1 rfl rfl rfl rfl rfl ?_ | refine dBuild rfl rfl rfl rfl rfl rfl rfl ?_ | refine d0 rfl rfl rfl rfl ?_ | refine d0n rfl rfl rfl ?_ | refine dE rfl (eAlloc rfl rfl rfl rfl) rfl rfl rfl ?_ | refine dE rfl (eBox rfl rfl rfl rfl rfl) rfl rfl rfl ?_ | refine dE rfl (eSt rfl rfl rfl rfl rfl rfl rfl rfl rfl) rfl rfl rfl ?_ | refine dE rfl (eBs rfl rfl rfl rfl rfl rfl rfl rfl rfl) rfl rfl rfl ?_ | refine d2 rfl rfl rfl rfl rfl ?_ | refine ah_nil ?_ | refine dAr rfl rfl rfl rfl rfl rfl rfl rfl (by omega) (by omega) ?_ | ((fail_if_success refine dG (b := true) rfl rfl rfl ?_ ?_); (fail_if_success refine dG (b := false) rfl rfl rfl ?_ ?_); (refine dG rfl rfl rfl (fun hc => ?_) (fun hc => ?_)) <;> try simp at hc) | refine dC1 (l12Less_ac ⟨(lastM f t l).f, (lastM f t l).t, (lastM f t l).s + 1, (lastM f t l).b⟩ _) rfl rfl rfl rfl rfl rfl rfl rfl (by decide) ?_)
          repeat (first | refine p1 rfl rfl rfl rfl ?_ | refine al_end ?_ | refine awp_seq ?_ | refine awp_region ?_ | refine awp_block ?_ | refine awp_skip' ?_ | refine awp_ret' ?_ | refine awp_exit' ?_ | refine xt_sq_n ?_ | refine xt_bk_n ?_ | refine xt_sq_r ?_ | refine xt_bk_r ?_ | refine xt_sq_x ?_ | refine xt_bk_eq ?_ | refine xt_bk_ne rfl ?_ | refine p0 rfl rfl rfl ?_ | refine p0n rfl rfl ?_ | refine pAr rfl rfl rfl rfl rfl rfl rfl (by omega) (by omega) ?_ | refine pBuild rfl rfl rfl rfl rfl rfl ?_ | refine pE (eAlloc rfl rfl rfl rfl) rfl ?_ | refine pE (eBox rfl rfl rfl rfl rfl) rfl ?_ | refine pE (eSt rfl rfl rfl rfl rfl rfl rfl rfl rfl) rfl ?_ | refine pE (eBs rfl rfl rfl rfl rfl rfl rfl rfl rfl) rfl ?_)
          refine awp_cond rfl (fun hc => ?_) (fun hc => ?_)
          · rw [hA] at hc
            rw [hc, if_pos rfl] at hfs
            repeat (first | refine p1 rfl rfl rfl rfl ?_ | refine al_end ?_ | refine awp_seq ?_ | refine awp_region ?_ | refine awp_block ?_ | refine awp_skip' ?_ | refine awp_ret' ?_ | refine awp_exit' ?_ | refine xt_sq_n ?_ | refine xt_bk_n ?_ | refine xt_sq_r ?_ | refine xt_bk_r ?_ | refine xt_sq_x ?_ | refine xt_bk_eq ?_ | refine xt_bk_ne rfl ?_ | refine p0 rfl rfl rfl ?_ | refine p0n rfl rfl ?_ | refine pAr rfl rfl rfl rfl rfl rfl rfl (by omega) (by omega) ?_ | refine pBuild rfl rfl rfl rfl rfl rfl ?_ | refine pE (eAlloc rfl rfl rfl rfl) rfl ?_ | refine pE (eBox rfl rfl rfl rfl rfl) rfl ?_ | refine pE (eSt rfl rfl rfl rfl rfl rfl rfl rfl rfl) rfl ?_ | refine pE (eBs rfl rfl rfl rfl rfl rfl rfl rfl rfl) rfl ?_)
            refine pIxR (f := lcc) k rfl rfl rfl rfl rfl rfl rfl rfl rfl (fun _ => rfl) rfl rfl hk' ?_
            repeat (first | refine p1 rfl rfl rfl rfl ?_ | refine al_end ?_ | refine awp_seq ?_ | refine awp_region ?_ | refine awp_block ?_ | refine awp_skip' ?_ | refine awp_ret' ?_ | refine awp_exit' ?_ | refine xt_sq_n ?_ | refine xt_bk_n ?_ | refine xt_sq_r ?_ | refine xt_bk_r ?_ | refine xt_sq_x ?_ | refine xt_bk_eq ?_ | refine xt_bk_ne rfl ?_ | refine p0 rfl rfl rfl ?_ | refine p0n rfl rfl ?_ | refine pAr rfl rfl rfl rfl rfl rfl rfl (by omega) (by omega) ?_ | refine pBuild rfl rfl rfl rfl rfl rfl ?_ | refine pE (eAlloc rfl rfl rfl rfl) rfl ?_ | refine pE (eBox rfl rfl rfl rfl rfl) rfl ?_ | refine pE (eSt rfl rfl rfl rfl rfl rfl rfl rfl rfl) rfl ?_ | refine pE (eBs rfl rfl rfl rfl rfl rfl rfl rfl rfl) rfl ?_)
            refine pAp1 (f := lcc) l[k] rfl rfl rfl rfl rfl rfl rfl rfl rfl rfl rfl rfl (fun _ => rfl) rfl (by omega) rfl ?_
            repeat (first | refine p1 rfl rfl rfl rfl ?_ | refine al_end ?_ | refine awp_seq ?_ | refine awp_region ?_ | refine awp_block ?_ | refine awp_skip' ?_ | refine awp_ret' ?_ | refine awp_exit' ?_ | refine xt_sq_n ?_ | refine xt_bk_n ?_ | refine xt_sq_r ?_ | refine xt_bk_r ?_ | refine xt_sq_x ?_ | refine xt_bk_eq ?_ | refine xt_bk_ne rfl ?_ | refine p0 rfl rfl rfl ?_ | refine p0n rfl rfl ?_ | refine pAr rfl rfl rfl rfl rfl rfl rfl (by omega) (by omega) ?_ | refine pBuild rfl rfl rfl rfl rfl rfl ?_ | refine pE (eAlloc rfl rfl rfl rfl) rfl ?_ | refine pE (eBox rfl rfl rfl rfl rfl) rfl ?_ | refine pE (eSt rfl rfl rfl rfl rfl rfl rfl rfl rfl) rfl ?_ | refine pE (eBs rfl rfl rfl rfl rfl rfl rfl rfl rfl) rfl ?_)
            refine lp_end (l.length - (k + 1)) (k + 1) [(0, 3), (1, 1)] (by omega) ?_ ⟨hk', rfl⟩
            rw [hfs, ← List.append_assoc, List.length_append (bs := [l[k]])]
            exact ⟨rfl, rfl, rfl, by repeat (first | exact trivial | refine ⟨rfl, ?_⟩), by repeat (first | exact trivial | refine ⟨rfl, ?_⟩)⟩
          · rw [hA] at hc
            rw [hc, if_neg (by simp), List.append_nil] at hfs
            repeat (first | refine p1 rfl rfl rfl rfl ?_ | refine al_end ?_ | refine awp_seq ?_ | refine awp_region ?_ | refine awp_block ?_ | refine awp_skip' ?_ | refine awp_ret' ?_ | refine awp_exit' ?_ | refine xt_sq_n ?_ | refine xt_bk_n ?_ | refine xt_sq_r ?_ | refine xt_bk_r ?_ | refine xt_sq_x ?_ | refine xt_bk_eq ?_ | refine xt_bk_ne rfl ?_ | refine p0 rfl rfl rfl ?_ | refine p0n rfl rfl ?_ | refine pAr rfl rfl rfl rfl rfl rfl rfl (by omega) (by omega) ?_ | refine pBuild rfl rfl rfl rfl rfl rfl ?_ | refine pE (eAlloc rfl rfl rfl rfl) rfl ?_ | refine pE (eBox rfl rfl rfl rfl rfl) rfl ?_ | refine pE (eSt rfl rfl rfl rfl rfl rfl rfl rfl rfl) rfl ?_ | refine pE (eBs rfl rfl rfl rfl rfl rfl rfl rfl rfl) rfl ?_)
            refine lp_end (l.length - (k + 1)) (k + 1) [(0, 0), (1, 1)] (by omega) ?_ ⟨hk', rfl⟩
            rw [hfs]
            exact ⟨rfl, rfl, rfl, by repeat (first | exact trivial | refine ⟨rfl, ?_⟩), by repeat (first | exact trivial | refine ⟨rfl, ?_⟩)⟩
        · have hk' : k = l.length := by omega
          subst hk'
          rw [List.take_length]
          rw [← hsp]
          exact xt_finG [(0, 0)] (.h (.sl 0 0 (l.filter (fun x => lcLess x (key f t)) ++ [(⟨(lastM f t l).f, (lastM f t l).t, (lastM f t l).s + 1, (lastM f t l).b⟩ : LC)] ++ l.filter (fun z => lcLess (key f t) z)).length)) [.arr 40 4 (lcs (l.filter (fun x => lcLess x (key f t)) ++ [(⟨(lastM f t l).f, (lastM f t l).t, (lastM f t l).s + 1, (lastM f t l).b⟩ : LC)] ++ l.filter (fun z => lcLess (key f t) z)))] (.inr rfl) rfl rfl rfl rfl rfl ⟨rfl, trivial⟩ trivial ⟨lcs_tgs _, trivial⟩ ⟨rfl, rfl⟩
      · have hb : bump (lastM f t l) (b2i true) = ⟨(lastM f t l).f, (lastM f t l).t, (lastM f t l).s + 1, (lastM f t l).b + 1⟩ := by simp [bump, b2i]
        have hA : ∀ z, lcLess (⟨(lastM f t l).f, (lastM f t l).t, (lastM f t l).s + 1, (lastM f t l).b + 1⟩ : LC) z = lcLess (key f t) z := fun z => by
          have := lastM_key f t l
          rw [Bool.eq_iff_iff, lcLess_iff, lcLess_iff]
          show ((lastM f t l).f < z.f ∨ ((lastM f t l).f = z.f ∧ (lastM f t l).t < z.t)) ↔ (f < z.f ∨ (f = z.f ∧ t < z.t))
          rw [this.1, this.2]
        have hsp := spec_ins f t (b2i true) l hs
        rw [hb] at hsp
        repeat' (first | refine p1 rfl rfl rfl rfl ?_ | refine al_end ?_ | refine awp_seq ?_ | refine awp_region ?_ | refine awp_block ?_ | refine awp_skip' ?_ | refine awp_ret' ?_ | refine awp_exit' ?_ | refine xt_sq_n ?_ | refine xt_bk_n ?_ | refine xt_sq_r ?_ | refine xt_bk_r ?_ | refine xt_sq_x ?_ | refine xt_bk_eq ?_ | refine xt_bk_ne rfl ?_ | refine p0 rfl rfl rfl ?_ | refine p0n rfl rfl ?_ | refine pAr rfl rfl rfl rfl rfl rfl rfl (by omega) (by omega) ?_ | refine pBuild rfl rfl rfl rfl rfl rfl ?_ | refine pE (eAlloc rfl rfl rfl rfl) rfl ?_ | refine pE (eBox rfl rfl rfl rfl rfl) rfl ?_ | refine pE (eSt rfl rfl rfl rfl rfl rfl rfl rfl rfl) rfl ?_ | refine pE (eBs rfl rfl rfl rfl rfl rfl rfl rfl rfl) rfl ?_ | refine awp_cond (b := true) rfl (fun _ => ?_) (fun h => Bool.noConfusion h) | refine awp_cond (b := false) rfl (fun h => Bool.noConfusion h) (fun _ => ?_) | ((fail_if_success refine pG (b := true) rfl rfl ?_ ?_); (fail_if_success refine pG (b := false) rfl rfl ?_ ?_); (refine pG rfl rfl (fun hc => ?_) (fun hc => ?_)) <;> try simp at hc) | ((refine awp_cond rfl (fun hc => ?_) (fun hc => ?_)) <;> try simp at hc))
        refine pAp1 (f := lcc) (L := l.filter (fun x => lcLess x (key f t))) ⟨(lastM f t l).f, (lastM f t l).t, (lastM f t l).s + 1, (lastM f t l).b + 1⟩ rfl rfl rfl rfl rfl rfl rfl rfl rfl rfl rfl rfl (fun _ => rfl) rfl (by omega) rfl ?_
        repeat (first | refine p1 rfl rfl rfl rfl ?_ | refine al_end ?_ | refine awp_seq ?_ | refine awp_region ?_ | refine awp_block ?_ | refine awp_skip' ?_ | refine awp_ret' ?_ | refine awp_exit' ?_ | refine xt_sq_n ?_ | refine xt_bk_n ?_ | refine xt_sq_r ?_ | refine xt_bk_r ?_ | refine xt_sq_x ?_ | refine xt_bk_eq ?_ | refine xt_bk_ne rfl ?_ | refine p0 rfl rfl rfl ?_ | refine p0n rfl rfl ?_ | refine pAr rfl rfl rfl rfl rfl rfl rfl (by omega) (by omega) ?_ | refine pBuild rfl rfl rfl rfl rfl rfl ?_ | refine pE (eAlloc rfl rfl rfl rfl) rfl ?_ | refine pE (eBox rfl rfl rfl rfl rfl) rfl ?_ | refine pE (eSt rfl rfl rfl rfl rfl rfl rfl rfl rfl) rfl ?_ | refine pE (eBs rfl rfl rfl rfl rfl rfl rfl rfl rfl) rfl ?_)
        refine awp_loopE (fun k : Nat => { fr := [(0, .h (.c (.rd (tg + 1) l.length (lcs l)))), (9, .h (.ptr 1 0)), (10, .h (.sl 0 0 (l.filter (fun x => lcLess x (key f t)) ++ [(⟨(lastM f t l).f, (lastM f t l).t, (lastM f t l).s + 1, (lastM f t l).b + 1⟩ : LC)] ++ (l.take k).filter (fun z => lcLess (key f t) z)).length)), (13, .h (.c (.int .i64 k)))], hp := [(0, .arr 40 4 (lcs (l.filter (fun x => lcLess x (key f t)) ++ [(⟨(lastM f t l).f, (lastM f t l).t, (lastM f t l).s + 1, (lastM f t l).b + 1⟩ : LC)] ++ (l.take k).filter (fun z => lcLess (key f t) z)))), (1, .box 40 ((lcc ⟨(lastM f t l).f, (lastM f t l).t, (lastM f t l).s + 1, (lastM f t l).b + 1⟩).map HV.c))], nx := 2 })
          (fun n k => k ≤ l.length ∧ n = l.length - k) l.length 0 [(0, 3), (1, 1)] (by rw [List.take_zero, List.filter_nil, List.append_nil, List.length_append]; exact ⟨rfl, rfl, rfl, by repeat (first | exact trivial | refine ⟨rfl, ?_⟩), by repeat (first | exact trivial | refine ⟨rfl, ?_⟩)⟩) ⟨Nat.zero_le _, rfl⟩ ?_
        rintro n k ⟨hk, rfl⟩
        repeat' (first | refine p1 rfl rfl rfl rfl ?_ | refine al_end ?_ | refine awp_seq ?_ | refine awp_region ?_ | refine awp_block ?_ | refine awp_skip' ?_ | refine awp_ret' ?_ | refine awp_exit' ?_ | refine xt_sq_n ?_ | refine xt_bk_n ?_ | refine xt_sq_r ?_ | refine xt_bk_r ?_ | refine xt_sq_x ?_ | refine xt_bk_eq ?_ | refine xt_bk_ne rfl ?_ | refine p0 rfl rfl rfl ?_ | refine p0n rfl rfl ?_ | refine pAr rfl rfl rfl rfl rfl rfl rfl (by omega) (by omega) ?_ | refine pBuild rfl rfl rfl rfl rfl rfl ?_ | refine pE (eAlloc rfl rfl rfl rfl) rfl ?_ | refine pE (eBox rfl rfl rfl rfl rfl) rfl ?_ | refine pE (eSt rfl rfl rfl rfl rfl rfl rfl rfl rfl) rfl ?_ | refine pE (eBs rfl rfl rfl rfl rfl rfl rfl rfl rfl) rfl ?_ | refine awp_cond (b := true) rfl (fun _ => ?_) (fun h => Bool.noConfusion h) | refine awp_cond (b := false) rfl (fun h => Bool.noConfusion h) (fun _ => ?_) | ((fail_if_success refine pG (b := true) rfl rfl ?_ ?_); (fail_if_success refine pG (b := false) rfl rfl ?_ ?_); (refine pG rfl rfl (fun hc => ?_) (fun hc => ?_)) <;> try simp at hc) | ((refine awp_cond rfl (fun hc => ?_) (fun hc => ?_)) <;> try simp at hc))
        · have hk' : k < l.length := by omega
          have hfs : (l.take (k + 1)).filter (fun z => lcLess (key f t) z) = (l.take k).filter (fun z => lcLess (key f t) z) ++ if lcLess (key f t) l[k] then [l[k]] else [] := filter_step _ hk'
          have hfl : (l.filter (fun x => lcLess x (key f t)) ++ [(⟨(lastM f t l).f, (lastM f t l).t, (lastM f t l).s + 1, (lastM f t l).b + 1⟩ : LC)] ++ (l.take k).filter (fun z => lcLess (key f t) z)).length ≤ 5000000 := by
            have := List.length_filter_le (fun z => lcLess (key f t) z) (l.take k)
            simp only [List.length_append, List.length_take, List.length_singleton] at this ⊢
            omega
          ((repeat (first | refine awp_seq ?_ | refine awp_block ?_ | refine awp_skip' ?_ | refine xt_sq_n ?_ | refine xt_bk_n ?_)); refine awp_draw (CT.cons (0, true) <| CT.cons (1, true) <| CT.cons (2, true) <| CT.cons (3, true) <| CT.cons (4, true) <| CT.cons (5, false) <| CT.nil) [] mixed (by kernel_rfl) (by kernel_rfl) rfl rfl ?_)
          repeat' (first | refine d1 rfl rfl rfl rfl rfl ?_ | refine dBuild rfl rfl rfl rfl rfl rfl rfl ?_ | refine d0 rfl rfl rfl rfl ?_ | refine d0n rfl rfl rfl ?_ | refine dE rfl (eAlloc rfl rfl rfl rfl) rfl rfl rfl ?_ | refine dE rfl (eBox rfl rfl rfl rfl rfl) rfl rfl rfl ?_ | refine dE rfl (eSt rfl rfl rfl rfl rfl rfl rfl rfl rfl) rfl rfl rfl ?_ | refine dE rfl (eBs rfl rfl rfl rfl rfl rfl rfl rfl rfl) rfl rfl rfl ?_ | refine d2 rfl rfl rfl rfl rfl ?_ | refine ah_nil ?_ | refine dAr rfl rfl rfl rfl rfl rfl rfl rfl (by omega) (by omega) ?_ | ((fail_if_success refine dG (b := true) rfl rfl rfl ?_ ?_); (fail_if_success refine dG (b := false) rfl rfl rfl ?_ ?_); (refine dG rfl rfl rfl (fun hc => ?_) (fun hc => ?_)) <;> try simp at hc))
          refine dIxR (f := lcc) k rfl rfl rfl rfl rfl rfl rfl rfl rfl rfl (fun _ => rfl) rfl rfl hk' ?_
          repeat' (first | refine d1 rfl rfl rfl rfl rfl ?_ | refine dBuild rfl rfl rfl rfl rfl rfl rfl ?_ | refine d0 rfl rfl rfl rfl ?_ | refine d0n rfl rfl rfl ?_ | refine dE rfl (eAlloc rfl rfl rfl rfl) rfl rfl rfl ?_ | refine dE rfl (eBox rfl rfl rfl rfl rfl) rfl rfl rfl ?_ | refine dE rfl (eSt rfl rfl rfl rfl rfl rfl rfl rfl rfl) rfl rfl rfl ?_ | refine dE rfl (eBs rfl rfl rfl rfl rfl rfl rfl rfl rfl) rfl rfl rfl ?_ | refine d2 rfl rfl rfl rfl rfl ?_ | refine ah_nil ?_ | refine dAr rfl rfl rfl rfl rfl rfl rfl rfl (by omega) (by omega) ?_ | ((fail_if_success refine dG (b := true) rfl rfl rfl ?_ ?_); (fail_if_success refine dG (b := false) rfl rfl rfl ?_ ?_); (refine dG rfl rfl rfl (fun hc => ?_) (fun hc => ?_)) <;> try simp at hc) | refine dC1 (l12Less_ac ⟨(lastM f t l).f, (lastM f t l).t, (lastM f t l).s + 1, (lastM f t l).b + 1⟩ _) rfl rfl rfl rfl rfl rfl rfl rfl (by decide) ?_)
          repeat (first | refine p1 rfl rfl rfl rfl ?_ | refine al_end ?_ | refine awp_seq ?_ | refine awp_region ?_ | refine awp_block ?_ | refine awp_skip' ?_ | refine awp_ret' ?_ | refine awp_exit' ?_ | refine xt_sq_n ?_ | refine xt_bk_n ?_ | refine xt_sq_r ?_ | refine xt_bk_r ?_ | refine xt_sq_x ?_ | refine xt_bk_eq ?_ | refine xt_bk_ne rfl ?_ | refine p0 rfl rfl rfl ?_ | refine p0n rfl rfl ?_ | refine pAr rfl rfl rfl rfl rfl rfl rfl (by omega) (by omega) ?_ | refine pBuild rfl rfl rfl rfl rfl rfl ?_ | refine pE (eAlloc rfl rfl rfl rfl) rfl ?_ | refine pE (eBox rfl rfl rfl rfl rfl) rfl ?_ | refine pE (eSt rfl rfl rfl rfl rfl rfl rfl rfl rfl) rfl ?_ | refine pE (eBs rfl rfl rfl rfl rfl rfl rfl rfl rfl) rfl ?_)
          refine awp_cond rfl (fun hc => ?_) (fun hc => ?_)
          · rw [hA] at hc
            rw [hc, if_pos rfl] at hfs
            repeat (first | refine p1 rfl rfl rfl rfl ?_ | refine al_end ?_ | refine awp_seq ?_ | refine awp_region ?_ | refine awp_block ?_ | refine awp_skip' ?_ | refine awp_ret' ?_ | refine awp_exit' ?_ | refine xt_sq_n ?_ | refine xt_bk_n ?_ | refine xt_sq_r ?_ | refine xt_bk_r ?_ | refine xt_sq_x ?_ | refine xt_bk_eq ?_ | refine xt_bk_ne rfl ?_ | refine p0 rfl rfl rfl ?_ | refine p0n rfl rfl ?_ | refine pAr rfl rfl rfl rfl rfl rfl rfl (by omega) (by omega) ?_ | refine pBuild rfl rfl rfl rfl rfl rfl ?_ | refine pE (eAlloc rfl rfl rfl rfl) rfl ?_ | refine pE (eBox rfl rfl rfl rfl rfl) rfl ?_ | refine pE (eSt rfl rfl rfl rfl rfl rfl rfl rfl rfl) rfl ?_ | refine pE (eBs rfl rfl rfl rfl rfl rfl rfl rfl rfl) rfl ?_)
            refine pIxR (f := lcc) k rfl rfl rfl rfl rfl rfl rfl rfl rfl (fun _ => rfl) rfl rfl hk' ?_
            repeat (first | refine p1 rfl rfl rfl rfl ?_ | refine al_end ?_ | refine awp_seq ?_ | refine awp_region ?_ | refine awp_block ?_ | refine awp_skip' ?_ | refine awp_ret' ?_ | refine awp_exit' ?_ | refine xt_sq_n ?_ | refine xt_bk_n ?_ | refine xt_sq_r ?_ | refine xt_bk_r ?_ | refine xt_sq_x ?_ | refine xt_bk_eq ?_ | refine xt_bk_ne rfl ?_ | refine p0 rfl rfl rfl ?_ | refine p0n rfl rfl ?_ | refine pAr rfl rfl rfl rfl rfl rfl rfl (by omega) (by omega) ?_ | refine pBuild rfl rfl rfl rfl rfl rfl ?_ | refine pE (eAlloc rfl rfl rfl rfl) rfl ?_ | refine pE (eBox rfl rfl rfl rfl rfl) rfl ?_ | refine pE (eSt rfl rfl rfl rfl rfl rfl rfl rfl rfl) rfl ?_ | refine pE (eBs rfl rfl rfl rfl rfl rfl rfl rfl rfl) rfl ?_)
            refine pAp1 (f := lcc) l[k] rfl rfl rfl rfl rfl rfl rfl rfl rfl rfl rfl rfl (fun _ => rfl) rfl (by omega) rfl ?_
            repeat (first | refine p1 rfl rfl rfl rfl ?_ | refine al_end ?_ | refine awp_seq ?_ | refine awp_region ?_ | refine awp_block ?_ | refine awp_skip' ?_ | refine awp_ret' ?_ | refine awp_exit' ?_ | refine xt_sq_n ?_ | refine xt_bk_n ?_ | refine xt_sq_r ?_ | refine xt_bk_r ?_ | refine xt_sq_x ?_ | refine xt_bk_eq ?_ | refine xt_bk_ne rfl ?_ | refine p0 rfl rfl rfl ?_ | refine p0n rfl rfl ?_ | refine pAr rfl rfl rfl rfl rfl rfl rfl (by omega) (by omega) ?_ | refine pBuild rfl rfl rfl rfl rfl rfl ?_ | refine pE (eAlloc rfl rfl rfl rfl) rfl ?_ | refine pE (eBox rfl rfl rfl rfl rfl) rfl ?_ | refine pE (eSt rfl rfl rfl rfl rfl rfl rfl rfl rfl) rfl ?_ | refine pE (eBs rfl rfl rfl rfl rfl rfl rfl rfl rfl) rfl ?_)
            refine lp_end (l.length - (k + 1)) (k + 1) [(0, 3), (1, 1)] (by omega) ?_ ⟨hk', rfl⟩
            rw [hfs, ← List.append_assoc, List.length_append (bs := [l[k]])]
            exact ⟨rfl, rfl, rfl, by repeat (first | exact trivial | refine ⟨rfl, ?_⟩), by repeat (first | exact trivial | refine ⟨rfl, ?_⟩)⟩
          · rw [hA] at hc
            rw [hc, if_neg (by simp), List.append_nil] at hfs
            repeat (first | refine p1 rfl rfl rfl rfl ?_ | refine al_end ?_ | refine awp_seq ?_ | refine awp_region ?_ | refine awp_block ?_ | refine awp_skip' ?_ | refine awp_ret' ?_ | refine awp_exit' ?_ | refine xt_sq_n ?_ | refine xt_bk_n ?_ | refine xt_sq_r ?_ | refine xt_bk_r ?_ | refine xt_sq_x ?_ | refine xt_bk_eq ?_ | refine xt_bk_ne rfl ?_ | refine p0 rfl rfl rfl ?_ | refine p0n rfl rfl ?_ | refine pAr rfl rfl rfl rfl rfl rfl rfl (by omega) (by omega) ?_ | refine pBuild rfl rfl rfl rfl rfl rfl ?_ | refine pE (eAlloc rfl rfl rfl rfl) rfl ?_ | refine pE (eBox rfl rfl rfl rfl rfl) rfl ?_ | refine pE (eSt rfl rfl rfl rfl rfl rfl rfl rfl rfl) rfl ?_ | refine pE (eBs rfl rfl rfl rfl rfl rfl rfl rfl rfl) rfl ?_)
            refine lp_end (l.length - (k + 1)) (k + 1) [(0, 0), (1, 1)] (by omega) ?_ ⟨hk', rfl⟩
            rw [hfs]
            exact ⟨rfl, rfl, rfl, by repeat (first | exact trivial | refine ⟨rfl, ?_⟩), by repeat (first | exact trivial | refine ⟨rfl, ?_⟩)⟩
        · have hk' : k = l.length := by omega
          subst hk'
          rw [List.take_length]
          have hF : l.filter (fun z => lcLess (⟨(lastM f t l).f, (lastM f t l).t, (lastM f t l).s + 1, (lastM f t l).b + 1⟩ : LC) z) = l.filter (fun z => lcLess (key f t) z) := by congr 1; funext z; exact hA z
          rw [← hsp]
          exact xt_finG [(0, 0)] (.h (.sl 0 0 (l.filter (fun x => lcLess x (key f t)) ++ [(⟨(lastM f t l).f, (lastM f t l).t, (lastM f t l).s + 1, (lastM f t l).b + 1⟩ : LC)] ++ l.filter (fun z => lcLess (key f t) z)).length)) [.arr 40 4 (lcs (l.filter (fun x => lcLess x (key f t)) ++ [(⟨(lastM f t l).f, (lastM f t l).t, (lastM f t l).s + 1, (lastM f t l).b + 1⟩ : LC)] ++ l.filter (fun z => lcLess (key f t) z)))] (.inr rfl) rfl rfl rfl rfl rfl ⟨rfl, trivial⟩ trivial ⟨lcs_tgs _, trivial⟩ ⟨rfl, rfl⟩
end Go.Proofs.Ytlgfdjmnedfjfaa
