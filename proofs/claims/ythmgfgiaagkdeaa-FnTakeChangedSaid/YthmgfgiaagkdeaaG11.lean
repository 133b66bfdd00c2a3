import Derived.Test.YthmgfgiaagkdeaaG10
namespace Go.Proofs.Ythmgfgiaagkdeaa
open Go.RowKit
attribute [local irreducible] AWP AL XT AC ES PS AH AH2 LpQ
structure Mx where
  sec : Int
  seen : List Int
  pool : List Pl
def prd (T : Nat) (x : Pl) : List CV := [.int .i64 x.kind, .int .i64 x.next, .int .i64 x.pk.el, .rd T x.pk.hd.length (ints x.pk.hd), .int .i64 x.pk.tag, .rd T x.pk.bd.length (ints x.pk.bd)]
def pow (x : Pl) : List CV := [.int .i64 x.kind, .int .i64 x.next, .int .i64 x.pk.el, .ow 3 1 x.pk.hd.length (ints x.pk.hd), .int .i64 x.pk.tag, .ow 3 1 x.pk.bd.length (ints x.pk.bd)]
theorem pow_brw (T : Nat) (l : List Pl) : CV.brws T (rows pow l) = rows (prd T) l :=
  rows_brws T (fun x => by simp only [pow, prd, CV.brws, CV.brw]; rw [ints_plain x.pk.hd T, ints_plain x.pk.bd T]) l
theorem bor_pw {rest : List (Nat × Ob)} {ps : List Nat} {T id n ty e : Nat} {l : List Pl} (hl : look id rest = some (.arr ty e (rows pow l))) : BorH rest ps T (.sl id 0 n) (.c (.rd T n (rows (prd T) l))) :=
  .inr ⟨ty, e, _, _, (rows pow l).length, hl, by rw [Nat.zero_mul, List.drop_zero, List.take_length]; exact pow_brw T l, rfl⟩
theorem pow_tgs {rt : List Nat} (l : List Pl) : CV.Tgs rt (rows pow l) := rows_tgs (fun x => by
  unfold pow
  exact ⟨trivial, trivial, trivial, ints_tgs _, trivial, ints_tgs _, trivial⟩) l
def xv (t : Nat) (x : Pl) : AV := .agg [.c (.int .i64 x.kind), .c (.int .i64 x.next), .c (.int .i64 x.pk.el), .c (.rd (t + 1) x.pk.hd.length (ints x.pk.hd)), .c (.int .i64 x.pk.tag), .c (.rd (t + 1) x.pk.bd.length (ints x.pk.bd))]
def mv (t : Nat) (m : Mx) : AV := .agg [.c (.int .i64 m.sec), .c (.rd (t + 1) m.seen.length (ints m.seen)), .c (.rd (t + 1) m.pool.length (rows (prd (t + 1)) m.pool))]
def mw (m : Mx) : AV := .agg [.c (.int .i64 m.sec), .sl 0 0 m.seen.length, .sl 1 0 m.pool.length]
def mObs (m : Mx) : List Ob := [.arr 3 1 (ints m.seen), .arr 69 6 (rows pow m.pool)]
def mbx (t : Nat) (m : Mx) : Ob := .box 26 [.c (.int .i64 m.sec), .c (.rd (t + 1) m.seen.length (ints m.seen)), .c (.rd (t + 1) m.pool.length (rows (prd (t + 1)) m.pool))]
/-- No row of the mix is longer. -/
def SmM (n : Nat) (m : Mx) : Prop := m.seen.length ≤ n ∧ m.pool.length ≤ n ∧ ∀ x ∈ m.pool, x.pk.hd.length ≤ n ∧ x.pk.bd.length ≤ n
def plOk (x : Pl) : Bool := inB x.kind 0 1 && inB x.next 0 7 && pkOk x.pk
def seenAt (l : List Int) (j : Nat) : Bool := match l[j]? with
  | some n => elt n && decide (n ∉ l.take j)
  | none => true
def mxOk (m : Mx) : Bool := elt m.sec && decide (m.seen.length ≤ 12) && decide (m.pool.length ≤ 5) && (List.range m.seen.length).all (seenAt m.seen) && m.pool.all plOk
theorem seenAt_eq {l : List Int} {k : Nat} (hk : k < l.length) : seenAt l k = (elt l[k] && decide (l[k] ∉ l.take k)) := by simp [seenAt, hk]
theorem seenF {l : List Int} {k : Nat} (hk : k < l.length) (h : seenAt l k = false) : (List.range l.length).all (seenAt l) = false := by
  rw [List.all_eq_false]; exact ⟨k, by simpa using hk, by simp [h]⟩
theorem seenT {l : List Int} (h : ∀ j, j < l.length → seenAt l j = true) : (List.range l.length).all (seenAt l) = true := by
  rw [List.all_eq_true]; intro j hj; exact h j (by simpa using hj)
theorem poolF {l : List Pl} {k : Nat} (hk : k < l.length) (h : plOk l[k] = false) : l.all plOk = false := by
  rw [List.all_eq_false]; exact ⟨_, List.getElem_mem hk, by simp [h]⟩
theorem poolT {l : List Pl} (h : ∀ j, (hj : j < l.length) → plOk l[j] = true) : l.all plOk = true := by
  rw [List.all_eq_true]
  intro x hx
  obtain ⟨k, hk, rfl⟩ := List.getElem_of_mem hx
  exact h k hk
theorem upP {l : List Pl} {k : Nat} (hk : k < l.length) (hno : ∀ j, j < k → (hj : j < l.length) → plOk l[j] = true) (h : plOk l[k] = true) : ∀ j, j < k + 1 → (hj : j < l.length) → plOk l[j] = true := by
  intro j h1 hj
  rcases Nat.lt_or_eq_of_le (Nat.le_of_lt_succ h1) with h2 | h2
  · exact hno j h2 hj
  · subst h2; exact h
theorem upS {l : List Int} {k : Nat} (hno : ∀ j, j < k → seenAt l j = true) (h : seenAt l k = true) : ∀ j, j < k + 1 → seenAt l j = true := by
  intro j h1
  rcases Nat.lt_or_eq_of_le (Nat.le_of_lt_succ h1) with h2 | h2
  · exact hno j h2
  · subst h2; exact h
set_option maxHeartbeats 1000000 in
set_option maxRecDepth 100000 in
theorem index_ac (t : Nat) (l : List Int) (n : Int) (hl : l.length ≤ 1099511627776) : AC Try.prog 120 [.h (.c (.rd t l.length (ints l))), .h (.c (.int .i64 n))] [] [0]
    (fun r h => ∃ i : Int, (0 ≤ i ↔ n ∈ l) ∧ h = [] ∧ r = .h (.c (.int .i64 i))) := by
  refine ac_body teok Try.func120 rfl (by kernel_rfl) Try.ntmps120 rfl rfl ?_
  intro w0 ps g0 im0
  repeat (first | refine p1 rfl rfl rfl rfl ?_ | refine al_end ?_ | refine awp_seq ?_ | refine awp_region ?_ | refine awp_block ?_ | refine awp_skip' ?_ | refine awp_ret' ?_ | refine awp_exit' ?_ | refine xt_sq_n ?_ | refine xt_bk_n ?_ | refine xt_sq_r ?_ | refine xt_bk_r ?_ | refine xt_sq_x ?_ | refine xt_bk_eq ?_ | refine xt_bk_ne rfl ?_ | refine p0 rfl rfl rfl ?_ | refine p0n rfl rfl ?_ | refine pAr rfl rfl rfl rfl rfl rfl rfl (by omega) (by omega) ?_ | refine pBuild rfl rfl rfl rfl rfl rfl ?_ | refine pE (eAlloc rfl rfl rfl rfl) rfl ?_ | refine pE (eBox rfl rfl rfl rfl rfl) rfl ?_ | refine pE (eSt rfl rfl rfl rfl rfl rfl rfl rfl rfl) rfl ?_ | refine pE (eBs rfl rfl rfl rfl rfl rfl rfl rfl rfl) rfl ?_)
  refine awp_loopE (fun k : Nat => { fr := [(0, .h (.c (.rd t l.length (ints l)))), (1, .h (.c (.int .i64 n))), (7, .h (.c (.int .i64 l.length))), (8, .h (.c (.int .i64 k)))], hp := [], nx := 0 })
    (fun m k => k ≤ l.length ∧ m = l.length - k ∧ ∀ j, j < k → (hj : j < l.length) → l[j] ≠ n) l.length 0 [] ⟨rfl, rfl, rfl, by repeat (first | exact trivial | refine ⟨rfl, ?_⟩), by repeat (first | exact trivial | refine ⟨rfl, ?_⟩ | refine ⟨hrr_le rfl, ?_⟩)⟩ ⟨Nat.zero_le _, rfl, fun j h => absurd h (by omega)⟩ ?_
  rintro m k ⟨hk, rfl, hno⟩
  repeat' (first | refine p1 rfl rfl rfl rfl ?_ | refine al_end ?_ | refine awp_seq ?_ | refine awp_region ?_ | refine awp_block ?_ | refine awp_skip' ?_ | refine awp_ret' ?_ | refine awp_exit' ?_ | refine xt_sq_n ?_ | refine xt_bk_n ?_ | refine xt_sq_r ?_ | refine xt_bk_r ?_ | refine xt_sq_x ?_ | refine xt_bk_eq ?_ | refine xt_bk_ne rfl ?_ | refine p0 rfl rfl rfl ?_ | refine p0n rfl rfl ?_ | refine pAr rfl rfl rfl rfl rfl rfl rfl (by omega) (by omega) ?_ | refine pBuild rfl rfl rfl rfl rfl rfl ?_ | refine pE (eAlloc rfl rfl rfl rfl) rfl ?_ | refine pE (eBox rfl rfl rfl rfl rfl) rfl ?_ | refine pE (eSt rfl rfl rfl rfl rfl rfl rfl rfl rfl) rfl ?_ | refine pE (eBs rfl rfl rfl rfl rfl rfl rfl rfl rfl) rfl ?_ | refine awp_cond (b := true) rfl (fun _ => ?_) (fun h => Bool.noConfusion h) | refine awp_cond (b := false) rfl (fun h => Bool.noConfusion h) (fun _ => ?_) | ((fail_if_success refine pG (b := true) rfl rfl ?_ ?_); (fail_if_success refine pG (b := false) rfl rfl ?_ ?_); (refine pG rfl rfl (fun hc => ?_) (fun hc => ?_)) <;> try simp at hc) | ((refine awp_cond rfl (fun hc => ?_) (fun hc => ?_)) <;> try simp at hc))
  · have hk' : k < l.length := by omega
    refine pIx k rfl rfl rfl rfl rfl rfl rfl rfl rfl hk' (ints_drop hk') ?_
    repeat' (first | refine p1 rfl rfl rfl rfl ?_ | refine al_end ?_ | refine awp_seq ?_ | refine awp_region ?_ | refine awp_block ?_ | refine awp_skip' ?_ | refine awp_ret' ?_ | refine awp_exit' ?_ | refine xt_sq_n ?_ | refine xt_bk_n ?_ | refine xt_sq_r ?_ | refine xt_bk_r ?_ | refine xt_sq_x ?_ | refine xt_bk_eq ?_ | refine xt_bk_ne rfl ?_ | refine p0 rfl rfl rfl ?_ | refine p0n rfl rfl ?_ | refine pAr rfl rfl rfl rfl rfl rfl rfl (by omega) (by omega) ?_ | refine pBuild rfl rfl rfl rfl rfl rfl ?_ | refine pE (eAlloc rfl rfl rfl rfl) rfl ?_ | refine pE (eBox rfl rfl rfl rfl rfl) rfl ?_ | refine pE (eSt rfl rfl rfl rfl rfl rfl rfl rfl rfl) rfl ?_ | refine pE (eBs rfl rfl rfl rfl rfl rfl rfl rfl rfl) rfl ?_ | refine awp_cond (b := true) rfl (fun _ => ?_) (fun h => Bool.noConfusion h) | refine awp_cond (b := false) rfl (fun h => Bool.noConfusion h) (fun _ => ?_) | ((fail_if_success refine pG (b := true) rfl rfl ?_ ?_); (fail_if_success refine pG (b := false) rfl rfl ?_ ?_); (refine pG rfl rfl (fun hc => ?_) (fun hc => ?_)) <;> try simp at hc) | ((refine awp_cond rfl (fun hc => ?_) (fun hc => ?_)) <;> try simp at hc))
    · have hm : n ∈ l := by
        have : l[k] = n := by first | assumption | (symm; assumption)
        rw [← this]; exact List.getElem_mem _
      exact xt_fin (.inr rfl) rfl trivial ⟨k, ⟨fun _ => hm, fun _ => by omega⟩, rfl, rfl⟩
    · refine lp_end (l.length - (k + 1)) (k + 1) [] (by omega) ⟨rfl, rfl, rfl, by repeat (first | exact trivial | refine ⟨rfl, ?_⟩), by repeat (first | exact trivial | refine ⟨rfl, ?_⟩ | refine ⟨hrr_le rfl, ?_⟩)⟩ ⟨hk', rfl, fun j h hj => ?_⟩
      by_cases hjk : j = k
      · subst hjk; intro e; exact absurd e.symm (by assumption)
      · exact hno j (by omega) hj
  · have hm : n ∉ l := by
      intro h
      obtain ⟨j, hj, e⟩ := List.getElem_of_mem h
      exact hno j (by omega) hj e
    exact xt_fin (.inr rfl) rfl trivial ⟨-1, ⟨fun h => absurd h (by omega), fun h => absurd h hm⟩, rfl, rfl⟩
set_option maxRecDepth 100000 in
theorem contains_ac (t : Nat) (l : List Int) (n : Int) (hl : l.length ≤ 1099511627776) : AC Try.prog 77 [.h (.c (.rd t l.length (ints l))), .h (.c (.int .i64 n))] [] [0]
    (fun r h => h = [] ∧ r = .h (.c (.bool (decide (n ∈ l))))) := by
  refine ac_body teok Try.func77 rfl (by kernel_rfl) Try.ntmps77 rfl rfl ?_
  intro w0 ps g0 im0
  repeat (first | refine p1 rfl rfl rfl rfl ?_ | refine al_end ?_ | refine awp_seq ?_ | refine awp_region ?_ | refine awp_block ?_ | refine awp_skip' ?_ | refine awp_ret' ?_ | refine awp_exit' ?_ | refine xt_sq_n ?_ | refine xt_bk_n ?_ | refine xt_sq_r ?_ | refine xt_bk_r ?_ | refine xt_sq_x ?_ | refine xt_bk_eq ?_ | refine xt_bk_ne rfl ?_ | refine p0 rfl rfl rfl ?_ | refine p0n rfl rfl ?_ | refine pAr rfl rfl rfl rfl rfl rfl rfl (by omega) (by omega) ?_ | refine pBuild rfl rfl rfl rfl rfl rfl ?_ | refine pE (eAlloc rfl rfl rfl rfl) rfl ?_ | refine pE (eBox rfl rfl rfl rfl rfl) rfl ?_ | refine pE (eSt rfl rfl rfl rfl rfl rfl rfl rfl rfl) rfl ?_ | refine pE (eBs rfl rfl rfl rfl rfl rfl rfl rfl rfl) rfl ?_)
  refine pC (eCall (index_ac t l n hl) 99 [] rfl rfl rfl rfl rfl rfl (by repeat' (first | exact trivial | exact rfl | refine And.intro ?_ ?_ | exact Or.inl ⟨_, rfl, rfl⟩ | exact ⟨_, rfl, rfl⟩ | exact bor_sl rfl (by assumption) | exact bor_ios rfl | exact bor_ios1 rfl | exact bor_iosJ rfl | exact bor_pw rfl)) (by decide)) rfl ?_
  rintro _ _ ⟨i, hi, rfl, rfl⟩
  repeat (first | refine p1 rfl rfl rfl rfl ?_ | refine al_end ?_ | refine awp_seq ?_ | refine awp_region ?_ | refine awp_block ?_ | refine awp_skip' ?_ | refine awp_ret' ?_ | refine awp_exit' ?_ | refine xt_sq_n ?_ | refine xt_bk_n ?_ | refine xt_sq_r ?_ | refine xt_bk_r ?_ | refine xt_sq_x ?_ | refine xt_bk_eq ?_ | refine xt_bk_ne rfl ?_ | refine p0 rfl rfl rfl ?_ | refine p0n rfl rfl ?_ | refine pAr rfl rfl rfl rfl rfl rfl rfl (by omega) (by omega) ?_ | refine pBuild rfl rfl rfl rfl rfl rfl ?_ | refine pE (eAlloc rfl rfl rfl rfl) rfl ?_ | refine pE (eBox rfl rfl rfl rfl rfl) rfl ?_ | refine pE (eSt rfl rfl rfl rfl rfl rfl rfl rfl rfl) rfl ?_ | refine pE (eBs rfl rfl rfl rfl rfl rfl rfl rfl rfl) rfl ?_)
  exact xt_fin (.inr rfl) rfl trivial ⟨rfl, by
    have : decide (i ≥ 0) = decide (n ∈ l) := by rw [Bool.eq_iff_iff]; simpa using hi
    simp only [← this]⟩
set_option maxRecDepth 100000 in
theorem implPlOk_ac (t : Nat) (x : Pl) (hl : x.pk.hd.length ≤ 1099511627776) (hb : x.pk.bd.length ≤ 1099511627776) : AC Try.prog 102 [xv t x] [] [0] (fun r h => h = [] ∧ r = .h (.c (.bool (plOk x)))) := by
  have h := implPV_ac t x.pk hl hb
  refine ac_body teok Try.func102 rfl (by kernel_rfl) Try.ntmps102 rfl rfl ?_
  intro w0 ps g0 im0
  repeat' (first | refine p1 rfl rfl rfl rfl ?_ | refine al_end ?_ | refine awp_seq ?_ | refine awp_region ?_ | refine awp_block ?_ | refine awp_skip' ?_ | refine awp_ret' ?_ | refine awp_exit' ?_ | refine xt_sq_n ?_ | refine xt_bk_n ?_ | refine xt_sq_r ?_ | refine xt_bk_r ?_ | refine xt_sq_x ?_ | refine xt_bk_eq ?_ | refine xt_bk_ne rfl ?_ | refine p0 rfl rfl rfl ?_ | refine p0n rfl rfl ?_ | refine pAr rfl rfl rfl rfl rfl rfl rfl (by omega) (by omega) ?_ | refine pBuild rfl rfl rfl rfl rfl rfl ?_ | refine pE (eAlloc rfl rfl rfl rfl) rfl ?_ | refine pE (eBox rfl rfl rfl rfl rfl) rfl ?_ | refine pE (eSt rfl rfl rfl rfl rfl rfl rfl rfl rfl) rfl ?_ | refine pE (eBs rfl rfl rfl rfl rfl rfl rfl rfl rfl) rfl ?_ | refine awp_cond (b := true) rfl (fun _ => ?_) (fun h => Bool.noConfusion h) | refine awp_cond (b := false) rfl (fun h => Bool.noConfusion h) (fun _ => ?_) | ((fail_if_success refine pG (b := true) rfl rfl ?_ ?_); (fail_if_success refine pG (b := false) rfl rfl ?_ ?_); (refine pG rfl rfl (fun hc => ?_) (fun hc => ?_)) <;> try simp at hc) | ((refine awp_cond rfl (fun hc => ?_) (fun hc => ?_)) <;> try simp at hc) | refine pC0 (within_ac _ _ _) rfl rfl rfl rfl rfl rfl rfl (by decide) ?_ | refine pC0 (isName_ac _) rfl rfl rfl rfl rfl rfl rfl (by decide) ?_ | refine pC0 (h) rfl rfl rfl rfl rfl rfl rfl (by decide) ?_)
  all_goals exact xt_fin (.inr rfl) rfl trivial ⟨rfl, by simp [plOk, *]⟩
set_option maxRecDepth 100000 in
theorem specPlOk_ac (t : Nat) (x : Pl) (hl : x.pk.hd.length ≤ 1099511627776) (hb : x.pk.bd.length ≤ 1099511627776) : AC Try.prog 71 [xv t x] [] [0] (fun r h => h = [] ∧ r = .h (.c (.bool (plOk x)))) := by
  have h := specPV_ac t x.pk hl hb
  refine ac_body teok Try.func71 rfl (by kernel_rfl) Try.ntmps71 rfl rfl ?_
  intro w0 ps g0 im0
  repeat' (first | refine p1 rfl rfl rfl rfl ?_ | refine al_end ?_ | refine awp_seq ?_ | refine awp_region ?_ | refine awp_block ?_ | refine awp_skip' ?_ | refine awp_ret' ?_ | refine awp_exit' ?_ | refine xt_sq_n ?_ | refine xt_bk_n ?_ | refine xt_sq_r ?_ | refine xt_bk_r ?_ | refine xt_sq_x ?_ | refine xt_bk_eq ?_ | refine xt_bk_ne rfl ?_ | refine p0 rfl rfl rfl ?_ | refine p0n rfl rfl ?_ | refine pAr rfl rfl rfl rfl rfl rfl rfl (by omega) (by omega) ?_ | refine pBuild rfl rfl rfl rfl rfl rfl ?_ | refine pE (eAlloc rfl rfl rfl rfl) rfl ?_ | refine pE (eBox rfl rfl rfl rfl rfl) rfl ?_ | refine pE (eSt rfl rfl rfl rfl rfl rfl rfl rfl rfl) rfl ?_ | refine pE (eBs rfl rfl rfl rfl rfl rfl rfl rfl rfl) rfl ?_ | refine awp_cond (b := true) rfl (fun _ => ?_) (fun h => Bool.noConfusion h) | refine awp_cond (b := false) rfl (fun h => Bool.noConfusion h) (fun _ => ?_) | ((fail_if_success refine pG (b := true) rfl rfl ?_ ?_); (fail_if_success refine pG (b := false) rfl rfl ?_ ?_); (refine pG rfl rfl (fun hc => ?_) (fun hc => ?_)) <;> try simp at hc) | ((refine awp_cond rfl (fun hc => ?_) (fun hc => ?_)) <;> try simp at hc) | refine pC0 (l6In_ac _ _ _) rfl rfl rfl rfl rfl rfl rfl (by decide) ?_ | refine pC0 (h) rfl rfl rfl rfl rfl rfl rfl (by decide) ?_)
  all_goals exact xt_fin (.inr rfl) rfl trivial ⟨rfl, by simp [plOk, *]⟩
end Go.Proofs.Ythmgfgiaagkdeaa
