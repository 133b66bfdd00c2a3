import Derived.Test.YthmgfgiaagkdeaaG21
import Derived.Test.YthmgfgiaagkdeaaTy1b
namespace Go.Proofs.Ythmgfgiaagkdeaa
open Go.RowKit
attribute [local irreducible] AWP AL XT AC ES PS AH AH2 LpQ
/-! ### what came in -/
theorem ty_intsC {xs : List CV} (h : TyC te 23 xs) : ∃ l : List Int, xs = [.rd 1 l.length (ints l)] ∧ l.length ≤ 9223372036854775807 := by
  obtain ⟨n, ys, rfl, hn, h2⟩ := h.slice_inv rfl
  obtain ⟨l, rfl, rfl, _⟩ := tyR_rows int1 (fun _ => True) (fun xs h => by obtain ⟨x, e, hw⟩ := h.int_inv rfl; exact ⟨x, e, trivial⟩) _ _ h2
  exact ⟨l, rfl, by unfold maxLen at hn; omega⟩
theorem ty_pkC {xs : List CV} (h : TyC te 61 xs) : ∃ p : Pk, xs = [.int .i64 p.el, .rd 1 p.hd.length (ints p.hd), .int .i64 p.tag, .rd 1 p.bd.length (ints p.bd)] ∧ p.hd.length ≤ 9223372036854775807 ∧ p.bd.length ≤ 9223372036854775807 := by
  obtain ⟨a, r, rfl, h0, hc⟩ := (h.struct_inv rfl).cons_inv
  obtain ⟨b, r, rfl, h1, hc⟩ := hc.cons_inv
  obtain ⟨c, r, rfl, h2, hc⟩ := hc.cons_inv
  obtain ⟨d, r, rfl, h3, hc⟩ := hc.cons_inv
  obtain rfl := hc.nil_inv
  obtain ⟨el, rfl, _⟩ := h0.int_inv rfl
  obtain ⟨hd, rfl, hl⟩ := ty_intsC h1
  obtain ⟨tag, rfl, _⟩ := h2.int_inv rfl
  obtain ⟨bd, rfl, hb⟩ := ty_intsC h3
  exact ⟨⟨el, hd, tag, bd⟩, rfl, hl, hb⟩
theorem ty_packet {y : AV} (h : TyA te 61 y) : ∃ p : Pk, y = pv 0 p ∧ p.hd.length ≤ 9223372036854775807 ∧ p.bd.length ≤ 9223372036854775807 := by
  obtain ⟨xs, rfl, hc⟩ := h.agg_inv rfl rfl
  obtain ⟨p, rfl, hp⟩ := ty_pkC hc
  exact ⟨p, rfl, hp⟩
theorem ty_plC {xs : List CV} (h : TyC te 110 xs) : ∃ x : Pl, xs = prd 1 x ∧ x.pk.hd.length ≤ 9223372036854775807 ∧ x.pk.bd.length ≤ 9223372036854775807 := by
  obtain ⟨a, r, rfl, h0, hc⟩ := (h.struct_inv rfl).cons_inv
  obtain ⟨b, r, rfl, h1, hc⟩ := hc.cons_inv
  obtain ⟨c, r, rfl, h2, hc⟩ := hc.cons_inv
  obtain rfl := hc.nil_inv
  obtain ⟨kind, rfl, _⟩ := h0.int_inv rfl
  obtain ⟨next, rfl, _⟩ := h1.int_inv rfl
  obtain ⟨p, rfl, hp⟩ := ty_pkC h2
  exact ⟨⟨kind, next, p⟩, rfl, hp⟩
theorem ty_mix {y : AV} (h : TyA te 60 y) : ∃ m : Mx, y = mv 0 m ∧ SmM 9223372036854775807 m := by
  obtain ⟨xs, rfl, hc⟩ := h.agg_inv rfl rfl
  obtain ⟨a, r, rfl, h0, hc⟩ := (hc.struct_inv rfl).cons_inv
  obtain ⟨b, r, rfl, h1, hc⟩ := hc.cons_inv
  obtain ⟨c, r, rfl, h2, hc⟩ := hc.cons_inv
  obtain rfl := hc.nil_inv
  obtain ⟨sec, rfl, _⟩ := h0.int_inv rfl
  obtain ⟨seen, rfl, hs⟩ := ty_intsC h1
  obtain ⟨n, ys, rfl, hn, h3⟩ := h2.slice_inv rfl
  obtain ⟨l, rfl, rfl, hx⟩ := tyR_rows (prd 1) (fun x => x.pk.hd.length ≤ 9223372036854775807 ∧ x.pk.bd.length ≤ 9223372036854775807) (fun xs h => ty_plC h) _ _ h3
  exact ⟨⟨sec, seen, l⟩, rfl, hs, by unfold maxLen at hn; simp only; omega, hx⟩
theorem al_le {E : Env} {l rest : List Oper} {s s' : AS} {Q : Exit → AS → Prop} (r : List (Nat × Nat)) (h : Le E.k r s s') (k : AL E l rest s' Q) : AL E l rest s Q := by
  unfold AL at k ⊢
  exact fun _ im a w hs => k _ im a w (h.sim hs)
/-! ### marks of a mix -/
set_option maxRecDepth 100000 in
theorem markMix_ac (m : Mx) (k : Int) (h0 : 0 ≤ k) (h1 : k ≤ 1048576) (hm : SmM 1048576 m) (hs : cnts m.pool ≤ 1000000000000) : AC Try.prog 47 [mw m, .h (.c (.int .i64 k))] (mObs m) [0]
    (fun r h => ∃ _a : Unit, True ∧ h = mObs (mkMx k m) ∧ r = .h (.c (.int .i64 (k + m.seen.length + cnts m.pool)))) := by
  obtain ⟨ha, hp, hx⟩ := hm
  refine ac_body teok Try.func47 rfl (by kernel_rfl) Try.ntmps47 rfl rfl ?_
  intro w0 ps g0 im0
  repeat (first | refine p1 rfl rfl rfl rfl ?_ | refine al_end ?_ | refine awp_seq ?_ | refine awp_region ?_ | refine awp_block ?_ | refine awp_skip' ?_ | refine awp_ret' ?_ | refine awp_exit' ?_ | refine xt_sq_n ?_ | refine xt_bk_n ?_ | refine xt_sq_r ?_ | refine xt_bk_r ?_ | refine xt_sq_x ?_ | refine xt_bk_eq ?_ | refine xt_bk_ne rfl ?_ | refine p0 rfl rfl rfl ?_ | refine p0n rfl rfl ?_ | refine pAr rfl rfl rfl rfl rfl rfl rfl (by omega) (by omega) ?_ | refine pBuild rfl rfl rfl rfl rfl rfl ?_ | refine pE (eAlloc rfl rfl rfl rfl) rfl ?_ | refine pE (eBox rfl rfl rfl rfl rfl) rfl ?_ | refine pE (eSt rfl rfl rfl rfl rfl rfl rfl rfl rfl) rfl ?_ | refine pE (eBs rfl rfl rfl rfl rfl rfl rfl rfl rfl) rfl ?_)
  refine pCo 0 (markIntS_ac m.seen k h0 (by omega) (by omega)) rfl rfl rfl rfl (fun _ => rfl) (fun _ _ => rfl) rfl rfl rfl (by decide) (by repeat' (first | exact trivial | exact rfl | refine And.intro ?_ ?_ | exact Or.inl ⟨_, rfl, rfl⟩ | exact ⟨_, rfl, rfl⟩ | exact bor_sl rfl (by assumption) | exact bor_ios rfl | exact bor_ios1 rfl | exact bor_iosJ rfl | exact bor_pw rfl)) ?_
  intro _ _
  repeat (first | refine p1 rfl rfl rfl rfl ?_ | refine al_end ?_ | refine awp_seq ?_ | refine awp_region ?_ | refine awp_block ?_ | refine awp_skip' ?_ | refine awp_ret' ?_ | refine awp_exit' ?_ | refine xt_sq_n ?_ | refine xt_bk_n ?_ | refine xt_sq_r ?_ | refine xt_bk_r ?_ | refine xt_sq_x ?_ | refine xt_bk_eq ?_ | refine xt_bk_ne rfl ?_ | refine p0 rfl rfl rfl ?_ | refine p0n rfl rfl ?_ | refine pAr rfl rfl rfl rfl rfl rfl rfl (by omega) (by omega) ?_ | refine pBuild rfl rfl rfl rfl rfl rfl ?_ | refine pE (eAlloc rfl rfl rfl rfl) rfl ?_ | refine pE (eBox rfl rfl rfl rfl rfl) rfl ?_ | refine pE (eSt rfl rfl rfl rfl rfl rfl rfl rfl rfl) rfl ?_ | refine pE (eBs rfl rfl rfl rfl rfl rfl rfl rfl rfl) rfl ?_)
  refine pCo 1 (markPeeledS_ac m.pool (k + m.seen.length) (by omega) (by omega) (by omega) hs hx) rfl rfl rfl rfl (fun _ => rfl) (fun _ _ => rfl) rfl rfl rfl (by decide) (by repeat' (first | exact trivial | exact rfl | refine And.intro ?_ ?_ | exact Or.inl ⟨_, rfl, rfl⟩ | exact ⟨_, rfl, rfl⟩ | exact bor_sl rfl (by assumption) | exact bor_ios rfl | exact bor_ios1 rfl | exact bor_iosJ rfl | exact bor_pw rfl)) ?_
  intro _ _
  repeat (first | refine p1 rfl rfl rfl rfl ?_ | refine al_end ?_ | refine awp_seq ?_ | refine awp_region ?_ | refine awp_block ?_ | refine awp_skip' ?_ | refine awp_ret' ?_ | refine awp_exit' ?_ | refine xt_sq_n ?_ | refine xt_bk_n ?_ | refine xt_sq_r ?_ | refine xt_bk_r ?_ | refine xt_sq_x ?_ | refine xt_bk_eq ?_ | refine xt_bk_ne rfl ?_ | refine p0 rfl rfl rfl ?_ | refine p0n rfl rfl ?_ | refine pAr rfl rfl rfl rfl rfl rfl rfl (by omega) (by omega) ?_ | refine pBuild rfl rfl rfl rfl rfl rfl ?_ | refine pE (eAlloc rfl rfl rfl rfl) rfl ?_ | refine pE (eBox rfl rfl rfl rfl rfl) rfl ?_ | refine pE (eSt rfl rfl rfl rfl rfl rfl rfl rfl rfl) rfl ?_ | refine pE (eBs rfl rfl rfl rfl rfl rfl rfl rfl rfl) rfl ?_)
  exact xt_finG [(0, 0), (1, 1)] (.h (.c (.int .i64 (k + m.seen.length + cnts m.pool)))) (mObs (mkMx k m)) (.inr rfl) rfl rfl rfl rfl rfl ⟨rfl, rfl, trivial⟩ trivial ⟨ints_tgs _, pow_tgs _, trivial⟩ ⟨(), trivial, rfl, rfl⟩
theorem cnts_totl : ∀ l : List Pl, cnts l = 4 * l.length + totl l
  | [] => rfl
  | x :: r => by simp only [cnts, totl, cnt, List.length_cons, cnts_totl r]; omega
set_option maxRecDepth 100000 in
theorem markPacketB_ac (p : Pk) (k : Int) (h0 : 0 ≤ k) (h1 : k ≤ 100000000) (hl : p.hd.length ≤ 1099511627) (hb : p.bd.length ≤ 1099511627) : AC Try.prog 40 [pw p, .h (.c (.int .i64 k))] (pObs p) [0]
    (fun r h => h = [.arr 3 1 (ints (mkIs k p.hd.length)), .arr 3 1 (ints (mkIs (k + p.hd.length) p.bd.length))] ∧ r = .h (.c (.int .i64 (k + p.hd.length + p.bd.length)))) := by
  refine ac_body teok Try.func40 rfl (by kernel_rfl) Try.ntmps40 rfl rfl ?_
  intro w0 ps g0 im0
  repeat (first | refine p1 rfl rfl rfl rfl ?_ | refine al_end ?_ | refine awp_seq ?_ | refine awp_region ?_ | refine awp_block ?_ | refine awp_skip' ?_ | refine awp_ret' ?_ | refine awp_exit' ?_ | refine xt_sq_n ?_ | refine xt_bk_n ?_ | refine xt_sq_r ?_ | refine xt_bk_r ?_ | refine xt_sq_x ?_ | refine xt_bk_eq ?_ | refine xt_bk_ne rfl ?_ | refine p0 rfl rfl rfl ?_ | refine p0n rfl rfl ?_ | refine pAr rfl rfl rfl rfl rfl rfl rfl (by omega) (by omega) ?_ | refine pBuild rfl rfl rfl rfl rfl rfl ?_ | refine pE (eAlloc rfl rfl rfl rfl) rfl ?_ | refine pE (eBox rfl rfl rfl rfl rfl) rfl ?_ | refine pE (eSt rfl rfl rfl rfl rfl rfl rfl rfl rfl) rfl ?_ | refine pE (eBs rfl rfl rfl rfl rfl rfl rfl rfl rfl) rfl ?_)
  refine pCo 0 (markIntS_ac p.hd k h0 (by omega) (by omega)) rfl rfl rfl rfl (fun _ => rfl) (fun _ _ => rfl) rfl rfl rfl (by decide) (by repeat' (first | exact trivial | exact rfl | refine And.intro ?_ ?_ | exact Or.inl ⟨_, rfl, rfl⟩ | exact ⟨_, rfl, rfl⟩ | exact bor_sl rfl (by assumption) | exact bor_ios rfl | exact bor_ios1 rfl | exact bor_iosJ rfl | exact bor_pw rfl)) ?_
  intro _ _
  repeat (first | refine p1 rfl rfl rfl rfl ?_ | refine al_end ?_ | refine awp_seq ?_ | refine awp_region ?_ | refine awp_block ?_ | refine awp_skip' ?_ | refine awp_ret' ?_ | refine awp_exit' ?_ | refine xt_sq_n ?_ | refine xt_bk_n ?_ | refine xt_sq_r ?_ | refine xt_bk_r ?_ | refine xt_sq_x ?_ | refine xt_bk_eq ?_ | refine xt_bk_ne rfl ?_ | refine p0 rfl rfl rfl ?_ | refine p0n rfl rfl ?_ | refine pAr rfl rfl rfl rfl rfl rfl rfl (by omega) (by omega) ?_ | refine pBuild rfl rfl rfl rfl rfl rfl ?_ | refine pE (eAlloc rfl rfl rfl rfl) rfl ?_ | refine pE (eBox rfl rfl rfl rfl rfl) rfl ?_ | refine pE (eSt rfl rfl rfl rfl rfl rfl rfl rfl rfl) rfl ?_ | refine pE (eBs rfl rfl rfl rfl rfl rfl rfl rfl rfl) rfl ?_)
  refine pCo 1 (markIntS_ac p.bd (k + p.hd.length) (by omega) (by omega) (by omega)) rfl rfl rfl rfl (fun _ => rfl) (fun _ _ => rfl) rfl rfl rfl (by decide) (by repeat' (first | exact trivial | exact rfl | refine And.intro ?_ ?_ | exact Or.inl ⟨_, rfl, rfl⟩ | exact ⟨_, rfl, rfl⟩ | exact bor_sl rfl (by assumption) | exact bor_ios rfl | exact bor_ios1 rfl | exact bor_iosJ rfl | exact bor_pw rfl)) ?_
  intro _ _
  repeat (first | refine p1 rfl rfl rfl rfl ?_ | refine al_end ?_ | refine awp_seq ?_ | refine awp_region ?_ | refine awp_block ?_ | refine awp_skip' ?_ | refine awp_ret' ?_ | refine awp_exit' ?_ | refine xt_sq_n ?_ | refine xt_bk_n ?_ | refine xt_sq_r ?_ | refine xt_bk_r ?_ | refine xt_sq_x ?_ | refine xt_bk_eq ?_ | refine xt_bk_ne rfl ?_ | refine p0 rfl rfl rfl ?_ | refine p0n rfl rfl ?_ | refine pAr rfl rfl rfl rfl rfl rfl rfl (by omega) (by omega) ?_ | refine pBuild rfl rfl rfl rfl rfl rfl ?_ | refine pE (eAlloc rfl rfl rfl rfl) rfl ?_ | refine pE (eBox rfl rfl rfl rfl rfl) rfl ?_ | refine pE (eSt rfl rfl rfl rfl rfl rfl rfl rfl rfl) rfl ?_ | refine pE (eBs rfl rfl rfl rfl rfl rfl rfl rfl rfl) rfl ?_)
  exact xt_finG [(0, 0), (1, 1)] (.h (.c (.int .i64 (k + p.hd.length + p.bd.length)))) [.arr 3 1 (ints (mkIs k p.hd.length)), .arr 3 1 (ints (mkIs (k + p.hd.length) p.bd.length))] (.inr rfl) rfl rfl rfl rfl rfl ⟨rfl, rfl, trivial⟩ trivial ⟨ints_tgs _, ints_tgs _, trivial⟩ ⟨rfl, rfl⟩
end Go.Proofs.Ythmgfgiaagkdeaa
