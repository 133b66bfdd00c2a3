import Derived.Test.YthmgfgiaagkdeaaG34
namespace Go.Proofs.Ythmgfgiaagkdeaa
open Go.RowKit
attribute [local irreducible] AWP AL XT AC ES PS AH AH2 LpQ
section
variable {E : Env} {l : List Oper} {fr : List (Nat × AV)} {hp : List (Nat × Ob)} {nx d : Nat} {cert : List (Nat × Bool)} {W : List Nat} {nr : Nat} {os ms os0 ms0 : List Nat} {fl : Bool} {k : AS → Prop} {i : Nat} {oi : Oper}
/-- A call, beside a late writer. -/
theorem uC {f : FuncId} {ars : List Operand} {xs ys : List AV} {rt : List Nat} {hin : List Ob} {rs : List (Nat × Ob)} {Post : AV → List Ob → Prop} (hc : AC E.P f ys hin rt Post) (T : Nat) (ps : List Nat) (hi : nth l i = some oi) (hop : callOf ⟨fr, hp, nx⟩ oi.op = some (f, ars)) (hev : AS.evals ⟨fr, hp, nx⟩ ars = some xs) (hpk : pick ps hp = some (hin, rs)) (hpu : hin.all Ob.pu = true) (hbx : hin.all Ob.bx = true)
    (hg : gdv l ⟨fr, hp, nx⟩ oi = some true) (hd : oi.dst = some d) (hn : Nat.blt d E.nt = true) (hW : W.contains i = false) (hm : ps.all (fun id => ms.contains id || Nat.ble nr id) = true) (hm0 : ps.all (fun id => ms0.contains id || Nat.ble nr id) = true) (hb : BorAs rs ps T xs ys) (hT : T ∉ rt)
    (kk : ∀ r hout, Post r hout → AH2 E l cert W nr os ms os0 ms0 true false ⟨(d, r.ren (rho ps nx)) :: fr, named (rho ps nx) 0 hout ++ rs, nx + (hout.length - ps.length)⟩ k) : AH2 E l ((i, false) :: cert) W nr os ms os0 ms0 true fl ⟨fr, hp, nx⟩ k := by
  have h := eCall (d := d) hc T ps hop hev hpk hpu hd hn hb hT
  rw [if_pos hbx] at h
  refine ah2_es hi h hg hW hm hm0 (fun x ⟨r, hout, _, e⟩ => by rw [e]; exact Nat.le_add_right _ _) fun s' ⟨r, hout, hp, e⟩ => ?_
  subst e
  exact kk r hout hp
end
theorem peelV_ok {sec : Int} {p : Pk} (hp : pkOk p = true) (ho : peelOk sec p = true) : plOk (peelR sec p) = true := by
  obtain ⟨he, h9, hlh, h6, hlb, htg⟩ := pkOk_iff.1 hp
  have h12 := plain_len (sec := sec) h9
  have hpl : lst (plain sec p) = true := offV_lst (by rw [List.length_append, h9]; decide)
  have hR : peelR sec p = peelV sec p := by rw [peelR, ho]; rfl
  have ho' := ho
  simp only [peelOk, Bool.and_eq_true] at ho'
  rw [hR]
  simp only [plOk, Bool.and_eq_true]
  refine ⟨⟨ho'.1.2, ho'.2⟩, pkOk_iff.2 ⟨tms_elt he (fct_elt _), ?_, ?_, ?_, offV_lst (by omega), ?_⟩⟩
  · show ((plain sec p).drop 3).length = 9
    rw [List.length_drop, h12]
  · exact lst_iff.2 ⟨by show ((plain sec p).drop 3).length ≤ 24; rw [List.length_drop, h12]; omega, fun n h => (lst_iff.1 hpl).2 n (List.mem_of_mem_drop h)⟩
  · show (offV (tms sec p.el) p.bd).length = 6
    rw [offV_len, h6]
  · show nmb ((plain sec p).getD 2 0) = true
    rw [List.getD_eq_getElem?_getD, List.getElem?_eq_getElem (by omega)]
    exact nmb_iff.2 ((lst_iff.1 hpl).2 _ (List.getElem_mem _))
theorem takeN_zero {m : Mx} {p : Pk} (h : takeN m p = 0) : mxOk m = true ∧ pkOk p = true ∧ peelOk m.sec p = true ∧ tms m.sec p.el ∉ m.seen ∧ m.seen.length < 12 ∧ m.pool.length < 5 := by
  unfold takeN at h
  cases h1 : mxOk m <;> cases h2 : pkOk p <;> rw [h1, h2] at h <;> simp only [Bool.and_true, Bool.and_false, if_true] at h
  · simp at h
  · simp at h
  · simp at h
  · split at h
    · split at h
      · omega
      · split at h
        · omega
        · exact ⟨rfl, rfl, by assumption, by assumption, by omega, by omega⟩
    · omega
theorem mxOk_take {m : Mx} {p : Pk} (hm : mxOk m = true) (hp : pkOk p = true) : mxOk (takeM m p) = true := by
  have h4 : takeN m p ≠ 4 := by
    unfold takeN
    rw [hm, hp]
    simp only [Bool.and_true, if_true]
    split
    · split
      · omega
      · split <;> omega
    · omega
  rw [takeM, if_neg h4]
  split
  · rename_i h0
    obtain ⟨_, _, hpo, hns, h12, h5⟩ := takeN_zero h0
    obtain ⟨he, a1, a2, a3, a4⟩ := mxOk_iff.1 hm
    obtain ⟨hpe, _⟩ := pkOk_iff.1 hp
    refine mxOk_iff.2 ⟨he, by simp; omega, by simp; omega, ?_, ?_⟩
    · refine seenT fun j hj => ?_
      rw [seenAt_eq hj]
      by_cases hjl : j < m.seen.length
      · have hsj := List.all_eq_true.1 a3 j (by simpa using hjl)
        rw [seenAt_eq hjl] at hsj
        rw [List.getElem_append_left hjl, List.take_append_of_le_length (by omega)]
        exact hsj
      · have hje : j = m.seen.length := by simp at hj; omega
        subst hje
        simp only [List.getElem_append_right (Nat.le_refl _), Nat.sub_self, List.getElem_singleton, Bool.and_eq_true, decide_eq_true_eq]
        refine ⟨tms_elt he hpe, ?_⟩
        rw [List.take_append_of_le_length (Nat.le_refl _), List.take_length]
        exact hns
    · rw [List.all_append, a4]
      simp [peelV_ok hp hpo]
  · exact hm
theorem mxOk_flush {m : Mx} {all : Bool} (hm : mxOk m = true) : mxOk (flM m all) = true := by
  unfold flM
  rw [hm]
  simp only [if_true]
  split
  · obtain ⟨he, a1, a2, a3, a4⟩ := mxOk_iff.1 hm
    exact mxOk_iff.2 ⟨he, a1, by simp, a3, rfl⟩
  · exact hm
def peelGb (sec : Int) (p : Pk) : Bool := elt sec && pkOk p && peelOk sec p
def peelGR (sec : Int) (p : Pk) : Pl := if elt sec && pkOk p then peelR sec p else ⟨0, 0, ⟨0, [], 0, []⟩⟩
set_option maxHeartbeats 1000000 in
set_option maxRecDepth 100000 in
theorem peelG_ac (t : Nat) (sec : Int) (p : Pk) (hl : p.hd.length ≤ 1099511627776) (hb : p.bd.length ≤ 1099511627776) : AC Try.prog 116 [.h (.c (.int .i64 sec)), pv t p] [] [0]
    (fun r h => h = pObs (peelGR sec p).pk ∧ r = .tup [plw (peelGR sec p), .h (.c (.bool (peelGb sec p)))]) := by
  have h1 := specPV_ac t p hl hb
  refine ac_bodyM teok Try.func116 rfl (by kernel_rfl) Try.ntmps116 rfl rfl ?_
  intro w0 ps g0 im0
  repeat' (first | refine p1 rfl rfl rfl rfl ?_ | refine al_end ?_ | refine awp_seq ?_ | refine awp_region ?_ | refine awp_block ?_ | refine awp_skip' ?_ | refine awp_ret' ?_ | refine awp_exit' ?_ | refine xt_sq_n ?_ | refine xt_bk_n ?_ | refine xt_sq_r ?_ | refine xt_bk_r ?_ | refine xt_sq_x ?_ | refine xt_bk_eq ?_ | refine xt_bk_ne rfl ?_ | refine p0 rfl rfl rfl ?_ | refine p0n rfl rfl ?_ | refine pAr rfl rfl rfl rfl rfl rfl rfl (by omega) (by omega) ?_ | refine pBuild rfl rfl rfl rfl rfl rfl ?_ | refine pE (eAlloc rfl rfl rfl rfl) rfl ?_ | refine pE (eBox rfl rfl rfl rfl rfl) rfl ?_ | refine pE (eSt rfl rfl rfl rfl rfl rfl rfl rfl rfl) rfl ?_ | refine pE (eBs rfl rfl rfl rfl rfl rfl rfl rfl rfl) rfl ?_ | refine awp_cond (b := true) rfl (fun _ => ?_) (fun h => Bool.noConfusion h) | refine awp_cond (b := false) rfl (fun h => Bool.noConfusion h) (fun _ => ?_) | ((fail_if_success refine pG (b := true) rfl rfl ?_ ?_); (fail_if_success refine pG (b := false) rfl rfl ?_ ?_); (refine pG rfl rfl (fun hc => ?_) (fun hc => ?_)) <;> try simp at hc) | ((refine awp_cond rfl (fun hc => ?_) (fun hc => ?_)) <;> try simp at hc) | refine pC0 (l1Is_ac _) rfl rfl rfl rfl rfl rfl rfl (by decide) ?_ | refine pC0 (h1) rfl rfl rfl rfl rfl rfl rfl (by decide) ?_)
  iterate 2
    · have hno : (elt sec && pkOk p) = false := by
        first
          | (have h : elt sec = false := by assumption
             simp [h])
          | (have h : pkOk p = false := by assumption
             simp [h])
      have hR : peelGR sec p = ⟨0, 0, ⟨0, [], 0, []⟩⟩ := by simp only [peelGR, hno]; rfl
      have hB : peelGb sec p = false := by simp only [peelGb, hno, Bool.false_and]
      rw [hR, hB]
      refine xt_nownB (pre := [.c (.int .i64 0), .c (.int .i64 0), .c (.int .i64 0)]) (post := [.c (.int .i64 0), .c .nil]) 1 3 1 rfl (xt_nownB (pre := [.c (.int .i64 0), .c (.int .i64 0), .c (.int .i64 0), .sl 2 0 0, .c (.int .i64 0)]) (post := []) 1 3 1 rfl (xt_M ?_))
      exact xt_finG [(0, 2), (1, 3)] (.tup [plw ⟨0, 0, ⟨0, [], 0, []⟩⟩, .h (.c (.bool false))]) (pObs ⟨0, [], 0, []⟩) (.inr rfl) rfl rfl rfl rfl rfl ⟨rfl, rfl, trivial⟩ (by repeat' (first | exact trivial | refine And.intro ?_ ?_)) ⟨trivial, trivial, trivial⟩ ⟨rfl, rfl⟩
  have q1 : elt sec = true := by assumption
  have q2 : pkOk p = true := by assumption
  have hR : peelGR sec p = peelR sec p := by simp only [peelGR, q1, q2]; rfl
  have hB : peelGb sec p = peelOk sec p := by simp only [peelGb, q1, q2, Bool.true_and]
  rw [hR, hB]
  refine pC (eCall (specPeel_ac t sec p q1 q2) 99 [] rfl rfl rfl rfl rfl rfl (by repeat' (first | exact trivial | exact rfl | refine And.intro ?_ ?_ | exact Or.inl ⟨_, rfl, rfl⟩ | exact ⟨_, rfl, rfl⟩ | exact bor_sl rfl (by assumption) | exact bor_ios rfl | exact bor_ios1 rfl | exact bor_iosJ rfl | exact bor_pw rfl)) (by decide)) rfl ?_
  rintro _ _ ⟨rfl, rfl⟩
  repeat (first | refine p1 rfl rfl rfl rfl ?_ | refine al_end ?_ | refine awp_seq ?_ | refine awp_region ?_ | refine awp_block ?_ | refine awp_skip' ?_ | refine awp_ret' ?_ | refine awp_exit' ?_ | refine xt_sq_n ?_ | refine xt_bk_n ?_ | refine xt_sq_r ?_ | refine xt_bk_r ?_ | refine xt_sq_x ?_ | refine xt_bk_eq ?_ | refine xt_bk_ne rfl ?_ | refine p0 rfl rfl rfl ?_ | refine p0n rfl rfl ?_ | refine pAr rfl rfl rfl rfl rfl rfl rfl (by omega) (by omega) ?_ | refine pBuild rfl rfl rfl rfl rfl rfl ?_ | refine pE (eAlloc rfl rfl rfl rfl) rfl ?_ | refine pE (eBox rfl rfl rfl rfl rfl) rfl ?_ | refine pE (eSt rfl rfl rfl rfl rfl rfl rfl rfl rfl) rfl ?_ | refine pE (eBs rfl rfl rfl rfl rfl rfl rfl rfl rfl) rfl ?_)
  exact xt_M (xt_finG [(0, 2), (1, 3)] (.tup [plw (peelR sec p), .h (.c (.bool (peelOk sec p)))]) (pObs (peelR sec p).pk) (.inr rfl) rfl rfl rfl rfl rfl ⟨rfl, rfl, trivial⟩ (by repeat' (first | exact trivial | refine And.intro ?_ ?_)) ⟨ints_tgs _, ints_tgs _, trivial⟩ ⟨rfl, rfl⟩)
theorem peelGR_len {sec : Int} {p : Pk} : (peelGR sec p).pk.hd.length ≤ 9 ∧ (peelGR sec p).pk.bd.length ≤ 6 := by
  unfold peelGR
  split
  · rename_i h
    simp only [Bool.and_eq_true] at h
    exact peelR_len h.2
  · simp
set_option maxRecDepth 100000 in
theorem mixNew_ac (sec : Int) (hs : elt sec = true) : AC Try.prog 105 [.h (.c (.int .i64 sec))] [] [0] (fun r h => h = mObs ⟨sec, [], []⟩ ∧ r = .tup [mw ⟨sec, [], []⟩, .h (.c (.bool true))]) := by
  refine ac_body teok Try.func105 rfl (by kernel_rfl) Try.ntmps105 rfl rfl ?_
  intro w0 ps g0 im0
  repeat' (first | refine p1 rfl rfl rfl rfl ?_ | refine al_end ?_ | refine awp_seq ?_ | refine awp_region ?_ | refine awp_block ?_ | refine awp_skip' ?_ | refine awp_ret' ?_ | refine awp_exit' ?_ | refine xt_sq_n ?_ | refine xt_bk_n ?_ | refine xt_sq_r ?_ | refine xt_bk_r ?_ | refine xt_sq_x ?_ | refine xt_bk_eq ?_ | refine xt_bk_ne rfl ?_ | refine p0 rfl rfl rfl ?_ | refine p0n rfl rfl ?_ | refine pAr rfl rfl rfl rfl rfl rfl rfl (by omega) (by omega) ?_ | refine pBuild rfl rfl rfl rfl rfl rfl ?_ | refine pE (eAlloc rfl rfl rfl rfl) rfl ?_ | refine pE (eBox rfl rfl rfl rfl rfl) rfl ?_ | refine pE (eSt rfl rfl rfl rfl rfl rfl rfl rfl rfl) rfl ?_ | refine pE (eBs rfl rfl rfl rfl rfl rfl rfl rfl rfl) rfl ?_ | refine awp_cond (b := true) rfl (fun _ => ?_) (fun h => Bool.noConfusion h) | refine awp_cond (b := false) rfl (fun h => Bool.noConfusion h) (fun _ => ?_) | ((fail_if_success refine pG (b := true) rfl rfl ?_ ?_); (fail_if_success refine pG (b := false) rfl rfl ?_ ?_); (refine pG rfl rfl (fun hc => ?_) (fun hc => ?_)) <;> try simp at hc) | ((refine awp_cond rfl (fun hc => ?_) (fun hc => ?_)) <;> try simp at hc) | refine pC0 (l1Is_ac _) rfl rfl rfl rfl rfl rfl rfl (by decide) ?_)
  · have h : elt sec = false := by assumption
    rw [hs] at h; cases h
  · exact xt_finG [(0, 1), (1, 2)] (.tup [mw ⟨sec, [], []⟩, .h (.c (.bool true))]) (mObs ⟨sec, [], []⟩) (.inr rfl) rfl rfl rfl rfl rfl ⟨rfl, rfl, trivial⟩ (by repeat' (first | exact trivial | refine And.intro ?_ ?_)) ⟨trivial, trivial, trivial⟩ ⟨rfl, rfl⟩
end Go.Proofs.Ythmgfgiaagkdeaa
