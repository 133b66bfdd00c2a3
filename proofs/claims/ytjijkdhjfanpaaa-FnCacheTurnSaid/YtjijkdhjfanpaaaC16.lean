import Derived.Test.YtjijkdhjfanpaaaC15
namespace Go.Proofs.Ytjijkdhjfanpaaa
open Go.RowKit
attribute [local irreducible] AWP AL XT AC ES PS AH AH2 LpQ
section
variable {E : Env} {l : List Oper} {fr : List (Nat × AV)} {hp : List (Nat × Ob)} {nx : Nat} {d : Nat}
variable {cert : List (Nat × Bool)} {W : List Nat} {nr : Nat} {os os0 ms ms0 : List Nat} {early fl : Bool} {k : AS → Prop} {i : Nat} {oi : Oper}
theorem uIxH {t e : Nat} {sz b' : Nat} {zs : List CV} {x ix : Operand} {id n : Nat} {ty e' : Nat} {xs : List HV} {q : Int} {inf : TInf} (m : Nat) (hi : nth l i = some oi) (ho : oi.op = .indexAddr t x ix)
    (hx : AS.eval ⟨fr, hp, nx⟩ x = some (.h (.sl id 0 n))) (hj : AS.eval ⟨fr, hp, nx⟩ ix = some (.h (.c (.int .i64 q)))) (ht : look t E.te = some ⟨.slice e, sz, b', zs⟩) (he : look e E.te = some inf) (hob : look id hp = some (.hrr ty e' xs)) (hes : e' = inf.sz)
    (hg : gdv l ⟨fr, hp, nx⟩ oi = some true) (hd : oi.dst = some d) (hn : Nat.blt d E.nt = true) (hk : q = (m : Int)) (hlt : m < n) (kk : AH2 E l cert W nr os ms os0 ms0 early fl ⟨(d, .h (.ptr id (m * inf.sz))) :: fr, hp, nx⟩ k) : AH2 E l ((i, true) :: cert) W nr os ms os0 ms0 early fl ⟨fr, hp, nx⟩ k := by
  refine uPS hi (by rw [ho]; exact ps_ixh m E.hte hx hj hk hlt ht he hob hes) hg hd hn ?_
  rw [Nat.zero_add]; exact kk
theorem uLdH {α : Type} {f : α → List CV} {t : Nat} {x : Operand} {id off : Nat} {ty e ti : Nat} {L : List (List α)} {h : HV} {inf : TInf} (D : List Nat) (m : Nat) (hi : nth l i = some oi) (ho : oi.op = .load t x) (hx : AS.eval ⟨fr, hp, nx⟩ x = some (.h (.ptr id off))) (hob : look id hp = some (.hrr ty e (hopen ti f L m h))) (hl : look t E.te = some inf) (ha : inf.d.isAgg = false)
    (hg : gdv l ⟨fr, hp, nx⟩ oi = some true) (hd : oi.dst = some d) (hn : Nat.blt d E.nt = true) (hid : okid (some os0) id = true) (hD : depOk .any l.toArray D i = true) (hW : W.all (fun j => D.contains j) = true) (hDc : D.all (fun d => d == i || cert.any (fun p => p.1 == d)) = true) (hoff : off = m * 1) (hlt : m < L.length) (hf : h.free = true)
    (kk : AH2 E l cert W nr os ms os0 ms0 true fl ⟨(d, .h h) :: fr, hp, nx⟩ k) : AH2 E l ((i, true) :: cert) W nr os ms os0 ms0 true fl ⟨fr, hp, nx⟩ k :=
  ah2_psD (x := .h h) D hi (by rw [ho]; exact ps_ldh E.hte hx hob hl hid rfl (by rw [hoff, Nat.mul_one, hopen_drop hlt]; simp only [loadH, ha, cond_false, hf, cond_true])) hg (dok_of hd hn) hD hW hDc (by rw [putd_of hd]; exact kk)
theorem ints_bx (ty e : Nat) : ∀ l : List Int, Ob.bx (.arr ty e (ints l)) = true
  | [] => rfl
  | _ :: l => ints_bx ty e l
theorem uIns {oa : List Operand} {x : List Int} {key : Int} {n a b : Nat} {rs : List (Nat × Ob)} {xs : List AV} (h60 : E.P = Try.prog) (hn' : n ≤ x.length) (hl : x.length ≤ 1000) (hi : nth l i = some oi) (hop : callOf ⟨fr, hp, nx⟩ oi.op = some (60, oa)) (hev : AS.evals ⟨fr, hp, nx⟩ oa = some xs)
    (hpk : pick [a, b] hp = some ([.arr 3 1 (ints x), .arr 3 1 (ints [key])], rs)) (hg : gdv l ⟨fr, hp, nx⟩ oi = some true) (hd : oi.dst = some d) (hn : Nat.blt d E.nt = true) (hW : W.contains i = false) (hm : [a, b].all (fun id => ms.contains id || Nat.ble nr id) = true) (hm0 : [a, b].all (fun id => ms0.contains id || Nat.ble nr id) = true)
    (hb : BorAs rs [a, b] 99 xs [.h (.sl 0 0 x.length), .h (.c (.int .i64 n)), .h (.sl 1 0 1)])
    (k1 : AH2 E l cert W nr os ms os0 ms0 true false ⟨(d, .h (.sl a 0 (x.length + 1))) :: fr, (a, .arr 3 1 (ints (insI x key n))) :: (b, .arr 3 1 (ints [key])) :: rs, nx⟩ k)
    (k2 : AH2 E l cert W nr os ms os0 ms0 true false ⟨(d, .h (.sl nx 0 (x.length + 1))) :: fr, (a, .arr 3 1 (ints x)) :: (b, .arr 3 1 (ints [key])) :: (nx, .arr 3 1 (ints (insI x key n))) :: rs, nx + 1⟩ k) : AH2 E l ((i, false) :: cert) W nr os ms os0 ms0 true fl ⟨fr, hp, nx⟩ k := by
  have h := eCall (E := E) (d := d) (rt := [0]) (h60 ▸ insert_ac x key n hn' hl) 99 [a, b] hop hev hpk rfl hd hn hb (by decide)
  rw [if_pos (by simp only [List.all_cons, ints_bx, List.all_nil, Bool.and_self])] at h
  refine ah2_es hi h hg hW hm hm0 (fun x ⟨r, hout, _, e⟩ => by rw [e]; exact Nat.le_add_right _ _) fun s' ⟨r, hout, hp, e⟩ => ?_
  subst e
  rcases hp with ⟨rfl, rfl⟩ | ⟨rfl, rfl⟩
  · exact k1
  · exact k2
end
theorem keys_incr {x : List Int} (h : keys x = true) : incr x := fun i j hij hi hj => List.pairwise_iff_getElem.1 (keys_iff2.1 h).2.2 i j hi hj hij
set_option maxHeartbeats 8000000 in
set_option maxRecDepth 100000 in
theorem implAdd_ac (tg : Nat) (e : Int) (l : List (List Int)) (ep key : Int) (hl : Sml 2097152 l) : AC Try.prog 39 [cv tg e l, .h (.c (.int .i64 ep)), .h (.c (.int .i64 key))] [] [0]
    (fun r h => h = [.arr 32 1 (ios (addL e l ep key))] ∧ r = .tup [.agg [.c (.int .i64 (addE e l key)), .sl 0 0 (addL e l ep key).length], .h (.c (.int .i64 (addN e l ep key)))]) := by
  refine ac_bodyM teok Try.func39 rfl (by kernel_rfl) Try.ntmps39 rfl rfl ?_
  intro w0 ps g0 im0
  have hdv := implCV_ac tg e l hl
  repeat (first | refine p1 rfl rfl rfl rfl ?_ | refine al_end ?_ | refine awp_seq ?_ | refine awp_region ?_ | refine awp_block ?_ | refine awp_skip' ?_ | refine awp_ret' ?_ | refine awp_exit' ?_ | refine xt_sq_n ?_ | refine xt_bk_n ?_ | refine xt_sq_r ?_ | refine xt_bk_r ?_ | refine xt_sq_x ?_ | refine xt_bk_eq ?_ | refine xt_bk_ne rfl ?_ | refine p0 rfl rfl rfl ?_ | refine p0n rfl rfl ?_ | refine pAr rfl rfl rfl rfl rfl rfl rfl (by omega) (by omega) ?_ | refine pBuild rfl rfl rfl rfl rfl rfl ?_ | refine pE (eAlloc rfl rfl rfl rfl) rfl ?_ | refine pE (eBox rfl rfl rfl rfl rfl) rfl ?_ | refine pE (eSt rfl rfl rfl rfl rfl rfl rfl rfl rfl) rfl ?_ | refine pE (eBs rfl rfl rfl rfl rfl rfl rfl rfl rfl) rfl ?_)
  refine pCv (hdv) rfl rfl (fun _ => rfl) rfl rfl rfl (by decide) (by repeat' (first | exact trivial | exact rfl | refine And.intro ?_ ?_ | exact Or.inl ⟨_, rfl, rfl⟩ | exact ⟨_, rfl, rfl⟩ | exact bor_sl rfl (by assumption) | exact bor_ios rfl | exact bor_ios1 rfl | exact bor_iosJ rfl)) ?_
  repeat' (first | refine p1 rfl rfl rfl rfl ?_ | refine al_end ?_ | refine awp_seq ?_ | refine awp_region ?_ | refine awp_block ?_ | refine awp_skip' ?_ | refine awp_ret' ?_ | refine awp_exit' ?_ | refine xt_sq_n ?_ | refine xt_bk_n ?_ | refine xt_sq_r ?_ | refine xt_bk_r ?_ | refine xt_sq_x ?_ | refine xt_bk_eq ?_ | refine xt_bk_ne rfl ?_ | refine p0 rfl rfl rfl ?_ | refine p0n rfl rfl ?_ | refine pAr rfl rfl rfl rfl rfl rfl rfl (by omega) (by omega) ?_ | refine pBuild rfl rfl rfl rfl rfl rfl ?_ | refine pE (eAlloc rfl rfl rfl rfl) rfl ?_ | refine pE (eBox rfl rfl rfl rfl rfl) rfl ?_ | refine pE (eSt rfl rfl rfl rfl rfl rfl rfl rfl rfl) rfl ?_ | refine pE (eBs rfl rfl rfl rfl rfl rfl rfl rfl rfl) rfl ?_ | refine awp_cond (b := true) rfl (fun _ => ?_) (fun h => Bool.noConfusion h) | refine awp_cond (b := false) rfl (fun h => Bool.noConfusion h) (fun _ => ?_) | ((fail_if_success refine pG (b := true) rfl rfl ?_ ?_); (fail_if_success refine pG (b := false) rfl rfl ?_ ?_); (refine pG rfl rfl (fun hc => ?_) (fun hc => ?_)) <;> try simp at hc) | ((refine awp_cond rfl (fun hc => ?_) (fun hc => ?_)) <;> try simp at hc) | refine pC0 (isElement_ac _) rfl rfl rfl rfl rfl rfl rfl (by decide) ?_)
  iterate 2
    · have hn : addOk e l key = false := by simp [addOk, *]
      have a1 : addL e l ep key = [] := by simp [addL, hn]
      have a2 : addE e l key = 0 := by simp [addE, hn]
      have a3 : addN e l ep key = 4 := by simp [addN, hn]
      rw [a1, a2, a3]
      refine xt_nownB (pre := [.c (.int .i64 0)]) (post := []) 1 32 1 rfl (xt_M ?_)
      exact xt_finG [(0, 2)] (.tup [.agg [.c (.int .i64 0), .sl 0 0 0], .h (.c (.int .i64 4))]) [.arr 32 1 []] (.inr rfl) rfl rfl rfl rfl rfl ⟨rfl, trivial⟩ (by repeat' (first | exact trivial | refine And.intro ?_ ?_)) ⟨trivial, trivial⟩ ⟨rfl, rfl⟩
  have hv : cval e l = true := by assumption
  have hok : addOk e l key = true := by simp [addOk, *]
  obtain ⟨he, h3, hks⟩ := cval_iff.1 hv
  have a2 : addE e l key = e := by simp [addE, hok]
  have fin : ∀ m : Int, m ≠ 0 → addN e l ep key = m → addL e l ep key = l := fun m h0 h1 => by rw [addL, if_pos hok, if_neg (by omega)]
  rw [a2]
  refine pC (eCall (copyCache_ac tg e l hl) 99 [] rfl rfl rfl rfl rfl rfl (by repeat' (first | exact trivial | exact rfl | refine And.intro ?_ ?_ | exact Or.inl ⟨_, rfl, rfl⟩ | exact ⟨_, rfl, rfl⟩ | exact bor_sl rfl (by assumption) | exact bor_ios rfl | exact bor_ios1 rfl | exact bor_iosJ rfl)) (by decide)) rfl ?_
  rintro _ _ ⟨rfl, rfl⟩
  repeat (first | refine p1 rfl rfl rfl rfl ?_ | refine al_end ?_ | refine awp_seq ?_ | refine awp_region ?_ | refine awp_block ?_ | refine awp_skip' ?_ | refine awp_ret' ?_ | refine awp_exit' ?_ | refine xt_sq_n ?_ | refine xt_bk_n ?_ | refine xt_sq_r ?_ | refine xt_bk_r ?_ | refine xt_sq_x ?_ | refine xt_bk_eq ?_ | refine xt_bk_ne rfl ?_ | refine p0 rfl rfl rfl ?_ | refine p0n rfl rfl ?_ | refine pAr rfl rfl rfl rfl rfl rfl rfl (by omega) (by omega) ?_ | refine pBuild rfl rfl rfl rfl rfl rfl ?_ | refine pE (eAlloc rfl rfl rfl rfl) rfl ?_ | refine pE (eBox rfl rfl rfl rfl rfl) rfl ?_ | refine pE (eSt rfl rfl rfl rfl rfl rfl rfl rfl rfl) rfl ?_ | refine pE (eBs rfl rfl rfl rfl rfl rfl rfl rfl rfl) rfl ?_)
  refine pCv (implSlot_ac tg e ep l he) rfl rfl (fun _ => rfl) rfl rfl rfl (by decide) (by repeat' (first | exact trivial | exact rfl | refine And.intro ?_ ?_ | exact Or.inl ⟨_, rfl, rfl⟩ | exact ⟨_, rfl, rfl⟩ | exact bor_sl rfl (by assumption) | exact bor_ios rfl | exact bor_ios1 rfl | exact bor_iosJ rfl)) ?_
  rcases slotV_bd e ep with h1 | ⟨k, h1, hk3, h2, h4, h5⟩
  · have a3 : addN e l ep key = 2 := by rw [addN, if_pos hok, if_pos (by omega)]
    rw [fin 2 (by omega) a3, a3]
    repeat' (first | refine p1 rfl rfl rfl rfl ?_ | refine al_end ?_ | refine awp_seq ?_ | refine awp_region ?_ | refine awp_block ?_ | refine awp_skip' ?_ | refine awp_ret' ?_ | refine awp_exit' ?_ | refine xt_sq_n ?_ | refine xt_bk_n ?_ | refine xt_sq_r ?_ | refine xt_bk_r ?_ | refine xt_sq_x ?_ | refine xt_bk_eq ?_ | refine xt_bk_ne rfl ?_ | refine p0 rfl rfl rfl ?_ | refine p0n rfl rfl ?_ | refine pAr rfl rfl rfl rfl rfl rfl rfl (by omega) (by omega) ?_ | refine pBuild rfl rfl rfl rfl rfl rfl ?_ | refine pE (eAlloc rfl rfl rfl rfl) rfl ?_ | refine pE (eBox rfl rfl rfl rfl rfl) rfl ?_ | refine pE (eSt rfl rfl rfl rfl rfl rfl rfl rfl rfl) rfl ?_ | refine pE (eBs rfl rfl rfl rfl rfl rfl rfl rfl rfl) rfl ?_ | refine awp_cond (b := true) rfl (fun _ => ?_) (fun h => Bool.noConfusion h) | refine awp_cond (b := false) rfl (fun h => Bool.noConfusion h) (fun _ => ?_) | ((fail_if_success refine pG (b := true) rfl rfl ?_ ?_); (fail_if_success refine pG (b := false) rfl rfl ?_ ?_); (refine pG rfl rfl (fun hc => ?_) (fun hc => ?_)) <;> try simp at hc) | ((refine awp_cond rfl (fun hc => ?_) (fun hc => ?_)) <;> try simp at hc))
    · exact xt_M (xt_finG [(0, 2)] (.tup [.agg [.c (.int .i64 e), .sl 0 0 l.length], .h (.c (.int .i64 2))]) [.arr 32 1 (ios l)] (.inr rfl) rfl rfl rfl rfl rfl ⟨rfl, trivial⟩ (by repeat' (first | exact trivial | refine And.intro ?_ ?_)) ⟨ios_tgs l, trivial⟩ ⟨rfl, rfl⟩)
    · omega
  have hkl : k < l.length := by omega
  have hsn : slotN e ep = k := by unfold slotN; omega
  have hgd : l.getD (slotN e ep) [] = l[k] := by rw [hsn]; exact getD_atL hkl
  have h6 := (keys_iff.1 (hks _ (List.getElem_mem hkl))).1
  have hN : addN e l ep key = if key ∈ l[k] then 1 else if 6 ≤ l[k].length then 3 else 0 := by rw [addN, if_pos hok, if_neg (by omega), hgd]
  rw [h1]
  repeat' (first | refine p1 rfl rfl rfl rfl ?_ | refine al_end ?_ | refine awp_seq ?_ | refine awp_region ?_ | refine awp_block ?_ | refine awp_skip' ?_ | refine awp_ret' ?_ | refine awp_exit' ?_ | refine xt_sq_n ?_ | refine xt_bk_n ?_ | refine xt_sq_r ?_ | refine xt_bk_r ?_ | refine xt_sq_x ?_ | refine xt_bk_eq ?_ | refine xt_bk_ne rfl ?_ | refine p0 rfl rfl rfl ?_ | refine p0n rfl rfl ?_ | refine pAr rfl rfl rfl rfl rfl rfl rfl (by omega) (by omega) ?_ | refine pBuild rfl rfl rfl rfl rfl rfl ?_ | refine pE (eAlloc rfl rfl rfl rfl) rfl ?_ | refine pE (eBox rfl rfl rfl rfl rfl) rfl ?_ | refine pE (eSt rfl rfl rfl rfl rfl rfl rfl rfl rfl) rfl ?_ | refine pE (eBs rfl rfl rfl rfl rfl rfl rfl rfl rfl) rfl ?_ | refine awp_cond (b := true) rfl (fun _ => ?_) (fun h => Bool.noConfusion h) | refine awp_cond (b := false) rfl (fun h => Bool.noConfusion h) (fun _ => ?_) | ((fail_if_success refine pG (b := true) rfl rfl ?_ ?_); (fail_if_success refine pG (b := false) rfl rfl ?_ ?_); (refine pG rfl rfl (fun hc => ?_) (fun hc => ?_)) <;> try simp at hc) | ((refine awp_cond rfl (fun hc => ?_) (fun hc => ?_)) <;> try simp at hc))
  all_goals try (exfalso; omega)
  refine pIxR (f := ird (tg + 1) int1) (L := l) k rfl rfl rfl rfl rfl rfl rfl rfl rfl (fun _ => rfl) rfl rfl hkl ?_
  repeat (first | refine p1 rfl rfl rfl rfl ?_ | refine al_end ?_ | refine awp_seq ?_ | refine awp_region ?_ | refine awp_block ?_ | refine awp_skip' ?_ | refine awp_ret' ?_ | refine awp_exit' ?_ | refine xt_sq_n ?_ | refine xt_bk_n ?_ | refine xt_sq_r ?_ | refine xt_bk_r ?_ | refine xt_sq_x ?_ | refine xt_bk_eq ?_ | refine xt_bk_ne rfl ?_ | refine p0 rfl rfl rfl ?_ | refine p0n rfl rfl ?_ | refine pAr rfl rfl rfl rfl rfl rfl rfl (by omega) (by omega) ?_ | refine pBuild rfl rfl rfl rfl rfl rfl ?_ | refine pE (eAlloc rfl rfl rfl rfl) rfl ?_ | refine pE (eBox rfl rfl rfl rfl rfl) rfl ?_ | refine pE (eSt rfl rfl rfl rfl rfl rfl rfl rfl rfl) rfl ?_ | refine pE (eBs rfl rfl rfl rfl rfl rfl rfl rfl rfl) rfl ?_)
  refine pCv (bsearch_ac tg l[k] key (keys_incr (hks _ (List.getElem_mem hkl))) (by omega)) rfl rfl (fun _ => rfl) rfl rfl rfl (by decide) (by repeat' (first | exact trivial | exact rfl | refine And.intro ?_ ?_ | exact Or.inl ⟨_, rfl, rfl⟩ | exact ⟨_, rfl, rfl⟩ | exact bor_sl rfl (by assumption) | exact bor_ios rfl | exact bor_ios1 rfl | exact bor_iosJ rfl)) ?_
  repeat' (first | refine p1 rfl rfl rfl rfl ?_ | refine al_end ?_ | refine awp_seq ?_ | refine awp_region ?_ | refine awp_block ?_ | refine awp_skip' ?_ | refine awp_ret' ?_ | refine awp_exit' ?_ | refine xt_sq_n ?_ | refine xt_bk_n ?_ | refine xt_sq_r ?_ | refine xt_bk_r ?_ | refine xt_sq_x ?_ | refine xt_bk_eq ?_ | refine xt_bk_ne rfl ?_ | refine p0 rfl rfl rfl ?_ | refine p0n rfl rfl ?_ | refine pAr rfl rfl rfl rfl rfl rfl rfl (by omega) (by omega) ?_ | refine pBuild rfl rfl rfl rfl rfl rfl ?_ | refine pE (eAlloc rfl rfl rfl rfl) rfl ?_ | refine pE (eBox rfl rfl rfl rfl rfl) rfl ?_ | refine pE (eSt rfl rfl rfl rfl rfl rfl rfl rfl rfl) rfl ?_ | refine pE (eBs rfl rfl rfl rfl rfl rfl rfl rfl rfl) rfl ?_ | refine awp_cond (b := true) rfl (fun _ => ?_) (fun h => Bool.noConfusion h) | refine awp_cond (b := false) rfl (fun h => Bool.noConfusion h) (fun _ => ?_) | ((fail_if_success refine pG (b := true) rfl rfl ?_ ?_); (fail_if_success refine pG (b := false) rfl rfl ?_ ?_); (refine pG rfl rfl (fun hc => ?_) (fun hc => ?_)) <;> try simp at hc) | ((refine awp_cond rfl (fun hc => ?_) (fun hc => ?_)) <;> try simp at hc))
  · have hm : key ∈ l[k] := by simpa using hc
    have a3 : addN e l ep key = 1 := by rw [hN, if_pos hm]
    rw [fin 1 (by omega) a3, a3]
    exact xt_M (xt_finG [(0, 2)] (.tup [.agg [.c (.int .i64 e), .sl 0 0 l.length], .h (.c (.int .i64 1))]) [.arr 32 1 (ios l)] (.inr rfl) rfl rfl rfl rfl rfl ⟨rfl, trivial⟩ (by repeat' (first | exact trivial | refine And.intro ?_ ?_)) ⟨ios_tgs l, trivial⟩ ⟨rfl, rfl⟩)
  have hnm : key ∉ l[k] := by simpa using hc
  refine pIxR (f := ird (tg + 1) int1) (L := l) k rfl rfl rfl rfl rfl rfl rfl rfl rfl (fun _ => rfl) rfl rfl hkl ?_
  repeat' (first | refine p1 rfl rfl rfl rfl ?_ | refine al_end ?_ | refine awp_seq ?_ | refine awp_region ?_ | refine awp_block ?_ | refine awp_skip' ?_ | refine awp_ret' ?_ | refine awp_exit' ?_ | refine xt_sq_n ?_ | refine xt_bk_n ?_ | refine xt_sq_r ?_ | refine xt_bk_r ?_ | refine xt_sq_x ?_ | refine xt_bk_eq ?_ | refine xt_bk_ne rfl ?_ | refine p0 rfl rfl rfl ?_ | refine p0n rfl rfl ?_ | refine pAr rfl rfl rfl rfl rfl rfl rfl (by omega) (by omega) ?_ | refine pBuild rfl rfl rfl rfl rfl rfl ?_ | refine pE (eAlloc rfl rfl rfl rfl) rfl ?_ | refine pE (eBox rfl rfl rfl rfl rfl) rfl ?_ | refine pE (eSt rfl rfl rfl rfl rfl rfl rfl rfl rfl) rfl ?_ | refine pE (eBs rfl rfl rfl rfl rfl rfl rfl rfl rfl) rfl ?_ | refine awp_cond (b := true) rfl (fun _ => ?_) (fun h => Bool.noConfusion h) | refine awp_cond (b := false) rfl (fun h => Bool.noConfusion h) (fun _ => ?_) | ((fail_if_success refine pG (b := true) rfl rfl ?_ ?_); (fail_if_success refine pG (b := false) rfl rfl ?_ ?_); (refine pG rfl rfl (fun hc => ?_) (fun hc => ?_)) <;> try simp at hc) | ((refine awp_cond rfl (fun hc => ?_) (fun hc => ?_)) <;> try simp at hc))
  · have a3 : addN e l ep key = 3 := by rw [hN, if_neg hnm, if_pos (by omega)]
    rw [fin 3 (by omega) a3, a3]
    exact xt_M (xt_finG [(0, 2)] (.tup [.agg [.c (.int .i64 e), .sl 0 0 l.length], .h (.c (.int .i64 3))]) [.arr 32 1 (ios l)] (.inr rfl) rfl rfl rfl rfl rfl ⟨rfl, trivial⟩ (by repeat' (first | exact trivial | refine And.intro ?_ ?_)) ⟨ios_tgs l, trivial⟩ ⟨rfl, rfl⟩)
  have a3 : addN e l ep key = 0 := by rw [hN, if_neg hnm, if_neg (by omega)]
  have a1 : addL e l ep key = l.set k (ins l[k] key) := by rw [addL, if_pos hok, if_pos a3, hsn, getD_atL hkl]
  rw [a1, a3]
  refine awp_openR (f := int1) (L := l) 2 k rfl hkl ?_
  ((repeat (first | refine awp_seq ?_ | refine awp_block ?_ | refine awp_skip' ?_ | refine xt_sq_n ?_ | refine xt_bk_n ?_)); refine awp_draw2 [(0, true), (1, true), (2, true), (3, true), (4, true), (5, true), (6, true), (7, true), (8, true), (9, true), (10, false), (11, false), (12, true), (13, false)] [13] [2, 4] [4] mixed (by kernel_rfl) (by kernel_rfl) rfl rfl rfl rfl ?_)
  repeat (first | refine u1 rfl rfl rfl rfl rfl ?_ | refine uBuild rfl rfl rfl rfl rfl rfl rfl ?_ | refine uAr rfl rfl rfl rfl rfl rfl rfl rfl (by omega) (by omega) ?_ | refine uE rfl (eBs rfl rfl rfl rfl rfl rfl rfl rfl rfl) rfl rfl rfl rfl rfl ?_ | refine ah2_nil ?_)
  refine uIxH k rfl rfl rfl rfl rfl rfl rfl rfl rfl rfl rfl rfl hkl ?_
  refine uLdH (f := int1) (L := l) [7, 11, 13] k rfl rfl rfl rfl rfl rfl rfl rfl rfl rfl (by kernel_rfl) rfl rfl rfl hkl rfl ?_
  repeat (first | refine u1 rfl rfl rfl rfl rfl ?_ | refine uBuild rfl rfl rfl rfl rfl rfl rfl ?_ | refine uAr rfl rfl rfl rfl rfl rfl rfl rfl (by omega) (by omega) ?_ | refine uE rfl (eBs rfl rfl rfl rfl rfl rfl rfl rfl rfl) rfl rfl rfl rfl rfl ?_ | refine ah2_nil ?_)
  refine uIns (a := 4) (b := 5) (x := l[k]) (key := key) (n := insAt key l[k]) rfl (insAt_le key _) (by omega) rfl rfl rfl rfl rfl rfl rfl rfl rfl rfl (by repeat' (first | exact trivial | exact rfl | refine And.intro ?_ ?_ | exact Or.inl ⟨_, rfl, rfl⟩ | exact ⟨_, rfl, rfl⟩ | exact bor_sl rfl (by assumption) | exact bor_ios rfl | exact bor_ios1 rfl | exact bor_iosJ rfl)) ?_ ?_
  all_goals
    repeat (first | refine u1 rfl rfl rfl rfl rfl ?_ | refine uBuild rfl rfl rfl rfl rfl rfl rfl ?_ | refine uAr rfl rfl rfl rfl rfl rfl rfl rfl (by omega) (by omega) ?_ | refine uE rfl (eBs rfl rfl rfl rfl rfl rfl rfl rfl rfl) rfl rfl rfl rfl rfl ?_ | refine ah2_nil ?_)
    refine uIxH k rfl rfl rfl rfl rfl rfl rfl rfl rfl rfl rfl rfl hkl ?_
    refine uLate rfl (eStH (f := int1) (L := l) k rfl rfl rfl rfl rfl rfl rfl rfl hkl) rfl rfl rfl rfl ?_
    refine ah2_nil ?_
  · repeat (first | refine xt_sq_n ?_ | refine xt_bk_n ?_)
    refine awp_closeR (f := int1) (L := l) (x := ins l[k] key) 2 4 k rfl rfl hkl (ins_len _ _).symm ?_
    repeat (first | refine p1 rfl rfl rfl rfl ?_ | refine al_end ?_ | refine awp_seq ?_ | refine awp_region ?_ | refine awp_block ?_ | refine awp_skip' ?_ | refine awp_ret' ?_ | refine awp_exit' ?_ | refine xt_sq_n ?_ | refine xt_bk_n ?_ | refine xt_sq_r ?_ | refine xt_bk_r ?_ | refine xt_sq_x ?_ | refine xt_bk_eq ?_ | refine xt_bk_ne rfl ?_ | refine p0 rfl rfl rfl ?_ | refine p0n rfl rfl ?_ | refine pAr rfl rfl rfl rfl rfl rfl rfl (by omega) (by omega) ?_ | refine pBuild rfl rfl rfl rfl rfl rfl ?_ | refine pE (eAlloc rfl rfl rfl rfl) rfl ?_ | refine pE (eBox rfl rfl rfl rfl rfl) rfl ?_ | refine pE (eSt rfl rfl rfl rfl rfl rfl rfl rfl rfl) rfl ?_ | refine pE (eBs rfl rfl rfl rfl rfl rfl rfl rfl rfl) rfl ?_)
    exact xt_M (xt_finG [(0, 2)] (.tup [.agg [.c (.int .i64 e), .sl 0 0 l.length], .h (.c (.int .i64 0))]) [.arr 32 1 (ios (l.set k (ins l[k] key)))] (.inr rfl) rfl rfl rfl rfl rfl ⟨rfl, trivial⟩ (by repeat' (first | exact trivial | refine And.intro ?_ ?_)) ⟨ios_tgs _, trivial⟩ ⟨rfl, by rw [List.length_set]⟩)
  · repeat (first | refine xt_sq_n ?_ | refine xt_bk_n ?_)
    refine awp_closeR (f := int1) (L := l) (x := ins l[k] key) 2 6 k rfl rfl hkl (ins_len _ _).symm ?_
    repeat (first | refine p1 rfl rfl rfl rfl ?_ | refine al_end ?_ | refine awp_seq ?_ | refine awp_region ?_ | refine awp_block ?_ | refine awp_skip' ?_ | refine awp_ret' ?_ | refine awp_exit' ?_ | refine xt_sq_n ?_ | refine xt_bk_n ?_ | refine xt_sq_r ?_ | refine xt_bk_r ?_ | refine xt_sq_x ?_ | refine xt_bk_eq ?_ | refine xt_bk_ne rfl ?_ | refine p0 rfl rfl rfl ?_ | refine p0n rfl rfl ?_ | refine pAr rfl rfl rfl rfl rfl rfl rfl (by omega) (by omega) ?_ | refine pBuild rfl rfl rfl rfl rfl rfl ?_ | refine pE (eAlloc rfl rfl rfl rfl) rfl ?_ | refine pE (eBox rfl rfl rfl rfl rfl) rfl ?_ | refine pE (eSt rfl rfl rfl rfl rfl rfl rfl rfl rfl) rfl ?_ | refine pE (eBs rfl rfl rfl rfl rfl rfl rfl rfl rfl) rfl ?_)
    exact xt_M (xt_finG [(0, 2)] (.tup [.agg [.c (.int .i64 e), .sl 0 0 l.length], .h (.c (.int .i64 0))]) [.arr 32 1 (ios (l.set k (ins l[k] key)))] (.inr rfl) rfl rfl rfl rfl rfl ⟨rfl, trivial⟩ (by repeat' (first | exact trivial | refine And.intro ?_ ?_)) ⟨ios_tgs _, trivial⟩ ⟨rfl, by rw [List.length_set]⟩)
theorem addL_or (e : Int) (l : List (List Int)) (ep key : Int) : addL e l ep key = [] ∨ cval (addE e l key) (addL e l ep key) = true := by
  cases h : addOk e l key with
  | false => left; simp [addL, h]
  | true =>
    right
    have : cval e l = true ∧ elt key = true := by simpa [addOk] using h
    exact add_valid this.1 this.2
theorem addL_sml {n : Nat} {e : Int} {l : List (List Int)} {ep key : Int} (hn : 7 ≤ n) : Sml n (addL e l ep key) := by
  rcases addL_or e l ep key with h | h
  · rw [h]; exact ⟨by simp, fun x hx => by cases hx⟩
  · exact cval_sml h (by omega)
theorem lens_add (e : Int) (l : List (List Int)) (ep key : Int) : lens (addL e l ep key) ≤ 18 := by
  rcases addL_or e l ep key with h | h
  · rw [h]; simp [lens]
  · obtain ⟨_, h3, h4⟩ := cval_iff.1 h
    have := lens_le (n := 0) (m := 6) (addL e l ep key) fun x hx => (keys_iff.1 (h4 x hx)).1
    omega
/-- An addition that went well; the same again. -/
theorem add_zero {e : Int} {l : List (List Int)} {ep key : Int} (h0 : addN e l ep key = 0) : cval e l = true ∧ elt key = true ∧ ∃ (k : Nat) (hkl : k < l.length), slotV e ep = k ∧ slotN e ep = k ∧ key ∉ l[k] ∧ l[k].length < 6 ∧ addL e l ep key = l.set k (ins l[k] key) ∧ addE e l key = e := by
  have hok : addOk e l key = true := by
    cases h : addOk e l key with
    | true => rfl
    | false => simp [addN, h] at h0
  have hv : cval e l = true ∧ elt key = true := by simpa [addOk] using hok
  rcases add_cases (ep := ep) hv.1 hv.2 with ⟨h, _⟩ | ⟨k, hkl, h1, h2, h3, h4, _, h5, h6⟩
  · exact absurd h0 h
  · exact ⟨hv.1, hv.2, k, hkl, h1, h2, h3, h4, h5, h6⟩
theorem mem_ins {x : List Int} {key a : Int} : a ∈ ins x key ↔ a = key ∨ a ∈ x := by rw [ins_eq]; exact mem_insR
theorem add_twice {e : Int} {l : List (List Int)} {ep key : Int} (h0 : addN e l ep key = 0) : addN (addE e l key) (addL e l ep key) ep key = 1 ∧ addL (addE e l key) (addL e l ep key) ep key = addL e l ep key ∧ addE (addE e l key) (addL e l ep key) key = addE e l key := by
  obtain ⟨hv, hk, k, hkl, h1, h2, h3, h4, h5, h6⟩ := add_zero h0
  have hv2 := add_valid (ep := ep) hv hk
  have hok : addOk (addE e l key) (addL e l ep key) key = true := by simp [addOk, hv2, hk]
  rw [h6] at hok ⊢
  have hn : addN e (addL e l ep key) ep key = 1 := by
    rw [addN, if_pos hok, if_neg (by omega), h5, h2, getD_atL (by simpa using hkl), if_pos (by simp [mem_ins])]
  exact ⟨hn, by rw [addL, if_pos hok, if_neg (by omega)], by simp [addE, hok]⟩
end Go.Proofs.Ytjijkdhjfanpaaa
