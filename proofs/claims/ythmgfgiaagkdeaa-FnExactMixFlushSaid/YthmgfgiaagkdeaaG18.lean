import Derived.Test.YthmgfgiaagkdeaaG17
import Derived.Test.YthmgfgiaagkdeaaEngC
namespace Go.Proofs.Ythmgfgiaagkdeaa
open Go.RowKit
attribute [local irreducible] AWP AL XT AC ES PS AH AH2 LpQ
/-! ### a store of a peeled packet into a row -/
def pcell (L : List Pl) (m : Nat) (z : Pl) (a b : HV) : List HV := (rows pow (L.take m)).map HV.c ++ ([.c (.int .i64 z.kind), .c (.int .i64 z.next), .c (.int .i64 z.pk.el), a, .c (.int .i64 z.pk.tag), b] ++ (rows pow (L.drop (m + 1))).map HV.c)
theorem pcell_set {L : List Pl} {m : Nat} (z : Pl) (a b : HV) : setL ((rows pow L).map HV.c) (m * 6) [.c (.int .i64 z.kind), .c (.int .i64 z.next), .c (.int .i64 z.pk.el), a, .c (.int .i64 z.pk.tag), b] = pcell L m z a b := by
  unfold setL pcell
  rw [← List.map_take, ← List.map_drop]
  have e1 : (rows pow L).take (m * 6) = rows pow (L.take m) := rows_take (n := 6) (fun _ => rfl) L m
  have e2 : (rows pow L).drop (m * 6 + 6) = rows pow (L.drop (m + 1)) := by
    rw [show m * 6 + 6 = (m + 1) * 6 by omega]
    exact rows_drop (n := 6) (fun _ => rfl) L (m + 1)
  rw [e1]
  show _ ++ (_ ++ List.map HV.c ((rows pow L).drop (m * 6 + 6))) = _
  rw [e2]
theorem pcell_all {L : List Pl} {m : Nat} (hm : m < L.length) (z : Pl) : pcell L m z (.c (.ow 3 1 z.pk.hd.length (ints z.pk.hd))) (.c (.ow 3 1 z.pk.bd.length (ints z.pk.bd))) = (rows pow (L.set m z)).map HV.c := by
  have : L.set m z = L.take m ++ z :: L.drop (m + 1) := by rw [List.set_eq_take_append_cons_drop, if_pos hm]
  rw [this, rows_append, List.map_append]
  rfl
section
variable {E : Env} {l rest : List Oper} {fr : List (Nat × AV)} {hp : List (Nat × Ob)} {nx : Nat} {o : Oper} {Q : Exit → AS → Prop} {d : Nat}
theorem eStP {t : TypeId} {x y : Operand} {id j1 j2 off n1 n2 : Nat} {ty : Nat} {L : List Pl} {z : Pl} {inf : TInf} (m : Nat) (ho : o.op = .store t x y) (hx : AS.eval ⟨fr, hp, nx⟩ x = some (.h (.ptr id off)))
    (hy : AS.eval ⟨fr, hp, nx⟩ y = some (.agg [.c (.int .i64 z.kind), .c (.int .i64 z.next), .c (.int .i64 z.pk.el), .sl j1 0 n1, .c (.int .i64 z.pk.tag), .sl j2 0 n2])) (hl : look id hp = some (.arr ty 6 (rows pow L)))
    (hl2 : look id (upd id (.hrr ty 6 ((rows pow L).map HV.c)) hp) = some (.hrr ty 6 ((rows pow L).map HV.c)))
    (hA : upd id (.hrr ty 6 (pcell L m z (.sl j1 0 n1) (.sl j2 0 n2))) (upd id (.hrr ty 6 ((rows pow L).map HV.c)) hp) = upd id (.hrr ty 6 (pcell L m z (.sl j1 0 n1) (.sl j2 0 n2))) hp)
    (hj1 : look j1 (upd id (.hrr ty 6 (pcell L m z (.sl j1 0 n1) (.sl j2 0 n2))) hp) = some (.arr 3 1 (ints z.pk.hd)))
    (hi1 : look id (del j1 (upd id (.hrr ty 6 (pcell L m z (.sl j1 0 n1) (.sl j2 0 n2))) hp)) = some (.hrr ty 6 (pcell L m z (.sl j1 0 n1) (.sl j2 0 n2))))
    (hB : upd id (.hrr ty 6 (pcell L m z (.c (.ow 3 1 n1 (ints z.pk.hd))) (.sl j2 0 n2))) (del j1 (upd id (.hrr ty 6 (pcell L m z (.sl j1 0 n1) (.sl j2 0 n2))) hp)) = upd id (.hrr ty 6 (pcell L m z (.c (.ow 3 1 n1 (ints z.pk.hd))) (.sl j2 0 n2))) (del j1 hp))
    (hj2 : look j2 (upd id (.hrr ty 6 (pcell L m z (.c (.ow 3 1 n1 (ints z.pk.hd))) (.sl j2 0 n2))) (del j1 hp)) = some (.arr 3 1 (ints z.pk.bd)))
    (hi2 : look id (del j2 (upd id (.hrr ty 6 (pcell L m z (.c (.ow 3 1 n1 (ints z.pk.hd))) (.sl j2 0 n2))) (del j1 hp))) = some (.hrr ty 6 (pcell L m z (.c (.ow 3 1 n1 (ints z.pk.hd))) (.sl j2 0 n2))))
    (hC : upd id (.hrr ty 6 (pcell L m z (.c (.ow 3 1 n1 (ints z.pk.hd))) (.c (.ow 3 1 n2 (ints z.pk.bd))))) (del j2 (upd id (.hrr ty 6 (pcell L m z (.c (.ow 3 1 n1 (ints z.pk.hd))) (.sl j2 0 n2))) (del j1 hp))) = upd id (.hrr ty 6 (pcell L m z (.c (.ow 3 1 n1 (ints z.pk.hd))) (.c (.ow 3 1 n2 (ints z.pk.bd))))) (del j2 (del j1 hp)))
    (hD : look id (upd id (.hrr ty 6 ((rows pow (L.set m z)).map HV.c)) (del j2 (del j1 hp))) = some (.hrr ty 6 ((rows pow (L.set m z)).map HV.c)))
    (hE : upd id (.arr ty 6 (rows pow (L.set m z))) (upd id (.hrr ty 6 ((rows pow (L.set m z)).map HV.c)) (del j2 (del j1 hp))) = upd id (.arr ty 6 (rows pow (L.set m z))) (del j2 (del j1 hp)))
    (ht : look t E.te = some inf) (hsz : Nat.beq 6 inf.sz = true) (hd : o.dst = none) (hoff : off = m * 6) (hlt : m < L.length) (hn1 : n1 = z.pk.hd.length) (hn2 : n2 = z.pk.bd.length) :
    ES E ⟨fr, hp, nx⟩ o (some [id]) (fun x => x = ⟨fr, upd id (.arr ty 6 (rows pow (L.set m z))) (del j2 (del j1 hp)), nx⟩) := by
  have hev : ∀ (hp' : List (Nat × Ob)) (x : Operand), AS.eval ⟨fr, hp', nx⟩ x = AS.eval ⟨fr, hp, nx⟩ x := fun hp' x => by cases x <;> rfl
  refine es_conv (s1 := ⟨fr, upd id (.hrr ty 6 ((rows pow L).map HV.c)) hp, nx⟩) (fun g im a w h => sim_hrr id hl h) rfl
    (es_sth E.hte ho (by rw [hev]; exact hx) (by rw [hev]; exact hy) (ys := [.c (.int .i64 z.kind), .c (.int .i64 z.next), .c (.int .i64 z.pk.el), .sl j1 0 n1, .c (.int .i64 z.pk.tag), .sl j2 0 n2]) rfl hl2 ht (Nat.eq_of_beq_eq_true hsz) (by
      rw [hoff, List.length_map, rows_length (n := 6) (fun _ => rfl)]
      show m * 6 + 6 ≤ _
      omega) (by rw [hd]; rfl) (Q := fun x => x = ⟨fr, upd id (.hrr ty 6 (pcell L m z (.sl j1 0 n1) (.sl j2 0 n2))) hp, nx⟩) ?_) ?_
  · rw [hd]
    show (⟨fr, _, nx⟩ : AS) = _
    rw [hoff, pcell_set, hA]
  · rintro _ rfl
    refine ⟨_, fun g im a w h => ?_, rfl⟩
    have c1 : pcell L m z (.sl j1 0 n1) (.sl j2 0 n2) = ((rows pow (L.take m)).map HV.c ++ [.c (.int .i64 z.kind), .c (.int .i64 z.next), .c (.int .i64 z.pk.el)]) ++ HV.sl j1 0 n1 :: ([.c (.int .i64 z.pk.tag), .sl j2 0 n2] ++ (rows pow (L.drop (m + 1))).map HV.c) := by simp [pcell]
    have c2 : pcell L m z (.c (.ow 3 1 n1 (ints z.pk.hd))) (.sl j2 0 n2) = ((rows pow (L.take m)).map HV.c ++ [.c (.int .i64 z.kind), .c (.int .i64 z.next), .c (.int .i64 z.pk.el), .c (.ow 3 1 n1 (ints z.pk.hd)), .c (.int .i64 z.pk.tag)]) ++ HV.sl j2 0 n2 :: (rows pow (L.drop (m + 1))).map HV.c := by simp [pcell]
    have a1 := sim_closeH (pre := (rows pow (L.take m)).map HV.c ++ [.c (.int .i64 z.kind), .c (.int .i64 z.next), .c (.int .i64 z.pk.el)]) (post := [.c (.int .i64 z.pk.tag), .sl j2 0 n2] ++ (rows pow (L.drop (m + 1))).map HV.c) id j1 hj1 (hi1.trans (congrArg (fun c => some (Ob.hrr ty 6 c)) c1)) h
    have s1 : ((rows pow (L.take m)).map HV.c ++ [.c (.int .i64 z.kind), .c (.int .i64 z.next), .c (.int .i64 z.pk.el)]) ++ HV.c (.ow 3 1 n1 (ints z.pk.hd)) :: ([.c (.int .i64 z.pk.tag), .sl j2 0 n2] ++ (rows pow (L.drop (m + 1))).map HV.c) = pcell L m z (.c (.ow 3 1 n1 (ints z.pk.hd))) (.sl j2 0 n2) := by simp [pcell]
    rw [s1, hB] at a1
    have a2 := sim_closeH (pre := (rows pow (L.take m)).map HV.c ++ [.c (.int .i64 z.kind), .c (.int .i64 z.next), .c (.int .i64 z.pk.el), .c (.ow 3 1 n1 (ints z.pk.hd)), .c (.int .i64 z.pk.tag)]) (post := (rows pow (L.drop (m + 1))).map HV.c) id j2 hj2 (hi2.trans (congrArg (fun c => some (Ob.hrr ty 6 c)) c2)) a1
    have s2 : ((rows pow (L.take m)).map HV.c ++ [.c (.int .i64 z.kind), .c (.int .i64 z.next), .c (.int .i64 z.pk.el), .c (.ow 3 1 n1 (ints z.pk.hd)), .c (.int .i64 z.pk.tag)]) ++ HV.c (.ow 3 1 n2 (ints z.pk.bd)) :: (rows pow (L.drop (m + 1))).map HV.c = pcell L m z (.c (.ow 3 1 n1 (ints z.pk.hd))) (.c (.ow 3 1 n2 (ints z.pk.bd))) := by simp [pcell]
    rw [s2, hC, hn1, hn2, pcell_all hlt] at a2
    have a3 := sim_unhrr id hD a2
    rw [hE] at a3
    exact a3
end
theorem set_fillP (l : List Pl) (z : Pl) {k : Nat} (hk : k < l.length) : (l.take k ++ List.replicate (l.length - k) z).set k l[k] = l.take (k + 1) ++ List.replicate (l.length - (k + 1)) z := by
  rw [List.set_append_right _ _ (by simp; omega)]
  have h1 : k - (l.take k).length = 0 := by simp; omega
  have h2 : l.length - k = (l.length - (k + 1)) + 1 := by omega
  rw [h1, h2, List.replicate_succ, List.set_cons_zero, List.take_succ_eq_append_getElem hk, List.append_assoc]
  rfl
set_option maxRecDepth 100000 in
theorem toPacket_ac (t : Nat) (p : Pk) (hl : p.hd.length ≤ 1048576) (hb : p.bd.length ≤ 1048576) : AC Try.prog 45 [pv t p] [] [0] (fun r h => h = pObs p ∧ r = pw p) := by
  refine ac_body teok Try.func45 rfl (by kernel_rfl) Try.ntmps45 rfl rfl ?_
  intro w0 ps g0 im0
  repeat (first | refine p1 rfl rfl rfl rfl ?_ | refine al_end ?_ | refine awp_seq ?_ | refine awp_region ?_ | refine awp_block ?_ | refine awp_skip' ?_ | refine awp_ret' ?_ | refine awp_exit' ?_ | refine xt_sq_n ?_ | refine xt_bk_n ?_ | refine xt_sq_r ?_ | refine xt_bk_r ?_ | refine xt_sq_x ?_ | refine xt_bk_eq ?_ | refine xt_bk_ne rfl ?_ | refine p0 rfl rfl rfl ?_ | refine p0n rfl rfl ?_ | refine pAr rfl rfl rfl rfl rfl rfl rfl (by omega) (by omega) ?_ | refine pBuild rfl rfl rfl rfl rfl rfl ?_ | refine pE (eAlloc rfl rfl rfl rfl) rfl ?_ | refine pE (eBox rfl rfl rfl rfl rfl) rfl ?_ | refine pE (eSt rfl rfl rfl rfl rfl rfl rfl rfl rfl) rfl ?_ | refine pE (eBs rfl rfl rfl rfl rfl rfl rfl rfl rfl) rfl ?_)
  refine pCn (toIntS_ac t p.hd hl) rfl rfl rfl rfl rfl (by decide) (by repeat' (first | exact trivial | exact rfl | refine And.intro ?_ ?_ | exact Or.inl ⟨_, rfl, rfl⟩ | exact ⟨_, rfl, rfl⟩ | exact bor_sl rfl (by assumption) | exact bor_ios rfl | exact bor_ios1 rfl | exact bor_iosJ rfl | exact bor_pw rfl)) ?_
  repeat (first | refine p1 rfl rfl rfl rfl ?_ | refine al_end ?_ | refine awp_seq ?_ | refine awp_region ?_ | refine awp_block ?_ | refine awp_skip' ?_ | refine awp_ret' ?_ | refine awp_exit' ?_ | refine xt_sq_n ?_ | refine xt_bk_n ?_ | refine xt_sq_r ?_ | refine xt_bk_r ?_ | refine xt_sq_x ?_ | refine xt_bk_eq ?_ | refine xt_bk_ne rfl ?_ | refine p0 rfl rfl rfl ?_ | refine p0n rfl rfl ?_ | refine pAr rfl rfl rfl rfl rfl rfl rfl (by omega) (by omega) ?_ | refine pBuild rfl rfl rfl rfl rfl rfl ?_ | refine pE (eAlloc rfl rfl rfl rfl) rfl ?_ | refine pE (eBox rfl rfl rfl rfl rfl) rfl ?_ | refine pE (eSt rfl rfl rfl rfl rfl rfl rfl rfl rfl) rfl ?_ | refine pE (eBs rfl rfl rfl rfl rfl rfl rfl rfl rfl) rfl ?_)
  refine pCn (toIntS_ac t p.bd hb) rfl rfl rfl rfl rfl (by decide) (by repeat' (first | exact trivial | exact rfl | refine And.intro ?_ ?_ | exact Or.inl ⟨_, rfl, rfl⟩ | exact ⟨_, rfl, rfl⟩ | exact bor_sl rfl (by assumption) | exact bor_ios rfl | exact bor_ios1 rfl | exact bor_iosJ rfl | exact bor_pw rfl)) ?_
  repeat (first | refine p1 rfl rfl rfl rfl ?_ | refine al_end ?_ | refine awp_seq ?_ | refine awp_region ?_ | refine awp_block ?_ | refine awp_skip' ?_ | refine awp_ret' ?_ | refine awp_exit' ?_ | refine xt_sq_n ?_ | refine xt_bk_n ?_ | refine xt_sq_r ?_ | refine xt_bk_r ?_ | refine xt_sq_x ?_ | refine xt_bk_eq ?_ | refine xt_bk_ne rfl ?_ | refine p0 rfl rfl rfl ?_ | refine p0n rfl rfl ?_ | refine pAr rfl rfl rfl rfl rfl rfl rfl (by omega) (by omega) ?_ | refine pBuild rfl rfl rfl rfl rfl rfl ?_ | refine pE (eAlloc rfl rfl rfl rfl) rfl ?_ | refine pE (eBox rfl rfl rfl rfl rfl) rfl ?_ | refine pE (eSt rfl rfl rfl rfl rfl rfl rfl rfl rfl) rfl ?_ | refine pE (eBs rfl rfl rfl rfl rfl rfl rfl rfl rfl) rfl ?_)
  exact xt_finG [(0, 3), (1, 4)] (pw p) (pObs p) (.inr rfl) rfl rfl rfl rfl rfl ⟨rfl, rfl, trivial⟩ (by repeat' (first | exact trivial | refine And.intro ?_ ?_)) ⟨ints_tgs _, ints_tgs _, trivial⟩ ⟨rfl, rfl⟩
set_option maxRecDepth 100000 in
theorem toPeeled_ac (t : Nat) (x : Pl) (hl : x.pk.hd.length ≤ 1048576) (hb : x.pk.bd.length ≤ 1048576) : AC Try.prog 128 [xv t x] [] [0] (fun r h => h = pObs x.pk ∧ r = plw x) := by
  refine ac_body teok Try.func128 rfl (by kernel_rfl) Try.ntmps128 rfl rfl ?_
  intro w0 ps g0 im0
  repeat (first | refine p1 rfl rfl rfl rfl ?_ | refine al_end ?_ | refine awp_seq ?_ | refine awp_region ?_ | refine awp_block ?_ | refine awp_skip' ?_ | refine awp_ret' ?_ | refine awp_exit' ?_ | refine xt_sq_n ?_ | refine xt_bk_n ?_ | refine xt_sq_r ?_ | refine xt_bk_r ?_ | refine xt_sq_x ?_ | refine xt_bk_eq ?_ | refine xt_bk_ne rfl ?_ | refine p0 rfl rfl rfl ?_ | refine p0n rfl rfl ?_ | refine pAr rfl rfl rfl rfl rfl rfl rfl (by omega) (by omega) ?_ | refine pBuild rfl rfl rfl rfl rfl rfl ?_ | refine pE (eAlloc rfl rfl rfl rfl) rfl ?_ | refine pE (eBox rfl rfl rfl rfl rfl) rfl ?_ | refine pE (eSt rfl rfl rfl rfl rfl rfl rfl rfl rfl) rfl ?_ | refine pE (eBs rfl rfl rfl rfl rfl rfl rfl rfl rfl) rfl ?_)
  refine pC (eCall (toPacket_ac t x.pk hl hb) 99 [] rfl rfl rfl rfl rfl rfl (by repeat' (first | exact trivial | exact rfl | refine And.intro ?_ ?_ | exact Or.inl ⟨_, rfl, rfl⟩ | exact ⟨_, rfl, rfl⟩ | exact bor_sl rfl (by assumption) | exact bor_ios rfl | exact bor_ios1 rfl | exact bor_iosJ rfl | exact bor_pw rfl)) (by decide)) rfl ?_
  rintro _ _ ⟨rfl, rfl⟩
  repeat (first | refine p1 rfl rfl rfl rfl ?_ | refine al_end ?_ | refine awp_seq ?_ | refine awp_region ?_ | refine awp_block ?_ | refine awp_skip' ?_ | refine awp_ret' ?_ | refine awp_exit' ?_ | refine xt_sq_n ?_ | refine xt_bk_n ?_ | refine xt_sq_r ?_ | refine xt_bk_r ?_ | refine xt_sq_x ?_ | refine xt_bk_eq ?_ | refine xt_bk_ne rfl ?_ | refine p0 rfl rfl rfl ?_ | refine p0n rfl rfl ?_ | refine pAr rfl rfl rfl rfl rfl rfl rfl (by omega) (by omega) ?_ | refine pBuild rfl rfl rfl rfl rfl rfl ?_ | refine pE (eAlloc rfl rfl rfl rfl) rfl ?_ | refine pE (eBox rfl rfl rfl rfl rfl) rfl ?_ | refine pE (eSt rfl rfl rfl rfl rfl rfl rfl rfl rfl) rfl ?_ | refine pE (eBs rfl rfl rfl rfl rfl rfl rfl rfl rfl) rfl ?_)
  exact xt_finG [(0, 3), (1, 4)] (plw x) (pObs x.pk) (.inr rfl) rfl rfl rfl rfl rfl ⟨rfl, rfl, trivial⟩ (by repeat' (first | exact trivial | refine And.intro ?_ ?_)) ⟨ints_tgs _, ints_tgs _, trivial⟩ ⟨rfl, rfl⟩
set_option maxHeartbeats 1000000 in
set_option maxRecDepth 100000 in
theorem toPeeledS_ac (t : Nat) (l : List Pl) (hl : l.length ≤ 1048576) (hx : ∀ x ∈ l, x.pk.hd.length ≤ 1048576 ∧ x.pk.bd.length ≤ 1048576) : AC Try.prog 93 [.h (.c (.rd (t + 1) l.length (rows (prd (t + 1)) l)))] [] [0]
    (fun r h => h = [.arr 69 6 (rows pow l)] ∧ r = .h (.sl 0 0 l.length)) := by
  refine ac_body teok Try.func93 rfl (by kernel_rfl) Try.ntmps93 rfl rfl ?_
  intro w0 ps g0 im0
  repeat (first | refine p1 rfl rfl rfl rfl ?_ | refine al_end ?_ | refine awp_seq ?_ | refine awp_region ?_ | refine awp_block ?_ | refine awp_skip' ?_ | refine awp_ret' ?_ | refine awp_exit' ?_ | refine xt_sq_n ?_ | refine xt_bk_n ?_ | refine xt_sq_r ?_ | refine xt_bk_r ?_ | refine xt_sq_x ?_ | refine xt_bk_eq ?_ | refine xt_bk_ne rfl ?_ | refine p0 rfl rfl rfl ?_ | refine p0n rfl rfl ?_ | refine pAr rfl rfl rfl rfl rfl rfl rfl (by omega) (by omega) ?_ | refine pBuild rfl rfl rfl rfl rfl rfl ?_ | refine pE (eAlloc rfl rfl rfl rfl) rfl ?_ | refine pE (eBox rfl rfl rfl rfl rfl) rfl ?_ | refine pE (eSt rfl rfl rfl rfl rfl rfl rfl rfl rfl) rfl ?_ | refine pE (eBs rfl rfl rfl rfl rfl rfl rfl rfl rfl) rfl ?_)
  refine pE (eMk l.length l.length rfl rfl rfl rfl rfl rfl rfl rfl rfl rfl (Nat.le_refl _) ?_ ?_) rfl ?_
  · show l.length * 80 ≤ _
    omega
  · omega
  have hw : ∀ n : Nat, Wks (reps [CV.int .i64 0, CV.int .i64 0, CV.int .i64 0, CV.nil, CV.int .i64 0, CV.nil] n) (rows pow (List.replicate n ⟨0, 0, ⟨0, [], 0, []⟩⟩)) := by
    intro n
    induction n with
    | zero => exact trivial
    | succ n ih => exact ⟨.inl rfl, .inl rfl, .inl rfl, .inr ⟨rfl, _, _, rfl⟩, .inl rfl, .inr ⟨rfl, _, _, rfl⟩, ih⟩
  refine al_wk 0 (rows pow (List.replicate l.length ⟨0, 0, ⟨0, [], 0, []⟩⟩)) rfl (hw _) ?_
  repeat (first | refine p1 rfl rfl rfl rfl ?_ | refine al_end ?_ | refine awp_seq ?_ | refine awp_region ?_ | refine awp_block ?_ | refine awp_skip' ?_ | refine awp_ret' ?_ | refine awp_exit' ?_ | refine xt_sq_n ?_ | refine xt_bk_n ?_ | refine xt_sq_r ?_ | refine xt_bk_r ?_ | refine xt_sq_x ?_ | refine xt_bk_eq ?_ | refine xt_bk_ne rfl ?_ | refine p0 rfl rfl rfl ?_ | refine p0n rfl rfl ?_ | refine pAr rfl rfl rfl rfl rfl rfl rfl (by omega) (by omega) ?_ | refine pBuild rfl rfl rfl rfl rfl rfl ?_ | refine pE (eAlloc rfl rfl rfl rfl) rfl ?_ | refine pE (eBox rfl rfl rfl rfl rfl) rfl ?_ | refine pE (eSt rfl rfl rfl rfl rfl rfl rfl rfl rfl) rfl ?_ | refine pE (eBs rfl rfl rfl rfl rfl rfl rfl rfl rfl) rfl ?_)
  refine awp_loopE (fun k : Nat => { fr := [(0, .h (.c (.rd (t + 1) l.length (rows (prd (t + 1)) l)))), (3, .h (.sl 0 0 l.length)), (4, .h (.c (.int .i64 k)))], hp := [(0, .arr 69 6 (rows pow (l.take k ++ List.replicate (l.length - k) ⟨0, 0, ⟨0, [], 0, []⟩⟩)))], nx := 1 })
    (fun n k => k ≤ l.length ∧ n = l.length - k) l.length 0 [(0, 0)] ⟨rfl, rfl, rfl, by repeat (first | exact trivial | refine ⟨rfl, ?_⟩), by repeat (first | exact trivial | refine ⟨rfl, ?_⟩ | refine ⟨hrr_le rfl, ?_⟩)⟩ ⟨Nat.zero_le _, rfl⟩ ?_
  rintro n k ⟨hk, rfl⟩
  repeat' (first | refine p1 rfl rfl rfl rfl ?_ | refine al_end ?_ | refine awp_seq ?_ | refine awp_region ?_ | refine awp_block ?_ | refine awp_skip' ?_ | refine awp_ret' ?_ | refine awp_exit' ?_ | refine xt_sq_n ?_ | refine xt_bk_n ?_ | refine xt_sq_r ?_ | refine xt_bk_r ?_ | refine xt_sq_x ?_ | refine xt_bk_eq ?_ | refine xt_bk_ne rfl ?_ | refine p0 rfl rfl rfl ?_ | refine p0n rfl rfl ?_ | refine pAr rfl rfl rfl rfl rfl rfl rfl (by omega) (by omega) ?_ | refine pBuild rfl rfl rfl rfl rfl rfl ?_ | refine pE (eAlloc rfl rfl rfl rfl) rfl ?_ | refine pE (eBox rfl rfl rfl rfl rfl) rfl ?_ | refine pE (eSt rfl rfl rfl rfl rfl rfl rfl rfl rfl) rfl ?_ | refine pE (eBs rfl rfl rfl rfl rfl rfl rfl rfl rfl) rfl ?_ | refine awp_cond (b := true) rfl (fun _ => ?_) (fun h => Bool.noConfusion h) | refine awp_cond (b := false) rfl (fun h => Bool.noConfusion h) (fun _ => ?_) | ((fail_if_success refine pG (b := true) rfl rfl ?_ ?_); (fail_if_success refine pG (b := false) rfl rfl ?_ ?_); (refine pG rfl rfl (fun hc => ?_) (fun hc => ?_)) <;> try simp at hc) | ((refine awp_cond rfl (fun hc => ?_) (fun hc => ?_)) <;> try simp at hc))
  · have hk' : k < l.length := by omega
    obtain ⟨x1, x2⟩ := hx _ (List.getElem_mem hk')
    refine pIxR (f := prd (t + 1)) (L := l) k rfl rfl rfl rfl rfl rfl rfl rfl rfl (fun _ => rfl) rfl rfl hk' ?_
    repeat (first | refine p1 rfl rfl rfl rfl ?_ | refine al_end ?_ | refine awp_seq ?_ | refine awp_region ?_ | refine awp_block ?_ | refine awp_skip' ?_ | refine awp_ret' ?_ | refine awp_exit' ?_ | refine xt_sq_n ?_ | refine xt_bk_n ?_ | refine xt_sq_r ?_ | refine xt_bk_r ?_ | refine xt_sq_x ?_ | refine xt_bk_eq ?_ | refine xt_bk_ne rfl ?_ | refine p0 rfl rfl rfl ?_ | refine p0n rfl rfl ?_ | refine pAr rfl rfl rfl rfl rfl rfl rfl (by omega) (by omega) ?_ | refine pBuild rfl rfl rfl rfl rfl rfl ?_ | refine pE (eAlloc rfl rfl rfl rfl) rfl ?_ | refine pE (eBox rfl rfl rfl rfl rfl) rfl ?_ | refine pE (eSt rfl rfl rfl rfl rfl rfl rfl rfl rfl) rfl ?_ | refine pE (eBs rfl rfl rfl rfl rfl rfl rfl rfl rfl) rfl ?_)
    refine pC (eCall (toPeeled_ac t l[k] x1 x2) 99 [] rfl rfl rfl rfl rfl rfl (by repeat' (first | exact trivial | exact rfl | refine And.intro ?_ ?_ | exact Or.inl ⟨_, rfl, rfl⟩ | exact ⟨_, rfl, rfl⟩ | exact bor_sl rfl (by assumption) | exact bor_ios rfl | exact bor_ios1 rfl | exact bor_iosJ rfl | exact bor_pw rfl)) (by decide)) rfl ?_
    rintro _ _ ⟨rfl, rfl⟩
    repeat (first | refine p1 rfl rfl rfl rfl ?_ | refine al_end ?_ | refine awp_seq ?_ | refine awp_region ?_ | refine awp_block ?_ | refine awp_skip' ?_ | refine awp_ret' ?_ | refine awp_exit' ?_ | refine xt_sq_n ?_ | refine xt_bk_n ?_ | refine xt_sq_r ?_ | refine xt_bk_r ?_ | refine xt_sq_x ?_ | refine xt_bk_eq ?_ | refine xt_bk_ne rfl ?_ | refine p0 rfl rfl rfl ?_ | refine p0n rfl rfl ?_ | refine pAr rfl rfl rfl rfl rfl rfl rfl (by omega) (by omega) ?_ | refine pBuild rfl rfl rfl rfl rfl rfl ?_ | refine pE (eAlloc rfl rfl rfl rfl) rfl ?_ | refine pE (eBox rfl rfl rfl rfl rfl) rfl ?_ | refine pE (eSt rfl rfl rfl rfl rfl rfl rfl rfl rfl) rfl ?_ | refine pE (eBs rfl rfl rfl rfl rfl rfl rfl rfl rfl) rfl ?_)
    refine pIx0 k rfl rfl rfl rfl rfl rfl rfl rfl rfl rfl rfl hk' ?_
    refine pE (eStP (L := l.take k ++ List.replicate (l.length - k) ⟨0, 0, ⟨0, [], 0, []⟩⟩) (z := l[k]) k rfl rfl rfl rfl rfl rfl rfl rfl rfl rfl rfl rfl rfl rfl rfl rfl rfl rfl (by simp; omega) rfl rfl) rfl ?_
    rw [set_fillP l _ hk']
    repeat (first | refine p1 rfl rfl rfl rfl ?_ | refine al_end ?_ | refine awp_seq ?_ | refine awp_region ?_ | refine awp_block ?_ | refine awp_skip' ?_ | refine awp_ret' ?_ | refine awp_exit' ?_ | refine xt_sq_n ?_ | refine xt_bk_n ?_ | refine xt_sq_r ?_ | refine xt_bk_r ?_ | refine xt_sq_x ?_ | refine xt_bk_eq ?_ | refine xt_bk_ne rfl ?_ | refine p0 rfl rfl rfl ?_ | refine p0n rfl rfl ?_ | refine pAr rfl rfl rfl rfl rfl rfl rfl (by omega) (by omega) ?_ | refine pBuild rfl rfl rfl rfl rfl rfl ?_ | refine pE (eAlloc rfl rfl rfl rfl) rfl ?_ | refine pE (eBox rfl rfl rfl rfl rfl) rfl ?_ | refine pE (eSt rfl rfl rfl rfl rfl rfl rfl rfl rfl) rfl ?_ | refine pE (eBs rfl rfl rfl rfl rfl rfl rfl rfl rfl) rfl ?_)
    exact lp_end (l.length - (k + 1)) (k + 1) [(0, 0)] (by omega) ⟨rfl, rfl, rfl, by repeat (first | exact trivial | refine ⟨rfl, ?_⟩), by repeat (first | exact trivial | refine ⟨rfl, ?_⟩ | refine ⟨hrr_le rfl, ?_⟩)⟩ ⟨hk', rfl⟩
  · have hk' : k = l.length := by omega
    subst hk'
    rw [Nat.sub_self, List.replicate_zero, List.append_nil, List.take_length]
    exact xt_finG [(0, 0)] (.h (.sl 0 0 l.length)) [.arr 69 6 (rows pow l)] (.inr rfl) rfl rfl rfl rfl rfl ⟨rfl, trivial⟩ trivial ⟨pow_tgs l, trivial⟩ ⟨rfl, rfl⟩
set_option maxRecDepth 100000 in
theorem toMix_ac (t : Nat) (m : Mx) (hm : SmM 1048576 m) : AC Try.prog 44 [mv t m] [] [0] (fun r h => h = mObs m ∧ r = mw m) := by
  obtain ⟨hs, hp, hx⟩ := hm
  refine ac_body teok Try.func44 rfl (by kernel_rfl) Try.ntmps44 rfl rfl ?_
  intro w0 ps g0 im0
  repeat (first | refine p1 rfl rfl rfl rfl ?_ | refine al_end ?_ | refine awp_seq ?_ | refine awp_region ?_ | refine awp_block ?_ | refine awp_skip' ?_ | refine awp_ret' ?_ | refine awp_exit' ?_ | refine xt_sq_n ?_ | refine xt_bk_n ?_ | refine xt_sq_r ?_ | refine xt_bk_r ?_ | refine xt_sq_x ?_ | refine xt_bk_eq ?_ | refine xt_bk_ne rfl ?_ | refine p0 rfl rfl rfl ?_ | refine p0n rfl rfl ?_ | refine pAr rfl rfl rfl rfl rfl rfl rfl (by omega) (by omega) ?_ | refine pBuild rfl rfl rfl rfl rfl rfl ?_ | refine pE (eAlloc rfl rfl rfl rfl) rfl ?_ | refine pE (eBox rfl rfl rfl rfl rfl) rfl ?_ | refine pE (eSt rfl rfl rfl rfl rfl rfl rfl rfl rfl) rfl ?_ | refine pE (eBs rfl rfl rfl rfl rfl rfl rfl rfl rfl) rfl ?_)
  refine pCn (toIntS_ac t m.seen hs) rfl rfl rfl rfl rfl (by decide) (by repeat' (first | exact trivial | exact rfl | refine And.intro ?_ ?_ | exact Or.inl ⟨_, rfl, rfl⟩ | exact ⟨_, rfl, rfl⟩ | exact bor_sl rfl (by assumption) | exact bor_ios rfl | exact bor_ios1 rfl | exact bor_iosJ rfl | exact bor_pw rfl)) ?_
  repeat (first | refine p1 rfl rfl rfl rfl ?_ | refine al_end ?_ | refine awp_seq ?_ | refine awp_region ?_ | refine awp_block ?_ | refine awp_skip' ?_ | refine awp_ret' ?_ | refine awp_exit' ?_ | refine xt_sq_n ?_ | refine xt_bk_n ?_ | refine xt_sq_r ?_ | refine xt_bk_r ?_ | refine xt_sq_x ?_ | refine xt_bk_eq ?_ | refine xt_bk_ne rfl ?_ | refine p0 rfl rfl rfl ?_ | refine p0n rfl rfl ?_ | refine pAr rfl rfl rfl rfl rfl rfl rfl (by omega) (by omega) ?_ | refine pBuild rfl rfl rfl rfl rfl rfl ?_ | refine pE (eAlloc rfl rfl rfl rfl) rfl ?_ | refine pE (eBox rfl rfl rfl rfl rfl) rfl ?_ | refine pE (eSt rfl rfl rfl rfl rfl rfl rfl rfl rfl) rfl ?_ | refine pE (eBs rfl rfl rfl rfl rfl rfl rfl rfl rfl) rfl ?_)
  refine pCn (toPeeledS_ac t m.pool hp hx) rfl rfl rfl rfl rfl (by decide) (by repeat' (first | exact trivial | exact rfl | refine And.intro ?_ ?_ | exact Or.inl ⟨_, rfl, rfl⟩ | exact ⟨_, rfl, rfl⟩ | exact bor_sl rfl (by assumption) | exact bor_ios rfl | exact bor_ios1 rfl | exact bor_iosJ rfl | exact bor_pw rfl)) ?_
  repeat (first | refine p1 rfl rfl rfl rfl ?_ | refine al_end ?_ | refine awp_seq ?_ | refine awp_region ?_ | refine awp_block ?_ | refine awp_skip' ?_ | refine awp_ret' ?_ | refine awp_exit' ?_ | refine xt_sq_n ?_ | refine xt_bk_n ?_ | refine xt_sq_r ?_ | refine xt_bk_r ?_ | refine xt_sq_x ?_ | refine xt_bk_eq ?_ | refine xt_bk_ne rfl ?_ | refine p0 rfl rfl rfl ?_ | refine p0n rfl rfl ?_ | refine pAr rfl rfl rfl rfl rfl rfl rfl (by omega) (by omega) ?_ | refine pBuild rfl rfl rfl rfl rfl rfl ?_ | refine pE (eAlloc rfl rfl rfl rfl) rfl ?_ | refine pE (eBox rfl rfl rfl rfl rfl) rfl ?_ | refine pE (eSt rfl rfl rfl rfl rfl rfl rfl rfl rfl) rfl ?_ | refine pE (eBs rfl rfl rfl rfl rfl rfl rfl rfl rfl) rfl ?_)
  exact xt_finG [(0, 3), (1, 4)] (mw m) (mObs m) (.inr rfl) rfl rfl rfl rfl rfl ⟨rfl, rfl, trivial⟩ (by repeat' (first | exact trivial | refine And.intro ?_ ?_)) ⟨ints_tgs _, pow_tgs _, trivial⟩ ⟨rfl, rfl⟩
end Go.Proofs.Ythmgfgiaagkdeaa
