import Derived.Test.YthmgfgiaagkdeaaG41
namespace Go.Proofs.Ythmgfgiaagkdeaa
open Go.RowKit
attribute [local irreducible] AWP AL XT AC ES PS AH AH2 LpQ
theorem takeN_eq {m : Mx} {p : Pk} (h1 : mxOk m = true) (h2 : pkOk p = true) : takeN m p = (if peelOk m.sec p then (if tms m.sec p.el ∈ m.seen then 1 else if 12 ≤ m.seen.length ∨ 5 ≤ m.pool.length then 3 else 0) else 2) := by
  rw [takeN, h1, h2]; rfl
theorem takeN_ne4 {m : Mx} {p : Pk} (h : takeN m p ≠ 4) : mxOk m = true ∧ pkOk p = true := by
  have : (mxOk m && pkOk p) = true := by
    cases h' : (mxOk m && pkOk p) with
    | true => rfl
    | false => exact absurd (by rw [takeN, h']; rfl) h
  simpa using this
theorem takeM_same {m : Mx} {p : Pk} (h4 : takeN m p ≠ 4) (h0 : takeN m p ≠ 0) : takeM m p = m := by rw [takeM, if_neg h4, if_neg h0]
theorem takeM_done {m : Mx} {p : Pk} (h0 : takeN m p = 0) : takeM m p = ⟨m.sec, m.seen ++ [tms m.sec p.el], m.pool ++ [peelR m.sec p]⟩ := by rw [takeM, if_neg (by omega), if_pos h0]
/-- A packet whose key was seen is a replay. -/
theorem take_replay {m : Mx} {p : Pk} (h1 : mxOk m = true) (h2 : pkOk p = true) (h3 : peelOk m.sec p = true) (h4 : tms m.sec p.el ∈ m.seen) : takeN m p = 1 ∧ takeM m p = m := by
  have hN : takeN m p = 1 := by rw [takeN_eq h1 h2, if_pos h3, if_pos h4]
  exact ⟨hN, takeM_same (by omega) (by omega)⟩
def anoV (n b : Int) : Int := (n + 1 + b % 990) % 991
theorem anoV_rng (n b : Int) : 0 ≤ anoV n b ∧ anoV n b ≤ 990 := by unfold anoV; omega
theorem anoV_ne {n b : Int} : anoV n b ≠ n := by unfold anoV; omega
set_option maxRecDepth 100000 in
theorem another_ac (n b : Int) (hn : 0 ≤ n ∧ n ≤ 990) (hb : 0 ≤ b ∧ b ≤ 1000000000) : AC Try.prog 53 [.h (.c (.int .i64 n)), .h (.c (.int .i64 b))] [] [0] (fun r h => h = [] ∧ r = .h (.c (.int .i64 (anoV n b)))) := by
  refine ac_body teok Try.func53 rfl (by kernel_rfl) Try.ntmps53 rfl rfl ?_
  intro w0 ps g0 im0
  repeat (first | refine p1 rfl rfl rfl rfl ?_ | refine al_end ?_ | refine awp_seq ?_ | refine awp_region ?_ | refine awp_block ?_ | refine awp_skip' ?_ | refine awp_ret' ?_ | refine awp_exit' ?_ | refine xt_sq_n ?_ | refine xt_bk_n ?_ | refine xt_sq_r ?_ | refine xt_bk_r ?_ | refine xt_sq_x ?_ | refine xt_bk_eq ?_ | refine xt_bk_ne rfl ?_ | refine p0 rfl rfl rfl ?_ | refine p0n rfl rfl ?_ | refine pAr rfl rfl rfl rfl rfl rfl rfl (by omega) (by omega) ?_ | refine pBuild rfl rfl rfl rfl rfl rfl ?_ | refine pE (eAlloc rfl rfl rfl rfl) rfl ?_ | refine pE (eBox rfl rfl rfl rfl rfl) rfl ?_ | refine pE (eSt rfl rfl rfl rfl rfl rfl rfl rfl rfl) rfl ?_ | refine pE (eBs rfl rfl rfl rfl rfl rfl rfl rfl rfl) rfl ?_)
  refine pRem rfl rfl rfl rfl rfl rfl (by omega) (by omega) ?_
  repeat (first | refine p1 rfl rfl rfl rfl ?_ | refine al_end ?_ | refine awp_seq ?_ | refine awp_region ?_ | refine awp_block ?_ | refine awp_skip' ?_ | refine awp_ret' ?_ | refine awp_exit' ?_ | refine xt_sq_n ?_ | refine xt_bk_n ?_ | refine xt_sq_r ?_ | refine xt_bk_r ?_ | refine xt_sq_x ?_ | refine xt_bk_eq ?_ | refine xt_bk_ne rfl ?_ | refine p0 rfl rfl rfl ?_ | refine p0n rfl rfl ?_ | refine pAr rfl rfl rfl rfl rfl rfl rfl (by omega) (by omega) ?_ | refine pBuild rfl rfl rfl rfl rfl rfl ?_ | refine pE (eAlloc rfl rfl rfl rfl) rfl ?_ | refine pE (eBox rfl rfl rfl rfl rfl) rfl ?_ | refine pE (eSt rfl rfl rfl rfl rfl rfl rfl rfl rfl) rfl ?_ | refine pE (eBs rfl rfl rfl rfl rfl rfl rfl rfl rfl) rfl ?_)
  refine pRem rfl rfl rfl rfl rfl rfl (by omega) (by omega) ?_
  repeat (first | refine p1 rfl rfl rfl rfl ?_ | refine al_end ?_ | refine awp_seq ?_ | refine awp_region ?_ | refine awp_block ?_ | refine awp_skip' ?_ | refine awp_ret' ?_ | refine awp_exit' ?_ | refine xt_sq_n ?_ | refine xt_bk_n ?_ | refine xt_sq_r ?_ | refine xt_bk_r ?_ | refine xt_sq_x ?_ | refine xt_bk_eq ?_ | refine xt_bk_ne rfl ?_ | refine p0 rfl rfl rfl ?_ | refine p0n rfl rfl ?_ | refine pAr rfl rfl rfl rfl rfl rfl rfl (by omega) (by omega) ?_ | refine pBuild rfl rfl rfl rfl rfl rfl ?_ | refine pE (eAlloc rfl rfl rfl rfl) rfl ?_ | refine pE (eBox rfl rfl rfl rfl rfl) rfl ?_ | refine pE (eSt rfl rfl rfl rfl rfl rfl rfl rfl rfl) rfl ?_ | refine pE (eBs rfl rfl rfl rfl rfl rfl rfl rfl rfl) rfl ?_)
  exact xt_fin (.inr rfl) rfl trivial ⟨rfl, rfl⟩
theorem abs_inj {t u x : Int} (ht : 0 ≤ t ∧ t ≤ 990) (hu : 0 ≤ u ∧ u ≤ 990) (h : t ≠ u) : abs1 t x ≠ abs1 u x := by unfold abs1; omega
theorem abs_inj2 {t x y : Int} (hx : 0 ≤ x ∧ x ≤ 990) (hy : 0 ≤ y ∧ y ≤ 990) (h : x ≠ y) : abs1 t x ≠ abs1 t y := by unfold abs1; omega
theorem abs_rng (t x : Int) : 0 ≤ abs1 t x ∧ abs1 t x ≤ 990 := by unfold abs1; omega
theorem fold_ne : ∀ (l : List Int) (t u : Int), (0 ≤ t ∧ t ≤ 990) → (0 ≤ u ∧ u ≤ 990) → t ≠ u → l.foldl abs1 t ≠ l.foldl abs1 u
  | [], _, _, _, _, h => h
  | _ :: r, _, _, ht, hu, h => fold_ne r _ _ (abs_rng _ _) (abs_rng _ _) (abs_inj ht hu h)
theorem fold_set : ∀ (l : List Int) (t : Int) (k : Nat) (v : Int) (hk : k < l.length), (∀ n ∈ l, 0 ≤ n ∧ n ≤ 990) → (0 ≤ v ∧ v ≤ 990) → v ≠ l[k] → (l.set k v).foldl abs1 t ≠ l.foldl abs1 t
  | [], _, _, _, hk, _, _, _ => by simp at hk
  | x :: r, t, 0, v, _, hl, hv, h => by
    simp only [List.set_cons_zero, List.foldl_cons, List.getElem_cons_zero] at h ⊢
    exact fold_ne r _ _ (abs_rng _ _) (abs_rng _ _) (abs_inj2 hv (hl x List.mem_cons_self) h)
  | x :: r, t, k + 1, v, hk, hl, hv, h => by
    simp only [List.set_cons_succ, List.foldl_cons, List.getElem_cons_succ] at h ⊢
    exact fold_set r _ k v (by simpa using hk) (fun n hn => hl n (List.mem_cons_of_mem _ hn)) hv h
theorem tag_set {key : Int} {l : List Int} {k : Nat} {v : Int} (hk : k < l.length) (hl : ∀ n ∈ l, 0 ≤ n ∧ n ≤ 990) (hv : 0 ≤ v ∧ v ≤ 990) (h : v ≠ l[k]) : tagV key (l.set k v) ≠ tagV key l := by
  unfold tagV
  rw [List.length_set]
  exact fold_set l _ k v hk hl hv h
theorem set_lst {l : List Int} {k : Nat} {v : Int} (hl : lst l = true) (hv : 0 ≤ v ∧ v ≤ 990) : lst (l.set k v) = true := by
  obtain ⟨h1, h2⟩ := lst_iff.1 hl
  refine lst_iff.2 ⟨by rw [List.length_set]; exact h1, fun n hn => ?_⟩
  rcases List.mem_or_eq_of_mem_set hn with h | h
  · exact h2 n h
  · subst h; exact hv
/-- A changed body is seen as a replay. -/
theorem take_body {m : Mx} {p : Pk} {k : Nat} {v : Int} (h0 : takeN m p = 0) (hv : 0 ≤ v ∧ v ≤ 990) : takeN (takeM m p) ⟨p.el, p.hd, p.tag, p.bd.set k v⟩ = 1 := by
  obtain ⟨h1, h2, h3, _, _, _⟩ := takeN_zero h0
  obtain ⟨he, h9, hlh, h6, hlb, htg⟩ := pkOk_iff.1 h2
  have hm1 := mxOk_take h1 h2
  rw [takeM_done h0] at hm1 ⊢
  refine (take_replay (p := ⟨p.el, p.hd, p.tag, p.bd.set k v⟩) hm1 (pkOk_iff.2 ⟨he, h9, hlh, by show (p.bd.set k v).length = 6; rw [List.length_set]; exact h6, (set_lst hlb hv : lst (p.bd.set k v) = true), htg⟩) ?_ ?_).1
  · exact h3
  · simp
/-- A changed header is found out. -/
theorem take_changed {m : Mx} {p : Pk} {k : Nat} {v : Int} (h0 : takeN m p = 0) (hk : k < p.hd.length) (hv : 0 ≤ v ∧ v ≤ 990) (hne : v ≠ p.hd[k]) : takeN m ⟨p.el, p.hd.set k v, p.tag, p.bd⟩ = 2 ∧ takeM m ⟨p.el, p.hd.set k v, p.tag, p.bd⟩ = m := by
  obtain ⟨h1, h2, h3, _, _, _⟩ := takeN_zero h0
  obtain ⟨he, h9, hlh, h6, hlb, htg⟩ := pkOk_iff.1 h2
  have hN : takeN m ⟨p.el, p.hd.set k v, p.tag, p.bd⟩ = 2 := by
    rw [takeN_eq (p := ⟨p.el, p.hd.set k v, p.tag, p.bd⟩) h1 (pkOk_iff.2 ⟨he, by show (p.hd.set k v).length = 9; rw [List.length_set]; exact h9, (set_lst hlh hv : lst (p.hd.set k v) = true), h6, hlb, htg⟩), if_neg]
    intro h
    simp only [peelOk, Bool.and_eq_true, decide_eq_true_eq] at h h3
    exact tag_set hk (lst_iff.1 hlh).2 hv hne (h.1.1.trans h3.1.1.symm)
  exact ⟨hN, takeM_same (by omega) (by omega)⟩
section
variable {E : Env} {l : List Oper} {fr : List (Nat × AV)} {hp : List (Nat × Ob)} {nx : Nat} {cert : List (Nat × Bool)} {W : List Nat} {nr : Nat} {os ms os0 ms0 : List Nat} {early fl : Bool} {k : AS → Prop} {i : Nat} {oi : Oper}
/-- A late store into a row of the call's own. -/
theorem uStR {α : Type} {f : α → List CV} {t : TypeId} {x y : Operand} {id off : Nat} {v : AV} {ty e : Nat} {L : List α} {inf : TInf} (m c : Nat) (a' : α) (ys : List CV) (hi : nth l i = some oi) (ho : oi.op = .store t x y) (hx : AS.eval ⟨fr, hp, nx⟩ x = some (.h (.ptr id off))) (hy : AS.eval ⟨fr, hp, nx⟩ y = some v) (hv : cellsA v = some (ys.map HV.c))
    (hl : look id hp = some (.arr ty e (rows f L))) (ht : look t E.te = some inf) (hsz : Nat.beq ys.length inf.sz = true) (hg : gdv l ⟨fr, hp, nx⟩ oi = some true) (hd : oi.dst = none) (hW : W.contains i = true) (hm : [id].all (fun id => ms.contains id || Nat.ble nr id) = true) (hf : ∀ a, (f a).length = e) (hoff : off = m * e + c) (hc : Nat.ble (c + ys.length) e = true)
    (hlt : m < L.length) (ha : setL (f L[m]) c ys = f a') (kk : AH2 E l cert W nr os ms os0 ms0 false false ⟨fr, upd id (.arr ty e (rows f (L.set m a'))) hp, nx⟩ k) : AH2 E l ((i, false) :: cert) W nr os ms os0 ms0 early fl ⟨fr, hp, nx⟩ k := by
  have hc' := Nat.le_of_ble_eq_true hc
  refine uLate hi (eSta (zs := rows f (L.set m a')) ys ho hx hy hv hl ht hsz hd ?_ ?_) hg hW hm (Nat.ble_eq_true_of_le (Nat.le_refl _)) kk
  · rw [rows_length hf, hoff]
    calc m * e + c + ys.length = m * e + (c + ys.length) := by omega
      _ ≤ m * e + e := by omega
      _ = (m + 1) * e := by rw [Nat.succ_mul]
      _ ≤ L.length * e := Nat.mul_le_mul_right _ hlt
  · rw [hoff]; exact rows_setf hf hlt hc' ha
end
end Go.Proofs.Ythmgfgiaagkdeaa
