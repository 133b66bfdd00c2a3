/- The engine, part q: rules for rows of one kind of element; calls that are handed an object. -/
import Derived.Test.YtjijkdhjfanpaaaEp
namespace Go.Proofs.Ytjijkdhjfanpaaa
open Go.RowKit
theorem mem_of_getElem?_take {α : Type} {l : List α} {k j : Nat} {x : α} (h : (l.take k)[j]? = some x) : j < k ∧ l[j]? = some x := by
  rw [List.getElem?_take] at h
  split at h
  · exact ⟨by assumption, h⟩
  · cases h
theorem rows_cons_at {α : Type} {f : α → List CV} {n : Nat} (hf : ∀ a, (f a).length = n) (hn : 0 < n) {l : List α} {k : Nat} (h : k < l.length) : ∃ y ys, f l[k] ++ rows f (l.drop (k + 1)) = y :: ys := by
  cases hh : f l[k] with
  | nil => have := hf l[k]; rw [hh] at this; simp at this; omega
  | cons y ys => exact ⟨y, ys ++ rows f (l.drop (k + 1)), rfl⟩
section
variable {E : Env} {l rest : List Oper} {fr : List (Nat × AV)} {hp : List (Nat × Ob)} {nx : Nat} {o : Oper} {Q : Exit → AS → Prop} {d : Nat}
variable {cert : CT} {nr : Nat} {os ms : List Nat} {fl : Bool} {k : AS → Prop} {i : Nat} {oi : Oper}
variable {α : Type} {f : α → List CV}
/-- The place of element m of a row that is only read. -/
theorem pIxR {t e : Nat} {sz b' : Nat} {zs : List CV} {x ix : Operand} {tg n : Nat} {L : List α} {j : Int} {inf : TInf} (m : Nat) (ho : o.op = .indexAddr t x ix)
    (hx : AS.eval ⟨fr, hp, nx⟩ x = some (.h (.c (.rd tg n (rows f L))))) (hj : AS.eval ⟨fr, hp, nx⟩ ix = some (.h (.c (.int .i64 j)))) (ht : look t E.te = some ⟨.slice e, sz, b', zs⟩) (he : look e E.te = some inf)
    (hg : gdv l ⟨fr, hp, nx⟩ o = some true) (hd : o.dst = some d) (hn : Nat.blt d E.nt = true) (hsz : Nat.blt 0 inf.sz = true) (hf : ∀ a, (f a).length = inf.sz) (hnl : n = L.length) (hk : j = (m : Int)) (hlt : m < L.length)
    (kk : AL E l rest ⟨(d, .h (.rp tg (f L[m] ++ rows f (L.drop (m + 1))))) :: fr, hp, nx⟩ Q) : AL E l (o :: rest) ⟨fr, hp, nx⟩ Q := by
  obtain ⟨y, ys, h⟩ := rows_cons_at hf (by simpa using hsz) hlt
  rw [h] at kk
  exact pIx m ho hx hj ht he hg hd hn hk (by omega) (by rw [rows_at hf hlt, h]) kk
theorem dIxR {t e : Nat} {sz b' : Nat} {zs : List CV} {x ix : Operand} {tg n : Nat} {L : List α} {j : Int} {inf : TInf} (m : Nat) (hi : nth l i = some oi) (ho : oi.op = .indexAddr t x ix)
    (hx : AS.eval ⟨fr, hp, nx⟩ x = some (.h (.c (.rd tg n (rows f L))))) (hj : AS.eval ⟨fr, hp, nx⟩ ix = some (.h (.c (.int .i64 j)))) (ht : look t E.te = some ⟨.slice e, sz, b', zs⟩) (he : look e E.te = some inf)
    (hg : gdv l ⟨fr, hp, nx⟩ oi = some true) (hd : oi.dst = some d) (hn : Nat.blt d E.nt = true) (hsz : Nat.blt 0 inf.sz = true) (hf : ∀ a, (f a).length = inf.sz) (hnl : n = L.length) (hk : j = (m : Int)) (hlt : m < L.length)
    (kk : AH E l cert nr os ms fl ⟨(d, .h (.rp tg (f L[m] ++ rows f (L.drop (m + 1))))) :: fr, hp, nx⟩ k) : AH E l (CT.cons (i, true) cert) nr os ms fl ⟨fr, hp, nx⟩ k := by
  obtain ⟨y, ys, h⟩ := rows_cons_at hf (by simpa using hsz) hlt
  rw [h] at kk
  exact dIx m hi ho hx hj ht he hg hd hn hk (by omega) (by rw [rows_at hf hlt, h]) kk
/-- A load, from the element at whose place the pointer stands, of a row of the call's own. -/
theorem pLdR {t : Nat} {x : Operand} {id off : Nat} {ty e : Nat} {L : List α} {inf : TInf} {v : AV} (m c : Nat) (ho : o.op = .load t x) (hx : AS.eval ⟨fr, hp, nx⟩ x = some (.h (.ptr id off))) (hob : look id hp = some (.arr ty e (rows f L))) (hl : look t E.te = some inf)
    (hg : gdv l ⟨fr, hp, nx⟩ o = some true) (hd : o.dst = some d) (hn : Nat.blt d E.nt = true) (hf : ∀ a, (f a).length = e) (hoff : off = m * e + c) (hc : c ≤ e) (hlt : m < L.length) (h : loadH inf ((((f L[m]).drop c ++ rows f (L.drop (m + 1))).take inf.sz).map HV.c) = some v) (kk : AL E l rest ⟨(d, v) :: fr, hp, nx⟩ Q) : AL E l (o :: rest) ⟨fr, hp, nx⟩ Q :=
  pLdo ho hx hob hl hg hd hn (by rw [hoff, ← List.drop_drop, rows_at hf hlt, List.drop_append_of_le_length (by rw [hf]; exact hc)]) h kk
theorem dLdR {t : Nat} {x : Operand} {id off : Nat} {ty e : Nat} {L : List α} {inf : TInf} {v : AV} (m c : Nat) (hi : nth l i = some oi) (ho : oi.op = .load t x) (hx : AS.eval ⟨fr, hp, nx⟩ x = some (.h (.ptr id off))) (hob : look id hp = some (.arr ty e (rows f L))) (hl : look t E.te = some inf)
    (hg : gdv l ⟨fr, hp, nx⟩ oi = some true) (hd : oi.dst = some d) (hn : Nat.blt d E.nt = true) (hid : okid (some os) id = true) (hf : ∀ a, (f a).length = e) (hoff : off = m * e + c) (hc : c ≤ e) (hlt : m < L.length) (h : loadH inf ((((f L[m]).drop c ++ rows f (L.drop (m + 1))).take inf.sz).map HV.c) = some v) (kk : AH E l cert nr os ms fl ⟨(d, v) :: fr, hp, nx⟩ k) : AH E l (CT.cons (i, true) cert) nr os ms fl ⟨fr, hp, nx⟩ k :=
  dLdo hi ho hx hob hl hg hd hn hid (by rw [hoff, ← List.drop_drop, rows_at hf hlt, List.drop_append_of_le_length (by rw [hf]; exact hc)]) h kk
/-- append of one element that is written out. -/
theorem pAp1 {x y : Operand} {t e n id id1 ty1 e1 : Nat} {sz' b'' : Nat} {zs'' : List CV} {inf : TInf} {L : List α} (a : α) {hp1 : List (Nat × Ob)} (ho : appOf o.op = some (x, y, t)) (ht : look t E.te = some ⟨.slice e, sz', b'', zs''⟩) (he : look e E.te = some inf)
    (hx : AS.eval ⟨fr, hp, nx⟩ x = some (.h (.sl id 0 n))) (hy : AS.eval ⟨fr, hp, nx⟩ y = some (.h (.sl id1 0 1))) (hb : look id hp = some (.arr e inf.sz (rows f L))) (hsr : look id1 (del id hp) = some (.arr ty1 e1 (f a))) (hh : del id1 (del id hp) = hp1) (hsz : Nat.blt 0 inf.sz = true)
    (hg : gdv l ⟨fr, hp, nx⟩ o = some true) (hd : o.dst = some d) (hn : Nat.blt d E.nt = true) (hf : ∀ a, (f a).length = inf.sz) (hnl : n = L.length) (hle : n ≤ 1099511627776) (hby : Nat.ble inf.by' 100 = true)
    (kk : AL E l rest ⟨(d, .h (.sl nx 0 (n + 1))) :: fr, (nx, .arr e inf.sz (rows f (L ++ [a]))) :: hp1, nx + 1⟩ Q) : AL E l (o :: rest) ⟨fr, hp, nx⟩ Q := by
  refine pE (eApp ho ht he hx hy (n := n) (xs := rows f L) (hp0 := del id hp) (md := [id]) ?_ (m := 1) (ys := f a) (hp1 := hp1) ?_ hsz hd hn ?_ ?_ ?_ ?_ ?_) hg kk
  · simp only [baseOf, hb, Nat.beq_refl, Bool.and_self, cond_true]
  · simp only [srcOf, hsr, hh]
  · rw [rows_length hf, hnl]
  · rw [hf]; omega
  · omega
  · have : inf.by' ≤ 100 := Nat.le_of_ble_eq_true hby
    calc (n + 1) * inf.by' ≤ (n + 1) * 100 := Nat.mul_le_mul_left _ this
      _ ≤ 140737488355328 := by omega
  · rw [rows_append, rows_one]
end
theorem setL_append_mid {α : Type} (p q r ys : List α) (c : Nat) (hc : c + ys.length ≤ q.length) : setL (p ++ (q ++ r)) (p.length + c) ys = p ++ (setL q c ys ++ r) := by
  unfold setL
  have h1 : (p ++ (q ++ r)).take (p.length + c) = p ++ q.take c := by
    rw [List.take_append, List.take_of_length_le (by omega), Nat.add_sub_cancel_left, List.take_append_of_le_length (by omega)]
  have h2 : (p ++ (q ++ r)).drop (p.length + c + ys.length) = q.drop (c + ys.length) ++ r := by
    rw [List.drop_append, List.drop_eq_nil_of_le (by omega), List.nil_append, List.drop_append_of_le_length (by omega)]
    congr 2
    omega
  rw [h1, h2]
  simp
theorem rows_setf {α : Type} {f : α → List CV} {n : Nat} (hf : ∀ a, (f a).length = n) {L : List α} {m c : Nat} {a' : α} {ys : List CV} (hlt : m < L.length) (hc : c + ys.length ≤ n) (ha : setL (f L[m]) c ys = f a') : setL (rows f L) (m * n + c) ys = rows f (L.set m a') := by
  have e1 : rows f L = rows f (L.take m) ++ (f L[m] ++ rows f (L.drop (m + 1))) := by
    have : L = L.take m ++ (L[m] :: L.drop (m + 1)) := by rw [← List.drop_eq_getElem_cons hlt, List.take_append_drop]
    conv => lhs; rw [this, rows_append]
    rfl
  have e2 : rows f (L.set m a') = rows f (L.take m) ++ (f a' ++ rows f (L.drop (m + 1))) := by
    rw [List.set_eq_take_append_cons_drop, if_pos hlt, rows_append]
    rfl
  have e3 : (rows f (L.take m)).length = m * n := by rw [rows_length hf, List.length_take, Nat.min_eq_left (by omega)]
  rw [e1, e2, ← e3, setL_append_mid _ _ _ _ _ (by rw [hf]; exact hc), ha]
section
variable {E : Env} {l rest : List Oper} {fr : List (Nat × AV)} {hp : List (Nat × Ob)} {nx : Nat} {o : Oper} {Q : Exit → AS → Prop} {d : Nat}
variable {cert : CT} {nr : Nat} {os ms : List Nat} {fl : Bool} {k : AS → Prop} {i : Nat} {oi : Oper}
variable {α : Type} {f : α → List CV}
theorem pIx0 {t e : Nat} {sz b' : Nat} {zs : List CV} {x ix : Operand} {id n : Nat} {ty e' : Nat} {xs : List CV} {q : Int} {inf : TInf} (m : Nat) (ho : o.op = .indexAddr t x ix)
    (hx : AS.eval ⟨fr, hp, nx⟩ x = some (.h (.sl id 0 n))) (hi : AS.eval ⟨fr, hp, nx⟩ ix = some (.h (.c (.int .i64 q)))) (ht : look t E.te = some ⟨.slice e, sz, b', zs⟩) (he : look e E.te = some inf) (hob : look id hp = some (.arr ty e' xs)) (hes : e' = inf.sz)
    (hg : gdv l ⟨fr, hp, nx⟩ o = some true) (hd : o.dst = some d) (hn : Nat.blt d E.nt = true) (hk : q = (m : Int)) (hlt : m < n) (kk : AL E l rest ⟨(d, .h (.ptr id (m * inf.sz))) :: fr, hp, nx⟩ Q) : AL E l (o :: rest) ⟨fr, hp, nx⟩ Q :=
  pIxo m ho hx hi ht he hob hes hg hd hn hk hlt (by rw [Nat.zero_add]; exact kk)
theorem dIx0 {t e : Nat} {sz b' : Nat} {zs : List CV} {x ix : Operand} {id n : Nat} {ty e' : Nat} {xs : List CV} {q : Int} {inf : TInf} (m : Nat) (hi : nth l i = some oi) (ho : oi.op = .indexAddr t x ix)
    (hx : AS.eval ⟨fr, hp, nx⟩ x = some (.h (.sl id 0 n))) (hj : AS.eval ⟨fr, hp, nx⟩ ix = some (.h (.c (.int .i64 q)))) (ht : look t E.te = some ⟨.slice e, sz, b', zs⟩) (he : look e E.te = some inf) (hob : look id hp = some (.arr ty e' xs)) (hes : e' = inf.sz)
    (hg : gdv l ⟨fr, hp, nx⟩ oi = some true) (hd : oi.dst = some d) (hn : Nat.blt d E.nt = true) (hk : q = (m : Int)) (hlt : m < n) (kk : AH E l cert nr os ms fl ⟨(d, .h (.ptr id (m * inf.sz))) :: fr, hp, nx⟩ k) : AH E l (CT.cons (i, true) cert) nr os ms fl ⟨fr, hp, nx⟩ k :=
  dIxo m hi ho hx hj ht he hob hes hg hd hn hk hlt (by rw [Nat.zero_add]; exact kk)
/-- A store into element m of a row of the call's own, from its cell c on. -/
theorem pStR {t : TypeId} {x y : Operand} {id off : Nat} {v : AV} {ty e : Nat} {L : List α} {inf : TInf} (m c : Nat) (a' : α) (ys : List CV) (ho : o.op = .store t x y) (hx : AS.eval ⟨fr, hp, nx⟩ x = some (.h (.ptr id off))) (hy : AS.eval ⟨fr, hp, nx⟩ y = some v) (hv : cellsA v = some (ys.map HV.c))
    (hl : look id hp = some (.arr ty e (rows f L))) (ht : look t E.te = some inf) (hsz : Nat.beq ys.length inf.sz = true) (hg : gdv l ⟨fr, hp, nx⟩ o = some true) (hd : o.dst = none) (hf : ∀ a, (f a).length = e) (hoff : off = m * e + c) (hc : Nat.ble (c + ys.length) e = true)
    (hlt : m < L.length) (ha : setL (f L[m]) c ys = f a') (kk : AL E l rest ⟨fr, upd id (.arr ty e (rows f (L.set m a'))) hp, nx⟩ Q) : AL E l (o :: rest) ⟨fr, hp, nx⟩ Q := by
  have hc' := Nat.le_of_ble_eq_true hc
  refine pE (eSta (zs := rows f (L.set m a')) ys ho hx hy hv hl ht hsz hd ?_ ?_) hg kk
  · rw [rows_length hf, hoff]
    calc m * e + c + ys.length = m * e + (c + ys.length) := by omega
      _ ≤ m * e + e := by omega
      _ = (m + 1) * e := by rw [Nat.succ_mul]
      _ ≤ L.length * e := Nat.mul_le_mul_right _ hlt
  · rw [hoff]; exact rows_setf hf hlt hc' ha
end
/-! ### a call that is handed an object -/
theorem rens_pu {f : Nat → Nat} : ∀ xs : List HV, xs.all HV.pu = true → HV.rens f xs = xs
  | [], _ => rfl
  | x :: xs, h => by
    simp only [List.all_cons, Bool.and_eq_true] at h
    have : x.ren f = x := by cases x <;> simp [HV.pu] at h <;> rfl
    simp only [HV.rens, this, rens_pu xs h.2]
theorem ob_ren_pu {f : Nat → Nat} {o : Ob} (h : o.pu = true) : o.ren f = o := by
  cases o with
  | arr => rfl
  | box ty xs => simp only [Ob.ren, rens_pu xs h]
  | hrr ty e xs => simp only [Ob.ren, rens_pu xs h]
section
variable {E : Env} {l rest : List Oper} {fr : List (Nat × AV)} {hp rs : List (Nat × Ob)} {nx : Nat} {o : Oper} {Q : Exit → AS → Prop} {d : Nat}
variable {cert : CT} {nr : Nat} {os ms : List Nat} {fl : Bool} {k : AS → Prop} {i : Nat} {oi : Oper}
variable {f : FuncId} {as : List Operand} {xs ys : List AV} {rt : List Nat} {ob : Ob} (id : Nat)
/-- The object is handed over and comes back; the answer is plain; what the answers are is left open. -/
theorem pCo {α : Type} {R : α → Prop} {ob' : α → Ob} {x : α → AV} (hc : AC E.P f ys [ob] rt (fun r h => ∃ a, R a ∧ h = [ob' a] ∧ r = x a)) (hop : callOf ⟨fr, hp, nx⟩ o.op = some (f, as)) (hev : AS.evals ⟨fr, hp, nx⟩ as = some xs) (hpk : pick [id] hp = some ([ob], rs)) (hpu : ob.pu = true) (hpu' : ∀ a, (ob' a).pu = true) (hx : ∀ a f, (x a).ren f = x a)
    (hg : gdv l ⟨fr, hp, nx⟩ o = some true) (hd : o.dst = some d) (hn : Nat.blt d E.nt = true) (hT : 99 ∉ rt) (hb : BorAs rs [id] 99 xs ys) (k : ∀ a, R a → AL E l rest ⟨(d, x a) :: fr, (id, ob' a) :: rs, nx⟩ Q) : AL E l (o :: rest) ⟨fr, hp, nx⟩ Q := by
  refine pC (eCall hc 99 [id] hop hev hpk (by simp [hpu]) hd hn hb hT) hg ?_
  rintro _ _ ⟨a, ha, rfl, rfl⟩
  rw [hx a]
  simp only [named, ob_ren_pu (hpu' a)]
  exact k a ha
theorem dCo {α : Type} {R : α → Prop} {ob' : α → Ob} {x : α → AV} (hc : AC E.P f ys [ob] rt (fun r h => ∃ a, R a ∧ h = [ob' a] ∧ r = x a)) (hi : nth l i = some oi) (hop : callOf ⟨fr, hp, nx⟩ oi.op = some (f, as)) (hev : AS.evals ⟨fr, hp, nx⟩ as = some xs) (hpk : pick [id] hp = some ([ob], rs)) (hpu : ob.pu = true) (hbx : ob.bx = true) (hpu' : ∀ a, (ob' a).pu = true) (hx : ∀ a f, (x a).ren f = x a)
    (hg : gdv l ⟨fr, hp, nx⟩ oi = some true) (hd : oi.dst = some d) (hn : Nat.blt d E.nt = true) (hT : 99 ∉ rt) (hm : [id].all (fun id => ms.contains id || Nat.ble nr id) = true) (hb : BorAs rs [id] 99 xs ys) (kk : ∀ a, R a → AH E l cert nr os ms false ⟨(d, x a) :: fr, (id, ob' a) :: rs, nx⟩ k) : AH E l (CT.cons (i, false) cert) nr os ms fl ⟨fr, hp, nx⟩ k := by
  refine dC hc 99 [id] hi hop hev hpk (by simp [hpu]) (by simp [hbx]) hg hd hn hm hb hT ?_
  rintro _ _ ⟨a, ha, rfl, rfl⟩
  rw [hx a]
  simp only [named, ob_ren_pu (hpu' a)]
  exact kk a ha
end
/-! ### a nil slice, seen as a row of the call's own -/
theorem al_nown {E : Env} {l rest : List Oper} {fr : List (Nat × AV)} {hp : List (Nat × Ob)} {nx : Nat} {Q : Exit → AS → Prop} (d ty e : Nat) (hl : look d fr = some (.h (.c .nil))) (k : AL E l rest ⟨(d, .h (.sl nx 0 0)) :: fr, (nx, .arr ty e []) :: hp, nx + 1⟩ Q) : AL E l rest ⟨fr, hp, nx⟩ Q := by
  intro g im a w ⟨fps, hs⟩
  have hsw := SimF.swap hs (hp0 := hp) (fr := []) (f0 := fps) (f' := []) hs.hp hs.nd (fun b hb => hb) ⟨none, 0, ty, e⟩ (.arr ty e []) (fun _ _ _ => rfl) (Nat.le_refl _) rfl rfl rfl List.nodup_nil (fun _ h => by cases h) (fun _ h => by cases h) (fun _ h => by cases h)
    ⟨rfl, rfl, .inl ⟨rfl, rfl, rfl, rfl⟩⟩
  refine k (gup g nx ⟨none, 0, ty, e⟩) im a w ⟨[] ++ fps, ⟨hsw.dfr, hsw.sz, ?_, hsw.hp, hsw.nd, hsw.lt, hsw.ni, hsw.mine, hsw.gn, hsw.gl, hsw.il, hsw.kp, hsw.kn, hsw.g0, hsw.i0, hsw.i1⟩⟩
  intro t y hy
  by_cases ht : t = d
  · subst ht
    simp only [look_cons_eq, Option.some.injEq] at hy
    subst hy
    have hv := hs.fr t _ hl
    simp only [RA, RH, R] at hv
    rw [hv.1]
    refine ⟨rfl, ⟨none, 0, ty, e⟩, by simp [gup], Nat.le_refl _, Nat.zero_le _, ?_⟩
    simp [slv]
  · simp only [look_cons_ne ht] at hy
    exact hsw.fr t y hy
/-- .. as one that is only read. -/
theorem al_nrd {E : Env} {l rest : List Oper} {fr : List (Nat × AV)} {hp : List (Nat × Ob)} {nx : Nat} {Q : Exit → AS → Prop} (d t : Nat) (hl : look d fr = some (.h (.c .nil))) (k : AL E l rest ⟨(d, .h (.c (.rd t 0 []))) :: fr, hp, nx⟩ Q) : AL E l rest ⟨fr, hp, nx⟩ Q := by
  intro g im a w ⟨fps, hs⟩
  refine k g im a w ⟨fps, ⟨hs.dfr, hs.sz, ?_, hs.hp, hs.nd, hs.lt, hs.ni, hs.mine, hs.gn, hs.gl, hs.il, hs.kp, hs.kn, hs.g0, hs.i0, hs.i1⟩⟩
  intro t' y hy
  by_cases ht : t' = d
  · subst ht
    simp only [look_cons_eq, Option.some.injEq] at hy
    subst hy
    have hv := hs.fr t' _ hl
    simp only [RA, RH, R] at hv ⊢
    rw [hv.1]
    exact ⟨trivial, none, 0, rfl, Nat.le_refl _, Nat.zero_le _, .inl trivial⟩
  · simp only [look_cons_ne ht] at hy
    exact hs.fr t' y hy
/-- The body's end, no objects: plain results. -/
theorem xt_finT {te : TE} {rs : List ResultVar} {rt : List Nat} {Post : AV → List Ob → Prop} {s : AS} {e : Exit} {xs : List AV} (he : e = .normal ∨ e = .ret) (h : rvs te s rs = some xs) (hr : ∀ f, (tupOf xs).ren f = tupOf xs) (tg : (tupOf xs).Tg rt) (post : Post (tupOf xs) []) : XT e s (FinQ te 0 rs rt Post) :=
  xt_end (P' := FinQ te 0 rs rt Post) ⟨he, xs, [], tupOf xs, [], h, Nat.le_refl _, rfl, rfl, (hr _).symm, trivial, tg, trivial, post⟩
end Go.Proofs.Ytjijkdhjfanpaaa
