/- The engine, part zh: stores into rows of rows; rows of rows lent and frozen; the greater of two numbers; numbers without sign. -/
import Derived.Test.YtjijkdhjfanpaaaEzg
namespace Go.Proofs.Ytjijkdhjfanpaaa
open Go.RowKit
section
variable {E : Env} {te : TE} {s : AS} {o : Oper} {Q : AS → Prop}
/-- A store into a row that holds handles. -/
theorem es_sth {t : TypeId} {x y : Operand} {id off : Nat} {v : AV} {ty e : Nat} {cs ys : List HV} {inf : TInf} (hte : teOk E.P te = true) (hop : o.op = .store t x y) (hx : s.eval x = some (.h (.ptr id off))) (hy : s.eval y = some v) (hv : cellsA v = some ys) (hl : look id s.hp = some (.hrr ty e cs))
    (ht : look t te = some inf) (hsz : ys.length = inf.sz) (hle : off + ys.length ≤ cs.length) (hd : dok E.nt o.dst = true)
    (hQ : Q (({ s with hp := upd id (.hrr ty e (setL cs off ys)) s.hp } : AS).putd o.dst .top)) : ES E s o (some [id]) Q := by
  intro g im a w K QQ ⟨fps, hs⟩ hK
  have hp := hs.eval hx
  simp only [RA, RH] at hp
  obtain ⟨_, bi, b, hg, hb, e1⟩ := hp
  have hus := RA_cells (hs.eval hy) hv
  have hul := RHs_length _ _ _ hus
  obtain ⟨bi', f1, f2, f3, hg', hf, hro⟩ := look_HR hs.hp hl
  obtain rfl : bi = bi' := by rw [hg] at hg'; exact Option.some.inj hg'
  obtain ⟨q1, q2, ⟨q3, _⟩ | ⟨b', cur, f, us0, hb', rfl, hh, hcap, hr0, hc0⟩⟩ := hro
  · rw [q3] at hb; cases hb
  obtain rfl : b = b' := by rw [hb] at hb'; exact Option.some.inj hb'
  have hl0 := RHs_length _ _ _ hr0
  have hcell : ∀ (j : Nat) (u : Value), us0[j]? = some u → cur.toList[j]? = some u := by
    intro j u hj
    have := hc0 j u hj
    rw [cell_of_row _ _ _ cur ty (0, 0) hh] at this
    simpa using this
  have hcl : cs.length ≤ cur.toList.length := by
    rcases Nat.lt_or_ge cur.toList.length cs.length with h | h
    · exfalso
      have hj : cur.toList.length < us0.length := by rw [hl0]; simpa using h
      have := hcell _ _ (List.getElem?_eq_getElem hj)
      rw [List.getElem?_eq_none (Nat.le_refl _)] at this
      cases this
    · exact h
  have hcs : (a.eval y).cells.toList.length = ys.length := by simpa using hul
  have hrun := run_store_var (P := E.P) hte ht hh (v := a.eval y) rfl (by omega) (RHs_one _ _ _ hus) (off := off) (by simp at hcl hcs ⊢; omega)
  have hbf : b ∈ fps := by rw [hf]; exact List.mem_append_right _ (List.mem_append_left _ List.mem_cons_self)
  have hblt := hs.lt b hbf
  generalize hnew : (cur.toList.take off ++ (a.eval y).cells.toList ++ cur.toList.drop (off + (a.eval y).cells.toList.length)) = new at hrun
  have hk : ∀ c, c ≠ b → (w.setRow b new.toArray).heap[c]? = w.heap[c]? := fun c hc => setRow_other w b c _ hc
  obtain ⟨fps', hsim⟩ := hs.upd (ob' := .hrr ty e (setL cs off ys)) hl hg hb hk (by simp) rfl rfl rfl (fun f0 hro0 hf0 hnd0 => by
    obtain ⟨q4, q5, ⟨q6, _⟩ | ⟨b0, cur0, f4, us1, hb0, rfl, hh0, hcap0, hr2, hc2⟩⟩ := hro0
    · rw [q6] at hb; cases hb
    obtain rfl : b = b0 := by rw [hb] at hb0; exact Option.some.inj hb0
    rw [hh] at hh0
    injection hh0 with hh0
    injection hh0 with hh0
    subst hh0
    have hl2 := RHs_length _ _ _ hr2
    obtain ⟨f', hsl, hr'⟩ := RHs_setL (o := off) hr2 hus
    have hlen : new.length = cur.toList.length := by
      rw [← hnew]; simp only [List.length_append, List.length_take, List.length_drop]; omega
    have hr3 := RHs_mono (w' := w.setRow b new.toArray) (fun _ _ h => h) (fun t c hc => ⟨hc, hk c fun e => by subst e; exact (hf0 c List.mem_cons_self).2 t hc⟩) _ _ _ (fun c hc => hk c fun e => by subst e; exact (List.nodup_cons.1 hnd0).1 (hsl.subset hc)) hr'
    refine ⟨b :: f', List.Sublist.cons_cons _ hsl, q4, q5, .inr ⟨b, _, f', _, hb, rfl, setRow_heap w b _ _ ty (0, 0) hh, by rw [← hcap0]; simpa using hlen, hr3, fun j u hj => ?_⟩⟩
    rw [cell_of_row _ _ _ new.toArray ty (0, 0) (setRow_heap w b _ _ ty (0, 0) hh)]
    rw [show (new.toArray)[j]? = new[j]? by simp, ← hnew]
    have hc2' : ∀ (j : Nat) (u : Value), us1[j]? = some u → cur.toList[j]? = some u := by
      intro j u hj
      have := hc2 j u hj
      rw [cell_of_row _ _ _ cur ty (0, 0) hh] at this
      simpa using this
    have e1 := setL_get cur.toList (a.eval y).cells.toList off (by omega) j
    have e2 := setL_get us1 (a.eval y).cells.toList off (by omega) j
    unfold setL at e1 e2
    rw [List.append_assoc, e1]
    rw [List.append_assoc, e2] at hj
    by_cases h1 : j < off
    · rw [if_pos h1] at hj ⊢
      exact hc2' j u hj
    · rw [if_neg h1] at hj ⊢
      by_cases h2 : j < off + (a.eval y).cells.toList.length
      · rw [if_pos h2] at hj ⊢
        exact hj
      · rw [if_neg h2] at hj ⊢
        exact hc2' j u hj)
  unfold Oper.wp
  have : (execOp a.eval o).run E.P w = .ok .skip (w.setRow b new.toArray) := by
    simp only [execOp, hop, e1, Sem.run_bind, hrun, Result.andThen_ok, Sem.run_pure]
  rw [this]
  refine hK g im _ _ _ (· = b) ⟨fps', hsim.putd (dok_lt hd) (by simp only [RA])⟩ hQ (Chg.upd hs (fun t => hs.ni b hbf t) hk (by simp)) ?_
  rintro m hm c rfl
  injection hm with hm
  subst hm
  exact ⟨id, List.mem_cons_self, bi, hg, hb⟩
end
/-! ### the same state, told otherwise -/
theorem es_conv {E : Env} {s s1 : AS} {o : Oper} {md : Option (List Nat)} {Q Q1 : AS → Prop} (h1 : ∀ g im a w, Sim E g im s a w → Sim E g im s1 a w) (hnx : s1.nx = s.nx) (h : ES E s1 o md Q1) (h2 : ∀ s', Q1 s' → ∃ s'', (∀ g im a w, Sim E g im s' a w → Sim E g im s'' a w) ∧ Q s'') : ES E s o md Q := by
  intro g im a w K QQ hs hK
  refine h g im a w K QQ (h1 g im a w hs) fun g' im' s' a' w' F hs' hq hch hof => ?_
  obtain ⟨s'', h3, h4⟩ := h2 s' hq
  exact hK g' im' s'' a' w' F (h3 _ _ _ _ hs') h4 (by rw [← hnx]; exact hch) hof
theorem sim_hrr {E : Env} {g : Ga} {im : Im} {fr : List (Nat × AV)} {hp : List (Nat × Ob)} {nx : Nat} {a : Act} {w : World} (id : Nat) {ty e : Nat} {xs : List CV} (hl : look id hp = some (.arr ty e xs)) (h : Sim E g im ⟨fr, hp, nx⟩ a w) :
    Sim E g im ⟨fr, upd id (.hrr ty e (xs.map HV.c)) hp, nx⟩ a w := by
  obtain ⟨fps, hs⟩ := h
  obtain ⟨l1, l2, rfl, hu, _⟩ := look_split hl
  obtain ⟨g1, g2, rfl, q1, q2⟩ := (HR_append _ _ _).1 hs.hp
  obtain ⟨bi, g3, g4, q3, rfl, q5, q6⟩ := q2
  refine ⟨_, hs.same (fun _ _ h => h) (fps' := g1 ++ (g3 ++ g4)) ?_ hs.nd (fun _ h => h) hs.gn hs.gl (Nat.le_refl _) fun _ _ => rfl⟩
  rw [hu]
  refine (HR_append _ _ _).2 ⟨g1, _, rfl, q1, bi, g3, g4, q3, rfl, ?_, q6⟩
  obtain ⟨r1, r2, ⟨r3, r4, r5, r6⟩ | ⟨b, cur, f, r3, r4, r5, r6, r7⟩⟩ := q5
  · subst r4
    exact ⟨r1, r2, .inl ⟨r3, rfl, r5, r6⟩⟩
  · obtain ⟨us, v1, v2⟩ := RL_RHs (g := g) _ _ _ r7
    exact ⟨r1, r2, .inr ⟨b, cur, f, us, r3, r4, r5, r6, v1, fun j u hj => by simpa using v2 j u hj⟩⟩
/-! ### rows of rows of numbers -/
def iow (ti : Nat) {α : Type} (f : α → List CV) (x : List α) : List CV := [.ow ti 1 x.length (rows f x)]
def ird (T : Nat) {α : Type} (f : α → List CV) (x : List α) : List CV := [.rd T x.length (rows f x)]
theorem iow_brw {α : Type} {f : α → List CV} (hp : ∀ a, Plain (f a)) (ti T : Nat) (l : List (List α)) : CV.brws T (rows (iow ti f) l) = rows (ird T f) l :=
  rows_brws T (fun a => by simp only [iow, ird, CV.brws, CV.brw]; rw [plain_rows hp a T]) l
theorem bor_io {α : Type} {f : α → List CV} (hp : ∀ a, Plain (f a)) {rest : List (Nat × Ob)} {ps : List Nat} {T id n ty e ti : Nat} {l : List (List α)} (hl : look id rest = some (.arr ty e (rows (iow ti f) l))) : BorH rest ps T (.sl id 0 n) (.c (.rd T n (rows (ird T f) l))) :=
  .inr ⟨ty, e, _, _, (rows (iow ti f) l).length, hl, by rw [Nat.zero_mul, List.drop_zero, List.take_length]; exact iow_brw hp ti T l, rfl⟩
theorem bor_io1 {α : Type} {f : α → List CV} (hp : ∀ a, Plain (f a)) {rest : List (Nat × Ob)} {ps : List Nat} {T id n ty ti : Nat} {x : List α} {l : List (List α)} (hl : look id rest = some (.arr ty 1 (rows (iow ti f) (x :: l)))) : BorH rest ps T (.sl id 1 n) (.c (.rd T n (rows (ird T f) l))) :=
  .inr ⟨ty, 1, _, _, (rows (iow ti f) l).length, hl, by
    show CV.brws T ((List.drop 1 (iow ti f x ++ rows (iow ti f) l)).take _) = _
    rw [show List.drop 1 (iow ti f x ++ rows (iow ti f) l) = rows (iow ti f) l from rfl, List.take_length]
    exact iow_brw hp ti T l, rfl⟩
def hopen (ti : Nat) {α : Type} (f : α → List CV) (L : List (List α)) (k : Nat) (h : HV) : List HV := (rows (iow ti f) (L.take k)).map HV.c ++ h :: (rows (iow ti f) (L.drop (k + 1))).map HV.c
theorem iow_len {ti : Nat} {α : Type} {f : α → List CV} (l : List (List α)) : (rows (iow ti f) l).length = l.length := by rw [rows_length (n := 1) (fun _ => rfl), Nat.mul_one]
theorem rows_at_split {ti : Nat} {α : Type} {f : α → List CV} {L : List (List α)} {k : Nat} (hk : k < L.length) : rows (iow ti f) L = rows (iow ti f) (L.take k) ++ .ow ti 1 L[k].length (rows f L[k]) :: rows (iow ti f) (L.drop (k + 1)) := by
  conv => lhs; rw [← List.take_append_drop k L, List.drop_eq_getElem_cons hk, rows_append]
  rfl
theorem hopen_drop {ti : Nat} {α : Type} {f : α → List CV} {L : List (List α)} {k : Nat} (hk : k < L.length) (h : HV) : (hopen ti f L k h).drop k = h :: (rows (iow ti f) (L.drop (k + 1))).map HV.c := by
  unfold hopen
  rw [List.drop_append_of_le_length (by rw [List.length_map, iow_len, List.length_take]; omega), List.drop_of_length_le (by rw [List.length_map, iow_len, List.length_take]; omega), List.nil_append]
theorem hopen_len {ti : Nat} {α : Type} {f : α → List CV} {L : List (List α)} {k : Nat} (hk : k < L.length) (h : HV) : (hopen ti f L k h).length = L.length := by
  unfold hopen
  simp only [List.length_append, List.length_map, List.length_cons, iow_len, List.length_take, List.length_drop]; omega
theorem hopen_set {ti : Nat} {α : Type} {f : α → List CV} {L : List (List α)} {k : Nat} (hk : k < L.length) (h h' : HV) : setL (hopen ti f L k h) k [h'] = hopen ti f L k h' := by
  have e : ((rows (iow ti f) (L.take k)).map HV.c).length = k := by rw [List.length_map, iow_len, List.length_take]; omega
  have := setL_append_mid ((rows (iow ti f) (L.take k)).map HV.c) [h] ((rows (iow ti f) (L.drop (k + 1))).map HV.c) [h'] 0 (by simp)
  rw [e, Nat.add_zero] at this
  exact this
theorem rows_set_split {ti : Nat} {α : Type} {f : α → List CV} {L : List (List α)} {k : Nat} (hk : k < L.length) (x : List α) : rows (iow ti f) (L.set k x) = rows (iow ti f) (L.take k) ++ .ow ti 1 x.length (rows f x) :: rows (iow ti f) (L.drop (k + 1)) := by
  rw [List.set_eq_take_append_cons_drop, if_pos hk, rows_append]
  rfl
section
variable {E : Env} {l rest : List Oper} {fr : List (Nat × AV)} {hp : List (Nat × Ob)} {nx : Nat} {Q : Exit → AS → Prop} {c : Code} {α : Type} {f : α → List CV}
theorem al_openR (id k : Nat) {ty ti : Nat} {L : List (List α)} (hl : look id hp = some (.arr ty 1 (rows (iow ti f) L))) (hk : k < L.length) (kk : AL E l rest ⟨fr, (nx, .arr ti 1 (rows f L[k])) :: upd id (.hrr ty 1 (hopen ti f L k (.sl nx 0 L[k].length))) hp, nx + 1⟩ Q) : AL E l rest ⟨fr, hp, nx⟩ Q :=
  al_open id (by rw [hl, rows_at_split hk]) kk
theorem awp_openR (id k : Nat) {ty ti : Nat} {L : List (List α)} (hl : look id hp = some (.arr ty 1 (rows (iow ti f) L))) (hk : k < L.length) (kk : AWP E c ⟨fr, (nx, .arr ti 1 (rows f L[k])) :: upd id (.hrr ty 1 (hopen ti f L k (.sl nx 0 L[k].length))) hp, nx + 1⟩ Q) : AWP E c ⟨fr, hp, nx⟩ Q :=
  awp_open id (by rw [hl, rows_at_split hk]) kk
theorem al_closeR (id j k : Nat) {ty ti n : Nat} {L : List (List α)} {x : List α} (hj : look j hp = some (.arr ti 1 (rows f x))) (hl : look id (del j hp) = some (.hrr ty 1 (hopen ti f L k (.sl j 0 n)))) (hk : k < L.length) (hn : n = x.length) (kk : AL E l rest ⟨fr, upd id (.arr ty 1 (rows (iow ti f) (L.set k x))) (del j hp), nx⟩ Q) : AL E l rest ⟨fr, hp, nx⟩ Q :=
  al_close id j hj hl (by rw [hn, ← rows_set_split hk]; exact kk)
theorem awp_closeR (id j k : Nat) {ty ti n : Nat} {L : List (List α)} {x : List α} (hj : look j hp = some (.arr ti 1 (rows f x))) (hl : look id (del j hp) = some (.hrr ty 1 (hopen ti f L k (.sl j 0 n)))) (hk : k < L.length) (hn : n = x.length) (kk : AWP E c ⟨fr, upd id (.arr ty 1 (rows (iow ti f) (L.set k x))) (del j hp), nx⟩ Q) : AWP E c ⟨fr, hp, nx⟩ Q :=
  awp_close id j hj hl (by rw [hn, ← rows_set_split hk]; exact kk)
end
/-! ### freezing whatever is told of the row -/
section
variable {E : Env} {l rest : List Oper} {fr : List (Nat × AV)} {hp : List (Nat × Ob)} {nx : Nat} {Q : Exit → AS → Prop} {c : Code}
theorem brws_brws (T : Nat) : ∀ xs : List CV, CV.brws T (CV.brws T xs) = CV.brws T xs
  | [] => rfl
  | x :: xs => by
    have : (x.brw T).brw T = x.brw T := by cases x <;> simp [CV.brw]
    simp only [CV.brws, this, brws_brws T xs]
theorem brws_drop (T : Nat) : ∀ (xs : List CV) (k : Nat), CV.brws T (xs.drop k) = (CV.brws T xs).drop k
  | [], k => by simp [CV.brws]
  | x :: xs, 0 => rfl
  | x :: xs, k + 1 => by simpa [CV.brws] using brws_drop T xs k
mutual
theorem CV.gz_eq {id T e : Nat} {xs ys : List CV} (hb : CV.brws T xs = ys) : ∀ x : AV, x.frz id T e xs = x.frz id T e ys
  | .h x => by simp only [AV.frz, HV.gz_eq hb]
  | .agg zs => by simp only [AV.frz, HV.gzs_eq hb]
  | .tup zs => by simp only [AV.frz, AV.gzs_eq hb zs]
  | .top => by simp only [AV.frz]
theorem AV.gzs_eq {id T e : Nat} {xs ys : List CV} (hb : CV.brws T xs = ys) : ∀ x : List AV, AV.frzs id T e xs x = AV.frzs id T e ys x
  | [] => by simp only [AV.frzs]
  | y :: zs => by simp only [AV.frzs, CV.gz_eq hb y, AV.gzs_eq hb zs]
theorem HV.gz_eq {id T e : Nat} {xs ys : List CV} (hb : CV.brws T xs = ys) (x : HV) : x.frz id T e xs = x.frz id T e ys := by
  cases x with
  | sl j i n => simp only [HV.frz, ← hb, brws_drop, brws_brws]
  | _ => rfl
theorem HV.gzs_eq {id T e : Nat} {xs ys : List CV} (hb : CV.brws T xs = ys) : ∀ x : List HV, HV.frzs id T e xs x = HV.frzs id T e ys x
  | [] => rfl
  | y :: zs => by simp only [HV.frzs, HV.gz_eq hb, HV.gzs_eq hb zs]
end
theorem frzF_gz {id T e : Nat} {xs ys : List CV} (hb : CV.brws T xs = ys) : ∀ fr : List (Nat × AV), frzF id T e xs fr = frzF id T e ys fr
  | [] => rfl
  | (d, x) :: r => by simp only [frzF, CV.gz_eq hb, frzF_gz hb r]
theorem frzO_gz {id T e : Nat} {xs ys : List CV} (hb : CV.brws T xs = ys) : ∀ hp : List (Nat × Ob), frzO id T e xs hp = frzO id T e ys hp
  | [] => rfl
  | (d, x) :: r => by
    have : x.frz id T e xs = x.frz id T e ys := by
      cases x with
      | arr => rfl
      | box ty zs => simp only [Ob.frz, HV.gzs_eq hb]
      | hrr ty e' zs => simp only [Ob.frz, HV.gzs_eq hb]
    simp only [frzO, this, frzO_gz hb r]
/-- A row, with whatever is owned in it, is only read from here on. -/
theorem al_frzG (id T : Nat) (hT : Nat.ble 100 T = true) {ty e : Nat} {xs ys : List CV} (hl : look id hp = some (.arr ty e xs)) (hb : CV.brws T xs = ys) (hb2 : CV.brws T ys = ys) (kk : AL E l rest ⟨fzF id T e ys fr, fzO id T e ys (del id hp), nx⟩ Q) : AL E l rest ⟨fr, hp, nx⟩ Q := by
  refine al_freeze id T hT hl ?_
  rw [frzF_gz hb, frzO_gz hb, fzF_eq hb2, fzO_eq hb2]
  exact kk
theorem ird_brw {α : Type} {f : α → List CV} (T S : Nat) (l : List (List α)) : CV.brws S (rows (ird T f) l) = rows (ird T f) l := rows_brws S (fun a => rfl) l
/-- A row of rows. -/
theorem al_frzI {α : Type} {f : α → List CV} (id T : Nat) (hT : Nat.ble 100 T = true) {ty e ti : Nat} {L : List (List α)} (hl : look id hp = some (.arr ty e (rows (iow ti f) L))) (hp' : ∀ a, Plain (f a)) (kk : AL E l rest ⟨fzF id T e (rows (ird T f) L) fr, fzO id T e (rows (ird T f) L) (del id hp), nx⟩ Q) : AL E l rest ⟨fr, hp, nx⟩ Q :=
  al_frzG id T hT hl (iow_brw hp' ti T L) (ird_brw T T L) kk
end
/-! ### steps -/
section
variable {E : Env} {te : TE} {os : Option (List Nat)} {fl : Bool} {s : AS}
theorem ps_max {x y : Operand} {ts : Array Nat} {a b : Int} {cc : Callee} (hc : cc = .builtin .max) (hx : s.eval x = some (.h (.c (.int .i64 a)))) (hy : s.eval y = some (.h (.c (.int .i64 b)))) :
    PS E os fl s (.call { callee := cc, args := #[x, y], argTypes := ts }) (.h (.c (.int .i64 (max a b)))) := by
  subst hc
  intro g im ac w M n0 ⟨fps, hs⟩ hI
  have e1 := RA_int (hs.eval hx)
  have e2 := RA_int (hs.eval hy)
  refine ⟨_, RA_mkInt _ _, fun w' _ o ho => ?_⟩
  have : (if b > a then b else a) = max a b := by omega
  simp [execOp, ho, e1, e2, resolve, invoke, builtin, Builtin.max_, Builtin.max2, this]
theorem ps_convU {src dst : TypeId} {x : Operand} {a : Int} {inf inf' : TInf} (hte : teOk E.P te = true) (hx : s.eval x = some (.h (.c (.int .i64 a)))) (hs1 : look src te = some inf) (hd1 : look dst te = some inf') (hd2 : inf'.d = .int .u64)
    (h0 : 0 ≤ a) (h1 : a ≤ 9223372036854775807) : PS E os fl s (.convert src dst x) (.h (.c (.int .u64 a))) := by
  intro g im ac w M n0 ⟨fps, hs⟩ hI
  have e1 := RA_int (hs.eval hx)
  refine ⟨_, RA_mkInt _ _, fun w' _ o ho => ?_⟩
  have hw : IntKind.u64.wrap a = a := by rw [IntKind.wrap_u64]; omega
  have hu := (teOk_look hte hd1).und
  have hu' := (teOk_look hte hs1).und
  rw [hd2] at hu
  cases hp : E.P.underlying dst with
  | none => simp [TI.is, hp] at hu
  | some d =>
    cases d <;> simp [TI.is, hp] at hu
    subst hu
    cases hp' : E.P.underlying src with
    | none => rw [hp'] at hu'; cases hd : inf.d <;> simp [TI.is, hd] at hu'
    | some d' =>
      simp [execOp, ho, e1, convert, run_underlying hp, run_underlying hp', Conv.intToInt, hw]
theorem ps_shr1 {t t' : TypeId} {x y : Operand} {a : Int} (hx : s.eval x = some (.h (.c (.int .u64 a)))) (hy : s.eval y = some (.h (.c (.int .u64 1)))) : PS E os fl s (.binOp .shr t x y t') (.h (.c (.int .u64 (a / 2)))) := by
  intro g im ac w M n0 ⟨fps, hs⟩ hI
  have e1 := RA_int (hs.eval hx)
  have e2 := RA_int (hs.eval hy)
  refine ⟨_, RA_mkInt _ _, fun w' _ o ho => ?_⟩
  have := shift_shr .u64 .u64 a 1 (by omega) (by decide)
  simp [execOp, ho, e1, e2, eqGuard, binOp, this]
end
section
variable {E : Env} {l rest : List Oper} {fr : List (Nat × AV)} {hp : List (Nat × Ob)} {nx : Nat} {o : Oper} {Q : Exit → AS → Prop} {d : Nat}
variable {cert : CT} {nr : Nat} {os ms : List Nat} {fl : Bool} {k : AS → Prop} {i : Nat} {oi : Oper}
theorem pMax {x y : Operand} {ts : Array Nat} {a b r : Int} (ho : o.op = .call { callee := .builtin .max, args := #[x, y], argTypes := ts }) (hx : AS.eval ⟨fr, hp, nx⟩ x = some (.h (.c (.int .i64 a)))) (hy : AS.eval ⟨fr, hp, nx⟩ y = some (.h (.c (.int .i64 b))))
    (hg : gdv l ⟨fr, hp, nx⟩ o = some true) (hd : o.dst = some d) (hn : Nat.blt d E.nt = true) (hr : max a b = r) (kk : AL E l rest ⟨(d, .h (.c (.int .i64 r))) :: fr, hp, nx⟩ Q) : AL E l (o :: rest) ⟨fr, hp, nx⟩ Q :=
  al_pd (by rw [ho, ← hr]; exact ps_max rfl hx hy) hg hd hn kk
theorem dMax {x y : Operand} {ts : Array Nat} {a b r : Int} (hi : nth l i = some oi) (ho : oi.op = .call { callee := .builtin .max, args := #[x, y], argTypes := ts }) (hx : AS.eval ⟨fr, hp, nx⟩ x = some (.h (.c (.int .i64 a)))) (hy : AS.eval ⟨fr, hp, nx⟩ y = some (.h (.c (.int .i64 b))))
    (hg : gdv l ⟨fr, hp, nx⟩ oi = some true) (hd : oi.dst = some d) (hn : Nat.blt d E.nt = true) (hr : max a b = r) (kk : AH E l cert nr os ms fl ⟨(d, .h (.c (.int .i64 r))) :: fr, hp, nx⟩ k) : AH E l (CT.cons (i, true) cert) nr os ms fl ⟨fr, hp, nx⟩ k :=
  dPS hi (by rw [ho, ← hr]; exact ps_max rfl hx hy) hg hd hn kk
theorem pConvU {src dst : TypeId} {x : Operand} {a : Int} {inf inf' : TInf} (ho : o.op = .convert src dst x) (hx : AS.eval ⟨fr, hp, nx⟩ x = some (.h (.c (.int .i64 a)))) (hs1 : look src E.te = some inf) (hd1 : look dst E.te = some inf') (hd2 : inf'.d = .int .u64)
    (hg : gdv l ⟨fr, hp, nx⟩ o = some true) (hd : o.dst = some d) (hn : Nat.blt d E.nt = true) (h0 : 0 ≤ a) (h1 : a ≤ 9223372036854775807) (kk : AL E l rest ⟨(d, .h (.c (.int .u64 a))) :: fr, hp, nx⟩ Q) : AL E l (o :: rest) ⟨fr, hp, nx⟩ Q :=
  al_pd (by rw [ho]; exact ps_convU E.hte hx hs1 hd1 hd2 h0 h1) hg hd hn kk
theorem pShr1 {t t' : TypeId} {x y : Operand} {a : Int} (ho : o.op = .binOp .shr t x y t') (hx : AS.eval ⟨fr, hp, nx⟩ x = some (.h (.c (.int .u64 a)))) (hy : AS.eval ⟨fr, hp, nx⟩ y = some (.h (.c (.int .u64 1))))
    (hg : gdv l ⟨fr, hp, nx⟩ o = some true) (hd : o.dst = some d) (hn : Nat.blt d E.nt = true) (kk : AL E l rest ⟨(d, .h (.c (.int .u64 (a / 2)))) :: fr, hp, nx⟩ Q) : AL E l (o :: rest) ⟨fr, hp, nx⟩ Q :=
  al_pd (by rw [ho]; exact ps_shr1 hx hy) hg hd hn kk
/-- The place of an element of a row that holds handles; its load. -/
theorem pIxH {t e : Nat} {sz b' : Nat} {zs : List CV} {x ix : Operand} {id n : Nat} {ty e' : Nat} {xs : List HV} {q : Int} {inf : TInf} (m : Nat) (ho : o.op = .indexAddr t x ix)
    (hx : AS.eval ⟨fr, hp, nx⟩ x = some (.h (.sl id 0 n))) (hi : AS.eval ⟨fr, hp, nx⟩ ix = some (.h (.c (.int .i64 q)))) (ht : look t E.te = some ⟨.slice e, sz, b', zs⟩) (he : look e E.te = some inf) (hob : look id hp = some (.hrr ty e' xs)) (hes : e' = inf.sz)
    (hg : gdv l ⟨fr, hp, nx⟩ o = some true) (hd : o.dst = some d) (hn : Nat.blt d E.nt = true) (hk : q = (m : Int)) (hlt : m < n) (kk : AL E l rest ⟨(d, .h (.ptr id (m * inf.sz))) :: fr, hp, nx⟩ Q) : AL E l (o :: rest) ⟨fr, hp, nx⟩ Q :=
  al_pd (by rw [ho]; exact ps_ixh m E.hte hx hi hk hlt ht he hob hes) hg hd hn (by rw [Nat.zero_add]; exact kk)
theorem pIxHj {t e : Nat} {sz b' : Nat} {zs : List CV} {x ix : Operand} {id j n : Nat} {ty e' : Nat} {xs : List HV} {q : Int} {inf : TInf} (mm m : Nat) (ho : o.op = .indexAddr t x ix)
    (hx : AS.eval ⟨fr, hp, nx⟩ x = some (.h (.sl id j n))) (hi : AS.eval ⟨fr, hp, nx⟩ ix = some (.h (.c (.int .i64 q)))) (ht : look t E.te = some ⟨.slice e, sz, b', zs⟩) (he : look e E.te = some inf) (hob : look id hp = some (.hrr ty e' xs)) (hes : e' = inf.sz)
    (hg : gdv l ⟨fr, hp, nx⟩ o = some true) (hd : o.dst = some d) (hn : Nat.blt d E.nt = true) (hk : q = (m : Int)) (hlt : m < n) (hmm : j + m = mm) (kk : AL E l rest ⟨(d, .h (.ptr id (mm * inf.sz))) :: fr, hp, nx⟩ Q) : AL E l (o :: rest) ⟨fr, hp, nx⟩ Q :=
  al_pd (by rw [ho]; exact ps_ixh m E.hte hx hi hk hlt ht he hob hes) hg hd hn (by rw [hmm]; exact kk)
theorem pLdH {α : Type} {f : α → List CV} {t : Nat} {x : Operand} {id off : Nat} {ty e ti : Nat} {L : List (List α)} {h : HV} {inf : TInf} (m : Nat) (ho : o.op = .load t x) (hx : AS.eval ⟨fr, hp, nx⟩ x = some (.h (.ptr id off))) (hob : look id hp = some (.hrr ty e (hopen ti f L m h))) (hl : look t E.te = some inf) (ha : inf.d.isAgg = false)
    (hg : gdv l ⟨fr, hp, nx⟩ o = some true) (hd : o.dst = some d) (hn : Nat.blt d E.nt = true) (hoff : off = m * 1) (hlt : m < L.length) (hf : h.free = true) (kk : AL E l rest ⟨(d, .h h) :: fr, hp, nx⟩ Q) : AL E l (o :: rest) ⟨fr, hp, nx⟩ Q :=
  al_pd (by rw [ho]; exact ps_ldh E.hte hx hob hl rfl rfl (by rw [hoff, Nat.mul_one, hopen_drop hlt]; simp only [loadH, ha, cond_false, hf, cond_true])) hg hd hn kk
theorem eStH {α : Type} {f : α → List CV} {t : TypeId} {x y : Operand} {id off : Nat} {h h' : HV} {ty e ti : Nat} {L : List (List α)} {inf : TInf} (m : Nat) (ho : o.op = .store t x y) (hx : AS.eval ⟨fr, hp, nx⟩ x = some (.h (.ptr id off))) (hy : AS.eval ⟨fr, hp, nx⟩ y = some (.h h')) (hl : look id hp = some (.hrr ty e (hopen ti f L m h)))
    (ht : look t E.te = some inf) (hsz : Nat.beq 1 inf.sz = true) (hd : o.dst = none) (hoff : off = m * 1) (hlt : m < L.length) :
    ES E ⟨fr, hp, nx⟩ o (some [id]) (fun x => x = ⟨fr, upd id (.hrr ty e (hopen ti f L m h')) hp, nx⟩) :=
  es_same (es_sth E.hte ho hx hy (ys := [h']) rfl hl ht (Nat.eq_of_beq_eq_true hsz) (by rw [hoff, hopen_len hlt]; simp; omega) (by rw [hd]; rfl) rfl) (by rw [hd, hoff, Nat.mul_one, hopen_set hlt]; rfl)
/-- A store of a row of the call's own into a row of rows: it goes in. -/
theorem eStI {α : Type} {f : α → List CV} {t : TypeId} {x y : Operand} {id j off n : Nat} {ty ti : Nat} {L : List (List α)} {z : List α} {inf : TInf} (m : Nat) (ho : o.op = .store t x y) (hx : AS.eval ⟨fr, hp, nx⟩ x = some (.h (.ptr id off))) (hy : AS.eval ⟨fr, hp, nx⟩ y = some (.h (.sl j 0 n))) (hl : look id hp = some (.arr ty 1 (rows (iow ti f) L)))
    (hj : look j hp = some (.arr ti 1 (rows f z))) (hj' : look j (upd id (.hrr ty 1 (hopen ti f L m (.sl j 0 n))) hp) = some (.arr ti 1 (rows f z))) (hij : look id (del j (upd id (.hrr ty 1 (hopen ti f L m (.sl j 0 n))) hp)) = some (.hrr ty 1 (hopen ti f L m (.sl j 0 n)))) (hz : upd id (.arr ty 1 (rows (iow ti f) (L.set m z))) (del j (upd id (.hrr ty 1 (hopen ti f L m (.sl j 0 n))) hp)) = upd id (.arr ty 1 (rows (iow ti f) (L.set m z))) (del j hp))
    (hu : upd id (.hrr ty 1 (hopen ti f L m (.sl j 0 n))) (upd id (.hrr ty 1 ((rows (iow ti f) L).map HV.c)) hp) = upd id (.hrr ty 1 (hopen ti f L m (.sl j 0 n))) hp) (hl2 : look id (upd id (.hrr ty 1 ((rows (iow ti f) L).map HV.c)) hp) = some (.hrr ty 1 ((rows (iow ti f) L).map HV.c)))
    (ht : look t E.te = some inf) (hsz : Nat.beq 1 inf.sz = true) (hd : o.dst = none) (hoff : off = m * 1) (hlt : m < L.length) (hn : n = z.length) :
    ES E ⟨fr, hp, nx⟩ o (some [id]) (fun x => x = ⟨fr, upd id (.arr ty 1 (rows (iow ti f) (L.set m z))) (del j hp), nx⟩) := by
  have hev : ∀ (hp' : List (Nat × Ob)) (x : Operand), AS.eval ⟨fr, hp', nx⟩ x = AS.eval ⟨fr, hp, nx⟩ x := fun hp' x => by cases x <;> rfl
  refine es_conv (s1 := ⟨fr, upd id (.hrr ty 1 ((rows (iow ti f) L).map HV.c)) hp, nx⟩) (fun g im a w h => sim_hrr id hl h) rfl
    (es_sth E.hte ho (by rw [hev]; exact hx) (by rw [hev]; exact hy) (ys := [.sl j 0 n]) rfl hl2 ht (Nat.eq_of_beq_eq_true hsz) (by rw [hoff, List.length_map, iow_len]; simp; omega) (by rw [hd]; rfl) (Q := fun x => x = ⟨fr, upd id (.hrr ty 1 (hopen ti f L m (.sl j 0 n))) hp, nx⟩) ?_) ?_
  · rw [hd]
    show (⟨fr, _, nx⟩ : AS) = _
    have e1 : (rows (iow ti f) L).map HV.c = hopen ti f L m (.c (.ow ti 1 L[m].length (rows f L[m]))) := by
      rw [rows_at_split hlt, List.map_append]; rfl
    have e2 : setL ((rows (iow ti f) L).map HV.c) off [HV.sl j 0 n] = hopen ti f L m (.sl j 0 n) := by rw [hoff, Nat.mul_one, e1, hopen_set hlt]
    rw [e2, hu]
  · rintro _ rfl
    refine ⟨_, fun g im a w h => ?_, rfl⟩
    have := sim_close (pre := rows (iow ti f) (L.take m)) (post := rows (iow ti f) (L.drop (m + 1))) (ys := rows f z) id j hj' hij h
    rw [hn, ← rows_set_split hlt, ← hn, hz] at this
    exact this
end
end Go.Proofs.Ytjijkdhjfanpaaa
