import Derived.Test.YthmgfgiaagkdeaaG19
namespace Go.Proofs.Ythmgfgiaagkdeaa
open Go.RowKit
attribute [local irreducible] AWP AL XT AC ES PS AH AH2 LpQ
theorem rows_pow_at {L : List Pl} {m : Nat} (hm : m < L.length) : rows pow L = rows pow (L.take m) ++ (pow L[m] ++ rows pow (L.drop (m + 1))) := by
  conv => lhs; rw [← List.take_append_drop m L, List.drop_eq_getElem_cons hm, rows_append]
  rfl
theorem pcell_drop {L : List Pl} {m : Nat} (hm : m < L.length) (z : Pl) (a b : HV) (c : Nat) : (pcell L m z a b).drop (m * 6 + c) = ([.c (.int .i64 z.kind), .c (.int .i64 z.next), .c (.int .i64 z.pk.el), a, .c (.int .i64 z.pk.tag), b] ++ (rows pow (L.drop (m + 1))).map HV.c).drop c := by
  have hl : ((rows pow (L.take m)).map HV.c).length = m * 6 := by
    rw [List.length_map, rows_length (n := 6) (fun _ => rfl), List.length_take, Nat.min_eq_left (Nat.le_of_lt hm)]
  unfold pcell
  rw [← List.drop_drop, ← hl, List.drop_left]
section
variable {E : Env} {l rest : List Oper} {fr : List (Nat × AV)} {hp : List (Nat × Ob)} {nx : Nat} {o : Oper} {Q : Exit → AS → Prop} {d : Nat}
/-- The header of the m-th is opened. -/
theorem al_openH (id m : Nat) {ty : Nat} {L : List Pl} (hl : look id hp = some (.arr ty 6 (rows pow L))) (hm : m < L.length) (kk : AL E l rest ⟨fr, (nx, .arr 3 1 (ints L[m].pk.hd)) :: upd id (.hrr ty 6 (pcell L m L[m] (.sl nx 0 L[m].pk.hd.length) (.c (.ow 3 1 L[m].pk.bd.length (ints L[m].pk.bd))))) hp, nx + 1⟩ Q) : AL E l rest ⟨fr, hp, nx⟩ Q := by
  refine al_open (ty := ty) (e := 6) (ty' := 3) (e' := 1) (pre := rows pow (L.take m) ++ [.int .i64 L[m].kind, .int .i64 L[m].next, .int .i64 L[m].pk.el]) (post := [.int .i64 L[m].pk.tag, .ow 3 1 L[m].pk.bd.length (ints L[m].pk.bd)] ++ rows pow (L.drop (m + 1))) (ys := ints L[m].pk.hd) (n := L[m].pk.hd.length) id (by rw [hl, rows_pow_at hm]; simp [pow]) ?_
  have e : (rows pow (L.take m) ++ [CV.int .i64 L[m].kind, .int .i64 L[m].next, .int .i64 L[m].pk.el]).map HV.c ++ HV.sl nx 0 L[m].pk.hd.length :: ([CV.int .i64 L[m].pk.tag, .ow 3 1 L[m].pk.bd.length (ints L[m].pk.bd)] ++ rows pow (L.drop (m + 1))).map HV.c = pcell L m L[m] (.sl nx 0 L[m].pk.hd.length) (.c (.ow 3 1 L[m].pk.bd.length (ints L[m].pk.bd))) := by simp [pcell]
  rw [e]
  exact kk
theorem al_openB (id m : Nat) {ty : Nat} {L : List Pl} (hl : look id hp = some (.arr ty 6 (rows pow L))) (hm : m < L.length) (kk : AL E l rest ⟨fr, (nx, .arr 3 1 (ints L[m].pk.bd)) :: upd id (.hrr ty 6 (pcell L m L[m] (.c (.ow 3 1 L[m].pk.hd.length (ints L[m].pk.hd))) (.sl nx 0 L[m].pk.bd.length))) hp, nx + 1⟩ Q) : AL E l rest ⟨fr, hp, nx⟩ Q := by
  refine al_open (ty := ty) (e := 6) (ty' := 3) (e' := 1) (pre := rows pow (L.take m) ++ [.int .i64 L[m].kind, .int .i64 L[m].next, .int .i64 L[m].pk.el, .ow 3 1 L[m].pk.hd.length (ints L[m].pk.hd), .int .i64 L[m].pk.tag]) (post := rows pow (L.drop (m + 1))) (ys := ints L[m].pk.bd) (n := L[m].pk.bd.length) id (by rw [hl, rows_pow_at hm]; simp [pow]) ?_
  have e : (rows pow (L.take m) ++ [CV.int .i64 L[m].kind, .int .i64 L[m].next, .int .i64 L[m].pk.el, .ow 3 1 L[m].pk.hd.length (ints L[m].pk.hd), .int .i64 L[m].pk.tag]).map HV.c ++ HV.sl nx 0 L[m].pk.bd.length :: (rows pow (L.drop (m + 1))).map HV.c = pcell L m L[m] (.c (.ow 3 1 L[m].pk.hd.length (ints L[m].pk.hd))) (.sl nx 0 L[m].pk.bd.length) := by simp [pcell]
  rw [e]
  exact kk
theorem al_closeH (id j m : Nat) {ty n : Nat} {L : List Pl} {x : List Int} (hj : look j hp = some (.arr 3 1 (ints x))) (hm : m < L.length) (hl : look id (del j hp) = some (.hrr ty 6 (pcell L m L[m] (.sl j 0 n) (.c (.ow 3 1 L[m].pk.bd.length (ints L[m].pk.bd)))))) (hn : n = x.length)
    (kk : AL E l rest ⟨fr, upd id (.arr ty 6 (rows pow (L.set m ⟨L[m].kind, L[m].next, ⟨L[m].pk.el, x, L[m].pk.tag, L[m].pk.bd⟩⟩))) (del j hp), nx⟩ Q) : AL E l rest ⟨fr, hp, nx⟩ Q := by
  refine al_close (ty := ty) (e := 6) (ty' := 3) (e' := 1) (n := n) (pre := rows pow (L.take m) ++ [.int .i64 L[m].kind, .int .i64 L[m].next, .int .i64 L[m].pk.el]) (post := [.int .i64 L[m].pk.tag, .ow 3 1 L[m].pk.bd.length (ints L[m].pk.bd)] ++ rows pow (L.drop (m + 1))) (ys := ints x) id j hj (by rw [hl]; simp [pcell]) ?_
  have e : L.set m ⟨L[m].kind, L[m].next, ⟨L[m].pk.el, x, L[m].pk.tag, L[m].pk.bd⟩⟩ = L.take m ++ ⟨L[m].kind, L[m].next, ⟨L[m].pk.el, x, L[m].pk.tag, L[m].pk.bd⟩⟩ :: L.drop (m + 1) := by rw [List.set_eq_take_append_cons_drop, if_pos hm]
  rw [e, rows_append] at kk
  rw [hn]
  have e2 : (rows pow (L.take m) ++ [CV.int .i64 L[m].kind, .int .i64 L[m].next, .int .i64 L[m].pk.el]) ++ CV.ow 3 1 x.length (ints x) :: ([CV.int .i64 L[m].pk.tag, .ow 3 1 L[m].pk.bd.length (ints L[m].pk.bd)] ++ rows pow (L.drop (m + 1))) = rows pow (L.take m) ++ rows pow (⟨L[m].kind, L[m].next, ⟨L[m].pk.el, x, L[m].pk.tag, L[m].pk.bd⟩⟩ :: L.drop (m + 1)) := by simp [rows, pow]
  rw [e2]
  exact kk
theorem al_closeB (id j m : Nat) {ty n : Nat} {L : List Pl} {x : List Int} (hj : look j hp = some (.arr 3 1 (ints x))) (hm : m < L.length) (hl : look id (del j hp) = some (.hrr ty 6 (pcell L m L[m] (.c (.ow 3 1 L[m].pk.hd.length (ints L[m].pk.hd))) (.sl j 0 n)))) (hn : n = x.length)
    (kk : AL E l rest ⟨fr, upd id (.arr ty 6 (rows pow (L.set m ⟨L[m].kind, L[m].next, ⟨L[m].pk.el, L[m].pk.hd, L[m].pk.tag, x⟩⟩))) (del j hp), nx⟩ Q) : AL E l rest ⟨fr, hp, nx⟩ Q := by
  refine al_close (ty := ty) (e := 6) (ty' := 3) (e' := 1) (n := n) (pre := rows pow (L.take m) ++ [.int .i64 L[m].kind, .int .i64 L[m].next, .int .i64 L[m].pk.el, .ow 3 1 L[m].pk.hd.length (ints L[m].pk.hd), .int .i64 L[m].pk.tag]) (post := rows pow (L.drop (m + 1))) (ys := ints x) id j hj (by rw [hl]; simp [pcell]) ?_
  have e : L.set m ⟨L[m].kind, L[m].next, ⟨L[m].pk.el, L[m].pk.hd, L[m].pk.tag, x⟩⟩ = L.take m ++ ⟨L[m].kind, L[m].next, ⟨L[m].pk.el, L[m].pk.hd, L[m].pk.tag, x⟩⟩ :: L.drop (m + 1) := by rw [List.set_eq_take_append_cons_drop, if_pos hm]
  rw [e, rows_append] at kk
  rw [hn]
  have e2 : (rows pow (L.take m) ++ [CV.int .i64 L[m].kind, .int .i64 L[m].next, .int .i64 L[m].pk.el, .ow 3 1 L[m].pk.hd.length (ints L[m].pk.hd), .int .i64 L[m].pk.tag]) ++ CV.ow 3 1 x.length (ints x) :: rows pow (L.drop (m + 1)) = rows pow (L.take m) ++ rows pow (⟨L[m].kind, L[m].next, ⟨L[m].pk.el, L[m].pk.hd, L[m].pk.tag, x⟩⟩ :: L.drop (m + 1)) := by simp [rows, pow]
  rw [e2]
  exact kk
/-- A handle is loaded. -/
theorem pLdHd {t : Nat} {x : Operand} {id off : Nat} {ty : Nat} {L : List Pl} {z : Pl} {a b : HV} {inf : TInf} (m : Nat) (ho : o.op = .load t x) (hx : AS.eval ⟨fr, hp, nx⟩ x = some (.h (.ptr id off))) (hob : look id hp = some (.hrr ty 6 (pcell L m z a b))) (hl : look t E.te = some inf) (ha : inf.d.isAgg = false)
    (hg : gdv l ⟨fr, hp, nx⟩ o = some true) (hd : o.dst = some d) (hn : Nat.blt d E.nt = true) (hoff : off = m * 6 + 3) (hlt : m < L.length) (hf : a.free = true) (kk : AL E l rest ⟨(d, .h a) :: fr, hp, nx⟩ Q) : AL E l (o :: rest) ⟨fr, hp, nx⟩ Q :=
  al_pd (by rw [ho]; exact ps_ldh E.hte hx hob hl rfl (by rw [hoff, pcell_drop hlt]) (by simp only [List.drop_succ_cons, List.drop_zero, List.cons_append, loadH, ha, cond_false, hf, cond_true])) hg hd hn kk
theorem pLdBd {t : Nat} {x : Operand} {id off : Nat} {ty : Nat} {L : List Pl} {z : Pl} {a b : HV} {inf : TInf} (m : Nat) (ho : o.op = .load t x) (hx : AS.eval ⟨fr, hp, nx⟩ x = some (.h (.ptr id off))) (hob : look id hp = some (.hrr ty 6 (pcell L m z a b))) (hl : look t E.te = some inf) (ha : inf.d.isAgg = false)
    (hg : gdv l ⟨fr, hp, nx⟩ o = some true) (hd : o.dst = some d) (hn : Nat.blt d E.nt = true) (hoff : off = m * 6 + 5) (hlt : m < L.length) (hf : b.free = true) (kk : AL E l rest ⟨(d, .h b) :: fr, hp, nx⟩ Q) : AL E l (o :: rest) ⟨fr, hp, nx⟩ Q :=
  al_pd (by rw [ho]; exact ps_ldh E.hte hx hob hl rfl (by rw [hoff, pcell_drop hlt]) (by simp only [List.drop_succ_cons, List.drop_zero, List.cons_append, loadH, ha, cond_false, hf, cond_true])) hg hd hn kk
end
end Go.Proofs.Ythmgfgiaagkdeaa
