import Derived.Test.YthmgfgiaagkdeaaG20
import Derived.Test.YthmgfgiaagkdeaaT2
import Derived.Test.YthmgfgiaagkdeaaTy1b
import Derived.Test.YthmgfgiaagkdeaaEngB
namespace Go.Proofs.Ythmgfgiaagkdeaa
open Go.RowKit
attribute [local irreducible] AWP AL XT AC ES PS AH AH2 LpQ
def hvs (x : Pl) (a b : Nat) : List HV := [.c (.int .i64 x.kind), .c (.int .i64 x.next), .c (.int .i64 x.pk.el), .sl a 0 x.pk.hd.length, .c (.int .i64 x.pk.tag), .sl b 0 x.pk.bd.length]
def pc2 (L : List Pl) (i : Nat) (u v : List HV) : List HV := (rows pow (L.take i)).map HV.c ++ (u ++ (v ++ (rows pow (L.drop (i + 2))).map HV.c))
theorem rows_pow_at2 {L : List Pl} {i : Nat} (hi : i + 1 < L.length) : rows pow L = rows pow (L.take i) ++ (pow L[i] ++ (pow L[i + 1] ++ rows pow (L.drop (i + 2)))) := by
  rw [rows_pow_at (m := i) (by omega)]
  congr 2
  conv => lhs; rw [List.drop_eq_getElem_cons hi]
  rfl
theorem pre_len {L : List Pl} {i : Nat} (hi : i < L.length) : ((rows pow (L.take i)).map HV.c).length = i * 6 := by
  rw [List.length_map, rows_length (n := 6) (fun _ => rfl), List.length_take, Nat.min_eq_left (by omega)]
theorem pc2_drop0 {L : List Pl} {i : Nat} (hi : i + 1 < L.length) (u v : List HV) : (pc2 L i u v).drop (i * 6) = u ++ (v ++ (rows pow (L.drop (i + 2))).map HV.c) := by
  unfold pc2
  rw [← pre_len (L := L) (i := i) (by omega), List.drop_left]
theorem pc2_drop1 {L : List Pl} {i : Nat} (hi : i + 1 < L.length) (u v : List HV) (hu : u.length = 6) : (pc2 L i u v).drop ((i + 1) * 6) = v ++ (rows pow (L.drop (i + 2))).map HV.c := by
  rw [show (i + 1) * 6 = i * 6 + 6 by omega, ← List.drop_drop, pc2_drop0 hi, ← hu, List.drop_left]
theorem pc2_set0 {L : List Pl} {i : Nat} (hi : i + 1 < L.length) (u v u' : List HV) (hu : u.length = 6) (hu' : u'.length = 6) : setL (pc2 L i u v) (i * 6) u' = pc2 L i u' v := by
  have := setL_append_mid ((rows pow (L.take i)).map HV.c) u (v ++ (rows pow (L.drop (i + 2))).map HV.c) u' 0 (by omega)
  rw [pre_len (by omega)] at this
  have e : setL u 0 u' = u' := by unfold setL; rw [hu', List.take_zero, List.drop_of_length_le (by omega), List.append_nil, List.nil_append]
  unfold pc2
  exact this.trans (by rw [e])
theorem pc2_set1 {L : List Pl} {i : Nat} (hi : i + 1 < L.length) (u v v' : List HV) (hu : u.length = 6) (hv : v.length = 6) (hv' : v'.length = 6) : setL (pc2 L i u v) ((i + 1) * 6) v' = pc2 L i u v' := by
  have := setL_append_mid ((rows pow (L.take i)).map HV.c ++ u) v ((rows pow (L.drop (i + 2))).map HV.c) v' 0 (by omega)
  rw [List.length_append, pre_len (by omega), hu, List.append_assoc, List.append_assoc] at this
  have e : setL v 0 v' = v' := by unfold setL; rw [hv', List.take_zero, List.drop_of_length_le (by omega), List.append_nil, List.nil_append]
  unfold pc2
  rw [show (i + 1) * 6 = i * 6 + 6 by omega]
  exact this.trans (by rw [e])
theorem pc2_len {L : List Pl} {i : Nat} (hi : i + 1 < L.length) (u v : List HV) (hu : u.length = 6) (hv : v.length = 6) : (pc2 L i u v).length = L.length * 6 := by
  unfold pc2
  rw [List.length_append, pre_len (by omega), List.length_append, List.length_append, hu, hv, List.length_map, rows_length (n := 6) (fun _ => rfl), List.length_drop]
  omega
def swp (L : List Pl) (i : Nat) : List Pl := match L[i]?, L[i + 1]? with
  | some x, some y => L.take i ++ y :: x :: L.drop (i + 2)
  | _, _ => L
theorem swp_eq {L : List Pl} {i : Nat} (hi : i + 1 < L.length) : swp L i = L.take i ++ L[i + 1] :: L[i] :: L.drop (i + 2) := by
  simp only [swp, List.getElem?_eq_getElem hi, List.getElem?_eq_getElem (Nat.lt_of_succ_lt hi)]
theorem swp_len (L : List Pl) (i : Nat) : (swp L i).length = L.length := by
  unfold swp
  split
  · rename_i h1 h2
    obtain ⟨h2, _⟩ := List.getElem?_eq_some_iff.1 h2
    simp
    omega
  · rfl
theorem split2 {L : List Pl} {i : Nat} (hi : i + 1 < L.length) : L.take i ++ L[i] :: L[i + 1] :: L.drop (i + 2) = L := by
  rw [← List.drop_eq_getElem_cons hi, ← List.drop_eq_getElem_cons (Nat.lt_of_succ_lt hi), List.take_append_drop]
section
variable {E : Env} {l rest : List Oper} {fr : List (Nat × AV)} {hp : List (Nat × Ob)} {nx : Nat} {o : Oper} {Q : Exit → AS → Prop} {d : Nat} {c : Code}
theorem sim_open2 {g : Ga} {im : Im} {a : Act} {w : World} (id i : Nat) {ty : Nat} {L : List Pl} (hl : look id hp = some (.arr ty 6 (rows pow L))) (hi : i + 1 < L.length) (n0 : Nat.beq id nx = false) (n1 : Nat.beq id (nx + 1) = false) (n2 : Nat.beq id (nx + 2) = false) (h : Sim E g im ⟨fr, hp, nx⟩ a w) :
    ∃ g', Sim E g' im ⟨fr, (nx + 3, .arr 3 1 (ints L[i + 1].pk.bd)) :: (nx + 2, .arr 3 1 (ints L[i + 1].pk.hd)) :: (nx + 1, .arr 3 1 (ints L[i].pk.bd)) :: (nx, .arr 3 1 (ints L[i].pk.hd)) :: upd id (.hrr ty 6 (pc2 L i (hvs L[i] nx (nx + 1)) (hvs L[i + 1] (nx + 2) (nx + 3)))) hp, nx + 4⟩ a w := by
  have hx := rows_pow_at2 hi
  generalize L[i] = x at hx ⊢
  generalize L[i + 1] = y at hx ⊢
  obtain ⟨g1, h1⟩ := sim_open (ty := ty) (e := 6) (ty' := 3) (e' := 1) (pre := rows pow (L.take i) ++ [.int .i64 x.kind, .int .i64 x.next, .int .i64 x.pk.el]) (post := [.int .i64 x.pk.tag, .ow 3 1 x.pk.bd.length (ints x.pk.bd)] ++ (pow y ++ rows pow (L.drop (i + 2)))) (ys := ints x.pk.hd) (n := x.pk.hd.length) id (by rw [hl, hx]; simp [pow]) h
  obtain ⟨g2, h2⟩ := sim_openHr (ty := ty) (e := 6) (ty' := 3) (e' := 1) (pre := (rows pow (L.take i)).map HV.c ++ [.c (.int .i64 x.kind), .c (.int .i64 x.next), .c (.int .i64 x.pk.el), .sl nx 0 x.pk.hd.length, .c (.int .i64 x.pk.tag)]) (post := (pow y ++ rows pow (L.drop (i + 2))).map HV.c) (ys := ints x.pk.bd) (n := x.pk.bd.length) id (by
    simp only [look, n0, cond_false]
    rw [look_upd _ hl]
    simp) h1
  obtain ⟨g3, h3⟩ := sim_openHr (ty := ty) (e := 6) (ty' := 3) (e' := 1) (pre := (rows pow (L.take i)).map HV.c ++ hvs x nx (nx + 1) ++ [.c (.int .i64 y.kind), .c (.int .i64 y.next), .c (.int .i64 y.pk.el)]) (post := [.c (.int .i64 y.pk.tag), .c (.ow 3 1 y.pk.bd.length (ints y.pk.bd))] ++ (rows pow (L.drop (i + 2))).map HV.c) (ys := ints y.pk.hd) (n := y.pk.hd.length) id (by
    simp only [look, n1, n0, cond_false, upd, upd_upd]
    rw [look_upd _ hl]
    simp [hvs, pow]) h2
  obtain ⟨g4, h4⟩ := sim_openHr (ty := ty) (e := 6) (ty' := 3) (e' := 1) (pre := (rows pow (L.take i)).map HV.c ++ hvs x nx (nx + 1) ++ [.c (.int .i64 y.kind), .c (.int .i64 y.next), .c (.int .i64 y.pk.el), .sl (nx + 2) 0 y.pk.hd.length, .c (.int .i64 y.pk.tag)]) (post := (rows pow (L.drop (i + 2))).map HV.c) (ys := ints y.pk.bd) (n := y.pk.bd.length) id (by
    simp only [look, n2, n1, n0, cond_false, upd, upd_upd]
    rw [look_upd _ hl]
    simp [hvs]) h3
  refine ⟨g4, ?_⟩
  simp only [upd, n2, n1, n0, cond_false, upd_upd] at h4
  have e : ((rows pow (L.take i)).map HV.c ++ hvs x nx (nx + 1) ++ [.c (.int .i64 y.kind), .c (.int .i64 y.next), .c (.int .i64 y.pk.el), .sl (nx + 2) 0 y.pk.hd.length, .c (.int .i64 y.pk.tag)]) ++ HV.sl (nx + 3) 0 y.pk.bd.length :: (rows pow (L.drop (i + 2))).map HV.c = pc2 L i (hvs x nx (nx + 1)) (hvs y (nx + 2) (nx + 3)) := by simp [pc2, hvs]
  rw [e] at h4
  exact h4
theorem awp_open2 (id i : Nat) {ty : Nat} {L : List Pl} (hl : look id hp = some (.arr ty 6 (rows pow L))) (hi : i + 1 < L.length) (n0 : Nat.beq id nx = false) (n1 : Nat.beq id (nx + 1) = false) (n2 : Nat.beq id (nx + 2) = false)
    (kk : AWP E c ⟨fr, (nx + 3, .arr 3 1 (ints L[i + 1].pk.bd)) :: (nx + 2, .arr 3 1 (ints L[i + 1].pk.hd)) :: (nx + 1, .arr 3 1 (ints L[i].pk.bd)) :: (nx, .arr 3 1 (ints L[i].pk.hd)) :: upd id (.hrr ty 6 (pc2 L i (hvs L[i] nx (nx + 1)) (hvs L[i + 1] (nx + 2) (nx + 3)))) hp, nx + 4⟩ Q) : AWP E c ⟨fr, hp, nx⟩ Q := by
  unfold AWP at kk ⊢
  intro g im a w h
  obtain ⟨g', h'⟩ := sim_open2 id i hl hi n0 n1 n2 h
  exact kk g' im a w h'
theorem sim_close2 {g : Ga} {im : Im} {a : Act} {w : World} (id i j1 j2 j3 j4 : Nat) {ty : Nat} {L : List Pl} {x y : Pl} (h1 : look j1 hp = some (.arr 3 1 (ints x.pk.hd))) (h2 : look j2 (del j1 hp) = some (.arr 3 1 (ints x.pk.bd))) (h3 : look j3 (del j2 (del j1 hp)) = some (.arr 3 1 (ints y.pk.hd))) (h4 : look j4 (del j3 (del j2 (del j1 hp))) = some (.arr 3 1 (ints y.pk.bd)))
    (hl : look id hp = some (.hrr ty 6 (pc2 L i (hvs x j1 j2) (hvs y j3 j4)))) (n1 : Nat.beq id j1 = false) (n2 : Nat.beq id j2 = false) (n3 : Nat.beq id j3 = false) (n4 : Nat.beq id j4 = false) (h : Sim E g im ⟨fr, hp, nx⟩ a w) :
    Sim E g im ⟨fr, upd id (.arr ty 6 (rows pow (L.take i ++ x :: y :: L.drop (i + 2)))) (del j4 (del j3 (del j2 (del j1 hp)))), nx⟩ a w := by
  have a1 := sim_closeH (ty := ty) (e := 6) (ty' := 3) (e' := 1) (n := x.pk.hd.length) (pre := (rows pow (L.take i)).map HV.c ++ [.c (.int .i64 x.kind), .c (.int .i64 x.next), .c (.int .i64 x.pk.el)]) (post := [.c (.int .i64 x.pk.tag), .sl j2 0 x.pk.bd.length] ++ (hvs y j3 j4 ++ (rows pow (L.drop (i + 2))).map HV.c)) id j1 h1 (by rw [look_del_ne n1, hl]; simp [pc2, hvs]) h
  have a2 := sim_closeH (ty := ty) (e := 6) (ty' := 3) (e' := 1) (n := x.pk.bd.length) (ys := ints x.pk.bd) (pre := (rows pow (L.take i)).map HV.c ++ [.c (.int .i64 x.kind), .c (.int .i64 x.next), .c (.int .i64 x.pk.el), .c (.ow 3 1 x.pk.hd.length (ints x.pk.hd)), .c (.int .i64 x.pk.tag)]) (post := hvs y j3 j4 ++ (rows pow (L.drop (i + 2))).map HV.c) id j2 (by rw [look_upd_ne n2]; exact h2) (by
    rw [look_del_ne n2, look_upd _ ((look_del_ne n1 hp).trans hl)]; simp [hvs]) a1
  have a3 := sim_closeH (ty := ty) (e := 6) (ty' := 3) (e' := 1) (n := y.pk.hd.length) (ys := ints y.pk.hd) (pre := (rows pow (L.take i ++ [x])).map HV.c ++ [.c (.int .i64 y.kind), .c (.int .i64 y.next), .c (.int .i64 y.pk.el)]) (post := [.c (.int .i64 y.pk.tag), .sl j4 0 y.pk.bd.length] ++ (rows pow (L.drop (i + 2))).map HV.c) id j3 (by rw [look_upd_ne n3, del_upd_ne n2, look_upd_ne n3]; exact h3) (by
    rw [look_del_ne n3, look_upd _ (by rw [look_del_ne n2, look_upd _ ((look_del_ne n1 hp).trans hl)]), rows_append]; simp [hvs, rows, pow]) a2
  have a4 := sim_closeH (ty := ty) (e := 6) (ty' := 3) (e' := 1) (n := y.pk.bd.length) (ys := ints y.pk.bd) (pre := (rows pow (L.take i ++ [x])).map HV.c ++ [.c (.int .i64 y.kind), .c (.int .i64 y.next), .c (.int .i64 y.pk.el), .c (.ow 3 1 y.pk.hd.length (ints y.pk.hd)), .c (.int .i64 y.pk.tag)]) (post := (rows pow (L.drop (i + 2))).map HV.c) id j4 (by rw [look_upd_ne n4, del_upd_ne n3, look_upd_ne n4, del_upd_ne n2, del_upd_ne n3, look_upd_ne n4]; exact h4) (by
    rw [look_del_ne n4, look_upd _ (by rw [look_del_ne n3, look_upd _ (by rw [look_del_ne n2, look_upd _ ((look_del_ne n1 hp).trans hl)])])]; simp) a3
  simp only [del_upd_ne n4, del_upd_ne n3, del_upd_ne n2, upd_upd] at a4
  have a5 := sim_unhrr (ty := ty) (e := 6) (xs := rows pow (L.take i ++ x :: y :: L.drop (i + 2))) id (by
    rw [look_upd _ (by rw [look_del_ne n4, look_del_ne n3, look_del_ne n2, look_del_ne n1]; exact hl), rows_append]; simp [rows, pow, rows_append]) a4
  rw [upd_upd] at a5
  exact a5
theorem awp_close2 (id i j1 j2 j3 j4 : Nat) {ty : Nat} {L : List Pl} (x y : Pl) (h1 : look j1 hp = some (.arr 3 1 (ints x.pk.hd))) (h2 : look j2 (del j1 hp) = some (.arr 3 1 (ints x.pk.bd))) (h3 : look j3 (del j2 (del j1 hp)) = some (.arr 3 1 (ints y.pk.hd))) (h4 : look j4 (del j3 (del j2 (del j1 hp))) = some (.arr 3 1 (ints y.pk.bd)))
    (hl : look id hp = some (.hrr ty 6 (pc2 L i (hvs x j1 j2) (hvs y j3 j4)))) (n1 : Nat.beq id j1 = false) (n2 : Nat.beq id j2 = false) (n3 : Nat.beq id j3 = false) (n4 : Nat.beq id j4 = false)
    (kk : AWP E c ⟨fr, upd id (.arr ty 6 (rows pow (L.take i ++ x :: y :: L.drop (i + 2)))) (del j4 (del j3 (del j2 (del j1 hp)))), nx⟩ Q) : AWP E c ⟨fr, hp, nx⟩ Q := by
  unfold AWP at kk ⊢
  exact fun g im a w h => kk g im a w (sim_close2 id i j1 j2 j3 j4 h1 h2 h3 h4 hl n1 n2 n3 n4 h)
end
end Go.Proofs.Ythmgfgiaagkdeaa
