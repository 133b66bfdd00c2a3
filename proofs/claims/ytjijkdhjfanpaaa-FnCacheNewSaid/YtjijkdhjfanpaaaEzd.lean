/- The engine: a row of the call's own is cut, and its own tail is appended to it. -/
import Derived.Test.YtjijkdhjfanpaaaEzc
namespace Go.Proofs.Ytjijkdhjfanpaaa
open Go.RowKit
def freeL (xs : List CV) : Bool := (xs.map HV.c).all HV.free
theorem freeL_sub {xs ys : List CV} (h : freeL xs = true) (hs : ∀ y ∈ ys, y ∈ xs) : freeL ys = true := by
  unfold freeL at *
  rw [List.all_eq_true] at *
  intro z hz
  obtain ⟨y, hy, rfl⟩ := List.mem_map.1 hz
  exact h _ (List.mem_map.2 ⟨y, hs y hy, rfl⟩)
theorem freeL_rows {α : Type} {f : α → List CV} (hf : ∀ a, freeL (f a) = true) : ∀ l : List α, freeL (rows f l) = true
  | [] => rfl
  | a :: l => by
    have h1 := hf a
    have h2 := freeL_rows hf l
    unfold freeL at *
    simp only [rows, List.map_append, List.all_append, h1, h2, Bool.and_self]
section
variable {E : Env} {te : TE} {s : AS} {o : Oper} {Q : AS → Prop}
theorem es_appS {x y : Operand} {t e n j m id : Nat} {sz' b'' : Nat} {zs'' XS : List CV} {inf : TInf} (hte : teOk E.P te = true) (hop : appOf o.op = some (x, y, t)) (ht : look t te = some ⟨.slice e, sz', b'', zs''⟩) (he : look e te = some inf)
    (hx : s.eval x = some (.h (.sl id 0 n))) (hy : s.eval y = some (.h (.sw id j m))) (hob : look id s.hp = some (.arr e inf.sz XS)) (hfree : freeL XS = true) (hlx : n * inf.sz ≤ XS.length) (hly : (j + m) * inf.sz ≤ XS.length) (h63 : n + m ≤ maxLen) (hbytes : (n + m) * inf.by' ≤ 140737488355328)
    (hsz : Nat.blt 0 inf.sz = true) (hd : dok E.nt o.dst = true) (hQ : Q (({ fr := s.fr, hp := (s.nx, .arr e inf.sz (XS.take (n * inf.sz) ++ (XS.drop (j * inf.sz)).take (m * inf.sz))) :: del id s.hp, nx := s.nx + 1 } : AS).putd o.dst (.h (.sl s.nx 0 (n + m))))) : ES E s o (some [id]) Q := by
  intro g im a w K QQ ⟨fps, hs⟩ hK
  have hsz' : 0 < inf.sz := Nat.lt_of_succ_le (Nat.le_of_ble_eq_true hsz)
  have hvx := hs.eval hx
  have hvy := hs.eval hy
  simp only [RA, RH] at hvx hvy
  obtain ⟨_, bi0, hg, hcx, hcm, ex⟩ := hvx
  obtain ⟨_, bi2, Ay, cy, hg2, ey, _, _, hAy⟩ := hvy
  obtain rfl : bi0 = bi2 := by rw [hg] at hg2; exact Option.some.inj hg2
  obtain ⟨bi', fa, fr, fb, hg', hf, hro0, hh1⟩ := HR_del hs.hp hob
  obtain rfl : bi0 = bi' := by rw [hg] at hg'; exact Option.some.inj hg'
  have hnd := hs.nd
  rw [hf] at hnd
  have hnn0 : (fr ++ (fa ++ fb)).Nodup := by
    rw [List.nodup_append] at hnd ⊢
    obtain ⟨n1, n2, n3⟩ := hnd
    rw [List.nodup_append] at n2
    refine ⟨n2.1, ?_, fun a ha b hb => ?_⟩
    · rw [List.nodup_append]
      exact ⟨n1, n2.2.1, fun a ha b hb => n3 a ha b (List.mem_append_right _ hb)⟩
    · rcases List.mem_append.1 hb with hb | hb
      · exact (n3 b hb a (List.mem_append_left _ ha)).symm
      · exact n2.2.2 a ha b hb
  have hsub : ∀ b ∈ fr ++ (fa ++ fb), b ∈ fps := by
    intro b hb
    rw [hf]
    rcases List.mem_append.1 hb with hb | hb
    · exact List.mem_append_right _ (List.mem_append_left _ hb)
    · rcases List.mem_append.1 hb with hb | hb
      · exact List.mem_append_left _ hb
      · exact List.mem_append_right _ (List.mem_append_right _ hb)
  obtain ⟨hty0, hes0, hro0⟩ := hro0
  have fX : freeL (XS.take (n * inf.sz)) = true := freeL_sub hfree fun y hy => List.mem_of_mem_take hy
  have fY : freeL ((XS.drop (j * inf.sz)).take (m * inf.sz)) = true := freeL_sub hfree fun y hy => List.mem_of_mem_drop (List.mem_of_mem_take hy)
  have key : ∃ us ns A c, a.eval y = .slice A m c ∧ w.ownsRow 0 e inf.sz (a.eval x) n us ∧ RHs g im w ((XS.take (n * inf.sz)).map HV.c) us [] ∧ RHs g im w (((XS.drop (j * inf.sz)).take (m * inf.sz)).map HV.c) ns [] ∧ ns.length = m * inf.sz ∧
      ((ns = [] ∧ m = 0 ∧ A = none) ∨ ∃ ad, A = some ad ∧ ∀ k u, ns[k]? = some u → w.cell? (ad.add k) = some u) ∧ ∀ b, (a.eval x).ownBlock = some b → b ∈ fr ∧ bi0.a = some b := by
    rcases hro0 with ⟨h11, h12, h13, h14⟩ | ⟨b, cur, f, h11, h12, h13, h14, h15⟩
    · subst h12
      simp only [List.length_nil] at hlx hly
      have hn0 : n = 0 := by
        rcases Nat.eq_zero_or_pos n with h | h
        · exact h
        · have := Nat.mul_pos h hsz'; omega
      have hm0 : m = 0 := by
        rcases Nat.eq_zero_or_pos m with h | h
        · exact h
        · have := Nat.mul_pos (show 0 < j + m by omega) hsz'; omega
      subst hn0 hm0
      refine ⟨[], [], Ay, cy, ey, ?_, by simp [RHs], by simp [RHs], by simp, ?_, ?_⟩
      · rw [ex, h11, h13]; exact World.ownsRow_nil w 0 _ _
      · cases Ay with
        | none => exact .inl ⟨rfl, rfl, rfl⟩
        | some ad => exact .inr ⟨ad, rfl, fun k u hk => by simp at hk⟩
      · intro b hb; rw [ex, h11] at hb; simp [slv, Value.ownBlock] at hb
    · obtain ⟨g1, _, r1⟩ := RL_take XS (n * inf.sz) 0 f h15
      obtain ⟨g2, _, r2⟩ := RL_drop XS (j * inf.sz) 0 f h15
      obtain ⟨g3, _, r3⟩ := RL_take _ (m * inf.sz) _ g2 r2
      obtain ⟨us, hus, hcu⟩ := RL_RHs (g := g) _ _ _ r1
      obtain ⟨ns, hns, hcn⟩ := RL_RHs (g := g) _ _ _ r3
      have hus' := RHs_free _ _ _ hus fX
      have hns' := RHs_free _ _ _ hns fY
      have hul := RHs_length _ _ _ hus'
      have hnl := RHs_length _ _ _ hns'
      simp only [List.length_map, List.length_take, List.length_drop] at hul hnl
      rw [Nat.add_mul] at hly
      refine ⟨us, ns, Ay, cy, ey, ?_, hus', hns', by omega, ?_, ?_⟩
      · refine ⟨by omega, .inr ⟨b, bi0.cap, cur, ?_, Nat.zero_le _, h13, by omega, hcm, h14, ?_⟩⟩
        · rw [ex, h11]; simp [slv]
        · apply List.ext_getElem?
          intro k
          by_cases hk : k < n * inf.sz
          · rw [List.getElem?_take, if_pos hk]
            have hku : k < us.length := by omega
            have := hcu k _ (List.getElem?_eq_getElem hku)
            rw [Nat.zero_add, cell_of_row w b k cur _ (0, 0) h13] at this
            rw [List.getElem?_eq_getElem hku, ← this]
            simp
          · rw [List.getElem?_eq_none (by simp; omega), List.getElem?_eq_none (by omega)]
      · rcases hAy with h0 | ⟨b2, hb2, hA2⟩
        · subst h0
          have hns0 : ns = [] := List.eq_nil_of_length_eq_zero (by omega)
          subst hns0
          cases Ay with
          | none => exact .inl ⟨rfl, rfl, rfl⟩
          | some ad => exact .inr ⟨ad, rfl, fun k u hk => by simp at hk⟩
        · obtain rfl : b = b2 := by rw [h11] at hb2; exact Option.some.inj hb2
          rw [hes0] at hA2
          exact .inr ⟨_, hA2, fun k u hk => by rw [addr_add]; have := hcn k u hk; simpa using this⟩
      · intro b' hb'
        rw [ex, h11] at hb'
        simp [slv, Value.ownBlock] at hb'
        subst hb'
        exact ⟨by rw [h12]; exact List.mem_cons_self, h11⟩
  obtain ⟨us, ns, A, c, e2, hown, hrx, hry, hnl, hA, hob1'⟩ := key
  generalize hXs : XS.take (n * inf.sz) = xs at hrx fX hQ
  generalize hYs : (XS.drop (j * inf.sz)).take (m * inf.sz) = ys at hry fY hQ
  have hxl : xs.length = n * inf.sz := by rw [← hXs, List.length_take]; omega
  have hyl : ys.length = m * inf.sz := by rw [← hYs, List.length_take, List.length_drop]; rw [Nat.add_mul] at hly; omega
  obtain ⟨v', w', hrun, hown', hgb, hblk⟩ := run_append hte ht he hsz' o.type (a.eval x) n us hown A m c ns hnl (RHs_one _ _ _ hry) hA h63 hbytes
  have hexec : (execOp a.eval o).run E.P w = .ok (.value v') w' := by
    unfold appOf at hop
    split at hop
    · rename_i c' ho
      split at hop
      · rename_i hc
        split at hop
        · rename_i x' y' t1 t2 hargs htys
          cases hbt : Nat.beq t1 t2 with
          | false => rw [hbt] at hop; simp at hop
          | true =>
            rw [hbt] at hop
            simp only [cond_true, Option.some.injEq, Prod.mk.injEq] at hop
            obtain ⟨rfl, rfl, rfl⟩ := hop
            obtain rfl : t1 = t2 := Nat.eq_of_beq_eq_true hbt
            have ha : ∀ {α : Type} {l : Array α} {l' : List α}, l.toList = l' → l = l'.toArray := fun h => by rw [← h]
            simp only [execOp, ho, resolve, hc, ha hargs, ha htys, invoke, builtin, Sem.run_bind, Sem.run_pure, Result.andThen_ok, List.map_toArray, List.map_cons, List.map_nil, e2, hrun]
        · cases hop
      · cases hop
    · cases hop
  have hdis := (List.nodup_append.1 hnn0).2.2
  have hfr : ∀ b ∈ fr, b ∈ fps := fun b hb => hsub b (List.mem_append_left _ hb)
  have hob1 : ∀ b, (a.eval x).ownBlock = some b → b ∈ fr := fun b h => (hob1' b h).1
  have hk : ∀ b, b < w.heap.size → (a.eval x).ownBlock ≠ some b → w'.heap[b]? = w.heap[b]? := fun b h1 h2 => hgb.block b h1 (fun e => h2 e.symm)
  have hik : ∀ t b, im t b → im t b ∧ w'.heap[b]? = w.heap[b]? := fun t b h => ⟨h, hk b (hs.il t b h) fun e => hs.ni b (hfr b (hob1 b e)) t h⟩
  have hrx' := RHs_mono (fun _ _ h => h) hik _ _ _ (fun b hb => by cases hb) hrx
  have hry' := RHs_mono (fun _ _ h => h) hik _ _ _ (fun b hb => by cases hb) hry
  have hall : RHs g im w' ((xs ++ ys).map HV.c) (us ++ ns) [] := by rw [List.map_append]; exact RHs_append _ _ _ _ _ _ hrx' hry'
  have hbix : ∃ bi : BI, bi.ty = e ∧ bi.e = inf.sz ∧ n + m ≤ bi.cap ∧ bi.cap ≤ maxLen ∧ v' = slv bi.a (0 * bi.e) (n + m) (bi.cap - 0) ∧ bi.a = v'.ownBlock ∧
      ((bi.a = none ∧ xs ++ ys = [] ∧ bi.cap = 0) ∨ ∃ b cur, bi.a = some b ∧ w'.heap[b]? = some (.cells cur e (0, 0)) ∧ cur.size = bi.cap * inf.sz ∧ RL im w' b (xs ++ ys) 0 []) := by
    obtain ⟨h1, ⟨h0, h2⟩ | ⟨b, cap, cur, rfl, _, h3, h4, h5, h6, h7⟩⟩ := hown'
    · subst h0
      refine ⟨⟨none, 0, e, inf.sz⟩, rfl, rfl, by simp; omega, Nat.zero_le _, by rw [h2]; rfl, rfl, .inl ⟨rfl, ?_, rfl⟩⟩
      have : (xs ++ ys).length = 0 := by
        rw [List.length_append, hxl, hyl]
        have hn0' : n = 0 := by omega
        have hm0' : m = 0 := by omega
        rw [hn0', hm0']
        simp
      exact List.eq_nil_of_length_eq_zero this
    · refine ⟨⟨some b, cap, e, inf.sz⟩, rfl, rfl, h4, h5, by simp [slv], rfl, .inr ⟨b, cur, rfl, h3, h6, RHs_RL _ _ 0 _ hall fun k u hj => ?_⟩⟩
      rw [Nat.zero_add, cell_of_row w' b k cur e (0, 0) h3, ← Array.getElem?_toList]
      rw [← h7, List.getElem?_take] at hj
      split at hj
      · exact hj
      · cases hj
  obtain ⟨bi, hty, hes, hcap, hmx, hv', hba, hro⟩ := hbix
  have hszle := hgb.size
  have hblt : ∀ b, bi.a = some b → b < w'.heap.size := by
    intro b hb
    rcases hro with ⟨h, _⟩ | ⟨b', cur, h1, h2, _⟩
    · rw [hb] at h; cases h
    · rw [hb] at h1
      injection h1 with h1
      subst h1
      exact (Array.getElem?_eq_some_iff.1 h2).1
  have hwhere : ∀ b, bi.a = some b → (a.eval x).ownBlock = some b ∨ w.heap.size = b := by
    intro b hb
    rw [hba] at hb
    rcases hblk with h | h
    · left; rw [← h]; exact hb
    · right; rw [h] at hb; injection hb
  let f' : List Nat := match bi.a with | some b => [b] | none => []
  have hro' : RO (gup g s.nx bi) im w' bi (.arr e inf.sz (xs ++ ys)) f' := by
    refine ⟨hty, hes, ?_⟩
    rcases hro with ⟨h1, h2, h3⟩ | ⟨b, cur, h1, h2, h3, h4⟩
    · left; exact ⟨h1, h2, h3, by simp only [f', h1]⟩
    · right; exact ⟨b, cur, [], h1, by simp only [f', h1], h2, h3, h4⟩
  have hnf' : f'.Nodup := by
    simp only [f']
    split
    · simp
    · exact List.nodup_nil
  have hf'm : ∀ c ∈ f', c ∈ fr ∨ w.heap.size ≤ c := by
    intro c hc
    simp only [f'] at hc
    split at hc
    · rename_i b hb
      simp only [List.mem_singleton] at hc
      subst hc
      rcases hwhere _ hb with h | h
      · exact .inl (hob1 _ h)
      · exact .inr (by omega)
    · cases hc
  have hf'l : ∀ c ∈ f', c < w'.heap.size := by
    intro c hc
    simp only [f'] at hc
    split at hc
    · rename_i b hb
      simp only [List.mem_singleton] at hc
      subst hc
      exact hblt _ hb
    · cases hc
  have hsim := hs.swap (fr := fr) (f' := f') (w' := w') hh1 hnn0 hsub bi (.arr e inf.sz (xs ++ ys)) (fun b h1 h2 => hk b h1 fun e => h2 (hob1 b e)) hszle hgb.os hgb.tape hgb.output hnf' hf'm hf'l hblt hro'
  unfold Oper.wp
  rw [hexec]
  refine hK _ im _ _ w' (fun b => (a.eval x).ownBlock = some b) ⟨_, hsim.putd (dok_lt hd) (v := v') ?_⟩ hQ (Chg.swap hs.gn (fun b hb => ?_) (fun b hb t => hs.ni b (hfr b (hob1 b hb)) t) (fun b hb => ?_) hszle) ?_
  · simp only [RA, RH]
    exact ⟨trivial, bi, by simp [gup], by omega, hmx, hv'⟩
  · rcases hwhere b hb with h | h
    · exact .inr h
    · exact .inl (by omega)
  · by_cases h : (a.eval x).ownBlock = some b
    · exact .inl h
    · exact .inr (hk b hb h)
  · intro m hm b hb
    injection hm with hm
    subst hm
    exact ⟨id, List.mem_cons_self, bi0, hg, (hob1' b hb).2⟩
end
section
variable {E : Env} {te : TE} {os : Option (List Nat)} {fl : Bool} {s : AS}
/-- A cut of a row of the call's own; where it is empty its place is not told. -/
theorem ps_cutW {t e : Nat} {sz b' : Nat} {zs : List CV} {x : Operand} {lo hi : Option Operand} {id j n : Nat} {il ih : Int} {ty : Nat} {xs : List CV} {inf : TInf} (lw h : Nat) (hte : teOk E.P te = true)
    (hx : s.eval x = some (.h (.sl id j n))) (hob : look id s.hp = some (.arr ty inf.sz xs)) (hlo : bnd s 0 lo = some il) (hhi : bnd s n hi = some ih) (hl : il = (lw : Int)) (hh : ih = (h : Int)) (h1 : lw ≤ h) (h2 : h ≤ n) (ht : look t te = some ⟨.slice e, sz, b', zs⟩) (he : look e te = some inf) : PS E os fl s (.slice t x lo hi none) (.h (.sw id (j + lw) (h - lw))) := by
  intro g im ac w M n0 ⟨fps, hs⟩ hI
  have hv := hs.eval hx
  simp only [RA, RH] at hv
  obtain ⟨_, bi, hg, h3, h4, e1⟩ := hv
  obtain ⟨bi', f1, f2, f3, hg', hf, hro⟩ := look_HR hs.hp hob
  obtain rfl : bi = bi' := by rw [hg] at hg'; exact Option.some.inj hg'
  obtain ⟨_, hes, hro⟩ := hro
  refine ⟨.slice (if bi.cap - j = lw then (bi.a.map fun b => (⟨b, j * bi.e, none⟩ : Addr)) else (bi.a.map fun b => (⟨b, j * bi.e, none⟩ : Addr)).map (·.add (lw * inf.sz))) (h - lw) (bi.cap - j - lw), ?_, fun w' _ o ho => ?_⟩
  · simp only [RA, RH]
    refine ⟨trivial, bi, _, _, hg, rfl, by omega, by omega, ?_⟩
    rcases Nat.eq_zero_or_pos (h - lw) with h0 | h0
    · exact .inl h0
    · right
      rw [if_neg (by omega)]
      rcases hro with ⟨q1, q2, q3, q4⟩ | ⟨b, cur, f, q1, _⟩
      · omega
      · refine ⟨b, q1, ?_⟩
        rw [q1, hes, Nat.add_mul]
        simp only [Option.map_some, addr_add]
  · have := cut_run hs hte (l := lw) h (bi.a.map fun b => (⟨b, j * bi.e, none⟩ : Addr)) (bi.cap - j) hlo hhi hl hh h1 h2 (by omega) ht he w'
    simp only [execOp, ho, e1, slv, Option.map_none, Sem.run_bind, this, Result.andThen_ok, Sem.run_pure]
end
section
variable {E : Env} {l rest : List Oper} {fr : List (Nat × AV)} {hp : List (Nat × Ob)} {nx : Nat} {o oi : Oper} {Q : Exit → AS → Prop} {d : Nat} {α : Type} {f : α → List CV}
theorem eApS {x y : Operand} {t e n j m id : Nat} {sz' b'' : Nat} {zs'' : List CV} {inf : TInf} {L : List α} {hp1 : List (Nat × Ob)} (ho : appOf o.op = some (x, y, t)) (ht : look t E.te = some ⟨.slice e, sz', b'', zs''⟩) (he : look e E.te = some inf)
    (hx : AS.eval ⟨fr, hp, nx⟩ x = some (.h (.sl id 0 n))) (hy : AS.eval ⟨fr, hp, nx⟩ y = some (.h (.sw id j m))) (hob : look id hp = some (.arr e inf.sz (rows f L))) (hh : del id hp = hp1) (hsz : Nat.blt 0 inf.sz = true)
    (hd : o.dst = some d) (hn : Nat.blt d E.nt = true) (hf : ∀ a, (f a).length = inf.sz) (hfr : ∀ a, freeL (f a) = true) (hnl : n ≤ L.length) (hml : j + m = L.length) (hle : n + m ≤ 1099511627776) (hby : Nat.ble inf.by' 100 = true) :
    ES E ⟨fr, hp, nx⟩ o (some [id]) (fun x => x = ⟨(d, .h (.sl nx 0 (n + m))) :: fr, (nx, .arr e inf.sz (rows f (L.take n ++ L.drop j))) :: hp1, nx + 1⟩) := by
  refine es_appS E.hte ho ht he hx hy hob (freeL_rows hfr L) (by rw [rows_length hf]; exact Nat.mul_le_mul_right _ hnl) (by rw [rows_length hf, hml]; exact Nat.le_refl _) (by simp only [maxLen]; omega) ?_ hsz (by rw [hd]; exact hn) ?_
  · have : inf.by' ≤ 100 := Nat.le_of_ble_eq_true hby
    calc (n + m) * inf.by' ≤ (n + m) * 100 := Nat.mul_le_mul_left _ this
      _ ≤ 140737488355328 := by omega
  · rw [hd]
    show (⟨_, _, _⟩ : AS) = ⟨_, _, _⟩
    rw [hh, rows_take hf, rows_drop hf, rows_take hf, ← rows_append, List.take_of_length_le (l := L.drop j) (by simp; omega)]
theorem pApS {x y : Operand} {t e n j m id : Nat} {sz' b'' : Nat} {zs'' : List CV} {inf : TInf} {L : List α} {hp1 : List (Nat × Ob)} (ho : appOf o.op = some (x, y, t)) (ht : look t E.te = some ⟨.slice e, sz', b'', zs''⟩) (he : look e E.te = some inf)
    (hx : AS.eval ⟨fr, hp, nx⟩ x = some (.h (.sl id 0 n))) (hy : AS.eval ⟨fr, hp, nx⟩ y = some (.h (.sw id j m))) (hob : look id hp = some (.arr e inf.sz (rows f L))) (hh : del id hp = hp1) (hsz : Nat.blt 0 inf.sz = true)
    (hg : gdv l ⟨fr, hp, nx⟩ o = some true) (hd : o.dst = some d) (hn : Nat.blt d E.nt = true) (hf : ∀ a, (f a).length = inf.sz) (hfr : ∀ a, freeL (f a) = true) (hnl : n ≤ L.length) (hml : j + m = L.length) (hle : n + m ≤ 1099511627776) (hby : Nat.ble inf.by' 100 = true)
    (kk : AL E l rest ⟨(d, .h (.sl nx 0 (n + m))) :: fr, (nx, .arr e inf.sz (rows f (L.take n ++ L.drop j))) :: hp1, nx + 1⟩ Q) : AL E l (o :: rest) ⟨fr, hp, nx⟩ Q :=
  pE (eApS ho ht he hx hy hob hh hsz hd hn hf hfr hnl hml hle hby) hg kk
theorem pCutW {t e : Nat} {sz b' : Nat} {zs : List CV} {x : Operand} {lo hi : Option Operand} {id j n : Nat} {il ih : Int} {ty : Nat} {xs : List CV} {inf : TInf} (lw h : Nat) (ho : o.op = .slice t x lo hi none)
    (hx : AS.eval ⟨fr, hp, nx⟩ x = some (.h (.sl id j n))) (ht : look t E.te = some ⟨.slice e, sz, b', zs⟩) (he : look e E.te = some inf) (hob : look id hp = some (.arr ty inf.sz xs)) (hlo : bnd ⟨fr, hp, nx⟩ 0 lo = some il) (hhi : bnd ⟨fr, hp, nx⟩ n hi = some ih)
    (hg : gdv l ⟨fr, hp, nx⟩ o = some true) (hd : o.dst = some d) (hn : Nat.blt d E.nt = true) (hl : il = (lw : Int)) (hh : ih = (h : Int)) (h1 : lw ≤ h) (h2 : h ≤ n) (kk : AL E l rest ⟨(d, .h (.sw id (j + lw) (h - lw))) :: fr, hp, nx⟩ Q) : AL E l (o :: rest) ⟨fr, hp, nx⟩ Q :=
  al_pd (by rw [ho]; exact ps_cutW lw h E.hte hx hob hlo hhi hl hh h1 h2 ht he) hg hd hn kk
variable {cert : CT} {nr : Nat} {os ms : List Nat} {fl : Bool} {k : AS → Prop} {i : Nat}
theorem dCutW {t e : Nat} {sz b' : Nat} {zs : List CV} {x : Operand} {lo hi' : Option Operand} {id j n : Nat} {il ih : Int} {ty : Nat} {xs : List CV} {inf : TInf} (lw h : Nat) (hi : nth l i = some oi) (ho : oi.op = .slice t x lo hi' none)
    (hx : AS.eval ⟨fr, hp, nx⟩ x = some (.h (.sl id j n))) (ht : look t E.te = some ⟨.slice e, sz, b', zs⟩) (he : look e E.te = some inf) (hob : look id hp = some (.arr ty inf.sz xs)) (hlo : bnd ⟨fr, hp, nx⟩ 0 lo = some il) (hhi : bnd ⟨fr, hp, nx⟩ n hi' = some ih)
    (hg : gdv l ⟨fr, hp, nx⟩ oi = some true) (hd : oi.dst = some d) (hn : Nat.blt d E.nt = true) (hl : il = (lw : Int)) (hh : ih = (h : Int)) (h1 : lw ≤ h) (h2 : h ≤ n) (kk : AH E l cert nr os ms fl ⟨(d, .h (.sw id (j + lw) (h - lw))) :: fr, hp, nx⟩ k) : AH E l (CT.cons (i, true) cert) nr os ms fl ⟨fr, hp, nx⟩ k :=
  dPS hi (by rw [ho]; exact ps_cutW lw h E.hte hx hob hlo hhi hl hh h1 h2 ht he) hg hd hn kk
theorem dCut0 {t e : Nat} {sz b' : Nat} {zs : List CV} {x : Operand} {lo hi' : Option Operand} {id j n : Nat} {il ih : Int} {inf : TInf} (h : Nat) (hi : nth l i = some oi) (ho : oi.op = .slice t x lo hi' none)
    (hx : AS.eval ⟨fr, hp, nx⟩ x = some (.h (.sl id j n))) (hlo : bnd ⟨fr, hp, nx⟩ 0 lo = some il) (hhi : bnd ⟨fr, hp, nx⟩ n hi' = some ih) (ht : look t E.te = some ⟨.slice e, sz, b', zs⟩) (he : look e E.te = some inf)
    (hg : gdv l ⟨fr, hp, nx⟩ oi = some true) (hd : oi.dst = some d) (hn : Nat.blt d E.nt = true) (hl : il = 0) (hh : ih = (h : Int)) (h2 : h ≤ n) (kk : AH E l cert nr os ms fl ⟨(d, .h (.sl id j h)) :: fr, hp, nx⟩ k) : AH E l (CT.cons (i, true) cert) nr os ms fl ⟨fr, hp, nx⟩ k :=
  dPS hi (by rw [ho]; exact ps_cut0 h E.hte hx hlo hhi hl hh h2 ht he) hg hd hn kk
theorem dApS {x y : Operand} {t e n j m id : Nat} {sz' b'' : Nat} {zs'' : List CV} {inf : TInf} {L : List α} {hp1 : List (Nat × Ob)} (hi : nth l i = some oi) (ho : appOf oi.op = some (x, y, t)) (ht : look t E.te = some ⟨.slice e, sz', b'', zs''⟩) (he : look e E.te = some inf)
    (hx : AS.eval ⟨fr, hp, nx⟩ x = some (.h (.sl id 0 n))) (hy : AS.eval ⟨fr, hp, nx⟩ y = some (.h (.sw id j m))) (hob : look id hp = some (.arr e inf.sz (rows f L))) (hh : del id hp = hp1) (hsz : Nat.blt 0 inf.sz = true)
    (hg : gdv l ⟨fr, hp, nx⟩ oi = some true) (hd : oi.dst = some d) (hn : Nat.blt d E.nt = true) (hm : [id].all (fun id => ms.contains id || Nat.ble nr id) = true) (hf : ∀ a, (f a).length = inf.sz) (hfr : ∀ a, freeL (f a) = true) (hnl : n ≤ L.length) (hml : j + m = L.length) (hle : n + m ≤ 1099511627776) (hby : Nat.ble inf.by' 100 = true)
    (kk : AH E l cert nr os ms false ⟨(d, .h (.sl nx 0 (n + m))) :: fr, (nx, .arr e inf.sz (rows f (L.take n ++ L.drop j))) :: hp1, nx + 1⟩ k) : AH E l (CT.cons (i, false) cert) nr os ms fl ⟨fr, hp, nx⟩ k :=
  dE hi (eApS ho ht he hx hy hob hh hsz hd hn hf hfr hnl hml hle hby) hg hm (Nat.ble_eq_true_of_le (Nat.le_succ _)) kk
end
end Go.Proofs.Ytjijkdhjfanpaaa
