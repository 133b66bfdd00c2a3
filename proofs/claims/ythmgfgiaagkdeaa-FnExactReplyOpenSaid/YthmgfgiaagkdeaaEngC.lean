/- The engine, part zg: append to a part of a row; the greater of two numbers; rows of rows. -/
import Derived.Test.YthmgfgiaagkdeaaEngB
import Derived.Deep.AppendSrc
namespace Go.Proofs.Ythmgfgiaagkdeaa
open Go.RowKit
attribute [local irreducible] AWP AL XT AC AH AH2
set_option maxHeartbeats 1000000 in
theorem app_tail {E : Env} {g : Ga} {im : Im} {fps : List Nat} {s : AS} {a : Act} {w : World} (hs : SimF E g im fps s a w) {e n m : Nat} {inf : TInf} {xs ys : List CV} {us ns : List Value} {fx fr f0 fy f1 : List Nat} {hp1 : List (Nat × Ob)} {V V' : Value} {w' : World}
    (hrx : RHs g im w (xs.map HV.c) us fx) (hn0 : (fr ++ f0).Nodup) (hs0 : ∀ b ∈ fr ++ f0, b ∈ fps) (hfx : fx.Sublist fr) (hob : ∀ b, V.ownBlock = some b → fr = b :: fx)
    (hry : RHs g im w (ys.map HV.c) ns fy) (hh1 : HR g im w hp1 f1) (hn1 : (fy ++ f1).Nodup) (hs1 : ∀ b ∈ fy ++ f1, b ∈ f0)
    (hlx : xs.length = n * inf.sz) (hly : ys.length = m * inf.sz)
    (hown' : w'.ownsRow 0 e inf.sz V' (n + m) (us ++ ns)) (hgb : w.grownBy w' V.ownBlock) (hblk : V'.ownBlock = V.ownBlock ∨ V'.ownBlock = some w.heap.size) :
    ∃ bi f', bi.e = inf.sz ∧ n + m ≤ bi.cap ∧ bi.cap ≤ maxLen ∧ V' = slv bi.a (0 * bi.e) (n + m) (bi.cap - 0) ∧ SimF E (gup g s.nx bi) im (f' ++ f1) { fr := s.fr, hp := (s.nx, .arr e inf.sz (xs ++ ys)) :: hp1, nx := s.nx + 1 } a w' ∧ Chg g (gup g s.nx bi) im im w w' s.nx (fun b => V.ownBlock = some b) := by
  -- the new object
  have hdis := (List.nodup_append.1 hn0).2.2
  have hfr : ∀ b ∈ fr, b ∈ fps := fun b hb => hs0 b (List.mem_append_left _ hb)
  have hf1 : ∀ b ∈ fy ++ f1, b ∈ fps := fun b hb => hs0 b (List.mem_append_right _ (hs1 b hb))
  have hk : ∀ b, b < w.heap.size → V.ownBlock ≠ some b → w'.heap[b]? = w.heap[b]? := fun b h1 h2 => hgb.block b h1 (fun e => h2 e.symm)
  have hob1 : ∀ b, V.ownBlock = some b → b ∈ fr := fun b h => by rw [hob b h]; exact List.mem_cons_self
  have hnfr := (List.nodup_append.1 hn0).1
  have hxk : ∀ b ∈ fx, w'.heap[b]? = w.heap[b]? := fun b hb => hk b (hs.lt b (hfr b (hfx.subset hb))) fun e => by
    rw [hob b e, List.nodup_cons] at hnfr
    exact hnfr.1 hb
  have hyk : ∀ b ∈ fy, w'.heap[b]? = w.heap[b]? := fun b hb => hk b (hs.lt b (hf1 b (List.mem_append_left _ hb))) fun e => hdis b (hob1 b e) b (hs1 b (List.mem_append_left _ hb)) rfl
  have hik : ∀ t b, im t b → im t b ∧ w'.heap[b]? = w.heap[b]? := fun t b h => ⟨h, hk b (hs.il t b h) fun e => hs.ni b (hfr b (hob1 b e)) t h⟩
  have hrx' := RHs_mono (fun _ _ h => h) hik _ _ _ hxk hrx
  have hry' := RHs_mono (fun _ _ h => h) hik _ _ _ hyk hry
  have hall : RHs g im w' ((xs ++ ys).map HV.c) (us ++ ns) (fx ++ fy) := by rw [List.map_append]; exact RHs_append _ _ _ _ _ _ hrx' hry'
  have hnxy : (fx ++ fy).Nodup := by
    rw [List.nodup_append]
    exact ⟨hnfr.sublist hfx, (List.nodup_append.1 hn1).1, fun a ha b hb e => hdis a (hfx.subset ha) b (hs1 b (List.mem_append_left _ hb)) e⟩
  -- which block
  have hbix : ∃ bi : BI, bi.ty = e ∧ bi.e = inf.sz ∧ n + m ≤ bi.cap ∧ bi.cap ≤ maxLen ∧ V' = slv bi.a (0 * bi.e) (n + m) (bi.cap - 0) ∧ bi.a = V'.ownBlock ∧
      ((bi.a = none ∧ xs ++ ys = [] ∧ bi.cap = 0 ∧ fx ++ fy = []) ∨ ∃ b cur, bi.a = some b ∧ w'.heap[b]? = some (.cells cur e (0, 0)) ∧ cur.size = bi.cap * inf.sz ∧ RL im w' b (xs ++ ys) 0 (fx ++ fy)) := by
    obtain ⟨h1, ⟨rfl, h2⟩ | ⟨b, cap, cur, rfl, _, h3, h4, h5, h6, h7⟩⟩ := hown'
    · refine ⟨⟨none, 0, e, inf.sz⟩, rfl, rfl, by simp; omega, Nat.zero_le _, by rw [h2]; rfl, rfl, .inl ⟨rfl, ?_, rfl, ?_⟩⟩
      · have : (xs ++ ys).length = 0 := by
          rw [List.length_append, hlx, hly]
          have hn0' : n = 0 := by omega
          have hm0' : m = 0 := by omega
          rw [hn0', hm0']
          simp
        exact List.eq_nil_of_length_eq_zero this
      · have e0 : us ++ ns = [] := List.eq_nil_of_length_eq_zero (by rw [h1, h2, Nat.zero_mul])
        have : (xs ++ ys).map HV.c = [] := by
          have := RHs_length _ _ _ hall
          rw [e0] at this
          exact List.eq_nil_of_length_eq_zero this.symm
        rw [this, e0] at hall
        exact hall.2
    · refine ⟨⟨some b, cap, e, inf.sz⟩, rfl, rfl, h4, h5, by simp [slv], rfl, .inr ⟨b, cur, rfl, h3, h6, RHs_RL _ _ 0 _ hall fun j u hj => ?_⟩⟩
      rw [Nat.zero_add, cell_of_row w' b j cur e (0, 0) h3, ← Array.getElem?_toList]
      rw [← h7, List.getElem?_take] at hj
      split at hj
      · exact hj
      · cases hj
  obtain ⟨bi, hty, hes, hcap, hmx, hv', hba, hro⟩ := hbix
  have hszle := hgb.size
  have hblt : ∀ b, bi.a = some b → b < w'.heap.size := by
    intro b hb
    rcases hro with ⟨h, _⟩ | ⟨b', cur, h1, h2, _⟩
    · rw [hb] at h; cases h
    · rw [hb] at h1
      injection h1 with h1
      subst h1
      exact (Array.getElem?_eq_some_iff.1 h2).1
  have hwhere : ∀ b, bi.a = some b → V.ownBlock = some b ∨ w.heap.size = b := by
    intro b hb
    rw [hba] at hb
    rcases hblk with h | h
    · left; rw [← h]; exact hb
    · right; rw [h] at hb; injection hb
  -- the footprint
  have hperm : ∀ c ∈ (fr ++ fy) ++ f1, c ∈ fps := by
    intro c hc
    rcases List.mem_append.1 hc with hc | hc
    · rcases List.mem_append.1 hc with hc | hc
      · exact hfr c hc
      · exact hf1 c (List.mem_append_left _ hc)
    · exact hf1 c (List.mem_append_right _ hc)
  have hnn : ((fr ++ fy) ++ f1).Nodup := by
    rw [List.append_assoc, List.nodup_append]
    exact ⟨hnfr, hn1, fun a ha b hb e => hdis a ha b (hs1 b hb) e⟩
  let f' : List Nat := match bi.a with | some b => b :: (fx ++ fy) | none => []
  have hro' : RO (gup g s.nx bi) im w' bi (.arr e inf.sz (xs ++ ys)) f' := by
    refine ⟨hty, hes, ?_⟩
    rcases hro with ⟨h1, h2, h3, h4⟩ | ⟨b, cur, h1, h2, h3, h4⟩
    · left; exact ⟨h1, h2, h3, by simp only [f', h1]⟩
    · right; exact ⟨b, cur, fx ++ fy, h1, by simp only [f', h1], h2, h3, h4⟩
  have hnf' : f'.Nodup := by
    simp only [f']
    split
    · rename_i b hb
      rw [List.nodup_cons]
      refine ⟨fun hm => ?_, hnxy⟩
      rcases hwhere b hb with h | h
      · rcases List.mem_append.1 hm with hm | hm
        · rw [hob b h, List.nodup_cons] at hnfr
          exact hnfr.1 hm
        · exact hdis b (hob1 b h) b (hs1 b (List.mem_append_left _ hm)) rfl
      · rcases List.mem_append.1 hm with hm | hm
        · have := hs.lt b (hfr b (hfx.subset hm)); omega
        · have := hs.lt b (hf1 b (List.mem_append_left _ hm)); omega
    · exact List.nodup_nil
  have hf'm : ∀ c ∈ f', c ∈ fr ++ fy ∨ w.heap.size ≤ c := by
    intro c hc
    simp only [f'] at hc
    split at hc
    · rename_i b hb
      rcases List.mem_cons.1 hc with rfl | hc
      · rcases hwhere _ hb with h | h
        · exact .inl (List.mem_append_left _ (hob1 _ h))
        · exact .inr (by omega)
      · rcases List.mem_append.1 hc with hc | hc
        · exact .inl (List.mem_append_left _ (hfx.subset hc))
        · exact .inl (List.mem_append_right _ hc)
    · cases hc
  have hf'l : ∀ c ∈ f', c < w'.heap.size := by
    intro c hc
    rcases hf'm c hc with h | h
    · have := hs.lt c (hperm c (List.mem_append_left _ h)); omega
    · simp only [f'] at hc
      split at hc
      · rename_i b hb
        rcases List.mem_cons.1 hc with rfl | hc
        · exact hblt _ hb
        · rcases List.mem_append.1 hc with hc | hc
          · have := hs.lt c (hfr c (hfx.subset hc)); omega
          · have := hs.lt c (hf1 c (List.mem_append_left _ hc)); omega
      · cases hc
  have hsim := hs.swap (fr := fr ++ fy) (f' := f') (w' := w') hh1 hnn hperm bi (.arr e inf.sz (xs ++ ys)) (fun b h1 h2 => hk b h1 fun e => h2 (List.mem_append_left _ (hob1 b e))) hszle hgb.os hgb.tape hgb.output hnf' hf'm hf'l hblt hro'
  refine ⟨bi, f', hes, hcap, hmx, hv', hsim, Chg.swap hs.gn (fun b hb => ?_) (fun b hb t => hs.ni b (hfr b (hob1 b hb)) t) (fun b hb => ?_) hszle⟩
  · rcases hwhere b hb with h | h
    · exact .inr h
    · exact .inl (by omega)
  · by_cases h : V.ownBlock = some b
    · exact .inl h
    · exact .inr (hk b hb h)
section
variable {E : Env} {te : TE} {s : AS} {o : Oper} {Q : AS → Prop}
/-- append to a part of a row of the call's own: in its place, or in a new one. -/
theorem es_appO {x y : Operand} {t e i n m id : Nat} {sz' b'' : Nat} {zs'' XS ys : List CV} {inf : TInf} {hp1 : List (Nat × Ob)} {vy : AV} (hte : teOk E.P te = true) (hop : appOf o.op = some (x, y, t)) (ht : look t te = some ⟨.slice e, sz', b'', zs''⟩) (he : look e te = some inf)
    (hx : s.eval x = some (.h (.sl id i n))) (hy : s.eval y = some vy) (hlk : look id s.hp = some (.arr e inf.sz XS)) (hsr : srcOf (del id s.hp) vy = some (m, ys, hp1)) (hlx : XS.length = (i + n) * inf.sz) (hly : ys.length = m * inf.sz) (h63 : i + n + m ≤ maxLen) (hbytes : (i + n + m) * inf.by' ≤ 140737488355328)
    (hn0 : 0 < n) (hm0 : 0 < m) (hsz : Nat.blt 0 inf.sz = true) (hd : dok E.nt o.dst = true)
    (hA : Q (({ fr := s.fr, hp := (s.nx, .arr e inf.sz (XS ++ ys)) :: hp1, nx := s.nx + 1 } : AS).putd o.dst (.h (.sl s.nx i (n + m)))))
    (hB : Q (({ fr := s.fr, hp := (s.nx, .arr e inf.sz (XS.drop (i * inf.sz) ++ ys)) :: hp1, nx := s.nx + 1 } : AS).putd o.dst (.h (.sl s.nx 0 (n + m))))) : ES E s o (some [id]) Q := by
  intro g im a w K QQ ⟨fps, hs⟩ hK
  have hsz' : 0 < inf.sz := Nat.lt_of_succ_le (Nat.le_of_ble_eq_true hsz)
  have hvx := hs.eval hx
  simp only [RA, RH] at hvx
  obtain ⟨_, bi0, hg0, hcx, hcm, ex⟩ := hvx
  have hv0 : RA g im w (.h (.sl id 0 (i + n))) (slv bi0.a 0 (i + n) bi0.cap) [] := by
    simp only [RA, RH]
    exact ⟨trivial, bi0, hg0, by omega, hcm, by simp⟩
  obtain ⟨us, fx, fr, f0, hown, hrx, hh0, hnd0, hs0, hfx, hob, hob'⟩ := base_sound (s := s) hs (ty := e) (e := inf.sz) (n := i + n) (xs := XS) (hp0 := del id s.hp) (md := [id]) (x := .h (.sl id 0 (i + n))) (by simp [baseOf, hlk]) hlx hv0
  obtain ⟨A, c, ns, fy, f1, e2, hnl, hry, hh1, hn1, hs1, hAd, hmz⟩ := src_sound hh0 (List.nodup_append.1 hnd0).2.1 hsz' hsr hly (hs.eval hy)
  obtain ⟨ad, rfl, hcell⟩ : ∃ ad, A = some ad ∧ ∀ j u, ns[j]? = some u → w.cell? (ad.add j) = some u := by
    rcases hAd with ⟨_, h, _⟩ | h
    · omega
    · exact h
  have h1n := RHs_one _ _ _ hry
  have hu := slice_und hte ht
  obtain ⟨⟨ti, z, h2, h3, h4, h5, h6, h7⟩, h8⟩ := teOk_look hte he
  have hsrc : Src E.P ti.size t (a.eval y) m ns w := by rw [e2, h3]; exact Src.ofSlice w hu ad m c ns hnl hcell h1n
  have husl : us.length = (i + n) * inf.sz := by have := hown.1; exact this
  obtain ⟨b, cur, hba, hheap, hcur⟩ : ∃ b cur, bi0.a = some b ∧ w.heap[b]? = some (.cells cur e (0, 0)) ∧ cur.size = bi0.cap * inf.sz ∧ cur.toList.take ((i + n) * inf.sz) = us := by
    rcases hown.2 with ⟨h, h'⟩ | ⟨gb, cap, cur, h, _, h9, h10, h11, h12, h13⟩
    · omega
    · cases hba : bi0.a with
      | none => rw [hba] at h; simp [slv] at h
      | some b =>
        rw [hba] at h
        simp only [slv, Option.map_some, Value.slice.injEq, Option.some.injEq] at h
        obtain ⟨h14, _, h15⟩ := h
        injection h14 with h14
        subst h14 h15
        exact ⟨b, cur, rfl, h9, h12, h13⟩
  obtain ⟨hcur, htake⟩ := hcur
  obtain ⟨_, q2, q3⟩ : True ∧ bi0.e = inf.sz ∧ True := by
    obtain ⟨bi', fa, fb, fc, hg', hf, hro⟩ := look_HR hs.hp hlk
    obtain rfl : bi0 = bi' := by rw [hg0] at hg'; exact Option.some.inj hg'
    exact ⟨trivial, hro.2.1, trivial⟩
  rw [hba, q2] at ex
  simp only [slv, Option.map_some] at ex
  have hexec : ∀ v' w', (Builtin.append_ #[t, t] o.type #[a.eval x, a.eval y]).run E.P w = .ok v' w' → (execOp a.eval o).run E.P w = .ok (.value v') w' := by
    intro v' w' hrun
    unfold appOf at hop
    split at hop
    · rename_i c' ho
      split at hop
      · rename_i hc
        split at hop
        · rename_i x' y' t1 t2 hargs htys
          cases hbt : Nat.beq t1 t2 with
          | false => rw [hbt] at hop; simp at hop
          | true =>
            rw [hbt] at hop
            simp only [cond_true, Option.some.injEq, Prod.mk.injEq] at hop
            obtain ⟨rfl, rfl, rfl⟩ := hop
            obtain rfl : t1 = t2 := Nat.eq_of_beq_eq_true hbt
            have ha : ∀ {α : Type} {l : Array α} {l' : List α}, l.toList = l' → l = l'.toArray := fun h => by rw [← h]
            simp only [execOp, ho, resolve, hc, ha hargs, ha htys, invoke, builtin, Sem.run_bind, Sem.run_pure, Result.andThen_ok, List.map_toArray, List.map_cons, List.map_nil, hrun]
        · cases hop
      · cases hop
    · cases hop
  have hcellsz : ∀ k, k < cur.size → (w.cell? ⟨b, k, none⟩).isSome = true := fun k hk => by rw [cell_of_row w b k cur e (0, 0) hheap, Array.getElem?_eq_getElem hk]; rfl
  by_cases hroom : n + m ≤ bi0.cap - i
  · -- there is room
    have hcap : i + n + m ≤ bi0.cap := by omega
    have hb1 : (i + n) * inf.sz + ns.length ≤ cur.size := by rw [hnl, hcur, ← Nat.add_mul]; exact Nat.mul_le_mul_right _ hcap
    have r1 := run_append_room_src w t t o.type e ti hu h2 b (i * inf.sz) n (bi0.cap - i) (a.eval y) m ns hsrc hroom (fun j hj => hcellsz _ (by rw [h3, ← Nat.add_mul]; omega)) (fun j hj => frozen_of_row w b _ cur e hheap)
    have r2 := run_append_room_src w t t o.type e ti hu h2 b 0 (i + n) bi0.cap (a.eval y) m ns hsrc hcap (fun j hj => hcellsz _ (by rw [h3]; omega)) (fun j hj => frozen_of_row w b _ cur e hheap)
    rw [h3, ← Nat.add_mul] at r1
    rw [h3, Nat.zero_add] at r2
    obtain ⟨V', w', hrun, hown', hgb, _, hblk⟩ := run_append_own_at (P := E.P) w 0 t o.type e ti z inf.sz inf.by' hu h2 h5 h3 h4 h7 hsz' (slv bi0.a 0 (i + n) bi0.cap) (i + n) us hown ad m c ns hnl hcell h1n h63 hbytes (Nat.zero_le _)
    rw [hba, ← e2] at hrun
    simp only [slv, Option.map_some] at hrun
    rw [r2] at hrun
    injection hrun with hV hw'
    subst hw' hV
    obtain ⟨bi, f', z1, z2, z3, z4, hsim, hchg⟩ := app_tail hs hrx hnd0 hs0 hfx (fun b h => (hob b h).1) hry hh1 hn1 hs1 hlx hly hown' hgb hblk
    unfold Oper.wp
    rw [hexec _ _ (by rw [ex]; exact r1)]
    refine hK _ im _ _ _ _ ⟨_, hsim.putd (dok_lt hd) (v := .slice (some ⟨b, i * inf.sz, none⟩) (n + m) (bi0.cap - i)) ?_⟩ hA hchg ?_
    · simp only [RA, RH]
      refine ⟨trivial, bi, by simp [gup], by omega, z3, ?_⟩
      have z5 : bi.a = some b ∧ bi.cap = bi0.cap := by
        cases hb2 : bi.a with
        | none => rw [hb2] at z4; simp [slv] at z4
        | some b2 =>
          rw [hb2] at z4
          simp only [slv, Option.map_some, Value.slice.injEq, Option.some.injEq] at z4
          obtain ⟨h14, _, h15⟩ := z4
          injection h14 with h14
          exact ⟨by rw [h14], by omega⟩
      rw [z5.1, z5.2, z1]
      rfl
    · intro md hmd b2 hb2
      injection hmd with hmd
      subst hmd
      exact (hob b2 hb2).2
  · -- there is none
    have hcap : ¬ (i + n + m ≤ bi0.cap) := by omega
    have hdl : us.drop (i * inf.sz) = (cur.toList.drop (i * inf.sz)).take (n * inf.sz) := by
      rw [← htake, List.drop_take, Nat.add_mul, Nat.add_sub_cancel_left]
    have hul : (us.drop (i * inf.sz)).length = n * inf.sz := by rw [List.length_drop, husl, Nat.add_mul, Nat.add_sub_cancel_left]
    have hold : (Builtin.firstCells inf.sz n (.slice (some ⟨b, i * inf.sz, none⟩) n (bi0.cap - i))).run E.P w.drew = .ok (us.drop (i * inf.sz)).toArray w.drew := by
      refine run_firstCells_some w.drew inf.sz n ⟨b, i * inf.sz, none⟩ n _ _ hul fun j u hj => ?_
      rw [addr_add]
      have : w.cell? ⟨b, i * inf.sz + j, none⟩ = some u := by
        rw [cell_of_row w b _ cur e (0, 0) hheap, ← Array.getElem?_toList]
        rw [List.getElem?_drop, ← htake, List.getElem?_take] at hj
        split at hj
        · exact hj
        · cases hj
      simpa using this
    have hge := grownCap_ge w (n + m) (bi0.cap - i) e
    have hcm2 : grownCap w (n + m) (bi0.cap - i) e ≤ maxLen := grownCap_le_maxLen w (n + m) _ e (by omega)
    have r1 := run_append_grow_src w t t o.type e ti z hu h2 h5 (some ⟨b, i * inf.sz, none⟩) n (bi0.cap - i) (us.drop (i * inf.sz)) (by rw [h3]; exact hold) (a.eval y) m ns hsrc (by omega) (by simp only [maxLen] at h63; omega) (by
      have hnc : Builtin.nextslicecap (n + m) (bi0.cap - i) ≤ 2 * (n + m) := nextslicecap_le (by omega)
      rw [h4]
      calc Builtin.nextslicecap (n + m) (bi0.cap - i) * inf.by' ≤ 2 * (n + m) * inf.by' := Nat.mul_le_mul_right _ hnc
        _ = 2 * ((n + m) * inf.by') := by rw [Nat.mul_assoc]
        _ ≤ 2 * ((i + n + m) * inf.by') := Nat.mul_le_mul_left _ (Nat.mul_le_mul_right _ (by omega))
        _ ≤ 281474976710656 := by omega)
    generalize hcr : (us.drop (i * inf.sz) ++ ns).toArray ++ Builtin.zeroCells z.cells (grownCap w (n + m) (bi0.cap - i) e - (n + m)) = row at r1
    have hown' : (w.drew.alloc (.cells row e)).ownsRow 0 e inf.sz (.slice (some ⟨w.heap.size, 0, none⟩) (n + m) (grownCap w (n + m) (bi0.cap - i) e)) (n + m) (us.drop (i * inf.sz) ++ ns) := by
      have hll : (us.drop (i * inf.sz) ++ ns).length = (n + m) * inf.sz := by rw [List.length_append, hul, hnl, Nat.add_mul]
      refine ⟨hll, .inr ⟨w.heap.size, _, _, rfl, Nat.zero_le _, heap_alloc_new w.drew _, hge, hcm2, ?_, ?_⟩⟩
      · rw [← hcr]
        simp only [Array.size_append, List.size_toArray, size_zeroCells, h7, hll, ← Nat.add_mul]
        congr 1
        omega
      · rw [← hcr]
        simp only [Array.toList_append]
        rw [← hll]
        exact List.take_left
    obtain ⟨fx', hfx', hrx'⟩ : ∃ fx', fx'.Sublist fx ∧ RHs g im w ((XS.drop (i * inf.sz)).map HV.c) (us.drop (i * inf.sz)) fx' := by
      have : ∀ (k : Nat) (xs : List HV) (us : List Value) (f : List Nat), RHs g im w xs us f → ∃ f', f'.Sublist f ∧ RHs g im w (xs.drop k) (us.drop k) f' := by
        intro k
        induction k with
        | zero => intro xs us f h; exact ⟨f, List.Sublist.refl _, by simpa using h⟩
        | succ k ih =>
          intro xs us f h
          cases xs with
          | nil => obtain ⟨rfl, rfl⟩ := h; exact ⟨[], List.Sublist.refl _, by simp [RHs]⟩
          | cons x xs =>
            obtain ⟨v, vs', f1, f2, rfl, rfl, h1, h2⟩ := h
            obtain ⟨f', h3, h4⟩ := ih xs vs' f2 h2
            exact ⟨f', h3.trans (List.sublist_append_right _ _), by simpa using h4⟩
      obtain ⟨f', q1, q2⟩ := this (i * inf.sz) _ _ _ hrx
      exact ⟨f', q1, by rw [List.map_drop]; exact q2⟩
    obtain ⟨bi, f', z1, z2, z3, z4, hsim, hchg⟩ := app_tail (V := .slice none 0 0) hs hrx' hnd0 hs0 (hfx'.trans hfx) (fun b h => by cases h) hry hh1 hn1 hs1 (n := n) (m := m) (by rw [List.length_drop, hlx, Nat.add_mul, Nat.add_sub_cancel_left]) hly hown' ⟨rfl, rfl, rfl, by simp, fun k hk _ => heap_alloc_old w.drew _ hk⟩ (.inr rfl)
    unfold Oper.wp
    rw [hexec _ _ (by rw [ex]; exact r1)]
    refine hK _ im _ _ _ _ ⟨_, hsim.putd (dok_lt hd) (v := .slice (some ⟨w.heap.size, 0, none⟩) (n + m) (grownCap w (n + m) (bi0.cap - i) e)) ?_⟩ hB hchg ?_
    · simp only [RA, RH]
      exact ⟨trivial, bi, by simp [gup], by omega, z3, z4⟩
    · intro md hmd b2 hb2
      cases hb2
end
end Go.Proofs.Ythmgfgiaagkdeaa
/- The engine, part zh: stores into rows of rows; rows of rows lent and frozen; the greater of two numbers; numbers without sign. -/
namespace Go.Proofs.Ythmgfgiaagkdeaa
open Go.RowKit
section
variable {E : Env} {te : TE} {s : AS} {o : Oper} {Q : AS → Prop}
/-- A store into a row that holds handles. -/
theorem es_sth {t : TypeId} {x y : Operand} {id off : Nat} {v : AV} {ty e : Nat} {cs ys : List HV} {inf : TInf} (hte : teOk E.P te = true) (hop : o.op = .store t x y) (hx : s.eval x = some (.h (.ptr id off))) (hy : s.eval y = some v) (hv : cellsA v = some ys) (hl : look id s.hp = some (.hrr ty e cs))
    (ht : look t te = some inf) (hsz : ys.length = inf.sz) (hle : off + ys.length ≤ cs.length) (hd : dok E.nt o.dst = true)
    (hQ : Q (({ s with hp := upd id (.hrr ty e (setL cs off ys)) s.hp } : AS).putd o.dst .top)) : ES E s o (some [id]) Q := by
  intro g im a w K QQ ⟨fps, hs⟩ hK
  have hp := hs.eval hx
  simp only [RA, RH] at hp
  obtain ⟨_, bi, b, hg, hb, e1⟩ := hp
  have hus := RA_cells (hs.eval hy) hv
  have hul := RHs_length _ _ _ hus
  obtain ⟨bi', f1, f2, f3, hg', hf, hro⟩ := look_HR hs.hp hl
  obtain rfl : bi = bi' := by rw [hg] at hg'; exact Option.some.inj hg'
  obtain ⟨q1, q2, ⟨q3, _⟩ | ⟨b', cur, f, us0, hb', rfl, hh, hcap, hr0, hc0⟩⟩ := hro
  · rw [q3] at hb; cases hb
  obtain rfl : b = b' := by rw [hb] at hb'; exact Option.some.inj hb'
  have hl0 := RHs_length _ _ _ hr0
  have hcell : ∀ (j : Nat) (u : Value), us0[j]? = some u → cur.toList[j]? = some u := by
    intro j u hj
    have := hc0 j u hj
    rw [cell_of_row _ _ _ cur ty (0, 0) hh] at this
    simpa using this
  have hcl : cs.length ≤ cur.toList.length := by
    rcases Nat.lt_or_ge cur.toList.length cs.length with h | h
    · exfalso
      have hj : cur.toList.length < us0.length := by rw [hl0]; simpa using h
      have := hcell _ _ (List.getElem?_eq_getElem hj)
      rw [List.getElem?_eq_none (Nat.le_refl _)] at this
      cases this
    · exact h
  have hcs : (a.eval y).cells.toList.length = ys.length := by simpa using hul
  have hrun := run_store_var (P := E.P) hte ht hh (v := a.eval y) rfl (by omega) (RHs_one _ _ _ hus) (off := off) (by simp at hcl hcs ⊢; omega)
  have hbf : b ∈ fps := by rw [hf]; exact List.mem_append_right _ (List.mem_append_left _ List.mem_cons_self)
  have hblt := hs.lt b hbf
  generalize hnew : (cur.toList.take off ++ (a.eval y).cells.toList ++ cur.toList.drop (off + (a.eval y).cells.toList.length)) = new at hrun
  have hk : ∀ c, c ≠ b → (w.setRow b new.toArray).heap[c]? = w.heap[c]? := fun c hc => setRow_other w b c _ hc
  obtain ⟨fps', hsim⟩ := hs.upd (ob' := .hrr ty e (setL cs off ys)) hl hg hb hk (by simp) rfl rfl rfl (fun f0 hro0 hf0 hnd0 => by
    obtain ⟨q4, q5, ⟨q6, _⟩ | ⟨b0, cur0, f4, us1, hb0, rfl, hh0, hcap0, hr2, hc2⟩⟩ := hro0
    · rw [q6] at hb; cases hb
    obtain rfl : b = b0 := by rw [hb] at hb0; exact Option.some.inj hb0
    rw [hh] at hh0
    injection hh0 with hh0
    injection hh0 with hh0
    subst hh0
    have hl2 := RHs_length _ _ _ hr2
    obtain ⟨f', hsl, hr'⟩ := RHs_setL (o := off) hr2 hus
    have hlen : new.length = cur.toList.length := by
      rw [← hnew]; simp only [List.length_append, List.length_take, List.length_drop]; omega
    have hr3 := RHs_mono (w' := w.setRow b new.toArray) (fun _ _ h => h) (fun t c hc => ⟨hc, hk c fun e => by subst e; exact (hf0 c List.mem_cons_self).2 t hc⟩) _ _ _ (fun c hc => hk c fun e => by subst e; exact (List.nodup_cons.1 hnd0).1 (hsl.subset hc)) hr'
    refine ⟨b :: f', List.Sublist.cons_cons _ hsl, q4, q5, .inr ⟨b, _, f', _, hb, rfl, setRow_heap w b _ _ ty (0, 0) hh, by rw [← hcap0]; simpa using hlen, hr3, fun j u hj => ?_⟩⟩
    rw [cell_of_row _ _ _ new.toArray ty (0, 0) (setRow_heap w b _ _ ty (0, 0) hh)]
    rw [show (new.toArray)[j]? = new[j]? by simp, ← hnew]
    have hc2' : ∀ (j : Nat) (u : Value), us1[j]? = some u → cur.toList[j]? = some u := by
      intro j u hj
      have := hc2 j u hj
      rw [cell_of_row _ _ _ cur ty (0, 0) hh] at this
      simpa using this
    have e1 := setL_get cur.toList (a.eval y).cells.toList off (by omega) j
    have e2 := setL_get us1 (a.eval y).cells.toList off (by omega) j
    unfold setL at e1 e2
    rw [List.append_assoc, e1]
    rw [List.append_assoc, e2] at hj
    by_cases h1 : j < off
    · rw [if_pos h1] at hj ⊢
      exact hc2' j u hj
    · rw [if_neg h1] at hj ⊢
      by_cases h2 : j < off + (a.eval y).cells.toList.length
      · rw [if_pos h2] at hj ⊢
        exact hj
      · rw [if_neg h2] at hj ⊢
        exact hc2' j u hj)
  unfold Oper.wp
  have : (execOp a.eval o).run E.P w = .ok .skip (w.setRow b new.toArray) := by
    simp only [execOp, hop, e1, Sem.run_bind, hrun, Result.andThen_ok, Sem.run_pure]
  rw [this]
  refine hK g im _ _ _ (· = b) ⟨fps', hsim.putd (dok_lt hd) (by simp only [RA])⟩ hQ (Chg.upd hs (fun t => hs.ni b hbf t) hk (by simp)) ?_
  rintro m hm c rfl
  injection hm with hm
  subst hm
  exact ⟨id, List.mem_cons_self, bi, hg, hb⟩
end
/-! ### the same state, told otherwise -/
theorem es_conv {E : Env} {s s1 : AS} {o : Oper} {md : Option (List Nat)} {Q Q1 : AS → Prop} (h1 : ∀ g im a w, Sim E g im s a w → Sim E g im s1 a w) (hnx : s1.nx = s.nx) (h : ES E s1 o md Q1) (h2 : ∀ s', Q1 s' → ∃ s'', (∀ g im a w, Sim E g im s' a w → Sim E g im s'' a w) ∧ Q s'') : ES E s o md Q := by
  intro g im a w K QQ hs hK
  refine h g im a w K QQ (h1 g im a w hs) fun g' im' s' a' w' F hs' hq hch hof => ?_
  obtain ⟨s'', h3, h4⟩ := h2 s' hq
  exact hK g' im' s'' a' w' F (h3 _ _ _ _ hs') h4 (by rw [← hnx]; exact hch) hof
theorem sim_hrr {E : Env} {g : Ga} {im : Im} {fr : List (Nat × AV)} {hp : List (Nat × Ob)} {nx : Nat} {a : Act} {w : World} (id : Nat) {ty e : Nat} {xs : List CV} (hl : look id hp = some (.arr ty e xs)) (h : Sim E g im ⟨fr, hp, nx⟩ a w) :
    Sim E g im ⟨fr, upd id (.hrr ty e (xs.map HV.c)) hp, nx⟩ a w := by
  obtain ⟨fps, hs⟩ := h
  obtain ⟨l1, l2, rfl, hu, _⟩ := look_split hl
  obtain ⟨g1, g2, rfl, q1, q2⟩ := (HR_append _ _ _).1 hs.hp
  obtain ⟨bi, g3, g4, q3, rfl, q5, q6⟩ := q2
  refine ⟨_, hs.same (fun _ _ h => h) (fps' := g1 ++ (g3 ++ g4)) ?_ hs.nd (fun _ h => h) hs.gn hs.gl (Nat.le_refl _) fun _ _ => rfl⟩
  rw [hu]
  refine (HR_append _ _ _).2 ⟨g1, _, rfl, q1, bi, g3, g4, q3, rfl, ?_, q6⟩
  obtain ⟨r1, r2, ⟨r3, r4, r5, r6⟩ | ⟨b, cur, f, r3, r4, r5, r6, r7⟩⟩ := q5
  · subst r4
    exact ⟨r1, r2, .inl ⟨r3, rfl, r5, r6⟩⟩
  · obtain ⟨us, v1, v2⟩ := RL_RHs (g := g) _ _ _ r7
    exact ⟨r1, r2, .inr ⟨b, cur, f, us, r3, r4, r5, r6, v1, fun j u hj => by simpa using v2 j u hj⟩⟩
/-! ### rows of rows of numbers -/
def iow (ti : Nat) {α : Type} (f : α → List CV) (x : List α) : List CV := [.ow ti 1 x.length (rows f x)]
def ird (T : Nat) {α : Type} (f : α → List CV) (x : List α) : List CV := [.rd T x.length (rows f x)]
theorem iow_brw {α : Type} {f : α → List CV} (hp : ∀ a, Plain (f a)) (ti T : Nat) (l : List (List α)) : CV.brws T (rows (iow ti f) l) = rows (ird T f) l :=
  rows_brws T (fun a => by simp only [iow, ird, CV.brws, CV.brw]; rw [plain_rows hp a T]) l
theorem bor_io {α : Type} {f : α → List CV} (hp : ∀ a, Plain (f a)) {rest : List (Nat × Ob)} {ps : List Nat} {T id n ty e ti : Nat} {l : List (List α)} (hl : look id rest = some (.arr ty e (rows (iow ti f) l))) : BorH rest ps T (.sl id 0 n) (.c (.rd T n (rows (ird T f) l))) :=
  .inr ⟨ty, e, _, _, (rows (iow ti f) l).length, hl, by rw [Nat.zero_mul, List.drop_zero, List.take_length]; exact iow_brw hp ti T l, rfl⟩
theorem bor_io1 {α : Type} {f : α → List CV} (hp : ∀ a, Plain (f a)) {rest : List (Nat × Ob)} {ps : List Nat} {T id n ty ti : Nat} {x : List α} {l : List (List α)} (hl : look id rest = some (.arr ty 1 (rows (iow ti f) (x :: l)))) : BorH rest ps T (.sl id 1 n) (.c (.rd T n (rows (ird T f) l))) :=
  .inr ⟨ty, 1, _, _, (rows (iow ti f) l).length, hl, by
    show CV.brws T ((List.drop 1 (iow ti f x ++ rows (iow ti f) l)).take _) = _
    rw [show List.drop 1 (iow ti f x ++ rows (iow ti f) l) = rows (iow ti f) l from rfl, List.take_length]
    exact iow_brw hp ti T l, rfl⟩
def hopen (ti : Nat) {α : Type} (f : α → List CV) (L : List (List α)) (k : Nat) (h : HV) : List HV := (rows (iow ti f) (L.take k)).map HV.c ++ h :: (rows (iow ti f) (L.drop (k + 1))).map HV.c
theorem iow_len {ti : Nat} {α : Type} {f : α → List CV} (l : List (List α)) : (rows (iow ti f) l).length = l.length := by rw [rows_length (n := 1) (fun _ => rfl), Nat.mul_one]
theorem rows_at_split {ti : Nat} {α : Type} {f : α → List CV} {L : List (List α)} {k : Nat} (hk : k < L.length) : rows (iow ti f) L = rows (iow ti f) (L.take k) ++ .ow ti 1 L[k].length (rows f L[k]) :: rows (iow ti f) (L.drop (k + 1)) := by
  conv => lhs; rw [← List.take_append_drop k L, List.drop_eq_getElem_cons hk, rows_append]
  rfl
theorem hopen_drop {ti : Nat} {α : Type} {f : α → List CV} {L : List (List α)} {k : Nat} (hk : k < L.length) (h : HV) : (hopen ti f L k h).drop k = h :: (rows (iow ti f) (L.drop (k + 1))).map HV.c := by
  unfold hopen
  rw [List.drop_append_of_le_length (by rw [List.length_map, iow_len, List.length_take]; omega), List.drop_of_length_le (by rw [List.length_map, iow_len, List.length_take]; omega), List.nil_append]
theorem hopen_len {ti : Nat} {α : Type} {f : α → List CV} {L : List (List α)} {k : Nat} (hk : k < L.length) (h : HV) : (hopen ti f L k h).length = L.length := by
  unfold hopen
  simp only [List.length_append, List.length_map, List.length_cons, iow_len, List.length_take, List.length_drop]; omega
theorem hopen_set {ti : Nat} {α : Type} {f : α → List CV} {L : List (List α)} {k : Nat} (hk : k < L.length) (h h' : HV) : setL (hopen ti f L k h) k [h'] = hopen ti f L k h' := by
  have e : ((rows (iow ti f) (L.take k)).map HV.c).length = k := by rw [List.length_map, iow_len, List.length_take]; omega
  have := setL_append_mid ((rows (iow ti f) (L.take k)).map HV.c) [h] ((rows (iow ti f) (L.drop (k + 1))).map HV.c) [h'] 0 (by simp)
  rw [e, Nat.add_zero] at this
  exact this
theorem rows_set_split {ti : Nat} {α : Type} {f : α → List CV} {L : List (List α)} {k : Nat} (hk : k < L.length) (x : List α) : rows (iow ti f) (L.set k x) = rows (iow ti f) (L.take k) ++ .ow ti 1 x.length (rows f x) :: rows (iow ti f) (L.drop (k + 1)) := by
  rw [List.set_eq_take_append_cons_drop, if_pos hk, rows_append]
  rfl
section
variable {E : Env} {l rest : List Oper} {fr : List (Nat × AV)} {hp : List (Nat × Ob)} {nx : Nat} {Q : Exit → AS → Prop} {c : Code} {α : Type} {f : α → List CV}
theorem al_openR (id k : Nat) {ty ti : Nat} {L : List (List α)} (hl : look id hp = some (.arr ty 1 (rows (iow ti f) L))) (hk : k < L.length) (kk : AL E l rest ⟨fr, (nx, .arr ti 1 (rows f L[k])) :: upd id (.hrr ty 1 (hopen ti f L k (.sl nx 0 L[k].length))) hp, nx + 1⟩ Q) : AL E l rest ⟨fr, hp, nx⟩ Q :=
  al_open id (by rw [hl, rows_at_split hk]) kk
theorem awp_openR (id k : Nat) {ty ti : Nat} {L : List (List α)} (hl : look id hp = some (.arr ty 1 (rows (iow ti f) L))) (hk : k < L.length) (kk : AWP E c ⟨fr, (nx, .arr ti 1 (rows f L[k])) :: upd id (.hrr ty 1 (hopen ti f L k (.sl nx 0 L[k].length))) hp, nx + 1⟩ Q) : AWP E c ⟨fr, hp, nx⟩ Q :=
  awp_open id (by rw [hl, rows_at_split hk]) kk
theorem al_closeR (id j k : Nat) {ty ti n : Nat} {L : List (List α)} {x : List α} (hj : look j hp = some (.arr ti 1 (rows f x))) (hl : look id (del j hp) = some (.hrr ty 1 (hopen ti f L k (.sl j 0 n)))) (hk : k < L.length) (hn : n = x.length) (kk : AL E l rest ⟨fr, upd id (.arr ty 1 (rows (iow ti f) (L.set k x))) (del j hp), nx⟩ Q) : AL E l rest ⟨fr, hp, nx⟩ Q :=
  al_close id j hj hl (by rw [hn, ← rows_set_split hk]; exact kk)
theorem awp_closeR (id j k : Nat) {ty ti n : Nat} {L : List (List α)} {x : List α} (hj : look j hp = some (.arr ti 1 (rows f x))) (hl : look id (del j hp) = some (.hrr ty 1 (hopen ti f L k (.sl j 0 n)))) (hk : k < L.length) (hn : n = x.length) (kk : AWP E c ⟨fr, upd id (.arr ty 1 (rows (iow ti f) (L.set k x))) (del j hp), nx⟩ Q) : AWP E c ⟨fr, hp, nx⟩ Q :=
  awp_close id j hj hl (by rw [hn, ← rows_set_split hk]; exact kk)
end
/-! ### freezing whatever is told of the row -/
section
variable {E : Env} {l rest : List Oper} {fr : List (Nat × AV)} {hp : List (Nat × Ob)} {nx : Nat} {Q : Exit → AS → Prop} {c : Code}
theorem brws_brws (T : Nat) : ∀ xs : List CV, CV.brws T (CV.brws T xs) = CV.brws T xs
  | [] => rfl
  | x :: xs => by
    have : (x.brw T).brw T = x.brw T := by cases x <;> simp [CV.brw]
    simp only [CV.brws, this, brws_brws T xs]
theorem brws_drop (T : Nat) : ∀ (xs : List CV) (k : Nat), CV.brws T (xs.drop k) = (CV.brws T xs).drop k
  | [], k => by simp [CV.brws]
  | x :: xs, 0 => rfl
  | x :: xs, k + 1 => by simpa [CV.brws] using brws_drop T xs k
mutual
theorem CV.gz_eq {id T e : Nat} {xs ys : List CV} (hb : CV.brws T xs = ys) : ∀ x : AV, x.frz id T e xs = x.frz id T e ys
  | .h x => by simp only [AV.frz, HV.gz_eq hb]
  | .agg zs => by simp only [AV.frz, HV.gzs_eq hb]
  | .tup zs => by simp only [AV.frz, AV.gzs_eq hb zs]
  | .top => by simp only [AV.frz]
theorem AV.gzs_eq {id T e : Nat} {xs ys : List CV} (hb : CV.brws T xs = ys) : ∀ x : List AV, AV.frzs id T e xs x = AV.frzs id T e ys x
  | [] => by simp only [AV.frzs]
  | y :: zs => by simp only [AV.frzs, CV.gz_eq hb y, AV.gzs_eq hb zs]
theorem HV.gz_eq {id T e : Nat} {xs ys : List CV} (hb : CV.brws T xs = ys) (x : HV) : x.frz id T e xs = x.frz id T e ys := by
  cases x with
  | sl j i n => simp only [HV.frz, ← hb, brws_drop, brws_brws]
  | _ => rfl
theorem HV.gzs_eq {id T e : Nat} {xs ys : List CV} (hb : CV.brws T xs = ys) : ∀ x : List HV, HV.frzs id T e xs x = HV.frzs id T e ys x
  | [] => rfl
  | y :: zs => by simp only [HV.frzs, HV.gz_eq hb, HV.gzs_eq hb zs]
end
theorem frzF_gz {id T e : Nat} {xs ys : List CV} (hb : CV.brws T xs = ys) : ∀ fr : List (Nat × AV), frzF id T e xs fr = frzF id T e ys fr
  | [] => rfl
  | (d, x) :: r => by simp only [frzF, CV.gz_eq hb, frzF_gz hb r]
theorem frzO_gz {id T e : Nat} {xs ys : List CV} (hb : CV.brws T xs = ys) : ∀ hp : List (Nat × Ob), frzO id T e xs hp = frzO id T e ys hp
  | [] => rfl
  | (d, x) :: r => by
    have : x.frz id T e xs = x.frz id T e ys := by
      cases x with
      | arr => rfl
      | box ty zs => simp only [Ob.frz, HV.gzs_eq hb]
      | hrr ty e' zs => simp only [Ob.frz, HV.gzs_eq hb]
    simp only [frzO, this, frzO_gz hb r]
/-- A row, with whatever is owned in it, is only read from here on. -/
theorem al_frzG (id T : Nat) (hT : Nat.ble 100 T = true) {ty e : Nat} {xs ys : List CV} (hl : look id hp = some (.arr ty e xs)) (hb : CV.brws T xs = ys) (hb2 : CV.brws T ys = ys) (kk : AL E l rest ⟨fzF id T e ys fr, fzO id T e ys (del id hp), nx⟩ Q) : AL E l rest ⟨fr, hp, nx⟩ Q := by
  refine al_freeze id T hT hl ?_
  rw [frzF_gz hb, frzO_gz hb, fzF_eq hb2, fzO_eq hb2]
  exact kk
theorem ird_brw {α : Type} {f : α → List CV} (T S : Nat) (l : List (List α)) : CV.brws S (rows (ird T f) l) = rows (ird T f) l := rows_brws S (fun _ => rfl) l
/-- A row of rows. -/
theorem al_frzI {α : Type} {f : α → List CV} (id T : Nat) (hT : Nat.ble 100 T = true) {ty e ti : Nat} {L : List (List α)} (hl : look id hp = some (.arr ty e (rows (iow ti f) L))) (hp' : ∀ a, Plain (f a)) (kk : AL E l rest ⟨fzF id T e (rows (ird T f) L) fr, fzO id T e (rows (ird T f) L) (del id hp), nx⟩ Q) : AL E l rest ⟨fr, hp, nx⟩ Q :=
  al_frzG id T hT hl (iow_brw hp' ti T L) (ird_brw T T L) kk
end
/-! ### steps -/
section
variable {E : Env} {te : TE} {os : Option (List Nat)} {fl : Bool} {s : AS}
theorem ps_max {x y : Operand} {ts : Array Nat} {a b : Int} {cc : Callee} (hc : cc = .builtin .max) (hx : s.eval x = some (.h (.c (.int .i64 a)))) (hy : s.eval y = some (.h (.c (.int .i64 b)))) :
    PS E os fl s (.call { callee := cc, args := #[x, y], argTypes := ts }) (.h (.c (.int .i64 (max a b)))) := by
  subst hc
  intro g im ac w M n0 ⟨fps, hs⟩ hI
  have e1 := RA_int (hs.eval hx)
  have e2 := RA_int (hs.eval hy)
  refine ⟨_, RA_mkInt _ _, fun w' _ o ho => ?_⟩
  have : (if b > a then b else a) = max a b := by omega
  simp [execOp, ho, e1, e2, resolve, invoke, builtin, Builtin.max_, Builtin.max2, this]
theorem ps_convU {src dst : TypeId} {x : Operand} {a : Int} {inf inf' : TInf} (hte : teOk E.P te = true) (hx : s.eval x = some (.h (.c (.int .i64 a)))) (hs1 : look src te = some inf) (hd1 : look dst te = some inf') (hd2 : inf'.d = .int .u64)
    (h0 : 0 ≤ a) (h1 : a ≤ 9223372036854775807) : PS E os fl s (.convert src dst x) (.h (.c (.int .u64 a))) := by
  intro g im ac w M n0 ⟨fps, hs⟩ hI
  have e1 := RA_int (hs.eval hx)
  refine ⟨_, RA_mkInt _ _, fun w' _ o ho => ?_⟩
  have hw : IntKind.u64.wrap a = a := by rw [IntKind.wrap_u64]; omega
  have hu := (teOk_look hte hd1).und
  have hu' := (teOk_look hte hs1).und
  rw [hd2] at hu
  cases hp : E.P.underlying dst with
  | none => simp [TI.is, hp] at hu
  | some d =>
    cases d <;> simp [TI.is, hp] at hu
    subst hu
    cases hp' : E.P.underlying src with
    | none => rw [hp'] at hu'; cases hd : inf.d <;> simp [TI.is, hd] at hu'
    | some d' =>
      simp [execOp, ho, e1, convert, run_underlying hp, run_underlying hp', Conv.intToInt, hw]
theorem ps_shr1 {t t' : TypeId} {x y : Operand} {a : Int} (hx : s.eval x = some (.h (.c (.int .u64 a)))) (hy : s.eval y = some (.h (.c (.int .u64 1)))) : PS E os fl s (.binOp .shr t x y t') (.h (.c (.int .u64 (a / 2)))) := by
  intro g im ac w M n0 ⟨fps, hs⟩ hI
  have e1 := RA_int (hs.eval hx)
  have e2 := RA_int (hs.eval hy)
  refine ⟨_, RA_mkInt _ _, fun w' _ o ho => ?_⟩
  have := shift_shr .u64 .u64 a 1 (by omega) (by decide)
  simp [execOp, ho, e1, e2, eqGuard, binOp, this]
end
section
variable {E : Env} {l rest : List Oper} {fr : List (Nat × AV)} {hp : List (Nat × Ob)} {nx : Nat} {o : Oper} {Q : Exit → AS → Prop} {d : Nat}
variable {cert : CT} {nr : Nat} {os ms : List Nat} {fl : Bool} {k : AS → Prop} {i : Nat} {oi : Oper}
theorem pMax {x y : Operand} {ts : Array Nat} {a b r : Int} (ho : o.op = .call { callee := .builtin .max, args := #[x, y], argTypes := ts }) (hx : AS.eval ⟨fr, hp, nx⟩ x = some (.h (.c (.int .i64 a)))) (hy : AS.eval ⟨fr, hp, nx⟩ y = some (.h (.c (.int .i64 b))))
    (hg : gdv l ⟨fr, hp, nx⟩ o = some true) (hd : o.dst = some d) (hn : Nat.blt d E.nt = true) (hr : max a b = r) (kk : AL E l rest ⟨(d, .h (.c (.int .i64 r))) :: fr, hp, nx⟩ Q) : AL E l (o :: rest) ⟨fr, hp, nx⟩ Q :=
  al_pd (by rw [ho, ← hr]; exact ps_max rfl hx hy) hg hd hn kk
theorem dMax {x y : Operand} {ts : Array Nat} {a b r : Int} (hi : nth l i = some oi) (ho : oi.op = .call { callee := .builtin .max, args := #[x, y], argTypes := ts }) (hx : AS.eval ⟨fr, hp, nx⟩ x = some (.h (.c (.int .i64 a)))) (hy : AS.eval ⟨fr, hp, nx⟩ y = some (.h (.c (.int .i64 b))))
    (hg : gdv l ⟨fr, hp, nx⟩ oi = some true) (hd : oi.dst = some d) (hn : Nat.blt d E.nt = true) (hr : max a b = r) (kk : AH E l cert nr os ms fl ⟨(d, .h (.c (.int .i64 r))) :: fr, hp, nx⟩ k) : AH E l (CT.cons (i, true) cert) nr os ms fl ⟨fr, hp, nx⟩ k :=
  dPS hi (by rw [ho, ← hr]; exact ps_max rfl hx hy) hg hd hn kk
theorem pConvU {src dst : TypeId} {x : Operand} {a : Int} {inf inf' : TInf} (ho : o.op = .convert src dst x) (hx : AS.eval ⟨fr, hp, nx⟩ x = some (.h (.c (.int .i64 a)))) (hs1 : look src E.te = some inf) (hd1 : look dst E.te = some inf') (hd2 : inf'.d = .int .u64)
    (hg : gdv l ⟨fr, hp, nx⟩ o = some true) (hd : o.dst = some d) (hn : Nat.blt d E.nt = true) (h0 : 0 ≤ a) (h1 : a ≤ 9223372036854775807) (kk : AL E l rest ⟨(d, .h (.c (.int .u64 a))) :: fr, hp, nx⟩ Q) : AL E l (o :: rest) ⟨fr, hp, nx⟩ Q :=
  al_pd (by rw [ho]; exact ps_convU E.hte hx hs1 hd1 hd2 h0 h1) hg hd hn kk
theorem pShr1 {t t' : TypeId} {x y : Operand} {a : Int} (ho : o.op = .binOp .shr t x y t') (hx : AS.eval ⟨fr, hp, nx⟩ x = some (.h (.c (.int .u64 a)))) (hy : AS.eval ⟨fr, hp, nx⟩ y = some (.h (.c (.int .u64 1))))
    (hg : gdv l ⟨fr, hp, nx⟩ o = some true) (hd : o.dst = some d) (hn : Nat.blt d E.nt = true) (kk : AL E l rest ⟨(d, .h (.c (.int .u64 (a / 2)))) :: fr, hp, nx⟩ Q) : AL E l (o :: rest) ⟨fr, hp, nx⟩ Q :=
  al_pd (by rw [ho]; exact ps_shr1 hx hy) hg hd hn kk
/-- The place of an element of a row that holds handles; its load. -/
theorem pIxH {t e : Nat} {sz b' : Nat} {zs : List CV} {x ix : Operand} {id n : Nat} {ty e' : Nat} {xs : List HV} {q : Int} {inf : TInf} (m : Nat) (ho : o.op = .indexAddr t x ix)
    (hx : AS.eval ⟨fr, hp, nx⟩ x = some (.h (.sl id 0 n))) (hi : AS.eval ⟨fr, hp, nx⟩ ix = some (.h (.c (.int .i64 q)))) (ht : look t E.te = some ⟨.slice e, sz, b', zs⟩) (he : look e E.te = some inf) (hob : look id hp = some (.hrr ty e' xs)) (hes : e' = inf.sz)
    (hg : gdv l ⟨fr, hp, nx⟩ o = some true) (hd : o.dst = some d) (hn : Nat.blt d E.nt = true) (hk : q = (m : Int)) (hlt : m < n) (kk : AL E l rest ⟨(d, .h (.ptr id (m * inf.sz))) :: fr, hp, nx⟩ Q) : AL E l (o :: rest) ⟨fr, hp, nx⟩ Q :=
  al_pd (by rw [ho]; exact ps_ixh m E.hte hx hi hk hlt ht he hob hes) hg hd hn (by rw [Nat.zero_add]; exact kk)
theorem pIxHj {t e : Nat} {sz b' : Nat} {zs : List CV} {x ix : Operand} {id j n : Nat} {ty e' : Nat} {xs : List HV} {q : Int} {inf : TInf} (mm m : Nat) (ho : o.op = .indexAddr t x ix)
    (hx : AS.eval ⟨fr, hp, nx⟩ x = some (.h (.sl id j n))) (hi : AS.eval ⟨fr, hp, nx⟩ ix = some (.h (.c (.int .i64 q)))) (ht : look t E.te = some ⟨.slice e, sz, b', zs⟩) (he : look e E.te = some inf) (hob : look id hp = some (.hrr ty e' xs)) (hes : e' = inf.sz)
    (hg : gdv l ⟨fr, hp, nx⟩ o = some true) (hd : o.dst = some d) (hn : Nat.blt d E.nt = true) (hk : q = (m : Int)) (hlt : m < n) (hmm : j + m = mm) (kk : AL E l rest ⟨(d, .h (.ptr id (mm * inf.sz))) :: fr, hp, nx⟩ Q) : AL E l (o :: rest) ⟨fr, hp, nx⟩ Q :=
  al_pd (by rw [ho]; exact ps_ixh m E.hte hx hi hk hlt ht he hob hes) hg hd hn (by rw [hmm]; exact kk)
theorem pLdH {α : Type} {f : α → List CV} {t : Nat} {x : Operand} {id off : Nat} {ty e ti : Nat} {L : List (List α)} {h : HV} {inf : TInf} (m : Nat) (ho : o.op = .load t x) (hx : AS.eval ⟨fr, hp, nx⟩ x = some (.h (.ptr id off))) (hob : look id hp = some (.hrr ty e (hopen ti f L m h))) (hl : look t E.te = some inf) (ha : inf.d.isAgg = false)
    (hg : gdv l ⟨fr, hp, nx⟩ o = some true) (hd : o.dst = some d) (hn : Nat.blt d E.nt = true) (hoff : off = m * 1) (hlt : m < L.length) (hf : h.free = true) (kk : AL E l rest ⟨(d, .h h) :: fr, hp, nx⟩ Q) : AL E l (o :: rest) ⟨fr, hp, nx⟩ Q :=
  al_pd (by rw [ho]; exact ps_ldh E.hte hx hob hl rfl rfl (by rw [hoff, Nat.mul_one, hopen_drop hlt]; simp only [loadH, ha, cond_false, hf, cond_true])) hg hd hn kk
theorem eStH {α : Type} {f : α → List CV} {t : TypeId} {x y : Operand} {id off : Nat} {h h' : HV} {ty e ti : Nat} {L : List (List α)} {inf : TInf} (m : Nat) (ho : o.op = .store t x y) (hx : AS.eval ⟨fr, hp, nx⟩ x = some (.h (.ptr id off))) (hy : AS.eval ⟨fr, hp, nx⟩ y = some (.h h')) (hl : look id hp = some (.hrr ty e (hopen ti f L m h)))
    (ht : look t E.te = some inf) (hsz : Nat.beq 1 inf.sz = true) (hd : o.dst = none) (hoff : off = m * 1) (hlt : m < L.length) :
    ES E ⟨fr, hp, nx⟩ o (some [id]) (fun x => x = ⟨fr, upd id (.hrr ty e (hopen ti f L m h')) hp, nx⟩) :=
  es_same (es_sth E.hte ho hx hy (ys := [h']) rfl hl ht (Nat.eq_of_beq_eq_true hsz) (by rw [hoff, hopen_len hlt]; simp; omega) (by rw [hd]; rfl) rfl) (by rw [hd, hoff, Nat.mul_one, hopen_set hlt]; rfl)
/-- A store of a row of the call's own into a row of rows: it goes in. -/
theorem eStI {α : Type} {f : α → List CV} {t : TypeId} {x y : Operand} {id j off n : Nat} {ty ti : Nat} {L : List (List α)} {z : List α} {inf : TInf} (m : Nat) (ho : o.op = .store t x y) (hx : AS.eval ⟨fr, hp, nx⟩ x = some (.h (.ptr id off))) (hy : AS.eval ⟨fr, hp, nx⟩ y = some (.h (.sl j 0 n))) (hl : look id hp = some (.arr ty 1 (rows (iow ti f) L)))
    (_hj : look j hp = some (.arr ti 1 (rows f z))) (hj' : look j (upd id (.hrr ty 1 (hopen ti f L m (.sl j 0 n))) hp) = some (.arr ti 1 (rows f z))) (hij : look id (del j (upd id (.hrr ty 1 (hopen ti f L m (.sl j 0 n))) hp)) = some (.hrr ty 1 (hopen ti f L m (.sl j 0 n)))) (hz : upd id (.arr ty 1 (rows (iow ti f) (L.set m z))) (del j (upd id (.hrr ty 1 (hopen ti f L m (.sl j 0 n))) hp)) = upd id (.arr ty 1 (rows (iow ti f) (L.set m z))) (del j hp))
    (hu : upd id (.hrr ty 1 (hopen ti f L m (.sl j 0 n))) (upd id (.hrr ty 1 ((rows (iow ti f) L).map HV.c)) hp) = upd id (.hrr ty 1 (hopen ti f L m (.sl j 0 n))) hp) (hl2 : look id (upd id (.hrr ty 1 ((rows (iow ti f) L).map HV.c)) hp) = some (.hrr ty 1 ((rows (iow ti f) L).map HV.c)))
    (ht : look t E.te = some inf) (hsz : Nat.beq 1 inf.sz = true) (hd : o.dst = none) (hoff : off = m * 1) (hlt : m < L.length) (hn : n = z.length) :
    ES E ⟨fr, hp, nx⟩ o (some [id]) (fun x => x = ⟨fr, upd id (.arr ty 1 (rows (iow ti f) (L.set m z))) (del j hp), nx⟩) := by
  have hev : ∀ (hp' : List (Nat × Ob)) (x : Operand), AS.eval ⟨fr, hp', nx⟩ x = AS.eval ⟨fr, hp, nx⟩ x := fun hp' x => by cases x <;> rfl
  refine es_conv (s1 := ⟨fr, upd id (.hrr ty 1 ((rows (iow ti f) L).map HV.c)) hp, nx⟩) (fun g im a w h => sim_hrr id hl h) rfl
    (es_sth E.hte ho (by rw [hev]; exact hx) (by rw [hev]; exact hy) (ys := [.sl j 0 n]) rfl hl2 ht (Nat.eq_of_beq_eq_true hsz) (by rw [hoff, List.length_map, iow_len]; simp; omega) (by rw [hd]; rfl) (Q := fun x => x = ⟨fr, upd id (.hrr ty 1 (hopen ti f L m (.sl j 0 n))) hp, nx⟩) ?_) ?_
  · rw [hd]
    show (⟨fr, _, nx⟩ : AS) = _
    have e1 : (rows (iow ti f) L).map HV.c = hopen ti f L m (.c (.ow ti 1 L[m].length (rows f L[m]))) := by
      rw [rows_at_split hlt, List.map_append]; rfl
    have e2 : setL ((rows (iow ti f) L).map HV.c) off [HV.sl j 0 n] = hopen ti f L m (.sl j 0 n) := by rw [hoff, Nat.mul_one, e1, hopen_set hlt]
    rw [e2, hu]
  · rintro _ rfl
    refine ⟨_, fun g im a w h => ?_, rfl⟩
    have := sim_close (pre := rows (iow ti f) (L.take m)) (post := rows (iow ti f) (L.drop (m + 1))) (ys := rows f z) id j hj' hij h
    rw [hn, ← rows_set_split hlt, ← hn, hz] at this
    exact this
end
end Go.Proofs.Ythmgfgiaagkdeaa
/- The engine, part zi: what may be told anew where a body ends; nil cells of variables told as owned empty rows. -/
namespace Go.Proofs.Ythmgfgiaagkdeaa
open Go.RowKit
attribute [local irreducible] AWP AL AC ES PS AH AH2
/-- The body's end, told anew as often as one likes. -/
def FinM (E : Env) (te : TE) (k : Nat) (rs : List ResultVar) (rt : List Nat) (Post : AV → List Ob → Prop) : Exit → AS → Prop := fun e s => ∀ g im a w, Sim E g im s a w → Lift E (FinQ te k rs rt Post) e a w
theorem ac_bodyM {P : Program} {te : TE} (hte : teOk P te = true) {f : FuncId} {fn : Func} {c : Code} {nt : Nat} {args : List AV} {hin : List Ob} {rt : List Nat} {Post : AV → List Ob → Prop}
    (hf : P.funcs[f]? = some fn) (hb : fn.body = some c) (hn : (fn.name == "runtime.NumGoroutine") = false) (hnt : fn.ntmps = nt) (hle : Nat.ble args.length nt = true) (hrt : rt.all (fun t => Nat.blt t 100) = true)
    (h : ∀ w0 ps g0 im0, AWP ⟨P, te, hte, nt, w0, ps, hin.length, g0, im0⟩ c (AS.enter args hin) (FinM ⟨P, te, hte, nt, w0, ps, hin.length, g0, im0⟩ te hin.length fn.results.toList rt Post)) : AC P f args hin rt Post := by
  refine ac_body hte hf hb hn hnt hle hrt fun w0 ps g0 im0 => ?_
  have h' := h w0 ps g0 im0
  unfold AWP at h' ⊢
  exact fun g im a w hs => wp_mono (h' g im a w hs) fun _ _ _ ⟨g', im', s', hs', hq⟩ => hq g' im' _ _ hs'
theorem xt_M {E : Env} {te : TE} {k : Nat} {rs : List ResultVar} {rt : List Nat} {Post : AV → List Ob → Prop} {e : Exit} {s : AS} (h : XT e s (FinQ te k rs rt Post)) : XT e s (FinM E te k rs rt Post) := fun g im _ _ hs => ⟨g, im, s, hs, h⟩
theorem xt_Mstep {E : Env} {te : TE} {k : Nat} {rs : List ResultVar} {rt : List Nat} {Post : AV → List Ob → Prop} {e : Exit} {s s' : AS} (hs : ∀ g im a w, Sim E g im s a w → ∃ g' im', Sim E g' im' s' a w) (h : XT e s' (FinM E te k rs rt Post)) : XT e s (FinM E te k rs rt Post) := fun g im a w hh => by
  obtain ⟨g', im', h2⟩ := hs g im a w hh
  exact h g' im' a w h2
theorem sim_nownB {E : Env} {g : Ga} {im : Im} {fr : List (Nat × AV)} {hp : List (Nat × Ob)} {nx : Nat} {a : Act} {w : World} (id ty' e' : Nat) {ty : Nat} {pre post : List HV} (hl : look id hp = some (.box ty (pre ++ .c .nil :: post))) (h : Sim E g im ⟨fr, hp, nx⟩ a w) :
    ∃ g', Sim E g' im ⟨fr, (nx, .arr ty' e' []) :: upd id (.box ty (pre ++ .sl nx 0 0 :: post)) hp, nx + 1⟩ a w := by
  obtain ⟨fps, hs⟩ := h
  obtain ⟨l1, l2, rfl, hu, _⟩ := look_split hl
  obtain ⟨g1, g2, rfl, q1, q2⟩ := (HR_append _ _ _).1 hs.hp
  obtain ⟨bi, g3, g4, q3, rfl, q5, q6⟩ := q2
  have hg := gup_old (bi := ⟨none, 0, ty', e'⟩) hs.gn
  have hm : ∀ {l : List (Nat × Ob)} {f : List Nat}, HR g im w l f → HR (gup g nx ⟨none, 0, ty', e'⟩) im w l f := fun h => HR_mono hg (fun t b h => ⟨h, rfl⟩) _ _ (fun _ _ => rfl) h
  have key : ∀ (pre : List HV) (vs : List Value) (f : List Nat), RHs g im w (pre ++ .c .nil :: post) vs f → RHs (gup g nx ⟨none, 0, ty', e'⟩) im w (pre ++ .sl nx 0 0 :: post) vs f := by
    intro pre
    induction pre with
    | nil =>
      rintro vs f ⟨v, vs', f1, f2, rfl, rfl, h1, h2⟩
      simp only [RH, R] at h1
      refine ⟨v, vs', [], f2, rfl, by rw [h1.2], ?_, RHs_mono hg (fun t b h => ⟨h, rfl⟩) _ _ _ (fun _ _ => rfl) h2⟩
      exact ⟨rfl, ⟨none, 0, ty', e'⟩, by simp [gup], Nat.le_refl _, Nat.zero_le _, by rw [h1.1]; rfl⟩
    | cons x pre ih =>
      rintro vs f ⟨v, vs', f1, f2, rfl, rfl, h1, h2⟩
      exact ⟨v, vs', f1, f2, rfl, rfl, RH_mono hg (fun t b h => ⟨h, rfl⟩) x v f1 (fun _ _ => rfl) h1, ih _ _ h2⟩
  refine ⟨gup g nx ⟨none, 0, ty', e'⟩, _, hs.same hg (fps' := g1 ++ (g3 ++ g4)) ?_ hs.nd (fun _ h => h) ?_ ?_ (Nat.le_succ _) ?_⟩
  · refine ⟨⟨none, 0, ty', e'⟩, [], _, by simp [gup], rfl, ⟨rfl, rfl, .inl ⟨rfl, rfl, rfl, rfl⟩⟩, ?_⟩
    rw [hu]
    refine (HR_append _ _ _).2 ⟨g1, _, rfl, hm q1, bi, g3, g4, hg _ _ q3, rfl, ?_, hm q6⟩
    obtain ⟨b, cs, f, r1, r2, r3, r4⟩ := q5
    exact ⟨b, cs, f, r1, r2, r3, key _ _ _ r4⟩
  · intro i hi
    simp only [gup]
    rw [if_neg (by omega)]
    exact hs.gn i (by simp only; omega)
  · intro i bi2 b2 h1 h2
    simp only [gup] at h1
    split at h1
    · injection h1 with h1
      subst h1
      cases h2
    · exact hs.gl i bi2 b2 h1 h2
  · intro i hi
    simp only [gup]
    rw [if_neg (by omega)]
section
variable {E : Env} {te : TE} {k : Nat} {rs : List ResultVar} {rt : List Nat} {Post : AV → List Ob → Prop} {e : Exit} {fr : List (Nat × AV)} {hp : List (Nat × Ob)} {nx : Nat}
/-- A nil cell of a variable told as an owned empty row. -/
theorem xt_nownB (id ty' e' : Nat) {ty : Nat} {pre post : List HV} (hl : look id hp = some (.box ty (pre ++ .c .nil :: post))) (h : XT e ⟨fr, (nx, .arr ty' e' []) :: upd id (.box ty (pre ++ .sl nx 0 0 :: post)) hp, nx + 1⟩ (FinM E te k rs rt Post)) : XT e ⟨fr, hp, nx⟩ (FinM E te k rs rt Post) :=
  xt_Mstep (fun g im a w hs => by obtain ⟨g', h'⟩ := sim_nownB id ty' e' hl hs; exact ⟨g', im, h'⟩) h
theorem xt_wkM (id : Nat) {ty z : Nat} {xs : List CV} (ys : List CV) (hl : look id hp = some (.arr ty z xs)) (hw : Wks xs ys) (h : XT e ⟨fr, upd id (.arr ty z ys) hp, nx⟩ (FinM E te k rs rt Post)) : XT e ⟨fr, hp, nx⟩ (FinM E te k rs rt Post) :=
  xt_Mstep (fun g im _ _ hs => ⟨g, im, sim_wk id hl hw hs⟩) h
theorem xt_ownM (d ty z : Nat) (hl : look d fr = some (.h (.c .nil))) (h : XT e ⟨(d, .h (.sl nx 0 0)) :: fr, (nx, .arr ty z []) :: hp, nx + 1⟩ (FinM E te k rs rt Post)) : XT e ⟨fr, hp, nx⟩ (FinM E te k rs rt Post) :=
  xt_Mstep (fun g im a w hs => by obtain ⟨g', h'⟩ := sim_nown d ty z hl hs; exact ⟨g', im, h'⟩) h
theorem xt_closeM (id j : Nat) {ty z ty' e' n : Nat} {pre post ys : List CV} (hj : look j hp = some (.arr ty' e' ys)) (hl : look id (del j hp) = some (.hrr ty z (pre.map HV.c ++ .sl j 0 n :: post.map HV.c))) (h : XT e ⟨fr, upd id (.arr ty z (pre ++ .ow ty' e' n ys :: post)) (del j hp), nx⟩ (FinM E te k rs rt Post)) : XT e ⟨fr, hp, nx⟩ (FinM E te k rs rt Post) :=
  xt_Mstep (fun g im _ _ hs => ⟨g, im, sim_close id j hj hl hs⟩) h
end
section
variable {E : Env} {l rest : List Oper} {fr : List (Nat × AV)} {hp : List (Nat × Ob)} {nx : Nat} {Q : Exit → AS → Prop}
theorem al_nownB (id ty' e' : Nat) {ty : Nat} {pre post : List HV} (hl : look id hp = some (.box ty (pre ++ .c .nil :: post))) (kk : AL E l rest ⟨fr, (nx, .arr ty' e' []) :: upd id (.box ty (pre ++ .sl nx 0 0 :: post)) hp, nx + 1⟩ Q) : AL E l rest ⟨fr, hp, nx⟩ Q := by
  unfold AL at kk ⊢
  intro g im a w h
  obtain ⟨g', h'⟩ := sim_nownB id ty' e' hl h
  exact kk g' im a w h'
theorem awp_nownB {c : Code} (id ty' e' : Nat) {ty : Nat} {pre post : List HV} (hl : look id hp = some (.box ty (pre ++ .c .nil :: post))) (kk : AWP E c ⟨fr, (nx, .arr ty' e' []) :: upd id (.box ty (pre ++ .sl nx 0 0 :: post)) hp, nx + 1⟩ Q) : AWP E c ⟨fr, hp, nx⟩ Q := by
  unfold AWP at kk ⊢
  intro g im a w h
  obtain ⟨g', h'⟩ := sim_nownB id ty' e' hl h
  exact kk g' im a w h'
end
end Go.Proofs.Ythmgfgiaagkdeaa
/- The engine, part zj: further steps. -/
namespace Go.Proofs.Ythmgfgiaagkdeaa
open Go.RowKit
theorem rens_app (f : Nat → Nat) : ∀ xs ys : List HV, HV.rens f (xs ++ ys) = HV.rens f xs ++ HV.rens f ys
  | [], _ => rfl
  | x :: xs, ys => by simp only [List.cons_append, HV.rens, rens_app f xs ys]
theorem rens_mapc (f : Nat → Nat) (xs : List CV) : HV.rens f (xs.map HV.c) = xs.map HV.c := rens_pu _ (by simp [HV.pu])
theorem hopen_ren {ti : Nat} {α : Type} {f : α → List CV} {L : List (List α)} {k : Nat} {h : HV} (g : Nat → Nat) : HV.rens g (hopen ti f L k h) = hopen ti f L k (h.ren g) := by
  unfold hopen
  rw [rens_app, rens_mapc]
  simp only [HV.rens, rens_mapc]
theorem hrr_le {ti : Nat} {α : Type} {f : α → List CV} {L : List (List α)} {k ty e j : Nat} {h : HV} {g : Nat → Nat} {hp : List (Nat × Ob)} (hl : look j hp = some (.hrr ty e (hopen ti f L k (h.ren g)))) : look j hp = some ((Ob.hrr ty e (hopen ti f L k h)).ren g) := by
  rw [hl]; simp only [Ob.ren, hopen_ren]
section
variable {E : Env} {te : TE} {os : Option (List Nat)} {fl : Bool} {s : AS}
/-- A cut of a row of the call's own that is not empty. -/
theorem ps_cutP {t e : Nat} {sz b' : Nat} {zs : List CV} {x : Operand} {lo hi : Option Operand} {id j n : Nat} {il ih : Int} {ty : Nat} {xs : List CV} {inf : TInf} (lw h : Nat) (hte : teOk E.P te = true)
    (hx : s.eval x = some (.h (.sl id j n))) (hob : look id s.hp = some (.arr ty inf.sz xs)) (hlo : bnd s 0 lo = some il) (hhi : bnd s n hi = some ih) (hl : il = (lw : Int)) (hh : ih = (h : Int)) (h1 : lw < h) (h2 : h ≤ n) (ht : look t te = some ⟨.slice e, sz, b', zs⟩) (he : look e te = some inf) : PS E os fl s (.slice t x lo hi none) (.h (.sl id (j + lw) (h - lw))) := by
  intro g im ac w M n0 ⟨fps, hs⟩ hI
  have hv := hs.eval hx
  simp only [RA, RH] at hv
  obtain ⟨_, bi, hg, h3, h4, e1⟩ := hv
  obtain ⟨bi', f1, f2, f3, hg', hf, hro⟩ := look_HR hs.hp hob
  obtain rfl : bi = bi' := by rw [hg] at hg'; exact Option.some.inj hg'
  obtain ⟨_, hes, hro⟩ := hro
  refine ⟨slv bi.a ((j + lw) * bi.e) (h - lw) (bi.cap - (j + lw)), ?_, fun w' _ o ho => ?_⟩
  · simp only [RA, RH]
    exact ⟨trivial, bi, hg, by omega, h4, rfl⟩
  · have := cut_run hs hte (l := lw) h (bi.a.map fun b => (⟨b, j * bi.e, none⟩ : Addr)) (bi.cap - j) hlo hhi hl hh (by omega) h2 (by omega) ht he w'
    simp only [execOp, ho, e1, slv, Option.map_none, Sem.run_bind, this, Result.andThen_ok, Sem.run_pure]
    rw [if_neg (by omega), ← hes, show bi.cap - j - lw = bi.cap - (j + lw) by omega]
    rcases hro with ⟨q1, q2, q3, q4⟩ | ⟨b, cur, f, q1, _⟩
    · omega
    · rw [q1, Nat.add_mul]
      simp only [Option.map_some, addr_add]
end
section
variable {E : Env} {l rest : List Oper} {fr : List (Nat × AV)} {hp : List (Nat × Ob)} {nx : Nat} {o : Oper} {Q : Exit → AS → Prop} {d : Nat}
variable {cert : CT} {nr : Nat} {os ms : List Nat} {fl : Bool} {k : AS → Prop} {i : Nat} {oi : Oper}
variable {α : Type} {f : α → List CV}
theorem pCutP {t e : Nat} {sz b' : Nat} {zs : List CV} {x : Operand} {lo hi : Option Operand} {id j n : Nat} {il ih : Int} {ty : Nat} {xs : List CV} {inf : TInf} (lw h : Nat) (ho : o.op = .slice t x lo hi none)
    (hx : AS.eval ⟨fr, hp, nx⟩ x = some (.h (.sl id j n))) (ht : look t E.te = some ⟨.slice e, sz, b', zs⟩) (he : look e E.te = some inf) (hob : look id hp = some (.arr ty inf.sz xs)) (hlo : bnd ⟨fr, hp, nx⟩ 0 lo = some il) (hhi : bnd ⟨fr, hp, nx⟩ n hi = some ih)
    (hg : gdv l ⟨fr, hp, nx⟩ o = some true) (hd : o.dst = some d) (hn : Nat.blt d E.nt = true) (hl : il = (lw : Int)) (hh : ih = (h : Int)) (h1 : lw < h) (h2 : h ≤ n) (kk : AL E l rest ⟨(d, .h (.sl id (j + lw) (h - lw))) :: fr, hp, nx⟩ Q) : AL E l (o :: rest) ⟨fr, hp, nx⟩ Q :=
  al_pd (by rw [ho]; exact ps_cutP lw h E.hte hx hob hlo hhi hl hh h1 h2 ht he) hg hd hn kk
theorem dCutP {t e : Nat} {sz b' : Nat} {zs : List CV} {x : Operand} {lo hi' : Option Operand} {id j n : Nat} {il ih : Int} {ty : Nat} {xs : List CV} {inf : TInf} (lw h : Nat) (hi : nth l i = some oi) (ho : oi.op = .slice t x lo hi' none)
    (hx : AS.eval ⟨fr, hp, nx⟩ x = some (.h (.sl id j n))) (ht : look t E.te = some ⟨.slice e, sz, b', zs⟩) (he : look e E.te = some inf) (hob : look id hp = some (.arr ty inf.sz xs)) (hlo : bnd ⟨fr, hp, nx⟩ 0 lo = some il) (hhi : bnd ⟨fr, hp, nx⟩ n hi' = some ih)
    (hg : gdv l ⟨fr, hp, nx⟩ oi = some true) (hd : oi.dst = some d) (hn : Nat.blt d E.nt = true) (hl : il = (lw : Int)) (hh : ih = (h : Int)) (h1 : lw < h) (h2 : h ≤ n) (kk : AH E l cert nr os ms fl ⟨(d, .h (.sl id (j + lw) (h - lw))) :: fr, hp, nx⟩ k) : AH E l (CT.cons (i, true) cert) nr os ms fl ⟨fr, hp, nx⟩ k :=
  dPS hi (by rw [ho]; exact ps_cutP lw h E.hte hx hob hlo hhi hl hh h1 h2 ht he) hg hd hn kk
/-- A call that writes nothing of the caller's and makes one row. -/
theorem eC1 {f : FuncId} {as : List Operand} {xs ys : List AV} {rt : List Nat} {rr : AV} {ob : Ob} (hc : AC E.P f ys [] rt (fun r h => h = [ob] ∧ r = rr)) (hop : callOf ⟨fr, hp, nx⟩ o.op = some (f, as)) (hev : AS.evals ⟨fr, hp, nx⟩ as = some xs)
    (hd : o.dst = some d) (hn : Nat.blt d E.nt = true) (hT : 99 ∉ rt) (hb : BorAs hp [] 99 xs ys) :
    ES E ⟨fr, hp, nx⟩ o (some []) (fun x => x = ⟨(d, rr.ren (rho [] nx)) :: fr, (nx, ob.ren (rho [] nx)) :: hp, nx + 1⟩) :=
  es_call (ps := []) (hin := []) (T := 99) hop hev rfl rfl hb hc hT (by rw [hd]; exact hn) (by
    rintro r h ⟨rfl, rfl⟩
    rw [hd]
    rfl)
/-- append to a part of a row: both outcomes. -/
theorem eAppO {x y : Operand} {t e i n m id : Nat} {sz' b'' : Nat} {zs'' XS ys zA zB : List CV} {inf : TInf} {hp1 : List (Nat × Ob)} {vy : AV} (ho : appOf o.op = some (x, y, t)) (ht : look t E.te = some ⟨.slice e, sz', b'', zs''⟩) (he : look e E.te = some inf)
    (hx : AS.eval ⟨fr, hp, nx⟩ x = some (.h (.sl id i n))) (hy : AS.eval ⟨fr, hp, nx⟩ y = some vy) (hlk : look id hp = some (.arr e inf.sz XS)) (hsr : srcOf (del id hp) vy = some (m, ys, hp1)) (hsz : Nat.blt 0 inf.sz = true) (hd : o.dst = some d) (hn : Nat.blt d E.nt = true)
    (hlx : XS.length = (i + n) * inf.sz) (hly : ys.length = m * inf.sz) (hle : i + n + m ≤ 1099511627776) (hby : Nat.ble inf.by' 100 = true) (hn0 : 0 < n) (hm0 : 0 < m) (hzA : XS ++ ys = zA) (hzB : XS.drop (i * inf.sz) ++ ys = zB) :
    ES E ⟨fr, hp, nx⟩ o (some [id]) (fun x => x = ⟨(d, .h (.sl nx i (n + m))) :: fr, (nx, .arr e inf.sz zA) :: hp1, nx + 1⟩ ∨ x = ⟨(d, .h (.sl nx 0 (n + m))) :: fr, (nx, .arr e inf.sz zB) :: hp1, nx + 1⟩) := by
  have hb := Nat.le_of_ble_eq_true hby
  refine es_appO E.hte ho ht he hx hy hlk hsr hlx hly (by unfold maxLen; omega) ?_ hn0 hm0 hsz (by rw [hd]; exact hn) (by rw [hd, hzA]; exact .inl rfl) (by rw [hd, hzB]; exact .inr rfl)
  calc (i + n + m) * inf.by' ≤ 1099511627776 * 100 := Nat.mul_le_mul hle hb
    _ ≤ 140737488355328 := by decide
end
section
variable {E : Env} {l : List Oper} {fr : List (Nat × AV)} {hp : List (Nat × Ob)} {nx d : Nat} {cert : List (Nat × Bool)} {W : List Nat} {nr : Nat} {os ms os0 ms0 : List Nat} {early fl : Bool} {k : AS → Prop} {i : Nat} {oi : Oper}
theorem uIxR {α : Type} {f : α → List CV} {t e : Nat} {sz b' : Nat} {zs : List CV} {x ix : Operand} {tg n : Nat} {L : List α} {j : Int} {inf : TInf} (m : Nat) (hi : nth l i = some oi) (ho : oi.op = .indexAddr t x ix)
    (hx : AS.eval ⟨fr, hp, nx⟩ x = some (.h (.c (.rd tg n (rows f L))))) (hj : AS.eval ⟨fr, hp, nx⟩ ix = some (.h (.c (.int .i64 j)))) (ht : look t E.te = some ⟨.slice e, sz, b', zs⟩) (he : look e E.te = some inf)
    (hg : gdv l ⟨fr, hp, nx⟩ oi = some true) (hd : oi.dst = some d) (hn : Nat.blt d E.nt = true) (hsz : Nat.blt 0 inf.sz = true) (hf : ∀ a, (f a).length = inf.sz) (hnl : n = L.length) (hk : j = (m : Int)) (hlt : m < L.length)
    (kk : AH2 E l cert W nr os ms os0 ms0 early fl ⟨(d, .h (.rp tg (f L[m] ++ rows f (L.drop (m + 1))))) :: fr, hp, nx⟩ k) : AH2 E l ((i, true) :: cert) W nr os ms os0 ms0 early fl ⟨fr, hp, nx⟩ k := by
  obtain ⟨y, ys, h⟩ := rows_cons_at hf (by simpa using hsz) hlt
  rw [h] at kk
  exact uPS hi (by rw [ho]; exact ps_ix m E.hte hx hj hk (by omega) ht he (by rw [rows_at hf hlt, h])) hg hd hn kk
theorem uPSD {x : AV} (D : List Nat) (hi : nth l i = some oi) (h : PS E (some os0) fl ⟨fr, hp, nx⟩ oi.op x) (hg : gdv l ⟨fr, hp, nx⟩ oi = some true) (hd : oi.dst = some d) (hn : Nat.blt d E.nt = true) (hD : depOk .any l.toArray D i = true) (hW : W.all (fun j => D.contains j) = true) (hDc : D.all (fun d => d == i || cert.any (fun p => p.1 == d)) = true)
    (kk : AH2 E l cert W nr os ms os0 ms0 true fl ⟨(d, x) :: fr, hp, nx⟩ k) : AH2 E l ((i, true) :: cert) W nr os ms os0 ms0 true fl ⟨fr, hp, nx⟩ k :=
  ah2_psD D hi h hg (dok_of hd hn) hD hW hDc (by rw [hd]; exact kk)
theorem uMax {x y : Operand} {ts : Array Nat} {a b r : Int} (hi : nth l i = some oi) (ho : oi.op = .call { callee := .builtin .max, args := #[x, y], argTypes := ts }) (hx : AS.eval ⟨fr, hp, nx⟩ x = some (.h (.c (.int .i64 a)))) (hy : AS.eval ⟨fr, hp, nx⟩ y = some (.h (.c (.int .i64 b))))
    (hg : gdv l ⟨fr, hp, nx⟩ oi = some true) (hd : oi.dst = some d) (hn : Nat.blt d E.nt = true) (hr : max a b = r) (kk : AH2 E l cert W nr os ms os0 ms0 early fl ⟨(d, .h (.c (.int .i64 r))) :: fr, hp, nx⟩ k) : AH2 E l ((i, true) :: cert) W nr os ms os0 ms0 early fl ⟨fr, hp, nx⟩ k :=
  uPS hi (by rw [ho, ← hr]; exact ps_max rfl hx hy) hg hd hn kk
end
end Go.Proofs.Ythmgfgiaagkdeaa
/- The engine, part zk: freezing a row that a handle shows from a later place on. -/
namespace Go.Proofs.Ythmgfgiaagkdeaa
open Go.RowKit
attribute [local irreducible] AWP AL XT AC ES PS AH AH2
def HV.fj (id T e j : Nat) (xs ys : List CV) : HV → HV
  | .sl i o n => bif Nat.beq i id then (bif Nat.beq o j then .c (.rd T n ys) else .c (.rd T n (CV.brws T (xs.drop (o * e))))) else .sl i o n
  | x => x
def HV.fjs (id T e j : Nat) (xs ys : List CV) : List HV → List HV
  | [] => []
  | z :: zs => z.fj id T e j xs ys :: HV.fjs id T e j xs ys zs
def AV.fj (id T e j : Nat) (xs ys : List CV) : AV → AV
  | .h x => .h (x.fj id T e j xs ys)
  | .agg zs => .agg (HV.fjs id T e j xs ys zs)
  | .tup zs => .tup (AV.fjs id T e j xs ys zs)
  | .top => .top
  where AV.fjs (id T e j : Nat) (xs ys : List CV) : List AV → List AV
  | [] => []
  | z :: zs => AV.fj id T e j xs ys z :: AV.fjs id T e j xs ys zs
def Ob.fj (id T e j : Nat) (xs ys : List CV) : Ob → Ob
  | .arr ty e' zs => .arr ty e' zs
  | .box ty zs => .box ty (HV.fjs id T e j xs ys zs)
  | .hrr ty e' zs => .hrr ty e' (HV.fjs id T e j xs ys zs)
def fjF (id T e j : Nat) (xs ys : List CV) : List (Nat × AV) → List (Nat × AV)
  | [] => []
  | (d, x) :: r => (d, x.fj id T e j xs ys) :: fjF id T e j xs ys r
def fjO (id T e j : Nat) (xs ys : List CV) : List (Nat × Ob) → List (Nat × Ob)
  | [] => []
  | (d, x) :: r => (d, x.fj id T e j xs ys) :: fjO id T e j xs ys r
section
variable {id T e j : Nat} {xs ys : List CV} (hb : CV.brws T (xs.drop (j * e)) = ys)
include hb
theorem HV.fj_eq (x : HV) : x.frz id T e xs = x.fj id T e j xs ys := by
  cases x with
  | sl i o n =>
    simp only [HV.frz, HV.fj]
    cases Nat.beq i id with
    | false => rfl
    | true =>
      simp only [cond_true]
      cases h : Nat.beq o j with
      | false => rfl
      | true =>
        have := Nat.eq_of_beq_eq_true h
        subst this
        simp only [cond_true, hb]
  | _ => rfl
theorem HV.fjs_eq : ∀ zs : List HV, HV.frzs id T e xs zs = HV.fjs id T e j xs ys zs
  | [] => rfl
  | z :: zs => by simp only [HV.frzs, HV.fjs, HV.fj_eq hb, HV.fjs_eq zs]
mutual
theorem AV.fj_eq : ∀ x : AV, x.frz id T e xs = x.fj id T e j xs ys
  | .h x => by simp only [AV.frz, AV.fj, HV.fj_eq hb]
  | .agg zs => by simp only [AV.frz, AV.fj, HV.fjs_eq hb]
  | .tup zs => by simp only [AV.frz, AV.fj, AV.fjs_eq zs]
  | .top => by simp only [AV.frz, AV.fj]
theorem AV.fjs_eq : ∀ zs : List AV, AV.frzs id T e xs zs = AV.fj.AV.fjs id T e j xs ys zs
  | [] => by have := hb; simp only [AV.frzs, AV.fj.AV.fjs]
  | z :: zs => by simp only [AV.frzs, AV.fj.AV.fjs, AV.fj_eq z, AV.fjs_eq zs]
end
theorem fjF_eq : ∀ fr : List (Nat × AV), frzF id T e xs fr = fjF id T e j xs ys fr
  | [] => rfl
  | (d, x) :: r => by simp only [frzF, fjF, AV.fj_eq hb, fjF_eq r]
theorem fjO_eq : ∀ hp : List (Nat × Ob), frzO id T e xs hp = fjO id T e j xs ys hp
  | [] => rfl
  | (d, x) :: r => by
    have : x.frz id T e xs = x.fj id T e j xs ys := by
      cases x with
      | arr => rfl
      | box ty zs => simp only [Ob.frz, Ob.fj, HV.fjs_eq hb]
      | hrr ty e' zs => simp only [Ob.frz, Ob.fj, HV.fjs_eq hb]
    simp only [frzO, fjO, this, fjO_eq r]
end
section
variable {E : Env} {l rest : List Oper} {fr : List (Nat × AV)} {hp : List (Nat × Ob)} {nx : Nat} {Q : Exit → AS → Prop}
theorem al_frzJ (id T j : Nat) (ys : List CV) (hT : Nat.ble 100 T = true) {ty e : Nat} {xs : List CV} (hl : look id hp = some (.arr ty e xs)) (hb : CV.brws T (xs.drop (j * e)) = ys) (kk : AL E l rest ⟨fjF id T e j xs ys fr, fjO id T e j xs ys (del id hp), nx⟩ Q) : AL E l rest ⟨fr, hp, nx⟩ Q := by
  refine al_freeze id T hT hl ?_
  rw [fjF_eq hb, fjO_eq hb]
  exact kk
end
end Go.Proofs.Ythmgfgiaagkdeaa
/- The engine, part zl: rows after stores of many cells; 'copy' into a row of the call's own. -/
namespace Go.Proofs.Ythmgfgiaagkdeaa
open Go.RowKit
theorem setCells_row (b : Nat) : ∀ (vs : List Value) (o : Nat) (w : World) (cur : Array Value) (ty : TypeId), w.heap[b]? = some (.cells cur ty (0, 0)) →
    ∃ cur' : Array Value, (w.setCells b o vs).heap[b]? = some (.cells cur' ty (0, 0)) ∧ cur'.size = cur.size ∧ (∀ c, c ≠ b → (w.setCells b o vs).heap[c]? = w.heap[c]?) ∧ (w.setCells b o vs).heap.size = w.heap.size ∧
      (w.setCells b o vs).os = w.os ∧ (w.setCells b o vs).tape = w.tape ∧ (w.setCells b o vs).output = w.output
  | [], _, w, cur, ty, h => ⟨cur, h, rfl, fun _ _ => rfl, rfl, rfl, rfl, rfl⟩
  | v :: r, o, w, cur, ty, h => by
    have h1 : (w.setCell ⟨b, o, none⟩ v).heap[b]? = some (.cells (cur.setIfInBounds o v) ty (0, 0)) := by
      simp [World.setCell, Array.getElem?_modify, h]
    obtain ⟨cur', h2, h3, h4, h5, h6, h7, h8⟩ := setCells_row b r (o + 1) _ _ ty h1
    refine ⟨cur', h2, by rw [h3]; simp, fun c hc => (h4 c hc).trans ?_, h5.trans (by simp [World.setCell]), h6, h7, h8⟩
    simp [World.setCell, Array.getElem?_modify, Ne.symm hc]
/-- From w to w' the row at b alone has changed, not its size. -/
structure Put (w w' : World) (b : Nat) (ty : TypeId) (k : Nat) : Prop where
  os : w'.os = w.os
  tape : w'.tape = w.tape
  output : w'.output = w.output
  size : w'.heap.size = w.heap.size
  same : ∀ c, c ≠ b → w'.heap[c]? = w.heap[c]?
  row : ∃ cur : Array Value, w'.heap[b]? = some (.cells cur ty (0, 0)) ∧ cur.size = k
theorem Put.set {w w' : World} {b : Nat} {ty : TypeId} {k : Nat} (h : Put w w' b ty k) (o : Nat) (vs : List Value) : Put w (w'.setCells b o vs) b ty k := by
  obtain ⟨cur, h1, h2⟩ := h.row
  obtain ⟨cur', h3, h4, h5, h6, h7, h8, h9⟩ := setCells_row b vs o w' cur ty h1
  exact ⟨h7.trans h.os, h8.trans h.tape, h9.trans h.output, h6.trans h.size, fun c hc => (h5 c hc).trans (h.same c hc), cur', h3, h4.trans h2⟩
theorem Put.drew {w w' : World} {b : Nat} {ty : TypeId} {k : Nat} (h : Put w w' b ty k) : Put w w'.drew b ty k := ⟨h.os, h.tape, h.output, h.size, h.same, h.row⟩
theorem Put.start {w : World} {b : Nat} {ty : TypeId} {cur : Array Value} (h : w.heap[b]? = some (.cells cur ty (0, 0))) : Put w w b ty cur.size := ⟨rfl, rfl, rfl, rfl, fun _ _ => rfl, cur, h, rfl⟩
theorem upd_same {α : Type} {t : Nat} {x : α} {l : List (Nat × α)} (h : look t l = some x) : upd t x l = l := by
  obtain ⟨l1, l2, h1, h2, _⟩ := look_split h
  rw [h2, ← h1]
section
variable {E : Env} {te : TE} {s : AS} {o : Oper} {Q : AS → Prop}
def cpyOf : Op → Option (Operand × Operand × Nat)
  | .call c => match c.callee with
    | .builtin .copy => match c.args.toList, c.argTypes.toList with
      | [x, y], [t, t'] => bif Nat.beq t t' then some (x, y, t) else none
      | _, _ => none
    | _ => none
  | _ => none
/-- copy(x, y): x a part of a row of the call's own, y a slice that is only read. -/
theorem es_cpy {x y : Operand} {t e tg id i m n : Nat} {sz' b'' : Nat} {zs'' cs ys : List CV} {ty : Nat} {inf : TInf} (hte : teOk E.P te = true) (hop : cpyOf o.op = some (x, y, t)) (ht : look t te = some ⟨.slice e, sz', b'', zs''⟩) (he : look e te = some inf) (hsz : inf.sz = 1)
    (hx : s.eval x = some (.h (.sl id i m))) (hy : s.eval y = some (.h (.c (.rd tg n ys)))) (hl : look id s.hp = some (.arr ty 1 cs)) (hn : ys.length = n) (hnm : n ≤ m) (hle : i + n ≤ cs.length) (hd : dok E.nt o.dst = true)
    (hQ : Q (({ s with hp := upd id (.arr ty 1 (setL cs i ys)) s.hp } : AS).putd o.dst (.h (.c (.int .i64 n))))) : ES E s o (some [id]) Q := by
  intro g im a w K QQ ⟨fps, hs⟩ hK
  have hp := hs.eval hx
  simp only [RA, RH] at hp
  obtain ⟨_, bi, hg, hicap, hcapm, e1⟩ := hp
  have hyr := hs.eval hy
  simp only [RA, RH, R] at hyr
  obtain ⟨_, A, c, e2, hnc, hcm, hsrc⟩ := hyr
  have hu := slice_und hte ht
  obtain ⟨⟨ti, z, i1, i2, _, _, _, _⟩, _⟩ := teOk_look hte he
  have hs1 : (E.P.info? e).map (·.size) = some 1 := by rw [i1, ← hsz, ← i2]; rfl
  have hexec : ∀ v' w', (Builtin.copy_ #[t, t] o.type #[a.eval x, a.eval y]).run E.P w = .ok v' w' → (execOp a.eval o).run E.P w = .ok (.value v') w' := by
    intro v' w' hrun
    unfold cpyOf at hop
    split at hop
    · rename_i c' ho
      split at hop
      · rename_i hc
        split at hop
        · rename_i x' y' t1 t2 hargs htys
          cases hbt : Nat.beq t1 t2 with
          | false => rw [hbt] at hop; simp at hop
          | true =>
            rw [hbt] at hop
            simp only [cond_true, Option.some.injEq, Prod.mk.injEq] at hop
            obtain ⟨rfl, rfl, rfl⟩ := hop
            obtain rfl : t1 = t2 := Nat.eq_of_beq_eq_true hbt
            have ha : ∀ {α : Type} {l : Array α} {l' : List α}, l.toList = l' → l = l'.toArray := fun h => by rw [← h]
            simp only [execOp, ho, resolve, hc, ha hargs, ha htys, invoke, builtin, Sem.run_bind, Sem.run_pure, Result.andThen_ok, List.map_toArray, List.map_cons, List.map_nil, hrun]
        · cases hop
      · cases hop
    · cases hop
  by_cases hys : ys = []
  · subst hys
    obtain rfl : n = 0 := by simpa using hn.symm
    have hset : setL cs i ([] : List CV) = cs := by simp [setL]
    rw [hset, upd_same hl] at hQ
    have hrun := run_copy_none (P := E.P) w t t o.type e (bi.a.map fun b => ⟨b, i * bi.e, none⟩) A m (bi.cap - i) 0 c hu hs1 (by simp)
    unfold Oper.wp
    rw [hexec _ _ (by rw [e1, e2]; exact hrun)]
    exact hK g im _ _ w _ ⟨fps, hs.putd (dok_lt hd) (RA_mkInt _ _)⟩ hQ (Chg.refl g im w hs.gn) fun _ _ _ h => h.elim
  · obtain ⟨sb, so, rfl, himb, hrl⟩ : ∃ b o, A = some ⟨b, o, none⟩ ∧ im tg b ∧ RL im w b ys o [] := by
      rcases hsrc with h | h
      · exact absurd h hys
      · exact h
    obtain ⟨us, hus, huc⟩ := RL_RHs (g := g) _ _ _ hrl
    have hul := RHs_length _ _ _ hus
    rw [List.length_map] at hul
    have hn0 : 0 < n := by
      cases ys with
      | nil => exact absurd rfl hys
      | cons y r => simp at hn; omega
    obtain ⟨bi', f1, f2, f3, hg', hf, hro⟩ := look_HR hs.hp hl
    obtain rfl : bi = bi' := by rw [hg] at hg'; exact Option.some.inj hg'
    obtain ⟨q1, q2, ⟨_, q3, _⟩ | ⟨b, cur, f, hb, rfl, hh, hcap, hr⟩⟩ := hro
    · subst q3; simp at hle; omega
    obtain ⟨us0, hr0, hc0⟩ := RL_RHs (g := g) _ _ _ hr
    have hl0 := RHs_length _ _ _ hr0
    rw [List.length_map] at hl0
    rw [q2, Nat.mul_one] at e1
    simp only [slv, hb, Option.map_some] at e1
    have hsome : ∀ k, k < cur.size → (w.cell? ⟨b, k, none⟩).isSome = true := fun k hk => by rw [cell_of_row w b k cur ty (0, 0) hh, Array.getElem?_eq_getElem hk]; rfl
    have hcur : cs.length ≤ cur.size := by
      rcases Nat.lt_or_ge cur.size cs.length with h | h
      · exfalso
        have hj : cur.size < us0.length := by rw [hl0]; exact h
        have := hc0 _ _ (List.getElem?_eq_getElem hj)
        rw [Nat.zero_add, cell_of_row w b _ cur ty (0, 0) hh, Array.getElem?_eq_none (Nat.le_refl _)] at this
        cases this
      · exact h
    have hrun := run_copy_cells (P := E.P) w t t o.type e b i m (bi.cap - i) ⟨sb, so, none⟩ n c us hu hs1 (by rw [hul, hn]; exact (Nat.min_eq_left hnm).symm) (fun j v hj => by rw [addr_add]; exact huc j v hj) (fun j hj => hsome _ (by omega)) (fun j _ => frozen_of_row w b _ cur ty hh) (RHs_one _ _ _ hus)
    have hput := (Put.start hh).set i us
    have hbf : b ∈ fps := by rw [hf]; exact List.mem_append_right _ (List.mem_append_left _ List.mem_cons_self)
    obtain ⟨fps', hsim⟩ := hs.upd (ob' := .arr ty 1 (setL cs i ys)) hl hg hb hput.same hput.size hput.os hput.tape hput.output (fun f0 hro0 hf0 hnd0 => by
      obtain ⟨q4, q5, ⟨q6, _⟩ | ⟨b0, cur0, f4, hb0, rfl, hh0, hcap0, hr1⟩⟩ := hro0
      · rw [q6] at hb; cases hb
      obtain rfl : b = b0 := by rw [hb] at hb0; exact Option.some.inj hb0
      rw [hh] at hh0
      injection hh0 with hh0
      injection hh0 with hh0
      subst hh0
      obtain ⟨us1, hr2, hc2⟩ := RL_RHs (g := g) _ _ _ hr1
      have hl2 := RHs_length _ _ _ hr2
      rw [List.length_map] at hl2
      obtain ⟨f', hsl, hr'⟩ := RHs_setL (o := i) hr2 hus
      rw [← setL_map] at hr'
      have hr3 := RHs_mono (w' := w.setCells b i us) (fun _ _ h => h) (fun t c hc => ⟨hc, hput.same c fun e => by subst e; exact (hf0 c List.mem_cons_self).2 t hc⟩) _ _ _ (fun c hc => hput.same c fun e => by subst e; exact (List.nodup_cons.1 hnd0).1 (hsl.subset hc)) hr'
      obtain ⟨cur', hc', hs'⟩ := hput.row
      refine ⟨b :: f', List.Sublist.cons_cons _ hsl, q4, q5, .inr ⟨b, cur', f', hb, rfl, hc', hs'.trans hcap0, RHs_RL _ _ _ _ hr3 fun j u hj => ?_⟩⟩
      rw [Nat.zero_add]
      have e3 := setL_get us1 us i (by omega) j
      unfold setL at e3
      rw [List.append_assoc, e3] at hj
      by_cases h1 : j < i
      · rw [if_pos h1] at hj
        rw [World.cell?_setCells_out b _ _ _ _ (fun _ _ => .inl h1)]
        have := hc2 j u hj
        rwa [Nat.zero_add] at this
      · rw [if_neg h1] at hj
        by_cases h2 : j < i + us.length
        · rw [if_pos h2] at hj
          have h3 := World.cell?_setCells_in b us i w (fun k hk => hsome _ (by omega)) (j - i) (by omega)
          rw [show i + (j - i) = j by omega] at h3
          rw [h3]
          rw [List.getElem?_eq_getElem (by omega)] at hj
          exact hj
        · rw [if_neg h2] at hj
          rw [World.cell?_setCells_out b _ _ _ _ (fun _ _ => .inr (by show i + us.length ≤ j; omega))]
          have := hc2 j u hj
          rwa [Nat.zero_add] at this)
    unfold Oper.wp
    rw [hexec _ _ (by rw [e1, e2]; exact hrun)]
    refine hK g im _ _ _ (· = b) ⟨fps', hsim.putd (dok_lt hd) (by rw [hul, hn]; exact RA_mkInt _ _)⟩ hQ (Chg.upd hs (fun t => hs.ni b hbf t) hput.same hput.size) ?_
    rintro m hm c rfl
    injection hm with hm
    subst hm
    exact ⟨id, List.mem_cons_self, bi, hg, hb⟩
end
section
variable {E : Env} {l rest : List Oper} {fr : List (Nat × AV)} {hp : List (Nat × Ob)} {nx : Nat} {o : Oper} {Q : Exit → AS → Prop} {d : Nat}
theorem eCpy {x y : Operand} {t e tg id i m n : Nat} {sz' b'' : Nat} {zs'' cs ys zs : List CV} {ty : Nat} {inf : TInf} (ho : cpyOf o.op = some (x, y, t)) (ht : look t E.te = some ⟨.slice e, sz', b'', zs''⟩) (he : look e E.te = some inf) (hsz : inf.sz = 1)
    (hx : AS.eval ⟨fr, hp, nx⟩ x = some (.h (.sl id i m))) (hy : AS.eval ⟨fr, hp, nx⟩ y = some (.h (.c (.rd tg n ys)))) (hl : look id hp = some (.arr ty 1 cs)) (hd : o.dst = some d) (hnb : Nat.blt d E.nt = true) (hn : ys.length = n) (hnm : n ≤ m) (hle : i + n ≤ cs.length) (hz : setL cs i ys = zs) :
    ES E ⟨fr, hp, nx⟩ o (some [id]) (fun x => x = ⟨(d, .h (.c (.int .i64 n))) :: fr, upd id (.arr ty 1 zs) hp, nx⟩) :=
  es_same (es_cpy E.hte ho ht he hsz hx hy hl hn hnm hle (dok_of hd hnb) rfl) (by rw [hd, hz]; rfl)
/-- A part of a row is lent. -/
theorem bor_part {rest : List (Nat × Ob)} {ps : List Nat} {T id i n m ty : Nat} {xs ys : List CV} (hl : look id rest = some (.arr ty 1 xs)) (hp : Plain ys) (he : (xs.drop i).take m = ys) : BorH rest ps T (.sl id i n) (.c (.rd T n ys)) :=
  .inr ⟨ty, 1, xs, ys, m, hl, by rw [Nat.mul_one, he]; exact hp T, rfl⟩
end
end Go.Proofs.Ythmgfgiaagkdeaa
