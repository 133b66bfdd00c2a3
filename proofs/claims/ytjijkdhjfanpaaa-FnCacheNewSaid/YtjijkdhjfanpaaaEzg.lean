/- The engine, part zg: append to a part of a row; the greater of two numbers; rows of rows. -/
import Derived.Test.YtjijkdhjfanpaaaEzf
import Derived.Deep.AppendSrc
namespace Go.Proofs.Ytjijkdhjfanpaaa
open Go.RowKit
attribute [local irreducible] AWP AL XT AC AH AH2
set_option maxHeartbeats 1000000 in
theorem app_tail {E : Env} {g : Ga} {im : Im} {fps : List Nat} {s : AS} {a : Act} {w : World} (hs : SimF E g im fps s a w) {e n m : Nat} {inf : TInf} {xs ys : List CV} {us ns : List Value} {fx fr f0 fy f1 : List Nat} {hp1 : List (Nat × Ob)} {V V' : Value} {w' : World}
    (hrx : RHs g im w (xs.map HV.c) us fx) (hn0 : (fr ++ f0).Nodup) (hs0 : ∀ b ∈ fr ++ f0, b ∈ fps) (hfx : fx.Sublist fr) (hob : ∀ b, V.ownBlock = some b → fr = b :: fx)
    (hry : RHs g im w (ys.map HV.c) ns fy) (hh1 : HR g im w hp1 f1) (hn1 : (fy ++ f1).Nodup) (hs1 : ∀ b ∈ fy ++ f1, b ∈ f0)
    (hlx : xs.length = n * inf.sz) (hly : ys.length = m * inf.sz)
    (hown' : w'.ownsRow 0 e inf.sz V' (n + m) (us ++ ns)) (hgb : w.grownBy w' V.ownBlock) (hblk : V'.ownBlock = V.ownBlock ∨ V'.ownBlock = some w.heap.size) :
    ∃ bi f', bi.e = inf.sz ∧ n + m ≤ bi.cap ∧ bi.cap ≤ maxLen ∧ V' = slv bi.a (0 * bi.e) (n + m) (bi.cap - 0) ∧ SimF E (gup g s.nx bi) im (f' ++ f1) { fr := s.fr, hp := (s.nx, .arr e inf.sz (xs ++ ys)) :: hp1, nx := s.nx + 1 } a w' ∧ Chg g (gup g s.nx bi) im im w w' s.nx (fun b => V.ownBlock = some b) := by
  -- the new object
  have hdis := (List.nodup_append.1 hn0).2.2
  have hfr : ∀ b ∈ fr, b ∈ fps := fun b hb => hs0 b (List.mem_append_left _ hb)
  have hf1 : ∀ b ∈ fy ++ f1, b ∈ fps := fun b hb => hs0 b (List.mem_append_right _ (hs1 b hb))
  have hk : ∀ b, b < w.heap.size → V.ownBlock ≠ some b → w'.heap[b]? = w.heap[b]? := fun b h1 h2 => hgb.block b h1 (fun e => h2 e.symm)
  have hob1 : ∀ b, V.ownBlock = some b → b ∈ fr := fun b h => by rw [hob b h]; exact List.mem_cons_self
  have hnfr := (List.nodup_append.1 hn0).1
  have hxk : ∀ b ∈ fx, w'.heap[b]? = w.heap[b]? := fun b hb => hk b (hs.lt b (hfr b (hfx.subset hb))) fun e => by
    rw [hob b e, List.nodup_cons] at hnfr
    exact hnfr.1 hb
  have hyk : ∀ b ∈ fy, w'.heap[b]? = w.heap[b]? := fun b hb => hk b (hs.lt b (hf1 b (List.mem_append_left _ hb))) fun e => hdis b (hob1 b e) b (hs1 b (List.mem_append_left _ hb)) rfl
  have hik : ∀ t b, im t b → im t b ∧ w'.heap[b]? = w.heap[b]? := fun t b h => ⟨h, hk b (hs.il t b h) fun e => hs.ni b (hfr b (hob1 b e)) t h⟩
  have hrx' := RHs_mono (fun _ _ h => h) hik _ _ _ hxk hrx
  have hry' := RHs_mono (fun _ _ h => h) hik _ _ _ hyk hry
  have hall : RHs g im w' ((xs ++ ys).map HV.c) (us ++ ns) (fx ++ fy) := by rw [List.map_append]; exact RHs_append _ _ _ _ _ _ hrx' hry'
  have hnxy : (fx ++ fy).Nodup := by
    rw [List.nodup_append]
    exact ⟨hnfr.sublist hfx, (List.nodup_append.1 hn1).1, fun a ha b hb e => hdis a (hfx.subset ha) b (hs1 b (List.mem_append_left _ hb)) e⟩
  -- which block
  have hbix : ∃ bi : BI, bi.ty = e ∧ bi.e = inf.sz ∧ n + m ≤ bi.cap ∧ bi.cap ≤ maxLen ∧ V' = slv bi.a (0 * bi.e) (n + m) (bi.cap - 0) ∧ bi.a = V'.ownBlock ∧
      ((bi.a = none ∧ xs ++ ys = [] ∧ bi.cap = 0 ∧ fx ++ fy = []) ∨ ∃ b cur, bi.a = some b ∧ w'.heap[b]? = some (.cells cur e (0, 0)) ∧ cur.size = bi.cap * inf.sz ∧ RL im w' b (xs ++ ys) 0 (fx ++ fy)) := by
    obtain ⟨h1, ⟨rfl, h2⟩ | ⟨b, cap, cur, rfl, _, h3, h4, h5, h6, h7⟩⟩ := hown'
    · refine ⟨⟨none, 0, e, inf.sz⟩, rfl, rfl, by simp; omega, Nat.zero_le _, by rw [h2]; rfl, rfl, .inl ⟨rfl, ?_, rfl, ?_⟩⟩
      · have : (xs ++ ys).length = 0 := by
          rw [List.length_append, hlx, hly]
          have hn0' : n = 0 := by omega
          have hm0' : m = 0 := by omega
          rw [hn0', hm0']
          simp
        exact List.eq_nil_of_length_eq_zero this
      · have e0 : us ++ ns = [] := List.eq_nil_of_length_eq_zero (by rw [h1, h2, Nat.zero_mul])
        have : (xs ++ ys).map HV.c = [] := by
          have := RHs_length _ _ _ hall
          rw [e0] at this
          exact List.eq_nil_of_length_eq_zero this.symm
        rw [this, e0] at hall
        exact hall.2
    · refine ⟨⟨some b, cap, e, inf.sz⟩, rfl, rfl, h4, h5, by simp [slv], rfl, .inr ⟨b, cur, rfl, h3, h6, RHs_RL _ _ 0 _ hall fun j u hj => ?_⟩⟩
      rw [Nat.zero_add, cell_of_row w' b j cur e (0, 0) h3, ← Array.getElem?_toList]
      rw [← h7, List.getElem?_take] at hj
      split at hj
      · exact hj
      · cases hj
  obtain ⟨bi, hty, hes, hcap, hmx, hv', hba, hro⟩ := hbix
  have hszle := hgb.size
  have hblt : ∀ b, bi.a = some b → b < w'.heap.size := by
    intro b hb
    rcases hro with ⟨h, _⟩ | ⟨b', cur, h1, h2, _⟩
    · rw [hb] at h; cases h
    · rw [hb] at h1
      injection h1 with h1
      subst h1
      exact (Array.getElem?_eq_some_iff.1 h2).1
  have hwhere : ∀ b, bi.a = some b → V.ownBlock = some b ∨ w.heap.size = b := by
    intro b hb
    rw [hba] at hb
    rcases hblk with h | h
    · left; rw [← h]; exact hb
    · right; rw [h] at hb; injection hb
  -- the footprint
  have hperm : ∀ c ∈ (fr ++ fy) ++ f1, c ∈ fps := by
    intro c hc
    rcases List.mem_append.1 hc with hc | hc
    · rcases List.mem_append.1 hc with hc | hc
      · exact hfr c hc
      · exact hf1 c (List.mem_append_left _ hc)
    · exact hf1 c (List.mem_append_right _ hc)
  have hnn : ((fr ++ fy) ++ f1).Nodup := by
    rw [List.append_assoc, List.nodup_append]
    exact ⟨hnfr, hn1, fun a ha b hb e => hdis a ha b (hs1 b hb) e⟩
  let f' : List Nat := match bi.a with | some b => b :: (fx ++ fy) | none => []
  have hro' : RO (gup g s.nx bi) im w' bi (.arr e inf.sz (xs ++ ys)) f' := by
    refine ⟨hty, hes, ?_⟩
    rcases hro with ⟨h1, h2, h3, h4⟩ | ⟨b, cur, h1, h2, h3, h4⟩
    · left; exact ⟨h1, h2, h3, by simp only [f', h1]⟩
    · right; exact ⟨b, cur, fx ++ fy, h1, by simp only [f', h1], h2, h3, h4⟩
  have hnf' : f'.Nodup := by
    simp only [f']
    split
    · rename_i b hb
      rw [List.nodup_cons]
      refine ⟨fun hm => ?_, hnxy⟩
      rcases hwhere b hb with h | h
      · rcases List.mem_append.1 hm with hm | hm
        · rw [hob b h, List.nodup_cons] at hnfr
          exact hnfr.1 hm
        · exact hdis b (hob1 b h) b (hs1 b (List.mem_append_left _ hm)) rfl
      · rcases List.mem_append.1 hm with hm | hm
        · have := hs.lt b (hfr b (hfx.subset hm)); omega
        · have := hs.lt b (hf1 b (List.mem_append_left _ hm)); omega
    · exact List.nodup_nil
  have hf'm : ∀ c ∈ f', c ∈ fr ++ fy ∨ w.heap.size ≤ c := by
    intro c hc
    simp only [f'] at hc
    split at hc
    · rename_i b hb
      rcases List.mem_cons.1 hc with rfl | hc
      · rcases hwhere _ hb with h | h
        · exact .inl (List.mem_append_left _ (hob1 _ h))
        · exact .inr (by omega)
      · rcases List.mem_append.1 hc with hc | hc
        · exact .inl (List.mem_append_left _ (hfx.subset hc))
        · exact .inl (List.mem_append_right _ hc)
    · cases hc
  have hf'l : ∀ c ∈ f', c < w'.heap.size := by
    intro c hc
    rcases hf'm c hc with h | h
    · have := hs.lt c (hperm c (List.mem_append_left _ h)); omega
    · simp only [f'] at hc
      split at hc
      · rename_i b hb
        rcases List.mem_cons.1 hc with rfl | hc
        · exact hblt _ hb
        · rcases List.mem_append.1 hc with hc | hc
          · have := hs.lt c (hfr c (hfx.subset hc)); omega
          · have := hs.lt c (hf1 c (List.mem_append_left _ hc)); omega
      · cases hc
  have hsim := hs.swap (fr := fr ++ fy) (f' := f') (w' := w') hh1 hnn hperm bi (.arr e inf.sz (xs ++ ys)) (fun b h1 h2 => hk b h1 fun e => h2 (List.mem_append_left _ (hob1 b e))) hszle hgb.os hgb.tape hgb.output hnf' hf'm hf'l hblt hro'
  refine ⟨bi, f', hes, hcap, hmx, hv', hsim, Chg.swap hs.gn (fun b hb => ?_) (fun b hb t => hs.ni b (hfr b (hob1 b hb)) t) (fun b hb => ?_) hszle⟩
  · rcases hwhere b hb with h | h
    · exact .inr h
    · exact .inl (by omega)
  · by_cases h : V.ownBlock = some b
    · exact .inl h
    · exact .inr (hk b hb h)
section
variable {E : Env} {te : TE} {s : AS} {o : Oper} {Q : AS → Prop}
/-- append to a part of a row of the call's own: in its place, or in a new one. -/
theorem es_appO {x y : Operand} {t e i n m id : Nat} {sz' b'' : Nat} {zs'' XS ys : List CV} {inf : TInf} {hp1 : List (Nat × Ob)} {vy : AV} (hte : teOk E.P te = true) (hop : appOf o.op = some (x, y, t)) (ht : look t te = some ⟨.slice e, sz', b'', zs''⟩) (he : look e te = some inf)
    (hx : s.eval x = some (.h (.sl id i n))) (hy : s.eval y = some vy) (hlk : look id s.hp = some (.arr e inf.sz XS)) (hsr : srcOf (del id s.hp) vy = some (m, ys, hp1)) (hlx : XS.length = (i + n) * inf.sz) (hly : ys.length = m * inf.sz) (h63 : i + n + m ≤ maxLen) (hbytes : (i + n + m) * inf.by' ≤ 140737488355328)
    (hn0 : 0 < n) (hm0 : 0 < m) (hsz : Nat.blt 0 inf.sz = true) (hd : dok E.nt o.dst = true)
    (hA : Q (({ fr := s.fr, hp := (s.nx, .arr e inf.sz (XS ++ ys)) :: hp1, nx := s.nx + 1 } : AS).putd o.dst (.h (.sl s.nx i (n + m)))))
    (hB : Q (({ fr := s.fr, hp := (s.nx, .arr e inf.sz (XS.drop (i * inf.sz) ++ ys)) :: hp1, nx := s.nx + 1 } : AS).putd o.dst (.h (.sl s.nx 0 (n + m))))) : ES E s o (some [id]) Q := by
  intro g im a w K QQ ⟨fps, hs⟩ hK
  have hsz' : 0 < inf.sz := Nat.lt_of_succ_le (Nat.le_of_ble_eq_true hsz)
  have hvx := hs.eval hx
  simp only [RA, RH] at hvx
  obtain ⟨_, bi0, hg0, hcx, hcm, ex⟩ := hvx
  have hv0 : RA g im w (.h (.sl id 0 (i + n))) (slv bi0.a 0 (i + n) bi0.cap) [] := by
    simp only [RA, RH]
    exact ⟨trivial, bi0, hg0, by omega, hcm, by simp⟩
  obtain ⟨us, fx, fr, f0, hown, hrx, hh0, hnd0, hs0, hfx, hob, hob'⟩ := base_sound (s := s) hs (ty := e) (e := inf.sz) (n := i + n) (xs := XS) (hp0 := del id s.hp) (md := [id]) (x := .h (.sl id 0 (i + n))) (by simp [baseOf, hlk]) hlx hv0
  obtain ⟨A, c, ns, fy, f1, e2, hnl, hry, hh1, hn1, hs1, hAd, hmz⟩ := src_sound hh0 (List.nodup_append.1 hnd0).2.1 hsz' hsr hly (hs.eval hy)
  obtain ⟨ad, rfl, hcell⟩ : ∃ ad, A = some ad ∧ ∀ j u, ns[j]? = some u → w.cell? (ad.add j) = some u := by
    rcases hAd with ⟨_, h, _⟩ | h
    · omega
    · exact h
  have h1n := RHs_one _ _ _ hry
  have hu := slice_und hte ht
  obtain ⟨⟨ti, z, h2, h3, h4, h5, h6, h7⟩, h8⟩ := teOk_look hte he
  have hsrc : Src E.P ti.size t (a.eval y) m ns w := by rw [e2, h3]; exact Src.ofSlice w hu ad m c ns hnl hcell h1n
  have husl : us.length = (i + n) * inf.sz := by have := hown.1; exact this
  obtain ⟨b, cur, hba, hheap, hcur⟩ : ∃ b cur, bi0.a = some b ∧ w.heap[b]? = some (.cells cur e (0, 0)) ∧ cur.size = bi0.cap * inf.sz ∧ cur.toList.take ((i + n) * inf.sz) = us := by
    rcases hown.2 with ⟨h, h'⟩ | ⟨gb, cap, cur, h, _, h9, h10, h11, h12, h13⟩
    · omega
    · cases hba : bi0.a with
      | none => rw [hba] at h; simp [slv] at h
      | some b =>
        rw [hba] at h
        simp only [slv, Option.map_some, Value.slice.injEq, Option.some.injEq] at h
        obtain ⟨h14, _, h15⟩ := h
        injection h14 with h14
        subst h14 h15
        exact ⟨b, cur, rfl, h9, h12, h13⟩
  obtain ⟨hcur, htake⟩ := hcur
  obtain ⟨_, q2, q3⟩ : True ∧ bi0.e = inf.sz ∧ True := by
    obtain ⟨bi', fa, fb, fc, hg', hf, hro⟩ := look_HR hs.hp hlk
    obtain rfl : bi0 = bi' := by rw [hg0] at hg'; exact Option.some.inj hg'
    exact ⟨trivial, hro.2.1, trivial⟩
  rw [hba, q2] at ex
  simp only [slv, Option.map_some] at ex
  have hexec : ∀ v' w', (Builtin.append_ #[t, t] o.type #[a.eval x, a.eval y]).run E.P w = .ok v' w' → (execOp a.eval o).run E.P w = .ok (.value v') w' := by
    intro v' w' hrun
    unfold appOf at hop
    split at hop
    · rename_i c' ho
      split at hop
      · rename_i hc
        split at hop
        · rename_i x' y' t1 t2 hargs htys
          cases hbt : Nat.beq t1 t2 with
          | false => rw [hbt] at hop; simp at hop
          | true =>
            rw [hbt] at hop
            simp only [cond_true, Option.some.injEq, Prod.mk.injEq] at hop
            obtain ⟨rfl, rfl, rfl⟩ := hop
            obtain rfl : t1 = t2 := Nat.eq_of_beq_eq_true hbt
            have ha : ∀ {α : Type} {l : Array α} {l' : List α}, l.toList = l' → l = l'.toArray := fun h => by rw [← h]
            simp only [execOp, ho, resolve, hc, ha hargs, ha htys, invoke, builtin, Sem.run_bind, Sem.run_pure, Result.andThen_ok, List.map_toArray, List.map_cons, List.map_nil, hrun]
        · cases hop
      · cases hop
    · cases hop
  have hcellsz : ∀ k, k < cur.size → (w.cell? ⟨b, k, none⟩).isSome = true := fun k hk => by rw [cell_of_row w b k cur e (0, 0) hheap, Array.getElem?_eq_getElem hk]; rfl
  by_cases hroom : n + m ≤ bi0.cap - i
  · -- there is room
    have hcap : i + n + m ≤ bi0.cap := by omega
    have hb1 : (i + n) * inf.sz + ns.length ≤ cur.size := by rw [hnl, hcur, ← Nat.add_mul]; exact Nat.mul_le_mul_right _ hcap
    have r1 := run_append_room_src w t t o.type e ti hu h2 b (i * inf.sz) n (bi0.cap - i) (a.eval y) m ns hsrc hroom (fun j hj => hcellsz _ (by rw [h3, ← Nat.add_mul]; omega)) (fun j hj => frozen_of_row w b _ cur e hheap)
    have r2 := run_append_room_src w t t o.type e ti hu h2 b 0 (i + n) bi0.cap (a.eval y) m ns hsrc hcap (fun j hj => hcellsz _ (by rw [h3]; omega)) (fun j hj => frozen_of_row w b _ cur e hheap)
    rw [h3, ← Nat.add_mul] at r1
    rw [h3, Nat.zero_add] at r2
    obtain ⟨V', w', hrun, hown', hgb, _, hblk⟩ := run_append_own_at (P := E.P) w 0 t o.type e ti z inf.sz inf.by' hu h2 h5 h3 h4 h7 hsz' (slv bi0.a 0 (i + n) bi0.cap) (i + n) us hown ad m c ns hnl hcell h1n h63 hbytes (Nat.zero_le _)
    rw [hba, ← e2] at hrun
    simp only [slv, Option.map_some] at hrun
    rw [r2] at hrun
    injection hrun with hV hw'
    subst hw' hV
    obtain ⟨bi, f', z1, z2, z3, z4, hsim, hchg⟩ := app_tail hs hrx hnd0 hs0 hfx (fun b h => (hob b h).1) hry hh1 hn1 hs1 hlx hly hown' hgb hblk
    unfold Oper.wp
    rw [hexec _ _ (by rw [ex]; exact r1)]
    refine hK _ im _ _ _ _ ⟨_, hsim.putd (dok_lt hd) (v := .slice (some ⟨b, i * inf.sz, none⟩) (n + m) (bi0.cap - i)) ?_⟩ hA hchg ?_
    · simp only [RA, RH]
      refine ⟨trivial, bi, by simp [gup], by omega, z3, ?_⟩
      have z5 : bi.a = some b ∧ bi.cap = bi0.cap := by
        cases hb2 : bi.a with
        | none => rw [hb2] at z4; simp [slv] at z4
        | some b2 =>
          rw [hb2] at z4
          simp only [slv, Option.map_some, Value.slice.injEq, Option.some.injEq] at z4
          obtain ⟨h14, _, h15⟩ := z4
          injection h14 with h14
          exact ⟨by rw [h14], by omega⟩
      rw [z5.1, z5.2, z1]
      rfl
    · intro md hmd b2 hb2
      injection hmd with hmd
      subst hmd
      exact (hob b2 hb2).2
  · -- there is none
    have hcap : ¬ (i + n + m ≤ bi0.cap) := by omega
    have hdl : us.drop (i * inf.sz) = (cur.toList.drop (i * inf.sz)).take (n * inf.sz) := by
      rw [← htake, List.drop_take, Nat.add_mul, Nat.add_sub_cancel_left]
    have hul : (us.drop (i * inf.sz)).length = n * inf.sz := by rw [List.length_drop, husl, Nat.add_mul, Nat.add_sub_cancel_left]
    have hold : (Builtin.firstCells inf.sz n (.slice (some ⟨b, i * inf.sz, none⟩) n (bi0.cap - i))).run E.P w.drew = .ok (us.drop (i * inf.sz)).toArray w.drew := by
      refine run_firstCells_some w.drew inf.sz n ⟨b, i * inf.sz, none⟩ n _ _ hul fun j u hj => ?_
      rw [addr_add]
      have : w.cell? ⟨b, i * inf.sz + j, none⟩ = some u := by
        rw [cell_of_row w b _ cur e (0, 0) hheap, ← Array.getElem?_toList]
        rw [List.getElem?_drop, ← htake, List.getElem?_take] at hj
        split at hj
        · exact hj
        · cases hj
      simpa using this
    have hge := grownCap_ge w (n + m) (bi0.cap - i) e
    have hcm2 : grownCap w (n + m) (bi0.cap - i) e ≤ maxLen := grownCap_le_maxLen w (n + m) _ e (by omega)
    have r1 := run_append_grow_src w t t o.type e ti z hu h2 h5 (some ⟨b, i * inf.sz, none⟩) n (bi0.cap - i) (us.drop (i * inf.sz)) (by rw [h3]; exact hold) (a.eval y) m ns hsrc (by omega) (by simp only [maxLen] at h63; omega) (by
      have hnc : Builtin.nextslicecap (n + m) (bi0.cap - i) ≤ 2 * (n + m) := nextslicecap_le (by omega)
      rw [h4]
      calc Builtin.nextslicecap (n + m) (bi0.cap - i) * inf.by' ≤ 2 * (n + m) * inf.by' := Nat.mul_le_mul_right _ hnc
        _ = 2 * ((n + m) * inf.by') := by rw [Nat.mul_assoc]
        _ ≤ 2 * ((i + n + m) * inf.by') := Nat.mul_le_mul_left _ (Nat.mul_le_mul_right _ (by omega))
        _ ≤ 281474976710656 := by omega)
    generalize hcr : (us.drop (i * inf.sz) ++ ns).toArray ++ Builtin.zeroCells z.cells (grownCap w (n + m) (bi0.cap - i) e - (n + m)) = row at r1
    have hown' : (w.drew.alloc (.cells row e)).ownsRow 0 e inf.sz (.slice (some ⟨w.heap.size, 0, none⟩) (n + m) (grownCap w (n + m) (bi0.cap - i) e)) (n + m) (us.drop (i * inf.sz) ++ ns) := by
      have hll : (us.drop (i * inf.sz) ++ ns).length = (n + m) * inf.sz := by rw [List.length_append, hul, hnl, Nat.add_mul]
      refine ⟨hll, .inr ⟨w.heap.size, _, _, rfl, Nat.zero_le _, heap_alloc_new w.drew _, hge, hcm2, ?_, ?_⟩⟩
      · rw [← hcr]
        simp only [Array.size_append, List.size_toArray, size_zeroCells, h7, hll, ← Nat.add_mul]
        congr 1
        omega
      · rw [← hcr]
        simp only [Array.toList_append]
        rw [← hll]
        exact List.take_left
    obtain ⟨fx', hfx', hrx'⟩ : ∃ fx', fx'.Sublist fx ∧ RHs g im w ((XS.drop (i * inf.sz)).map HV.c) (us.drop (i * inf.sz)) fx' := by
      have : ∀ (k : Nat) (xs : List HV) (us : List Value) (f : List Nat), RHs g im w xs us f → ∃ f', f'.Sublist f ∧ RHs g im w (xs.drop k) (us.drop k) f' := by
        intro k
        induction k with
        | zero => intro xs us f h; exact ⟨f, List.Sublist.refl _, by simpa using h⟩
        | succ k ih =>
          intro xs us f h
          cases xs with
          | nil => obtain ⟨rfl, rfl⟩ := h; exact ⟨[], List.Sublist.refl _, by simp [RHs]⟩
          | cons x xs =>
            obtain ⟨v, vs', f1, f2, rfl, rfl, h1, h2⟩ := h
            obtain ⟨f', h3, h4⟩ := ih xs vs' f2 h2
            exact ⟨f', h3.trans (List.sublist_append_right _ _), by simpa using h4⟩
      obtain ⟨f', q1, q2⟩ := this (i * inf.sz) _ _ _ hrx
      exact ⟨f', q1, by rw [List.map_drop]; exact q2⟩
    obtain ⟨bi, f', z1, z2, z3, z4, hsim, hchg⟩ := app_tail (V := .slice none 0 0) hs hrx' hnd0 hs0 (hfx'.trans hfx) (fun b h => by cases h) hry hh1 hn1 hs1 (n := n) (m := m) (by rw [List.length_drop, hlx, Nat.add_mul, Nat.add_sub_cancel_left]) hly hown' ⟨rfl, rfl, rfl, by simp, fun k hk _ => heap_alloc_old w.drew _ hk⟩ (.inr rfl)
    unfold Oper.wp
    rw [hexec _ _ (by rw [ex]; exact r1)]
    refine hK _ im _ _ _ _ ⟨_, hsim.putd (dok_lt hd) (v := .slice (some ⟨w.heap.size, 0, none⟩) (n + m) (grownCap w (n + m) (bi0.cap - i) e)) ?_⟩ hB hchg ?_
    · simp only [RA, RH]
      exact ⟨trivial, bi, by simp [gup], by omega, z3, z4⟩
    · intro md hmd b2 hb2
      cases hb2
end
end Go.Proofs.Ytjijkdhjfanpaaa
