/- The engine, part m: a store into a row; values that are written out. -/
import Derived.Test.YtjijkdhjfanpaaaEl
namespace Go.Proofs.Ytjijkdhjfanpaaa
open Go.RowKit
section
variable {E : Env} {te : TE} {s : AS} {o : Oper} {Q : AS → Prop}
theorem RHs_take_fp {g : Ga} {im : Im} {w : World} {xs : List HV} {vs : List Value} {f : List Nat} (h : RHs g im w xs vs f) (us : List Value) (hp : ∃ t, us = vs ++ t) : ∀ j, j < xs.length → us[j]? = vs[j]? := by
  obtain ⟨t, rfl⟩ := hp
  intro j hj
  rw [List.getElem?_append_left (by rw [RHs_length _ _ _ h]; exact hj)]
/-- A store of plain values into a row of the call's own. -/
theorem es_sta {t : TypeId} {x y : Operand} {id off : Nat} {v : AV} {ty e : Nat} {cs ys : List CV} {inf : TInf} (hte : teOk E.P te = true) (hop : o.op = .store t x y) (hx : s.eval x = some (.h (.ptr id off))) (hy : s.eval y = some v) (hv : cellsA v = some (ys.map HV.c)) (hl : look id s.hp = some (.arr ty e cs))
    (ht : look t te = some inf) (hsz : ys.length = inf.sz) (hle : off + ys.length ≤ cs.length) (hd : dok E.nt o.dst = true)
    (hQ : Q (({ s with hp := upd id (.arr ty e (setL cs off ys)) s.hp } : AS).putd o.dst .top)) : ES E s o (some [id]) Q := by
  intro g im a w K QQ ⟨fps, hs⟩ hK
  have hp := hs.eval hx
  simp only [RA, RH] at hp
  obtain ⟨_, bi, b, hg, hb, e1⟩ := hp
  have hus := RA_cells (hs.eval hy) hv
  have hul := RHs_length _ _ _ hus
  obtain ⟨bi', f1, f2, f3, hg', hf, hro⟩ := look_HR hs.hp hl
  obtain rfl : bi = bi' := by rw [hg] at hg'; exact Option.some.inj hg'
  obtain ⟨q1, q2, ⟨q3, _⟩ | ⟨b', cur, f, hb', rfl, hh, hcap, hr⟩⟩ := hro
  · rw [q3] at hb; cases hb
  obtain rfl : b = b' := by rw [hb] at hb'; exact Option.some.inj hb'
  obtain ⟨us0, hr0, hc0⟩ := RL_RHs (g := g) _ _ _ hr
  have hl0 := RHs_length _ _ _ hr0
  have hcell : ∀ (j : Nat) (u : Value), us0[j]? = some u → cur.toList[j]? = some u := by
    intro j u hj
    have := hc0 j u hj
    rw [Nat.zero_add, cell_of_row _ _ _ cur ty (0, 0) hh] at this
    simpa using this
  have hcl : cs.length ≤ cur.toList.length := by
    rcases Nat.lt_or_ge cur.toList.length cs.length with h | h
    · exfalso
      have hj : cur.toList.length < us0.length := by rw [hl0]; simpa using h
      have := hcell _ _ (List.getElem?_eq_getElem hj)
      rw [List.getElem?_eq_none (Nat.le_refl _)] at this
      cases this
    · exact h
  have hcs : (a.eval y).cells.toList.length = ys.length := by simpa using hul
  have hrun := run_store_var (P := E.P) hte ht hh (v := a.eval y) rfl (by omega) (RHs_one _ _ _ hus) (off := off) (by simp at hcl hcs ⊢; omega)
  have hbf : b ∈ fps := by rw [hf]; exact List.mem_append_right _ (List.mem_append_left _ List.mem_cons_self)
  have hblt := hs.lt b hbf
  generalize hnew : (cur.toList.take off ++ (a.eval y).cells.toList ++ cur.toList.drop (off + (a.eval y).cells.toList.length)) = new at hrun
  have hk : ∀ c, c ≠ b → (w.setRow b new.toArray).heap[c]? = w.heap[c]? := fun c hc => setRow_other w b c _ hc
  obtain ⟨fps', hsim⟩ := hs.upd (ob' := .arr ty e (setL cs off ys)) hl hg hb hk (by simp) rfl rfl rfl (fun f0 hro0 hf0 hnd0 => by
    obtain ⟨q4, q5, ⟨q6, _⟩ | ⟨b0, cur0, f4, hb0, rfl, hh0, hcap0, hr1⟩⟩ := hro0
    · rw [q6] at hb; cases hb
    obtain rfl : b = b0 := by rw [hb] at hb0; exact Option.some.inj hb0
    rw [hh] at hh0
    injection hh0 with hh0
    injection hh0 with hh0
    subst hh0
    obtain ⟨us1, hr2, hc2⟩ := RL_RHs (g := g) _ _ _ hr1
    have hl2 := RHs_length _ _ _ hr2
    obtain ⟨f', hsl, hr'⟩ := RHs_setL (o := off) hr2 hus
    have hlen : new.length = cur.toList.length := by
      rw [← hnew]; simp only [List.length_append, List.length_take, List.length_drop]; omega
    refine ⟨b :: f', List.Sublist.cons_cons _ hsl, q4, q5, .inr ⟨b, _, f', hb, rfl, setRow_heap w b _ _ ty (0, 0) hh, ?_, ?_⟩⟩
    · rw [← hcap0]; simpa using hlen
    rw [← setL_map] at hr'
    have hr3 := RHs_mono (w' := w.setRow b new.toArray) (fun _ _ h => h) (fun t c hc => ⟨hc, hk c fun e => by subst e; exact (hf0 c List.mem_cons_self).2 t hc⟩) _ _ _ (fun c hc => hk c fun e => by subst e; exact (List.nodup_cons.1 hnd0).1 (hsl.subset hc)) hr'
    refine RHs_RL _ _ _ _ hr3 fun j u hj => ?_
    rw [Nat.zero_add, cell_of_row _ _ _ new.toArray ty (0, 0) (setRow_heap w b _ _ ty (0, 0) hh)]
    rw [show (new.toArray)[j]? = new[j]? by simp, ← hnew]
    have hc2' : ∀ (j : Nat) (u : Value), us1[j]? = some u → cur.toList[j]? = some u := by
      intro j u hj
      have := hc2 j u hj
      rw [Nat.zero_add, cell_of_row _ _ _ cur ty (0, 0) hh] at this
      simpa using this
    have e1 := setL_get cur.toList (a.eval y).cells.toList off (by omega) j
    have e2 := setL_get us1 (a.eval y).cells.toList off (by simp at hl2; omega) j
    unfold setL at e1 e2
    rw [List.append_assoc, e1]
    rw [List.append_assoc, e2] at hj
    by_cases h1 : j < off
    · rw [if_pos h1] at hj ⊢
      exact hc2' j u hj
    · rw [if_neg h1] at hj ⊢
      by_cases h2 : j < off + (a.eval y).cells.toList.length
      · rw [if_pos h2] at hj ⊢
        exact hj
      · rw [if_neg h2] at hj ⊢
        exact hc2' j u hj)
  unfold Oper.wp
  have : (execOp a.eval o).run E.P w = .ok .skip (w.setRow b new.toArray) := by
    simp only [execOp, hop, e1, Sem.run_bind, hrun, Result.andThen_ok, Sem.run_pure]
  rw [this]
  refine hK g im _ _ _ (· = b) ⟨fps', hsim.putd (dok_lt hd) (by simp only [RA])⟩ hQ (Chg.upd hs (fun t => hs.ni b hbf t) hk (by simp)) ?_
  rintro m hm c rfl
  injection hm with hm
  subst hm
  exact ⟨id, List.mem_cons_self, bi, hg, hb⟩
end
section
variable {E : Env} {l rest : List Oper} {s : AS} {fr : List (Nat × AV)} {hp : List (Nat × Ob)} {nx : Nat} {o : Oper} {Q : Exit → AS → Prop} {d : Nat}
theorem eSta {t : TypeId} {x y : Operand} {id off : Nat} {v : AV} {ty e : Nat} {cs zs : List CV} (ys : List CV) {inf : TInf} (ho : o.op = .store t x y) (hx : AS.eval ⟨fr, hp, nx⟩ x = some (.h (.ptr id off))) (hy : AS.eval ⟨fr, hp, nx⟩ y = some v) (hv : cellsA v = some (ys.map HV.c)) (hl : look id hp = some (.arr ty e cs))
    (ht : look t E.te = some inf) (hsz : Nat.beq ys.length inf.sz = true) (hd : o.dst = none) (hle : off + ys.length ≤ cs.length) (hz : setL cs off ys = zs) :
    ES E ⟨fr, hp, nx⟩ o (some [id]) (fun x => x = ⟨fr, upd id (.arr ty e zs) hp, nx⟩) :=
  es_same (es_sta E.hte ho hx hy hv hl ht (Nat.eq_of_beq_eq_true hsz) hle (by rw [hd]; rfl) rfl) (by rw [hd, hz]; rfl)
end
end Go.Proofs.Ytjijkdhjfanpaaa
