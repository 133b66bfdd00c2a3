/- The engine, part z: cuts of rows of the call's own; forgetting a row's tail. -/
import Derived.Test.YtjijkdhjfanpaaaEy
namespace Go.Proofs.Ytjijkdhjfanpaaa
open Go.RowKit
section
variable {E : Env} {te : TE} {os : Option (List Nat)} {fl : Bool} {s : AS}
theorem cut_run {E : Env} {te : TE} {g : Ga} {im : Im} {fps : List Nat} {s : AS} {a : Act} {w : World} (hs : SimF E g im fps s a w) (hte : teOk E.P te = true) {t e sz b' : Nat} {zs : List CV} {lo hi : Option Operand} {n : Nat} {il ih : Int} {inf : TInf} (l h : Nat) (A : Option Addr) (c : Nat)
    (hlo : bnd s 0 lo = some il) (hhi : bnd s n hi = some ih) (hl : il = (l : Int)) (hh : ih = (h : Int)) (h1 : l ≤ h) (h2 : h ≤ n) (h3 : n ≤ c) (ht : look t te = some ⟨.slice e, sz, b', zs⟩) (he : look e te = some inf) (w' : World) :
    (Instr.sliceAt t (.slice A n c) (lo.map a.eval) (hi.map a.eval) none).run E.P w' = .ok (.slice (if c = l then A else A.map (·.add (l * inf.sz))) (h - l) (c - l)) w' := by
  subst hl hh
  refine run_cut hte ht he w' A n c l h _ _ ?_ ?_ h1 (by omega) h3
  · cases lo with
    | none => simp only [bnd, Option.some.injEq] at hlo; exact .inl ⟨rfl, by omega⟩
    | some o =>
      simp only [bnd] at hlo
      split at hlo
      · rename_i hi'
        injection hlo with hlo
        subst hlo
        exact .inr (by simp [RA_int (hs.eval hi')])
      · cases hlo
  · cases hi with
    | none => simp only [bnd, Option.some.injEq] at hhi; exact .inl ⟨rfl, by omega⟩
    | some o =>
      simp only [bnd] at hhi
      split at hhi
      · rename_i hi'
        injection hhi with hhi
        subst hhi
        exact .inr (by simp [RA_int (hs.eval hi')])
      · cases hhi
/-- A cut, from its first element on, of a row of the call's own. -/
theorem ps_cut0 {t e : Nat} {sz b' : Nat} {zs : List CV} {x : Operand} {lo hi : Option Operand} {id j n : Nat} {il ih : Int} {inf : TInf} (h : Nat) (hte : teOk E.P te = true)
    (hx : s.eval x = some (.h (.sl id j n))) (hlo : bnd s 0 lo = some il) (hhi : bnd s n hi = some ih) (hl : il = 0) (hh : ih = (h : Int)) (h2 : h ≤ n) (ht : look t te = some ⟨.slice e, sz, b', zs⟩) (he : look e te = some inf) : PS E os fl s (.slice t x lo hi none) (.h (.sl id j h)) := by
  intro g im ac w M n0 ⟨fps, hs⟩ hI
  have hv := hs.eval hx
  simp only [RA, RH] at hv
  obtain ⟨_, bi, hg, h3, h4, e1⟩ := hv
  refine ⟨slv bi.a (j * bi.e) h (bi.cap - j), ?_, fun w' _ o ho => ?_⟩
  · simp only [RA, RH]
    exact ⟨trivial, bi, hg, by omega, h4, rfl⟩
  · have := cut_run hs hte (l := 0) h (bi.a.map fun b => (⟨b, j * bi.e, none⟩ : Addr)) (bi.cap - j) hlo hhi (by simpa using hl) hh (Nat.zero_le _) h2 (by omega) ht he w'
    have e2 : (if bi.cap - j = 0 then (bi.a.map fun b => (⟨b, j * bi.e, none⟩ : Addr)) else (bi.a.map fun b => (⟨b, j * bi.e, none⟩ : Addr)).map (·.add (0 * inf.sz))) = bi.a.map fun b => (⟨b, j * bi.e, none⟩ : Addr) := by
      split
      · rfl
      · cases bi.a <;> simp [Addr.add]
    rw [e2] at this
    simp only [Nat.sub_zero] at this
    simp only [execOp, ho, e1, slv, Option.map_none, Sem.run_bind, this, Result.andThen_ok, Sem.run_pure]
end
section
variable {E : Env} {l rest : List Oper} {fr : List (Nat × AV)} {hp : List (Nat × Ob)} {nx : Nat} {o : Oper} {Q : Exit → AS → Prop} {d : Nat}
theorem pCut0 {t e : Nat} {sz b' : Nat} {zs : List CV} {x : Operand} {lo hi : Option Operand} {id j n : Nat} {il ih : Int} {inf : TInf} (h : Nat) (ho : o.op = .slice t x lo hi none)
    (hx : AS.eval ⟨fr, hp, nx⟩ x = some (.h (.sl id j n))) (hlo : bnd ⟨fr, hp, nx⟩ 0 lo = some il) (hhi : bnd ⟨fr, hp, nx⟩ n hi = some ih) (ht : look t E.te = some ⟨.slice e, sz, b', zs⟩) (he : look e E.te = some inf)
    (hg : gdv l ⟨fr, hp, nx⟩ o = some true) (hd : o.dst = some d) (hn : Nat.blt d E.nt = true) (hl : il = 0) (hh : ih = (h : Int)) (h2 : h ≤ n) (kk : AL E l rest ⟨(d, .h (.sl id j h)) :: fr, hp, nx⟩ Q) : AL E l (o :: rest) ⟨fr, hp, nx⟩ Q :=
  al_pd (by rw [ho]; exact ps_cut0 h E.hte hx hlo hhi hl hh h2 ht he) hg hd hn kk
/-- A row's tail is forgotten. -/
theorem sim_trunc {g : Ga} {im : Im} {a : Act} {w : World} (id k : Nat) {ty e : Nat} {xs : List CV} (hl : look id hp = some (.arr ty e xs)) (h : Sim E g im ⟨fr, hp, nx⟩ a w) : Sim E g im ⟨fr, upd id (.arr ty e (xs.take k)) hp, nx⟩ a w := by
  obtain ⟨fps, hs⟩ := h
  obtain ⟨bi, f1, f2, f3, hg, hf, hro⟩ := look_HR hs.hp hl
  obtain ⟨l1, l2, rfl, hu, hdl⟩ := look_split hl
  obtain ⟨g1, g2, rfl, q1, q2⟩ := (HR_append _ _ _).1 hs.hp
  obtain ⟨bi', g3, g4, q3, rfl, q5, q6⟩ := q2
  have key : ∃ g3', g3'.Sublist g3 ∧ RO g im w bi' (.arr ty e (xs.take k)) g3' := by
    obtain ⟨r1, r2, ⟨r3, r4, r5, r6⟩ | ⟨b, cur, f, r3, r4, r5, r6, r7⟩⟩ := q5
    · exact ⟨g3, List.Sublist.refl _, r1, r2, .inl ⟨r3, by rw [r4]; simp, r5, r6⟩⟩
    · obtain ⟨f', hf', r8⟩ := RL_take xs k 0 f r7
      exact ⟨b :: f', by rw [r4]; exact hf'.cons_cons b, r1, r2, .inr ⟨b, cur, f', r3, rfl, r5, r6, r8⟩⟩
  obtain ⟨g3', hsub, hro'⟩ := key
  have hsubl : (g1 ++ (g3' ++ g4)).Sublist (g1 ++ (g3 ++ g4)) := List.Sublist.append (List.Sublist.refl _) (List.Sublist.append hsub (List.Sublist.refl _))
  refine ⟨g1 ++ (g3' ++ g4), ⟨hs.dfr, hs.sz, hs.fr, ?_, hs.nd.sublist hsubl, fun b hb => hs.lt b (hsubl.subset hb), fun b hb => hs.ni b (hsubl.subset hb), fun b hb => hs.mine b (hsubl.subset hb), hs.gn, hs.gl, hs.il, hs.kp, hs.kn, hs.g0, hs.i0, hs.i1⟩⟩
  rw [hu]
  exact (HR_append _ _ _).2 ⟨g1, g3' ++ g4, rfl, q1, bi', g3', g4, q3, rfl, hro', q6⟩
theorem al_trunc (id k : Nat) {ty e : Nat} {xs : List CV} (hl : look id hp = some (.arr ty e xs)) (kk : AL E l rest ⟨fr, upd id (.arr ty e (xs.take k)) hp, nx⟩ Q) : AL E l rest ⟨fr, hp, nx⟩ Q := fun g im a w h => kk g im a w (sim_trunc id k hl h)
theorem al_truncR {α : Type} {f : α → List CV} (id k : Nat) {ty e : Nat} {L : List α} (hl : look id hp = some (.arr ty e (rows f L))) (hf : ∀ a, (f a).length = e) (kk : AL E l rest ⟨fr, upd id (.arr ty e (rows f (L.take k))) hp, nx⟩ Q) : AL E l rest ⟨fr, hp, nx⟩ Q :=
  al_trunc id (k * e) hl (by rw [rows_take hf]; exact kk)
end
end Go.Proofs.Ytjijkdhjfanpaaa
