/- The engine, part zi: what may be told anew where a body ends; nil cells of variables told as owned empty rows. -/
import Derived.Test.YtjijkdhjfanpaaaEzh
namespace Go.Proofs.Ytjijkdhjfanpaaa
open Go.RowKit
attribute [local irreducible] AWP AL AC ES PS AH AH2
/-- The body's end, told anew as often as one likes. -/
def FinM (E : Env) (te : TE) (k : Nat) (rs : List ResultVar) (rt : List Nat) (Post : AV → List Ob → Prop) : Exit → AS → Prop := fun e s => ∀ g im a w, Sim E g im s a w → Lift E (FinQ te k rs rt Post) e a w
theorem ac_bodyM {P : Program} {te : TE} (hte : teOk P te = true) {f : FuncId} {fn : Func} {c : Code} {nt : Nat} {args : List AV} {hin : List Ob} {rt : List Nat} {Post : AV → List Ob → Prop}
    (hf : P.funcs[f]? = some fn) (hb : fn.body = some c) (hn : (fn.name == "runtime.NumGoroutine") = false) (hnt : fn.ntmps = nt) (hle : Nat.ble args.length nt = true) (hrt : rt.all (fun t => Nat.blt t 100) = true)
    (h : ∀ w0 ps g0 im0, AWP ⟨P, te, hte, nt, w0, ps, hin.length, g0, im0⟩ c (AS.enter args hin) (FinM ⟨P, te, hte, nt, w0, ps, hin.length, g0, im0⟩ te hin.length fn.results.toList rt Post)) : AC P f args hin rt Post := by
  refine ac_body hte hf hb hn hnt hle hrt fun w0 ps g0 im0 => ?_
  have h' := h w0 ps g0 im0
  unfold AWP at h' ⊢
  exact fun g im a w hs => wp_mono (h' g im a w hs) fun _ _ _ ⟨g', im', s', hs', hq⟩ => hq g' im' _ _ hs'
theorem xt_M {E : Env} {te : TE} {k : Nat} {rs : List ResultVar} {rt : List Nat} {Post : AV → List Ob → Prop} {e : Exit} {s : AS} (h : XT e s (FinQ te k rs rt Post)) : XT e s (FinM E te k rs rt Post) := fun g im _ _ hs => ⟨g, im, s, hs, h⟩
theorem xt_Mstep {E : Env} {te : TE} {k : Nat} {rs : List ResultVar} {rt : List Nat} {Post : AV → List Ob → Prop} {e : Exit} {s s' : AS} (hs : ∀ g im a w, Sim E g im s a w → ∃ g' im', Sim E g' im' s' a w) (h : XT e s' (FinM E te k rs rt Post)) : XT e s (FinM E te k rs rt Post) := fun g im a w hh => by
  obtain ⟨g', im', h2⟩ := hs g im a w hh
  exact h g' im' a w h2
theorem sim_nownB {E : Env} {g : Ga} {im : Im} {fr : List (Nat × AV)} {hp : List (Nat × Ob)} {nx : Nat} {a : Act} {w : World} (id ty' e' : Nat) {ty : Nat} {pre post : List HV} (hl : look id hp = some (.box ty (pre ++ .c .nil :: post))) (h : Sim E g im ⟨fr, hp, nx⟩ a w) :
    ∃ g', Sim E g' im ⟨fr, (nx, .arr ty' e' []) :: upd id (.box ty (pre ++ .sl nx 0 0 :: post)) hp, nx + 1⟩ a w := by
  obtain ⟨fps, hs⟩ := h
  obtain ⟨l1, l2, rfl, hu, _⟩ := look_split hl
  obtain ⟨g1, g2, rfl, q1, q2⟩ := (HR_append _ _ _).1 hs.hp
  obtain ⟨bi, g3, g4, q3, rfl, q5, q6⟩ := q2
  have hg := gup_old (bi := ⟨none, 0, ty', e'⟩) hs.gn
  have hm : ∀ {l : List (Nat × Ob)} {f : List Nat}, HR g im w l f → HR (gup g nx ⟨none, 0, ty', e'⟩) im w l f := fun h => HR_mono hg (fun t b h => ⟨h, rfl⟩) _ _ (fun _ _ => rfl) h
  have key : ∀ (pre : List HV) (vs : List Value) (f : List Nat), RHs g im w (pre ++ .c .nil :: post) vs f → RHs (gup g nx ⟨none, 0, ty', e'⟩) im w (pre ++ .sl nx 0 0 :: post) vs f := by
    intro pre
    induction pre with
    | nil =>
      rintro vs f ⟨v, vs', f1, f2, rfl, rfl, h1, h2⟩
      simp only [RH, R] at h1
      refine ⟨v, vs', [], f2, rfl, by rw [h1.2], ?_, RHs_mono hg (fun t b h => ⟨h, rfl⟩) _ _ _ (fun _ _ => rfl) h2⟩
      exact ⟨rfl, ⟨none, 0, ty', e'⟩, by simp [gup], Nat.le_refl _, Nat.zero_le _, by rw [h1.1]; rfl⟩
    | cons x pre ih =>
      rintro vs f ⟨v, vs', f1, f2, rfl, rfl, h1, h2⟩
      exact ⟨v, vs', f1, f2, rfl, rfl, RH_mono hg (fun t b h => ⟨h, rfl⟩) x v f1 (fun _ _ => rfl) h1, ih _ _ h2⟩
  refine ⟨gup g nx ⟨none, 0, ty', e'⟩, _, hs.same hg (fps' := g1 ++ (g3 ++ g4)) ?_ hs.nd (fun _ h => h) ?_ ?_ (Nat.le_succ _) ?_⟩
  · refine ⟨⟨none, 0, ty', e'⟩, [], _, by simp [gup], rfl, ⟨rfl, rfl, .inl ⟨rfl, rfl, rfl, rfl⟩⟩, ?_⟩
    rw [hu]
    refine (HR_append _ _ _).2 ⟨g1, _, rfl, hm q1, bi, g3, g4, hg _ _ q3, rfl, ?_, hm q6⟩
    obtain ⟨b, cs, f, r1, r2, r3, r4⟩ := q5
    exact ⟨b, cs, f, r1, r2, r3, key _ _ _ r4⟩
  · intro i hi
    simp only [gup]
    rw [if_neg (by omega)]
    exact hs.gn i (by simp only; omega)
  · intro i bi2 b2 h1 h2
    simp only [gup] at h1
    split at h1
    · injection h1 with h1
      subst h1
      cases h2
    · exact hs.gl i bi2 b2 h1 h2
  · intro i hi
    simp only [gup]
    rw [if_neg (by omega)]
section
variable {E : Env} {te : TE} {k : Nat} {rs : List ResultVar} {rt : List Nat} {Post : AV → List Ob → Prop} {e : Exit} {fr : List (Nat × AV)} {hp : List (Nat × Ob)} {nx : Nat}
/-- A nil cell of a variable told as an owned empty row. -/
theorem xt_nownB (id ty' e' : Nat) {ty : Nat} {pre post : List HV} (hl : look id hp = some (.box ty (pre ++ .c .nil :: post))) (h : XT e ⟨fr, (nx, .arr ty' e' []) :: upd id (.box ty (pre ++ .sl nx 0 0 :: post)) hp, nx + 1⟩ (FinM E te k rs rt Post)) : XT e ⟨fr, hp, nx⟩ (FinM E te k rs rt Post) :=
  xt_Mstep (fun g im a w hs => by obtain ⟨g', h'⟩ := sim_nownB id ty' e' hl hs; exact ⟨g', im, h'⟩) h
theorem xt_wkM (id : Nat) {ty z : Nat} {xs : List CV} (ys : List CV) (hl : look id hp = some (.arr ty z xs)) (hw : Wks xs ys) (h : XT e ⟨fr, upd id (.arr ty z ys) hp, nx⟩ (FinM E te k rs rt Post)) : XT e ⟨fr, hp, nx⟩ (FinM E te k rs rt Post) :=
  xt_Mstep (fun g im _ _ hs => ⟨g, im, sim_wk id hl hw hs⟩) h
theorem xt_ownM (d ty z : Nat) (hl : look d fr = some (.h (.c .nil))) (h : XT e ⟨(d, .h (.sl nx 0 0)) :: fr, (nx, .arr ty z []) :: hp, nx + 1⟩ (FinM E te k rs rt Post)) : XT e ⟨fr, hp, nx⟩ (FinM E te k rs rt Post) :=
  xt_Mstep (fun g im a w hs => by obtain ⟨g', h'⟩ := sim_nown d ty z hl hs; exact ⟨g', im, h'⟩) h
theorem xt_closeM (id j : Nat) {ty z ty' e' n : Nat} {pre post ys : List CV} (hj : look j hp = some (.arr ty' e' ys)) (hl : look id (del j hp) = some (.hrr ty z (pre.map HV.c ++ .sl j 0 n :: post.map HV.c))) (h : XT e ⟨fr, upd id (.arr ty z (pre ++ .ow ty' e' n ys :: post)) (del j hp), nx⟩ (FinM E te k rs rt Post)) : XT e ⟨fr, hp, nx⟩ (FinM E te k rs rt Post) :=
  xt_Mstep (fun g im _ _ hs => ⟨g, im, sim_close id j hj hl hs⟩) h
end
section
variable {E : Env} {l rest : List Oper} {fr : List (Nat × AV)} {hp : List (Nat × Ob)} {nx : Nat} {Q : Exit → AS → Prop}
theorem al_nownB (id ty' e' : Nat) {ty : Nat} {pre post : List HV} (hl : look id hp = some (.box ty (pre ++ .c .nil :: post))) (kk : AL E l rest ⟨fr, (nx, .arr ty' e' []) :: upd id (.box ty (pre ++ .sl nx 0 0 :: post)) hp, nx + 1⟩ Q) : AL E l rest ⟨fr, hp, nx⟩ Q := by
  unfold AL at kk ⊢
  intro g im a w h
  obtain ⟨g', h'⟩ := sim_nownB id ty' e' hl h
  exact kk g' im a w h'
theorem awp_nownB {c : Code} (id ty' e' : Nat) {ty : Nat} {pre post : List HV} (hl : look id hp = some (.box ty (pre ++ .c .nil :: post))) (kk : AWP E c ⟨fr, (nx, .arr ty' e' []) :: upd id (.box ty (pre ++ .sl nx 0 0 :: post)) hp, nx + 1⟩ Q) : AWP E c ⟨fr, hp, nx⟩ Q := by
  unfold AWP at kk ⊢
  intro g im a w h
  obtain ⟨g', h'⟩ := sim_nownB id ty' e' hl h
  exact kk g' im a w h'
end
end Go.Proofs.Ytjijkdhjfanpaaa
