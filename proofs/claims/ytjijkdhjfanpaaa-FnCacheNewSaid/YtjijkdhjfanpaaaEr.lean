/- The engine, part r: results that may be nil, told as rows of the call's own. -/
import Derived.Test.YtjijkdhjfanpaaaEq
namespace Go.Proofs.Ytjijkdhjfanpaaa
open Go.RowKit
theorem sim_nown {E : Env} {g : Ga} {im : Im} {fr : List (Nat × AV)} {hp : List (Nat × Ob)} {nx : Nat} {a : Act} {w : World} (d ty e : Nat) (hl : look d fr = some (.h (.c .nil))) (h : Sim E g im ⟨fr, hp, nx⟩ a w) :
    ∃ g', Sim E g' im ⟨(d, .h (.sl nx 0 0)) :: fr, (nx, .arr ty e []) :: hp, nx + 1⟩ a w := by
  obtain ⟨fps, hs⟩ := h
  have hsw := SimF.swap hs (hp0 := hp) (fr := []) (f0 := fps) (f' := []) hs.hp hs.nd (fun b hb => hb) ⟨none, 0, ty, e⟩ (.arr ty e []) (fun _ _ _ => rfl) (Nat.le_refl _) rfl rfl rfl List.nodup_nil (fun _ h => by cases h) (fun _ h => by cases h) (fun _ h => by cases h)
    ⟨rfl, rfl, .inl ⟨rfl, rfl, rfl, rfl⟩⟩
  refine ⟨gup g nx ⟨none, 0, ty, e⟩, [] ++ fps, ⟨hsw.dfr, hsw.sz, ?_, hsw.hp, hsw.nd, hsw.lt, hsw.ni, hsw.mine, hsw.gn, hsw.gl, hsw.il, hsw.kp, hsw.kn, hsw.g0, hsw.i0, hsw.i1⟩⟩
  intro t y hy
  by_cases ht : t = d
  · subst ht
    simp only [look_cons_eq, Option.some.injEq] at hy
    subst hy
    have hv := hs.fr t _ hl
    simp only [RA, RH, R] at hv
    rw [hv.1]
    refine ⟨rfl, ⟨none, 0, ty, e⟩, by simp [gup], Nat.le_refl _, Nat.zero_le _, ?_⟩
    simp [slv]
  · simp only [look_cons_ne ht] at hy
    exact hsw.fr t y hy
inductive FinN (te : TE) (k : Nat) (rs : List ResultVar) (rt : List Nat) (Post : AV → List Ob → Prop) : Exit → AS → Prop
  | fin {e : Exit} {s : AS} : FinQ te k rs rt Post e s → FinN te k rs rt Post e s
  | own {e : Exit} {fr : List (Nat × AV)} {hp : List (Nat × Ob)} {nx : Nat} (d ty z : Nat) : look d fr = some (.h (.c .nil)) → FinN te k rs rt Post e ⟨(d, .h (.sl nx 0 0)) :: fr, (nx, .arr ty z []) :: hp, nx + 1⟩ → FinN te k rs rt Post e ⟨fr, hp, nx⟩
theorem finN_lift {E : Env} {te : TE} {k : Nat} {rs : List ResultVar} {rt : List Nat} {Post : AV → List Ob → Prop} {e : Exit} {s : AS} {a : Act} {w : World} (h : FinN te k rs rt Post e s) : ∀ g im, Sim E g im s a w → Lift E (FinQ te k rs rt Post) e a w := by
  induction h with
  | fin h => exact fun g im hs => ⟨g, im, _, hs, h⟩
  | own d ty z hl _ ih => exact fun g im hs => by obtain ⟨g', hs'⟩ := sim_nown d ty z hl hs; exact ih g' im hs'
theorem ac_bodyN {P : Program} {te : TE} (hte : teOk P te = true) {f : FuncId} {fn : Func} {c : Code} {nt : Nat} {args : List AV} {hin : List Ob} {rt : List Nat} {Post : AV → List Ob → Prop}
    (hf : P.funcs[f]? = some fn) (hb : fn.body = some c) (hn : (fn.name == "runtime.NumGoroutine") = false) (hnt : fn.ntmps = nt) (hle : Nat.ble args.length nt = true) (hrt : rt.all (fun t => Nat.blt t 100) = true)
    (h : ∀ w0 ps g0 im0, AWP ⟨P, te, hte, nt, w0, ps, hin.length, g0, im0⟩ c (AS.enter args hin) (FinN te hin.length fn.results.toList rt Post)) : AC P f args hin rt Post :=
  ac_body hte hf hb hn hnt hle hrt fun w0 ps g0 im0 g im a w hs => wp_mono (h w0 ps g0 im0 g im a w hs) fun _ _ _ ⟨g', im', _, hs', hq⟩ => finN_lift hq g' im' hs'
theorem xt_own {te : TE} {k : Nat} {rs : List ResultVar} {rt : List Nat} {Post : AV → List Ob → Prop} {e : Exit} {fr : List (Nat × AV)} {hp : List (Nat × Ob)} {nx : Nat} (d ty z : Nat) (hl : look d fr = some (.h (.c .nil)))
    (h : XT e ⟨(d, .h (.sl nx 0 0)) :: fr, (nx, .arr ty z []) :: hp, nx + 1⟩ (FinN te k rs rt Post)) : XT e ⟨fr, hp, nx⟩ (FinN te k rs rt Post) := FinN.own d ty z hl h
theorem xt_N {te : TE} {k : Nat} {rs : List ResultVar} {rt : List Nat} {Post : AV → List Ob → Prop} {e : Exit} {s : AS} (h : XT e s (FinQ te k rs rt Post)) : XT e s (FinN te k rs rt Post) := FinN.fin h
end Go.Proofs.Ytjijkdhjfanpaaa
