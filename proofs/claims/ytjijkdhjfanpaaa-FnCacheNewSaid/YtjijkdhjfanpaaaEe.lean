/- The engine, part e: contracts of functions; how a body proves one; how a call uses one. -/
import Derived.Test.YtjijkdhjfanpaaaEd
namespace Go.Proofs.Ytjijkdhjfanpaaa
open Go.RowKit

def num (k : Nat) : List Ob → List (Nat × Ob)
  | [] => []
  | o :: os => (k, o) :: num (k + 1) os
def imr (rt : List Nat) (im : Im) : Im := fun t b => t ∈ rt ∧ im t b
/-- The function has a body that is entered. -/
def FnOk (P : Program) (f : FuncId) : Prop := ∃ fn, P.funcs[f]? = some fn ∧ (fn.name == "runtime.NumGoroutine") = false ∧ fn.body.isNone = false
structure Back (w : World) (im : Im) (g : Ga) (fps : List Nat) (k : Nat) (rt : List Nat) (r : AV) (hout : List Ob) (v : Value) (w' : World) (g' : Ga) (im' : Im) (fps' : List Nat) : Prop where
  len : k ≤ hout.length
  res : RA g' (imr rt im') w' r v []
  hp : HR g' (imr rt im') w' (num 0 hout) fps'
  nd : fps'.Nodup
  fp : ∀ b ∈ fps', b < w'.heap.size ∧ (∀ t, ¬ im' t b) ∧ (w.heap.size ≤ b ∨ b ∈ fps)
  gx : ∀ i, i < k → g' i = g i
  gn : ∀ i, hout.length ≤ i → g' i = none
  gl : ∀ i bi b, g' i = some bi → bi.a = some b → b < w'.heap.size
  gf : ∀ i bi b, k ≤ i → g' i = some bi → bi.a = some b → w.heap.size ≤ b ∨ b ∈ fps
  imm : ∀ t b, im t b → im' t b
  imn : ∀ t b, im' t b → im t b ∨ (t = 0 ∧ w.heap.size ≤ b)
  iml : ∀ t b, im' t b → b < w'.heap.size
  kp : Keeps w w' (· ∈ fps)
/-- Called with these arguments, over these objects that are handed over, the function returns; the result and the objects meet the post; the result's read-only slices bear the tags rt alone. -/
def AC (P : Program) (f : FuncId) (args : List AV) (hin : List Ob) (rt : List Nat) (Post : AV → List Ob → Prop) : Prop :=
  FnOk P f ∧ ∀ (w : World) (g : Ga) (im : Im) (vs : List Value) (fps : List Nat),
    RAs g im w args vs [] → HR g im w (num 0 hin) fps → fps.Nodup → (∀ b ∈ fps, b < w.heap.size ∧ ∀ t, ¬ im t b) → (∀ t b, im t b → b < w.heap.size) →
    (∀ i, hin.length ≤ i → g i = none) → (∀ i bi b, g i = some bi → bi.a = some b → b < w.heap.size) →
    Calls P f vs.toArray w fun e w' => ∃ r hout v g' im' fps', Post r hout ∧ e = .returned v ∧ Back w im g fps hin.length rt r hout v w' g' im' fps'

/-! ### the tags of what is only read -/
mutual
def CV.Tg (rt : List Nat) : CV → Prop
  | .rd t _ xs => t ∈ rt ∧ CV.Tgs rt xs
  | .ow _ _ _ xs => CV.Tgs rt xs
  | _ => True
def CV.Tgs (rt : List Nat) : List CV → Prop
  | [] => True
  | x :: xs => x.Tg rt ∧ CV.Tgs rt xs
end
def HV.Tg (rt : List Nat) : HV → Prop
  | .c x => x.Tg rt
  | .rp t xs => t ∈ rt ∧ CV.Tgs rt xs
  | _ => True
def HV.Tgs (rt : List Nat) : List HV → Prop
  | [] => True
  | x :: xs => x.Tg rt ∧ HV.Tgs rt xs
mutual
def AV.Tg (rt : List Nat) : AV → Prop
  | .h x => x.Tg rt
  | .agg xs => HV.Tgs rt xs
  | .tup xs => AV.Tgs rt xs
  | .top => True
def AV.Tgs (rt : List Nat) : List AV → Prop
  | [] => True
  | x :: xs => x.Tg rt ∧ AV.Tgs rt xs
end
def Ob.Tg (rt : List Nat) : Ob → Prop
  | .arr _ _ xs => CV.Tgs rt xs
  | .box _ xs => HV.Tgs rt xs
  | .hrr _ _ xs => HV.Tgs rt xs
def Ob.Tgs (rt : List Nat) : List Ob → Prop
  | [] => True
  | x :: xs => x.Tg rt ∧ Ob.Tgs rt xs
section
variable {im : Im} {w : World} {g : Ga} {rt : List Nat}
mutual
theorem R_tag : ∀ (x : CV) (v : Value) (fp : List Nat), R im w x v fp → x.Tg rt → R (imr rt im) w x v fp
  | .int k n, v, fp, h, _ => by simpa only [R] using h
  | .bool b, v, fp, h, _ => by simpa only [R] using h
  | .nil, v, fp, h, _ => by simpa only [R] using h
  | .fn f, v, fp, h, _ => by simpa only [R] using h
  | .rd t n xs, v, fp, h, ht => by
    simp only [R, CV.Tg] at h ht ⊢
    obtain ⟨h1, A, c, h2, h3, h4, h5⟩ := h
    refine ⟨h1, A, c, h2, h3, h4, ?_⟩
    rcases h5 with h5 | ⟨b, o, h5, h6, h7⟩
    · exact .inl h5
    · exact .inr ⟨b, o, h5, ⟨ht.1, h6⟩, RL_tag xs b o [] h7 ht.2⟩
  | .ow ty e n xs, v, fp, h, ht => by
    simp only [R, CV.Tg] at h ht ⊢
    rcases h with h | ⟨b, c, cur, f, h1, h2, h3, h4, h5, h6, h7⟩
    · exact .inl h
    · exact .inr ⟨b, c, cur, f, h1, h2, h3, h4, h5, h6, RL_tag xs b 0 f h7 ht⟩
theorem RL_tag : ∀ (xs : List CV) (b o : Nat) (fp : List Nat), RL im w b xs o fp → CV.Tgs rt xs → RL (imr rt im) w b xs o fp
  | [], b, o, fp, h, _ => by simpa only [RL] using h
  | x :: xs, b, o, fp, h, ht => by
    simp only [RL, CV.Tgs] at h ht ⊢
    obtain ⟨u, f1, f2, h1, h2, h3, h4⟩ := h
    exact ⟨u, f1, f2, h1, h2, R_tag x u f1 h3 ht.1, RL_tag xs b (o + 1) f2 h4 ht.2⟩
end
theorem RH_tag (x : HV) (v : Value) (fp : List Nat) (h : RH g im w x v fp) (ht : x.Tg rt) : RH g (imr rt im) w x v fp := by
  cases x with
  | c x => exact R_tag x v fp h ht
  | rp t xs =>
    obtain ⟨h1, b, o, h2, h3, h4⟩ := h
    exact ⟨h1, b, o, h2, ⟨ht.1, h3⟩, RL_tag xs b o [] h4 ht.2⟩
  | _ => exact h
theorem RHs_tag : ∀ (xs : List HV) (vs : List Value) (fp : List Nat), RHs g im w xs vs fp → HV.Tgs rt xs → RHs g (imr rt im) w xs vs fp
  | [], vs, fp, h, _ => h
  | x :: xs, vs, fp, h, ht => by
    obtain ⟨v, vs', f1, f2, rfl, rfl, h1, h2⟩ := h
    exact ⟨v, vs', f1, f2, rfl, rfl, RH_tag x v f1 h1 ht.1, RHs_tag xs vs' f2 h2 ht.2⟩
mutual
theorem RA_tag : ∀ (x : AV) (v : Value) (fp : List Nat), RA g im w x v fp → x.Tg rt → RA g (imr rt im) w x v fp
  | .h x, v, fp, h, ht => by simp only [RA, AV.Tg] at h ht ⊢; exact RH_tag x v fp h ht
  | .agg xs, v, fp, h, ht => by
    simp only [RA, AV.Tg] at h ht ⊢
    obtain ⟨cs, h1, h2⟩ := h
    exact ⟨cs, h1, RHs_tag xs cs fp h2 ht⟩
  | .tup xs, v, fp, h, ht => by
    simp only [RA, AV.Tg] at h ht ⊢
    obtain ⟨cs, h1, h2⟩ := h
    exact ⟨cs, h1, RAs_tag xs cs fp h2 ht⟩
  | .top, v, fp, h, _ => by simpa only [RA] using h
theorem RAs_tag : ∀ (xs : List AV) (vs : List Value) (fp : List Nat), RAs g im w xs vs fp → AV.Tgs rt xs → RAs g (imr rt im) w xs vs fp
  | [], vs, fp, h, _ => by simpa only [RAs] using h
  | x :: xs, vs, fp, h, ht => by
    simp only [RAs, AV.Tgs] at h ht ⊢
    obtain ⟨v, vs', f1, f2, rfl, rfl, h1, h2⟩ := h
    exact ⟨v, vs', f1, f2, rfl, rfl, RA_tag x v f1 h1 ht.1, RAs_tag xs vs' f2 h2 ht.2⟩
end
theorem RO_tag (bi : BI) (o : Ob) (fp : List Nat) (h : RO g im w bi o fp) (ht : o.Tg rt) : RO g (imr rt im) w bi o fp := by
  cases o with
  | arr ty e xs =>
    obtain ⟨h1, h2, h3 | ⟨b, cur, f, h4, rfl, h6, h7, h8⟩⟩ := h
    · exact ⟨h1, h2, .inl h3⟩
    · exact ⟨h1, h2, .inr ⟨b, cur, f, h4, rfl, h6, h7, RL_tag xs b 0 f h8 ht⟩⟩
  | box ty xs =>
    obtain ⟨b, cs, f, h4, rfl, h6, h8⟩ := h
    exact ⟨b, cs, f, h4, rfl, h6, RHs_tag xs cs f h8 ht⟩
  | hrr ty e xs =>
    obtain ⟨h1, h2, h3 | ⟨b, cur, f, us, h4, rfl, h6, h7, h8, h9⟩⟩ := h
    · exact ⟨h1, h2, .inl h3⟩
    · exact ⟨h1, h2, .inr ⟨b, cur, f, us, h4, rfl, h6, h7, RHs_tag xs us f h8 ht, h9⟩⟩
theorem HR_tag : ∀ (k : Nat) (os : List Ob) (fp : List Nat), HR g im w (num k os) fp → Ob.Tgs rt os → HR g (imr rt im) w (num k os) fp
  | k, [], fp, h, _ => h
  | k, o :: os, fp, h, ht => by
    obtain ⟨bi, f1, f2, h1, rfl, h3, h4⟩ := h
    exact ⟨bi, f1, f2, h1, rfl, RO_tag bi o f1 h3 ht.1, HR_tag (k + 1) os f2 h4 ht.2⟩
end

/-! ### from a body to a contract -/
def numA (k : Nat) : List AV → List (Nat × AV)
  | [] => []
  | x :: xs => (k, x) :: numA (k + 1) xs
def AS.enter (args : List AV) (hin : List Ob) : AS := { fr := numA 0 args, hp := num 0 hin, nx := hin.length }
/-- What a result variable holds. -/
def rv (te : TE) (s : AS) : ResultVar → Option AV
  | .tmp t => look t s.fr
  | .cell a t => match look a s.fr, look t te with
    | some (.h (.ptr id o)), some inf => match look id s.hp with
      | some (.box _ cs) => loadH inf (cs.drop o)
      | _ => none
    | _, _ => none
def rvs (te : TE) (s : AS) : List ResultVar → Option (List AV)
  | [] => some []
  | r :: rs => match rv te s r, rvs te s rs with
    | some x, some xs => some (x :: xs)
    | _, _ => none
def tupOf : List AV → AV
  | [x] => x
  | xs => .tup xs
/-- What must hold where the body ends. -/
structure Fin (te : TE) (k : Nat) (rs : List ResultVar) (rt : List Nat) (Post : AV → List Ob → Prop) (s : AS) (xs : List AV) (r : List (Nat × Nat)) (x : AV) (hout : List Ob) : Prop where
  res : rvs te s rs = some xs
  len : k ≤ hout.length
  ks : r.all (fun p => Nat.blt p.1 hout.length) = true
  kk : fixk r k = true
  val : tupOf xs = x.ren (sg r s.nx)
  hp : LeH (sg r s.nx) (num 0 hout) s.hp
  tg : x.Tg rt
  th : Ob.Tgs rt hout
  post : Post x hout
def resOne (tmps : Array Value) : ResultVar → Sem Value
  | .tmp t => pure (tmps.getD t undef)
  | .cell c t => do loadVar t (← asAddr (tmps.getD c undef))
/-- The end of a body: what is asked of it. -/
def FinQ (te : TE) (k : Nat) (rs : List ResultVar) (rt : List Nat) (Post : AV → List Ob → Prop) : Exit → AS → Prop := fun e s =>
  (e = .normal ∨ e = .ret) ∧ ∃ xs r x hout, Fin te k rs rt Post s xs r x hout
theorem rv_run {E : Env} {te : TE} (hte : teOk E.P te = true) {g : Ga} {im : Im} {fps : List Nat} {s : AS} {a : Act} {w : World} (hs : SimF E g im fps s a w) {r : ResultVar} {x : AV} (h : rv te s r = some x) :
    ∃ v, RA g im w x v [] ∧ (resOne a.tmps r).run E.P w = .ok v w := by
  cases r with
  | tmp t => exact ⟨_, hs.fr t x h, rfl⟩
  | cell c t =>
    simp only [rv] at h
    split at h
    · rename_i id o inf hx hl
      split at h
      · rename_i ty cs hb
        have hv := hs.fr _ _ hx
        simp only [RA, RH] at hv
        obtain ⟨_, bi, b, hg, hba, e⟩ := hv
        obtain ⟨bi', f1, f2, f3, hg', hf, hro⟩ := look_HR hs.hp hb
        obtain rfl : bi = bi' := by rw [hg] at hg'; exact Option.some.inj hg'
        obtain ⟨b', vs, f, hb', hf2, hh, hr⟩ := hro
        obtain rfl : b = b' := by rw [hba] at hb'; exact Option.some.inj hb'
        obtain ⟨f', hr'⟩ := RHs_drop cs vs f o hr
        obtain ⟨h1, h2⟩ := loadH_RA (teOk_look hte hl).one h hr'
        have hrun := run_load_cells (P := E.P) hte hl w b o ((vs.drop o).take inf.sz) h1 (fun j u hu => by
            rw [cell_of_row w b (o + j) vs.toArray ty (0, 0) hh]
            rw [List.getElem?_take] at hu
            split at hu
            · rw [List.getElem?_drop] at hu
              simpa using hu
            · cases hu)
        refine ⟨_, h2, ?_⟩
        simp only [resOne, e, asAddr, Sem.run_bind, Sem.run_pure, Result.andThen_ok]
        simpa [Instr.loadAt, Instr.sureAddr] using hrun
      · cases h
    · cases h
theorem rvs_run {E : Env} {te : TE} (hte : teOk E.P te = true) {g : Ga} {im : Im} {fps : List Nat} {s : AS} {a : Act} {w : World} (hs : SimF E g im fps s a w) : ∀ {rs : List ResultVar} {xs : List AV}, rvs te s rs = some xs →
    ∃ vs, RAs g im w xs vs [] ∧ (rs.mapM (resOne a.tmps)).run E.P w = .ok vs w
  | [], xs, h => by simp only [rvs, Option.some.injEq] at h; subst h; exact ⟨[], by simp [RAs], by simp⟩
  | r :: rs, xs, h => by
    simp only [rvs] at h
    split at h
    · rename_i x ys hx hys
      injection h with h; subst h
      obtain ⟨v, h1, h2⟩ := rv_run hte hs hx
      obtain ⟨vs, h3, h4⟩ := rvs_run hte hs hys
      refine ⟨v :: vs, ?_, ?_⟩
      · simp only [RAs]; exact ⟨v, vs, [], [], rfl, rfl, h1, h3⟩
      · rw [List.mapM_cons, Sem.run_bind, h2]
        simp only [Result.andThen_ok, Sem.run_bind, h4, Sem.run_pure]
    · cases h
theorem RAs_length {g : Ga} {im : Im} {w : World} : ∀ (xs : List AV) (vs : List Value) (fp : List Nat), RAs g im w xs vs fp → vs.length = xs.length
  | [], vs, fp, h => by simp only [RAs] at h; rw [h.1]; rfl
  | x :: xs, vs, fp, h => by
    simp only [RAs] at h
    obtain ⟨v, vs', f1, f2, rfl, rfl, h1, h2⟩ := h
    simp [RAs_length xs vs' f2 h2]
theorem results_run {E : Env} {te : TE} (hte : teOk E.P te = true) {g : Ga} {im : Im} {fps : List Nat} {s : AS} {a : Act} {w : World} (hs : SimF E g im fps s a w) {fn : Func} {xs : List AV} (h : rvs te s fn.results.toList = some xs) :
    ∃ v, RA g im w (tupOf xs) v [] ∧ (results fn a.tmps).run E.P w = .ok v w := by
  obtain ⟨vs, h1, h2⟩ := rvs_run hte hs h
  have hl := RAs_length _ _ _ h1
  have he : results fn a.tmps = (do
      let vs ← fn.results.mapM (resOne a.tmps)
      pure (if h : vs.size = 1 then vs[0] else .tuple vs)) := by
    unfold results
    congr 1
  rw [he, Sem.run_bind]
  have hm : (fn.results.mapM (resOne a.tmps)).run E.P w = .ok vs.toArray w := by
    rw [Array.mapM_eq_mapM_toList]
    simp [h2]
  rw [hm]
  simp only [Result.andThen_ok, Sem.run_pure]
  match xs, vs, hl, h1 with
  | [], [], _, h1 => exact ⟨_, by simp only [tupOf, RA]; exact ⟨[], rfl, h1⟩, rfl⟩
  | [x], [v], _, h1 =>
    refine ⟨_, ?_, rfl⟩
    simp only [RAs] at h1
    obtain ⟨v', vs', f1, f2, h3, h4, h5, _⟩ := h1
    obtain ⟨rfl, rfl⟩ := List.cons.inj h3
    obtain ⟨rfl, rfl⟩ := List.append_eq_nil_iff.1 h4.symm
    simpa [tupOf] using h5
  | x :: y :: zs, v :: u :: us, _, h1 =>
    refine ⟨_, ?_, rfl⟩
    simp only [tupOf, RA]
    exact ⟨_, by simp, h1⟩
theorem numA_look {g : Ga} {im : Im} {w : World} : ∀ (xs : List AV) (vs : List Value) (k : Nat) (pre post : List Value) (t : Nat) (x : AV), RAs g im w xs vs [] → pre.length = k → look t (numA k xs) = some x → RA g im w x ((pre ++ (vs ++ post)).toArray.getD t undef) []
  | [], vs, k, pre, post, t, x, h, _, hl => by simp [numA, look] at hl
  | y :: ys, vs, k, pre, post, t, x, h, hk, hl => by
    simp only [RAs] at h
    obtain ⟨v, vs', f1, f2, rfl, hf, h1, h2⟩ := h
    obtain ⟨rfl, rfl⟩ := List.append_eq_nil_iff.1 hf.symm
    by_cases ht : t = k
    · subst ht
      simp only [numA, look_cons_eq, Option.some.injEq] at hl
      subst hl
      have : (pre ++ (v :: vs' ++ post)).toArray.getD t undef = v := by simp [← hk]
      rw [this]
      exact h1
    · simp only [numA, look_cons_ne ht] at hl
      have := numA_look ys vs' (k + 1) (pre ++ [v]) post t x h2 (by simp [hk]) hl
      simpa using this
theorem RO_mem {g : Ga} {im : Im} {w : World} {bi : BI} {o : Ob} {fp : List Nat} (h : RO g im w bi o fp) {b : Nat} (hb : bi.a = some b) : b ∈ fp := by
  cases o with
  | arr ty e xs =>
    obtain ⟨_, _, ⟨h3, _⟩ | ⟨b', cur, f, h4, rfl, _⟩⟩ := h
    · rw [hb] at h3; cases h3
    · rw [hb] at h4; injection h4 with h4; subst h4; exact List.mem_cons_self
  | box ty xs =>
    obtain ⟨b', cs, f, h4, rfl, _⟩ := h
    rw [hb] at h4; injection h4 with h4; subst h4; exact List.mem_cons_self
  | hrr ty e xs =>
    obtain ⟨_, _, ⟨h3, _⟩ | ⟨b', cur, f, us, h4, rfl, _⟩⟩ := h
    · rw [hb] at h3; cases h3
    · rw [hb] at h4; injection h4 with h4; subst h4; exact List.mem_cons_self
theorem HR_num_mem {g : Ga} {im : Im} {w : World} : ∀ (k : Nat) (os : List Ob) (fp : List Nat), HR g im w (num k os) fp → ∀ i bi b, k ≤ i → i < k + os.length → g i = some bi → bi.a = some b → b ∈ fp
  | k, [], fp, _, i, bi, b, h1, h2, _, _ => by simp at h2; omega
  | k, o :: os, fp, h, i, bi, b, h1, h2, h3, h4 => by
    obtain ⟨bi', f1, f2, h5, rfl, h6, h7⟩ := h
    by_cases hi : i = k
    · subst hi
      rw [h3] at h5
      injection h5 with h5; subst h5
      exact List.mem_append_left _ (RO_mem h6 h4)
    · exact List.mem_append_right _ (HR_num_mem (k + 1) os f2 h7 i bi b (by omega) (by simp at h2; omega) h3 h4)
/-- **A body proves a contract.** -/
theorem ac_of_awp {P : Program} {te : TE} (hte : teOk P te = true) {f : FuncId} {fn : Func} {c : Code} {nt : Nat} {args : List AV} {hin : List Ob} {rt : List Nat} {Post : AV → List Ob → Prop}
    (hf : P.funcs[f]? = some fn) (hb : fn.body = some c) (hn : (fn.name == "runtime.NumGoroutine") = false) (hnt : fn.ntmps = nt) (hle : args.length ≤ nt) (hrt : rt.all (fun t => Nat.blt t 100) = true)
    (h : ∀ w0 ps g0 im0, AWP ⟨P, te, hte, nt, w0, ps, hin.length, g0, im0⟩ c (AS.enter args hin) (FinQ te hin.length fn.results.toList rt Post)) : AC P f args hin rt Post := by
  refine ⟨⟨fn, hf, hn, by rw [hb]; rfl⟩, ?_⟩
  intro w g im vs fps hargs hhr hnd hfp him hgn hgl
  refine calls_of_wp hf hb ?_
  have hl := RAs_length _ _ _ hargs
  let E : Env := ⟨P, te, hte, nt, w, (· ∈ fps), hin.length, g, im⟩
  have hsim : Sim E g im (AS.enter args hin) { tmps := vs.toArray ++ Array.replicate (fn.ntmps - vs.toArray.size) undef, defers := [] } w := by
    refine ⟨fps, rfl, ?_, ?_, hhr, hnd, fun b hb => (hfp b hb).1, fun b hb => (hfp b hb).2, fun b hb => .inr hb, hgn, hgl, him, ⟨rfl, rfl, rfl, Nat.le_refl _, fun _ _ _ => rfl⟩, Nat.le_refl _, fun _ _ => rfl, fun _ _ h => h, fun _ _ _ h => .inl h⟩
    · simp [hnt, E, hl]; omega
    · intro t x hx
      have := numA_look args vs 0 [] (List.replicate (fn.ntmps - vs.length) undef) t x hargs rfl hx
      have he : (vs.toArray ++ Array.replicate (fn.ntmps - vs.toArray.size) undef) = ([] ++ (vs ++ List.replicate (fn.ntmps - vs.length) undef)).toArray := by simp
      simp only [he]
      exact this
  refine wp_mono (h w (· ∈ fps) g im g im _ w hsim) ?_
  rintro e a' w' ⟨g', im', s, ⟨fps', hs⟩, he, xs, r, x, hout, hfin⟩
  obtain ⟨v, hv, hrun⟩ := results_run (E := E) hte hs hfin.res
  obtain ⟨fps'', h1, h2, h3⟩ := LeH_HR _ _ _ hs.hp hfin.hp hs.nd
  have hgn' : ∀ j, hout.length ≤ j → g' (sg r s.nx j) = none := by
    intro j hj
    apply hs.gn
    unfold sg
    cases hl : look j r with
    | none => simp
    | some i =>
      exfalso
      obtain ⟨l1, l2, hl, _⟩ := look_split hl
      have := List.all_eq_true.1 hfin.ks (j, i) (by rw [hl]; simp)
      have : j < hout.length := Nat.lt_of_succ_le (Nat.le_of_ble_eq_true this)
      omega
  let im2 : Im := fun t b => if t < 100 then im' t b else im t b
  have hi2 : ∀ t b, im2 t b → im' t b := fun t b h => by
    simp only [im2] at h
    split at h
    · exact h
    · exact hs.i0 t b h
  have hrt2 : ∀ t b, imr rt im' t b → imr rt im2 t b := fun t b h => ⟨h.1, by
    have := List.all_eq_true.1 hrt t h.1
    have : t < 100 := Nat.lt_of_succ_le (Nat.le_of_ble_eq_true this)
    simp only [im2]
    rw [if_pos this]
    exact h.2⟩
  have hmono : ∀ t b, imr rt im' t b → imr rt im2 t b ∧ w'.heap[b]? = w'.heap[b]? := fun t b h => ⟨hrt2 t b h, rfl⟩
  have hres : Back w im g fps hin.length rt x hout v w' (fun j => g' (sg r s.nx j)) im2 fps'' := by
    refine ⟨hfin.len, ?_, ?_, h2, fun b hb => ⟨hs.lt b (h3 b hb), fun t h => hs.ni b (h3 b hb) t (hi2 t b h), hs.mine b (h3 b hb)⟩, ?_, hgn', fun i bi b h1 h2 => hs.gl _ bi b h1 h2, ?_, ?_, ?_, fun t b h => hs.il t b (hi2 t b h), hs.kp⟩
    · rw [hfin.val] at hv
      exact RA_mono (fun _ _ h => h) hmono _ _ _ (fun _ _ => rfl) (RA_tag _ _ _ (RA_ren x v [] hv) hfin.tg)
    · exact HR_mono (fun _ _ h => h) hmono _ _ (fun _ _ => rfl) (HR_tag _ _ _ h1 hfin.th)
    · intro i hi
      show g' (sg r s.nx i) = _
      rw [fixk_sg hfin.kk i hi]
      exact hs.g0 i hi
    · intro i bi b hi hg hb
      by_cases hlt : i < hout.length
      · exact hs.mine b (h3 b (HR_num_mem 0 hout fps'' h1 i bi b (Nat.zero_le _) (by omega) hg hb))
      · rw [hgn' i (by omega)] at hg; cases hg
    · intro t b h
      simp only [im2]
      split
      · exact hs.i0 t b h
      · exact h
    · intro t b h
      simp only [im2] at h
      split at h
      · exact hs.i1 t b (by assumption) h
      · exact .inl h
  have hend : bodyPost P fn (fun e w' => ∃ r hout v g' im' fps', Post r hout ∧ e = .returned v ∧ Back w im g fps hin.length rt r hout v w' g' im' fps') e a' w' := by
    rcases he with rfl | rfl
    · exact ⟨hs.dfr, v, hrun, x, hout, v, _, im2, fps'', hfin.post, rfl, hres⟩
    · exact ⟨hs.dfr, v, hrun, x, hout, v, _, im2, fps'', hfin.post, rfl, hres⟩
  exact hend
end Go.Proofs.Ytjijkdhjfanpaaa
