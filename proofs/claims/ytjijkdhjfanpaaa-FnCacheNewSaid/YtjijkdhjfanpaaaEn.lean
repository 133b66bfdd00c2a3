/- The engine, part n: values that are written out, sums that wrap, calls that lend nothing, rows of one kind of element. -/
import Derived.Test.YtjijkdhjfanpaaaEm
namespace Go.Proofs.Ytjijkdhjfanpaaa
open Go.RowKit
/-! ### values that are written out -/
theorem fill_more {p p' : Nat → Option (Nat × Nat)} : ∀ (l : List (Nat × Value)) (us r : Array Value), Instr.fill p us l = some r → (∀ i x, p i = some x → p' i = some x) → Instr.fill p' us l = some r
  | [], us, r, h, _ => h
  | (i, v) :: l, us, r, h, hp => by
    simp only [Instr.fill] at h ⊢
    cases hi : p i with
    | none => rw [hi] at h; cases h
    | some x =>
      obtain ⟨o, sz⟩ := x
      rw [hp i _ hi]
      rw [hi] at h
      simp only at h ⊢
      split at h
      · cases h
      · rename_i hc
        rw [if_neg hc]
        exact fill_more l _ r h hp
def plc (te : TE) (fs : List (Nat × Nat)) (i : Nat) : Option (Nat × Nat) := match fs[i]? with
  | some (o, t) => match look t te with
    | some inf => some (o, inf.sz)
    | none => none
  | none => none
section
variable {E : Env} {te : TE} {os : Option (List Nat)} {fl : Bool} {s : AS}
theorem ps_build {t : TypeId} {parts : Array (Nat × Operand)} {fs : List (Nat × Nat)} {sz b' : Nat} {zs : List CV} {cs : List HV} (hte : teOk E.P te = true) (ht : look t te = some ⟨.struct fs, sz, b', zs⟩) (hlay : lay (plc te fs) s (zs.map HV.c) parts.toList = some cs) : PS E os fl s (.build t parts) (.agg cs) := by
  intro g im ac w M n0 ⟨fps, hs⟩ hI
  obtain ⟨⟨i, z, h1, h2, h3, h4, h5, h6⟩, h7, _⟩ := teOk_look hte ht
  obtain ⟨us', hfill, hr⟩ := lay_fill hs parts.toList _ z.cells cs hlay (areV_RHs _ _ h5)
  cases hp : E.P.underlying t with
  | none => simp [TI.is, hp] at h7
  | some de =>
    cases de <;> simp [TI.is, hp] at h7
    rename_i fields
    obtain ⟨hf, hall⟩ := h7
    have hpl : ∃ places, fields.toList.mapM (fun f => (E.P.info? f.type).map fun i => (f.offset, i.size)) = some places ∧ ∀ i x, plc te fs i = some x → places[i]? = some x := by
      subst hf
      have hall' : ∀ f ∈ fields.toList, ∃ i, E.P.info? f.type = some i := by
        intro f hf
        obtain ⟨j, hj, e⟩ := Array.getElem_of_mem (Array.mem_def.2 hf)
        have := hall j hj
        rw [e] at this
        split at this
        · rename_i i hi; exact ⟨i, hi⟩
        · cases this
      generalize fields.toList = l at hall'
      clear hfill hlay hr
      induction l with
      | nil => exact ⟨[], by simp, fun i x h => by simp [plc] at h⟩
      | cons f l ih =>
        obtain ⟨pl, hp1, hp2⟩ := ih fun g hg => hall' g (List.mem_cons_of_mem _ hg)
        obtain ⟨fi, hfi⟩ := hall' f List.mem_cons_self
        refine ⟨(f.offset, fi.size) :: pl, by simp [hfi, hp1], fun i x h => ?_⟩
        cases i with
        | zero =>
          simp only [plc, List.map_cons, List.getElem?_cons_zero] at h
          split at h
          · rename_i inf hl
            injection h with h
            subst h
            obtain ⟨⟨i', _, k1, k2, _⟩, _⟩ := teOk_look hte hl
            have : fi = i' := by rw [hfi] at k1; exact Option.some.inj k1
            subst this
            simp [k2]
          · cases h
        | succ i =>
          have := hp2 i x (by simpa [plc] using h)
          simpa using this
    obtain ⟨places, hpl1, hpl2⟩ := hpl
    refine ⟨.agg us', ?_, fun w' _ o ho => ?_⟩
    · simp only [RA]
      exact ⟨us'.toList, by simp, hr⟩
    · have hb : E.P.built t ((parts.map fun (i, x) => (i, ac.eval x)).toList) = some us' := by
        unfold Program.built
        simp only [h1, hp, h4, hpl1]
        have := fill_more _ _ _ hfill (p' := fun i => places.toArray[i]?) fun i x h => by simpa using hpl2 i x h
        rw [← this]
        congr 1
        simp
      have := run_build (P := E.P) w' t (parts.map fun (i, x) => (i, ac.eval x)) us' hb
      simp only [execOp, ho, Sem.run_bind, this, Result.andThen_ok, Sem.run_pure]
/-- A sum, a difference, a product as the machine has it. -/
theorem ps_arw {op : BinOp} {t t' : TypeId} {x y : Operand} {a b r : Int} (hx : s.eval x = some (.h (.c (.int .i64 a)))) (hy : s.eval y = some (.h (.c (.int .i64 b)))) (hr : arI op a b = some r) :
    PS E os fl s (.binOp op t x y t') (.h (.c (.int .i64 (IntKind.i64.wrap r)))) := by
  intro g im ac w M n0 ⟨fps, hs⟩ hI
  have e1 := RA_int (hs.eval hx)
  have e2 := RA_int (hs.eval hy)
  refine ⟨_, RA_mkInt _ _, fun w' _ o ho => ?_⟩
  cases op <;> simp [arI] at hr <;> subst hr <;> simp [execOp, ho, e1, e2, eqGuard, binOp, Op.intArith]
end
/-! ### calls that lend nothing -/
def HV.noh : HV → Bool
  | .c _ | .rp .. => true
  | _ => false
def AV.noh : AV → Bool
  | .h x => x.noh
  | .agg xs => xs.all HV.noh
  | _ => false
theorem bor_noh {rest : List (Nat × Ob)} {ps : List Nat} {T : Nat} : ∀ (xs : List AV), xs.all AV.noh = true → BorAs rest ps T xs xs
  | [], _ => trivial
  | x :: xs, h => by
    simp only [List.all_cons, Bool.and_eq_true] at h
    have hH : ∀ y : HV, y.noh = true → BorH rest ps T y y := by
      intro y hy
      cases y <;> simp [HV.noh] at hy <;> rfl
    have hHs : ∀ ys : List HV, ys.all HV.noh = true → BorHs rest ps T ys ys := by
      intro ys
      induction ys with
      | nil => intro _; trivial
      | cons y ys ih =>
        intro hy
        simp only [List.all_cons, Bool.and_eq_true] at hy
        exact ⟨hH y hy.1, ih hy.2⟩
    refine ⟨?_, bor_noh xs h.2⟩
    cases x with
    | h y => exact hH y h.1
    | agg ys => exact hHs ys h.1
    | tup => simp [AV.noh] at h
    | top => simp [AV.noh] at h
section
variable {E : Env} {l rest : List Oper} {s : AS} {fr : List (Nat × AV)} {hp : List (Nat × Ob)} {nx : Nat} {o : Oper} {Q : Exit → AS → Prop} {d : Nat}
theorem eCall0 {f : FuncId} {as : List Operand} {xs : List AV} {rt : List Nat} {Post : AV → List Ob → Prop} (hc : AC E.P f xs [] rt Post) (hop : callOf ⟨fr, hp, nx⟩ o.op = some (f, as)) (hev : AS.evals ⟨fr, hp, nx⟩ as = some xs) (hb : xs.all AV.noh = true)
    (hd : o.dst = some d) (hn : Nat.blt d E.nt = true) (hT : 99 ∉ rt) :
    ES E ⟨fr, hp, nx⟩ o (some []) (fun x => ∃ r hout, Post r hout ∧ x = ⟨(d, r.ren (rho [] nx)) :: fr, named (rho [] nx) 0 hout ++ hp, nx + hout.length⟩) :=
  eCall hc 99 [] hop hev rfl rfl hd hn (bor_noh _ hb) hT
theorem dC0 {cert : CT} {nr : Nat} {os ms : List Nat} {fl : Bool} {k : AS → Prop} {i : Nat} {oi : Oper} {f : FuncId} {as : List Operand} {xs : List AV} {rt : List Nat} {Post : AV → List Ob → Prop} (hc : AC E.P f xs [] rt Post) (hi : nth l i = some oi) (hop : callOf ⟨fr, hp, nx⟩ oi.op = some (f, as)) (hev : AS.evals ⟨fr, hp, nx⟩ as = some xs) (hb : xs.all AV.noh = true)
    (hg : gdv l ⟨fr, hp, nx⟩ oi = some true) (hd : oi.dst = some d) (hn : Nat.blt d E.nt = true) (hT : 99 ∉ rt)
    (kk : ∀ r hout, Post r hout → AH E l cert nr os ms false ⟨(d, r.ren (rho [] nx)) :: fr, named (rho [] nx) 0 hout ++ hp, nx + hout.length⟩ k) : AH E l (CT.cons (i, false) cert) nr os ms fl ⟨fr, hp, nx⟩ k :=
  dC hc 99 [] hi hop hev rfl rfl rfl hg hd hn rfl (bor_noh _ hb) hT kk
theorem ren_noh {f : Nat → Nat} {x : AV} (h : x.noh = true) : x.ren f = x := by
  have hH : ∀ y : HV, y.noh = true → y.ren f = y := by
    intro y hy
    cases y <;> simp [HV.noh] at hy <;> rfl
  have hHs : ∀ ys : List HV, ys.all HV.noh = true → HV.rens f ys = ys := by
    intro ys
    induction ys with
    | nil => intro _; rfl
    | cons y ys ih =>
      intro hy
      simp only [List.all_cons, Bool.and_eq_true] at hy
      simp only [HV.rens, hH y hy.1, ih hy.2]
  cases x with
  | h y => simp only [AV.ren, hH y h]
  | agg ys => simp only [AV.ren, hHs ys h]
  | tup => simp [AV.noh] at h
  | top => simp [AV.noh] at h
/-- A call that lends nothing and answers a plain value. -/
theorem pC0 {f : FuncId} {as : List Operand} {xs : List AV} {rt : List Nat} {x : AV} (hc : AC E.P f xs [] rt (fun r h => h = [] ∧ r = x)) (hop : callOf ⟨fr, hp, nx⟩ o.op = some (f, as)) (hev : AS.evals ⟨fr, hp, nx⟩ as = some xs) (hb : xs.all AV.noh = true) (hx : x.noh = true) (hg : gdv l ⟨fr, hp, nx⟩ o = some true)
    (hd : o.dst = some d) (hn : Nat.blt d E.nt = true) (hT : 99 ∉ rt) (k : AL E l rest ⟨(d, x) :: fr, hp, nx⟩ Q) : AL E l (o :: rest) ⟨fr, hp, nx⟩ Q := by
  refine pC (eCall0 hc hop hev hb hd hn hT) hg ?_
  rintro _ _ ⟨rfl, rfl⟩
  rw [ren_noh hx]
  exact k
theorem dC1 {cert : CT} {nr : Nat} {os ms : List Nat} {fl : Bool} {k : AS → Prop} {i : Nat} {oi : Oper} {f : FuncId} {as : List Operand} {xs : List AV} {rt : List Nat} {x : AV} (hc : AC E.P f xs [] rt (fun r h => h = [] ∧ r = x)) (hi : nth l i = some oi) (hop : callOf ⟨fr, hp, nx⟩ oi.op = some (f, as)) (hev : AS.evals ⟨fr, hp, nx⟩ as = some xs) (hb : xs.all AV.noh = true) (hx : x.noh = true)
    (hg : gdv l ⟨fr, hp, nx⟩ oi = some true) (hd : oi.dst = some d) (hn : Nat.blt d E.nt = true) (hT : 99 ∉ rt) (kk : AH E l cert nr os ms false ⟨(d, x) :: fr, hp, nx⟩ k) : AH E l (CT.cons (i, false) cert) nr os ms fl ⟨fr, hp, nx⟩ k := by
  refine dC0 hc hi hop hev hb hg hd hn hT ?_
  rintro _ _ ⟨rfl, rfl⟩
  rw [ren_noh hx]
  exact kk
theorem pBuild {t : TypeId} {parts : Array (Nat × Operand)} {fs : List (Nat × Nat)} {sz b' : Nat} {zs : List CV} {cs : List HV} (ho : o.op = .build t parts) (ht : look t E.te = some ⟨.struct fs, sz, b', zs⟩) (hlay : lay (plc E.te fs) ⟨fr, hp, nx⟩ (zs.map HV.c) parts.toList = some cs)
    (hg : gdv l ⟨fr, hp, nx⟩ o = some true) (hd : o.dst = some d) (hn : Nat.blt d E.nt = true) (k : AL E l rest ⟨(d, .agg cs) :: fr, hp, nx⟩ Q) : AL E l (o :: rest) ⟨fr, hp, nx⟩ Q :=
  al_pd (by rw [ho]; exact ps_build E.hte ht hlay) hg hd hn k
theorem pArw {op : BinOp} {t t' : TypeId} {x y : Operand} {a b r : Int} (ho : o.op = .binOp op t x y t') (hx : AS.eval ⟨fr, hp, nx⟩ x = some (.h (.c (.int .i64 a)))) (hy : AS.eval ⟨fr, hp, nx⟩ y = some (.h (.c (.int .i64 b)))) (hr : arI op a b = some r)
    (hg : gdv l ⟨fr, hp, nx⟩ o = some true) (hd : o.dst = some d) (hn : Nat.blt d E.nt = true) (k : AL E l rest ⟨(d, .h (.c (.int .i64 (IntKind.i64.wrap r)))) :: fr, hp, nx⟩ Q) : AL E l (o :: rest) ⟨fr, hp, nx⟩ Q :=
  al_pd (by rw [ho]; exact ps_arw hx hy hr) hg hd hn k
end
/-! ### a place where roads meet -/
def CutQ (k : Nat) (J : AS → Prop) : Exit → AS → Prop := fun e s' => e = .normal ∧ ∃ r s'', Le k r s' s'' ∧ J s''
/-- What a piece of code comes to, said once, behind all of its cases. -/
theorem awp_cut {E : Env} {s : AS} {a b : Code} {Q : Exit → AS → Prop} (J : AS → Prop) (h : AWP E a s (CutQ E.k J)) (k : ∀ s, J s → AWP E b s Q) : AWP E a s (Sq (fun s' => AWP E b s' Q) Q) := fun g im w0 w hs =>
  wp_mono (h g im w0 w hs) fun e a' w' ⟨g', im', s', h1, h2, r, s'', h3, h4⟩ => by
    subst h2
    exact ⟨_, im', s'', h3.sim h1, k s'' h4⟩
theorem xt_cut {s s'' : AS} {k : Nat} {J : AS → Prop} (r : List (Nat × Nat)) (j : J s'') (h : Le k r s s'') : XT .normal s (CutQ k J) := xt_end (P' := CutQ k J) ⟨rfl, r, s'', h, j⟩
/-! ### rows of one kind of element -/
def rows {α : Type} (f : α → List CV) : List α → List CV
  | [] => []
  | a :: l => f a ++ rows f l
section
variable {α : Type} {f : α → List CV} {n : Nat}
theorem rows_length (hf : ∀ a, (f a).length = n) : ∀ l : List α, (rows f l).length = l.length * n
  | [] => by simp [rows]
  | a :: l => by simp [rows, rows_length hf l, hf a, Nat.add_mul, Nat.add_comm]
theorem rows_append : ∀ l m : List α, rows f (l ++ m) = rows f l ++ rows f m
  | [], m => rfl
  | a :: l, m => by simp [rows, rows_append l m]
theorem rows_one (a : α) : rows f [a] = f a := by simp [rows]
theorem rows_take (hf : ∀ a, (f a).length = n) : ∀ (l : List α) (k : Nat), (rows f l).take (k * n) = rows f (l.take k)
  | [], k => by simp [rows]
  | a :: l, 0 => by simp [rows]
  | a :: l, k + 1 => by
    simp only [rows, List.take_succ_cons]
    rw [Nat.add_mul, Nat.one_mul, Nat.add_comm, List.take_append, List.take_of_length_le (by rw [hf]; omega), hf, Nat.add_sub_cancel_left, rows_take hf l k]
theorem rows_drop (hf : ∀ a, (f a).length = n) : ∀ (l : List α) (k : Nat), (rows f l).drop (k * n) = rows f (l.drop k)
  | [], k => by simp [rows]
  | a :: l, 0 => by simp [rows]
  | a :: l, k + 1 => by
    simp only [rows, List.drop_succ_cons]
    rw [Nat.add_mul, Nat.one_mul, Nat.add_comm, List.drop_append, List.drop_of_length_le (by rw [hf]; omega), hf, Nat.add_sub_cancel_left, List.nil_append, rows_drop hf l k]
theorem rows_at (hf : ∀ a, (f a).length = n) {l : List α} {k : Nat} (h : k < l.length) : (rows f l).drop (k * n) = f l[k] ++ rows f (l.drop (k + 1)) := by
  rw [rows_drop hf, List.drop_eq_getElem_cons h]
  rfl
theorem rows_set (hf : ∀ a, (f a).length = n) {l : List α} {k : Nat} (h : k < l.length) (b : α) : setL (rows f l) (k * n) (f b) = rows f (l.set k b) := by
  unfold setL
  rw [rows_take hf, hf, show k * n + n = (k + 1) * n by rw [Nat.add_mul, Nat.one_mul], rows_drop hf]
  rw [List.set_eq_take_append_cons_drop, if_pos h, rows_append]
  simp [rows]
theorem brws_append (T : Nat) : ∀ xs ys : List CV, CV.brws T (xs ++ ys) = CV.brws T xs ++ CV.brws T ys
  | [], ys => by simp [CV.brws]
  | x :: xs, ys => by simp [CV.brws, brws_append T xs ys]
theorem rows_brws (T : Nat) {g : α → List CV} (hg : ∀ a, CV.brws T (f a) = g a) : ∀ l : List α, CV.brws T (rows f l) = rows g l
  | [] => by simp [rows, CV.brws]
  | a :: l => by simp [rows, brws_append, hg, rows_brws T hg l]
theorem tgs_append {rt : List Nat} : ∀ xs ys : List CV, CV.Tgs rt xs → CV.Tgs rt ys → CV.Tgs rt (xs ++ ys)
  | [], ys, _, h => h
  | x :: xs, ys, h, h' => by
    simp only [CV.Tgs, List.cons_append] at h ⊢
    exact ⟨h.1, tgs_append xs ys h.2 h'⟩
theorem rows_tgs {rt : List Nat} (hf : ∀ a, CV.Tgs rt (f a)) : ∀ l : List α, CV.Tgs rt (rows f l)
  | [] => by simp only [rows, CV.Tgs]
  | a :: l => tgs_append _ _ (hf a) (rows_tgs hf l)
theorem reps_rows (a : α) : ∀ n, reps (f a) n = rows f (List.replicate n a)
  | 0 => rfl
  | n + 1 => by simp [reps, rows, reps_rows a n, List.replicate_succ]
end
end Go.Proofs.Ytjijkdhjfanpaaa
