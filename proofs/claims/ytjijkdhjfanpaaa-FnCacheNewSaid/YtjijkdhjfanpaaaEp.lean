/- The engine, part p: rules for regions that draw, in the order in which they fail early; slices owned. -/
import Derived.Test.YtjijkdhjfanpaaaEo
namespace Go.Proofs.Ytjijkdhjfanpaaa
open Go.RowKit
section
variable {E : Env} {l rest : List Oper} {fr : List (Nat × AV)} {hp : List (Nat × Ob)} {nx : Nat} {o : Oper} {Q : Exit → AS → Prop} {d : Nat}
variable {cert : CT} {nr : Nat} {os ms : List Nat} {fl : Bool} {k : AS → Prop} {i : Nat} {oi : Oper}
theorem dAr {op : BinOp} {t t' : TypeId} {x y : Operand} {a b r : Int} (hi : nth l i = some oi) (ho : oi.op = .binOp op t x y t') (hx : AS.eval ⟨fr, hp, nx⟩ x = some (.h (.c (.int .i64 a)))) (hy : AS.eval ⟨fr, hp, nx⟩ y = some (.h (.c (.int .i64 b)))) (hr : arI op a b = some r)
    (hg : gdv l ⟨fr, hp, nx⟩ oi = some true) (hd : oi.dst = some d) (hn : Nat.blt d E.nt = true) (h1 : -9223372036854775808 ≤ r) (h2 : r ≤ 9223372036854775807) (kk : AH E l cert nr os ms fl ⟨(d, .h (.c (.int .i64 r))) :: fr, hp, nx⟩ k) : AH E l (CT.cons (i, true) cert) nr os ms fl ⟨fr, hp, nx⟩ k :=
  dPS hi (by rw [ho]; exact ps_ar hx hy hr h1 h2) hg hd hn kk
theorem dArw {op : BinOp} {t t' : TypeId} {x y : Operand} {a b r : Int} (hi : nth l i = some oi) (ho : oi.op = .binOp op t x y t') (hx : AS.eval ⟨fr, hp, nx⟩ x = some (.h (.c (.int .i64 a)))) (hy : AS.eval ⟨fr, hp, nx⟩ y = some (.h (.c (.int .i64 b)))) (hr : arI op a b = some r)
    (hg : gdv l ⟨fr, hp, nx⟩ oi = some true) (hd : oi.dst = some d) (hn : Nat.blt d E.nt = true) (kk : AH E l cert nr os ms fl ⟨(d, .h (.c (.int .i64 (IntKind.i64.wrap r)))) :: fr, hp, nx⟩ k) : AH E l (CT.cons (i, true) cert) nr os ms fl ⟨fr, hp, nx⟩ k :=
  dPS hi (by rw [ho]; exact ps_arw hx hy hr) hg hd hn kk
theorem dQuo {t t' : TypeId} {x y : Operand} {a b : Int} (hi : nth l i = some oi) (ho : oi.op = .binOp .quo t x y t') (hx : AS.eval ⟨fr, hp, nx⟩ x = some (.h (.c (.int .i64 a)))) (hy : AS.eval ⟨fr, hp, nx⟩ y = some (.h (.c (.int .i64 b))))
    (hg : gdv l ⟨fr, hp, nx⟩ oi = some true) (hd : oi.dst = some d) (hn : Nat.blt d E.nt = true) (h0 : 0 ≤ a) (h1 : 0 < b) (h2 : a ≤ 9223372036854775807) (kk : AH E l cert nr os ms fl ⟨(d, .h (.c (.int .i64 (a / b)))) :: fr, hp, nx⟩ k) : AH E l (CT.cons (i, true) cert) nr os ms fl ⟨fr, hp, nx⟩ k :=
  dPS hi (by rw [ho]; exact ps_quo hx hy h0 h1 h2) hg hd hn kk
theorem dRem {t t' : TypeId} {x y : Operand} {a b : Int} (hi : nth l i = some oi) (ho : oi.op = .binOp .rem t x y t') (hx : AS.eval ⟨fr, hp, nx⟩ x = some (.h (.c (.int .i64 a)))) (hy : AS.eval ⟨fr, hp, nx⟩ y = some (.h (.c (.int .i64 b))))
    (hg : gdv l ⟨fr, hp, nx⟩ oi = some true) (hd : oi.dst = some d) (hn : Nat.blt d E.nt = true) (h0 : 0 ≤ a) (h1 : 0 < b) (kk : AH E l cert nr os ms fl ⟨(d, .h (.c (.int .i64 (a % b)))) :: fr, hp, nx⟩ k) : AH E l (CT.cons (i, true) cert) nr os ms fl ⟨fr, hp, nx⟩ k :=
  dPS hi (by rw [ho]; exact ps_rem hx hy h0 h1) hg hd hn kk
theorem dConv {src dst : TypeId} {x : Operand} {k' : IntKind} {a : Int} {inf inf' : TInf} (hi : nth l i = some oi) (ho : oi.op = .convert src dst x) (hx : AS.eval ⟨fr, hp, nx⟩ x = some (.h (.c (.int k' a)))) (hs1 : look src E.te = some inf) (hd1 : look dst E.te = some inf') (hd2 : inf'.d = .int .i64)
    (hg : gdv l ⟨fr, hp, nx⟩ oi = some true) (hd : oi.dst = some d) (hn : Nat.blt d E.nt = true) (h0 : -9223372036854775808 ≤ a) (h1 : a ≤ 9223372036854775807) (kk : AH E l cert nr os ms fl ⟨(d, .h (.c (.int .i64 a))) :: fr, hp, nx⟩ k) : AH E l (CT.cons (i, true) cert) nr os ms fl ⟨fr, hp, nx⟩ k :=
  dPS hi (by rw [ho]; exact ps_conv E.hte hx hs1 hd1 hd2 h0 h1) hg hd hn kk
/-- The place of an element of a slice that is only read. -/
theorem dIx {t e : Nat} {sz b' : Nat} {zs : List CV} {x ix : Operand} {tg n : Nat} {xs : List CV} {j : Int} {inf : TInf} {y : CV} {ys : List CV} (m : Nat) (hi : nth l i = some oi) (ho : oi.op = .indexAddr t x ix)
    (hx : AS.eval ⟨fr, hp, nx⟩ x = some (.h (.c (.rd tg n xs)))) (hj : AS.eval ⟨fr, hp, nx⟩ ix = some (.h (.c (.int .i64 j)))) (ht : look t E.te = some ⟨.slice e, sz, b', zs⟩) (he : look e E.te = some inf)
    (hg : gdv l ⟨fr, hp, nx⟩ oi = some true) (hd : oi.dst = some d) (hn : Nat.blt d E.nt = true) (hk : j = (m : Int)) (hlt : m < n) (hdr : xs.drop (m * inf.sz) = y :: ys) (kk : AH E l cert nr os ms fl ⟨(d, .h (.rp tg (y :: ys))) :: fr, hp, nx⟩ k) : AH E l (CT.cons (i, true) cert) nr os ms fl ⟨fr, hp, nx⟩ k :=
  dPS hi (by rw [ho]; exact ps_ix m E.hte hx hj hk hlt ht he hdr) hg hd hn kk
/-- .. of a row of the call's own. -/
theorem dIxo {t e : Nat} {sz b' : Nat} {zs : List CV} {x ix : Operand} {id j n : Nat} {ty e' : Nat} {xs : List CV} {q : Int} {inf : TInf} (m : Nat) (hi : nth l i = some oi) (ho : oi.op = .indexAddr t x ix)
    (hx : AS.eval ⟨fr, hp, nx⟩ x = some (.h (.sl id j n))) (hj : AS.eval ⟨fr, hp, nx⟩ ix = some (.h (.c (.int .i64 q)))) (ht : look t E.te = some ⟨.slice e, sz, b', zs⟩) (he : look e E.te = some inf) (hob : look id hp = some (.arr ty e' xs)) (hes : e' = inf.sz)
    (hg : gdv l ⟨fr, hp, nx⟩ oi = some true) (hd : oi.dst = some d) (hn : Nat.blt d E.nt = true) (hk : q = (m : Int)) (hlt : m < n) (kk : AH E l cert nr os ms fl ⟨(d, .h (.ptr id ((j + m) * inf.sz))) :: fr, hp, nx⟩ k) : AH E l (CT.cons (i, true) cert) nr os ms fl ⟨fr, hp, nx⟩ k :=
  dPS hi (by rw [ho]; exact ps_ixo m E.hte hx hj hk hlt ht he hob hes) hg hd hn kk
/-- A load out of a row of the call's own. -/
theorem dLdo {t : Nat} {x : Operand} {id off : Nat} {ty e : Nat} {xs zs : List CV} {inf : TInf} {v : AV} (hi : nth l i = some oi) (ho : oi.op = .load t x) (hx : AS.eval ⟨fr, hp, nx⟩ x = some (.h (.ptr id off))) (hob : look id hp = some (.arr ty e xs)) (hl : look t E.te = some inf)
    (hg : gdv l ⟨fr, hp, nx⟩ oi = some true) (hd : oi.dst = some d) (hn : Nat.blt d E.nt = true) (hid : okid (some os) id = true) (hdr : xs.drop off = zs) (h : loadH inf ((zs.take inf.sz).map HV.c) = some v) (kk : AH E l cert nr os ms fl ⟨(d, v) :: fr, hp, nx⟩ k) : AH E l (CT.cons (i, true) cert) nr os ms fl ⟨fr, hp, nx⟩ k :=
  dPS hi (by rw [ho]; exact ps_ldo E.hte hx hob hl hid hdr h) hg hd hn kk
/-- A cut of a slice that is only read. -/
theorem dCut {t e : Nat} {sz b' : Nat} {zs : List CV} {x : Operand} {lo hi' : Option Operand} {tg n : Nat} {xs ys : List CV} {il ih : Int} {inf : TInf} (lw h : Nat) (hi : nth l i = some oi) (ho : oi.op = .slice t x lo hi' none)
    (hx : AS.eval ⟨fr, hp, nx⟩ x = some (.h (.c (.rd tg n xs)))) (hlo : bnd ⟨fr, hp, nx⟩ 0 lo = some il) (hhi : bnd ⟨fr, hp, nx⟩ n hi' = some ih) (ht : look t E.te = some ⟨.slice e, sz, b', zs⟩) (he : look e E.te = some inf)
    (hg : gdv l ⟨fr, hp, nx⟩ oi = some true) (hd : oi.dst = some d) (hn : Nat.blt d E.nt = true) (hl : il = (lw : Int)) (hh : ih = (h : Int)) (h1 : lw ≤ h) (h2 : h ≤ n) (hdr : (xs.drop (lw * inf.sz)).take ((h - lw) * inf.sz) = ys) (kk : AH E l cert nr os ms fl ⟨(d, .h (.c (.rd tg (h - lw) ys))) :: fr, hp, nx⟩ k) : AH E l (CT.cons (i, true) cert) nr os ms fl ⟨fr, hp, nx⟩ k :=
  dPS hi (by rw [ho]; exact ps_cut lw h E.hte hx hlo hhi hl hh h1 h2 ht he hdr) hg hd hn kk
theorem dBuild {t : TypeId} {parts : Array (Nat × Operand)} {fs : List (Nat × Nat)} {sz b' : Nat} {zs : List CV} {cs : List HV} (hi : nth l i = some oi) (ho : oi.op = .build t parts) (ht : look t E.te = some ⟨.struct fs, sz, b', zs⟩) (hlay : lay (plc E.te fs) ⟨fr, hp, nx⟩ (zs.map HV.c) parts.toList = some cs)
    (hg : gdv l ⟨fr, hp, nx⟩ oi = some true) (hd : oi.dst = some d) (hn : Nat.blt d E.nt = true) (kk : AH E l cert nr os ms fl ⟨(d, .agg cs) :: fr, hp, nx⟩ k) : AH E l (CT.cons (i, true) cert) nr os ms fl ⟨fr, hp, nx⟩ k :=
  dPS hi (by rw [ho]; exact ps_build E.hte ht hlay) hg hd hn kk
end
/-- A cut's end, where what is said of the state is a state with some values left open. -/
theorem xt_cutE {α : Type} {s : AS} {k : Nat} {R : α → Prop} {st : α → AS} (y : α) (r : List (Nat × Nat)) (h : Le k r s (st y)) (hR : R y) : XT .normal s (CutQ k (fun s => ∃ y, R y ∧ s = st y)) := xt_cut r ⟨y, hR, rfl⟩ h
/-! ### calls that lend rows -/
def Plain (xs : List CV) : Prop := ∀ T, CV.brws T xs = xs
theorem plain_rows {α : Type} {f : α → List CV} (h : ∀ a, Plain (f a)) (l : List α) : Plain (rows f l) := fun T => rows_brws T (fun a => h a T) l
theorem bor_sl {rest : List (Nat × Ob)} {ps : List Nat} {T id n ty e : Nat} {xs : List CV} (hl : look id rest = some (.arr ty e xs)) (hp : Plain xs) : BorH rest ps T (.sl id 0 n) (.c (.rd T n xs)) :=
  .inr ⟨ty, e, xs, xs, xs.length, hl, by rw [Nat.zero_mul, List.drop_zero, List.take_length]; exact hp T, rfl⟩
section
variable {E : Env} {l rest : List Oper} {fr : List (Nat × AV)} {hp : List (Nat × Ob)} {nx : Nat} {o : Oper} {Q : Exit → AS → Prop} {d : Nat}
variable {cert : CT} {nr : Nat} {os ms : List Nat} {fl : Bool} {k : AS → Prop} {i : Nat} {oi : Oper}
variable {f : FuncId} {as : List Operand} {xs ys : List AV} {rt : List Nat}
theorem pCv {x : AV} (hc : AC E.P f ys [] rt (fun r h => h = [] ∧ r = x)) (hop : callOf ⟨fr, hp, nx⟩ o.op = some (f, as)) (hev : AS.evals ⟨fr, hp, nx⟩ as = some xs) (hx : ∀ f, x.ren f = x) (hg : gdv l ⟨fr, hp, nx⟩ o = some true)
    (hd : o.dst = some d) (hn : Nat.blt d E.nt = true) (hT : 99 ∉ rt) (hb : BorAs hp [] 99 xs ys) (k : AL E l rest ⟨(d, x) :: fr, hp, nx⟩ Q) : AL E l (o :: rest) ⟨fr, hp, nx⟩ Q := by
  refine pC (eCall hc 99 [] hop hev rfl rfl hd hn hb hT) hg ?_
  rintro _ _ ⟨rfl, rfl⟩
  rw [hx]
  exact k
theorem dCv {x : AV} (hc : AC E.P f ys [] rt (fun r h => h = [] ∧ r = x)) (hi : nth l i = some oi) (hop : callOf ⟨fr, hp, nx⟩ oi.op = some (f, as)) (hev : AS.evals ⟨fr, hp, nx⟩ as = some xs) (hx : ∀ f, x.ren f = x) (hg : gdv l ⟨fr, hp, nx⟩ oi = some true)
    (hd : oi.dst = some d) (hn : Nat.blt d E.nt = true) (hT : 99 ∉ rt) (hb : BorAs hp [] 99 xs ys) (kk : AH E l cert nr os ms false ⟨(d, x) :: fr, hp, nx⟩ k) : AH E l (CT.cons (i, false) cert) nr os ms fl ⟨fr, hp, nx⟩ k := by
  refine dC hc 99 [] hi hop hev rfl rfl rfl hg hd hn rfl hb hT ?_
  rintro _ _ ⟨rfl, rfl⟩
  rw [hx]
  exact kk
/-- .. and makes a row. -/
theorem pCn {ty e n : Nat} {zs : List CV} (hc : AC E.P f ys [] rt (fun r h => h = [.arr ty e zs] ∧ r = .h (.sl 0 0 n))) (hop : callOf ⟨fr, hp, nx⟩ o.op = some (f, as)) (hev : AS.evals ⟨fr, hp, nx⟩ as = some xs) (hg : gdv l ⟨fr, hp, nx⟩ o = some true)
    (hd : o.dst = some d) (hn : Nat.blt d E.nt = true) (hT : 99 ∉ rt) (hb : BorAs hp [] 99 xs ys) (k : AL E l rest ⟨(d, .h (.sl nx 0 n)) :: fr, (nx, .arr ty e zs) :: hp, nx + 1⟩ Q) : AL E l (o :: rest) ⟨fr, hp, nx⟩ Q := by
  refine pC (eCall hc 99 [] hop hev rfl rfl hd hn hb hT) hg ?_
  rintro _ _ ⟨rfl, rfl⟩
  exact k
theorem dCn {ty e n : Nat} {zs : List CV} (hc : AC E.P f ys [] rt (fun r h => h = [.arr ty e zs] ∧ r = .h (.sl 0 0 n))) (hi : nth l i = some oi) (hop : callOf ⟨fr, hp, nx⟩ oi.op = some (f, as)) (hev : AS.evals ⟨fr, hp, nx⟩ as = some xs) (hg : gdv l ⟨fr, hp, nx⟩ oi = some true)
    (hd : oi.dst = some d) (hn : Nat.blt d E.nt = true) (hT : 99 ∉ rt) (hb : BorAs hp [] 99 xs ys) (kk : AH E l cert nr os ms false ⟨(d, .h (.sl nx 0 n)) :: fr, (nx, .arr ty e zs) :: hp, nx + 1⟩ k) : AH E l (CT.cons (i, false) cert) nr os ms fl ⟨fr, hp, nx⟩ k := by
  refine dC hc 99 [] hi hop hev rfl rfl rfl hg hd hn rfl hb hT ?_
  rintro _ _ ⟨rfl, rfl⟩
  exact kk
end
/-! ### what came in, as lists -/
section
variable {te : TE} {t sz b' : Nat} {zs xs : List CV}
theorem TyC.struct_inv {fs : List (Nat × Nat)} (h : TyC te t xs) (hl : look t te = some ⟨.struct fs, sz, b', zs⟩) : TyF te fs xs := by
  cases h with
  | struct h1 h2 => rw [hl] at h1; injection h1 with h1; injection h1 with h1; injection h1 with h1; subst h1; exact h2
  | int h1 => rw [hl] at h1; injection h1 with h1; injection h1 with h1; cases h1
  | bool h1 => rw [hl] at h1; injection h1 with h1; injection h1 with h1; cases h1
  | slice h1 => rw [hl] at h1; injection h1 with h1; injection h1 with h1; cases h1
theorem TyC.int_inv {k : IntKind} (h : TyC te t xs) (hl : look t te = some ⟨.int k, sz, b', zs⟩) : ∃ n, xs = [.int k n] ∧ (Lit.int k n).wf = true := by
  cases h with
  | struct h1 h2 => rw [hl] at h1; injection h1 with h1; injection h1 with h1; cases h1
  | int h1 h2 => rw [hl] at h1; injection h1 with h1; injection h1 with h1; injection h1 with h1; subst h1; exact ⟨_, rfl, h2⟩
  | bool h1 => rw [hl] at h1; injection h1 with h1; injection h1 with h1; cases h1
  | slice h1 => rw [hl] at h1; injection h1 with h1; injection h1 with h1; cases h1
theorem TyC.bool_inv (h : TyC te t xs) (hl : look t te = some ⟨.bool, sz, b', zs⟩) : ∃ b, xs = [.bool b] := by
  cases h with
  | struct h1 h2 => rw [hl] at h1; injection h1 with h1; injection h1 with h1; cases h1
  | int h1 h2 => rw [hl] at h1; injection h1 with h1; injection h1 with h1; cases h1
  | bool h1 => exact ⟨_, rfl⟩
  | slice h1 => rw [hl] at h1; injection h1 with h1; injection h1 with h1; cases h1
theorem TyC.slice_inv {e : Nat} (h : TyC te t xs) (hl : look t te = some ⟨.slice e, sz, b', zs⟩) : ∃ n ys, xs = [.rd 1 n ys] ∧ n ≤ maxLen ∧ TyR te e n ys := by
  cases h with
  | struct h1 h2 => rw [hl] at h1; injection h1 with h1; injection h1 with h1; cases h1
  | int h1 h2 => rw [hl] at h1; injection h1 with h1; injection h1 with h1; cases h1
  | bool h1 => rw [hl] at h1; injection h1 with h1; injection h1 with h1; cases h1
  | slice h1 h2 h3 => rw [hl] at h1; injection h1 with h1; injection h1 with h1; injection h1 with h1; subst h1; exact ⟨_, _, rfl, h2, h3⟩
theorem TyF.cons_inv {o f : Nat} {fs : List (Nat × Nat)} (h : TyF te ((o, f) :: fs) xs) : ∃ ys zs, xs = ys ++ zs ∧ TyC te f ys ∧ TyF te fs zs := by
  cases h with | cons h1 h2 => exact ⟨_, _, rfl, h1, h2⟩
theorem TyF.nil_inv (h : TyF te [] xs) : xs = [] := by cases h; rfl
theorem tyR_rows {α : Type} (f : α → List CV) (R : α → Prop) {e : Nat} (h1 : ∀ xs, TyC te e xs → ∃ a, xs = f a ∧ R a) : ∀ (n : Nat) (xs : List CV), TyR te e n xs → ∃ l : List α, xs = rows f l ∧ n = l.length ∧ ∀ a ∈ l, R a
  | 0, xs, h => by cases h; exact ⟨[], rfl, rfl, fun _ h => by cases h⟩
  | n + 1, xs, h => by
    cases h with
    | cons h2 h3 =>
      obtain ⟨a, rfl, ha⟩ := h1 _ h2
      obtain ⟨l, rfl, rfl, hl⟩ := tyR_rows f R h1 n _ h3
      exact ⟨a :: l, rfl, rfl, fun b hb => by
        rcases List.mem_cons.1 hb with rfl | hb
        · exact ha
        · exact hl b hb⟩
theorem TyAs.nil_inv {xs : List AV} (h : TyAs te [] xs) : xs = [] := by cases h; rfl
theorem TyAs.cons_inv {ts : List Nat} {xs : List AV} (h : TyAs te (t :: ts) xs) : ∃ y ys, xs = y :: ys ∧ TyA te t y ∧ TyAs te ts ys := by
  cases h with | cons h1 h2 => exact ⟨_, _, rfl, h1, h2⟩
theorem TyA.one_inv {inf : TInf} {y : AV} (h : TyA te t y) (hl : look t te = some inf) (ha : inf.d.isAgg = false) : ∃ x, y = .h (.c x) ∧ TyC te t [x] := by
  cases h with
  | one _ _ h => exact ⟨_, rfl, h⟩
  | agg h1 h2 h3 => rw [hl] at h1; injection h1 with h1; subst h1; rw [ha] at h2; cases h2
theorem TyA.agg_inv {inf : TInf} {y : AV} (h : TyA te t y) (hl : look t te = some inf) (ha : inf.d.isAgg = true) : ∃ xs, y = .agg (xs.map HV.c) ∧ TyC te t xs := by
  cases h with
  | one h1 h2 h3 => rw [hl] at h1; injection h1 with h1; subst h1; rw [ha] at h2; cases h2
  | agg _ _ h => exact ⟨_, rfl, h⟩
theorem TyA.int_inv {k : IntKind} {y : AV} (h : TyA te t y) (hl : look t te = some ⟨.int k, sz, b', zs⟩) : ∃ n, y = .h (.c (.int k n)) ∧ (Lit.int k n).wf = true := by
  obtain ⟨x, rfl, h'⟩ := h.one_inv hl rfl
  obtain ⟨n, e, hw⟩ := h'.int_inv hl
  injection e with e; subst e
  exact ⟨n, rfl, hw⟩
theorem TyA.bool_inv {y : AV} (h : TyA te t y) (hl : look t te = some ⟨.bool, sz, b', zs⟩) : ∃ b, y = .h (.c (.bool b)) := by
  obtain ⟨x, rfl, h'⟩ := h.one_inv hl rfl
  obtain ⟨n, e⟩ := h'.bool_inv hl
  injection e with e; subst e
  exact ⟨n, rfl⟩
theorem TyA.slice_inv {e : Nat} {y : AV} (h : TyA te t y) (hl : look t te = some ⟨.slice e, sz, b', zs⟩) : ∃ n ys, y = .h (.c (.rd 1 n ys)) ∧ n ≤ maxLen ∧ TyR te e n ys := by
  obtain ⟨x, rfl, h'⟩ := h.one_inv hl rfl
  obtain ⟨n, ys, e, h1, h2⟩ := h'.slice_inv hl
  injection e with e; subst e
  exact ⟨n, ys, rfl, h1, h2⟩
end
theorem wf_i64 {n : Int} (h : (Lit.int .i64 n).wf = true) : -9223372036854775808 ≤ n ∧ n ≤ 9223372036854775807 := by
  simp [Lit.wf, IntKind.min, IntKind.max, IntKind.signed, IntKind.bits] at h
  exact h
theorem wf_u8 {n : Int} (h : (Lit.int .u8 n).wf = true) : 0 ≤ n ∧ n ≤ 255 := by
  simp [Lit.wf, IntKind.min, IntKind.max, IntKind.signed, IntKind.bits] at h
  exact h
/-! ### loops whose head is a state with some values left open -/
def LpQ {α : Type} (k : Nat) (st : α → AS) (J : Nat → α → Prop) (n : Nat) : AS → Prop := fun s => ∃ n' y r, n' < n ∧ Le k r s (st y) ∧ J n' y
theorem lp_end {α : Type} {k : Nat} {st : α → AS} {J : Nat → α → Prop} {n : Nat} {s : AS} (n' : Nat) (y : α) (r : List (Nat × Nat)) (hlt : n' < n) (hle : Le k r s (st y)) (hJ : J n' y) : LpQ k st J n s := ⟨n', y, r, hlt, hle, hJ⟩
theorem awp_loopE {α : Type} {E : Env} {c : Code} {s : AS} {Q : Exit → AS → Prop} (st : α → AS) (J : Nat → α → Prop) (n : Nat) (y : α) (r : List (Nat × Nat)) (h0 : Le E.k r s (st y)) (hJ : J n y)
    (hr : ∀ n y, J n y → AWP E c (st y) (Sq (LpQ E.k st J n) Q)) : AWP E (.loop c) s Q := by
  refine awp_le r h0 (awp_loop (fun n s => ∃ y, s = st y ∧ J n y) n ⟨y, rfl, hJ⟩ ?_)
  rintro n _ ⟨y, rfl, hJ⟩
  refine awp_mono (hr n y hJ) fun e s h => ?_
  cases e with
  | normal =>
    obtain ⟨n', y', r, h1, h2, h3⟩ := h
    exact ⟨n', r, st y', h1, h2, y', rfl, h3⟩
  | _ => exact h
end Go.Proofs.Ytjijkdhjfanpaaa
