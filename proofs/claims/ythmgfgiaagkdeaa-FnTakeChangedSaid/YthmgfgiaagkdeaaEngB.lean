/- The engine, part l: the rules as the proofs use them: the table of types is the surroundings' own. -/
import Derived.Test.YthmgfgiaagkdeaaEngA
import Derived.ProofKit
import Derived.Deep.Slices
import Derived.Below
import Derived.ChangeSame
import Derived.Deep.AppendSrc
import Derived.Lib.AppendZerosOnto
namespace Go.Proofs.Ythmgfgiaagkdeaa
section
variable {E : Env} {l rest : List Oper} {s : AS} {fr : List (Nat × AV)} {hp : List (Nat × Ob)} {nx : Nat} {o : Oper} {Q : Exit → AS → Prop} {d : Nat}
theorem dok_of (hd : o.dst = some d) (hn : Nat.blt d E.nt = true) : dok E.nt o.dst = true := by rw [hd]; exact hn
theorem putd_of (hd : o.dst = some d) {x : AV} : s.putd o.dst x = s.put d x := by rw [hd]; rfl
theorem al_pd {x : AV} (h : PS E none true s o.op x) (hg : gdv l s o = some true) (hd : o.dst = some d) (hn : Nat.blt d E.nt = true) (k : AL E l rest (s.put d x) Q) : AL E l (o :: rest) s Q :=
  al_ps h hg (dok_of hd hn) (by rw [putd_of hd]; exact k)
theorem p1 {x : AV} (h : aev E.te none true ⟨fr, hp, nx⟩ o.op = some x) (hg : gdv l ⟨fr, hp, nx⟩ o = some true) (hd : o.dst = some d) (hn : Nat.blt d E.nt = true) (k : AL E l rest ⟨(d, x) :: fr, hp, nx⟩ Q) : AL E l (o :: rest) ⟨fr, hp, nx⟩ Q :=
  al_pd (ps_of_aev E.hte h) hg hd hn k
/-- A guarded operation that is not carried out. -/
theorem p0 (hg : gdv l ⟨fr, hp, nx⟩ o = some false) (hd : o.dst = some d) (hn : Nat.blt d E.nt = true) (k : AL E l rest ⟨(d, .tup []) :: fr, hp, nx⟩ Q) : AL E l (o :: rest) ⟨fr, hp, nx⟩ Q :=
  al_skip hg (dok_of hd hn) (by rw [putd_of hd]; exact k)
theorem p0n (hg : gdv l s o = some false) (hd : o.dst = none) (k : AL E l rest s Q) : AL E l (o :: rest) s Q :=
  al_skip hg (by rw [hd]; rfl) (by rw [hd]; exact k)
/-- A guard that is not known: both cases. -/
theorem pG {b : Bool} {want : Bool} (hs : gslot l o = some (some d, want)) (hb : look d fr = some (.h (.c (.bool b)))) (kt : b = true → AL E l (o :: rest) ⟨(d, .h (.c (.bool true))) :: fr, hp, nx⟩ Q) (kf : b = false → AL E l (o :: rest) ⟨(d, .h (.c (.bool false))) :: fr, hp, nx⟩ Q) : AL E l (o :: rest) ⟨fr, hp, nx⟩ Q :=
  have _ := hs
  al_split d hb kt kf
/-- + - * of numbers that fit. -/
theorem pAr {op : BinOp} {t t' : TypeId} {x y : Operand} {a b r : Int} (ho : o.op = .binOp op t x y t') (hx : AS.eval ⟨fr, hp, nx⟩ x = some (.h (.c (.int .i64 a)))) (hy : AS.eval ⟨fr, hp, nx⟩ y = some (.h (.c (.int .i64 b)))) (hr : arI op a b = some r)
    (hg : gdv l ⟨fr, hp, nx⟩ o = some true) (hd : o.dst = some d) (hn : Nat.blt d E.nt = true) (h1 : -9223372036854775808 ≤ r) (h2 : r ≤ 9223372036854775807) (k : AL E l rest ⟨(d, .h (.c (.int .i64 r))) :: fr, hp, nx⟩ Q) : AL E l (o :: rest) ⟨fr, hp, nx⟩ Q :=
  al_pd (by rw [ho]; exact ps_ar hx hy hr h1 h2) hg hd hn k
theorem pQuo {t t' : TypeId} {x y : Operand} {a b : Int} (ho : o.op = .binOp .quo t x y t') (hx : AS.eval ⟨fr, hp, nx⟩ x = some (.h (.c (.int .i64 a)))) (hy : AS.eval ⟨fr, hp, nx⟩ y = some (.h (.c (.int .i64 b))))
    (hg : gdv l ⟨fr, hp, nx⟩ o = some true) (hd : o.dst = some d) (hn : Nat.blt d E.nt = true) (h0 : 0 ≤ a) (h1 : 0 < b) (h2 : a ≤ 9223372036854775807) (k : AL E l rest ⟨(d, .h (.c (.int .i64 (a / b)))) :: fr, hp, nx⟩ Q) : AL E l (o :: rest) ⟨fr, hp, nx⟩ Q :=
  al_pd (by rw [ho]; exact ps_quo hx hy h0 h1 h2) hg hd hn k
theorem pRem {t t' : TypeId} {x y : Operand} {a b : Int} (ho : o.op = .binOp .rem t x y t') (hx : AS.eval ⟨fr, hp, nx⟩ x = some (.h (.c (.int .i64 a)))) (hy : AS.eval ⟨fr, hp, nx⟩ y = some (.h (.c (.int .i64 b))))
    (hg : gdv l ⟨fr, hp, nx⟩ o = some true) (hd : o.dst = some d) (hn : Nat.blt d E.nt = true) (h0 : 0 ≤ a) (h1 : 0 < b) (k : AL E l rest ⟨(d, .h (.c (.int .i64 (a % b)))) :: fr, hp, nx⟩ Q) : AL E l (o :: rest) ⟨fr, hp, nx⟩ Q :=
  al_pd (by rw [ho]; exact ps_rem hx hy h0 h1) hg hd hn k
theorem pConv {src dst : TypeId} {x : Operand} {k' : IntKind} {a : Int} {inf inf' : TInf} (ho : o.op = .convert src dst x) (hx : AS.eval ⟨fr, hp, nx⟩ x = some (.h (.c (.int k' a)))) (hs1 : look src E.te = some inf) (hd1 : look dst E.te = some inf') (hd2 : inf'.d = .int .i64)
    (hg : gdv l ⟨fr, hp, nx⟩ o = some true) (hd : o.dst = some d) (hn : Nat.blt d E.nt = true) (h0 : -9223372036854775808 ≤ a) (h1 : a ≤ 9223372036854775807) (k : AL E l rest ⟨(d, .h (.c (.int .i64 a))) :: fr, hp, nx⟩ Q) : AL E l (o :: rest) ⟨fr, hp, nx⟩ Q :=
  al_pd (by rw [ho]; exact ps_conv E.hte hx hs1 hd1 hd2 h0 h1) hg hd hn k
/-- The place of an element of a slice that is only read. -/
theorem pIx {t e : Nat} {sz b' : Nat} {zs : List CV} {x ix : Operand} {tg n : Nat} {xs : List CV} {i : Int} {inf : TInf} {y : CV} {ys : List CV} (k : Nat) (ho : o.op = .indexAddr t x ix)
    (hx : AS.eval ⟨fr, hp, nx⟩ x = some (.h (.c (.rd tg n xs)))) (hi : AS.eval ⟨fr, hp, nx⟩ ix = some (.h (.c (.int .i64 i)))) (ht : look t E.te = some ⟨.slice e, sz, b', zs⟩) (he : look e E.te = some inf)
    (hg : gdv l ⟨fr, hp, nx⟩ o = some true) (hd : o.dst = some d) (hn : Nat.blt d E.nt = true) (hk : i = (k : Int)) (hlt : k < n) (hdr : xs.drop (k * inf.sz) = y :: ys) (kk : AL E l rest ⟨(d, .h (.rp tg (y :: ys))) :: fr, hp, nx⟩ Q) : AL E l (o :: rest) ⟨fr, hp, nx⟩ Q :=
  al_pd (by rw [ho]; exact ps_ix k E.hte hx hi hk hlt ht he hdr) hg hd hn kk
/-- .. of a row of the call's own. -/
theorem pIxo {t e : Nat} {sz b' : Nat} {zs : List CV} {x ix : Operand} {id j n : Nat} {ty e' : Nat} {xs : List CV} {i : Int} {inf : TInf} (k : Nat) (ho : o.op = .indexAddr t x ix)
    (hx : AS.eval ⟨fr, hp, nx⟩ x = some (.h (.sl id j n))) (hi : AS.eval ⟨fr, hp, nx⟩ ix = some (.h (.c (.int .i64 i)))) (ht : look t E.te = some ⟨.slice e, sz, b', zs⟩) (he : look e E.te = some inf) (hob : look id hp = some (.arr ty e' xs)) (hes : e' = inf.sz)
    (hg : gdv l ⟨fr, hp, nx⟩ o = some true) (hd : o.dst = some d) (hn : Nat.blt d E.nt = true) (hk : i = (k : Int)) (hlt : k < n) (kk : AL E l rest ⟨(d, .h (.ptr id ((j + k) * inf.sz))) :: fr, hp, nx⟩ Q) : AL E l (o :: rest) ⟨fr, hp, nx⟩ Q :=
  al_pd (by rw [ho]; exact ps_ixo k E.hte hx hi hk hlt ht he hob hes) hg hd hn kk
/-- A load out of a row of the call's own. -/
theorem pLdo {t : Nat} {x : Operand} {id off : Nat} {ty e : Nat} {xs zs : List CV} {inf : TInf} {v : AV} (ho : o.op = .load t x) (hx : AS.eval ⟨fr, hp, nx⟩ x = some (.h (.ptr id off))) (hob : look id hp = some (.arr ty e xs)) (hl : look t E.te = some inf)
    (hg : gdv l ⟨fr, hp, nx⟩ o = some true) (hd : o.dst = some d) (hn : Nat.blt d E.nt = true) (hdr : xs.drop off = zs) (h : loadH inf ((zs.take inf.sz).map HV.c) = some v) (kk : AL E l rest ⟨(d, v) :: fr, hp, nx⟩ Q) : AL E l (o :: rest) ⟨fr, hp, nx⟩ Q :=
  al_pd (by rw [ho]; exact ps_ldo E.hte hx hob hl rfl hdr h) hg hd hn kk
/-- A cut of a slice that is only read. -/
theorem pCut {t e : Nat} {sz b' : Nat} {zs : List CV} {x : Operand} {lo hi : Option Operand} {tg n : Nat} {xs ys : List CV} {il ih : Int} {inf : TInf} (lw h : Nat) (ho : o.op = .slice t x lo hi none)
    (hx : AS.eval ⟨fr, hp, nx⟩ x = some (.h (.c (.rd tg n xs)))) (hlo : bnd ⟨fr, hp, nx⟩ 0 lo = some il) (hhi : bnd ⟨fr, hp, nx⟩ n hi = some ih) (ht : look t E.te = some ⟨.slice e, sz, b', zs⟩) (he : look e E.te = some inf)
    (hg : gdv l ⟨fr, hp, nx⟩ o = some true) (hd : o.dst = some d) (hn : Nat.blt d E.nt = true) (hl : il = (lw : Int)) (hh : ih = (h : Int)) (h1 : lw ≤ h) (h2 : h ≤ n) (hdr : (xs.drop (lw * inf.sz)).take ((h - lw) * inf.sz) = ys) (kk : AL E l rest ⟨(d, .h (.c (.rd tg (h - lw) ys))) :: fr, hp, nx⟩ Q) : AL E l (o :: rest) ⟨fr, hp, nx⟩ Q :=
  al_pd (by rw [ho]; exact ps_cut lw h E.hte hx hlo hhi hl hh h1 h2 ht he hdr) hg hd hn kk
theorem es_same {s1 s2 : AS} {md : Option (List Nat)} (h : ES E s o md (fun x => x = s1)) (e : s1 = s2) : ES E s o md (fun x => x = s2) := e ▸ h
theorem eAlloc {ty : TypeId} {inf : TInf} (ho : o.op = .alloc ty) (ht : look ty E.te = some inf) (hd : o.dst = some d) (hn : Nat.blt d E.nt = true) :
    ES E ⟨fr, hp, nx⟩ o (some []) (fun x => x = ⟨(d, .h (.ptr nx 0)) :: fr, (nx, .box ty (inf.zs.map HV.c)) :: hp, nx + 1⟩) :=
  es_same (es_alloc E.hte ho ht (dok_of hd hn) rfl) (by rw [hd]; rfl)
theorem eBox {ty : TypeId} {x : Operand} {y : AV} {xs : List HV} (ho : o.op = .box ty x) (hx : AS.eval ⟨fr, hp, nx⟩ x = some y) (hc : cellsA y = some xs) (hd : o.dst = some d) (hn : Nat.blt d E.nt = true) :
    ES E ⟨fr, hp, nx⟩ o (some []) (fun x => x = ⟨(d, .h (.ptr nx 0)) :: fr, (nx, .box ty xs) :: hp, nx + 1⟩) :=
  es_same (es_box ho hx hc (dok_of hd hn) rfl) (by rw [hd]; rfl)
/-- A store into a variable. -/
theorem eSt {t : TypeId} {x y : Operand} {id off : Nat} {v : AV} {ty : Nat} {cs ys : List HV} {inf : TInf} (ho : o.op = .store t x y) (hx : AS.eval ⟨fr, hp, nx⟩ x = some (.h (.ptr id off))) (hy : AS.eval ⟨fr, hp, nx⟩ y = some v) (hv : cellsA v = some ys) (hl : look id hp = some (.box ty cs))
    (ht : look t E.te = some inf) (hsz : Nat.beq ys.length inf.sz = true) (hle : Nat.ble (off + ys.length) cs.length = true) (hd : o.dst = none) :
    ES E ⟨fr, hp, nx⟩ o (some [id]) (fun x => x = ⟨fr, upd id (.box ty (setL cs off ys)) hp, nx⟩) :=
  es_same (es_store E.hte ho hx hy hv hl ht hsz hle (by rw [hd]; rfl) rfl) (by rw [hd]; rfl)
/-- A row that is written out. -/
theorem eBs {t e len : Nat} {sz' b'' : Nat} {zs'' : List CV} {parts : Array (Nat × Operand)} {inf : TInf} {cs : List HV} {xs : List CV} {hp' : List (Nat × Ob)} (ho : o.op = .buildSlice t len parts) (ht : look t E.te = some ⟨.slice e, sz', b'', zs''⟩) (he : look e E.te = some inf)
    (hlay : lay (fun i => some (i * inf.sz, inf.sz)) ⟨fr, hp, nx⟩ (reps (inf.zs.map HV.c) len) parts.toList = some cs) (habs : absL hp cs = some (xs, hp')) (hsm : Nat.ble (len * inf.sz) 16777216 = true) (hsz : Nat.blt 0 inf.sz = true) (hd : o.dst = some d) (hn : Nat.blt d E.nt = true) :
    ES E ⟨fr, hp, nx⟩ o (some []) (fun x => x = ⟨(d, .h (.sl nx 0 len)) :: fr, (nx, .arr e inf.sz xs) :: hp', nx + 1⟩) :=
  es_same (es_bs E.hte ho ht he hlay habs hsm hsz (dok_of hd hn) rfl) (by rw [hd]; rfl)
theorem eMk {t e : Nat} {sz' b'' : Nat} {zs'' : List CV} {x y : Operand} {inf : TInf} {i j : Int} (n c : Nat) (ho : o.op = .makeSlice t x y) (hx : AS.eval ⟨fr, hp, nx⟩ x = some (.h (.c (.int .i64 i)))) (hy : AS.eval ⟨fr, hp, nx⟩ y = some (.h (.c (.int .i64 j))))
    (ht : look t E.te = some ⟨.slice e, sz', b'', zs''⟩) (he : look e E.te = some inf) (hsz : Nat.blt 0 inf.sz = true) (hd : o.dst = some d) (hn : Nat.blt d E.nt = true) (hi : i = (n : Int)) (hj : j = (c : Int)) (hnc : n ≤ c) (hby : c * inf.by' ≤ 140737488355328) (hmx : c ≤ 9223372036854775807) :
    ES E ⟨fr, hp, nx⟩ o (some []) (fun x => x = ⟨(d, .h (.sl nx 0 n)) :: fr, (nx, .arr e inf.sz (reps inf.zs n)) :: hp, nx + 1⟩) :=
  es_same (es_make n c E.hte ho hx hy hi hj hnc ht he hby hmx hsz (dok_of hd hn) rfl) (by rw [hd]; rfl)
theorem eApp {x y : Operand} {t e n m : Nat} {sz' b'' : Nat} {zs'' xs ys zs : List CV} {inf : TInf} {hp0 hp1 : List (Nat × Ob)} {md : List Nat} {vx vy : AV} (ho : appOf o.op = some (x, y, t)) (ht : look t E.te = some ⟨.slice e, sz', b'', zs''⟩) (he : look e E.te = some inf)
    (hx : AS.eval ⟨fr, hp, nx⟩ x = some vx) (hy : AS.eval ⟨fr, hp, nx⟩ y = some vy) (hb : baseOf ⟨fr, hp, nx⟩ e inf.sz vx = some (n, xs, hp0, md)) (hsr : srcOf hp0 vy = some (m, ys, hp1)) (hsz : Nat.blt 0 inf.sz = true) (hd : o.dst = some d) (hn : Nat.blt d E.nt = true)
    (hlx : xs.length = n * inf.sz) (hly : ys.length = m * inf.sz) (h63 : n + m ≤ 9223372036854775807) (hbytes : (n + m) * inf.by' ≤ 140737488355328) (hz : xs ++ ys = zs) :
    ES E ⟨fr, hp, nx⟩ o (some md) (fun x => x = ⟨(d, .h (.sl nx 0 (n + m))) :: fr, (nx, .arr e inf.sz zs) :: hp1, nx + 1⟩) :=
  es_same (es_app E.hte ho ht he hx hy hb hsr hlx hly (by simp only [maxLen]; omega) hbytes hsz (dok_of hd hn) rfl) (by rw [hd, ← hz]; rfl)
/-- A call: rows of the call's own are lent (tag T) or handed over (ps). -/
theorem eCall {f : FuncId} {as : List Operand} {xs ys : List AV} {rt : List Nat} {hin : List Ob} {rs : List (Nat × Ob)} {Post : AV → List Ob → Prop} (hc : AC E.P f ys hin rt Post) (T : Nat) (ps : List Nat) (hop : callOf ⟨fr, hp, nx⟩ o.op = some (f, as)) (hev : AS.evals ⟨fr, hp, nx⟩ as = some xs) (hpk : pick ps hp = some (hin, rs)) (hpu : hin.all Ob.pu = true)
    (hd : o.dst = some d) (hn : Nat.blt d E.nt = true) (hb : BorAs rs ps T xs ys) (hT : T ∉ rt) :
    ES E ⟨fr, hp, nx⟩ o (if hin.all Ob.bx then some ps else none) (fun x => ∃ r hout, Post r hout ∧ x = ⟨(d, r.ren (rho ps nx)) :: fr, named (rho ps nx) 0 hout ++ rs, nx + (hout.length - ps.length)⟩) :=
  es_call hop hev hpk hpu hb hc hT (dok_of hd hn) fun r hout h => ⟨r, hout, h, by rw [hd]; rfl⟩
/-- An effect that comes to one state, in a plain region. -/
theorem pE {s' : AS} {md : Option (List Nat)} (h : ES E s o md (fun x => x = s')) (hg : gdv l s o = some true) (k : AL E l rest s' Q) : AL E l (o :: rest) s Q := al_es h hg k
/-- .. a call. -/
theorem pC {Post : AV → List Ob → Prop} {st : AV → List Ob → AS} {md : Option (List Nat)} (h : ES E s o md (fun x => ∃ r hout, Post r hout ∧ x = st r hout)) (hg : gdv l s o = some true) (k : ∀ r hout, Post r hout → AL E l rest (st r hout) Q) : AL E l (o :: rest) s Q :=
  al_e hg h fun s' ⟨r, hout, h, e⟩ => by rw [e]; exact k r hout h
section draws
variable {cert : CT} {nr : Nat} {os ms : List Nat} {fl : Bool} {k : AS → Prop} {i : Nat} {oi : Oper}
theorem d1 {x : AV} (hi : nth l i = some oi) (h : aev E.te (some os) fl ⟨fr, hp, nx⟩ oi.op = some x) (hg : gdv l ⟨fr, hp, nx⟩ oi = some true) (hd : oi.dst = some d) (hn : Nat.blt d E.nt = true) (kk : AH E l cert nr os ms fl ⟨(d, x) :: fr, hp, nx⟩ k) : AH E l (CT.cons (i, true) cert) nr os ms fl ⟨fr, hp, nx⟩ k :=
  ah_ps hi (ps_of_aev E.hte h) hg (dok_of hd hn) (by rw [putd_of hd]; exact kk)
theorem dPS {x : AV} (hi : nth l i = some oi) (h : PS E (some os) fl ⟨fr, hp, nx⟩ oi.op x) (hg : gdv l ⟨fr, hp, nx⟩ oi = some true) (hd : oi.dst = some d) (hn : Nat.blt d E.nt = true) (kk : AH E l cert nr os ms fl ⟨(d, x) :: fr, hp, nx⟩ k) : AH E l (CT.cons (i, true) cert) nr os ms fl ⟨fr, hp, nx⟩ k :=
  ah_ps hi h hg (dok_of hd hn) (by rw [putd_of hd]; exact kk)
theorem d0n {b : Bool} (hi : nth l i = some oi) (hg : gdv l s oi = some false) (hd : oi.dst = none) (kk : AH E l cert nr os ms fl s k) : AH E l (CT.cons (i, b) cert) nr os ms fl s k :=
  ah_skip hi hg (by rw [hd]; rfl) (by rw [hd]; exact kk)
theorem d0 {b : Bool} (hi : nth l i = some oi) (hg : gdv l ⟨fr, hp, nx⟩ oi = some false) (hd : oi.dst = some d) (hn : Nat.blt d E.nt = true) (kk : AH E l cert nr os ms fl ⟨(d, .tup []) :: fr, hp, nx⟩ k) : AH E l (CT.cons (i, b) cert) nr os ms fl ⟨fr, hp, nx⟩ k :=
  ah_skip hi hg (dok_of hd hn) (by rw [putd_of hd]; exact kk)
theorem dG {c want b : Bool} (hi : nth l i = some oi) (hs : gslot l oi = some (some d, want)) (hb : look d fr = some (.h (.c (.bool b)))) (kt : b = true → AH E l (CT.cons (i, c) cert) nr os ms fl ⟨(d, .h (.c (.bool true))) :: fr, hp, nx⟩ k) (kf : b = false → AH E l (CT.cons (i, c) cert) nr os ms fl ⟨(d, .h (.c (.bool false))) :: fr, hp, nx⟩ k) : AH E l (CT.cons (i, c) cert) nr os ms fl ⟨fr, hp, nx⟩ k :=
  have _ := hi
  have _ := hs
  ah_split d hb kt kf
/-- What only computes, where it is alone. -/
theorem d2 {x : AV} (hi : nth l i = some oi) (h : aev E.te none true ⟨fr, hp, nx⟩ oi.op = some x) (hg : gdv l ⟨fr, hp, nx⟩ oi = some true) (hd : oi.dst = some d) (hn : Nat.blt d E.nt = true) (kk : AH E l cert nr os ms false ⟨(d, x) :: fr, hp, nx⟩ k) : AH E l (CT.cons (i, false) cert) nr os ms fl ⟨fr, hp, nx⟩ k :=
  ah_es (m := []) hi (es_of_ps (Q := fun s' => s' = AS.put ⟨fr, hp, nx⟩ d x) (ps_of_aev E.hte h) (dok_of hd hn) (by rw [putd_of hd])) hg rfl (fun s' h => by rw [h]; exact Nat.le_refl _) fun s' h => by rw [h]; exact kk
theorem dE {s' : AS} {m : List Nat} (hi : nth l i = some oi) (h : ES E s oi (some m) (fun x => x = s')) (hg : gdv l s oi = some true) (hm : m.all (fun id => ms.contains id || Nat.ble nr id) = true) (hnx : Nat.ble s.nx s'.nx = true) (kk : AH E l cert nr os ms false s' k) : AH E l (CT.cons (i, false) cert) nr os ms fl s k :=
  ah_es hi h hg hm (fun x h => by rw [h]; exact Nat.le_of_ble_eq_true hnx) fun x h => by rw [h]; exact kk
theorem dC {f : FuncId} {as : List Operand} {xs ys : List AV} {rt : List Nat} {hin : List Ob} {rs : List (Nat × Ob)} {Post : AV → List Ob → Prop} (hc : AC E.P f ys hin rt Post) (T : Nat) (ps : List Nat) (hi : nth l i = some oi) (hop : callOf ⟨fr, hp, nx⟩ oi.op = some (f, as)) (hev : AS.evals ⟨fr, hp, nx⟩ as = some xs) (hpk : pick ps hp = some (hin, rs)) (hpu : hin.all Ob.pu = true) (hbx : hin.all Ob.bx = true)
    (hg : gdv l ⟨fr, hp, nx⟩ oi = some true) (hd : oi.dst = some d) (hn : Nat.blt d E.nt = true) (hm : ps.all (fun id => ms.contains id || Nat.ble nr id) = true) (hb : BorAs rs ps T xs ys) (hT : T ∉ rt)
    (kk : ∀ r hout, Post r hout → AH E l cert nr os ms false ⟨(d, r.ren (rho ps nx)) :: fr, named (rho ps nx) 0 hout ++ rs, nx + (hout.length - ps.length)⟩ k) : AH E l (CT.cons (i, false) cert) nr os ms fl ⟨fr, hp, nx⟩ k := by
  have h := eCall (d := d) hc T ps hop hev hpk hpu hd hn hb hT
  rw [if_pos hbx] at h
  exact ah_es hi h hg hm (fun x ⟨r, hout, _, e⟩ => by rw [e]; exact Nat.le_add_right _ _) fun x ⟨r, hout, hp, e⟩ => by rw [e]; exact kk r hout hp
end draws
/-- The body's end, no objects: one plain result. -/
theorem xt_fin {te : TE} {rs : List ResultVar} {rt : List Nat} {Post : AV → List Ob → Prop} {y : CV} {e : Exit} (he : e = .normal ∨ e = .ret) (h : rvs te ⟨fr, hp, nx⟩ rs = some [.h (.c y)]) (tg : y.Tg rt) (post : Post (.h (.c y)) []) : XT e ⟨fr, hp, nx⟩ (FinQ te 0 rs rt Post) :=
  xt_end (P' := FinQ te 0 rs rt Post) ⟨he, _, [], .h (.c y), [], h, Nat.le_refl _, rfl, rfl, rfl, trivial, tg, trivial, post⟩
theorem xt_finG {te : TE} {k : Nat} {rs : List ResultVar} {rt : List Nat} {Post : AV → List Ob → Prop} {e : Exit} {xs : List AV} (r : List (Nat × Nat)) (x : AV) (hout : List Ob) (he : e = .normal ∨ e = .ret) (h : rvs te ⟨fr, hp, nx⟩ rs = some xs) (hlen : Nat.ble k hout.length = true) (ks : r.all (fun p => Nat.blt p.1 hout.length) = true) (kk : fixk r k = true)
    (val : tupOf xs = x.ren (sg r nx)) (hpp : LeH (sg r nx) (num 0 hout) hp) (tg : x.Tg rt) (th : Ob.Tgs rt hout) (post : Post x hout) : XT e ⟨fr, hp, nx⟩ (FinQ te k rs rt Post) :=
  xt_end (P' := FinQ te k rs rt Post) ⟨he, xs, r, x, hout, h, Nat.le_of_ble_eq_true hlen, ks, kk, val, hpp, tg, th, post⟩
end
/-- A body proves a contract; the surroundings are left open. -/
theorem ac_body {P : Program} {te : TE} (hte : teOk P te = true) {f : FuncId} {fn : Func} {c : Code} {nt : Nat} {args : List AV} {hin : List Ob} {rt : List Nat} {Post : AV → List Ob → Prop}
    (hf : P.funcs[f]? = some fn) (hb : fn.body = some c) (hn : (fn.name == "runtime.NumGoroutine") = false) (hnt : fn.ntmps = nt) (hle : Nat.ble args.length nt = true) (hrt : rt.all (fun t => Nat.blt t 100) = true)
    (h : ∀ w0 ps g0 im0, AWP ⟨P, te, hte, nt, w0, ps, hin.length, g0, im0⟩ c (AS.enter args hin) (FinQ te hin.length fn.results.toList rt Post)) : AC P f args hin rt Post :=
  ac_of_awp hte hf hb hn hnt (Nat.le_of_ble_eq_true hle) hrt h
end Go.Proofs.Ythmgfgiaagkdeaa
/- The engine, part m: a store into a row; values that are written out. -/
namespace Go.Proofs.Ythmgfgiaagkdeaa
open Go.RowKit
section
variable {E : Env} {te : TE} {s : AS} {o : Oper} {Q : AS → Prop}
/-- A store of plain values into a row of the call's own. -/
theorem es_sta {t : TypeId} {x y : Operand} {id off : Nat} {v : AV} {ty e : Nat} {cs ys : List CV} {inf : TInf} (hte : teOk E.P te = true) (hop : o.op = .store t x y) (hx : s.eval x = some (.h (.ptr id off))) (hy : s.eval y = some v) (hv : cellsA v = some (ys.map HV.c)) (hl : look id s.hp = some (.arr ty e cs))
    (ht : look t te = some inf) (hsz : ys.length = inf.sz) (hle : off + ys.length ≤ cs.length) (hd : dok E.nt o.dst = true)
    (hQ : Q (({ s with hp := upd id (.arr ty e (setL cs off ys)) s.hp } : AS).putd o.dst .top)) : ES E s o (some [id]) Q := by
  intro g im a w K QQ ⟨fps, hs⟩ hK
  have hp := hs.eval hx
  simp only [RA, RH] at hp
  obtain ⟨_, bi, b, hg, hb, e1⟩ := hp
  have hus := RA_cells (hs.eval hy) hv
  have hul := RHs_length _ _ _ hus
  obtain ⟨bi', f1, f2, f3, hg', hf, hro⟩ := look_HR hs.hp hl
  obtain rfl : bi = bi' := by rw [hg] at hg'; exact Option.some.inj hg'
  obtain ⟨q1, q2, ⟨q3, _⟩ | ⟨b', cur, f, hb', rfl, hh, hcap, hr⟩⟩ := hro
  · rw [q3] at hb; cases hb
  obtain rfl : b = b' := by rw [hb] at hb'; exact Option.some.inj hb'
  obtain ⟨us0, hr0, hc0⟩ := RL_RHs (g := g) _ _ _ hr
  have hl0 := RHs_length _ _ _ hr0
  have hcell : ∀ (j : Nat) (u : Value), us0[j]? = some u → cur.toList[j]? = some u := by
    intro j u hj
    have := hc0 j u hj
    rw [Nat.zero_add, cell_of_row _ _ _ cur ty (0, 0) hh] at this
    simpa using this
  have hcl : cs.length ≤ cur.toList.length := by
    rcases Nat.lt_or_ge cur.toList.length cs.length with h | h
    · exfalso
      have hj : cur.toList.length < us0.length := by rw [hl0]; simpa using h
      have := hcell _ _ (List.getElem?_eq_getElem hj)
      rw [List.getElem?_eq_none (Nat.le_refl _)] at this
      cases this
    · exact h
  have hcs : (a.eval y).cells.toList.length = ys.length := by simpa using hul
  have hrun := run_store_var (P := E.P) hte ht hh (v := a.eval y) rfl (by omega) (RHs_one _ _ _ hus) (off := off) (by simp at hcl hcs ⊢; omega)
  have hbf : b ∈ fps := by rw [hf]; exact List.mem_append_right _ (List.mem_append_left _ List.mem_cons_self)
  have hblt := hs.lt b hbf
  generalize hnew : (cur.toList.take off ++ (a.eval y).cells.toList ++ cur.toList.drop (off + (a.eval y).cells.toList.length)) = new at hrun
  have hk : ∀ c, c ≠ b → (w.setRow b new.toArray).heap[c]? = w.heap[c]? := fun c hc => setRow_other w b c _ hc
  obtain ⟨fps', hsim⟩ := hs.upd (ob' := .arr ty e (setL cs off ys)) hl hg hb hk (by simp) rfl rfl rfl (fun f0 hro0 hf0 hnd0 => by
    obtain ⟨q4, q5, ⟨q6, _⟩ | ⟨b0, cur0, f4, hb0, rfl, hh0, hcap0, hr1⟩⟩ := hro0
    · rw [q6] at hb; cases hb
    obtain rfl : b = b0 := by rw [hb] at hb0; exact Option.some.inj hb0
    rw [hh] at hh0
    injection hh0 with hh0
    injection hh0 with hh0
    subst hh0
    obtain ⟨us1, hr2, hc2⟩ := RL_RHs (g := g) _ _ _ hr1
    have hl2 := RHs_length _ _ _ hr2
    obtain ⟨f', hsl, hr'⟩ := RHs_setL (o := off) hr2 hus
    have hlen : new.length = cur.toList.length := by
      rw [← hnew]; simp only [List.length_append, List.length_take, List.length_drop]; omega
    refine ⟨b :: f', List.Sublist.cons_cons _ hsl, q4, q5, .inr ⟨b, _, f', hb, rfl, setRow_heap w b _ _ ty (0, 0) hh, ?_, ?_⟩⟩
    · rw [← hcap0]; simpa using hlen
    rw [← setL_map] at hr'
    have hr3 := RHs_mono (w' := w.setRow b new.toArray) (fun _ _ h => h) (fun t c hc => ⟨hc, hk c fun e => by subst e; exact (hf0 c List.mem_cons_self).2 t hc⟩) _ _ _ (fun c hc => hk c fun e => by subst e; exact (List.nodup_cons.1 hnd0).1 (hsl.subset hc)) hr'
    refine RHs_RL _ _ _ _ hr3 fun j u hj => ?_
    rw [Nat.zero_add, cell_of_row _ _ _ new.toArray ty (0, 0) (setRow_heap w b _ _ ty (0, 0) hh)]
    rw [show (new.toArray)[j]? = new[j]? by simp, ← hnew]
    have hc2' : ∀ (j : Nat) (u : Value), us1[j]? = some u → cur.toList[j]? = some u := by
      intro j u hj
      have := hc2 j u hj
      rw [Nat.zero_add, cell_of_row _ _ _ cur ty (0, 0) hh] at this
      simpa using this
    have e1 := setL_get cur.toList (a.eval y).cells.toList off (by omega) j
    have e2 := setL_get us1 (a.eval y).cells.toList off (by simp at hl2; omega) j
    unfold setL at e1 e2
    rw [List.append_assoc, e1]
    rw [List.append_assoc, e2] at hj
    by_cases h1 : j < off
    · rw [if_pos h1] at hj ⊢
      exact hc2' j u hj
    · rw [if_neg h1] at hj ⊢
      by_cases h2 : j < off + (a.eval y).cells.toList.length
      · rw [if_pos h2] at hj ⊢
        exact hj
      · rw [if_neg h2] at hj ⊢
        exact hc2' j u hj)
  unfold Oper.wp
  have : (execOp a.eval o).run E.P w = .ok .skip (w.setRow b new.toArray) := by
    simp only [execOp, hop, e1, Sem.run_bind, hrun, Result.andThen_ok, Sem.run_pure]
  rw [this]
  refine hK g im _ _ _ (· = b) ⟨fps', hsim.putd (dok_lt hd) (by simp only [RA])⟩ hQ (Chg.upd hs (fun t => hs.ni b hbf t) hk (by simp)) ?_
  rintro m hm c rfl
  injection hm with hm
  subst hm
  exact ⟨id, List.mem_cons_self, bi, hg, hb⟩
end
section
variable {E : Env} {l rest : List Oper} {s : AS} {fr : List (Nat × AV)} {hp : List (Nat × Ob)} {nx : Nat} {o : Oper} {Q : Exit → AS → Prop} {d : Nat}
theorem eSta {t : TypeId} {x y : Operand} {id off : Nat} {v : AV} {ty e : Nat} {cs zs : List CV} (ys : List CV) {inf : TInf} (ho : o.op = .store t x y) (hx : AS.eval ⟨fr, hp, nx⟩ x = some (.h (.ptr id off))) (hy : AS.eval ⟨fr, hp, nx⟩ y = some v) (hv : cellsA v = some (ys.map HV.c)) (hl : look id hp = some (.arr ty e cs))
    (ht : look t E.te = some inf) (hsz : Nat.beq ys.length inf.sz = true) (hd : o.dst = none) (hle : off + ys.length ≤ cs.length) (hz : setL cs off ys = zs) :
    ES E ⟨fr, hp, nx⟩ o (some [id]) (fun x => x = ⟨fr, upd id (.arr ty e zs) hp, nx⟩) :=
  es_same (es_sta E.hte ho hx hy hv hl ht (Nat.eq_of_beq_eq_true hsz) hle (by rw [hd]; rfl) rfl) (by rw [hd, hz]; rfl)
end
end Go.Proofs.Ythmgfgiaagkdeaa
/- The engine, part n: values that are written out, sums that wrap, calls that lend nothing, rows of one kind of element. -/
namespace Go.Proofs.Ythmgfgiaagkdeaa
open Go.RowKit
theorem fill_more {p p' : Nat → Option (Nat × Nat)} : ∀ (l : List (Nat × Value)) (us r : Array Value), Instr.fill p us l = some r → (∀ i x, p i = some x → p' i = some x) → Instr.fill p' us l = some r
  | [], us, r, h, _ => h
  | (i, v) :: l, us, r, h, hp => by
    simp only [Instr.fill] at h ⊢
    cases hi : p i with
    | none => rw [hi] at h; cases h
    | some x =>
      obtain ⟨o, sz⟩ := x
      rw [hp i _ hi]
      rw [hi] at h
      simp only at h ⊢
      split at h
      · cases h
      · rename_i hc
        rw [if_neg hc]
        exact fill_more l _ r h hp
def plc (te : TE) (fs : List (Nat × Nat)) (i : Nat) : Option (Nat × Nat) := match fs[i]? with
  | some (o, t) => match look t te with
    | some inf => some (o, inf.sz)
    | none => none
  | none => none
section
variable {E : Env} {te : TE} {os : Option (List Nat)} {fl : Bool} {s : AS}
theorem ps_build {t : TypeId} {parts : Array (Nat × Operand)} {fs : List (Nat × Nat)} {sz b' : Nat} {zs : List CV} {cs : List HV} (hte : teOk E.P te = true) (ht : look t te = some ⟨.struct fs, sz, b', zs⟩) (hlay : lay (plc te fs) s (zs.map HV.c) parts.toList = some cs) : PS E os fl s (.build t parts) (.agg cs) := by
  intro g im ac w M n0 ⟨fps, hs⟩ hI
  obtain ⟨⟨i, z, h1, h2, h3, h4, h5, h6⟩, h7, _⟩ := teOk_look hte ht
  obtain ⟨us', hfill, hr⟩ := lay_fill hs parts.toList _ z.cells cs hlay (areV_RHs _ _ h5)
  cases hp : E.P.underlying t with
  | none => simp [TI.is, hp] at h7
  | some de =>
    cases de <;> simp [TI.is, hp] at h7
    rename_i fields
    obtain ⟨hf, hall⟩ := h7
    have hpl : ∃ places, fields.toList.mapM (fun f => (E.P.info? f.type).map fun i => (f.offset, i.size)) = some places ∧ ∀ i x, plc te fs i = some x → places[i]? = some x := by
      subst hf
      have hall' : ∀ f ∈ fields.toList, ∃ i, E.P.info? f.type = some i := by
        intro f hf
        obtain ⟨j, hj, e⟩ := Array.getElem_of_mem (Array.mem_def.2 hf)
        have := hall j hj
        rw [e] at this
        split at this
        · rename_i i hi; exact ⟨i, hi⟩
        · cases this
      generalize fields.toList = l at hall'
      clear hfill hlay hr
      induction l with
      | nil => exact ⟨[], by simp, fun i x h => by simp [plc] at h⟩
      | cons f l ih =>
        obtain ⟨pl, hp1, hp2⟩ := ih fun g hg => hall' g (List.mem_cons_of_mem _ hg)
        obtain ⟨fi, hfi⟩ := hall' f List.mem_cons_self
        refine ⟨(f.offset, fi.size) :: pl, by simp [hfi, hp1], fun i x h => ?_⟩
        cases i with
        | zero =>
          simp only [plc, List.map_cons, List.getElem?_cons_zero] at h
          split at h
          · rename_i inf hl
            injection h with h
            subst h
            obtain ⟨⟨i', _, k1, k2, _⟩, _⟩ := teOk_look hte hl
            have : fi = i' := by rw [hfi] at k1; exact Option.some.inj k1
            subst this
            simp [k2]
          · cases h
        | succ i =>
          have := hp2 i x (by simpa [plc] using h)
          simpa using this
    obtain ⟨places, hpl1, hpl2⟩ := hpl
    refine ⟨.agg us', ?_, fun w' _ o ho => ?_⟩
    · simp only [RA]
      exact ⟨us'.toList, by simp, hr⟩
    · have hb : E.P.built t ((parts.map fun (i, x) => (i, ac.eval x)).toList) = some us' := by
        unfold Program.built
        simp only [h1, hp, h4, hpl1]
        have := fill_more _ _ _ hfill (p' := fun i => places.toArray[i]?) fun i x h => by simpa using hpl2 i x h
        rw [← this]
        congr 1
        simp
      have := run_build (P := E.P) w' t (parts.map fun (i, x) => (i, ac.eval x)) us' hb
      simp only [execOp, ho, Sem.run_bind, this, Result.andThen_ok, Sem.run_pure]
end
def HV.noh : HV → Bool
  | .c _ | .rp .. => true
  | _ => false
def AV.noh : AV → Bool
  | .h x => x.noh
  | .agg xs => xs.all HV.noh
  | _ => false
theorem bor_noh {rest : List (Nat × Ob)} {ps : List Nat} {T : Nat} : ∀ (xs : List AV), xs.all AV.noh = true → BorAs rest ps T xs xs
  | [], _ => trivial
  | x :: xs, h => by
    simp only [List.all_cons, Bool.and_eq_true] at h
    have hH : ∀ y : HV, y.noh = true → BorH rest ps T y y := by
      intro y hy
      cases y <;> simp [HV.noh] at hy <;> rfl
    have hHs : ∀ ys : List HV, ys.all HV.noh = true → BorHs rest ps T ys ys := by
      intro ys
      induction ys with
      | nil => intro _; trivial
      | cons y ys ih =>
        intro hy
        simp only [List.all_cons, Bool.and_eq_true] at hy
        exact ⟨hH y hy.1, ih hy.2⟩
    refine ⟨?_, bor_noh xs h.2⟩
    cases x with
    | h y => exact hH y h.1
    | agg ys => exact hHs ys h.1
    | tup => simp [AV.noh] at h
    | top => simp [AV.noh] at h
section
variable {E : Env} {l rest : List Oper} {s : AS} {fr : List (Nat × AV)} {hp : List (Nat × Ob)} {nx : Nat} {o : Oper} {Q : Exit → AS → Prop} {d : Nat}
theorem eCall0 {f : FuncId} {as : List Operand} {xs : List AV} {rt : List Nat} {Post : AV → List Ob → Prop} (hc : AC E.P f xs [] rt Post) (hop : callOf ⟨fr, hp, nx⟩ o.op = some (f, as)) (hev : AS.evals ⟨fr, hp, nx⟩ as = some xs) (hb : xs.all AV.noh = true)
    (hd : o.dst = some d) (hn : Nat.blt d E.nt = true) (hT : 99 ∉ rt) :
    ES E ⟨fr, hp, nx⟩ o (some []) (fun x => ∃ r hout, Post r hout ∧ x = ⟨(d, r.ren (rho [] nx)) :: fr, named (rho [] nx) 0 hout ++ hp, nx + hout.length⟩) :=
  eCall hc 99 [] hop hev rfl rfl hd hn (bor_noh _ hb) hT
theorem dC0 {cert : CT} {nr : Nat} {os ms : List Nat} {fl : Bool} {k : AS → Prop} {i : Nat} {oi : Oper} {f : FuncId} {as : List Operand} {xs : List AV} {rt : List Nat} {Post : AV → List Ob → Prop} (hc : AC E.P f xs [] rt Post) (hi : nth l i = some oi) (hop : callOf ⟨fr, hp, nx⟩ oi.op = some (f, as)) (hev : AS.evals ⟨fr, hp, nx⟩ as = some xs) (hb : xs.all AV.noh = true)
    (hg : gdv l ⟨fr, hp, nx⟩ oi = some true) (hd : oi.dst = some d) (hn : Nat.blt d E.nt = true) (hT : 99 ∉ rt)
    (kk : ∀ r hout, Post r hout → AH E l cert nr os ms false ⟨(d, r.ren (rho [] nx)) :: fr, named (rho [] nx) 0 hout ++ hp, nx + hout.length⟩ k) : AH E l (CT.cons (i, false) cert) nr os ms fl ⟨fr, hp, nx⟩ k :=
  dC hc 99 [] hi hop hev rfl rfl rfl hg hd hn rfl (bor_noh _ hb) hT kk
theorem ren_noh {f : Nat → Nat} {x : AV} (h : x.noh = true) : x.ren f = x := by
  have hH : ∀ y : HV, y.noh = true → y.ren f = y := by
    intro y hy
    cases y <;> simp [HV.noh] at hy <;> rfl
  have hHs : ∀ ys : List HV, ys.all HV.noh = true → HV.rens f ys = ys := by
    intro ys
    induction ys with
    | nil => intro _; rfl
    | cons y ys ih =>
      intro hy
      simp only [List.all_cons, Bool.and_eq_true] at hy
      simp only [HV.rens, hH y hy.1, ih hy.2]
  cases x with
  | h y => simp only [AV.ren, hH y h]
  | agg ys => simp only [AV.ren, hHs ys h]
  | tup => simp [AV.noh] at h
  | top => simp [AV.noh] at h
/-- A call that lends nothing and answers a plain value. -/
theorem pC0 {f : FuncId} {as : List Operand} {xs : List AV} {rt : List Nat} {x : AV} (hc : AC E.P f xs [] rt (fun r h => h = [] ∧ r = x)) (hop : callOf ⟨fr, hp, nx⟩ o.op = some (f, as)) (hev : AS.evals ⟨fr, hp, nx⟩ as = some xs) (hb : xs.all AV.noh = true) (hx : x.noh = true) (hg : gdv l ⟨fr, hp, nx⟩ o = some true)
    (hd : o.dst = some d) (hn : Nat.blt d E.nt = true) (hT : 99 ∉ rt) (k : AL E l rest ⟨(d, x) :: fr, hp, nx⟩ Q) : AL E l (o :: rest) ⟨fr, hp, nx⟩ Q := by
  refine pC (eCall0 hc hop hev hb hd hn hT) hg ?_
  rintro _ _ ⟨rfl, rfl⟩
  rw [ren_noh hx]
  exact k
theorem dC1 {cert : CT} {nr : Nat} {os ms : List Nat} {fl : Bool} {k : AS → Prop} {i : Nat} {oi : Oper} {f : FuncId} {as : List Operand} {xs : List AV} {rt : List Nat} {x : AV} (hc : AC E.P f xs [] rt (fun r h => h = [] ∧ r = x)) (hi : nth l i = some oi) (hop : callOf ⟨fr, hp, nx⟩ oi.op = some (f, as)) (hev : AS.evals ⟨fr, hp, nx⟩ as = some xs) (hb : xs.all AV.noh = true) (hx : x.noh = true)
    (hg : gdv l ⟨fr, hp, nx⟩ oi = some true) (hd : oi.dst = some d) (hn : Nat.blt d E.nt = true) (hT : 99 ∉ rt) (kk : AH E l cert nr os ms false ⟨(d, x) :: fr, hp, nx⟩ k) : AH E l (CT.cons (i, false) cert) nr os ms fl ⟨fr, hp, nx⟩ k := by
  refine dC0 hc hi hop hev hb hg hd hn hT ?_
  rintro _ _ ⟨rfl, rfl⟩
  rw [ren_noh hx]
  exact kk
theorem pBuild {t : TypeId} {parts : Array (Nat × Operand)} {fs : List (Nat × Nat)} {sz b' : Nat} {zs : List CV} {cs : List HV} (ho : o.op = .build t parts) (ht : look t E.te = some ⟨.struct fs, sz, b', zs⟩) (hlay : lay (plc E.te fs) ⟨fr, hp, nx⟩ (zs.map HV.c) parts.toList = some cs)
    (hg : gdv l ⟨fr, hp, nx⟩ o = some true) (hd : o.dst = some d) (hn : Nat.blt d E.nt = true) (k : AL E l rest ⟨(d, .agg cs) :: fr, hp, nx⟩ Q) : AL E l (o :: rest) ⟨fr, hp, nx⟩ Q :=
  al_pd (by rw [ho]; exact ps_build E.hte ht hlay) hg hd hn k
end
def CutQ (k : Nat) (J : AS → Prop) : Exit → AS → Prop := fun e s' => e = .normal ∧ ∃ r s'', Le k r s' s'' ∧ J s''
/-- What a piece of code comes to, said once, behind all of its cases. -/
theorem awp_cut {E : Env} {s : AS} {a b : Code} {Q : Exit → AS → Prop} (J : AS → Prop) (h : AWP E a s (CutQ E.k J)) (k : ∀ s, J s → AWP E b s Q) : AWP E a s (Sq (fun s' => AWP E b s' Q) Q) := fun g im w0 w hs =>
  wp_mono (h g im w0 w hs) fun e a' w' ⟨g', im', s', h1, h2, r, s'', h3, h4⟩ => by
    subst h2
    exact ⟨_, im', s'', h3.sim h1, k s'' h4⟩
theorem xt_cut {s s'' : AS} {k : Nat} {J : AS → Prop} (r : List (Nat × Nat)) (j : J s'') (h : Le k r s s'') : XT .normal s (CutQ k J) := xt_end (P' := CutQ k J) ⟨rfl, r, s'', h, j⟩
def rows {α : Type} (f : α → List CV) : List α → List CV
  | [] => []
  | a :: l => f a ++ rows f l
section
variable {α : Type} {f : α → List CV} {n : Nat}
theorem rows_length (hf : ∀ a, (f a).length = n) : ∀ l : List α, (rows f l).length = l.length * n
  | [] => by simp [rows]
  | a :: l => by simp [rows, rows_length hf l, hf a, Nat.add_mul, Nat.add_comm]
theorem rows_append : ∀ l m : List α, rows f (l ++ m) = rows f l ++ rows f m
  | [], m => rfl
  | a :: l, m => by simp [rows, rows_append l m]
theorem rows_one (a : α) : rows f [a] = f a := by simp [rows]
theorem rows_take (hf : ∀ a, (f a).length = n) : ∀ (l : List α) (k : Nat), (rows f l).take (k * n) = rows f (l.take k)
  | [], k => by simp [rows]
  | a :: l, 0 => by simp [rows]
  | a :: l, k + 1 => by
    simp only [rows, List.take_succ_cons]
    rw [Nat.add_mul, Nat.one_mul, Nat.add_comm, List.take_append, List.take_of_length_le (by rw [hf]; omega), hf, Nat.add_sub_cancel_left, rows_take hf l k]
theorem rows_drop (hf : ∀ a, (f a).length = n) : ∀ (l : List α) (k : Nat), (rows f l).drop (k * n) = rows f (l.drop k)
  | [], k => by simp [rows]
  | a :: l, 0 => by simp [rows]
  | a :: l, k + 1 => by
    simp only [rows, List.drop_succ_cons]
    rw [Nat.add_mul, Nat.one_mul, Nat.add_comm, List.drop_append, List.drop_of_length_le (by rw [hf]; omega), hf, Nat.add_sub_cancel_left, List.nil_append, rows_drop hf l k]
theorem rows_at (hf : ∀ a, (f a).length = n) {l : List α} {k : Nat} (h : k < l.length) : (rows f l).drop (k * n) = f l[k] ++ rows f (l.drop (k + 1)) := by
  rw [rows_drop hf, List.drop_eq_getElem_cons h]
  rfl
theorem brws_append (T : Nat) : ∀ xs ys : List CV, CV.brws T (xs ++ ys) = CV.brws T xs ++ CV.brws T ys
  | [], ys => by simp [CV.brws]
  | x :: xs, ys => by simp [CV.brws, brws_append T xs ys]
theorem rows_brws (T : Nat) {g : α → List CV} (hg : ∀ a, CV.brws T (f a) = g a) : ∀ l : List α, CV.brws T (rows f l) = rows g l
  | [] => by simp [rows, CV.brws]
  | a :: l => by simp [rows, brws_append, hg, rows_brws T hg l]
theorem tgs_append {rt : List Nat} : ∀ xs ys : List CV, CV.Tgs rt xs → CV.Tgs rt ys → CV.Tgs rt (xs ++ ys)
  | [], ys, _, h => h
  | x :: xs, ys, h, h' => by
    simp only [CV.Tgs, List.cons_append] at h ⊢
    exact ⟨h.1, tgs_append xs ys h.2 h'⟩
theorem rows_tgs {rt : List Nat} (hf : ∀ a, CV.Tgs rt (f a)) : ∀ l : List α, CV.Tgs rt (rows f l)
  | [] => by simp only [rows, CV.Tgs]
  | a :: l => tgs_append _ _ (hf a) (rows_tgs hf l)
end
end Go.Proofs.Ythmgfgiaagkdeaa
/- The engine, part o: the row: arguments that came in are read as abstract values; a law's contract becomes the row's statement. -/
namespace Go.Proofs.Ythmgfgiaagkdeaa
open Go.ChangeShapes Go.WideShapes Go.ChangeAt Go.RowKit Go.Deep

mutual
/-- The cells of one value of a type, as it came in. -/
inductive TyC (te : TE) : Nat → List CV → Prop
  | int {t sz b' : Nat} {zs : List CV} {k : IntKind} {n : Int} : look t te = some ⟨.int k, sz, b', zs⟩ → (Lit.int k n).wf = true → TyC te t [.int k n]
  | bool {t sz b' : Nat} {zs : List CV} {b : Bool} : look t te = some ⟨.bool, sz, b', zs⟩ → TyC te t [.bool b]
  | slice {t e n sz b' : Nat} {zs xs : List CV} : look t te = some ⟨.slice e, sz, b', zs⟩ → n ≤ maxLen → TyR te e n xs → TyC te t [.rd 1 n xs]
  | struct {t sz b' : Nat} {fs : List (Nat × Nat)} {zs xs : List CV} : look t te = some ⟨.struct fs, sz, b', zs⟩ → TyF te fs xs → TyC te t xs
inductive TyR (te : TE) : Nat → Nat → List CV → Prop
  | nil {e : Nat} : TyR te e 0 []
  | cons {e n : Nat} {xs ys : List CV} : TyC te e xs → TyR te e n ys → TyR te e (n + 1) (xs ++ ys)
inductive TyF (te : TE) : List (Nat × Nat) → List CV → Prop
  | nil : TyF te [] []
  | cons {o f : Nat} {fs : List (Nat × Nat)} {xs ys : List CV} : TyC te f xs → TyF te fs ys → TyF te ((o, f) :: fs) (xs ++ ys)
end

/-- The fields lie one behind the other. -/
def packed (te : TE) : List (Nat × Nat) → Nat → Nat → Bool
  | [], o, sz => o == sz
  | (o', f) :: fs, o, sz => o' == o && match look f te with | some inf => packed te fs (o + inf.sz) sz | none => false
def sup (te : TE) : Nat → Nat → Bool
  | 0, _ => false
  | k + 1, t => match look t te with
    | some ⟨.int _, _, _, _⟩ | some ⟨.bool, _, _, _⟩ => true
    | some ⟨.slice e, _, _, _⟩ => sup te k e
    | some ⟨.struct fs, sz, _, _⟩ => packed te fs 0 sz && fs.all fun f => sup te k f.2
    | _ => false

/-- What came in is only read: every old block, tag 1. -/
def oldIm (w : World) : Im := fun t b => t = 1 ∧ b < w.heap.size

section
variable {H : Type} {enc : TypeId × Value → H} {P : Program} {w : World} {te : TE}

theorem cellsOf_te (hte : teOk P te = true) {t : Nat} {inf : TInf} (hx : look t te = some inf) : P.cellsOf t = inf.sz := by
  obtain ⟨⟨i, z, h1, h2, _⟩, _⟩ := teOk_look hte hx
  simp [Program.cellsOf, h1, h2]

theorem und_int (hte : teOk P te = true) {t sz b' : Nat} {zs : List CV} {k : IntKind} (hx : look t te = some ⟨.int k, sz, b', zs⟩) : P.underlying t = some (.int k) := by
  have := und_of hte hx
  cases hp : P.underlying t with
  | none => rw [hp] at this; cases this
  | some d =>
    rw [hp] at this
    cases d <;> simp [TI.is] at this
    rw [this]
theorem und_bool (hte : teOk P te = true) {t sz b' : Nat} {zs : List CV} (hx : look t te = some ⟨.bool, sz, b', zs⟩) : P.underlying t = some .bool := by
  have := und_of hte hx
  cases hp : P.underlying t with
  | none => rw [hp] at this; cases this
  | some d =>
    rw [hp] at this
    cases d <;> simp [TI.is] at this
    rfl
theorem und_struct (hte : teOk P te = true) {t sz b' : Nat} {zs : List CV} {fs : List (Nat × Nat)} (hx : look t te = some ⟨.struct fs, sz, b', zs⟩) : ∃ fa : Array Field, P.underlying t = some (.struct fa) ∧ fs = fa.toList.map (fun f => (f.offset, f.type)) := by
  have := und_of hte hx
  cases hp : P.underlying t with
  | none => rw [hp] at this; cases this
  | some d =>
    rw [hp] at this
    cases d with
    | struct fa =>
      simp only [TI.is, Bool.and_eq_true, beq_iff_eq] at this
      exact ⟨fa, rfl, this.1⟩
    | _ => simp [TI.is] at this

theorem flds_reads {te : TE} (f : Nat → List Value → Option (DataW H × List MemPlace)) (hte : teOk P te = true) (cs : List Value)
    (hf : ∀ t cs x, (∃ k, sup te k t = true) → f t cs = some x → ∃ xs, TyC te t xs ∧ RHs (fun _ => none) (oldIm w) w (xs.map HV.c) cs []) :
    ∀ (fs : List (Nat × Nat)) (o : Nat), packed te fs o cs.length = true → (∀ p ∈ fs, ∃ k, sup te k p.2 = true) → (∀ p ∈ fs, ∃ x, f p.2 ((cs.drop p.1).take (P.cellsOf p.2)) = some x) → o ≤ cs.length →
      ∃ xs, TyF te fs xs ∧ RHs (fun _ => none) (oldIm w) w (xs.map HV.c) (cs.drop o) []
  | [], o, hp, _, _, _ => by
    simp only [packed, beq_iff_eq] at hp
    exact ⟨[], .nil, by rw [hp]; simp [RHs]⟩
  | (o', t) :: fs, o, hp, hs, hx, ho => by
    simp only [packed, Bool.and_eq_true, beq_iff_eq] at hp
    obtain ⟨rfl, hp⟩ := hp
    split at hp
    · rename_i inf hl
      obtain ⟨x, hx0⟩ := hx (o', t) (by simp)
      obtain ⟨xs, h1, h2⟩ := hf _ _ _ (hs (o', t) (by simp)) hx0
      rw [cellsOf_te hte hl] at h2
      have hlen : ∀ (fs : List (Nat × Nat)) (o sz : Nat), packed te fs o sz = true → o ≤ sz := by
        intro fs
        induction fs with
        | nil => intro o sz h; simp only [packed, beq_iff_eq] at h; omega
        | cons a fs ih =>
          intro o sz h
          obtain ⟨a1, a2⟩ := a
          simp only [packed, Bool.and_eq_true] at h
          obtain ⟨_, h⟩ := h
          split at h
          · have := ih _ _ h; omega
          · cases h
      have hle := hlen _ _ _ hp
      obtain ⟨ys, h3, h4⟩ := flds_reads f hte cs hf fs (o' + inf.sz) hp (fun p hp => hs p (List.mem_cons_of_mem _ hp)) (fun p hp => hx p (List.mem_cons_of_mem _ hp)) hle
      refine ⟨xs ++ ys, .cons h1 h3, ?_⟩
      have := RHs_append _ _ _ _ _ _ h2 h4
      rw [List.map_append]
      have e : cs.drop o' = (cs.drop o').take inf.sz ++ cs.drop (o' + inf.sz) := by
        rw [← List.drop_drop, List.take_append_drop]
      rw [e]
      exact this
    · cases hp

theorem reads (hte : teOk P te = true) : ∀ (k t fuel : Nat) (cs : List Value) (x : DataW H × List MemPlace), sup te k t = true → DataW.trod enc P w 0 (fun _ => true) true fuel t cs = some x →
    ∃ xs, TyC te t xs ∧ RHs (fun _ => none) (oldIm w) w (xs.map HV.c) cs []
  | 0, t, fuel, cs, x, hs, _ => by simp [sup] at hs
  | k + 1, t, fuel, cs, x, hs, h => by
    simp only [sup] at hs
    split at hs
    · rename_i hl
      obtain ⟨n, rfl, _, hw⟩ := DataW.trod_int (und_int hte hl) h
      exact ⟨_, .int hl hw, _, [], [], [], rfl, rfl, ⟨rfl, rfl⟩, rfl, rfl⟩
    · rename_i hl
      obtain ⟨b, rfl, _⟩ := DataW.trod_bool (und_bool hte hl) h
      exact ⟨[.bool b], .bool hl, _, [], [], [], rfl, rfl, ⟨rfl, rfl⟩, rfl, rfl⟩
    · rename_i e _ _ _ hl
      have hu : P.underlying t = some (.slice e) := slice_und hte hl
      rcases open_slice hu h with ⟨rfl, _⟩ | ⟨a, len, cap, m, n, D, Pl, rfl, _, hlc, hcm, hm, _, hi⟩
      · exact ⟨[.rd 1 0 []], .slice hl (Nat.zero_le _) .nil, _, [], [], [], rfl, rfl, by simp only [RH, R]; exact ⟨trivial, none, 0, rfl, Nat.le_refl _, Nat.zero_le _, .inl trivial⟩, rfl, rfl⟩
      · simp only [if_true] at hm
        have hmc : m = cap := hm
        clear hm
        have key : ∀ (j i : Nat), i + j ≤ len → ∃ xs, TyR te e j xs ∧ xs.length = j * P.cellsOf e ∧ (xs = [] ∨ a.block < w.heap.size ∧ RL (oldIm w) w a.block xs (a.off + i * P.cellsOf e) []) := by
          intro j
          induction j with
          | zero => exact fun i _ => ⟨[], .nil, by simp, .inl (Eq.refl _)⟩
          | succ j ih =>
            intro i hij
            obtain ⟨ys, hy1, hyl, hy2⟩ := ih (i + 1) (by omega)
            obtain ⟨cs', hc, ht⟩ := hi i (by omega)
            obtain ⟨xs, hx1, hx2⟩ := reads hte k e n cs' _ hs ht
            obtain ⟨_, hcl, hat⟩ := World.cells?_some hc
            have hxl := RHs_length _ _ _ hx2
            simp only [List.length_map] at hxl
            refine ⟨xs ++ ys, .cons hx1 hy1, by rw [List.length_append, Nat.succ_mul]; omega, ?_⟩
            cases hxs : xs with
            | nil =>
              subst hxs
              simp only [List.length_nil] at hxl
              have : P.cellsOf e = 0 := by omega
              refine .inl ?_
              rw [this] at hyl
              simpa using hyl
            | cons c xs' =>
              rw [hxs] at hxl hx2
              have hpos : 0 < cs'.length := by simp at hxl; omega
              have hplace : ∀ d, d < cs'.length → w.cell? ⟨a.block, a.off + i * P.cellsOf e + d, none⟩ = cs'[d]? := by
                intro d hd
                have h0 := hat d (by omega)
                rw [← h0]
                congr 1
                unfold Addr.add
                obtain ⟨b, o, sp⟩ := a
                split
                · split
                  · rename_i e1 e2
                    have h1 := hat 0 (by omega)
                    rw [List.getElem?_eq_getElem hpos] at h1
                    have h2 := World.cell?_spot h1
                    have : sp = none := by simpa [Addr.add, e2] using h2
                    subst this; simp [e1, e2]
                  · simp
                · simp
                  split <;> simp_all
              have hv := hplace 0 hpos
              rw [List.getElem?_eq_getElem hpos] at hv
              have hb : a.block < w.heap.size := by
                cases hh : w.heap[a.block]? with
                | none => simp [World.cell?, hh] at hv
                | some _ => exact (Array.getElem?_eq_some_iff.1 hh).1
              refine .inr ⟨hb, ?_⟩
              have hL : RL (oldIm w) w a.block (c :: xs') (a.off + i * P.cellsOf e) [] := RHs_RL _ _ _ _ hx2 (fun j u hu => by
                have hj : j < cs'.length := (List.getElem?_eq_some_iff.1 hu).1
                rw [hplace j hj, hu])
              refine RL_append (c :: xs') ys (a.off + i * P.cellsOf e) [] [] hL ?_
              rcases hy2 with h0 | ⟨h2, h3⟩
              · rw [h0]; simp only [RL]
              · have e1 : a.off + i * P.cellsOf e + (c :: xs').length = a.off + (i + 1) * P.cellsOf e := by rw [Nat.succ_mul]; simp at hxl ⊢; omega
                rw [e1]; exact h3
        obtain ⟨xs, h1, hl', h2⟩ := key len 0 (by omega)
        refine ⟨_, .slice hl (by omega) h1, _, [], [], [], rfl, rfl, ?_, rfl, rfl⟩
        simp only [RH, R]
        refine ⟨trivial, _, cap, rfl, hlc, hcm, ?_⟩
        rcases h2 with h2 | ⟨h3, h4⟩
        · exact .inl h2
        · by_cases hx0 : xs = []
          · exact .inl hx0
          · refine .inr ⟨a.block, a.off, ?_, ⟨rfl, h3⟩, by simpa using h4⟩
            have hxp : 0 < xs.length := List.length_pos_iff.2 hx0
            have hlp : 0 < len := by rcases Nat.eq_zero_or_pos len with h | h; · simp [h] at hl'; exact absurd hl' hx0
                                     · exact h
            have hcp : 0 < P.cellsOf e := by rcases Nat.eq_zero_or_pos (P.cellsOf e) with h | h; · simp [h] at hl'; exact absurd hl' hx0
                                             · exact h
            obtain ⟨cs', hc, _⟩ := hi 0 (by omega)
            obtain ⟨_, hcl, hat⟩ := World.cells?_some hc
            have h1 := hat 0 hcp
            rw [List.getElem?_eq_getElem (by omega)] at h1
            have h2 := World.cell?_spot h1
            obtain ⟨b, o, sp⟩ := a
            have : sp = none := by simpa [Addr.add] using h2
            rw [this]
    · rename_i fs sz _ _ hl
      simp only [Bool.and_eq_true, List.all_eq_true] at hs
      obtain ⟨hp, hk⟩ := hs
      obtain ⟨fa, hu, hfs⟩ := und_struct hte hl
      obtain ⟨ys, n, _, _, hlen, hyl, hg⟩ := DataW.trod_struct hu h
      rw [cellsOf_te hte hl] at hlen
      simp only at hlen
      obtain ⟨xs, h1, h2⟩ := flds_reads (P := P) (fun t cs => if sup te k t = true then DataW.trod enc P w 0 (fun _ => true) true n t cs else none) hte cs
        (fun t cs x _ hx => by
          split at hx
          · rename_i hk'; exact reads hte k t n cs x hk' hx
          · cases hx) fs 0 (by rw [hlen]; exact hp) (fun p hp => ⟨k, hk p hp⟩)
        (fun p hp => by
          simp only [hk p hp, if_true]
          rw [hfs, List.mem_map] at hp
          obtain ⟨f, hf, rfl⟩ := hp
          obtain ⟨i, hi, hf'⟩ := List.getElem_of_mem hf
          have hi' : i < fa.size := by simpa using hi
          have := hg i f (by rw [Array.getElem?_eq_getElem hi']; simpa using hf')
          exact ⟨_, this.trans (List.getElem?_eq_getElem (by omega))⟩) (Nat.zero_le _)
      exact ⟨xs, .struct hl h1, by simpa using h2⟩
    · cases hs
end

/-- An argument's abstract value, of its type's cells. -/
inductive TyA (te : TE) : Nat → AV → Prop
  | one {t : Nat} {inf : TInf} {x : CV} : look t te = some inf → inf.d.isAgg = false → TyC te t [x] → TyA te t (.h (.c x))
  | agg {t : Nat} {inf : TInf} {xs : List CV} : look t te = some inf → inf.d.isAgg = true → TyC te t xs → TyA te t (.agg (xs.map HV.c))
inductive TyAs (te : TE) : List Nat → List AV → Prop
  | nil : TyAs te [] []
  | cons {t : Nat} {ts : List Nat} {x : AV} {xs : List AV} : TyA te t x → TyAs te ts xs → TyAs te (t :: ts) (x :: xs)

section
variable {H : Type} {enc : TypeId × Value → H} {P : Program} {w : World} {te : TE}
theorem TyC_one {t : Nat} {inf : TInf} {xs : List CV} (h : TyC te t xs) (hl : look t te = some inf) (ha : inf.d.isAgg = false) : ∃ x, xs = [x] := by
  cases h with
  | int => exact ⟨_, rfl⟩
  | bool => exact ⟨_, rfl⟩
  | slice => exact ⟨_, rfl⟩
  | struct hl' _ => rw [hl] at hl'; injection hl' with e; subst e; simp [TI.isAgg] at ha

theorem okWide_bool' {r : Reach} {b0 t : Nat} {v : Value} (ht : P.underlying t = some .bool) (h : Value.okWide P w r b0 t v) : ∃ b, v = .bool b := by
  simp only [Value.okWide, ht, Cell.okWide] at h
  cases v <;> simp_all [Cell.ok]
theorem sup_look {k t : Nat} (h : sup te k t = true) : ∃ inf, look t te = some inf ∧ ∀ n e, inf.d ≠ .array n e := by
  cases k with
  | zero => simp [sup] at h
  | succ k =>
    simp only [sup] at h
    split at h
    · rename_i hl; exact ⟨_, hl, fun n e h => by cases h⟩
    · rename_i hl; exact ⟨_, hl, fun n e h => by cases h⟩
    · rename_i hl; exact ⟨_, hl, fun n e h => by cases h⟩
    · rename_i hl; exact ⟨_, hl, fun n e h => by cases h⟩
    · cases h
theorem readsAll (hte : teOk P te = true) {base : Nat} : ∀ (ts : List Nat) (vs : List Value) (ds : List (DataW H)) (ps : List MemPlace), ts.all (sup te 9) = true → DataW.TrodAll enc P w 0 (fun _ => true) true ts vs ds ps →
    (∀ (j : Nat) t v, ts[j]? = some t → vs[j]? = some v → Value.okWide P w .any base t v) → ∃ xs, TyAs te ts xs ∧ RAs (fun _ => none) (oldIm w) w xs vs []
  | [], vs, ds, ps, _, h, _ => by
    obtain ⟨rfl, _, _⟩ := trodAll_nil h
    exact ⟨[], .nil, by simp [RAs]⟩
  | t :: ts, vs, ds, ps, hs, h, hv => by
    obtain ⟨v, vs', d, ds', p, q, rfl, _, _, h1, h2⟩ := trodAll_cons h
    simp only [List.all_cons, Bool.and_eq_true] at hs
    obtain ⟨ys, h3, h4⟩ := readsAll hte ts vs' ds' q hs.2 h2 (fun j t v a b => hv (j + 1) t v (by simpa using a) (by simpa using b))
    obtain ⟨fuel, hf⟩ := h1
    obtain ⟨xs, h5, h6⟩ := reads hte 9 t fuel v.cells.toList (d, p) hs.1 hf
    have hok := hv 0 t v rfl rfl
    have hx : ∃ x, TyA te t x ∧ RA (fun _ => none) (oldIm w) w x v [] := by
      obtain ⟨inf, hl, hna⟩ := sup_look hs.1
      cases ha : inf.d.isAgg with
      | true =>
        have : ∃ cs : Array Value, v = .agg cs := by
          obtain ⟨d', sz, b', zs⟩ := inf
          cases d' with
          | struct fs =>
            obtain ⟨fa, hu, _⟩ := und_struct hte hl
            obtain ⟨cs, e, _⟩ := okWide_struct hu hok
            exact ⟨cs, e⟩
          | array n e => exact absurd rfl (hna n e)
          | _ => simp [TI.isAgg] at ha
        obtain ⟨cs, rfl⟩ := this
        refine ⟨_, .agg hl ha h5, cs.toList, by simp, ?_⟩
        simpa [Value.cells] using h6
      | false =>
        obtain ⟨x, rfl⟩ := TyC_one h5 hl ha
        obtain ⟨u, vs1, f1, f2, e1, e2, h7, h8⟩ := h6
        obtain ⟨rfl, _⟩ := h8
        have hv1 : v = u := by
          obtain ⟨d', sz, b', zs⟩ := inf
          cases d' with
          | int k => obtain ⟨n, rfl⟩ := okWide_int (und_int hte hl) hok; simp [Value.cells] at e1; exact e1
          | bool =>
            obtain ⟨n, rfl⟩ := okWide_bool' (und_bool hte hl) hok
            simp [Value.cells] at e1; exact e1
          | slice e => obtain ⟨a, len, cap, rfl⟩ := okWide_slice (slice_und hte hl) hok; simp [Value.cells] at e1; exact e1
          | _ => simp [TI.isAgg] at ha
        subst hv1
        have : f1 = [] := by cases f1 <;> simp at e2 ⊢
        subst this
        exact ⟨_, .one hl ha h5, by simpa only [RA] using h7⟩
    obtain ⟨x, h7, h8⟩ := hx
    exact ⟨x :: ys, .cons h7 h3, by simp only [RAs]; exact ⟨v, vs', [], [], rfl, rfl, h8, h4⟩⟩

theorem rereadAll (hl : laidOutB P = true) {W W' : World} (hb : Below W.heap.size W W') {sp : Nat → Bool} : ∀ (ts : List Nat) (vs : List Value) (ds : List (DataW H)) (ps : List MemPlace), (ts.all fun t => P.readableRec t && decide (t < P.types.size)) = true →
    DataW.TrodAll enc P W 0 (fun _ => true) true ts vs ds ps → (∀ p ∈ ps, p.block < W.heap.size) → (∀ p ∈ ps, sp p.block = true) → DataW.TrodAll enc P W' 0 sp true ts vs ds ps
  | [], vs, ds, ps, _, h, _, _ => by
    obtain ⟨rfl, rfl, rfl⟩ := trodAll_nil h
    exact rfl
  | t :: ts, vs, ds, ps, hr, h, hlt, hsp => by
    obtain ⟨v, vs', d, ds', p, q, rfl, rfl, rfl, h1, h2⟩ := trodAll_cons h
    simp only [List.all_cons, Bool.and_eq_true, decide_eq_true_eq] at hr
    exact ⟨p, q, WideElems.Trod_stays hl hr.1.1 hr.1.2 h1 (fun x hx => hb.same (hlt x (List.mem_append_left _ hx))) (fun x hx => hsp x (List.mem_append_left _ hx)),
      rereadAll hl hb ts vs' ds' q (by simpa using hr.2) h2 (fun x hx => hlt x (List.mem_append_right _ hx)) (fun x hx => hsp x (List.mem_append_right _ hx)), rfl⟩

theorem post_of_below {f : Func} {s : ChangeSpec} {apart fresh handsOn again : Bool} {W W' : World} {args : Array Value} {v : Value} {ds gs : List (DataW H)} {before pa pv : List MemPlace}
    (hW : DataW.Whole enc P f.params.toList s.vars apart W args.toList ds gs before)
    (hres : ∀ (b : Nat) (sp : Nat → Bool) (hd : Bool), DataW.TrodAll enc P W' b sp hd f.resultTypes.toList (v.resultList f.resultTypes.size) (s.fn H (ds ++ gs)).results [])
    (hargs : ∀ sp : Nat → Bool, (∀ p ∈ before, sp p.block = true) → DataW.TrodAll enc P W' 0 sp true f.params.toList args.toList (s.fn H (ds ++ gs)).args pa)
    (hvars : ∀ sp : Nat → Bool, (∀ p ∈ before, sp p.block = true) → DataW.TrodVars enc P W' sp s.vars (s.fn H (ds ++ gs)).vars pv)
    (hps : before = pa ++ pv) (hb : Below W.heap.size W W')
    (hok : ∀ (j : Nat) (t : TypeId) (r : Value), f.resultTypes[j]? = some t → (v.resultList f.resultTypes.size)[j]? = some r → Value.okWide P W' .any 0 t r) :
    s.post enc P f apart fresh handsOn again W args v W' := by
  have hlt : ∀ p ∈ before, p.block < W.heap.size := fun p hp => hW.lt p hp
  have hold : ∀ p ∈ before, (fun b => decide (b < W.heap.size)) p.block = true := fun p hp => by simpa using hlt p hp
  refine ⟨ds, gs, before, [], pa, pv, hW, hres _ _ _, hargs _ hold, hvars _ hold, World.keptBut_mono (fun p hp => ⟨hp, ?_⟩) (hb.frame (· ∈ before)), fun _ => ?_⟩
  · rw [hps, List.mem_append] at hp
    exact Or.inr hp
  · obtain ⟨_, _, _, _, _, hz, hn⟩ := hW
    refine ⟨hok, _, _, ([] ++ pa) ++ pv, ⟨[] ++ pa, pv, trodAll_append (hargs _ (fun _ _ => rfl)) (hres _ _ _), hvars _ (fun _ _ => rfl), rfl, ?_, ?_⟩, ?_⟩
    · intro b off hp
      have hin : MemPlace.cell b off ∈ before := by rw [hps]; simpa using hp
      rw [hb.frozen (hlt _ hin)]
      exact hz b off hin
    · intro ha
      have := hn ha
      rw [hps] at this
      simpa using this
    · intro p hp _
      rw [hps]
      simpa using hp

/-- **A law's contract is the row.** -/
theorem law_lifted {C : Checked} {te : TE} (hte : teOk C.prog te = true) (own : ownKnob C.prog.godebug = none) (laid : laidOutB C.prog = true) {f : FuncId} {fn : Func} {s : ChangeSpec} {ts : List Nat} {tb : Nat} {rt : List Nat} {apart fresh handsOn again : Bool}
    (os : Os) (started : os.Started) (enc : TypeId × Value → H) (noInit : C.prog.inits.idxOf? f = none) (hfn : C.prog.funcs[f]? = some fn) (hp : fn.params.toList = ts) (hr : fn.resultTypes = #[tb]) (hub : C.prog.underlying tb = some .bool)
    (hsup : ts.all (sup te 9) = true) (hrd : (ts.all fun t => C.prog.readableRec t && decide (t < C.prog.types.size)) = true) (hvars : s.vars = [])
    (hsp : ∀ ds : List (DataW H), ds.length = ts.length → s.fn H ds = { results := [.lit (.bool true)], args := ds })
    (witness : ∃ (w : World) (tape : Tape) (i : Input), w.os = os ∧ (w.forCall tape i).Shaped C.prog ∧ i.vars = [] ∧ Input.okWide C.prog (w.forCall tape i) .any w.heap.size f i ∧
      s.pre6 enc C.prog fn [] apart (w.forCall tape i).memory i.args ∧ (({} : Assume)).holds C.prog (lone (Frame.enter C.prog f i.args .normal) [] (w.forCall tape i)))
    (law : ∀ xs, TyAs te ts xs → AC C.prog f xs [] rt (fun r h => h = [] ∧ r = .h (.c (.bool true)))) :
    ReturnsInHanded {} C os f .any (s.pre6 enc C.prog fn [] apart) (s.post enc C.prog fn apart fresh handsOn again) := by
  refine returnsInHanded_of_change own started noInit hfn witness ?_
  intro W base args ds gs before hval hW _ _
  have hW' := hW
  obtain ⟨p, q, hA, hV, rfl, hfz, hnd⟩ := hW
  rw [hvars] at hV
  obtain ⟨rfl, rfl⟩ : gs = [] ∧ q = [] := by
    cases gs with
    | nil => exact ⟨rfl, hV⟩
    | cons => cases hV
  rw [hp] at hA
  obtain ⟨xs, hxs, hra⟩ := readsAll hte ts args.toList ds p hsup hA (fun j t v h1 h2 => hval j t v (by rw [← Array.getElem?_toList, hp]; exact h1) (by rw [← Array.getElem?_toList]; exact h2))
  obtain ⟨_, hac⟩ := law xs hxs
  have := hac W (fun _ => none) (oldIm W) args.toList [] hra rfl List.nodup_nil (fun _ h => by cases h) (fun t b h => h.2) (fun _ _ => rfl) (fun _ _ _ h => by cases h)
  rw [Array.toArray_toList] at this
  refine this.mono fun e W' ⟨r, hout, v, g', im', fps', ⟨h1, h2⟩, h3, h4⟩ => ?_
  subst h1; subst h2; subst h3
  have hv := RA_bool h4.res
  subst hv
  have hb : Below W.heap.size W W' := ⟨h4.kp.os, h4.kp.tape, h4.kp.output, h4.kp.size, fun k hk => h4.kp.block k hk (by simp)⟩
  have hlt : ∀ x ∈ p, x.block < W.heap.size := fun x hx => hW'.lt x (by simpa using hx)
  have hlen : ds.length = ts.length := by
    have : ∀ (ts : List Nat) (vs : List Value) (ds : List (DataW H)) (p : List MemPlace), DataW.TrodAll enc C.prog W 0 (fun _ => true) true ts vs ds p → ds.length = ts.length := by
      intro ts
      induction ts with
      | nil => intro vs ds p h; obtain ⟨_, rfl, _⟩ := trodAll_nil h; rfl
      | cons t ts ih => intro vs ds p h; obtain ⟨_, _, _, _, _, _, _, rfl, _, _, h⟩ := trodAll_cons h; simp [ih _ _ _ h]
    exact this _ _ _ _ hA
  have hs := hsp ds hlen
  refine ⟨_, rfl, post_of_below (pa := p) (pv := []) hW' ?_ ?_ ?_ rfl hb ?_⟩
  · intro b sp hd
    rw [List.append_nil, hs, hr]
    exact trodAll_mk1 (shut_bool hub _)
  · intro sp hsp'
    rw [List.append_nil, hs, hp]
    exact rereadAll laid hb ts args.toList ds p hrd hA hlt (fun x hx => hsp' x (by simpa using hx))
  · intro sp _
    rw [List.append_nil, hs, hvars]
    rfl
  · exact ok_one hr rfl (okWide_bool_mk hub _)
end
end Go.Proofs.Ythmgfgiaagkdeaa
/- The engine, part p: rules for regions that draw, in the order in which they fail early; slices owned. -/
namespace Go.Proofs.Ythmgfgiaagkdeaa
open Go.RowKit
section
variable {E : Env} {l rest : List Oper} {fr : List (Nat × AV)} {hp : List (Nat × Ob)} {nx : Nat} {o : Oper} {Q : Exit → AS → Prop} {d : Nat}
variable {cert : CT} {nr : Nat} {os ms : List Nat} {fl : Bool} {k : AS → Prop} {i : Nat} {oi : Oper}
theorem dAr {op : BinOp} {t t' : TypeId} {x y : Operand} {a b r : Int} (hi : nth l i = some oi) (ho : oi.op = .binOp op t x y t') (hx : AS.eval ⟨fr, hp, nx⟩ x = some (.h (.c (.int .i64 a)))) (hy : AS.eval ⟨fr, hp, nx⟩ y = some (.h (.c (.int .i64 b)))) (hr : arI op a b = some r)
    (hg : gdv l ⟨fr, hp, nx⟩ oi = some true) (hd : oi.dst = some d) (hn : Nat.blt d E.nt = true) (h1 : -9223372036854775808 ≤ r) (h2 : r ≤ 9223372036854775807) (kk : AH E l cert nr os ms fl ⟨(d, .h (.c (.int .i64 r))) :: fr, hp, nx⟩ k) : AH E l (CT.cons (i, true) cert) nr os ms fl ⟨fr, hp, nx⟩ k :=
  dPS hi (by rw [ho]; exact ps_ar hx hy hr h1 h2) hg hd hn kk
theorem dQuo {t t' : TypeId} {x y : Operand} {a b : Int} (hi : nth l i = some oi) (ho : oi.op = .binOp .quo t x y t') (hx : AS.eval ⟨fr, hp, nx⟩ x = some (.h (.c (.int .i64 a)))) (hy : AS.eval ⟨fr, hp, nx⟩ y = some (.h (.c (.int .i64 b))))
    (hg : gdv l ⟨fr, hp, nx⟩ oi = some true) (hd : oi.dst = some d) (hn : Nat.blt d E.nt = true) (h0 : 0 ≤ a) (h1 : 0 < b) (h2 : a ≤ 9223372036854775807) (kk : AH E l cert nr os ms fl ⟨(d, .h (.c (.int .i64 (a / b)))) :: fr, hp, nx⟩ k) : AH E l (CT.cons (i, true) cert) nr os ms fl ⟨fr, hp, nx⟩ k :=
  dPS hi (by rw [ho]; exact ps_quo hx hy h0 h1 h2) hg hd hn kk
theorem dRem {t t' : TypeId} {x y : Operand} {a b : Int} (hi : nth l i = some oi) (ho : oi.op = .binOp .rem t x y t') (hx : AS.eval ⟨fr, hp, nx⟩ x = some (.h (.c (.int .i64 a)))) (hy : AS.eval ⟨fr, hp, nx⟩ y = some (.h (.c (.int .i64 b))))
    (hg : gdv l ⟨fr, hp, nx⟩ oi = some true) (hd : oi.dst = some d) (hn : Nat.blt d E.nt = true) (h0 : 0 ≤ a) (h1 : 0 < b) (kk : AH E l cert nr os ms fl ⟨(d, .h (.c (.int .i64 (a % b)))) :: fr, hp, nx⟩ k) : AH E l (CT.cons (i, true) cert) nr os ms fl ⟨fr, hp, nx⟩ k :=
  dPS hi (by rw [ho]; exact ps_rem hx hy h0 h1) hg hd hn kk
theorem dConv {src dst : TypeId} {x : Operand} {k' : IntKind} {a : Int} {inf inf' : TInf} (hi : nth l i = some oi) (ho : oi.op = .convert src dst x) (hx : AS.eval ⟨fr, hp, nx⟩ x = some (.h (.c (.int k' a)))) (hs1 : look src E.te = some inf) (hd1 : look dst E.te = some inf') (hd2 : inf'.d = .int .i64)
    (hg : gdv l ⟨fr, hp, nx⟩ oi = some true) (hd : oi.dst = some d) (hn : Nat.blt d E.nt = true) (h0 : -9223372036854775808 ≤ a) (h1 : a ≤ 9223372036854775807) (kk : AH E l cert nr os ms fl ⟨(d, .h (.c (.int .i64 a))) :: fr, hp, nx⟩ k) : AH E l (CT.cons (i, true) cert) nr os ms fl ⟨fr, hp, nx⟩ k :=
  dPS hi (by rw [ho]; exact ps_conv E.hte hx hs1 hd1 hd2 h0 h1) hg hd hn kk
/-- The place of an element of a slice that is only read. -/
theorem dIx {t e : Nat} {sz b' : Nat} {zs : List CV} {x ix : Operand} {tg n : Nat} {xs : List CV} {j : Int} {inf : TInf} {y : CV} {ys : List CV} (m : Nat) (hi : nth l i = some oi) (ho : oi.op = .indexAddr t x ix)
    (hx : AS.eval ⟨fr, hp, nx⟩ x = some (.h (.c (.rd tg n xs)))) (hj : AS.eval ⟨fr, hp, nx⟩ ix = some (.h (.c (.int .i64 j)))) (ht : look t E.te = some ⟨.slice e, sz, b', zs⟩) (he : look e E.te = some inf)
    (hg : gdv l ⟨fr, hp, nx⟩ oi = some true) (hd : oi.dst = some d) (hn : Nat.blt d E.nt = true) (hk : j = (m : Int)) (hlt : m < n) (hdr : xs.drop (m * inf.sz) = y :: ys) (kk : AH E l cert nr os ms fl ⟨(d, .h (.rp tg (y :: ys))) :: fr, hp, nx⟩ k) : AH E l (CT.cons (i, true) cert) nr os ms fl ⟨fr, hp, nx⟩ k :=
  dPS hi (by rw [ho]; exact ps_ix m E.hte hx hj hk hlt ht he hdr) hg hd hn kk
/-- .. of a row of the call's own. -/
theorem dIxo {t e : Nat} {sz b' : Nat} {zs : List CV} {x ix : Operand} {id j n : Nat} {ty e' : Nat} {xs : List CV} {q : Int} {inf : TInf} (m : Nat) (hi : nth l i = some oi) (ho : oi.op = .indexAddr t x ix)
    (hx : AS.eval ⟨fr, hp, nx⟩ x = some (.h (.sl id j n))) (hj : AS.eval ⟨fr, hp, nx⟩ ix = some (.h (.c (.int .i64 q)))) (ht : look t E.te = some ⟨.slice e, sz, b', zs⟩) (he : look e E.te = some inf) (hob : look id hp = some (.arr ty e' xs)) (hes : e' = inf.sz)
    (hg : gdv l ⟨fr, hp, nx⟩ oi = some true) (hd : oi.dst = some d) (hn : Nat.blt d E.nt = true) (hk : q = (m : Int)) (hlt : m < n) (kk : AH E l cert nr os ms fl ⟨(d, .h (.ptr id ((j + m) * inf.sz))) :: fr, hp, nx⟩ k) : AH E l (CT.cons (i, true) cert) nr os ms fl ⟨fr, hp, nx⟩ k :=
  dPS hi (by rw [ho]; exact ps_ixo m E.hte hx hj hk hlt ht he hob hes) hg hd hn kk
/-- A load out of a row of the call's own. -/
theorem dLdo {t : Nat} {x : Operand} {id off : Nat} {ty e : Nat} {xs zs : List CV} {inf : TInf} {v : AV} (hi : nth l i = some oi) (ho : oi.op = .load t x) (hx : AS.eval ⟨fr, hp, nx⟩ x = some (.h (.ptr id off))) (hob : look id hp = some (.arr ty e xs)) (hl : look t E.te = some inf)
    (hg : gdv l ⟨fr, hp, nx⟩ oi = some true) (hd : oi.dst = some d) (hn : Nat.blt d E.nt = true) (hid : okid (some os) id = true) (hdr : xs.drop off = zs) (h : loadH inf ((zs.take inf.sz).map HV.c) = some v) (kk : AH E l cert nr os ms fl ⟨(d, v) :: fr, hp, nx⟩ k) : AH E l (CT.cons (i, true) cert) nr os ms fl ⟨fr, hp, nx⟩ k :=
  dPS hi (by rw [ho]; exact ps_ldo E.hte hx hob hl hid hdr h) hg hd hn kk
/-- A cut of a slice that is only read. -/
theorem dCut {t e : Nat} {sz b' : Nat} {zs : List CV} {x : Operand} {lo hi' : Option Operand} {tg n : Nat} {xs ys : List CV} {il ih : Int} {inf : TInf} (lw h : Nat) (hi : nth l i = some oi) (ho : oi.op = .slice t x lo hi' none)
    (hx : AS.eval ⟨fr, hp, nx⟩ x = some (.h (.c (.rd tg n xs)))) (hlo : bnd ⟨fr, hp, nx⟩ 0 lo = some il) (hhi : bnd ⟨fr, hp, nx⟩ n hi' = some ih) (ht : look t E.te = some ⟨.slice e, sz, b', zs⟩) (he : look e E.te = some inf)
    (hg : gdv l ⟨fr, hp, nx⟩ oi = some true) (hd : oi.dst = some d) (hn : Nat.blt d E.nt = true) (hl : il = (lw : Int)) (hh : ih = (h : Int)) (h1 : lw ≤ h) (h2 : h ≤ n) (hdr : (xs.drop (lw * inf.sz)).take ((h - lw) * inf.sz) = ys) (kk : AH E l cert nr os ms fl ⟨(d, .h (.c (.rd tg (h - lw) ys))) :: fr, hp, nx⟩ k) : AH E l (CT.cons (i, true) cert) nr os ms fl ⟨fr, hp, nx⟩ k :=
  dPS hi (by rw [ho]; exact ps_cut lw h E.hte hx hlo hhi hl hh h1 h2 ht he hdr) hg hd hn kk
theorem dBuild {t : TypeId} {parts : Array (Nat × Operand)} {fs : List (Nat × Nat)} {sz b' : Nat} {zs : List CV} {cs : List HV} (hi : nth l i = some oi) (ho : oi.op = .build t parts) (ht : look t E.te = some ⟨.struct fs, sz, b', zs⟩) (hlay : lay (plc E.te fs) ⟨fr, hp, nx⟩ (zs.map HV.c) parts.toList = some cs)
    (hg : gdv l ⟨fr, hp, nx⟩ oi = some true) (hd : oi.dst = some d) (hn : Nat.blt d E.nt = true) (kk : AH E l cert nr os ms fl ⟨(d, .agg cs) :: fr, hp, nx⟩ k) : AH E l (CT.cons (i, true) cert) nr os ms fl ⟨fr, hp, nx⟩ k :=
  dPS hi (by rw [ho]; exact ps_build E.hte ht hlay) hg hd hn kk
end
/-- A cut's end, where what is said of the state is a state with some values left open. -/
theorem xt_cutE {α : Type} {s : AS} {k : Nat} {R : α → Prop} {st : α → AS} (y : α) (r : List (Nat × Nat)) (h : Le k r s (st y)) (hR : R y) : XT .normal s (CutQ k (fun s => ∃ y, R y ∧ s = st y)) := xt_cut r ⟨y, hR, rfl⟩ h
def Plain (xs : List CV) : Prop := ∀ T, CV.brws T xs = xs
theorem plain_rows {α : Type} {f : α → List CV} (h : ∀ a, Plain (f a)) (l : List α) : Plain (rows f l) := fun T => rows_brws T (fun a => h a T) l
theorem bor_sl {rest : List (Nat × Ob)} {ps : List Nat} {T id n ty e : Nat} {xs : List CV} (hl : look id rest = some (.arr ty e xs)) (hp : Plain xs) : BorH rest ps T (.sl id 0 n) (.c (.rd T n xs)) :=
  .inr ⟨ty, e, xs, xs, xs.length, hl, by rw [Nat.zero_mul, List.drop_zero, List.take_length]; exact hp T, rfl⟩
section
variable {E : Env} {l rest : List Oper} {fr : List (Nat × AV)} {hp : List (Nat × Ob)} {nx : Nat} {o : Oper} {Q : Exit → AS → Prop} {d : Nat}
variable {cert : CT} {nr : Nat} {os ms : List Nat} {fl : Bool} {k : AS → Prop} {i : Nat} {oi : Oper}
variable {f : FuncId} {as : List Operand} {xs ys : List AV} {rt : List Nat}
theorem pCv {x : AV} (hc : AC E.P f ys [] rt (fun r h => h = [] ∧ r = x)) (hop : callOf ⟨fr, hp, nx⟩ o.op = some (f, as)) (hev : AS.evals ⟨fr, hp, nx⟩ as = some xs) (hx : ∀ f, x.ren f = x) (hg : gdv l ⟨fr, hp, nx⟩ o = some true)
    (hd : o.dst = some d) (hn : Nat.blt d E.nt = true) (hT : 99 ∉ rt) (hb : BorAs hp [] 99 xs ys) (k : AL E l rest ⟨(d, x) :: fr, hp, nx⟩ Q) : AL E l (o :: rest) ⟨fr, hp, nx⟩ Q := by
  refine pC (eCall hc 99 [] hop hev rfl rfl hd hn hb hT) hg ?_
  rintro _ _ ⟨rfl, rfl⟩
  rw [hx]
  exact k
theorem dCv {x : AV} (hc : AC E.P f ys [] rt (fun r h => h = [] ∧ r = x)) (hi : nth l i = some oi) (hop : callOf ⟨fr, hp, nx⟩ oi.op = some (f, as)) (hev : AS.evals ⟨fr, hp, nx⟩ as = some xs) (hx : ∀ f, x.ren f = x) (hg : gdv l ⟨fr, hp, nx⟩ oi = some true)
    (hd : oi.dst = some d) (hn : Nat.blt d E.nt = true) (hT : 99 ∉ rt) (hb : BorAs hp [] 99 xs ys) (kk : AH E l cert nr os ms false ⟨(d, x) :: fr, hp, nx⟩ k) : AH E l (CT.cons (i, false) cert) nr os ms fl ⟨fr, hp, nx⟩ k := by
  refine dC hc 99 [] hi hop hev rfl rfl rfl hg hd hn rfl hb hT ?_
  rintro _ _ ⟨rfl, rfl⟩
  rw [hx]
  exact kk
/-- .. and makes a row. -/
theorem pCn {ty e n : Nat} {zs : List CV} (hc : AC E.P f ys [] rt (fun r h => h = [.arr ty e zs] ∧ r = .h (.sl 0 0 n))) (hop : callOf ⟨fr, hp, nx⟩ o.op = some (f, as)) (hev : AS.evals ⟨fr, hp, nx⟩ as = some xs) (hg : gdv l ⟨fr, hp, nx⟩ o = some true)
    (hd : o.dst = some d) (hn : Nat.blt d E.nt = true) (hT : 99 ∉ rt) (hb : BorAs hp [] 99 xs ys) (k : AL E l rest ⟨(d, .h (.sl nx 0 n)) :: fr, (nx, .arr ty e zs) :: hp, nx + 1⟩ Q) : AL E l (o :: rest) ⟨fr, hp, nx⟩ Q := by
  refine pC (eCall hc 99 [] hop hev rfl rfl hd hn hb hT) hg ?_
  rintro _ _ ⟨rfl, rfl⟩
  exact k
theorem dCn {ty e n : Nat} {zs : List CV} (hc : AC E.P f ys [] rt (fun r h => h = [.arr ty e zs] ∧ r = .h (.sl 0 0 n))) (hi : nth l i = some oi) (hop : callOf ⟨fr, hp, nx⟩ oi.op = some (f, as)) (hev : AS.evals ⟨fr, hp, nx⟩ as = some xs) (hg : gdv l ⟨fr, hp, nx⟩ oi = some true)
    (hd : oi.dst = some d) (hn : Nat.blt d E.nt = true) (hT : 99 ∉ rt) (hb : BorAs hp [] 99 xs ys) (kk : AH E l cert nr os ms false ⟨(d, .h (.sl nx 0 n)) :: fr, (nx, .arr ty e zs) :: hp, nx + 1⟩ k) : AH E l (CT.cons (i, false) cert) nr os ms fl ⟨fr, hp, nx⟩ k := by
  refine dC hc 99 [] hi hop hev rfl rfl rfl hg hd hn rfl hb hT ?_
  rintro _ _ ⟨rfl, rfl⟩
  exact kk
end
section
variable {te : TE} {t sz b' : Nat} {zs xs : List CV}
theorem TyC.int_inv {k : IntKind} (h : TyC te t xs) (hl : look t te = some ⟨.int k, sz, b', zs⟩) : ∃ n, xs = [.int k n] ∧ (Lit.int k n).wf = true := by
  cases h with
  | struct h1 h2 => rw [hl] at h1; injection h1 with h1; injection h1 with h1; cases h1
  | int h1 h2 => rw [hl] at h1; injection h1 with h1; injection h1 with h1; injection h1 with h1; subst h1; exact ⟨_, rfl, h2⟩
  | bool h1 => rw [hl] at h1; injection h1 with h1; injection h1 with h1; cases h1
  | slice h1 => rw [hl] at h1; injection h1 with h1; injection h1 with h1; cases h1
theorem TyC.slice_inv {e : Nat} (h : TyC te t xs) (hl : look t te = some ⟨.slice e, sz, b', zs⟩) : ∃ n ys, xs = [.rd 1 n ys] ∧ n ≤ maxLen ∧ TyR te e n ys := by
  cases h with
  | struct h1 h2 => rw [hl] at h1; injection h1 with h1; injection h1 with h1; cases h1
  | int h1 h2 => rw [hl] at h1; injection h1 with h1; injection h1 with h1; cases h1
  | bool h1 => rw [hl] at h1; injection h1 with h1; injection h1 with h1; cases h1
  | slice h1 h2 h3 => rw [hl] at h1; injection h1 with h1; injection h1 with h1; injection h1 with h1; subst h1; exact ⟨_, _, rfl, h2, h3⟩
theorem TyF.cons_inv {o f : Nat} {fs : List (Nat × Nat)} (h : TyF te ((o, f) :: fs) xs) : ∃ ys zs, xs = ys ++ zs ∧ TyC te f ys ∧ TyF te fs zs := by
  cases h with | cons h1 h2 => exact ⟨_, _, rfl, h1, h2⟩
theorem TyF.nil_inv (h : TyF te [] xs) : xs = [] := by cases h; rfl
theorem tyR_rows {α : Type} (f : α → List CV) (R : α → Prop) {e : Nat} (h1 : ∀ xs, TyC te e xs → ∃ a, xs = f a ∧ R a) : ∀ (n : Nat) (xs : List CV), TyR te e n xs → ∃ l : List α, xs = rows f l ∧ n = l.length ∧ ∀ a ∈ l, R a
  | 0, xs, h => by cases h; exact ⟨[], rfl, rfl, fun _ h => by cases h⟩
  | n + 1, xs, h => by
    cases h with
    | cons h2 h3 =>
      obtain ⟨a, rfl, ha⟩ := h1 _ h2
      obtain ⟨l, rfl, rfl, hl⟩ := tyR_rows f R h1 n _ h3
      exact ⟨a :: l, rfl, rfl, fun b hb => by
        rcases List.mem_cons.1 hb with rfl | hb
        · exact ha
        · exact hl b hb⟩
theorem TyAs.nil_inv {xs : List AV} (h : TyAs te [] xs) : xs = [] := by cases h; rfl
theorem TyAs.cons_inv {ts : List Nat} {xs : List AV} (h : TyAs te (t :: ts) xs) : ∃ y ys, xs = y :: ys ∧ TyA te t y ∧ TyAs te ts ys := by
  cases h with | cons h1 h2 => exact ⟨_, _, rfl, h1, h2⟩
theorem TyA.one_inv {inf : TInf} {y : AV} (h : TyA te t y) (hl : look t te = some inf) (ha : inf.d.isAgg = false) : ∃ x, y = .h (.c x) ∧ TyC te t [x] := by
  cases h with
  | one _ _ h => exact ⟨_, rfl, h⟩
  | agg h1 h2 h3 => rw [hl] at h1; injection h1 with h1; subst h1; rw [ha] at h2; cases h2
theorem TyA.int_inv {k : IntKind} {y : AV} (h : TyA te t y) (hl : look t te = some ⟨.int k, sz, b', zs⟩) : ∃ n, y = .h (.c (.int k n)) ∧ (Lit.int k n).wf = true := by
  obtain ⟨x, rfl, h'⟩ := h.one_inv hl rfl
  obtain ⟨n, e, hw⟩ := h'.int_inv hl
  injection e with e; subst e
  exact ⟨n, rfl, hw⟩
theorem TyA.slice_inv {e : Nat} {y : AV} (h : TyA te t y) (hl : look t te = some ⟨.slice e, sz, b', zs⟩) : ∃ n ys, y = .h (.c (.rd 1 n ys)) ∧ n ≤ maxLen ∧ TyR te e n ys := by
  obtain ⟨x, rfl, h'⟩ := h.one_inv hl rfl
  obtain ⟨n, ys, e, h1, h2⟩ := h'.slice_inv hl
  injection e with e; subst e
  exact ⟨n, ys, rfl, h1, h2⟩
end
theorem wf_u8 {n : Int} (h : (Lit.int .u8 n).wf = true) : 0 ≤ n ∧ n ≤ 255 := by
  simp [Lit.wf, IntKind.min, IntKind.max, IntKind.signed, IntKind.bits] at h
  exact h
def LpQ {α : Type} (k : Nat) (st : α → AS) (J : Nat → α → Prop) (n : Nat) : AS → Prop := fun s => ∃ n' y r, n' < n ∧ Le k r s (st y) ∧ J n' y
theorem lp_end {α : Type} {k : Nat} {st : α → AS} {J : Nat → α → Prop} {n : Nat} {s : AS} (n' : Nat) (y : α) (r : List (Nat × Nat)) (hlt : n' < n) (hle : Le k r s (st y)) (hJ : J n' y) : LpQ k st J n s := ⟨n', y, r, hlt, hle, hJ⟩
theorem awp_loopE {α : Type} {E : Env} {c : Code} {s : AS} {Q : Exit → AS → Prop} (st : α → AS) (J : Nat → α → Prop) (n : Nat) (y : α) (r : List (Nat × Nat)) (h0 : Le E.k r s (st y)) (hJ : J n y)
    (hr : ∀ n y, J n y → AWP E c (st y) (Sq (LpQ E.k st J n) Q)) : AWP E (.loop c) s Q := by
  refine awp_le r h0 (awp_loop (fun n s => ∃ y, s = st y ∧ J n y) n ⟨y, rfl, hJ⟩ ?_)
  rintro n _ ⟨y, rfl, hJ⟩
  refine awp_mono (hr n y hJ) fun e s h => ?_
  cases e with
  | normal =>
    obtain ⟨n', y', r, h1, h2, h3⟩ := h
    exact ⟨n', r, st y', h1, h2, y', rfl, h3⟩
  | _ => exact h
end Go.Proofs.Ythmgfgiaagkdeaa
/- The engine, part q: rules for rows of one kind of element; calls that are handed an object. -/
namespace Go.Proofs.Ythmgfgiaagkdeaa
open Go.RowKit
theorem rows_cons_at {α : Type} {f : α → List CV} {n : Nat} (hf : ∀ a, (f a).length = n) (hn : 0 < n) {l : List α} {k : Nat} (h : k < l.length) : ∃ y ys, f l[k] ++ rows f (l.drop (k + 1)) = y :: ys := by
  cases hh : f l[k] with
  | nil => have := hf l[k]; rw [hh] at this; simp at this; omega
  | cons y ys => exact ⟨y, ys ++ rows f (l.drop (k + 1)), rfl⟩
section
variable {E : Env} {l rest : List Oper} {fr : List (Nat × AV)} {hp : List (Nat × Ob)} {nx : Nat} {o : Oper} {Q : Exit → AS → Prop} {d : Nat}
variable {cert : CT} {nr : Nat} {os ms : List Nat} {fl : Bool} {k : AS → Prop} {i : Nat} {oi : Oper}
variable {α : Type} {f : α → List CV}
/-- The place of element m of a row that is only read. -/
theorem pIxR {t e : Nat} {sz b' : Nat} {zs : List CV} {x ix : Operand} {tg n : Nat} {L : List α} {j : Int} {inf : TInf} (m : Nat) (ho : o.op = .indexAddr t x ix)
    (hx : AS.eval ⟨fr, hp, nx⟩ x = some (.h (.c (.rd tg n (rows f L))))) (hj : AS.eval ⟨fr, hp, nx⟩ ix = some (.h (.c (.int .i64 j)))) (ht : look t E.te = some ⟨.slice e, sz, b', zs⟩) (he : look e E.te = some inf)
    (hg : gdv l ⟨fr, hp, nx⟩ o = some true) (hd : o.dst = some d) (hn : Nat.blt d E.nt = true) (hsz : Nat.blt 0 inf.sz = true) (hf : ∀ a, (f a).length = inf.sz) (hnl : n = L.length) (hk : j = (m : Int)) (hlt : m < L.length)
    (kk : AL E l rest ⟨(d, .h (.rp tg (f L[m] ++ rows f (L.drop (m + 1))))) :: fr, hp, nx⟩ Q) : AL E l (o :: rest) ⟨fr, hp, nx⟩ Q := by
  obtain ⟨y, ys, h⟩ := rows_cons_at hf (by simpa using hsz) hlt
  rw [h] at kk
  exact pIx m ho hx hj ht he hg hd hn hk (by omega) (by rw [rows_at hf hlt, h]) kk
theorem dIxR {t e : Nat} {sz b' : Nat} {zs : List CV} {x ix : Operand} {tg n : Nat} {L : List α} {j : Int} {inf : TInf} (m : Nat) (hi : nth l i = some oi) (ho : oi.op = .indexAddr t x ix)
    (hx : AS.eval ⟨fr, hp, nx⟩ x = some (.h (.c (.rd tg n (rows f L))))) (hj : AS.eval ⟨fr, hp, nx⟩ ix = some (.h (.c (.int .i64 j)))) (ht : look t E.te = some ⟨.slice e, sz, b', zs⟩) (he : look e E.te = some inf)
    (hg : gdv l ⟨fr, hp, nx⟩ oi = some true) (hd : oi.dst = some d) (hn : Nat.blt d E.nt = true) (hsz : Nat.blt 0 inf.sz = true) (hf : ∀ a, (f a).length = inf.sz) (hnl : n = L.length) (hk : j = (m : Int)) (hlt : m < L.length)
    (kk : AH E l cert nr os ms fl ⟨(d, .h (.rp tg (f L[m] ++ rows f (L.drop (m + 1))))) :: fr, hp, nx⟩ k) : AH E l (CT.cons (i, true) cert) nr os ms fl ⟨fr, hp, nx⟩ k := by
  obtain ⟨y, ys, h⟩ := rows_cons_at hf (by simpa using hsz) hlt
  rw [h] at kk
  exact dIx m hi ho hx hj ht he hg hd hn hk (by omega) (by rw [rows_at hf hlt, h]) kk
/-- A load, from the element at whose place the pointer stands, of a row of the call's own. -/
theorem pLdR {t : Nat} {x : Operand} {id off : Nat} {ty e : Nat} {L : List α} {inf : TInf} {v : AV} (m c : Nat) (ho : o.op = .load t x) (hx : AS.eval ⟨fr, hp, nx⟩ x = some (.h (.ptr id off))) (hob : look id hp = some (.arr ty e (rows f L))) (hl : look t E.te = some inf)
    (hg : gdv l ⟨fr, hp, nx⟩ o = some true) (hd : o.dst = some d) (hn : Nat.blt d E.nt = true) (hf : ∀ a, (f a).length = e) (hoff : off = m * e + c) (hc : c ≤ e) (hlt : m < L.length) (h : loadH inf ((((f L[m]).drop c ++ rows f (L.drop (m + 1))).take inf.sz).map HV.c) = some v) (kk : AL E l rest ⟨(d, v) :: fr, hp, nx⟩ Q) : AL E l (o :: rest) ⟨fr, hp, nx⟩ Q :=
  pLdo ho hx hob hl hg hd hn (by rw [hoff, ← List.drop_drop, rows_at hf hlt, List.drop_append_of_le_length (by rw [hf]; exact hc)]) h kk
theorem dLdR {t : Nat} {x : Operand} {id off : Nat} {ty e : Nat} {L : List α} {inf : TInf} {v : AV} (m c : Nat) (hi : nth l i = some oi) (ho : oi.op = .load t x) (hx : AS.eval ⟨fr, hp, nx⟩ x = some (.h (.ptr id off))) (hob : look id hp = some (.arr ty e (rows f L))) (hl : look t E.te = some inf)
    (hg : gdv l ⟨fr, hp, nx⟩ oi = some true) (hd : oi.dst = some d) (hn : Nat.blt d E.nt = true) (hid : okid (some os) id = true) (hf : ∀ a, (f a).length = e) (hoff : off = m * e + c) (hc : c ≤ e) (hlt : m < L.length) (h : loadH inf ((((f L[m]).drop c ++ rows f (L.drop (m + 1))).take inf.sz).map HV.c) = some v) (kk : AH E l cert nr os ms fl ⟨(d, v) :: fr, hp, nx⟩ k) : AH E l (CT.cons (i, true) cert) nr os ms fl ⟨fr, hp, nx⟩ k :=
  dLdo hi ho hx hob hl hg hd hn hid (by rw [hoff, ← List.drop_drop, rows_at hf hlt, List.drop_append_of_le_length (by rw [hf]; exact hc)]) h kk
/-- append of one element that is written out. -/
theorem pAp1 {x y : Operand} {t e n id id1 ty1 e1 : Nat} {sz' b'' : Nat} {zs'' : List CV} {inf : TInf} {L : List α} (a : α) {hp1 : List (Nat × Ob)} (ho : appOf o.op = some (x, y, t)) (ht : look t E.te = some ⟨.slice e, sz', b'', zs''⟩) (he : look e E.te = some inf)
    (hx : AS.eval ⟨fr, hp, nx⟩ x = some (.h (.sl id 0 n))) (hy : AS.eval ⟨fr, hp, nx⟩ y = some (.h (.sl id1 0 1))) (hb : look id hp = some (.arr e inf.sz (rows f L))) (hsr : look id1 (del id hp) = some (.arr ty1 e1 (f a))) (hh : del id1 (del id hp) = hp1) (hsz : Nat.blt 0 inf.sz = true)
    (hg : gdv l ⟨fr, hp, nx⟩ o = some true) (hd : o.dst = some d) (hn : Nat.blt d E.nt = true) (hf : ∀ a, (f a).length = inf.sz) (hnl : n = L.length) (hle : n ≤ 1099511627776) (hby : Nat.ble inf.by' 100 = true)
    (kk : AL E l rest ⟨(d, .h (.sl nx 0 (n + 1))) :: fr, (nx, .arr e inf.sz (rows f (L ++ [a]))) :: hp1, nx + 1⟩ Q) : AL E l (o :: rest) ⟨fr, hp, nx⟩ Q := by
  refine pE (eApp ho ht he hx hy (n := n) (xs := rows f L) (hp0 := del id hp) (md := [id]) ?_ (m := 1) (ys := f a) (hp1 := hp1) ?_ hsz hd hn ?_ ?_ ?_ ?_ ?_) hg kk
  · simp only [baseOf, hb, Nat.beq_refl, Bool.and_self, cond_true]
  · simp only [srcOf, hsr, hh]
  · rw [rows_length hf, hnl]
  · rw [hf]; omega
  · omega
  · have : inf.by' ≤ 100 := Nat.le_of_ble_eq_true hby
    calc (n + 1) * inf.by' ≤ (n + 1) * 100 := Nat.mul_le_mul_left _ this
      _ ≤ 140737488355328 := by omega
  · rw [rows_append, rows_one]
end
theorem setL_append_mid {α : Type} (p q r ys : List α) (c : Nat) (hc : c + ys.length ≤ q.length) : setL (p ++ (q ++ r)) (p.length + c) ys = p ++ (setL q c ys ++ r) := by
  unfold setL
  have h1 : (p ++ (q ++ r)).take (p.length + c) = p ++ q.take c := by
    rw [List.take_append, List.take_of_length_le (by omega), Nat.add_sub_cancel_left, List.take_append_of_le_length (by omega)]
  have h2 : (p ++ (q ++ r)).drop (p.length + c + ys.length) = q.drop (c + ys.length) ++ r := by
    rw [List.drop_append, List.drop_eq_nil_of_le (by omega), List.nil_append, List.drop_append_of_le_length (by omega)]
    congr 2
    omega
  rw [h1, h2]
  simp
theorem rows_setf {α : Type} {f : α → List CV} {n : Nat} (hf : ∀ a, (f a).length = n) {L : List α} {m c : Nat} {a' : α} {ys : List CV} (hlt : m < L.length) (hc : c + ys.length ≤ n) (ha : setL (f L[m]) c ys = f a') : setL (rows f L) (m * n + c) ys = rows f (L.set m a') := by
  have e1 : rows f L = rows f (L.take m) ++ (f L[m] ++ rows f (L.drop (m + 1))) := by
    have : L = L.take m ++ (L[m] :: L.drop (m + 1)) := by rw [← List.drop_eq_getElem_cons hlt, List.take_append_drop]
    conv => lhs; rw [this, rows_append]
    rfl
  have e2 : rows f (L.set m a') = rows f (L.take m) ++ (f a' ++ rows f (L.drop (m + 1))) := by
    rw [List.set_eq_take_append_cons_drop, if_pos hlt, rows_append]
    rfl
  have e3 : (rows f (L.take m)).length = m * n := by rw [rows_length hf, List.length_take, Nat.min_eq_left (by omega)]
  rw [e1, e2, ← e3, setL_append_mid _ _ _ _ _ (by rw [hf]; exact hc), ha]
section
variable {E : Env} {l rest : List Oper} {fr : List (Nat × AV)} {hp : List (Nat × Ob)} {nx : Nat} {o : Oper} {Q : Exit → AS → Prop} {d : Nat}
variable {cert : CT} {nr : Nat} {os ms : List Nat} {fl : Bool} {k : AS → Prop} {i : Nat} {oi : Oper}
variable {α : Type} {f : α → List CV}
theorem pIx0 {t e : Nat} {sz b' : Nat} {zs : List CV} {x ix : Operand} {id n : Nat} {ty e' : Nat} {xs : List CV} {q : Int} {inf : TInf} (m : Nat) (ho : o.op = .indexAddr t x ix)
    (hx : AS.eval ⟨fr, hp, nx⟩ x = some (.h (.sl id 0 n))) (hi : AS.eval ⟨fr, hp, nx⟩ ix = some (.h (.c (.int .i64 q)))) (ht : look t E.te = some ⟨.slice e, sz, b', zs⟩) (he : look e E.te = some inf) (hob : look id hp = some (.arr ty e' xs)) (hes : e' = inf.sz)
    (hg : gdv l ⟨fr, hp, nx⟩ o = some true) (hd : o.dst = some d) (hn : Nat.blt d E.nt = true) (hk : q = (m : Int)) (hlt : m < n) (kk : AL E l rest ⟨(d, .h (.ptr id (m * inf.sz))) :: fr, hp, nx⟩ Q) : AL E l (o :: rest) ⟨fr, hp, nx⟩ Q :=
  pIxo m ho hx hi ht he hob hes hg hd hn hk hlt (by rw [Nat.zero_add]; exact kk)
theorem dIx0 {t e : Nat} {sz b' : Nat} {zs : List CV} {x ix : Operand} {id n : Nat} {ty e' : Nat} {xs : List CV} {q : Int} {inf : TInf} (m : Nat) (hi : nth l i = some oi) (ho : oi.op = .indexAddr t x ix)
    (hx : AS.eval ⟨fr, hp, nx⟩ x = some (.h (.sl id 0 n))) (hj : AS.eval ⟨fr, hp, nx⟩ ix = some (.h (.c (.int .i64 q)))) (ht : look t E.te = some ⟨.slice e, sz, b', zs⟩) (he : look e E.te = some inf) (hob : look id hp = some (.arr ty e' xs)) (hes : e' = inf.sz)
    (hg : gdv l ⟨fr, hp, nx⟩ oi = some true) (hd : oi.dst = some d) (hn : Nat.blt d E.nt = true) (hk : q = (m : Int)) (hlt : m < n) (kk : AH E l cert nr os ms fl ⟨(d, .h (.ptr id (m * inf.sz))) :: fr, hp, nx⟩ k) : AH E l (CT.cons (i, true) cert) nr os ms fl ⟨fr, hp, nx⟩ k :=
  dIxo m hi ho hx hj ht he hob hes hg hd hn hk hlt (by rw [Nat.zero_add]; exact kk)
end
theorem rens_pu {f : Nat → Nat} : ∀ xs : List HV, xs.all HV.pu = true → HV.rens f xs = xs
  | [], _ => rfl
  | x :: xs, h => by
    simp only [List.all_cons, Bool.and_eq_true] at h
    have : x.ren f = x := by cases x <;> simp [HV.pu] at h <;> rfl
    simp only [HV.rens, this, rens_pu xs h.2]
theorem ob_ren_pu {f : Nat → Nat} {o : Ob} (h : o.pu = true) : o.ren f = o := by
  cases o with
  | arr => rfl
  | box ty xs => simp only [Ob.ren, rens_pu xs h]
  | hrr ty e xs => simp only [Ob.ren, rens_pu xs h]
section
variable {E : Env} {l rest : List Oper} {fr : List (Nat × AV)} {hp rs : List (Nat × Ob)} {nx : Nat} {o : Oper} {Q : Exit → AS → Prop} {d : Nat}
variable {cert : CT} {nr : Nat} {os ms : List Nat} {fl : Bool} {k : AS → Prop} {i : Nat} {oi : Oper}
variable {f : FuncId} {as : List Operand} {xs ys : List AV} {rt : List Nat} {ob : Ob} (id : Nat)
/-- The object is handed over and comes back; the answer is plain; what the answers are is left open. -/
theorem pCo {α : Type} {R : α → Prop} {ob' : α → Ob} {x : α → AV} (hc : AC E.P f ys [ob] rt (fun r h => ∃ a, R a ∧ h = [ob' a] ∧ r = x a)) (hop : callOf ⟨fr, hp, nx⟩ o.op = some (f, as)) (hev : AS.evals ⟨fr, hp, nx⟩ as = some xs) (hpk : pick [id] hp = some ([ob], rs)) (hpu : ob.pu = true) (hpu' : ∀ a, (ob' a).pu = true) (hx : ∀ a f, (x a).ren f = x a)
    (hg : gdv l ⟨fr, hp, nx⟩ o = some true) (hd : o.dst = some d) (hn : Nat.blt d E.nt = true) (hT : 99 ∉ rt) (hb : BorAs rs [id] 99 xs ys) (k : ∀ a, R a → AL E l rest ⟨(d, x a) :: fr, (id, ob' a) :: rs, nx⟩ Q) : AL E l (o :: rest) ⟨fr, hp, nx⟩ Q := by
  refine pC (eCall hc 99 [id] hop hev hpk (by simp [hpu]) hd hn hb hT) hg ?_
  rintro _ _ ⟨a, ha, rfl, rfl⟩
  rw [hx a]
  simp only [named, ob_ren_pu (hpu' a)]
  exact k a ha
theorem dCo {α : Type} {R : α → Prop} {ob' : α → Ob} {x : α → AV} (hc : AC E.P f ys [ob] rt (fun r h => ∃ a, R a ∧ h = [ob' a] ∧ r = x a)) (hi : nth l i = some oi) (hop : callOf ⟨fr, hp, nx⟩ oi.op = some (f, as)) (hev : AS.evals ⟨fr, hp, nx⟩ as = some xs) (hpk : pick [id] hp = some ([ob], rs)) (hpu : ob.pu = true) (hbx : ob.bx = true) (hpu' : ∀ a, (ob' a).pu = true) (hx : ∀ a f, (x a).ren f = x a)
    (hg : gdv l ⟨fr, hp, nx⟩ oi = some true) (hd : oi.dst = some d) (hn : Nat.blt d E.nt = true) (hT : 99 ∉ rt) (hm : [id].all (fun id => ms.contains id || Nat.ble nr id) = true) (hb : BorAs rs [id] 99 xs ys) (kk : ∀ a, R a → AH E l cert nr os ms false ⟨(d, x a) :: fr, (id, ob' a) :: rs, nx⟩ k) : AH E l (CT.cons (i, false) cert) nr os ms fl ⟨fr, hp, nx⟩ k := by
  refine dC hc 99 [id] hi hop hev hpk (by simp [hpu]) (by simp [hbx]) hg hd hn hm hb hT ?_
  rintro _ _ ⟨a, ha, rfl, rfl⟩
  rw [hx a]
  simp only [named, ob_ren_pu (hpu' a)]
  exact kk a ha
end
end Go.Proofs.Ythmgfgiaagkdeaa
/- The engine, part r: results that may be nil, told as rows of the call's own. -/
namespace Go.Proofs.Ythmgfgiaagkdeaa
open Go.RowKit
theorem sim_nown {E : Env} {g : Ga} {im : Im} {fr : List (Nat × AV)} {hp : List (Nat × Ob)} {nx : Nat} {a : Act} {w : World} (d ty e : Nat) (hl : look d fr = some (.h (.c .nil))) (h : Sim E g im ⟨fr, hp, nx⟩ a w) :
    ∃ g', Sim E g' im ⟨(d, .h (.sl nx 0 0)) :: fr, (nx, .arr ty e []) :: hp, nx + 1⟩ a w := by
  obtain ⟨fps, hs⟩ := h
  have hsw := SimF.swap hs (hp0 := hp) (fr := []) (f0 := fps) (f' := []) hs.hp hs.nd (fun b hb => hb) ⟨none, 0, ty, e⟩ (.arr ty e []) (fun _ _ _ => rfl) (Nat.le_refl _) rfl rfl rfl List.nodup_nil (fun _ h => by cases h) (fun _ h => by cases h) (fun _ h => by cases h)
    ⟨rfl, rfl, .inl ⟨rfl, rfl, rfl, rfl⟩⟩
  refine ⟨gup g nx ⟨none, 0, ty, e⟩, [] ++ fps, ⟨hsw.dfr, hsw.sz, ?_, hsw.hp, hsw.nd, hsw.lt, hsw.ni, hsw.mine, hsw.gn, hsw.gl, hsw.il, hsw.kp, hsw.kn, hsw.g0, hsw.i0, hsw.i1⟩⟩
  intro t y hy
  by_cases ht : t = d
  · subst ht
    simp only [look_cons_eq, Option.some.injEq] at hy
    subst hy
    have hv := hs.fr t _ hl
    simp only [RA, RH, R] at hv
    rw [hv.1]
    refine ⟨rfl, ⟨none, 0, ty, e⟩, by simp [gup], Nat.le_refl _, Nat.zero_le _, ?_⟩
    simp [slv]
  · simp only [look_cons_ne ht] at hy
    exact hsw.fr t y hy
inductive FinN (te : TE) (k : Nat) (rs : List ResultVar) (rt : List Nat) (Post : AV → List Ob → Prop) : Exit → AS → Prop
  | fin {e : Exit} {s : AS} : FinQ te k rs rt Post e s → FinN te k rs rt Post e s
  | own {e : Exit} {fr : List (Nat × AV)} {hp : List (Nat × Ob)} {nx : Nat} (d ty z : Nat) : look d fr = some (.h (.c .nil)) → FinN te k rs rt Post e ⟨(d, .h (.sl nx 0 0)) :: fr, (nx, .arr ty z []) :: hp, nx + 1⟩ → FinN te k rs rt Post e ⟨fr, hp, nx⟩
end Go.Proofs.Ythmgfgiaagkdeaa
/- The engine, part v: rows appended to rows, cuts of rows, also in regions that draw. -/
namespace Go.Proofs.Ythmgfgiaagkdeaa
open Go.RowKit
section
variable {E : Env} {l rest : List Oper} {fr : List (Nat × AV)} {hp : List (Nat × Ob)} {nx : Nat} {o : Oper} {Q : Exit → AS → Prop} {d : Nat}
variable {cert : CT} {nr : Nat} {os ms : List Nat} {fl : Bool} {k : AS → Prop} {i : Nat} {oi : Oper}
variable {α : Type} {f : α → List CV}
/-- append of one element that is written out. -/
theorem eAp1 {x y : Operand} {t e n id id1 ty1 e1 : Nat} {sz' b'' : Nat} {zs'' : List CV} {inf : TInf} {L : List α} (a : α) {hp1 : List (Nat × Ob)} (ho : appOf o.op = some (x, y, t)) (ht : look t E.te = some ⟨.slice e, sz', b'', zs''⟩) (he : look e E.te = some inf)
    (hx : AS.eval ⟨fr, hp, nx⟩ x = some (.h (.sl id 0 n))) (hy : AS.eval ⟨fr, hp, nx⟩ y = some (.h (.sl id1 0 1))) (hb : look id hp = some (.arr e inf.sz (rows f L))) (hsr : look id1 (del id hp) = some (.arr ty1 e1 (f a))) (hh : del id1 (del id hp) = hp1) (hsz : Nat.blt 0 inf.sz = true)
    (hd : o.dst = some d) (hn : Nat.blt d E.nt = true) (hf : ∀ a, (f a).length = inf.sz) (hnl : n = L.length) (hle : n ≤ 1099511627776) (hby : Nat.ble inf.by' 100 = true) :
    ES E ⟨fr, hp, nx⟩ o (some [id]) (fun x => x = ⟨(d, .h (.sl nx 0 (n + 1))) :: fr, (nx, .arr e inf.sz (rows f (L ++ [a]))) :: hp1, nx + 1⟩) := by
  refine eApp ho ht he hx hy (n := n) (xs := rows f L) (hp0 := del id hp) (md := [id]) ?_ (m := 1) (ys := f a) (hp1 := hp1) ?_ hsz hd hn ?_ ?_ ?_ ?_ ?_
  · simp only [baseOf, hb, Nat.beq_refl, Bool.and_self, cond_true]
  · simp only [srcOf, hsr, hh]
  · rw [rows_length hf, hnl]
  · rw [hf]; omega
  · omega
  · have : inf.by' ≤ 100 := Nat.le_of_ble_eq_true hby
    calc (n + 1) * inf.by' ≤ (n + 1) * 100 := Nat.mul_le_mul_left _ this
      _ ≤ 140737488355328 := by omega
  · rw [rows_append, rows_one]
theorem dAp1 {x y : Operand} {t e n id id1 ty1 e1 : Nat} {sz' b'' : Nat} {zs'' : List CV} {inf : TInf} {L : List α} (a : α) {hp1 : List (Nat × Ob)} (hi : nth l i = some oi) (ho : appOf oi.op = some (x, y, t)) (ht : look t E.te = some ⟨.slice e, sz', b'', zs''⟩) (he : look e E.te = some inf)
    (hx : AS.eval ⟨fr, hp, nx⟩ x = some (.h (.sl id 0 n))) (hy : AS.eval ⟨fr, hp, nx⟩ y = some (.h (.sl id1 0 1))) (hb : look id hp = some (.arr e inf.sz (rows f L))) (hsr : look id1 (del id hp) = some (.arr ty1 e1 (f a))) (hh : del id1 (del id hp) = hp1) (hsz : Nat.blt 0 inf.sz = true)
    (hg : gdv l ⟨fr, hp, nx⟩ oi = some true) (hd : oi.dst = some d) (hn : Nat.blt d E.nt = true) (hm : [id].all (fun id => ms.contains id || Nat.ble nr id) = true) (hf : ∀ a, (f a).length = inf.sz) (hnl : n = L.length) (hle : n ≤ 1099511627776) (hby : Nat.ble inf.by' 100 = true)
    (kk : AH E l cert nr os ms false ⟨(d, .h (.sl nx 0 (n + 1))) :: fr, (nx, .arr e inf.sz (rows f (L ++ [a]))) :: hp1, nx + 1⟩ k) : AH E l (CT.cons (i, false) cert) nr os ms fl ⟨fr, hp, nx⟩ k :=
  dE hi (eAp1 a ho ht he hx hy hb hsr hh hsz hd hn hf hnl hle hby) hg hm (Nat.ble_eq_true_of_le (Nat.le_succ _)) kk
/-- append of a row that is only read. -/
theorem eApR {x y : Operand} {t e n m id tg : Nat} {sz' b'' : Nat} {zs'' : List CV} {inf : TInf} {L M : List α} {hp1 : List (Nat × Ob)} (ho : appOf o.op = some (x, y, t)) (ht : look t E.te = some ⟨.slice e, sz', b'', zs''⟩) (he : look e E.te = some inf)
    (hx : AS.eval ⟨fr, hp, nx⟩ x = some (.h (.sl id 0 n))) (hy : AS.eval ⟨fr, hp, nx⟩ y = some (.h (.c (.rd tg m (rows f M))))) (hb : look id hp = some (.arr e inf.sz (rows f L))) (hh : del id hp = hp1) (hsz : Nat.blt 0 inf.sz = true)
    (hd : o.dst = some d) (hn : Nat.blt d E.nt = true) (hf : ∀ a, (f a).length = inf.sz) (hnl : n = L.length) (hml : m = M.length) (hle : n + m ≤ 1099511627776) (hby : Nat.ble inf.by' 100 = true) :
    ES E ⟨fr, hp, nx⟩ o (some [id]) (fun x => x = ⟨(d, .h (.sl nx 0 (n + m))) :: fr, (nx, .arr e inf.sz (rows f (L ++ M))) :: hp1, nx + 1⟩) := by
  refine eApp ho ht he hx hy (n := n) (xs := rows f L) (hp0 := hp1) (md := [id]) ?_ (m := m) (ys := rows f M) (hp1 := hp1) ?_ hsz hd hn ?_ ?_ ?_ ?_ ?_
  · simp only [baseOf, hb, Nat.beq_refl, Bool.and_self, cond_true, hh]
  · simp only [srcOf]
  · rw [rows_length hf, hnl]
  · rw [rows_length hf, hml]
  · omega
  · have : inf.by' ≤ 100 := Nat.le_of_ble_eq_true hby
    calc (n + m) * inf.by' ≤ (n + m) * 100 := Nat.mul_le_mul_left _ this
      _ ≤ 140737488355328 := by omega
  · rw [rows_append]
theorem pApR {x y : Operand} {t e n m id tg : Nat} {sz' b'' : Nat} {zs'' : List CV} {inf : TInf} {L M : List α} {hp1 : List (Nat × Ob)} (ho : appOf o.op = some (x, y, t)) (ht : look t E.te = some ⟨.slice e, sz', b'', zs''⟩) (he : look e E.te = some inf)
    (hx : AS.eval ⟨fr, hp, nx⟩ x = some (.h (.sl id 0 n))) (hy : AS.eval ⟨fr, hp, nx⟩ y = some (.h (.c (.rd tg m (rows f M))))) (hb : look id hp = some (.arr e inf.sz (rows f L))) (hh : del id hp = hp1) (hsz : Nat.blt 0 inf.sz = true)
    (hg : gdv l ⟨fr, hp, nx⟩ o = some true) (hd : o.dst = some d) (hn : Nat.blt d E.nt = true) (hf : ∀ a, (f a).length = inf.sz) (hnl : n = L.length) (hml : m = M.length) (hle : n + m ≤ 1099511627776) (hby : Nat.ble inf.by' 100 = true)
    (kk : AL E l rest ⟨(d, .h (.sl nx 0 (n + m))) :: fr, (nx, .arr e inf.sz (rows f (L ++ M))) :: hp1, nx + 1⟩ Q) : AL E l (o :: rest) ⟨fr, hp, nx⟩ Q :=
  pE (eApR ho ht he hx hy hb hh hsz hd hn hf hnl hml hle hby) hg kk
theorem dApR {x y : Operand} {t e n m id tg : Nat} {sz' b'' : Nat} {zs'' : List CV} {inf : TInf} {L M : List α} {hp1 : List (Nat × Ob)} (hi : nth l i = some oi) (ho : appOf oi.op = some (x, y, t)) (ht : look t E.te = some ⟨.slice e, sz', b'', zs''⟩) (he : look e E.te = some inf)
    (hx : AS.eval ⟨fr, hp, nx⟩ x = some (.h (.sl id 0 n))) (hy : AS.eval ⟨fr, hp, nx⟩ y = some (.h (.c (.rd tg m (rows f M))))) (hb : look id hp = some (.arr e inf.sz (rows f L))) (hh : del id hp = hp1) (hsz : Nat.blt 0 inf.sz = true)
    (hg : gdv l ⟨fr, hp, nx⟩ oi = some true) (hd : oi.dst = some d) (hn : Nat.blt d E.nt = true) (hm : [id].all (fun id => ms.contains id || Nat.ble nr id) = true) (hf : ∀ a, (f a).length = inf.sz) (hnl : n = L.length) (hml : m = M.length) (hle : n + m ≤ 1099511627776) (hby : Nat.ble inf.by' 100 = true)
    (kk : AH E l cert nr os ms false ⟨(d, .h (.sl nx 0 (n + m))) :: fr, (nx, .arr e inf.sz (rows f (L ++ M))) :: hp1, nx + 1⟩ k) : AH E l (CT.cons (i, false) cert) nr os ms fl ⟨fr, hp, nx⟩ k :=
  dE hi (eApR ho ht he hx hy hb hh hsz hd hn hf hnl hml hle hby) hg hm (Nat.ble_eq_true_of_le (Nat.le_succ _)) kk
/-- A cut of a row that is only read. -/
theorem pCutR {t e : Nat} {sz b' : Nat} {zs : List CV} {x : Operand} {lo hi : Option Operand} {tg n : Nat} {L : List α} {il ih : Int} {inf : TInf} (lw h : Nat) (ho : o.op = .slice t x lo hi none)
    (hx : AS.eval ⟨fr, hp, nx⟩ x = some (.h (.c (.rd tg n (rows f L))))) (hlo : bnd ⟨fr, hp, nx⟩ 0 lo = some il) (hhi : bnd ⟨fr, hp, nx⟩ n hi = some ih) (ht : look t E.te = some ⟨.slice e, sz, b', zs⟩) (he : look e E.te = some inf)
    (hg : gdv l ⟨fr, hp, nx⟩ o = some true) (hd : o.dst = some d) (hn : Nat.blt d E.nt = true) (hf : ∀ a, (f a).length = inf.sz) (hl : il = (lw : Int)) (hh : ih = (h : Int)) (h1 : lw ≤ h) (h2 : h ≤ n) (kk : AL E l rest ⟨(d, .h (.c (.rd tg (h - lw) (rows f ((L.drop lw).take (h - lw)))))) :: fr, hp, nx⟩ Q) : AL E l (o :: rest) ⟨fr, hp, nx⟩ Q :=
  pCut lw h ho hx hlo hhi ht he hg hd hn hl hh h1 h2 (by rw [rows_drop hf, rows_take hf]) kk
theorem dCutR {t e : Nat} {sz b' : Nat} {zs : List CV} {x : Operand} {lo hi' : Option Operand} {tg n : Nat} {L : List α} {il ih : Int} {inf : TInf} (lw h : Nat) (hi : nth l i = some oi) (ho : oi.op = .slice t x lo hi' none)
    (hx : AS.eval ⟨fr, hp, nx⟩ x = some (.h (.c (.rd tg n (rows f L))))) (hlo : bnd ⟨fr, hp, nx⟩ 0 lo = some il) (hhi : bnd ⟨fr, hp, nx⟩ n hi' = some ih) (ht : look t E.te = some ⟨.slice e, sz, b', zs⟩) (he : look e E.te = some inf)
    (hg : gdv l ⟨fr, hp, nx⟩ oi = some true) (hd : oi.dst = some d) (hn : Nat.blt d E.nt = true) (hf : ∀ a, (f a).length = inf.sz) (hl : il = (lw : Int)) (hh : ih = (h : Int)) (h1 : lw ≤ h) (h2 : h ≤ n) (kk : AH E l cert nr os ms fl ⟨(d, .h (.c (.rd tg (h - lw) (rows f ((L.drop lw).take (h - lw)))))) :: fr, hp, nx⟩ k) : AH E l (CT.cons (i, true) cert) nr os ms fl ⟨fr, hp, nx⟩ k :=
  dCut lw h hi ho hx hlo hhi ht he hg hd hn hl hh h1 h2 (by rw [rows_drop hf, rows_take hf]) kk
end
end Go.Proofs.Ythmgfgiaagkdeaa
/- The engine, part x: exclusive or; a reader that is handed to and fro. -/
namespace Go.Proofs.Ythmgfgiaagkdeaa
open Go.RowKit
theorem i64_xor' (a b : Int) (h0 : 0 ≤ a) (h1 : a < 9223372036854775808) (h2 : 0 ≤ b) (h3 : b < 9223372036854775808) : IntKind.i64.wrap (((BitVec.ofInt 64 a) ^^^ (BitVec.ofInt 64 b)).toNat : Int) = ((a.toNat ^^^ b.toNat : Nat) : Int) := by
  obtain ⟨n, rfl⟩ : ∃ n : Nat, a = n := ⟨a.toNat, by omega⟩
  obtain ⟨m, rfl⟩ : ∃ m : Nat, b = m := ⟨b.toNat, by omega⟩
  have hn : n < 2 ^ 63 := by omega
  have hm : m < 2 ^ 63 := by omega
  have hx : n ^^^ m < 2 ^ 63 := Nat.xor_lt_two_pow hn hm
  rw [BitVec.ofInt_natCast, BitVec.ofInt_natCast, BitVec.toNat_xor, BitVec.toNat_ofNat, BitVec.toNat_ofNat, Nat.mod_eq_of_lt (by omega), Nat.mod_eq_of_lt (by omega)]
  simp only [Int.toNat_natCast]
  exact IntWalk.i64_in _ (by omega)
section
variable {E : Env} {te : TE} {os : Option (List Nat)} {fl : Bool} {s : AS}
theorem ps_xor {t t' : TypeId} {x y : Operand} {a b : Int} (hx : s.eval x = some (.h (.c (.int .i64 a)))) (hy : s.eval y = some (.h (.c (.int .i64 b)))) (h0 : 0 ≤ a) (h1 : a < 9223372036854775808) (h2 : 0 ≤ b) (h3 : b < 9223372036854775808) :
    PS E os fl s (.binOp .xor t x y t') (.h (.c (.int .i64 ((a.toNat ^^^ b.toNat : Nat) : Int)))) := by
  intro g im ac w M n0 ⟨fps, hs⟩ hI
  have e1 := RA_int (hs.eval hx)
  have e2 := RA_int (hs.eval hy)
  refine ⟨_, RA_mkInt _ _, fun w' _ o ho => ?_⟩
  have hw := i64_xor' a b h0 h1 h2 h3
  simp [execOp, ho, e1, e2, eqGuard, binOp, Op.intBits, IntKind.bits]
  exact hw
end
section
variable {E : Env} {l rest : List Oper} {fr : List (Nat × AV)} {hp : List (Nat × Ob)} {nx : Nat} {o : Oper} {Q : Exit → AS → Prop} {d : Nat}
theorem ps_top {os : Option (List Nat)} {fl : Bool} {s : AS} {x : Operand} : PS E os fl s (.assign x) .top := fun g im a w M n0 hs hI => ⟨a.eval x, by simp only [RA], fun w' _ o ho => by simp [execOp, ho]⟩
/-- A value of which nothing is asked. -/
theorem pTop {x : Operand} (ho : o.op = .assign x) (hg : gdv l ⟨fr, hp, nx⟩ o = some true) (hd : o.dst = some d) (hn : Nat.blt d E.nt = true) (k : AL E l rest ⟨(d, .top) :: fr, hp, nx⟩ Q) : AL E l (o :: rest) ⟨fr, hp, nx⟩ Q :=
  al_pd (by rw [ho]; exact ps_top) hg hd hn k
end
section
variable {E : Env} {l rest : List Oper} {fr : List (Nat × AV)} {hp : List (Nat × Ob)} {nx : Nat} {o : Oper} {Q : Exit → AS → Prop} {d : Nat}
theorem pXor {t t' : TypeId} {x y : Operand} {a b : Int} (ho : o.op = .binOp .xor t x y t') (hx : AS.eval ⟨fr, hp, nx⟩ x = some (.h (.c (.int .i64 a)))) (hy : AS.eval ⟨fr, hp, nx⟩ y = some (.h (.c (.int .i64 b))))
    (hg : gdv l ⟨fr, hp, nx⟩ o = some true) (hd : o.dst = some d) (hn : Nat.blt d E.nt = true) (h0 : 0 ≤ a) (h1 : a < 9223372036854775808) (h2 : 0 ≤ b) (h3 : b < 9223372036854775808) (k : ∀ r : Int, 0 ≤ r → r < 9223372036854775808 → AL E l rest ⟨(d, .h (.c (.int .i64 r))) :: fr, hp, nx⟩ Q) : AL E l (o :: rest) ⟨fr, hp, nx⟩ Q := by
  have hx' : a.toNat ^^^ b.toNat < 2 ^ 63 := Nat.xor_lt_two_pow (by omega) (by omega)
  exact al_pd (by rw [ho]; exact ps_xor hx hy h0 h1 h2 h3) hg hd hn (k _ (by omega) (by omega))
end
end Go.Proofs.Ythmgfgiaagkdeaa
/- The engine, part y: a drawn region in which an operation reads an object that a later operation, which hangs on it, writes: the relation of steps goes by operation. -/
namespace Go.Proofs.Ythmgfgiaagkdeaa
open Go.RowKit
section
variable {P : Program} {ops : Array Oper} {Q : Exit → Act → World → Prop} {md : Region.Mode} {T : Nat → World → World → Prop} {T0 : World → World → Prop}
def wpAnyU (P : Program) (md : Region.Mode) (ops : Array Oper) (Q : Exit → Act → World → Prop) (T : Nat → World → World → Prop) : Nat → Array Bool → Act → World → Prop
  | 0, listed, a, w => Region.ready md ops listed = [] ∧ Q .normal a w
  | fuel + 1, listed, a, w =>
    (Region.ready md ops listed = [] → Q .normal a w) ∧
    ∀ i ∈ Region.ready md ops listed, wpOp P ops Q i (fun a' w' => T i w w' ∧ wpAnyU P md ops Q T fuel (listed.setIfInBounds i true) a' w') a w
theorem wpAny_of_U : ∀ (fuel : Nat) (listed : Array Bool) (a : Act) (w : World), wpAnyU P md ops Q T fuel listed a w → wpAny P md ops Q fuel listed a w
  | 0, _, _, _, h => h
  | fuel + 1, _, _, _, h => ⟨h.1, fun i hi => wpOp_mono (fun a' w' h' => wpAny_of_U fuel _ a' w' h'.2) (h.2 i hi)⟩
/-- Each of D but i waits for another of D. -/
def depOk (md : Region.Mode) (ops : Array Oper) (D : List Nat) (i : Nat) : Bool :=
  D.all fun d => d == i || match ops[d]? with | some o => o.after.any (fun e => Region.binds md e && D.contains e.on) | none => false
theorem wpAnyU_first {i : Nat} {oi : Oper} {v : Value} {D : List Nat} (hTr : ∀ j w, T j w w) (h0r : ∀ w, T0 w w) (h0t : ∀ a b c, T0 a b → T0 b c → T0 a c) (hi : ops[i]? = some oi) (hsel : ∀ (j : Nat) (o : Oper) cs b, ops[j]? = some o → o.op ≠ .select cs b)
    (hQ : ∀ c a w, Q (.panic c) (a.put oi.dst v) w → Q (.panic c) a w) (hD : depOk md ops D i = true) (hT : ∀ j, j ∉ D → ∀ w w', T j w w' → T0 w w') :
    ∀ (fuel : Nat) (listed : Array Bool) (a : Act) (w : World),
      (∀ j oj, ops[j]? = some oj → j ≠ i → listed.getD j true = false → (∀ e ∈ oj.after, Region.binds md e = true → e.on ≠ i) → oi.apart ops oj = true) →
      i ∈ Region.ready md ops listed → (∀ d ∈ D, d ≠ i → listed.getD d true = false) → YT P ops T0 oi v a w →
      wpAnyU P md ops Q T fuel (listed.setIfInBounds i true) (a.put oi.dst v) w → wpAnyU P md ops Q T (fuel + 1) listed a w := by
  intro fuel
  induction fuel with
  | zero =>
    intro listed a w _ hr _ hy H
    refine ⟨fun h => (by rw [h] at hr; cases hr), fun j hj => ?_⟩
    by_cases hji : j = i
    · subst hji; exact hy.wpOp h0r hi ⟨hTr _ w, H⟩
    · have := ready_mono hj hji
      rw [H.1] at this
      cases this
  | succ fuel ih =>
    intro listed a w hfree hr hun hy H
    refine ⟨fun h => (by rw [h] at hr; cases hr), fun j hj => ?_⟩
    by_cases hji : j = i
    · subst hji; exact hy.wpOp h0r hi ⟨hTr _ w, H⟩
    · have h1 := H.2 j (ready_mono hj hji)
      obtain ⟨hjun, oj, hoj, hall⟩ := mem_ready.1 hj
      have hnot : ∀ e ∈ oj.after, Region.binds md e = true → e.on ≠ i := fun e he hb heq => by
        have h1 := hall e he hb
        have h0 := (mem_ready.1 hr).1
        rw [heq] at h1
        rcases Nat.lt_or_ge i listed.size with h' | h'
        · simp [h'] at h0 h1; rw [h0] at h1; cases h1
        · simp [Array.getElem?_eq_none h'] at h1
      have hjD : j ∉ D := by
        intro hjD
        have := List.all_eq_true.1 hD j hjD
        simp only [Bool.or_eq_true, beq_iff_eq, hji, false_or, hoj] at this
        obtain ⟨e, he, hb⟩ := Array.any_eq_true'.1 this
        simp only [Bool.and_eq_true] at hb
        have h3 := hall e he hb.1
        have h4 := hun e.on (by simpa using hb.2) (hnot e he hb.1)
        rcases Nat.lt_or_ge e.on listed.size with h' | h'
        · simp [h'] at h3 h4; rw [h4] at h3; cases h3
        · simp [Array.getElem?_eq_none h'] at h3
      have h2 := wpOp_putT hoj (hfree j oj hoj hji hjun hnot) (fun cs b => hsel i oi cs b hi) (fun cs b => hsel j oj cs b hoj) hQ hy h1
      have hfree' : ∀ k ok, ops[k]? = some ok → k ≠ i → (listed.setIfInBounds j true).getD k true = false →
          (∀ e ∈ ok.after, Region.binds md e = true → e.on ≠ i) → oi.apart ops ok = true := fun k ok hk hki hun hno => by
        refine hfree k ok hk hki ?_ hno
        by_cases hjk : j = k
        · subst hjk; exact hjun
        · rw [getD_set_ne true hjk] at hun; exact hun
      refine wpOp_mono (fun a' w' h3 => ⟨h3.2.1, ih (listed.setIfInBounds j true) a' w' hfree' (ready_mono hr (Ne.symm hji)) (fun d hd hdi => by
        have hjd : j ≠ d := by rintro rfl; exact hjD hd
        rw [getD_set_ne true hjd]; exact hun d hd hdi) (h3.1.step h0t (hT j hjD _ _ h3.2.1)) ?_⟩) h2
      rw [Array.setIfInBounds_comm _ _ hji]
      exact h3.2.2
theorem cert_unlisted {ops : Array Oper} : ∀ (cert : List (Nat × Bool)) (listed : Array Bool), certOk ops cert listed = true → ∀ p ∈ cert, listed.getD p.1 true = false
  | [], _, _, p, hp => by cases hp
  | (i, b) :: r, listed, h, p, hp => by
    have hr : i ∈ Region.ready .any ops listed ∧ certOk ops r (listed.setIfInBounds i true) = true := by
      cases b <;> simp only [certOk, Bool.and_eq_true, beq_iff_eq] at h
      · exact ⟨by rw [h.1]; simp, h.2⟩
      · exact ⟨by simpa using h.1.1, h.2⟩
    rcases List.mem_cons.1 hp with rfl | hp
    · exact (mem_ready.1 hr.1).1
    · have := cert_unlisted r _ hr.2 p hp
      by_cases hip : i = p.1
      · subst hip; exact (mem_ready.1 hr.1).1
      · rw [getD_set_ne true hip] at this; exact this
end
theorem aj_step {E : Env} {g g' : Ga} {im im' : Im} {fps : List Nat} {s : AS} {a : Act} {w w' : World} {M F : Nat → Prop} {n0 nr : Nat} {os ms m : List Nat} {fl : Bool} (_hs : SimF E g im fps s a w) (hJ : AJ g im w M n0 nr os ms fl) (hnr : nr ≤ s.nx)
    (hm : m.all (fun id => ms.contains id || Nat.ble nr id) = true) (hch : Chg g g' im im' w w' s.nx F) (hof : Of g m F) : TrM M n0 w w' ∧ AJ g' im' w' M n0 nr os ms false := by
  have hF : ∀ b, F b → b < n0 → M b := by
    intro b hb hlt
    obtain ⟨id, hid, bi, h1, h2⟩ := hof b hb
    have := List.all_eq_true.1 hm id hid
    simp only [Bool.or_eq_true] at this
    by_cases hidn : id < nr
    · rcases this with h3 | h3
      · rcases hJ.mds id bi b (by simpa using h3) hidn h1 h2 with h4 | ⟨t, h4⟩
        · exact h4
        · exact absurd h4 (hch.fi b hb t)
      · have := Nat.le_of_ble_eq_true h3; omega
    · rcases hJ.new id bi b (by omega) h1 h2 with h4 | h4
      · omega
      · exact h4
  have hT : TrM M n0 w w' := by
    intro b hb hMb
    have := hJ.sz
    rcases hch.ch b (by omega) with h1 | h1
    · exact absurd (hF b h1 hb) hMb
    · exact h1
  refine ⟨hT, ?_⟩
  have hsz := hJ.sz
  have hgold : ∀ i bi, i < nr → g' i = some bi → g i = some bi := fun i bi h1 h2 => by rw [← hch.gx i (by omega)]; exact h2
  refine ⟨⟨?_, ?_, ?_⟩, hJ.on, Nat.le_trans hJ.sz hch.sz, hJ.mn, ?_, ?_⟩
  · intro t b h1 h2
    rcases hch.imn t b h1 with h3 | ⟨_, h3⟩
    · exact hJ.ai.imM t b h3 h2
    · have := hJ.mn b h2; omega
  · intro t b h1 h2
    rcases h1 with h1 | h1
    · cases h1
    · rcases hch.imn t b h2 with h3 | ⟨h3, _⟩
      · exact hJ.ai.imo t b (.inr h1) h3
      · exact absurd h3 h1
  · intro id h1 bi b h3 h4
    exact hJ.ai.old id h1 bi b (hgold id bi (hJ.on id (by simpa [okid] using h1)) h3) h4
  · intro i bi b h1 h2 h3
    by_cases hin : i < s.nx
    · exact hJ.new i bi b h1 (by rw [← hch.gx i hin]; exact h2) h3
    · rcases hch.gn i bi b (by omega) h2 h3 with h4 | h4
      · left; omega
      · by_cases hlt : b < n0
        · exact .inr (hF b h4 hlt)
        · left; omega
  · intro i bi b h1 h2 h3 h4
    rcases hJ.mds i bi b h1 h2 (hgold i bi h2 h3) h4 with h5 | ⟨t, h5⟩
    · exact .inl h5
    · exact .inr ⟨t, hch.imm t b h5⟩
theorem aj_start {E : Env} {g : Ga} {im : Im} {fps : List Nat} {s : AS} {a : Act} {w1 : World} (hs1 : SimF E g im fps s a w1) (ms : List Nat) (hms : ms.all (fun i => (look i s.hp).isSome) = true) :
    AJ g im w1 (fun b => (∃ id ∈ ms, ∃ bi, g id = some bi ∧ bi.a = some b) ∧ ∀ t, ¬ im t b) w1.heap.size s.nx (osOf s ms) ms true := by
  refine ⟨⟨fun t b h1 h2 => h2.2 t h1, fun t b _ => hs1.il t b, fun id h1 bi b h3 h4 => ⟨hs1.gl id bi b h3 h4, ?_⟩⟩, ?_, Nat.le_refl _, ?_, ?_, ?_⟩
  · rintro ⟨⟨id', h5, bi', h6, h7⟩, h8⟩
    have hid : id ∈ osOf s ms := by simpa [okid] using h1
    simp only [osOf, List.mem_filter, Bool.and_eq_true, Bool.not_eq_true'] at hid
    obtain ⟨hid1, hid2, _⟩ := hid
    have hne : id ≠ id' := by
      rintro rfl
      have : ms.contains id = true := by simpa using h5
      rw [this] at hid2
      cases hid2
    obtain ⟨oj, hoj⟩ := Option.isSome_iff_exists.1 (List.all_eq_true.1 hms id' h5)
    have : ∃ oi, look id s.hp = some oi := by
      clear hms
      revert hid1
      generalize s.hp = hp
      intro hid1
      induction hp with
      | nil => simp at hid1
      | cons p r ih =>
        obtain ⟨q, x⟩ := p
        by_cases hq : id = q
        · subst hq; exact ⟨x, look_cons_eq _ _ _⟩
        · rw [look_cons_ne hq]
          simp only [List.map_cons, List.mem_cons] at hid1
          exact ih (hid1.resolve_left hq)
    obtain ⟨oi, hoi⟩ := this
    exact HR_apart _ _ hs1.hp hs1.nd id id' oi oj bi bi' b hoi hoj hne h3 h6 h4 h7
  · intro i hi
    simp only [osOf, List.mem_filter, Bool.and_eq_true] at hi
    exact Nat.lt_of_succ_le (Nat.le_of_ble_eq_true hi.2.2)
  · rintro b ⟨⟨id', h5, bi', h6, h7⟩, _⟩
    exact hs1.gl id' bi' b h6 h7
  · intro i bi b h1 h2 _
    rw [hs1.gn i h1] at h2; cases h2
  · intro i bi b h1 h2 h3 h4
    by_cases hb : ∃ t, im t b
    · exact .inr hb
    · exact .inl ⟨⟨i, h1, bi, h3, h4⟩, fun t ht => hb ⟨t, ht⟩⟩
/-- A region that draws, the steps told by operation. W: the late writers, of ms; the others write ms0; early: no late writer has come yet. -/
def AH2 (E : Env) (l : List Oper) (cert : List (Nat × Bool)) (W : List Nat) (nr : Nat) (os ms os0 ms0 : List Nat) (early fl : Bool) (s : AS) (k : AS → Prop) : Prop :=
  Region.noSelect l.toArray = true → ∀ listed, certOk l.toArray cert listed = true → ∀ g im a w M M0 n0, Sim E g im s a w → AJ g im w M n0 nr os ms fl → (early = true → AJ g im w M0 n0 nr os0 ms0 fl) → (∀ b, M0 b → M b) → nr ≤ s.nx →
    wpAnyU E.P .any l.toArray (Lift E (NQ k)) (fun j => TrM (if W.contains j then M else M0) n0) cert.length listed a w
section
variable {E : Env} {l : List Oper} {cert : List (Nat × Bool)} {W : List Nat} {nr : Nat} {os ms os0 ms0 : List Nat} {early fl : Bool} {s : AS} {k : AS → Prop}
theorem trM_mono {M0 M : Nat → Prop} (h : ∀ b, M0 b → M b) {n0 : Nat} {w w' : World} (ht : TrM M0 n0 w w') : TrM M n0 w w' := fun b h1 h2 => ht b h1 fun h3 => h2 (h b h3)
theorem ah2_nil (h : k s) : AH2 E l [] W nr os ms os0 ms0 early fl s k := by
  intro hsel listed hc g im a w M M0 n0 hs hJ hJ0 hMM hnr
  simp only [certOk, List.isEmpty_iff] at hc
  exact ⟨hc, g, im, s, hs, rfl, h⟩
theorem ah2_ps {i : Nat} {oi : Oper} {x : AV} (hi : nth l i = some oi) (h : PS E (some os) fl s oi.op x) (hg : gdv l s oi = some true) (hd : dok E.nt oi.dst = true) (kk : AH2 E l cert W nr os ms os0 ms0 early fl (s.putd oi.dst x) k) : AH2 E l ((i, true) :: cert) W nr os ms os0 ms0 early fl s k := by
  intro hsel listed hc g im a w M M0 n0 ⟨fps, hs⟩ hJ hJ0 hMM hnr
  simp only [certOk, Bool.and_eq_true] at hc
  obtain ⟨⟨hr, hf⟩, hc'⟩ := hc
  have hi' : l.toArray[i]? = some oi := by rw [List.getElem?_toArray, ← nth_eq]; exact hi
  obtain ⟨v, hv, hrun⟩ := h g im a w M n0 ⟨fps, hs⟩ hJ.ai
  refine wpAnyU_first (D := []) (T0 := TrM M n0) (fun j w => TrM_refl _ n0 w) (TrM_refl M n0) (TrM_trans M n0) hi' (Region.noSelect_spec hsel) (fun c a w h => nq_panic c _ _ w h) rfl ?_ _ listed a w (Region.free_spec hi' hf) (by simpa using hr) (fun d hd => by cases hd) (.inl ⟨wanted_of hs hg, fun w' hw' => hrun w' hw' oi rfl⟩) ?_
  · intro j _ w w' ht
    split at ht
    · exact ht
    · exact trM_mono hMM ht
  · exact kk hsel _ hc' g im _ w M M0 n0 ⟨fps, hs.putd (dok_lt hd) hv⟩ hJ hJ0 hMM (by cases hdd : oi.dst <;> simpa [AS.putd, AS.put] using hnr)
/-- What reads an object that only operations write which wait for it. -/
theorem ah2_psD {i : Nat} {oi : Oper} {x : AV} (D : List Nat) (hi : nth l i = some oi) (h : PS E (some os0) fl s oi.op x) (hg : gdv l s oi = some true) (hd : dok E.nt oi.dst = true) (hD : depOk .any l.toArray D i = true) (hW : W.all (fun j => D.contains j) = true) (hDc : D.all (fun d => d == i || cert.any (fun p => p.1 == d)) = true)
    (kk : AH2 E l cert W nr os ms os0 ms0 true fl (s.putd oi.dst x) k) : AH2 E l ((i, true) :: cert) W nr os ms os0 ms0 true fl s k := by
  intro hsel listed hc0 g im a w M M0 n0 ⟨fps, hs⟩ hJ hJ0 hMM hnr
  have hun := cert_unlisted _ _ hc0
  have hc := hc0
  simp only [certOk, Bool.and_eq_true] at hc
  obtain ⟨⟨hr, hf⟩, hc'⟩ := hc
  have hi' : l.toArray[i]? = some oi := by rw [List.getElem?_toArray, ← nth_eq]; exact hi
  obtain ⟨v, hv, hrun⟩ := h g im a w M0 n0 ⟨fps, hs⟩ (hJ0 rfl).ai
  refine wpAnyU_first (D := D) (T0 := TrM M0 n0) (fun j w => TrM_refl _ n0 w) (TrM_refl M0 n0) (TrM_trans M0 n0) hi' (Region.noSelect_spec hsel) (fun c a w h => nq_panic c _ _ w h) hD ?_ _ listed a w (Region.free_spec hi' hf) (by simpa using hr) ?_ (.inl ⟨wanted_of hs hg, fun w' hw' => hrun w' hw' oi rfl⟩) ?_
  · intro j hj w w' ht
    have : W.contains j = false := by
      cases hWj : W.contains j with
      | false => rfl
      | true => exact absurd (by simpa using List.all_eq_true.1 hW j (by simpa using hWj)) hj
    rw [this] at ht
    exact ht
  · intro d hd hdi
    have := List.all_eq_true.1 hDc d hd
    simp only [Bool.or_eq_true, beq_iff_eq, hdi, false_or] at this
    obtain ⟨p, hp, hpd⟩ := List.any_eq_true.1 this
    have := hun p (List.mem_cons_of_mem _ hp)
    rw [← (by simpa using hpd : p.1 = d)]
    exact this
  · exact kk hsel _ hc' g im _ w M M0 n0 ⟨fps, hs.putd (dok_lt hd) hv⟩ hJ hJ0 hMM (by cases hdd : oi.dst <;> simpa [AS.putd, AS.put] using hnr)
/-- An effect of an early writer. -/
theorem ah2_es {i : Nat} {oi : Oper} {m : List Nat} {Q' : AS → Prop} (hi : nth l i = some oi) (h : ES E s oi (some m) Q') (hg : gdv l s oi = some true) (hW : W.contains i = false) (hm : m.all (fun id => ms.contains id || Nat.ble nr id) = true) (hm0 : m.all (fun id => ms0.contains id || Nat.ble nr id) = true) (hnx : ∀ s', Q' s' → s.nx ≤ s'.nx)
    (kk : ∀ s', Q' s' → AH2 E l cert W nr os ms os0 ms0 true false s' k) : AH2 E l ((i, false) :: cert) W nr os ms os0 ms0 true fl s k := by
  intro hsel listed hc g im a w M M0 n0 ⟨fps, hs⟩ hJ hJ0 hMM hnr
  have hi' : l.toArray[i]? = some oi := by rw [List.getElem?_toArray, ← nth_eq]; exact hi
  simp only [certOk, Bool.and_eq_true, beq_iff_eq] at hc
  obtain ⟨hr, hc'⟩ := hc
  refine ⟨fun h => (by rw [hr] at h; cases h), fun j hj => ?_⟩
  rw [hr] at hj
  simp only [List.mem_singleton] at hj
  subst hj
  unfold wpOp
  simp only [hi']
  rw [if_pos (wanted_of hs hg)]
  refine .inl (h g im a w _ _ ⟨fps, hs⟩ ?_)
  intro g' im' s' a' w' F hs' hq hch hof
  obtain ⟨_, j1⟩ := aj_step hs hJ hnr hm hch (hof m rfl)
  obtain ⟨t0, j0⟩ := aj_step hs (hJ0 rfl) hnr hm0 hch (hof m rfl)
  refine ⟨by rw [hW]; exact t0, kk s' hq hsel _ hc' g' im' a' w' M M0 n0 hs' j1 (fun _ => j0) hMM (Nat.le_trans hnr (hnx s' hq))⟩
/-- .. of a late writer. -/
theorem ah2_late {i : Nat} {oi : Oper} {m : List Nat} {Q' : AS → Prop} (hi : nth l i = some oi) (h : ES E s oi (some m) Q') (hg : gdv l s oi = some true) (hW : W.contains i = true) (hm : m.all (fun id => ms.contains id || Nat.ble nr id) = true) (hnx : ∀ s', Q' s' → s.nx ≤ s'.nx)
    (kk : ∀ s', Q' s' → AH2 E l cert W nr os ms os0 ms0 false false s' k) : AH2 E l ((i, false) :: cert) W nr os ms os0 ms0 early fl s k := by
  intro hsel listed hc g im a w M M0 n0 ⟨fps, hs⟩ hJ hJ0 hMM hnr
  have hi' : l.toArray[i]? = some oi := by rw [List.getElem?_toArray, ← nth_eq]; exact hi
  simp only [certOk, Bool.and_eq_true, beq_iff_eq] at hc
  obtain ⟨hr, hc'⟩ := hc
  refine ⟨fun h => (by rw [hr] at h; cases h), fun j hj => ?_⟩
  rw [hr] at hj
  simp only [List.mem_singleton] at hj
  subst hj
  unfold wpOp
  simp only [hi']
  rw [if_pos (wanted_of hs hg)]
  refine .inl (h g im a w _ _ ⟨fps, hs⟩ ?_)
  intro g' im' s' a' w' F hs' hq hch hof
  obtain ⟨t1, j1⟩ := aj_step hs hJ hnr hm hch (hof m rfl)
  refine ⟨by rw [hW]; exact t1, kk s' hq hsel _ hc' g' im' a' w' M M0 n0 hs' j1 (fun h => by cases h) hMM (Nat.le_trans hnr (hnx s' hq))⟩
end
section
variable {E : Env} {l : List Oper} {Q : Exit → AS → Prop} {s : AS}
theorem awp_draw2 {id : Nat} (cert : List (Nat × Bool)) (W ms ms0 : List Nat) (hm : E.P.follows .mixedOrders = true) (hsel : Region.noSelect l.toArray = true) (hc : certOk l.toArray cert (Array.replicate l.length false) = true) (hl : Nat.beq cert.length l.length = true) (hms : ms.all (fun i => (look i s.hp).isSome) = true) (hms0 : ms0.all (fun i => (look i s.hp).isSome) = true) (hsub : ms0.all (fun i => ms.contains i) = true)
    (h : AH2 E l cert W s.nx (osOf s ms) ms (osOf s ms0) ms0 true true s (fun s' => XT .normal s' Q)) : AWP E (.region id l.toArray true) s Q := by
  intro g im a w ⟨fps, hs⟩
  refine wp_region_any hm ?_
  have hlen := Nat.eq_of_beq_eq_true hl
  let w1 : World := { w with drawn := w.drawn + 1 }
  have hs1 : SimF E g im fps s a w1 := hs.world (fun _ _ => rfl) (Nat.le_refl _) (hs.kp.trans_same rfl rfl rfl (Nat.le_refl _) fun _ _ => .inr rfl)
  have := h hsel _ hc g im a w1 _ _ w1.heap.size ⟨fps, hs1⟩ (aj_start hs1 ms hms) (fun _ => aj_start hs1 ms0 hms0) (fun b ⟨⟨id, h1, h2⟩, h3⟩ => ⟨⟨id, by simpa using List.all_eq_true.1 hsub id h1, h2⟩, h3⟩) (Nat.le_refl _)
  rw [hlen] at this
  have hsz : l.toArray.size = l.length := by simp
  rw [hsz]
  refine wpAny_imp ?_ _ _ _ _ (wpAny_of_U _ _ _ _ this)
  rintro e a' w' ⟨g', im', s', h1, rfl, h3⟩
  exact ⟨g', im', s', h1, h3⟩
end
section
variable {E : Env} {l : List Oper} {fr : List (Nat × AV)} {hp : List (Nat × Ob)} {nx d : Nat} {cert : List (Nat × Bool)} {W : List Nat} {nr : Nat} {os ms os0 ms0 : List Nat} {early fl : Bool} {s : AS} {k : AS → Prop} {i : Nat} {oi : Oper}
theorem uPS {x : AV} (hi : nth l i = some oi) (h : PS E (some os) fl ⟨fr, hp, nx⟩ oi.op x) (hg : gdv l ⟨fr, hp, nx⟩ oi = some true) (hd : oi.dst = some d) (hn : Nat.blt d E.nt = true) (kk : AH2 E l cert W nr os ms os0 ms0 early fl ⟨(d, x) :: fr, hp, nx⟩ k) : AH2 E l ((i, true) :: cert) W nr os ms os0 ms0 early fl ⟨fr, hp, nx⟩ k :=
  ah2_ps hi h hg (dok_of hd hn) (by rw [putd_of hd]; exact kk)
theorem u1 {x : AV} (hi : nth l i = some oi) (h : aev E.te (some os) fl ⟨fr, hp, nx⟩ oi.op = some x) (hg : gdv l ⟨fr, hp, nx⟩ oi = some true) (hd : oi.dst = some d) (hn : Nat.blt d E.nt = true) (kk : AH2 E l cert W nr os ms os0 ms0 early fl ⟨(d, x) :: fr, hp, nx⟩ k) : AH2 E l ((i, true) :: cert) W nr os ms os0 ms0 early fl ⟨fr, hp, nx⟩ k :=
  uPS hi (ps_of_aev E.hte h) hg hd hn kk
theorem uAr {op : BinOp} {t t' : TypeId} {x y : Operand} {a b r : Int} (hi : nth l i = some oi) (ho : oi.op = .binOp op t x y t') (hx : AS.eval ⟨fr, hp, nx⟩ x = some (.h (.c (.int .i64 a)))) (hy : AS.eval ⟨fr, hp, nx⟩ y = some (.h (.c (.int .i64 b)))) (hr : arI op a b = some r)
    (hg : gdv l ⟨fr, hp, nx⟩ oi = some true) (hd : oi.dst = some d) (hn : Nat.blt d E.nt = true) (h1 : -9223372036854775808 ≤ r) (h2 : r ≤ 9223372036854775807) (kk : AH2 E l cert W nr os ms os0 ms0 early fl ⟨(d, .h (.c (.int .i64 r))) :: fr, hp, nx⟩ k) : AH2 E l ((i, true) :: cert) W nr os ms os0 ms0 early fl ⟨fr, hp, nx⟩ k :=
  uPS hi (by rw [ho]; exact ps_ar hx hy hr h1 h2) hg hd hn kk
theorem uRem {t t' : TypeId} {x y : Operand} {a b : Int} (hi : nth l i = some oi) (ho : oi.op = .binOp .rem t x y t') (hx : AS.eval ⟨fr, hp, nx⟩ x = some (.h (.c (.int .i64 a)))) (hy : AS.eval ⟨fr, hp, nx⟩ y = some (.h (.c (.int .i64 b))))
    (hg : gdv l ⟨fr, hp, nx⟩ oi = some true) (hd : oi.dst = some d) (hn : Nat.blt d E.nt = true) (h0 : 0 ≤ a) (h1 : 0 < b) (kk : AH2 E l cert W nr os ms os0 ms0 early fl ⟨(d, .h (.c (.int .i64 (a % b)))) :: fr, hp, nx⟩ k) : AH2 E l ((i, true) :: cert) W nr os ms os0 ms0 early fl ⟨fr, hp, nx⟩ k :=
  uPS hi (by rw [ho]; exact ps_rem hx hy h0 h1) hg hd hn kk
theorem uIx0 {t e : Nat} {sz b' : Nat} {zs : List CV} {x ix : Operand} {id n : Nat} {ty e' : Nat} {xs : List CV} {q : Int} {inf : TInf} (m : Nat) (hi : nth l i = some oi) (ho : oi.op = .indexAddr t x ix)
    (hx : AS.eval ⟨fr, hp, nx⟩ x = some (.h (.sl id 0 n))) (hj : AS.eval ⟨fr, hp, nx⟩ ix = some (.h (.c (.int .i64 q)))) (ht : look t E.te = some ⟨.slice e, sz, b', zs⟩) (he : look e E.te = some inf) (hob : look id hp = some (.arr ty e' xs)) (hes : e' = inf.sz)
    (hg : gdv l ⟨fr, hp, nx⟩ oi = some true) (hd : oi.dst = some d) (hn : Nat.blt d E.nt = true) (hk : q = (m : Int)) (hlt : m < n) (kk : AH2 E l cert W nr os ms os0 ms0 early fl ⟨(d, .h (.ptr id (m * inf.sz))) :: fr, hp, nx⟩ k) : AH2 E l ((i, true) :: cert) W nr os ms os0 ms0 early fl ⟨fr, hp, nx⟩ k := by
  refine uPS hi (by rw [ho]; exact ps_ixo m E.hte hx hj hk hlt ht he hob hes) hg hd hn ?_
  rw [Nat.zero_add]; exact kk
/-- A load of an element of a row that a late writer will append to. -/
theorem uLdD {α : Type} {f : α → List CV} {t : Nat} {x : Operand} {id off : Nat} {ty e : Nat} {L : List α} {inf : TInf} {v : AV} (D : List Nat) (m c : Nat) (hi : nth l i = some oi) (ho : oi.op = .load t x) (hx : AS.eval ⟨fr, hp, nx⟩ x = some (.h (.ptr id off))) (hob : look id hp = some (.arr ty e (rows f L))) (hl : look t E.te = some inf)
    (hg : gdv l ⟨fr, hp, nx⟩ oi = some true) (hd : oi.dst = some d) (hn : Nat.blt d E.nt = true) (hid : okid (some os0) id = true) (hD : depOk .any l.toArray D i = true) (hW : W.all (fun j => D.contains j) = true) (hDc : D.all (fun d => d == i || cert.any (fun p => p.1 == d)) = true) (hf : ∀ a, (f a).length = e) (hoff : off = m * e + c) (hc : c ≤ e) (hlt : m < L.length) (h : loadH inf ((((f L[m]).drop c ++ rows f (L.drop (m + 1))).take inf.sz).map HV.c) = some v)
    (kk : AH2 E l cert W nr os ms os0 ms0 true fl ⟨(d, v) :: fr, hp, nx⟩ k) : AH2 E l ((i, true) :: cert) W nr os ms os0 ms0 true fl ⟨fr, hp, nx⟩ k :=
  ah2_psD D hi (by rw [ho]; exact ps_ldo E.hte hx hob hl hid (by rw [hoff, ← List.drop_drop, rows_at hf hlt, List.drop_append_of_le_length (by rw [hf]; exact hc)]) h) hg (dok_of hd hn) hD hW hDc (by rw [putd_of hd]; exact kk)
theorem uE {s' : AS} {m : List Nat} (hi : nth l i = some oi) (h : ES E s oi (some m) (fun x => x = s')) (hg : gdv l s oi = some true) (hW : W.contains i = false) (hm : m.all (fun id => ms.contains id || Nat.ble nr id) = true) (hm0 : m.all (fun id => ms0.contains id || Nat.ble nr id) = true) (hnx : Nat.ble s.nx s'.nx = true) (kk : AH2 E l cert W nr os ms os0 ms0 true false s' k) : AH2 E l ((i, false) :: cert) W nr os ms os0 ms0 true fl s k :=
  ah2_es hi h hg hW hm hm0 (fun x h => by rw [h]; exact Nat.le_of_ble_eq_true hnx) fun x h => by rw [h]; exact kk
theorem uLate {s' : AS} {m : List Nat} (hi : nth l i = some oi) (h : ES E s oi (some m) (fun x => x = s')) (hg : gdv l s oi = some true) (hW : W.contains i = true) (hm : m.all (fun id => ms.contains id || Nat.ble nr id) = true) (hnx : Nat.ble s.nx s'.nx = true) (kk : AH2 E l cert W nr os ms os0 ms0 false false s' k) : AH2 E l ((i, false) :: cert) W nr os ms os0 ms0 early fl s k :=
  ah2_late hi h hg hW hm (fun x h => by rw [h]; exact Nat.le_of_ble_eq_true hnx) fun x h => by rw [h]; exact kk
/-- A call that is handed an object. -/
theorem uCo {f : FuncId} {as : List Operand} {xs ys : List AV} {rt : List Nat} {ob : Ob} {rs : List (Nat × Ob)} (id : Nat) {α : Type} {R : α → Prop} {ob' : α → Ob} {x : α → AV} (hc : AC E.P f ys [ob] rt (fun r h => ∃ a, R a ∧ h = [ob' a] ∧ r = x a)) (hi : nth l i = some oi) (hop : callOf ⟨fr, hp, nx⟩ oi.op = some (f, as)) (hev : AS.evals ⟨fr, hp, nx⟩ as = some xs) (hpk : pick [id] hp = some ([ob], rs)) (hpu : ob.pu = true) (hbx : ob.bx = true) (hpu' : ∀ a, (ob' a).pu = true) (hx : ∀ a f, (x a).ren f = x a)
    (hg : gdv l ⟨fr, hp, nx⟩ oi = some true) (hd : oi.dst = some d) (hn : Nat.blt d E.nt = true) (hW : W.contains i = false) (hT : 99 ∉ rt) (hm : [id].all (fun id => ms.contains id || Nat.ble nr id) = true) (hm0 : [id].all (fun id => ms0.contains id || Nat.ble nr id) = true) (hb : BorAs rs [id] 99 xs ys)
    (kk : ∀ a, R a → AH2 E l cert W nr os ms os0 ms0 true false ⟨(d, x a) :: fr, (id, ob' a) :: rs, nx⟩ k) : AH2 E l ((i, false) :: cert) W nr os ms os0 ms0 true fl ⟨fr, hp, nx⟩ k := by
  have h := eCall (d := d) hc 99 [id] hop hev hpk (by simp [hpu]) hd hn hb hT
  rw [if_pos (by simp [hbx])] at h
  refine ah2_es hi h hg hW hm hm0 (fun x ⟨r, hout, _, e⟩ => by rw [e]; exact Nat.le_add_right _ _) fun s' ⟨r, hout, hp, e⟩ => ?_
  subst e
  obtain ⟨a, ha, rfl, rfl⟩ := hp
  rw [hx a]
  simp only [named, ob_ren_pu (hpu' a)]
  exact kk a ha
end
end Go.Proofs.Ythmgfgiaagkdeaa
/- The engine, part z: cuts of rows of the call's own; forgetting a row's tail. -/
namespace Go.Proofs.Ythmgfgiaagkdeaa
open Go.RowKit
section
variable {E : Env} {te : TE} {os : Option (List Nat)} {fl : Bool} {s : AS}
theorem cut_run {E : Env} {te : TE} {g : Ga} {im : Im} {fps : List Nat} {s : AS} {a : Act} {w : World} (hs : SimF E g im fps s a w) (hte : teOk E.P te = true) {t e sz b' : Nat} {zs : List CV} {lo hi : Option Operand} {n : Nat} {il ih : Int} {inf : TInf} (l h : Nat) (A : Option Addr) (c : Nat)
    (hlo : bnd s 0 lo = some il) (hhi : bnd s n hi = some ih) (hl : il = (l : Int)) (hh : ih = (h : Int)) (h1 : l ≤ h) (h2 : h ≤ n) (h3 : n ≤ c) (ht : look t te = some ⟨.slice e, sz, b', zs⟩) (he : look e te = some inf) (w' : World) :
    (Instr.sliceAt t (.slice A n c) (lo.map a.eval) (hi.map a.eval) none).run E.P w' = .ok (.slice (if c = l then A else A.map (·.add (l * inf.sz))) (h - l) (c - l)) w' := by
  subst hl hh
  refine run_cut hte ht he w' A n c l h _ _ ?_ ?_ h1 (by omega) h3
  · cases lo with
    | none => simp only [bnd, Option.some.injEq] at hlo; exact .inl ⟨rfl, by omega⟩
    | some o =>
      simp only [bnd] at hlo
      split at hlo
      · rename_i hi'
        injection hlo with hlo
        subst hlo
        exact .inr (by simp [RA_int (hs.eval hi')])
      · cases hlo
  · cases hi with
    | none => simp only [bnd, Option.some.injEq] at hhi; exact .inl ⟨rfl, by omega⟩
    | some o =>
      simp only [bnd] at hhi
      split at hhi
      · rename_i hi'
        injection hhi with hhi
        subst hhi
        exact .inr (by simp [RA_int (hs.eval hi')])
      · cases hhi
/-- A cut, from its first element on, of a row of the call's own. -/
theorem ps_cut0 {t e : Nat} {sz b' : Nat} {zs : List CV} {x : Operand} {lo hi : Option Operand} {id j n : Nat} {il ih : Int} {inf : TInf} (h : Nat) (hte : teOk E.P te = true)
    (hx : s.eval x = some (.h (.sl id j n))) (hlo : bnd s 0 lo = some il) (hhi : bnd s n hi = some ih) (hl : il = 0) (hh : ih = (h : Int)) (h2 : h ≤ n) (ht : look t te = some ⟨.slice e, sz, b', zs⟩) (he : look e te = some inf) : PS E os fl s (.slice t x lo hi none) (.h (.sl id j h)) := by
  intro g im ac w M n0 ⟨fps, hs⟩ hI
  have hv := hs.eval hx
  simp only [RA, RH] at hv
  obtain ⟨_, bi, hg, h3, h4, e1⟩ := hv
  refine ⟨slv bi.a (j * bi.e) h (bi.cap - j), ?_, fun w' _ o ho => ?_⟩
  · simp only [RA, RH]
    exact ⟨trivial, bi, hg, by omega, h4, rfl⟩
  · have := cut_run hs hte (l := 0) h (bi.a.map fun b => (⟨b, j * bi.e, none⟩ : Addr)) (bi.cap - j) hlo hhi (by simpa using hl) hh (Nat.zero_le _) h2 (by omega) ht he w'
    have e2 : (if bi.cap - j = 0 then (bi.a.map fun b => (⟨b, j * bi.e, none⟩ : Addr)) else (bi.a.map fun b => (⟨b, j * bi.e, none⟩ : Addr)).map (·.add (0 * inf.sz))) = bi.a.map fun b => (⟨b, j * bi.e, none⟩ : Addr) := by
      split
      · rfl
      · cases bi.a <;> simp [Addr.add]
    rw [e2] at this
    simp only [Nat.sub_zero] at this
    simp only [execOp, ho, e1, slv, Option.map_none, Sem.run_bind, this, Result.andThen_ok, Sem.run_pure]
end
section
variable {E : Env} {l rest : List Oper} {fr : List (Nat × AV)} {hp : List (Nat × Ob)} {nx : Nat} {o : Oper} {Q : Exit → AS → Prop} {d : Nat}
/-- A row's tail is forgotten. -/
theorem sim_trunc {g : Ga} {im : Im} {a : Act} {w : World} (id k : Nat) {ty e : Nat} {xs : List CV} (hl : look id hp = some (.arr ty e xs)) (h : Sim E g im ⟨fr, hp, nx⟩ a w) : Sim E g im ⟨fr, upd id (.arr ty e (xs.take k)) hp, nx⟩ a w := by
  obtain ⟨fps, hs⟩ := h
  obtain ⟨bi, f1, f2, f3, hg, hf, hro⟩ := look_HR hs.hp hl
  obtain ⟨l1, l2, rfl, hu, hdl⟩ := look_split hl
  obtain ⟨g1, g2, rfl, q1, q2⟩ := (HR_append _ _ _).1 hs.hp
  obtain ⟨bi', g3, g4, q3, rfl, q5, q6⟩ := q2
  have key : ∃ g3', g3'.Sublist g3 ∧ RO g im w bi' (.arr ty e (xs.take k)) g3' := by
    obtain ⟨r1, r2, ⟨r3, r4, r5, r6⟩ | ⟨b, cur, f, r3, r4, r5, r6, r7⟩⟩ := q5
    · exact ⟨g3, List.Sublist.refl _, r1, r2, .inl ⟨r3, by rw [r4]; simp, r5, r6⟩⟩
    · obtain ⟨f', hf', r8⟩ := RL_take xs k 0 f r7
      exact ⟨b :: f', by rw [r4]; exact hf'.cons_cons b, r1, r2, .inr ⟨b, cur, f', r3, rfl, r5, r6, r8⟩⟩
  obtain ⟨g3', hsub, hro'⟩ := key
  have hsubl : (g1 ++ (g3' ++ g4)).Sublist (g1 ++ (g3 ++ g4)) := List.Sublist.append (List.Sublist.refl _) (List.Sublist.append hsub (List.Sublist.refl _))
  refine ⟨g1 ++ (g3' ++ g4), ⟨hs.dfr, hs.sz, hs.fr, ?_, hs.nd.sublist hsubl, fun b hb => hs.lt b (hsubl.subset hb), fun b hb => hs.ni b (hsubl.subset hb), fun b hb => hs.mine b (hsubl.subset hb), hs.gn, hs.gl, hs.il, hs.kp, hs.kn, hs.g0, hs.i0, hs.i1⟩⟩
  rw [hu]
  exact (HR_append _ _ _).2 ⟨g1, g3' ++ g4, rfl, q1, bi', g3', g4, q3, rfl, hro', q6⟩
theorem al_trunc (id k : Nat) {ty e : Nat} {xs : List CV} (hl : look id hp = some (.arr ty e xs)) (kk : AL E l rest ⟨fr, upd id (.arr ty e (xs.take k)) hp, nx⟩ Q) : AL E l rest ⟨fr, hp, nx⟩ Q := fun g im a w h => kk g im a w (sim_trunc id k hl h)
theorem al_truncR {α : Type} {f : α → List CV} (id k : Nat) {ty e : Nat} {L : List α} (hl : look id hp = some (.arr ty e (rows f L))) (hf : ∀ a, (f a).length = e) (kk : AL E l rest ⟨fr, upd id (.arr ty e (rows f (L.take k))) hp, nx⟩ Q) : AL E l rest ⟨fr, hp, nx⟩ Q :=
  al_trunc id (k * e) hl (by rw [rows_take hf]; exact kk)
end
end Go.Proofs.Ythmgfgiaagkdeaa
/- The engine, last part: a row of the call's own that is only read from here on. -/
namespace Go.Proofs.Ythmgfgiaagkdeaa
open Go.RowKit
def HV.frz (id T e : Nat) (xs : List CV) : HV → HV
  | .sl j i n => bif Nat.beq j id then .c (.rd T n (CV.brws T (xs.drop (i * e)))) else .sl j i n
  | x => x
def HV.frzs (id T e : Nat) (xs : List CV) : List HV → List HV
  | [] => []
  | y :: ys => y.frz id T e xs :: HV.frzs id T e xs ys
mutual
def AV.frz (id T e : Nat) (xs : List CV) : AV → AV
  | .h x => .h (x.frz id T e xs)
  | .agg ys => .agg (HV.frzs id T e xs ys)
  | .tup ys => .tup (AV.frzs id T e xs ys)
  | .top => .top
def AV.frzs (id T e : Nat) (xs : List CV) : List AV → List AV
  | [] => []
  | y :: ys => y.frz id T e xs :: AV.frzs id T e xs ys
end
def Ob.frz (id T e : Nat) (xs : List CV) : Ob → Ob
  | .arr ty e' ys => .arr ty e' ys
  | .box ty ys => .box ty (HV.frzs id T e xs ys)
  | .hrr ty e' ys => .hrr ty e' (HV.frzs id T e xs ys)
def frzF (id T e : Nat) (xs : List CV) : List (Nat × AV) → List (Nat × AV)
  | [] => []
  | (d, x) :: r => (d, x.frz id T e xs) :: frzF id T e xs r
def frzO (id T e : Nat) (xs : List CV) : List (Nat × Ob) → List (Nat × Ob)
  | [] => []
  | (d, x) :: r => (d, x.frz id T e xs) :: frzO id T e xs r
theorem look_frzF {id T e : Nat} {xs : List CV} {t : Nat} {y : AV} : ∀ {fr : List (Nat × AV)}, look t (frzF id T e xs fr) = some y → ∃ x, look t fr = some x ∧ y = x.frz id T e xs
  | [], h => by simp [frzF, look] at h
  | (d, x) :: r, h => by
    by_cases ht : t = d
    · subst ht
      simp only [frzF, look_cons_eq, Option.some.injEq] at h
      exact ⟨x, look_cons_eq _ _ _, h.symm⟩
    · simp only [frzF, look_cons_ne ht] at h ⊢
      exact look_frzF h
section
variable {g : Ga} {im im' : Im} {w : World} {id T e : Nat} {xs : List CV}
theorem RH_frz (hi : ∀ t b, im t b → im' t b ∧ w.heap[b]? = w.heap[b]?) (hkey : ∀ i n v fp, RH g im w (.sl id i n) v fp → RH g im' w (.c (.rd T n (CV.brws T (xs.drop (i * e))))) v []) : ∀ (x : HV) (v : Value) (fp : List Nat), RH g im w x v fp → RH g im' w (x.frz id T e xs) v fp := by
  intro x v fp h
  cases x with
  | sl j i n =>
    simp only [HV.frz]
    cases hb : Nat.beq j id with
    | true =>
      have := Nat.eq_of_beq_eq_true hb
      subst this
      have hfp : fp = [] := h.1
      subst hfp
      exact hkey i n v [] h
    | false => exact RH_mono (fun _ _ h => h) hi _ v fp (fun _ _ => rfl) h
  | c x => exact RH_mono (fun _ _ h => h) hi _ v fp (fun _ _ => rfl) h
  | sw j i n => exact RH_mono (fun _ _ h => h) hi _ v fp (fun _ _ => rfl) h
  | ptr j o => exact RH_mono (fun _ _ h => h) hi _ v fp (fun _ _ => rfl) h
  | rp t ys => exact RH_mono (fun _ _ h => h) hi _ v fp (fun _ _ => rfl) h
theorem RHs_frz (hi : ∀ t b, im t b → im' t b ∧ w.heap[b]? = w.heap[b]?) (hkey : ∀ i n v fp, RH g im w (.sl id i n) v fp → RH g im' w (.c (.rd T n (CV.brws T (xs.drop (i * e))))) v []) : ∀ (ys : List HV) (vs : List Value) (fp : List Nat), RHs g im w ys vs fp → RHs g im' w (HV.frzs id T e xs ys) vs fp
  | [], vs, fp, h => h
  | y :: ys, vs, fp, h => by
    obtain ⟨v, vs', f1, f2, rfl, rfl, h1, h2⟩ := h
    exact ⟨v, vs', f1, f2, rfl, rfl, RH_frz hi hkey y v f1 h1, RHs_frz hi hkey ys vs' f2 h2⟩
mutual
theorem RA_frz (hi : ∀ t b, im t b → im' t b ∧ w.heap[b]? = w.heap[b]?) (hkey : ∀ i n v fp, RH g im w (.sl id i n) v fp → RH g im' w (.c (.rd T n (CV.brws T (xs.drop (i * e))))) v []) : ∀ (x : AV) (v : Value) (fp : List Nat), RA g im w x v fp → RA g im' w (x.frz id T e xs) v fp
  | .h x, v, fp, h => by simp only [RA, AV.frz] at h ⊢; exact RH_frz hi hkey x v fp h
  | .agg ys, v, fp, h => by
    simp only [RA, AV.frz] at h ⊢
    obtain ⟨cs, h1, h2⟩ := h
    exact ⟨cs, h1, RHs_frz hi hkey ys cs fp h2⟩
  | .tup ys, v, fp, h => by
    simp only [RA, AV.frz] at h ⊢
    obtain ⟨cs, h1, h2⟩ := h
    exact ⟨cs, h1, RAs_frz hi hkey ys cs fp h2⟩
  | .top, v, fp, h => by simpa only [RA, AV.frz] using h
theorem RAs_frz (hi : ∀ t b, im t b → im' t b ∧ w.heap[b]? = w.heap[b]?) (hkey : ∀ i n v fp, RH g im w (.sl id i n) v fp → RH g im' w (.c (.rd T n (CV.brws T (xs.drop (i * e))))) v []) : ∀ (ys : List AV) (vs : List Value) (fp : List Nat), RAs g im w ys vs fp → RAs g im' w (AV.frzs id T e xs ys) vs fp
  | [], vs, fp, h => by simpa only [RAs, AV.frzs] using h
  | y :: ys, vs, fp, h => by
    simp only [RAs, AV.frzs] at h ⊢
    obtain ⟨v, vs', f1, f2, rfl, rfl, h1, h2⟩ := h
    exact ⟨v, vs', f1, f2, rfl, rfl, RA_frz hi hkey y v f1 h1, RAs_frz hi hkey ys vs' f2 h2⟩
end
theorem HR_frz (hi : ∀ t b, im t b → im' t b ∧ w.heap[b]? = w.heap[b]?) (hkey : ∀ i n v fp, RH g im w (.sl id i n) v fp → RH g im' w (.c (.rd T n (CV.brws T (xs.drop (i * e))))) v []) : ∀ (hp : List (Nat × Ob)) (fp : List Nat), HR g im w hp fp → HR g im' w (frzO id T e xs hp) fp
  | [], fp, h => h
  | (j, o) :: r, fp, h => by
    obtain ⟨bi, f1, f2, h1, rfl, h3, h4⟩ := h
    refine ⟨bi, f1, f2, h1, rfl, ?_, HR_frz hi hkey r f2 h4⟩
    cases o with
    | arr ty e' ys => exact RO_mono (fun _ _ h => h) hi bi _ f1 (fun _ _ => rfl) h3
    | box ty ys =>
      obtain ⟨b, cs, f, q1, q2, q3, q4⟩ := h3
      exact ⟨b, cs, f, q1, q2, q3, RHs_frz hi hkey ys cs f q4⟩
    | hrr ty e' ys =>
      obtain ⟨h1, h2, h3 | ⟨b, cur, f', us, h4, rfl, h6, h7, h8, h9⟩⟩ := h3
      · obtain ⟨q1, q2, q3, q4⟩ := h3
        exact ⟨h1, h2, .inl ⟨q1, by rw [q2]; rfl, q3, q4⟩⟩
      · exact ⟨h1, h2, .inr ⟨b, cur, f', us, h4, rfl, h6, h7, RHs_frz hi hkey ys us f' h8, h9⟩⟩
end
theorem sim_freeze {E : Env} {g : Ga} {im : Im} {fr : List (Nat × AV)} {hp : List (Nat × Ob)} {nx : Nat} {a : Act} {w : World} (id T : Nat) (hT : Nat.ble 100 T = true) {ty e : Nat} {xs : List CV} (hl : look id hp = some (.arr ty e xs)) (h : Sim E g im ⟨fr, hp, nx⟩ a w) :
    ∃ im', Sim E g im' ⟨frzF id T e xs fr, frzO id T e xs (del id hp), nx⟩ a w := by
  obtain ⟨fps, hs⟩ := h
  have hT' := Nat.le_of_ble_eq_true hT
  obtain ⟨bi, f1, f2, f3, hg, hf, hro, hrest⟩ := HR_del hs.hp hl
  have hf' : fps = f1 ++ (f2 ++ f3) := hf
  let im' : Im := fun t b => im t b ∨ (t = T ∧ b ∈ f2)
  have hi : ∀ t b, im t b → im' t b ∧ w.heap[b]? = w.heap[b]? := fun t b h => ⟨.inl h, rfl⟩
  have hkey : ∀ i n v fp, RH g im w (.sl id i n) v fp → RH g im' w (.c (.rd T n (CV.brws T (xs.drop (i * e))))) v [] := by
    intro i n v fp hr
    obtain ⟨_, bi', h1, h2, h3, h4⟩ := hr
    obtain rfl : bi = bi' := by rw [hg] at h1; exact Option.some.inj h1
    obtain ⟨r1, r2, ⟨r3, r4, r5, r6⟩ | ⟨b, cur, f, r3, r4, r5, r6, r7⟩⟩ := hro
    · simp only [RH, R]
      refine ⟨trivial, none, bi.cap - i, by rw [h4, r3]; rfl, by omega, by omega, .inl ?_⟩
      rw [r4]; simp [CV.brws]
    · obtain ⟨f', hf', r8⟩ := RL_drop xs (i * e) 0 f r7
      have r9 := RL_brws (T := T) (im' := im') (fun t b h => .inl h) _ b (0 + i * e) f' r8 (fun c hc => .inr ⟨rfl, by rw [r4]; exact List.mem_cons_of_mem _ (hf'.subset hc)⟩)
      simp only [RH, R]
      refine ⟨trivial, some ⟨b, i * bi.e, none⟩, bi.cap - i, by rw [h4, r3]; rfl, by omega, by omega, .inr ⟨b, i * bi.e, rfl, .inr ⟨rfl, by rw [r4]; exact List.mem_cons_self⟩, ?_⟩⟩
      rw [r2]
      simpa using r9
  have hsub : ∀ b ∈ f1 ++ f3, b ∈ fps := fun b hb => by
    rw [hf']
    rcases List.mem_append.1 hb with h | h
    · exact List.mem_append_left _ h
    · exact List.mem_append_right _ (List.mem_append_right _ h)
  have hnd := hs.nd
  rw [hf', List.nodup_append] at hnd
  obtain ⟨n1, n2, n3⟩ := hnd
  rw [List.nodup_append] at n2
  have hf2 : ∀ b ∈ f2, b ∈ fps := fun b hb => by rw [hf']; exact List.mem_append_right _ (List.mem_append_left _ hb)
  refine ⟨im', f1 ++ f3, ⟨hs.dfr, hs.sz, ?_, HR_frz hi hkey _ _ hrest, ?_, fun b hb => hs.lt b (hsub b hb), ?_, fun b hb => hs.mine b (hsub b hb), hs.gn, hs.gl, ?_, hs.kp, hs.kn, hs.g0, fun t b h => .inl (hs.i0 t b h), ?_⟩⟩
  · intro t y hy
    obtain ⟨x, hx, rfl⟩ := look_frzF hy
    exact RA_frz hi hkey x _ [] (hs.fr t x hx)
  · rw [List.nodup_append]
    exact ⟨n1, n2.2.1, fun x hx y hy => n3 x hx y (List.mem_append_right _ hy)⟩
  · intro b hb t ht
    rcases ht with ht | ⟨_, ht⟩
    · exact hs.ni b (hsub b hb) t ht
    · rcases List.mem_append.1 hb with h | h
      · exact n3 b h b (List.mem_append_left _ ht) rfl
      · exact n2.2.2 b ht b h rfl
  · intro t b ht
    rcases ht with ht | ⟨_, ht⟩
    · exact hs.il t b ht
    · exact hs.lt b (hf2 b ht)
  · intro t b h1 h2
    rcases h2 with h2 | ⟨h2, _⟩
    · exact hs.i1 t b h1 h2
    · omega
section
variable {E : Env} {l rest : List Oper} {fr : List (Nat × AV)} {hp : List (Nat × Ob)} {nx : Nat} {Q : Exit → AS → Prop}
theorem al_freeze (id T : Nat) (hT : Nat.ble 100 T = true) {ty e : Nat} {xs : List CV} (hl : look id hp = some (.arr ty e xs)) (kk : AL E l rest ⟨frzF id T e xs fr, frzO id T e xs (del id hp), nx⟩ Q) : AL E l rest ⟨fr, hp, nx⟩ Q := fun g _ a w h => by
  obtain ⟨im', h'⟩ := sim_freeze id T hT hl h
  exact kk g im' a w h'
theorem awp_freeze {c : Code} (id T : Nat) (hT : Nat.ble 100 T = true) {ty e : Nat} {xs : List CV} (hl : look id hp = some (.arr ty e xs)) (kk : AWP E c ⟨frzF id T e xs fr, frzO id T e xs (del id hp), nx⟩ Q) : AWP E c ⟨fr, hp, nx⟩ Q := fun g _ a w h => by
  obtain ⟨im', h'⟩ := sim_freeze id T hT hl h
  exact kk g im' a w h'
end
end Go.Proofs.Ythmgfgiaagkdeaa
/- The engine: two structs of numbers are compared. -/
namespace Go.Proofs.Ythmgfgiaagkdeaa
open Go.RowKit
def ih (l : List Int) : List HV := l.map fun n => HV.c (.int .i64 n)
end Go.Proofs.Ythmgfgiaagkdeaa
/- The engine: a plain row of the call's own is only read from here on. -/
namespace Go.Proofs.Ythmgfgiaagkdeaa
open Go.RowKit
def HV.fz (id T e : Nat) (xs : List CV) : HV → HV
  | .sl j 0 n => bif Nat.beq j id then .c (.rd T n xs) else .sl j 0 n
  | .sl j (i + 1) n => bif Nat.beq j id then .c (.rd T n (CV.brws T (xs.drop ((i + 1) * e)))) else .sl j (i + 1) n
  | .c x => .c x
  | .sw j i n => .sw j i n
  | .ptr j o => .ptr j o
  | .rp t ys => .rp t ys
def HV.fzs (id T e : Nat) (xs : List CV) : List HV → List HV
  | [] => []
  | y :: ys => y.fz id T e xs :: HV.fzs id T e xs ys
mutual
def AV.fz (id T e : Nat) (xs : List CV) : AV → AV
  | .h x => .h (x.fz id T e xs)
  | .agg ys => .agg (HV.fzs id T e xs ys)
  | .tup ys => .tup (AV.fzs id T e xs ys)
  | .top => .top
def AV.fzs (id T e : Nat) (xs : List CV) : List AV → List AV
  | [] => []
  | y :: ys => y.fz id T e xs :: AV.fzs id T e xs ys
end
def Ob.fz (id T e : Nat) (xs : List CV) : Ob → Ob
  | .arr ty e' ys => .arr ty e' ys
  | .box ty ys => .box ty (HV.fzs id T e xs ys)
  | .hrr ty e' ys => .hrr ty e' (HV.fzs id T e xs ys)
def fzF (id T e : Nat) (xs : List CV) : List (Nat × AV) → List (Nat × AV)
  | [] => []
  | (d, x) :: r => (d, x.fz id T e xs) :: fzF id T e xs r
def fzO (id T e : Nat) (xs : List CV) : List (Nat × Ob) → List (Nat × Ob)
  | [] => []
  | (d, x) :: r => (d, x.fz id T e xs) :: fzO id T e xs r
section
variable {id T e : Nat} {xs : List CV}
theorem HV.fz_eq (hb : CV.brws T xs = xs) (x : HV) : x.frz id T e xs = x.fz id T e xs := by
  cases x with
  | sl j i n =>
    cases i with
    | zero => simp only [HV.frz, HV.fz, Nat.zero_mul, List.drop_zero, hb]
    | succ i => rfl
  | _ => rfl
theorem HV.fzs_eq (hb : CV.brws T xs = xs) : ∀ ys : List HV, HV.frzs id T e xs ys = HV.fzs id T e xs ys
  | [] => rfl
  | y :: ys => by simp only [HV.frzs, HV.fzs, HV.fz_eq hb, HV.fzs_eq hb ys]
mutual
theorem AV.fz_eq (hb : CV.brws T xs = xs) : ∀ x : AV, x.frz id T e xs = x.fz id T e xs
  | .h x => by simp only [AV.frz, AV.fz, HV.fz_eq hb]
  | .agg ys => by simp only [AV.frz, AV.fz, HV.fzs_eq hb]
  | .tup ys => by simp only [AV.frz, AV.fz, AV.fzs_eq hb ys]
  | .top => by simp only [AV.frz, AV.fz]
theorem AV.fzs_eq (hb : CV.brws T xs = xs) : ∀ ys : List AV, AV.frzs id T e xs ys = AV.fzs id T e xs ys
  | [] => by simp only [AV.frzs, AV.fzs]
  | y :: ys => by simp only [AV.frzs, AV.fzs, AV.fz_eq hb y, AV.fzs_eq hb ys]
end
theorem fzF_eq (hb : CV.brws T xs = xs) : ∀ fr : List (Nat × AV), frzF id T e xs fr = fzF id T e xs fr
  | [] => rfl
  | (d, x) :: r => by simp only [frzF, fzF, AV.fz_eq hb, fzF_eq hb r]
theorem fzO_eq (hb : CV.brws T xs = xs) : ∀ hp : List (Nat × Ob), frzO id T e xs hp = fzO id T e xs hp
  | [] => rfl
  | (d, x) :: r => by
    have : x.frz id T e xs = x.fz id T e xs := by
      cases x with
      | arr => rfl
      | box ty ys => simp only [Ob.frz, Ob.fz, HV.fzs_eq hb]
      | hrr ty e' ys => simp only [Ob.frz, Ob.fz, HV.fzs_eq hb]
    simp only [frzO, fzO, this, fzO_eq hb r]
end
section
variable {E : Env} {l rest : List Oper} {fr : List (Nat × AV)} {hp : List (Nat × Ob)} {nx : Nat} {Q : Exit → AS → Prop}
theorem al_frz (id T : Nat) (hT : Nat.ble 100 T = true) {ty e : Nat} {xs : List CV} (hl : look id hp = some (.arr ty e xs)) (hb : Plain xs) (kk : AL E l rest ⟨fzF id T e xs fr, fzO id T e xs (del id hp), nx⟩ Q) : AL E l rest ⟨fr, hp, nx⟩ Q := by
  refine al_freeze id T hT hl ?_
  rw [fzF_eq (hb T), fzO_eq (hb T)]
  exact kk
theorem awp_frz {c : Code} (id T : Nat) (hT : Nat.ble 100 T = true) {ty e : Nat} {xs : List CV} (hl : look id hp = some (.arr ty e xs)) (hb : Plain xs) (kk : AWP E c ⟨fzF id T e xs fr, fzO id T e xs (del id hp), nx⟩ Q) : AWP E c ⟨fr, hp, nx⟩ Q := by
  refine awp_freeze id T hT hl ?_
  rw [fzF_eq (hb T), fzO_eq (hb T)]
  exact kk
end
end Go.Proofs.Ythmgfgiaagkdeaa
/- The engine: more rules for regions that draw. -/
namespace Go.Proofs.Ythmgfgiaagkdeaa
open Go.RowKit
section
variable {E : Env} {l rest : List Oper} {fr : List (Nat × AV)} {hp : List (Nat × Ob)} {nx : Nat} {o : Oper} {Q : Exit → AS → Prop} {d : Nat}
variable {cert : CT} {nr : Nat} {os ms : List Nat} {fl : Bool} {k : AS → Prop} {i : Nat} {oi : Oper} {s : AS}
/-- What only reads, where it is alone. -/
theorem d2PS {x : AV} (hi : nth l i = some oi) (h : PS E none true ⟨fr, hp, nx⟩ oi.op x) (hg : gdv l ⟨fr, hp, nx⟩ oi = some true) (hd : oi.dst = some d) (hn : Nat.blt d E.nt = true) (kk : AH E l cert nr os ms false ⟨(d, x) :: fr, hp, nx⟩ k) : AH E l (CT.cons (i, false) cert) nr os ms fl ⟨fr, hp, nx⟩ k :=
  ah_es (m := []) hi (es_of_ps (Q := fun s' => s' = AS.put ⟨fr, hp, nx⟩ d x) h (dok_of hd hn) (by rw [putd_of hd])) hg rfl (fun s' h => by rw [h]; exact Nat.le_refl _) fun s' h => by rw [h]; exact kk
/-- A store into element m of a row of the call's own, from its cell c on. -/
theorem dStR {α : Type} {f : α → List CV} {t : TypeId} {x y : Operand} {id off : Nat} {v : AV} {ty e : Nat} {L : List α} {inf : TInf} (m c : Nat) (a' : α) (ys : List CV) (hi : nth l i = some oi) (ho : oi.op = .store t x y) (hx : AS.eval ⟨fr, hp, nx⟩ x = some (.h (.ptr id off))) (hy : AS.eval ⟨fr, hp, nx⟩ y = some v) (hv : cellsA v = some (ys.map HV.c))
    (hl : look id hp = some (.arr ty e (rows f L))) (ht : look t E.te = some inf) (hsz : Nat.beq ys.length inf.sz = true) (hg : gdv l ⟨fr, hp, nx⟩ oi = some true) (hd : oi.dst = none) (hm : [id].all (fun id => ms.contains id || Nat.ble nr id) = true) (hf : ∀ a, (f a).length = e) (hoff : off = m * e + c) (hc : Nat.ble (c + ys.length) e = true)
    (hlt : m < L.length) (ha : setL (f L[m]) c ys = f a') (kk : AH E l cert nr os ms false ⟨fr, upd id (.arr ty e (rows f (L.set m a'))) hp, nx⟩ k) : AH E l (CT.cons (i, false) cert) nr os ms fl ⟨fr, hp, nx⟩ k := by
  have hc' := Nat.le_of_ble_eq_true hc
  refine dE hi (eSta (zs := rows f (L.set m a')) ys ho hx hy hv hl ht hsz hd ?_ ?_) hg hm (Nat.ble_eq_true_of_le (Nat.le_refl _)) kk
  · rw [rows_length hf, hoff]
    calc m * e + c + ys.length = m * e + (c + ys.length) := by omega
      _ ≤ m * e + e := by omega
      _ = (m + 1) * e := by rw [Nat.succ_mul]
      _ ≤ L.length * e := Nat.mul_le_mul_right _ hlt
  · rw [hoff]; exact rows_setf hf hlt hc' ha
end
section
variable {E : Env} {l : List Oper} {fr : List (Nat × AV)} {hp : List (Nat × Ob)} {nx d : Nat} {cert : List (Nat × Bool)} {W : List Nat} {nr : Nat} {os ms os0 ms0 : List Nat} {early fl : Bool} {s : AS} {k : AS → Prop} {i : Nat} {oi : Oper}
theorem uBuild {t : TypeId} {parts : Array (Nat × Operand)} {fs : List (Nat × Nat)} {sz b' : Nat} {zs : List CV} {cs : List HV} (hi : nth l i = some oi) (ho : oi.op = .build t parts) (ht : look t E.te = some ⟨.struct fs, sz, b', zs⟩) (hlay : lay (plc E.te fs) ⟨fr, hp, nx⟩ (zs.map HV.c) parts.toList = some cs)
    (hg : gdv l ⟨fr, hp, nx⟩ oi = some true) (hd : oi.dst = some d) (hn : Nat.blt d E.nt = true) (kk : AH2 E l cert W nr os ms os0 ms0 early fl ⟨(d, .agg cs) :: fr, hp, nx⟩ k) : AH2 E l ((i, true) :: cert) W nr os ms os0 ms0 early fl ⟨fr, hp, nx⟩ k :=
  uPS hi (by rw [ho]; exact ps_build E.hte ht hlay) hg hd hn kk
/-- A load of a variable that a late writer will write. -/
theorem u1D {x : AV} (D : List Nat) (hi : nth l i = some oi) (h : aev E.te (some os0) fl ⟨fr, hp, nx⟩ oi.op = some x) (hg : gdv l ⟨fr, hp, nx⟩ oi = some true) (hd : oi.dst = some d) (hn : Nat.blt d E.nt = true) (hD : depOk .any l.toArray D i = true) (hW : W.all (fun j => D.contains j) = true) (hDc : D.all (fun d => d == i || cert.any (fun p => p.1 == d)) = true)
    (kk : AH2 E l cert W nr os ms os0 ms0 true fl ⟨(d, x) :: fr, hp, nx⟩ k) : AH2 E l ((i, true) :: cert) W nr os ms os0 ms0 true fl ⟨fr, hp, nx⟩ k :=
  ah2_psD D hi (ps_of_aev E.hte h) hg (dok_of hd hn) hD hW hDc (by rw [putd_of hd]; exact kk)
end
end Go.Proofs.Ythmgfgiaagkdeaa
/- The engine, part zf: rows of rows of the call's own: opening a row, closing it; the greater of two numbers. -/
namespace Go.Proofs.Ythmgfgiaagkdeaa
open Go.RowKit
attribute [local irreducible] AWP AL XT AC ES PS AH AH2
def RLH (g : Ga) (im : Im) (w : World) (b : Nat) : List HV → Nat → List Nat → Prop
  | [], _, fp => fp = []
  | x :: xs, o, fp => ∃ u f1 f2, fp = f1 ++ f2 ∧ w.cell? ⟨b, o, none⟩ = some u ∧ RH g im w x u f1 ∧ RLH g im w b xs (o + 1) f2
theorem RLH_of {g : Ga} {im : Im} {w : World} {b : Nat} : ∀ (xs : List HV) (us : List Value) (o : Nat) (f : List Nat), RHs g im w xs us f → (∀ j u, us[j]? = some u → w.cell? ⟨b, o + j, none⟩ = some u) → RLH g im w b xs o f
  | [], us, o, f, h, _ => h.2
  | x :: xs, us, o, f, h, hc => by
    obtain ⟨v, vs', f1, f2, rfl, rfl, h1, h2⟩ := h
    refine ⟨v, f1, f2, rfl, by simpa using hc 0 v rfl, h1, RLH_of xs vs' (o + 1) f2 h2 fun j u hj => ?_⟩
    have := hc (j + 1) u (by simpa using hj)
    simpa [Nat.add_assoc, Nat.add_comm 1] using this
theorem RLH_to {g : Ga} {im : Im} {w : World} {b : Nat} : ∀ (xs : List HV) (o : Nat) (f : List Nat), RLH g im w b xs o f → ∃ us, RHs g im w xs us f ∧ ∀ j u, us[j]? = some u → w.cell? ⟨b, o + j, none⟩ = some u
  | [], o, f, h => ⟨[], ⟨rfl, h⟩, by simp⟩
  | x :: xs, o, f, h => by
    obtain ⟨u, f1, f2, rfl, h4, h5, h6⟩ := h
    obtain ⟨us, h1, h2⟩ := RLH_to xs (o + 1) f2 h6
    refine ⟨u :: us, ⟨u, us, f1, f2, rfl, rfl, h5, h1⟩, ?_⟩
    intro j v hj
    cases j with
    | zero => simp at hj; subst hj; exact h4
    | succ j => have := h2 j v (by simpa using hj); simpa [Nat.add_assoc, Nat.add_comm 1] using this
theorem RLH_map {g : Ga} {im : Im} {w : World} {b : Nat} : ∀ (xs : List CV) (o : Nat) (f : List Nat), RLH g im w b (xs.map HV.c) o f ↔ RL im w b xs o f
  | [], o, f => by simp only [List.map_nil, RLH, RL]
  | x :: xs, o, f => by
    simp only [List.map_cons, RLH, RL, RH]
    constructor
    · rintro ⟨u, f1, f2, h1, h2, h3, h4⟩; exact ⟨u, f1, f2, h1, h2, h3, (RLH_map xs _ _).1 h4⟩
    · rintro ⟨u, f1, f2, h1, h2, h3, h4⟩; exact ⟨u, f1, f2, h1, h2, h3, (RLH_map xs _ _).2 h4⟩
theorem RLH_app {g : Ga} {im : Im} {w : World} {b : Nat} : ∀ (xs ys : List HV) (o : Nat) (f : List Nat), RLH g im w b (xs ++ ys) o f ↔ ∃ f1 f2, f = f1 ++ f2 ∧ RLH g im w b xs o f1 ∧ RLH g im w b ys (o + xs.length) f2
  | [], ys, o, f => ⟨fun h => ⟨[], f, rfl, rfl, by simpa using h⟩, fun ⟨f1, f2, h1, h2, h3⟩ => by simp only [RLH] at h2; subst h2; simpa [h1] using h3⟩
  | x :: xs, ys, o, f => by
    simp only [List.cons_append, RLH, List.length_cons]
    constructor
    · rintro ⟨u, f1, f2, rfl, h4, h5, h6⟩
      obtain ⟨fa, fb, rfl, ha, hb⟩ := (RLH_app xs ys (o + 1) f2).1 h6
      exact ⟨f1 ++ fa, fb, by simp, ⟨u, f1, fa, rfl, h4, h5, ha⟩, by rw [show o + (xs.length + 1) = o + 1 + xs.length by omega]; exact hb⟩
    · rintro ⟨fa, fb, rfl, ⟨u, f1, f2, rfl, h4, h5, ha⟩, hb⟩
      exact ⟨u, f1, f2 ++ fb, by simp, h4, h5, (RLH_app xs ys (o + 1) (f2 ++ fb)).2 ⟨f2, fb, rfl, ha, by rw [show o + 1 + xs.length = o + (xs.length + 1) by omega]; exact hb⟩⟩
theorem RLH_mono {g g' : Ga} {im : Im} {w : World} {b : Nat} (hg : ∀ i bi, g i = some bi → g' i = some bi) : ∀ (xs : List HV) (o : Nat) (f : List Nat), RLH g im w b xs o f → RLH g' im w b xs o f
  | [], o, f, h => h
  | x :: xs, o, f, h => by
    obtain ⟨u, f1, f2, rfl, h4, h5, h6⟩ := h
    exact ⟨u, f1, f2, rfl, h4, RH_mono hg (fun t b h => ⟨h, rfl⟩) x u f1 (fun _ _ => rfl) h5, RLH_mono hg xs (o + 1) f2 h6⟩
/-- The frame's and the world's description with the same world, other objects. -/
theorem SimF.same {E : Env} {g g' : Ga} {im : Im} {fps fps' : List Nat} {fr : List (Nat × AV)} {hp hp' : List (Nat × Ob)} {nx nx' : Nat} {a : Act} {w : World} (hs : SimF E g im fps ⟨fr, hp, nx⟩ a w) (hg : ∀ i bi, g i = some bi → g' i = some bi) (hhp : HR g' im w hp' fps') (hnd : fps'.Nodup) (hsub : ∀ b ∈ fps', b ∈ fps)
    (hgn : ∀ i, nx' ≤ i → g' i = none) (hgl : ∀ i bi b, g' i = some bi → bi.a = some b → b < w.heap.size) (hnx : nx ≤ nx') (hlow : ∀ i, i < nx → g' i = g i) : SimF E g' im fps' ⟨fr, hp', nx'⟩ a w :=
  ⟨hs.dfr, hs.sz, fun t x hx => RA_mono hg (fun t b h => ⟨h, rfl⟩) x _ [] (fun _ h => by cases h) (hs.fr t x hx), hhp, hnd, fun b hb => hs.lt b (hsub b hb), fun b hb => hs.ni b (hsub b hb), fun b hb => hs.mine b (hsub b hb), hgn, hgl, hs.il, hs.kp, Nat.le_trans hs.kn hnx,
    fun i hi => by rw [hlow i (Nat.lt_of_lt_of_le hi hs.kn)]; exact hs.g0 i hi, hs.i0, hs.i1⟩
/-- A row in a row is opened: it has a name, and its cell holds its handle. -/
theorem sim_open {E : Env} {g : Ga} {im : Im} {fr : List (Nat × AV)} {hp : List (Nat × Ob)} {nx : Nat} {a : Act} {w : World} (id : Nat) {ty e ty' e' n : Nat} {pre post ys : List CV} (hl : look id hp = some (.arr ty e (pre ++ .ow ty' e' n ys :: post))) (h : Sim E g im ⟨fr, hp, nx⟩ a w) :
    ∃ g', Sim E g' im ⟨fr, (nx, .arr ty' e' ys) :: upd id (.hrr ty e (pre.map HV.c ++ .sl nx 0 n :: post.map HV.c)) hp, nx + 1⟩ a w := by
  obtain ⟨fps, hs⟩ := h
  obtain ⟨l1, l2, rfl, hu, _⟩ := look_split hl
  obtain ⟨g1, g2, rfl, q1, q2⟩ := (HR_append _ _ _).1 hs.hp
  obtain ⟨bi, g3, g4, q3, rfl, q5, q6⟩ := q2
  obtain ⟨r1, r2, ⟨r3, r4, r5, r6⟩ | ⟨b, cur, f, r3, r4, r5, r6, r7⟩⟩ := q5
  · exact absurd r4 (by simp)
  have r8 := (RLH_map (g := g) _ _ _).2 r7
  rw [List.map_append, List.map_cons, RLH_app] at r8
  obtain ⟨fa, fc, rfl, s1, s2⟩ := r8
  obtain ⟨u, fo, fb, rfl, s3, s4, s5⟩ := s2
  have key : ∃ bi', RO (gup g nx bi') im w bi' (.arr ty' e' ys) fo ∧ RH (gup g nx bi') im w (.sl nx 0 n) u [] ∧ (∀ b', bi'.a = some b' → b' ∈ fo) := by
    simp only [RH, R] at s4
    rcases s4 with ⟨t1, t2, t3, t4⟩ | ⟨b', c', cur', f', t1, t2, t3, t4, t5, t6, t7⟩
    · refine ⟨⟨none, 0, ty', e'⟩, ⟨rfl, rfl, .inl ⟨rfl, t3, rfl, t4⟩⟩, ⟨rfl, ⟨none, 0, ty', e'⟩, by simp [gup], by simp [t2], Nat.zero_le _, by rw [t1, t2]; rfl⟩, fun b' hb => by cases hb⟩
    · refine ⟨⟨some b', c', ty', e'⟩, ⟨rfl, rfl, .inr ⟨b', cur', f', rfl, t6, t4, t5, t7⟩⟩, ⟨rfl, ⟨some b', c', ty', e'⟩, by simp [gup], by simpa using t2, t3, by rw [t1]; simp [slv]⟩, fun b'' hb => by
        injection hb with hb; subst hb; rw [t6]; exact List.mem_cons_self⟩
  obtain ⟨bi', k1, k2, k3⟩ := key
  have hg := gup_old (bi := bi') hs.gn
  have hperm : (fo ++ (g1 ++ ((b :: (fa ++ fb)) ++ g4))).Perm (g1 ++ (g3 ++ g4)) := by
    rw [r4]
    exact List.perm_iff_count.2 fun x => by simp only [List.count_append, List.count_cons]; omega
  have hmem : ∀ c, c ∈ fo ++ (g1 ++ ((b :: (fa ++ fb)) ++ g4)) → c ∈ g1 ++ (g3 ++ g4) := fun c hc => hperm.mem_iff.1 hc
  refine ⟨gup g nx bi', _, hs.same hg (fps' := fo ++ (g1 ++ ((b :: (fa ++ fb)) ++ g4))) ?_ (hperm.nodup_iff.2 hs.nd) hmem ?_ ?_ (Nat.le_succ _) ?_⟩
  · refine ⟨bi', fo, _, by simp [gup], rfl, k1, ?_⟩
    rw [hu]
    refine (HR_append _ _ _).2 ⟨g1, _, rfl, HR_mono hg (fun t b h => ⟨h, rfl⟩) _ _ (fun _ _ => rfl) q1, bi, b :: (fa ++ fb), g4, hg _ _ q3, rfl, ?_, HR_mono hg (fun t b h => ⟨h, rfl⟩) _ _ (fun _ _ => rfl) q6⟩
    have hR : RLH (gup g nx bi') im w b (pre.map HV.c ++ .sl nx 0 n :: post.map HV.c) 0 (fa ++ fb) := by
      refine (RLH_app _ _ _ _).2 ⟨fa, fb, rfl, RLH_mono hg _ _ _ s1, u, [], fb, rfl, s3, k2, RLH_mono hg _ _ _ s5⟩
    obtain ⟨us, v1, v2⟩ := RLH_to _ _ _ hR
    exact ⟨r1, r2, .inr ⟨b, cur, fa ++ fb, us, r3, rfl, r5, r6, v1, fun j u hj => by simpa using v2 j u hj⟩⟩
  · intro i hi
    simp only [gup]
    rw [if_neg (by omega)]
    exact hs.gn i (by simp only; omega)
  · intro i bi2 b2 h1 h2
    simp only [gup] at h1
    split at h1
    · injection h1 with h1
      subst h1
      exact hs.lt _ (hmem _ (List.mem_append_left _ (k3 _ h2)))
    · exact hs.gl i bi2 b2 h1 h2
  · intro i hi
    simp only [gup]
    rw [if_neg (by omega)]
section
variable {E : Env} {te : TE} {os : Option (List Nat)} {fl : Bool} {s : AS}
theorem ps_ixh {t e : Nat} {sz b' : Nat} {zs : List CV} {x ix : Operand} {id j n : Nat} {ty e' : Nat} {xs : List HV} {i : Int} {inf : TInf} (k : Nat) (hte : teOk E.P te = true)
    (hx : s.eval x = some (.h (.sl id j n))) (hi : s.eval ix = some (.h (.c (.int .i64 i)))) (hk : i = (k : Int)) (hn : k < n) (ht : look t te = some ⟨.slice e, sz, b', zs⟩) (he : look e te = some inf)
    (ho : look id s.hp = some (.hrr ty e' xs)) (hes : e' = inf.sz) : PS E os fl s (.indexAddr t x ix) (.h (.ptr id ((j + k) * inf.sz))) := by
  unfold PS
  intro g im ac w M n0 ⟨fps, hs⟩ hI
  have hv := hs.eval hx
  have e2 := RA_int (hs.eval hi)
  simp only [RA, RH] at hv
  obtain ⟨_, bi, hg, h3, h4, e1⟩ := hv
  subst hk hes
  obtain ⟨bi', f1, f2, f3, hg', hf, hro⟩ := look_HR hs.hp ho
  obtain rfl : bi = bi' := by rw [hg] at hg'; exact Option.some.inj hg'
  obtain ⟨h5, h6, ⟨_, _, h8, _⟩ | ⟨b, cur, f, us, h7, _⟩⟩ := hro
  · omega
  · refine ⟨.pointer (some ⟨b, (j + k) * inf.sz, none⟩), ?_, fun w' _ oo ho => ?_⟩
    · simp only [RA, RH]
      exact ⟨trivial, bi, b, hg, h7, rfl⟩
    · have hu := slice_und hte ht
      have hs' := size_of hte he w'
      rw [h7, h6] at e1
      simp [execOp, ho, e1, slv, e2, Instr.indexAt, asIntOf, run_underlying hu, hs', hn, addr_add, Nat.add_mul]
theorem RHs_drop_get {g : Ga} {im : Im} {w : World} (xs : List HV) (us : List Value) (f : List Nat) (o : Nat) (h : RHs g im w xs us f) : ∃ f', RHs g im w (xs.drop o) (us.drop o) f' := by
  induction o generalizing xs us f with
  | zero => exact ⟨f, by simpa using h⟩
  | succ o ih =>
    cases xs with
    | nil => obtain ⟨rfl, rfl⟩ := h; exact ⟨[], by simp [RHs]⟩
    | cons x xs =>
      obtain ⟨v, vs', f1, f2, rfl, rfl, h1, h2⟩ := h
      obtain ⟨f', h3⟩ := ih xs vs' f2 h2
      exact ⟨f', by simpa using h3⟩
theorem ps_ldh {t : Nat} {x : Operand} {id o : Nat} {ty e : Nat} {xs zs : List HV} {inf : TInf} {v : AV} (hte : teOk E.P te = true)
    (hx : s.eval x = some (.h (.ptr id o))) (ho : look id s.hp = some (.hrr ty e xs)) (hl : look t te = some inf) (hid : okid os id = true) (hd : xs.drop o = zs)
    (h : loadH inf zs = some v) : PS E os fl s (.load t x) v := by
  unfold PS
  intro g im ac w M n0 ⟨fps, hs⟩ hI
  have hv := hs.eval hx
  simp only [RA, RH] at hv
  obtain ⟨_, bi, b, hg, hba, e1⟩ := hv
  obtain ⟨bi', f1, f2, f3, hg', hf, hro⟩ := look_HR hs.hp ho
  obtain rfl : bi = bi' := by rw [hg] at hg'; exact Option.some.inj hg'
  obtain ⟨h5, h6, ⟨h7, _⟩ | ⟨b', cur, f, us, h7, rfl, h9, h10, h11, h12⟩⟩ := hro
  · rw [hba] at h7; cases h7
  · obtain rfl : b = b' := by rw [hba] at h7; exact Option.some.inj h7
    obtain ⟨f', hr'⟩ := RHs_drop_get xs us f o h11
    rw [hd] at hr'
    obtain ⟨h1, h2⟩ := loadH_RA (teOk_look hte hl).one h hr'
    refine ⟨_, h2, fun w' hw' oo ho' => ?_⟩
    have hsame := hw' b (hI.old id hid bi b hg hba).1 (hI.old id hid bi b hg hba).2
    have hrun := run_load_cells (P := E.P) hte hl w' b o ((us.drop o).take inf.sz) h1 (fun j u hu => by
      rw [cell_of_same hsame]
      rw [List.getElem?_take] at hu
      split at hu
      · rw [List.getElem?_drop] at hu
        exact h12 _ u hu
      · cases hu)
    simp only [execOp, ho', e1, Sem.run_bind, hrun, Result.andThen_ok, Sem.run_pure]
end
end Go.Proofs.Ythmgfgiaagkdeaa
/- The engine, part zg: append to a part of a row; the greater of two numbers; rows of rows. -/
namespace Go.Proofs.Ythmgfgiaagkdeaa
open Go.RowKit
attribute [local irreducible] AWP AL XT AC AH AH2
set_option maxHeartbeats 1000000 in
theorem app_tail {E : Env} {g : Ga} {im : Im} {fps : List Nat} {s : AS} {a : Act} {w : World} (hs : SimF E g im fps s a w) {e n m : Nat} {inf : TInf} {xs ys : List CV} {us ns : List Value} {fx fr f0 fy f1 : List Nat} {hp1 : List (Nat × Ob)} {V V' : Value} {w' : World}
    (hrx : RHs g im w (xs.map HV.c) us fx) (hn0 : (fr ++ f0).Nodup) (hs0 : ∀ b ∈ fr ++ f0, b ∈ fps) (hfx : fx.Sublist fr) (hob : ∀ b, V.ownBlock = some b → fr = b :: fx)
    (hry : RHs g im w (ys.map HV.c) ns fy) (hh1 : HR g im w hp1 f1) (hn1 : (fy ++ f1).Nodup) (hs1 : ∀ b ∈ fy ++ f1, b ∈ f0)
    (hlx : xs.length = n * inf.sz) (hly : ys.length = m * inf.sz)
    (hown' : w'.ownsRow 0 e inf.sz V' (n + m) (us ++ ns)) (hgb : w.grownBy w' V.ownBlock) (hblk : V'.ownBlock = V.ownBlock ∨ V'.ownBlock = some w.heap.size) :
    ∃ bi f', bi.e = inf.sz ∧ n + m ≤ bi.cap ∧ bi.cap ≤ maxLen ∧ V' = slv bi.a (0 * bi.e) (n + m) (bi.cap - 0) ∧ SimF E (gup g s.nx bi) im (f' ++ f1) { fr := s.fr, hp := (s.nx, .arr e inf.sz (xs ++ ys)) :: hp1, nx := s.nx + 1 } a w' ∧ Chg g (gup g s.nx bi) im im w w' s.nx (fun b => V.ownBlock = some b) := by
  -- the new object
  have hdis := (List.nodup_append.1 hn0).2.2
  have hfr : ∀ b ∈ fr, b ∈ fps := fun b hb => hs0 b (List.mem_append_left _ hb)
  have hf1 : ∀ b ∈ fy ++ f1, b ∈ fps := fun b hb => hs0 b (List.mem_append_right _ (hs1 b hb))
  have hk : ∀ b, b < w.heap.size → V.ownBlock ≠ some b → w'.heap[b]? = w.heap[b]? := fun b h1 h2 => hgb.block b h1 (fun e => h2 e.symm)
  have hob1 : ∀ b, V.ownBlock = some b → b ∈ fr := fun b h => by rw [hob b h]; exact List.mem_cons_self
  have hnfr := (List.nodup_append.1 hn0).1
  have hxk : ∀ b ∈ fx, w'.heap[b]? = w.heap[b]? := fun b hb => hk b (hs.lt b (hfr b (hfx.subset hb))) fun e => by
    rw [hob b e, List.nodup_cons] at hnfr
    exact hnfr.1 hb
  have hyk : ∀ b ∈ fy, w'.heap[b]? = w.heap[b]? := fun b hb => hk b (hs.lt b (hf1 b (List.mem_append_left _ hb))) fun e => hdis b (hob1 b e) b (hs1 b (List.mem_append_left _ hb)) rfl
  have hik : ∀ t b, im t b → im t b ∧ w'.heap[b]? = w.heap[b]? := fun t b h => ⟨h, hk b (hs.il t b h) fun e => hs.ni b (hfr b (hob1 b e)) t h⟩
  have hrx' := RHs_mono (fun _ _ h => h) hik _ _ _ hxk hrx
  have hry' := RHs_mono (fun _ _ h => h) hik _ _ _ hyk hry
  have hall : RHs g im w' ((xs ++ ys).map HV.c) (us ++ ns) (fx ++ fy) := by rw [List.map_append]; exact RHs_append _ _ _ _ _ _ hrx' hry'
  have hnxy : (fx ++ fy).Nodup := by
    rw [List.nodup_append]
    exact ⟨hnfr.sublist hfx, (List.nodup_append.1 hn1).1, fun a ha b hb e => hdis a (hfx.subset ha) b (hs1 b (List.mem_append_left _ hb)) e⟩
  -- which block
  have hbix : ∃ bi : BI, bi.ty = e ∧ bi.e = inf.sz ∧ n + m ≤ bi.cap ∧ bi.cap ≤ maxLen ∧ V' = slv bi.a (0 * bi.e) (n + m) (bi.cap - 0) ∧ bi.a = V'.ownBlock ∧
      ((bi.a = none ∧ xs ++ ys = [] ∧ bi.cap = 0 ∧ fx ++ fy = []) ∨ ∃ b cur, bi.a = some b ∧ w'.heap[b]? = some (.cells cur e (0, 0)) ∧ cur.size = bi.cap * inf.sz ∧ RL im w' b (xs ++ ys) 0 (fx ++ fy)) := by
    obtain ⟨h1, ⟨rfl, h2⟩ | ⟨b, cap, cur, rfl, _, h3, h4, h5, h6, h7⟩⟩ := hown'
    · refine ⟨⟨none, 0, e, inf.sz⟩, rfl, rfl, by simp; omega, Nat.zero_le _, by rw [h2]; rfl, rfl, .inl ⟨rfl, ?_, rfl, ?_⟩⟩
      · have : (xs ++ ys).length = 0 := by
          rw [List.length_append, hlx, hly]
          have hn0' : n = 0 := by omega
          have hm0' : m = 0 := by omega
          rw [hn0', hm0']
          simp
        exact List.eq_nil_of_length_eq_zero this
      · have e0 : us ++ ns = [] := List.eq_nil_of_length_eq_zero (by rw [h1, h2, Nat.zero_mul])
        have : (xs ++ ys).map HV.c = [] := by
          have := RHs_length _ _ _ hall
          rw [e0] at this
          exact List.eq_nil_of_length_eq_zero this.symm
        rw [this, e0] at hall
        exact hall.2
    · refine ⟨⟨some b, cap, e, inf.sz⟩, rfl, rfl, h4, h5, by simp [slv], rfl, .inr ⟨b, cur, rfl, h3, h6, RHs_RL _ _ 0 _ hall fun j u hj => ?_⟩⟩
      rw [Nat.zero_add, cell_of_row w' b j cur e (0, 0) h3, ← Array.getElem?_toList]
      rw [← h7, List.getElem?_take] at hj
      split at hj
      · exact hj
      · cases hj
  obtain ⟨bi, hty, hes, hcap, hmx, hv', hba, hro⟩ := hbix
  have hszle := hgb.size
  have hblt : ∀ b, bi.a = some b → b < w'.heap.size := by
    intro b hb
    rcases hro with ⟨h, _⟩ | ⟨b', cur, h1, h2, _⟩
    · rw [hb] at h; cases h
    · rw [hb] at h1
      injection h1 with h1
      subst h1
      exact (Array.getElem?_eq_some_iff.1 h2).1
  have hwhere : ∀ b, bi.a = some b → V.ownBlock = some b ∨ w.heap.size = b := by
    intro b hb
    rw [hba] at hb
    rcases hblk with h | h
    · left; rw [← h]; exact hb
    · right; rw [h] at hb; injection hb
  -- the footprint
  have hperm : ∀ c ∈ (fr ++ fy) ++ f1, c ∈ fps := by
    intro c hc
    rcases List.mem_append.1 hc with hc | hc
    · rcases List.mem_append.1 hc with hc | hc
      · exact hfr c hc
      · exact hf1 c (List.mem_append_left _ hc)
    · exact hf1 c (List.mem_append_right _ hc)
  have hnn : ((fr ++ fy) ++ f1).Nodup := by
    rw [List.append_assoc, List.nodup_append]
    exact ⟨hnfr, hn1, fun a ha b hb e => hdis a ha b (hs1 b hb) e⟩
  let f' : List Nat := match bi.a with | some b => b :: (fx ++ fy) | none => []
  have hro' : RO (gup g s.nx bi) im w' bi (.arr e inf.sz (xs ++ ys)) f' := by
    refine ⟨hty, hes, ?_⟩
    rcases hro with ⟨h1, h2, h3, h4⟩ | ⟨b, cur, h1, h2, h3, h4⟩
    · left; exact ⟨h1, h2, h3, by simp only [f', h1]⟩
    · right; exact ⟨b, cur, fx ++ fy, h1, by simp only [f', h1], h2, h3, h4⟩
  have hnf' : f'.Nodup := by
    simp only [f']
    split
    · rename_i b hb
      rw [List.nodup_cons]
      refine ⟨fun hm => ?_, hnxy⟩
      rcases hwhere b hb with h | h
      · rcases List.mem_append.1 hm with hm | hm
        · rw [hob b h, List.nodup_cons] at hnfr
          exact hnfr.1 hm
        · exact hdis b (hob1 b h) b (hs1 b (List.mem_append_left _ hm)) rfl
      · rcases List.mem_append.1 hm with hm | hm
        · have := hs.lt b (hfr b (hfx.subset hm)); omega
        · have := hs.lt b (hf1 b (List.mem_append_left _ hm)); omega
    · exact List.nodup_nil
  have hf'm : ∀ c ∈ f', c ∈ fr ++ fy ∨ w.heap.size ≤ c := by
    intro c hc
    simp only [f'] at hc
    split at hc
    · rename_i b hb
      rcases List.mem_cons.1 hc with rfl | hc
      · rcases hwhere _ hb with h | h
        · exact .inl (List.mem_append_left _ (hob1 _ h))
        · exact .inr (by omega)
      · rcases List.mem_append.1 hc with hc | hc
        · exact .inl (List.mem_append_left _ (hfx.subset hc))
        · exact .inl (List.mem_append_right _ hc)
    · cases hc
  have hf'l : ∀ c ∈ f', c < w'.heap.size := by
    intro c hc
    rcases hf'm c hc with h | h
    · have := hs.lt c (hperm c (List.mem_append_left _ h)); omega
    · simp only [f'] at hc
      split at hc
      · rename_i b hb
        rcases List.mem_cons.1 hc with rfl | hc
        · exact hblt _ hb
        · rcases List.mem_append.1 hc with hc | hc
          · have := hs.lt c (hfr c (hfx.subset hc)); omega
          · have := hs.lt c (hf1 c (List.mem_append_left _ hc)); omega
      · cases hc
  have hsim := hs.swap (fr := fr ++ fy) (f' := f') (w' := w') hh1 hnn hperm bi (.arr e inf.sz (xs ++ ys)) (fun b h1 h2 => hk b h1 fun e => h2 (List.mem_append_left _ (hob1 b e))) hszle hgb.os hgb.tape hgb.output hnf' hf'm hf'l hblt hro'
  refine ⟨bi, f', hes, hcap, hmx, hv', hsim, Chg.swap hs.gn (fun b hb => ?_) (fun b hb t => hs.ni b (hfr b (hob1 b hb)) t) (fun b hb => ?_) hszle⟩
  · rcases hwhere b hb with h | h
    · exact .inr h
    · exact .inl (by omega)
  · by_cases h : V.ownBlock = some b
    · exact .inl h
    · exact .inr (hk b hb h)
end Go.Proofs.Ythmgfgiaagkdeaa
/- The engine, part zh: stores into rows of rows; rows of rows lent and frozen; the greater of two numbers; numbers without sign. -/
namespace Go.Proofs.Ythmgfgiaagkdeaa
open Go.RowKit
section
variable {E : Env} {te : TE} {s : AS} {o : Oper} {Q : AS → Prop}
/-- A store into a row that holds handles. -/
theorem es_sth {t : TypeId} {x y : Operand} {id off : Nat} {v : AV} {ty e : Nat} {cs ys : List HV} {inf : TInf} (hte : teOk E.P te = true) (hop : o.op = .store t x y) (hx : s.eval x = some (.h (.ptr id off))) (hy : s.eval y = some v) (hv : cellsA v = some ys) (hl : look id s.hp = some (.hrr ty e cs))
    (ht : look t te = some inf) (hsz : ys.length = inf.sz) (hle : off + ys.length ≤ cs.length) (hd : dok E.nt o.dst = true)
    (hQ : Q (({ s with hp := upd id (.hrr ty e (setL cs off ys)) s.hp } : AS).putd o.dst .top)) : ES E s o (some [id]) Q := by
  intro g im a w K QQ ⟨fps, hs⟩ hK
  have hp := hs.eval hx
  simp only [RA, RH] at hp
  obtain ⟨_, bi, b, hg, hb, e1⟩ := hp
  have hus := RA_cells (hs.eval hy) hv
  have hul := RHs_length _ _ _ hus
  obtain ⟨bi', f1, f2, f3, hg', hf, hro⟩ := look_HR hs.hp hl
  obtain rfl : bi = bi' := by rw [hg] at hg'; exact Option.some.inj hg'
  obtain ⟨q1, q2, ⟨q3, _⟩ | ⟨b', cur, f, us0, hb', rfl, hh, hcap, hr0, hc0⟩⟩ := hro
  · rw [q3] at hb; cases hb
  obtain rfl : b = b' := by rw [hb] at hb'; exact Option.some.inj hb'
  have hl0 := RHs_length _ _ _ hr0
  have hcell : ∀ (j : Nat) (u : Value), us0[j]? = some u → cur.toList[j]? = some u := by
    intro j u hj
    have := hc0 j u hj
    rw [cell_of_row _ _ _ cur ty (0, 0) hh] at this
    simpa using this
  have hcl : cs.length ≤ cur.toList.length := by
    rcases Nat.lt_or_ge cur.toList.length cs.length with h | h
    · exfalso
      have hj : cur.toList.length < us0.length := by rw [hl0]; simpa using h
      have := hcell _ _ (List.getElem?_eq_getElem hj)
      rw [List.getElem?_eq_none (Nat.le_refl _)] at this
      cases this
    · exact h
  have hcs : (a.eval y).cells.toList.length = ys.length := by simpa using hul
  have hrun := run_store_var (P := E.P) hte ht hh (v := a.eval y) rfl (by omega) (RHs_one _ _ _ hus) (off := off) (by simp at hcl hcs ⊢; omega)
  have hbf : b ∈ fps := by rw [hf]; exact List.mem_append_right _ (List.mem_append_left _ List.mem_cons_self)
  have hblt := hs.lt b hbf
  generalize hnew : (cur.toList.take off ++ (a.eval y).cells.toList ++ cur.toList.drop (off + (a.eval y).cells.toList.length)) = new at hrun
  have hk : ∀ c, c ≠ b → (w.setRow b new.toArray).heap[c]? = w.heap[c]? := fun c hc => setRow_other w b c _ hc
  obtain ⟨fps', hsim⟩ := hs.upd (ob' := .hrr ty e (setL cs off ys)) hl hg hb hk (by simp) rfl rfl rfl (fun f0 hro0 hf0 hnd0 => by
    obtain ⟨q4, q5, ⟨q6, _⟩ | ⟨b0, cur0, f4, us1, hb0, rfl, hh0, hcap0, hr2, hc2⟩⟩ := hro0
    · rw [q6] at hb; cases hb
    obtain rfl : b = b0 := by rw [hb] at hb0; exact Option.some.inj hb0
    rw [hh] at hh0
    injection hh0 with hh0
    injection hh0 with hh0
    subst hh0
    have hl2 := RHs_length _ _ _ hr2
    obtain ⟨f', hsl, hr'⟩ := RHs_setL (o := off) hr2 hus
    have hlen : new.length = cur.toList.length := by
      rw [← hnew]; simp only [List.length_append, List.length_take, List.length_drop]; omega
    have hr3 := RHs_mono (w' := w.setRow b new.toArray) (fun _ _ h => h) (fun t c hc => ⟨hc, hk c fun e => by subst e; exact (hf0 c List.mem_cons_self).2 t hc⟩) _ _ _ (fun c hc => hk c fun e => by subst e; exact (List.nodup_cons.1 hnd0).1 (hsl.subset hc)) hr'
    refine ⟨b :: f', List.Sublist.cons_cons _ hsl, q4, q5, .inr ⟨b, _, f', _, hb, rfl, setRow_heap w b _ _ ty (0, 0) hh, by rw [← hcap0]; simpa using hlen, hr3, fun j u hj => ?_⟩⟩
    rw [cell_of_row _ _ _ new.toArray ty (0, 0) (setRow_heap w b _ _ ty (0, 0) hh)]
    rw [show (new.toArray)[j]? = new[j]? by simp, ← hnew]
    have hc2' : ∀ (j : Nat) (u : Value), us1[j]? = some u → cur.toList[j]? = some u := by
      intro j u hj
      have := hc2 j u hj
      rw [cell_of_row _ _ _ cur ty (0, 0) hh] at this
      simpa using this
    have e1 := setL_get cur.toList (a.eval y).cells.toList off (by omega) j
    have e2 := setL_get us1 (a.eval y).cells.toList off (by omega) j
    unfold setL at e1 e2
    rw [List.append_assoc, e1]
    rw [List.append_assoc, e2] at hj
    by_cases h1 : j < off
    · rw [if_pos h1] at hj ⊢
      exact hc2' j u hj
    · rw [if_neg h1] at hj ⊢
      by_cases h2 : j < off + (a.eval y).cells.toList.length
      · rw [if_pos h2] at hj ⊢
        exact hj
      · rw [if_neg h2] at hj ⊢
        exact hc2' j u hj)
  unfold Oper.wp
  have : (execOp a.eval o).run E.P w = .ok .skip (w.setRow b new.toArray) := by
    simp only [execOp, hop, e1, Sem.run_bind, hrun, Result.andThen_ok, Sem.run_pure]
  rw [this]
  refine hK g im _ _ _ (· = b) ⟨fps', hsim.putd (dok_lt hd) (by simp only [RA])⟩ hQ (Chg.upd hs (fun t => hs.ni b hbf t) hk (by simp)) ?_
  rintro m hm c rfl
  injection hm with hm
  subst hm
  exact ⟨id, List.mem_cons_self, bi, hg, hb⟩
end
def iow (ti : Nat) {α : Type} (f : α → List CV) (x : List α) : List CV := [.ow ti 1 x.length (rows f x)]
def hopen (ti : Nat) {α : Type} (f : α → List CV) (L : List (List α)) (k : Nat) (h : HV) : List HV := (rows (iow ti f) (L.take k)).map HV.c ++ h :: (rows (iow ti f) (L.drop (k + 1))).map HV.c
section
variable {E : Env} {l rest : List Oper} {fr : List (Nat × AV)} {hp : List (Nat × Ob)} {nx : Nat} {Q : Exit → AS → Prop} {c : Code}
theorem brws_brws (T : Nat) : ∀ xs : List CV, CV.brws T (CV.brws T xs) = CV.brws T xs
  | [] => rfl
  | x :: xs => by
    have : (x.brw T).brw T = x.brw T := by cases x <;> simp [CV.brw]
    simp only [CV.brws, this, brws_brws T xs]
theorem brws_drop (T : Nat) : ∀ (xs : List CV) (k : Nat), CV.brws T (xs.drop k) = (CV.brws T xs).drop k
  | [], k => by simp [CV.brws]
  | x :: xs, 0 => rfl
  | x :: xs, k + 1 => by simpa [CV.brws] using brws_drop T xs k
mutual
theorem CV.gz_eq {id T e : Nat} {xs ys : List CV} (hb : CV.brws T xs = ys) : ∀ x : AV, x.frz id T e xs = x.frz id T e ys
  | .h x => by simp only [AV.frz, HV.gz_eq hb]
  | .agg zs => by simp only [AV.frz, HV.gzs_eq hb]
  | .tup zs => by simp only [AV.frz, AV.gzs_eq hb zs]
  | .top => by simp only [AV.frz]
theorem AV.gzs_eq {id T e : Nat} {xs ys : List CV} (hb : CV.brws T xs = ys) : ∀ x : List AV, AV.frzs id T e xs x = AV.frzs id T e ys x
  | [] => by simp only [AV.frzs]
  | y :: zs => by simp only [AV.frzs, CV.gz_eq hb y, AV.gzs_eq hb zs]
theorem HV.gz_eq {id T e : Nat} {xs ys : List CV} (hb : CV.brws T xs = ys) (x : HV) : x.frz id T e xs = x.frz id T e ys := by
  cases x with
  | sl j i n => simp only [HV.frz, ← hb, brws_drop, brws_brws]
  | _ => rfl
theorem HV.gzs_eq {id T e : Nat} {xs ys : List CV} (hb : CV.brws T xs = ys) : ∀ x : List HV, HV.frzs id T e xs x = HV.frzs id T e ys x
  | [] => rfl
  | y :: zs => by simp only [HV.frzs, HV.gz_eq hb, HV.gzs_eq hb zs]
end
theorem frzF_gz {id T e : Nat} {xs ys : List CV} (hb : CV.brws T xs = ys) : ∀ fr : List (Nat × AV), frzF id T e xs fr = frzF id T e ys fr
  | [] => rfl
  | (d, x) :: r => by simp only [frzF, CV.gz_eq hb, frzF_gz hb r]
theorem frzO_gz {id T e : Nat} {xs ys : List CV} (hb : CV.brws T xs = ys) : ∀ hp : List (Nat × Ob), frzO id T e xs hp = frzO id T e ys hp
  | [] => rfl
  | (d, x) :: r => by
    have : x.frz id T e xs = x.frz id T e ys := by
      cases x with
      | arr => rfl
      | box ty zs => simp only [Ob.frz, HV.gzs_eq hb]
      | hrr ty e' zs => simp only [Ob.frz, HV.gzs_eq hb]
    simp only [frzO, this, frzO_gz hb r]
end
section
variable {E : Env} {te : TE} {os : Option (List Nat)} {fl : Bool} {s : AS}
theorem ps_max {x y : Operand} {ts : Array Nat} {a b : Int} {cc : Callee} (hc : cc = .builtin .max) (hx : s.eval x = some (.h (.c (.int .i64 a)))) (hy : s.eval y = some (.h (.c (.int .i64 b)))) :
    PS E os fl s (.call { callee := cc, args := #[x, y], argTypes := ts }) (.h (.c (.int .i64 (max a b)))) := by
  subst hc
  intro g im ac w M n0 ⟨fps, hs⟩ hI
  have e1 := RA_int (hs.eval hx)
  have e2 := RA_int (hs.eval hy)
  refine ⟨_, RA_mkInt _ _, fun w' _ o ho => ?_⟩
  have : (if b > a then b else a) = max a b := by omega
  simp [execOp, ho, e1, e2, resolve, invoke, builtin, Builtin.max_, Builtin.max2, this]
end
section
variable {E : Env} {l rest : List Oper} {fr : List (Nat × AV)} {hp : List (Nat × Ob)} {nx : Nat} {o : Oper} {Q : Exit → AS → Prop} {d : Nat}
variable {cert : CT} {nr : Nat} {os ms : List Nat} {fl : Bool} {k : AS → Prop} {i : Nat} {oi : Oper}
theorem pMax {x y : Operand} {ts : Array Nat} {a b r : Int} (ho : o.op = .call { callee := .builtin .max, args := #[x, y], argTypes := ts }) (hx : AS.eval ⟨fr, hp, nx⟩ x = some (.h (.c (.int .i64 a)))) (hy : AS.eval ⟨fr, hp, nx⟩ y = some (.h (.c (.int .i64 b))))
    (hg : gdv l ⟨fr, hp, nx⟩ o = some true) (hd : o.dst = some d) (hn : Nat.blt d E.nt = true) (hr : max a b = r) (kk : AL E l rest ⟨(d, .h (.c (.int .i64 r))) :: fr, hp, nx⟩ Q) : AL E l (o :: rest) ⟨fr, hp, nx⟩ Q :=
  al_pd (by rw [ho, ← hr]; exact ps_max rfl hx hy) hg hd hn kk
end
end Go.Proofs.Ythmgfgiaagkdeaa
/- The engine, part zi: what may be told anew where a body ends; nil cells of variables told as owned empty rows. -/
namespace Go.Proofs.Ythmgfgiaagkdeaa
open Go.RowKit
attribute [local irreducible] AWP AL AC ES PS AH AH2
/-- The body's end, told anew as often as one likes. -/
def FinM (E : Env) (te : TE) (k : Nat) (rs : List ResultVar) (rt : List Nat) (Post : AV → List Ob → Prop) : Exit → AS → Prop := fun e s => ∀ g im a w, Sim E g im s a w → Lift E (FinQ te k rs rt Post) e a w
theorem ac_bodyM {P : Program} {te : TE} (hte : teOk P te = true) {f : FuncId} {fn : Func} {c : Code} {nt : Nat} {args : List AV} {hin : List Ob} {rt : List Nat} {Post : AV → List Ob → Prop}
    (hf : P.funcs[f]? = some fn) (hb : fn.body = some c) (hn : (fn.name == "runtime.NumGoroutine") = false) (hnt : fn.ntmps = nt) (hle : Nat.ble args.length nt = true) (hrt : rt.all (fun t => Nat.blt t 100) = true)
    (h : ∀ w0 ps g0 im0, AWP ⟨P, te, hte, nt, w0, ps, hin.length, g0, im0⟩ c (AS.enter args hin) (FinM ⟨P, te, hte, nt, w0, ps, hin.length, g0, im0⟩ te hin.length fn.results.toList rt Post)) : AC P f args hin rt Post := by
  refine ac_body hte hf hb hn hnt hle hrt fun w0 ps g0 im0 => ?_
  have h' := h w0 ps g0 im0
  unfold AWP at h' ⊢
  exact fun g im a w hs => wp_mono (h' g im a w hs) fun _ _ _ ⟨g', im', s', hs', hq⟩ => hq g' im' _ _ hs'
theorem xt_M {E : Env} {te : TE} {k : Nat} {rs : List ResultVar} {rt : List Nat} {Post : AV → List Ob → Prop} {e : Exit} {s : AS} (h : XT e s (FinQ te k rs rt Post)) : XT e s (FinM E te k rs rt Post) := fun g im _ _ hs => ⟨g, im, s, hs, h⟩
theorem xt_Mstep {E : Env} {te : TE} {k : Nat} {rs : List ResultVar} {rt : List Nat} {Post : AV → List Ob → Prop} {e : Exit} {s s' : AS} (hs : ∀ g im a w, Sim E g im s a w → ∃ g' im', Sim E g' im' s' a w) (h : XT e s' (FinM E te k rs rt Post)) : XT e s (FinM E te k rs rt Post) := fun g im a w hh => by
  obtain ⟨g', im', h2⟩ := hs g im a w hh
  exact h g' im' a w h2
theorem sim_nownB {E : Env} {g : Ga} {im : Im} {fr : List (Nat × AV)} {hp : List (Nat × Ob)} {nx : Nat} {a : Act} {w : World} (id ty' e' : Nat) {ty : Nat} {pre post : List HV} (hl : look id hp = some (.box ty (pre ++ .c .nil :: post))) (h : Sim E g im ⟨fr, hp, nx⟩ a w) :
    ∃ g', Sim E g' im ⟨fr, (nx, .arr ty' e' []) :: upd id (.box ty (pre ++ .sl nx 0 0 :: post)) hp, nx + 1⟩ a w := by
  obtain ⟨fps, hs⟩ := h
  obtain ⟨l1, l2, rfl, hu, _⟩ := look_split hl
  obtain ⟨g1, g2, rfl, q1, q2⟩ := (HR_append _ _ _).1 hs.hp
  obtain ⟨bi, g3, g4, q3, rfl, q5, q6⟩ := q2
  have hg := gup_old (bi := ⟨none, 0, ty', e'⟩) hs.gn
  have hm : ∀ {l : List (Nat × Ob)} {f : List Nat}, HR g im w l f → HR (gup g nx ⟨none, 0, ty', e'⟩) im w l f := fun h => HR_mono hg (fun t b h => ⟨h, rfl⟩) _ _ (fun _ _ => rfl) h
  have key : ∀ (pre : List HV) (vs : List Value) (f : List Nat), RHs g im w (pre ++ .c .nil :: post) vs f → RHs (gup g nx ⟨none, 0, ty', e'⟩) im w (pre ++ .sl nx 0 0 :: post) vs f := by
    intro pre
    induction pre with
    | nil =>
      rintro vs f ⟨v, vs', f1, f2, rfl, rfl, h1, h2⟩
      simp only [RH, R] at h1
      refine ⟨v, vs', [], f2, rfl, by rw [h1.2], ?_, RHs_mono hg (fun t b h => ⟨h, rfl⟩) _ _ _ (fun _ _ => rfl) h2⟩
      exact ⟨rfl, ⟨none, 0, ty', e'⟩, by simp [gup], Nat.le_refl _, Nat.zero_le _, by rw [h1.1]; rfl⟩
    | cons x pre ih =>
      rintro vs f ⟨v, vs', f1, f2, rfl, rfl, h1, h2⟩
      exact ⟨v, vs', f1, f2, rfl, rfl, RH_mono hg (fun t b h => ⟨h, rfl⟩) x v f1 (fun _ _ => rfl) h1, ih _ _ h2⟩
  refine ⟨gup g nx ⟨none, 0, ty', e'⟩, _, hs.same hg (fps' := g1 ++ (g3 ++ g4)) ?_ hs.nd (fun _ h => h) ?_ ?_ (Nat.le_succ _) ?_⟩
  · refine ⟨⟨none, 0, ty', e'⟩, [], _, by simp [gup], rfl, ⟨rfl, rfl, .inl ⟨rfl, rfl, rfl, rfl⟩⟩, ?_⟩
    rw [hu]
    refine (HR_append _ _ _).2 ⟨g1, _, rfl, hm q1, bi, g3, g4, hg _ _ q3, rfl, ?_, hm q6⟩
    obtain ⟨b, cs, f, r1, r2, r3, r4⟩ := q5
    exact ⟨b, cs, f, r1, r2, r3, key _ _ _ r4⟩
  · intro i hi
    simp only [gup]
    rw [if_neg (by omega)]
    exact hs.gn i (by simp only; omega)
  · intro i bi2 b2 h1 h2
    simp only [gup] at h1
    split at h1
    · injection h1 with h1
      subst h1
      cases h2
    · exact hs.gl i bi2 b2 h1 h2
  · intro i hi
    simp only [gup]
    rw [if_neg (by omega)]
section
variable {E : Env} {te : TE} {k : Nat} {rs : List ResultVar} {rt : List Nat} {Post : AV → List Ob → Prop} {e : Exit} {fr : List (Nat × AV)} {hp : List (Nat × Ob)} {nx : Nat}
/-- A nil cell of a variable told as an owned empty row. -/
theorem xt_nownB (id ty' e' : Nat) {ty : Nat} {pre post : List HV} (hl : look id hp = some (.box ty (pre ++ .c .nil :: post))) (h : XT e ⟨fr, (nx, .arr ty' e' []) :: upd id (.box ty (pre ++ .sl nx 0 0 :: post)) hp, nx + 1⟩ (FinM E te k rs rt Post)) : XT e ⟨fr, hp, nx⟩ (FinM E te k rs rt Post) :=
  xt_Mstep (fun g im a w hs => by obtain ⟨g', h'⟩ := sim_nownB id ty' e' hl hs; exact ⟨g', im, h'⟩) h
theorem xt_ownM (d ty z : Nat) (hl : look d fr = some (.h (.c .nil))) (h : XT e ⟨(d, .h (.sl nx 0 0)) :: fr, (nx, .arr ty z []) :: hp, nx + 1⟩ (FinM E te k rs rt Post)) : XT e ⟨fr, hp, nx⟩ (FinM E te k rs rt Post) :=
  xt_Mstep (fun g im a w hs => by obtain ⟨g', h'⟩ := sim_nown d ty z hl hs; exact ⟨g', im, h'⟩) h
end
end Go.Proofs.Ythmgfgiaagkdeaa
/- The engine, part zj: further steps. -/
namespace Go.Proofs.Ythmgfgiaagkdeaa
open Go.RowKit
theorem rens_app (f : Nat → Nat) : ∀ xs ys : List HV, HV.rens f (xs ++ ys) = HV.rens f xs ++ HV.rens f ys
  | [], _ => rfl
  | x :: xs, ys => by simp only [List.cons_append, HV.rens, rens_app f xs ys]
theorem rens_mapc (f : Nat → Nat) (xs : List CV) : HV.rens f (xs.map HV.c) = xs.map HV.c := rens_pu _ (by simp [HV.pu])
theorem hopen_ren {ti : Nat} {α : Type} {f : α → List CV} {L : List (List α)} {k : Nat} {h : HV} (g : Nat → Nat) : HV.rens g (hopen ti f L k h) = hopen ti f L k (h.ren g) := by
  unfold hopen
  rw [rens_app, rens_mapc]
  simp only [HV.rens, rens_mapc]
theorem hrr_le {ti : Nat} {α : Type} {f : α → List CV} {L : List (List α)} {k ty e j : Nat} {h : HV} {g : Nat → Nat} {hp : List (Nat × Ob)} (hl : look j hp = some (.hrr ty e (hopen ti f L k (h.ren g)))) : look j hp = some ((Ob.hrr ty e (hopen ti f L k h)).ren g) := by
  rw [hl]; simp only [Ob.ren, hopen_ren]
section
variable {E : Env} {l : List Oper} {fr : List (Nat × AV)} {hp : List (Nat × Ob)} {nx d : Nat} {cert : List (Nat × Bool)} {W : List Nat} {nr : Nat} {os ms os0 ms0 : List Nat} {early fl : Bool} {k : AS → Prop} {i : Nat} {oi : Oper}
theorem uIxR {α : Type} {f : α → List CV} {t e : Nat} {sz b' : Nat} {zs : List CV} {x ix : Operand} {tg n : Nat} {L : List α} {j : Int} {inf : TInf} (m : Nat) (hi : nth l i = some oi) (ho : oi.op = .indexAddr t x ix)
    (hx : AS.eval ⟨fr, hp, nx⟩ x = some (.h (.c (.rd tg n (rows f L))))) (hj : AS.eval ⟨fr, hp, nx⟩ ix = some (.h (.c (.int .i64 j)))) (ht : look t E.te = some ⟨.slice e, sz, b', zs⟩) (he : look e E.te = some inf)
    (hg : gdv l ⟨fr, hp, nx⟩ oi = some true) (hd : oi.dst = some d) (hn : Nat.blt d E.nt = true) (hsz : Nat.blt 0 inf.sz = true) (hf : ∀ a, (f a).length = inf.sz) (hnl : n = L.length) (hk : j = (m : Int)) (hlt : m < L.length)
    (kk : AH2 E l cert W nr os ms os0 ms0 early fl ⟨(d, .h (.rp tg (f L[m] ++ rows f (L.drop (m + 1))))) :: fr, hp, nx⟩ k) : AH2 E l ((i, true) :: cert) W nr os ms os0 ms0 early fl ⟨fr, hp, nx⟩ k := by
  obtain ⟨y, ys, h⟩ := rows_cons_at hf (by simpa using hsz) hlt
  rw [h] at kk
  exact uPS hi (by rw [ho]; exact ps_ix m E.hte hx hj hk (by omega) ht he (by rw [rows_at hf hlt, h])) hg hd hn kk
end
end Go.Proofs.Ythmgfgiaagkdeaa
/- The engine, part zl: rows after stores of many cells; 'copy' into a row of the call's own. -/
namespace Go.Proofs.Ythmgfgiaagkdeaa
open Go.RowKit
theorem setCells_row (b : Nat) : ∀ (vs : List Value) (o : Nat) (w : World) (cur : Array Value) (ty : TypeId), w.heap[b]? = some (.cells cur ty (0, 0)) →
    ∃ cur' : Array Value, (w.setCells b o vs).heap[b]? = some (.cells cur' ty (0, 0)) ∧ cur'.size = cur.size ∧ (∀ c, c ≠ b → (w.setCells b o vs).heap[c]? = w.heap[c]?) ∧ (w.setCells b o vs).heap.size = w.heap.size ∧
      (w.setCells b o vs).os = w.os ∧ (w.setCells b o vs).tape = w.tape ∧ (w.setCells b o vs).output = w.output
  | [], _, w, cur, ty, h => ⟨cur, h, rfl, fun _ _ => rfl, rfl, rfl, rfl, rfl⟩
  | v :: r, o, w, cur, ty, h => by
    have h1 : (w.setCell ⟨b, o, none⟩ v).heap[b]? = some (.cells (cur.setIfInBounds o v) ty (0, 0)) := by
      simp [World.setCell, Array.getElem?_modify, h]
    obtain ⟨cur', h2, h3, h4, h5, h6, h7, h8⟩ := setCells_row b r (o + 1) _ _ ty h1
    refine ⟨cur', h2, by rw [h3]; simp, fun c hc => (h4 c hc).trans ?_, h5.trans (by simp [World.setCell]), h6, h7, h8⟩
    simp [World.setCell, Array.getElem?_modify, Ne.symm hc]
/-- From w to w' the row at b alone has changed, not its size. -/
structure Put (w w' : World) (b : Nat) (ty : TypeId) (k : Nat) : Prop where
  os : w'.os = w.os
  tape : w'.tape = w.tape
  output : w'.output = w.output
  size : w'.heap.size = w.heap.size
  same : ∀ c, c ≠ b → w'.heap[c]? = w.heap[c]?
  row : ∃ cur : Array Value, w'.heap[b]? = some (.cells cur ty (0, 0)) ∧ cur.size = k
theorem Put.set {w w' : World} {b : Nat} {ty : TypeId} {k : Nat} (h : Put w w' b ty k) (o : Nat) (vs : List Value) : Put w (w'.setCells b o vs) b ty k := by
  obtain ⟨cur, h1, h2⟩ := h.row
  obtain ⟨cur', h3, h4, h5, h6, h7, h8, h9⟩ := setCells_row b vs o w' cur ty h1
  exact ⟨h7.trans h.os, h8.trans h.tape, h9.trans h.output, h6.trans h.size, fun c hc => (h5 c hc).trans (h.same c hc), cur', h3, h4.trans h2⟩
theorem Put.drew {w w' : World} {b : Nat} {ty : TypeId} {k : Nat} (h : Put w w' b ty k) : Put w w'.drew b ty k := ⟨h.os, h.tape, h.output, h.size, h.same, h.row⟩
end Go.Proofs.Ythmgfgiaagkdeaa
/- The engine, part zm: an append of so many zeros to a row of the call's own ('append(s, make([]T, k)...)'), elements of one cell. -/
namespace Go.Proofs.Ythmgfgiaagkdeaa
open Go.RowKit
theorem zeroCells_one (z : Value) (k : Nat) : (Builtin.zeroCells #[z] k).toList = List.replicate k z := by
  apply List.ext_getElem?
  intro j
  by_cases h : j < k
  · simp [Builtin.zeroCells, h, Nat.mod_one]
  · rw [List.getElem?_eq_none (by simp [Builtin.zeroCells]; omega), List.getElem?_eq_none (by simp; omega)]
theorem zeroCells_one' (z : Value) (k : Nat) : Builtin.zeroCells #[z] k = (List.replicate k z).toArray := by
  apply Array.ext'
  rw [zeroCells_one]
theorem run_append_zeros1 {P : Program} (w : World) (t tn ty e : TypeId) (i : TypeInfo) (z z0 : Value) (kq kn : IntKind) (ht : P.underlying t = some (.slice e)) (htn : P.underlying tn = some (.int kn)) (hi : P.info? e = some i) (hz : i.zero = some z) (hs : i.size = 1) (hzc : z.cells = #[z0]) (h1 : z0.oneCell' = true) (hby : i.bytes ≤ 100)
    (v : Value) (n : Nat) (us : List Value) (hown : w.ownsRow 0 e 1 v n us) (k : Nat) (hk : 0 < k) (hsm : n + k ≤ 1000000) :
    ∃ v' w', (Builtin.append_ #[t, tn] ty #[v, .int kq k]).run P w = .ok v' w' ∧ w'.ownsRow 0 e 1 v' (n + k) (us ++ List.replicate k z0) ∧ w.grownBy w' v.ownBlock ∧ (v'.ownBlock = v.ownBlock ∨ v'.ownBlock = some w.heap.size) := by
  have hlen : (us ++ List.replicate k z0).length = (n + k) * 1 := by rw [List.length_append, List.length_replicate, hown.1, Nat.mul_one, Nat.mul_one]
  have hkb : k * i.bytes ≤ 1000000 * 100 := Nat.mul_le_mul (by omega) hby
  have grown : ∀ (old : Nat) (b : Option Addr) (hold : (Builtin.firstCells i.size n (.slice b n old)).run P w.drew = .ok us.toArray w.drew) (row : Option Nat), old < n + k → ∃ v' w', (Builtin.append_ #[t, tn] ty #[.slice b n old, .int kq k]).run P w = .ok v' w' ∧ w'.ownsRow 0 e 1 v' (n + k) (us ++ List.replicate k z0) ∧ w.grownBy w' row ∧ v'.ownBlock = some w.heap.size := by
    intro old b hold row ho
    have hfit : Builtin.nextslicecap (n + k) old * i.bytes ≤ 281474976710656 := by
      have hnc : Builtin.nextslicecap (n + k) old ≤ 2 * (n + k) := nextslicecap_le (by omega)
      have : Builtin.nextslicecap (n + k) old * i.bytes ≤ 2000000 * 100 := Nat.mul_le_mul (by omega) hby
      omega
    have hrun := Lib.run_append_grow_zeros w t tn ty e i z kq kn ht htn hi hz b n old us hold k hk (by omega) ho (by omega) (by omega) hfit
    have hge := grownCap_ge w (n + k) old e
    have hcm : grownCap w (n + k) old e ≤ maxLen := grownCap_le_maxLen w (n + k) old e (by unfold maxLen; omega)
    refine ⟨_, _, hrun, ⟨hlen, .inr ⟨w.heap.size, _, _, rfl, Nat.zero_le _, heap_alloc_new w.drew _, hge, hcm, ?_, ?_⟩⟩, ⟨rfl, rfl, rfl, by simp, fun c hc _ => heap_alloc_old w.drew _ hc⟩, rfl⟩
    · have hu := hown.1
      simp [hzc, zeroCells_one', hu]
      omega
    · simp only [hzc, zeroCells_one', Array.toList_append, ← hlen]
      exact List.take_left
  rcases hown.2 with ⟨rfl, rfl⟩ | ⟨g, cap, cur, rfl, _, hg, hnc, hcm, hcs, htk⟩
  · have hu : us = [] := List.eq_nil_of_length_eq_zero (by rw [hown.1])
    subst hu
    obtain ⟨v', w', r1, r2, r3, r4⟩ := grown 0 none (by rw [hs]; exact run_firstCells_none w.drew 1 0 0 0) none (by omega)
    exact ⟨v', w', r1, r2, r3, .inr r4⟩
  · have hcell : ∀ j u, us[j]? = some u → w.cell? ⟨g, j, none⟩ = some u := fun j u hj => by
      rw [cell_of_row w g j cur e (0, 0) hg, ← Array.getElem?_toList]
      rw [← htk, List.getElem?_take] at hj
      split at hj
      · exact hj
      · cases hj
    by_cases hroom : n + k ≤ cap
    · have hsome : ∀ j, j < cur.size → (w.cell? ⟨g, j, none⟩).isSome = true := fun j hj => by rw [cell_of_row w g j cur e (0, 0) hg, Array.getElem?_eq_getElem hj]; rfl
      have hst := run_storeCells_cells (P := P) g n (List.replicate k z0) 0 w (fun j hj => by simp at hj ⊢; exact hsome _ (by omega)) (fun j _ => frozen_of_row w g _ cur e hg) (fun u hu => by rw [(List.mem_replicate.1 hu).2]; exact h1)
      simp only [Nat.add_zero] at hst
      have hrun : (Builtin.append_ #[t, tn] ty #[.slice (some ⟨g, 0, none⟩) n cap, .int kq k]).run P w = .ok (.slice (some ⟨g, 0, none⟩) (n + k) cap) (w.setCells g n (List.replicate k z0)) := by
        have hw : IntKind.i64.wrap (k : Int) = k := by rw [IntKind.wrap_i64]; omega
        have hneg : ¬ ((k : Int) < 0) := by omega
        have h48i : ¬ (281474976710656 < (k : Int) * (i.bytes : Int)) := by rw [← Int.natCast_mul]; omega
        have hk0 : k ≠ 0 := by omega
        simp [Builtin.append_, run_underlying ht, run_underlying htn, sizeOf, typeInfo, zeroValue, hi, hz, asInt, asIntOf, hw, hneg, h48i, hroom, hzc, zeroCells_one', hs, hk0, Addr.add_lit, hst]
      obtain ⟨cur', q1, q2, q3, q4, q5, q6, q7⟩ := setCells_row g (List.replicate k z0) n w cur e hg
      refine ⟨_, _, hrun, ⟨hlen, .inr ⟨g, cap, cur', rfl, Nat.zero_le _, q1, hroom, hcm, q2.trans hcs, ?_⟩⟩, ⟨q5, q6, q7, by rw [q4]; exact Nat.le_refl _, fun c hc hne => q3 c fun e => hne (by rw [e]; rfl)⟩, .inl rfl⟩
      apply List.ext_getElem?
      intro j
      rw [List.getElem?_take, Array.getElem?_toList, ← cell_of_row _ g j cur' e (0, 0) q1]
      have hul : us.length = n := by rw [hown.1, Nat.mul_one]
      by_cases h2 : j < (n + k) * 1
      · rw [if_pos h2]
        by_cases h3 : j < n
        · rw [World.cell?_setCells_out g _ _ _ _ (fun _ _ => .inl h3), List.getElem?_append_left (by omega), List.getElem?_eq_getElem (by omega)]
          exact hcell j _ (List.getElem?_eq_getElem (by omega))
        · have := World.cell?_setCells_in g (List.replicate k z0) n w (fun x hx => hsome _ (by simp at hx; omega)) (j - n) (by simp; omega)
          rw [show n + (j - n) = j by omega] at this
          rw [this, List.getElem?_append_right (by omega), List.getElem?_eq_getElem (by simp; omega)]
          simp
      · rw [if_neg h2, List.getElem?_eq_none (by omega)]
    · obtain ⟨v', w', r1, r2, r3, r4⟩ := grown cap (some ⟨g, 0, none⟩) (by rw [hs]; exact run_firstCells_some w.drew 1 n ⟨g, 0, none⟩ n cap us hown.1 (fun j u hj => by rw [addr_add]; have := hcell j u hj; simpa using this)) (some g) (by omega)
      exact ⟨v', w', r1, r2, r3, .inr r4⟩
section
variable {E : Env} {te : TE} {s : AS} {o : Oper} {Q : AS → Prop}
def appZOf : Op → Option (Operand × Operand × Nat × Nat)
  | .call c => match c.callee with
    | .builtin .append => match c.args.toList, c.argTypes.toList with
      | [x, y], [t, t'] => some (x, y, t, t')
      | _, _ => none
    | _ => none
  | _ => none
theorem es_appZ {x y : Operand} {t tn e n k : Nat} {sz' b'' szn bn : Nat} {zs'' zsn xs : List CV} {inf : TInf} {kn : IntKind} {hp0 : List (Nat × Ob)} {md : List Nat} {vx : AV} (hte : teOk E.P te = true) (hop : appZOf o.op = some (x, y, t, tn)) (ht : look t te = some ⟨.slice e, sz', b'', zs''⟩) (he : look e te = some inf) (htn : look tn te = some ⟨.int kn, szn, bn, zsn⟩)
    (hx : s.eval x = some vx) (hy : s.eval y = some (.h (.c (.int .i64 k)))) (hb : baseOf s e inf.sz vx = some (n, xs, hp0, md)) (hlx : xs.length = n * inf.sz) (hsz : inf.sz = 1) (hzs : inf.zs = [.int .i64 0]) (hby : inf.by' ≤ 100) (hk : 0 < k) (hsm : n + k ≤ 1000000) (hd : dok E.nt o.dst = true)
    (hQ : Q (({ fr := s.fr, hp := (s.nx, .arr e inf.sz (xs ++ List.replicate k (.int .i64 0))) :: hp0, nx := s.nx + 1 } : AS).putd o.dst (.h (.sl s.nx 0 (n + k))))) : ES E s o (some md) Q := by
  intro g im a w K QQ ⟨fps, hs⟩ hK
  obtain ⟨us, fx, fr, f0, hown, hrx, hh0, hn0, hs0, hfx, hob, hob'⟩ := base_sound hs hb hlx (hs.eval hx)
  have hu := slice_und hte ht
  have hun : E.P.underlying tn = some (.int kn) := by
    have h := und_of hte htn
    cases hp : E.P.underlying tn with
    | none => rw [hp] at h; simp [TI.is] at h
    | some d =>
      rw [hp] at h
      cases d <;> simp [TI.is] at h
      rw [h]
  obtain ⟨⟨i, z, h2, h3, h4, h5, h6, h7⟩, _⟩ := teOk_look hte he
  obtain ⟨z0, hz0, hzi⟩ : ∃ z0, z.cells = #[z0] ∧ z0 = .int .i64 0 := by
    rw [hzs] at h6
    cases hc : z.cells.toList with
    | nil => rw [hc] at h6; simp [CV.areV] at h6
    | cons u r =>
      rw [hc] at h6
      simp only [CV.areV, Bool.and_eq_true] at h6
      cases r with
      | cons _ _ => simp [CV.areV] at h6
      | nil =>
        refine ⟨u, by rw [← Array.toArray_toList (xs := z.cells), hc], ?_⟩
        have := h6.1
        cases u <;> simp [CV.isV] at this
        rw [this.1.symm, this.2.symm]
  subst hzi
  have e2 := RA_int (hs.eval hy)
  rw [hsz] at hown
  obtain ⟨v', w', hrun, hown', hgb, hblk⟩ := run_append_zeros1 (P := E.P) w t tn o.type e i z _ .i64 kn hu hun h2 h5 (by rw [h3, hsz]) hz0 rfl (by rw [h4]; exact hby) (a.eval x) n us hown k hk hsm
  have hexec : (execOp a.eval o).run E.P w = .ok (.value v') w' := by
    unfold appZOf at hop
    split at hop
    · rename_i c' ho
      split at hop
      · rename_i hc
        split at hop
        · rename_i x' y' t1 t2 hargs htys
          simp only [Option.some.injEq, Prod.mk.injEq] at hop
          obtain ⟨rfl, rfl, rfl, rfl⟩ := hop
          have ha : ∀ {α : Type} {l : Array α} {l' : List α}, l.toList = l' → l = l'.toArray := fun h => by rw [← h]
          simp only [execOp, ho, resolve, hc, ha hargs, ha htys, invoke, builtin, Sem.run_bind, Sem.run_pure, Result.andThen_ok, List.map_toArray, List.map_cons, List.map_nil, e2, hrun]
        · cases hop
      · cases hop
    · cases hop
  have hry : RHs g im w ((List.replicate k (CV.int .i64 0)).map HV.c) (List.replicate k (Value.int .i64 0)) [] := by
    clear hrun hown' hk hsm hQ hK e2 hy
    induction k with
    | zero => exact ⟨rfl, rfl⟩
    | succ k ih => exact ⟨_, _, [], [], rfl, rfl, ⟨rfl, rfl⟩, ih⟩
  rw [← hsz] at hown'
  obtain ⟨bi, f', z1, z2, z3, z4, hsim, hchg⟩ := app_tail (V := a.eval x) (inf := inf) hs hrx hn0 hs0 hfx (fun b h => (hob b h).1) hry hh0 (by simpa using (List.nodup_append.1 hn0).2.1) (fun b hb => by simpa using hb) hlx (by rw [hsz]; simp) hown' hgb hblk
  unfold Oper.wp
  rw [hexec]
  refine hK _ im _ _ _ _ ⟨_, hsim.putd (dok_lt hd) (v := v') ?_⟩ hQ hchg ?_
  · simp only [RA, RH]
    exact ⟨trivial, bi, by simp [gup], by omega, z3, z4⟩
  · intro m hm b hb
    injection hm with hm
    subst hm
    exact (hob b hb).2
end
section
variable {E : Env} {l rest : List Oper} {fr : List (Nat × AV)} {hp : List (Nat × Ob)} {nx : Nat} {o : Oper} {Q : Exit → AS → Prop} {d : Nat}
theorem eAppZ {x y : Operand} {t tn e n k : Nat} {sz' b'' szn bn : Nat} {zs'' zsn xs zs : List CV} {inf : TInf} {kn : IntKind} {hp0 : List (Nat × Ob)} {md : List Nat} {vx : AV} (ho : appZOf o.op = some (x, y, t, tn)) (ht : look t E.te = some ⟨.slice e, sz', b'', zs''⟩) (he : look e E.te = some inf) (htn : look tn E.te = some ⟨.int kn, szn, bn, zsn⟩)
    (hx : AS.eval ⟨fr, hp, nx⟩ x = some vx) (hy : AS.eval ⟨fr, hp, nx⟩ y = some (.h (.c (.int .i64 k)))) (hb : baseOf ⟨fr, hp, nx⟩ e inf.sz vx = some (n, xs, hp0, md)) (hsz : inf.sz = 1) (hzs : inf.zs = [.int .i64 0]) (hby : Nat.ble inf.by' 100 = true) (hd : o.dst = some d) (hn : Nat.blt d E.nt = true)
    (hlx : xs.length = n * inf.sz) (hk : 0 < k) (hsm : n + k ≤ 1000000) (hz : xs ++ List.replicate k (.int .i64 0) = zs) :
    ES E ⟨fr, hp, nx⟩ o (some md) (fun x => x = ⟨(d, .h (.sl nx 0 (n + k))) :: fr, (nx, .arr e inf.sz zs) :: hp0, nx + 1⟩) :=
  es_same (es_appZ E.hte ho ht he htn hx hy hb hlx hsz hzs (Nat.le_of_ble_eq_true hby) hk hsm (dok_of hd hn) rfl) (by rw [hd, ← hz]; rfl)
end
end Go.Proofs.Ythmgfgiaagkdeaa
/- The engine, part zn: a row of handles, closed one by one; a store of a struct with rows of its own into a row of structs. -/
namespace Go.Proofs.Ythmgfgiaagkdeaa
open Go.RowKit
attribute [local irreducible] AWP AL XT AC ES PS AH AH2
theorem sim_closeH {E : Env} {g : Ga} {im : Im} {fr : List (Nat × AV)} {hp : List (Nat × Ob)} {nx : Nat} {a : Act} {w : World} (id j : Nat) {ty e ty' e' n : Nat} {pre post : List HV} {ys : List CV} (hj : look j hp = some (.arr ty' e' ys)) (hl : look id (del j hp) = some (.hrr ty e (pre ++ .sl j 0 n :: post))) (h : Sim E g im ⟨fr, hp, nx⟩ a w) :
    Sim E g im ⟨fr, upd id (.hrr ty e (pre ++ .c (.ow ty' e' n ys) :: post)) (del j hp), nx⟩ a w := by
  obtain ⟨fps, hs⟩ := h
  obtain ⟨bj, m1, m2, m3, mg, hf, mro, md⟩ := HR_del hs.hp hj
  obtain ⟨l1, l2, hp0, hu, _⟩ := look_split hl
  rw [hp0] at md
  obtain ⟨g1, g2, hfe, q1, q2⟩ := (HR_append _ _ _).1 md
  obtain ⟨bi, g3, g4, q3, rfl, q5, q6⟩ := q2
  obtain ⟨r1, r2, ⟨r3, r4, r5, r6⟩ | ⟨b, cur, f, us, r3, r4, r5, r6, r7, r8⟩⟩ := q5
  · exact absurd r4 (by simp)
  have r9 := RLH_of (b := b) _ us 0 f r7 fun j u hj => by simpa using r8 j u hj
  obtain ⟨fa, fc, rfl, s1, s2⟩ := (RLH_app _ _ _ _).1 r9
  obtain ⟨u, fo, fb, rfl, s3, s4, s5⟩ := s2
  simp only [RH] at s4
  obtain ⟨t0, bj', t1, t2, t3, t4⟩ := s4
  obtain rfl : bj = bj' := by rw [mg] at t1; exact Option.some.inj t1
  subst t0
  have hR : R im w (.ow ty' e' n ys) u m2 := by
    simp only [R]
    obtain ⟨v1, v2, ⟨v3, v4, v5, v6⟩ | ⟨b', cur', f', v3, v4, v5, v6, v7⟩⟩ := mro
    · have hn0 : n = 0 := by omega
      exact .inl ⟨by rw [t4, v3, hn0, v5]; rfl, hn0, v4, v6⟩
    · exact .inr ⟨b', bj.cap, cur', f', by rw [t4, v3]; simp [slv], by omega, t3, v5, v6, v4, v7⟩
  have hperm : (g1 ++ ((b :: (fa ++ (m2 ++ fb))) ++ g4)).Perm fps := by
    have e1 : m1 ++ m3 = g1 ++ ((b :: (fa ++ ([] ++ fb))) ++ g4) := by rw [hfe, r4]
    rw [hf]
    refine List.perm_iff_count.2 fun x => ?_
    have := congrArg (List.count x) e1
    simp only [List.count_append, List.count_cons, List.count_nil] at this ⊢
    omega
  refine ⟨_, hs.same (fun _ _ h => h) (fps' := g1 ++ ((b :: (fa ++ (m2 ++ fb))) ++ g4)) ?_ (hperm.nodup_iff.2 hs.nd) (fun c hc => hperm.mem_iff.1 hc) hs.gn hs.gl (Nat.le_refl _) fun _ _ => rfl⟩
  rw [hu]
  obtain ⟨us', n1, n2⟩ := RLH_to _ _ _ ((RLH_app pre (.c (.ow ty' e' n ys) :: post) 0 (fa ++ (m2 ++ fb))).2 ⟨fa, m2 ++ fb, rfl, s1, u, m2, fb, rfl, s3, hR, s5⟩)
  exact (HR_append _ _ _).2 ⟨g1, _, rfl, q1, bi, b :: (fa ++ (m2 ++ fb)), g4, q3, rfl, ⟨r1, r2, .inr ⟨b, cur, fa ++ (m2 ++ fb), us', r3, rfl, r5, r6, n1, fun j u hj => by simpa using n2 j u hj⟩⟩, q6⟩
/-- A row of handles none of whose cells is a handle is a row. -/
theorem sim_unhrr {E : Env} {g : Ga} {im : Im} {fr : List (Nat × AV)} {hp : List (Nat × Ob)} {nx : Nat} {a : Act} {w : World} (id : Nat) {ty e : Nat} {xs : List CV} (hl : look id hp = some (.hrr ty e (xs.map HV.c))) (h : Sim E g im ⟨fr, hp, nx⟩ a w) :
    Sim E g im ⟨fr, upd id (.arr ty e xs) hp, nx⟩ a w := by
  obtain ⟨fps, hs⟩ := h
  obtain ⟨l1, l2, rfl, hu, _⟩ := look_split hl
  obtain ⟨g1, g2, rfl, q1, q2⟩ := (HR_append _ _ _).1 hs.hp
  obtain ⟨bi, g3, g4, q3, rfl, q5, q6⟩ := q2
  refine ⟨_, hs.same (fun _ _ h => h) (fps' := g1 ++ (g3 ++ g4)) ?_ hs.nd (fun _ h => h) hs.gn hs.gl (Nat.le_refl _) fun _ _ => rfl⟩
  rw [hu]
  refine (HR_append _ _ _).2 ⟨g1, _, rfl, q1, bi, g3, g4, q3, rfl, ?_, q6⟩
  obtain ⟨r1, r2, ⟨r3, r4, r5, r6⟩ | ⟨b, cur, f, us, r3, r4, r5, r6, r7, r8⟩⟩ := q5
  · exact ⟨r1, r2, .inl ⟨r3, List.map_eq_nil_iff.1 r4, r5, r6⟩⟩
  · exact ⟨r1, r2, .inr ⟨b, cur, f, r3, r4, r5, r6, (RLH_map (g := g) _ _ _).1 (RLH_of (b := b) _ us 0 f r7 fun j u hj => by simpa using r8 j u hj)⟩⟩
end Go.Proofs.Ythmgfgiaagkdeaa
/- The engine, part zo: further rows in a row of handles are opened; two elements of a row of structs with rows of their own, opened and closed. -/
namespace Go.Proofs.Ythmgfgiaagkdeaa
open Go.RowKit
attribute [local irreducible] AWP AL XT AC ES PS AH AH2
theorem look_upd {α : Type} {t : Nat} {x : α} (y : α) : ∀ {l : List (Nat × α)}, look t l = some x → look t (upd t y l) = some y
  | [], h => by simp [look] at h
  | (s, z) :: r, h => by
    simp only [look, upd] at h ⊢
    cases hs : Nat.beq t s with
    | true => simp [look, hs]
    | false => rw [hs] at h; simpa [look, hs] using look_upd y (l := r) (by simpa using h)
theorem upd_upd {α : Type} (t : Nat) (y z : α) : ∀ (l : List (Nat × α)), upd t z (upd t y l) = upd t z l
  | [] => rfl
  | (s, w) :: r => by
    simp only [upd]
    cases hs : Nat.beq t s with
    | true => simp [upd, hs]
    | false => simp [upd, hs, upd_upd t y z r]
theorem look_upd_ne {α : Type} {t j : Nat} (h : Nat.beq t j = false) (y : α) : ∀ (l : List (Nat × α)), look j (upd t y l) = look j l
  | [] => rfl
  | (s, w) :: r => by
    simp only [upd, look]
    cases hs : Nat.beq t s with
    | true =>
      have : Nat.beq j s = false := by
        cases hj : Nat.beq j s with
        | false => rfl
        | true => rw [Nat.eq_of_beq_eq_true hs, Nat.eq_of_beq_eq_true hj] at h; simp at h
      simp [look, this]
    | false => simp [look, look_upd_ne h y r]
theorem del_upd_ne {α : Type} {t j : Nat} (h : Nat.beq t j = false) (y : α) : ∀ (l : List (Nat × α)), del j (upd t y l) = upd t y (del j l)
  | [] => rfl
  | (s, w) :: r => by
    simp only [upd, del]
    cases hs : Nat.beq t s with
    | true =>
      have : Nat.beq j s = false := by
        cases hj : Nat.beq j s with
        | false => rfl
        | true => rw [Nat.eq_of_beq_eq_true hs, Nat.eq_of_beq_eq_true hj] at h; simp at h
      simp [del, this, upd, hs]
    | false =>
      cases hj : Nat.beq j s with
      | true => simp [del, hj]
      | false => simp [del, hj, upd, hs, del_upd_ne h y r]
theorem look_del_ne {α : Type} {t j : Nat} (h : Nat.beq t j = false) : ∀ (l : List (Nat × α)), look t (del j l) = look t l
  | [] => rfl
  | (s, w) :: r => by
    simp only [del, look]
    cases hj : Nat.beq j s with
    | true =>
      have : Nat.beq t s = false := by rw [← Nat.eq_of_beq_eq_true hj]; exact h
      simp [this]
    | false => simp [look, look_del_ne h r]
/-- A row in a row of handles is opened. -/
theorem sim_openHr {E : Env} {g : Ga} {im : Im} {fr : List (Nat × AV)} {hp : List (Nat × Ob)} {nx : Nat} {a : Act} {w : World} (id : Nat) {ty e ty' e' n : Nat} {pre post : List HV} {ys : List CV} (hl : look id hp = some (.hrr ty e (pre ++ .c (.ow ty' e' n ys) :: post))) (h : Sim E g im ⟨fr, hp, nx⟩ a w) :
    ∃ g', Sim E g' im ⟨fr, (nx, .arr ty' e' ys) :: upd id (.hrr ty e (pre ++ .sl nx 0 n :: post)) hp, nx + 1⟩ a w := by
  obtain ⟨fps, hs⟩ := h
  obtain ⟨l1, l2, rfl, hu, _⟩ := look_split hl
  obtain ⟨g1, g2, rfl, q1, q2⟩ := (HR_append _ _ _).1 hs.hp
  obtain ⟨bi, g3, g4, q3, rfl, q5, q6⟩ := q2
  obtain ⟨r1, r2, ⟨r3, r4, r5, r6⟩ | ⟨b, cur, f, us, r3, r4, r5, r6, r7, r8'⟩⟩ := q5
  · exact absurd r4 (by simp)
  have r8 := RLH_of (b := b) _ us 0 f r7 fun j u hj => by simpa using r8' j u hj
  rw [RLH_app] at r8
  obtain ⟨fa, fc, rfl, s1, s2⟩ := r8
  obtain ⟨u, fo, fb, rfl, s3, s4, s5⟩ := s2
  have key : ∃ bi', RO (gup g nx bi') im w bi' (.arr ty' e' ys) fo ∧ RH (gup g nx bi') im w (.sl nx 0 n) u [] ∧ (∀ b', bi'.a = some b' → b' ∈ fo) := by
    simp only [RH, R] at s4
    rcases s4 with ⟨t1, t2, t3, t4⟩ | ⟨b', c', cur', f', t1, t2, t3, t4, t5, t6, t7⟩
    · refine ⟨⟨none, 0, ty', e'⟩, ⟨rfl, rfl, .inl ⟨rfl, t3, rfl, t4⟩⟩, ⟨rfl, ⟨none, 0, ty', e'⟩, by simp [gup], by simp [t2], Nat.zero_le _, by rw [t1, t2]; rfl⟩, fun b' hb => by cases hb⟩
    · refine ⟨⟨some b', c', ty', e'⟩, ⟨rfl, rfl, .inr ⟨b', cur', f', rfl, t6, t4, t5, t7⟩⟩, ⟨rfl, ⟨some b', c', ty', e'⟩, by simp [gup], by simpa using t2, t3, by rw [t1]; simp [slv]⟩, fun b'' hb => by
        injection hb with hb; subst hb; rw [t6]; exact List.mem_cons_self⟩
  obtain ⟨bi', k1, k2, k3⟩ := key
  have hg := gup_old (bi := bi') hs.gn
  have hperm : (fo ++ (g1 ++ ((b :: (fa ++ fb)) ++ g4))).Perm (g1 ++ (g3 ++ g4)) := by
    rw [r4]
    exact List.perm_iff_count.2 fun x => by simp only [List.count_append, List.count_cons]; omega
  have hmem : ∀ c, c ∈ fo ++ (g1 ++ ((b :: (fa ++ fb)) ++ g4)) → c ∈ g1 ++ (g3 ++ g4) := fun c hc => hperm.mem_iff.1 hc
  refine ⟨gup g nx bi', _, hs.same hg (fps' := fo ++ (g1 ++ ((b :: (fa ++ fb)) ++ g4))) ?_ (hperm.nodup_iff.2 hs.nd) hmem ?_ ?_ (Nat.le_succ _) ?_⟩
  · refine ⟨bi', fo, _, by simp [gup], rfl, k1, ?_⟩
    rw [hu]
    refine (HR_append _ _ _).2 ⟨g1, _, rfl, HR_mono hg (fun t b h => ⟨h, rfl⟩) _ _ (fun _ _ => rfl) q1, bi, b :: (fa ++ fb), g4, hg _ _ q3, rfl, ?_, HR_mono hg (fun t b h => ⟨h, rfl⟩) _ _ (fun _ _ => rfl) q6⟩
    have hR : RLH (gup g nx bi') im w b (pre ++ .sl nx 0 n :: post) 0 (fa ++ fb) := by
      refine (RLH_app _ _ _ _).2 ⟨fa, fb, rfl, RLH_mono hg _ _ _ s1, u, [], fb, rfl, s3, k2, RLH_mono hg _ _ _ s5⟩
    obtain ⟨us, v1, v2⟩ := RLH_to _ _ _ hR
    exact ⟨r1, r2, .inr ⟨b, cur, fa ++ fb, us, r3, rfl, r5, r6, v1, fun j u hj => by simpa using v2 j u hj⟩⟩
  · intro i hi
    simp only [gup]
    rw [if_neg (by omega)]
    exact hs.gn i (by simp only; omega)
  · intro i bi2 b2 h1 h2
    simp only [gup] at h1
    split at h1
    · injection h1 with h1
      subst h1
      exact hs.lt _ (hmem _ (List.mem_append_left _ (k3 _ h2)))
    · exact hs.gl i bi2 b2 h1 h2
  · intro i hi
    simp only [gup]
    rw [if_neg (by omega)]
end Go.Proofs.Ythmgfgiaagkdeaa
