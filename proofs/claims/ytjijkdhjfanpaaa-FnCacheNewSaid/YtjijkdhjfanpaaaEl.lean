/- The engine, part l: the rules as the proofs use them: the table of types is the surroundings' own. -/
import Derived.Test.YtjijkdhjfanpaaaEk
namespace Go.Proofs.Ytjijkdhjfanpaaa
section
variable {E : Env} {l rest : List Oper} {s : AS} {fr : List (Nat × AV)} {hp : List (Nat × Ob)} {nx : Nat} {o : Oper} {Q : Exit → AS → Prop} {d : Nat}
theorem dok_of (hd : o.dst = some d) (hn : Nat.blt d E.nt = true) : dok E.nt o.dst = true := by rw [hd]; exact hn
theorem putd_of (hd : o.dst = some d) {x : AV} : s.putd o.dst x = s.put d x := by rw [hd]; rfl
theorem al_pd {x : AV} (h : PS E none true s o.op x) (hg : gdv l s o = some true) (hd : o.dst = some d) (hn : Nat.blt d E.nt = true) (k : AL E l rest (s.put d x) Q) : AL E l (o :: rest) s Q :=
  al_ps h hg (dok_of hd hn) (by rw [putd_of hd]; exact k)
theorem p1 {x : AV} (h : aev E.te none true ⟨fr, hp, nx⟩ o.op = some x) (hg : gdv l ⟨fr, hp, nx⟩ o = some true) (hd : o.dst = some d) (hn : Nat.blt d E.nt = true) (k : AL E l rest ⟨(d, x) :: fr, hp, nx⟩ Q) : AL E l (o :: rest) ⟨fr, hp, nx⟩ Q :=
  al_pd (ps_of_aev E.hte h) hg hd hn k
/-- A guarded operation that is not carried out. -/
theorem p0 (hg : gdv l ⟨fr, hp, nx⟩ o = some false) (hd : o.dst = some d) (hn : Nat.blt d E.nt = true) (k : AL E l rest ⟨(d, .tup []) :: fr, hp, nx⟩ Q) : AL E l (o :: rest) ⟨fr, hp, nx⟩ Q :=
  al_skip hg (dok_of hd hn) (by rw [putd_of hd]; exact k)
theorem p0n (hg : gdv l s o = some false) (hd : o.dst = none) (k : AL E l rest s Q) : AL E l (o :: rest) s Q :=
  al_skip hg (by rw [hd]; rfl) (by rw [hd]; exact k)
/-- A guard that is not known: both cases. -/
theorem pG {b : Bool} {want : Bool} (hs : gslot l o = some (some d, want)) (hb : look d fr = some (.h (.c (.bool b)))) (kt : b = true → AL E l (o :: rest) ⟨(d, .h (.c (.bool true))) :: fr, hp, nx⟩ Q) (kf : b = false → AL E l (o :: rest) ⟨(d, .h (.c (.bool false))) :: fr, hp, nx⟩ Q) : AL E l (o :: rest) ⟨fr, hp, nx⟩ Q :=
  have _ := hs
  al_split d hb kt kf
/-- + - * of numbers that fit. -/
theorem pAr {op : BinOp} {t t' : TypeId} {x y : Operand} {a b r : Int} (ho : o.op = .binOp op t x y t') (hx : AS.eval ⟨fr, hp, nx⟩ x = some (.h (.c (.int .i64 a)))) (hy : AS.eval ⟨fr, hp, nx⟩ y = some (.h (.c (.int .i64 b)))) (hr : arI op a b = some r)
    (hg : gdv l ⟨fr, hp, nx⟩ o = some true) (hd : o.dst = some d) (hn : Nat.blt d E.nt = true) (h1 : -9223372036854775808 ≤ r) (h2 : r ≤ 9223372036854775807) (k : AL E l rest ⟨(d, .h (.c (.int .i64 r))) :: fr, hp, nx⟩ Q) : AL E l (o :: rest) ⟨fr, hp, nx⟩ Q :=
  al_pd (by rw [ho]; exact ps_ar hx hy hr h1 h2) hg hd hn k
theorem pQuo {t t' : TypeId} {x y : Operand} {a b : Int} (ho : o.op = .binOp .quo t x y t') (hx : AS.eval ⟨fr, hp, nx⟩ x = some (.h (.c (.int .i64 a)))) (hy : AS.eval ⟨fr, hp, nx⟩ y = some (.h (.c (.int .i64 b))))
    (hg : gdv l ⟨fr, hp, nx⟩ o = some true) (hd : o.dst = some d) (hn : Nat.blt d E.nt = true) (h0 : 0 ≤ a) (h1 : 0 < b) (h2 : a ≤ 9223372036854775807) (k : AL E l rest ⟨(d, .h (.c (.int .i64 (a / b)))) :: fr, hp, nx⟩ Q) : AL E l (o :: rest) ⟨fr, hp, nx⟩ Q :=
  al_pd (by rw [ho]; exact ps_quo hx hy h0 h1 h2) hg hd hn k
theorem pRem {t t' : TypeId} {x y : Operand} {a b : Int} (ho : o.op = .binOp .rem t x y t') (hx : AS.eval ⟨fr, hp, nx⟩ x = some (.h (.c (.int .i64 a)))) (hy : AS.eval ⟨fr, hp, nx⟩ y = some (.h (.c (.int .i64 b))))
    (hg : gdv l ⟨fr, hp, nx⟩ o = some true) (hd : o.dst = some d) (hn : Nat.blt d E.nt = true) (h0 : 0 ≤ a) (h1 : 0 < b) (k : AL E l rest ⟨(d, .h (.c (.int .i64 (a % b)))) :: fr, hp, nx⟩ Q) : AL E l (o :: rest) ⟨fr, hp, nx⟩ Q :=
  al_pd (by rw [ho]; exact ps_rem hx hy h0 h1) hg hd hn k
theorem pConv {src dst : TypeId} {x : Operand} {k' : IntKind} {a : Int} {inf inf' : TInf} (ho : o.op = .convert src dst x) (hx : AS.eval ⟨fr, hp, nx⟩ x = some (.h (.c (.int k' a)))) (hs1 : look src E.te = some inf) (hd1 : look dst E.te = some inf') (hd2 : inf'.d = .int .i64)
    (hg : gdv l ⟨fr, hp, nx⟩ o = some true) (hd : o.dst = some d) (hn : Nat.blt d E.nt = true) (h0 : -9223372036854775808 ≤ a) (h1 : a ≤ 9223372036854775807) (k : AL E l rest ⟨(d, .h (.c (.int .i64 a))) :: fr, hp, nx⟩ Q) : AL E l (o :: rest) ⟨fr, hp, nx⟩ Q :=
  al_pd (by rw [ho]; exact ps_conv E.hte hx hs1 hd1 hd2 h0 h1) hg hd hn k
/-- The place of an element of a slice that is only read. -/
theorem pIx {t e : Nat} {sz b' : Nat} {zs : List CV} {x ix : Operand} {tg n : Nat} {xs : List CV} {i : Int} {inf : TInf} {y : CV} {ys : List CV} (k : Nat) (ho : o.op = .indexAddr t x ix)
    (hx : AS.eval ⟨fr, hp, nx⟩ x = some (.h (.c (.rd tg n xs)))) (hi : AS.eval ⟨fr, hp, nx⟩ ix = some (.h (.c (.int .i64 i)))) (ht : look t E.te = some ⟨.slice e, sz, b', zs⟩) (he : look e E.te = some inf)
    (hg : gdv l ⟨fr, hp, nx⟩ o = some true) (hd : o.dst = some d) (hn : Nat.blt d E.nt = true) (hk : i = (k : Int)) (hlt : k < n) (hdr : xs.drop (k * inf.sz) = y :: ys) (kk : AL E l rest ⟨(d, .h (.rp tg (y :: ys))) :: fr, hp, nx⟩ Q) : AL E l (o :: rest) ⟨fr, hp, nx⟩ Q :=
  al_pd (by rw [ho]; exact ps_ix k E.hte hx hi hk hlt ht he hdr) hg hd hn kk
/-- .. of a row of the call's own. -/
theorem pIxo {t e : Nat} {sz b' : Nat} {zs : List CV} {x ix : Operand} {id j n : Nat} {ty e' : Nat} {xs : List CV} {i : Int} {inf : TInf} (k : Nat) (ho : o.op = .indexAddr t x ix)
    (hx : AS.eval ⟨fr, hp, nx⟩ x = some (.h (.sl id j n))) (hi : AS.eval ⟨fr, hp, nx⟩ ix = some (.h (.c (.int .i64 i)))) (ht : look t E.te = some ⟨.slice e, sz, b', zs⟩) (he : look e E.te = some inf) (hob : look id hp = some (.arr ty e' xs)) (hes : e' = inf.sz)
    (hg : gdv l ⟨fr, hp, nx⟩ o = some true) (hd : o.dst = some d) (hn : Nat.blt d E.nt = true) (hk : i = (k : Int)) (hlt : k < n) (kk : AL E l rest ⟨(d, .h (.ptr id ((j + k) * inf.sz))) :: fr, hp, nx⟩ Q) : AL E l (o :: rest) ⟨fr, hp, nx⟩ Q :=
  al_pd (by rw [ho]; exact ps_ixo k E.hte hx hi hk hlt ht he hob hes) hg hd hn kk
/-- A load out of a row of the call's own. -/
theorem pLdo {t : Nat} {x : Operand} {id off : Nat} {ty e : Nat} {xs zs : List CV} {inf : TInf} {v : AV} (ho : o.op = .load t x) (hx : AS.eval ⟨fr, hp, nx⟩ x = some (.h (.ptr id off))) (hob : look id hp = some (.arr ty e xs)) (hl : look t E.te = some inf)
    (hg : gdv l ⟨fr, hp, nx⟩ o = some true) (hd : o.dst = some d) (hn : Nat.blt d E.nt = true) (hdr : xs.drop off = zs) (h : loadH inf ((zs.take inf.sz).map HV.c) = some v) (kk : AL E l rest ⟨(d, v) :: fr, hp, nx⟩ Q) : AL E l (o :: rest) ⟨fr, hp, nx⟩ Q :=
  al_pd (by rw [ho]; exact ps_ldo E.hte hx hob hl rfl hdr h) hg hd hn kk
/-- A cut of a slice that is only read. -/
theorem pCut {t e : Nat} {sz b' : Nat} {zs : List CV} {x : Operand} {lo hi : Option Operand} {tg n : Nat} {xs ys : List CV} {il ih : Int} {inf : TInf} (lw h : Nat) (ho : o.op = .slice t x lo hi none)
    (hx : AS.eval ⟨fr, hp, nx⟩ x = some (.h (.c (.rd tg n xs)))) (hlo : bnd ⟨fr, hp, nx⟩ 0 lo = some il) (hhi : bnd ⟨fr, hp, nx⟩ n hi = some ih) (ht : look t E.te = some ⟨.slice e, sz, b', zs⟩) (he : look e E.te = some inf)
    (hg : gdv l ⟨fr, hp, nx⟩ o = some true) (hd : o.dst = some d) (hn : Nat.blt d E.nt = true) (hl : il = (lw : Int)) (hh : ih = (h : Int)) (h1 : lw ≤ h) (h2 : h ≤ n) (hdr : (xs.drop (lw * inf.sz)).take ((h - lw) * inf.sz) = ys) (kk : AL E l rest ⟨(d, .h (.c (.rd tg (h - lw) ys))) :: fr, hp, nx⟩ Q) : AL E l (o :: rest) ⟨fr, hp, nx⟩ Q :=
  al_pd (by rw [ho]; exact ps_cut lw h E.hte hx hlo hhi hl hh h1 h2 ht he hdr) hg hd hn kk
/-! ### effects, each coming to one state; then by rule in a plain region (p..) and in one that draws (d..) -/
theorem es_same {s1 s2 : AS} {md : Option (List Nat)} (h : ES E s o md (fun x => x = s1)) (e : s1 = s2) : ES E s o md (fun x => x = s2) := e ▸ h
theorem eAlloc {ty : TypeId} {inf : TInf} (ho : o.op = .alloc ty) (ht : look ty E.te = some inf) (hd : o.dst = some d) (hn : Nat.blt d E.nt = true) :
    ES E ⟨fr, hp, nx⟩ o (some []) (fun x => x = ⟨(d, .h (.ptr nx 0)) :: fr, (nx, .box ty (inf.zs.map HV.c)) :: hp, nx + 1⟩) :=
  es_same (es_alloc E.hte ho ht (dok_of hd hn) rfl) (by rw [hd]; rfl)
theorem eBox {ty : TypeId} {x : Operand} {y : AV} {xs : List HV} (ho : o.op = .box ty x) (hx : AS.eval ⟨fr, hp, nx⟩ x = some y) (hc : cellsA y = some xs) (hd : o.dst = some d) (hn : Nat.blt d E.nt = true) :
    ES E ⟨fr, hp, nx⟩ o (some []) (fun x => x = ⟨(d, .h (.ptr nx 0)) :: fr, (nx, .box ty xs) :: hp, nx + 1⟩) :=
  es_same (es_box ho hx hc (dok_of hd hn) rfl) (by rw [hd]; rfl)
/-- A store into a variable. -/
theorem eSt {t : TypeId} {x y : Operand} {id off : Nat} {v : AV} {ty : Nat} {cs ys : List HV} {inf : TInf} (ho : o.op = .store t x y) (hx : AS.eval ⟨fr, hp, nx⟩ x = some (.h (.ptr id off))) (hy : AS.eval ⟨fr, hp, nx⟩ y = some v) (hv : cellsA v = some ys) (hl : look id hp = some (.box ty cs))
    (ht : look t E.te = some inf) (hsz : Nat.beq ys.length inf.sz = true) (hle : Nat.ble (off + ys.length) cs.length = true) (hd : o.dst = none) :
    ES E ⟨fr, hp, nx⟩ o (some [id]) (fun x => x = ⟨fr, upd id (.box ty (setL cs off ys)) hp, nx⟩) :=
  es_same (es_store E.hte ho hx hy hv hl ht hsz hle (by rw [hd]; rfl) rfl) (by rw [hd]; rfl)
/-- A row that is written out. -/
theorem eBs {t e len : Nat} {sz' b'' : Nat} {zs'' : List CV} {parts : Array (Nat × Operand)} {inf : TInf} {cs : List HV} {xs : List CV} {hp' : List (Nat × Ob)} (ho : o.op = .buildSlice t len parts) (ht : look t E.te = some ⟨.slice e, sz', b'', zs''⟩) (he : look e E.te = some inf)
    (hlay : lay (fun i => some (i * inf.sz, inf.sz)) ⟨fr, hp, nx⟩ (reps (inf.zs.map HV.c) len) parts.toList = some cs) (habs : absL hp cs = some (xs, hp')) (hsm : Nat.ble (len * inf.sz) 16777216 = true) (hsz : Nat.blt 0 inf.sz = true) (hd : o.dst = some d) (hn : Nat.blt d E.nt = true) :
    ES E ⟨fr, hp, nx⟩ o (some []) (fun x => x = ⟨(d, .h (.sl nx 0 len)) :: fr, (nx, .arr e inf.sz xs) :: hp', nx + 1⟩) :=
  es_same (es_bs E.hte ho ht he hlay habs hsm hsz (dok_of hd hn) rfl) (by rw [hd]; rfl)
theorem eMk {t e : Nat} {sz' b'' : Nat} {zs'' : List CV} {x y : Operand} {inf : TInf} {i j : Int} (n c : Nat) (ho : o.op = .makeSlice t x y) (hx : AS.eval ⟨fr, hp, nx⟩ x = some (.h (.c (.int .i64 i)))) (hy : AS.eval ⟨fr, hp, nx⟩ y = some (.h (.c (.int .i64 j))))
    (ht : look t E.te = some ⟨.slice e, sz', b'', zs''⟩) (he : look e E.te = some inf) (hsz : Nat.blt 0 inf.sz = true) (hd : o.dst = some d) (hn : Nat.blt d E.nt = true) (hi : i = (n : Int)) (hj : j = (c : Int)) (hnc : n ≤ c) (hby : c * inf.by' ≤ 140737488355328) (hmx : c ≤ 9223372036854775807) :
    ES E ⟨fr, hp, nx⟩ o (some []) (fun x => x = ⟨(d, .h (.sl nx 0 n)) :: fr, (nx, .arr e inf.sz (reps inf.zs n)) :: hp, nx + 1⟩) :=
  es_same (es_make n c E.hte ho hx hy hi hj hnc ht he hby hmx hsz (dok_of hd hn) rfl) (by rw [hd]; rfl)
theorem eApp {x y : Operand} {t e n m : Nat} {sz' b'' : Nat} {zs'' xs ys zs : List CV} {inf : TInf} {hp0 hp1 : List (Nat × Ob)} {md : List Nat} {vx vy : AV} (ho : appOf o.op = some (x, y, t)) (ht : look t E.te = some ⟨.slice e, sz', b'', zs''⟩) (he : look e E.te = some inf)
    (hx : AS.eval ⟨fr, hp, nx⟩ x = some vx) (hy : AS.eval ⟨fr, hp, nx⟩ y = some vy) (hb : baseOf ⟨fr, hp, nx⟩ e inf.sz vx = some (n, xs, hp0, md)) (hsr : srcOf hp0 vy = some (m, ys, hp1)) (hsz : Nat.blt 0 inf.sz = true) (hd : o.dst = some d) (hn : Nat.blt d E.nt = true)
    (hlx : xs.length = n * inf.sz) (hly : ys.length = m * inf.sz) (h63 : n + m ≤ 9223372036854775807) (hbytes : (n + m) * inf.by' ≤ 140737488355328) (hz : xs ++ ys = zs) :
    ES E ⟨fr, hp, nx⟩ o (some md) (fun x => x = ⟨(d, .h (.sl nx 0 (n + m))) :: fr, (nx, .arr e inf.sz zs) :: hp1, nx + 1⟩) :=
  es_same (es_app E.hte ho ht he hx hy hb hsr hlx hly (by simp only [maxLen]; omega) hbytes hsz (dok_of hd hn) rfl) (by rw [hd, ← hz]; rfl)
/-- A call: rows of the call's own are lent (tag T) or handed over (ps). -/
theorem eCall {f : FuncId} {as : List Operand} {xs ys : List AV} {rt : List Nat} {hin : List Ob} {rs : List (Nat × Ob)} {Post : AV → List Ob → Prop} (hc : AC E.P f ys hin rt Post) (T : Nat) (ps : List Nat) (hop : callOf ⟨fr, hp, nx⟩ o.op = some (f, as)) (hev : AS.evals ⟨fr, hp, nx⟩ as = some xs) (hpk : pick ps hp = some (hin, rs)) (hpu : hin.all Ob.pu = true)
    (hd : o.dst = some d) (hn : Nat.blt d E.nt = true) (hb : BorAs rs ps T xs ys) (hT : T ∉ rt) :
    ES E ⟨fr, hp, nx⟩ o (if hin.all Ob.bx then some ps else none) (fun x => ∃ r hout, Post r hout ∧ x = ⟨(d, r.ren (rho ps nx)) :: fr, named (rho ps nx) 0 hout ++ rs, nx + (hout.length - ps.length)⟩) :=
  es_call hop hev hpk hpu hb hc hT (dok_of hd hn) fun r hout h => ⟨r, hout, h, by rw [hd]; rfl⟩
/-- An effect that comes to one state, in a plain region. -/
theorem pE {s' : AS} {md : Option (List Nat)} (h : ES E s o md (fun x => x = s')) (hg : gdv l s o = some true) (k : AL E l rest s' Q) : AL E l (o :: rest) s Q := al_es h hg k
/-- .. a call. -/
theorem pC {Post : AV → List Ob → Prop} {st : AV → List Ob → AS} {md : Option (List Nat)} (h : ES E s o md (fun x => ∃ r hout, Post r hout ∧ x = st r hout)) (hg : gdv l s o = some true) (k : ∀ r hout, Post r hout → AL E l rest (st r hout) Q) : AL E l (o :: rest) s Q :=
  al_e hg h fun s' ⟨r, hout, h, e⟩ => by rw [e]; exact k r hout h
section draws
variable {cert : CT} {nr : Nat} {os ms : List Nat} {fl : Bool} {k : AS → Prop} {i : Nat} {oi : Oper}
theorem d1 {x : AV} (hi : nth l i = some oi) (h : aev E.te (some os) fl ⟨fr, hp, nx⟩ oi.op = some x) (hg : gdv l ⟨fr, hp, nx⟩ oi = some true) (hd : oi.dst = some d) (hn : Nat.blt d E.nt = true) (kk : AH E l cert nr os ms fl ⟨(d, x) :: fr, hp, nx⟩ k) : AH E l (CT.cons (i, true) cert) nr os ms fl ⟨fr, hp, nx⟩ k :=
  ah_ps hi (ps_of_aev E.hte h) hg (dok_of hd hn) (by rw [putd_of hd]; exact kk)
theorem dPS {x : AV} (hi : nth l i = some oi) (h : PS E (some os) fl ⟨fr, hp, nx⟩ oi.op x) (hg : gdv l ⟨fr, hp, nx⟩ oi = some true) (hd : oi.dst = some d) (hn : Nat.blt d E.nt = true) (kk : AH E l cert nr os ms fl ⟨(d, x) :: fr, hp, nx⟩ k) : AH E l (CT.cons (i, true) cert) nr os ms fl ⟨fr, hp, nx⟩ k :=
  ah_ps hi h hg (dok_of hd hn) (by rw [putd_of hd]; exact kk)
theorem d0n {b : Bool} (hi : nth l i = some oi) (hg : gdv l s oi = some false) (hd : oi.dst = none) (kk : AH E l cert nr os ms fl s k) : AH E l (CT.cons (i, b) cert) nr os ms fl s k :=
  ah_skip hi hg (by rw [hd]; rfl) (by rw [hd]; exact kk)
theorem d0 {b : Bool} (hi : nth l i = some oi) (hg : gdv l ⟨fr, hp, nx⟩ oi = some false) (hd : oi.dst = some d) (hn : Nat.blt d E.nt = true) (kk : AH E l cert nr os ms fl ⟨(d, .tup []) :: fr, hp, nx⟩ k) : AH E l (CT.cons (i, b) cert) nr os ms fl ⟨fr, hp, nx⟩ k :=
  ah_skip hi hg (dok_of hd hn) (by rw [putd_of hd]; exact kk)
theorem dG {c want b : Bool} (hi : nth l i = some oi) (hs : gslot l oi = some (some d, want)) (hb : look d fr = some (.h (.c (.bool b)))) (kt : b = true → AH E l (CT.cons (i, c) cert) nr os ms fl ⟨(d, .h (.c (.bool true))) :: fr, hp, nx⟩ k) (kf : b = false → AH E l (CT.cons (i, c) cert) nr os ms fl ⟨(d, .h (.c (.bool false))) :: fr, hp, nx⟩ k) : AH E l (CT.cons (i, c) cert) nr os ms fl ⟨fr, hp, nx⟩ k :=
  have _ := hi
  have _ := hs
  ah_split d hb kt kf
/-- What only computes, where it is alone. -/
theorem d2 {x : AV} (hi : nth l i = some oi) (h : aev E.te none true ⟨fr, hp, nx⟩ oi.op = some x) (hg : gdv l ⟨fr, hp, nx⟩ oi = some true) (hd : oi.dst = some d) (hn : Nat.blt d E.nt = true) (kk : AH E l cert nr os ms false ⟨(d, x) :: fr, hp, nx⟩ k) : AH E l (CT.cons (i, false) cert) nr os ms fl ⟨fr, hp, nx⟩ k :=
  ah_es (m := []) hi (es_of_ps (Q := fun s' => s' = AS.put ⟨fr, hp, nx⟩ d x) (ps_of_aev E.hte h) (dok_of hd hn) (by rw [putd_of hd])) hg rfl (fun s' h => by rw [h]; exact Nat.le_refl _) fun s' h => by rw [h]; exact kk
theorem dE {s' : AS} {m : List Nat} (hi : nth l i = some oi) (h : ES E s oi (some m) (fun x => x = s')) (hg : gdv l s oi = some true) (hm : m.all (fun id => ms.contains id || Nat.ble nr id) = true) (hnx : Nat.ble s.nx s'.nx = true) (kk : AH E l cert nr os ms false s' k) : AH E l (CT.cons (i, false) cert) nr os ms fl s k :=
  ah_es hi h hg hm (fun x h => by rw [h]; exact Nat.le_of_ble_eq_true hnx) fun x h => by rw [h]; exact kk
theorem dC {f : FuncId} {as : List Operand} {xs ys : List AV} {rt : List Nat} {hin : List Ob} {rs : List (Nat × Ob)} {Post : AV → List Ob → Prop} (hc : AC E.P f ys hin rt Post) (T : Nat) (ps : List Nat) (hi : nth l i = some oi) (hop : callOf ⟨fr, hp, nx⟩ oi.op = some (f, as)) (hev : AS.evals ⟨fr, hp, nx⟩ as = some xs) (hpk : pick ps hp = some (hin, rs)) (hpu : hin.all Ob.pu = true) (hbx : hin.all Ob.bx = true)
    (hg : gdv l ⟨fr, hp, nx⟩ oi = some true) (hd : oi.dst = some d) (hn : Nat.blt d E.nt = true) (hm : ps.all (fun id => ms.contains id || Nat.ble nr id) = true) (hb : BorAs rs ps T xs ys) (hT : T ∉ rt)
    (kk : ∀ r hout, Post r hout → AH E l cert nr os ms false ⟨(d, r.ren (rho ps nx)) :: fr, named (rho ps nx) 0 hout ++ rs, nx + (hout.length - ps.length)⟩ k) : AH E l (CT.cons (i, false) cert) nr os ms fl ⟨fr, hp, nx⟩ k := by
  have h := eCall (d := d) hc T ps hop hev hpk hpu hd hn hb hT
  rw [if_pos hbx] at h
  exact ah_es hi h hg hm (fun x ⟨r, hout, _, e⟩ => by rw [e]; exact Nat.le_add_right _ _) fun x ⟨r, hout, hp, e⟩ => by rw [e]; exact kk r hout hp
end draws
/-- The body's end, no objects: one plain result. -/
theorem xt_fin {te : TE} {rs : List ResultVar} {rt : List Nat} {Post : AV → List Ob → Prop} {y : CV} {e : Exit} (he : e = .normal ∨ e = .ret) (h : rvs te ⟨fr, hp, nx⟩ rs = some [.h (.c y)]) (tg : y.Tg rt) (post : Post (.h (.c y)) []) : XT e ⟨fr, hp, nx⟩ (FinQ te 0 rs rt Post) :=
  xt_end (P' := FinQ te 0 rs rt Post) ⟨he, _, [], .h (.c y), [], h, Nat.le_refl _, rfl, rfl, rfl, trivial, tg, trivial, post⟩
theorem xt_finG {te : TE} {k : Nat} {rs : List ResultVar} {rt : List Nat} {Post : AV → List Ob → Prop} {e : Exit} {xs : List AV} (r : List (Nat × Nat)) (x : AV) (hout : List Ob) (he : e = .normal ∨ e = .ret) (h : rvs te ⟨fr, hp, nx⟩ rs = some xs) (hlen : Nat.ble k hout.length = true) (ks : r.all (fun p => Nat.blt p.1 hout.length) = true) (kk : fixk r k = true)
    (val : tupOf xs = x.ren (sg r nx)) (hpp : LeH (sg r nx) (num 0 hout) hp) (tg : x.Tg rt) (th : Ob.Tgs rt hout) (post : Post x hout) : XT e ⟨fr, hp, nx⟩ (FinQ te k rs rt Post) :=
  xt_end (P' := FinQ te k rs rt Post) ⟨he, xs, r, x, hout, h, Nat.le_of_ble_eq_true hlen, ks, kk, val, hpp, tg, th, post⟩
end
/-- A body proves a contract; the surroundings are left open. -/
theorem ac_body {P : Program} {te : TE} (hte : teOk P te = true) {f : FuncId} {fn : Func} {c : Code} {nt : Nat} {args : List AV} {hin : List Ob} {rt : List Nat} {Post : AV → List Ob → Prop}
    (hf : P.funcs[f]? = some fn) (hb : fn.body = some c) (hn : (fn.name == "runtime.NumGoroutine") = false) (hnt : fn.ntmps = nt) (hle : Nat.ble args.length nt = true) (hrt : rt.all (fun t => Nat.blt t 100) = true)
    (h : ∀ w0 ps g0 im0, AWP ⟨P, te, hte, nt, w0, ps, hin.length, g0, im0⟩ c (AS.enter args hin) (FinQ te hin.length fn.results.toList rt Post)) : AC P f args hin rt Post :=
  ac_of_awp hte hf hb hn hnt (Nat.le_of_ble_eq_true hle) hrt h
end Go.Proofs.Ytjijkdhjfanpaaa
