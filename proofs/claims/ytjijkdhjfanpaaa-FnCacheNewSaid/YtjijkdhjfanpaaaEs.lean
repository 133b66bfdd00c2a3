/- The engine, part s: arrays in variables; places that are not written out. -/
import Derived.Test.YtjijkdhjfanpaaaEr
namespace Go.Proofs.Ytjijkdhjfanpaaa
open Go.RowKit
theorem array_und {P : Program} {te : TE} (hte : teOk P te = true) {t n e sz b' : Nat} {zs : List CV} (ht : look t te = some ⟨.array n e, sz, b', zs⟩) : P.underlying t = some (.array n e) := by
  have := und_of hte ht
  cases hp : P.underlying t with
  | none => rw [hp] at this; cases this
  | some d =>
    rw [hp] at this
    cases d <;> simp [TI.is] at this
    rw [this.1, this.2]
section
variable {E : Env} {te : TE} {os : Option (List Nat)} {fl : Bool} {s : AS}
theorem ps_ixa {t n e : Nat} {sz b' : Nat} {zs : List CV} {x ix : Operand} {id off : Nat} {i : Int} {inf : TInf} (k : Nat) (hte : teOk E.P te = true)
    (hx : s.eval x = some (.h (.ptr id off))) (hi : s.eval ix = some (.h (.c (.int .i64 i)))) (hk : i = (k : Int)) (hn : k < n) (ht : look t te = some ⟨.array n e, sz, b', zs⟩) (he : look e te = some inf) : PS E os fl s (.indexAddr t x ix) (.h (.ptr id (off + k * inf.sz))) := by
  intro g im ac w M n0 ⟨fps, hs⟩ hI
  have hv := hs.eval hx
  have e2 := RA_int (hs.eval hi)
  simp only [RA, RH] at hv
  obtain ⟨_, bi, b, hg, hba, e1⟩ := hv
  subst hk
  refine ⟨.pointer (some ⟨b, off + k * inf.sz, none⟩), ?_, fun w' _ oo ho => ?_⟩
  · simp only [RA, RH]
    exact ⟨trivial, bi, b, hg, hba, rfl⟩
  · have hu := array_und hte ht
    have hs' := size_of hte he w'
    simp [execOp, ho, e1, e2, Instr.indexAt, asIntOf, run_underlying hu, hs', hn, addr_add, Instr.sureAddr]
theorem RHs_get {g : Ga} {im : Im} {w : World} : ∀ (xs : List HV) (vs : List Value) (f : List Nat) (k : Nat) (x : HV), RHs g im w xs vs f → xs[k]? = some x → ∃ v f', vs[k]? = some v ∧ RH g im w x v f'
  | [], vs, f, k, x, _, h => by simp at h
  | y :: xs, vs, f, 0, x, h, hk => by
    obtain ⟨v, vs', f1, f2, rfl, rfl, h1, _⟩ := h
    simp at hk; subst hk
    exact ⟨v, f1, rfl, h1⟩
  | y :: xs, vs, f, k + 1, x, h, hk => by
    obtain ⟨v, vs', f1, f2, rfl, rfl, _, h2⟩ := h
    obtain ⟨u, f', h3, h4⟩ := RHs_get xs vs' f2 k x h2 (by simpa using hk)
    exact ⟨u, f', by simpa using h3, h4⟩
theorem ps_ixv {t n e : Nat} {sz b' : Nat} {zs : List CV} {x ix : Operand} {xs : List HV} {i : Int} {y : HV} {inf : TInf} (k : Nat) (hte : teOk E.P te = true)
    (hx : s.eval x = some (.agg xs)) (hi : s.eval ix = some (.h (.c (.int .i64 i)))) (hk : i = (k : Int)) (hn : k < n) (ht : look t te = some ⟨.array n e, sz, b', zs⟩) (he : look e te = some inf) (ha : inf.d.isAgg = false) (hy : xs[k]? = some y) (hf : y.free = true) : PS E os fl s (.index t x ix) (.h y) := by
  intro g im ac w M n0 ⟨fps, hs⟩ hI
  have hv := hs.eval hx
  have e2 := RA_int (hs.eval hi)
  simp only [RA] at hv
  obtain ⟨cs, e1, hr⟩ := hv
  subst hk
  obtain ⟨v, f', h1, h2⟩ := RHs_get xs cs [] k y hr hy
  refine ⟨v, by simpa only [RA] using RH_free h2 hf, fun w' _ oo ho => ?_⟩
  have hu := array_und hte ht
  have hs' := size_of hte he w'
  have ha' := isAgg_of hte he w'
  have h1s := (teOk_look hte he).one ha
  rw [ha] at ha'
  rw [h1s] at hs'
  simp [execOp, ho, e1, e2, Instr.index, asIntOf, run_underlying hu, hs', hn, part, ha', h1]
theorem ps_ldb {t : Nat} {x : Operand} {id off : Nat} {ty : Nat} {cs zs : List HV} {inf : TInf} {v : AV} (hte : teOk E.P te = true)
    (hx : s.eval x = some (.h (.ptr id off))) (ho : look id s.hp = some (.box ty cs)) (hl : look t te = some inf) (hid : okid os id = true) (hd : cs.drop off = zs) (h : loadH inf zs = some v) : PS E os fl s (.load t x) v := by
  refine ps_of_aev hte ?_
  simp only [aev, hx, hl, ho, hid, cond_true, hd, h]
end
section
variable {E : Env} {l rest : List Oper} {fr : List (Nat × AV)} {hp : List (Nat × Ob)} {nx : Nat} {o : Oper} {Q : Exit → AS → Prop} {d : Nat}
variable {cert : CT} {nr : Nat} {os ms : List Nat} {fl : Bool} {k : AS → Prop} {i : Nat} {oi : Oper}
/-- The place of an element of an array in a variable. -/
theorem pIxA {t n e : Nat} {sz b' : Nat} {zs : List CV} {x ix : Operand} {id off : Nat} {q : Int} {inf : TInf} (m : Nat) (ho : o.op = .indexAddr t x ix)
    (hx : AS.eval ⟨fr, hp, nx⟩ x = some (.h (.ptr id off))) (hi : AS.eval ⟨fr, hp, nx⟩ ix = some (.h (.c (.int .i64 q)))) (ht : look t E.te = some ⟨.array n e, sz, b', zs⟩) (he : look e E.te = some inf)
    (hg : gdv l ⟨fr, hp, nx⟩ o = some true) (hd : o.dst = some d) (hn : Nat.blt d E.nt = true) (hk : q = (m : Int)) (hlt : m < n) (kk : AL E l rest ⟨(d, .h (.ptr id (off + m * inf.sz))) :: fr, hp, nx⟩ Q) : AL E l (o :: rest) ⟨fr, hp, nx⟩ Q :=
  al_pd (by rw [ho]; exact ps_ixa m E.hte hx hi hk hlt ht he) hg hd hn kk
/-- An element of an array's value. -/
theorem pIxV {t n e : Nat} {sz b' : Nat} {zs : List CV} {x ix : Operand} {xs : List HV} {q : Int} {y : HV} {inf : TInf} (m : Nat) (ho : o.op = .index t x ix)
    (hx : AS.eval ⟨fr, hp, nx⟩ x = some (.agg xs)) (hi : AS.eval ⟨fr, hp, nx⟩ ix = some (.h (.c (.int .i64 q)))) (ht : look t E.te = some ⟨.array n e, sz, b', zs⟩) (he : look e E.te = some inf) (ha : inf.d.isAgg = false)
    (hg : gdv l ⟨fr, hp, nx⟩ o = some true) (hd : o.dst = some d) (hn : Nat.blt d E.nt = true) (hk : q = (m : Int)) (hlt : m < n) (hy : xs[m]? = some y) (hf : y.free = true) (kk : AL E l rest ⟨(d, .h y) :: fr, hp, nx⟩ Q) : AL E l (o :: rest) ⟨fr, hp, nx⟩ Q :=
  al_pd (by rw [ho]; exact ps_ixv m E.hte hx hi hk hlt ht he ha hy hf) hg hd hn kk
/-- A load out of a variable whose cells are not written out. -/
theorem pLdB {t : Nat} {x : Operand} {id off : Nat} {ty : Nat} {cs zs : List HV} {inf : TInf} {v : AV} (ho : o.op = .load t x) (hx : AS.eval ⟨fr, hp, nx⟩ x = some (.h (.ptr id off))) (hob : look id hp = some (.box ty cs)) (hl : look t E.te = some inf)
    (hg : gdv l ⟨fr, hp, nx⟩ o = some true) (hd : o.dst = some d) (hn : Nat.blt d E.nt = true) (hdr : cs.drop off = zs) (h : loadH inf zs = some v) (kk : AL E l rest ⟨(d, v) :: fr, hp, nx⟩ Q) : AL E l (o :: rest) ⟨fr, hp, nx⟩ Q :=
  al_pd (by rw [ho]; exact ps_ldb E.hte hx hob hl rfl hdr h) hg hd hn kk
theorem dLdB {t : Nat} {x : Operand} {id off : Nat} {ty : Nat} {cs zs : List HV} {inf : TInf} {v : AV} (hi : nth l i = some oi) (ho : oi.op = .load t x) (hx : AS.eval ⟨fr, hp, nx⟩ x = some (.h (.ptr id off))) (hob : look id hp = some (.box ty cs)) (hl : look t E.te = some inf)
    (hg : gdv l ⟨fr, hp, nx⟩ oi = some true) (hd : oi.dst = some d) (hn : Nat.blt d E.nt = true) (hid : okid (some os) id = true) (hdr : cs.drop off = zs) (h : loadH inf zs = some v) (kk : AH E l cert nr os ms fl ⟨(d, v) :: fr, hp, nx⟩ k) : AH E l (CT.cons (i, true) cert) nr os ms fl ⟨fr, hp, nx⟩ k :=
  dPS hi (by rw [ho]; exact ps_ldb E.hte hx hob hl hid hdr h) hg hd hn kk
/-- A store into a variable whose cells are not written out. -/
theorem pStB {t : TypeId} {x y : Operand} {id off : Nat} {v : AV} {ty : Nat} {cs ys : List HV} {inf : TInf} (zs : List HV) (ho : o.op = .store t x y) (hx : AS.eval ⟨fr, hp, nx⟩ x = some (.h (.ptr id off))) (hy : AS.eval ⟨fr, hp, nx⟩ y = some v) (hv : cellsA v = some ys) (hl : look id hp = some (.box ty cs))
    (ht : look t E.te = some inf) (hg : gdv l ⟨fr, hp, nx⟩ o = some true) (hd : o.dst = none) (hsz : ys.length = inf.sz) (hle : off + ys.length ≤ cs.length) (hz : setL cs off ys = zs) (kk : AL E l rest ⟨fr, upd id (.box ty zs) hp, nx⟩ Q) : AL E l (o :: rest) ⟨fr, hp, nx⟩ Q :=
  pE (eSt ho hx hy hv hl ht (by rw [hsz]; exact Nat.beq_refl _) (Nat.ble_eq_true_of_le hle) hd) hg (by rw [hz]; exact kk)
end
/-- Cells that hold numbers. -/
def nums (ns : List Int) : List HV := ns.map fun n => .c (.int .i64 n)
theorem nums_drop {ns : List Int} {m : Nat} (h : m < ns.length) : (nums ns).drop m = .c (.int .i64 ns[m]) :: nums (ns.drop (m + 1)) := by
  unfold nums; rw [← List.map_drop, List.drop_eq_getElem_cons h]; rfl
theorem nums_set {ns : List Int} {m : Nat} (h : m < ns.length) (n : Int) : setL (nums ns) m [.c (.int .i64 n)] = nums (ns.set m n) := by
  unfold nums setL
  rw [← List.map_take, ← List.map_drop, List.set_eq_take_append_cons_drop, if_pos h]
  simp
theorem nums_load {ns : List Int} {inf : TInf} (ha : inf.d.isAgg = true) (h : ns.length = inf.sz) : loadH inf (nums ns) = some (.agg (nums ns)) := by
  have hl : (nums ns).take inf.sz = nums ns := List.take_of_length_le (by simp [nums, h])
  have hf : (nums ns).all HV.free = true := by simp [nums, HV.free]
  simp only [loadH, ha, cond_true, hl, hf, Bool.and_true]
  rw [show (nums ns).length = inf.sz by simp [nums, h], Nat.beq_refl]
  rfl
end Go.Proofs.Ytjijkdhjfanpaaa
