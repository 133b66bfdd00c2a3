/- The engine, part c: the table of types; operations that leave the world alone. -/
import Derived.Test.YtjijkdhjfanpaaaEb
namespace Go.Proofs.Ytjijkdhjfanpaaa
open Go.RowKit

/-! ### operands -/
def AS.eval (s : AS) : Operand → Option AV
  | .tmp t => look t s.fr
  | .const (.int k n) => some (.h (.c (.int k n)))
  | .const (.bool b) => some (.h (.c (.bool b)))
  | .const (.slice none 0 0) => some (.h (.c .nil))
  | .func f => some (.h (.c (.fn f)))
  | _ => none
theorem SimF.eval {E : Env} {g : Ga} {im : Im} {fps : List Nat} {s : AS} {a : Act} {w : World} (h : SimF E g im fps s a w) {o : Operand} {x : AV} (hx : s.eval o = some x) : RA g im w x (a.eval o) [] := by
  unfold AS.eval at hx
  split at hx
  · exact h.fr _ _ hx
  all_goals first | (injection hx with hx; subst hx; simp [RA, RH, R, Act.eval]; done) | cases hx

/-! ### what an operation of a region may count on -/
/-- The objects that a region may read at any time (none: all). -/
def okid (os : Option (List Nat)) (id : Nat) : Bool := match os with | none => true | some l => l.contains id
structure AI (g : Ga) (im : Im) (M : Nat → Prop) (n0 : Nat) (os : Option (List Nat)) (fl : Bool) : Prop where
  imM : ∀ t b, im t b → ¬ M b
  imo : ∀ t b, (fl = true ∨ t ≠ 0) → im t b → b < n0
  old : ∀ id, okid os id = true → ∀ bi b, g id = some bi → bi.a = some b → b < n0 ∧ ¬ M b
def TrM (M : Nat → Prop) (n0 : Nat) (w w' : World) : Prop := ∀ b, b < n0 → ¬ M b → w'.heap[b]? = w.heap[b]?
/-- In every state that is described, the operation yields a value that reads as x, also behind the steps that the region may take besides. -/
def PS (E : Env) (os : Option (List Nat)) (fl : Bool) (s : AS) (op : Op) (x : AV) : Prop :=
  ∀ g im a w M n0, Sim E g im s a w → AI g im M n0 os fl → ∃ v, RA g im w x v [] ∧ ∀ w', TrM M n0 w w' → ∀ o : Oper, o.op = op → (execOp a.eval o).run E.P w' = .ok (.value v) w'

def cmpI : BinOp → Int → Int → Option Bool
  | .eql, a, b => some (a == b)
  | .neq, a, b => some (a != b)
  | .lss, a, b => some (decide (a < b))
  | .leq, a, b => some (decide (a ≤ b))
  | .gtr, a, b => some (decide (b < a))
  | .geq, a, b => some (decide (b ≤ a))
  | _, _, _ => none
def cmpB : BinOp → Bool → Bool → Option Bool
  | .eql, a, b => some (a == b)
  | .neq, a, b => some (!(a == b))
  | _, _, _ => none
def HV.free : HV → Bool
  | .c (.ow ..) => false
  | _ => true
/-- A load of a variable of type x out of these cells. -/
def loadH (x : TInf) (cs : List HV) : Option AV :=
  bif x.d.isAgg then
    (bif Nat.beq (cs.take x.sz).length x.sz && (cs.take x.sz).all HV.free then some (.agg (cs.take x.sz)) else none)
  else match cs with
    | y :: _ => bif y.free then some (.h y) else none
    | [] => none
def nthFld (te : TE) (t j : Nat) : Option Nat :=
  match look t te with
  | some ⟨.struct fs, _, _, _⟩ => (fs[j]?).map (·.1)
  | _ => none
def lenOfH : HV → Option Nat
  | .c (.rd _ n _) | .sl _ _ n | .sw _ _ n => some n
  | .c .nil => some 0
  | _ => none
def aev (te : TE) (os : Option (List Nat)) (fl : Bool) (s : AS) : Op → Option AV
  | .move x | .assign x => s.eval x
  | .pick c a b => match s.eval c with
    | some (.h (.c (.bool true))) => s.eval a
    | some (.h (.c (.bool false))) => s.eval b
    | _ => none
  | .binOp op t x y _ => match s.eval x, s.eval y with
    | some (.h (.c (.int .i64 a))), some (.h (.c (.int .i64 b))) => (cmpI op a b).map fun r => .h (.c (.bool r))
    | some (.h (.c (.bool a))), some (.h (.c (.bool b))) => match look t te with
      | some ⟨.bool, _, _, _⟩ => (cmpB op a b).map fun r => .h (.c (.bool r))
      | _ => none
    | _, _ => none
  | .unOp .not _ x => match s.eval x with
    | some (.h (.c (.bool b))) => some (.h (.c (.bool (!b))))
    | _ => none
  | .fieldAddr t x j => match s.eval x, nthFld te t j with
    | some (.h (.ptr id o)), some d => some (.h (.ptr id (o + d)))
    | some (.h (.rp tg xs)), some d => some (.h (.rp tg (xs.drop d)))
    | _, _ => none
  | .load t x => match s.eval x, look t te with
    | some (.h (.ptr id o)), some inf => match look id s.hp with
      | some (.box _ cs) => bif okid os id then loadH inf (cs.drop o) else none
      | _ => none
    | some (.h (.rp tg xs)), some inf => bif fl || !(Nat.beq tg 0) then loadH inf ((xs.take inf.sz).map HV.c) else none
    | _, _ => none
  | .extract x i => match s.eval x with
    | some (.tup xs) => xs[i]?
    | _ => none
  | .nilCheck x => match s.eval x with
    | some (.h (.ptr id o)) => some (.h (.ptr id o))
    | some (.h (.rp t xs)) => some (.h (.rp t xs))
    | _ => none
  | .call c => match c.callee with
    | .builtin .len => match c.args.toList, c.argTypes.toList with
      | [x], [t] => match s.eval x, look t te with
        | some (.h y), some ⟨.slice _, _, _, _⟩ => (lenOfH y).map fun (n : Nat) => .h (.c (.int .i64 (n : Int)))
        | _, _ => none
      | _, _ => none
    | _ => none
  | _ => none

theorem RA_int {g : Ga} {im : Im} {w : World} {k : IntKind} {n : Int} {v : Value} {fp : List Nat} (h : RA g im w (.h (.c (.int k n))) v fp) : v = .int k n := by
  simp only [RA, RH, R] at h; exact h.1
theorem RA_bool {g : Ga} {im : Im} {w : World} {b : Bool} {v : Value} {fp : List Nat} (h : RA g im w (.h (.c (.bool b))) v fp) : v = .bool b := by
  simp only [RA, RH, R] at h; exact h.1
theorem RA_mkBool {g : Ga} {im : Im} {w : World} (b : Bool) : RA g im w (.h (.c (.bool b))) (.bool b) [] := by simp [RA, RH, R]
theorem RA_mkInt {g : Ga} {im : Im} {w : World} (k : IntKind) (n : Int) : RA g im w (.h (.c (.int k n))) (.int k n) [] := by simp [RA, RH, R]

theorem und_of {P : Program} {te : TE} (h : teOk P te = true) {t : Nat} {d : TI} {sz b' : Nat} {zs : List CV} (hx : look t te = some ⟨d, sz, b', zs⟩) : d.is P (P.underlying t) = true := (teOk_look h hx).und
theorem size_of {P : Program} {te : TE} (h : teOk P te = true) {t : Nat} {inf : TInf} (hx : look t te = some inf) (w : World) : (sizeOf t).run P w = .ok inf.sz w := by
  obtain ⟨⟨i, z, h1, h2, _⟩, _⟩ := teOk_look h hx
  simp [sizeOf, typeInfo, h1, h2]
theorem isAgg_of {P : Program} {te : TE} (h : teOk P te = true) {t : Nat} {inf : TInf} (hx : look t te = some inf) (w : World) : (isAgg t).run P w = .ok inf.d.isAgg w := by
  have hu := (teOk_look h hx).und
  unfold isAgg
  cases hd : inf.d <;> rw [hd] at hu <;> cases hp : P.underlying t with
  | none => simp [TI.is, hp] at hu
  | some d => cases d <;> simp [TI.is, hp] at hu <;> simp [run_underlying hp, TI.isAgg]
theorem addr_add (b o j : Nat) : (⟨b, o, none⟩ : Addr).add j = ⟨b, o + j, none⟩ := by unfold Addr.add; split <;> simp_all

/-- A load of a variable: its cells are known. -/
theorem run_load_cells {P : Program} {te : TE} (h : teOk P te = true) {t : Nat} {inf : TInf} (hx : look t te = some inf) (w : World) (b o : Nat) (us : List Value)
    (hl : us.length = inf.sz) (hc : ∀ j u, us[j]? = some u → w.cell? ⟨b, o + j, none⟩ = some u) :
    (Instr.loadAt t (.pointer (some ⟨b, o, none⟩))).run P w = .ok (if inf.d.isAgg then .agg us.toArray else us.getD 0 undef) w := by
  unfold Instr.loadAt loadVar
  cases ha : inf.d.isAgg with
  | true =>
    simp only [Instr.sureAddr, Sem.run_bind, Sem.run_pure, Result.andThen_ok, isAgg_of h hx, ha, if_true, size_of h hx, ← hl,
      run_loadCells_list (P := P) w ⟨b, o, none⟩ us (fun j v hv => by rw [addr_add]; exact hc j v hv)]
  | false =>
    have hl1 := (teOk_look h hx).one ha
    rw [hl1] at hl
    match us, hl with
    | [u], _ =>
      have := hc 0 u rfl
      simp only [Nat.add_zero] at this
      simp [Instr.sureAddr, isAgg_of h hx, ha, this]

theorem RHs_drop {g : Ga} {im : Im} {w : World} : ∀ (xs : List HV) (vs : List Value) (f : List Nat) (k : Nat), RHs g im w xs vs f → ∃ f', RHs g im w (xs.drop k) (vs.drop k) f'
  | xs, vs, f, 0, h => ⟨f, by simpa using h⟩
  | [], vs, f, k + 1, h => by obtain ⟨rfl, rfl⟩ := h; exact ⟨[], by simp [RHs]⟩
  | x :: xs, vs, f, k + 1, h => by
    obtain ⟨v, vs', f1, f2, rfl, rfl, _, h2⟩ := h
    simpa using RHs_drop xs vs' f2 k h2
theorem RH_free {g : Ga} {im : Im} {w : World} {x : HV} {v : Value} {f : List Nat} (h : RH g im w x v f) (hf : x.free = true) : RH g im w x v [] := by
  cases x with
  | c x => cases x <;> simp_all [RH, R, HV.free]
  | _ => obtain ⟨_, h⟩ := h; exact ⟨rfl, h⟩
theorem RHs_free {g : Ga} {im : Im} {w : World} : ∀ (xs : List HV) (vs : List Value) (f : List Nat), RHs g im w xs vs f → xs.all HV.free = true → RHs g im w xs vs []
  | [], vs, f, h, _ => ⟨h.1, rfl⟩
  | x :: xs, vs, f, h, hf => by
    obtain ⟨v, vs', f1, f2, rfl, rfl, h1, h2⟩ := h
    simp only [List.all_cons, Bool.and_eq_true] at hf
    exact ⟨v, vs', [], [], rfl, rfl, RH_free h1 hf.1, RHs_free xs vs' f2 h2 hf.2⟩
theorem RHs_take {g : Ga} {im : Im} {w : World} : ∀ (xs : List HV) (vs : List Value) (f : List Nat) (k : Nat), RHs g im w xs vs f → ∃ f', RHs g im w (xs.take k) (vs.take k) f'
  | xs, vs, f, 0, h => ⟨[], by simp [RHs]⟩
  | [], vs, f, k + 1, h => by obtain ⟨rfl, rfl⟩ := h; exact ⟨[], by simp [RHs]⟩
  | x :: xs, vs, f, k + 1, h => by
    obtain ⟨v, vs', f1, f2, rfl, rfl, h1, h2⟩ := h
    obtain ⟨f', h3⟩ := RHs_take xs vs' f2 k h2
    exact ⟨f1 ++ f', v, vs'.take k, f1, f', by simp, rfl, h1, h3⟩
theorem RHs_length {g : Ga} {im : Im} {w : World} : ∀ (xs : List HV) (vs : List Value) (f : List Nat), RHs g im w xs vs f → vs.length = xs.length
  | [], vs, f, h => by obtain ⟨rfl, rfl⟩ := h; rfl
  | x :: xs, vs, f, h => by
    obtain ⟨v, vs', f1, f2, rfl, rfl, h1, h2⟩ := h
    simp [RHs_length xs vs' f2 h2]
/-- What a load of these cells hands back. -/
theorem loadH_RA {g : Ga} {im : Im} {w : World} {inf : TInf} (h1 : inf.d.isAgg = false → inf.sz = 1) {cs : List HV} {vs : List Value} {f : List Nat} {x : AV} (h : loadH inf cs = some x) (hr : RHs g im w cs vs f) :
    (vs.take inf.sz).length = inf.sz ∧ RA g im w x (if inf.d.isAgg then .agg (vs.take inf.sz).toArray else (vs.take inf.sz).getD 0 undef) [] := by
  unfold loadH at h
  have hlen := RHs_length _ _ _ hr
  cases ha : inf.d.isAgg with
  | true =>
    rw [ha] at h
    cases hb : (Nat.beq (cs.take inf.sz).length inf.sz && (cs.take inf.sz).all HV.free) with
    | false => rw [hb] at h; simp at h
    | true =>
      rw [hb] at h
      simp only [cond_true, Option.some.injEq] at h
      subst h
      simp only [Bool.and_eq_true] at hb
      have hl : (cs.take inf.sz).length = inf.sz := Nat.eq_of_beq_eq_true hb.1
      obtain ⟨f', hr'⟩ := RHs_take cs vs f inf.sz hr
      have hl' := RHs_length _ _ _ hr'
      refine ⟨by omega, ?_⟩
      simp only [if_true, RA]
      exact ⟨_, rfl, RHs_free _ _ _ hr' hb.2⟩
  | false =>
    rw [ha] at h
    simp only [cond_false] at h
    have hs := h1 ha
    split at h
    · rename_i y ys
      obtain ⟨v, vs', f1, f2, rfl, rfl, h2, _⟩ := hr
      cases hy : y.free with
      | false => rw [hy] at h; simp at h
      | true =>
        rw [hy] at h
        simp only [cond_true, Option.some.injEq] at h
        subst h
        rw [hs]
        exact ⟨by simp, by simpa [RA] using RH_free h2 hy⟩
    · cases h
/-- Cells that are only read, as handles. -/
theorem RL_RHs {g : Ga} {im : Im} {w : World} {b : Nat} : ∀ (xs : List CV) (o : Nat) (f : List Nat), RL im w b xs o f → ∃ us, RHs g im w (xs.map HV.c) us f ∧ ∀ j u, us[j]? = some u → w.cell? ⟨b, o + j, none⟩ = some u
  | [], o, f, h => ⟨[], by simp only [RL] at h; subst h; simp [RHs], by simp⟩
  | x :: xs, o, f, h => by
    simp only [RL] at h
    obtain ⟨u, f1, f2, rfl, h4, h5, h6⟩ := h
    obtain ⟨us, h1, h2⟩ := RL_RHs (g := g) xs (o + 1) f2 h6
    refine ⟨u :: us, ⟨u, us, f1, f2, rfl, rfl, h5, h1⟩, ?_⟩
    intro j v hj
    cases j with
    | zero => simp at hj; subst hj; exact h4
    | succ j => have := h2 j v (by simpa using hj); simpa [Nat.add_assoc, Nat.add_comm 1] using this

theorem look_HR {g : Ga} {im : Im} {w : World} {hp : List (Nat × Ob)} {fps : List Nat} (h : HR g im w hp fps) {id : Nat} {o : Ob} (hl : look id hp = some o) :
    ∃ bi f1 f2 f3, g id = some bi ∧ fps = f1 ++ (f2 ++ f3) ∧ RO g im w bi o f2 := by
  obtain ⟨l1, l2, rfl, _⟩ := look_split hl
  obtain ⟨f1, f2, rfl, _, h2⟩ := (HR_append _ _ _).1 h
  obtain ⟨bi, f3, f4, h3, rfl, h5, h6⟩ := h2
  exact ⟨bi, f1, f3, f4, h3, rfl, h5⟩

theorem struct_of {P : Program} {te : TE} (h : teOk P te = true) {t j d : Nat} (hx : nthFld te t j = some d) (w : World) (b o : Nat) : (Instr.fieldAt t (.pointer (some ⟨b, o, none⟩)) j).run P w = .ok (.pointer (some ⟨b, o + d, none⟩)) w := by
  unfold nthFld at hx
  split at hx
  · rename_i fs sz by' zs hl
    have hu := (teOk_look h hl).und
    cases hp : P.underlying t with
    | none => simp [TI.is, hp] at hu
    | some de =>
      cases de <;> simp [TI.is, hp] at hu
      rename_i fields
      obtain ⟨hu1, hu2⟩ := hu
      subst hu1
      simp only [List.getElem?_map, Option.map_map, Option.map_eq_some_iff, Array.getElem?_toList] at hx
      obtain ⟨f, hf, hd⟩ := hx
      obtain ⟨hj, hf'⟩ := Array.getElem?_eq_some_iff.1 hf
      have := hu2 j hj
      rw [hf'] at this
      split at this
      · rename_i i hi
        have hne : i.size ≠ 0 := by simpa using this
        simp only [Function.comp] at hd
        unfold Instr.fieldAt
        simp [run_underlying hp, hf, Instr.sureAddr, fieldPlace, sizeOf, typeInfo, hi, hne, addr_add, hd]
      · cases this
  · cases hx
theorem cmpI_run {P : Program} {op : BinOp} {a b : Int} {r : Bool} (h : cmpI op a b = some r) (t : TypeId) (x y : Operand) (w : World) :
    (do eqGuard op t x y (.int .i64 a) (.int .i64 b); binOp op t (.int .i64 a) (.int .i64 b) : Sem Value).run P w = .ok (.bool r) w := by
  cases op <;> simp [cmpI] at h <;> subst h <;> simp [eqGuard, binOp, Op.intCmp]
theorem cmpB_run {P : Program} {op : BinOp} {a b : Bool} {r : Bool} (h : cmpB op a b = some r) (t : TypeId) (ht : P.underlying t = some .bool) (x y : Operand) (w : World) :
    (do eqGuard op t x y (.bool a) (.bool b); binOp op t (.bool a) (.bool b) : Sem Value).run P w = .ok (.bool r) w := by
  cases op <;> simp only [cmpB, reduceCtorEq, Option.some.injEq] at h
  · subst h; simp [eqGuard, run_eql_bool w t a b ht]
  · subst h; simp [eqGuard, run_neq_bool w t a b ht]
theorem lenOf_run {P : Program} {te : TE} (hte : teOk P te = true) {t e sz b' : Nat} {zs : List CV} (ht : look t te = some ⟨.slice e, sz, b', zs⟩) {g : Ga} {im : Im} {w : World} {y : HV} {n : Nat} (hy : lenOfH y = some n) {v : Value} {f : List Nat} (hv : RH g im w y v f) (ty : TypeId) (w' : World) :
    (Builtin.len_ #[t] ty #[v]).run P w' = .ok (.int .i64 n) w' := by
  have hu := und_of hte ht
  cases hp : P.underlying t with
  | none => simp [TI.is, hp] at hu
  | some de =>
    cases de <;> simp [TI.is, hp] at hu
    subst hu
    have key : ∀ A m c, m = n → (Builtin.len_ #[t] ty #[.slice A m c]).run P w' = .ok (.int .i64 n) w' := by
      rintro A m c rfl
      simp [Builtin.len_, run_underlying hp, goInt]
    unfold lenOfH at hy
    split at hy
    · injection hy with hy; subst hy
      simp only [RH, R] at hv
      obtain ⟨_, A, c, rfl, _⟩ := hv
      exact key _ _ _ rfl
    · injection hy with hy; subst hy
      obtain ⟨_, bi, _, _, _, rfl⟩ := hv
      exact key _ _ _ rfl
    · injection hy with hy; subst hy
      obtain ⟨_, bi, A, c, _, rfl, _⟩ := hv
      exact key _ _ _ rfl
    · injection hy with hy; subst hy
      simp only [RH, R] at hv
      rw [hv.1]
      exact key _ _ _ rfl
    · cases hy

theorem ps_of_aev {E : Env} {te : TE} (hte : teOk E.P te = true) {os : Option (List Nat)} {fl : Bool} {s : AS} {op : Op} {x : AV} (h : aev te os fl s op = some x) : PS E os fl s op x := by
  intro g im a w M n0 ⟨fps, hs⟩ hI
  unfold aev at h
  split at h
  · -- move
    refine ⟨_, hs.eval h, fun w' _ o ho => by simp [execOp, ho]⟩
  · refine ⟨_, hs.eval h, fun w' _ o ho => by simp [execOp, ho]⟩
  · -- pick
    split at h
    · rename_i hc
      have e := RA_bool (hs.eval hc)
      exact ⟨_, hs.eval h, fun w' _ o ho => by simp [execOp, ho, e, asBool]⟩
    · rename_i hc
      have e := RA_bool (hs.eval hc)
      exact ⟨_, hs.eval h, fun w' _ o ho => by simp [execOp, ho, e, asBool]⟩
    · cases h
  · -- binOp
    split at h
    · rename_i ha hb
      have e1 := RA_int (hs.eval ha)
      have e2 := RA_int (hs.eval hb)
      simp only [Option.map_eq_some_iff] at h
      obtain ⟨r, hr, rfl⟩ := h
      refine ⟨_, RA_mkBool r, fun w' _ o ho => ?_⟩
      have := cmpI_run (P := E.P) hr (w := w')
      simp only [execOp, ho, e1, e2, Sem.run_bind, this, Result.andThen_ok, Sem.run_pure]
    · rename_i ha hb
      have e1 := RA_bool (hs.eval ha)
      have e2 := RA_bool (hs.eval hb)
      split at h
      · rename_i hl
        simp only [Option.map_eq_some_iff] at h
        obtain ⟨r, hr, rfl⟩ := h
        have hu := und_of hte hl
        refine ⟨_, RA_mkBool r, fun w' _ o ho => ?_⟩
        have hp : ∀ d : Option TypeDesc, TI.is E.P .bool d = true → d = some .bool := fun d hd => by
          cases d with
          | none => simp [TI.is] at hd
          | some d => cases d <;> simp [TI.is] at hd ⊢
        have := cmpB_run (P := E.P) hr (w := w') _ (hp _ hu)
        simp only [execOp, ho, e1, e2, Sem.run_bind, this, Result.andThen_ok, Sem.run_pure]
      · cases h
    · cases h
  · -- not
    split at h
    · rename_i hb
      have e := RA_bool (hs.eval hb)
      injection h with h; subst h
      exact ⟨_, RA_mkBool _, fun w' _ o ho => by simp [execOp, ho, e, Op.unary]⟩
    · cases h
  · -- fieldAddr
    split at h
    · rename_i hx hd
      injection h with h; subst h
      have hv := hs.eval hx
      simp only [RA, RH] at hv
      obtain ⟨_, bi, b, hg, hb, e⟩ := hv
      refine ⟨_, ⟨rfl, bi, b, hg, hb, rfl⟩, fun w' _ o ho => ?_⟩
      simp only [execOp, ho, e, Sem.run_bind, struct_of hte hd, Result.andThen_ok, Sem.run_pure]
    · rename_i tg xs d hx hd
      injection h with h; subst h
      have hv := hs.eval hx
      simp only [RA, RH] at hv
      obtain ⟨_, b, o', e, him, hr⟩ := hv
      obtain ⟨f', hf', hr'⟩ := RL_drop _ d _ _ hr
      refine ⟨_, ⟨rfl, b, _, rfl, him, RL_nofp hr' hf'⟩, fun w' _ o ho => ?_⟩
      simp only [execOp, ho, e, Sem.run_bind, struct_of hte hd, Result.andThen_ok, Sem.run_pure]
    · cases h
  · -- load
    split at h
    · rename_i t x0 id o inf hx hl
      split at h
      · rename_i ty cs hb
        cases hc : okid os id with
        | false => rw [hc] at h; simp at h
        | true =>
          rw [hc] at h
          simp only [cond_true] at h
          have hv := hs.eval hx
          simp only [RA, RH] at hv
          obtain ⟨_, bi, b, hg, hba, e⟩ := hv
          obtain ⟨bi', f1, f2, f3, hg', hf, hro⟩ := look_HR hs.hp hb
          obtain rfl : bi = bi' := by rw [hg] at hg'; exact Option.some.inj hg'
          obtain ⟨b', vs, f, hb', hf2, hh, hr⟩ := hro
          obtain rfl : b = b' := by rw [hba] at hb'; exact Option.some.inj hb'
          obtain ⟨f', hr'⟩ := RHs_drop cs vs f o hr
          obtain ⟨h1, h2⟩ := loadH_RA (teOk_look hte hl).one h hr'
          refine ⟨_, h2, fun w' hw' o' ho => ?_⟩
          have hsame := hw' b (hI.old id hc bi b hg hba).1 (hI.old id hc bi b hg hba).2
          have hrun := run_load_cells (P := E.P) hte hl w' b o ((vs.drop o).take inf.sz) h1 (fun j u hu => by
            rw [cell_of_same hsame, cell_of_row w b (o + j) vs.toArray ty (0, 0) hh]
            rw [List.getElem?_take] at hu
            split at hu
            · rw [List.getElem?_drop] at hu
              simpa using hu
            · cases hu)
          simp only [execOp, ho, e, Sem.run_bind, hrun, Result.andThen_ok, Sem.run_pure]
      · cases h
    · rename_i t x0 tg xs inf hx hl
      cases hfl : (fl || !(Nat.beq tg 0)) with
      | false => rw [hfl] at h; simp at h
      | true =>
        rw [hfl] at h
        simp only [cond_true] at h
        have hfl' : fl = true ∨ tg ≠ 0 := by
          simp only [Bool.or_eq_true, Bool.not_eq_true'] at hfl
          rcases hfl with h | h
          · exact .inl h
          · right; rintro rfl; cases h
        have hv := hs.eval hx
        simp only [RA, RH] at hv
        obtain ⟨_, b, o, e, him, hr⟩ := hv
        obtain ⟨f1, hf1, hr1⟩ := RL_take xs inf.sz o [] hr
        obtain ⟨us, hus, hcell⟩ := RL_RHs (g := g) _ _ _ hr1
        obtain ⟨h1, h2⟩ := loadH_RA (teOk_look hte hl).one h hus
        refine ⟨_, h2, fun w' hw' o' ho => ?_⟩
        have hsame := hw' b (hI.imo tg b hfl' him) (hI.imM tg b him)
        have hrun := run_load_cells (P := E.P) hte hl w' b o (us.take inf.sz) h1 (fun j u hu => by
          rw [cell_of_same hsame]
          rw [List.getElem?_take] at hu
          split at hu
          · exact hcell j u hu
          · cases hu)
        simp only [execOp, ho, e, Sem.run_bind, hrun, Result.andThen_ok, Sem.run_pure]
    · cases h
  · -- extract
    split at h
    · rename_i hx
      have hv := hs.eval hx
      simp only [RA] at hv
      obtain ⟨vs, e, hr⟩ := hv
      have key : ∀ (xs : List AV) (vs : List Value) (i : Nat) (y : AV), xs[i]? = some y → RAs g im w xs vs [] → ∃ v, vs[i]? = some v ∧ RA g im w y v [] := by
        intro xs
        induction xs with
        | nil => intro vs i y hi _; simp at hi
        | cons z zs ih =>
          intro vs i y hi hr
          simp only [RAs] at hr
          obtain ⟨v, vs', f1, f2, rfl, hf, h1, h2⟩ := hr
          obtain ⟨rfl, rfl⟩ := List.append_eq_nil_iff.1 hf.symm
          cases i with
          | zero => simp at hi; subst hi; exact ⟨v, rfl, h1⟩
          | succ i => simpa using ih vs' i y (by simpa using hi) h2
      obtain ⟨v, hvi, hv⟩ := key _ _ _ _ h hr
      exact ⟨v, hv, fun w' _ o ho => by simp [execOp, ho, e, Instr.extract, hvi]⟩
    · cases h
  · -- nilCheck
    split at h
    · rename_i hx
      injection h with h; subst h
      have hv := hs.eval hx
      have hv' := hv
      simp only [RA, RH] at hv
      obtain ⟨_, bi, b, hg, hb, e⟩ := hv
      exact ⟨_, hv', fun w' _ o ho => by simp [execOp, ho, e]⟩
    · rename_i hx
      injection h with h; subst h
      have hv := hs.eval hx
      have hv' := hv
      simp only [RA, RH] at hv
      obtain ⟨_, b, o', e, him, hr⟩ := hv
      exact ⟨_, hv', fun w' _ o ho => by simp [execOp, ho, e]⟩
    · cases h
  · -- len
    split at h
    · rename_i hc
      split at h
      · rename_i hargs htys
        split at h
        · rename_i hx hl
          simp only [Option.map_eq_some_iff] at h
          obtain ⟨n, hn, rfl⟩ := h
          have hv := hs.eval hx
          simp only [RA] at hv
          refine ⟨_, RA_mkInt _ _, fun w' _ o ho => ?_⟩
          have := lenOf_run (P := E.P) hte hl hn hv o.type w'
          have ha : ∀ {α : Type} {l : Array α} {l' : List α}, l.toList = l' → l = l'.toArray := fun h => by rw [← h]
          simp only [execOp, ho, resolve, hc, ha hargs, ha htys, invoke, builtin, Sem.run_bind, Sem.run_pure, Result.andThen_ok, List.map_toArray, List.map_cons, List.map_nil, this]
        · cases h
      · cases h
    · cases h
  · cases h
end Go.Proofs.Ytjijkdhjfanpaaa
