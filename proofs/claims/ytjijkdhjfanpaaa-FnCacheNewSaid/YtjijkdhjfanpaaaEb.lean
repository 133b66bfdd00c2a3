/- The engine, part b: handles, objects, the abstract state, and what it means that a frame and a world are described by one. -/
import Derived.Test.YtjijkdhjfanpaaaEa
namespace Go.Proofs.Ytjijkdhjfanpaaa
open Go.RowKit

/-! ### association lists -/
def look {α : Type} (t : Nat) : List (Nat × α) → Option α
  | [] => none
  | (s, x) :: r => bif Nat.beq t s then some x else look t r
def upd {α : Type} (t : Nat) (y : α) : List (Nat × α) → List (Nat × α)
  | [] => []
  | (s, x) :: r => bif Nat.beq t s then (s, y) :: r else (s, x) :: upd t y r
def del {α : Type} (t : Nat) : List (Nat × α) → List (Nat × α)
  | [] => []
  | (s, x) :: r => bif Nat.beq t s then r else (s, x) :: del t r
theorem look_split {α : Type} {t : Nat} {x : α} : ∀ {l : List (Nat × α)}, look t l = some x → ∃ l1 l2, l = l1 ++ (t, x) :: l2 ∧ (∀ y, upd t y l = l1 ++ (t, y) :: l2) ∧ del t l = l1 ++ l2
  | [], h => by simp [look] at h
  | (s, z) :: r, h => by
    simp only [look] at h
    cases hs : Nat.beq t s with
    | true =>
      have : t = s := Nat.eq_of_beq_eq_true hs
      subst this
      rw [hs] at h
      simp at h
      subst h
      exact ⟨[], r, rfl, fun y => by simp [upd], by simp [del]⟩
    | false =>
      rw [hs] at h
      obtain ⟨l1, l2, h1, h2, h3⟩ := look_split (l := r) (by simpa using h)
      exact ⟨(s, z) :: l1, l2, by simp [h1], fun y => by simp [upd, hs, h2], by simp [del, hs, h3]⟩
theorem look_cons_eq {α : Type} (t : Nat) (x : α) (l : List (Nat × α)) : look t ((t, x) :: l) = some x := by
  simp [look]
theorem look_cons_ne {α : Type} {t s : Nat} (h : t ≠ s) (x : α) (l : List (Nat × α)) : look t ((s, x) :: l) = look t l := by
  have : Nat.beq t s = false := by
    cases hb : Nat.beq t s with
    | false => rfl
    | true => exact absurd (Nat.eq_of_beq_eq_true hb) h
  simp [look, this]

/-! ### types -/
inductive TI where
  | int (k : IntKind)
  | bool
  | slice (e : Nat)
  | struct (fs : List (Nat × Nat))
  | array (n e : Nat)
structure TInf where
  d : TI
  sz : Nat
  by' : Nat
  zs : List CV
def CV.isV : CV → Value → Bool
  | .int k n, .int k' n' => k == k' && n == n'
  | .bool b, .bool b' => b == b'
  | .nil, .slice none 0 0 => true
  | _, _ => false
def CV.areV : List CV → List Value → Bool
  | [], [] => true
  | x :: xs, v :: vs => x.isV v && CV.areV xs vs
  | _, _ => false
def TI.is (P : Program) : TI → Option TypeDesc → Bool
  | .int k, some (.int k') => k == k'
  | .bool, some .bool => true
  | .slice e, some (.slice e') => e == e'
  | .struct fs, some (.struct fs') => fs == fs'.toList.map (fun f => (f.offset, f.type)) && fs'.toList.all (fun f => match P.info? f.type with | some i => i.size != 0 | none => false)
  | .array n e, some (.array n' e') => n == n' && e == e'
  | _, _ => false
def TI.isAgg : TI → Bool
  | .struct _ | .array .. => true
  | _ => false
def TInf.isOk (P : Program) (t : TypeId) (x : TInf) : Bool :=
  match P.info? t with
  | some i => i.size == x.sz && i.bytes == x.by' && (match i.zero with | some z => CV.areV x.zs z.cells.toList && z.cells.size == x.sz | none => false) && x.d.is P (P.underlying t) && (x.d.isAgg || x.sz == 1)
  | none => false
abbrev TE := List (Nat × TInf)
def teOk (P : Program) (te : TE) : Bool := te.all fun p => p.2.isOk P p.1
structure TInf.Ok (P : Program) (t : TypeId) (x : TInf) : Prop where
  info : ∃ i z, P.info? t = some i ∧ i.size = x.sz ∧ i.bytes = x.by' ∧ i.zero = some z ∧ CV.areV x.zs z.cells.toList = true ∧ z.cells.size = x.sz
  und : x.d.is P (P.underlying t) = true
  one : x.d.isAgg = false → x.sz = 1
theorem teOk_look {P : Program} {te : TE} (h : teOk P te = true) {t : Nat} {x : TInf} (hx : look t te = some x) : x.Ok P t := by
  obtain ⟨l1, l2, hl, _⟩ := look_split hx
  have hm : (t, x) ∈ te := by rw [hl]; simp
  have := List.all_eq_true.1 h _ hm
  simp only [TInf.isOk] at this
  split at this
  · rename_i i hi
    simp only [Bool.and_eq_true, beq_iff_eq] at this
    obtain ⟨⟨⟨⟨h1, h2⟩, h3⟩, h4⟩, h5⟩ := this
    split at h3
    · rename_i z hz
      simp only [Bool.and_eq_true, beq_iff_eq] at h3
      exact ⟨⟨i, z, hi, h1, h2, hz, h3.1, h3.2⟩, h4, fun ha => by simpa [ha] using h5⟩
    · cases h3
  · cases this
theorem isV_R {im : Im} {w : World} {x : CV} {v : Value} (h : x.isV v = true) : R im w x v [] := by
  cases x <;> simp only [CV.isV] at h
  case int k n => cases v <;> simp_all [R]
  case bool b => cases v <;> simp_all [R]
  case nil => split at h <;> simp_all [R]
  case rd => cases h
  case ow => cases h
  case fn => cases h

/-- What a cell of a local variable can be: a plain value; a slice that is owned (object, first element, length); the same, place unknown where it is empty; a pointer into an object; a pointer to cells that are only read. -/
inductive HV where
  | c (x : CV)
  | sl (id i n : Nat)
  | sw (id i n : Nat)
  | ptr (id o : Nat)
  | rp (t : Nat) (xs : List CV)
/-- What is known of the block behind an object: its number (nil: none), its capacity in elements, its elements' type, the cells of one. -/
structure BI where
  a : Option Nat
  cap : Nat
  ty : TypeId
  e : Nat
abbrev Ga := Nat → Option BI
inductive AV where
  | h (x : HV)
  | agg (xs : List HV)
  | tup (xs : List AV)
  | top
inductive Ob where
  | arr (ty e : Nat) (xs : List CV)
  | box (ty : Nat) (xs : List HV)
  | hrr (ty e : Nat) (xs : List HV)

def RH (g : Ga) (im : Im) (w : World) : HV → Value → List Nat → Prop
  | .c x, v, fp => R im w x v fp
  | .sl id i n, v, fp => fp = [] ∧ ∃ bi, g id = some bi ∧ i + n ≤ bi.cap ∧ bi.cap ≤ maxLen ∧ v = slv bi.a (i * bi.e) n (bi.cap - i)
  | .sw id i n, v, fp => fp = [] ∧ ∃ bi A c, g id = some bi ∧ v = .slice A n c ∧ n ≤ c ∧ c ≤ maxLen ∧ (n = 0 ∨ ∃ b, bi.a = some b ∧ A = some ⟨b, i * bi.e, none⟩)
  | .ptr id o, v, fp => fp = [] ∧ ∃ bi b, g id = some bi ∧ bi.a = some b ∧ v = .pointer (some ⟨b, o, none⟩)
  | .rp t xs, v, fp => fp = [] ∧ ∃ b o, v = .pointer (some ⟨b, o, none⟩) ∧ im t b ∧ RL im w b xs o []
def RHs (g : Ga) (im : Im) (w : World) : List HV → List Value → List Nat → Prop
  | [], vs, fp => vs = [] ∧ fp = []
  | x :: xs, vs, fp => ∃ v vs' f1 f2, vs = v :: vs' ∧ fp = f1 ++ f2 ∧ RH g im w x v f1 ∧ RHs g im w xs vs' f2
mutual
def RA (g : Ga) (im : Im) (w : World) : AV → Value → List Nat → Prop
  | .h x, v, fp => RH g im w x v fp
  | .agg xs, v, fp => ∃ cs : List Value, v = .agg cs.toArray ∧ RHs g im w xs cs fp
  | .tup xs, v, fp => ∃ vs : List Value, v = .tuple vs.toArray ∧ RAs g im w xs vs fp
  | .top, _, fp => fp = []
def RAs (g : Ga) (im : Im) (w : World) : List AV → List Value → List Nat → Prop
  | [], vs, fp => vs = [] ∧ fp = []
  | x :: xs, vs, fp => ∃ v vs' f1 f2, vs = v :: vs' ∧ fp = f1 ++ f2 ∧ RA g im w x v f1 ∧ RAs g im w xs vs' f2
end
def RO (g : Ga) (im : Im) (w : World) (bi : BI) : Ob → List Nat → Prop
  | .arr ty e xs, fp => bi.ty = ty ∧ bi.e = e ∧ ((bi.a = none ∧ xs = [] ∧ bi.cap = 0 ∧ fp = []) ∨
      ∃ b cur f, bi.a = some b ∧ fp = b :: f ∧ w.heap[b]? = some (.cells cur ty (0, 0)) ∧ cur.size = bi.cap * e ∧ RL im w b xs 0 f)
  | .box ty xs, fp => ∃ b cs f, bi.a = some b ∧ fp = b :: f ∧ w.heap[b]? = some (.cells (List.toArray cs) ty (0, 0)) ∧ RHs g im w xs cs f
  | .hrr ty e xs, fp => bi.ty = ty ∧ bi.e = e ∧ ((bi.a = none ∧ xs = [] ∧ bi.cap = 0 ∧ fp = []) ∨
      ∃ b cur f us, bi.a = some b ∧ fp = b :: f ∧ w.heap[b]? = some (.cells cur ty (0, 0)) ∧ cur.size = bi.cap * e ∧ RHs g im w xs us f ∧ ∀ j u, us[j]? = some u → w.cell? ⟨b, j, none⟩ = some u)
def HR (g : Ga) (im : Im) (w : World) : List (Nat × Ob) → List Nat → Prop
  | [], fp => fp = []
  | (id, o) :: r, fp => ∃ bi f1 f2, g id = some bi ∧ fp = f1 ++ f2 ∧ RO g im w bi o f1 ∧ HR g im w r f2

section mono
variable {g g' : Ga} {im im' : Im} {w w' : World}
theorem RH_mono (hg : ∀ i b, g i = some b → g' i = some b) (hi : ∀ t b, im t b → im' t b ∧ w'.heap[b]? = w.heap[b]?) (x : HV) (v : Value) (fp : List Nat) (hf : ∀ b ∈ fp, w'.heap[b]? = w.heap[b]?) (h : RH g im w x v fp) : RH g' im' w' x v fp := by
  cases x with
  | c x => exact R_mono hi x v fp hf h
  | sl id i n =>
    obtain ⟨h1, bi, h2, h3⟩ := h
    exact ⟨h1, bi, hg _ _ h2, h3⟩
  | sw id i n =>
    obtain ⟨h1, bi, A, c, h2, h3⟩ := h
    exact ⟨h1, bi, A, c, hg _ _ h2, h3⟩
  | ptr id o =>
    obtain ⟨h1, bi, b, h2, h3⟩ := h
    exact ⟨h1, bi, b, hg _ _ h2, h3⟩
  | rp t xs =>
    obtain ⟨h1, b, o, h2, h3, h4⟩ := h
    exact ⟨h1, b, o, h2, (hi t b h3).1, RL_mono hi xs b o [] (hi t b h3).2 (fun _ h => by cases h) h4⟩
theorem RHs_mono (hg : ∀ i b, g i = some b → g' i = some b) (hi : ∀ t b, im t b → im' t b ∧ w'.heap[b]? = w.heap[b]?) : ∀ (xs : List HV) (vs : List Value) (fp : List Nat), (∀ b ∈ fp, w'.heap[b]? = w.heap[b]?) → RHs g im w xs vs fp → RHs g' im' w' xs vs fp
  | [], vs, fp, _, h => h
  | x :: xs, vs, fp, hf, h => by
    obtain ⟨v, vs', f1, f2, rfl, rfl, h1, h2⟩ := h
    exact ⟨v, vs', f1, f2, rfl, rfl, RH_mono hg hi x v f1 (fun b hb => hf b (List.mem_append_left _ hb)) h1, RHs_mono hg hi xs vs' f2 (fun b hb => hf b (List.mem_append_right _ hb)) h2⟩
mutual
theorem RA_mono (hg : ∀ i b, g i = some b → g' i = some b) (hi : ∀ t b, im t b → im' t b ∧ w'.heap[b]? = w.heap[b]?) : ∀ (x : AV) (v : Value) (fp : List Nat), (∀ b ∈ fp, w'.heap[b]? = w.heap[b]?) → RA g im w x v fp → RA g' im' w' x v fp
  | .h x, v, fp, hf, h => by simp only [RA] at h ⊢; exact RH_mono hg hi x v fp hf h
  | .agg xs, v, fp, hf, h => by
    simp only [RA] at h ⊢
    obtain ⟨cs, h1, h2⟩ := h
    exact ⟨cs, h1, RHs_mono hg hi xs cs fp hf h2⟩
  | .tup xs, v, fp, hf, h => by
    simp only [RA] at h ⊢
    obtain ⟨cs, h1, h2⟩ := h
    exact ⟨cs, h1, RAs_mono hg hi xs cs fp hf h2⟩
  | .top, v, fp, hf, h => by simpa only [RA] using h
theorem RAs_mono (hg : ∀ i b, g i = some b → g' i = some b) (hi : ∀ t b, im t b → im' t b ∧ w'.heap[b]? = w.heap[b]?) : ∀ (xs : List AV) (vs : List Value) (fp : List Nat), (∀ b ∈ fp, w'.heap[b]? = w.heap[b]?) → RAs g im w xs vs fp → RAs g' im' w' xs vs fp
  | [], vs, fp, _, h => by simpa only [RAs] using h
  | x :: xs, vs, fp, hf, h => by
    simp only [RAs] at h ⊢
    obtain ⟨v, vs', f1, f2, rfl, rfl, h1, h2⟩ := h
    exact ⟨v, vs', f1, f2, rfl, rfl, RA_mono hg hi x v f1 (fun b hb => hf b (List.mem_append_left _ hb)) h1, RAs_mono hg hi xs vs' f2 (fun b hb => hf b (List.mem_append_right _ hb)) h2⟩
end
theorem RO_mono (hg : ∀ i b, g i = some b → g' i = some b) (hi : ∀ t b, im t b → im' t b ∧ w'.heap[b]? = w.heap[b]?) (bi : BI) (o : Ob) (fp : List Nat) (hf : ∀ b ∈ fp, w'.heap[b]? = w.heap[b]?) (h : RO g im w bi o fp) : RO g' im' w' bi o fp := by
  cases o with
  | arr ty e xs =>
    obtain ⟨h1, h2, h3 | ⟨b, cur, f, h4, rfl, h6, h7, h8⟩⟩ := h
    · exact ⟨h1, h2, .inl h3⟩
    · have hb := hf b List.mem_cons_self
      exact ⟨h1, h2, .inr ⟨b, cur, f, h4, rfl, hb.trans h6, h7, RL_mono hi xs b 0 f hb (fun c hc => hf c (List.mem_cons_of_mem _ hc)) h8⟩⟩
  | box ty xs =>
    obtain ⟨b, cs, f, h4, rfl, h6, h8⟩ := h
    have hb := hf b List.mem_cons_self
    exact ⟨b, cs, f, h4, rfl, hb.trans h6, RHs_mono hg hi xs cs f (fun c hc => hf c (List.mem_cons_of_mem _ hc)) h8⟩
  | hrr ty e xs =>
    obtain ⟨h1, h2, h3 | ⟨b, cur, f, us, h4, rfl, h6, h7, h8, h9⟩⟩ := h
    · exact ⟨h1, h2, .inl h3⟩
    · have hb := hf b List.mem_cons_self
      exact ⟨h1, h2, .inr ⟨b, cur, f, us, h4, rfl, hb.trans h6, h7, RHs_mono hg hi xs us f (fun c hc => hf c (List.mem_cons_of_mem _ hc)) h8, fun j u hj => (cell_of_same hb).trans (h9 j u hj)⟩⟩
theorem HR_mono (hg : ∀ i b, g i = some b → g' i = some b) (hi : ∀ t b, im t b → im' t b ∧ w'.heap[b]? = w.heap[b]?) : ∀ (hp : List (Nat × Ob)) (fp : List Nat), (∀ b ∈ fp, w'.heap[b]? = w.heap[b]?) → HR g im w hp fp → HR g' im' w' hp fp
  | [], fp, _, h => h
  | (id, o) :: r, fp, hf, h => by
    obtain ⟨bi, f1, f2, h1, rfl, h3, h4⟩ := h
    exact ⟨bi, f1, f2, hg _ _ h1, rfl, RO_mono hg hi bi o f1 (fun b hb => hf b (List.mem_append_left _ hb)) h3, HR_mono hg hi r f2 (fun b hb => hf b (List.mem_append_right _ hb)) h4⟩
end mono

theorem HR_append {g : Ga} {im : Im} {w : World} : ∀ (l1 l2 : List (Nat × Ob)) (fp : List Nat), HR g im w (l1 ++ l2) fp ↔ ∃ f1 f2, fp = f1 ++ f2 ∧ HR g im w l1 f1 ∧ HR g im w l2 f2
  | [], l2, fp => ⟨fun h => ⟨[], fp, rfl, rfl, h⟩, fun ⟨f1, f2, h1, h2, h3⟩ => by simp only [HR] at h2; subst h2; simpa [h1] using h3⟩
  | (id, o) :: l1, l2, fp => by
    simp only [List.cons_append, HR]
    constructor
    · rintro ⟨bi, f1, f2, h1, rfl, h3, h4⟩
      obtain ⟨fa, fb, rfl, ha, hb⟩ := (HR_append l1 l2 f2).1 h4
      exact ⟨f1 ++ fa, fb, by simp, ⟨bi, f1, fa, h1, rfl, h3, ha⟩, hb⟩
    · rintro ⟨fa, fb, rfl, ⟨bi, f1, f2, h1, rfl, h3, ha⟩, hb⟩
      exact ⟨bi, f1, f2 ++ fb, h1, by simp, h3, (HR_append l1 l2 (f2 ++ fb)).2 ⟨f2, fb, rfl, ha, hb⟩⟩

/-! ### the abstract state -/
structure AS where
  fr : List (Nat × AV)
  hp : List (Nat × Ob)
  nx : Nat
/-- What surrounds a body: the program, the frame's size, the world in which the call began, the blocks that were handed over to be written. -/
structure Env where
  P : Program
  te : TE
  hte : teOk P te = true
  nt : Nat
  w0 : World
  ps : Nat → Prop
  k : Nat
  g0 : Ga
  im0 : Im
structure Keeps (w0 w : World) (ps : Nat → Prop) : Prop where
  os : w.os = w0.os
  tape : w.tape = w0.tape
  output : w.output = w0.output
  size : w0.heap.size ≤ w.heap.size
  block : ∀ b, b < w0.heap.size → ¬ ps b → w.heap[b]? = w0.heap[b]?
structure SimF (E : Env) (g : Ga) (im : Im) (fps : List Nat) (s : AS) (a : Act) (w : World) : Prop where
  dfr : a.defers = []
  sz : a.tmps.size = E.nt
  fr : ∀ t x, look t s.fr = some x → RA g im w x (a.tmps.getD t undef) []
  hp : HR g im w s.hp fps
  nd : fps.Nodup
  lt : ∀ b ∈ fps, b < w.heap.size
  ni : ∀ b ∈ fps, ∀ t, ¬ im t b
  mine : ∀ b ∈ fps, E.w0.heap.size ≤ b ∨ E.ps b
  gn : ∀ i, s.nx ≤ i → g i = none
  gl : ∀ i bi b, g i = some bi → bi.a = some b → b < w.heap.size
  il : ∀ t b, im t b → b < w.heap.size
  kp : Keeps E.w0 w E.ps
  kn : E.k ≤ s.nx
  g0 : ∀ i, i < E.k → g i = E.g0 i
  i0 : ∀ t b, E.im0 t b → im t b
  i1 : ∀ t b, t < 100 → im t b → E.im0 t b ∨ (t = 0 ∧ E.w0.heap.size ≤ b)
def Sim (E : Env) (g : Ga) (im : Im) (s : AS) (a : Act) (w : World) : Prop := ∃ fps, SimF E g im fps s a w

def AS.put (s : AS) (d : Nat) (x : AV) : AS := { s with fr := (d, x) :: s.fr }
def AS.putd (s : AS) (d : Option Nat) (x : AV) : AS := match d with | some d => s.put d x | none => s

theorem SimF.put {E : Env} {g : Ga} {im : Im} {fps : List Nat} {s : AS} {a : Act} {w : World} (h : SimF E g im fps s a w) {d : Nat} (hd : d < E.nt) {x : AV} {v : Value} (hx : RA g im w x v []) :
    SimF E g im fps (s.put d x) (a.put (some d) v) w := by
  refine ⟨h.dfr, by simp [Act.put, h.sz], ?_, h.hp, h.nd, h.lt, h.ni, h.mine, h.gn, h.gl, h.il, h.kp, h.kn, h.g0, h.i0, h.i1⟩
  intro t y hy
  by_cases ht : t = d
  · subst ht
    simp only [AS.put, look_cons_eq, Option.some.injEq] at hy
    subst hy
    have : (Act.put a (some t) v).tmps.getD t undef = v := by
      simp [Act.put, h.sz, hd]
    rw [this]
    exact hx
  · simp only [AS.put, look_cons_ne ht] at hy
    have : (Act.put a (some d) v).tmps.getD t undef = a.tmps.getD t undef := by
      simp [Act.put, Ne.symm ht]
    rw [this]
    exact h.fr t y hy
theorem SimF.putd {E : Env} {g : Ga} {im : Im} {fps : List Nat} {s : AS} {a : Act} {w : World} (h : SimF E g im fps s a w) {d : Option Nat} (hd : ∀ k, d = some k → k < E.nt) {x : AV} {v : Value} (hx : RA g im w x v []) :
    SimF E g im fps (s.putd d x) (a.put d v) w := by
  cases d with
  | none => exact h
  | some d => exact h.put (hd d rfl) hx
/-- Another world that agrees on all that is described. -/
theorem SimF.world {E : Env} {g : Ga} {im : Im} {fps : List Nat} {s : AS} {a : Act} {w w' : World} (h : SimF E g im fps s a w) (hw : ∀ b, b < w.heap.size → w'.heap[b]? = w.heap[b]?) (hs : w.heap.size ≤ w'.heap.size) (hk : Keeps E.w0 w' E.ps) :
    SimF E g im fps s a w' :=
  have hi : ∀ t b, im t b → im t b ∧ w'.heap[b]? = w.heap[b]? := fun t b hb => ⟨hb, hw b (h.il t b hb)⟩
  ⟨h.dfr, h.sz, fun t x hx => RA_mono (fun _ _ h => h) hi x _ [] (fun _ h => by cases h) (h.fr t x hx), HR_mono (fun _ _ h => h) hi s.hp fps (fun b hb => hw b (h.lt b hb)) h.hp,
    h.nd, fun b hb => Nat.lt_of_lt_of_le (h.lt b hb) hs, h.ni, h.mine, h.gn, fun i bi b h1 h2 => Nat.lt_of_lt_of_le (h.gl i bi b h1 h2) hs, fun t b hb => Nat.lt_of_lt_of_le (h.il t b hb) hs, hk, h.kn, h.g0, h.i0, h.i1⟩
theorem Keeps.trans_same {w0 w w' : World} {ps : Nat → Prop} (h : Keeps w0 w ps) (h1 : w'.os = w.os) (h2 : w'.tape = w.tape) (h3 : w'.output = w.output) (h4 : w.heap.size ≤ w'.heap.size) (h5 : ∀ b, b < w.heap.size → (w0.heap.size ≤ b ∨ ps b) ∨ w'.heap[b]? = w.heap[b]?) : Keeps w0 w' ps :=
  ⟨h1.trans h.os, h2.trans h.tape, h3.trans h.output, Nat.le_trans h.size h4, fun b hb hp => by
    rcases h5 b (Nat.lt_of_lt_of_le hb h.size) with (h6 | h6) | h6
    · omega
    · exact absurd h6 hp
    · exact h6.trans (h.block b hb hp)⟩
end Go.Proofs.Ytjijkdhjfanpaaa
